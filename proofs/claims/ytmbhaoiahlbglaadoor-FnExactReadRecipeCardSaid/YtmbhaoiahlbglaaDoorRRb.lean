/- Walks: a text cut at a byte . -/
import Derived.Test.YtmbhaoiahlbglaaDoorRRa
namespace Go.Proofs.YtmbhaoiahlbglaaDoor
open Go.RowKit
set_option linter.unusedVariables false
set_option linter.unusedSimpArgs false

instance : SliceT Tryd.prog 34 9 := ⟨Tryd.underlying34⟩
instance : ElT Tryd.prog 9 1 16 (.string ByteArray.empty) := ⟨by kernel_rfl, by kernel_rfl, by decide⟩
/-- The pieces behind k bytes, and where the next one starts. -/
def spSt (s : ByteArray) (c : UInt8) : Nat → List ByteArray × Nat
  | 0 => ([], 0)
  | k + 1 => if bt s.data.toList k = c then ((spSt s c k).1 ++ [s.extract (spSt s c k).2 k], k + 1) else spSt s c k
theorem spSt_le (s : ByteArray) (c : UInt8) : ∀ k, (spSt s c k).2 ≤ k ∧ (spSt s c k).1.length ≤ k
  | 0 => ⟨Nat.le_refl _, Nat.le_refl _⟩
  | k + 1 => by
    have := spSt_le s c k
    unfold spSt
    split
    · exact ⟨Nat.le_refl _, by simp; omega⟩
    · omega
/-- All the pieces. -/
def spL (s : ByteArray) (c : UInt8) : List ByteArray := (spSt s c s.size).1 ++ [s.extract (spSt s c s.size).2 s.size]
def stL (xs : List ByteArray) : List Value := xs.map Value.string
theorem stL_one (xs : List ByteArray) : ∀ u ∈ stL xs, u.oneCell' = true := by
  intro u hu
  simp only [stL, List.mem_map] at hu
  obtain ⟨x, -, rfl⟩ := hu
  rfl

set_option maxHeartbeats 2000000 in
set_option maxRecDepth 100000 in
theorem l01Split_c (s : ByteArray) (c : UInt8) (hs : s.size ≤ 1048576) (w : World) : Ret Tryd.prog 14 #[.string s, .int .u8 (c.toNat : Int)] w fun r w' => OwnR w w' 9 1 r (spL s c).length (stL (spL s c)) := by
  refine ret_start fun wx M => ?_
  go_enter Tryd.func14, Tryd.ntmps14
  go_wp2_with (first
    | (with_reducible (show wpList _ _ _ (Oper.mk (some 8) (.buildSlice _ _ _) _ _ _ _ :: _) _ _); refine m_lit0 M rfl rfl ?_; clear M; (try clear wx); intro g8 wx M)
    | (with_reducible (show wpList _ _ _ (Oper.mk (some 25) (.buildSlice _ _ _) _ _ _ _ :: _) _ _); (first | (refine m_lit1A M rfl rfl rfl (by first | rfl | assumption | (simp; done) | (simp; omega)) (by decide) ?_) | (refine m_lit11 (v := Value.int _ _) M rfl rfl rfl rfl ?_) | (refine m_lit11 (v := Value.slice _ _ _) M rfl rfl rfl rfl ?_) | (refine m_lit11 (v := Value.bool _) M rfl rfl rfl rfl ?_) | (refine m_lit11 (v := Value.string _) M rfl rfl rfl rfl ?_) | (refine m_lit11 (v := Value.pointer _) M rfl rfl rfl rfl ?_)); clear M; (try clear wx); intro g25 wx M)
    | (with_reducible (show wpList _ _ _ (Oper.mk (some 33) (.buildSlice _ _ _) _ _ _ _ :: _) _ _); (first | (refine m_lit1A M rfl rfl rfl (by first | rfl | assumption | (simp; done) | (simp; omega)) (by decide) ?_) | (refine m_lit11 (v := Value.int _ _) M rfl rfl rfl rfl ?_) | (refine m_lit11 (v := Value.slice _ _ _) M rfl rfl rfl rfl ?_) | (refine m_lit11 (v := Value.bool _) M rfl rfl rfl rfl ?_) | (refine m_lit11 (v := Value.string _) M rfl rfl rfl rfl ?_) | (refine m_lit11 (v := Value.pointer _) M rfl rfl rfl rfl ?_)); clear M; (try clear wx); intro g33 wx M)
    | (with_reducible (show wpList _ _ _ (Oper.mk _ (.call (Call.mk (.builtin .append) _ _)) _ _ _ _ :: _) _ _); (first | (refine m_append1 M rfl rfl rfl (by first | rfl | omega | (simp; done)) rfl (by first | rfl | assumption | (simp; done) | (simp; omega)) (by first | exact bA_one _ | exact wA_one _ | assumption | (simp [Value.oneCell']; done)) (by first | assumption | (simp only [maxLen]; omega)) (by omega) ?_)); clear M; (try clear wx); intro _ _ wx M; simp only [List.set_cons_zero, List.set_cons_succ, Nat.zero_add, List.nil_append] at M))
  go_loopg [5, 6, 7] s.size (fun q x y i wr => ∃ (k : Nat) (b : Option Addr) (cap : Nat), k + q = s.size ∧ x = .slice b (spSt s c k).1.length cap ∧ y = .int .i64 ((spSt s c k).2 : Int) ∧ i = .int .i64 (k : Int) ∧ Mem w wr [.own b cap 9 1 (spSt s c k).1.length (stL (spSt s c k).1)])
  case atStart => exact ⟨0, _, _, by omega, rfl, rfl, rfl, M⟩
  case round =>
    obtain ⟨k, b, cap, hk, rfl, rfl, rfl, M⟩ := hrel
    have hle := spSt_le s c k
    by_cases hlt : k < s.size
    · have ix := fun w => str_ix s k k rfl hlt w
      have hb1 := byte_bd (bt s.data.toList k)
      have HK := Lib.hid hk
      by_cases hc : bt s.data.toList k = c
      · have HS := Lib.hid (show spSt s c (k + 1) = ((spSt s c k).1 ++ [s.extract (spSt s c k).2 k], k + 1) by rw [spSt, if_pos hc])
        have g1 : (((bt s.data.toList k).toNat : Int) == (c.toNat : Int)) = true := by rw [hc]; simp
        clear hc hk
        generalize (spSt s c k).1 = xs at *
        generalize (spSt s c k).2 = y at *
        generalize bt s.data.toList k = d at *
        go_wp2_with (first
          | rw [ix]
          | (with_reducible (show wpList _ _ _ (Oper.mk (some 8) (.buildSlice _ _ _) _ _ _ _ :: _) _ _); refine m_lit0 M rfl rfl ?_; clear M; (try clear wx); intro g8 wx M)
          | (with_reducible (show wpList _ _ _ (Oper.mk (some 25) (.buildSlice _ _ _) _ _ _ _ :: _) _ _); (first | (refine m_lit1A M rfl rfl rfl (by first | rfl | assumption | (simp; done) | (simp; omega)) (by decide) ?_) | (refine m_lit11 (v := Value.int _ _) M rfl rfl rfl rfl ?_) | (refine m_lit11 (v := Value.slice _ _ _) M rfl rfl rfl rfl ?_) | (refine m_lit11 (v := Value.bool _) M rfl rfl rfl rfl ?_) | (refine m_lit11 (v := Value.string _) M rfl rfl rfl rfl ?_) | (refine m_lit11 (v := Value.pointer _) M rfl rfl rfl rfl ?_)); clear M; (try clear wx); intro g25 wx M)
          | (with_reducible (show wpList _ _ _ (Oper.mk (some 33) (.buildSlice _ _ _) _ _ _ _ :: _) _ _); (first | (refine m_lit1A M rfl rfl rfl (by first | rfl | assumption | (simp; done) | (simp; omega)) (by decide) ?_) | (refine m_lit11 (v := Value.int _ _) M rfl rfl rfl rfl ?_) | (refine m_lit11 (v := Value.slice _ _ _) M rfl rfl rfl rfl ?_) | (refine m_lit11 (v := Value.bool _) M rfl rfl rfl rfl ?_) | (refine m_lit11 (v := Value.string _) M rfl rfl rfl rfl ?_) | (refine m_lit11 (v := Value.pointer _) M rfl rfl rfl rfl ?_)); clear M; (try clear wx); intro g33 wx M)
          | (with_reducible (show wpList _ _ _ (Oper.mk _ (.call (Call.mk (.builtin .append) _ _)) _ _ _ _ :: _) _ _); (first | (refine m_append1 M rfl rfl rfl (by first | rfl | omega | (simp; done)) rfl (by first | rfl | assumption | (simp; done) | (simp; omega)) (by simp [Value.oneCell']) (by first | assumption | (simp only [maxLen]; omega)) (by omega) ?_)); clear M; (try clear wx); intro _ _ wx M; simp only [List.set_cons_zero, List.set_cons_succ, Nat.zero_add, List.nil_append] at M))
        have hk := HK.out
        go_roundg (gk - 1)
        case measure => omega
        case rel => exact ⟨k + 1, _, _, by omega, by rw [HS.out, List.length_append]; rfl, by rw [HS.out]; first | rfl | (simp; done) | (refine congrArg (Value.int .i64) ?_; omega), by go_num, by rw [HS.out, List.length_append, show stL (xs ++ [s.extract y k]) = stL xs ++ [Value.string (s.extract y k)] by simp [stL]]; exact M⟩
      · have HS := Lib.hid (show spSt s c (k + 1) = spSt s c k by rw [spSt, if_neg hc])
        have g1 : (((bt s.data.toList k).toNat : Int) == (c.toNat : Int)) = false := by
          rw [beq_eq_false_iff_ne]
          intro e
          exact hc (UInt8.toNat_inj.1 (by omega))
        clear hc hk
        generalize bt s.data.toList k = d at *
        go_wp2_with (first
          | rw [ix]
          | (with_reducible (show wpList _ _ _ (Oper.mk (some 8) (.buildSlice _ _ _) _ _ _ _ :: _) _ _); refine m_lit0 M rfl rfl ?_; clear M; (try clear wx); intro g8 wx M)
          | (with_reducible (show wpList _ _ _ (Oper.mk (some 25) (.buildSlice _ _ _) _ _ _ _ :: _) _ _); (first | (refine m_lit1A M rfl rfl rfl (by first | rfl | assumption | (simp; done) | (simp; omega)) (by decide) ?_) | (refine m_lit11 (v := Value.int _ _) M rfl rfl rfl rfl ?_) | (refine m_lit11 (v := Value.slice _ _ _) M rfl rfl rfl rfl ?_) | (refine m_lit11 (v := Value.bool _) M rfl rfl rfl rfl ?_) | (refine m_lit11 (v := Value.string _) M rfl rfl rfl rfl ?_) | (refine m_lit11 (v := Value.pointer _) M rfl rfl rfl rfl ?_)); clear M; (try clear wx); intro g25 wx M)
          | (with_reducible (show wpList _ _ _ (Oper.mk (some 33) (.buildSlice _ _ _) _ _ _ _ :: _) _ _); (first | (refine m_lit1A M rfl rfl rfl (by first | rfl | assumption | (simp; done) | (simp; omega)) (by decide) ?_) | (refine m_lit11 (v := Value.int _ _) M rfl rfl rfl rfl ?_) | (refine m_lit11 (v := Value.slice _ _ _) M rfl rfl rfl rfl ?_) | (refine m_lit11 (v := Value.bool _) M rfl rfl rfl rfl ?_) | (refine m_lit11 (v := Value.string _) M rfl rfl rfl rfl ?_) | (refine m_lit11 (v := Value.pointer _) M rfl rfl rfl rfl ?_)); clear M; (try clear wx); intro g33 wx M)
          | (with_reducible (show wpList _ _ _ (Oper.mk _ (.call (Call.mk (.builtin .append) _ _)) _ _ _ _ :: _) _ _); (first | (refine m_append1 M rfl rfl rfl (by first | rfl | omega | (simp; done)) rfl (by first | rfl | assumption | (simp; done) | (simp; omega)) (by first | exact bA_one _ | exact wA_one _ | assumption | (simp [Value.oneCell']; done)) (by first | assumption | (simp only [maxLen]; omega)) (by omega) ?_)); clear M; (try clear wx); intro _ _ wx M; simp only [List.set_cons_zero, List.set_cons_succ, Nat.zero_add, List.nil_append] at M))
        have hk := HK.out
        go_roundg (gk - 1)
        case measure => omega
        case rel => exact ⟨k + 1, _, _, by omega, by rw [HS.out], by rw [HS.out], by go_num, by rw [HS.out]; exact M⟩
    · obtain rfl : k = s.size := by omega
      have HE := Lib.hid (show spL s c = (spSt s c s.size).1 ++ [s.extract (spSt s c s.size).2 s.size] from rfl)
      clear hlt hk
      generalize (spSt s c s.size).1 = xs at *
      generalize (spSt s c s.size).2 = y at *
      go_wp2_with (first
        | (with_reducible (show wpList _ _ _ (Oper.mk (some 8) (.buildSlice _ _ _) _ _ _ _ :: _) _ _); refine m_lit0 M rfl rfl ?_; clear M; (try clear wx); intro g8 wx M)
        | (with_reducible (show wpList _ _ _ (Oper.mk (some 25) (.buildSlice _ _ _) _ _ _ _ :: _) _ _); (first | (refine m_lit1A M rfl rfl rfl (by first | rfl | assumption | (simp; done) | (simp; omega)) (by decide) ?_) | (refine m_lit11 (v := Value.int _ _) M rfl rfl rfl rfl ?_) | (refine m_lit11 (v := Value.slice _ _ _) M rfl rfl rfl rfl ?_) | (refine m_lit11 (v := Value.bool _) M rfl rfl rfl rfl ?_) | (refine m_lit11 (v := Value.string _) M rfl rfl rfl rfl ?_) | (refine m_lit11 (v := Value.pointer _) M rfl rfl rfl rfl ?_)); clear M; (try clear wx); intro g25 wx M)
        | (with_reducible (show wpList _ _ _ (Oper.mk (some 33) (.buildSlice _ _ _) _ _ _ _ :: _) _ _); (first | (refine m_lit1A M rfl rfl rfl (by first | rfl | assumption | (simp; done) | (simp; omega)) (by decide) ?_) | (refine m_lit11 (v := Value.int _ _) M rfl rfl rfl rfl ?_) | (refine m_lit11 (v := Value.slice _ _ _) M rfl rfl rfl rfl ?_) | (refine m_lit11 (v := Value.bool _) M rfl rfl rfl rfl ?_) | (refine m_lit11 (v := Value.string _) M rfl rfl rfl rfl ?_) | (refine m_lit11 (v := Value.pointer _) M rfl rfl rfl rfl ?_)); clear M; (try clear wx); intro g33 wx M)
        | (with_reducible (show wpList _ _ _ (Oper.mk _ (.call (Call.mk (.builtin .append) _ _)) _ _ _ _ :: _) _ _); (first | (refine m_append1 M rfl rfl rfl (by first | rfl | omega | (simp; done)) rfl (by first | rfl | assumption | (simp; done) | (simp; omega)) (by simp [Value.oneCell']) (by first | assumption | (simp only [maxLen]; omega)) (by omega) ?_)); clear M; (try clear wx); intro _ _ wx M; simp only [List.set_cons_zero, List.set_cons_succ, Nat.zero_add, List.nil_append] at M))
      go_ret
      exact ⟨_, rfl, by rw [HE.out, List.length_append, show stL (xs ++ [s.extract y s.size]) = stL xs ++ [Value.string (s.extract y s.size)] by simp [stL]]; exact ⟨_, _, rfl, M.out_own (p := 0) rfl⟩, M.up⟩

end Go.Proofs.YtmbhaoiahlbglaaDoor

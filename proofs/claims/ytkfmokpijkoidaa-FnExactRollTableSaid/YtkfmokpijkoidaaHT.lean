/- Walks: RollTable. -/
import Derived.Test.YtkfmokpijkoidaaTy
import Derived.Test.YtkfmokpijkoidaaKM4
import Derived.Great.BuildSlice
namespace Go.Proofs.Ytkfmokpijkoidaa
open Go.RowKit
set_option linter.unusedVariables false
set_option linter.unusedSimpArgs false

/-- A word of the table. -/
def rollW (b : UInt8) : UInt32 := wt (mixL (startL 7) (b :: List.replicate 31 0)) 0
def rollL : List UInt32 := (List.range 256).map fun i => rollW (UInt8.ofNat i)
@[simp] theorem rollL_len : rollL.length = 256 := by simp [rollL]
theorem one_byte (b : UInt8) : bA (b :: List.replicate 31 0) = #[.int .u8 (b.toNat : Int), .int .u8 0, .int .u8 0, .int .u8 0, .int .u8 0, .int .u8 0, .int .u8 0, .int .u8 0, .int .u8 0, .int .u8 0, .int .u8 0, .int .u8 0, .int .u8 0, .int .u8 0, .int .u8 0, .int .u8 0, .int .u8 0, .int .u8 0, .int .u8 0, .int .u8 0, .int .u8 0, .int .u8 0, .int .u8 0, .int .u8 0, .int .u8 0, .int .u8 0, .int .u8 0, .int .u8 0, .int .u8 0, .int .u8 0, .int .u8 0, .int .u8 0] := by kernel_rfl
theorem ofNat_int (k : Nat) (h : k < 256) : ((UInt8.ofNat k).toNat : Int) = (k : Int) := by
  simp only [UInt8.toNat_ofNat']
  omega
theorem specStart_7 (w : World) : Ret Try.prog 74 #[.int .u8 7] w fun r _ => r = .agg (wA (startL 7)) := Ret.of (specl01Start_c 7 w)
theorem implStart_7 (w : World) : Ret Try.prog 75 #[.int .u8 7] w fun r _ => r = .agg (wA (startL 7)) := Ret.of (implStartState_c 7 w)
theorem index_0 (l : List UInt32) (h : l.length = 8) (w : World) : (Instr.index 23 (.agg (wA l)) (.int .i64 0)).run Try.prog w = .ok (.int .u32 ((wt l 0).toNat : Int)) w := run_index_arr (i := 0) Try.underlying23 Try.underlying22 info_u32 (by decide) (wA_at l 0 (by omega)) w

set_option maxHeartbeats 1000000 in
set_option maxRecDepth 100000 in
theorem l02Word_c (b : UInt8) (w : World) : Ret Try.prog 83 #[.int .u8 (b.toNat : Int)] w fun r _ => r = .int .u32 ((rollW b).toNat : Int) := by
  have c1 := index_0 (mixL (startL 7) (b :: List.replicate 31 0)) (mixL_length _ _)
  have HL := show (b :: List.replicate 31 (0 : UInt8)).length = 32 by simp
  have HR := Lib.hid (show wt (mixL (startL 7) (b :: List.replicate 31 0)) 0 = rollW b from rfl)
  have HX : Hid (∀ w, Ret Try.prog 71 #[.agg (wA (startL 7)), .agg (bA (b :: List.replicate 31 0))] w fun r _ => r = .agg (wA (mixL (startL 7) (b :: List.replicate 31 0)))) := Lib.hid (fun w => Ret.of (specl01Mix_c (startL 7) _ (startL_length 7) HL w))
  rw [one_byte] at HX
  generalize mixL (startL 7) _ = s at *
  clear HL
  refine ret_start fun wx M => ?_
  go_enter Try.func83, Try.ntmps83
  go_wp2_with (first
    | (go_at_call 74; (with_reducible refine mem_call M (specStart_7 _) ?_); clear M; (try clear wx); rintro _ wx rfl _ M)
    | (go_at_call 71; (with_reducible refine mem_call M (HX.out _) ?_); clear M; (try clear wx); rintro _ wx rfl _ M)
    | (with_reducible (show wpList _ _ _ (Oper.mk _ (.build _ _) _ _ _ _ :: _) _ _); refine m_buildZ rfl rfl ?_))
  go_ret
  exact ⟨_, rfl, by rw [← HR.out]; rfl, M.up⟩
theorem l02Word_k (k : Nat) (hk : k < 256) (w : World) : Ret Try.prog 83 #[.int .u8 (k : Int)] w fun r _ => r = .int .u32 ((rollW (UInt8.ofNat k)).toNat : Int) := by
  have := l02Word_c (UInt8.ofNat k) w
  rw [ofNat_int k hk] at this
  exact this

set_option maxHeartbeats 1000000 in
set_option maxRecDepth 100000 in
theorem specRollTable_c (w : World) : Ret Try.prog 32 #[] w fun r _ => r = .agg (wA rollL) := by
  refine ret_start fun wx M => ?_
  go_enter Try.func32, Try.ntmps32
  go_wp2_with (first
    | (with_reducible (show wpList _ _ _ (Oper.mk (some 0) (.alloc _) _ _ _ _ :: _) _ _); refine mem_new M rfl rfl ?_; clear M; (try clear wx); intro g0 wx M)
    | (with_reducible (show wpList _ _ _ (Oper.mk (some 1) (.alloc _) _ _ _ _ :: _) _ _); refine mem_new M rfl rfl ?_; clear M; (try clear wx); intro g1 wx M)
    | (with_reducible (show wpList _ _ _ (Oper.mk _ (.load _ _) _ _ _ _ :: _) _ _); (first | (refine m_load M rfl rfl rfl (by first | assumption | rfl) ?_) | (refine m_loadR M rfl rfl rfl (by first | rfl | assumption | (simp; done) | (simp; omega)) ?_)))
    | (with_reducible (show wpList _ _ _ (Oper.mk _ (.store _ _ _) _ _ _ _ :: _) _ _); (first | (refine m_storeR M rfl rfl rfl rfl (by first | rfl | assumption | (simp; done) | (simp; omega)) (by first | rfl | assumption | (simp; done) | (simp; omega)) (by first | exact bA_one _ | exact wA_one _ | assumption | (simp [Value.oneCell']; done)) ?_) | (refine m_store (v := Value.int _ _) M rfl rfl rfl rfl rfl (by first | assumption | (simp; done) | (simp; omega)) ?_) | (refine m_store (v := Value.slice _ _ _) M rfl rfl rfl rfl rfl (by first | assumption | (simp; done) | (simp; omega)) ?_) | (refine m_store (v := Value.bool _) M rfl rfl rfl rfl rfl (by first | assumption | (simp; done) | (simp; omega)) ?_) | (refine m_store (v := Value.string _) M rfl rfl rfl rfl rfl (by first | assumption | (simp; done) | (simp; omega)) ?_) | (refine m_store (v := Value.pointer _) M rfl rfl rfl rfl rfl (by first | assumption | (simp; done) | (simp; omega)) ?_)); clear M; (try clear wx); intro wx M; simp only [List.set_cons_zero, List.set_cons_succ, Nat.zero_add, List.nil_append] at M)
    | (with_reducible (show wpList _ _ _ (Oper.mk _ (.build _ _) _ _ _ _ :: _) _ _); refine m_buildZ rfl rfl ?_))
  go_loopg [2] 256 (fun q i wr => ∃ (j : Nat), j + q = 256 ∧ i = .int .i64 (j : Int) ∧ Mem w wr [.blk g1 45 (wA (fillTo (fun i => rollW (UInt8.ofNat i)) j 256 0)), .blk g0 45 (wA zero256)])
  case atStart => exact ⟨0, by omega, rfl, by rw [fill_zero]; exact M⟩
  case round =>
    obtain ⟨j, hj, rfl, M⟩ := hrel
    by_cases hlt : j < 256
    · have HJ := Lib.hid hj
      clear hj
      go_wp2_with (first
        | (go_at_call 83; (with_reducible refine mem_call M (l02Word_k j hlt _) ?_); clear M; (try clear wx); rintro _ wx rfl _ M)
        | (with_reducible (show wpList _ _ _ (Oper.mk (some 0) (.alloc _) _ _ _ _ :: _) _ _); refine mem_new M rfl rfl ?_; clear M; (try clear wx); intro g0 wx M)
        | (with_reducible (show wpList _ _ _ (Oper.mk (some 1) (.alloc _) _ _ _ _ :: _) _ _); refine mem_new M rfl rfl ?_; clear M; (try clear wx); intro g1 wx M)
        | (with_reducible (show wpList _ _ _ (Oper.mk _ (.load _ _) _ _ _ _ :: _) _ _); (first | (refine m_load M rfl rfl rfl (by first | assumption | rfl) ?_) | (refine m_loadR M rfl rfl rfl (by first | rfl | assumption | (simp; done) | (simp; omega)) ?_)))
        | (with_reducible (show wpList _ _ _ (Oper.mk _ (.store _ _ _) _ _ _ _ :: _) _ _); (first | (refine m_storeR M rfl rfl rfl rfl (by first | rfl | assumption | (simp; done) | (simp; omega)) (by first | rfl | assumption | (simp; done) | (simp; omega)) (by first | exact bA_one _ | exact wA_one _ | assumption | (simp [Value.oneCell']; done)) ?_) | (refine m_store (v := Value.int _ _) M rfl rfl rfl rfl rfl (by first | assumption | (simp; done) | (simp; omega)) ?_) | (refine m_store (v := Value.slice _ _ _) M rfl rfl rfl rfl rfl (by first | assumption | (simp; done) | (simp; omega)) ?_) | (refine m_store (v := Value.bool _) M rfl rfl rfl rfl rfl (by first | assumption | (simp; done) | (simp; omega)) ?_) | (refine m_store (v := Value.string _) M rfl rfl rfl rfl rfl (by first | assumption | (simp; done) | (simp; omega)) ?_) | (refine m_store (v := Value.pointer _) M rfl rfl rfl rfl rfl (by first | assumption | (simp; done) | (simp; omega)) ?_)); clear M; (try clear wx); intro wx M; simp only [List.set_cons_zero, List.set_cons_succ, Nat.zero_add, List.nil_append] at M)
        | (with_reducible (show wpList _ _ _ (Oper.mk _ (.build _ _) _ _ _ _ :: _) _ _); refine m_buildZ rfl rfl ?_))
      rw [wA_set, fill_set (fun i => rollW (UInt8.ofNat i))] at M
      have hj := HJ.out
      go_roundg (gk - 1)
      case measure => omega
      case rel => exact ⟨j + 1, by omega, by go_num, M⟩
    · obtain rfl : j = 256 := by omega
      rw [fill_full] at M
      clear hj
      go_wp2_with (first
        | (with_reducible (show wpList _ _ _ (Oper.mk (some 0) (.alloc _) _ _ _ _ :: _) _ _); refine mem_new M rfl rfl ?_; clear M; (try clear wx); intro g0 wx M)
        | (with_reducible (show wpList _ _ _ (Oper.mk (some 1) (.alloc _) _ _ _ _ :: _) _ _); refine mem_new M rfl rfl ?_; clear M; (try clear wx); intro g1 wx M)
        | (with_reducible (show wpList _ _ _ (Oper.mk _ (.load _ _) _ _ _ _ :: _) _ _); (first | (refine m_load M rfl rfl rfl (by first | assumption | rfl) ?_) | (refine m_loadR M rfl rfl rfl (by first | rfl | assumption | (simp; done) | (simp; omega)) ?_)))
        | (with_reducible (show wpList _ _ _ (Oper.mk _ (.store _ _ _) _ _ _ _ :: _) _ _); (first | (refine m_storeR M rfl rfl rfl rfl (by first | rfl | assumption | (simp; done) | (simp; omega)) (by first | rfl | assumption | (simp; done) | (simp; omega)) (by first | exact bA_one _ | exact wA_one _ | assumption | (simp [Value.oneCell']; done)) ?_) | (refine m_store (v := Value.int _ _) M rfl rfl rfl rfl rfl (by first | assumption | (simp; done) | (simp; omega)) ?_) | (refine m_store (v := Value.slice _ _ _) M rfl rfl rfl rfl rfl (by first | assumption | (simp; done) | (simp; omega)) ?_) | (refine m_store (v := Value.bool _) M rfl rfl rfl rfl rfl (by first | assumption | (simp; done) | (simp; omega)) ?_) | (refine m_store (v := Value.string _) M rfl rfl rfl rfl rfl (by first | assumption | (simp; done) | (simp; omega)) ?_) | (refine m_store (v := Value.pointer _) M rfl rfl rfl rfl rfl (by first | assumption | (simp; done) | (simp; omega)) ?_)); clear M; (try clear wx); intro wx M; simp only [List.set_cons_zero, List.set_cons_succ, Nat.zero_add, List.nil_append] at M)
        | (with_reducible (show wpList _ _ _ (Oper.mk _ (.build _ _) _ _ _ _ :: _) _ _); refine m_buildZ rfl rfl ?_))
      exact m_ret M rfl rfl rfl (by simp) rfl

theorem mixBlock_k (k : Nat) (hk : k < 256) (w : World) : Ret Try.prog 18 #[.agg (wA (startL 7)), .agg #[.int .u8 (k : Int), .int .u8 0, .int .u8 0, .int .u8 0, .int .u8 0, .int .u8 0, .int .u8 0, .int .u8 0, .int .u8 0, .int .u8 0, .int .u8 0, .int .u8 0, .int .u8 0, .int .u8 0, .int .u8 0, .int .u8 0, .int .u8 0, .int .u8 0, .int .u8 0, .int .u8 0, .int .u8 0, .int .u8 0, .int .u8 0, .int .u8 0, .int .u8 0, .int .u8 0, .int .u8 0, .int .u8 0, .int .u8 0, .int .u8 0, .int .u8 0, .int .u8 0]] w fun r _ => ∃ s, r = .agg (wA s) ∧ s.length = 8 ∧ wt s 0 = rollW (UInt8.ofNat k) := by
  rw [← ofNat_int k hk, ← one_byte]
  exact Calls.mono (implMixBlock_c (startL 7) _ (startL_length 7) (by simp) w) fun e w' ⟨he, hb⟩ => ⟨_, he, ⟨_, rfl, mixL_length _ _, rfl⟩, hb⟩
set_option maxHeartbeats 1000000 in
set_option maxRecDepth 100000 in
theorem implRollTable_c (w : World) : Ret Try.prog 33 #[] w fun r _ => r = .agg (wA rollL) := by
  have hs7 := startL_length 7
  refine ret_start fun wx M => ?_
  go_enter Try.func33, Try.ntmps33
  go_wp2_with (first
    | (go_at_call 75; (with_reducible refine mem_call M (implStart_7 _) ?_); clear M; (try clear wx); rintro _ wx rfl _ M)
    | (with_reducible (show wpList _ _ _ (Oper.mk (some 0) (.alloc _) _ _ _ _ :: _) _ _); refine mem_new M rfl rfl ?_; clear M; (try clear wx); intro g0 wx M)
    | (with_reducible (show wpList _ _ _ (Oper.mk (some 1) (.alloc _) _ _ _ _ :: _) _ _); refine mem_new M rfl rfl ?_; clear M; (try clear wx); intro g1 wx M)
    | (with_reducible (show wpList _ _ _ (Oper.mk (some 2) (.alloc _) _ _ _ _ :: _) _ _); refine mem_new M rfl rfl ?_; clear M; (try clear wx); intro g2 wx M)
    | (with_reducible (show wpList _ _ _ (Oper.mk _ (.load _ _) _ _ _ _ :: _) _ _); (first | (refine m_load M rfl rfl rfl (by first | assumption | rfl) ?_) | (refine m_loadR M rfl rfl rfl (by first | rfl | assumption | (simp; done) | (simp; omega)) ?_)))
    | (with_reducible (show wpList _ _ _ (Oper.mk _ (.store _ _ _) _ _ _ _ :: _) _ _); (first | (refine m_storeR M rfl rfl rfl rfl (by first | rfl | assumption | (simp; done) | (simp; omega)) (by first | rfl | assumption | (simp; done) | (simp; omega)) (by first | exact bA_one _ | exact wA_one _ | assumption | (simp [Value.oneCell']; done)) ?_) | (refine m_store (v := Value.int _ _) M rfl rfl rfl rfl rfl (by first | assumption | (simp; done) | (simp; omega)) ?_) | (refine m_store (v := Value.slice _ _ _) M rfl rfl rfl rfl rfl (by first | assumption | (simp; done) | (simp; omega)) ?_) | (refine m_store (v := Value.bool _) M rfl rfl rfl rfl rfl (by first | assumption | (simp; done) | (simp; omega)) ?_) | (refine m_store (v := Value.string _) M rfl rfl rfl rfl rfl (by first | assumption | (simp; done) | (simp; omega)) ?_) | (refine m_store (v := Value.pointer _) M rfl rfl rfl rfl rfl (by first | assumption | (simp; done) | (simp; omega)) ?_)); clear M; (try clear wx); intro wx M; simp only [List.set_cons_zero, List.set_cons_succ, Nat.zero_add, List.nil_append] at M)
    | (with_reducible (show wpList _ _ _ (Oper.mk _ (.build _ _) _ _ _ _ :: _) _ _); refine m_buildZ rfl rfl ?_))
  go_loopg [6] 256 (fun q i wr => ∃ (j : Nat), j + q = 256 ∧ i = .int .i64 (j : Int) ∧ Mem w wr [.blk g2 23 (wA (startL 7)), .blk g1 45 (wA (fillTo (fun i => rollW (UInt8.ofNat i)) j 256 0)), .blk g0 45 (wA zero256)])
  case atStart => exact ⟨0, by omega, rfl, by rw [fill_zero]; exact M⟩
  case round =>
    obtain ⟨j, hj, rfl, M⟩ := hrel
    by_cases hlt : j < 256
    · have HJ := Lib.hid hj
      clear hj
      go_wp2_with (first
        | (go_at_call 18; (with_reducible refine mem_call M (mixBlock_k j hlt _) ?_); clear M; (try clear wx); rintro _ wx ⟨s, rfl, hs8, hs0⟩ _ M; have c1 := index_0 s hs8; rw [hs0] at c1; clear hs8 hs0)
        | (with_reducible (show wpList _ _ _ (Oper.mk (some 0) (.alloc _) _ _ _ _ :: _) _ _); refine mem_new M rfl rfl ?_; clear M; (try clear wx); intro g0 wx M)
        | (with_reducible (show wpList _ _ _ (Oper.mk (some 1) (.alloc _) _ _ _ _ :: _) _ _); refine mem_new M rfl rfl ?_; clear M; (try clear wx); intro g1 wx M)
        | (with_reducible (show wpList _ _ _ (Oper.mk (some 2) (.alloc _) _ _ _ _ :: _) _ _); refine mem_new M rfl rfl ?_; clear M; (try clear wx); intro g2 wx M)
        | (with_reducible (show wpList _ _ _ (Oper.mk _ (.load _ _) _ _ _ _ :: _) _ _); (first | (refine m_load M rfl rfl rfl (by first | assumption | rfl) ?_) | (refine m_loadR M rfl rfl rfl (by first | rfl | assumption | (simp; done) | (simp; omega)) ?_)))
        | (with_reducible (show wpList _ _ _ (Oper.mk _ (.store _ _ _) _ _ _ _ :: _) _ _); (first | (refine m_storeR M rfl rfl rfl rfl (by first | rfl | assumption | (simp; done) | (simp; omega)) (by first | rfl | assumption | (simp; done) | (simp; omega)) (by first | exact bA_one _ | exact wA_one _ | assumption | (simp [Value.oneCell']; done)) ?_) | (refine m_store (v := Value.int _ _) M rfl rfl rfl rfl rfl (by first | assumption | (simp; done) | (simp; omega)) ?_) | (refine m_store (v := Value.slice _ _ _) M rfl rfl rfl rfl rfl (by first | assumption | (simp; done) | (simp; omega)) ?_) | (refine m_store (v := Value.bool _) M rfl rfl rfl rfl rfl (by first | assumption | (simp; done) | (simp; omega)) ?_) | (refine m_store (v := Value.string _) M rfl rfl rfl rfl rfl (by first | assumption | (simp; done) | (simp; omega)) ?_) | (refine m_store (v := Value.pointer _) M rfl rfl rfl rfl rfl (by first | assumption | (simp; done) | (simp; omega)) ?_)); clear M; (try clear wx); intro wx M; simp only [List.set_cons_zero, List.set_cons_succ, Nat.zero_add, List.nil_append] at M)
        | (with_reducible (show wpList _ _ _ (Oper.mk _ (.build _ _) _ _ _ _ :: _) _ _); refine m_buildZ rfl rfl ?_))
      rw [wA_set, fill_set (fun i => rollW (UInt8.ofNat i))] at M
      have hj := HJ.out
      go_roundg (gk - 1)
      case measure => omega
      case rel => exact ⟨j + 1, by omega, by go_num, M⟩
    · obtain rfl : j = 256 := by omega
      rw [fill_full] at M
      clear hj
      go_wp2_with (first
        | (with_reducible (show wpList _ _ _ (Oper.mk (some 0) (.alloc _) _ _ _ _ :: _) _ _); refine mem_new M rfl rfl ?_; clear M; (try clear wx); intro g0 wx M)
        | (with_reducible (show wpList _ _ _ (Oper.mk (some 1) (.alloc _) _ _ _ _ :: _) _ _); refine mem_new M rfl rfl ?_; clear M; (try clear wx); intro g1 wx M)
        | (with_reducible (show wpList _ _ _ (Oper.mk (some 2) (.alloc _) _ _ _ _ :: _) _ _); refine mem_new M rfl rfl ?_; clear M; (try clear wx); intro g2 wx M)
        | (with_reducible (show wpList _ _ _ (Oper.mk _ (.load _ _) _ _ _ _ :: _) _ _); (first | (refine m_load M rfl rfl rfl (by first | assumption | rfl) ?_) | (refine m_loadR M rfl rfl rfl (by first | rfl | assumption | (simp; done) | (simp; omega)) ?_)))
        | (with_reducible (show wpList _ _ _ (Oper.mk _ (.store _ _ _) _ _ _ _ :: _) _ _); (first | (refine m_storeR M rfl rfl rfl rfl (by first | rfl | assumption | (simp; done) | (simp; omega)) (by first | rfl | assumption | (simp; done) | (simp; omega)) (by first | exact bA_one _ | exact wA_one _ | assumption | (simp [Value.oneCell']; done)) ?_) | (refine m_store (v := Value.int _ _) M rfl rfl rfl rfl rfl (by first | assumption | (simp; done) | (simp; omega)) ?_) | (refine m_store (v := Value.slice _ _ _) M rfl rfl rfl rfl rfl (by first | assumption | (simp; done) | (simp; omega)) ?_) | (refine m_store (v := Value.bool _) M rfl rfl rfl rfl rfl (by first | assumption | (simp; done) | (simp; omega)) ?_) | (refine m_store (v := Value.string _) M rfl rfl rfl rfl rfl (by first | assumption | (simp; done) | (simp; omega)) ?_) | (refine m_store (v := Value.pointer _) M rfl rfl rfl rfl rfl (by first | assumption | (simp; done) | (simp; omega)) ?_)); clear M; (try clear wx); intro wx M; simp only [List.set_cons_zero, List.set_cons_succ, Nat.zero_add, List.nil_append] at M)
        | (with_reducible (show wpList _ _ _ (Oper.mk _ (.build _ _) _ _ _ _ :: _) _ _); refine m_buildZ rfl rfl ?_))
      exact m_ret M rfl rfl rfl (by simp) rfl

set_option maxHeartbeats 400000 in
set_option maxRecDepth 100000 in
theorem eqUint32A256_c (a b : List UInt32) (ha : a.length = 256) (hb : b.length = 256) (w : World) :
    Calls Try.prog 34 #[.agg (wA a), .agg (wA b)] w fun e w' => e = .returned (.bool (decide (a = b))) ∧ Up w w' := by
  have HL := Lib.hid (And.intro ha hb)
  clear ha hb
  go_enter Try.func34, Try.ntmps34
  go_wp2
  go_loopg [5] 256 (fun n i wr => ∃ k : Nat, k + n = 256 ∧ i = .int .i64 k ∧ a.take k = b.take k ∧ Blk wr w.heap.size 45 (wA a) ∧ Blk wr (w.heap.size + 1) 45 (wA b) ∧ Up w wr)
  case atStart =>
    refine ⟨0, by omega, rfl, by simp, ?_, Blk.top (by simp), ?_⟩
    · exact ((Blk.top rfl).alloc _)
    · exact (((Up.refl _).alloc _).alloc _)
  case round =>
    obtain ⟨k, hk, rfl, he, b0, b1, hbel⟩ := hrel
    obtain ⟨ha, hb⟩ := HL.out
    by_cases hlt : k < 256
    · have c0 := b0.cell_ (wA_at a k (by omega))
      have c1 := b1.cell_ (wA_at b k (by omega))
      have BA := Lib.hid (And.intro he (And.intro b0 (And.intro b1 hbel)))
      have HK := Lib.hid hk
      clear b0 b1 hbel ha hb hk he
      by_cases hx : wt a k = wt b k
      · have hx1 : (((wt a k).toNat : Int) != ((wt b k).toNat : Int)) = false := by simp [hx]
        have HX := Lib.hid hx
        clear hx
        go_wp2
        go_quiet (fail)
        go_wp2
        obtain ⟨he, b0, b1, hbel⟩ := BA.out
        obtain ⟨ha, hb⟩ := HL.out
        have hk := HK.out
        go_roundg (gk - 1)
        case measure => omega
        case rel => exact ⟨k + 1, by omega, by go_num, take_wt a b k (by omega) (by omega) he HX.out, b0.drewN _, b1.drewN _, hbel.drewN _⟩
      · have hx1 : (((wt a k).toNat : Int) != ((wt b k).toNat : Int)) = true := by
          simp only [bne_iff_ne, ne_eq, Int.natCast_inj, UInt32.toNat_inj]
          exact hx
        have HX := Lib.hid hx
        clear hx
        go_wp2
        go_quiet (fail)
        go_wp2
        go_ret
        obtain ⟨he, b0, b1, hbel⟩ := BA.out
        exact ⟨by simp [ne_wt HX.out], hbel.drewN _⟩
    · obtain rfl : k = 256 := by omega
      rw [List.take_of_length_le (by omega), List.take_of_length_le (by omega)] at he
      have HE := Lib.hid he
      clear hk ha hb he
      go_wp2
      go_ret
      exact ⟨by simp [HE.out], hbel⟩

set_option maxHeartbeats 1000000 in
set_option maxRecDepth 100000 in
theorem lawRollTable_c (w : World) : Calls Try.prog 7 #[] w fun e w' => e = .returned (.bool true) ∧ Up w w' := by
  have hl := rollL_len
  have HQ : Hid (∀ w, Ret Try.prog 34 #[.agg (wA rollL), .agg (wA rollL)] w fun r _ => r = .bool true) := Lib.hid (fun w => Calls.mono (eqUint32A256_c rollL rollL hl hl w) fun e w' ⟨he, hb⟩ => ⟨_, he, by simp, hb⟩)
  have HS : Hid (∀ w, Ret Try.prog 32 #[] w fun r _ => r = .agg (wA rollL)) := Lib.hid specRollTable_c
  have HI : Hid (∀ w, Ret Try.prog 33 #[] w fun r _ => r = .agg (wA rollL)) := Lib.hid implRollTable_c
  generalize rollL = q at *
  have M := Mem.start w
  go_enter Try.func7, Try.ntmps7
  go_wp2_with (first
    | (go_at_call 32; (with_reducible refine mem_call M (HS.out _) ?_); clear M; (try clear wx); rintro _ wx rfl _ M)
    | (go_at_call 33; (with_reducible refine mem_call M (HI.out _) ?_); clear M; (try clear wx); rintro _ wx rfl _ M)
    | (go_at_call 34; (with_reducible refine mem_call M (HQ.out _) ?_); clear M; (try clear wx); rintro _ wx rfl _ M)
    | (with_reducible (show wpList _ _ _ (Oper.mk (some 1) (.alloc _) _ _ _ _ :: _) _ _); refine mem_new M rfl rfl ?_; clear M; (try clear wx); intro g1 wx M)
    | (with_reducible (show wpList _ _ _ (Oper.mk (some 2) (.alloc _) _ _ _ _ :: _) _ _); refine mem_new M rfl rfl ?_; clear M; (try clear wx); intro g2 wx M)
    | (with_reducible (show wpList _ _ _ (Oper.mk _ (.load _ _) _ _ _ _ :: _) _ _); (first | (refine m_load M rfl rfl rfl (by first | assumption | rfl) ?_) | (refine m_loadR M rfl rfl rfl (by first | rfl | assumption | (simp; done) | (simp; omega)) ?_)))
    | (with_reducible (show wpList _ _ _ (Oper.mk _ (.store _ _ _) _ _ _ _ :: _) _ _); (first | (refine m_storeR M rfl rfl rfl rfl (by first | rfl | assumption | (simp; done) | (simp; omega)) (by first | rfl | assumption | (simp; done) | (simp; omega)) (by first | exact bA_one _ | exact wA_one _ | assumption | (simp [Value.oneCell']; done)) ?_) | (refine m_store (v := Value.int _ _) M rfl rfl rfl rfl rfl (by first | assumption | (simp; done) | (simp; omega)) ?_) | (refine m_store (v := Value.slice _ _ _) M rfl rfl rfl rfl rfl (by first | assumption | (simp; done) | (simp; omega)) ?_) | (refine m_store (v := Value.bool _) M rfl rfl rfl rfl rfl (by first | assumption | (simp; done) | (simp; omega)) ?_) | (refine m_store (v := Value.string _) M rfl rfl rfl rfl rfl (by first | assumption | (simp; done) | (simp; omega)) ?_) | (refine m_store (v := Value.pointer _) M rfl rfl rfl rfl rfl (by first | assumption | (simp; done) | (simp; omega)) ?_)); clear M; (try clear wx); intro wx M; simp only [List.set_cons_zero, List.set_cons_succ, Nat.zero_add, List.nil_append] at M))
  go_ret
  exact ⟨rfl, M.up⟩

end Go.Proofs.Ytkfmokpijkoidaa

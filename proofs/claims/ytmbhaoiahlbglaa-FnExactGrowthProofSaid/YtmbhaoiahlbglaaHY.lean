/- Walks: peaks of lists. -/
import Derived.Test.YtmbhaoiahlbglaaHW
namespace Go.Proofs.Ytmbhaoiahlbglaa
open Go.RowKit
set_option linter.unusedVariables false
set_option linter.unusedSimpArgs false

/-- The peaks of a list. -/
def peaksL (ks : List Ky) : List Ky :=
  if h : ks.length = 0 then [] else listK (ks.take (topN ks.length)) :: peaksL (ks.drop (topN ks.length))
termination_by ks.length
decreasing_by rw [List.length_drop]; have := topN_pos ks.length; omega
theorem peaksL_nil : peaksL [] = [] := by rw [peaksL]; rfl
theorem peaksL_cons (ks : List Ky) (n : Nat) (hn : ks.length = n) (h : 0 < n) : peaksL ks = listK (ks.take (topN n)) :: peaksL (ks.drop (topN n)) := by
  subst hn
  rw [peaksL, dif_neg (by omega)]
theorem peaksL_len (n : Nat) : ∀ ks : List Ky, ks.length = n → (peaksL ks).length ≤ n := by
  induction n using Nat.strongRecOn with
  | ind n ih =>
  intro ks hn
  by_cases h : n = 0
  · obtain rfl := List.eq_nil_of_length_eq_zero (hn.trans h)
    rw [peaksL_nil]; exact Nat.zero_le _
  · have h1 := topN_pos n
    have h2 := topN_le n (by omega)
    rw [peaksL_cons ks n hn (by omega), List.length_cons]
    have := ih (n - topN n) (by omega) (ks.drop (topN n)) (by rw [List.length_drop]; omega)
    omega

set_option maxRecDepth 100000 in
theorem l03Greatest_c (n : Nat) (hn : n ≤ 1000000) (w : World) : Ret Try.prog 109 #[.int .i64 (n : Int)] w fun r _ => r = .int .i64 (topN n : Int) := by
  have HH : Hid (∀ w, Ret Try.prog 103 #[.int .i64 ((n : Int) + 1)] w fun r _ => r = .int .i64 (topN n : Int)) := Lib.hid (fun w => by have := l03Half_c (n + 1) (by omega) w; rwa [Int.natCast_add] at this)
  refine ret_start fun wx M => ?_
  generalize topN n = m at *
  go_enter Try.func109, Try.ntmps109
  go_wp2_with (first
    | (go_at_call 103; (with_reducible refine mem_call M (HH.out _) ?_); clear M; (try clear wx); rintro _ wx rfl _ M))
  go_ret
  exact ⟨_, rfl, rfl, M.up⟩

set_option maxHeartbeats 2000000 in
set_option maxRecDepth 100000 in
theorem l03Peaks_c (n : Nat) (ks : List Ky) (hks : ks.length = n) (hn : n ≤ 256) (v : Value) (w : World) (hv : Rd w 32 v n (kyL ks)) :
    Ret Try.prog 63 #[v] w fun r w' => OwnR w w' 25 32 r (peaksL ks).length (kyL (peaksL ks)) := by
  obtain ⟨b, cap, rfl⟩ := hv.shape
  have HV := Lib.hid hv
  have HK := Lib.hid hks
  obtain ⟨P, hP⟩ : ∃ P, P = peaksL ks := ⟨_, rfl⟩
  rw [← hP]
  have HP := Lib.hid hP
  refine ret_start fun wx M => ?_
  clear hv hks hP
  go_enter Try.func63, Try.ntmps63
  go_wp2_with (first
    | (with_reducible (show wpList _ _ _ (Oper.mk (some 5) (.buildSlice _ _ _) _ _ _ _ :: _) _ _); refine m_lit0 M rfl rfl ?_; clear M; (try clear wx); intro g5 wx M)
    | (with_reducible (show wpList _ _ _ (Oper.mk (some 17) (.buildSlice _ _ _) _ _ _ _ :: _) _ _); (first | (refine m_lit1A M rfl rfl rfl (by first | rfl | assumption | (simp; done) | (simp; omega)) (by decide) ?_) | (refine m_lit11 (v := Value.int _ _) M rfl rfl rfl rfl ?_) | (refine m_lit11 (v := Value.slice _ _ _) M rfl rfl rfl rfl ?_) | (refine m_lit11 (v := Value.bool _) M rfl rfl rfl rfl ?_) | (refine m_lit11 (v := Value.string _) M rfl rfl rfl rfl ?_) | (refine m_lit11 (v := Value.pointer _) M rfl rfl rfl rfl ?_)); clear M; (try clear wx); intro g17 wx M)
    | (with_reducible (show wpList _ _ _ (Oper.mk _ (.call (Call.mk (.builtin .append) _ _)) _ _ _ _ :: _) _ _); (first | (refine m_append1 M rfl rfl rfl (by first | rfl | omega | (simp; done)) rfl (by first | rfl | assumption | (simp; done) | (simp; omega)) (by first | exact bA_one _ | exact wA_one _ | assumption | (simp [Value.oneCell']; done)) (by first | assumption | (simp only [maxLen]; omega)) (by omega) ?_)); clear M; (try clear wx); intro _ _ wx M; simp only [List.set_cons_zero, List.set_cons_succ, Nat.zero_add, List.nil_append] at M))
  go_loopg [0, 3] n (fun q x y wr => ∃ (rs out : List Ky) (r k : Nat) (b0 : Option Addr) (cap0 : Nat) (b1 : Option Addr) (cap1 : Nat), q = r ∧ x = .slice b0 r cap0 ∧ y = .slice b1 k cap1 ∧ k + r ≤ 256 ∧ Hid (rs.length = r ∧ out.length = k ∧ out ++ peaksL rs = P ∧ Rd w 32 (.slice b0 r cap0) r (kyL rs)) ∧ Mem w wr [.own b1 cap1 25 32 k (kyL out)])
  case atStart => exact ⟨ks, [], n, 0, _, _, _, _, rfl, rfl, rfl, by omega, Lib.hid ⟨HK.out, rfl, HP.out.symm, HV.out⟩, M⟩
  case round =>
    obtain ⟨rs, out, r, k, b0, cap0, b1, cap1, hq, rfl, rfl, hkr, HB, M⟩ := hrel
    have HQ := Lib.hid hq
    clear hq
    by_cases hlt : 0 < r
    · have ht1 := topN_pos r
      have ht2 := topN_le r hlt
      have HG := Lib.hid (l03Greatest_c r (by omega))
      have HE := Lib.hid (peaksL_cons rs r HB.out.1 hlt)
      have HR := Lib.hid HB.out.2.2.2
      have HA : Hid (∀ v w, Rd w 32 v (topN r) ((kyL rs).take (topN r * 32)) → Ret Try.prog 52 #[v] w fun r' _ => r' = .agg (bA (listK (rs.take (topN r))).1)) := Lib.hid (fun v w h => l03Key_c (topN r) _ (by rw [List.length_take, HB.out.1]; omega) (by omega) v w (by rw [kyL_take] at h; exact h))
      have HD := Lib.hid (kyL_drop rs (topN r))
      have HL := Lib.hid (show (rs.drop (topN r)).length = r - topN r by rw [List.length_drop, HB.out.1])
      generalize listK (rs.take (topN r)) = y at *
      generalize rs.drop (topN r) = rs' at *
      generalize topN r = m at *
      go_wp2_with (first
        | (go_at_call 109; (with_reducible refine mem_call M (HG.out _) ?_); clear M; (try clear wx); rintro _ wx rfl _ M)
        | (with_reducible (show wpList _ _ _ (Oper.mk _ (.slice _ _ none (some _) none) _ _ _ _ :: _) _ _); refine m_slH rfl rfl rfl HR.out m ht2 rfl ?_; intro _ _ R16; have HR16 := Lib.hid R16; clear R16)
        | (go_at_call 52; (with_reducible refine mem_call M (HA.out _ _ (HR16.out.up M.up)) ?_); clear M; (try clear wx); rintro _ wx rfl _ M)
        | (with_reducible (show wpList _ _ _ (Oper.mk _ (.slice _ _ (some _) none none) _ _ _ _ :: _) _ _); refine m_slL rfl rfl rfl HR.out m ht2 rfl ?_; intro _ _ R21; have HR21 := Lib.hid R21; clear R21)
        | (with_reducible (show wpList _ _ _ (Oper.mk (some 5) (.buildSlice _ _ _) _ _ _ _ :: _) _ _); refine m_lit0 M rfl rfl ?_; clear M; (try clear wx); intro g5 wx M)
        | (with_reducible (show wpList _ _ _ (Oper.mk (some 17) (.buildSlice _ _ _) _ _ _ _ :: _) _ _); (first | (refine m_lit1A M rfl rfl rfl (by first | rfl | assumption | (simp; done) | (simp; omega)) (by decide) ?_) | (refine m_lit11 (v := Value.int _ _) M rfl rfl rfl rfl ?_) | (refine m_lit11 (v := Value.slice _ _ _) M rfl rfl rfl rfl ?_) | (refine m_lit11 (v := Value.bool _) M rfl rfl rfl rfl ?_) | (refine m_lit11 (v := Value.string _) M rfl rfl rfl rfl ?_) | (refine m_lit11 (v := Value.pointer _) M rfl rfl rfl rfl ?_)); clear M; (try clear wx); intro g17 wx M)
        | (with_reducible (show wpList _ _ _ (Oper.mk _ (.call (Call.mk (.builtin .append) _ _)) _ _ _ _ :: _) _ _); (first | (refine m_append1 M rfl rfl rfl (by first | rfl | omega | (simp; done)) rfl (by first | rfl | assumption | (simp; done) | (simp; omega)) (by first | exact bA_one _ | exact wA_one _ | assumption | (simp [Value.oneCell']; done)) (by first | assumption | (simp only [maxLen]; omega)) (by omega) ?_)); clear M; (try clear wx); intro _ _ wx M; simp only [List.set_cons_zero, List.set_cons_succ, Nat.zero_add, List.nil_append] at M))
      have hq := HQ.out
      go_roundg (r - m)
      case measure => omega
      case rel =>
        refine ⟨rs', out ++ [y], r - m, k + 1, _, _, _, _, rfl, rfl, rfl, by omega, Lib.hid ⟨HL.out, by rw [List.length_append, HB.out.2.1]; rfl, ?_, ?_⟩, ?_⟩
        · rw [List.append_assoc]
          have := HB.out.2.2.1
          rw [HE.out] at this
          exact this
        · have := HR21.out
          rwa [HD.out] at this
        · rw [← kyL_snoc]
          exact M
    · obtain rfl : r = 0 := by omega
      obtain ⟨h1, h2, h3, -⟩ := HB.out
      obtain rfl := List.eq_nil_of_length_eq_zero h1
      rw [peaksL_nil, List.append_nil] at h3
      subst h3
      have HL := Lib.hid h2
      clear h1 h2
      go_wp2_with (first
        | (with_reducible (show wpList _ _ _ (Oper.mk (some 5) (.buildSlice _ _ _) _ _ _ _ :: _) _ _); refine m_lit0 M rfl rfl ?_; clear M; (try clear wx); intro g5 wx M)
        | (with_reducible (show wpList _ _ _ (Oper.mk (some 17) (.buildSlice _ _ _) _ _ _ _ :: _) _ _); (first | (refine m_lit1A M rfl rfl rfl (by first | rfl | assumption | (simp; done) | (simp; omega)) (by decide) ?_) | (refine m_lit11 (v := Value.int _ _) M rfl rfl rfl rfl ?_) | (refine m_lit11 (v := Value.slice _ _ _) M rfl rfl rfl rfl ?_) | (refine m_lit11 (v := Value.bool _) M rfl rfl rfl rfl ?_) | (refine m_lit11 (v := Value.string _) M rfl rfl rfl rfl ?_) | (refine m_lit11 (v := Value.pointer _) M rfl rfl rfl rfl ?_)); clear M; (try clear wx); intro g17 wx M)
        | (with_reducible (show wpList _ _ _ (Oper.mk _ (.call (Call.mk (.builtin .append) _ _)) _ _ _ _ :: _) _ _); (first | (refine m_append1 M rfl rfl rfl (by first | rfl | omega | (simp; done)) rfl (by first | rfl | assumption | (simp; done) | (simp; omega)) (by first | exact bA_one _ | exact wA_one _ | assumption | (simp [Value.oneCell']; done)) (by first | assumption | (simp only [maxLen]; omega)) (by omega) ?_)); clear M; (try clear wx); intro _ _ wx M; simp only [List.set_cons_zero, List.set_cons_succ, Nat.zero_add, List.nil_append] at M))
      go_ret
      refine ⟨_, rfl, ?_, M.up⟩
      rw [HL.out]
      exact ⟨_, _, rfl, M.out_own (p := 0) rfl⟩

theorem bitsLen_c (n : Nat) (h0 : 0 < n) (h1 : n ≤ 256) (w : World) : Ret Try.prog 110 #[.int .u64 (n : Int)] w fun r _ => r = .int .i64 ((Nat.log2 n + 1 : Nat) : Int) := by
  have := Ret.same (Try.bits_Len (n : Int) w (by omega) (by omega))
  rw [Int.toNat_natCast, bitLen_small _ (by omega) h0] at this
  exact this
set_option maxHeartbeats 8000000 in
set_option maxRecDepth 100000 in
theorem peaks_c (n : Nat) (ks : List Ky) (hks : ks.length = n) (hn : n ≤ 256) (v : Value) (w : World) (hv : Rd w 32 v n (kyL ks)) :
    Ret Try.prog 67 #[v] w fun r w' => OwnR w w' 25 32 r (peaksL ks).length (kyL (peaksL ks)) := by
  obtain ⟨b, cap, rfl⟩ := hv.shape
  have HV := Lib.hid hv
  have HK := Lib.hid hks
  obtain ⟨P, hP⟩ : ∃ P, P = peaksL ks := ⟨_, rfl⟩
  rw [← hP]
  have HP := Lib.hid hP
  refine ret_start fun wx M => ?_
  clear hv hks hP
  go_enter Try.func67, Try.ntmps67
  go_wp2_with (first
    | (with_reducible (show wpList _ _ _ (Oper.mk (some 5) (.buildSlice _ _ _) _ _ _ _ :: _) _ _); refine m_lit0 M rfl rfl ?_; clear M; (try clear wx); intro g5 wx M)
    | (with_reducible (show wpList _ _ _ (Oper.mk (some 20) (.buildSlice _ _ _) _ _ _ _ :: _) _ _); (first | (refine m_lit1A M rfl rfl rfl (by first | rfl | assumption | (simp; done) | (simp; omega)) (by decide) ?_) | (refine m_lit11 (v := Value.int _ _) M rfl rfl rfl rfl ?_) | (refine m_lit11 (v := Value.slice _ _ _) M rfl rfl rfl rfl ?_) | (refine m_lit11 (v := Value.bool _) M rfl rfl rfl rfl ?_) | (refine m_lit11 (v := Value.string _) M rfl rfl rfl rfl ?_) | (refine m_lit11 (v := Value.pointer _) M rfl rfl rfl rfl ?_)); clear M; (try clear wx); intro g20 wx M)
    | (with_reducible (show wpList _ _ _ (Oper.mk _ (.call (Call.mk (.builtin .append) _ _)) _ _ _ _ :: _) _ _); (first | (refine m_append1 M rfl rfl rfl (by first | rfl | omega | (simp; done)) rfl (by first | rfl | assumption | (simp; done) | (simp; omega)) (by first | exact bA_one _ | exact wA_one _ | assumption | (simp [Value.oneCell']; done)) (by first | assumption | (simp only [maxLen]; omega)) (by omega) ?_)); clear M; (try clear wx); intro _ _ wx M; simp only [List.set_cons_zero, List.set_cons_succ, Nat.zero_add, List.nil_append] at M))
  go_loopg [0, 3] n (fun q x y wr => ∃ (rs out : List Ky) (r k : Nat) (b0 : Option Addr) (cap0 : Nat) (b1 : Option Addr) (cap1 : Nat), q = r ∧ x = .slice b0 r cap0 ∧ y = .slice b1 k cap1 ∧ k + r ≤ 256 ∧ Hid (rs.length = r ∧ out.length = k ∧ out ++ peaksL rs = P ∧ Rd w 32 (.slice b0 r cap0) r (kyL rs)) ∧ Mem w wr [.own b1 cap1 25 32 k (kyL out)])
  case atStart => exact ⟨ks, [], n, 0, _, _, _, _, rfl, rfl, rfl, by omega, Lib.hid ⟨HK.out, rfl, HP.out.symm, HV.out⟩, M⟩
  case round =>
    obtain ⟨rs, out, r, k, b0, cap0, b1, cap1, hq, rfl, rfl, hkr, HB, M⟩ := hrel
    have HQ := Lib.hid hq
    clear hq
    by_cases hlt : 0 < r
    · have ht1 := topN_pos r
      have ht2 := topN_le r hlt
      have HG := Lib.hid (bitsLen_c r hlt (by omega))
      have HE := Lib.hid (peaksL_cons rs r HB.out.1 hlt)
      have HR := Lib.hid HB.out.2.2.2
      have HA : Hid (∀ v w, Rd w 32 v (topN r) ((kyL rs).take (topN r * 32)) → Ret Try.prog 55 #[v] w fun r' _ => r' = .agg (bA (listK (rs.take (topN r))).1)) := Lib.hid (fun v w h => listKey_c (topN r) _ (by rw [List.length_take, HB.out.1]; omega) (by omega) v w (by rw [kyL_take] at h; exact h))
      have HD := Lib.hid (kyL_drop rs (topN r))
      have HL := Lib.hid (show (rs.drop (topN r)).length = r - topN r by rw [List.length_drop, HB.out.1])
      have hlog : Nat.log2 r < 9 := (Nat.log2_lt (by omega)).2 (by omega)
      have ht3 : topN r = 2 ^ Nat.log2 r := rfl
      generalize listK (rs.take (topN r)) = y at *
      generalize rs.drop (topN r) = rs' at *
      generalize topN r = m at *
      generalize Nat.log2 r = lg at *
      have : lg = 0 ∨ lg = 1 ∨ lg = 2 ∨ lg = 3 ∨ lg = 4 ∨ lg = 5 ∨ lg = 6 ∨ lg = 7 ∨ lg = 8 := by omega
      rcases this with rfl | rfl | rfl | rfl | rfl | rfl | rfl | rfl | rfl <;>
      · obtain ⟨c, hc⟩ : ∃ c : Nat, c = m := ⟨_, rfl⟩
        subst ht3
        go_wp2_with (first
          | (go_at_call 110; (with_reducible refine mem_call M (HG.out _) ?_); clear M; (try clear wx); rintro _ wx rfl _ M)
          | (with_reducible (show wpList _ _ _ (Oper.mk _ (.slice _ _ none (some _) none) _ _ _ _ :: _) _ _); refine m_slH rfl rfl rfl HR.out _ ht2 rfl ?_; intro _ _ R16; have HR16 := Lib.hid R16; clear R16)
          | (go_at_call 55; (with_reducible refine mem_call M (HA.out _ _ (HR16.out.up M.up)) ?_); clear M; (try clear wx); rintro _ wx rfl _ M)
          | (with_reducible (show wpList _ _ _ (Oper.mk _ (.slice _ _ (some _) none none) _ _ _ _ :: _) _ _); refine m_slL rfl rfl rfl HR.out _ ht2 rfl ?_; intro _ _ R21; have HR21 := Lib.hid R21; clear R21)
          | (with_reducible (show wpList _ _ _ (Oper.mk (some 5) (.buildSlice _ _ _) _ _ _ _ :: _) _ _); refine m_lit0 M rfl rfl ?_; clear M; (try clear wx); intro g5 wx M)
          | (with_reducible (show wpList _ _ _ (Oper.mk (some 20) (.buildSlice _ _ _) _ _ _ _ :: _) _ _); (first | (refine m_lit1A M rfl rfl rfl (by first | rfl | assumption | (simp; done) | (simp; omega)) (by decide) ?_) | (refine m_lit11 (v := Value.int _ _) M rfl rfl rfl rfl ?_) | (refine m_lit11 (v := Value.slice _ _ _) M rfl rfl rfl rfl ?_) | (refine m_lit11 (v := Value.bool _) M rfl rfl rfl rfl ?_) | (refine m_lit11 (v := Value.string _) M rfl rfl rfl rfl ?_) | (refine m_lit11 (v := Value.pointer _) M rfl rfl rfl rfl ?_)); clear M; (try clear wx); intro g20 wx M)
          | (with_reducible (show wpList _ _ _ (Oper.mk _ (.call (Call.mk (.builtin .append) _ _)) _ _ _ _ :: _) _ _); (first | (refine m_append1 M rfl rfl rfl (by first | rfl | omega | (simp; done)) rfl (by first | rfl | assumption | (simp; done) | (simp; omega)) (by first | exact bA_one _ | exact wA_one _ | assumption | (simp [Value.oneCell']; done)) (by first | assumption | (simp only [maxLen]; omega)) (by omega) ?_)); clear M; (try clear wx); intro _ _ wx M; simp only [List.set_cons_zero, List.set_cons_succ, Nat.zero_add, List.nil_append] at M))
        have hq := HQ.out
        go_roundg (r - c)
        case measure => omega
        case rel =>
          subst hc
          refine ⟨rs', out ++ [y], r - _, k + 1, _, _, _, _, rfl, rfl, rfl, by omega, Lib.hid ⟨HL.out, by rw [List.length_append, HB.out.2.1]; rfl, ?_, ?_⟩, ?_⟩
          · rw [List.append_assoc]
            have := HB.out.2.2.1
            rw [HE.out] at this
            exact this
          · have := HR21.out
            rwa [HD.out] at this
          · rw [← kyL_snoc]
            exact M
    · obtain rfl : r = 0 := by omega
      obtain ⟨h1, h2, h3, -⟩ := HB.out
      obtain rfl := List.eq_nil_of_length_eq_zero h1
      rw [peaksL_nil, List.append_nil] at h3
      subst h3
      have HL := Lib.hid h2
      clear h1 h2
      go_wp2_with (first
        | (with_reducible (show wpList _ _ _ (Oper.mk (some 5) (.buildSlice _ _ _) _ _ _ _ :: _) _ _); refine m_lit0 M rfl rfl ?_; clear M; (try clear wx); intro g5 wx M)
        | (with_reducible (show wpList _ _ _ (Oper.mk (some 20) (.buildSlice _ _ _) _ _ _ _ :: _) _ _); (first | (refine m_lit1A M rfl rfl rfl (by first | rfl | assumption | (simp; done) | (simp; omega)) (by decide) ?_) | (refine m_lit11 (v := Value.int _ _) M rfl rfl rfl rfl ?_) | (refine m_lit11 (v := Value.slice _ _ _) M rfl rfl rfl rfl ?_) | (refine m_lit11 (v := Value.bool _) M rfl rfl rfl rfl ?_) | (refine m_lit11 (v := Value.string _) M rfl rfl rfl rfl ?_) | (refine m_lit11 (v := Value.pointer _) M rfl rfl rfl rfl ?_)); clear M; (try clear wx); intro g20 wx M)
        | (with_reducible (show wpList _ _ _ (Oper.mk _ (.call (Call.mk (.builtin .append) _ _)) _ _ _ _ :: _) _ _); (first | (refine m_append1 M rfl rfl rfl (by first | rfl | omega | (simp; done)) rfl (by first | rfl | assumption | (simp; done) | (simp; omega)) (by first | exact bA_one _ | exact wA_one _ | assumption | (simp [Value.oneCell']; done)) (by first | assumption | (simp only [maxLen]; omega)) (by omega) ?_)); clear M; (try clear wx); intro _ _ wx M; simp only [List.set_cons_zero, List.set_cons_succ, Nat.zero_add, List.nil_append] at M))
      go_ret
      refine ⟨_, rfl, ?_, M.up⟩
      rw [HL.out]
      exact ⟨_, _, rfl, M.out_own (p := 0) rfl⟩

def pkT (ks : List Ky) : List Ky × Int := if 256 < ks.length then ([], 3) else (peaksL ks, 0)
theorem pkT_len (ks : List Ky) : (pkT ks).1.length ≤ 256 := by
  unfold pkT
  split
  · exact Nat.zero_le _
  · have := peaksL_len ks.length ks rfl
    show (peaksL ks).length ≤ 256
    omega

end Go.Proofs.Ytmbhaoiahlbglaa

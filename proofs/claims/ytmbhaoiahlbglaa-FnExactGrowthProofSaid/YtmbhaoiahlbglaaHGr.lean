/- Walks: the proof of growth; its law. -/
import Derived.Test.YtmbhaoiahlbglaaHG
namespace Go.Proofs.Ytmbhaoiahlbglaa
open Go.RowKit
set_option linter.unusedVariables false
set_option linter.unusedSimpArgs false

/-- What GrowthProof gives. -/
def gpT (ks : List Ky) (m : Int) : List Ky × Int := if 256 < ks.length then ([], 3) else if 1 ≤ m ∧ m ≤ ks.length then (peaksL (ks.take m.toNat) ++ rngL ks 0 m, 0) else ([], 2)
theorem gpT_len (ks : List Ky) (m : Int) : (gpT ks m).1.length ≤ 512 := by
  unfold gpT
  split
  · exact Nat.zero_le _
  · split
    · have h1 := peaksL_len _ (ks.take m.toNat) rfl
      have h2 := rngL_len _ ks 0 m rfl (by omega)
      have h3 : (ks.take m.toNat).length ≤ ks.length := by rw [List.length_take]; omega
      show (peaksL (ks.take m.toNat) ++ rngL ks 0 m).length ≤ 512
      rw [List.length_append]
      omega
    · exact Nat.zero_le _

set_option maxHeartbeats 2000000 in
set_option maxRecDepth 100000 in
theorem specGrowthProof_c (v : Value) (n : Nat) (ks : List Ky) (hks : ks.length = n) (m : Int) (w : World) (hv : Rd w 32 v n (kyL ks)) (hl : n ≤ 1048576) :
    Ret Try.prog 22 #[v, .int .i64 m] w fun r w' => OwnR2 w w' 25 32 r (gpT ks m).1.length (kyL (gpT ks m).1) (.int .i64 (gpT ks m).2) := by
  obtain ⟨b, cap, rfl⟩ := hv.shape
  have HV := Lib.hid hv
  refine ret_start fun wx M => ?_
  clear hv
  by_cases hbig : 256 < n
  · have HE := Lib.hid (show gpT ks m = ([], 3) by rw [gpT, if_pos (by omega)])
    clear hks
    go_enter Try.func22, Try.ntmps22
    go_wp2_with (first
      | (with_reducible (show wpList _ _ _ (Oper.mk (some 9) (.buildSlice _ _ _) _ _ _ _ :: _) _ _); refine m_lit0 M rfl rfl ?_; clear M; (try clear wx); intro g9 wx M)
      | (with_reducible (show wpList _ _ _ (Oper.mk (some 15) (.buildSlice _ _ _) _ _ _ _ :: _) _ _); refine m_lit0 M rfl rfl ?_; clear M; (try clear wx); intro g15 wx M)
      | (with_reducible (show wpList _ _ _ (Oper.mk _ (.call (Call.mk (.builtin .append) _ _)) _ _ _ _ :: _) _ _); (first | (refine m_append1 M rfl rfl rfl (by first | rfl | omega | (simp; done)) rfl (by first | rfl | assumption | (simp; done) | (simp; omega)) (by first | exact bA_one _ | exact wA_one _ | assumption | (simp [Value.oneCell']; done)) (by first | assumption | (simp only [maxLen]; omega)) (by omega) ?_)); clear M; (try clear wx); intro _ _ wx M; simp only [List.set_cons_zero, List.set_cons_succ, Nat.zero_add, List.nil_append] at M))
    go_ret2
    exact ⟨_, rfl, by rw [HE.out]; exact ⟨_, _, rfl, M.out_own (p := 0) rfl⟩, M.up⟩
  · by_cases hm : 1 ≤ m ∧ m ≤ (n : Int)
    · have HI := Lib.hid (l00In_is m 1 n true (by simp [hm]))
      obtain ⟨m, rfl⟩ : ∃ k : Nat, m = (k : Int) := ⟨m.toNat, by omega⟩
      have hmn : m ≤ n := by omega
      have hm1 : 1 ≤ m := by omega
      have h1 := peaksL_len _ (ks.take m) rfl
      have h2 := rngL_len _ ks 0 m rfl (by omega)
      have h3 : (ks.take m).length = m := by rw [List.length_take]; omega
      have hlen : (peaksL (ks.take m)).length ≤ 256 ∧ (rngL ks 0 m).length ≤ 256 := by omega
      have HA : Hid (∀ v w, Rd w 32 v m ((kyL ks).take (m * 32)) → Ret Try.prog 63 #[v] w fun r w' => OwnR w w' 25 32 r (peaksL (ks.take m)).length (kyL (peaksL (ks.take m)))) := Lib.hid (fun v w h => l03Peaks_c m _ h3 (by omega) v w (by rw [kyL_take] at h; exact h))
      have HB : Hid (∀ v w, Rd w 32 v n (kyL ks) → Ret Try.prog 64 #[v, .int .i64 0, .int .i64 (m : Int)] w fun r w' => OwnR w w' 25 32 r (rngL ks 0 m).length (kyL (rngL ks 0 m))) := Lib.hid (fun v w h => l03Range_c n ks 0 m hks (by omega) (by omega) (by omega) (by omega) (by omega) (by omega) v w h)
      have HE := Lib.hid (show gpT ks m = (peaksL (ks.take m) ++ rngL ks 0 m, 0) by rw [gpT, if_neg (by omega), if_pos (by omega)]; rfl)
      clear hks h1 h2 h3 hm
      generalize peaksL (ks.take m) = q1 at *
      generalize rngL ks 0 m = q2 at *
      obtain ⟨d1, hd1⟩ : ∃ d, q1.length = d := ⟨_, rfl⟩
      obtain ⟨d2, hd2⟩ : ∃ d, q2.length = d := ⟨_, rfl⟩
      rw [hd1] at HA hlen
      rw [hd2] at HB hlen
      have HD := Lib.hid (And.intro hd1 hd2)
      clear hd1 hd2
      obtain ⟨hl1, hl2⟩ := hlen
      go_enter Try.func22, Try.ntmps22
      go_wp2_with (first
        | (go_at_call 62; (with_reducible refine mem_call M (HI.out _) ?_); clear M; (try clear wx); rintro _ wx rfl _ M)
        | (with_reducible (show wpList _ _ _ (Oper.mk _ (.slice _ _ none (some _) none) _ _ _ _ :: _) _ _); refine m_slH rfl rfl rfl HV.out m hmn rfl ?_; intro _ _ R16; have HR16 := Lib.hid R16; clear R16)
        | (go_at_call 63; (with_reducible refine mem_callO M (HA.out _ _ (HR16.out.up M.up)) ?_); clear M; (try clear wx); intro b1 cap1 wx M)
        | (go_at_call 64; (with_reducible refine mem_callO M (HB.out _ _ (HV.out.up M.up)) ?_); clear M; (try clear wx); intro b2 cap2 wx M)
        | (with_reducible (show wpList _ _ _ (Oper.mk (some 9) (.buildSlice _ _ _) _ _ _ _ :: _) _ _); refine m_lit0 M rfl rfl ?_; clear M; (try clear wx); intro g9 wx M)
        | (with_reducible (show wpList _ _ _ (Oper.mk (some 15) (.buildSlice _ _ _) _ _ _ _ :: _) _ _); refine m_lit0 M rfl rfl ?_; clear M; (try clear wx); intro g15 wx M)
        | (with_reducible (show wpList _ _ _ (Oper.mk _ (.call (Call.mk (.builtin .append) _ _)) _ _ _ _ :: _) _ _); (first | (refine m_append M rfl rfl rfl (by first | rfl | omega | (simp; done)) rfl (M.rdK q2) (by first | assumption | (simp only [maxLen]; omega)) (by omega) ?_) | (refine m_append1 M rfl rfl rfl (by first | rfl | omega | (simp; done)) rfl (by first | rfl | assumption | (simp; done) | (simp; omega)) (by first | exact bA_one _ | exact wA_one _ | assumption | (simp [Value.oneCell']; done)) (by first | assumption | (simp only [maxLen]; omega)) (by omega) ?_)); clear M; (try clear wx); intro _ _ wx M; simp only [List.set_cons_zero, List.set_cons_succ, Nat.zero_add, List.nil_append] at M))
      go_ret2
      refine ⟨_, rfl, ?_, M.up⟩
      rw [HE.out]
      show OwnR2 _ _ _ _ _ (q1 ++ q2).length (kyL (q1 ++ q2)) _
      rw [List.length_append, HD.out.1, HD.out.2, kyL_append]
      exact ⟨_, _, rfl, M.out_own (p := 1) rfl⟩
    · have HI := Lib.hid (l00In_is m 1 n false (by simp; omega))
      have HE := Lib.hid (show gpT ks m = ([], 2) by rw [gpT, if_neg (by omega), if_neg (by omega)])
      clear hks hm
      go_enter Try.func22, Try.ntmps22
      go_wp2_with (first
        | (go_at_call 62; (with_reducible refine mem_call M (HI.out _) ?_); clear M; (try clear wx); rintro _ wx rfl _ M)
        | (with_reducible (show wpList _ _ _ (Oper.mk (some 9) (.buildSlice _ _ _) _ _ _ _ :: _) _ _); refine m_lit0 M rfl rfl ?_; clear M; (try clear wx); intro g9 wx M)
        | (with_reducible (show wpList _ _ _ (Oper.mk (some 15) (.buildSlice _ _ _) _ _ _ _ :: _) _ _); refine m_lit0 M rfl rfl ?_; clear M; (try clear wx); intro g15 wx M)
        | (with_reducible (show wpList _ _ _ (Oper.mk _ (.call (Call.mk (.builtin .append) _ _)) _ _ _ _ :: _) _ _); (first | (refine m_append1 M rfl rfl rfl (by first | rfl | omega | (simp; done)) rfl (by first | rfl | assumption | (simp; done) | (simp; omega)) (by first | exact bA_one _ | exact wA_one _ | assumption | (simp [Value.oneCell']; done)) (by first | assumption | (simp only [maxLen]; omega)) (by omega) ?_)); clear M; (try clear wx); intro _ _ wx M; simp only [List.set_cons_zero, List.set_cons_succ, Nat.zero_add, List.nil_append] at M))
      go_ret2
      exact ⟨_, rfl, by rw [HE.out]; exact ⟨_, _, rfl, M.out_own (p := 0) rfl⟩, M.up⟩

set_option maxHeartbeats 2000000 in
set_option maxRecDepth 100000 in
theorem implGrowthProof_c (v : Value) (n : Nat) (ks : List Ky) (hks : ks.length = n) (m : Int) (w : World) (hv : Rd w 32 v n (kyL ks)) (hl : n ≤ 1048576) :
    Ret Try.prog 23 #[v, .int .i64 m] w fun r w' => OwnR2 w w' 25 32 r (gpT ks m).1.length (kyL (gpT ks m).1) (.int .i64 (gpT ks m).2) := by
  obtain ⟨b, cap, rfl⟩ := hv.shape
  have HV := Lib.hid hv
  refine ret_start fun wx M => ?_
  clear hv
  by_cases hbig : 256 < n
  · have HE := Lib.hid (show gpT ks m = ([], 3) by rw [gpT, if_pos (by omega)])
    clear hks
    go_enter Try.func23, Try.ntmps23
    go_wp2_with (first
      | (go_at_call 66; (with_reducible refine mem_call M (sizeKey_c _ _ _ _) ?_); clear M; (try clear wx); rintro _ wx rfl _ M)
      | (with_reducible (show wpList _ _ _ (Oper.mk _ (.call (Call.mk (.builtin .append) _ _)) _ _ _ _ :: _) _ _); (first | (refine m_append1 M rfl rfl rfl (by first | rfl | omega | (simp; done)) rfl (by first | rfl | assumption | (simp; done) | (simp; omega)) (by first | exact bA_one _ | exact wA_one _ | assumption | (simp [Value.oneCell']; done)) (by first | assumption | (simp only [maxLen]; omega)) (by omega) ?_)); clear M; (try clear wx); intro _ _ wx M; simp only [List.set_cons_zero, List.set_cons_succ, Nat.zero_add, List.nil_append] at M))
    go_ret2
    exact ⟨_, rfl, by rw [HE.out]; exact ⟨_, _, rfl, (M.nil_own 25 32).out_own (p := 0) rfl⟩, M.up⟩
  · by_cases hm : 1 ≤ m ∧ m ≤ (n : Int)
    · have HI := Lib.hid (within_is m 1 n true (by simp [hm]))
      obtain ⟨m, rfl⟩ : ∃ k : Nat, m = (k : Int) := ⟨m.toNat, by omega⟩
      have hmn : m ≤ n := by omega
      have hm1 : 1 ≤ m := by omega
      have h1 := peaksL_len _ (ks.take m) rfl
      have h2 := rngL_len _ ks 0 m rfl (by omega)
      have h3 : (ks.take m).length = m := by rw [List.length_take]; omega
      have hlen : (peaksL (ks.take m)).length ≤ 256 ∧ (rngL ks 0 m).length ≤ 256 := by omega
      have HA : Hid (∀ v w, Rd w 32 v m ((kyL ks).take (m * 32)) → Ret Try.prog 67 #[v] w fun r w' => OwnR w w' 25 32 r (peaksL (ks.take m)).length (kyL (peaksL (ks.take m)))) := Lib.hid (fun v w h => peaks_c m _ h3 (by omega) v w (by rw [kyL_take] at h; exact h))
      have HB : Hid (∀ v w, Rd w 32 v n (kyL ks) → Ret Try.prog 68 #[v, .int .i64 0, .int .i64 (m : Int)] w fun r w' => OwnR w w' 25 32 r (rngL ks 0 m).length (kyL (rngL ks 0 m))) := Lib.hid (fun v w h => rangeProof_c n ks 0 m hks (by omega) (by omega) (by omega) (by omega) (by omega) (by omega) v w h)
      have HE := Lib.hid (show gpT ks m = (peaksL (ks.take m) ++ rngL ks 0 m, 0) by rw [gpT, if_neg (by omega), if_pos (by omega)]; rfl)
      clear hks h1 h2 h3 hm
      generalize peaksL (ks.take m) = q1 at *
      generalize rngL ks 0 m = q2 at *
      obtain ⟨d1, hd1⟩ : ∃ d, q1.length = d := ⟨_, rfl⟩
      obtain ⟨d2, hd2⟩ : ∃ d, q2.length = d := ⟨_, rfl⟩
      rw [hd1] at HA hlen
      rw [hd2] at HB hlen
      have HD := Lib.hid (And.intro hd1 hd2)
      clear hd1 hd2
      obtain ⟨hl1, hl2⟩ := hlen
      go_enter Try.func23, Try.ntmps23
      go_wp2_with (first
        | (go_at_call 66; (with_reducible refine mem_call M (sizeKey_c _ _ _ _) ?_); clear M; (try clear wx); rintro _ wx rfl _ M)
        | (go_at_call 65; (with_reducible refine mem_call M (HI.out _) ?_); clear M; (try clear wx); rintro _ wx rfl _ M)
        | (with_reducible (show wpList _ _ _ (Oper.mk _ (.slice _ _ none (some _) none) _ _ _ _ :: _) _ _); refine m_slH rfl rfl rfl HV.out m hmn rfl ?_; intro _ _ R16; have HR16 := Lib.hid R16; clear R16)
        | (go_at_call 67; (with_reducible refine mem_callO M (HA.out _ _ (HR16.out.up M.up)) ?_); clear M; (try clear wx); intro b1 cap1 wx M)
        | (go_at_call 68; (with_reducible refine mem_callO M (HB.out _ _ (HV.out.up M.up)) ?_); clear M; (try clear wx); intro b2 cap2 wx M)
        | (with_reducible (show wpList _ _ _ (Oper.mk _ (.call (Call.mk (.builtin .append) _ _)) _ _ _ _ :: _) _ _); (first | (refine m_append M rfl rfl rfl (by first | rfl | omega | (simp; done)) rfl (M.rdK q2) (by first | assumption | (simp only [maxLen]; omega)) (by omega) ?_) | (refine m_append1 M rfl rfl rfl (by first | rfl | omega | (simp; done)) rfl (by first | rfl | assumption | (simp; done) | (simp; omega)) (by first | exact bA_one _ | exact wA_one _ | assumption | (simp [Value.oneCell']; done)) (by first | assumption | (simp only [maxLen]; omega)) (by omega) ?_)); clear M; (try clear wx); intro _ _ wx M; simp only [List.set_cons_zero, List.set_cons_succ, Nat.zero_add, List.nil_append] at M))
      go_ret2
      refine ⟨_, rfl, ?_, M.up⟩
      rw [HE.out]
      show OwnR2 _ _ _ _ _ (q1 ++ q2).length (kyL (q1 ++ q2)) _
      rw [List.length_append, HD.out.1, HD.out.2, kyL_append]
      exact ⟨_, _, rfl, M.out_own (p := 1) rfl⟩
    · have HI := Lib.hid (within_is m 1 n false (by simp; omega))
      have HE := Lib.hid (show gpT ks m = ([], 2) by rw [gpT, if_neg (by omega), if_neg (by omega)])
      clear hks hm
      go_enter Try.func23, Try.ntmps23
      go_wp2_with (first
        | (go_at_call 66; (with_reducible refine mem_call M (sizeKey_c _ _ _ _) ?_); clear M; (try clear wx); rintro _ wx rfl _ M)
        | (go_at_call 65; (with_reducible refine mem_call M (HI.out _) ?_); clear M; (try clear wx); rintro _ wx rfl _ M)
        | (with_reducible (show wpList _ _ _ (Oper.mk _ (.call (Call.mk (.builtin .append) _ _)) _ _ _ _ :: _) _ _); (first | (refine m_append1 M rfl rfl rfl (by first | rfl | omega | (simp; done)) rfl (by first | rfl | assumption | (simp; done) | (simp; omega)) (by first | exact bA_one _ | exact wA_one _ | assumption | (simp [Value.oneCell']; done)) (by first | assumption | (simp only [maxLen]; omega)) (by omega) ?_)); clear M; (try clear wx); intro _ _ wx M; simp only [List.set_cons_zero, List.set_cons_succ, Nat.zero_add, List.nil_append] at M))
      go_ret2
      exact ⟨_, rfl, by rw [HE.out]; exact ⟨_, _, rfl, (M.nil_own 25 32).out_own (p := 0) rfl⟩, M.up⟩

set_option maxHeartbeats 4000000 in
set_option maxRecDepth 100000 in
theorem lawGrowthProof_c (v : Value) (i : Int) (ks : List Ky) (w : World) (hv : Rd w 32 v ks.length (kyL ks)) : Calls Try.prog 5 #[v, .int .i64 i] w fun e w' => e = .returned (.bool true) ∧ Up w w' := by
  obtain ⟨n, hn⟩ : ∃ n, ks.length = n := ⟨_, rfl⟩
  rw [hn] at hv
  obtain ⟨b, cap, rfl⟩ := hv.shape
  have hml : n ≤ maxLen := by have := hv.len_; omega
  have HV := Lib.hid hv
  have HN := Lib.hid hn
  have hmm : maxLen ≤ 9223372036854775807 := by decide
  have hml' : n ≤ 9223372036854775807 := by omega
  clear hv hn hmm
  have M := Mem.start w
  by_cases hbig : (1048576 : Int) - n < 0
  · go_enter Try.func5, Try.ntmps5
    go_wp2_with (first
      | (go_at_call 13; (with_reducible refine mem_call M (szKeyS_r _ n _ hml _) ?_); clear M; (try clear wx); rintro _ wx rfl _ M; rw [if_pos hbig]))
    go_ret
    exact ⟨rfl, M.up⟩
  · have hl : n ≤ 1048576 := by omega
    have hpl := gpT_len ks i
    have HS : Hid (∀ v w, Rd w 32 v n (kyL ks) → Ret Try.prog 22 #[v, .int .i64 i] w fun r w' => OwnR2 w w' 25 32 r (gpT ks i).1.length (kyL (gpT ks i).1) (.int .i64 (gpT ks i).2)) := Lib.hid (fun v w h => specGrowthProof_c v n ks HN.out i w h hl)
    have HI : Hid (∀ v w, Rd w 32 v n (kyL ks) → Ret Try.prog 23 #[v, .int .i64 i] w fun r w' => OwnR2 w w' 25 32 r (gpT ks i).1.length (kyL (gpT ks i).1) (.int .i64 (gpT ks i).2)) := Lib.hid (fun v w h => implGrowthProof_c v n ks HN.out i w h hl)
    generalize (gpT ks i).2 = c at *
    generalize (gpT ks i).1 = q at *
    obtain ⟨d, hd⟩ : ∃ d, q.length = d := ⟨_, rfl⟩
    rw [hd] at HS HI hpl
    have HD := Lib.hid hd
    clear hd
    go_enter Try.func5, Try.ntmps5
    go_wp2_with (first
      | (go_at_call 13; (with_reducible refine mem_call M (szKeyS_r _ n _ hml _) ?_); clear M; (try clear wx); rintro _ wx rfl _ M; rw [if_neg hbig])
      | (go_at_call 15; (with_reducible refine mem_callO M (toKeyS_c _ n ks HN.out _ (HV.out.up M.up) hl) ?_); clear M; (try clear wx); intro b_ cap_ wx M)
      | (go_at_call 22; (with_reducible refine mem_callO2 M (HS.out _ _ (M.rdK ks)) ?_); clear M; (try clear wx); intro b_ cap_ wx M)
      | (go_at_call 23; (with_reducible refine mem_callO2 M (HI.out _ _ (M.rdK ks)) ?_); clear M; (try clear wx); intro b_ cap_ wx M)
      | (go_at_call 18; (first | (with_reducible refine mem_call M (eqKeyS_same _ _ n ks HN.out _ (by omega) (M.rdK ks) (M.rdK ks)) ?_) | (with_reducible refine mem_call M (eqKeyS_same _ _ d q HD.out _ (by omega) (M.rdK q) (M.rdK q)) ?_)); clear M; (try clear wx); rintro _ wx rfl _ M)
      | (go_at_call 24; (with_reducible refine mem_callW M (fun h => markKeyS_1 _ _ _ _ _ _ (by omega) h) ?_); clear M; (try clear wx); intro wx M; simp only [List.set_cons_zero, List.set_cons_succ, Nat.zero_add, List.nil_append] at M)
      | (go_at_call 25; (with_reducible refine mem_call M (heldKeyS_1 _ _ _ (by omega) (M.rdK (markK 1 d))) ?_); clear M; (try clear wx); rintro _ wx rfl _ M))
    go_ret
    exact ⟨rfl, M.up⟩

end Go.Proofs.Ytmbhaoiahlbglaa

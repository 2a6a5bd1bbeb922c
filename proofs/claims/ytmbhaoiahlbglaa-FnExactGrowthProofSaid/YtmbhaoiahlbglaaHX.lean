/- Walks: proofs of ranges. -/
import Derived.Test.YtmbhaoiahlbglaaHW
namespace Go.Proofs.Ytmbhaoiahlbglaa
open Go.RowKit
set_option linter.unusedVariables false
set_option linter.unusedSimpArgs false

/-- The keys of the greatest parts that have no leaf of a range. -/
def rngL (ks : List Ky) (i j : Int) : List Ky :=
  if j ≤ 0 ∨ (ks.length : Int) ≤ i then [listK ks] else
    if h : ks.length ≤ 1 then [] else
      rngL (ks.take (halfN ks.length)) i j ++ rngL (ks.drop (halfN ks.length)) (i - halfN ks.length) (j - halfN ks.length)
termination_by ks.length
decreasing_by
  · rw [List.length_take]; have := halfN_lt ks.length (by omega); omega
  · rw [List.length_drop]; have := halfN_pos ks.length; omega
theorem rngL_out (ks : List Ky) (i j : Int) (h : j ≤ 0 ∨ (ks.length : Int) ≤ i) : rngL ks i j = [listK ks] := by rw [rngL, if_pos h]
theorem rngL_1 (ks : List Ky) (i j : Int) (h : ¬ (j ≤ 0 ∨ (ks.length : Int) ≤ i)) (h1 : ks.length ≤ 1) : rngL ks i j = [] := by rw [rngL, if_neg h, dif_pos h1]
theorem rngL_2 (ks : List Ky) (i j : Int) (n : Nat) (hn : ks.length = n) (h : ¬ (j ≤ 0 ∨ (n : Int) ≤ i)) (h2 : 2 ≤ n) : rngL ks i j = rngL (ks.take (halfN n)) i j ++ rngL (ks.drop (halfN n)) (i - halfN n) (j - halfN n) := by
  subst hn
  rw [rngL, if_neg h, dif_neg (by omega)]
theorem rngL_len (n : Nat) : ∀ (ks : List Ky) (i j : Int), ks.length = n → 1 ≤ n → (rngL ks i j).length ≤ n := by
  induction n using Nat.strongRecOn with
  | ind n ih =>
  intro ks i j hn h1
  by_cases h : j ≤ 0 ∨ (n : Int) ≤ i
  · rw [rngL_out ks i j (by rw [hn]; exact h)]; exact h1
  · have h2 := halfN_pos n
    by_cases h1' : n = 1
    · rw [rngL_1 ks i j (by rw [hn]; exact h) (by omega)]; exact Nat.zero_le _
    · have h3 := halfN_lt n (by omega)
      rw [rngL_2 ks i j n hn h (by omega), List.length_append]
      have a := ih _ h3 (ks.take (halfN n)) i j (by rw [List.length_take]; omega) h2
      have b := ih (n - halfN n) (by omega) (ks.drop (halfN n)) (i - halfN n) (j - halfN n) (by rw [List.length_drop]; omega) (by omega)
      omega
theorem rngL_all (n : Nat) : ∀ (ks : List Ky) (i j : Int), ks.length = n → 1 ≤ n → i ≤ 0 → (n : Int) ≤ j → rngL ks i j = [] := by
  induction n using Nat.strongRecOn with
  | ind n ih =>
  intro ks i j hn h1 hi hj
  have h : ¬ (j ≤ 0 ∨ (n : Int) ≤ i) := by omega
  have h2 := halfN_pos n
  by_cases h1' : n = 1
  · exact rngL_1 ks i j (by rw [hn]; exact h) (by omega)
  · have h3 := halfN_lt n (by omega)
    rw [rngL_2 ks i j n hn h (by omega), ih _ h3 (ks.take (halfN n)) i j (by rw [List.length_take]; omega) h2 hi (by omega), ih (n - halfN n) (by omega) (ks.drop (halfN n)) (i - halfN n) (j - halfN n) (by rw [List.length_drop]; omega) (by omega) (by omega) (by omega)]
    rfl
/-- Two slices made in a region, one after the other. -/
theorem Mem.ownFr2 {w0 w : World} {L : List It} (M : Mem w0 w L) {e : TypeId} {size n : Nat} {xs : List Value} {v : Value} {n' : Nat} {xs' : List Value} {v' : Value} (h : OwnFr w0 L e size n xs v w) (h' : OwnFr w0 L e size n' xs' v' w) (h1 : ∀ u ∈ xs', u.oneCell' = true) :
    ∃ b cap, v = .slice b n cap ∧ Mem w0 w (.own b cap e size n xs :: L) ∧ Rd w size v' n' xs' := by
  obtain ⟨b, cap, hv, M'⟩ := M.ownFr h
  obtain ⟨b2, cap2, hv2, M2⟩ := M.ownFr h'
  exact ⟨b, cap, hv, M', by rw [hv2]; exact M2.rd (p := 0) rfl h1⟩

theorem one_key (y : Ky) : (bA y.1).toList.take (1 * 32) = kyL [y] := by
  rw [bA_toList, List.take_of_length_le (by simp [bL_length])]
  simp [kyL]

set_option maxHeartbeats 4000000 in
set_option maxRecDepth 100000 in
theorem l03Range_c (n : Nat) : ∀ (ks : List Ky) (i j : Int), ks.length = n → 1 ≤ n → n ≤ 256 → (n : Int) - 256 ≤ i → i ≤ 256 → (n : Int) - 256 ≤ j → j ≤ 256 → ∀ v w, Rd w 32 v n (kyL ks) →
    Ret Try.prog 64 #[v, .int .i64 i, .int .i64 j] w fun r w' => OwnR w w' 25 32 r (rngL ks i j).length (kyL (rngL ks i j)) := by
  induction n using Nat.strongRecOn with
  | ind n ih =>
  intro ks i j hks h1 hn hi1 hi2 hj1 hj2 v w hv
  obtain ⟨b, cap, rfl⟩ := hv.shape
  have HV := Lib.hid hv
  have IH := Lib.hid ih
  clear ih hv
  refine ret_start fun wx M => ?_
  by_cases hout : j ≤ 0 ∨ (n : Int) ≤ i
  · have HB : Hid (∀ v w, Rd w 32 v n (kyL ks) → Ret Try.prog 52 #[v] w fun r _ => r = .agg (bA (listK ks).1)) := Lib.hid (fun v w h => l03Key_c n _ hks hn v w h)
    rw [rngL_out ks i j (by rw [hks]; exact hout)]
    clear hks
    generalize listK ks = y at *
    rcases hout with hout | hout
    · go_enter Try.func64, Try.ntmps64
      go_wp2_with (first
        | (go_at_call 52; (with_reducible refine mem_call M (HB.out _ _ (HV.out.up M.up)) ?_); clear M; (try clear wx); rintro _ wx rfl _ M)
        | (with_reducible (show wpList _ _ _ (Oper.mk (some 20) (.buildSlice _ _ _) _ _ _ _ :: _) _ _); (first | (refine m_lit1A M rfl rfl rfl (by first | rfl | assumption | (simp; done) | (simp; omega)) (by decide) ?_) | (refine m_lit11 (v := Value.int _ _) M rfl rfl rfl rfl ?_) | (refine m_lit11 (v := Value.slice _ _ _) M rfl rfl rfl rfl ?_) | (refine m_lit11 (v := Value.bool _) M rfl rfl rfl rfl ?_) | (refine m_lit11 (v := Value.string _) M rfl rfl rfl rfl ?_) | (refine m_lit11 (v := Value.pointer _) M rfl rfl rfl rfl ?_)); clear M; (try clear wx); intro g20 wx M)
        | (with_reducible (show wpList _ _ _ (Oper.mk (some 32) (.buildSlice _ _ _) _ _ _ _ :: _) _ _); refine m_lit0 M rfl rfl ?_; clear M; (try clear wx); intro g32 wx M)
        | (with_reducible (show wpList _ _ _ (Oper.mk _ (.call (Call.mk (.builtin .append) _ _)) _ _ _ _ :: _) _ _); (first | (refine m_append1 M rfl rfl rfl (by first | rfl | omega | (simp; done)) rfl (by first | rfl | assumption | (simp; done) | (simp; omega)) (by first | exact bA_one _ | exact wA_one _ | assumption | (simp [Value.oneCell']; done)) (by first | assumption | (simp only [maxLen]; omega)) (by omega) ?_)); clear M; (try clear wx); intro _ _ wx M; simp only [List.set_cons_zero, List.set_cons_succ, Nat.zero_add, List.nil_append] at M))
      go_ret
      have M := M.blk_own (p := 0) rfl 32 1 1 (Nat.le_refl _) (by simp only [maxLen]; omega) (by simp) (xs := kyL [y]) (one_key y)
      exact ⟨_, rfl, ⟨_, _, rfl, M.out_own (p := 0) rfl⟩, M.up⟩
    · by_cases hj0 : j ≤ 0
      · go_enter Try.func64, Try.ntmps64
        go_wp2_with (first
          | (go_at_call 52; (with_reducible refine mem_call M (HB.out _ _ (HV.out.up M.up)) ?_); clear M; (try clear wx); rintro _ wx rfl _ M)
          | (with_reducible (show wpList _ _ _ (Oper.mk (some 20) (.buildSlice _ _ _) _ _ _ _ :: _) _ _); (first | (refine m_lit1A M rfl rfl rfl (by first | rfl | assumption | (simp; done) | (simp; omega)) (by decide) ?_) | (refine m_lit11 (v := Value.int _ _) M rfl rfl rfl rfl ?_) | (refine m_lit11 (v := Value.slice _ _ _) M rfl rfl rfl rfl ?_) | (refine m_lit11 (v := Value.bool _) M rfl rfl rfl rfl ?_) | (refine m_lit11 (v := Value.string _) M rfl rfl rfl rfl ?_) | (refine m_lit11 (v := Value.pointer _) M rfl rfl rfl rfl ?_)); clear M; (try clear wx); intro g20 wx M)
          | (with_reducible (show wpList _ _ _ (Oper.mk (some 32) (.buildSlice _ _ _) _ _ _ _ :: _) _ _); refine m_lit0 M rfl rfl ?_; clear M; (try clear wx); intro g32 wx M)
          | (with_reducible (show wpList _ _ _ (Oper.mk _ (.call (Call.mk (.builtin .append) _ _)) _ _ _ _ :: _) _ _); (first | (refine m_append1 M rfl rfl rfl (by first | rfl | omega | (simp; done)) rfl (by first | rfl | assumption | (simp; done) | (simp; omega)) (by first | exact bA_one _ | exact wA_one _ | assumption | (simp [Value.oneCell']; done)) (by first | assumption | (simp only [maxLen]; omega)) (by omega) ?_)); clear M; (try clear wx); intro _ _ wx M; simp only [List.set_cons_zero, List.set_cons_succ, Nat.zero_add, List.nil_append] at M))
        go_ret
        have M := M.blk_own (p := 0) rfl 32 1 1 (Nat.le_refl _) (by simp only [maxLen]; omega) (by simp) (xs := kyL [y]) (one_key y)
        exact ⟨_, rfl, ⟨_, _, rfl, M.out_own (p := 0) rfl⟩, M.up⟩
      · go_enter Try.func64, Try.ntmps64
        go_wp2_with (first
          | (go_at_call 52; (with_reducible refine mem_call M (HB.out _ _ (HV.out.up M.up)) ?_); clear M; (try clear wx); rintro _ wx rfl _ M)
          | (with_reducible (show wpList _ _ _ (Oper.mk (some 20) (.buildSlice _ _ _) _ _ _ _ :: _) _ _); (first | (refine m_lit1A M rfl rfl rfl (by first | rfl | assumption | (simp; done) | (simp; omega)) (by decide) ?_) | (refine m_lit11 (v := Value.int _ _) M rfl rfl rfl rfl ?_) | (refine m_lit11 (v := Value.slice _ _ _) M rfl rfl rfl rfl ?_) | (refine m_lit11 (v := Value.bool _) M rfl rfl rfl rfl ?_) | (refine m_lit11 (v := Value.string _) M rfl rfl rfl rfl ?_) | (refine m_lit11 (v := Value.pointer _) M rfl rfl rfl rfl ?_)); clear M; (try clear wx); intro g20 wx M)
          | (with_reducible (show wpList _ _ _ (Oper.mk (some 32) (.buildSlice _ _ _) _ _ _ _ :: _) _ _); refine m_lit0 M rfl rfl ?_; clear M; (try clear wx); intro g32 wx M)
          | (with_reducible (show wpList _ _ _ (Oper.mk _ (.call (Call.mk (.builtin .append) _ _)) _ _ _ _ :: _) _ _); (first | (refine m_append1 M rfl rfl rfl (by first | rfl | omega | (simp; done)) rfl (by first | rfl | assumption | (simp; done) | (simp; omega)) (by first | exact bA_one _ | exact wA_one _ | assumption | (simp [Value.oneCell']; done)) (by first | assumption | (simp only [maxLen]; omega)) (by omega) ?_)); clear M; (try clear wx); intro _ _ wx M; simp only [List.set_cons_zero, List.set_cons_succ, Nat.zero_add, List.nil_append] at M))
        go_ret
        have M := M.blk_own (p := 0) rfl 32 1 1 (Nat.le_refl _) (by simp only [maxLen]; omega) (by simp) (xs := kyL [y]) (one_key y)
        exact ⟨_, rfl, ⟨_, _, rfl, M.out_own (p := 0) rfl⟩, M.up⟩
  · have ho1 : ¬ j ≤ 0 := fun h => hout (.inl h)
    have ho2 : ¬ (n : Int) ≤ i := fun h => hout (.inr h)
    by_cases hn1 : n = 1
    · subst hn1
      rw [rngL_1 ks i j (by rw [hks]; exact hout) (by omega)]
      clear hks hout
      go_enter Try.func64, Try.ntmps64
      go_wp2_with (first
        | (with_reducible (show wpList _ _ _ (Oper.mk (some 20) (.buildSlice _ _ _) _ _ _ _ :: _) _ _); (first | (refine m_lit1A M rfl rfl rfl (by first | rfl | assumption | (simp; done) | (simp; omega)) (by decide) ?_) | (refine m_lit11 (v := Value.int _ _) M rfl rfl rfl rfl ?_) | (refine m_lit11 (v := Value.slice _ _ _) M rfl rfl rfl rfl ?_) | (refine m_lit11 (v := Value.bool _) M rfl rfl rfl rfl ?_) | (refine m_lit11 (v := Value.string _) M rfl rfl rfl rfl ?_) | (refine m_lit11 (v := Value.pointer _) M rfl rfl rfl rfl ?_)); clear M; (try clear wx); intro g20 wx M)
        | (with_reducible (show wpList _ _ _ (Oper.mk (some 32) (.buildSlice _ _ _) _ _ _ _ :: _) _ _); refine m_lit0 M rfl rfl ?_; clear M; (try clear wx); intro g32 wx M)
        | (with_reducible (show wpList _ _ _ (Oper.mk _ (.call (Call.mk (.builtin .append) _ _)) _ _ _ _ :: _) _ _); (first | (refine m_append1 M rfl rfl rfl (by first | rfl | omega | (simp; done)) rfl (by first | rfl | assumption | (simp; done) | (simp; omega)) (by first | exact bA_one _ | exact wA_one _ | assumption | (simp [Value.oneCell']; done)) (by first | assumption | (simp only [maxLen]; omega)) (by omega) ?_)); clear M; (try clear wx); intro _ _ wx M; simp only [List.set_cons_zero, List.set_cons_succ, Nat.zero_add, List.nil_append] at M))
      go_ret
      exact ⟨_, rfl, ⟨_, _, rfl, M.out_own (p := 0) rfl⟩, M.up⟩
    · by_cases hall : i ≤ 0 ∧ (n : Int) ≤ j
      · obtain ⟨hall1, hall2⟩ := hall
        rw [rngL_all n ks i j hks h1 hall1 hall2]
        clear hks hout
        go_enter Try.func64, Try.ntmps64
        go_wp2_with (first
          | (with_reducible (show wpList _ _ _ (Oper.mk (some 20) (.buildSlice _ _ _) _ _ _ _ :: _) _ _); (first | (refine m_lit1A M rfl rfl rfl (by first | rfl | assumption | (simp; done) | (simp; omega)) (by decide) ?_) | (refine m_lit11 (v := Value.int _ _) M rfl rfl rfl rfl ?_) | (refine m_lit11 (v := Value.slice _ _ _) M rfl rfl rfl rfl ?_) | (refine m_lit11 (v := Value.bool _) M rfl rfl rfl rfl ?_) | (refine m_lit11 (v := Value.string _) M rfl rfl rfl rfl ?_) | (refine m_lit11 (v := Value.pointer _) M rfl rfl rfl rfl ?_)); clear M; (try clear wx); intro g20 wx M)
          | (with_reducible (show wpList _ _ _ (Oper.mk (some 32) (.buildSlice _ _ _) _ _ _ _ :: _) _ _); refine m_lit0 M rfl rfl ?_; clear M; (try clear wx); intro g32 wx M)
          | (with_reducible (show wpList _ _ _ (Oper.mk _ (.call (Call.mk (.builtin .append) _ _)) _ _ _ _ :: _) _ _); (first | (refine m_append1 M rfl rfl rfl (by first | rfl | omega | (simp; done)) rfl (by first | rfl | assumption | (simp; done) | (simp; omega)) (by first | exact bA_one _ | exact wA_one _ | assumption | (simp [Value.oneCell']; done)) (by first | assumption | (simp only [maxLen]; omega)) (by omega) ?_)); clear M; (try clear wx); intro _ _ wx M; simp only [List.set_cons_zero, List.set_cons_succ, Nat.zero_add, List.nil_append] at M))
        go_ret
        exact ⟨_, rfl, ⟨_, _, rfl, M.out_own (p := 0) rfl⟩, M.up⟩
      have hall' : i ≤ 0 → ¬ (n : Int) ≤ j := fun h1 h2 => hall ⟨h1, h2⟩
      clear hall
      by_cases hi0 : i ≤ 0
      · have hjn := hall' hi0
        clear hall'
        have h2 : 2 ≤ n := by omega
        have hm1 := halfN_lt n h2
        have hm2 := halfN_pos n
        have HH := Lib.hid (l03Half_c n (by omega))
        obtain ⟨d1, hd1⟩ : ∃ d, d = (rngL (ks.take (halfN n)) i j).length := ⟨_, rfl⟩
        obtain ⟨d2, hd2⟩ : ∃ d, d = (rngL (ks.drop (halfN n)) (i - halfN n) (j - halfN n)).length := ⟨_, rfl⟩
        have hb1 : d1 ≤ 256 := by have := rngL_len _ (ks.take (halfN n)) i j (by rw [List.length_take, hks]; omega) hm2; omega
        have hb2 : d2 ≤ 256 := by have := rngL_len (n - halfN n) (ks.drop (halfN n)) (i - halfN n) (j - halfN n) (by rw [List.length_drop, hks]) (by omega); omega
        have HE := Lib.hid (show (rngL ks i j).length = d1 + d2 ∧ kyL (rngL ks i j) = kyL (rngL (ks.take (halfN n)) i j) ++ kyL (rngL (ks.drop (halfN n)) (i - halfN n) (j - halfN n)) by rw [rngL_2 ks i j n hks hout h2, kyL_append, List.length_append, hd1, hd2]; exact ⟨rfl, rfl⟩)
        have HA : Hid (∀ v w, Rd w 32 v (halfN n) ((kyL ks).take (halfN n * 32)) → Ret Try.prog 64 #[v, .int .i64 i, .int .i64 j] w fun r w' => OwnR w w' 25 32 r d1 (kyL (rngL (ks.take (halfN n)) i j))) := Lib.hid (fun v w h => by rw [hd1]; exact IH.out _ hm1 _ i j (by rw [List.length_take]; omega) hm2 (by omega) (by omega) hi2 (by omega) hj2 v w (by rw [kyL_take] at h; exact h))
        have HB : Hid (∀ v w, Rd w 32 v (n - halfN n) ((kyL ks).drop (halfN n * 32)) → Ret Try.prog 64 #[v, .int .i64 (i - (halfN n : Int)), .int .i64 (j - (halfN n : Int))] w fun r w' => OwnR w w' 25 32 r d2 (kyL (rngL (ks.drop (halfN n)) (i - halfN n) (j - halfN n)))) := Lib.hid (fun v w h => by rw [hd2]; exact IH.out (n - halfN n) (by omega) _ _ _ (by rw [List.length_drop, hks]) (by omega) (by omega) (by omega) (by omega) (by omega) (by omega) v w (by rw [kyL_drop] at h; exact h))
        have hx2 := kyL_one (rngL (ks.drop (halfN n)) (i - halfN n) (j - halfN n))
        clear hks hd1 hd2 hout
        generalize kyL (rngL (ks.take (halfN n)) i j) = xs at *
        generalize kyL (rngL (ks.drop (halfN n)) (i - halfN n) (j - halfN n)) = ys at *
        generalize halfN n = m at *
        go_enter Try.func64, Try.ntmps64
        go_wp2_with (first
          | (go_at_call 103; (with_reducible refine mem_call M (HH.out _) ?_); clear M; (try clear wx); rintro _ wx rfl _ M)
          | (with_reducible (show wpList _ _ _ (Oper.mk (some 20) (.buildSlice _ _ _) _ _ _ _ :: _) _ _); (first | (refine m_lit1A M rfl rfl rfl (by first | rfl | assumption | (simp; done) | (simp; omega)) (by decide) ?_) | (refine m_lit11 (v := Value.int _ _) M rfl rfl rfl rfl ?_) | (refine m_lit11 (v := Value.slice _ _ _) M rfl rfl rfl rfl ?_) | (refine m_lit11 (v := Value.bool _) M rfl rfl rfl rfl ?_) | (refine m_lit11 (v := Value.string _) M rfl rfl rfl rfl ?_) | (refine m_lit11 (v := Value.pointer _) M rfl rfl rfl rfl ?_)); clear M; (try clear wx); intro g20 wx M)
          | (with_reducible (show wpList _ _ _ (Oper.mk (some 32) (.buildSlice _ _ _) _ _ _ _ :: _) _ _); refine m_lit0 M rfl rfl ?_; clear M; (try clear wx); intro g32 wx M)
          | (with_reducible (show wpList _ _ _ (Oper.mk _ (.call (Call.mk (.builtin .append) _ _)) _ _ _ _ :: _) _ _); (first | (refine m_append1 M rfl rfl rfl (by first | rfl | omega | (simp; done)) rfl (by first | rfl | assumption | (simp; done) | (simp; omega)) (by first | exact bA_one _ | exact wA_one _ | assumption | (simp [Value.oneCell']; done)) (by first | assumption | (simp only [maxLen]; omega)) (by omega) ?_)); clear M; (try clear wx); intro _ _ wx M; simp only [List.set_cons_zero, List.set_cons_succ, Nat.zero_add, List.nil_append] at M))
        refine region_mono (m := 16) mixedOrders_ (by kernel_rfl) (by kernel_rfl)
          (fun | 0 => fun vq _ => vq = .slice b n cap | 1 => fun vq _ => vq = .int .i64 (m : Int) | 2 => fun v wx => Rd wx 32 v m ((kyL ks).take (m * 32)) | 3 => fun vq _ => vq = .int .i64 i | 4 => fun vq _ => vq = .int .i64 j | 5 => fun v wx => OwnFr w [] 25 32 d1 xs v wx | 6 => fun vq _ => vq = .slice b n cap | 7 => fun vq _ => vq = .int .i64 (m : Int) | 8 => fun v wx => Rd wx 32 v (n - m) ((kyL ks).drop (m * 32)) | 9 => fun vq _ => vq = .int .i64 i | 10 => fun vq _ => vq = .int .i64 (m : Int) | 11 => fun vq _ => vq = .int .i64 (i - (m : Int)) | 12 => fun vq _ => vq = .int .i64 j | 13 => fun vq _ => vq = .int .i64 (m : Int) | 14 => fun vq _ => vq = .int .i64 (j - (m : Int)) | 15 => fun v wx => OwnFr w [] 25 32 d2 ys v wx | _ => fun _ _ => True)
          (fun wx => Mem w wx []) ?_ ?_ ?_ ?_ ?_
        · intro j hj v w1 w2 hb h
          match j, hj with
          | 0, _ => exact h
          | 1, _ => exact h
          | 2, _ => exact h.up hb
          | 3, _ => exact h
          | 4, _ => exact h
          | 5, _ => exact h.up hb
          | 6, _ => exact h
          | 7, _ => exact h
          | 8, _ => exact h.up hb
          | 9, _ => exact h
          | 10, _ => exact h
          | 11, _ => exact h
          | 12, _ => exact h
          | 13, _ => exact h
          | 14, _ => exact h
          | 15, _ => exact h.up hb
          | n + 16, h' => exact absurd h' (by omega)
        · intro w1 w2 hb h
          exact h.grow hb
        · exact M.grow ((Up.refl _).drew)
        · rintro i o hi ho av wv fr gM dep
          match i, hi with
          | 0, _ =>
            obtain rfl := Option.some.inj ho
            exact st_mov rfl (fr.eval rfl) rfl
          | 1, _ =>
            obtain rfl := Option.some.inj ho
            exact st_mov rfl (fr.eval rfl) rfl
          | 2, _ =>
            obtain rfl := Option.some.inj ho
            exact st_slH rfl (dep ⟨0, .data⟩ (by simp) rfl) (dep ⟨1, .data⟩ (by simp) rfl) (HV.out.up gM.up) (Nat.le_of_lt hm1) (fun v h => h)
          | 3, _ =>
            obtain rfl := Option.some.inj ho
            exact st_mov rfl (fr.eval rfl) rfl
          | 4, _ =>
            obtain rfl := Option.some.inj ho
            exact st_mov rfl (fr.eval rfl) rfl
          | 5, _ =>
            obtain rfl := Option.some.inj ho
            have d1 := dep ⟨3, .data⟩ (by simp) rfl
            have d2 := dep ⟨4, .data⟩ (by simp) rfl
            have D2 := dep ⟨2, .data⟩ (by simp) rfl
            exact st_ret3 rfl (fun _ _ => by kernel_rfl) (rfl) d1 d2 (HA.out _ _ D2) (fun r w' h _ => OwnFr.of gM h)
          | 6, _ =>
            obtain rfl := Option.some.inj ho
            exact st_mov rfl (fr.eval rfl) rfl
          | 7, _ =>
            obtain rfl := Option.some.inj ho
            exact st_mov rfl (fr.eval rfl) rfl
          | 8, _ =>
            obtain rfl := Option.some.inj ho
            exact st_slL rfl (dep ⟨6, .data⟩ (by simp) rfl) (dep ⟨7, .data⟩ (by simp) rfl) (HV.out.up gM.up) (Nat.le_of_lt hm1) (fun v h => h)
          | 9, _ =>
            obtain rfl := Option.some.inj ho
            exact st_mov rfl (fr.eval rfl) rfl
          | 10, _ =>
            obtain rfl := Option.some.inj ho
            exact st_mov rfl (fr.eval rfl) rfl
          | 11, _ =>
            obtain rfl := Option.some.inj ho
            exact st_bin rfl (dep ⟨9, .data⟩ (by simp) rfl) (dep ⟨10, .data⟩ (by simp) rfl) (bin_sub64 _ _ _ (i64_in_ _ (by omega)) _ _ _) rfl
          | 12, _ =>
            obtain rfl := Option.some.inj ho
            exact st_mov rfl (fr.eval rfl) rfl
          | 13, _ =>
            obtain rfl := Option.some.inj ho
            exact st_mov rfl (fr.eval rfl) rfl
          | 14, _ =>
            obtain rfl := Option.some.inj ho
            exact st_bin rfl (dep ⟨12, .data⟩ (by simp) rfl) (dep ⟨13, .data⟩ (by simp) rfl) (bin_sub64 _ _ _ (i64_in_ _ (by omega)) _ _ _) rfl
          | 15, _ =>
            obtain rfl := Option.some.inj ho
            have d1 := dep ⟨11, .data⟩ (by simp) rfl
            have d2 := dep ⟨14, .data⟩ (by simp) rfl
            have D8 := dep ⟨8, .data⟩ (by simp) rfl
            exact st_ret3 rfl (fun _ _ => by kernel_rfl) (rfl) d1 d2 (HB.out _ _ D8) (fun r w' h _ => OwnFr.of gM h)
          | n + 16, h' => exact absurd h' (by omega)
        · rintro vs wv gM hf
          have f0 : vs 0 = .slice b n cap := hf 0 (by omega)
          have f1 : vs 1 = .int .i64 (m : Int) := hf 1 (by omega)
          have f2 := hf 2 (by omega)
          have f3 : vs 3 = .int .i64 i := hf 3 (by omega)
          have f4 : vs 4 = .int .i64 j := hf 4 (by omega)
          have f5 := hf 5 (by omega)
          have f6 : vs 6 = .slice b n cap := hf 6 (by omega)
          have f7 : vs 7 = .int .i64 (m : Int) := hf 7 (by omega)
          have f8 := hf 8 (by omega)
          have f9 : vs 9 = .int .i64 i := hf 9 (by omega)
          have f10 : vs 10 = .int .i64 (m : Int) := hf 10 (by omega)
          have f11 : vs 11 = .int .i64 (i - (m : Int)) := hf 11 (by omega)
          have f12 : vs 12 = .int .i64 j := hf 12 (by omega)
          have f13 : vs 13 = .int .i64 (m : Int) := hf 13 (by omega)
          have f14 : vs 14 = .int .i64 (j - (m : Int)) := hf 14 (by omega)
          have f15 := hf 15 (by omega)
          obtain ⟨b4, cap4, e4, M, R9⟩ := gM.ownFr2 f5 f15 hx2
          generalize hv9 : vs 15 = v9
          rw [hv9] at R9
          simp only [putAll, Act.put, List.getElem?_toArray, List.getElem?_cons_zero, List.getElem?_cons_succ, Option.bind_some, List.setIfInBounds_toArray, List.set_cons_zero, List.set_cons_succ, List.drop_succ_cons, List.drop_zero, List.drop_nil, e4, hv9]
          have R9 := Lib.hid R9
          clear f0 f1 f2 f3 f4 f5 f6 f7 f8 f9 f10 f11 f12 f13 f14 f15 hf e4 hv9 gM
          go_wp2_with (first
            | (with_reducible (show wpList _ _ _ (Oper.mk (some 20) (.buildSlice _ _ _) _ _ _ _ :: _) _ _); (first | (refine m_lit1A M rfl rfl rfl (by first | rfl | assumption | (simp; done) | (simp; omega)) (by decide) ?_) | (refine m_lit11 (v := Value.int _ _) M rfl rfl rfl rfl ?_) | (refine m_lit11 (v := Value.slice _ _ _) M rfl rfl rfl rfl ?_) | (refine m_lit11 (v := Value.bool _) M rfl rfl rfl rfl ?_) | (refine m_lit11 (v := Value.string _) M rfl rfl rfl rfl ?_) | (refine m_lit11 (v := Value.pointer _) M rfl rfl rfl rfl ?_)); clear M; (try clear wx); intro g20 wx M)
            | (with_reducible (show wpList _ _ _ (Oper.mk (some 32) (.buildSlice _ _ _) _ _ _ _ :: _) _ _); refine m_lit0 M rfl rfl ?_; clear M; (try clear wx); intro g32 wx M)
            | (with_reducible (show wpList _ _ _ (Oper.mk _ (.call (Call.mk (.builtin .append) _ _)) _ _ _ _ :: _) _ _); (first | (refine m_append M rfl rfl rfl (by first | rfl | omega | (simp; done)) rfl (R9.out) (by first | assumption | (simp only [maxLen]; omega)) (by omega) ?_) | (refine m_append1 M rfl rfl rfl (by first | rfl | omega | (simp; done)) rfl (by first | rfl | assumption | (simp; done) | (simp; omega)) (by first | exact bA_one _ | exact wA_one _ | assumption | (simp [Value.oneCell']; done)) (by first | assumption | (simp only [maxLen]; omega)) (by omega) ?_)); clear M; (try clear wx); intro _ _ wx M; simp only [List.set_cons_zero, List.set_cons_succ, Nat.zero_add, List.nil_append] at M))
          go_ret
          exact ⟨_, rfl, by rw [HE.out.1, HE.out.2]; exact ⟨_, _, rfl, M.out_own (p := 0) rfl⟩, M.up⟩
      · clear hall'
        have h2 : 2 ≤ n := by omega
        have hm1 := halfN_lt n h2
        have hm2 := halfN_pos n
        have HH := Lib.hid (l03Half_c n (by omega))
        obtain ⟨d1, hd1⟩ : ∃ d, d = (rngL (ks.take (halfN n)) i j).length := ⟨_, rfl⟩
        obtain ⟨d2, hd2⟩ : ∃ d, d = (rngL (ks.drop (halfN n)) (i - halfN n) (j - halfN n)).length := ⟨_, rfl⟩
        have hb1 : d1 ≤ 256 := by have := rngL_len _ (ks.take (halfN n)) i j (by rw [List.length_take, hks]; omega) hm2; omega
        have hb2 : d2 ≤ 256 := by have := rngL_len (n - halfN n) (ks.drop (halfN n)) (i - halfN n) (j - halfN n) (by rw [List.length_drop, hks]) (by omega); omega
        have HE := Lib.hid (show (rngL ks i j).length = d1 + d2 ∧ kyL (rngL ks i j) = kyL (rngL (ks.take (halfN n)) i j) ++ kyL (rngL (ks.drop (halfN n)) (i - halfN n) (j - halfN n)) by rw [rngL_2 ks i j n hks hout h2, kyL_append, List.length_append, hd1, hd2]; exact ⟨rfl, rfl⟩)
        have HA : Hid (∀ v w, Rd w 32 v (halfN n) ((kyL ks).take (halfN n * 32)) → Ret Try.prog 64 #[v, .int .i64 i, .int .i64 j] w fun r w' => OwnR w w' 25 32 r d1 (kyL (rngL (ks.take (halfN n)) i j))) := Lib.hid (fun v w h => by rw [hd1]; exact IH.out _ hm1 _ i j (by rw [List.length_take]; omega) hm2 (by omega) (by omega) hi2 (by omega) hj2 v w (by rw [kyL_take] at h; exact h))
        have HB : Hid (∀ v w, Rd w 32 v (n - halfN n) ((kyL ks).drop (halfN n * 32)) → Ret Try.prog 64 #[v, .int .i64 (i - (halfN n : Int)), .int .i64 (j - (halfN n : Int))] w fun r w' => OwnR w w' 25 32 r d2 (kyL (rngL (ks.drop (halfN n)) (i - halfN n) (j - halfN n)))) := Lib.hid (fun v w h => by rw [hd2]; exact IH.out (n - halfN n) (by omega) _ _ _ (by rw [List.length_drop, hks]) (by omega) (by omega) (by omega) (by omega) (by omega) (by omega) v w (by rw [kyL_drop] at h; exact h))
        have hx2 := kyL_one (rngL (ks.drop (halfN n)) (i - halfN n) (j - halfN n))
        clear hks hd1 hd2 hout
        generalize kyL (rngL (ks.take (halfN n)) i j) = xs at *
        generalize kyL (rngL (ks.drop (halfN n)) (i - halfN n) (j - halfN n)) = ys at *
        generalize halfN n = m at *
        go_enter Try.func64, Try.ntmps64
        go_wp2_with (first
          | (go_at_call 103; (with_reducible refine mem_call M (HH.out _) ?_); clear M; (try clear wx); rintro _ wx rfl _ M)
          | (with_reducible (show wpList _ _ _ (Oper.mk (some 20) (.buildSlice _ _ _) _ _ _ _ :: _) _ _); (first | (refine m_lit1A M rfl rfl rfl (by first | rfl | assumption | (simp; done) | (simp; omega)) (by decide) ?_) | (refine m_lit11 (v := Value.int _ _) M rfl rfl rfl rfl ?_) | (refine m_lit11 (v := Value.slice _ _ _) M rfl rfl rfl rfl ?_) | (refine m_lit11 (v := Value.bool _) M rfl rfl rfl rfl ?_) | (refine m_lit11 (v := Value.string _) M rfl rfl rfl rfl ?_) | (refine m_lit11 (v := Value.pointer _) M rfl rfl rfl rfl ?_)); clear M; (try clear wx); intro g20 wx M)
          | (with_reducible (show wpList _ _ _ (Oper.mk (some 32) (.buildSlice _ _ _) _ _ _ _ :: _) _ _); refine m_lit0 M rfl rfl ?_; clear M; (try clear wx); intro g32 wx M)
          | (with_reducible (show wpList _ _ _ (Oper.mk _ (.call (Call.mk (.builtin .append) _ _)) _ _ _ _ :: _) _ _); (first | (refine m_append1 M rfl rfl rfl (by first | rfl | omega | (simp; done)) rfl (by first | rfl | assumption | (simp; done) | (simp; omega)) (by first | exact bA_one _ | exact wA_one _ | assumption | (simp [Value.oneCell']; done)) (by first | assumption | (simp only [maxLen]; omega)) (by omega) ?_)); clear M; (try clear wx); intro _ _ wx M; simp only [List.set_cons_zero, List.set_cons_succ, Nat.zero_add, List.nil_append] at M))
        refine region_mono (m := 16) mixedOrders_ (by kernel_rfl) (by kernel_rfl)
          (fun | 0 => fun vq _ => vq = .slice b n cap | 1 => fun vq _ => vq = .int .i64 (m : Int) | 2 => fun v wx => Rd wx 32 v m ((kyL ks).take (m * 32)) | 3 => fun vq _ => vq = .int .i64 i | 4 => fun vq _ => vq = .int .i64 j | 5 => fun v wx => OwnFr w [] 25 32 d1 xs v wx | 6 => fun vq _ => vq = .slice b n cap | 7 => fun vq _ => vq = .int .i64 (m : Int) | 8 => fun v wx => Rd wx 32 v (n - m) ((kyL ks).drop (m * 32)) | 9 => fun vq _ => vq = .int .i64 i | 10 => fun vq _ => vq = .int .i64 (m : Int) | 11 => fun vq _ => vq = .int .i64 (i - (m : Int)) | 12 => fun vq _ => vq = .int .i64 j | 13 => fun vq _ => vq = .int .i64 (m : Int) | 14 => fun vq _ => vq = .int .i64 (j - (m : Int)) | 15 => fun v wx => OwnFr w [] 25 32 d2 ys v wx | _ => fun _ _ => True)
          (fun wx => Mem w wx []) ?_ ?_ ?_ ?_ ?_
        · intro j hj v w1 w2 hb h
          match j, hj with
          | 0, _ => exact h
          | 1, _ => exact h
          | 2, _ => exact h.up hb
          | 3, _ => exact h
          | 4, _ => exact h
          | 5, _ => exact h.up hb
          | 6, _ => exact h
          | 7, _ => exact h
          | 8, _ => exact h.up hb
          | 9, _ => exact h
          | 10, _ => exact h
          | 11, _ => exact h
          | 12, _ => exact h
          | 13, _ => exact h
          | 14, _ => exact h
          | 15, _ => exact h.up hb
          | n + 16, h' => exact absurd h' (by omega)
        · intro w1 w2 hb h
          exact h.grow hb
        · exact M.grow ((Up.refl _).drew)
        · rintro i o hi ho av wv fr gM dep
          match i, hi with
          | 0, _ =>
            obtain rfl := Option.some.inj ho
            exact st_mov rfl (fr.eval rfl) rfl
          | 1, _ =>
            obtain rfl := Option.some.inj ho
            exact st_mov rfl (fr.eval rfl) rfl
          | 2, _ =>
            obtain rfl := Option.some.inj ho
            exact st_slH rfl (dep ⟨0, .data⟩ (by simp) rfl) (dep ⟨1, .data⟩ (by simp) rfl) (HV.out.up gM.up) (Nat.le_of_lt hm1) (fun v h => h)
          | 3, _ =>
            obtain rfl := Option.some.inj ho
            exact st_mov rfl (fr.eval rfl) rfl
          | 4, _ =>
            obtain rfl := Option.some.inj ho
            exact st_mov rfl (fr.eval rfl) rfl
          | 5, _ =>
            obtain rfl := Option.some.inj ho
            have d1 := dep ⟨3, .data⟩ (by simp) rfl
            have d2 := dep ⟨4, .data⟩ (by simp) rfl
            have D2 := dep ⟨2, .data⟩ (by simp) rfl
            exact st_ret3 rfl (fun _ _ => by kernel_rfl) (rfl) d1 d2 (HA.out _ _ D2) (fun r w' h _ => OwnFr.of gM h)
          | 6, _ =>
            obtain rfl := Option.some.inj ho
            exact st_mov rfl (fr.eval rfl) rfl
          | 7, _ =>
            obtain rfl := Option.some.inj ho
            exact st_mov rfl (fr.eval rfl) rfl
          | 8, _ =>
            obtain rfl := Option.some.inj ho
            exact st_slL rfl (dep ⟨6, .data⟩ (by simp) rfl) (dep ⟨7, .data⟩ (by simp) rfl) (HV.out.up gM.up) (Nat.le_of_lt hm1) (fun v h => h)
          | 9, _ =>
            obtain rfl := Option.some.inj ho
            exact st_mov rfl (fr.eval rfl) rfl
          | 10, _ =>
            obtain rfl := Option.some.inj ho
            exact st_mov rfl (fr.eval rfl) rfl
          | 11, _ =>
            obtain rfl := Option.some.inj ho
            exact st_bin rfl (dep ⟨9, .data⟩ (by simp) rfl) (dep ⟨10, .data⟩ (by simp) rfl) (bin_sub64 _ _ _ (i64_in_ _ (by omega)) _ _ _) rfl
          | 12, _ =>
            obtain rfl := Option.some.inj ho
            exact st_mov rfl (fr.eval rfl) rfl
          | 13, _ =>
            obtain rfl := Option.some.inj ho
            exact st_mov rfl (fr.eval rfl) rfl
          | 14, _ =>
            obtain rfl := Option.some.inj ho
            exact st_bin rfl (dep ⟨12, .data⟩ (by simp) rfl) (dep ⟨13, .data⟩ (by simp) rfl) (bin_sub64 _ _ _ (i64_in_ _ (by omega)) _ _ _) rfl
          | 15, _ =>
            obtain rfl := Option.some.inj ho
            have d1 := dep ⟨11, .data⟩ (by simp) rfl
            have d2 := dep ⟨14, .data⟩ (by simp) rfl
            have D8 := dep ⟨8, .data⟩ (by simp) rfl
            exact st_ret3 rfl (fun _ _ => by kernel_rfl) (rfl) d1 d2 (HB.out _ _ D8) (fun r w' h _ => OwnFr.of gM h)
          | n + 16, h' => exact absurd h' (by omega)
        · rintro vs wv gM hf
          have f0 : vs 0 = .slice b n cap := hf 0 (by omega)
          have f1 : vs 1 = .int .i64 (m : Int) := hf 1 (by omega)
          have f2 := hf 2 (by omega)
          have f3 : vs 3 = .int .i64 i := hf 3 (by omega)
          have f4 : vs 4 = .int .i64 j := hf 4 (by omega)
          have f5 := hf 5 (by omega)
          have f6 : vs 6 = .slice b n cap := hf 6 (by omega)
          have f7 : vs 7 = .int .i64 (m : Int) := hf 7 (by omega)
          have f8 := hf 8 (by omega)
          have f9 : vs 9 = .int .i64 i := hf 9 (by omega)
          have f10 : vs 10 = .int .i64 (m : Int) := hf 10 (by omega)
          have f11 : vs 11 = .int .i64 (i - (m : Int)) := hf 11 (by omega)
          have f12 : vs 12 = .int .i64 j := hf 12 (by omega)
          have f13 : vs 13 = .int .i64 (m : Int) := hf 13 (by omega)
          have f14 : vs 14 = .int .i64 (j - (m : Int)) := hf 14 (by omega)
          have f15 := hf 15 (by omega)
          obtain ⟨b4, cap4, e4, M, R9⟩ := gM.ownFr2 f5 f15 hx2
          generalize hv9 : vs 15 = v9
          rw [hv9] at R9
          simp only [putAll, Act.put, List.getElem?_toArray, List.getElem?_cons_zero, List.getElem?_cons_succ, Option.bind_some, List.setIfInBounds_toArray, List.set_cons_zero, List.set_cons_succ, List.drop_succ_cons, List.drop_zero, List.drop_nil, e4, hv9]
          have R9 := Lib.hid R9
          clear f0 f1 f2 f3 f4 f5 f6 f7 f8 f9 f10 f11 f12 f13 f14 f15 hf e4 hv9 gM
          go_wp2_with (first
            | (with_reducible (show wpList _ _ _ (Oper.mk (some 20) (.buildSlice _ _ _) _ _ _ _ :: _) _ _); (first | (refine m_lit1A M rfl rfl rfl (by first | rfl | assumption | (simp; done) | (simp; omega)) (by decide) ?_) | (refine m_lit11 (v := Value.int _ _) M rfl rfl rfl rfl ?_) | (refine m_lit11 (v := Value.slice _ _ _) M rfl rfl rfl rfl ?_) | (refine m_lit11 (v := Value.bool _) M rfl rfl rfl rfl ?_) | (refine m_lit11 (v := Value.string _) M rfl rfl rfl rfl ?_) | (refine m_lit11 (v := Value.pointer _) M rfl rfl rfl rfl ?_)); clear M; (try clear wx); intro g20 wx M)
            | (with_reducible (show wpList _ _ _ (Oper.mk (some 32) (.buildSlice _ _ _) _ _ _ _ :: _) _ _); refine m_lit0 M rfl rfl ?_; clear M; (try clear wx); intro g32 wx M)
            | (with_reducible (show wpList _ _ _ (Oper.mk _ (.call (Call.mk (.builtin .append) _ _)) _ _ _ _ :: _) _ _); (first | (refine m_append M rfl rfl rfl (by first | rfl | omega | (simp; done)) rfl (R9.out) (by first | assumption | (simp only [maxLen]; omega)) (by omega) ?_) | (refine m_append1 M rfl rfl rfl (by first | rfl | omega | (simp; done)) rfl (by first | rfl | assumption | (simp; done) | (simp; omega)) (by first | exact bA_one _ | exact wA_one _ | assumption | (simp [Value.oneCell']; done)) (by first | assumption | (simp only [maxLen]; omega)) (by omega) ?_)); clear M; (try clear wx); intro _ _ wx M; simp only [List.set_cons_zero, List.set_cons_succ, Nat.zero_add, List.nil_append] at M))
          go_ret
          exact ⟨_, rfl, by rw [HE.out.1, HE.out.2]; exact ⟨_, _, rfl, M.out_own (p := 0) rfl⟩, M.up⟩

set_option maxHeartbeats 4000000 in
set_option maxRecDepth 100000 in
theorem rangeProof_c (n : Nat) : ∀ (ks : List Ky) (i j : Int), ks.length = n → 1 ≤ n → n ≤ 256 → (n : Int) - 256 ≤ i → i ≤ 256 → (n : Int) - 256 ≤ j → j ≤ 256 → ∀ v w, Rd w 32 v n (kyL ks) →
    Ret Try.prog 68 #[v, .int .i64 i, .int .i64 j] w fun r w' => OwnR w w' 25 32 r (rngL ks i j).length (kyL (rngL ks i j)) := by
  induction n using Nat.strongRecOn with
  | ind n ih =>
  intro ks i j hks h1 hn hi1 hi2 hj1 hj2 v w hv
  obtain ⟨b, cap, rfl⟩ := hv.shape
  have HV := Lib.hid hv
  have IH := Lib.hid ih
  clear ih hv
  refine ret_start fun wx M => ?_
  by_cases hout : j ≤ 0 ∨ (n : Int) ≤ i
  · have HB : Hid (∀ v w, Rd w 32 v n (kyL ks) → Ret Try.prog 55 #[v] w fun r _ => r = .agg (bA (listK ks).1)) := Lib.hid (fun v w h => listKey_c n _ hks hn v w h)
    rw [rngL_out ks i j (by rw [hks]; exact hout)]
    clear hks
    generalize listK ks = y at *
    rcases hout with hout | hout
    · go_enter Try.func68, Try.ntmps68
      go_wp2_with (first
        | (go_at_call 66; (with_reducible refine mem_call M (sizeKey_c _ _ _ _) ?_); clear M; (try clear wx); rintro _ wx rfl _ M)
        | (go_at_call 55; (with_reducible refine mem_call M (HB.out _ _ (HV.out.up M.up)) ?_); clear M; (try clear wx); rintro _ wx rfl _ M)
        | (with_reducible (show wpList _ _ _ (Oper.mk (some 21) (.buildSlice _ _ _) _ _ _ _ :: _) _ _); (first | (refine m_lit1A M rfl rfl rfl (by first | rfl | assumption | (simp; done) | (simp; omega)) (by decide) ?_) | (refine m_lit11 (v := Value.int _ _) M rfl rfl rfl rfl ?_) | (refine m_lit11 (v := Value.slice _ _ _) M rfl rfl rfl rfl ?_) | (refine m_lit11 (v := Value.bool _) M rfl rfl rfl rfl ?_) | (refine m_lit11 (v := Value.string _) M rfl rfl rfl rfl ?_) | (refine m_lit11 (v := Value.pointer _) M rfl rfl rfl rfl ?_)); clear M; (try clear wx); intro g21 wx M)
        | (with_reducible (show wpList _ _ _ (Oper.mk _ (.call (Call.mk (.builtin .append) _ _)) _ _ _ _ :: _) _ _); (first | (refine m_append1 M rfl rfl rfl (by first | rfl | omega | (simp; done)) rfl (by first | rfl | assumption | (simp; done) | (simp; omega)) (by first | exact bA_one _ | exact wA_one _ | assumption | (simp [Value.oneCell']; done)) (by first | assumption | (simp only [maxLen]; omega)) (by omega) ?_)); clear M; (try clear wx); intro _ _ wx M; simp only [List.set_cons_zero, List.set_cons_succ, Nat.zero_add, List.nil_append] at M))
      go_ret
      have M := M.blk_own (p := 0) rfl 32 1 1 (Nat.le_refl _) (by simp only [maxLen]; omega) (by simp) (xs := kyL [y]) (one_key y)
      exact ⟨_, rfl, ⟨_, _, rfl, M.out_own (p := 0) rfl⟩, M.up⟩
    · by_cases hj0 : j ≤ 0
      · go_enter Try.func68, Try.ntmps68
        go_wp2_with (first
          | (go_at_call 66; (with_reducible refine mem_call M (sizeKey_c _ _ _ _) ?_); clear M; (try clear wx); rintro _ wx rfl _ M)
          | (go_at_call 55; (with_reducible refine mem_call M (HB.out _ _ (HV.out.up M.up)) ?_); clear M; (try clear wx); rintro _ wx rfl _ M)
          | (with_reducible (show wpList _ _ _ (Oper.mk (some 21) (.buildSlice _ _ _) _ _ _ _ :: _) _ _); (first | (refine m_lit1A M rfl rfl rfl (by first | rfl | assumption | (simp; done) | (simp; omega)) (by decide) ?_) | (refine m_lit11 (v := Value.int _ _) M rfl rfl rfl rfl ?_) | (refine m_lit11 (v := Value.slice _ _ _) M rfl rfl rfl rfl ?_) | (refine m_lit11 (v := Value.bool _) M rfl rfl rfl rfl ?_) | (refine m_lit11 (v := Value.string _) M rfl rfl rfl rfl ?_) | (refine m_lit11 (v := Value.pointer _) M rfl rfl rfl rfl ?_)); clear M; (try clear wx); intro g21 wx M)
          | (with_reducible (show wpList _ _ _ (Oper.mk _ (.call (Call.mk (.builtin .append) _ _)) _ _ _ _ :: _) _ _); (first | (refine m_append1 M rfl rfl rfl (by first | rfl | omega | (simp; done)) rfl (by first | rfl | assumption | (simp; done) | (simp; omega)) (by first | exact bA_one _ | exact wA_one _ | assumption | (simp [Value.oneCell']; done)) (by first | assumption | (simp only [maxLen]; omega)) (by omega) ?_)); clear M; (try clear wx); intro _ _ wx M; simp only [List.set_cons_zero, List.set_cons_succ, Nat.zero_add, List.nil_append] at M))
        go_ret
        have M := M.blk_own (p := 0) rfl 32 1 1 (Nat.le_refl _) (by simp only [maxLen]; omega) (by simp) (xs := kyL [y]) (one_key y)
        exact ⟨_, rfl, ⟨_, _, rfl, M.out_own (p := 0) rfl⟩, M.up⟩
      · go_enter Try.func68, Try.ntmps68
        go_wp2_with (first
          | (go_at_call 66; (with_reducible refine mem_call M (sizeKey_c _ _ _ _) ?_); clear M; (try clear wx); rintro _ wx rfl _ M)
          | (go_at_call 55; (with_reducible refine mem_call M (HB.out _ _ (HV.out.up M.up)) ?_); clear M; (try clear wx); rintro _ wx rfl _ M)
          | (with_reducible (show wpList _ _ _ (Oper.mk (some 21) (.buildSlice _ _ _) _ _ _ _ :: _) _ _); (first | (refine m_lit1A M rfl rfl rfl (by first | rfl | assumption | (simp; done) | (simp; omega)) (by decide) ?_) | (refine m_lit11 (v := Value.int _ _) M rfl rfl rfl rfl ?_) | (refine m_lit11 (v := Value.slice _ _ _) M rfl rfl rfl rfl ?_) | (refine m_lit11 (v := Value.bool _) M rfl rfl rfl rfl ?_) | (refine m_lit11 (v := Value.string _) M rfl rfl rfl rfl ?_) | (refine m_lit11 (v := Value.pointer _) M rfl rfl rfl rfl ?_)); clear M; (try clear wx); intro g21 wx M)
          | (with_reducible (show wpList _ _ _ (Oper.mk _ (.call (Call.mk (.builtin .append) _ _)) _ _ _ _ :: _) _ _); (first | (refine m_append1 M rfl rfl rfl (by first | rfl | omega | (simp; done)) rfl (by first | rfl | assumption | (simp; done) | (simp; omega)) (by first | exact bA_one _ | exact wA_one _ | assumption | (simp [Value.oneCell']; done)) (by first | assumption | (simp only [maxLen]; omega)) (by omega) ?_)); clear M; (try clear wx); intro _ _ wx M; simp only [List.set_cons_zero, List.set_cons_succ, Nat.zero_add, List.nil_append] at M))
        go_ret
        have M := M.blk_own (p := 0) rfl 32 1 1 (Nat.le_refl _) (by simp only [maxLen]; omega) (by simp) (xs := kyL [y]) (one_key y)
        exact ⟨_, rfl, ⟨_, _, rfl, M.out_own (p := 0) rfl⟩, M.up⟩
  · have ho1 : ¬ j ≤ 0 := fun h => hout (.inl h)
    have ho2 : ¬ (n : Int) ≤ i := fun h => hout (.inr h)
    by_cases hn1 : n = 1
    · subst hn1
      rw [rngL_1 ks i j (by rw [hks]; exact hout) (by omega)]
      clear hks hout
      go_enter Try.func68, Try.ntmps68
      go_wp2_with (first
        | (go_at_call 66; (with_reducible refine mem_call M (sizeKey_c _ _ _ _) ?_); clear M; (try clear wx); rintro _ wx rfl _ M)
        | (with_reducible (show wpList _ _ _ (Oper.mk (some 21) (.buildSlice _ _ _) _ _ _ _ :: _) _ _); (first | (refine m_lit1A M rfl rfl rfl (by first | rfl | assumption | (simp; done) | (simp; omega)) (by decide) ?_) | (refine m_lit11 (v := Value.int _ _) M rfl rfl rfl rfl ?_) | (refine m_lit11 (v := Value.slice _ _ _) M rfl rfl rfl rfl ?_) | (refine m_lit11 (v := Value.bool _) M rfl rfl rfl rfl ?_) | (refine m_lit11 (v := Value.string _) M rfl rfl rfl rfl ?_) | (refine m_lit11 (v := Value.pointer _) M rfl rfl rfl rfl ?_)); clear M; (try clear wx); intro g21 wx M)
        | (with_reducible (show wpList _ _ _ (Oper.mk _ (.call (Call.mk (.builtin .append) _ _)) _ _ _ _ :: _) _ _); (first | (refine m_append1 M rfl rfl rfl (by first | rfl | omega | (simp; done)) rfl (by first | rfl | assumption | (simp; done) | (simp; omega)) (by first | exact bA_one _ | exact wA_one _ | assumption | (simp [Value.oneCell']; done)) (by first | assumption | (simp only [maxLen]; omega)) (by omega) ?_)); clear M; (try clear wx); intro _ _ wx M; simp only [List.set_cons_zero, List.set_cons_succ, Nat.zero_add, List.nil_append] at M))
      go_ret
      exact ⟨_, rfl, ⟨_, _, rfl, (M.nil_own 25 32).out_own (p := 0) rfl⟩, M.up⟩
    · have h2 : 2 ≤ n := by omega
      have hm1 := halfN_lt n h2
      have hm2 := halfN_pos n
      have HH := Lib.hid (leftOf_c n h2 (by omega))
      obtain ⟨d1, hd1⟩ : ∃ d, d = (rngL (ks.take (halfN n)) i j).length := ⟨_, rfl⟩
      obtain ⟨d2, hd2⟩ : ∃ d, d = (rngL (ks.drop (halfN n)) (i - halfN n) (j - halfN n)).length := ⟨_, rfl⟩
      have hb1 : d1 ≤ 256 := by have := rngL_len _ (ks.take (halfN n)) i j (by rw [List.length_take, hks]; omega) hm2; omega
      have hb2 : d2 ≤ 256 := by have := rngL_len (n - halfN n) (ks.drop (halfN n)) (i - halfN n) (j - halfN n) (by rw [List.length_drop, hks]) (by omega); omega
      have HE := Lib.hid (show (rngL ks i j).length = d1 + d2 ∧ kyL (rngL ks i j) = kyL (rngL (ks.take (halfN n)) i j) ++ kyL (rngL (ks.drop (halfN n)) (i - halfN n) (j - halfN n)) by rw [rngL_2 ks i j n hks hout h2, kyL_append, List.length_append, hd1, hd2]; exact ⟨rfl, rfl⟩)
      have HA : Hid (∀ v w, Rd w 32 v (halfN n) ((kyL ks).take (halfN n * 32)) → Ret Try.prog 68 #[v, .int .i64 i, .int .i64 j] w fun r w' => OwnR w w' 25 32 r d1 (kyL (rngL (ks.take (halfN n)) i j))) := Lib.hid (fun v w h => by rw [hd1]; exact IH.out _ hm1 _ i j (by rw [List.length_take]; omega) hm2 (by omega) (by omega) hi2 (by omega) hj2 v w (by rw [kyL_take] at h; exact h))
      have HB : Hid (∀ v w, Rd w 32 v (n - halfN n) ((kyL ks).drop (halfN n * 32)) → Ret Try.prog 68 #[v, .int .i64 (i - (halfN n : Int)), .int .i64 (j - (halfN n : Int))] w fun r w' => OwnR w w' 25 32 r d2 (kyL (rngL (ks.drop (halfN n)) (i - halfN n) (j - halfN n)))) := Lib.hid (fun v w h => by rw [hd2]; exact IH.out (n - halfN n) (by omega) _ _ _ (by rw [List.length_drop, hks]) (by omega) (by omega) (by omega) (by omega) (by omega) (by omega) v w (by rw [kyL_drop] at h; exact h))
      have hx2 := kyL_one (rngL (ks.drop (halfN n)) (i - halfN n) (j - halfN n))
      clear hks hd1 hd2 hout
      generalize kyL (rngL (ks.take (halfN n)) i j) = xs at *
      generalize kyL (rngL (ks.drop (halfN n)) (i - halfN n) (j - halfN n)) = ys at *
      generalize halfN n = m at *
      go_enter Try.func68, Try.ntmps68
      go_wp2_with (first
        | (go_at_call 66; (with_reducible refine mem_call M (sizeKey_c _ _ _ _) ?_); clear M; (try clear wx); rintro _ wx rfl _ M)
        | (go_at_call 106; (with_reducible refine mem_call M (HH.out _) ?_); clear M; (try clear wx); rintro _ wx rfl _ M)
        | (with_reducible (show wpList _ _ _ (Oper.mk (some 21) (.buildSlice _ _ _) _ _ _ _ :: _) _ _); (first | (refine m_lit1A M rfl rfl rfl (by first | rfl | assumption | (simp; done) | (simp; omega)) (by decide) ?_) | (refine m_lit11 (v := Value.int _ _) M rfl rfl rfl rfl ?_) | (refine m_lit11 (v := Value.slice _ _ _) M rfl rfl rfl rfl ?_) | (refine m_lit11 (v := Value.bool _) M rfl rfl rfl rfl ?_) | (refine m_lit11 (v := Value.string _) M rfl rfl rfl rfl ?_) | (refine m_lit11 (v := Value.pointer _) M rfl rfl rfl rfl ?_)); clear M; (try clear wx); intro g21 wx M)
        | (with_reducible (show wpList _ _ _ (Oper.mk _ (.call (Call.mk (.builtin .append) _ _)) _ _ _ _ :: _) _ _); (first | (refine m_append1 M rfl rfl rfl (by first | rfl | omega | (simp; done)) rfl (by first | rfl | assumption | (simp; done) | (simp; omega)) (by first | exact bA_one _ | exact wA_one _ | assumption | (simp [Value.oneCell']; done)) (by first | assumption | (simp only [maxLen]; omega)) (by omega) ?_)); clear M; (try clear wx); intro _ _ wx M; simp only [List.set_cons_zero, List.set_cons_succ, Nat.zero_add, List.nil_append] at M))
      refine region_mono (m := 16) mixedOrders_ (by kernel_rfl) (by kernel_rfl)
        (fun | 0 => fun vq _ => vq = .slice b n cap | 1 => fun vq _ => vq = .int .i64 (m : Int) | 2 => fun v wx => Rd wx 32 v m ((kyL ks).take (m * 32)) | 3 => fun vq _ => vq = .int .i64 i | 4 => fun vq _ => vq = .int .i64 j | 5 => fun v wx => OwnFr w [] 25 32 d1 xs v wx | 6 => fun vq _ => vq = .slice b n cap | 7 => fun vq _ => vq = .int .i64 (m : Int) | 8 => fun v wx => Rd wx 32 v (n - m) ((kyL ks).drop (m * 32)) | 9 => fun vq _ => vq = .int .i64 i | 10 => fun vq _ => vq = .int .i64 (m : Int) | 11 => fun vq _ => vq = .int .i64 (i - (m : Int)) | 12 => fun vq _ => vq = .int .i64 j | 13 => fun vq _ => vq = .int .i64 (m : Int) | 14 => fun vq _ => vq = .int .i64 (j - (m : Int)) | 15 => fun v wx => OwnFr w [] 25 32 d2 ys v wx | _ => fun _ _ => True)
        (fun wx => Mem w wx []) ?_ ?_ ?_ ?_ ?_
      · intro j hj v w1 w2 hb h
        match j, hj with
        | 0, _ => exact h
        | 1, _ => exact h
        | 2, _ => exact h.up hb
        | 3, _ => exact h
        | 4, _ => exact h
        | 5, _ => exact h.up hb
        | 6, _ => exact h
        | 7, _ => exact h
        | 8, _ => exact h.up hb
        | 9, _ => exact h
        | 10, _ => exact h
        | 11, _ => exact h
        | 12, _ => exact h
        | 13, _ => exact h
        | 14, _ => exact h
        | 15, _ => exact h.up hb
        | n + 16, h' => exact absurd h' (by omega)
      · intro w1 w2 hb h
        exact h.grow hb
      · exact M.grow ((Up.refl _).drew)
      · rintro i o hi ho av wv fr gM dep
        match i, hi with
        | 0, _ =>
          obtain rfl := Option.some.inj ho
          exact st_mov rfl (fr.eval rfl) rfl
        | 1, _ =>
          obtain rfl := Option.some.inj ho
          exact st_mov rfl (fr.eval rfl) rfl
        | 2, _ =>
          obtain rfl := Option.some.inj ho
          exact st_slH rfl (dep ⟨0, .data⟩ (by simp) rfl) (dep ⟨1, .data⟩ (by simp) rfl) (HV.out.up gM.up) (Nat.le_of_lt hm1) (fun v h => h)
        | 3, _ =>
          obtain rfl := Option.some.inj ho
          exact st_mov rfl (fr.eval rfl) rfl
        | 4, _ =>
          obtain rfl := Option.some.inj ho
          exact st_mov rfl (fr.eval rfl) rfl
        | 5, _ =>
          obtain rfl := Option.some.inj ho
          have d1 := dep ⟨3, .data⟩ (by simp) rfl
          have d2 := dep ⟨4, .data⟩ (by simp) rfl
          have D2 := dep ⟨2, .data⟩ (by simp) rfl
          exact st_ret3 rfl (fun _ _ => by kernel_rfl) (rfl) d1 d2 (HA.out _ _ D2) (fun r w' h _ => OwnFr.of gM h)
        | 6, _ =>
          obtain rfl := Option.some.inj ho
          exact st_mov rfl (fr.eval rfl) rfl
        | 7, _ =>
          obtain rfl := Option.some.inj ho
          exact st_mov rfl (fr.eval rfl) rfl
        | 8, _ =>
          obtain rfl := Option.some.inj ho
          exact st_slL rfl (dep ⟨6, .data⟩ (by simp) rfl) (dep ⟨7, .data⟩ (by simp) rfl) (HV.out.up gM.up) (Nat.le_of_lt hm1) (fun v h => h)
        | 9, _ =>
          obtain rfl := Option.some.inj ho
          exact st_mov rfl (fr.eval rfl) rfl
        | 10, _ =>
          obtain rfl := Option.some.inj ho
          exact st_mov rfl (fr.eval rfl) rfl
        | 11, _ =>
          obtain rfl := Option.some.inj ho
          exact st_bin rfl (dep ⟨9, .data⟩ (by simp) rfl) (dep ⟨10, .data⟩ (by simp) rfl) (bin_sub64 _ _ _ (i64_in_ _ (by omega)) _ _ _) rfl
        | 12, _ =>
          obtain rfl := Option.some.inj ho
          exact st_mov rfl (fr.eval rfl) rfl
        | 13, _ =>
          obtain rfl := Option.some.inj ho
          exact st_mov rfl (fr.eval rfl) rfl
        | 14, _ =>
          obtain rfl := Option.some.inj ho
          exact st_bin rfl (dep ⟨12, .data⟩ (by simp) rfl) (dep ⟨13, .data⟩ (by simp) rfl) (bin_sub64 _ _ _ (i64_in_ _ (by omega)) _ _ _) rfl
        | 15, _ =>
          obtain rfl := Option.some.inj ho
          have d1 := dep ⟨11, .data⟩ (by simp) rfl
          have d2 := dep ⟨14, .data⟩ (by simp) rfl
          have D8 := dep ⟨8, .data⟩ (by simp) rfl
          exact st_ret3 rfl (fun _ _ => by kernel_rfl) (rfl) d1 d2 (HB.out _ _ D8) (fun r w' h _ => OwnFr.of gM h)
        | n + 16, h' => exact absurd h' (by omega)
      · rintro vs wv gM hf
        have f0 : vs 0 = .slice b n cap := hf 0 (by omega)
        have f1 : vs 1 = .int .i64 (m : Int) := hf 1 (by omega)
        have f2 := hf 2 (by omega)
        have f3 : vs 3 = .int .i64 i := hf 3 (by omega)
        have f4 : vs 4 = .int .i64 j := hf 4 (by omega)
        have f5 := hf 5 (by omega)
        have f6 : vs 6 = .slice b n cap := hf 6 (by omega)
        have f7 : vs 7 = .int .i64 (m : Int) := hf 7 (by omega)
        have f8 := hf 8 (by omega)
        have f9 : vs 9 = .int .i64 i := hf 9 (by omega)
        have f10 : vs 10 = .int .i64 (m : Int) := hf 10 (by omega)
        have f11 : vs 11 = .int .i64 (i - (m : Int)) := hf 11 (by omega)
        have f12 : vs 12 = .int .i64 j := hf 12 (by omega)
        have f13 : vs 13 = .int .i64 (m : Int) := hf 13 (by omega)
        have f14 : vs 14 = .int .i64 (j - (m : Int)) := hf 14 (by omega)
        have f15 := hf 15 (by omega)
        obtain ⟨b4, cap4, e4, M, R9⟩ := gM.ownFr2 f5 f15 hx2
        generalize hv9 : vs 15 = v9
        rw [hv9] at R9
        simp only [putAll, Act.put, List.getElem?_toArray, List.getElem?_cons_zero, List.getElem?_cons_succ, Option.bind_some, List.setIfInBounds_toArray, List.set_cons_zero, List.set_cons_succ, List.drop_succ_cons, List.drop_zero, List.drop_nil, e4, hv9]
        have R9 := Lib.hid R9
        clear f0 f1 f2 f3 f4 f5 f6 f7 f8 f9 f10 f11 f12 f13 f14 f15 hf e4 hv9 gM
        go_wp2_with (first
          | (go_at_call 66; (with_reducible refine mem_call M (sizeKey_c _ _ _ _) ?_); clear M; (try clear wx); rintro _ wx rfl _ M)
          | (with_reducible (show wpList _ _ _ (Oper.mk (some 21) (.buildSlice _ _ _) _ _ _ _ :: _) _ _); (first | (refine m_lit1A M rfl rfl rfl (by first | rfl | assumption | (simp; done) | (simp; omega)) (by decide) ?_) | (refine m_lit11 (v := Value.int _ _) M rfl rfl rfl rfl ?_) | (refine m_lit11 (v := Value.slice _ _ _) M rfl rfl rfl rfl ?_) | (refine m_lit11 (v := Value.bool _) M rfl rfl rfl rfl ?_) | (refine m_lit11 (v := Value.string _) M rfl rfl rfl rfl ?_) | (refine m_lit11 (v := Value.pointer _) M rfl rfl rfl rfl ?_)); clear M; (try clear wx); intro g21 wx M)
          | (with_reducible (show wpList _ _ _ (Oper.mk _ (.call (Call.mk (.builtin .append) _ _)) _ _ _ _ :: _) _ _); (first | (refine m_append M rfl rfl rfl (by first | rfl | omega | (simp; done)) rfl (R9.out) (by first | assumption | (simp only [maxLen]; omega)) (by omega) ?_) | (refine m_append1 M rfl rfl rfl (by first | rfl | omega | (simp; done)) rfl (by first | rfl | assumption | (simp; done) | (simp; omega)) (by first | exact bA_one _ | exact wA_one _ | assumption | (simp [Value.oneCell']; done)) (by first | assumption | (simp only [maxLen]; omega)) (by omega) ?_)); clear M; (try clear wx); intro _ _ wx M; simp only [List.set_cons_zero, List.set_cons_succ, Nat.zero_add, List.nil_append] at M))
        go_ret
        exact ⟨_, rfl, by rw [HE.out.1, HE.out.2]; exact ⟨_, _, rfl, M.out_own (p := 0) rfl⟩, M.up⟩

def rpT (ks : List Ky) (i j : Int) : List Ky × Int := if 256 < ks.length then ([], 3) else if 0 ≤ i ∧ i < j ∧ j ≤ (ks.length : Int) then (rngL ks i j, 0) else ([], 2)
theorem rpT_len (ks : List Ky) (i j : Int) : (rpT ks i j).1.length ≤ 256 := by
  unfold rpT
  split
  · exact Nat.zero_le _
  · split
    · have := rngL_len ks.length ks i j rfl (by omega)
      show (rngL ks i j).length ≤ 256
      omega
    · exact Nat.zero_le _

end Go.Proofs.Ytmbhaoiahlbglaa

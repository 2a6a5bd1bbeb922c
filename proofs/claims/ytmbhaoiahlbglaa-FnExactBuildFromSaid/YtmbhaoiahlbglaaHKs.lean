/- Walks: SortKeys and its law. -/
import Derived.Test.YtmbhaoiahlbglaaHLs
namespace Go.Proofs.Ytmbhaoiahlbglaa
open Go.RowKit Go.Sort
set_option linter.unusedVariables false
set_option linter.unusedSimpArgs false

theorem l01SortS_c (v : Value) (n : Nat) (ks : List Ky) (hks : ks.length = n) (p : Ky) (s : List Ky) (hs : SetOf (ltOf (cfP p)) ks s) (w : World) (hv : Rd w 32 v n (kyL ks)) (hn : n ≤ 1048576) :
    Ret Try.prog 82 #[v, .agg (bA p.1)] w fun r w' => OwnR w w' 25 32 r s.length (kyL s) :=
  (l01Sort_c v n ks hks p w hv hn).mono fun r w' _ ⟨out, h1, h2⟩ => by rw [SetOf.unique (swoP p) hs h1]; exact h2
theorem l01Sort0_c (v : Value) (n : Nat) (ks : List Ky) (hks : ks.length = n) (w : World) (hv : Rd w 32 v n (kyL ks)) (hn : n ≤ 1048576) :
    Ret Try.prog 82 #[v, .agg (bA zero32)] w fun r w' => OwnR w w' 25 32 r (setK ks).length (kyL (setK ks)) :=
  l01SortS_c v n ks hks zeroKy (setK ks) (by rw [cfP_zero]; exact setK_set ks) w hv hn
theorem compK_len {α : Type} [DecidableEq α] : ∀ (l : List α), (compK l).length ≤ l.length
  | [] => Nat.le_refl _
  | [_] => Nat.le_refl _
  | x :: y :: l => by
    have ih := compK_len (y :: l)
    rw [compK]
    split
    · exact Nat.le_trans ih (by simp)
    · simp only [List.length_cons] at ih ⊢
      omega
theorem setK_len (ks : List Ky) : (setK ks).length ≤ ks.length := by
  have := compK_len (srtK ks)
  rw [srtK_len] at this
  exact this
theorem skL_len (ks : List Ky) : (skL ks).length ≤ 256 := by
  unfold skL
  split
  · exact Nat.zero_le _
  · have := setK_len ks
    omega

set_option maxHeartbeats 1000000 in
set_option maxRecDepth 100000 in
theorem specSortKeys_c (v : Value) (n : Nat) (ks : List Ky) (hks : ks.length = n) (w : World) (hv : Rd w 32 v n (kyL ks)) (hn : n ≤ 1048576) :
    Ret Try.prog 31 #[v] w fun r w' => OwnR2 w w' 25 32 r (skL ks).length (kyL (skL ks)) (.int .i64 (skC ks)) := by
  obtain ⟨b, cap, rfl⟩ := hv.shape
  have HV := Lib.hid hv
  have HK := Lib.hid hks
  refine ret_start fun wx M => ?_
  clear hv
  by_cases hbig : 256 < n
  · rw [show skL ks = [] by rw [skL, if_pos (by omega)], show skC ks = 3 by rw [skC, if_pos (by omega)]]
    clear hks
    go_enter Try.func31, Try.ntmps31
    go_wp2_with (first
      | (with_reducible (show wpList _ _ _ (Oper.mk (some 7) (.buildSlice _ _ _) _ _ _ _ :: _) _ _); refine m_lit0 M rfl rfl ?_; clear M; (try clear wx); intro g7 wx M)
      | (with_reducible (show wpList _ _ _ (Oper.mk _ (.build _ _) _ _ _ _ :: _) _ _); refine m_buildZ rfl rfl ?_))
    go_ret2
    exact ⟨_, rfl, ⟨_, _, rfl, M.out_own (p := 0) rfl⟩, M.up⟩
  · rw [show skL ks = setK ks by rw [skL, if_neg (by omega)], show skC ks = 0 by rw [skC, if_neg (by omega)]]
    clear hks
    go_enter Try.func31, Try.ntmps31
    go_wp2_with (first
      | (go_at_call 82; (with_reducible refine mem_callO M (l01Sort0_c _ n ks HK.out _ (HV.out.up M.up) hn) ?_); clear M; (try clear wx); intro bz cz wx M)
      | (with_reducible (show wpList _ _ _ (Oper.mk (some 7) (.buildSlice _ _ _) _ _ _ _ :: _) _ _); refine m_lit0 M rfl rfl ?_; clear M; (try clear wx); intro g7 wx M)
      | (with_reducible (show wpList _ _ _ (Oper.mk _ (.build _ _) _ _ _ _ :: _) _ _); refine m_buildZ rfl rfl ?_))
    go_ret2
    exact ⟨_, rfl, ⟨_, _, rfl, M.out_own (p := 0) rfl⟩, M.up⟩

set_option maxHeartbeats 4000000 in
set_option maxRecDepth 100000 in
theorem lawSortKeys_c (v : Value) (ks : List Ky) (w : World) (hv : Rd w 32 v ks.length (kyL ks)) : Calls Try.prog 8 #[v] w fun e w' => e = .returned (.bool true) ∧ Up w w' := by
  obtain ⟨n, hn⟩ : ∃ n, ks.length = n := ⟨_, rfl⟩
  rw [hn] at hv
  obtain ⟨b, cap, rfl⟩ := hv.shape
  have hml : n ≤ maxLen := by have := hv.len_; omega
  have HV := Lib.hid hv
  have HN := Lib.hid hn
  have hmm : maxLen ≤ 9223372036854775807 := by decide
  have hml' : n ≤ 9223372036854775807 := by omega
  clear hv hn hmm
  have M := Mem.start w
  by_cases hbig : (1048576 : Int) - n < 0
  · go_enter Try.func8, Try.ntmps8
    go_wp2_with (first
      | (go_at_call 13; (with_reducible refine mem_call M (szKeyS_r _ n _ hml _) ?_); clear M; (try clear wx); rintro _ wx rfl _ M; rw [if_pos hbig]))
    go_ret
    exact ⟨rfl, M.up⟩
  · have hl : n ≤ 1048576 := by omega
    have hpl := skL_len ks
    have HS : Hid (∀ v w, Rd w 32 v n (kyL ks) → Ret Try.prog 31 #[v] w fun r w' => OwnR2 w w' 25 32 r (skL ks).length (kyL (skL ks)) (.int .i64 (skC ks))) := Lib.hid (fun v w h => specSortKeys_c v n ks HN.out w h hl)
    have HI : Hid (∀ v w, Rd w 32 v n (kyL ks) → Ret Try.prog 32 #[v] w fun r w' => OwnR2 w w' 25 32 r (skL ks).length (kyL (skL ks)) (.int .i64 (skC ks))) := Lib.hid (fun v w h => implSortKeys_c v n ks HN.out w h hl)
    generalize skC ks = c at *
    generalize skL ks = q at *
    obtain ⟨d, hd⟩ : ∃ d, q.length = d := ⟨_, rfl⟩
    rw [hd] at HS HI hpl
    have HD := Lib.hid hd
    clear hd
    go_enter Try.func8, Try.ntmps8
    go_wp2_with (first
      | (go_at_call 13; (with_reducible refine mem_call M (szKeyS_r _ n _ hml _) ?_); clear M; (try clear wx); rintro _ wx rfl _ M; rw [if_neg hbig])
      | (go_at_call 15; (with_reducible refine mem_callO M (toKeyS_c _ n ks HN.out _ (HV.out.up M.up) hl) ?_); clear M; (try clear wx); intro b_ cap_ wx M)
      | (go_at_call 31; (with_reducible refine mem_callO2 M (HS.out _ _ (M.rdK ks)) ?_); clear M; (try clear wx); intro b_ cap_ wx M)
      | (go_at_call 32; (with_reducible refine mem_callO2 M (HI.out _ _ (M.rdK ks)) ?_); clear M; (try clear wx); intro b_ cap_ wx M)
      | (go_at_call 18; (first | (with_reducible refine mem_call M (eqKeyS_same _ _ n ks HN.out _ (by omega) (M.rdK ks) (M.rdK ks)) ?_) | (with_reducible refine mem_call M (eqKeyS_same _ _ d q HD.out _ (by omega) (M.rdK q) (M.rdK q)) ?_)); clear M; (try clear wx); rintro _ wx rfl _ M)
      | (go_at_call 24; (with_reducible refine mem_callW M (fun h => markKeyS_1 _ _ _ _ _ _ (by omega) h) ?_); clear M; (try clear wx); intro wx M; simp only [List.set_cons_zero, List.set_cons_succ, Nat.zero_add, List.nil_append] at M)
      | (go_at_call 25; (with_reducible refine mem_call M (heldKeyS_1 _ _ _ (by omega) (M.rdK (markK 1 d))) ?_); clear M; (try clear wx); rintro _ wx rfl _ M))
    go_ret
    exact ⟨rfl, M.up⟩

end Go.Proofs.Ytmbhaoiahlbglaa

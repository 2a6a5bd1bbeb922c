/- Walks: keys sorted, each once. -/
import Derived.Test.YtmbhaoiahlbglaaHCp
namespace Go.Proofs.Ytmbhaoiahlbglaa
open Go.RowKit
set_option linter.unusedVariables false
set_option linter.unusedSimpArgs false

/-- The keys in order, each once. -/
def setK (ks : List Ky) : List Ky := compK (srtK ks)
set_option maxHeartbeats 1000000 in
set_option maxRecDepth 100000 in
theorem sorted_c (v : Value) (n : Nat) (ks : List Ky) (hks : ks.length = n) (w : World) (hv : Rd w 32 v n (kyL ks)) (hn : n ≤ 1048576) :
    Ret Try.prog 83 #[v] w fun r w' => OwnR w w' 25 32 r (setK ks).length (kyL (setK ks)) := by
  obtain ⟨b, cap, rfl⟩ := hv.shape
  have HV := Lib.hid hv
  have HK := Lib.hid hks
  have HL := Lib.hid (show (srtK ks).length = n by rw [srtK_len, hks])
  refine ret_start fun wx M => ?_
  clear hv hks
  go_enter Try.func83, Try.ntmps83
  go_wp2_with (first
    | (go_at_call 123; (with_reducible refine mem_callO M (cloneKey_c _ n ks HK.out _ (HV.out.up M.up) hn) ?_); clear M; (try clear wx); intro bz cz wx M)
    | (go_at_call 85; (with_reducible refine mem_callW M (fun h => sortKey_c _ _ n _ ks HK.out _ hn h) ?_); clear M; (try clear wx); intro wx M; simp only [List.set_cons_zero, List.set_cons_succ, Nat.zero_add, List.nil_append] at M)
    | (go_at_call 124; (with_reducible refine Calls.mono (compactKey_c _ _ n (srtK ks) HL.out hn _ _ _ M) ?_); clear M; (try clear wx); rintro _ wx ⟨rfl, M⟩))
  go_ret
  exact ⟨_, rfl, ⟨_, _, rfl, M.out_own (p := 0) rfl⟩, M.up⟩

/-- What SortKeys gives. -/
def skL (ks : List Ky) : List Ky := if 256 < ks.length then [] else setK ks
def skC (ks : List Ky) : Int := if 256 < ks.length then 3 else 0
set_option maxHeartbeats 1000000 in
set_option maxRecDepth 100000 in
theorem implSortKeys_c (v : Value) (n : Nat) (ks : List Ky) (hks : ks.length = n) (w : World) (hv : Rd w 32 v n (kyL ks)) (hn : n ≤ 1048576) :
    Ret Try.prog 32 #[v] w fun r w' => OwnR2 w w' 25 32 r (skL ks).length (kyL (skL ks)) (.int .i64 (skC ks)) := by
  obtain ⟨b, cap, rfl⟩ := hv.shape
  have HV := Lib.hid hv
  have HK := Lib.hid hks
  refine ret_start fun wx M => ?_
  clear hv
  by_cases hbig : 256 < n
  · rw [show skL ks = [] by rw [skL, if_pos (by omega)], show skC ks = 3 by rw [skC, if_pos (by omega)]]
    clear hks
    go_enter Try.func32, Try.ntmps32
    go_wp2_with fail
    go_ret2
    exact ⟨_, rfl, ⟨_, _, rfl, (M.nil_own 25 32).out_own (p := 0) rfl⟩, M.up⟩
  · rw [show skL ks = setK ks by rw [skL, if_neg (by omega)], show skC ks = 0 by rw [skC, if_neg (by omega)]]
    clear hks
    go_enter Try.func32, Try.ntmps32
    go_wp2_with (first
      | (go_at_call 83; (with_reducible refine mem_callO M (sorted_c _ n ks HK.out _ (HV.out.up M.up) hn) ?_); clear M; (try clear wx); intro bz cz wx M))
    go_ret2
    exact ⟨_, rfl, ⟨_, _, rfl, M.out_own (p := 0) rfl⟩, M.up⟩

theorem srtK_pair (ks : List Ky) : (srtK ks).Pairwise (fun x y => ltOf cfK y x = false) := by
  have h := List.pairwise_mergeSort (le := fun x y => !(ltOf cfK) y x) (fun a b c h1 h2 => by
    have h1' : ltOf cfK b a = false := by simpa using h1
    have h2' : ltOf cfK c b = false := by simpa using h2
    simpa using swoK.ntrans _ _ _ h2' h1') (fun a b => by
    cases h : ltOf cfK b a with
    | false => simp
    | true =>
      cases h' : ltOf cfK a b with
      | false => simp
      | true =>
        have := swoK.trans _ _ _ h h'
        rw [swoK.irrefl] at this
        cases this) ks
  exact h.imp (fun h => by simpa using h)
theorem setK_set (ks : List Ky) : SetOf (ltOf cfK) ks (setK ks) := compK_setOf swoK ltK_tot ks _ (srtK_pair ks) fun k => by simp [srtK]

theorem mem_take_succ (ks : List Ky) (j : Nat) (hj : j < ks.length) (k : Ky) : k ∈ ks.take (j + 1) ↔ k ∈ ks.take j ∨ k = ks[j] := by
  rw [List.take_succ_eq_append_getElem hj, List.mem_append, List.mem_singleton]
set_option maxHeartbeats 2000000 in
set_option maxRecDepth 100000 in
theorem l01Has_c (v : Value) (n : Nat) (ks : List Ky) (hks : ks.length = n) (k : Ky) (w : World) (hv : Rd w 32 v n (kyL ks)) (hn : n ≤ 1048576) :
    Ret Try.prog 89 #[v, .agg (bA k.1)] w fun r _ => r = .bool (decide (k ∈ ks)) := by
  obtain ⟨b, cap, rfl⟩ := hv.shape
  have HV := Lib.hid hv
  have HK := Lib.hid hks
  have hk32 := k.2
  refine ret_start fun wx M => ?_
  clear hv hks
  go_enter Try.func89, Try.ntmps89
  go_wp2_with (first
    | (with_reducible (show wpList _ _ _ (Oper.mk (some 3) (.box _ _) _ _ _ _ :: _) _ _); (first | (refine m_boxA M rfl rfl rfl ?_) | (refine m_box1 (v := Value.int _ _) M rfl rfl rfl rfl ?_) | (refine m_box1 (v := Value.slice _ _ _) M rfl rfl rfl rfl ?_) | (refine m_box1 (v := Value.bool _) M rfl rfl rfl rfl ?_) | (refine m_box1 (v := Value.string _) M rfl rfl rfl rfl ?_) | (refine m_box1 (v := Value.pointer _) M rfl rfl rfl rfl ?_)); clear M; (try clear wx); intro g3 wx M)
    | (with_reducible (show wpList _ _ _ (Oper.mk _ (.load _ _) _ _ _ _ :: _) _ _); (first | (refine m_load M rfl rfl rfl (by first | assumption | rfl) ?_) | (refine m_loadR M rfl rfl rfl (by first | rfl | assumption | (simp; done) | (simp; omega)) ?_))))
  go_loopg [5] n (fun r i wr => ∃ j : Nat, j + r = n ∧ i = .int .i64 (j : Int) ∧ Hid (¬ k ∈ ks.take j) ∧ Mem w wr [.blk g3 25 (bA k.1)])
  case atStart => exact ⟨0, by omega, rfl, Lib.hid (by simp), M⟩
  case round =>
    clear M
    obtain ⟨j, hj, rfl, HN, M⟩ := hrel
    by_cases hlt : j < n
    · obtain ⟨g, o, rfl, hc⟩ := HV.out.open_ (by omega)
      have hjl : j < ks.length := by rw [HK.out]; exact hlt
      obtain ⟨x, hx⟩ : ∃ x, ks[j]'hjl = x := ⟨_, rfl⟩
      have C1 := Lib.hid (show ∀ wx, Up w wx → wx.rangeAt g (o + j * 32) (bL x.1) from fun wx hb i u hu => by
        rw [Nat.add_assoc]
        exact hc wx hb _ _ (kyL_get ks j hjl i u (by rw [hx]; exact hu)))
      have HS : Hid (¬ x = k → ¬ k ∈ ks.take (j + 1)) := Lib.hid (fun h => by
        rw [mem_take_succ ks j hjl, hx]
        rintro (h' | h')
        · exact HN.out h'
        · exact h h'.symm)
      have HF : Hid (x = k → decide (k ∈ ks) = true) := Lib.hid (fun h => by
        rw [decide_eq_true_eq, ← h, ← hx]
        exact List.getElem_mem hjl)
      have HJ := Lib.hid hj
      clear hc hx HN hj
      go_wp2_with fail
      refine region_mono (m := 6) mixedOrders_ (by kernel_rfl) (by kernel_rfl)
        (fun | 0 => fun vq _ => vq = .slice (some ⟨g, o, none⟩) n cap | 1 => fun vq _ => vq = .int .i64 (j : Int) | 2 => fun vq _ => vq = .pointer (some ⟨g, o + j * 32, none⟩) | 3 => fun vq _ => vq = .agg (bA (x.1)) | 4 => fun vq _ => vq = .agg (bA k.1) | 5 => fun vq _ => vq = .bool (decide (x = k)) | _ => fun _ _ => True)
        (fun wx => Mem w wx [.blk g3 25 (bA k.1)]) ?_ ?_ ?_ ?_ ?_
      · intro j hj v w1 w2 hb h
        match j, hj with
        | 0, _ => exact h
        | 1, _ => exact h
        | 2, _ => exact h
        | 3, _ => exact h
        | 4, _ => exact h
        | 5, _ => exact h
      · intro w1 w2 hb h
        exact h.grow hb
      · exact M.grow ((Up.refl _).drew)
      · rintro i o hi ho av wv fr gM dep
        match i, hi with
        | 0, _ =>
          obtain rfl := Option.some.inj ho
          exact st_mov rfl (fr.eval rfl) rfl
        | 1, _ =>
          obtain rfl := Option.some.inj ho
          exact st_mov rfl (fr.eval rfl) rfl
        | 2, _ =>
          obtain rfl := Option.some.inj ho
          exact st_indexAddr rfl (dep ⟨0, .data⟩ (by simp) rfl) (dep ⟨1, .data⟩ (by simp) rfl) (ix_slice _ _ _ _ _ hlt _) rfl
        | 3, _ =>
          obtain rfl := Option.some.inj ho
          exact st_loadA rfl (dep ⟨2, .data⟩ (by simp) rfl) (C1.out _ gM.up) x.2 rfl
        | 4, _ =>
          obtain rfl := Option.some.inj ho
          exact st_loadG gM rfl (fr.eval rfl) (by first | rfl | (simp; done)) rfl
        | 5, _ =>
          obtain rfl := Option.some.inj ho
          exact st_bin rfl (dep ⟨3, .data⟩ (by simp) rfl) (dep ⟨4, .data⟩ (by simp) rfl) (key_eqlG _ _ _ _ _) rfl
      · rintro vs wv gM hf
        have f0 : vs 0 = .slice (some ⟨g, o, none⟩) n cap := hf 0 (by omega)
        have f1 : vs 1 = .int .i64 (j : Int) := hf 1 (by omega)
        have f2 : vs 2 = .pointer (some ⟨g, o + j * 32, none⟩) := hf 2 (by omega)
        have f3 : vs 3 = .agg (bA (x.1)) := hf 3 (by omega)
        have f4 : vs 4 = .agg (bA k.1) := hf 4 (by omega)
        have f5 : vs 5 = .bool (decide (x = k)) := hf 5 (by omega)
        by_cases hxy : x = k
        · rw [decide_eq_true hxy] at f5
          have HF2 := Lib.hid (HF.out hxy)
          clear HF HS hxy
          simp only [putAll, Act.put, List.getElem?_toArray, List.getElem?_cons_zero, List.getElem?_cons_succ, Option.bind_some, List.setIfInBounds_toArray, List.set_cons_zero, List.set_cons_succ, List.drop_succ_cons, List.drop_zero, List.drop_nil, f5]
          clear f0 f1 f2 f3 f4 f5 hf
          have M := gM
          go_wp2_with fail
          go_ret
          exact ⟨_, rfl, by rw [HF2.out]; rfl, M.up⟩
        · rw [decide_eq_false hxy] at f5
          have HS2 := Lib.hid (HS.out hxy)
          clear HF HS hxy
          simp only [putAll, Act.put, List.getElem?_toArray, List.getElem?_cons_zero, List.getElem?_cons_succ, Option.bind_some, List.setIfInBounds_toArray, List.set_cons_zero, List.set_cons_succ, List.drop_succ_cons, List.drop_zero, List.drop_nil, f5]
          clear f0 f1 f2 f3 f4 f5 hf
          have M := gM
          go_wp2_with fail
          have hj := HJ.out
          go_roundg (gk - 1)
          case measure => omega
          case rel => exact ⟨j + 1, by omega, by go_num, HS2, M⟩
    · have MM := Lib.hid M
      have HE := Lib.hid (show decide (k ∈ ks) = false by
        rw [decide_eq_false_iff_not]
        have := HN.out
        rwa [List.take_of_length_le (by rw [HK.out]; omega)] at this)
      clear HN
      go_wp2_with fail
      go_ret
      exact ⟨_, rfl, by rw [HE.out]; rfl, MM.out.up⟩

end Go.Proofs.Ytmbhaoiahlbglaa

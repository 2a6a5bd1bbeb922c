/- Walks: impl.ClashOfProof. -/
import Derived.Test.YtmbhaoiahlbglaaHCz
import Derived.Test.YtmbhaoiahlbglaaHCt
namespace Go.Proofs.Ytmbhaoiahlbglaa
open Go.RowKit
set_option linter.unusedVariables false
set_option linter.unusedSimpArgs false

theorem clF_drop {R : Cl} (own lf : Ky) (S : List Bool) (os ps : List Ky) (k : Nat) (h1 : k < S.length) (h2 : k < os.length) (h3 : k < ps.length) (h : clF own lf (S.drop k) (os.drop k) (ps.drop k) = some R) :
    (vcB (mkC (S[k]'h1) own (os[k]'h2) lf (ps[k]'h3)) = true → R = mkC (S[k]'h1) own (os[k]'h2) lf (ps[k]'h3)) ∧
    (vcB (mkC (S[k]'h1) own (os[k]'h2) lf (ps[k]'h3)) = false → clF (if S[k]'h1 then nodeK (os[k]'h2) own else nodeK own (os[k]'h2)) (if S[k]'h1 then nodeK (ps[k]'h3) lf else nodeK lf (ps[k]'h3)) (S.drop (k + 1)) (os.drop (k + 1)) (ps.drop (k + 1)) = some R) := by
  rw [List.drop_eq_getElem_cons h1, List.drop_eq_getElem_cons h2, List.drop_eq_getElem_cons h3] at h
  simp only [clF] at h
  constructor
  · intro hv
    rw [if_pos hv] at h
    exact (Option.some.inj h).symm
  · intro hv
    rw [if_neg (by rw [hv]; decide)] at h
    exact h
theorem clF_end {R : Cl} (own lf : Ky) (S : List Bool) (os ps : List Ky) (k : Nat) (h1 : S.length ≤ k) (h : clF own lf (S.drop k) (os.drop k) (ps.drop k) = some R) : False := by
  rw [List.drop_of_length_le h1] at h
  simp [clF] at h

set_option maxHeartbeats 1000000 in
set_option maxRecDepth 100000 in
theorem proofOf_c (n : Nat) (ks : List Ky) (i : Nat) (hk : ks.length = n) (h1 : 1 ≤ n) (hn : n ≤ 256) (hi : i ≤ 256) (v : Value) (w : World) (hv : Rd w 32 v n (kyL ks)) :
    Ret Try.prog 73 #[v, .int .i64 (i : Int)] w fun r w' => OwnR w w' 25 32 r (prfL ks i).length (kyL (prfL ks i)) := by
  obtain ⟨b, cap, rfl⟩ := hv.shape
  have HV := Lib.hid hv
  have HA : Hid (∀ v w, Rd w 32 v n (kyL ks) → Ret Try.prog 113 #[v, .int .i64 (i : Int)] w fun r w' => OwnR w w' 25 32 r (prfL ks i).length (kyL (prfL ks i))) := Lib.hid (fun v w h => proof_c n ks i hk h1 hn hi v w h)
  clear hv hk
  generalize prfL ks i = P at *
  refine ret_start fun wx M => ?_
  go_enter Try.func73, Try.ntmps73
  go_wp2_with (first
    | (go_at_call 113; (with_reducible refine mem_callO M (HA.out _ _ (HV.out.up M.up)) ?_); clear M; (try clear wx); intro bp capp wx M))
  go_ret
  exact ⟨_, rfl, ⟨_, _, rfl, M.out_own (p := 0) rfl⟩, M.up⟩

set_option maxHeartbeats 16000000 in
set_option maxRecDepth 100000 in
theorem implCOP_c (i : Int) (lf : Ky) (va vb : Value) (n m : Nat) (ks ps : List Ky) (ha : ks.length = n) (hb : ps.length = m) (w : World) (hva : Rd w 32 va n (kyL ks)) (hvb : Rd w 32 vb m (kyL ps)) (hl : n ≤ 1048576) (hl2 : m ≤ 1048576) :
    Ret Try.prog 28 #[va, .int .i64 i, .agg (bA lf.1), vb] w fun r _ => r = .tuple #[.agg (claV (cqT ks i lf ps).1), .int .i64 (cqT ks i lf ps).2] := by
  obtain ⟨b1, cap1, rfl⟩ := hva.shape
  obtain ⟨b2, cap2, rfl⟩ := hvb.shape
  have HVA := Lib.hid hva
  have HVB := Lib.hid hvb
  clear hva hvb
  refine ret_start fun wx M => ?_
  by_cases hA : 256 < n
  · have HE := Lib.hid (show cqT ks i lf ps = (zeroCl, 3) by rw [cqT, if_pos (by omega)])
    clear ha hb
    go_enter Try.func28, Try.ntmps28
    go_wp2_with (first
      | (go_at_call 66; (with_reducible refine mem_call M (sizeKey_c _ _ _ _) ?_); clear M; (try clear wx); rintro _ wx rfl _ M)
      | (with_reducible (show wpList _ _ _ (Oper.mk (some 6) (.box _ _) _ _ _ _ :: _) _ _); (first | (refine m_boxA M rfl rfl rfl ?_) | (refine m_box1 (v := Value.int _ _) M rfl rfl rfl rfl ?_) | (refine m_box1 (v := Value.slice _ _ _) M rfl rfl rfl rfl ?_) | (refine m_box1 (v := Value.bool _) M rfl rfl rfl rfl ?_) | (refine m_box1 (v := Value.string _) M rfl rfl rfl rfl ?_) | (refine m_box1 (v := Value.pointer _) M rfl rfl rfl rfl ?_)); clear M; (try clear wx); intro g6 wx M)
      | (with_reducible (show wpList _ _ _ (Oper.mk (some 8) (.alloc _) _ _ _ _ :: _) _ _); refine mem_new M rfl rfl ?_; clear M; (try clear wx); intro g8 wx M)
      | (with_reducible (show wpList _ _ _ (Oper.mk (some 13) (.alloc _) _ _ _ _ :: _) _ _); refine mem_new M rfl rfl ?_; clear M; (try clear wx); intro g13 wx M)
      | (with_reducible (show wpList _ _ _ (Oper.mk (some 17) (.alloc _) _ _ _ _ :: _) _ _); refine mem_new M rfl rfl ?_; clear M; (try clear wx); intro g17 wx M)
      | (with_reducible (show wpList _ _ _ (Oper.mk _ (.load _ _) _ _ _ _ :: _) _ _); (first | (refine m_load M rfl rfl rfl (by first | assumption | rfl) ?_) | (refine m_loadR M rfl rfl rfl (by first | rfl | assumption | (simp; done) | (simp; omega)) ?_)))
      | (with_reducible (show wpList _ _ _ (Oper.mk _ (.store _ _ _) _ _ _ _ :: _) _ _); (first | (refine m_storeR M rfl rfl rfl rfl (by first | rfl | assumption | (simp; done) | (simp; omega)) (by first | rfl | assumption | (simp; done) | (simp; omega)) (by first | exact bA_one _ | exact claV_one _ | exact claC_one _ _ _ _) ?_) | (refine m_store (v := Value.int _ _) M rfl rfl rfl rfl rfl (by first | assumption | (simp; done) | (simp; omega)) ?_) | (refine m_store (v := Value.slice _ _ _) M rfl rfl rfl rfl rfl (by first | assumption | (simp; done) | (simp; omega)) ?_) | (refine m_store (v := Value.bool _) M rfl rfl rfl rfl rfl (by first | assumption | (simp; done) | (simp; omega)) ?_) | (refine m_store (v := Value.string _) M rfl rfl rfl rfl rfl (by first | assumption | (simp; done) | (simp; omega)) ?_) | (refine m_store (v := Value.pointer _) M rfl rfl rfl rfl rfl (by first | assumption | (simp; done) | (simp; omega)) ?_)); clear M; (try clear wx); intro wx M; simp only [List.set_cons_zero, List.set_cons_succ, Nat.zero_add, List.nil_append] at M)
      | (with_reducible (show wpList _ _ _ (Oper.mk _ (.build _ _) _ _ _ _ :: _) _ _); refine m_buildZ rfl rfl ?_))
    exact m_ret2 M rfl rfl rfl (by simp) (by rw [HE.out]; rfl)
  by_cases hB : 256 < m
  · have HE := Lib.hid (show cqT ks i lf ps = (zeroCl, 3) by rw [cqT, if_pos (by omega)])
    clear ha hb
    go_enter Try.func28, Try.ntmps28
    go_wp2_with (first
      | (go_at_call 66; (with_reducible refine mem_call M (sizeKey_c _ _ _ _) ?_); clear M; (try clear wx); rintro _ wx rfl _ M)
      | (with_reducible (show wpList _ _ _ (Oper.mk (some 6) (.box _ _) _ _ _ _ :: _) _ _); (first | (refine m_boxA M rfl rfl rfl ?_) | (refine m_box1 (v := Value.int _ _) M rfl rfl rfl rfl ?_) | (refine m_box1 (v := Value.slice _ _ _) M rfl rfl rfl rfl ?_) | (refine m_box1 (v := Value.bool _) M rfl rfl rfl rfl ?_) | (refine m_box1 (v := Value.string _) M rfl rfl rfl rfl ?_) | (refine m_box1 (v := Value.pointer _) M rfl rfl rfl rfl ?_)); clear M; (try clear wx); intro g6 wx M)
      | (with_reducible (show wpList _ _ _ (Oper.mk (some 8) (.alloc _) _ _ _ _ :: _) _ _); refine mem_new M rfl rfl ?_; clear M; (try clear wx); intro g8 wx M)
      | (with_reducible (show wpList _ _ _ (Oper.mk (some 13) (.alloc _) _ _ _ _ :: _) _ _); refine mem_new M rfl rfl ?_; clear M; (try clear wx); intro g13 wx M)
      | (with_reducible (show wpList _ _ _ (Oper.mk (some 17) (.alloc _) _ _ _ _ :: _) _ _); refine mem_new M rfl rfl ?_; clear M; (try clear wx); intro g17 wx M)
      | (with_reducible (show wpList _ _ _ (Oper.mk _ (.load _ _) _ _ _ _ :: _) _ _); (first | (refine m_load M rfl rfl rfl (by first | assumption | rfl) ?_) | (refine m_loadR M rfl rfl rfl (by first | rfl | assumption | (simp; done) | (simp; omega)) ?_)))
      | (with_reducible (show wpList _ _ _ (Oper.mk _ (.store _ _ _) _ _ _ _ :: _) _ _); (first | (refine m_storeR M rfl rfl rfl rfl (by first | rfl | assumption | (simp; done) | (simp; omega)) (by first | rfl | assumption | (simp; done) | (simp; omega)) (by first | exact bA_one _ | exact claV_one _ | exact claC_one _ _ _ _) ?_) | (refine m_store (v := Value.int _ _) M rfl rfl rfl rfl rfl (by first | assumption | (simp; done) | (simp; omega)) ?_) | (refine m_store (v := Value.slice _ _ _) M rfl rfl rfl rfl rfl (by first | assumption | (simp; done) | (simp; omega)) ?_) | (refine m_store (v := Value.bool _) M rfl rfl rfl rfl rfl (by first | assumption | (simp; done) | (simp; omega)) ?_) | (refine m_store (v := Value.string _) M rfl rfl rfl rfl rfl (by first | assumption | (simp; done) | (simp; omega)) ?_) | (refine m_store (v := Value.pointer _) M rfl rfl rfl rfl rfl (by first | assumption | (simp; done) | (simp; omega)) ?_)); clear M; (try clear wx); intro wx M; simp only [List.set_cons_zero, List.set_cons_succ, Nat.zero_add, List.nil_append] at M)
      | (with_reducible (show wpList _ _ _ (Oper.mk _ (.build _ _) _ _ _ _ :: _) _ _); refine m_buildZ rfl rfl ?_))
    exact m_ret2 M rfl rfl rfl (by simp) (by rw [HE.out]; rfl)
  by_cases hI : 0 ≤ i ∧ i ≤ (n : Int) - 1
  · have HI := Lib.hid (within_is i 0 ((n : Int) - 1) true (by simp [hI]))
    obtain ⟨i, rfl⟩ : ∃ k : Nat, i = (k : Int) := ⟨i.toNat, by omega⟩
    have hin : i < n := by omega
    have hil : i < ks.length := by omega
    have hx : ks.getD i zeroKy = ks[i]'hil := by rw [List.getD_eq_getElem?_getD, List.getElem?_eq_getElem hil]; rfl
    have HKY : Hid (∀ v w, Rd w 32 v n (kyL ks) → Ret Try.prog 55 #[v] w fun r _ => r = .agg (bA (listK ks).1)) := Lib.hid (fun v w h => listKey_c _ _ ha (by omega) v w h)
    obtain ⟨B, hBd⟩ : ∃ B, (decide (m = (sideR n i).length) && decide (leadF lf (sideR n i).reverse ps = listK ks)) = B := ⟨_, rfl⟩
    have HCP : Hid (∀ v w, Rd w 32 v m (kyL ps) → Ret Try.prog 72 #[.agg (bA (listK ks).1), .int .i64 (n : Int), .int .i64 (i : Int), .agg (bA lf.1), v] w fun r _ => r = .tuple #[.bool B, .int .i64 0]) := Lib.hid (fun v w h => by
      have := implCheckProof_c (listK ks) lf (n : Int) (i : Int) v m ps hb w h hl2
      rwa [show cpT (listK ks) lf (n : Int) (i : Int) ps = (B, 0) by rw [cpT, if_neg (by omega), if_pos (by omega), Int.toNat_natCast, Int.toNat_natCast, hb, hBd]] at this)
    have HE0 := Lib.hid (show B = false → cqT ks i lf ps = (zeroCl, 4) from fun h => by
      rw [cqT, if_neg (by omega), if_pos (by omega), ha, Int.toNat_natCast, if_neg]
      rintro ⟨h1, h2⟩
      rw [← hBd, decide_eq_true (show m = (sideR n i).length by omega), decide_eq_true h2] at h
      cases h)
    have HE1 := Lib.hid (show B = true → lf = ks[i]'hil → cqT ks i lf ps = (zeroCl, 6) from fun h h' => by
      rw [← hBd, Bool.and_eq_true, decide_eq_true_eq, decide_eq_true_eq] at h
      rw [cqT, if_neg (by omega), if_pos (by omega), ha, Int.toNat_natCast, if_pos ⟨by omega, h.2⟩, if_pos (by rw [hx, ← h'])])
    have HE2 := Lib.hid (show B = true → lf ≠ ks[i]'hil → m = (sideR n i).length ∧ ∃ R, clF (ks[i]'hil) lf (sideR n i).reverse (prfL ks i) ps = some R ∧ cqT ks i lf ps = (R, 0) from fun h h' => by
      rw [← hBd, Bool.and_eq_true, decide_eq_true_eq, decide_eq_true_eq] at h
      obtain ⟨R, hR⟩ := clF_have n ks i lf ps ha (by omega) hin (by omega) h.2 (by rw [hx]; exact h')
      rw [hx] at hR
      refine ⟨h.1, R, hR, ?_⟩
      rw [cqT, if_neg (by omega), if_pos (by omega), ha, Int.toNat_natCast, if_pos ⟨by omega, h.2⟩, if_neg (by rw [hx]; exact h'), hx, hR]
      rfl)
    have HSd := Lib.hid (sides_c n i (by omega) (by omega) hin)
    have HSL := Lib.hid (show (sideR n i).reverse.length = (sideR n i).length by simp)
    have HOL := Lib.hid (prfL_side n ks i ha (by omega) hin)
    have HPO : Hid (∀ w, Rd w 32 (.slice b1 n cap1) n (kyL ks) → Ret Try.prog 73 #[.slice b1 n cap1, .int .i64 (i : Int)] w fun r w' => OwnR w w' 25 32 r (prfL ks i).length (kyL (prfL ks i))) := Lib.hid (fun w h => proofOf_c n ks i ha (by omega) (by omega) (by omega) _ w h)
    have HPL := Lib.hid hb
    obtain ⟨g, o, rfl, hr⟩ := HVA.out.open_ (by omega)
    have C1 := Lib.hid (fun wx (hb : Up w wx) => kyL_range (hr wx hb) i hil)
    have hb1 := hI.1
    have hb2 := hI.2
    clear hx hr hb ha hI hBd
    generalize (ks[i]'hil) = x at *
    clear hil
    generalize listK ks = z at *
    generalize prfL ks i = os at *
    generalize (sideR n i).reverse = S at *
    generalize (sideR n i).length = dd at *
    obtain ⟨c, hc⟩ : ∃ c, decide (lf = x) = c := ⟨_, rfl⟩
    have HC := Lib.hid hc
    clear hc
    go_enter Try.func28, Try.ntmps28
    go_wp2_with (first
      | (go_at_call 66; (with_reducible refine mem_call M (sizeKey_c _ _ _ _) ?_); clear M; (try clear wx); rintro _ wx rfl _ M)
      | (go_at_call 65; (with_reducible refine mem_call M (HI.out _) ?_); clear M; (try clear wx); rintro _ wx rfl _ M)
      | (with_reducible (show wpList _ _ _ (Oper.mk (some 6) (.box _ _) _ _ _ _ :: _) _ _); (first | (refine m_boxA M rfl rfl rfl ?_) | (refine m_box1 (v := Value.int _ _) M rfl rfl rfl rfl ?_) | (refine m_box1 (v := Value.slice _ _ _) M rfl rfl rfl rfl ?_) | (refine m_box1 (v := Value.bool _) M rfl rfl rfl rfl ?_) | (refine m_box1 (v := Value.string _) M rfl rfl rfl rfl ?_) | (refine m_box1 (v := Value.pointer _) M rfl rfl rfl rfl ?_)); clear M; (try clear wx); intro g6 wx M)
      | (with_reducible (show wpList _ _ _ (Oper.mk (some 8) (.alloc _) _ _ _ _ :: _) _ _); refine mem_new M rfl rfl ?_; clear M; (try clear wx); intro g8 wx M)
      | (with_reducible (show wpList _ _ _ (Oper.mk (some 13) (.alloc _) _ _ _ _ :: _) _ _); refine mem_new M rfl rfl ?_; clear M; (try clear wx); intro g13 wx M)
      | (with_reducible (show wpList _ _ _ (Oper.mk (some 17) (.alloc _) _ _ _ _ :: _) _ _); refine mem_new M rfl rfl ?_; clear M; (try clear wx); intro g17 wx M)
      | (with_reducible (show wpList _ _ _ (Oper.mk _ (.load _ _) _ _ _ _ :: _) _ _); (first | (refine m_load M rfl rfl rfl (by first | assumption | rfl) ?_) | (refine m_loadR M rfl rfl rfl (by first | rfl | assumption | (simp; done) | (simp; omega)) ?_)))
      | (with_reducible (show wpList _ _ _ (Oper.mk _ (.store _ _ _) _ _ _ _ :: _) _ _); (first | (refine m_storeR M rfl rfl rfl rfl (by first | rfl | assumption | (simp; done) | (simp; omega)) (by first | rfl | assumption | (simp; done) | (simp; omega)) (by first | exact bA_one _ | exact claV_one _ | exact claC_one _ _ _ _) ?_) | (refine m_store (v := Value.int _ _) M rfl rfl rfl rfl rfl (by first | assumption | (simp; done) | (simp; omega)) ?_) | (refine m_store (v := Value.slice _ _ _) M rfl rfl rfl rfl rfl (by first | assumption | (simp; done) | (simp; omega)) ?_) | (refine m_store (v := Value.bool _) M rfl rfl rfl rfl rfl (by first | assumption | (simp; done) | (simp; omega)) ?_) | (refine m_store (v := Value.string _) M rfl rfl rfl rfl rfl (by first | assumption | (simp; done) | (simp; omega)) ?_) | (refine m_store (v := Value.pointer _) M rfl rfl rfl rfl rfl (by first | assumption | (simp; done) | (simp; omega)) ?_)); clear M; (try clear wx); intro wx M; simp only [List.set_cons_zero, List.set_cons_succ, Nat.zero_add, List.nil_append] at M)
      | (with_reducible (show wpList _ _ _ (Oper.mk _ (.build _ _) _ _ _ _ :: _) _ _); refine m_buildZ rfl rfl ?_))
    refine region_mono (m := 11) mixedOrders_ (by kernel_rfl) (by kernel_rfl)
      (fun | 0 => fun vq _ => vq = .slice (some ⟨g, o, none⟩) n cap1 | 1 => fun vq _ => vq = .agg (bA z.1) | 2 => fun vq _ => vq = .int .i64 (n : Int) | 3 => fun vq _ => vq = .int .i64 (i : Int) | 4 => fun vq _ => vq = .agg (bA lf.1) | 5 => fun vq _ => vq = .slice b2 m cap2 | 6 => fun vq _ => vq = .tuple #[.bool B, .int .i64 0] | 7 => fun vq _ => vq = .tuple #[.bool B, .int .i64 0] | 8 => fun vq _ => vq = .bool B | 9 => fun vq _ => vq = .int .i64 0 | 10 => fun vq _ => vq = .bool B | _ => fun _ _ => True)
      (fun wx => Mem w wx [.blk g8 27 (claC zeroKy.1 zeroKy.1 zeroKy.1 zeroKy.1), .blk g6 25 (bA lf.1)]) ?_ ?_ ?_ ?_ ?_
    · intro j hj v w1 w2 hb h
      match j, hj with
      | 0, _ => exact h
      | 1, _ => exact h
      | 2, _ => exact h
      | 3, _ => exact h
      | 4, _ => exact h
      | 5, _ => exact h
      | 6, _ => exact h
      | 7, _ => exact h
      | 8, _ => exact h
      | 9, _ => exact h
      | 10, _ => exact h
    · intro w1 w2 hb h
      exact h.grow hb
    · exact M.grow ((Up.refl _).drew)
    · rintro i o hi ho av wv fr gM dep
      match i, hi with
      | 0, _ =>
        obtain rfl := Option.some.inj ho
        exact st_mov rfl (fr.eval rfl) rfl
      | 1, _ =>
        obtain rfl := Option.some.inj ho
        have d0 := dep ⟨0, .data⟩ (by simp) rfl
        exact st_ret1 rfl (fun _ _ => by kernel_rfl) d0 (HKY.out _ _ (HVA.out.up gM.up)) (fun r w' h _ => h)
      | 2, _ =>
        obtain rfl := Option.some.inj ho
        exact st_mov rfl (fr.eval rfl) rfl
      | 3, _ =>
        obtain rfl := Option.some.inj ho
        exact st_mov rfl (fr.eval rfl) rfl
      | 4, _ =>
        obtain rfl := Option.some.inj ho
        exact st_loadG gM rfl (fr.eval rfl) (by first | rfl | (simp; done)) rfl
      | 5, _ =>
        obtain rfl := Option.some.inj ho
        exact st_mov rfl (fr.eval rfl) rfl
      | 6, _ =>
        obtain rfl := Option.some.inj ho
        have d0 := dep ⟨1, .data⟩ (by simp) rfl
        have d1 := dep ⟨2, .data⟩ (by simp) rfl
        have d2 := dep ⟨3, .data⟩ (by simp) rfl
        have d3 := dep ⟨4, .data⟩ (by simp) rfl
        have d4 := dep ⟨5, .data⟩ (by simp) rfl
        exact st_ret5 rfl (fun _ _ => by kernel_rfl) d0 d1 d2 d3 d4 (HCP.out _ _ (HVB.out.up gM.up)) (fun r w' h _ => h)
      | 7, _ =>
        obtain rfl := Option.some.inj ho
        exact st_mov rfl (dep ⟨6, .data⟩ (by simp) rfl) rfl
      | 8, _ =>
        obtain rfl := Option.some.inj ho
        exact st_ext0 rfl (dep ⟨7, .data⟩ (by simp) rfl) rfl
      | 9, _ =>
        obtain rfl := Option.some.inj ho
        exact st_ext1 rfl (dep ⟨7, .data⟩ (by simp) rfl) rfl
      | 10, _ =>
        obtain rfl := Option.some.inj ho
        exact st_move (.inr rfl) (dep ⟨8, .data⟩ (by simp) rfl) rfl
    · rintro vs wv gM hf
      have f0 : vs 0 = .slice (some ⟨g, o, none⟩) n cap1 := hf 0 (by omega)
      have f1 : vs 1 = .agg (bA z.1) := hf 1 (by omega)
      have f2 : vs 2 = .int .i64 (n : Int) := hf 2 (by omega)
      have f3 : vs 3 = .int .i64 (i : Int) := hf 3 (by omega)
      have f4 : vs 4 = .agg (bA lf.1) := hf 4 (by omega)
      have f5 : vs 5 = .slice b2 m cap2 := hf 5 (by omega)
      have f6 : vs 6 = .tuple #[.bool B, .int .i64 0] := hf 6 (by omega)
      have f7 : vs 7 = .tuple #[.bool B, .int .i64 0] := hf 7 (by omega)
      have f8 : vs 8 = .bool B := hf 8 (by omega)
      have f9 : vs 9 = .int .i64 0 := hf 9 (by omega)
      have f10 : vs 10 = .bool B := hf 10 (by omega)
      simp only [putAll, Act.put, List.getElem?_toArray, List.getElem?_cons_zero, List.getElem?_cons_succ, Option.bind_some, List.setIfInBounds_toArray, List.set_cons_zero, List.set_cons_succ, List.drop_succ_cons, List.drop_zero, List.drop_nil, f9, f10]
      clear f0 f1 f2 f3 f4 f5 f6 f7 f8 f9 f10 hf
      have M := gM
      clear gM
      cases B with
      | false =>
        have HE := Lib.hid (HE0.out rfl)
        clear HE0 HE1 HE2
        go_wp2_with (first
          | (with_reducible (show wpList _ _ _ (Oper.mk (some 6) (.box _ _) _ _ _ _ :: _) _ _); (first | (refine m_boxA M rfl rfl rfl ?_) | (refine m_box1 (v := Value.int _ _) M rfl rfl rfl rfl ?_) | (refine m_box1 (v := Value.slice _ _ _) M rfl rfl rfl rfl ?_) | (refine m_box1 (v := Value.bool _) M rfl rfl rfl rfl ?_) | (refine m_box1 (v := Value.string _) M rfl rfl rfl rfl ?_) | (refine m_box1 (v := Value.pointer _) M rfl rfl rfl rfl ?_)); clear M; (try clear wx); intro g6 wx M)
          | (with_reducible (show wpList _ _ _ (Oper.mk (some 8) (.alloc _) _ _ _ _ :: _) _ _); refine mem_new M rfl rfl ?_; clear M; (try clear wx); intro g8 wx M)
          | (with_reducible (show wpList _ _ _ (Oper.mk (some 13) (.alloc _) _ _ _ _ :: _) _ _); refine mem_new M rfl rfl ?_; clear M; (try clear wx); intro g13 wx M)
          | (with_reducible (show wpList _ _ _ (Oper.mk (some 17) (.alloc _) _ _ _ _ :: _) _ _); refine mem_new M rfl rfl ?_; clear M; (try clear wx); intro g17 wx M)
          | (with_reducible (show wpList _ _ _ (Oper.mk _ (.load _ _) _ _ _ _ :: _) _ _); (first | (refine m_load M rfl rfl rfl (by first | assumption | rfl) ?_) | (refine m_loadR M rfl rfl rfl (by first | rfl | assumption | (simp; done) | (simp; omega)) ?_)))
          | (with_reducible (show wpList _ _ _ (Oper.mk _ (.store _ _ _) _ _ _ _ :: _) _ _); (first | (refine m_storeR M rfl rfl rfl rfl (by first | rfl | assumption | (simp; done) | (simp; omega)) (by first | rfl | assumption | (simp; done) | (simp; omega)) (by first | exact bA_one _ | exact claV_one _ | exact claC_one _ _ _ _) ?_) | (refine m_store (v := Value.int _ _) M rfl rfl rfl rfl rfl (by first | assumption | (simp; done) | (simp; omega)) ?_) | (refine m_store (v := Value.slice _ _ _) M rfl rfl rfl rfl rfl (by first | assumption | (simp; done) | (simp; omega)) ?_) | (refine m_store (v := Value.bool _) M rfl rfl rfl rfl rfl (by first | assumption | (simp; done) | (simp; omega)) ?_) | (refine m_store (v := Value.string _) M rfl rfl rfl rfl rfl (by first | assumption | (simp; done) | (simp; omega)) ?_) | (refine m_store (v := Value.pointer _) M rfl rfl rfl rfl rfl (by first | assumption | (simp; done) | (simp; omega)) ?_)); clear M; (try clear wx); intro wx M; simp only [List.set_cons_zero, List.set_cons_succ, Nat.zero_add, List.nil_append] at M)
          | (with_reducible (show wpList _ _ _ (Oper.mk _ (.build _ _) _ _ _ _ :: _) _ _); refine m_buildZ rfl rfl ?_))
        exact m_ret2 M rfl rfl rfl (by simp) (by rw [HE.out]; rfl)
      | true =>
      have HF1 := Lib.hid (HE1.out rfl)
      have HF2 := Lib.hid (HE2.out rfl)
      clear HE0 HE1 HE2
      go_wp2_with (first
        | (with_reducible (show wpList _ _ _ (Oper.mk (some 6) (.box _ _) _ _ _ _ :: _) _ _); (first | (refine m_boxA M rfl rfl rfl ?_) | (refine m_box1 (v := Value.int _ _) M rfl rfl rfl rfl ?_) | (refine m_box1 (v := Value.slice _ _ _) M rfl rfl rfl rfl ?_) | (refine m_box1 (v := Value.bool _) M rfl rfl rfl rfl ?_) | (refine m_box1 (v := Value.string _) M rfl rfl rfl rfl ?_) | (refine m_box1 (v := Value.pointer _) M rfl rfl rfl rfl ?_)); clear M; (try clear wx); intro g6 wx M)
        | (with_reducible (show wpList _ _ _ (Oper.mk (some 8) (.alloc _) _ _ _ _ :: _) _ _); refine mem_new M rfl rfl ?_; clear M; (try clear wx); intro g8 wx M)
        | (with_reducible (show wpList _ _ _ (Oper.mk (some 13) (.alloc _) _ _ _ _ :: _) _ _); refine mem_new M rfl rfl ?_; clear M; (try clear wx); intro g13 wx M)
        | (with_reducible (show wpList _ _ _ (Oper.mk (some 17) (.alloc _) _ _ _ _ :: _) _ _); refine mem_new M rfl rfl ?_; clear M; (try clear wx); intro g17 wx M)
        | (with_reducible (show wpList _ _ _ (Oper.mk _ (.load _ _) _ _ _ _ :: _) _ _); (first | (refine m_load M rfl rfl rfl (by first | assumption | rfl) ?_) | (refine m_loadR M rfl rfl rfl (by first | rfl | assumption | (simp; done) | (simp; omega)) ?_)))
        | (with_reducible (show wpList _ _ _ (Oper.mk _ (.store _ _ _) _ _ _ _ :: _) _ _); (first | (refine m_storeR M rfl rfl rfl rfl (by first | rfl | assumption | (simp; done) | (simp; omega)) (by first | rfl | assumption | (simp; done) | (simp; omega)) (by first | exact bA_one _ | exact claV_one _ | exact claC_one _ _ _ _) ?_) | (refine m_store (v := Value.int _ _) M rfl rfl rfl rfl rfl (by first | assumption | (simp; done) | (simp; omega)) ?_) | (refine m_store (v := Value.slice _ _ _) M rfl rfl rfl rfl rfl (by first | assumption | (simp; done) | (simp; omega)) ?_) | (refine m_store (v := Value.bool _) M rfl rfl rfl rfl rfl (by first | assumption | (simp; done) | (simp; omega)) ?_) | (refine m_store (v := Value.string _) M rfl rfl rfl rfl rfl (by first | assumption | (simp; done) | (simp; omega)) ?_) | (refine m_store (v := Value.pointer _) M rfl rfl rfl rfl rfl (by first | assumption | (simp; done) | (simp; omega)) ?_)); clear M; (try clear wx); intro wx M; simp only [List.set_cons_zero, List.set_cons_succ, Nat.zero_add, List.nil_append] at M)
        | (with_reducible (show wpList _ _ _ (Oper.mk _ (.build _ _) _ _ _ _ :: _) _ _); refine m_buildZ rfl rfl ?_))
      refine region_mono (m := 6) mixedOrders_ (by kernel_rfl) (by kernel_rfl)
        (fun | 0 => fun vq _ => vq = .agg (bA lf.1) | 1 => fun vq _ => vq = .slice (some ⟨g, o, none⟩) n cap1 | 2 => fun vq _ => vq = .int .i64 (i : Int) | 3 => fun vq _ => vq = .pointer (some ⟨g, o + i * 32, none⟩) | 4 => fun vq _ => vq = .agg (bA (x.1)) | 5 => fun vq _ => vq = .bool c | _ => fun _ _ => True)
        (fun wx => Mem w wx [.blk g8 27 (claC zeroKy.1 zeroKy.1 zeroKy.1 zeroKy.1), .blk g6 25 (bA lf.1)]) ?_ ?_ ?_ ?_ ?_
      · intro j hj v w1 w2 hb h
        match j, hj with
        | 0, _ => exact h
        | 1, _ => exact h
        | 2, _ => exact h
        | 3, _ => exact h
        | 4, _ => exact h
        | 5, _ => exact h
      · intro w1 w2 hb h
        exact h.grow hb
      · exact M.grow ((Up.refl _).drew)
      · rintro i o hi ho av wv fr gM dep
        match i, hi with
        | 0, _ =>
          obtain rfl := Option.some.inj ho
          exact st_loadG gM rfl (fr.eval rfl) (by first | rfl | (simp; done)) rfl
        | 1, _ =>
          obtain rfl := Option.some.inj ho
          exact st_mov rfl (fr.eval rfl) rfl
        | 2, _ =>
          obtain rfl := Option.some.inj ho
          exact st_mov rfl (fr.eval rfl) rfl
        | 3, _ =>
          obtain rfl := Option.some.inj ho
          exact st_indexAddr rfl (dep ⟨1, .data⟩ (by simp) rfl) (dep ⟨2, .data⟩ (by simp) rfl) (ix_slice _ _ _ _ _ hin _) rfl
        | 4, _ =>
          obtain rfl := Option.some.inj ho
          exact st_loadA rfl (dep ⟨3, .data⟩ (by simp) rfl) (C1.out _ gM.up) x.2 rfl
        | 5, _ =>
          obtain rfl := Option.some.inj ho
          exact st_bin rfl (dep ⟨0, .data⟩ (by simp) rfl) (dep ⟨4, .data⟩ (by simp) rfl) (by have := key_eqlG lf x; rw [HC.out] at this; exact this _ _ _) rfl
      · rintro vs wv gM hf
        have f0 : vs 0 = .agg (bA lf.1) := hf 0 (by omega)
        have f1 : vs 1 = .slice (some ⟨g, o, none⟩) n cap1 := hf 1 (by omega)
        have f2 : vs 2 = .int .i64 (i : Int) := hf 2 (by omega)
        have f3 : vs 3 = .pointer (some ⟨g, o + i * 32, none⟩) := hf 3 (by omega)
        have f4 : vs 4 = .agg (bA (x.1)) := hf 4 (by omega)
        have f5 : vs 5 = .bool c := hf 5 (by omega)
        simp only [putAll, Act.put, List.getElem?_toArray, List.getElem?_cons_zero, List.getElem?_cons_succ, Option.bind_some, List.setIfInBounds_toArray, List.set_cons_zero, List.set_cons_succ, List.drop_succ_cons, List.drop_zero, List.drop_nil, f5]
        clear f0 f1 f2 f3 f4 f5 hf
        have M := gM
        clear gM
        cases c with
        | true =>
          have HE := Lib.hid (HF1.out (of_decide_eq_true HC.out))
          clear HF1 HF2
          go_wp2_with (first
            | (with_reducible (show wpList _ _ _ (Oper.mk (some 6) (.box _ _) _ _ _ _ :: _) _ _); (first | (refine m_boxA M rfl rfl rfl ?_) | (refine m_box1 (v := Value.int _ _) M rfl rfl rfl rfl ?_) | (refine m_box1 (v := Value.slice _ _ _) M rfl rfl rfl rfl ?_) | (refine m_box1 (v := Value.bool _) M rfl rfl rfl rfl ?_) | (refine m_box1 (v := Value.string _) M rfl rfl rfl rfl ?_) | (refine m_box1 (v := Value.pointer _) M rfl rfl rfl rfl ?_)); clear M; (try clear wx); intro g6 wx M)
            | (with_reducible (show wpList _ _ _ (Oper.mk (some 8) (.alloc _) _ _ _ _ :: _) _ _); refine mem_new M rfl rfl ?_; clear M; (try clear wx); intro g8 wx M)
            | (with_reducible (show wpList _ _ _ (Oper.mk (some 13) (.alloc _) _ _ _ _ :: _) _ _); refine mem_new M rfl rfl ?_; clear M; (try clear wx); intro g13 wx M)
            | (with_reducible (show wpList _ _ _ (Oper.mk (some 17) (.alloc _) _ _ _ _ :: _) _ _); refine mem_new M rfl rfl ?_; clear M; (try clear wx); intro g17 wx M)
            | (with_reducible (show wpList _ _ _ (Oper.mk _ (.load _ _) _ _ _ _ :: _) _ _); (first | (refine m_load M rfl rfl rfl (by first | assumption | rfl) ?_) | (refine m_loadR M rfl rfl rfl (by first | rfl | assumption | (simp; done) | (simp; omega)) ?_)))
            | (with_reducible (show wpList _ _ _ (Oper.mk _ (.store _ _ _) _ _ _ _ :: _) _ _); (first | (refine m_storeR M rfl rfl rfl rfl (by first | rfl | assumption | (simp; done) | (simp; omega)) (by first | rfl | assumption | (simp; done) | (simp; omega)) (by first | exact bA_one _ | exact claV_one _ | exact claC_one _ _ _ _) ?_) | (refine m_store (v := Value.int _ _) M rfl rfl rfl rfl rfl (by first | assumption | (simp; done) | (simp; omega)) ?_) | (refine m_store (v := Value.slice _ _ _) M rfl rfl rfl rfl rfl (by first | assumption | (simp; done) | (simp; omega)) ?_) | (refine m_store (v := Value.bool _) M rfl rfl rfl rfl rfl (by first | assumption | (simp; done) | (simp; omega)) ?_) | (refine m_store (v := Value.string _) M rfl rfl rfl rfl rfl (by first | assumption | (simp; done) | (simp; omega)) ?_) | (refine m_store (v := Value.pointer _) M rfl rfl rfl rfl rfl (by first | assumption | (simp; done) | (simp; omega)) ?_)); clear M; (try clear wx); intro wx M; simp only [List.set_cons_zero, List.set_cons_succ, Nat.zero_add, List.nil_append] at M)
            | (with_reducible (show wpList _ _ _ (Oper.mk _ (.build _ _) _ _ _ _ :: _) _ _); refine m_buildZ rfl rfl ?_))
          exact m_ret2 M rfl rfl rfl (by simp) (by rw [HE.out]; rfl)
        | false =>
        obtain ⟨hmd, R, hR, hQ⟩ := HF2.out (of_decide_eq_false HC.out)
        have HQ := Lib.hid hQ
        have HR := Lib.hid hR
        clear HF1 HF2 hQ hR HC
        subst hmd
        rw [HOL.out] at HPO
        go_wp2_with (first
          | (with_reducible (show wpList _ _ _ (Oper.mk (some 6) (.box _ _) _ _ _ _ :: _) _ _); (first | (refine m_boxA M rfl rfl rfl ?_) | (refine m_box1 (v := Value.int _ _) M rfl rfl rfl rfl ?_) | (refine m_box1 (v := Value.slice _ _ _) M rfl rfl rfl rfl ?_) | (refine m_box1 (v := Value.bool _) M rfl rfl rfl rfl ?_) | (refine m_box1 (v := Value.string _) M rfl rfl rfl rfl ?_) | (refine m_box1 (v := Value.pointer _) M rfl rfl rfl rfl ?_)); clear M; (try clear wx); intro g6 wx M)
          | (with_reducible (show wpList _ _ _ (Oper.mk (some 8) (.alloc _) _ _ _ _ :: _) _ _); refine mem_new M rfl rfl ?_; clear M; (try clear wx); intro g8 wx M)
          | (with_reducible (show wpList _ _ _ (Oper.mk (some 13) (.alloc _) _ _ _ _ :: _) _ _); refine mem_new M rfl rfl ?_; clear M; (try clear wx); intro g13 wx M)
          | (with_reducible (show wpList _ _ _ (Oper.mk (some 17) (.alloc _) _ _ _ _ :: _) _ _); refine mem_new M rfl rfl ?_; clear M; (try clear wx); intro g17 wx M)
          | (with_reducible (show wpList _ _ _ (Oper.mk _ (.load _ _) _ _ _ _ :: _) _ _); (first | (refine m_load M rfl rfl rfl (by first | assumption | rfl) ?_) | (refine m_loadR M rfl rfl rfl (by first | rfl | assumption | (simp; done) | (simp; omega)) ?_)))
          | (with_reducible (show wpList _ _ _ (Oper.mk _ (.store _ _ _) _ _ _ _ :: _) _ _); (first | (refine m_storeR M rfl rfl rfl rfl (by first | rfl | assumption | (simp; done) | (simp; omega)) (by first | rfl | assumption | (simp; done) | (simp; omega)) (by first | exact bA_one _ | exact claV_one _ | exact claC_one _ _ _ _) ?_) | (refine m_store (v := Value.int _ _) M rfl rfl rfl rfl rfl (by first | assumption | (simp; done) | (simp; omega)) ?_) | (refine m_store (v := Value.slice _ _ _) M rfl rfl rfl rfl rfl (by first | assumption | (simp; done) | (simp; omega)) ?_) | (refine m_store (v := Value.bool _) M rfl rfl rfl rfl rfl (by first | assumption | (simp; done) | (simp; omega)) ?_) | (refine m_store (v := Value.string _) M rfl rfl rfl rfl rfl (by first | assumption | (simp; done) | (simp; omega)) ?_) | (refine m_store (v := Value.pointer _) M rfl rfl rfl rfl rfl (by first | assumption | (simp; done) | (simp; omega)) ?_)); clear M; (try clear wx); intro wx M; simp only [List.set_cons_zero, List.set_cons_succ, Nat.zero_add, List.nil_append] at M)
          | (with_reducible (show wpList _ _ _ (Oper.mk _ (.build _ _) _ _ _ _ :: _) _ _); refine m_buildZ rfl rfl ?_))
        have hFk : ∀ (j : Nat) (u : Value) (wa wb : World), j < 8 → (fun (j : Nat) (v : Value) (_ : World) => (match j with | 0 => (fun vq => vq = .slice (some ⟨g, o, none⟩) n cap1) v | 1 => (fun vq => vq = .int .i64 (i : Int)) v | 2 => (fun vq => vq = .pointer (some ⟨g, o + i * 32, none⟩)) v | 3 => (fun vq => vq = .agg (bA x.1)) v | 4 => (fun vq => vq = .slice (some ⟨g, o, none⟩) n cap1) v | 5 => (fun vq => vq = .int .i64 (i : Int)) v | 6 => (fun _ => True) v | 7 => (fun _ => True) v | _ => True)) j u wa → (fun (j : Nat) (v : Value) (_ : World) => (match j with | 0 => (fun vq => vq = .slice (some ⟨g, o, none⟩) n cap1) v | 1 => (fun vq => vq = .int .i64 (i : Int)) v | 2 => (fun vq => vq = .pointer (some ⟨g, o + i * 32, none⟩)) v | 3 => (fun vq => vq = .agg (bA x.1)) v | 4 => (fun vq => vq = .slice (some ⟨g, o, none⟩) n cap1) v | 5 => (fun vq => vq = .int .i64 (i : Int)) v | 6 => (fun _ => True) v | 7 => (fun _ => True) v | _ => True)) j u wb := fun _ _ _ _ _ h => h
        refine region_monoA (m := 8) mixedOrders_ (by kernel_rfl) (by kernel_rfl)
          (fun (j : Nat) (v : Value) (_ : World) => (match j with | 0 => (fun vq => vq = .slice (some ⟨g, o, none⟩) n cap1) v | 1 => (fun vq => vq = .int .i64 (i : Int)) v | 2 => (fun vq => vq = .pointer (some ⟨g, o + i * 32, none⟩)) v | 3 => (fun vq => vq = .agg (bA x.1)) v | 4 => (fun vq => vq = .slice (some ⟨g, o, none⟩) n cap1) v | 5 => (fun vq => vq = .int .i64 (i : Int)) v | 6 => (fun _ => True) v | 7 => (fun _ => True) v | _ => True))
          (fun s av wx => Two w [.blk g8 27 (claC zeroKy.1 zeroKy.1 zeroKy.1 zeroKy.1), .blk g6 25 (bA lf.1)] 25 32 m (kyL os) 25 (bA zeroKy.1) (s 6) (s 7) (av.tmps.getD 62 undef) (av.tmps.getD 13 undef) wx) ?_ ?_ ?_
        · exact M.grow ((Up.refl _).drew)
        · rintro i o hi ho av wv s fr gT hs cl dep
          have hsz : av.tmps.size = 112 := fr.size
          match i, hi with
          | 0, _ =>
            obtain rfl := Option.some.inj ho
            exact stA (G := fun av wx => Two w [.blk g8 27 (claC zeroKy.1 zeroKy.1 zeroKy.1 zeroKy.1), .blk g6 25 (bA lf.1)] 25 32 m (kyL os) 25 (bA zeroKy.1) (if 6 = 0 then true else s 6) (if 7 = 0 then true else s 7) (av.tmps.getD 62 undef) (av.tmps.getD 13 undef) wx) hFk rfl rfl rfl (st_mov rfl (fr.eval rfl) ⟨rfl, gT.keep (by decide) (by decide) _⟩)
          | 1, _ =>
            obtain rfl := Option.some.inj ho
            exact stA (G := fun av wx => Two w [.blk g8 27 (claC zeroKy.1 zeroKy.1 zeroKy.1 zeroKy.1), .blk g6 25 (bA lf.1)] 25 32 m (kyL os) 25 (bA zeroKy.1) (if 6 = 1 then true else s 6) (if 7 = 1 then true else s 7) (av.tmps.getD 62 undef) (av.tmps.getD 13 undef) wx) hFk rfl rfl rfl (st_mov rfl (fr.eval rfl) ⟨rfl, gT.keep (by decide) (by decide) _⟩)
          | 2, _ =>
            obtain rfl := Option.some.inj ho
            exact stA (G := fun av wx => Two w [.blk g8 27 (claC zeroKy.1 zeroKy.1 zeroKy.1 zeroKy.1), .blk g6 25 (bA lf.1)] 25 32 m (kyL os) 25 (bA zeroKy.1) (if 6 = 2 then true else s 6) (if 7 = 2 then true else s 7) (av.tmps.getD 62 undef) (av.tmps.getD 13 undef) wx) hFk rfl rfl rfl (st_indexAddr rfl (dep ⟨0, .data⟩ (by simp) rfl).2 (dep ⟨1, .data⟩ (by simp) rfl).2 (ix_slice _ _ _ _ _ hin _) ⟨rfl, gT.keep (by decide) (by decide) _⟩)
          | 3, _ =>
            obtain rfl := Option.some.inj ho
            exact stA (G := fun av wx => Two w [.blk g8 27 (claC zeroKy.1 zeroKy.1 zeroKy.1 zeroKy.1), .blk g6 25 (bA lf.1)] 25 32 m (kyL os) 25 (bA zeroKy.1) (if 6 = 3 then true else s 6) (if 7 = 3 then true else s 7) (av.tmps.getD 62 undef) (av.tmps.getD 13 undef) wx) hFk rfl rfl rfl (st_loadA rfl (dep ⟨2, .data⟩ (by simp) rfl).2 (C1.out _ gT.up_) x.2 ⟨rfl, gT.keep (by decide) (by decide) _⟩)
          | 4, _ =>
            obtain rfl := Option.some.inj ho
            exact stA (G := fun av wx => Two w [.blk g8 27 (claC zeroKy.1 zeroKy.1 zeroKy.1 zeroKy.1), .blk g6 25 (bA lf.1)] 25 32 m (kyL os) 25 (bA zeroKy.1) (if 6 = 4 then true else s 6) (if 7 = 4 then true else s 7) (av.tmps.getD 62 undef) (av.tmps.getD 13 undef) wx) hFk rfl rfl rfl (st_mov rfl (fr.eval rfl) ⟨rfl, gT.keep (by decide) (by decide) _⟩)
          | 5, _ =>
            obtain rfl := Option.some.inj ho
            exact stA (G := fun av wx => Two w [.blk g8 27 (claC zeroKy.1 zeroKy.1 zeroKy.1 zeroKy.1), .blk g6 25 (bA lf.1)] 25 32 m (kyL os) 25 (bA zeroKy.1) (if 6 = 5 then true else s 6) (if 7 = 5 then true else s 7) (av.tmps.getD 62 undef) (av.tmps.getD 13 undef) wx) hFk rfl rfl rfl (st_mov rfl (fr.eval rfl) ⟨rfl, gT.keep (by decide) (by decide) _⟩)
          | 6, _ =>
            obtain rfl := Option.some.inj ho
            exact stA (G := fun av wx => Two w [.blk g8 27 (claC zeroKy.1 zeroKy.1 zeroKy.1 zeroKy.1), .blk g6 25 (bA lf.1)] 25 32 m (kyL os) 25 (bA zeroKy.1) (if 6 = 6 then true else s 6) (if 7 = 6 then true else s 7) (av.tmps.getD 62 undef) (av.tmps.getD 13 undef) wx) hFk rfl rfl rfl (st_ret2 rfl (fun _ _ => by kernel_rfl) (dep ⟨4, .data⟩ (by simp) rfl).2 (dep ⟨5, .data⟩ (by simp) rfl).2 (HPO.out _ (HVA.out.up gT.up_)) (fun r w' h hb => ⟨trivial, gT.atOwn hs (by rw [hsz]; decide) (by decide) hb h⟩))
          | 7, _ =>
            obtain rfl := Option.some.inj ho
            exact stA (G := fun av wx => Two w [.blk g8 27 (claC zeroKy.1 zeroKy.1 zeroKy.1 zeroKy.1), .blk g6 25 (bA lf.1)] 25 32 m (kyL os) 25 (bA zeroKy.1) (if 6 = 7 then true else s 6) (if 7 = 7 then true else s 7) (av.tmps.getD 62 undef) (av.tmps.getD 13 undef) wx) hFk rfl rfl rfl (st_newTwo gT hs rfl rfl (by rw [hsz]; decide) (by decide))
        · rintro vs wv s hall gT hf
          rw [hall 6 (by omega), hall 7 (by omega)] at gT
          obtain ⟨bo, capo, g13, e6, e7, M⟩ := gT
          have f3 : vs 3 = .agg (bA x.1) := hf 3 (by omega)
          clear hFk hall
          simp only [putAll, Act.put, List.getElem?_toArray, List.getElem?_cons_zero, List.getElem?_cons_succ, Option.bind_some, List.setIfInBounds_toArray, List.set_cons_zero, List.set_cons_succ, Array.getD_eq_getD_getElem?, Option.getD_some] at e6 e7
          simp only [putAll, Act.put, List.getElem?_toArray, List.getElem?_cons_zero, List.getElem?_cons_succ, Option.bind_some, List.setIfInBounds_toArray, List.set_cons_zero, List.set_cons_succ, List.drop_succ_cons, List.drop_zero, List.drop_nil, f3, e6, e7]
          clear f3 e6 e7 hf
          go_wp2_with (first
            | (go_at_call 74; (with_reducible refine mem_callO M (HSd.out _) ?_); clear M; (try clear wx); intro bs caps wx M)
            | (with_reducible (show wpList _ _ _ (Oper.mk (some 6) (.box _ _) _ _ _ _ :: _) _ _); (first | (refine m_boxA M rfl rfl rfl ?_) | (refine m_box1 (v := Value.int _ _) M rfl rfl rfl rfl ?_) | (refine m_box1 (v := Value.slice _ _ _) M rfl rfl rfl rfl ?_) | (refine m_box1 (v := Value.bool _) M rfl rfl rfl rfl ?_) | (refine m_box1 (v := Value.string _) M rfl rfl rfl rfl ?_) | (refine m_box1 (v := Value.pointer _) M rfl rfl rfl rfl ?_)); clear M; (try clear wx); intro g6 wx M)
            | (with_reducible (show wpList _ _ _ (Oper.mk (some 8) (.alloc _) _ _ _ _ :: _) _ _); refine mem_new M rfl rfl ?_; clear M; (try clear wx); intro g8 wx M)
            | (with_reducible (show wpList _ _ _ (Oper.mk (some 13) (.alloc _) _ _ _ _ :: _) _ _); refine mem_new M rfl rfl ?_; clear M; (try clear wx); intro g13 wx M)
            | (with_reducible (show wpList _ _ _ (Oper.mk (some 17) (.alloc _) _ _ _ _ :: _) _ _); refine mem_new M rfl rfl ?_; clear M; (try clear wx); intro g17 wx M)
            | (with_reducible (show wpList _ _ _ (Oper.mk _ (.load _ _) _ _ _ _ :: _) _ _); (first | (refine m_load M rfl rfl rfl (by first | assumption | rfl) ?_) | (refine m_loadR M rfl rfl rfl (by first | rfl | assumption | (simp; done) | (simp; omega)) ?_)))
            | (with_reducible (show wpList _ _ _ (Oper.mk _ (.store _ _ _) _ _ _ _ :: _) _ _); (first | (refine m_storeR M rfl rfl rfl rfl (by first | rfl | assumption | (simp; done) | (simp; omega)) (by first | rfl | assumption | (simp; done) | (simp; omega)) (by first | exact bA_one _ | exact claV_one _ | exact claC_one _ _ _ _) ?_) | (refine m_store (v := Value.int _ _) M rfl rfl rfl rfl rfl (by first | assumption | (simp; done) | (simp; omega)) ?_) | (refine m_store (v := Value.slice _ _ _) M rfl rfl rfl rfl rfl (by first | assumption | (simp; done) | (simp; omega)) ?_) | (refine m_store (v := Value.bool _) M rfl rfl rfl rfl rfl (by first | assumption | (simp; done) | (simp; omega)) ?_) | (refine m_store (v := Value.string _) M rfl rfl rfl rfl rfl (by first | assumption | (simp; done) | (simp; omega)) ?_) | (refine m_store (v := Value.pointer _) M rfl rfl rfl rfl rfl (by first | assumption | (simp; done) | (simp; omega)) ?_)); clear M; (try clear wx); intro wx M; simp only [List.set_cons_zero, List.set_cons_succ, Nat.zero_add, List.nil_append] at M)
            | (with_reducible (show wpList _ _ _ (Oper.mk _ (.build _ _) _ _ _ _ :: _) _ _); refine m_buildZ rfl rfl ?_))
          go_loopg [67] m (fun q t wr => ∃ (k : Nat) (own lfk : Ky), k + q = m ∧ t = .int .i64 (k : Int) ∧ Hid (clF own lfk (S.drop k) (os.drop k) (ps.drop k) = some R) ∧ Mem w wr [.own bs caps 4 1 m (boL S), .blk g13 25 (bA own.1), .own bo capo 25 32 m (kyL os), .blk g8 27 (claC zeroKy.1 zeroKy.1 zeroKy.1 zeroKy.1), .blk g6 25 (bA lfk.1)])
          case atStart => exact ⟨0, x, lf, by omega, rfl, HR, M⟩
          case round =>
            obtain ⟨k, own, lfk, hk, rfl, HRk, M⟩ := hrel
            clear HR
            by_cases hlt : k < m
            · have h1 : k < S.length := by have := HSL.out; omega
              have h2 : k < os.length := by have := HOL.out; omega
              have h3 : k < ps.length := by have := HPL.out; omega
              obtain ⟨gs, ob, rfl, hr⟩ := (M.rdO (b := bs) (cap := caps) (boL_one S)).open_ (by omega)
              have c1 := hr wr (Up.refl _) k _ (boL_get S k h1)
              obtain ⟨go, oo, rfl, hro⟩ := (M.rdO (b := bo) (cap := capo) (kyL_one os)).open_ (by omega)
              have HO : Hid (∀ wx, Rd wx 32 (.slice (some ⟨go, oo, none⟩) m capo) m (kyL os) → wx.rangeAt go (oo + k * 32) (bL (os[k]'h2).1)) := Lib.hid (fun wx h => rd_key h (by omega) h2)
              obtain ⟨g, o, rfl, hr2⟩ := HVB.out.open_ (by omega)
              have C2 := Lib.hid (fun wx (hb : Up w wx) => kyL_range (hr2 wx hb) k h3)
              have hX := clF_drop own lfk S os ps k h1 h2 h3 HRk.out
              have HK := Lib.hid hk
              clear hr hro hr2 hk HRk
              generalize (S[k]'h1) = r at *
              generalize (os[k]'h2) = uk at *
              generalize (ps[k]'h3) = vk at *
              clear h1 h2 h3
              obtain ⟨a1, e1⟩ : ∃ a1, (if r = true then uk else own) = a1 := ⟨_, rfl⟩
              obtain ⟨a2, e2⟩ : ∃ a2, (if r = true then own else uk) = a2 := ⟨_, rfl⟩
              obtain ⟨b1', e3⟩ : ∃ b1', (if r = true then vk else lfk) = b1' := ⟨_, rfl⟩
              obtain ⟨b2', e4⟩ : ∃ b2', (if r = true then lfk else vk) = b2' := ⟨_, rfl⟩
              have HP1 : Hid (∀ w, Ret Try.prog 75 #[.agg (bA own.1), .agg (bA uk.1), .bool r] w fun t _ => t = .tuple #[.agg (bA a1.1), .agg (bA a2.1)]) := Lib.hid (fun w => by have := paired_c own uk r w; rwa [e1, e2] at this)
              have HP2 : Hid (∀ w, Ret Try.prog 75 #[.agg (bA lfk.1), .agg (bA vk.1), .bool r] w fun t _ => t = .tuple #[.agg (bA b1'.1), .agg (bA b2'.1)]) := Lib.hid (fun w => by have := paired_c lfk vk r w; rwa [e3, e4] at this)
              rw [show mkC r own uk lfk vk = (a1, a2, b1', b2') by unfold mkC; rw [e1, e2, e3, e4], show (if r = true then nodeK uk own else nodeK own uk) = nodeK a1 a2 by rw [← e1, ← e2]; cases r <;> rfl, show (if r = true then nodeK vk lfk else nodeK lfk vk) = nodeK b1' b2' by rw [← e3, ← e4]; cases r <;> rfl] at hX
              have HX := Lib.hid hX
              clear hX e1 e2 e3 e4
              obtain ⟨e, he⟩ : ∃ e, vcB (a1, a2, b1', b2') = e := ⟨_, rfl⟩
              have HV0 := Lib.hid he
              have HVC : Hid (∀ w, Ret Try.prog 76 #[.agg (claC a1.1 a2.1 b1'.1 b2'.1)] w fun t _ => t = .bool e) := Lib.hid (fun w => by have := implValid_c (a1, a2, b1', b2') w; rwa [he] at this)
              clear he
              go_wp2_with (first
                | (with_reducible (show wpList _ _ _ (Oper.mk (some 6) (.box _ _) _ _ _ _ :: _) _ _); (first | (refine m_boxA M rfl rfl rfl ?_) | (refine m_box1 (v := Value.int _ _) M rfl rfl rfl rfl ?_) | (refine m_box1 (v := Value.slice _ _ _) M rfl rfl rfl rfl ?_) | (refine m_box1 (v := Value.bool _) M rfl rfl rfl rfl ?_) | (refine m_box1 (v := Value.string _) M rfl rfl rfl rfl ?_) | (refine m_box1 (v := Value.pointer _) M rfl rfl rfl rfl ?_)); clear M; (try clear wx); intro g6 wx M)
                | (with_reducible (show wpList _ _ _ (Oper.mk (some 8) (.alloc _) _ _ _ _ :: _) _ _); refine mem_new M rfl rfl ?_; clear M; (try clear wx); intro g8 wx M)
                | (with_reducible (show wpList _ _ _ (Oper.mk (some 13) (.alloc _) _ _ _ _ :: _) _ _); refine mem_new M rfl rfl ?_; clear M; (try clear wx); intro g13 wx M)
                | (with_reducible (show wpList _ _ _ (Oper.mk (some 17) (.alloc _) _ _ _ _ :: _) _ _); refine mem_new M rfl rfl ?_; clear M; (try clear wx); intro g17 wx M)
                | (with_reducible (show wpList _ _ _ (Oper.mk _ (.load _ _) _ _ _ _ :: _) _ _); (first | (refine m_load M rfl rfl rfl (by first | assumption | rfl) ?_) | (refine m_loadR M rfl rfl rfl (by first | rfl | assumption | (simp; done) | (simp; omega)) ?_)))
                | (with_reducible (show wpList _ _ _ (Oper.mk _ (.store _ _ _) _ _ _ _ :: _) _ _); (first | (refine m_storeR M rfl rfl rfl rfl (by first | rfl | assumption | (simp; done) | (simp; omega)) (by first | rfl | assumption | (simp; done) | (simp; omega)) (by first | exact bA_one _ | exact claV_one _ | exact claC_one _ _ _ _) ?_) | (refine m_store (v := Value.int _ _) M rfl rfl rfl rfl rfl (by first | assumption | (simp; done) | (simp; omega)) ?_) | (refine m_store (v := Value.slice _ _ _) M rfl rfl rfl rfl rfl (by first | assumption | (simp; done) | (simp; omega)) ?_) | (refine m_store (v := Value.bool _) M rfl rfl rfl rfl rfl (by first | assumption | (simp; done) | (simp; omega)) ?_) | (refine m_store (v := Value.string _) M rfl rfl rfl rfl rfl (by first | assumption | (simp; done) | (simp; omega)) ?_) | (refine m_store (v := Value.pointer _) M rfl rfl rfl rfl rfl (by first | assumption | (simp; done) | (simp; omega)) ?_)); clear M; (try clear wx); intro wx M; simp only [List.set_cons_zero, List.set_cons_succ, Nat.zero_add, List.nil_append] at M)
                | (with_reducible (show wpList _ _ _ (Oper.mk _ (.build _ _) _ _ _ _ :: _) _ _); refine m_buildZ rfl rfl ?_))
              have hFk : ∀ (j : Nat) (u : Value) (wa wb : World), j < 12 → (fun (j : Nat) (v : Value) (_ : World) => (match j with | 0 => (fun vq => vq = .agg (bA own.1)) v | 1 => (fun vq => vq = .slice (some ⟨go, oo, none⟩) m capo) v | 2 => (fun vq => vq = .int .i64 (k : Int)) v | 3 => (fun vq => vq = .pointer (some ⟨go, oo + k * 32, none⟩)) v | 4 => (fun vq => vq = .agg (bA (uk.1))) v | 5 => (fun vq => vq = .bool r) v | 6 => (fun vq => vq = .tuple #[.agg (bA a1.1), .agg (bA a2.1)]) v | 7 => (fun vq => vq = .tuple #[.agg (bA a1.1), .agg (bA a2.1)]) v | 8 => (fun vq => vq = .agg (bA a1.1)) v | 9 => (fun vq => vq = .agg (bA a2.1)) v | 10 => (fun v => v = .pointer (some ⟨g17, 0, none⟩)) v | 11 => (fun _ => True) v | _ => True)) j u wa → (fun (j : Nat) (v : Value) (_ : World) => (match j with | 0 => (fun vq => vq = .agg (bA own.1)) v | 1 => (fun vq => vq = .slice (some ⟨go, oo, none⟩) m capo) v | 2 => (fun vq => vq = .int .i64 (k : Int)) v | 3 => (fun vq => vq = .pointer (some ⟨go, oo + k * 32, none⟩)) v | 4 => (fun vq => vq = .agg (bA (uk.1))) v | 5 => (fun vq => vq = .bool r) v | 6 => (fun vq => vq = .tuple #[.agg (bA a1.1), .agg (bA a2.1)]) v | 7 => (fun vq => vq = .tuple #[.agg (bA a1.1), .agg (bA a2.1)]) v | 8 => (fun vq => vq = .agg (bA a1.1)) v | 9 => (fun vq => vq = .agg (bA a2.1)) v | 10 => (fun v => v = .pointer (some ⟨g17, 0, none⟩)) v | 11 => (fun _ => True) v | _ => True)) j u wb := fun _ _ _ _ _ h => h
              refine region_monoS (m := 12) mixedOrders_ (by kernel_rfl) (by kernel_rfl)
                (fun (j : Nat) (v : Value) (_ : World) => (match j with | 0 => (fun vq => vq = .agg (bA own.1)) v | 1 => (fun vq => vq = .slice (some ⟨go, oo, none⟩) m capo) v | 2 => (fun vq => vq = .int .i64 (k : Int)) v | 3 => (fun vq => vq = .pointer (some ⟨go, oo + k * 32, none⟩)) v | 4 => (fun vq => vq = .agg (bA (uk.1))) v | 5 => (fun vq => vq = .bool r) v | 6 => (fun vq => vq = .tuple #[.agg (bA a1.1), .agg (bA a2.1)]) v | 7 => (fun vq => vq = .tuple #[.agg (bA a1.1), .agg (bA a2.1)]) v | 8 => (fun vq => vq = .agg (bA a1.1)) v | 9 => (fun vq => vq = .agg (bA a2.1)) v | 10 => (fun v => v = .pointer (some ⟨g17, 0, none⟩)) v | 11 => (fun _ => True) v | _ => True))
                (fun s wx => Mem w wx [.blk g17 27 (if s 11 = true then claC a1.1 zeroKy.1 zeroKy.1 zeroKy.1 else claC zeroKy.1 zeroKy.1 zeroKy.1 zeroKy.1), .own (some ⟨gs, ob, none⟩) caps 4 1 m (boL S), .blk g13 25 (bA own.1), .own (some ⟨go, oo, none⟩) capo 25 32 m (kyL os), .blk g8 27 (claC zeroKy.1 zeroKy.1 zeroKy.1 zeroKy.1), .blk g6 25 (bA lfk.1)]) ?_ ?_ ?_
              · show Mem w _ [.blk g17 27 (claC zeroKy.1 zeroKy.1 zeroKy.1 zeroKy.1), .own (some ⟨gs, ob, none⟩) caps 4 1 m (boL S), .blk g13 25 (bA own.1), .own (some ⟨go, oo, none⟩) capo 25 32 m (kyL os), .blk g8 27 (claC zeroKy.1 zeroKy.1 zeroKy.1 zeroKy.1), .blk g6 25 (bA lfk.1)]
                exact M.grow ((Up.refl _).drew)
              · rintro i o hi ho av wv s fr gM hs cl dep
                match i, hi with
                | 0, _ =>
                  obtain rfl := Option.some.inj ho
                  exact stT hFk gM (by first | rfl | (simp; done)) rfl rfl rfl (st_loadG gM rfl (fr.eval rfl) (by first | rfl | assumption | (simp; done) | (simp; omega)) rfl)
                | 1, _ =>
                  obtain rfl := Option.some.inj ho
                  exact stT hFk gM (by first | rfl | (simp; done)) rfl rfl rfl (st_mov rfl (fr.eval rfl) rfl)
                | 2, _ =>
                  obtain rfl := Option.some.inj ho
                  exact stT hFk gM (by first | rfl | (simp; done)) rfl rfl rfl (st_mov rfl (fr.eval rfl) rfl)
                | 3, _ =>
                  obtain rfl := Option.some.inj ho
                  exact stT hFk gM (by first | rfl | (simp; done)) rfl rfl rfl (st_indexAddr rfl (dep ⟨1, .data⟩ (by simp) rfl).2 (dep ⟨2, .data⟩ (by simp) rfl).2 (ix_slice _ _ _ _ _ hlt _) rfl)
                | 4, _ =>
                  obtain rfl := Option.some.inj ho
                  exact stT hFk gM (by first | rfl | (simp; done)) rfl rfl rfl (st_loadA rfl (dep ⟨3, .data⟩ (by simp) rfl).2 (HO.out _ (gM.rdO (b := some ⟨go, oo, none⟩) (cap := capo) (kyL_one os))) uk.2 rfl)
                | 5, _ =>
                  obtain rfl := Option.some.inj ho
                  exact stT hFk gM (by first | rfl | (simp; done)) rfl rfl rfl (st_mov rfl (fr.eval rfl) rfl)
                | 6, _ =>
                  obtain rfl := Option.some.inj ho
                  exact stT hFk gM (by first | rfl | (simp; done)) rfl rfl rfl (st_ret3 rfl (fun _ _ => by kernel_rfl) (dep ⟨0, .data⟩ (by simp) rfl).2 (dep ⟨4, .data⟩ (by simp) rfl).2 (dep ⟨5, .data⟩ (by simp) rfl).2 (HP1.out _) (fun r w' h _ => h))
                | 7, _ =>
                  obtain rfl := Option.some.inj ho
                  exact stT hFk gM (by first | rfl | (simp; done)) rfl rfl rfl (st_mov rfl ((dep ⟨6, .data⟩ (by simp) rfl).2) rfl)
                | 8, _ =>
                  obtain rfl := Option.some.inj ho
                  exact stT hFk gM (by first | rfl | (simp; done)) rfl rfl rfl (st_ext0 rfl (dep ⟨7, .data⟩ (by simp) rfl).2 rfl)
                | 9, _ =>
                  obtain rfl := Option.some.inj ho
                  exact stT hFk gM (by first | rfl | (simp; done)) rfl rfl rfl (st_ext1 rfl (dep ⟨7, .data⟩ (by simp) rfl).2 rfl)
                | 10, _ =>
                  obtain rfl := Option.some.inj ho
                  exact stT hFk gM (by first | rfl | (simp; done)) rfl rfl rfl (st_fldC rfl Try.underlying27 rfl (fr.eval rfl) 0 rfl (by kernel_rfl) rfl)
                | 11, _ =>
                  obtain rfl := Option.some.inj ho
                  have DV : av.eval (.tmp 81) = Value.agg _ := (dep ⟨8, .data⟩ (by simp) rfl).2
                  have DA : av.eval (.tmp 83) = Value.pointer (some ⟨_, _, none⟩) := (dep ⟨10, .data⟩ (by simp) rfl).2
                  simp only [hs, Bool.false_eq_true, if_false] at gM
                  refine stT_storeP hFk (fun _ _ => trivial) gM rfl rfl rfl DA DV ?_ ?_ ?_ ?_
                  · simp
                  · first | (simp [claC_size]; done) | (rw [claC_size]; done) | (simp [claC_size]; omega)
                  · first | exact claV_one _ | exact bA_one _ | exact claC_one _ _ _ _
                  · rw [cla_setA0]; first | rfl | (simp; done)
              · rintro vs wv s hall gM hf
                have hs11 := hall 11 (by omega)
                simp only [hs11, if_true] at gM
                have M : Mem w _ [.blk g17 27 (claC a1.1 zeroKy.1 zeroKy.1 zeroKy.1), .own (some ⟨gs, ob, none⟩) caps 4 1 m (boL S), .blk g13 25 (bA own.1), .own (some ⟨go, oo, none⟩) capo 25 32 m (kyL os), .blk g8 27 (claC zeroKy.1 zeroKy.1 zeroKy.1 zeroKy.1), .blk g6 25 (bA lfk.1)] := gM
                have f0 : vs 0 = .agg (bA own.1) := hf 0 (by omega)
                have f1 : vs 1 = .slice (some ⟨go, oo, none⟩) m capo := hf 1 (by omega)
                have f2 : vs 2 = .int .i64 (k : Int) := hf 2 (by omega)
                have f3 : vs 3 = .pointer (some ⟨go, oo + k * 32, none⟩) := hf 3 (by omega)
                have f4 : vs 4 = .agg (bA (uk.1)) := hf 4 (by omega)
                have f5 : vs 5 = .bool r := hf 5 (by omega)
                have f6 : vs 6 = .tuple #[.agg (bA a1.1), .agg (bA a2.1)] := hf 6 (by omega)
                have f7 : vs 7 = .tuple #[.agg (bA a1.1), .agg (bA a2.1)] := hf 7 (by omega)
                have f8 : vs 8 = .agg (bA a1.1) := hf 8 (by omega)
                have f9 : vs 9 = .agg (bA a2.1) := hf 9 (by omega)
                have f10 := hf 10 (by omega)
                clear hFk gM hall
                simp only [putAll, Act.put, List.getElem?_toArray, List.getElem?_cons_zero, List.getElem?_cons_succ, Option.bind_some, List.setIfInBounds_toArray, List.set_cons_zero, List.set_cons_succ, List.drop_succ_cons, List.drop_zero, List.drop_nil, f9]
                clear f0 f1 f2 f3 f4 f5 f6 f7 f8 f9 f10 hf
                go_wp2_with (first
                  | (with_reducible (show wpList _ _ _ (Oper.mk (some 6) (.box _ _) _ _ _ _ :: _) _ _); (first | (refine m_boxA M rfl rfl rfl ?_) | (refine m_box1 (v := Value.int _ _) M rfl rfl rfl rfl ?_) | (refine m_box1 (v := Value.slice _ _ _) M rfl rfl rfl rfl ?_) | (refine m_box1 (v := Value.bool _) M rfl rfl rfl rfl ?_) | (refine m_box1 (v := Value.string _) M rfl rfl rfl rfl ?_) | (refine m_box1 (v := Value.pointer _) M rfl rfl rfl rfl ?_)); clear M; (try clear wx); intro g6 wx M)
                  | (with_reducible (show wpList _ _ _ (Oper.mk (some 8) (.alloc _) _ _ _ _ :: _) _ _); refine mem_new M rfl rfl ?_; clear M; (try clear wx); intro g8 wx M)
                  | (with_reducible (show wpList _ _ _ (Oper.mk (some 13) (.alloc _) _ _ _ _ :: _) _ _); refine mem_new M rfl rfl ?_; clear M; (try clear wx); intro g13 wx M)
                  | (with_reducible (show wpList _ _ _ (Oper.mk (some 17) (.alloc _) _ _ _ _ :: _) _ _); refine mem_new M rfl rfl ?_; clear M; (try clear wx); intro g17 wx M)
                  | (with_reducible (show wpList _ _ _ (Oper.mk _ (.load _ _) _ _ _ _ :: _) _ _); (first | (refine m_load M rfl rfl rfl (by first | assumption | rfl) ?_) | (refine m_loadR M rfl rfl rfl (by first | rfl | assumption | (simp; done) | (simp; omega)) ?_)))
                  | (with_reducible (show wpList _ _ _ (Oper.mk _ (.store _ _ _) _ _ _ _ :: _) _ _); (first | (refine m_storeR M rfl rfl rfl rfl (by first | rfl | assumption | (simp; done) | (simp; omega)) (by first | rfl | assumption | (simp; done) | (simp; omega)) (by first | exact bA_one _ | exact claV_one _ | exact claC_one _ _ _ _) ?_) | (refine m_store (v := Value.int _ _) M rfl rfl rfl rfl rfl (by first | assumption | (simp; done) | (simp; omega)) ?_) | (refine m_store (v := Value.slice _ _ _) M rfl rfl rfl rfl rfl (by first | assumption | (simp; done) | (simp; omega)) ?_) | (refine m_store (v := Value.bool _) M rfl rfl rfl rfl rfl (by first | assumption | (simp; done) | (simp; omega)) ?_) | (refine m_store (v := Value.string _) M rfl rfl rfl rfl rfl (by first | assumption | (simp; done) | (simp; omega)) ?_) | (refine m_store (v := Value.pointer _) M rfl rfl rfl rfl rfl (by first | assumption | (simp; done) | (simp; omega)) ?_)); clear M; (try clear wx); intro wx M; simp only [List.set_cons_zero, List.set_cons_succ, Nat.zero_add, List.nil_append] at M)
                  | (with_reducible (show wpList _ _ _ (Oper.mk _ (.build _ _) _ _ _ _ :: _) _ _); refine m_buildZ rfl rfl ?_)
                  | (with_reducible (show wpList _ _ _ (Oper.mk _ (.store _ _ _) _ _ _ _ :: _) _ _); refine m_storeP M rfl rfl rfl rfl (by simp) (by simp [claC_size]) (bA_one _) ?_; clear M; (try clear wx); intro wx M; simp only [List.set_cons_zero, List.set_cons_succ, Nat.zero_add, cla_setA0, cla_setA1, cla_setA2, cla_setA3] at M))
                have hFk : ∀ (j : Nat) (u : Value) (wa wb : World), j < 12 → (fun (j : Nat) (v : Value) (_ : World) => (match j with | 0 => (fun vq => vq = .agg (bA lfk.1)) v | 1 => (fun vq => vq = .slice (some ⟨g, o, none⟩) m cap2) v | 2 => (fun vq => vq = .int .i64 (k : Int)) v | 3 => (fun vq => vq = .pointer (some ⟨g, o + k * 32, none⟩)) v | 4 => (fun vq => vq = .agg (bA (vk.1))) v | 5 => (fun vq => vq = .bool r) v | 6 => (fun vq => vq = .tuple #[.agg (bA b1'.1), .agg (bA b2'.1)]) v | 7 => (fun vq => vq = .tuple #[.agg (bA b1'.1), .agg (bA b2'.1)]) v | 8 => (fun vq => vq = .agg (bA b1'.1)) v | 9 => (fun vq => vq = .agg (bA b2'.1)) v | 10 => (fun v => v = .pointer (some ⟨g17, 64, none⟩)) v | 11 => (fun _ => True) v | _ => True)) j u wa → (fun (j : Nat) (v : Value) (_ : World) => (match j with | 0 => (fun vq => vq = .agg (bA lfk.1)) v | 1 => (fun vq => vq = .slice (some ⟨g, o, none⟩) m cap2) v | 2 => (fun vq => vq = .int .i64 (k : Int)) v | 3 => (fun vq => vq = .pointer (some ⟨g, o + k * 32, none⟩)) v | 4 => (fun vq => vq = .agg (bA (vk.1))) v | 5 => (fun vq => vq = .bool r) v | 6 => (fun vq => vq = .tuple #[.agg (bA b1'.1), .agg (bA b2'.1)]) v | 7 => (fun vq => vq = .tuple #[.agg (bA b1'.1), .agg (bA b2'.1)]) v | 8 => (fun vq => vq = .agg (bA b1'.1)) v | 9 => (fun vq => vq = .agg (bA b2'.1)) v | 10 => (fun v => v = .pointer (some ⟨g17, 64, none⟩)) v | 11 => (fun _ => True) v | _ => True)) j u wb := fun _ _ _ _ _ h => h
                refine region_monoS (m := 12) mixedOrders_ (by kernel_rfl) (by kernel_rfl)
                  (fun (j : Nat) (v : Value) (_ : World) => (match j with | 0 => (fun vq => vq = .agg (bA lfk.1)) v | 1 => (fun vq => vq = .slice (some ⟨g, o, none⟩) m cap2) v | 2 => (fun vq => vq = .int .i64 (k : Int)) v | 3 => (fun vq => vq = .pointer (some ⟨g, o + k * 32, none⟩)) v | 4 => (fun vq => vq = .agg (bA (vk.1))) v | 5 => (fun vq => vq = .bool r) v | 6 => (fun vq => vq = .tuple #[.agg (bA b1'.1), .agg (bA b2'.1)]) v | 7 => (fun vq => vq = .tuple #[.agg (bA b1'.1), .agg (bA b2'.1)]) v | 8 => (fun vq => vq = .agg (bA b1'.1)) v | 9 => (fun vq => vq = .agg (bA b2'.1)) v | 10 => (fun v => v = .pointer (some ⟨g17, 64, none⟩)) v | 11 => (fun _ => True) v | _ => True))
                  (fun s wx => Mem w wx [.blk g17 27 (if s 11 = true then claC a1.1 a2.1 b1'.1 zeroKy.1 else claC a1.1 a2.1 zeroKy.1 zeroKy.1), .own (some ⟨gs, ob, none⟩) caps 4 1 m (boL S), .blk g13 25 (bA own.1), .own (some ⟨go, oo, none⟩) capo 25 32 m (kyL os), .blk g8 27 (claC zeroKy.1 zeroKy.1 zeroKy.1 zeroKy.1), .blk g6 25 (bA lfk.1)]) ?_ ?_ ?_
                · show Mem w _ [.blk g17 27 (claC a1.1 a2.1 zeroKy.1 zeroKy.1), .own (some ⟨gs, ob, none⟩) caps 4 1 m (boL S), .blk g13 25 (bA own.1), .own (some ⟨go, oo, none⟩) capo 25 32 m (kyL os), .blk g8 27 (claC zeroKy.1 zeroKy.1 zeroKy.1 zeroKy.1), .blk g6 25 (bA lfk.1)]
                  exact M.grow ((Up.refl _).drew)
                · rintro i o hi ho av wv s fr gM hs cl dep
                  match i, hi with
                  | 0, _ =>
                    obtain rfl := Option.some.inj ho
                    exact stT hFk gM (by first | rfl | (simp; done)) rfl rfl rfl (st_loadG gM rfl (fr.eval rfl) (by first | rfl | assumption | (simp; done) | (simp; omega)) rfl)
                  | 1, _ =>
                    obtain rfl := Option.some.inj ho
                    exact stT hFk gM (by first | rfl | (simp; done)) rfl rfl rfl (st_mov rfl (fr.eval rfl) rfl)
                  | 2, _ =>
                    obtain rfl := Option.some.inj ho
                    exact stT hFk gM (by first | rfl | (simp; done)) rfl rfl rfl (st_mov rfl (fr.eval rfl) rfl)
                  | 3, _ =>
                    obtain rfl := Option.some.inj ho
                    exact stT hFk gM (by first | rfl | (simp; done)) rfl rfl rfl (st_indexAddr rfl (dep ⟨1, .data⟩ (by simp) rfl).2 (dep ⟨2, .data⟩ (by simp) rfl).2 (ix_slice _ _ _ _ _ hlt _) rfl)
                  | 4, _ =>
                    obtain rfl := Option.some.inj ho
                    exact stT hFk gM (by first | rfl | (simp; done)) rfl rfl rfl (st_loadA rfl (dep ⟨3, .data⟩ (by simp) rfl).2 (C2.out _ gM.up) vk.2 rfl)
                  | 5, _ =>
                    obtain rfl := Option.some.inj ho
                    exact stT hFk gM (by first | rfl | (simp; done)) rfl rfl rfl (st_mov rfl (fr.eval rfl) rfl)
                  | 6, _ =>
                    obtain rfl := Option.some.inj ho
                    exact stT hFk gM (by first | rfl | (simp; done)) rfl rfl rfl (st_ret3 rfl (fun _ _ => by kernel_rfl) (dep ⟨0, .data⟩ (by simp) rfl).2 (dep ⟨4, .data⟩ (by simp) rfl).2 (dep ⟨5, .data⟩ (by simp) rfl).2 (HP2.out _) (fun r w' h _ => h))
                  | 7, _ =>
                    obtain rfl := Option.some.inj ho
                    exact stT hFk gM (by first | rfl | (simp; done)) rfl rfl rfl (st_mov rfl ((dep ⟨6, .data⟩ (by simp) rfl).2) rfl)
                  | 8, _ =>
                    obtain rfl := Option.some.inj ho
                    exact stT hFk gM (by first | rfl | (simp; done)) rfl rfl rfl (st_ext0 rfl (dep ⟨7, .data⟩ (by simp) rfl).2 rfl)
                  | 9, _ =>
                    obtain rfl := Option.some.inj ho
                    exact stT hFk gM (by first | rfl | (simp; done)) rfl rfl rfl (st_ext1 rfl (dep ⟨7, .data⟩ (by simp) rfl).2 rfl)
                  | 10, _ =>
                    obtain rfl := Option.some.inj ho
                    exact stT hFk gM (by first | rfl | (simp; done)) rfl rfl rfl (st_fldC rfl Try.underlying27 rfl (fr.eval rfl) 64 rfl (by kernel_rfl) rfl)
                  | 11, _ =>
                    obtain rfl := Option.some.inj ho
                    have DV : av.eval (.tmp 93) = Value.agg _ := (dep ⟨8, .data⟩ (by simp) rfl).2
                    have DA : av.eval (.tmp 95) = Value.pointer (some ⟨_, _, none⟩) := (dep ⟨10, .data⟩ (by simp) rfl).2
                    simp only [hs, Bool.false_eq_true, if_false] at gM
                    refine stT_storeP hFk (fun _ _ => trivial) gM rfl rfl rfl DA DV ?_ ?_ ?_ ?_
                    · simp
                    · first | (simp [claC_size]; done) | (rw [claC_size]; done) | (simp [claC_size]; omega)
                    · first | exact claV_one _ | exact bA_one _ | exact claC_one _ _ _ _
                    · rw [cla_setA2]; first | rfl | (simp; done)
                · rintro vs wv s hall gM hf
                  have hs11 := hall 11 (by omega)
                  simp only [hs11, if_true] at gM
                  have M : Mem w _ [.blk g17 27 (claC a1.1 a2.1 b1'.1 zeroKy.1), .own (some ⟨gs, ob, none⟩) caps 4 1 m (boL S), .blk g13 25 (bA own.1), .own (some ⟨go, oo, none⟩) capo 25 32 m (kyL os), .blk g8 27 (claC zeroKy.1 zeroKy.1 zeroKy.1 zeroKy.1), .blk g6 25 (bA lfk.1)] := gM
                  have f0 : vs 0 = .agg (bA lfk.1) := hf 0 (by omega)
                  have f1 : vs 1 = .slice (some ⟨g, o, none⟩) m cap2 := hf 1 (by omega)
                  have f2 : vs 2 = .int .i64 (k : Int) := hf 2 (by omega)
                  have f3 : vs 3 = .pointer (some ⟨g, o + k * 32, none⟩) := hf 3 (by omega)
                  have f4 : vs 4 = .agg (bA (vk.1)) := hf 4 (by omega)
                  have f5 : vs 5 = .bool r := hf 5 (by omega)
                  have f6 : vs 6 = .tuple #[.agg (bA b1'.1), .agg (bA b2'.1)] := hf 6 (by omega)
                  have f7 : vs 7 = .tuple #[.agg (bA b1'.1), .agg (bA b2'.1)] := hf 7 (by omega)
                  have f8 : vs 8 = .agg (bA b1'.1) := hf 8 (by omega)
                  have f9 : vs 9 = .agg (bA b2'.1) := hf 9 (by omega)
                  have f10 := hf 10 (by omega)
                  clear hFk gM hall
                  simp only [putAll, Act.put, List.getElem?_toArray, List.getElem?_cons_zero, List.getElem?_cons_succ, Option.bind_some, List.setIfInBounds_toArray, List.set_cons_zero, List.set_cons_succ, List.drop_succ_cons, List.drop_zero, List.drop_nil, f9]
                  clear f0 f1 f2 f3 f4 f5 f6 f7 f8 f9 f10 hf
                  cases e with
                  | true =>
                    have HE := Lib.hid (show cqT ks i lf ps = ((a1, a2, b1', b2'), 0) by rw [HQ.out, HX.out.1 HV0.out])
                    clear HX HQ
                    go_wp2_with (first
                      | (go_at_call 76; (with_reducible refine mem_call M (HVC.out _) ?_); clear M; (try clear wx); rintro _ wx rfl _ M)
                      | (with_reducible (show wpList _ _ _ (Oper.mk (some 6) (.box _ _) _ _ _ _ :: _) _ _); (first | (refine m_boxA M rfl rfl rfl ?_) | (refine m_box1 (v := Value.int _ _) M rfl rfl rfl rfl ?_) | (refine m_box1 (v := Value.slice _ _ _) M rfl rfl rfl rfl ?_) | (refine m_box1 (v := Value.bool _) M rfl rfl rfl rfl ?_) | (refine m_box1 (v := Value.string _) M rfl rfl rfl rfl ?_) | (refine m_box1 (v := Value.pointer _) M rfl rfl rfl rfl ?_)); clear M; (try clear wx); intro g6 wx M)
                      | (with_reducible (show wpList _ _ _ (Oper.mk (some 8) (.alloc _) _ _ _ _ :: _) _ _); refine mem_new M rfl rfl ?_; clear M; (try clear wx); intro g8 wx M)
                      | (with_reducible (show wpList _ _ _ (Oper.mk (some 13) (.alloc _) _ _ _ _ :: _) _ _); refine mem_new M rfl rfl ?_; clear M; (try clear wx); intro g13 wx M)
                      | (with_reducible (show wpList _ _ _ (Oper.mk (some 17) (.alloc _) _ _ _ _ :: _) _ _); refine mem_new M rfl rfl ?_; clear M; (try clear wx); intro g17 wx M)
                      | (with_reducible (show wpList _ _ _ (Oper.mk _ (.load _ _) _ _ _ _ :: _) _ _); (first | (refine m_load M rfl rfl rfl (by first | assumption | rfl) ?_) | (refine m_loadR M rfl rfl rfl (by first | rfl | assumption | (simp; done) | (simp; omega)) ?_)))
                      | (with_reducible (show wpList _ _ _ (Oper.mk _ (.store _ _ _) _ _ _ _ :: _) _ _); (first | (refine m_storeR M rfl rfl rfl rfl (by first | rfl | assumption | (simp; done) | (simp; omega)) (by first | rfl | assumption | (simp; done) | (simp; omega)) (by first | exact bA_one _ | exact claV_one _ | exact claC_one _ _ _ _) ?_) | (refine m_store (v := Value.int _ _) M rfl rfl rfl rfl rfl (by first | assumption | (simp; done) | (simp; omega)) ?_) | (refine m_store (v := Value.slice _ _ _) M rfl rfl rfl rfl rfl (by first | assumption | (simp; done) | (simp; omega)) ?_) | (refine m_store (v := Value.bool _) M rfl rfl rfl rfl rfl (by first | assumption | (simp; done) | (simp; omega)) ?_) | (refine m_store (v := Value.string _) M rfl rfl rfl rfl rfl (by first | assumption | (simp; done) | (simp; omega)) ?_) | (refine m_store (v := Value.pointer _) M rfl rfl rfl rfl rfl (by first | assumption | (simp; done) | (simp; omega)) ?_)); clear M; (try clear wx); intro wx M; simp only [List.set_cons_zero, List.set_cons_succ, Nat.zero_add, List.nil_append] at M)
                      | (with_reducible (show wpList _ _ _ (Oper.mk _ (.build _ _) _ _ _ _ :: _) _ _); refine m_buildZ rfl rfl ?_)
                      | (with_reducible (show wpList _ _ _ (Oper.mk _ (.store _ _ _) _ _ _ _ :: _) _ _); refine m_storeP M rfl rfl rfl rfl (by simp) (by simp [claC_size]) (bA_one _) ?_; clear M; (try clear wx); intro wx M; simp only [List.set_cons_zero, List.set_cons_succ, Nat.zero_add, cla_setA0, cla_setA1, cla_setA2, cla_setA3] at M))
                    exact m_ret2 M rfl rfl rfl (by simp [claC_size]) (by rw [HE.out]; rfl)
                  | false =>
                    have HX2 := Lib.hid (HX.out.2 HV0.out)
                    clear HX
                    go_wp2_with (first
                      | (go_at_call 76; (with_reducible refine mem_call M (HVC.out _) ?_); clear M; (try clear wx); rintro _ wx rfl _ M)
                      | (with_reducible (show wpList _ _ _ (Oper.mk (some 6) (.box _ _) _ _ _ _ :: _) _ _); (first | (refine m_boxA M rfl rfl rfl ?_) | (refine m_box1 (v := Value.int _ _) M rfl rfl rfl rfl ?_) | (refine m_box1 (v := Value.slice _ _ _) M rfl rfl rfl rfl ?_) | (refine m_box1 (v := Value.bool _) M rfl rfl rfl rfl ?_) | (refine m_box1 (v := Value.string _) M rfl rfl rfl rfl ?_) | (refine m_box1 (v := Value.pointer _) M rfl rfl rfl rfl ?_)); clear M; (try clear wx); intro g6 wx M)
                      | (with_reducible (show wpList _ _ _ (Oper.mk (some 8) (.alloc _) _ _ _ _ :: _) _ _); refine mem_new M rfl rfl ?_; clear M; (try clear wx); intro g8 wx M)
                      | (with_reducible (show wpList _ _ _ (Oper.mk (some 13) (.alloc _) _ _ _ _ :: _) _ _); refine mem_new M rfl rfl ?_; clear M; (try clear wx); intro g13 wx M)
                      | (with_reducible (show wpList _ _ _ (Oper.mk (some 17) (.alloc _) _ _ _ _ :: _) _ _); refine mem_new M rfl rfl ?_; clear M; (try clear wx); intro g17 wx M)
                      | (with_reducible (show wpList _ _ _ (Oper.mk _ (.load _ _) _ _ _ _ :: _) _ _); (first | (refine m_load M rfl rfl rfl (by first | assumption | rfl) ?_) | (refine m_loadR M rfl rfl rfl (by first | rfl | assumption | (simp; done) | (simp; omega)) ?_)))
                      | (with_reducible (show wpList _ _ _ (Oper.mk _ (.store _ _ _) _ _ _ _ :: _) _ _); (first | (refine m_storeR M rfl rfl rfl rfl (by first | rfl | assumption | (simp; done) | (simp; omega)) (by first | rfl | assumption | (simp; done) | (simp; omega)) (by first | exact bA_one _ | exact claV_one _ | exact claC_one _ _ _ _) ?_) | (refine m_store (v := Value.int _ _) M rfl rfl rfl rfl rfl (by first | assumption | (simp; done) | (simp; omega)) ?_) | (refine m_store (v := Value.slice _ _ _) M rfl rfl rfl rfl rfl (by first | assumption | (simp; done) | (simp; omega)) ?_) | (refine m_store (v := Value.bool _) M rfl rfl rfl rfl rfl (by first | assumption | (simp; done) | (simp; omega)) ?_) | (refine m_store (v := Value.string _) M rfl rfl rfl rfl rfl (by first | assumption | (simp; done) | (simp; omega)) ?_) | (refine m_store (v := Value.pointer _) M rfl rfl rfl rfl rfl (by first | assumption | (simp; done) | (simp; omega)) ?_)); clear M; (try clear wx); intro wx M; simp only [List.set_cons_zero, List.set_cons_succ, Nat.zero_add, List.nil_append] at M)
                      | (with_reducible (show wpList _ _ _ (Oper.mk _ (.build _ _) _ _ _ _ :: _) _ _); refine m_buildZ rfl rfl ?_)
                      | (with_reducible (show wpList _ _ _ (Oper.mk _ (.store _ _ _) _ _ _ _ :: _) _ _); refine m_storeP M rfl rfl rfl rfl (by simp) (by simp [claC_size]) (bA_one _) ?_; clear M; (try clear wx); intro wx M; simp only [List.set_cons_zero, List.set_cons_succ, Nat.zero_add, cla_setA0, cla_setA1, cla_setA2, cla_setA3] at M))
                    refine region_mono (m := 10) mixedOrders_ (by kernel_rfl) (by kernel_rfl)
                      (fun | 0 => fun vq _ => vq = .pointer (some ⟨g17, 0, none⟩) | 1 => fun vq _ => vq = .agg (bA a1.1) | 2 => fun vq _ => vq = .pointer (some ⟨g17, 32, none⟩) | 3 => fun vq _ => vq = .agg (bA a2.1) | 4 => fun vq _ => vq = .agg (bA (nodeK a1 a2).1) | 5 => fun vq _ => vq = .pointer (some ⟨g17, 64, none⟩) | 6 => fun vq _ => vq = .agg (bA b1'.1) | 7 => fun vq _ => vq = .pointer (some ⟨g17, 96, none⟩) | 8 => fun vq _ => vq = .agg (bA b2'.1) | 9 => fun vq _ => vq = .agg (bA (nodeK b1' b2').1) | _ => fun _ _ => True)
                      (fun wx => Mem w wx [.blk g17 27 (claC a1.1 a2.1 b1'.1 b2'.1), .own (some ⟨gs, ob, none⟩) caps 4 1 m (boL S), .blk g13 25 (bA own.1), .own (some ⟨go, oo, none⟩) capo 25 32 m (kyL os), .blk g8 27 (claC zeroKy.1 zeroKy.1 zeroKy.1 zeroKy.1), .blk g6 25 (bA lfk.1)]) ?_ ?_ ?_ ?_ ?_
                    · intro j hj v w1 w2 hb h
                      match j, hj with
                      | 0, _ => exact h
                      | 1, _ => exact h
                      | 2, _ => exact h
                      | 3, _ => exact h
                      | 4, _ => exact h
                      | 5, _ => exact h
                      | 6, _ => exact h
                      | 7, _ => exact h
                      | 8, _ => exact h
                      | 9, _ => exact h
                    · intro w1 w2 hb h
                      exact h.grow hb
                    · exact M.grow ((Up.refl _).drew)
                    · rintro i o hi ho av wv fr gM dep
                      match i, hi with
                      | 0, _ =>
                        obtain rfl := Option.some.inj ho
                        exact st_fldC rfl Try.underlying27 rfl (fr.eval rfl) 0 rfl (by kernel_rfl) rfl
                      | 1, _ =>
                        obtain rfl := Option.some.inj ho
                        exact st_loadPG gM rfl (dep ⟨0, .data⟩ (by simp) rfl) (xs := bL a1.1) (cla_get0 a1 a2 b1' b2') (by rw [bL_length, a1.2]) rfl
                      | 2, _ =>
                        obtain rfl := Option.some.inj ho
                        exact st_fldC rfl Try.underlying27 rfl (fr.eval rfl) 32 rfl (by kernel_rfl) rfl
                      | 3, _ =>
                        obtain rfl := Option.some.inj ho
                        exact st_loadPG gM rfl (dep ⟨2, .data⟩ (by simp) rfl) (xs := bL a2.1) (cla_get1 a1 a2 b1' b2') (by rw [bL_length, a2.2]) rfl
                      | 4, _ =>
                        obtain rfl := Option.some.inj ho
                        have d0 := dep ⟨1, .data⟩ (by simp) rfl
                        have d1 := dep ⟨3, .data⟩ (by simp) rfl
                        exact st_ret2 rfl (fun _ _ => by kernel_rfl) d0 d1 (implNodeKey_c a1 a2 _) (fun r w' h _ => h)
                      | 5, _ =>
                        obtain rfl := Option.some.inj ho
                        exact st_fldC rfl Try.underlying27 rfl (fr.eval rfl) 64 rfl (by kernel_rfl) rfl
                      | 6, _ =>
                        obtain rfl := Option.some.inj ho
                        exact st_loadPG gM rfl (dep ⟨5, .data⟩ (by simp) rfl) (xs := bL b1'.1) (cla_get2 a1 a2 b1' b2') (by rw [bL_length, b1'.2]) rfl
                      | 7, _ =>
                        obtain rfl := Option.some.inj ho
                        exact st_fldC rfl Try.underlying27 rfl (fr.eval rfl) 96 rfl (by kernel_rfl) rfl
                      | 8, _ =>
                        obtain rfl := Option.some.inj ho
                        exact st_loadPG gM rfl (dep ⟨7, .data⟩ (by simp) rfl) (xs := bL b2'.1) (cla_get3 a1 a2 b1' b2') (by rw [bL_length, b2'.2]) rfl
                      | 9, _ =>
                        obtain rfl := Option.some.inj ho
                        have d0 := dep ⟨6, .data⟩ (by simp) rfl
                        have d1 := dep ⟨8, .data⟩ (by simp) rfl
                        exact st_ret2 rfl (fun _ _ => by kernel_rfl) d0 d1 (implNodeKey_c b1' b2' _) (fun r w' h _ => h)
                    · rintro vs wv gM hf
                      have f0 : vs 0 = .pointer (some ⟨g17, 0, none⟩) := hf 0 (by omega)
                      have f1 : vs 1 = .agg (bA a1.1) := hf 1 (by omega)
                      have f2 : vs 2 = .pointer (some ⟨g17, 32, none⟩) := hf 2 (by omega)
                      have f3 : vs 3 = .agg (bA a2.1) := hf 3 (by omega)
                      have f4 : vs 4 = .agg (bA (nodeK a1 a2).1) := hf 4 (by omega)
                      have f5 : vs 5 = .pointer (some ⟨g17, 64, none⟩) := hf 5 (by omega)
                      have f6 : vs 6 = .agg (bA b1'.1) := hf 6 (by omega)
                      have f7 : vs 7 = .pointer (some ⟨g17, 96, none⟩) := hf 7 (by omega)
                      have f8 : vs 8 = .agg (bA b2'.1) := hf 8 (by omega)
                      have f9 : vs 9 = .agg (bA (nodeK b1' b2').1) := hf 9 (by omega)
                      simp only [putAll, Act.put, List.getElem?_toArray, List.getElem?_cons_zero, List.getElem?_cons_succ, Option.bind_some, List.setIfInBounds_toArray, List.set_cons_zero, List.set_cons_succ, List.drop_succ_cons, List.drop_zero, List.drop_nil, f4, f9]
                      clear f0 f1 f2 f3 f4 f5 f6 f7 f8 f9 hf
                      have M := gM
                      clear gM
                      go_wp2_with (first
                        | (with_reducible (show wpList _ _ _ (Oper.mk (some 6) (.box _ _) _ _ _ _ :: _) _ _); (first | (refine m_boxA M rfl rfl rfl ?_) | (refine m_box1 (v := Value.int _ _) M rfl rfl rfl rfl ?_) | (refine m_box1 (v := Value.slice _ _ _) M rfl rfl rfl rfl ?_) | (refine m_box1 (v := Value.bool _) M rfl rfl rfl rfl ?_) | (refine m_box1 (v := Value.string _) M rfl rfl rfl rfl ?_) | (refine m_box1 (v := Value.pointer _) M rfl rfl rfl rfl ?_)); clear M; (try clear wx); intro g6 wx M)
                        | (with_reducible (show wpList _ _ _ (Oper.mk (some 8) (.alloc _) _ _ _ _ :: _) _ _); refine mem_new M rfl rfl ?_; clear M; (try clear wx); intro g8 wx M)
                        | (with_reducible (show wpList _ _ _ (Oper.mk (some 13) (.alloc _) _ _ _ _ :: _) _ _); refine mem_new M rfl rfl ?_; clear M; (try clear wx); intro g13 wx M)
                        | (with_reducible (show wpList _ _ _ (Oper.mk (some 17) (.alloc _) _ _ _ _ :: _) _ _); refine mem_new M rfl rfl ?_; clear M; (try clear wx); intro g17 wx M)
                        | (with_reducible (show wpList _ _ _ (Oper.mk _ (.load _ _) _ _ _ _ :: _) _ _); (first | (refine m_load M rfl rfl rfl (by first | assumption | rfl) ?_) | (refine m_loadR M rfl rfl rfl (by first | rfl | assumption | (simp; done) | (simp; omega)) ?_)))
                        | (with_reducible (show wpList _ _ _ (Oper.mk _ (.store _ _ _) _ _ _ _ :: _) _ _); (first | (refine m_storeR M rfl rfl rfl rfl (by first | rfl | assumption | (simp; done) | (simp; omega)) (by first | rfl | assumption | (simp; done) | (simp; omega)) (by first | exact bA_one _ | exact claV_one _ | exact claC_one _ _ _ _) ?_) | (refine m_store (v := Value.int _ _) M rfl rfl rfl rfl rfl (by first | assumption | (simp; done) | (simp; omega)) ?_) | (refine m_store (v := Value.slice _ _ _) M rfl rfl rfl rfl rfl (by first | assumption | (simp; done) | (simp; omega)) ?_) | (refine m_store (v := Value.bool _) M rfl rfl rfl rfl rfl (by first | assumption | (simp; done) | (simp; omega)) ?_) | (refine m_store (v := Value.string _) M rfl rfl rfl rfl rfl (by first | assumption | (simp; done) | (simp; omega)) ?_) | (refine m_store (v := Value.pointer _) M rfl rfl rfl rfl rfl (by first | assumption | (simp; done) | (simp; omega)) ?_)); clear M; (try clear wx); intro wx M; simp only [List.set_cons_zero, List.set_cons_succ, Nat.zero_add, List.nil_append] at M)
                        | (with_reducible (show wpList _ _ _ (Oper.mk _ (.build _ _) _ _ _ _ :: _) _ _); refine m_buildZ rfl rfl ?_))
                      have hk := HK.out
                      go_roundg (gk - 1)
                      case measure => omega
                      case rel => exact ⟨k + 1, nodeK a1 a2, nodeK b1' b2', by omega, by go_num, HX2, M.tail⟩
            · obtain rfl : k = m := by omega
              exact (clF_end own lfk S os ps k (by have := HSL.out; omega) HRk.out).elim
  · have HI := Lib.hid (within_is i 0 ((n : Int) - 1) false (by simp; omega))
    have HE := Lib.hid (show cqT ks i lf ps = (zeroCl, 2) by rw [cqT, if_neg (by omega), if_neg (by omega)])
    clear ha hb hI
    go_enter Try.func28, Try.ntmps28
    go_wp2_with (first
      | (go_at_call 66; (with_reducible refine mem_call M (sizeKey_c _ _ _ _) ?_); clear M; (try clear wx); rintro _ wx rfl _ M)
      | (go_at_call 65; (with_reducible refine mem_call M (HI.out _) ?_); clear M; (try clear wx); rintro _ wx rfl _ M)
      | (with_reducible (show wpList _ _ _ (Oper.mk (some 6) (.box _ _) _ _ _ _ :: _) _ _); (first | (refine m_boxA M rfl rfl rfl ?_) | (refine m_box1 (v := Value.int _ _) M rfl rfl rfl rfl ?_) | (refine m_box1 (v := Value.slice _ _ _) M rfl rfl rfl rfl ?_) | (refine m_box1 (v := Value.bool _) M rfl rfl rfl rfl ?_) | (refine m_box1 (v := Value.string _) M rfl rfl rfl rfl ?_) | (refine m_box1 (v := Value.pointer _) M rfl rfl rfl rfl ?_)); clear M; (try clear wx); intro g6 wx M)
      | (with_reducible (show wpList _ _ _ (Oper.mk (some 8) (.alloc _) _ _ _ _ :: _) _ _); refine mem_new M rfl rfl ?_; clear M; (try clear wx); intro g8 wx M)
      | (with_reducible (show wpList _ _ _ (Oper.mk (some 13) (.alloc _) _ _ _ _ :: _) _ _); refine mem_new M rfl rfl ?_; clear M; (try clear wx); intro g13 wx M)
      | (with_reducible (show wpList _ _ _ (Oper.mk (some 17) (.alloc _) _ _ _ _ :: _) _ _); refine mem_new M rfl rfl ?_; clear M; (try clear wx); intro g17 wx M)
      | (with_reducible (show wpList _ _ _ (Oper.mk _ (.load _ _) _ _ _ _ :: _) _ _); (first | (refine m_load M rfl rfl rfl (by first | assumption | rfl) ?_) | (refine m_loadR M rfl rfl rfl (by first | rfl | assumption | (simp; done) | (simp; omega)) ?_)))
      | (with_reducible (show wpList _ _ _ (Oper.mk _ (.store _ _ _) _ _ _ _ :: _) _ _); (first | (refine m_storeR M rfl rfl rfl rfl (by first | rfl | assumption | (simp; done) | (simp; omega)) (by first | rfl | assumption | (simp; done) | (simp; omega)) (by first | exact bA_one _ | exact claV_one _ | exact claC_one _ _ _ _) ?_) | (refine m_store (v := Value.int _ _) M rfl rfl rfl rfl rfl (by first | assumption | (simp; done) | (simp; omega)) ?_) | (refine m_store (v := Value.slice _ _ _) M rfl rfl rfl rfl rfl (by first | assumption | (simp; done) | (simp; omega)) ?_) | (refine m_store (v := Value.bool _) M rfl rfl rfl rfl rfl (by first | assumption | (simp; done) | (simp; omega)) ?_) | (refine m_store (v := Value.string _) M rfl rfl rfl rfl rfl (by first | assumption | (simp; done) | (simp; omega)) ?_) | (refine m_store (v := Value.pointer _) M rfl rfl rfl rfl rfl (by first | assumption | (simp; done) | (simp; omega)) ?_)); clear M; (try clear wx); intro wx M; simp only [List.set_cons_zero, List.set_cons_succ, Nat.zero_add, List.nil_append] at M)
      | (with_reducible (show wpList _ _ _ (Oper.mk _ (.build _ _) _ _ _ _ :: _) _ _); refine m_buildZ rfl rfl ?_))
    exact m_ret2 M rfl rfl rfl (by simp) (by rw [HE.out]; rfl)

end Go.Proofs.Ytmbhaoiahlbglaa

/- Walks: spec.ClashOfProof. -/
import Derived.Test.YtmbhaoiahlbglaaHCx
import Derived.Test.YtmbhaoiahlbglaaHCy
namespace Go.Proofs.Ytmbhaoiahlbglaa
open Go.RowKit
set_option linter.unusedVariables false
set_option linter.unusedSimpArgs false

theorem wp_unguard {P : Program} {ops : Array Oper} {Q : Exit → Act → World → Prop} {a : Act} {w : World} {rest : List Oper} {o : Oper} (hw : Region.wanted o (yielded ops a.tmps) = true) (h : wpList P ops Q ({ o with guard := none } :: rest) a w) : wpList P ops Q (o :: rest) a w := by
  unfold wpList at h ⊢
  rw [if_pos (by rfl)] at h
  rw [if_pos hw]
  exact h

set_option maxRecDepth 100000 in
theorem built_cla0 : Try.prog.built 27 [] = some (claC zeroKy.1 zeroKy.1 zeroKy.1 zeroKy.1) := by rw [built_cla]; rfl
set_option maxHeartbeats 4000000 in
set_option maxRecDepth 100000 in
theorem l03Shown_c (n : Nat) : ∀ (ks : List Ky) (i : Nat) (lf : Ky) (ps : List Ky) (m : Nat), ks.length = n → 1 ≤ n → n ≤ 256 → i < n → m = (sideR n i).length → ps.length = m → ∀ va vb w, Rd w 32 va n (kyL ks) → Rd w 32 vb m (kyL ps) →
    Ret Try.prog 71 #[va, .int .i64 (i : Int), .agg (bA lf.1), vb] w fun r _ => r = .tuple #[.agg (claV (shF ks i lf ps).1), .agg (bA (shF ks i lf ps).2.1.1), .bool (shF ks i lf ps).2.2] := by
  induction n using Nat.strongRecOn with
  | ind n ih =>
  intro ks i lf ps m hk h1 hn hi hm hps va vb w hva hvb
  obtain ⟨b1, cap1, rfl⟩ := hva.shape
  have HVA := Lib.hid hva
  have HVB := Lib.hid hvb
  by_cases hn1 : n = 1
  · obtain ⟨b2, cap2, rfl⟩ := hvb.shape
    refine ret_start fun wx M => ?_
    subst hn1
    have HE := Lib.hid (shF_1 ks i lf ps (by omega))
    clear hm hps hk hva hvb ih
    go_enter Try.func71, Try.ntmps71
    go_wp2_with (first
      | (with_reducible (show wpList _ _ _ (Oper.mk (some 6) (.box _ _) _ _ _ _ :: _) _ _); (first | (refine m_boxA M rfl rfl rfl ?_) | (refine m_box1 (v := Value.int _ _) M rfl rfl rfl rfl ?_) | (refine m_box1 (v := Value.slice _ _ _) M rfl rfl rfl rfl ?_) | (refine m_box1 (v := Value.bool _) M rfl rfl rfl rfl ?_) | (refine m_box1 (v := Value.string _) M rfl rfl rfl rfl ?_) | (refine m_box1 (v := Value.pointer _) M rfl rfl rfl rfl ?_)); clear M; (try clear wx); intro g6 wx M)
      | (with_reducible (show wpList _ _ _ (Oper.mk (some 8) (.alloc _) _ _ _ _ :: _) _ _); refine mem_new M rfl rfl ?_; clear M; (try clear wx); intro g8 wx M)
      | (with_reducible (show wpList _ _ _ (Oper.mk (some 9) (.alloc _) _ _ _ _ :: _) _ _); refine mem_new M rfl rfl ?_; clear M; (try clear wx); intro g9 wx M)
      | (with_reducible (show wpList _ _ _ (Oper.mk (some 14) (.alloc _) _ _ _ _ :: _) _ _); refine mem_new M rfl rfl ?_; clear M; (try clear wx); intro g14 wx M)
      | (with_reducible (show wpList _ _ _ (Oper.mk (some 15) (.alloc _) _ _ _ _ :: _) _ _); refine mem_new M rfl rfl ?_; clear M; (try clear wx); intro g15 wx M)
      | (with_reducible (show wpList _ _ _ (Oper.mk (some 17) (.alloc _) _ _ _ _ :: _) _ _); refine mem_new M rfl rfl ?_; clear M; (try clear wx); intro g17 wx M)
      | (with_reducible (show wpList _ _ _ (Oper.mk _ (.load _ _) _ _ _ _ :: _) _ _); (first | (refine m_load M rfl rfl rfl (by first | assumption | rfl) ?_) | (refine m_loadR M rfl rfl rfl (by first | rfl | assumption | (simp; done) | (simp; omega)) ?_)))
      | (with_reducible (show wpList _ _ _ (Oper.mk _ (.store _ _ _) _ _ _ _ :: _) _ _); (first | (refine m_storeR M rfl rfl rfl rfl (by first | rfl | assumption | (simp; done) | (simp; omega)) (by first | rfl | assumption | (simp; done) | (simp; omega)) (by first | exact bA_one _ | exact wA_one _ | assumption | (simp [Value.oneCell']; done)) ?_) | (refine m_store (v := Value.int _ _) M rfl rfl rfl rfl rfl (by first | assumption | (simp; done) | (simp; omega)) ?_) | (refine m_store (v := Value.slice _ _ _) M rfl rfl rfl rfl rfl (by first | assumption | (simp; done) | (simp; omega)) ?_) | (refine m_store (v := Value.bool _) M rfl rfl rfl rfl rfl (by first | assumption | (simp; done) | (simp; omega)) ?_) | (refine m_store (v := Value.string _) M rfl rfl rfl rfl rfl (by first | assumption | (simp; done) | (simp; omega)) ?_) | (refine m_store (v := Value.pointer _) M rfl rfl rfl rfl rfl (by first | assumption | (simp; done) | (simp; omega)) ?_)); clear M; (try clear wx); intro wx M; simp only [List.set_cons_zero, List.set_cons_succ, Nat.zero_add, List.nil_append] at M)
      | (with_reducible (show wpList _ _ _ (Oper.mk _ (.build _ _) _ _ _ _ :: _) _ _); refine m_buildZ rfl rfl ?_))
    have hFk : ∀ (j : Nat) (u : Value) (wa wb : World), j < 3 → (fun (j : Nat) (v : Value) (_ : World) => (match j with | 0 => (fun v => v = .agg (claC zeroKy.1 zeroKy.1 zeroKy.1 zeroKy.1)) v | 1 => (fun vq => vq = .agg (bA lf.1)) v | 2 => (fun _ => True) v | _ => True)) j u wa → (fun (j : Nat) (v : Value) (_ : World) => (match j with | 0 => (fun v => v = .agg (claC zeroKy.1 zeroKy.1 zeroKy.1 zeroKy.1)) v | 1 => (fun vq => vq = .agg (bA lf.1)) v | 2 => (fun _ => True) v | _ => True)) j u wb := fun _ _ _ _ _ h => h
    refine region_monoS (m := 3) mixedOrders_ (by kernel_rfl) (by kernel_rfl)
      (fun (j : Nat) (v : Value) (_ : World) => (match j with | 0 => (fun v => v = .agg (claC zeroKy.1 zeroKy.1 zeroKy.1 zeroKy.1)) v | 1 => (fun vq => vq = .agg (bA lf.1)) v | 2 => (fun _ => True) v | _ => True))
      (fun s wx => Mem w wx [.blk g9 25 (bA zeroKy.1), .blk g8 27 (if s 2 = true then claC zeroKy.1 zeroKy.1 zeroKy.1 zeroKy.1 else claC zeroKy.1 zeroKy.1 zeroKy.1 zeroKy.1), .blk g6 25 (bA lf.1)]) ?_ ?_ ?_
    · show Mem w _ [.blk g9 25 (bA zeroKy.1), .blk g8 27 (claC zeroKy.1 zeroKy.1 zeroKy.1 zeroKy.1), .blk g6 25 (bA lf.1)]
      exact M.grow ((Up.refl _).drew)
    · rintro i o hi ho av wv s fr gM hs cl dep
      match i, hi with
      | 0, _ =>
        obtain rfl := Option.some.inj ho
        exact stT hFk gM (by first | rfl | (simp; done)) rfl rfl rfl (st_build rfl (by simpa using built_cla0) rfl)
      | 1, _ =>
        obtain rfl := Option.some.inj ho
        exact stT hFk gM (by first | rfl | (simp; done)) rfl rfl rfl (st_loadG gM rfl (fr.eval rfl) (by first | rfl | assumption | (simp; done) | (simp; omega)) rfl)
      | 2, _ =>
        obtain rfl := Option.some.inj ho
        have DV : av.eval (.tmp 22) = Value.agg _ := (dep ⟨0, .data⟩ (by simp) rfl).2
        have DA : av.eval (.tmp 8) = Value.pointer (some ⟨_, 0, none⟩) := fr.eval rfl
        refine stT_storeR hFk (fun _ _ => trivial) gM rfl rfl rfl DA DV ?_ ?_ ?_ ?_
        · exact (by first | rfl | assumption | (simp; done) | (simp; omega))
        · first | (split <;> exact (by first | rfl | assumption | (simp; done) | (simp; omega))) | exact (by first | rfl | assumption | (simp; done) | (simp; omega))
        · first | exact claV_one _ | exact bA_one _ | exact claC_one _ _ _ _
        · first | rfl | (simp; done)
    · rintro vs wv s hall gM hf
      have hs2 := hall 2 (by omega)
      simp only [hs2, if_true] at gM
      have M : Mem w _ [.blk g9 25 (bA zeroKy.1), .blk g8 27 (claC zeroKy.1 zeroKy.1 zeroKy.1 zeroKy.1), .blk g6 25 (bA lf.1)] := gM
      have f0 := hf 0 (by omega)
      have f1 : vs 1 = .agg (bA lf.1) := hf 1 (by omega)
      clear hFk gM hall
      simp only [putAll, Act.put, List.getElem?_toArray, List.getElem?_cons_zero, List.getElem?_cons_succ, Option.bind_some, List.setIfInBounds_toArray, List.set_cons_zero, List.set_cons_succ, List.drop_succ_cons, List.drop_zero, List.drop_nil, f0, f1]
      clear f0 f1 hf
      go_wp2_with (first
        | (with_reducible (show wpList _ _ _ (Oper.mk (some 6) (.box _ _) _ _ _ _ :: _) _ _); (first | (refine m_boxA M rfl rfl rfl ?_) | (refine m_box1 (v := Value.int _ _) M rfl rfl rfl rfl ?_) | (refine m_box1 (v := Value.slice _ _ _) M rfl rfl rfl rfl ?_) | (refine m_box1 (v := Value.bool _) M rfl rfl rfl rfl ?_) | (refine m_box1 (v := Value.string _) M rfl rfl rfl rfl ?_) | (refine m_box1 (v := Value.pointer _) M rfl rfl rfl rfl ?_)); clear M; (try clear wx); intro g6 wx M)
        | (with_reducible (show wpList _ _ _ (Oper.mk (some 8) (.alloc _) _ _ _ _ :: _) _ _); refine mem_new M rfl rfl ?_; clear M; (try clear wx); intro g8 wx M)
        | (with_reducible (show wpList _ _ _ (Oper.mk (some 9) (.alloc _) _ _ _ _ :: _) _ _); refine mem_new M rfl rfl ?_; clear M; (try clear wx); intro g9 wx M)
        | (with_reducible (show wpList _ _ _ (Oper.mk (some 14) (.alloc _) _ _ _ _ :: _) _ _); refine mem_new M rfl rfl ?_; clear M; (try clear wx); intro g14 wx M)
        | (with_reducible (show wpList _ _ _ (Oper.mk (some 15) (.alloc _) _ _ _ _ :: _) _ _); refine mem_new M rfl rfl ?_; clear M; (try clear wx); intro g15 wx M)
        | (with_reducible (show wpList _ _ _ (Oper.mk (some 17) (.alloc _) _ _ _ _ :: _) _ _); refine mem_new M rfl rfl ?_; clear M; (try clear wx); intro g17 wx M)
        | (with_reducible (show wpList _ _ _ (Oper.mk _ (.load _ _) _ _ _ _ :: _) _ _); (first | (refine m_load M rfl rfl rfl (by first | assumption | rfl) ?_) | (refine m_loadR M rfl rfl rfl (by first | rfl | assumption | (simp; done) | (simp; omega)) ?_)))
        | (with_reducible (show wpList _ _ _ (Oper.mk _ (.store _ _ _) _ _ _ _ :: _) _ _); (first | (refine m_storeR M rfl rfl rfl rfl (by first | rfl | assumption | (simp; done) | (simp; omega)) (by first | rfl | assumption | (simp; done) | (simp; omega)) (by first | exact bA_one _ | exact claV_one _ | exact claC_one _ _ _ _) ?_) | (refine m_store (v := Value.int _ _) M rfl rfl rfl rfl rfl (by first | assumption | (simp; done) | (simp; omega)) ?_) | (refine m_store (v := Value.slice _ _ _) M rfl rfl rfl rfl rfl (by first | assumption | (simp; done) | (simp; omega)) ?_) | (refine m_store (v := Value.bool _) M rfl rfl rfl rfl rfl (by first | assumption | (simp; done) | (simp; omega)) ?_) | (refine m_store (v := Value.string _) M rfl rfl rfl rfl rfl (by first | assumption | (simp; done) | (simp; omega)) ?_) | (refine m_store (v := Value.pointer _) M rfl rfl rfl rfl rfl (by first | assumption | (simp; done) | (simp; omega)) ?_)); clear M; (try clear wx); intro wx M; simp only [List.set_cons_zero, List.set_cons_succ, Nat.zero_add, List.nil_append] at M)
        | (with_reducible (show wpList _ _ _ (Oper.mk _ (.build _ _) _ _ _ _ :: _) _ _); refine m_buildZ rfl rfl ?_))
      refine m_retRRS M rfl rfl rfl rfl ?_ ?_ ?_
      · exact claC_size _ _ _ _
      · simp
      · rw [HE.out]; rfl
  · have h2 : 2 ≤ n := by omega
    have hm1 := halfN_lt n h2
    have hm2 := halfN_pos n
    have HH := Lib.hid (l03Half_c n (by omega))
    have lta : (ks.take (halfN n)).length = halfN n := by rw [List.length_take]; omega
    have lda : (ks.drop (halfN n)).length = n - halfN n := by rw [List.length_drop]; omega
    have KA1 : Hid (∀ v w, Rd w 32 v (halfN n) ((kyL ks).take (halfN n * 32)) → Ret Try.prog 52 #[v] w fun r _ => r = .agg (bA (listK (ks.take (halfN n))).1)) := Lib.hid (fun v w h => l03Key_c _ _ lta (by omega) v w (by rw [kyL_take] at h; exact h))
    have KA2 : Hid (∀ v w, Rd w 32 v (n - halfN n) ((kyL ks).drop (halfN n * 32)) → Ret Try.prog 52 #[v] w fun r _ => r = .agg (bA (listK (ks.drop (halfN n))).1)) := Lib.hid (fun v w h => l03Key_c _ _ lda (by omega) v w (by rw [kyL_drop] at h; exact h))
    obtain ⟨d, rfl⟩ : ∃ d, m = d + 1 := by
      by_cases hlt : i < halfN n
      · rw [sideR_lt n i h2 hlt] at hm
        exact ⟨_, hm⟩
      · rw [sideR_ge n i h2 (by omega)] at hm
        exact ⟨_, hm⟩
    have hd1 : d < ps.length := by omega
    have hd4 : d < 256 := by have := sideR_len n i h1; omega
    have hvb' := hvb
    obtain ⟨b2, cap2, rfl⟩ := hvb'.shape
    obtain ⟨g, o, rfl, hr⟩ := hvb.open_ (by omega)
    have C1 := Lib.hid (fun wx (hb : Up w wx) => kyL_range (hr wx hb) d hd1)
    have hltk : (ps.take d).length = d := by rw [List.length_take]; omega
    by_cases hlt : i < halfN n
    · have hS := sideR_lt n i h2 hlt
      exact l03ShownH n (halfN n) d i ks ps lf _ _ _ _ (shF (ks.take (halfN n)) i lf (ps.take d)).1 (shF (ks.take (halfN n)) i lf (ps.take d)).2.2 _ h2 hn hm1 hm2 hlt hd4 w HH KA1 KA2
        (Lib.hid (fun va vb w h h' => ih _ hm1 _ i lf (ps.take d) d lta hm2 (by omega) hlt (by rw [hS] at hm; simpa using hm) hltk va vb w (by rw [kyL_take] at h; exact h) (by rw [kyL_take] at h'; exact h')))
        (Lib.hid (shF_lt ks i n lf ps d hk h2 hlt hd1 hps _ rfl)) b1 cap1 cap2 g o HVA HVB C1
    · have hS := sideR_ge n i h2 (by omega)
      exact l03ShownL n (halfN n) d i ks ps lf _ _ _ _ (shF (ks.drop (halfN n)) (i - halfN n) lf (ps.take d)).1 (shF (ks.drop (halfN n)) (i - halfN n) lf (ps.take d)).2.2 _ h2 hn hm1 hm2 hi hlt hd4 w HH KA1 KA2
        (Lib.hid (fun va vb w h h' => by
          have := ih (n - halfN n) (by omega) _ (i - halfN n) lf (ps.take d) d lda (by omega) (by omega) (by omega) (by rw [hS] at hm; simpa using hm) hltk va vb w (by rw [kyL_drop] at h; exact h) (by rw [kyL_take] at h'; exact h')
          rwa [Int.natCast_sub (by omega)] at this))
        (Lib.hid (shF_ge ks i n lf ps d hk h2 (by omega) hd1 hps _ rfl)) b1 cap1 cap2 g o HVA HVB C1

theorem clF_have (n : Nat) (ks : List Ky) (i : Nat) (lf : Ky) (ps : List Ky) (hk : ks.length = n) (h1 : 1 ≤ n) (hi : i < n) (hp : ps.length = (sideR n i).length) (hl : leadF lf (sideR n i).reverse ps = listK ks) (hne : lf ≠ ks.getD i zeroKy) :
    ∃ c, clF (ks.getD i zeroKy) lf (sideR n i).reverse (prfL ks i) ps = some c := by
  have hlo := lead_own n ks i hk h1 hi
  rw [show ks[i]'(by omega) = ks.getD i zeroKy by rw [List.getD_eq_getElem?_getD, List.getElem?_eq_getElem (by omega)]; rfl] at hlo
  exact clF_ex _ _ _ _ _ (by rw [List.length_reverse]; exact prfL_side n ks i hk h1 hi) (by rw [List.length_reverse]; exact hp) (fun e => hne e.symm) (by rw [hlo, hl])
theorem shF_cq (n : Nat) (ks : List Ky) (i : Nat) (lf : Ky) (ps : List Ky) (hk : ks.length = n) (h1 : 1 ≤ n) (hi : i < n) (hp : ps.length = (sideR n i).length) (hl : leadF lf (sideR n i).reverse ps = listK ks) (hne : lf ≠ ks.getD i zeroKy) :
    (shF ks i lf ps).1 = (clF (ks.getD i zeroKy) lf (sideR n i).reverse (prfL ks i) ps).getD zeroCl := by
  obtain ⟨c, hc⟩ := clF_have n ks i lf ps hk h1 hi hp hl hne
  rw [(shF_is n ks i lf ps hk h1 hi hp).2.2 c hc, hc]
  rfl

set_option maxHeartbeats 4000000 in
set_option maxRecDepth 100000 in
theorem specCOP_c (i : Int) (lf : Ky) (va vb : Value) (n m : Nat) (ks ps : List Ky) (ha : ks.length = n) (hb : ps.length = m) (w : World) (hva : Rd w 32 va n (kyL ks)) (hvb : Rd w 32 vb m (kyL ps)) (hl : n ≤ 1048576) (hl2 : m ≤ 1048576) :
    Ret Try.prog 26 #[va, .int .i64 i, .agg (bA lf.1), vb] w fun r _ => r = .tuple #[.agg (claV (cqT ks i lf ps).1), .int .i64 (cqT ks i lf ps).2] := by
  obtain ⟨b1, cap1, rfl⟩ := hva.shape
  obtain ⟨b2, cap2, rfl⟩ := hvb.shape
  have HVA := Lib.hid hva
  have HVB := Lib.hid hvb
  clear hva hvb
  refine ret_start fun wx M => ?_
  by_cases hA : 256 < n
  · have HE := Lib.hid (show cqT ks i lf ps = (zeroCl, 3) by rw [cqT, if_pos (by omega)])
    clear ha hb
    go_enter Try.func26, Try.ntmps26
    go_wp2_with (first
      | (with_reducible (show wpList _ _ _ (Oper.mk (some 6) (.box _ _) _ _ _ _ :: _) _ _); (first | (refine m_boxA M rfl rfl rfl ?_) | (refine m_box1 (v := Value.int _ _) M rfl rfl rfl rfl ?_) | (refine m_box1 (v := Value.slice _ _ _) M rfl rfl rfl rfl ?_) | (refine m_box1 (v := Value.bool _) M rfl rfl rfl rfl ?_) | (refine m_box1 (v := Value.string _) M rfl rfl rfl rfl ?_) | (refine m_box1 (v := Value.pointer _) M rfl rfl rfl rfl ?_)); clear M; (try clear wx); intro g6 wx M)
      | (with_reducible (show wpList _ _ _ (Oper.mk (some 8) (.alloc _) _ _ _ _ :: _) _ _); refine mem_new M rfl rfl ?_; clear M; (try clear wx); intro g8 wx M)
      | (with_reducible (show wpList _ _ _ (Oper.mk (some 11) (.alloc _) _ _ _ _ :: _) _ _); refine mem_new M rfl rfl ?_; clear M; (try clear wx); intro g11 wx M)
      | (with_reducible (show wpList _ _ _ (Oper.mk (some 12) (.alloc _) _ _ _ _ :: _) _ _); refine mem_new M rfl rfl ?_; clear M; (try clear wx); intro g12 wx M)
      | (with_reducible (show wpList _ _ _ (Oper.mk _ (.load _ _) _ _ _ _ :: _) _ _); (first | (refine m_load M rfl rfl rfl (by first | assumption | rfl) ?_) | (refine m_loadR M rfl rfl rfl (by first | rfl | assumption | (simp; done) | (simp; omega)) ?_)))
      | (with_reducible (show wpList _ _ _ (Oper.mk _ (.store _ _ _) _ _ _ _ :: _) _ _); (first | (refine m_storeR M rfl rfl rfl rfl (by first | rfl | assumption | (simp; done) | (simp; omega)) (by first | rfl | assumption | (simp; done) | (simp; omega)) (by first | exact bA_one _ | exact claV_one _ | exact claC_one _ _ _ _) ?_) | (refine m_store (v := Value.int _ _) M rfl rfl rfl rfl rfl (by first | assumption | (simp; done) | (simp; omega)) ?_) | (refine m_store (v := Value.slice _ _ _) M rfl rfl rfl rfl rfl (by first | assumption | (simp; done) | (simp; omega)) ?_) | (refine m_store (v := Value.bool _) M rfl rfl rfl rfl rfl (by first | assumption | (simp; done) | (simp; omega)) ?_) | (refine m_store (v := Value.string _) M rfl rfl rfl rfl rfl (by first | assumption | (simp; done) | (simp; omega)) ?_) | (refine m_store (v := Value.pointer _) M rfl rfl rfl rfl rfl (by first | assumption | (simp; done) | (simp; omega)) ?_)); clear M; (try clear wx); intro wx M; simp only [List.set_cons_zero, List.set_cons_succ, Nat.zero_add, List.nil_append] at M)
      | (with_reducible (show wpList _ _ _ (Oper.mk _ (.build _ _) _ _ _ _ :: _) _ _); refine m_buildZ rfl rfl ?_))
    exact m_ret2 M rfl rfl rfl (by simp) (by rw [HE.out]; rfl)
  by_cases hB : 256 < m
  · have HE := Lib.hid (show cqT ks i lf ps = (zeroCl, 3) by rw [cqT, if_pos (by omega)])
    clear ha hb
    go_enter Try.func26, Try.ntmps26
    go_wp2_with (first
      | (with_reducible (show wpList _ _ _ (Oper.mk (some 6) (.box _ _) _ _ _ _ :: _) _ _); (first | (refine m_boxA M rfl rfl rfl ?_) | (refine m_box1 (v := Value.int _ _) M rfl rfl rfl rfl ?_) | (refine m_box1 (v := Value.slice _ _ _) M rfl rfl rfl rfl ?_) | (refine m_box1 (v := Value.bool _) M rfl rfl rfl rfl ?_) | (refine m_box1 (v := Value.string _) M rfl rfl rfl rfl ?_) | (refine m_box1 (v := Value.pointer _) M rfl rfl rfl rfl ?_)); clear M; (try clear wx); intro g6 wx M)
      | (with_reducible (show wpList _ _ _ (Oper.mk (some 8) (.alloc _) _ _ _ _ :: _) _ _); refine mem_new M rfl rfl ?_; clear M; (try clear wx); intro g8 wx M)
      | (with_reducible (show wpList _ _ _ (Oper.mk (some 11) (.alloc _) _ _ _ _ :: _) _ _); refine mem_new M rfl rfl ?_; clear M; (try clear wx); intro g11 wx M)
      | (with_reducible (show wpList _ _ _ (Oper.mk (some 12) (.alloc _) _ _ _ _ :: _) _ _); refine mem_new M rfl rfl ?_; clear M; (try clear wx); intro g12 wx M)
      | (with_reducible (show wpList _ _ _ (Oper.mk _ (.load _ _) _ _ _ _ :: _) _ _); (first | (refine m_load M rfl rfl rfl (by first | assumption | rfl) ?_) | (refine m_loadR M rfl rfl rfl (by first | rfl | assumption | (simp; done) | (simp; omega)) ?_)))
      | (with_reducible (show wpList _ _ _ (Oper.mk _ (.store _ _ _) _ _ _ _ :: _) _ _); (first | (refine m_storeR M rfl rfl rfl rfl (by first | rfl | assumption | (simp; done) | (simp; omega)) (by first | rfl | assumption | (simp; done) | (simp; omega)) (by first | exact bA_one _ | exact claV_one _ | exact claC_one _ _ _ _) ?_) | (refine m_store (v := Value.int _ _) M rfl rfl rfl rfl rfl (by first | assumption | (simp; done) | (simp; omega)) ?_) | (refine m_store (v := Value.slice _ _ _) M rfl rfl rfl rfl rfl (by first | assumption | (simp; done) | (simp; omega)) ?_) | (refine m_store (v := Value.bool _) M rfl rfl rfl rfl rfl (by first | assumption | (simp; done) | (simp; omega)) ?_) | (refine m_store (v := Value.string _) M rfl rfl rfl rfl rfl (by first | assumption | (simp; done) | (simp; omega)) ?_) | (refine m_store (v := Value.pointer _) M rfl rfl rfl rfl rfl (by first | assumption | (simp; done) | (simp; omega)) ?_)); clear M; (try clear wx); intro wx M; simp only [List.set_cons_zero, List.set_cons_succ, Nat.zero_add, List.nil_append] at M)
      | (with_reducible (show wpList _ _ _ (Oper.mk _ (.build _ _) _ _ _ _ :: _) _ _); refine m_buildZ rfl rfl ?_))
    exact m_ret2 M rfl rfl rfl (by simp) (by rw [HE.out]; rfl)
  by_cases hI : 0 ≤ i ∧ i ≤ (n : Int) - 1
  · have HI := Lib.hid (l00In_is i 0 ((n : Int) - 1) true (by simp [hI]))
    obtain ⟨i, rfl⟩ : ∃ k : Nat, i = (k : Int) := ⟨i.toNat, by omega⟩
    have hin : i < n := by omega
    have HDp := Lib.hid (l03Depth_c n i (by omega) (by omega) (by omega))
    by_cases hm : m = (sideR n i).length
    · have HLD : Hid (∀ v w, Rd w 32 v m (kyL ps) → Ret Try.prog 70 #[.int .i64 (n : Int), .int .i64 (i : Int), .agg (bA lf.1), v] w fun r _ => r = .agg (bA (leadF lf (sideR n i).reverse ps).1)) := Lib.hid (fun v w h => l03Lead_c n i lf ps m (by omega) (by omega) (by omega) hm hb v w h)
      have HKY : Hid (∀ v w, Rd w 32 v n (kyL ks) → Ret Try.prog 52 #[v] w fun r _ => r = .agg (bA (listK ks).1)) := Lib.hid (fun v w h => l03Key_c _ _ ha (by omega) v w h)
      rw [← hm] at HDp
      by_cases hL : leadF lf (sideR n i).reverse ps = listK ks
      · have ce : ∀ w, (binOp .neq 25 (.agg (bA (leadF lf (sideR n i).reverse ps).1)) (.agg (bA (listK ks).1))).run Try.prog w = .ok (.bool false) w := fun w => by rw [key_neq, decide_eq_true hL]; rfl
        have HE0 := Lib.hid (show cqT ks i lf ps = if lf = ks.getD i zeroKy then (zeroCl, 6) else ((clF (ks.getD i zeroKy) lf (sideR n i).reverse (prfL ks i) ps).getD zeroCl, 0) by rw [cqT, if_neg (by omega), if_pos (by omega), ha, Int.toNat_natCast, if_pos ⟨by omega, hL⟩])
        have HSF := Lib.hid (fun hne => shF_cq n ks i lf ps ha (by omega) hin (by omega) hL hne)
        have HSH : Hid (∀ va vb w, Rd w 32 va n (kyL ks) → Rd w 32 vb m (kyL ps) → Ret Try.prog 71 #[va, .int .i64 (i : Int), .agg (bA lf.1), vb] w fun r _ => r = .tuple #[.agg (claV (shF ks i lf ps).1), .agg (bA (shF ks i lf ps).2.1.1), .bool (shF ks i lf ps).2.2]) := Lib.hid (fun va vb w h h' => l03Shown_c n ks i lf ps m ha (by omega) (by omega) hin hm hb va vb w h h')
        have hil : i < ks.length := by omega
        have hx : ks.getD i zeroKy = ks[i]'hil := by rw [List.getD_eq_getElem?_getD, List.getElem?_eq_getElem hil]; rfl
        rw [hx] at HE0 HSF
        obtain ⟨g, o, rfl, hr⟩ := HVA.out.open_ (by omega)
        have C1 := Lib.hid (fun wx (hb : Up w wx) => kyL_range (hr wx hb) i hil)
        clear hx hr hL hm hb ha
        generalize (ks[i]'hil) = x at *
        generalize clF x lf (sideR n i).reverse (prfL ks i) ps = cl at *
        generalize leadF lf (sideR n i).reverse ps = y at *
        generalize listK ks = z at *
        generalize shF ks i lf ps = S at *
        obtain ⟨T, u, e⟩ := S
        obtain ⟨c, hc⟩ : ∃ c, decide (lf = x) = c := ⟨_, rfl⟩
        have HC := Lib.hid hc
        clear hc
        have hb1 := hI.1
        have hb2 := hI.2
        clear hI
        go_enter Try.func26, Try.ntmps26
        go_wp2_with (first
          | (with_reducible (show wpList _ _ _ (Oper.mk _ (.load _ _) _ _ _ (some _) :: _) _ _); refine wp_unguard (by first | rfl | kernel_rfl | decide | (simp [Region.wanted, yielded]; done)) ?_)
          | (go_at_call 62; (with_reducible refine mem_call M (HI.out _) ?_); clear M; (try clear wx); rintro _ wx rfl _ M)
          | (go_at_call 69; (with_reducible refine mem_call M (HDp.out _) ?_); clear M; (try clear wx); rintro _ wx rfl _ M)
          | (go_at_call 70; (with_reducible refine mem_call M (HLD.out _ _ (HVB.out.up M.up)) ?_); clear M; (try clear wx); rintro _ wx rfl _ M)
          | (go_at_call 52; (with_reducible refine mem_call M (HKY.out _ _ (HVA.out.up M.up)) ?_); clear M; (try clear wx); rintro _ wx rfl _ M)
          | (with_reducible (show wpList _ _ _ (Oper.mk (some 6) (.box _ _) _ _ _ _ :: _) _ _); (first | (refine m_boxA M rfl rfl rfl ?_) | (refine m_box1 (v := Value.int _ _) M rfl rfl rfl rfl ?_) | (refine m_box1 (v := Value.slice _ _ _) M rfl rfl rfl rfl ?_) | (refine m_box1 (v := Value.bool _) M rfl rfl rfl rfl ?_) | (refine m_box1 (v := Value.string _) M rfl rfl rfl rfl ?_) | (refine m_box1 (v := Value.pointer _) M rfl rfl rfl rfl ?_)); clear M; (try clear wx); intro g6 wx M)
          | (with_reducible (show wpList _ _ _ (Oper.mk (some 8) (.alloc _) _ _ _ _ :: _) _ _); refine mem_new M rfl rfl ?_; clear M; (try clear wx); intro g8 wx M)
          | (with_reducible (show wpList _ _ _ (Oper.mk (some 11) (.alloc _) _ _ _ _ :: _) _ _); refine mem_new M rfl rfl ?_; clear M; (try clear wx); intro g11 wx M)
          | (with_reducible (show wpList _ _ _ (Oper.mk (some 12) (.alloc _) _ _ _ _ :: _) _ _); refine mem_new M rfl rfl ?_; clear M; (try clear wx); intro g12 wx M)
          | (with_reducible (show wpList _ _ _ (Oper.mk _ (.load _ _) _ _ _ _ :: _) _ _); (first | (refine m_load M rfl rfl rfl (by first | assumption | rfl) ?_) | (refine m_loadR M rfl rfl rfl (by first | rfl | assumption | (simp; done) | (simp; omega)) ?_)))
          | (with_reducible (show wpList _ _ _ (Oper.mk _ (.store _ _ _) _ _ _ _ :: _) _ _); (first | (refine m_storeR M rfl rfl rfl rfl (by first | rfl | assumption | (simp; done) | (simp; omega)) (by first | rfl | assumption | (simp; done) | (simp; omega)) (by first | exact bA_one _ | exact claV_one _ | exact claC_one _ _ _ _) ?_) | (refine m_store (v := Value.int _ _) M rfl rfl rfl rfl rfl (by first | assumption | (simp; done) | (simp; omega)) ?_) | (refine m_store (v := Value.slice _ _ _) M rfl rfl rfl rfl rfl (by first | assumption | (simp; done) | (simp; omega)) ?_) | (refine m_store (v := Value.bool _) M rfl rfl rfl rfl rfl (by first | assumption | (simp; done) | (simp; omega)) ?_) | (refine m_store (v := Value.string _) M rfl rfl rfl rfl rfl (by first | assumption | (simp; done) | (simp; omega)) ?_) | (refine m_store (v := Value.pointer _) M rfl rfl rfl rfl rfl (by first | assumption | (simp; done) | (simp; omega)) ?_)); clear M; (try clear wx); intro wx M; simp only [List.set_cons_zero, List.set_cons_succ, Nat.zero_add, List.nil_append] at M)
          | (with_reducible (show wpList _ _ _ (Oper.mk _ (.build _ _) _ _ _ _ :: _) _ _); refine m_buildZ rfl rfl ?_))
        clear ce
        refine region_mono (m := 6) mixedOrders_ (by kernel_rfl) (by kernel_rfl)
          (fun | 0 => fun vq _ => vq = .agg (bA lf.1) | 1 => fun vq _ => vq = .slice (some ⟨g, o, none⟩) n cap1 | 2 => fun vq _ => vq = .int .i64 (i : Int) | 3 => fun vq _ => vq = .pointer (some ⟨g, o + i * 32, none⟩) | 4 => fun vq _ => vq = .agg (bA (x.1)) | 5 => fun vq _ => vq = .bool c | _ => fun _ _ => True)
          (fun wx => Mem w wx [.blk g8 27 (claC zeroKy.1 zeroKy.1 zeroKy.1 zeroKy.1), .blk g6 25 (bA lf.1)]) ?_ ?_ ?_ ?_ ?_
        · intro j hj v w1 w2 hb h
          match j, hj with
          | 0, _ => exact h
          | 1, _ => exact h
          | 2, _ => exact h
          | 3, _ => exact h
          | 4, _ => exact h
          | 5, _ => exact h
        · intro w1 w2 hb h
          exact h.grow hb
        · exact M.grow ((Up.refl _).drew)
        · rintro i o hi ho av wv fr gM dep
          match i, hi with
          | 0, _ =>
            obtain rfl := Option.some.inj ho
            exact st_loadG gM rfl (fr.eval rfl) (by first | rfl | (simp; done)) rfl
          | 1, _ =>
            obtain rfl := Option.some.inj ho
            exact st_mov rfl (fr.eval rfl) rfl
          | 2, _ =>
            obtain rfl := Option.some.inj ho
            exact st_mov rfl (fr.eval rfl) rfl
          | 3, _ =>
            obtain rfl := Option.some.inj ho
            exact st_indexAddr rfl (dep ⟨1, .data⟩ (by simp) rfl) (dep ⟨2, .data⟩ (by simp) rfl) (ix_slice _ _ _ _ _ hin _) rfl
          | 4, _ =>
            obtain rfl := Option.some.inj ho
            exact st_loadA rfl (dep ⟨3, .data⟩ (by simp) rfl) (C1.out _ gM.up) x.2 rfl
          | 5, _ =>
            obtain rfl := Option.some.inj ho
            exact st_bin rfl (dep ⟨0, .data⟩ (by simp) rfl) (dep ⟨4, .data⟩ (by simp) rfl) (by have := key_eqlG lf x; rw [HC.out] at this; exact this _ _ _) rfl
        · rintro vs wv gM hf
          have f0 : vs 0 = .agg (bA lf.1) := hf 0 (by omega)
          have f1 : vs 1 = .slice (some ⟨g, o, none⟩) n cap1 := hf 1 (by omega)
          have f2 : vs 2 = .int .i64 (i : Int) := hf 2 (by omega)
          have f3 : vs 3 = .pointer (some ⟨g, o + i * 32, none⟩) := hf 3 (by omega)
          have f4 : vs 4 = .agg (bA (x.1)) := hf 4 (by omega)
          have f5 : vs 5 = .bool c := hf 5 (by omega)
          simp only [putAll, Act.put, List.getElem?_toArray, List.getElem?_cons_zero, List.getElem?_cons_succ, Option.bind_some, List.setIfInBounds_toArray, List.set_cons_zero, List.set_cons_succ, List.drop_succ_cons, List.drop_zero, List.drop_nil, f5]
          clear f0 f1 f2 f3 f4 f5 hf
          have M := gM
          clear gM
          cases c with
          | true =>
            have HE := Lib.hid (show cqT ks i lf ps = (zeroCl, 6) by rw [HE0.out, if_pos (of_decide_eq_true HC.out)])
            go_wp2_with (first
              | (with_reducible (show wpList _ _ _ (Oper.mk (some 6) (.box _ _) _ _ _ _ :: _) _ _); (first | (refine m_boxA M rfl rfl rfl ?_) | (refine m_box1 (v := Value.int _ _) M rfl rfl rfl rfl ?_) | (refine m_box1 (v := Value.slice _ _ _) M rfl rfl rfl rfl ?_) | (refine m_box1 (v := Value.bool _) M rfl rfl rfl rfl ?_) | (refine m_box1 (v := Value.string _) M rfl rfl rfl rfl ?_) | (refine m_box1 (v := Value.pointer _) M rfl rfl rfl rfl ?_)); clear M; (try clear wx); intro g6 wx M)
              | (with_reducible (show wpList _ _ _ (Oper.mk (some 8) (.alloc _) _ _ _ _ :: _) _ _); refine mem_new M rfl rfl ?_; clear M; (try clear wx); intro g8 wx M)
              | (with_reducible (show wpList _ _ _ (Oper.mk (some 11) (.alloc _) _ _ _ _ :: _) _ _); refine mem_new M rfl rfl ?_; clear M; (try clear wx); intro g11 wx M)
              | (with_reducible (show wpList _ _ _ (Oper.mk (some 12) (.alloc _) _ _ _ _ :: _) _ _); refine mem_new M rfl rfl ?_; clear M; (try clear wx); intro g12 wx M)
              | (with_reducible (show wpList _ _ _ (Oper.mk _ (.load _ _) _ _ _ _ :: _) _ _); (first | (refine m_load M rfl rfl rfl (by first | assumption | rfl) ?_) | (refine m_loadR M rfl rfl rfl (by first | rfl | assumption | (simp; done) | (simp; omega)) ?_)))
              | (with_reducible (show wpList _ _ _ (Oper.mk _ (.store _ _ _) _ _ _ _ :: _) _ _); (first | (refine m_storeR M rfl rfl rfl rfl (by first | rfl | assumption | (simp; done) | (simp; omega)) (by first | rfl | assumption | (simp; done) | (simp; omega)) (by first | exact bA_one _ | exact claV_one _ | exact claC_one _ _ _ _) ?_) | (refine m_store (v := Value.int _ _) M rfl rfl rfl rfl rfl (by first | assumption | (simp; done) | (simp; omega)) ?_) | (refine m_store (v := Value.slice _ _ _) M rfl rfl rfl rfl rfl (by first | assumption | (simp; done) | (simp; omega)) ?_) | (refine m_store (v := Value.bool _) M rfl rfl rfl rfl rfl (by first | assumption | (simp; done) | (simp; omega)) ?_) | (refine m_store (v := Value.string _) M rfl rfl rfl rfl rfl (by first | assumption | (simp; done) | (simp; omega)) ?_) | (refine m_store (v := Value.pointer _) M rfl rfl rfl rfl rfl (by first | assumption | (simp; done) | (simp; omega)) ?_)); clear M; (try clear wx); intro wx M; simp only [List.set_cons_zero, List.set_cons_succ, Nat.zero_add, List.nil_append] at M)
              | (with_reducible (show wpList _ _ _ (Oper.mk _ (.build _ _) _ _ _ _ :: _) _ _); refine m_buildZ rfl rfl ?_))
            exact m_ret2 M rfl rfl rfl (by simp) (by rw [HE.out]; rfl)
          | false =>
            have hne : lf ≠ x := of_decide_eq_false HC.out
            have HE := Lib.hid (show cqT ks i lf ps = (T, 0) by rw [HE0.out, if_neg hne, ← HSF.out hne])
            clear hne HE0 HSF
            go_wp2_with (first
              | (go_at_call 71; (with_reducible refine mem_call M (HSH.out _ _ _ (HVA.out.up M.up) (HVB.out.up M.up)) ?_); clear M; (try clear wx); rintro _ wx rfl _ M)
              | (with_reducible (show wpList _ _ _ (Oper.mk (some 6) (.box _ _) _ _ _ _ :: _) _ _); (first | (refine m_boxA M rfl rfl rfl ?_) | (refine m_box1 (v := Value.int _ _) M rfl rfl rfl rfl ?_) | (refine m_box1 (v := Value.slice _ _ _) M rfl rfl rfl rfl ?_) | (refine m_box1 (v := Value.bool _) M rfl rfl rfl rfl ?_) | (refine m_box1 (v := Value.string _) M rfl rfl rfl rfl ?_) | (refine m_box1 (v := Value.pointer _) M rfl rfl rfl rfl ?_)); clear M; (try clear wx); intro g6 wx M)
              | (with_reducible (show wpList _ _ _ (Oper.mk (some 8) (.alloc _) _ _ _ _ :: _) _ _); refine mem_new M rfl rfl ?_; clear M; (try clear wx); intro g8 wx M)
              | (with_reducible (show wpList _ _ _ (Oper.mk (some 11) (.alloc _) _ _ _ _ :: _) _ _); refine mem_new M rfl rfl ?_; clear M; (try clear wx); intro g11 wx M)
              | (with_reducible (show wpList _ _ _ (Oper.mk (some 12) (.alloc _) _ _ _ _ :: _) _ _); refine mem_new M rfl rfl ?_; clear M; (try clear wx); intro g12 wx M)
              | (with_reducible (show wpList _ _ _ (Oper.mk _ (.load _ _) _ _ _ _ :: _) _ _); (first | (refine m_load M rfl rfl rfl (by first | assumption | rfl) ?_) | (refine m_loadR M rfl rfl rfl (by first | rfl | assumption | (simp; done) | (simp; omega)) ?_)))
              | (with_reducible (show wpList _ _ _ (Oper.mk _ (.store _ _ _) _ _ _ _ :: _) _ _); (first | (refine m_storeR M rfl rfl rfl rfl (by first | rfl | assumption | (simp; done) | (simp; omega)) (by first | rfl | assumption | (simp; done) | (simp; omega)) (by first | exact bA_one _ | exact claV_one _ | exact claC_one _ _ _ _) ?_) | (refine m_store (v := Value.int _ _) M rfl rfl rfl rfl rfl (by first | assumption | (simp; done) | (simp; omega)) ?_) | (refine m_store (v := Value.slice _ _ _) M rfl rfl rfl rfl rfl (by first | assumption | (simp; done) | (simp; omega)) ?_) | (refine m_store (v := Value.bool _) M rfl rfl rfl rfl rfl (by first | assumption | (simp; done) | (simp; omega)) ?_) | (refine m_store (v := Value.string _) M rfl rfl rfl rfl rfl (by first | assumption | (simp; done) | (simp; omega)) ?_) | (refine m_store (v := Value.pointer _) M rfl rfl rfl rfl rfl (by first | assumption | (simp; done) | (simp; omega)) ?_)); clear M; (try clear wx); intro wx M; simp only [List.set_cons_zero, List.set_cons_succ, Nat.zero_add, List.nil_append] at M)
              | (with_reducible (show wpList _ _ _ (Oper.mk _ (.build _ _) _ _ _ _ :: _) _ _); refine m_buildZ rfl rfl ?_))
            exact m_ret2 M rfl rfl rfl (by simp) (by rw [HE.out]; rfl)
      · have ce : ∀ w, (binOp .neq 25 (.agg (bA (leadF lf (sideR n i).reverse ps).1)) (.agg (bA (listK ks).1))).run Try.prog w = .ok (.bool true) w := fun w => by rw [key_neq, decide_eq_false hL]; rfl
        have HE := Lib.hid (show cqT ks i lf ps = (zeroCl, 4) by rw [cqT, if_neg (by omega), if_pos (by omega), ha, Int.toNat_natCast, if_neg (fun h => hL h.2)])
        have hb1 := hI.1
        have hb2 := hI.2
        clear hI hm hb ha hL
        generalize leadF lf (sideR n i).reverse ps = y at *
        generalize listK ks = z at *
        go_enter Try.func26, Try.ntmps26
        go_wp2_with (first
          | (with_reducible (show wpList _ _ _ (Oper.mk _ (.load _ _) _ _ _ (some _) :: _) _ _); refine wp_unguard (by first | rfl | kernel_rfl | decide | (simp [Region.wanted, yielded]; done)) ?_)
          | (go_at_call 62; (with_reducible refine mem_call M (HI.out _) ?_); clear M; (try clear wx); rintro _ wx rfl _ M)
          | (go_at_call 69; (with_reducible refine mem_call M (HDp.out _) ?_); clear M; (try clear wx); rintro _ wx rfl _ M)
          | (go_at_call 70; (with_reducible refine mem_call M (HLD.out _ _ (HVB.out.up M.up)) ?_); clear M; (try clear wx); rintro _ wx rfl _ M)
          | (go_at_call 52; (with_reducible refine mem_call M (HKY.out _ _ (HVA.out.up M.up)) ?_); clear M; (try clear wx); rintro _ wx rfl _ M)
          | (with_reducible (show wpList _ _ _ (Oper.mk (some 6) (.box _ _) _ _ _ _ :: _) _ _); (first | (refine m_boxA M rfl rfl rfl ?_) | (refine m_box1 (v := Value.int _ _) M rfl rfl rfl rfl ?_) | (refine m_box1 (v := Value.slice _ _ _) M rfl rfl rfl rfl ?_) | (refine m_box1 (v := Value.bool _) M rfl rfl rfl rfl ?_) | (refine m_box1 (v := Value.string _) M rfl rfl rfl rfl ?_) | (refine m_box1 (v := Value.pointer _) M rfl rfl rfl rfl ?_)); clear M; (try clear wx); intro g6 wx M)
          | (with_reducible (show wpList _ _ _ (Oper.mk (some 8) (.alloc _) _ _ _ _ :: _) _ _); refine mem_new M rfl rfl ?_; clear M; (try clear wx); intro g8 wx M)
          | (with_reducible (show wpList _ _ _ (Oper.mk (some 11) (.alloc _) _ _ _ _ :: _) _ _); refine mem_new M rfl rfl ?_; clear M; (try clear wx); intro g11 wx M)
          | (with_reducible (show wpList _ _ _ (Oper.mk (some 12) (.alloc _) _ _ _ _ :: _) _ _); refine mem_new M rfl rfl ?_; clear M; (try clear wx); intro g12 wx M)
          | (with_reducible (show wpList _ _ _ (Oper.mk _ (.load _ _) _ _ _ _ :: _) _ _); (first | (refine m_load M rfl rfl rfl (by first | assumption | rfl) ?_) | (refine m_loadR M rfl rfl rfl (by first | rfl | assumption | (simp; done) | (simp; omega)) ?_)))
          | (with_reducible (show wpList _ _ _ (Oper.mk _ (.store _ _ _) _ _ _ _ :: _) _ _); (first | (refine m_storeR M rfl rfl rfl rfl (by first | rfl | assumption | (simp; done) | (simp; omega)) (by first | rfl | assumption | (simp; done) | (simp; omega)) (by first | exact bA_one _ | exact claV_one _ | exact claC_one _ _ _ _) ?_) | (refine m_store (v := Value.int _ _) M rfl rfl rfl rfl rfl (by first | assumption | (simp; done) | (simp; omega)) ?_) | (refine m_store (v := Value.slice _ _ _) M rfl rfl rfl rfl rfl (by first | assumption | (simp; done) | (simp; omega)) ?_) | (refine m_store (v := Value.bool _) M rfl rfl rfl rfl rfl (by first | assumption | (simp; done) | (simp; omega)) ?_) | (refine m_store (v := Value.string _) M rfl rfl rfl rfl rfl (by first | assumption | (simp; done) | (simp; omega)) ?_) | (refine m_store (v := Value.pointer _) M rfl rfl rfl rfl rfl (by first | assumption | (simp; done) | (simp; omega)) ?_)); clear M; (try clear wx); intro wx M; simp only [List.set_cons_zero, List.set_cons_succ, Nat.zero_add, List.nil_append] at M)
          | (with_reducible (show wpList _ _ _ (Oper.mk _ (.build _ _) _ _ _ _ :: _) _ _); refine m_buildZ rfl rfl ?_))
        exact m_ret2 M rfl rfl rfl (by simp) (by rw [HE.out]; rfl)
    · have HE := Lib.hid (show cqT ks i lf ps = (zeroCl, 4) by rw [cqT, if_neg (by omega), if_pos (by omega), ha, Int.toNat_natCast, if_neg (fun h => hm (by omega))])
      have hdl := sideR_len n i (by omega)
      have hb1 := hI.1
      have hb2 := hI.2
      clear hI hb ha
      generalize (sideR n i).length = d at *
      go_enter Try.func26, Try.ntmps26
      go_wp2_with (first
        | (go_at_call 62; (with_reducible refine mem_call M (HI.out _) ?_); clear M; (try clear wx); rintro _ wx rfl _ M)
        | (go_at_call 69; (with_reducible refine mem_call M (HDp.out _) ?_); clear M; (try clear wx); rintro _ wx rfl _ M)
        | (with_reducible (show wpList _ _ _ (Oper.mk (some 6) (.box _ _) _ _ _ _ :: _) _ _); (first | (refine m_boxA M rfl rfl rfl ?_) | (refine m_box1 (v := Value.int _ _) M rfl rfl rfl rfl ?_) | (refine m_box1 (v := Value.slice _ _ _) M rfl rfl rfl rfl ?_) | (refine m_box1 (v := Value.bool _) M rfl rfl rfl rfl ?_) | (refine m_box1 (v := Value.string _) M rfl rfl rfl rfl ?_) | (refine m_box1 (v := Value.pointer _) M rfl rfl rfl rfl ?_)); clear M; (try clear wx); intro g6 wx M)
        | (with_reducible (show wpList _ _ _ (Oper.mk (some 8) (.alloc _) _ _ _ _ :: _) _ _); refine mem_new M rfl rfl ?_; clear M; (try clear wx); intro g8 wx M)
        | (with_reducible (show wpList _ _ _ (Oper.mk (some 11) (.alloc _) _ _ _ _ :: _) _ _); refine mem_new M rfl rfl ?_; clear M; (try clear wx); intro g11 wx M)
        | (with_reducible (show wpList _ _ _ (Oper.mk (some 12) (.alloc _) _ _ _ _ :: _) _ _); refine mem_new M rfl rfl ?_; clear M; (try clear wx); intro g12 wx M)
        | (with_reducible (show wpList _ _ _ (Oper.mk _ (.load _ _) _ _ _ _ :: _) _ _); (first | (refine m_load M rfl rfl rfl (by first | assumption | rfl) ?_) | (refine m_loadR M rfl rfl rfl (by first | rfl | assumption | (simp; done) | (simp; omega)) ?_)))
        | (with_reducible (show wpList _ _ _ (Oper.mk _ (.store _ _ _) _ _ _ _ :: _) _ _); (first | (refine m_storeR M rfl rfl rfl rfl (by first | rfl | assumption | (simp; done) | (simp; omega)) (by first | rfl | assumption | (simp; done) | (simp; omega)) (by first | exact bA_one _ | exact claV_one _ | exact claC_one _ _ _ _) ?_) | (refine m_store (v := Value.int _ _) M rfl rfl rfl rfl rfl (by first | assumption | (simp; done) | (simp; omega)) ?_) | (refine m_store (v := Value.slice _ _ _) M rfl rfl rfl rfl rfl (by first | assumption | (simp; done) | (simp; omega)) ?_) | (refine m_store (v := Value.bool _) M rfl rfl rfl rfl rfl (by first | assumption | (simp; done) | (simp; omega)) ?_) | (refine m_store (v := Value.string _) M rfl rfl rfl rfl rfl (by first | assumption | (simp; done) | (simp; omega)) ?_) | (refine m_store (v := Value.pointer _) M rfl rfl rfl rfl rfl (by first | assumption | (simp; done) | (simp; omega)) ?_)); clear M; (try clear wx); intro wx M; simp only [List.set_cons_zero, List.set_cons_succ, Nat.zero_add, List.nil_append] at M)
        | (with_reducible (show wpList _ _ _ (Oper.mk _ (.build _ _) _ _ _ _ :: _) _ _); refine m_buildZ rfl rfl ?_))
      exact m_ret2 M rfl rfl rfl (by simp) (by rw [HE.out]; rfl)
  · have HI := Lib.hid (l00In_is i 0 ((n : Int) - 1) false (by simp; omega))
    have HE := Lib.hid (show cqT ks i lf ps = (zeroCl, 2) by rw [cqT, if_neg (by omega), if_neg (by omega)])
    clear ha hb hI
    go_enter Try.func26, Try.ntmps26
    go_wp2_with (first
      | (go_at_call 62; (with_reducible refine mem_call M (HI.out _) ?_); clear M; (try clear wx); rintro _ wx rfl _ M)
      | (with_reducible (show wpList _ _ _ (Oper.mk (some 6) (.box _ _) _ _ _ _ :: _) _ _); (first | (refine m_boxA M rfl rfl rfl ?_) | (refine m_box1 (v := Value.int _ _) M rfl rfl rfl rfl ?_) | (refine m_box1 (v := Value.slice _ _ _) M rfl rfl rfl rfl ?_) | (refine m_box1 (v := Value.bool _) M rfl rfl rfl rfl ?_) | (refine m_box1 (v := Value.string _) M rfl rfl rfl rfl ?_) | (refine m_box1 (v := Value.pointer _) M rfl rfl rfl rfl ?_)); clear M; (try clear wx); intro g6 wx M)
      | (with_reducible (show wpList _ _ _ (Oper.mk (some 8) (.alloc _) _ _ _ _ :: _) _ _); refine mem_new M rfl rfl ?_; clear M; (try clear wx); intro g8 wx M)
      | (with_reducible (show wpList _ _ _ (Oper.mk (some 11) (.alloc _) _ _ _ _ :: _) _ _); refine mem_new M rfl rfl ?_; clear M; (try clear wx); intro g11 wx M)
      | (with_reducible (show wpList _ _ _ (Oper.mk (some 12) (.alloc _) _ _ _ _ :: _) _ _); refine mem_new M rfl rfl ?_; clear M; (try clear wx); intro g12 wx M)
      | (with_reducible (show wpList _ _ _ (Oper.mk _ (.load _ _) _ _ _ _ :: _) _ _); (first | (refine m_load M rfl rfl rfl (by first | assumption | rfl) ?_) | (refine m_loadR M rfl rfl rfl (by first | rfl | assumption | (simp; done) | (simp; omega)) ?_)))
      | (with_reducible (show wpList _ _ _ (Oper.mk _ (.store _ _ _) _ _ _ _ :: _) _ _); (first | (refine m_storeR M rfl rfl rfl rfl (by first | rfl | assumption | (simp; done) | (simp; omega)) (by first | rfl | assumption | (simp; done) | (simp; omega)) (by first | exact bA_one _ | exact claV_one _ | exact claC_one _ _ _ _) ?_) | (refine m_store (v := Value.int _ _) M rfl rfl rfl rfl rfl (by first | assumption | (simp; done) | (simp; omega)) ?_) | (refine m_store (v := Value.slice _ _ _) M rfl rfl rfl rfl rfl (by first | assumption | (simp; done) | (simp; omega)) ?_) | (refine m_store (v := Value.bool _) M rfl rfl rfl rfl rfl (by first | assumption | (simp; done) | (simp; omega)) ?_) | (refine m_store (v := Value.string _) M rfl rfl rfl rfl rfl (by first | assumption | (simp; done) | (simp; omega)) ?_) | (refine m_store (v := Value.pointer _) M rfl rfl rfl rfl rfl (by first | assumption | (simp; done) | (simp; omega)) ?_)); clear M; (try clear wx); intro wx M; simp only [List.set_cons_zero, List.set_cons_succ, Nat.zero_add, List.nil_append] at M)
      | (with_reducible (show wpList _ _ _ (Oper.mk _ (.build _ _) _ _ _ _ :: _) _ _); refine m_buildZ rfl rfl ?_))
    exact m_ret2 M rfl rfl rfl (by simp) (by rw [HE.out]; rfl)

end Go.Proofs.Ytmbhaoiahlbglaa

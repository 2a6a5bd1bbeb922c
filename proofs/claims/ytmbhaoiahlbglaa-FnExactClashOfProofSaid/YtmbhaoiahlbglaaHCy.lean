/- Walks: the first clash from the root down, in the right part. -/
import Derived.Test.YtmbhaoiahlbglaaHCw
namespace Go.Proofs.Ytmbhaoiahlbglaa
open Go.RowKit
set_option linter.unusedVariables false
set_option linter.unusedSimpArgs false

set_option maxHeartbeats 16000000 in
set_option maxRecDepth 100000 in
theorem l03ShownL (n q d i : Nat) (ks ps : List Ky) (lf x1 x2 y z : Ky) (T : Cl) (c : Bool) (R : Cl × Ky × Bool) (h2 : 2 ≤ n) (hn : n ≤ 256) (hm1 : q < n) (hm2 : 0 < q) (hi : i < n) (hlt : ¬ i < q) (hd4 : d < 256) (w : World)
    (HH : Hid (∀ w, Ret Try.prog 103 #[.int .i64 (n : Int)] w fun r _ => r = .int .i64 (q : Int)))
    (KA1 : Hid (∀ v w, Rd w 32 v q ((kyL ks).take (q * 32)) → Ret Try.prog 52 #[v] w fun r _ => r = .agg (bA x1.1)))
    (KA2 : Hid (∀ v w, Rd w 32 v (n - q) ((kyL ks).drop (q * 32)) → Ret Try.prog 52 #[v] w fun r _ => r = .agg (bA x2.1)))
    (HA : Hid (∀ va vb w, Rd w 32 va (n - q) ((kyL ks).drop (q * 32)) → Rd w 32 vb d ((kyL ps).take (d * 32)) → Ret Try.prog 71 #[va, .int .i64 ((i : Int) - (q : Int)), .agg (bA lf.1), vb] w fun r _ => r = .tuple #[.agg (claV T), .agg (bA y.1), .bool c]))
    (HE : Hid (R = shJ (T, y, c) (x1, x2, z, y) (nodeK z y))) (b1 : Option Addr) (cap1 cap2 g o : Nat) (HVA : Hid (Rd w 32 (.slice b1 n cap1) n (kyL ks))) (HVB : Hid (Rd w 32 (.slice (some ⟨g, o, none⟩) (d + 1) cap2) (d + 1) (kyL ps)))
    (C1 : Hid (∀ wx, Up w wx → wx.rangeAt g (o + d * 32) (bL z.1))) :
    Ret Try.prog 71 #[.slice b1 n cap1, .int .i64 (i : Int), .agg (bA lf.1), .slice (some ⟨g, o, none⟩) (d + 1) cap2] w fun r _ => r = .tuple #[.agg (claV R.1), .agg (bA R.2.1.1), .bool R.2.2] := by
  have hml : q ≤ n := Nat.le_of_lt hm1
  have hd2 : d < d + 1 := by omega
  have hd3 : d ≤ d + 1 := by omega
  have e1 : ((d + 1 : Nat) : Int) - 1 = (d : Int) := by omega
  refine ret_start fun wx M => ?_
  go_enter Try.func71, Try.ntmps71
  go_wp2_with (first
    | (go_at_call 103; (with_reducible refine mem_call M (HH.out _) ?_); clear M; (try clear wx); rintro _ wx rfl _ M)
    | (with_reducible (show wpList _ _ _ (Oper.mk (some 6) (.box _ _) _ _ _ _ :: _) _ _); (first | (refine m_boxA M rfl rfl rfl ?_) | (refine m_box1 (v := Value.int _ _) M rfl rfl rfl rfl ?_) | (refine m_box1 (v := Value.slice _ _ _) M rfl rfl rfl rfl ?_) | (refine m_box1 (v := Value.bool _) M rfl rfl rfl rfl ?_) | (refine m_box1 (v := Value.string _) M rfl rfl rfl rfl ?_) | (refine m_box1 (v := Value.pointer _) M rfl rfl rfl rfl ?_)); clear M; (try clear wx); intro g6 wx M)
    | (with_reducible (show wpList _ _ _ (Oper.mk (some 8) (.alloc _) _ _ _ _ :: _) _ _); refine mem_new M rfl rfl ?_; clear M; (try clear wx); intro g8 wx M)
    | (with_reducible (show wpList _ _ _ (Oper.mk (some 9) (.alloc _) _ _ _ _ :: _) _ _); refine mem_new M rfl rfl ?_; clear M; (try clear wx); intro g9 wx M)
    | (with_reducible (show wpList _ _ _ (Oper.mk (some 14) (.alloc _) _ _ _ _ :: _) _ _); refine mem_new M rfl rfl ?_; clear M; (try clear wx); intro g14 wx M)
    | (with_reducible (show wpList _ _ _ (Oper.mk (some 15) (.alloc _) _ _ _ _ :: _) _ _); refine mem_new M rfl rfl ?_; clear M; (try clear wx); intro g15 wx M)
    | (with_reducible (show wpList _ _ _ (Oper.mk (some 17) (.alloc _) _ _ _ _ :: _) _ _); refine mem_new M rfl rfl ?_; clear M; (try clear wx); intro g17 wx M)
    | (with_reducible (show wpList _ _ _ (Oper.mk _ (.load _ _) _ _ _ _ :: _) _ _); (first | (refine m_load M rfl rfl rfl (by first | assumption | rfl) ?_) | (refine m_loadR M rfl rfl rfl (by first | rfl | assumption | (simp; done) | (simp; omega)) ?_)))
    | (with_reducible (show wpList _ _ _ (Oper.mk _ (.store _ _ _) _ _ _ _ :: _) _ _); (first | (refine m_storeR M rfl rfl rfl rfl (by first | rfl | assumption | (simp; done) | (simp; omega)) (by first | rfl | assumption | (simp; done) | (simp; omega)) (by first | exact bA_one _ | exact wA_one _ | assumption | (simp [Value.oneCell']; done)) ?_) | (refine m_store (v := Value.int _ _) M rfl rfl rfl rfl rfl (by first | assumption | (simp; done) | (simp; omega)) ?_) | (refine m_store (v := Value.slice _ _ _) M rfl rfl rfl rfl rfl (by first | assumption | (simp; done) | (simp; omega)) ?_) | (refine m_store (v := Value.bool _) M rfl rfl rfl rfl rfl (by first | assumption | (simp; done) | (simp; omega)) ?_) | (refine m_store (v := Value.string _) M rfl rfl rfl rfl rfl (by first | assumption | (simp; done) | (simp; omega)) ?_) | (refine m_store (v := Value.pointer _) M rfl rfl rfl rfl rfl (by first | assumption | (simp; done) | (simp; omega)) ?_)); clear M; (try clear wx); intro wx M; simp only [List.set_cons_zero, List.set_cons_succ, Nat.zero_add, List.nil_append] at M)
    | (with_reducible (show wpList _ _ _ (Oper.mk _ (.build _ _) _ _ _ _ :: _) _ _); refine m_buildZ rfl rfl ?_))
  refine region_mono (m := 10) mixedOrders_ (by kernel_rfl) (by kernel_rfl)
    (fun | 0 => fun vq _ => vq = .slice b1 n cap1 | 1 => fun vq _ => vq = .int .i64 (q : Int) | 2 => fun v wx => Rd wx 32 v q ((kyL ks).take (q * 32)) | 3 => fun vq _ => vq = .agg (bA x1.1) | 4 => fun vq _ => vq = .slice b1 n cap1 | 5 => fun vq _ => vq = .int .i64 (q : Int) | 6 => fun v wx => Rd wx 32 v (n - q) ((kyL ks).drop (q * 32)) | 7 => fun vq _ => vq = .agg (bA x2.1) | 8 => fun vq _ => vq = .agg (claC x1.1 x2.1 zeroKy.1 zeroKy.1) | 9 => fun v wx => Fresh w [.blk g9 25 (bA zeroKy.1), .blk g8 27 (claC zeroKy.1 zeroKy.1 zeroKy.1 zeroKy.1), .blk g6 25 (bA lf.1)] 27 (claC zeroKy.1 zeroKy.1 zeroKy.1 zeroKy.1) v wx | _ => fun _ _ => True)
    (fun wx => Mem w wx [.blk g9 25 (bA zeroKy.1), .blk g8 27 (claC zeroKy.1 zeroKy.1 zeroKy.1 zeroKy.1), .blk g6 25 (bA lf.1)]) ?_ ?_ ?_ ?_ ?_
  · intro j hj v w1 w2 hb h
    match j, hj with
    | 0, _ => exact h
    | 1, _ => exact h
    | 2, _ => exact h.up hb
    | 3, _ => exact h
    | 4, _ => exact h
    | 5, _ => exact h
    | 6, _ => exact h.up hb
    | 7, _ => exact h
    | 8, _ => exact h
    | 9, _ => exact h.up hb
  · intro w1 w2 hb h
    exact h.grow hb
  · exact M.grow ((Up.refl _).drew)
  · rintro i o hi ho av wv fr gM dep
    match i, hi with
    | 0, _ =>
      obtain rfl := Option.some.inj ho
      exact st_mov rfl (fr.eval rfl) rfl
    | 1, _ =>
      obtain rfl := Option.some.inj ho
      exact st_mov rfl (fr.eval rfl) rfl
    | 2, _ =>
      obtain rfl := Option.some.inj ho
      exact st_slH rfl (dep ⟨0, .data⟩ (by simp) rfl) (dep ⟨1, .data⟩ (by simp) rfl) (HVA.out.up gM.up) hml (fun v h => h)
    | 3, _ =>
      obtain rfl := Option.some.inj ho
      have D2 := (dep ⟨2, .data⟩ (by simp) rfl)
      exact st_ret1 rfl (fun _ _ => by kernel_rfl) (rfl) (KA1.out _ _ D2) (fun r w' h _ => h)
    | 4, _ =>
      obtain rfl := Option.some.inj ho
      exact st_mov rfl (fr.eval rfl) rfl
    | 5, _ =>
      obtain rfl := Option.some.inj ho
      exact st_mov rfl (fr.eval rfl) rfl
    | 6, _ =>
      obtain rfl := Option.some.inj ho
      exact st_slL rfl (dep ⟨4, .data⟩ (by simp) rfl) (dep ⟨5, .data⟩ (by simp) rfl) (HVA.out.up gM.up) hml (fun v h => h)
    | 7, _ =>
      obtain rfl := Option.some.inj ho
      have D6 := (dep ⟨6, .data⟩ (by simp) rfl)
      exact st_ret1 rfl (fun _ _ => by kernel_rfl) (rfl) (KA2.out _ _ D6) (fun r w' h _ => h)
    | 8, _ =>
      obtain rfl := Option.some.inj ho
      exact st_build2 rfl (dep ⟨3, .data⟩ (by simp) rfl) (dep ⟨7, .data⟩ (by simp) rfl) (built_cla2 x1 x2) rfl
    | 9, _ =>
      obtain rfl := Option.some.inj ho
      exact st_new gM rfl
  · rintro vs wv gM hf
    have f0 : vs 0 = .slice b1 n cap1 := hf 0 (by omega)
    have f1 : vs 1 = .int .i64 (q : Int) := hf 1 (by omega)
    have f2 := hf 2 (by omega)
    have f3 : vs 3 = .agg (bA x1.1) := hf 3 (by omega)
    have f4 : vs 4 = .slice b1 n cap1 := hf 4 (by omega)
    have f5 : vs 5 = .int .i64 (q : Int) := hf 5 (by omega)
    have f6 := hf 6 (by omega)
    have f7 : vs 7 = .agg (bA x2.1) := hf 7 (by omega)
    have f8 : vs 8 = .agg (claC x1.1 x2.1 zeroKy.1 zeroKy.1) := hf 8 (by omega)
    have f9 := hf 9 (by omega)
    obtain ⟨g14, e9, M⟩ := gM.fresh f9
    simp only [putAll, Act.put, List.getElem?_toArray, List.getElem?_cons_zero, List.getElem?_cons_succ, Option.bind_some, List.setIfInBounds_toArray, List.set_cons_zero, List.set_cons_succ, List.drop_succ_cons, List.drop_zero, List.drop_nil, f8, e9]
    clear f0 f1 f2 f3 f4 f5 f6 f7 f8 f9 hf e9 gM
    go_wp2_with (first
      | (with_reducible (show wpList _ _ _ (Oper.mk (some 6) (.box _ _) _ _ _ _ :: _) _ _); (first | (refine m_boxA M rfl rfl rfl ?_) | (refine m_box1 (v := Value.int _ _) M rfl rfl rfl rfl ?_) | (refine m_box1 (v := Value.slice _ _ _) M rfl rfl rfl rfl ?_) | (refine m_box1 (v := Value.bool _) M rfl rfl rfl rfl ?_) | (refine m_box1 (v := Value.string _) M rfl rfl rfl rfl ?_) | (refine m_box1 (v := Value.pointer _) M rfl rfl rfl rfl ?_)); clear M; (try clear wx); intro g6 wx M)
      | (with_reducible (show wpList _ _ _ (Oper.mk (some 8) (.alloc _) _ _ _ _ :: _) _ _); refine mem_new M rfl rfl ?_; clear M; (try clear wx); intro g8 wx M)
      | (with_reducible (show wpList _ _ _ (Oper.mk (some 9) (.alloc _) _ _ _ _ :: _) _ _); refine mem_new M rfl rfl ?_; clear M; (try clear wx); intro g9 wx M)
      | (with_reducible (show wpList _ _ _ (Oper.mk (some 14) (.alloc _) _ _ _ _ :: _) _ _); refine mem_new M rfl rfl ?_; clear M; (try clear wx); intro g14 wx M)
      | (with_reducible (show wpList _ _ _ (Oper.mk (some 15) (.alloc _) _ _ _ _ :: _) _ _); refine mem_new M rfl rfl ?_; clear M; (try clear wx); intro g15 wx M)
      | (with_reducible (show wpList _ _ _ (Oper.mk (some 17) (.alloc _) _ _ _ _ :: _) _ _); refine mem_new M rfl rfl ?_; clear M; (try clear wx); intro g17 wx M)
      | (with_reducible (show wpList _ _ _ (Oper.mk _ (.load _ _) _ _ _ _ :: _) _ _); (first | (refine m_load M rfl rfl rfl (by first | assumption | rfl) ?_) | (refine m_loadR M rfl rfl rfl (by first | rfl | assumption | (simp; done) | (simp; omega)) ?_)))
      | (with_reducible (show wpList _ _ _ (Oper.mk _ (.store _ _ _) _ _ _ _ :: _) _ _); (first | (refine m_storeR M rfl rfl rfl rfl (by first | rfl | assumption | (simp; done) | (simp; omega)) (by first | rfl | assumption | (simp; done) | (simp; omega)) (by first | exact bA_one _ | exact claV_one _ | exact claC_one _ _ _ _) ?_) | (refine m_store (v := Value.int _ _) M rfl rfl rfl rfl rfl (by first | assumption | (simp; done) | (simp; omega)) ?_) | (refine m_store (v := Value.slice _ _ _) M rfl rfl rfl rfl rfl (by first | assumption | (simp; done) | (simp; omega)) ?_) | (refine m_store (v := Value.bool _) M rfl rfl rfl rfl rfl (by first | assumption | (simp; done) | (simp; omega)) ?_) | (refine m_store (v := Value.string _) M rfl rfl rfl rfl rfl (by first | assumption | (simp; done) | (simp; omega)) ?_) | (refine m_store (v := Value.pointer _) M rfl rfl rfl rfl rfl (by first | assumption | (simp; done) | (simp; omega)) ?_)); clear M; (try clear wx); intro wx M; simp only [List.set_cons_zero, List.set_cons_succ, Nat.zero_add, List.nil_append] at M)
      | (with_reducible (show wpList _ _ _ (Oper.mk _ (.build _ _) _ _ _ _ :: _) _ _); refine m_buildZ rfl rfl ?_))
    have hFk : ∀ (j : Nat) (u : Value) (wa wb : World), j < 18 → (fun (j : Nat) (v : Value) (_ : World) => (match j with | 0 => (fun vq => vq = .slice b1 n cap1) v | 1 => (fun vq => vq = .int .i64 (q : Int)) v | 2 => (fun v => Rd w 32 v (n - q) ((kyL ks).drop (q * 32))) v | 3 => (fun vq => vq = .int .i64 (i : Int)) v | 4 => (fun vq => vq = .int .i64 (q : Int)) v | 5 => (fun vq => vq = .int .i64 ((i : Int) - (q : Int))) v | 6 => (fun vq => vq = .agg (bA lf.1)) v | 7 => (fun vq => vq = .slice (some ⟨g, o, none⟩) (d + 1) cap2) v | 8 => (fun vq => vq = .int .i64 (d : Int)) v | 9 => (fun v => Rd w 32 v d ((kyL ps).take (d * 32))) v | 10 => (fun v => v = .tuple #[.agg (claV T), .agg (bA y.1), .bool c]) v | 11 => (fun vq => vq = .tuple #[.agg (claV T), .agg (bA y.1), .bool c]) v | 12 => (fun vq => vq = .agg (claV T)) v | 13 => (fun vq => vq = .agg (bA y.1)) v | 14 => (fun vq => vq = .bool c) v | 15 => (fun _ => True) v | 16 => (fun v => v = .pointer (some ⟨g14, 96, none⟩)) v | 17 => (fun _ => True) v | _ => True)) j u wa → (fun (j : Nat) (v : Value) (_ : World) => (match j with | 0 => (fun vq => vq = .slice b1 n cap1) v | 1 => (fun vq => vq = .int .i64 (q : Int)) v | 2 => (fun v => Rd w 32 v (n - q) ((kyL ks).drop (q * 32))) v | 3 => (fun vq => vq = .int .i64 (i : Int)) v | 4 => (fun vq => vq = .int .i64 (q : Int)) v | 5 => (fun vq => vq = .int .i64 ((i : Int) - (q : Int))) v | 6 => (fun vq => vq = .agg (bA lf.1)) v | 7 => (fun vq => vq = .slice (some ⟨g, o, none⟩) (d + 1) cap2) v | 8 => (fun vq => vq = .int .i64 (d : Int)) v | 9 => (fun v => Rd w 32 v d ((kyL ps).take (d * 32))) v | 10 => (fun v => v = .tuple #[.agg (claV T), .agg (bA y.1), .bool c]) v | 11 => (fun vq => vq = .tuple #[.agg (claV T), .agg (bA y.1), .bool c]) v | 12 => (fun vq => vq = .agg (claV T)) v | 13 => (fun vq => vq = .agg (bA y.1)) v | 14 => (fun vq => vq = .bool c) v | 15 => (fun _ => True) v | 16 => (fun v => v = .pointer (some ⟨g14, 96, none⟩)) v | 17 => (fun _ => True) v | _ => True)) j u wb := fun _ _ _ _ _ h => h
    refine region_monoS (m := 18) mixedOrders_ (by kernel_rfl) (by kernel_rfl)
      (fun (j : Nat) (v : Value) (_ : World) => (match j with | 0 => (fun vq => vq = .slice b1 n cap1) v | 1 => (fun vq => vq = .int .i64 (q : Int)) v | 2 => (fun v => Rd w 32 v (n - q) ((kyL ks).drop (q * 32))) v | 3 => (fun vq => vq = .int .i64 (i : Int)) v | 4 => (fun vq => vq = .int .i64 (q : Int)) v | 5 => (fun vq => vq = .int .i64 ((i : Int) - (q : Int))) v | 6 => (fun vq => vq = .agg (bA lf.1)) v | 7 => (fun vq => vq = .slice (some ⟨g, o, none⟩) (d + 1) cap2) v | 8 => (fun vq => vq = .int .i64 (d : Int)) v | 9 => (fun v => Rd w 32 v d ((kyL ps).take (d * 32))) v | 10 => (fun v => v = .tuple #[.agg (claV T), .agg (bA y.1), .bool c]) v | 11 => (fun vq => vq = .tuple #[.agg (claV T), .agg (bA y.1), .bool c]) v | 12 => (fun vq => vq = .agg (claV T)) v | 13 => (fun vq => vq = .agg (bA y.1)) v | 14 => (fun vq => vq = .bool c) v | 15 => (fun _ => True) v | 16 => (fun v => v = .pointer (some ⟨g14, 96, none⟩)) v | 17 => (fun _ => True) v | _ => True))
      (fun s wx => Mem w wx [.blk g15 27 (if s 15 = true then claV T else claC zeroKy.1 zeroKy.1 zeroKy.1 zeroKy.1), .blk g14 27 (if s 17 = true then claC x1.1 x2.1 zeroKy.1 y.1 else claC x1.1 x2.1 zeroKy.1 zeroKy.1), .blk g9 25 (bA zeroKy.1), .blk g8 27 (claC zeroKy.1 zeroKy.1 zeroKy.1 zeroKy.1), .blk g6 25 (bA lf.1)]) ?_ ?_ ?_
    · show Mem w _ [.blk g15 27 (claC zeroKy.1 zeroKy.1 zeroKy.1 zeroKy.1), .blk g14 27 (claC x1.1 x2.1 zeroKy.1 zeroKy.1), .blk g9 25 (bA zeroKy.1), .blk g8 27 (claC zeroKy.1 zeroKy.1 zeroKy.1 zeroKy.1), .blk g6 25 (bA lf.1)]
      exact M.grow ((Up.refl _).drew)
    · rintro i o hi ho av wv s fr gM hs cl dep
      match i, hi with
      | 0, _ =>
        obtain rfl := Option.some.inj ho
        exact stT hFk gM (by first | rfl | (simp; done)) rfl rfl rfl (st_mov rfl (fr.eval rfl) rfl)
      | 1, _ =>
        obtain rfl := Option.some.inj ho
        exact stT hFk gM (by first | rfl | (simp; done)) rfl rfl rfl (st_mov rfl (fr.eval rfl) rfl)
      | 2, _ =>
        obtain rfl := Option.some.inj ho
        exact stT hFk gM (by first | rfl | (simp; done)) rfl rfl rfl (st_slLw rfl (dep ⟨0, .data⟩ (by simp) rfl).2 (dep ⟨1, .data⟩ (by simp) rfl).2 HVA.out hml (fun v h => h))
      | 3, _ =>
        obtain rfl := Option.some.inj ho
        exact stT hFk gM (by first | rfl | (simp; done)) rfl rfl rfl (st_mov rfl (fr.eval rfl) rfl)
      | 4, _ =>
        obtain rfl := Option.some.inj ho
        exact stT hFk gM (by first | rfl | (simp; done)) rfl rfl rfl (st_mov rfl (fr.eval rfl) rfl)
      | 5, _ =>
        obtain rfl := Option.some.inj ho
        exact stT hFk gM (by first | rfl | (simp; done)) rfl rfl rfl (st_bin rfl (dep ⟨3, .data⟩ (by simp) rfl).2 (dep ⟨4, .data⟩ (by simp) rfl).2 (bin_sub64 _ _ _ (i64_in_ _ (by omega)) _ _ _) rfl)
      | 6, _ =>
        obtain rfl := Option.some.inj ho
        exact stT hFk gM (by first | rfl | (simp; done)) rfl rfl rfl (st_loadG gM rfl (fr.eval rfl) (by first | rfl | assumption | (simp; done) | (simp; omega)) rfl)
      | 7, _ =>
        obtain rfl := Option.some.inj ho
        exact stT hFk gM (by first | rfl | (simp; done)) rfl rfl rfl (st_mov rfl (fr.eval rfl) rfl)
      | 8, _ =>
        obtain rfl := Option.some.inj ho
        exact stT hFk gM (by first | rfl | (simp; done)) rfl rfl rfl (st_mov rfl (by rw [fr.eval rfl, ← e1]; rfl) rfl)
      | 9, _ =>
        obtain rfl := Option.some.inj ho
        exact stT hFk gM (by first | rfl | (simp; done)) rfl rfl rfl (st_slHw rfl (dep ⟨7, .data⟩ (by simp) rfl).2 (dep ⟨8, .data⟩ (by simp) rfl).2 HVB.out hd3 (fun v h => h))
      | 10, _ =>
        obtain rfl := Option.some.inj ho
        have DA : Rd w 32 _ (n - q) ((kyL ks).drop (q * 32)) := (dep ⟨2, .data⟩ (by simp) rfl).2
        have DB : Rd w 32 _ d ((kyL ps).take (d * 32)) := (dep ⟨9, .data⟩ (by simp) rfl).2
        exact stT hFk gM (by first | rfl | (simp; done)) rfl rfl rfl (st_ret4 rfl (fun _ _ => by kernel_rfl) rfl (dep ⟨5, .data⟩ (by simp) rfl).2 (dep ⟨6, .data⟩ (by simp) rfl).2 rfl (HA.out _ _ _ (DA.up gM.up) (DB.up gM.up)) (fun r w' h _ => h))
      | 11, _ =>
        obtain rfl := Option.some.inj ho
        exact stT hFk gM (by first | rfl | (simp; done)) rfl rfl rfl (st_mov rfl (((dep ⟨10, .data⟩ (by simp) rfl)).2) rfl)
      | 12, _ =>
        obtain rfl := Option.some.inj ho
        exact stT hFk gM (by first | rfl | (simp; done)) rfl rfl rfl (st_x0 rfl (dep ⟨11, .data⟩ (by simp) rfl).2 rfl)
      | 13, _ =>
        obtain rfl := Option.some.inj ho
        exact stT hFk gM (by first | rfl | (simp; done)) rfl rfl rfl (st_x1 rfl (dep ⟨11, .data⟩ (by simp) rfl).2 rfl)
      | 14, _ =>
        obtain rfl := Option.some.inj ho
        exact stT hFk gM (by first | rfl | (simp; done)) rfl rfl rfl (st_x2 rfl (dep ⟨11, .data⟩ (by simp) rfl).2 rfl)
      | 15, _ =>
        obtain rfl := Option.some.inj ho
        have DV : av.eval (.tmp 73) = Value.agg _ := (dep ⟨12, .data⟩ (by simp) rfl).2
        have DA : av.eval (.tmp 15) = Value.pointer (some ⟨_, 0, none⟩) := fr.eval rfl
        refine stT_storeR hFk (fun _ _ => trivial) gM rfl rfl rfl DA DV ?_ ?_ ?_ ?_
        · exact (by first | rfl | assumption | (simp; done) | (simp; omega))
        · first | (split <;> exact (by first | rfl | assumption | (simp; done) | (simp; omega))) | exact (by first | rfl | assumption | (simp; done) | (simp; omega))
        · first | exact claV_one _ | exact bA_one _ | exact claC_one _ _ _ _
        · first | rfl | (simp; done)
      | 16, _ =>
        obtain rfl := Option.some.inj ho
        exact stT hFk gM (by first | rfl | (simp; done)) rfl rfl rfl (st_fldC rfl Try.underlying27 rfl (fr.eval rfl) 96 rfl (by kernel_rfl) rfl)
      | 17, _ =>
        obtain rfl := Option.some.inj ho
        have DV : av.eval (.tmp 74) = Value.agg _ := (dep ⟨13, .data⟩ (by simp) rfl).2
        have DA : av.eval (.tmp 76) = Value.pointer (some ⟨_, _, none⟩) := (dep ⟨16, .data⟩ (by simp) rfl).2
        simp only [hs, Bool.false_eq_true, if_false] at gM
        refine stT_storeP hFk (fun _ _ => trivial) gM rfl rfl rfl DA DV ?_ ?_ ?_ ?_
        · simp
        · first | (simp [claC_size]; done) | (rw [claC_size]; done) | (simp [claC_size]; omega)
        · first | exact claV_one _ | exact bA_one _ | exact claC_one _ _ _ _
        · rw [cla_setA3]; first | rfl | (simp; done)
      | n + 18, h' => exact absurd h' (by omega)
    · rintro vs wv s hall gM hf
      have hs15 := hall 15 (by omega)
      have hs17 := hall 17 (by omega)
      simp only [hs15, hs17, if_true] at gM
      have M : Mem w _ [.blk g15 27 (claV T), .blk g14 27 (claC x1.1 x2.1 zeroKy.1 y.1), .blk g9 25 (bA zeroKy.1), .blk g8 27 (claC zeroKy.1 zeroKy.1 zeroKy.1 zeroKy.1), .blk g6 25 (bA lf.1)] := gM
      have f0 : vs 0 = .slice b1 n cap1 := hf 0 (by omega)
      have f1 : vs 1 = .int .i64 (q : Int) := hf 1 (by omega)
      have f2 := hf 2 (by omega)
      have f3 : vs 3 = .int .i64 (i : Int) := hf 3 (by omega)
      have f4 : vs 4 = .int .i64 (q : Int) := hf 4 (by omega)
      have f5 : vs 5 = .int .i64 ((i : Int) - (q : Int)) := hf 5 (by omega)
      have f6 : vs 6 = .agg (bA lf.1) := hf 6 (by omega)
      have f7 : vs 7 = .slice (some ⟨g, o, none⟩) (d + 1) cap2 := hf 7 (by omega)
      have f8 : vs 8 = .int .i64 (d : Int) := hf 8 (by omega)
      have f9 := hf 9 (by omega)
      have f10 := hf 10 (by omega)
      have f11 : vs 11 = .tuple #[.agg (claV T), .agg (bA y.1), .bool c] := hf 11 (by omega)
      have f12 : vs 12 = .agg (claV T) := hf 12 (by omega)
      have f13 : vs 13 = .agg (bA y.1) := hf 13 (by omega)
      have f14 : vs 14 = .bool c := hf 14 (by omega)
      have f16 := hf 16 (by omega)
      clear hFk gM hall
      simp only [putAll, Act.put, List.getElem?_toArray, List.getElem?_cons_zero, List.getElem?_cons_succ, Option.bind_some, List.setIfInBounds_toArray, List.set_cons_zero, List.set_cons_succ, List.drop_succ_cons, List.drop_zero, List.drop_nil, f14]
      clear f0 f1 f2 f3 f4 f5 f6 f7 f8 f9 f10 f11 f12 f13 f14 f16 hf
      cases c with
      | true =>
        go_wp2_with (first
          | (go_at_call 104; (with_reducible refine mem_call M (l03Node_c z y _) ?_); clear M; (try clear wx); rintro _ wx rfl _ M)
          | (with_reducible (show wpList _ _ _ (Oper.mk _ (.indexAddr _ _ _) _ _ _ _ :: _) _ _); refine m_ix rfl rfl rfl d (by first | rfl | (refine congrArg (Value.int .i64) ?_; omega)) hd2 ?_)
          | (with_reducible (show wpList _ _ _ (Oper.mk (some 6) (.box _ _) _ _ _ _ :: _) _ _); (first | (refine m_boxA M rfl rfl rfl ?_) | (refine m_box1 (v := Value.int _ _) M rfl rfl rfl rfl ?_) | (refine m_box1 (v := Value.slice _ _ _) M rfl rfl rfl rfl ?_) | (refine m_box1 (v := Value.bool _) M rfl rfl rfl rfl ?_) | (refine m_box1 (v := Value.string _) M rfl rfl rfl rfl ?_) | (refine m_box1 (v := Value.pointer _) M rfl rfl rfl rfl ?_)); clear M; (try clear wx); intro g6 wx M)
          | (with_reducible (show wpList _ _ _ (Oper.mk (some 8) (.alloc _) _ _ _ _ :: _) _ _); refine mem_new M rfl rfl ?_; clear M; (try clear wx); intro g8 wx M)
          | (with_reducible (show wpList _ _ _ (Oper.mk (some 9) (.alloc _) _ _ _ _ :: _) _ _); refine mem_new M rfl rfl ?_; clear M; (try clear wx); intro g9 wx M)
          | (with_reducible (show wpList _ _ _ (Oper.mk (some 14) (.alloc _) _ _ _ _ :: _) _ _); refine mem_new M rfl rfl ?_; clear M; (try clear wx); intro g14 wx M)
          | (with_reducible (show wpList _ _ _ (Oper.mk (some 15) (.alloc _) _ _ _ _ :: _) _ _); refine mem_new M rfl rfl ?_; clear M; (try clear wx); intro g15 wx M)
          | (with_reducible (show wpList _ _ _ (Oper.mk (some 17) (.alloc _) _ _ _ _ :: _) _ _); refine mem_new M rfl rfl ?_; clear M; (try clear wx); intro g17 wx M)
          | (with_reducible (show wpList _ _ _ (Oper.mk _ (.load _ _) _ _ _ _ :: _) _ _); (first | (refine m_loadB M rfl rfl rfl (cla_get2 _ _ _ _) (Ky.len _) ?_) | (refine m_loadB M rfl rfl rfl (cla_get3 _ _ _ _) (Ky.len _) ?_) | (refine rd_loadA rfl rfl rfl (C1.out _ M.up) z.2 ?_) | (refine m_load M rfl rfl rfl (by first | assumption | rfl) ?_) | (refine m_loadR M rfl rfl rfl (by first | rfl | assumption | (simp; done) | (simp; omega)) ?_)))
          | (with_reducible (show wpList _ _ _ (Oper.mk _ (.store _ _ _) _ _ _ _ :: _) _ _); (first | (refine m_storeR M rfl rfl rfl rfl (by first | rfl | assumption | (simp; done) | (simp; omega)) (by first | rfl | assumption | (simp; done) | (simp; omega)) (by first | exact bA_one _ | exact claV_one _ | exact claC_one _ _ _ _) ?_) | (refine m_store (v := Value.int _ _) M rfl rfl rfl rfl rfl (by first | assumption | (simp; done) | (simp; omega)) ?_) | (refine m_store (v := Value.slice _ _ _) M rfl rfl rfl rfl rfl (by first | assumption | (simp; done) | (simp; omega)) ?_) | (refine m_store (v := Value.bool _) M rfl rfl rfl rfl rfl (by first | assumption | (simp; done) | (simp; omega)) ?_) | (refine m_store (v := Value.string _) M rfl rfl rfl rfl rfl (by first | assumption | (simp; done) | (simp; omega)) ?_) | (refine m_store (v := Value.pointer _) M rfl rfl rfl rfl rfl (by first | assumption | (simp; done) | (simp; omega)) ?_)); clear M; (try clear wx); intro wx M; simp only [List.set_cons_zero, List.set_cons_succ, Nat.zero_add, List.nil_append] at M)
          | (with_reducible (show wpList _ _ _ (Oper.mk _ (.build _ _) _ _ _ _ :: _) _ _); refine m_buildZ rfl rfl ?_)
          | (with_reducible (show wpList _ _ _ (Oper.mk _ (.store _ _ _) _ _ _ _ :: _) _ _); refine m_storeP M rfl rfl rfl rfl (by simp) (by simp [claC_size]) (bA_one _) ?_; clear M; (try clear wx); intro wx M; simp only [List.set_cons_zero, List.set_cons_succ, Nat.zero_add, cla_setA0, cla_setA1, cla_setA2, cla_setA3] at M))
        have hFk : ∀ (j : Nat) (u : Value) (wa wb : World), j < 3 → (fun (j : Nat) (v : Value) (_ : World) => (match j with | 0 => (fun vq => vq = .agg (claV T)) v | 1 => (fun vq => vq = .agg (bA (nodeK z y).1)) v | 2 => (fun _ => True) v | _ => True)) j u wa → (fun (j : Nat) (v : Value) (_ : World) => (match j with | 0 => (fun vq => vq = .agg (claV T)) v | 1 => (fun vq => vq = .agg (bA (nodeK z y).1)) v | 2 => (fun _ => True) v | _ => True)) j u wb := fun _ _ _ _ _ h => h
        refine region_monoS (m := 3) mixedOrders_ (by kernel_rfl) (by kernel_rfl)
          (fun (j : Nat) (v : Value) (_ : World) => (match j with | 0 => (fun vq => vq = .agg (claV T)) v | 1 => (fun vq => vq = .agg (bA (nodeK z y).1)) v | 2 => (fun _ => True) v | _ => True))
          (fun s wx => Mem w wx [.blk g17 25 (bA (nodeK z y).1), .blk g15 27 (claV T), .blk g14 27 (claC x1.1 x2.1 z.1 y.1), .blk g9 25 (bA zeroKy.1), .blk g8 27 (if s 2 = true then claV T else claC zeroKy.1 zeroKy.1 zeroKy.1 zeroKy.1), .blk g6 25 (bA lf.1)]) ?_ ?_ ?_
        · show Mem w _ [.blk g17 25 (bA (nodeK z y).1), .blk g15 27 (claV T), .blk g14 27 (claC x1.1 x2.1 z.1 y.1), .blk g9 25 (bA zeroKy.1), .blk g8 27 (claC zeroKy.1 zeroKy.1 zeroKy.1 zeroKy.1), .blk g6 25 (bA lf.1)]
          exact M.grow ((Up.refl _).drew)
        · rintro i o hi ho av wv s fr gM hs cl dep
          match i, hi with
          | 0, _ =>
            obtain rfl := Option.some.inj ho
            exact stT hFk gM (by first | rfl | (simp; done)) rfl rfl rfl (st_loadG gM rfl (fr.eval rfl) (by first | rfl | assumption | (simp; done) | (simp; omega)) rfl)
          | 1, _ =>
            obtain rfl := Option.some.inj ho
            exact stT hFk gM (by first | rfl | (simp; done)) rfl rfl rfl (st_loadG gM rfl (fr.eval rfl) (by first | rfl | assumption | (simp; done) | (simp; omega)) rfl)
          | 2, _ =>
            obtain rfl := Option.some.inj ho
            have DV : av.eval (.tmp 88) = Value.agg _ := (dep ⟨0, .data⟩ (by simp) rfl).2
            have DA : av.eval (.tmp 8) = Value.pointer (some ⟨_, 0, none⟩) := fr.eval rfl
            refine stT_storeR hFk (fun _ _ => trivial) gM rfl rfl rfl DA DV ?_ ?_ ?_ ?_
            · exact (by first | rfl | assumption | (simp; done) | (simp; omega))
            · first | (split <;> exact (by first | rfl | assumption | (simp; done) | (simp; omega))) | exact (by first | rfl | assumption | (simp; done) | (simp; omega))
            · first | exact claV_one _ | exact bA_one _ | exact claC_one _ _ _ _
            · first | rfl | (simp; done)
        · rintro vs wv s hall gM hf
          have hs2 := hall 2 (by omega)
          simp only [hs2, if_true] at gM
          have M : Mem w _ [.blk g17 25 (bA (nodeK z y).1), .blk g15 27 (claV T), .blk g14 27 (claC x1.1 x2.1 z.1 y.1), .blk g9 25 (bA zeroKy.1), .blk g8 27 (claV T), .blk g6 25 (bA lf.1)] := gM
          have f0 : vs 0 = .agg (claV T) := hf 0 (by omega)
          have f1 : vs 1 = .agg (bA (nodeK z y).1) := hf 1 (by omega)
          clear hFk gM hall
          simp only [putAll, Act.put, List.getElem?_toArray, List.getElem?_cons_zero, List.getElem?_cons_succ, Option.bind_some, List.setIfInBounds_toArray, List.set_cons_zero, List.set_cons_succ, List.drop_succ_cons, List.drop_zero, List.drop_nil, f0, f1]
          clear f0 f1 hf
          go_wp2_with (first
            | (with_reducible (show wpList _ _ _ (Oper.mk (some 6) (.box _ _) _ _ _ _ :: _) _ _); (first | (refine m_boxA M rfl rfl rfl ?_) | (refine m_box1 (v := Value.int _ _) M rfl rfl rfl rfl ?_) | (refine m_box1 (v := Value.slice _ _ _) M rfl rfl rfl rfl ?_) | (refine m_box1 (v := Value.bool _) M rfl rfl rfl rfl ?_) | (refine m_box1 (v := Value.string _) M rfl rfl rfl rfl ?_) | (refine m_box1 (v := Value.pointer _) M rfl rfl rfl rfl ?_)); clear M; (try clear wx); intro g6 wx M)
            | (with_reducible (show wpList _ _ _ (Oper.mk (some 8) (.alloc _) _ _ _ _ :: _) _ _); refine mem_new M rfl rfl ?_; clear M; (try clear wx); intro g8 wx M)
            | (with_reducible (show wpList _ _ _ (Oper.mk (some 9) (.alloc _) _ _ _ _ :: _) _ _); refine mem_new M rfl rfl ?_; clear M; (try clear wx); intro g9 wx M)
            | (with_reducible (show wpList _ _ _ (Oper.mk (some 14) (.alloc _) _ _ _ _ :: _) _ _); refine mem_new M rfl rfl ?_; clear M; (try clear wx); intro g14 wx M)
            | (with_reducible (show wpList _ _ _ (Oper.mk (some 15) (.alloc _) _ _ _ _ :: _) _ _); refine mem_new M rfl rfl ?_; clear M; (try clear wx); intro g15 wx M)
            | (with_reducible (show wpList _ _ _ (Oper.mk (some 17) (.alloc _) _ _ _ _ :: _) _ _); refine mem_new M rfl rfl ?_; clear M; (try clear wx); intro g17 wx M)
            | (with_reducible (show wpList _ _ _ (Oper.mk _ (.load _ _) _ _ _ _ :: _) _ _); (first | (refine m_load M rfl rfl rfl (by first | assumption | rfl) ?_) | (refine m_loadR M rfl rfl rfl (by first | rfl | assumption | (simp; done) | (simp; omega)) ?_)))
            | (with_reducible (show wpList _ _ _ (Oper.mk _ (.store _ _ _) _ _ _ _ :: _) _ _); (first | (refine m_storeR M rfl rfl rfl rfl (by first | rfl | assumption | (simp; done) | (simp; omega)) (by first | rfl | assumption | (simp; done) | (simp; omega)) (by first | exact bA_one _ | exact claV_one _ | exact claC_one _ _ _ _) ?_) | (refine m_store (v := Value.int _ _) M rfl rfl rfl rfl rfl (by first | assumption | (simp; done) | (simp; omega)) ?_) | (refine m_store (v := Value.slice _ _ _) M rfl rfl rfl rfl rfl (by first | assumption | (simp; done) | (simp; omega)) ?_) | (refine m_store (v := Value.bool _) M rfl rfl rfl rfl rfl (by first | assumption | (simp; done) | (simp; omega)) ?_) | (refine m_store (v := Value.string _) M rfl rfl rfl rfl rfl (by first | assumption | (simp; done) | (simp; omega)) ?_) | (refine m_store (v := Value.pointer _) M rfl rfl rfl rfl rfl (by first | assumption | (simp; done) | (simp; omega)) ?_)); clear M; (try clear wx); intro wx M; simp only [List.set_cons_zero, List.set_cons_succ, Nat.zero_add, List.nil_append] at M)
            | (with_reducible (show wpList _ _ _ (Oper.mk _ (.build _ _) _ _ _ _ :: _) _ _); refine m_buildZ rfl rfl ?_))
          refine m_retRRS M rfl rfl rfl rfl ?_ ?_ ?_
          · first | exact claV_size _ | (simp [claC_size]; done)
          · simp
          · rw [HE.out]; rfl
      | false =>
        go_wp2_with (first
          | (go_at_call 104; (with_reducible refine mem_call M (l03Node_c z y _) ?_); clear M; (try clear wx); rintro _ wx rfl _ M)
          | (with_reducible (show wpList _ _ _ (Oper.mk _ (.indexAddr _ _ _) _ _ _ _ :: _) _ _); refine m_ix rfl rfl rfl d (by first | rfl | (refine congrArg (Value.int .i64) ?_; omega)) hd2 ?_)
          | (with_reducible (show wpList _ _ _ (Oper.mk (some 6) (.box _ _) _ _ _ _ :: _) _ _); (first | (refine m_boxA M rfl rfl rfl ?_) | (refine m_box1 (v := Value.int _ _) M rfl rfl rfl rfl ?_) | (refine m_box1 (v := Value.slice _ _ _) M rfl rfl rfl rfl ?_) | (refine m_box1 (v := Value.bool _) M rfl rfl rfl rfl ?_) | (refine m_box1 (v := Value.string _) M rfl rfl rfl rfl ?_) | (refine m_box1 (v := Value.pointer _) M rfl rfl rfl rfl ?_)); clear M; (try clear wx); intro g6 wx M)
          | (with_reducible (show wpList _ _ _ (Oper.mk (some 8) (.alloc _) _ _ _ _ :: _) _ _); refine mem_new M rfl rfl ?_; clear M; (try clear wx); intro g8 wx M)
          | (with_reducible (show wpList _ _ _ (Oper.mk (some 9) (.alloc _) _ _ _ _ :: _) _ _); refine mem_new M rfl rfl ?_; clear M; (try clear wx); intro g9 wx M)
          | (with_reducible (show wpList _ _ _ (Oper.mk (some 14) (.alloc _) _ _ _ _ :: _) _ _); refine mem_new M rfl rfl ?_; clear M; (try clear wx); intro g14 wx M)
          | (with_reducible (show wpList _ _ _ (Oper.mk (some 15) (.alloc _) _ _ _ _ :: _) _ _); refine mem_new M rfl rfl ?_; clear M; (try clear wx); intro g15 wx M)
          | (with_reducible (show wpList _ _ _ (Oper.mk (some 17) (.alloc _) _ _ _ _ :: _) _ _); refine mem_new M rfl rfl ?_; clear M; (try clear wx); intro g17 wx M)
          | (with_reducible (show wpList _ _ _ (Oper.mk _ (.load _ _) _ _ _ _ :: _) _ _); (first | (refine m_loadB M rfl rfl rfl (cla_get2 _ _ _ _) (Ky.len _) ?_) | (refine m_loadB M rfl rfl rfl (cla_get3 _ _ _ _) (Ky.len _) ?_) | (refine rd_loadA rfl rfl rfl (C1.out _ M.up) z.2 ?_) | (refine m_load M rfl rfl rfl (by first | assumption | rfl) ?_) | (refine m_loadR M rfl rfl rfl (by first | rfl | assumption | (simp; done) | (simp; omega)) ?_)))
          | (with_reducible (show wpList _ _ _ (Oper.mk _ (.store _ _ _) _ _ _ _ :: _) _ _); (first | (refine m_storeR M rfl rfl rfl rfl (by first | rfl | assumption | (simp; done) | (simp; omega)) (by first | rfl | assumption | (simp; done) | (simp; omega)) (by first | exact bA_one _ | exact claV_one _ | exact claC_one _ _ _ _) ?_) | (refine m_store (v := Value.int _ _) M rfl rfl rfl rfl rfl (by first | assumption | (simp; done) | (simp; omega)) ?_) | (refine m_store (v := Value.slice _ _ _) M rfl rfl rfl rfl rfl (by first | assumption | (simp; done) | (simp; omega)) ?_) | (refine m_store (v := Value.bool _) M rfl rfl rfl rfl rfl (by first | assumption | (simp; done) | (simp; omega)) ?_) | (refine m_store (v := Value.string _) M rfl rfl rfl rfl rfl (by first | assumption | (simp; done) | (simp; omega)) ?_) | (refine m_store (v := Value.pointer _) M rfl rfl rfl rfl rfl (by first | assumption | (simp; done) | (simp; omega)) ?_)); clear M; (try clear wx); intro wx M; simp only [List.set_cons_zero, List.set_cons_succ, Nat.zero_add, List.nil_append] at M)
          | (with_reducible (show wpList _ _ _ (Oper.mk _ (.build _ _) _ _ _ _ :: _) _ _); refine m_buildZ rfl rfl ?_)
          | (with_reducible (show wpList _ _ _ (Oper.mk _ (.store _ _ _) _ _ _ _ :: _) _ _); refine m_storeP M rfl rfl rfl rfl (by simp) (by simp [claC_size]) (bA_one _) ?_; clear M; (try clear wx); intro wx M; simp only [List.set_cons_zero, List.set_cons_succ, Nat.zero_add, cla_setA0, cla_setA1, cla_setA2, cla_setA3] at M))
        have hFk : ∀ (j : Nat) (u : Value) (wa wb : World), j < 5 → (fun (j : Nat) (v : Value) (_ : World) => (match j with | 0 => (fun vq => vq = .agg (claC x1.1 x2.1 z.1 y.1)) v | 1 => (fun vq => vq = .agg (bA (nodeK z y).1)) v | 2 => (fun vq => vq = .agg (claC x1.1 x2.1 z.1 y.1)) v | 3 => (fun vq => vq = .bool (vcB (x1, x2, z, y))) v | 4 => (fun _ => True) v | _ => True)) j u wa → (fun (j : Nat) (v : Value) (_ : World) => (match j with | 0 => (fun vq => vq = .agg (claC x1.1 x2.1 z.1 y.1)) v | 1 => (fun vq => vq = .agg (bA (nodeK z y).1)) v | 2 => (fun vq => vq = .agg (claC x1.1 x2.1 z.1 y.1)) v | 3 => (fun vq => vq = .bool (vcB (x1, x2, z, y))) v | 4 => (fun _ => True) v | _ => True)) j u wb := fun _ _ _ _ _ h => h
        refine region_monoS (m := 5) mixedOrders_ (by kernel_rfl) (by kernel_rfl)
          (fun (j : Nat) (v : Value) (_ : World) => (match j with | 0 => (fun vq => vq = .agg (claC x1.1 x2.1 z.1 y.1)) v | 1 => (fun vq => vq = .agg (bA (nodeK z y).1)) v | 2 => (fun vq => vq = .agg (claC x1.1 x2.1 z.1 y.1)) v | 3 => (fun vq => vq = .bool (vcB (x1, x2, z, y))) v | 4 => (fun _ => True) v | _ => True))
          (fun s wx => Mem w wx [.blk g17 25 (bA (nodeK z y).1), .blk g15 27 (claV T), .blk g14 27 (claC x1.1 x2.1 z.1 y.1), .blk g9 25 (bA zeroKy.1), .blk g8 27 (if s 4 = true then claC x1.1 x2.1 z.1 y.1 else claC zeroKy.1 zeroKy.1 zeroKy.1 zeroKy.1), .blk g6 25 (bA lf.1)]) ?_ ?_ ?_
        · show Mem w _ [.blk g17 25 (bA (nodeK z y).1), .blk g15 27 (claV T), .blk g14 27 (claC x1.1 x2.1 z.1 y.1), .blk g9 25 (bA zeroKy.1), .blk g8 27 (claC zeroKy.1 zeroKy.1 zeroKy.1 zeroKy.1), .blk g6 25 (bA lf.1)]
          exact M.grow ((Up.refl _).drew)
        · rintro i o hi ho av wv s fr gM hs cl dep
          match i, hi with
          | 0, _ =>
            obtain rfl := Option.some.inj ho
            exact stT hFk gM (by first | rfl | (simp; done)) rfl rfl rfl (st_loadG gM rfl (fr.eval rfl) (by first | rfl | assumption | (simp; done) | (simp; omega)) rfl)
          | 1, _ =>
            obtain rfl := Option.some.inj ho
            exact stT hFk gM (by first | rfl | (simp; done)) rfl rfl rfl (st_loadG gM rfl (fr.eval rfl) (by first | rfl | assumption | (simp; done) | (simp; omega)) rfl)
          | 2, _ =>
            obtain rfl := Option.some.inj ho
            exact stT hFk gM (by first | rfl | (simp; done)) rfl rfl rfl (st_loadG gM rfl (fr.eval rfl) (by first | rfl | assumption | (simp; done) | (simp; omega)) rfl)
          | 3, _ =>
            obtain rfl := Option.some.inj ho
            exact stT hFk gM (by first | rfl | (simp; done)) rfl rfl rfl (st_ret1 rfl (fun _ _ => by kernel_rfl) (dep ⟨2, .data⟩ (by simp) rfl).2 (specValid_c (x1, x2, z, y) _) (fun r w' h _ => h))
          | 4, _ =>
            obtain rfl := Option.some.inj ho
            have DV : av.eval (.tmp 90) = Value.agg _ := (dep ⟨0, .data⟩ (by simp) rfl).2
            have DA : av.eval (.tmp 8) = Value.pointer (some ⟨_, 0, none⟩) := fr.eval rfl
            refine stT_storeR hFk (fun _ _ => trivial) gM rfl rfl rfl DA DV ?_ ?_ ?_ ?_
            · exact (by first | rfl | assumption | (simp; done) | (simp; omega))
            · first | (split <;> exact (by first | rfl | assumption | (simp; done) | (simp; omega))) | exact (by first | rfl | assumption | (simp; done) | (simp; omega))
            · first | exact claV_one _ | exact bA_one _ | exact claC_one _ _ _ _
            · first | rfl | (simp; done)
        · rintro vs wv s hall gM hf
          have hs4 := hall 4 (by omega)
          simp only [hs4, if_true] at gM
          have M : Mem w _ [.blk g17 25 (bA (nodeK z y).1), .blk g15 27 (claV T), .blk g14 27 (claC x1.1 x2.1 z.1 y.1), .blk g9 25 (bA zeroKy.1), .blk g8 27 (claC x1.1 x2.1 z.1 y.1), .blk g6 25 (bA lf.1)] := gM
          have f0 : vs 0 = .agg (claC x1.1 x2.1 z.1 y.1) := hf 0 (by omega)
          have f1 : vs 1 = .agg (bA (nodeK z y).1) := hf 1 (by omega)
          have f2 : vs 2 = .agg (claC x1.1 x2.1 z.1 y.1) := hf 2 (by omega)
          have f3 : vs 3 = .bool (vcB (x1, x2, z, y)) := hf 3 (by omega)
          clear hFk gM hall
          simp only [putAll, Act.put, List.getElem?_toArray, List.getElem?_cons_zero, List.getElem?_cons_succ, Option.bind_some, List.setIfInBounds_toArray, List.set_cons_zero, List.set_cons_succ, List.drop_succ_cons, List.drop_zero, List.drop_nil, f0, f1, f3]
          clear f0 f1 f2 f3 hf
          go_wp2_with (first
            | (with_reducible (show wpList _ _ _ (Oper.mk (some 6) (.box _ _) _ _ _ _ :: _) _ _); (first | (refine m_boxA M rfl rfl rfl ?_) | (refine m_box1 (v := Value.int _ _) M rfl rfl rfl rfl ?_) | (refine m_box1 (v := Value.slice _ _ _) M rfl rfl rfl rfl ?_) | (refine m_box1 (v := Value.bool _) M rfl rfl rfl rfl ?_) | (refine m_box1 (v := Value.string _) M rfl rfl rfl rfl ?_) | (refine m_box1 (v := Value.pointer _) M rfl rfl rfl rfl ?_)); clear M; (try clear wx); intro g6 wx M)
            | (with_reducible (show wpList _ _ _ (Oper.mk (some 8) (.alloc _) _ _ _ _ :: _) _ _); refine mem_new M rfl rfl ?_; clear M; (try clear wx); intro g8 wx M)
            | (with_reducible (show wpList _ _ _ (Oper.mk (some 9) (.alloc _) _ _ _ _ :: _) _ _); refine mem_new M rfl rfl ?_; clear M; (try clear wx); intro g9 wx M)
            | (with_reducible (show wpList _ _ _ (Oper.mk (some 14) (.alloc _) _ _ _ _ :: _) _ _); refine mem_new M rfl rfl ?_; clear M; (try clear wx); intro g14 wx M)
            | (with_reducible (show wpList _ _ _ (Oper.mk (some 15) (.alloc _) _ _ _ _ :: _) _ _); refine mem_new M rfl rfl ?_; clear M; (try clear wx); intro g15 wx M)
            | (with_reducible (show wpList _ _ _ (Oper.mk (some 17) (.alloc _) _ _ _ _ :: _) _ _); refine mem_new M rfl rfl ?_; clear M; (try clear wx); intro g17 wx M)
            | (with_reducible (show wpList _ _ _ (Oper.mk _ (.load _ _) _ _ _ _ :: _) _ _); (first | (refine m_load M rfl rfl rfl (by first | assumption | rfl) ?_) | (refine m_loadR M rfl rfl rfl (by first | rfl | assumption | (simp; done) | (simp; omega)) ?_)))
            | (with_reducible (show wpList _ _ _ (Oper.mk _ (.store _ _ _) _ _ _ _ :: _) _ _); (first | (refine m_storeR M rfl rfl rfl rfl (by first | rfl | assumption | (simp; done) | (simp; omega)) (by first | rfl | assumption | (simp; done) | (simp; omega)) (by first | exact bA_one _ | exact claV_one _ | exact claC_one _ _ _ _) ?_) | (refine m_store (v := Value.int _ _) M rfl rfl rfl rfl rfl (by first | assumption | (simp; done) | (simp; omega)) ?_) | (refine m_store (v := Value.slice _ _ _) M rfl rfl rfl rfl rfl (by first | assumption | (simp; done) | (simp; omega)) ?_) | (refine m_store (v := Value.bool _) M rfl rfl rfl rfl rfl (by first | assumption | (simp; done) | (simp; omega)) ?_) | (refine m_store (v := Value.string _) M rfl rfl rfl rfl rfl (by first | assumption | (simp; done) | (simp; omega)) ?_) | (refine m_store (v := Value.pointer _) M rfl rfl rfl rfl rfl (by first | assumption | (simp; done) | (simp; omega)) ?_)); clear M; (try clear wx); intro wx M; simp only [List.set_cons_zero, List.set_cons_succ, Nat.zero_add, List.nil_append] at M)
            | (with_reducible (show wpList _ _ _ (Oper.mk _ (.build _ _) _ _ _ _ :: _) _ _); refine m_buildZ rfl rfl ?_))
          refine m_retRRS M rfl rfl rfl rfl ?_ ?_ ?_
          · first | exact claV_size _ | (simp [claC_size]; done)
          · simp
          · rw [HE.out]; rfl

end Go.Proofs.Ytmbhaoiahlbglaa

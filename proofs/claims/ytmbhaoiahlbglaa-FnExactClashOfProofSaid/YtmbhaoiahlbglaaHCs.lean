/- The law ClashOfProof. -/
import Derived.Test.YtmbhaoiahlbglaaHCu
namespace Go.Proofs.Ytmbhaoiahlbglaa
open Go.RowKit
set_option linter.unusedVariables false
set_option linter.unusedSimpArgs false

section
variable {P : Program} {ops : Array Oper} {Q : Exit → Act → World → Prop} {o : Oper} {a : Act} {w w0 : World}
theorem stO {i m : Nat} {F : Nat → Value → World → Prop} {G : Act → World → Prop} (hF : ∀ j u w w', j < m → Up w w' → F j u w → F j u w') (hd : o.dst.isSome = true) (ho : ops[i]? = some o) (hg : o.guard = none) (h : St P o a w Q (fun v w' => F i v w' ∧ G (a.put o.dst v) w')) :
    wpOp P ops Q i (fun a' w' => ∃ v, a' = a.put o.dst v ∧ (∀ j u, j < m → F j u w → F j u w') ∧ G (a.put o.dst v) w' ∧ (o.dst.isSome = true → F i v w') ∧ (o.dst.isSome = false → F i undef w')) a w := by
  refine wpOp_some ho hg (Oper.wp_mono (fun a' w' h' => ?_) h)
  obtain ⟨v, h1, h2, h3, h4⟩ := h'
  exact ⟨v, h1, fun j u hj => hF j u w w' hj h2, h4, fun _ => h3, fun e => by rw [hd] at e; cases e⟩
theorem stO_store {p m : Nat} {C : TypeId} {F : Nat → Value → World → Prop} {G : Act → World → Prop} (hF : ∀ j u w g cs cells, j < m → Blk w g C cs → F j u w → F j u (w.setRow g cells)) {g : Nat} {cs cells : Array Value} (hF2 : F p undef (w.setRow g cells)) (hb : Blk w g C cs) (hd : o.dst = none) (hoi : ops[p]? = some o) (hgd : o.guard = none)
    {ty : TypeId} {x y : Operand} {n : Nat} [hT : RowT P ty n] (hx : a.eval x = .pointer (some ⟨g, 0, none⟩)) (hy : a.eval y = .agg cells) (hn : cells.size = n) (hn2 : cs.size = n) (h1 : cells.all (·.oneCell') = true) (hG : G a (w.setRow g cells)) (ho : o.op = .store ty x y := by rfl) :
    wpOp P ops Q p (fun a' w' => ∃ v, a' = a.put o.dst v ∧ (∀ j u, j < m → F j u w → F j u w') ∧ G (a.put o.dst v) w' ∧ (o.dst.isSome = true → F p v w') ∧ (o.dst.isSome = false → F p undef w')) a w := by
  obtain ⟨d, _, _, h3⟩ := hT.out
  refine wpOp_some hoi hgd (wp_store_row ty x y ho g cells hx hy C cs hb (by rw [h3, hn]) (by rw [hn, hn2]) h1 ⟨undef, rfl, fun j u hj => hF j u w g cs cells hj hb, (by rw [hd]; exact hG), (fun e => by rw [hd] at e; cases e), fun _ => hF2⟩)
end
theorem own_setRow {w : World} {B : Nat} {e C : TypeId} {size n g : Nat} {v : Value} {xs : List Value} {cs : Array Value} (hne : C ≠ e) (hb : Blk w g C cs) (cells : Array Value) (h : w.ownsRow B e size v n xs) : (w.setRow g cells).ownsRow B e size v n xs := by
  refine ⟨h.1, ?_⟩
  rcases h.2 with hn | ⟨g', cap, cur, rfl, hB, hg, rest⟩
  · exact .inl hn
  · refine .inr ⟨g', cap, cur, rfl, hB, ?_, rest⟩
    have hgg : g' ≠ g := fun e' => by
      subst e'
      have : w.heap[g']? = some (.cells cs C (0, 0)) := hb
      rw [hg] at this
      injection this with this
      injection this with _ h2
      exact hne h2.symm
    have M := (Mem.start w).up
    have hk := (grown_setRow (w := w) g cells).block g' (Array.getElem?_eq_some_iff.1 hg).1 (fun e' => hgg (by injection e' with e'; try exact e'.symm))
    rw [hk]
    exact hg
theorem ownR_base {w0 w w' : World} {e : TypeId} {size n : Nat} {v : Value} {xs : List Value} (h : OwnR w w' e size v n xs) (hle : w0.heap.size ≤ w.heap.size) : w'.ownsRow w0.heap.size e size v n xs := by
  obtain ⟨b, cap, rfl, ho⟩ := h
  refine ⟨ho.1, ?_⟩
  rcases ho.2 with h2 | ⟨g, cap', cur, hv, hg, r⟩
  · exact .inl h2
  · exact .inr ⟨g, cap', cur, hv, Nat.le_trans hle hg, r⟩
theorem own_rdK {w : World} {B : Nat} {e : TypeId} {v : Value} {n : Nat} {ks : List Ky} (h : w.ownsRow B e 32 v n (kyL ks)) : Rd w 32 v n (kyL ks) := by
  have h' := h
  rcases h.2 with ⟨rfl, rfl⟩ | ⟨g, cap, cur, rfl, _⟩
  · exact own_rd h' (kyL_one ks)
  · exact own_rd h' (kyL_one ks)
/-- A block that is made (s1), then written (s2); its address lies in a slot. -/
def One (w0 : World) (ML : List It) (t : TypeId) (c0 c1 : Array Value) (s1 s2 : Bool) (v : Value) (w : World) : Prop :=
  match s1, s2 with
  | false, _ => Mem w0 w ML
  | true, false => ∃ g, v = .pointer (some ⟨g, 0, none⟩) ∧ Mem w0 w (.blk g t c0 :: ML)
  | true, true => ∃ g, v = .pointer (some ⟨g, 0, none⟩) ∧ Mem w0 w (.blk g t c1 :: ML)
section
variable {w0 w w' : World} {ML : List It} {t : TypeId} {c0 c1 : Array Value} {s1 s2 : Bool} {v : Value}
theorem One.ml (h : One w0 ML t c0 c1 s1 s2 v w) : Mem w0 w ML := by
  cases s1
  · exact h
  · cases s2
    · obtain ⟨_, _, M⟩ := h; exact M.tail
    · obtain ⟨_, _, M⟩ := h; exact M.tail
theorem One.up_ (h : One w0 ML t c0 c1 s1 s2 v w) : Up w0 w := h.ml.up
theorem One.le_ (h : One w0 ML t c0 c1 s1 s2 v w) : w0.heap.size ≤ w.heap.size := h.ml.le
theorem One.grow (h : One w0 ML t c0 c1 s1 s2 v w) (hb : Up w w') : One w0 ML t c0 c1 s1 s2 v w' := by
  cases s1
  · exact Mem.grow h hb
  · cases s2
    · obtain ⟨g, e, M⟩ := h; exact ⟨g, e, M.grow hb⟩
    · obtain ⟨g, e, M⟩ := h; exact ⟨g, e, M.grow hb⟩
theorem One.keep {a : Act} {k d : Nat} (h : One w0 ML t c0 c1 s1 s2 (a.tmps.getD k undef) w) (hd : d ≠ k) (x : Value) : One w0 ML t c0 c1 s1 s2 ((a.put (some d) x).tmps.getD k undef) w := by rw [put_ne hd]; exact h
theorem st_newOne {P : Program} {Q : Exit → Act → World → Prop} {o : Oper} {a : Act} {k : Nat} (h : One w0 ML t c0 c1 s1 s2 (a.tmps.getD k undef) w) (hs : s1 = false) (ho : o.op = .alloc t) [hz : ZeroT P t c0] (hd : o.dst = some k) (hk : k < a.tmps.size) (h2 : s2 = false) :
    St P o a w Q (fun v w' => True ∧ One w0 ML t c0 c1 true s2 ((a.put o.dst v).tmps.getD k undef) w') := by
  unfold St Oper.wp
  rw [run_alloc_ ho hz.out]
  refine ⟨_, rfl, (Below.refl _ _).alloc (Nat.le_refl _) _, trivial, ?_⟩
  rw [hd, put_eq hk]
  subst hs h2
  exact ⟨_, rfl, Mem.alloc_ h t c0⟩
end

set_option maxHeartbeats 4000000 in
set_option maxRecDepth 100000 in
theorem lawCOP_c (va : Value) (i : Int) (lf : Ky) (vb : Value) (ks ps : List Ky) (w : World) (hva : Rd w 32 va ks.length (kyL ks)) (hvb : Rd w 32 vb ps.length (kyL ps)) : Calls Try.prog 6 #[va, .int .i64 i, .agg (bA lf.1), vb] w fun e w' => e = .returned (.bool true) ∧ Up w w' := by
  obtain ⟨n, hn⟩ : ∃ n, ks.length = n := ⟨_, rfl⟩
  obtain ⟨m, hm⟩ : ∃ m, ps.length = m := ⟨_, rfl⟩
  rw [hn] at hva
  rw [hm] at hvb
  obtain ⟨b1, cap1, rfl⟩ := hva.shape
  obtain ⟨b2, cap2, rfl⟩ := hvb.shape
  have hnl : n ≤ maxLen := by have := hva.len_; omega
  have hml : m ≤ maxLen := by have := hvb.len_; omega
  have HVA := Lib.hid hva
  have HVB := Lib.hid hvb
  have HN := Lib.hid (And.intro hn hm)
  have hmm : maxLen ≤ 9223372036854775807 := by decide
  have hnl' : n ≤ 9223372036854775807 := by omega
  have hml' : m ≤ 9223372036854775807 := by omega
  clear hva hvb hn hm hmm
  have M := Mem.start w
  by_cases hbig : (1048576 : Int) - n < 0
  · have HZ1 : Hid (∀ w, Ret Try.prog 13 #[.slice b1 n cap1, .int .i64 1048576] w fun r _ => r = .int .i64 (-1)) := Lib.hid (fun w => by have := szKeyS_l b1 n cap1 1048576 (by omega) (by omega) hnl w; rwa [if_pos hbig] at this)
    go_enter Try.func6, Try.ntmps6
    go_wp2_with (first
      | (go_at_call 13; (with_reducible refine mem_call M (HZ1.out _) ?_); clear M; (try clear wx); rintro _ wx rfl _ M)
      | (with_reducible (show wpList _ _ _ (Oper.mk (some 6) (.box _ _) _ _ _ _ :: _) _ _); (first | (refine m_boxA M rfl rfl rfl ?_) | (refine m_box1 (v := Value.int _ _) M rfl rfl rfl rfl ?_) | (refine m_box1 (v := Value.slice _ _ _) M rfl rfl rfl rfl ?_) | (refine m_box1 (v := Value.bool _) M rfl rfl rfl rfl ?_) | (refine m_box1 (v := Value.string _) M rfl rfl rfl rfl ?_) | (refine m_box1 (v := Value.pointer _) M rfl rfl rfl rfl ?_)); clear M; (try clear wx); intro g6 wx M)
      | (with_reducible (show wpList _ _ _ (Oper.mk (some 10) (.alloc _) _ _ _ _ :: _) _ _); refine mem_new M rfl rfl ?_; clear M; (try clear wx); intro g10 wx M)
      | (with_reducible (show wpList _ _ _ (Oper.mk (some 14) (.alloc _) _ _ _ _ :: _) _ _); refine mem_new M rfl rfl ?_; clear M; (try clear wx); intro g14 wx M)
      | (with_reducible (show wpList _ _ _ (Oper.mk _ (.load _ _) _ _ _ _ :: _) _ _); (first | (refine m_load M rfl rfl rfl (by first | assumption | rfl) ?_) | (refine m_loadR M rfl rfl rfl (by first | rfl | assumption | (simp; done) | (simp; omega)) ?_)))
      | (with_reducible (show wpList _ _ _ (Oper.mk _ (.store _ _ _) _ _ _ _ :: _) _ _); (first | (refine m_storeR M rfl rfl rfl rfl (by first | rfl | assumption | (simp; done) | (simp; omega)) (by first | rfl | assumption | (simp; done) | (simp; omega)) (by first | exact bA_one _ | exact wA_one _ | assumption | (simp [Value.oneCell']; done)) ?_) | (refine m_store (v := Value.int _ _) M rfl rfl rfl rfl rfl (by first | assumption | (simp; done) | (simp; omega)) ?_) | (refine m_store (v := Value.slice _ _ _) M rfl rfl rfl rfl rfl (by first | assumption | (simp; done) | (simp; omega)) ?_) | (refine m_store (v := Value.bool _) M rfl rfl rfl rfl rfl (by first | assumption | (simp; done) | (simp; omega)) ?_) | (refine m_store (v := Value.string _) M rfl rfl rfl rfl rfl (by first | assumption | (simp; done) | (simp; omega)) ?_) | (refine m_store (v := Value.pointer _) M rfl rfl rfl rfl rfl (by first | assumption | (simp; done) | (simp; omega)) ?_)); clear M; (try clear wx); intro wx M; simp only [List.set_cons_zero, List.set_cons_succ, Nat.zero_add, List.nil_append] at M))
    go_ret
    exact ⟨rfl, M.up⟩
  have hl : n ≤ 1048576 := by omega
  obtain ⟨l1, hl1⟩ : ∃ l1 : Int, l1 = 1048576 - n := ⟨_, rfl⟩
  have HZ1 : Hid (∀ w, Ret Try.prog 13 #[.slice b1 n cap1, .int .i64 1048576] w fun r _ => r = .int .i64 l1) := Lib.hid (fun w => by have := szKeyS_l b1 n cap1 1048576 (by omega) (by omega) hnl w; rw [if_neg hbig] at this; rw [hl1]; exact this)
  have HZ2 := Lib.hid (fun w => szKeyS_l b2 m cap2 l1 (by omega) (by omega) hml w)
  have h1p : 0 ≤ l1 := by omega
  by_cases hbig2 : l1 - m < 0
  · rw [if_pos hbig2] at HZ2
    clear hl1 hbig
    go_enter Try.func6, Try.ntmps6
    go_wp2_with (first
      | (go_at_call 13; (with_reducible refine mem_call M (HZ1.out _) ?_); clear M; (try clear wx); rintro _ wx rfl _ M)
      | (go_at_call 13; (with_reducible refine mem_call M (HZ2.out _) ?_); clear M; (try clear wx); rintro _ wx rfl _ M)
      | (with_reducible (show wpList _ _ _ (Oper.mk (some 6) (.box _ _) _ _ _ _ :: _) _ _); (first | (refine m_boxA M rfl rfl rfl ?_) | (refine m_box1 (v := Value.int _ _) M rfl rfl rfl rfl ?_) | (refine m_box1 (v := Value.slice _ _ _) M rfl rfl rfl rfl ?_) | (refine m_box1 (v := Value.bool _) M rfl rfl rfl rfl ?_) | (refine m_box1 (v := Value.string _) M rfl rfl rfl rfl ?_) | (refine m_box1 (v := Value.pointer _) M rfl rfl rfl rfl ?_)); clear M; (try clear wx); intro g6 wx M)
      | (with_reducible (show wpList _ _ _ (Oper.mk (some 10) (.alloc _) _ _ _ _ :: _) _ _); refine mem_new M rfl rfl ?_; clear M; (try clear wx); intro g10 wx M)
      | (with_reducible (show wpList _ _ _ (Oper.mk (some 14) (.alloc _) _ _ _ _ :: _) _ _); refine mem_new M rfl rfl ?_; clear M; (try clear wx); intro g14 wx M)
      | (with_reducible (show wpList _ _ _ (Oper.mk _ (.load _ _) _ _ _ _ :: _) _ _); (first | (refine m_load M rfl rfl rfl (by first | assumption | rfl) ?_) | (refine m_loadR M rfl rfl rfl (by first | rfl | assumption | (simp; done) | (simp; omega)) ?_)))
      | (with_reducible (show wpList _ _ _ (Oper.mk _ (.store _ _ _) _ _ _ _ :: _) _ _); (first | (refine m_storeR M rfl rfl rfl rfl (by first | rfl | assumption | (simp; done) | (simp; omega)) (by first | rfl | assumption | (simp; done) | (simp; omega)) (by first | exact bA_one _ | exact wA_one _ | assumption | (simp [Value.oneCell']; done)) ?_) | (refine m_store (v := Value.int _ _) M rfl rfl rfl rfl rfl (by first | assumption | (simp; done) | (simp; omega)) ?_) | (refine m_store (v := Value.slice _ _ _) M rfl rfl rfl rfl rfl (by first | assumption | (simp; done) | (simp; omega)) ?_) | (refine m_store (v := Value.bool _) M rfl rfl rfl rfl rfl (by first | assumption | (simp; done) | (simp; omega)) ?_) | (refine m_store (v := Value.string _) M rfl rfl rfl rfl rfl (by first | assumption | (simp; done) | (simp; omega)) ?_) | (refine m_store (v := Value.pointer _) M rfl rfl rfl rfl rfl (by first | assumption | (simp; done) | (simp; omega)) ?_)); clear M; (try clear wx); intro wx M; simp only [List.set_cons_zero, List.set_cons_succ, Nat.zero_add, List.nil_append] at M))
    go_ret
    exact ⟨rfl, M.up⟩
  have hl2 : m ≤ 1048576 := by omega
  rw [if_neg hbig2] at HZ2
  obtain ⟨l2, hl2'⟩ : ∃ l2 : Int, l2 = l1 - m := ⟨_, rfl⟩
  rw [← hl2'] at HZ2
  have h2p : 0 ≤ l2 := by omega
  clear hl1 hbig hl2' hbig2
  have HT1 : Hid (∀ w, Rd w 32 (.slice b1 n cap1) n (kyL ks) → Ret Try.prog 15 #[.slice b1 n cap1] w fun r w' => OwnR w w' 25 32 r n (kyL ks)) := Lib.hid (fun w h => toKeyS_c _ n ks HN.out.1 w h hl)
  have HT2 : Hid (∀ w, Rd w 32 (.slice b2 m cap2) m (kyL ps) → Ret Try.prog 15 #[.slice b2 m cap2] w fun r w' => OwnR w w' 25 32 r m (kyL ps)) := Lib.hid (fun w h => toKeyS_c _ m ps HN.out.2 w h hl2)
  have HS : Hid (∀ va vb w, Rd w 32 va n (kyL ks) → Rd w 32 vb m (kyL ps) → Ret Try.prog 26 #[va, .int .i64 i, .agg (bA lf.1), vb] w fun r _ => r = .tuple #[.agg (claV (cqT ks i lf ps).1), .int .i64 (cqT ks i lf ps).2]) := Lib.hid (fun va vb w h h' => specCOP_c i lf va vb n m ks ps HN.out.1 HN.out.2 w h h' hl hl2)
  have HI : Hid (∀ va vb w, Rd w 32 va n (kyL ks) → Rd w 32 vb m (kyL ps) → Ret Try.prog 28 #[va, .int .i64 i, .agg (bA lf.1), vb] w fun r _ => r = .tuple #[.agg (claV (cqT ks i lf ps).1), .int .i64 (cqT ks i lf ps).2]) := Lib.hid (fun va vb w h h' => implCOP_c i lf va vb n m ks ps HN.out.1 HN.out.2 w h h' hl hl2)
  generalize cqT ks i lf ps = c at *
  obtain ⟨c, q⟩ := c
  go_enter Try.func6, Try.ntmps6
  go_wp2_with (first
    | (go_at_call 13; (with_reducible refine mem_call M (HZ1.out _) ?_); clear M; (try clear wx); rintro _ wx rfl _ M)
    | (go_at_call 13; (with_reducible refine mem_call M (HZ2.out _) ?_); clear M; (try clear wx); rintro _ wx rfl _ M)
    | (with_reducible (show wpList _ _ _ (Oper.mk (some 6) (.box _ _) _ _ _ _ :: _) _ _); (first | (refine m_boxA M rfl rfl rfl ?_) | (refine m_box1 (v := Value.int _ _) M rfl rfl rfl rfl ?_) | (refine m_box1 (v := Value.slice _ _ _) M rfl rfl rfl rfl ?_) | (refine m_box1 (v := Value.bool _) M rfl rfl rfl rfl ?_) | (refine m_box1 (v := Value.string _) M rfl rfl rfl rfl ?_) | (refine m_box1 (v := Value.pointer _) M rfl rfl rfl rfl ?_)); clear M; (try clear wx); intro g6 wx M)
    | (with_reducible (show wpList _ _ _ (Oper.mk (some 10) (.alloc _) _ _ _ _ :: _) _ _); refine mem_new M rfl rfl ?_; clear M; (try clear wx); intro g10 wx M)
    | (with_reducible (show wpList _ _ _ (Oper.mk (some 14) (.alloc _) _ _ _ _ :: _) _ _); refine mem_new M rfl rfl ?_; clear M; (try clear wx); intro g14 wx M)
    | (with_reducible (show wpList _ _ _ (Oper.mk _ (.load _ _) _ _ _ _ :: _) _ _); (first | (refine m_load M rfl rfl rfl (by first | assumption | rfl) ?_) | (refine m_loadR M rfl rfl rfl (by first | rfl | assumption | (simp; done) | (simp; omega)) ?_)))
    | (with_reducible (show wpList _ _ _ (Oper.mk _ (.store _ _ _) _ _ _ _ :: _) _ _); (first | (refine m_storeR M rfl rfl rfl rfl (by first | rfl | assumption | (simp; done) | (simp; omega)) (by first | rfl | assumption | (simp; done) | (simp; omega)) (by first | exact bA_one _ | exact wA_one _ | assumption | (simp [Value.oneCell']; done)) ?_) | (refine m_store (v := Value.int _ _) M rfl rfl rfl rfl rfl (by first | assumption | (simp; done) | (simp; omega)) ?_) | (refine m_store (v := Value.slice _ _ _) M rfl rfl rfl rfl rfl (by first | assumption | (simp; done) | (simp; omega)) ?_) | (refine m_store (v := Value.bool _) M rfl rfl rfl rfl rfl (by first | assumption | (simp; done) | (simp; omega)) ?_) | (refine m_store (v := Value.string _) M rfl rfl rfl rfl rfl (by first | assumption | (simp; done) | (simp; omega)) ?_) | (refine m_store (v := Value.pointer _) M rfl rfl rfl rfl rfl (by first | assumption | (simp; done) | (simp; omega)) ?_)); clear M; (try clear wx); intro wx M; simp only [List.set_cons_zero, List.set_cons_succ, Nat.zero_add, List.nil_append] at M))
  have hF1 : ∀ (j : Nat) (u : Value) (wa wb : World), j < 13 → Up wa wb → (fun (j : Nat) (v : Value) (wx : World) => (match j with | 0 => (fun v _ => v = .slice b1 n cap1) v wx | 1 => (fun v wx => wx.ownsRow w.heap.size 25 32 v n (kyL ks)) v wx | 2 => (fun v _ => v = .int .i64 i) v wx | 3 => (fun v _ => v = .agg (bA lf.1)) v wx | 4 => (fun v _ => v = .agg (bA lf.1)) v wx | 5 => (fun v _ => v = .slice b2 m cap2) v wx | 6 => (fun v wx => wx.ownsRow w.heap.size 25 32 v m (kyL ps)) v wx | 7 => (fun v _ => v = .tuple #[.agg (claV c), .int .i64 q]) v wx | 8 => (fun v _ => v = .tuple #[.agg (claV c), .int .i64 q]) v wx | 9 => (fun v _ => v = .agg (claV c)) v wx | 10 => (fun v _ => v = .int .i64 q) v wx | 11 => (fun _ _ => True) v wx | 12 => (fun _ _ => True) v wx | _ => True)) j u wa → (fun (j : Nat) (v : Value) (wx : World) => (match j with | 0 => (fun v _ => v = .slice b1 n cap1) v wx | 1 => (fun v wx => wx.ownsRow w.heap.size 25 32 v n (kyL ks)) v wx | 2 => (fun v _ => v = .int .i64 i) v wx | 3 => (fun v _ => v = .agg (bA lf.1)) v wx | 4 => (fun v _ => v = .agg (bA lf.1)) v wx | 5 => (fun v _ => v = .slice b2 m cap2) v wx | 6 => (fun v wx => wx.ownsRow w.heap.size 25 32 v m (kyL ps)) v wx | 7 => (fun v _ => v = .tuple #[.agg (claV c), .int .i64 q]) v wx | 8 => (fun v _ => v = .tuple #[.agg (claV c), .int .i64 q]) v wx | 9 => (fun v _ => v = .agg (claV c)) v wx | 10 => (fun v _ => v = .int .i64 q) v wx | 11 => (fun _ _ => True) v wx | 12 => (fun _ _ => True) v wx | _ => True)) j u wb := by
    intro j u wa wb hj hb h
    match j, hj with
    | 0, _ => exact h
    | 1, _ => exact own_kept h (Chg.of_up hb (fun _ => False)) (fun _ _ h => h)
    | 2, _ => exact h
    | 3, _ => exact h
    | 4, _ => exact h
    | 5, _ => exact h
    | 6, _ => exact own_kept h (Chg.of_up hb (fun _ => False)) (fun _ _ h => h)
    | 7, _ => exact h
    | 8, _ => exact h
    | 9, _ => exact h
    | 10, _ => exact h
    | 11, _ => exact h
    | 12, _ => exact h
  have hF2 : ∀ (j : Nat) (u : Value) (wa : World) (g : Nat) (cs cells : Array Value), j < 13 → Blk wa g 27 cs → (fun (j : Nat) (v : Value) (wx : World) => (match j with | 0 => (fun v _ => v = .slice b1 n cap1) v wx | 1 => (fun v wx => wx.ownsRow w.heap.size 25 32 v n (kyL ks)) v wx | 2 => (fun v _ => v = .int .i64 i) v wx | 3 => (fun v _ => v = .agg (bA lf.1)) v wx | 4 => (fun v _ => v = .agg (bA lf.1)) v wx | 5 => (fun v _ => v = .slice b2 m cap2) v wx | 6 => (fun v wx => wx.ownsRow w.heap.size 25 32 v m (kyL ps)) v wx | 7 => (fun v _ => v = .tuple #[.agg (claV c), .int .i64 q]) v wx | 8 => (fun v _ => v = .tuple #[.agg (claV c), .int .i64 q]) v wx | 9 => (fun v _ => v = .agg (claV c)) v wx | 10 => (fun v _ => v = .int .i64 q) v wx | 11 => (fun _ _ => True) v wx | 12 => (fun _ _ => True) v wx | _ => True)) j u wa → (fun (j : Nat) (v : Value) (wx : World) => (match j with | 0 => (fun v _ => v = .slice b1 n cap1) v wx | 1 => (fun v wx => wx.ownsRow w.heap.size 25 32 v n (kyL ks)) v wx | 2 => (fun v _ => v = .int .i64 i) v wx | 3 => (fun v _ => v = .agg (bA lf.1)) v wx | 4 => (fun v _ => v = .agg (bA lf.1)) v wx | 5 => (fun v _ => v = .slice b2 m cap2) v wx | 6 => (fun v wx => wx.ownsRow w.heap.size 25 32 v m (kyL ps)) v wx | 7 => (fun v _ => v = .tuple #[.agg (claV c), .int .i64 q]) v wx | 8 => (fun v _ => v = .tuple #[.agg (claV c), .int .i64 q]) v wx | 9 => (fun v _ => v = .agg (claV c)) v wx | 10 => (fun v _ => v = .int .i64 q) v wx | 11 => (fun _ _ => True) v wx | 12 => (fun _ _ => True) v wx | _ => True)) j u (wa.setRow g cells) := by
    intro j u wa g cs cells hj hb h
    match j, hj with
    | 0, _ => exact h
    | 1, _ => exact own_setRow (by decide) hb cells h
    | 2, _ => exact h
    | 3, _ => exact h
    | 4, _ => exact h
    | 5, _ => exact h
    | 6, _ => exact own_setRow (by decide) hb cells h
    | 7, _ => exact h
    | 8, _ => exact h
    | 9, _ => exact h
    | 10, _ => exact h
    | 11, _ => exact h
    | 12, _ => exact h
  refine region_monoA (m := 13) mixedOrders_ (by kernel_rfl) (by kernel_rfl)
    (fun (j : Nat) (v : Value) (wx : World) => (match j with | 0 => (fun v _ => v = .slice b1 n cap1) v wx | 1 => (fun v wx => wx.ownsRow w.heap.size 25 32 v n (kyL ks)) v wx | 2 => (fun v _ => v = .int .i64 i) v wx | 3 => (fun v _ => v = .agg (bA lf.1)) v wx | 4 => (fun v _ => v = .agg (bA lf.1)) v wx | 5 => (fun v _ => v = .slice b2 m cap2) v wx | 6 => (fun v wx => wx.ownsRow w.heap.size 25 32 v m (kyL ps)) v wx | 7 => (fun v _ => v = .tuple #[.agg (claV c), .int .i64 q]) v wx | 8 => (fun v _ => v = .tuple #[.agg (claV c), .int .i64 q]) v wx | 9 => (fun v _ => v = .agg (claV c)) v wx | 10 => (fun v _ => v = .int .i64 q) v wx | 11 => (fun _ _ => True) v wx | 12 => (fun _ _ => True) v wx | _ => True))
    (fun s av wx => One w [.blk g6 24 (bA lf.1)] 27 (claC zeroKy.1 zeroKy.1 zeroKy.1 zeroKy.1) (claV c) (s 11) (s 12) (av.tmps.getD 10 undef) wx) ?_ ?_ ?_
  · exact M.grow ((Up.refl _).drew)
  · rintro i o hi ho av wv s fr gT hs cl dep
    have hsz : av.tmps.size = 69 := fr.size
    match i, hi with
    | 0, _ =>
      obtain rfl := Option.some.inj ho
      exact stO (G := fun av wx => One w [.blk g6 24 (bA lf.1)] 27 (claC zeroKy.1 zeroKy.1 zeroKy.1 zeroKy.1) (claV c) (if 11 = 0 then true else s 11) (if 12 = 0 then true else s 12) (av.tmps.getD 10 undef) wx) hF1 rfl rfl rfl (st_mov rfl (fr.eval rfl) ⟨rfl, gT.keep (by decide) _⟩)
    | 1, _ =>
      obtain rfl := Option.some.inj ho
      exact stO (G := fun av wx => One w [.blk g6 24 (bA lf.1)] 27 (claC zeroKy.1 zeroKy.1 zeroKy.1 zeroKy.1) (claV c) (if 11 = 1 then true else s 11) (if 12 = 1 then true else s 12) (av.tmps.getD 10 undef) wx) hF1 rfl rfl rfl (st_ret1 rfl (fun _ _ => by kernel_rfl) (dep ⟨0, .data⟩ (by simp) rfl).2 (HT1.out _ (HVA.out.up gT.up_)) (fun r w' h hb => ⟨ownR_base h gT.le_, (gT.grow hb).keep (by decide) _⟩))
    | 2, _ =>
      obtain rfl := Option.some.inj ho
      exact stO (G := fun av wx => One w [.blk g6 24 (bA lf.1)] 27 (claC zeroKy.1 zeroKy.1 zeroKy.1 zeroKy.1) (claV c) (if 11 = 2 then true else s 11) (if 12 = 2 then true else s 12) (av.tmps.getD 10 undef) wx) hF1 rfl rfl rfl (st_mov rfl (fr.eval rfl) ⟨rfl, gT.keep (by decide) _⟩)
    | 3, _ =>
      obtain rfl := Option.some.inj ho
      exact stO (G := fun av wx => One w [.blk g6 24 (bA lf.1)] 27 (claC zeroKy.1 zeroKy.1 zeroKy.1 zeroKy.1) (claV c) (if 11 = 3 then true else s 11) (if 12 = 3 then true else s 12) (av.tmps.getD 10 undef) wx) hF1 rfl rfl rfl (st_loadG gT.ml rfl (fr.eval rfl) (by first | rfl | assumption | (simp; done) | (simp; omega)) ⟨rfl, gT.keep (by decide) _⟩)
    | 4, _ =>
      obtain rfl := Option.some.inj ho
      exact stO (G := fun av wx => One w [.blk g6 24 (bA lf.1)] 27 (claC zeroKy.1 zeroKy.1 zeroKy.1 zeroKy.1) (claV c) (if 11 = 4 then true else s 11) (if 12 = 4 then true else s 12) (av.tmps.getD 10 undef) wx) hF1 rfl rfl rfl (st_ret1 rfl (fun _ _ => by kernel_rfl) (dep ⟨3, .data⟩ (by simp) rfl).2 (toKey_r lf _) (fun r w' h hb => ⟨h, (gT.grow hb).keep (by decide) _⟩))
    | 5, _ =>
      obtain rfl := Option.some.inj ho
      exact stO (G := fun av wx => One w [.blk g6 24 (bA lf.1)] 27 (claC zeroKy.1 zeroKy.1 zeroKy.1 zeroKy.1) (claV c) (if 11 = 5 then true else s 11) (if 12 = 5 then true else s 12) (av.tmps.getD 10 undef) wx) hF1 rfl rfl rfl (st_mov rfl (fr.eval rfl) ⟨rfl, gT.keep (by decide) _⟩)
    | 6, _ =>
      obtain rfl := Option.some.inj ho
      exact stO (G := fun av wx => One w [.blk g6 24 (bA lf.1)] 27 (claC zeroKy.1 zeroKy.1 zeroKy.1 zeroKy.1) (claV c) (if 11 = 6 then true else s 11) (if 12 = 6 then true else s 12) (av.tmps.getD 10 undef) wx) hF1 rfl rfl rfl (st_ret1 rfl (fun _ _ => by kernel_rfl) (dep ⟨5, .data⟩ (by simp) rfl).2 (HT2.out _ (HVB.out.up gT.up_)) (fun r w' h hb => ⟨ownR_base h gT.le_, (gT.grow hb).keep (by decide) _⟩))
    | 7, _ =>
      obtain rfl := Option.some.inj ho
      have D1 : wv.ownsRow w.heap.size 25 32 _ n (kyL ks) := (dep ⟨1, .data⟩ (by simp) rfl).2
      have D6 : wv.ownsRow w.heap.size 25 32 _ m (kyL ps) := (dep ⟨6, .data⟩ (by simp) rfl).2
      exact stO (G := fun av wx => One w [.blk g6 24 (bA lf.1)] 27 (claC zeroKy.1 zeroKy.1 zeroKy.1 zeroKy.1) (claV c) (if 11 = 7 then true else s 11) (if 12 = 7 then true else s 12) (av.tmps.getD 10 undef) wx) hF1 rfl rfl rfl (st_ret4 rfl (fun _ _ => by kernel_rfl) rfl (dep ⟨2, .data⟩ (by simp) rfl).2 (dep ⟨4, .data⟩ (by simp) rfl).2 rfl (HS.out _ _ _ (own_rdK D1) (own_rdK D6)) (fun r w' h hb => ⟨h, (gT.grow hb).keep (by decide) _⟩))
    | 8, _ =>
      obtain rfl := Option.some.inj ho
      exact stO (G := fun av wx => One w [.blk g6 24 (bA lf.1)] 27 (claC zeroKy.1 zeroKy.1 zeroKy.1 zeroKy.1) (claV c) (if 11 = 8 then true else s 11) (if 12 = 8 then true else s 12) (av.tmps.getD 10 undef) wx) hF1 rfl rfl rfl (st_mov rfl (dep ⟨7, .data⟩ (by simp) rfl).2 ⟨rfl, gT.keep (by decide) _⟩)
    | 9, _ =>
      obtain rfl := Option.some.inj ho
      exact stO (G := fun av wx => One w [.blk g6 24 (bA lf.1)] 27 (claC zeroKy.1 zeroKy.1 zeroKy.1 zeroKy.1) (claV c) (if 11 = 9 then true else s 11) (if 12 = 9 then true else s 12) (av.tmps.getD 10 undef) wx) hF1 rfl rfl rfl (st_ext0 rfl (dep ⟨8, .data⟩ (by simp) rfl).2 ⟨rfl, gT.keep (by decide) _⟩)
    | 10, _ =>
      obtain rfl := Option.some.inj ho
      exact stO (G := fun av wx => One w [.blk g6 24 (bA lf.1)] 27 (claC zeroKy.1 zeroKy.1 zeroKy.1 zeroKy.1) (claV c) (if 11 = 10 then true else s 11) (if 12 = 10 then true else s 12) (av.tmps.getD 10 undef) wx) hF1 rfl rfl rfl (st_ext1 rfl (dep ⟨8, .data⟩ (by simp) rfl).2 ⟨rfl, gT.keep (by decide) _⟩)
    | 11, _ =>
      obtain rfl := Option.some.inj ho
      have hs12 : s 12 = false := by
        rcases Bool.eq_false_or_eq_true (s 12) with h | h
        · have h' := cl 12 _ h rfl ⟨11, .data⟩ (by first | (simp; done) | decide) rfl
          rw [hs] at h'; cases h'
        · exact h
      exact stO (G := fun av wx => One w [.blk g6 24 (bA lf.1)] 27 (claC zeroKy.1 zeroKy.1 zeroKy.1 zeroKy.1) (claV c) (if 11 = 11 then true else s 11) (if 12 = 11 then true else s 12) (av.tmps.getD 10 undef) wx) hF1 rfl rfl rfl (st_newOne gT hs rfl rfl (by rw [hsz]; decide) hs12)
    | 12, _ =>
      obtain rfl := Option.some.inj ho
      have h11 : s 11 = true := (dep ⟨11, .data⟩ (by simp) rfl).1
      have DV : av.eval (.tmp 35) = Value.agg (claV c) := (dep ⟨9, .data⟩ (by simp) rfl).2
      rw [h11, show s 12 = false from hs] at gT
      obtain ⟨g, eg, M⟩ := gT
      refine stO_store (G := fun av wx => One w [.blk g6 24 (bA lf.1)] 27 (claC zeroKy.1 zeroKy.1 zeroKy.1 zeroKy.1) (claV c) (if 11 = 12 then true else s 11) (if 12 = 12 then true else s 12) (av.tmps.getD 10 undef) wx) hF2 trivial (M.blkG g) rfl rfl rfl (show av.eval (.tmp 10) = _ from eg) DV (claV_size c) (by first | rfl | (simp [claC_size]; done)) (claV_one _) ?_
      have h11' : (if 11 = 12 then true else s 11) = true := h11
      show One w [.blk g6 24 (bA lf.1)] 27 (claC zeroKy.1 zeroKy.1 zeroKy.1 zeroKy.1) (claV c) (if 11 = 12 then true else s 11) true (av.tmps.getD 10 undef) _
      rw [h11']
      exact ⟨g, eg, M.setRow_ (p := 0) rfl (claV c)⟩
    | n + 13, h' => exact absurd h' (by omega)
  · rintro vs wv s hall gT hf
    rw [hall 11 (by omega), hall 12 (by omega)] at gT
    obtain ⟨g10, e10, M⟩ := gT
    have f10 : vs 10 = .int .i64 q := hf 10 (by omega)
    clear hF1 hF2 hall
    simp only [putAll, Act.put, List.getElem?_toArray, List.getElem?_cons_zero, List.getElem?_cons_succ, Option.bind_some, List.setIfInBounds_toArray, List.set_cons_zero, List.set_cons_succ, Array.getD_eq_getD_getElem?, Option.getD_some] at e10
    simp only [putAll, Act.put, List.getElem?_toArray, List.getElem?_cons_zero, List.getElem?_cons_succ, Option.bind_some, List.setIfInBounds_toArray, List.set_cons_zero, List.set_cons_succ, List.drop_succ_cons, List.drop_zero, List.drop_nil, f10, e10]
    clear f10 e10 hf
    go_wp2_with (first
      | (go_at_call 15; (first | (with_reducible refine mem_callO M (HT1.out _ (HVA.out.up M.up)) ?_) | (with_reducible refine mem_callO M (HT2.out _ (HVB.out.up M.up)) ?_)); clear M; (try clear wx); intro _ _ wx M)
      | (go_at_call 27; (with_reducible refine mem_call M (toKey_r lf _) ?_); clear M; (try clear wx); rintro _ wx rfl _ M)
      | (go_at_call 28; (with_reducible refine mem_call M (HI.out _ _ _ (M.rdK ks) (M.rdK ps)) ?_); clear M; (try clear wx); rintro _ wx rfl _ M)
      | (go_at_call 17; (with_reducible refine mem_call M (eqClash_r _ _) ?_); clear M; (try clear wx); rintro _ wx rfl _ M)
      | (go_at_call 18; (first | (with_reducible refine mem_call M (eqKeyS_same _ _ n ks HN.out.1 _ (by omega) (M.rdK ks) (M.rdK ks)) ?_) | (with_reducible refine mem_call M (eqKeyS_same _ _ m ps HN.out.2 _ (by omega) (M.rdK ps) (M.rdK ps)) ?_)); clear M; (try clear wx); rintro _ wx rfl _ M)
      | (with_reducible (show wpList _ _ _ (Oper.mk (some 6) (.box _ _) _ _ _ _ :: _) _ _); (first | (refine m_boxA M rfl rfl rfl ?_) | (refine m_box1 (v := Value.int _ _) M rfl rfl rfl rfl ?_) | (refine m_box1 (v := Value.slice _ _ _) M rfl rfl rfl rfl ?_) | (refine m_box1 (v := Value.bool _) M rfl rfl rfl rfl ?_) | (refine m_box1 (v := Value.string _) M rfl rfl rfl rfl ?_) | (refine m_box1 (v := Value.pointer _) M rfl rfl rfl rfl ?_)); clear M; (try clear wx); intro g6 wx M)
      | (with_reducible (show wpList _ _ _ (Oper.mk (some 10) (.alloc _) _ _ _ _ :: _) _ _); refine mem_new M rfl rfl ?_; clear M; (try clear wx); intro g10 wx M)
      | (with_reducible (show wpList _ _ _ (Oper.mk (some 14) (.alloc _) _ _ _ _ :: _) _ _); refine mem_new M rfl rfl ?_; clear M; (try clear wx); intro g14 wx M)
      | (with_reducible (show wpList _ _ _ (Oper.mk _ (.load _ _) _ _ _ _ :: _) _ _); (first | (refine m_load M rfl rfl rfl (by first | assumption | rfl) ?_) | (refine m_loadR M rfl rfl rfl (by first | rfl | assumption | (simp; done) | (simp; omega)) ?_)))
      | (with_reducible (show wpList _ _ _ (Oper.mk _ (.store _ _ _) _ _ _ _ :: _) _ _); (first | (refine m_storeR M rfl rfl rfl rfl (by first | rfl | assumption | (simp; done) | (simp; omega)) (by first | rfl | assumption | (simp; done) | (simp; omega)) (by first | exact bA_one _ | exact claV_one _ | exact claC_one _ _ _ _) ?_) | (refine m_store (v := Value.int _ _) M rfl rfl rfl rfl rfl (by first | assumption | (simp; done) | (simp; omega)) ?_) | (refine m_store (v := Value.slice _ _ _) M rfl rfl rfl rfl rfl (by first | assumption | (simp; done) | (simp; omega)) ?_) | (refine m_store (v := Value.bool _) M rfl rfl rfl rfl rfl (by first | assumption | (simp; done) | (simp; omega)) ?_) | (refine m_store (v := Value.string _) M rfl rfl rfl rfl rfl (by first | assumption | (simp; done) | (simp; omega)) ?_) | (refine m_store (v := Value.pointer _) M rfl rfl rfl rfl rfl (by first | assumption | (simp; done) | (simp; omega)) ?_)); clear M; (try clear wx); intro wx M; simp only [List.set_cons_zero, List.set_cons_succ, Nat.zero_add, List.nil_append] at M))
    go_ret
    exact ⟨rfl, M.up⟩

end Go.Proofs.Ytmbhaoiahlbglaa

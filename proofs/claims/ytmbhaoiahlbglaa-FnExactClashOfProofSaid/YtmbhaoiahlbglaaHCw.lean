/- The first clash from the root down: lemmas and plain law. -/
import Derived.Test.YtmbhaoiahlbglaaHCv
namespace Go.Proofs.Ytmbhaoiahlbglaa
open Go.RowKit
set_option linter.unusedVariables false
set_option linter.unusedSimpArgs false

section
variable {P : Program} {ops : Array Oper} {Q : Exit → Act → World → Prop} {o : Oper} {a : Act} {w w0 : World}
/-- A step that lets memory grow only. -/
theorem stT {i m : Nat} {L L' : List It} {F : Nat → Value → World → Prop} (hF : ∀ j u w w', j < m → F j u w → F j u w') (M : Mem w0 w L) (hL' : L = L') (hd : o.dst.isSome = true) (ho : ops[i]? = some o) (hg : o.guard = none) (h : St P o a w Q (F i)) :
    wpOp P ops Q i (fun a' w' => ∃ v, a' = a.put o.dst v ∧ (∀ j u, j < m → F j u w → F j u w') ∧ Mem w0 w' L' ∧ (o.dst.isSome = true → F i v w') ∧ (o.dst.isSome = false → F i undef w')) a w := by
  subst hL'
  refine wpOp_some ho hg (Oper.wp_mono (fun a' w' h' => ?_) h)
  obtain ⟨v, h1, h2, h3⟩ := h'
  exact ⟨v, h1, fun j u hj => hF j u w w' hj, M.grow h2, fun _ => h3, fun e => by rw [hd] at e; cases e⟩
/-- A store over a whole block. -/
theorem stT_storeR {p m : Nat} {L L' : List It} {F : Nat → Value → World → Prop} (hF : ∀ j u w w', j < m → F j u w → F j u w') (hF2 : ∀ v w, F p v w) (M : Mem w0 w L) (hoi : ops[p]? = some o) (hgd : o.guard = none)
    {ty : TypeId} {x y : Operand} (ho : o.op = .store ty x y) {g : Nat} (hx : a.eval x = .pointer (some ⟨g, 0, none⟩)) {cells : Array Value} (hy : a.eval y = .agg cells) {n : Nat} [hT : RowT P ty n]
    {q : Nat} {t : TypeId} {cs : Array Value} [hL : AtG L g q t cs] (hn : cells.size = n) (hn2 : cs.size = n) (h1 : cells.all (·.oneCell') = true) (hL1 : L.set q (.blk g t cells) = L') :
    wpOp P ops Q p (fun a' w' => ∃ v, a' = a.put o.dst v ∧ (∀ j u, j < m → F j u w → F j u w') ∧ Mem w0 w' L' ∧ (o.dst.isSome = true → F p v w') ∧ (o.dst.isSome = false → F p undef w')) a w := by
  obtain ⟨d, _, _, h3⟩ := hT.out
  refine wpOp_some hoi hgd (wp_store_row ty x y ho g cells hx hy t cs (M.at_ hL.out).2 (by rw [h3, hn]) (by rw [hn, hn2]) h1 ⟨undef, rfl, fun j u hj => hF j u _ _ hj, ?_, fun _ => hF2 _ _, fun _ => hF2 _ _⟩)
  rw [← hL1]
  exact M.setRow_ hL.out cells
/-- A store into the middle of a block. -/
theorem stT_storeP {p m : Nat} {L L' : List It} {F : Nat → Value → World → Prop} (hF : ∀ j u w w', j < m → F j u w → F j u w') (hF2 : ∀ v w, F p v w) (M : Mem w0 w L) (hoi : ops[p]? = some o) (hgd : o.guard = none)
    {ty : TypeId} {x y : Operand} (ho : o.op = .store ty x y) {g i : Nat} (hx : a.eval x = .pointer (some ⟨g, i, none⟩)) {cells : Array Value} (hy : a.eval y = .agg cells) {n : Nat} [hT : RowT P ty n]
    {q : Nat} {t : TypeId} {cs : Array Value} [hL : AtG L g q t cs] (hn : cells.size = n) (hn2 : i + n ≤ cs.size) (h1 : cells.all (·.oneCell') = true) (hL1 : L.set q (.blk g t (putC cells.toList i cs)) = L') :
    wpOp P ops Q p (fun a' w' => ∃ v, a' = a.put o.dst v ∧ (∀ j u, j < m → F j u w → F j u w') ∧ Mem w0 w' L' ∧ (o.dst.isSome = true → F p v w') ∧ (o.dst.isSome = false → F p undef w')) a w := by
  obtain ⟨d, _, _, h3⟩ := hT.out
  have hth : w.there g i cells.size := fun j hj => by
    refine ⟨?_, M.frozen_ hL.out _⟩
    rw [Blk.cell_ (M.at_ hL.out).2 (i := i + j) (v := cs[i + j]'(by omega)) (Array.getElem?_eq_getElem (by omega))]
    rfl
  refine wpOp_some hoi hgd (wp_store_mid ty x y ho g i cells hx hy hth (by rw [h3, hn]) h1 ⟨undef, rfl, fun j u hj => hF j u _ _ hj, ?_, fun _ => hF2 _ _, fun _ => hF2 _ _⟩)
  rw [← hL1]
  exact M.setCells_ hL.out i cells.toList
variable {F : Value → World → Prop}
theorem st_x0 {x : Operand} (ho : o.op = .extract x 0) {v0 v1 v2 : Value} (hx : a.eval x = .tuple #[v0, v1, v2]) (hF : F v0 w) : St P o a w Q F := by
  refine st_run (v := v0) ?_ hF
  unfold execOp
  simp only [ho, hx]
  rfl
theorem st_x1 {x : Operand} (ho : o.op = .extract x 1) {v0 v1 v2 : Value} (hx : a.eval x = .tuple #[v0, v1, v2]) (hF : F v1 w) : St P o a w Q F := by
  refine st_run (v := v1) ?_ hF
  unfold execOp
  simp only [ho, hx]
  rfl
theorem st_x2 {x : Operand} (ho : o.op = .extract x 2) {v0 v1 v2 : Value} (hx : a.eval x = .tuple #[v0, v1, v2]) (hF : F v2 w) : St P o a w Q F := by
  refine st_run (v := v2) ?_ hF
  unfold execOp
  simp only [ho, hx]
  rfl
theorem st_slHw {w1 : World} {t : TypeId} {x y : Operand} (ho : o.op = .slice t x none (some y) none) {e : TypeId} [ht : SliceT P t e] {size bytes : Nat} {z : Value} [he : ElT P e size bytes z] {b : Option Addr} {cap n h : Nat} {xs : List Value}
    (hx : a.eval x = .slice b n cap) (hy : a.eval y = .int .i64 (h : Int)) (hr : Rd w1 size (.slice b n cap) n xs) (hh : h ≤ n) (hF : ∀ v, Rd w1 size v h (xs.take (h * size)) → F v w) : St P o a w Q F := by
  have hc := hr.len_
  have hrun := run_slice_ (P := P) ht he b n cap 0 h (Nat.zero_le _) (by omega) none (some (.int .i64 (h : Int))) rfl rfl w
  have hR := hr.slice_ 0 h (Nat.zero_le _) hh
  rw [Nat.zero_mul, List.drop_zero, Nat.sub_zero, Nat.sub_zero] at hR
  refine st_run (v := _) ?_ (hF _ hR)
  unfold execOp
  rw [ho]
  simp only [hx, hy, Option.map_some, Option.map_none]
  rw [Sem.run_bind, hrun, Nat.zero_mul]
  rfl
theorem st_slLw {w1 : World} {t : TypeId} {x y : Operand} (ho : o.op = .slice t x (some y) none none) {e : TypeId} [ht : SliceT P t e] {size bytes : Nat} {z : Value} [he : ElT P e size bytes z] {b : Option Addr} {cap n l : Nat} {xs : List Value}
    (hx : a.eval x = .slice b n cap) (hy : a.eval y = .int .i64 (l : Int)) (hr : Rd w1 size (.slice b n cap) n xs) (hl : l ≤ n) (hF : ∀ v, Rd w1 size v (n - l) (xs.drop (l * size)) → F v w) : St P o a w Q F := by
  have hc := hr.len_
  have hrun := run_slice_ (P := P) ht he b n cap l n hl (by omega) (some (.int .i64 (l : Int))) none rfl rfl w
  have hR := hr.slice_ l n hl (Nat.le_refl _)
  rw [List.take_of_length_le (by rw [List.length_drop, hc.2.2, ← Nat.sub_mul]; exact Nat.le_refl _)] at hR
  refine st_run (v := _) ?_ (hF _ hR)
  unfold execOp
  rw [ho]
  simp only [hx, hy, Option.map_some, Option.map_none]
  rw [Sem.run_bind, hrun]
  rfl
end
theorem results_cct {fn : Func} {p q s : Tmp} {t1 t2 : TypeId} (h : fn.results = #[.cell p t1, .cell q t2, .tmp s]) (tmps : Array Value) (P : Program) (w : World) :
    (results fn tmps).run P w =
      ((asAddr (tmps.getD p undef)).run P w).andThen fun a w₁ => ((loadVar t1 a).run P w₁).andThen fun v w₂ => ((asAddr (tmps.getD q undef)).run P w₂).andThen fun a' w₃ => ((loadVar t2 a').run P w₃).andThen fun v' w₄ => .ok (.tuple #[v, v', tmps.getD s undef]) w₄ := by
  simp only [results, h]
  simp [Sem.run_bind, Result.andThen]
theorem m_retRRS {P : Program} {a : Act} {w0 w : World} {L : List It} {fn : Func} {r u s : Tmp} {ty1 ty2 : TypeId} {R : Value → World → Prop} (M : Mem w0 w L) (hd : a.defers = []) (h : fn.results = #[.cell r ty1, .cell u ty2, .tmp s]) {g1 g2 : Nat} (hp : a.tmps.getD r undef = .pointer (some ⟨g1, 0, none⟩)) (hq : a.tmps.getD u undef = .pointer (some ⟨g2, 0, none⟩)) {n1 n2 : Nat} [hT1 : RowT P ty1 n1] [hT2 : RowT P ty2 n2]
    {p1 p2 : Nat} {t1 t2 : TypeId} {cs1 cs2 : Array Value} [hL1 : AtG L g1 p1 t1 cs1] [hL2 : AtG L g2 p2 t2 cs2] (hn1 : cs1.size = n1) (hn2 : cs2.size = n2) (hR : R (.tuple #[.agg cs1, .agg cs2, a.tmps.getD s undef]) w) :
    bodyPost P fn (fun e w' => ∃ r, e = .returned r ∧ R r w' ∧ Up w0 w') .ret a w := by
  obtain ⟨d1, h1, h2, h3⟩ := hT1.out
  obtain ⟨d2, k1, k2, k3⟩ := hT2.out
  refine bodyPost_ret (v := .tuple #[.agg cs1, .agg cs2, a.tmps.getD s undef]) ?_ hd ⟨_, rfl, hR, M.up⟩
  rw [results_cct h, hp, hq]
  have e1 := run_loadVar_row (P := P) w g1 t1 ty1 cs1 (0, 0) d1 (M.blkG g1) h1 (by cases d1 <;> simp_all) (by rw [h3, hn1])
  have e2 := run_loadVar_row (P := P) w g2 t2 ty2 cs2 (0, 0) d2 (M.blkG g2) k1 (by cases d2 <;> simp_all) (by rw [k3, hn2])
  simp [asAddr, e1, e2, Result.andThen]
theorem cla_setA0 (x a b c d : Ky) : putC (bA x.1).toList 0 (claC a.1 b.1 c.1 d.1) = claC x.1 b.1 c.1 d.1 := cla_set0 x a b c d
theorem cla_setA1 (x a b c d : Ky) : putC (bA x.1).toList 32 (claC a.1 b.1 c.1 d.1) = claC a.1 x.1 c.1 d.1 := cla_set1 x a b c d
theorem cla_setA2 (x a b c d : Ky) : putC (bA x.1).toList 64 (claC a.1 b.1 c.1 d.1) = claC a.1 b.1 x.1 d.1 := cla_set2 x a b c d
theorem cla_setA3 (x a b c d : Ky) : putC (bA x.1).toList 96 (claC a.1 b.1 c.1 d.1) = claC a.1 b.1 c.1 x.1 := cla_set3 x a b c d

/-! From the root down. -/
def shJ (S : Cl × Ky × Bool) (c : Cl) (k : Ky) : Cl × Ky × Bool := if S.2.2 = true then (S.1, k, true) else (c, k, vcB c)
def shF (ks : List Ky) (i : Nat) (lf : Ky) (ps : List Ky) : Cl × Ky × Bool :=
  if h : ks.length ≤ 1 then (zeroCl, lf, false) else
    if i < halfN ks.length then
      shJ (shF (ks.take (halfN ks.length)) i lf (ps.take (ps.length - 1))) (listK (ks.take (halfN ks.length)), listK (ks.drop (halfN ks.length)), (shF (ks.take (halfN ks.length)) i lf (ps.take (ps.length - 1))).2.1, ps.getD (ps.length - 1) zeroKy) (nodeK (shF (ks.take (halfN ks.length)) i lf (ps.take (ps.length - 1))).2.1 (ps.getD (ps.length - 1) zeroKy))
    else shJ (shF (ks.drop (halfN ks.length)) (i - halfN ks.length) lf (ps.take (ps.length - 1))) (listK (ks.take (halfN ks.length)), listK (ks.drop (halfN ks.length)), ps.getD (ps.length - 1) zeroKy, (shF (ks.drop (halfN ks.length)) (i - halfN ks.length) lf (ps.take (ps.length - 1))).2.1) (nodeK (ps.getD (ps.length - 1) zeroKy) (shF (ks.drop (halfN ks.length)) (i - halfN ks.length) lf (ps.take (ps.length - 1))).2.1)
termination_by ks.length
decreasing_by
  all_goals first
    | (rw [List.length_take]; have := halfN_lt ks.length (by omega); omega)
    | (rw [List.length_drop]; have := halfN_pos ks.length; omega)
theorem shF_1 (ks : List Ky) (i : Nat) (lf : Ky) (ps : List Ky) (h : ks.length ≤ 1) : shF ks i lf ps = (zeroCl, lf, false) := by rw [shF, dif_pos h]
theorem shF_lt (ks : List Ky) (i n : Nat) (lf : Ky) (ps : List Ky) (d : Nat) (hn : ks.length = n) (h : 2 ≤ n) (hi : i < halfN n) (hd : d < ps.length) (hp : ps.length = d + 1) (S : Cl × Ky × Bool) (hS : shF (ks.take (halfN n)) i lf (ps.take d) = S) :
    shF ks i lf ps = shJ S (listK (ks.take (halfN n)), listK (ks.drop (halfN n)), S.2.1, ps[d]'hd) (nodeK S.2.1 (ps[d]'hd)) := by
  subst hn
  rw [shF, dif_neg (by omega), if_pos hi, show ps.length - 1 = d by omega, hS, List.getD_eq_getElem?_getD, List.getElem?_eq_getElem hd]
  rfl
theorem shF_ge (ks : List Ky) (i n : Nat) (lf : Ky) (ps : List Ky) (d : Nat) (hn : ks.length = n) (h : 2 ≤ n) (hi : halfN n ≤ i) (hd : d < ps.length) (hp : ps.length = d + 1) (S : Cl × Ky × Bool) (hS : shF (ks.drop (halfN n)) (i - halfN n) lf (ps.take d) = S) :
    shF ks i lf ps = shJ S (listK (ks.take (halfN n)), listK (ks.drop (halfN n)), ps[d]'hd, S.2.1) (nodeK (ps[d]'hd) S.2.1) := by
  subst hn
  rw [shF, dif_neg (by omega), if_neg (by omega), show ps.length - 1 = d by omega, hS, List.getD_eq_getElem?_getD, List.getElem?_eq_getElem hd]
  rfl
theorem or_if_spec {S : Cl × Ky × Bool} {c : Cl} {k : Ky} {x y : Option Cl} (h1 : S.2.2 = x.isSome) (h2 : ∀ e, x = some e → S.1 = e) (hy : y = x.or (if vcB c = true then some c else none)) :
    (shJ S c k).2.1 = k ∧ (shJ S c k).2.2 = y.isSome ∧ ∀ e, y = some e → (shJ S c k).1 = e := by
  subst hy
  unfold shJ
  cases x with
  | some e0 => rw [if_pos (by rw [h1]; rfl)]; exact ⟨rfl, rfl, fun e he => by cases he; exact h2 _ rfl⟩
  | none =>
    rw [if_neg (by rw [h1]; simp)]
    cases hv : vcB c with
    | true => exact ⟨rfl, rfl, fun e he => by cases he; rfl⟩
    | false => exact ⟨rfl, rfl, fun e he => by cases he⟩
theorem shF_is (n : Nat) : ∀ (ks : List Ky) (i : Nat) (lf : Ky) (ps : List Ky), ks.length = n → 1 ≤ n → i < n → ps.length = (sideR n i).length →
    (shF ks i lf ps).2.1 = leadF lf (sideR n i).reverse ps ∧ (shF ks i lf ps).2.2 = (clF (ks.getD i zeroKy) lf (sideR n i).reverse (prfL ks i) ps).isSome ∧ ∀ c, clF (ks.getD i zeroKy) lf (sideR n i).reverse (prfL ks i) ps = some c → (shF ks i lf ps).1 = c := by
  induction n using Nat.strongRecOn with
  | ind n ih =>
  intro ks i lf ps hk h1 hi hp
  by_cases hn1 : n = 1
  · subst hn1
    rw [shF_1 _ _ _ _ (by omega), sideR_one]
    have e1 : ∀ ps, leadF lf [].reverse ps = lf := fun ps => by cases ps <;> rfl
    have e2 : ∀ own os ps, clF own lf [].reverse os ps = none := fun own os ps => by cases os <;> cases ps <;> rfl
    rw [e1, e2]
    exact ⟨rfl, rfl, fun c h => by cases h⟩
  have h2 : 2 ≤ n := by omega
  have hm1 := halfN_lt n h2
  have hm2 := halfN_pos n
  by_cases hlt : i < halfN n
  · have hl : (ks.take (halfN n)).length = halfN n := by rw [List.length_take]; omega
    have hS := sideR_lt n i h2 hlt
    obtain ⟨d, hd⟩ : ∃ d, d = (sideR (halfN n) i).length := ⟨_, rfl⟩
    have hpd : ps.length = d + 1 := by rw [hp, hS, hd]; rfl
    have hd1 : d < ps.length := by omega
    have hl2 : (ps.take d).length = d := by rw [List.length_take]; omega
    have hps : ps = ps.take d ++ [ps[d]'hd1] := by rw [← List.take_succ_eq_append_getElem (by omega), List.take_of_length_le (by omega)]
    obtain ⟨a1, a2, a3⟩ := ih _ hm1 (ks.take (halfN n)) i lf (ps.take d) hl (by omega) hlt (by rw [hl2, hd])
    have hg : (ks.take (halfN n)).getD i zeroKy = ks.getD i zeroKy := by simp [List.getD_eq_getElem?_getD, List.getElem?_take, hlt]
    rw [hg] at a2 a3
    have hlo := lead_own _ (ks.take (halfN n)) i hl (by omega) hlt
    rw [show (ks.take (halfN n))[i]'(by omega) = ks.getD i zeroKy by rw [← hg, List.getD_eq_getElem?_getD, List.getElem?_eq_getElem (by omega)]; rfl] at hlo
    rw [shF_lt ks i n lf ps d hk h2 hlt hd1 hpd _ rfl, show leadF lf (sideR n i).reverse ps = nodeK (shF (ks.take (halfN n)) i lf (ps.take d)).2.1 (ps[d]'hd1) by rw [lead_last lf n i d ps false _ hS hpd hd.symm hd1, ← a1]; rfl]
    refine or_if_spec a2 a3 ?_
    have := clF_snoc false (listK (ks.drop (halfN n))) (ps[d]'hd1) (sideR (halfN n) i).reverse (prfL (ks.take (halfN n)) i) (ps.take d) (ks.getD i zeroKy) lf (by rw [List.length_reverse]; exact prfL_side _ _ _ hl (by omega) hlt) (by rw [List.length_reverse, hl2, hd])
    rw [← hps, hlo, ← a1] at this
    rw [hS, List.reverse_cons, prfL_lt ks i n hk h2 hlt]
    exact this
  · have hl : (ks.drop (halfN n)).length = n - halfN n := by rw [List.length_drop]; omega
    have hS := sideR_ge n i h2 (by omega)
    obtain ⟨d, hd⟩ : ∃ d, d = (sideR (n - halfN n) (i - halfN n)).length := ⟨_, rfl⟩
    have hpd : ps.length = d + 1 := by rw [hp, hS, hd]; rfl
    have hd1 : d < ps.length := by omega
    have hl2 : (ps.take d).length = d := by rw [List.length_take]; omega
    have hps : ps = ps.take d ++ [ps[d]'hd1] := by rw [← List.take_succ_eq_append_getElem (by omega), List.take_of_length_le (by omega)]
    obtain ⟨a1, a2, a3⟩ := ih (n - halfN n) (by omega) (ks.drop (halfN n)) (i - halfN n) lf (ps.take d) hl (by omega) (by omega) (by rw [hl2, hd])
    have hg : (ks.drop (halfN n)).getD (i - halfN n) zeroKy = ks.getD i zeroKy := by rw [List.getD_eq_getElem?_getD, List.getElem?_drop, show halfN n + (i - halfN n) = i by omega, ← List.getD_eq_getElem?_getD]
    rw [hg] at a2 a3
    have hlo := lead_own _ (ks.drop (halfN n)) (i - halfN n) hl (by omega) (by omega)
    rw [show (ks.drop (halfN n))[i - halfN n]'(by omega) = ks.getD i zeroKy by rw [← hg, List.getD_eq_getElem?_getD, List.getElem?_eq_getElem (by omega)]; rfl] at hlo
    rw [shF_ge ks i n lf ps d hk h2 (by omega) hd1 hpd _ rfl, show leadF lf (sideR n i).reverse ps = nodeK (ps[d]'hd1) (shF (ks.drop (halfN n)) (i - halfN n) lf (ps.take d)).2.1 by rw [lead_last lf n i d ps true _ hS hpd hd.symm hd1, ← a1]; rfl]
    refine or_if_spec a2 a3 ?_
    have := clF_snoc true (listK (ks.take (halfN n))) (ps[d]'hd1) (sideR (n - halfN n) (i - halfN n)).reverse (prfL (ks.drop (halfN n)) (i - halfN n)) (ps.take d) (ks.getD i zeroKy) lf (by rw [List.length_reverse]; exact prfL_side _ _ _ hl (by omega) (by omega)) (by rw [List.length_reverse, hl2, hd])
    rw [← hps, hlo, ← a1] at this
    rw [hS, List.reverse_cons, prfL_ge ks i n hk h2 (by omega)]
    exact this

end Go.Proofs.Ytmbhaoiahlbglaa

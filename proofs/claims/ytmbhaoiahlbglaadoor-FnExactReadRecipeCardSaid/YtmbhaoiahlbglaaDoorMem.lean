/- Memory as a list of things that a call made: blocks, and slices of its own; one rule for each operation that reads or writes memory. No conditions beyond those each lemma states. -/
import Derived.Test.YtmbhaoiahlbglaaDoorBase
import Derived.Test.YtmbhaoiahlbglaaDoorSl
import Derived.Deep.MidRow
import Derived.Great.BuildSlice
namespace Go.Proofs.YtmbhaoiahlbglaaDoor
open Go.RowKit
set_option linter.unusedVariables false
set_option linter.unusedSimpArgs false

/-- A thing in memory: a block known whole, a slice of the call's own, or the slices of the call's own that are the elements of another. -/
inductive It where
  | blk (g : Nat) (t : TypeId) (cs : Array Value)
  | own (a : Option Addr) (cap : Nat) (e : TypeId) (size n : Nat) (xs : List Value)
  | inn (e : TypeId) (us : List Value) (ls : List (List Value))
  | obj (g : Nat) (o : Obj)

/-- The blocks that it takes. -/
def It.foot : It → Nat → Prop
  | .blk g _ _ => fun k => some g = some k
  | .own a cap _ _ n _ => fun k => (Value.slice a n cap).ownBlock = some k
  | .inn _ us _ => fun k => ∃ u ∈ us, u.ownBlock = some k
  | .obj g _ => fun k => some g = some k
/-- Slices of one-cell elements that a call owns, each on its own. -/
structure Inn (B : Nat) (w : World) (e : TypeId) (us : List Value) (ls : List (List Value)) : Prop where
  len : us.length = ls.length
  own : ∀ (i : Nat) u l, us[i]? = some u → ls[i]? = some l → ∃ b c, u = .slice b l.length c ∧ w.ownsRow B e 1 u l.length l
  apart : ∀ (i j : Nat) u u' k, us[i]? = some u → us[j]? = some u' → i ≠ j → u.ownBlock = some k → u'.ownBlock = some k → False
def It.ok (B : Nat) (w : World) : It → Prop
  | .blk g t cs => B ≤ g ∧ Blk w g t cs
  | .own a cap e size n xs => w.ownsRow B e size (.slice a n cap) n xs
  | .inn e us ls => Inn B w e us ls
  | .obj g o => B ≤ g ∧ w.heap[g]? = some o
def It.apart (x y : It) : Prop := ∀ k, x.foot k → y.foot k → False
theorem It.apart.symm {x y : It} (h : x.apart y) : y.apart x := fun k h1 h2 => h k h2 h1
/-- Nothing that was there has changed but in the blocks F. -/
structure Chg (w w' : World) (F : Nat → Prop) : Prop where
  os : w'.os = w.os
  tape : w'.tape = w.tape
  output : w'.output = w.output
  size : w.heap.size ≤ w'.heap.size
  block : ∀ k, k < w.heap.size → ¬ F k → w'.heap[k]? = w.heap[k]?

section
variable {B : Nat} {w w' : World} {x y : It}
theorem Chg.of_grown {row : Option Nat} (h : w.grownBy w' row) : Chg w w' (fun k => row = some k) :=
  ⟨h.os, h.tape, h.output, h.size, fun k hk hn => h.block k hk (fun e => hn e.symm)⟩
theorem Chg.of_up (h : Up w w') (F : Nat → Prop) : Chg w w' F := ⟨h.os, h.tape, h.output, h.size, fun k hk _ => h.block k hk⟩
theorem Chg.mono {F G : Nat → Prop} (h : Chg w w' F) (hFG : ∀ k, F k → G k) : Chg w w' G := ⟨h.os, h.tape, h.output, h.size, fun k hk hn => h.block k hk (fun e => hn (hFG k e))⟩
theorem Chg.trans {w2 : World} {F : Nat → Prop} (h : Chg w w' F) (h2 : Chg w' w2 F) : Chg w w2 F :=
  ⟨h2.os.trans h.os, h2.tape.trans h.tape, h2.output.trans h.output, Nat.le_trans h.size h2.size, fun k hk hn => (h2.block k (Nat.lt_of_lt_of_le hk h.size) hn).trans (h.block k hk hn)⟩
theorem Chg.refl (w : World) (F : Nat → Prop) : Chg w w F := ⟨rfl, rfl, rfl, Nat.le_refl _, fun _ _ _ => rfl⟩
theorem Chg.up (h : Chg w w' (fun _ => False)) : Up w w' := ⟨h.os, h.tape, h.output, h.size, fun k hk => h.block k hk id⟩
theorem own_kept {e : TypeId} {size n : Nat} {v : Value} {xs : List Value} {F : Nat → Prop} (h : w.ownsRow B e size v n xs) (hg : Chg w w' F) (hne : ∀ k, v.ownBlock = some k → ¬ F k) : w'.ownsRow B e size v n xs := by
  refine ⟨h.1, ?_⟩
  rcases h.2 with hn | ⟨g, cap, cur, rfl, hb, hgg, rest⟩
  · exact .inl hn
  · refine .inr ⟨g, cap, cur, rfl, hb, ?_, rest⟩
    rw [hg.block g (Array.getElem?_eq_some_iff.1 hgg).1 (hne g rfl)]
    exact hgg
theorem It.ok.foot_lt (h : x.ok B w) {k : Nat} (hk : x.foot k) : B ≤ k ∧ k < w.heap.size := by
  cases x with
  | blk g t cs =>
    have hk : some g = some k := hk
    injection hk with hk
    subst hk
    exact ⟨h.1, h.2.lt⟩
  | own a cap e size n xs => exact World.ownsRow.lt (h : w.ownsRow B e size (.slice a n cap) n xs) k hk
  | inn e us ls =>
    have h : Inn B w e us ls := h
    obtain ⟨u, hu, hk⟩ := hk
    obtain ⟨i, hi⟩ := List.mem_iff_getElem?.1 hu
    have hl : i < ls.length := by have := (List.getElem?_eq_some_iff.1 hi).1; rw [← h.len]; exact this
    obtain ⟨b, c, _, ho⟩ := h.own i u _ hi (List.getElem?_eq_getElem hl)
    exact World.ownsRow.lt ho k hk
  | obj g o =>
    have h : B ≤ g ∧ w.heap[g]? = some o := h
    have hk : some g = some k := hk
    injection hk with hk
    subst hk
    exact ⟨h.1, (Array.getElem?_eq_some_iff.1 h.2).1⟩
theorem It.ok.kept {F : Nat → Prop} (h : x.ok B w) (hg : Chg w w' F) (hne : ∀ k, x.foot k → ¬ F k) : x.ok B w' := by
  cases x with
  | blk g t cs =>
    refine ⟨h.1, ?_⟩
    have hb : Blk w g t cs := h.2
    exact (hg.block g hb.lt (hne g rfl)).trans hb
  | own a cap e size n xs => exact own_kept (h : w.ownsRow B e size (.slice a n cap) n xs) hg hne
  | inn e us ls =>
    have h : Inn B w e us ls := h
    refine (⟨h.len, fun i u l hu hl => ?_, h.apart⟩ : Inn B w' e us ls)
    obtain ⟨b, c, hb, ho⟩ := h.own i u l hu hl
    exact ⟨b, c, hb, own_kept ho hg (fun k hk => hne k ⟨u, List.mem_of_getElem? hu, hk⟩)⟩
  | obj g o =>
    have h : B ≤ g ∧ w.heap[g]? = some o := h
    exact (⟨h.1, (hg.block g (Array.getElem?_eq_some_iff.1 h.2).1 (hne g rfl)).trans h.2⟩ : B ≤ g ∧ w'.heap[g]? = some o)
theorem grown_of_up (h : Up w w') (row : Option Nat) : w.grownBy w' row := ⟨h.os, h.tape, h.output, h.size, fun k hk _ => h.block k hk⟩
end

theorem Up.trans' {a b c : World} (h : Up a b) (k : Below a.heap.size b c) : Up a c := Below.trans h k
/-- All that a call made and still knows. -/
structure Mem (w0 w : World) (L : List It) : Prop where
  up : Up w0 w
  ok : ∀ x ∈ L, x.ok w0.heap.size w
  sep : L.Pairwise It.apart

section
variable {w0 w w' : World} {L : List It} {x x' : It} {p : Nat}
theorem Mem.start (w : World) : Mem w w [] := ⟨Up.refl _, fun _ h => by simp at h, List.Pairwise.nil⟩
theorem Mem.at_ (M : Mem w0 w L) (hL : L[p]? = some x) : x.ok w0.heap.size w := M.ok x (List.mem_of_getElem? hL)
theorem Mem.le (M : Mem w0 w L) : w0.heap.size ≤ w.heap.size := Below.size M.up
theorem Mem.grow (M : Mem w0 w L) (hb : Up w w') : Mem w0 w' L :=
  ⟨M.up.trans hb, fun x hx => (M.ok x hx).kept (Chg.of_up hb (fun _ => False)) (fun _ _ h => h), M.sep⟩
theorem Mem.add (M : Mem w0 w L) (hb : Up w w') (hx : x.ok w0.heap.size w') (hf : ∀ k, x.foot k → w.heap.size ≤ k) : Mem w0 w' (x :: L) := by
  have M' := M.grow hb
  refine ⟨M'.up, fun y hy => ?_, List.pairwise_cons.2 ⟨fun y hy k h1 h2 => ?_, M.sep⟩⟩
  · rcases List.mem_cons.1 hy with rfl | hy
    · exact hx
    · exact M'.ok y hy
  · have := ((M.ok y hy).foot_lt h2).2
    have := hf k h1
    omega
theorem pairwise_getElem {R : It → It → Prop} (hs : ∀ x y, R x y → R y x) {L : List It} (h : L.Pairwise R) {i j : Nat} {x y : It} (hi : L[i]? = some x) (hj : L[j]? = some y) (hij : i ≠ j) : R x y := by
  rw [List.pairwise_iff_getElem] at h
  obtain ⟨h1, rfl⟩ := List.getElem?_eq_some_iff.1 hi
  obtain ⟨h2, rfl⟩ := List.getElem?_eq_some_iff.1 hj
  rcases Nat.lt_or_ge i j with c | c
  · exact h i j h1 h2 c
  · exact hs _ _ (h j i h2 h1 (by omega))
theorem Mem.apart (M : Mem w0 w L) {i j : Nat} {x y : It} (hi : L[i]? = some x) (hj : L[j]? = some y) (hij : i ≠ j) : x.apart y :=
  pairwise_getElem (fun _ _ h => It.apart.symm h) M.sep hi hj hij
/-- One thing is changed, no other. -/
theorem Mem.chg (M : Mem w0 w L) (hL : L[p]? = some x) (hg : Chg w w' x.foot) (hx : x'.ok w0.heap.size w') (hf : ∀ k, x'.foot k → x.foot k ∨ w.heap.size ≤ k) : Mem w0 w' (L.set p x') := by
  have hp : p < L.length := (List.getElem?_eq_some_iff.1 hL).1
  have key : ∀ q y, q ≠ p → L[q]? = some y → y.ok w0.heap.size w' := fun q y hq hy =>
    (M.at_ hy).kept hg (fun k hk e => M.apart hy hL hq k hk e)
  refine ⟨M.up.trans' ⟨hg.os, hg.tape, hg.output, hg.size, fun k hk => hg.block k (Nat.lt_of_lt_of_le hk M.le) (fun e => by have := ((M.at_ hL).foot_lt e).1; omega)⟩, fun y hy => ?_, ?_⟩
  · obtain ⟨q, hq⟩ := List.mem_iff_getElem?.1 hy
    rw [List.getElem?_set] at hq
    by_cases hqp : p = q
    · rw [if_pos hqp, if_pos (by omega)] at hq
      obtain rfl := Option.some.inj hq
      exact hx
    · rw [if_neg hqp] at hq
      exact key q y (fun e => hqp e.symm) hq
  · rw [List.pairwise_iff_getElem]
    have ap : ∀ q y, q ≠ p → L[q]? = some y → x'.apart y := fun q y hq hy k h1 h2 => by
      rcases hf k h1 with h | h
      · exact M.apart hL hy (fun e => hq e.symm) k h h2
      · have := ((M.at_ hy).foot_lt h2).2
        omega
    intro i j hi hj hij
    rw [List.length_set] at hi hj
    simp only [List.getElem_set]
    by_cases h1 : p = i
    · rw [if_pos h1, if_neg (by omega)]
      exact ap j _ (by omega) (List.getElem?_eq_getElem hj)
    · rw [if_neg h1]
      by_cases h2 : p = j
      · rw [if_pos h2]
        exact (ap i _ (by omega) (List.getElem?_eq_getElem hi)).symm
      · rw [if_neg h2]
        exact M.apart (List.getElem?_eq_getElem hi) (List.getElem?_eq_getElem hj) (by omega)
theorem Mem.change (M : Mem w0 w L) (hL : L[p]? = some x) {row : Option Nat} (hg : w.grownBy w' row) (hx : x'.ok w0.heap.size w') (hf : ∀ k, x'.foot k → x.foot k ∨ w.heap.size ≤ k) (hrow : ∀ k, row = some k → x.foot k := by exact fun _ e => e) : Mem w0 w' (L.set p x') :=
  M.chg hL ((Chg.of_grown hg).mono hrow) hx hf
/-- Some of the things, in any order. -/
theorem Mem.pick (M : Mem w0 w L) (ps : List Nat) (hn : ps.Nodup) : Mem w0 w (ps.filterMap fun q => L[q]?) := by
  refine ⟨M.up, fun y hy => ?_, ?_⟩
  · obtain ⟨q, _, hq⟩ := List.mem_filterMap.1 hy
    exact M.at_ hq
  · induction ps with
    | nil => exact List.Pairwise.nil
    | cons a ps ih =>
      have hn' := List.nodup_cons.1 hn
      rw [List.filterMap_cons]
      split
      · exact ih hn'.2
      · rename_i b hb
        refine List.pairwise_cons.2 ⟨fun y hy => ?_, ih hn'.2⟩
        obtain ⟨q, hq1, hq2⟩ := List.mem_filterMap.1 hy
        exact M.apart hb hq2 (fun e => hn'.1 (e ▸ hq1))
theorem Mem.tail (M : Mem w0 w (x :: L)) : Mem w0 w L := ⟨M.up, fun y hy => M.ok y (List.mem_cons_of_mem _ hy), (List.pairwise_cons.1 M.sep).2⟩
end

/-- A slice that reads as the cells xs: n elements. -/
def Rd (w : World) (size : Nat) (v : Value) (n : Nat) (xs : List Value) : Prop :=
  ∃ (a : Option Addr) (cap : Nat), v = .slice a n cap ∧ n ≤ cap ∧ cap ≤ maxLen ∧ xs.length = n * size ∧ (∀ u ∈ xs, u.oneCell' = true) ∧ (n = 0 ∨ ∃ g o, a = some ⟨g, o, none⟩ ∧ g < w.heap.size ∧ w.rangeAt g o xs)
section
variable {w w' : World} {size n : Nat} {v : Value} {xs : List Value}
theorem Rd.up (h : Rd w size v n xs) (hb : Up w w') : Rd w' size v n xs := by
  obtain ⟨a, cap, h1, h2, h3, h4, h6, h5⟩ := h
  refine ⟨a, cap, h1, h2, h3, h4, h6, ?_⟩
  rcases h5 with h5 | ⟨g, o, ha, hg, hr⟩
  · exact .inl h5
  · refine .inr ⟨g, o, ha, Nat.lt_of_lt_of_le hg (Below.size hb), fun j u hj => ?_⟩
    exact (Below.cell hb (p := ⟨g, o + j, none⟩) hg).trans (hr j u hj)
theorem Rd.nil (w : World) (size : Nat) : Rd w size (.slice none 0 0) 0 [] := ⟨none, 0, rfl, Nat.le_refl _, Nat.zero_le _, by simp, by simp, .inl rfl⟩
theorem own_rd {B : Nat} {e : TypeId} {a : Option Addr} {cap : Nat} (h : w.ownsRow B e size (.slice a n cap) n xs) (h1 : ∀ u ∈ xs, u.oneCell' = true) : Rd w size (.slice a n cap) n xs := by
  rcases h.2 with ⟨hv, rfl⟩ | ⟨g, cap', cur, hv, hg, hb, hn, hm, hsz, htk⟩
  · injection hv with e1 e2 e3
    subst e1 e3
    exact ⟨none, 0, rfl, Nat.le_refl _, Nat.zero_le _, h.1, h1, .inl rfl⟩
  · injection hv with e1 e2 e3
    subst e1 e3
    refine ⟨_, cap, rfl, hn, hm, h.1, h1, .inr ⟨g, 0, rfl, (Array.getElem?_eq_some_iff.1 hb).1, fun j u hj => ?_⟩⟩
    rw [Nat.zero_add, cell_of_row w g j cur e (0, 0) hb]
    rw [← htk, List.getElem?_take] at hj
    split at hj
    · simpa using hj
    · cases hj
theorem Rd.cell (h : Rd w size v n xs) {i : Nat} {u : Value} (hu : xs[i]? = some u) : ∃ g o cap, v = .slice (some ⟨g, o, none⟩) n cap ∧ w.cell? ⟨g, o + i, none⟩ = some u := by
  obtain ⟨a, cap, h1, h2, h3, h4, h6, h5⟩ := h
  have hi : i < xs.length := (List.getElem?_eq_some_iff.1 hu).1
  rcases h5 with rfl | ⟨g, o, rfl, hg, hr⟩
  · rw [Nat.zero_mul] at h4
    omega
  · exact ⟨g, o, cap, h1, hr i u hu⟩
end

/-- A range of a block. -/
theorem Blk.rng {w : World} {g : Nat} {t : TypeId} {cs : Array Value} (h : Blk w g t cs) (o : Nat) (xs : List Value) (hx : ∀ j v, xs[j]? = some v → cs[o + j]? = some v) : w.rangeAt g o xs := fun j v hv => h.cell_ (hx j v hv)

/-! One operation of a plain list. -/
section
variable {P : Program} {ops : Array Oper} {rest : List Oper} {o : Oper} {a : Act} {w0 w : World} {Q : Exit → Act → World → Prop} {L : List It}

/-- The cells of a type's zero value. -/
def ZC (P : Program) (ty : TypeId) (cs : Array Value) : Prop := ∃ z, (∀ w, (zeroValue ty).run P w = .ok z w) ∧ z.cells = cs

theorem Mem.alloc_ (M : Mem w0 w L) (t : TypeId) (cs : Array Value) : Mem w0 (w.alloc (.cells cs t)) (.blk w.heap.size t cs :: L) :=
  M.add ((Up.refl _).alloc _) ⟨M.le, Blk.new w t cs⟩ (fun k hk => by have hk : some w.heap.size = some k := hk; injection hk; omega)

theorem run_alloc_ {ty : TypeId} (ho : o.op = .alloc ty) {cs : Array Value} (hz : ZC P ty cs) : (execOp a.eval o).run P w = .ok (.value (.pointer (some ⟨w.heap.size, 0, none⟩))) (w.alloc (.cells cs ty)) := by
  obtain ⟨z, hz, rfl⟩ := hz
  unfold execOp
  simp [ho, Instr.alloc, Sem.run_bind, hz w, newVar, newRow, newObj, Sem.run, Result.andThen]
theorem mem_alloc (M : Mem w0 w L) (hgd : o.guard = none) {ty : TypeId} (ho : o.op = .alloc ty) {cs : Array Value} (hz : ZC P ty cs)
    (h : ∀ g w', Mem w0 w' (.blk g ty cs :: L) → wpList P ops Q rest (a.put o.dst (.pointer (some ⟨g, 0, none⟩))) w') : wpList P ops Q (o :: rest) a w :=
  wpList_plain hgd fun _ hK => by
    unfold Oper.wp
    rw [run_alloc_ ho hz]
    exact hK _ _ (h _ _ (M.alloc_ ty cs))
theorem mem_box (M : Mem w0 w L) (hgd : o.guard = none) {ty : TypeId} {x : Operand} (ho : o.op = .box ty x) {v : Value} (hx : a.eval x = v) {cs : Array Value} (hc : v.cells = cs)
    (h : ∀ g w', Mem w0 w' (.blk g ty cs :: L) → wpList P ops Q rest (a.put o.dst (.pointer (some ⟨g, 0, none⟩))) w') : wpList P ops Q (o :: rest) a w :=
  wpList_plain hgd fun _ hK => by
    have hr : (execOp a.eval o).run P w = .ok (.value (.pointer (some ⟨w.heap.size, 0, none⟩))) (w.alloc (.cells cs ty)) := by
      unfold execOp
      subst hx hc
      simp [ho, Instr.box, Sem.run_bind, newVar, newRow, newObj, Sem.run, Result.andThen]
    unfold Oper.wp
    rw [hr]
    exact hK _ _ (h _ _ (M.alloc_ ty cs))

theorem isAgg_no {ty : TypeId} {d : TypeDesc} (hu : P.underlying ty = some d) (hd : d.isRow = false) : (isAgg ty).run P w = .ok false w := by
  unfold isAgg
  rw [Sem.run_bind, run_underlying hu w]
  cases d <;> simp_all
theorem run_loadAt_one {ty : TypeId} {d : TypeDesc} (hu : P.underlying ty = some d) (hd : d.isRow = false) {g i : Nat} {v : Value} (hc : w.cell? ⟨g, i, none⟩ = some v) :
    (Instr.loadAt ty (.pointer (some ⟨g, i, none⟩))).run P w = .ok v w := by
  have h1 := isAgg_no (w := w) hu hd
  simp only [Instr.loadAt, Instr.sureAddr, Sem.run_bind, Sem.run_pure, Result.andThen_ok, loadVar, h1, Bool.false_eq_true, if_false, ↓reduceIte]
  simp [load, Sem.run, hc]
end

/-! Facts on types, found by their instances. -/
/-- A struct's or an array's type of n cells. -/
class RowT (P : Program) (ty : TypeId) (n : outParam Nat) : Prop where
  out : ∃ d, P.underlying ty = some d ∧ d.isRow = true ∧ (P.info? ty).map (·.size) = some n
/-- A type of one cell. -/
class OneT (P : Program) (ty : TypeId) : Prop where
  out : ∃ d, P.underlying ty = some d ∧ d.isRow = false ∧ (P.info? ty).map (·.size) = some 1
/-- The zero value's cells. -/
class ZeroT (P : Program) (ty : TypeId) (cs : outParam (Array Value)) : Prop where
  out : ZC P ty cs
/-- A slice's type. -/
class SliceT (P : Program) (t : TypeId) (e : outParam TypeId) : Prop where
  out : P.underlying t = some (.slice e)
/-- What append and make ask of an element's type. -/
class ElT (P : Program) (e : TypeId) (size bytes : outParam Nat) (z : outParam Value) : Prop where
  out : (P.info? e).map (fun i => (i.zero, i.size, i.bytes)) = some (some z, size, bytes) ∧ z.cells.size = size ∧ 0 < size

section
variable {P : Program} {ops : Array Oper} {rest : List Oper} {o : Oper} {a : Act} {w0 w : World} {Q : Exit → Act → World → Prop} {L : List It}

theorem mem_new (M : Mem w0 w L) (hgd : o.guard = none) {ty : TypeId} (ho : o.op = .alloc ty) {cs : Array Value} [hz : ZeroT P ty cs]
    (h : ∀ g w', Mem w0 w' (.blk g ty cs :: L) → wpList P ops Q rest (a.put o.dst (.pointer (some ⟨g, 0, none⟩))) w') : wpList P ops Q (o :: rest) a w :=
  mem_alloc M hgd ho hz.out h

/-- Cells read one by one, or many at once. -/
theorem mem_load (M : Mem w0 w L) (hgd : o.guard = none) {ty : TypeId} {x : Operand} (ho : o.op = .load ty x) {g i : Nat} (hx : a.eval x = .pointer (some ⟨g, i, none⟩)) [hT : OneT P ty]
    (p : Nat) {t : TypeId} {cs : Array Value} (hL : L[p]? = some (.blk g t cs)) {v : Value} (hc : cs[i]? = some v)
    (h : wpList P ops Q rest (a.put o.dst v) w) : wpList P ops Q (o :: rest) a w :=
  wpList_plain hgd fun _ hK => by
    obtain ⟨d, h1, h2, _⟩ := hT.out
    have hcell : w.cell? ⟨g, i, none⟩ = some v := Blk.cell_ (M.at_ hL).2 hc
    unfold Oper.wp execOp
    simp only [ho, hx, Sem.run_bind, run_loadAt_one h1 h2 hcell, Result.andThen_ok, Sem.run_pure]
    exact hK _ _ h
theorem wpList_load_one (hgd : o.guard = none) {ty : TypeId} {x : Operand} (ho : o.op = .load ty x) {g i : Nat} (hx : a.eval x = .pointer (some ⟨g, i, none⟩)) [hT : OneT P ty] {v : Value} (hc : w.cell? ⟨g, i, none⟩ = some v)
    (h : wpList P ops Q rest (a.put o.dst v) w) : wpList P ops Q (o :: rest) a w :=
  wpList_plain hgd fun _ hK => by
    obtain ⟨d, h1, h2, _⟩ := hT.out
    unfold Oper.wp execOp
    simp only [ho, hx, Sem.run_bind, run_loadAt_one h1 h2 hc, Result.andThen_ok, Sem.run_pure]
    exact hK _ _ h
theorem mem_loadR (M : Mem w0 w L) (hgd : o.guard = none) {ty : TypeId} {x : Operand} (ho : o.op = .load ty x) {g : Nat} (hx : a.eval x = .pointer (some ⟨g, 0, none⟩)) {n : Nat} [hT : RowT P ty n]
    (p : Nat) {t : TypeId} {cs : Array Value} (hL : L[p]? = some (.blk g t cs)) (hn : cs.size = n)
    (h : wpList P ops Q rest (a.put o.dst (.agg cs)) w) : wpList P ops Q (o :: rest) a w := by
  obtain ⟨d, h1, h2, h3⟩ := hT.out
  exact wpList_load_row hgd ty x ho g hx t cs (0, 0) d (M.at_ hL).2 h1 (by cases d <;> simp_all) (by rw [h3, hn]) h
theorem mem_loadP (M : Mem w0 w L) (hgd : o.guard = none) {ty : TypeId} {x : Operand} (ho : o.op = .load ty x) {g i : Nat} (hx : a.eval x = .pointer (some ⟨g, i, none⟩)) {n : Nat} [hT : RowT P ty n]
    (p : Nat) {t : TypeId} {cs : Array Value} (hL : L[p]? = some (.blk g t cs)) {xs : List Value} (hc : ∀ j v, xs[j]? = some v → cs[i + j]? = some v) (hn : xs.length = n)
    (h : wpList P ops Q rest (a.put o.dst (.agg xs.toArray)) w) : wpList P ops Q (o :: rest) a w := by
  obtain ⟨d, h1, h2, h3⟩ := hT.out
  exact wpList_load_mid hgd ty x ho g i hx xs d (Blk.rng (M.at_ hL).2 i xs hc) h1 h2 (by rw [h3, hn]) h
/-- Cells out of a slice that reads. -/
theorem rd_loadR {w : World} (hgd : o.guard = none) {ty : TypeId} {x : Operand} (ho : o.op = .load ty x) {g i : Nat} (hx : a.eval x = .pointer (some ⟨g, i, none⟩)) {n : Nat} [hT : RowT P ty n]
    {xs : List Value} (hc : w.rangeAt g i xs) (hn : xs.length = n)
    (h : wpList P ops Q rest (a.put o.dst (.agg xs.toArray)) w) : wpList P ops Q (o :: rest) a w := by
  obtain ⟨d, h1, h2, h3⟩ := hT.out
  exact wpList_load_mid hgd ty x ho g i hx xs d hc h1 h2 (by rw [h3, hn]) h

theorem grown_set {w : World} (g i : Nat) (v : Value) : w.grownBy (w.setCell ⟨g, i, none⟩ v) (some g) :=
  ⟨rfl, rfl, rfl, by simp [World.setCell], fun k _ hk => Below.heap_setCell _ _ _ _ (fun e => hk (by rw [e]))⟩
theorem Mem.set_ (M : Mem w0 w L) {p g : Nat} {t : TypeId} {cs : Array Value} (hL : L[p]? = some (.blk g t cs)) (i : Nat) (v : Value) : Mem w0 (w.setCell ⟨g, i, none⟩ v) (L.set p (.blk g t (cs.setIfInBounds i v))) :=
  M.change hL (grown_set g i v) ⟨(M.at_ hL).1, (M.at_ hL).2.set_ i v⟩ (fun k hk => .inl hk)
theorem grown_setRow {w : World} (g : Nat) (cs : Array Value) : w.grownBy (w.setRow g cs) (some g) :=
  ⟨rfl, rfl, rfl, by simp, fun k _ hk => setRow_other w g k cs (fun e => hk (by rw [e]))⟩
theorem Mem.setRow_ (M : Mem w0 w L) {p g : Nat} {t : TypeId} {cs : Array Value} (hL : L[p]? = some (.blk g t cs)) (cs' : Array Value) : Mem w0 (w.setRow g cs') (L.set p (.blk g t cs')) :=
  M.change hL (grown_setRow g cs') ⟨(M.at_ hL).1, (M.at_ hL).2.row cs'⟩ (fun k hk => .inl hk)
theorem Mem.frozen_ (M : Mem w0 w L) {p g : Nat} {t : TypeId} {cs : Array Value} (hL : L[p]? = some (.blk g t cs)) (i : Nat) : w.frozen? ⟨g, i, none⟩ = false := (M.at_ hL).2.free i
theorem mem_store (M : Mem w0 w L) (hgd : o.guard = none) {ty : TypeId} {x y : Operand} (ho : o.op = .store ty x y) {g i : Nat} (hx : a.eval x = .pointer (some ⟨g, i, none⟩)) {v : Value} (hy : a.eval y = v) (hv : v.oneCell' = true) [hT : OneT P ty]
    (p : Nat) {t : TypeId} {cs : Array Value} (hL : L[p]? = some (.blk g t cs)) (hi : i < cs.size)
    (h : ∀ w', Mem w0 w' (L.set p (.blk g t (cs.setIfInBounds i v))) → wpList P ops Q rest (a.put o.dst undef) w') : wpList P ops Q (o :: rest) a w :=
  wpList_plain hgd fun _ hK => by
    obtain ⟨d, h1, h2, h3⟩ := hT.out
    have hcell := Blk.cell_ (M.at_ hL).2 (Array.getElem?_eq_getElem hi)
    have hfree := M.frozen_ hL i
    have hcv : v.cells = #[v] := by cases v <;> first | rfl | cases hv
    have hadd : (⟨g, i, none⟩ : Addr).add 0 = ⟨g, i, none⟩ := by unfold Addr.add; split <;> simp_all
    have hs : (storeVar ty ⟨g, i, none⟩ v).run P w = .ok () (w.setCell ⟨g, i, none⟩ v) := by
      cases hq : P.info? ty with
      | none => simp [hq] at h3
      | some q =>
        have hs : q.size = 1 := by simpa [hq] using h3
        simp [storeVar, sizeOf, typeInfo, hq, hs, hcv, storeCells, hadd, run_store P w _ v _ hv, hcell, hfree]
    have hr : (execOp a.eval o).run P w = .ok .skip (w.setCell ⟨g, i, none⟩ v) := by
      unfold execOp
      simp only [ho, hx, hy, Instr.storeAt, Instr.sureAddr, Sem.run_bind, Sem.run_pure, Result.andThen_ok, hs]
    unfold Oper.wp
    rw [hr]
    exact hK _ _ (h _ (M.set_ hL i v))
theorem mem_storeR (M : Mem w0 w L) (hgd : o.guard = none) {ty : TypeId} {x y : Operand} (ho : o.op = .store ty x y) {g : Nat} (hx : a.eval x = .pointer (some ⟨g, 0, none⟩)) {cells : Array Value} (hy : a.eval y = .agg cells) {n : Nat} [hT : RowT P ty n]
    (p : Nat) {t : TypeId} {cs : Array Value} (hL : L[p]? = some (.blk g t cs)) (hn : cells.size = n) (hn2 : cs.size = n) (h1 : cells.all (·.oneCell') = true)
    (h : ∀ w', Mem w0 w' (L.set p (.blk g t cells)) → wpList P ops Q rest (a.put o.dst undef) w') : wpList P ops Q (o :: rest) a w := by
  obtain ⟨d, _, _, h3⟩ := hT.out
  exact wpList_store_row hgd ty x y ho g cells hx hy t cs (M.at_ hL).2 (by rw [h3, hn]) (by rw [hn, hn2]) h1 (h _ (M.setRow_ hL cells))
end

/-- What a store of several cells leaves in a block. -/
def putC : List Value → Nat → Array Value → Array Value
  | [], _, cs => cs
  | v :: vs, o, cs => putC vs (o + 1) (cs.setIfInBounds o v)
theorem putC_size (vs : List Value) : ∀ (o : Nat) (cs : Array Value), (putC vs o cs).size = cs.size := by
  induction vs with
  | nil => intro o cs; rfl
  | cons v vs ih => intro o cs; rw [putC, ih, Array.size_setIfInBounds]
theorem putC_get (vs : List Value) : ∀ (o : Nat) (cs : Array Value) (i : Nat), i < cs.size → (putC vs o cs)[i]? = if o ≤ i ∧ i < o + vs.length then vs[i - o]? else cs[i]? := by
  induction vs with
  | nil => intro o cs i hi; rw [putC, if_neg (by simp)]
  | cons v vs ih =>
    intro o cs i hi
    rw [putC, ih _ _ _ (by rw [Array.size_setIfInBounds]; exact hi)]
    by_cases h : i = o
    · subst h
      rw [if_neg (by omega), if_pos (by simp)]
      simp [hi]
    · by_cases h2 : o + 1 ≤ i ∧ i < o + 1 + vs.length
      · rw [if_pos h2, if_pos (by simp; omega), show i - o = (i - (o + 1)) + 1 by omega, List.getElem?_cons_succ]
      · rw [if_neg h2, if_neg (by simp; omega), Array.getElem?_setIfInBounds_ne (by omega)]
/-- In the form of lists: what lies before, what was stored, what lies behind. -/
theorem putC_list (vs xs : List Value) (o : Nat) (h : o + vs.length ≤ xs.length) : putC vs o xs.toArray = (xs.take o ++ vs ++ xs.drop (o + vs.length)).toArray := by
  apply Array.ext_getElem?
  intro i
  by_cases hi : i < xs.length
  · rw [putC_get _ _ _ _ (by simpa using hi)]
    simp only [List.getElem?_toArray, List.append_assoc]
    by_cases h1 : i < o
    · rw [if_neg (by omega), List.getElem?_append_left (by simp; omega), List.getElem?_take_of_lt h1]
    · have hl : (xs.take o).length = o := by simp; omega
      rw [List.getElem?_append_right (by omega), hl]
      by_cases h2 : i < o + vs.length
      · rw [if_pos (by omega), List.getElem?_append_left (by omega)]
      · rw [if_neg (by omega), List.getElem?_append_right (by omega), List.getElem?_drop]
        congr 1
        omega
  · rw [Array.getElem?_eq_none (by rw [putC_size]; simpa using hi), Array.getElem?_eq_none (by simp; omega)]
section
variable {P : Program} {ops : Array Oper} {rest : List Oper} {o : Oper} {a : Act} {w0 w : World} {Q : Exit → Act → World → Prop} {L : List It}
theorem blk_setCells {w : World} {g : Nat} {t : TypeId} {cs : Array Value} (h : Blk w g t cs) (vs : List Value) (i : Nat) : Blk (w.setCells g i vs) g t (putC vs i cs) := by
  induction vs generalizing w i cs with
  | nil => exact h
  | cons v vs ih => exact ih (h.set_ i v) (i + 1)
theorem grown_setCells (g : Nat) (vs : List Value) : ∀ (w : World) (i : Nat), w.grownBy (w.setCells g i vs) (some g) := by
  induction vs with
  | nil => intro w i; exact ⟨rfl, rfl, rfl, Nat.le_refl _, fun _ _ _ => rfl⟩
  | cons v vs ih =>
    intro w i
    have h1 := grown_set (w := w) g i v
    have h2 := ih (w.setCell ⟨g, i, none⟩ v) (i + 1)
    exact ⟨h2.os.trans h1.os, h2.tape.trans h1.tape, h2.output.trans h1.output, Nat.le_trans h1.size h2.size, fun k hk hne => (h2.block k (Nat.lt_of_lt_of_le hk h1.size) hne).trans (h1.block k hk hne)⟩
theorem Mem.setCells_ (M : Mem w0 w L) {p g : Nat} {t : TypeId} {cs : Array Value} (hL : L[p]? = some (.blk g t cs)) (i : Nat) (vs : List Value) : Mem w0 (w.setCells g i vs) (L.set p (.blk g t (putC vs i cs))) :=
  M.change hL (grown_setCells g vs w i) ⟨(M.at_ hL).1, blk_setCells (M.at_ hL).2 vs i⟩ (fun k hk => .inl hk)
theorem mem_storeP (M : Mem w0 w L) (hgd : o.guard = none) {ty : TypeId} {x y : Operand} (ho : o.op = .store ty x y) {g i : Nat} (hx : a.eval x = .pointer (some ⟨g, i, none⟩)) {cells : Array Value} (hy : a.eval y = .agg cells) {n : Nat} [hT : RowT P ty n]
    (p : Nat) {t : TypeId} {cs : Array Value} (hL : L[p]? = some (.blk g t cs)) (hn : cells.size = n) (hn2 : i + n ≤ cs.size) (h1 : cells.all (·.oneCell') = true)
    (h : ∀ w', Mem w0 w' (L.set p (.blk g t (putC cells.toList i cs))) → wpList P ops Q rest (a.put o.dst undef) w') : wpList P ops Q (o :: rest) a w := by
  obtain ⟨d, _, _, h3⟩ := hT.out
  have hth : w.there g i cells.size := fun j hj => by
    refine ⟨?_, M.frozen_ hL _⟩
    rw [Blk.cell_ (M.at_ hL).2 (i := i + j) (v := cs[i + j]'(by omega)) (Array.getElem?_eq_getElem (by omega))]
    rfl
  exact wpList_store_mid hgd ty x y ho g i cells hx hy hth (by rw [h3, hn]) h1 (h _ (M.setCells_ hL i cells.toList))

/-- A call: what comes back, and memory that at most grew. -/
def Ret (P : Program) (f : FuncId) (args : Array Value) (w : World) (R : Value → World → Prop) : Prop := Calls P f args w fun e w' => ∃ r, e = .returned r ∧ R r w' ∧ Up w w'
theorem Ret.of {f : FuncId} {args : Array Value} {w : World} {v : Value} (h : Calls P f args w fun e w' => e = .returned v ∧ Up w w') : Ret P f args w fun r _ => r = v :=
  Calls.mono h fun e w' ⟨he, hb⟩ => ⟨v, he, rfl, hb⟩
theorem Ret.same {f : FuncId} {args : Array Value} {w : World} {v : Value} (h : Calls P f args w fun e w' => e = .returned v ∧ w' = w) : Ret P f args w fun r _ => r = v :=
  Calls.mono h fun e w' ⟨he, hb⟩ => ⟨v, he, rfl, by rw [hb]; exact Up.refl _⟩
theorem Ret.same' {f : FuncId} {args : Array Value} {w : World} {v : Value} (h : Calls P f args w fun e w' => e = .returned v ∧ w = w') : Ret P f args w fun r _ => r = v :=
  Calls.mono h fun e w' ⟨he, hb⟩ => ⟨v, he, rfl, by rw [hb]; exact Up.refl _⟩
theorem Ret.drew {f : FuncId} {args : Array Value} {w : World} {v : Value} (h : Calls P f args w fun e w' => e = .returned v ∧ ∃ n, w' = w.drewN n) : Ret P f args w fun r _ => r = v :=
  Calls.mono h fun e w' ⟨he, n, hb⟩ => ⟨v, he, rfl, by rw [hb]; exact (Up.refl _).drewN n⟩
theorem Ret.mono {f : FuncId} {args : Array Value} {w : World} {R R' : Value → World → Prop} (h : Ret P f args w R) (hr : ∀ r w', Up w w' → R r w' → R' r w') : Ret P f args w R' :=
  Calls.mono h fun e w' ⟨r, he, h1, h2⟩ => ⟨r, he, hr r w' h2 h1, h2⟩
theorem mem_call {f : FuncId} {args : Array Value} {R : Value → World → Prop} (M : Mem w0 w L) {K : Ending → World → Prop} (h : Ret P f args w R) (k : ∀ r w', R r w' → Up w w' → Mem w0 w' L → K (.returned r) w') : Calls P f args w K :=
  Calls.mono h fun e w' ⟨r, he, h1, h2⟩ => by
    subst he
    exact k r w' h1 h2 (M.grow h2)
theorem ret_start {f : FuncId} {args : Array Value} {R : Value → World → Prop} (h : ∀ wx, Mem w wx [] → Calls P f args wx fun e w' => ∃ r, e = .returned r ∧ R r w' ∧ Up w w') : Ret P f args w R := h w (Mem.start w)
end

/-! Slices that the call makes: a literal, make, append. -/
section
variable {P : Program} {ops : Array Oper} {rest : List Oper} {o : Oper} {a : Act} {w0 w : World} {Q : Exit → Act → World → Prop} {L : List It}

/-- A slice literal of one element. -/
theorem fill_one (size : Nat) (cs : Array Value) (v : Value) (hz : cs.size = size) (hv : v.cells.size = size) : Instr.fill (fun i => some (i * size, size)) cs [(0, v)] = some v.cells := by
  have key : ∀ (l : List Value) (k : Nat) (c : Array Value), k + l.length = c.size → ∀ i, i < c.size →
      (((l.zipIdx k).foldl (fun cs (x : Value × Nat) => cs.setIfInBounds (0 * size + x.2) x.1) c)[i]? = if k ≤ i then l[i - k]? else c[i]?) ∧ ((l.zipIdx k).foldl (fun cs (x : Value × Nat) => cs.setIfInBounds (0 * size + x.2) x.1) c).size = c.size := by
    intro l
    induction l with
    | nil =>
      intro k c hk i hi
      simp at hk
      simp only [List.zipIdx_nil, List.foldl_nil]
      rw [if_neg (by omega)]
      exact ⟨rfl, trivial⟩
    | cons u l ih =>
      intro k c hk i hi
      simp only [List.length_cons] at hk
      simp only [List.zipIdx_cons, List.foldl_cons]
      have := ih (k + 1) (c.setIfInBounds (0 * size + k) u) (by rw [Array.size_setIfInBounds]; omega) i (by rw [Array.size_setIfInBounds]; exact hi)
      rw [this.1, this.2]
      refine ⟨?_, by rw [Array.size_setIfInBounds]⟩
      by_cases h1 : i = k
      · subst h1
        rw [if_neg (by omega), if_pos (Nat.le_refl _), Nat.sub_self]
        simp [hi]
      · by_cases h2 : k ≤ i
        · rw [if_pos (by omega), if_pos h2, show i - k = (i - (k + 1)) + 1 by omega, List.getElem?_cons_succ]
        · rw [if_neg (by omega), if_neg h2, Array.getElem?_setIfInBounds_ne (by omega)]
  unfold Instr.fill
  simp only
  rw [if_neg (by simp [hv, hz])]
  unfold Instr.fill
  congr 1
  have hf := key v.cells.toList 0 cs (by simp [hv, hz])
  apply Array.ext_getElem?
  intro i
  by_cases hi : i < cs.size
  · have := (hf i hi).1
    rw [if_pos (Nat.zero_le _), Nat.sub_zero] at this
    rw [← Array.getElem?_toList (xs := v.cells), ← this, ← Array.foldl_toList, Array.toList_zipIdx]
  · rw [Array.getElem?_eq_none (xs := v.cells) (by omega), Array.getElem?_eq_none]
    rcases Nat.eq_zero_or_pos cs.size with h0 | h0
    · have hv0 : v.cells = #[] := Array.eq_empty_of_size_eq_zero (by omega)
      rw [hv0]
      show cs.size ≤ i
      omega
    · have := (hf 0 h0).2
      rw [← Array.foldl_toList, Array.toList_zipIdx, this]
      omega
theorem mem_lit1 (M : Mem w0 w L) (hgd : o.guard = none) {t : TypeId} {x : Operand} (ho : o.op = .buildSlice t 1 #[(0, x)]) {e : TypeId} [ht : SliceT P t e] {size bytes : Nat} {z : Value} [he : ElT P e size bytes z]
    {v : Value} (hx : a.eval x = v) {cs : Array Value} (hv : v.cells = cs) (hs : cs.size = size) (hsm : size ≤ 16777216)
    (h : ∀ g w', Mem w0 w' (.blk g e cs :: L) → wpList P ops Q rest (a.put o.dst (.slice (some ⟨g, 0, none⟩) 1 1)) w') : wpList P ops Q (o :: rest) a w := by
  obtain ⟨h1, h2, h3⟩ := he.out
  obtain ⟨i0, hi0, hz0, hz1, hz2⟩ := info_parts h1
  refine wpList_buildSlice hgd t e 1 #[(0, x)] ho cs i0 z ht.out hi0 hz0 (by rw [hz1]; omega) (by rw [hz1]; omega) ?_ (h _ _ (M.alloc_ e cs))
  rw [hz1]
  simp only [List.map_toArray, List.map_cons, List.map_nil]
  rw [← hv]
  subst hx
  refine fill_one size _ _ ?_ (by rw [hv, hs])
  simp

/-- Append to a slice of the call's own: what comes out, and where it lies. -/
theorem run_append_it (B : Nat) (t ty e : TypeId) (i : TypeInfo) (z : Value) (size bytes : Nat) (ht : P.underlying t = some (.slice e)) (hi : P.info? e = some i) (hz : i.zero = some z)
    (hsize : i.size = size) (hby : i.bytes = bytes) (hzs : z.cells.size = size) (hsz : 0 < size)
    (b : Option Addr) (cap n : Nat) (xs : List Value) (hown : w.ownsRow B e size (.slice b n cap) n xs)
    (ad : Option Addr) (m c : Nat) (news : List Value) (hl : news.length = m * size) (hnews : ∀ j u, news[j]? = some u → ∃ q, ad = some q ∧ w.cell? (q.add j) = some u) (h1 : ∀ u ∈ news, u.oneCell' = true)
    (h63 : n + m ≤ maxLen) (hbytes : (n + m) * bytes ≤ 140737488355328) (hbase : B ≤ w.heap.size) :
    ∃ b' cap' w', (Builtin.append_ #[t, t] ty #[.slice b n cap, .slice ad m c]).run P w = .ok (.slice b' (n + m) cap') w' ∧ w'.ownsRow B e size (.slice b' (n + m) cap') (n + m) (xs ++ news) ∧ w.grownBy w' (Value.slice b n cap).ownBlock ∧
      (∀ k, (Value.slice b' (n + m) cap').ownBlock = some k → (Value.slice b n cap).ownBlock = some k ∨ w.heap.size ≤ k) := by
  cases ad with
  | none =>
    have hn0 : news = [] := by
      rcases news with _ | ⟨u, news⟩
      · rfl
      · obtain ⟨q, hq, _⟩ := hnews 0 u rfl
        cases hq
    subst hn0
    have hm0 : m = 0 := by
      rcases Nat.mul_eq_zero.1 (show m * size = 0 by simpa using hl.symm) with h | h <;> omega
    subst hm0
    have hnc : n ≤ cap := by
      rcases hown.2 with ⟨hv, hn⟩ | ⟨g, cap', cur, hv, _, _, hn, _⟩
      · omega
      · injection hv with _ _ e3
        omega
    refine ⟨b, cap, w, ?_, by simpa using hown, ⟨rfl, rfl, rfl, Nat.le_refl _, fun _ _ _ => rfl⟩, fun k hk => .inl hk⟩
    subst hsize
    cases b <;> simp [Builtin.append_, run_underlying ht, sizeOf, typeInfo, hi, Builtin.lenOf, hnc, Builtin.firstCells, storeCells]
  | some q =>
    have hnews' : ∀ j u, news[j]? = some u → w.cell? (q.add j) = some u := fun j u hj => by
      obtain ⟨q', hq, hc⟩ := hnews j u hj
      obtain rfl := Option.some.inj hq
      exact hc
    obtain ⟨v', w', hr, ho, hg, -⟩ := run_append_own (P := P) w B t ty e i z size bytes ht hi hz hsize hby hzs hsz (.slice b n cap) n xs hown q m c news hl hnews' h1 h63 hbytes hbase
    have hshape : ∃ b' cap', v' = .slice b' (n + m) cap' := by
      rcases ho.2 with ⟨h, h0⟩ | ⟨g, cap', cur, h, _⟩
      · exact ⟨none, 0, by rw [h]; congr 1; omega⟩
      · exact ⟨_, cap', h⟩
    obtain ⟨b', cap', rfl⟩ := hshape
    refine ⟨b', cap', w', hr, ho, hg, fun k hk => ?_⟩
    subst hsize hby
    rcases hown.2 with ⟨hv, rfl⟩ | ⟨g, cap0, cur, hv, hbg, hgg, hnc, hcm, hcs, htake⟩
    · injection hv with e1 e2 e3
      subst e1 e3
      by_cases hm : m = 0
      · subst hm
        have hn : news = [] := List.eq_nil_of_length_eq_zero (by simpa using hl)
        subst hn
        have hr2 : (Builtin.append_ #[t, t] ty #[.slice none 0 0, .slice (some q) 0 c]).run P w = .ok (.slice none 0 0) w := by
          simp [Builtin.append_, run_underlying ht, sizeOf, typeInfo, hi, Builtin.lenOf, Builtin.firstCells, loadCells, loadCellsFrom]
        rw [hr2] at hr
        injection hr with hr _
        rw [← hr] at hk
        simp [Value.ownBlock] at hk
      · have hr2 := run_append_nil (P := P) w t ty e i z ht hi hz q m c news hl hnews' (by omega) (by simp only [maxLen] at h63; omega) (by have hb := hbytes; simp only [Nat.zero_add] at hb; omega)
        rw [hr2] at hr
        injection hr with hr _
        rw [← hr] at hk
        simp [Value.ownBlock] at hk
        exact .inr (by omega)
    · injection hv with e1 e2 e3
      subst e1 e3
      by_cases hroom : n + m ≤ cap
      · have hfit : n * i.size + news.length ≤ cur.size := by rw [hl, hcs, ← Nat.add_mul]; exact Nat.mul_le_mul_right _ hroom
        have hr2 := run_append_room (P := P) w t ty e i ht hi g n cap cur hgg q m c news hl hnews' h1 hroom hfit
        rw [hr2] at hr
        injection hr with hr _
        rw [← hr] at hk
        exact .inl hk
      · have holds : ∀ j u, xs[j]? = some u → w.cell? ((⟨g, 0, none⟩ : Addr).add j) = some u := hown.cells (g := g) rfl
        have hr2 := run_append_grow (P := P) w t ty e i z ht hi hz ⟨g, 0, none⟩ n cap xs hown.1 holds q m c news hl hnews' (by omega) (by simp only [maxLen] at h63; omega) (growslice_fits (by omega) hbytes)
        rw [hr2] at hr
        injection hr with hr _
        rw [← hr] at hk
        simp [Value.ownBlock] at hk
        exact .inr (by omega)
theorem run_append_mem (M : Mem w0 w L) {t ty e : TypeId} (ht : SliceT P t e) {size bytes : Nat} {z : Value} (he : ElT P e size bytes z)
    {p : Nat} {b : Option Addr} {cap n : Nat} {xs : List Value} (hL : L[p]? = some (.own b cap e size n xs))
    {v : Value} {m : Nat} {news : List Value} (hr : Rd w size v m news) (h63 : n + m ≤ maxLen) (hbytes : (n + m) * bytes ≤ 140737488355328) :
    ∃ b' cap' w', (Builtin.append_ #[t, t] ty #[.slice b n cap, v]).run P w = .ok (.slice b' (n + m) cap') w' ∧ Mem w0 w' (L.set p (.own b' cap' e size (n + m) (xs ++ news))) := by
  obtain ⟨h1, h2, h3⟩ := he.out
  obtain ⟨i0, hi0, hz0, hz1, hz2⟩ := info_parts h1
  obtain ⟨ad, c, rfl, hmc, hcm, hl, hone, hcells⟩ := hr
  obtain ⟨b', cap', w', g1, g2, g3, g4⟩ := run_append_it (P := P) (w := w) w0.heap.size t ty e i0 z size bytes ht.out hi0 hz0 hz1 hz2 h2 h3 b cap n xs (M.at_ hL) ad m c news hl (by
    intro j u hj
    rcases hcells with rfl | ⟨g, o, rfl, hg, hrng⟩
    · rw [Nat.zero_mul] at hl
      have := (List.getElem?_eq_some_iff.1 hj).1
      omega
    · exact ⟨_, rfl, by rw [Addr.add_mid]; exact hrng j u hj⟩) hone h63 hbytes M.le
  exact ⟨b', cap', w', g1, M.change hL g3 g2 g4⟩
theorem mem_append (M : Mem w0 w L) (hgd : o.guard = none) {s x : Operand} {t : TypeId} (ho : o.op = .call { callee := .builtin .append, args := #[s, x], argTypes := #[t, t] })
    {e : TypeId} [ht : SliceT P t e] {size bytes : Nat} {z : Value} [he : ElT P e size bytes z]
    (p : Nat) {b : Option Addr} {cap n : Nat} {xs : List Value} (hs : a.eval s = .slice b n cap) (hL : L[p]? = some (.own b cap e size n xs))
    {v : Value} {m : Nat} {news : List Value} (hx : a.eval x = v) (hr : Rd w size v m news) (h63 : n + m ≤ maxLen) (hbytes : (n + m) * bytes ≤ 140737488355328)
    (h : ∀ b' cap' w', Mem w0 w' (L.set p (.own b' cap' e size (n + m) (xs ++ news))) → wpList P ops Q rest (a.put o.dst (.slice b' (n + m) cap')) w') : wpList P ops Q (o :: rest) a w :=
  wpList_plain hgd fun _ hK => by
    obtain ⟨b', cap', w', g1, g2⟩ := run_append_mem (ty := o.type) M ht he hL hr h63 hbytes
    unfold Oper.wp execOp
    simp only [ho, resolve, invoke, builtin, Sem.run_bind, Sem.run_pure, Result.andThen_ok, List.map_toArray, List.map_cons, List.map_nil, hs, hx, g1]
    exact hK _ _ (h _ _ _ g2)
/-- The appended element lies in a block made just before: the first of the things; it is forgotten. -/
theorem mem_append1 {g : Nat} {cs : Array Value} {e : TypeId} (M : Mem w0 w (.blk g e cs :: L)) (hgd : o.guard = none) {s x : Operand} {t : TypeId} (ho : o.op = .call { callee := .builtin .append, args := #[s, x], argTypes := #[t, t] })
    [ht : SliceT P t e] {size bytes : Nat} {z : Value} [he : ElT P e size bytes z]
    (p : Nat) {b : Option Addr} {cap n : Nat} {xs : List Value} (hs : a.eval s = .slice b n cap) (hL : L[p]? = some (.own b cap e size n xs))
    {m : Nat} (hx : a.eval x = .slice (some ⟨g, 0, none⟩) m m) (hsz : cs.size = m * size) (h1 : cs.all (·.oneCell') = true) (h63 : n + m ≤ maxLen) (hbytes : (n + m) * bytes ≤ 140737488355328)
    (h : ∀ b' cap' w', Mem w0 w' (L.set p (.own b' cap' e size (n + m) (xs ++ cs.toList))) → wpList P ops Q rest (a.put o.dst (.slice b' (n + m) cap')) w') : wpList P ops Q (o :: rest) a w := by
  have hb : Blk w g e cs := (M.at_ (p := 0) rfl).2
  refine mem_append (size := size) M hgd ho (p + 1) hs (by simpa using hL) hx ⟨_, m, rfl, Nat.le_refl _, by omega, by rw [Array.length_toList]; exact hsz, fun u hu => (Array.all_eq_true_iff_forall_mem.1 h1) u (by simpa using hu), .inr ⟨g, 0, rfl, hb.lt, Blk.rng hb 0 _ (fun j v hj => by simpa using hj)⟩⟩ h63 hbytes ?_
  intro b' cap' w' M'
  exact h b' cap' w' (by simpa using M'.tail)

/-- An empty slice of the call's own begins. -/
theorem Mem.nil_own (M : Mem w0 w L) (e : TypeId) (size : Nat) : Mem w0 w (.own none 0 e size 0 [] :: L) :=
  M.add (Up.refl _) (World.ownsRow_nil w w0.heap.size e size) (fun k hk => by simp [It.foot, Value.ownBlock] at hk)
/-- A block becomes a slice of the call's own. -/
theorem Mem.blk_own {g : Nat} {e : TypeId} {cs : Array Value} {p : Nat} (M : Mem w0 w L) (hL : L[p]? = some (.blk g e cs)) (size n cap : Nat) (hn : n ≤ cap) (hm : cap ≤ maxLen) (hs : cs.size = cap * size) {xs : List Value} (hx : cs.toList.take (n * size) = xs) :
    Mem w0 w (L.set p (.own (some ⟨g, 0, none⟩) cap e size n xs)) := by
  have hok := M.at_ hL
  refine M.change (x' := .own (some ⟨g, 0, none⟩) cap e size n xs) hL ⟨rfl, rfl, rfl, Nat.le_refl _, fun _ _ _ => rfl⟩ ?_ (fun k hk => .inl hk)
  refine ⟨?_, .inr ⟨g, cap, cs, rfl, hok.1, hok.2, hn, hm, hs, hx⟩⟩
  rw [← hx, List.length_take, Array.length_toList, hs]
  exact Nat.min_eq_left (Nat.mul_le_mul_right _ hn)
/-- A slice of the call's own that is not nil, as a block. -/
theorem Mem.own_blk {b : Option Addr} {cap n size : Nat} {e : TypeId} {xs : List Value} {p : Nat} (M : Mem w0 w L) (hL : L[p]? = some (.own b cap e size n xs)) (hn : 0 < n) :
    ∃ g tl, b = some ⟨g, 0, none⟩ ∧ n ≤ cap ∧ cap ≤ maxLen ∧ (xs ++ tl).length = cap * size ∧ Mem w0 w (L.set p (.blk g e (xs ++ tl).toArray)) := by
  have hok : w.ownsRow w0.heap.size e size (.slice b n cap) n xs := M.at_ hL
  rcases hok.2 with ⟨hv, rfl⟩ | ⟨g, cap', cur, hv, hbg, hgg, hnc, hcm, hcs, htake⟩
  · omega
  · injection hv with e1 e2 e3
    subst e1 e3
    have hx : (xs ++ cur.toList.drop (n * size)) = cur.toList := by rw [← htake, List.take_append_drop]
    refine ⟨g, cur.toList.drop (n * size), rfl, hnc, hcm, by rw [hx]; simpa using hcs, ?_⟩
    rw [hx]
    exact M.change (x' := .blk g e cur.toList.toArray) hL ⟨rfl, rfl, rfl, Nat.le_refl _, fun _ _ _ => rfl⟩ ⟨hbg, by show Blk w g e cur.toList.toArray; rw [Array.toArray_toList]; exact hgg⟩ (fun k hk => .inl hk)
theorem Mem.own_len {b : Option Addr} {cap n size : Nat} {e : TypeId} {xs : List Value} {p : Nat} (M : Mem w0 w L) (hL : L[p]? = some (.own b cap e size n xs)) : n ≤ cap ∧ cap ≤ maxLen ∧ xs.length = n * size := by
  have hok : w.ownsRow w0.heap.size e size (.slice b n cap) n xs := M.at_ hL
  rcases hok.2 with ⟨hv, rfl⟩ | ⟨g, cap', cur, hv, hbg, hgg, hnc, hcm, hcs, htake⟩
  · injection hv with e1 e2 e3
    exact ⟨by omega, by simp only [maxLen]; omega, hok.1⟩
  · injection hv with e1 e2 e3
    exact ⟨by omega, by omega, hok.1⟩
theorem Mem.rd (M : Mem w0 w L) {b : Option Addr} {cap n size : Nat} {e : TypeId} {xs : List Value} {p : Nat} (hL : L[p]? = some (.own b cap e size n xs)) (h1 : ∀ u ∈ xs, u.oneCell' = true) : Rd w size (.slice b n cap) n xs :=
  own_rd (M.at_ hL) h1
/-- A fresh block as a slice that reads. -/
theorem Mem.rd_blk (M : Mem w0 w L) {g : Nat} {t : TypeId} {cs : Array Value} {p : Nat} (hL : L[p]? = some (.blk g t cs)) (size o n cap : Nat) (xs : List Value) (hx : ∀ j v, xs[j]? = some v → cs[o + j]? = some v) (hl : xs.length = n * size) (hn : n ≤ cap) (hm : cap ≤ maxLen) (h1 : ∀ u ∈ xs, u.oneCell' = true) :
    Rd w size (.slice (some ⟨g, o, none⟩) n cap) n xs :=
  ⟨_, cap, rfl, hn, hm, hl, h1, .inr ⟨g, o, rfl, (M.at_ hL).2.lt, Blk.rng (M.at_ hL).2 o xs hx⟩⟩
end

/-! Where a thing stands in the list, found by instances. -/
class AtG (L : List It) (g : Nat) (p : outParam Nat) (t : outParam TypeId) (cs : outParam (Array Value)) : Prop where
  out : L[p]? = some (.blk g t cs)
instance {g : Nat} {t : TypeId} {cs : Array Value} {L : List It} : AtG (.blk g t cs :: L) g 0 t cs := ⟨rfl⟩
instance {g p : Nat} {t : TypeId} {cs : Array Value} {x : It} {L : List It} [h : AtG L g p t cs] : AtG (x :: L) g (p + 1) t cs := ⟨by simpa using h.out⟩
class AtO (L : List It) (b : Option Addr) (cap : Nat) (n p : outParam Nat) (e : outParam TypeId) (size : outParam Nat) (xs : outParam (List Value)) : Prop where
  out : L[p]? = some (.own b cap e size n xs)
instance {b : Option Addr} {cap n : Nat} {e : TypeId} {size : Nat} {xs : List Value} {L : List It} : AtO (.own b cap e size n xs :: L) b cap n 0 e size xs := ⟨rfl⟩
instance {b : Option Addr} {cap n p : Nat} {e : TypeId} {size : Nat} {xs : List Value} {x : It} {L : List It} [h : AtO L b cap n p e size xs] : AtO (x :: L) b cap n (p + 1) e size xs := ⟨by simpa using h.out⟩

section
variable {P : Program} {ops : Array Oper} {rest : List Oper} {o : Oper} {a : Act} {w0 w : World} {Q : Exit → Act → World → Prop} {L : List It}
theorem m_load (M : Mem w0 w L) (hgd : o.guard = none) {ty : TypeId} {x : Operand} (ho : o.op = .load ty x) {g i : Nat} (hx : a.eval x = .pointer (some ⟨g, i, none⟩)) [hT : OneT P ty]
    {p : Nat} {t : TypeId} {cs : Array Value} [hL : AtG L g p t cs] {v : Value} (hc : cs[i]? = some v)
    (h : wpList P ops Q rest (a.put o.dst v) w) : wpList P ops Q (o :: rest) a w := mem_load M hgd ho hx p hL.out hc h
theorem m_loadR (M : Mem w0 w L) (hgd : o.guard = none) {ty : TypeId} {x : Operand} (ho : o.op = .load ty x) {g : Nat} (hx : a.eval x = .pointer (some ⟨g, 0, none⟩)) {n : Nat} [hT : RowT P ty n]
    {p : Nat} {t : TypeId} {cs : Array Value} [hL : AtG L g p t cs] (hn : cs.size = n)
    (h : wpList P ops Q rest (a.put o.dst (.agg cs)) w) : wpList P ops Q (o :: rest) a w := mem_loadR M hgd ho hx p hL.out hn h
theorem m_loadP (M : Mem w0 w L) (hgd : o.guard = none) {ty : TypeId} {x : Operand} (ho : o.op = .load ty x) {g i : Nat} (hx : a.eval x = .pointer (some ⟨g, i, none⟩)) {n : Nat} [hT : RowT P ty n]
    {p : Nat} {t : TypeId} {cs : Array Value} [hL : AtG L g p t cs] {xs : List Value} (hc : ∀ j v, xs[j]? = some v → cs[i + j]? = some v) (hn : xs.length = n)
    (h : wpList P ops Q rest (a.put o.dst (.agg xs.toArray)) w) : wpList P ops Q (o :: rest) a w := mem_loadP M hgd ho hx p hL.out hc hn h
theorem m_store (M : Mem w0 w L) (hgd : o.guard = none) {ty : TypeId} {x y : Operand} (ho : o.op = .store ty x y) {g i : Nat} (hx : a.eval x = .pointer (some ⟨g, i, none⟩)) {v : Value} (hy : a.eval y = v) (hv : v.oneCell' = true) [hT : OneT P ty]
    {p : Nat} {t : TypeId} {cs : Array Value} [hL : AtG L g p t cs] (hi : i < cs.size)
    (h : ∀ w', Mem w0 w' (L.set p (.blk g t (cs.setIfInBounds i v))) → wpList P ops Q rest (a.put o.dst undef) w') : wpList P ops Q (o :: rest) a w := mem_store M hgd ho hx hy hv p hL.out hi h
theorem m_storeR (M : Mem w0 w L) (hgd : o.guard = none) {ty : TypeId} {x y : Operand} (ho : o.op = .store ty x y) {g : Nat} (hx : a.eval x = .pointer (some ⟨g, 0, none⟩)) {cells : Array Value} (hy : a.eval y = .agg cells) {n : Nat} [hT : RowT P ty n]
    {p : Nat} {t : TypeId} {cs : Array Value} [hL : AtG L g p t cs] (hn : cells.size = n) (hn2 : cs.size = n) (h1 : cells.all (·.oneCell') = true)
    (h : ∀ w', Mem w0 w' (L.set p (.blk g t cells)) → wpList P ops Q rest (a.put o.dst undef) w') : wpList P ops Q (o :: rest) a w := mem_storeR M hgd ho hx hy p hL.out hn hn2 h1 h
theorem m_storeP (M : Mem w0 w L) (hgd : o.guard = none) {ty : TypeId} {x y : Operand} (ho : o.op = .store ty x y) {g i : Nat} (hx : a.eval x = .pointer (some ⟨g, i, none⟩)) {cells : Array Value} (hy : a.eval y = .agg cells) {n : Nat} [hT : RowT P ty n]
    {p : Nat} {t : TypeId} {cs : Array Value} [hL : AtG L g p t cs] (hn : cells.size = n) (hn2 : i + n ≤ cs.size) (h1 : cells.all (·.oneCell') = true)
    (h : ∀ w', Mem w0 w' (L.set p (.blk g t (putC cells.toList i cs))) → wpList P ops Q rest (a.put o.dst undef) w') : wpList P ops Q (o :: rest) a w := mem_storeP M hgd ho hx hy p hL.out hn hn2 h1 h
theorem m_append (M : Mem w0 w L) (hgd : o.guard = none) {s x : Operand} {t : TypeId} (ho : o.op = .call { callee := .builtin .append, args := #[s, x], argTypes := #[t, t] })
    {e : TypeId} [ht : SliceT P t e] {size bytes : Nat} {z : Value} [he : ElT P e size bytes z]
    {p : Nat} {b : Option Addr} {cap n : Nat} {xs : List Value} {n' : Nat} (hs : a.eval s = .slice b n' cap) [hL : AtO L b cap n p e size xs] (hn : n' = n)
    {v : Value} (hx : a.eval x = v) {m : Nat} {news : List Value} (hr : Rd w size v m news) (h63 : n + m ≤ maxLen) (hbytes : (n + m) * bytes ≤ 140737488355328)
    (h : ∀ b' cap' w', Mem w0 w' (L.set p (.own b' cap' e size (n + m) (xs ++ news))) → wpList P ops Q rest (a.put o.dst (.slice b' (n + m) cap')) w') : wpList P ops Q (o :: rest) a w :=
  mem_append M hgd ho p (hn ▸ hs) hL.out hx hr h63 hbytes h
theorem m_append1 {g : Nat} {cs : Array Value} {e : TypeId} (M : Mem w0 w (.blk g e cs :: L)) (hgd : o.guard = none) {s x : Operand} {t : TypeId} (ho : o.op = .call { callee := .builtin .append, args := #[s, x], argTypes := #[t, t] })
    [ht : SliceT P t e] {size bytes : Nat} {z : Value} [he : ElT P e size bytes z]
    {p : Nat} {b : Option Addr} {cap n : Nat} {xs : List Value} {n' : Nat} (hs : a.eval s = .slice b n' cap) [hL : AtO L b cap n p e size xs] (hn : n' = n)
    {m : Nat} (hx : a.eval x = .slice (some ⟨g, 0, none⟩) m m) (hsz : cs.size = m * size) (h1 : cs.all (·.oneCell') = true) (h63 : n + m ≤ maxLen) (hbytes : (n + m) * bytes ≤ 140737488355328)
    (h : ∀ b' cap' w', Mem w0 w' (L.set p (.own b' cap' e size (n + m) (xs ++ cs.toList))) → wpList P ops Q rest (a.put o.dst (.slice b' (n + m) cap')) w') : wpList P ops Q (o :: rest) a w :=
  mem_append1 M hgd ho p (hn ▸ hs) hL.out hx hsz h1 h63 hbytes h
theorem Mem.addO (M : Mem w0 w L) {w' : World} (hb : Up w w') {b : Option Addr} {cap n size : Nat} {e : TypeId} {xs : List Value} (h : w'.ownsRow w.heap.size e size (.slice b n cap) n xs) : Mem w0 w' (.own b cap e size n xs :: L) := by
  refine M.add (x := .own b cap e size n xs) hb ?_ (fun k hk => (World.ownsRow.lt h k hk).1)
  refine ⟨h.1, ?_⟩
  rcases h.2 with h2 | ⟨g, cap', cur, hv, hg, r⟩
  · exact .inl h2
  · exact .inr ⟨g, cap', cur, hv, Nat.le_trans M.le hg, r⟩
theorem Mem.out_own {p : Nat} {b : Option Addr} {cap n size : Nat} {e : TypeId} {xs : List Value} (M : Mem w0 w L) (hL : L[p]? = some (.own b cap e size n xs)) : w.ownsRow w0.heap.size e size (.slice b n cap) n xs := M.at_ hL
theorem Mem.cellG (M : Mem w0 w L) {g : Nat} {p : Nat} {t : TypeId} {cs : Array Value} [hL : AtG L g p t cs] {i : Nat} {v : Value} (hc : cs[i]? = some v) : w.cell? ⟨g, i, none⟩ = some v := (M.at_ hL.out).2.cell_ hc
theorem Mem.freeG (M : Mem w0 w L) (g : Nat) {p : Nat} {t : TypeId} {cs : Array Value} [hL : AtG L g p t cs] (i : Nat) : w.frozen? ⟨g, i, none⟩ = false := (M.at_ hL.out).2.free i
theorem Mem.blkG (M : Mem w0 w L) (g : Nat) {p : Nat} {t : TypeId} {cs : Array Value} [hL : AtG L g p t cs] : Blk w g t cs := (M.at_ hL.out).2
theorem Mem.setG (M : Mem w0 w L) (g : Nat) {p : Nat} {t : TypeId} {cs : Array Value} [hL : AtG L g p t cs] (i : Nat) (v : Value) : Mem w0 (w.setCell ⟨g, i, none⟩ v) (L.set p (.blk g t (cs.setIfInBounds i v))) := M.set_ hL.out i v

/-- The end: an array or a struct out of its variable. -/
theorem m_ret {fn : Func} {r : Tmp} {ty : TypeId} {R : Value → World → Prop} (M : Mem w0 w L) (hd : a.defers = []) (h : fn.results = #[.cell r ty]) {g : Nat} (hp : a.tmps.getD r undef = .pointer (some ⟨g, 0, none⟩)) {n : Nat} [hT : RowT P ty n]
    {p : Nat} {t : TypeId} {cs : Array Value} [hL : AtG L g p t cs] (hn : cs.size = n) (hR : R (.agg cs) w) :
    bodyPost P fn (fun e w' => ∃ r, e = .returned r ∧ R r w' ∧ Up w0 w') .ret a w := by
  obtain ⟨d, h1, h2, h3⟩ := hT.out
  exact bodyPost_ret (results_cell_row h _ _ g t cs (0, 0) d hp (M.blkG g) h1 (by cases d <;> simp_all) (by rw [h3, hn])) hd ⟨_, rfl, hR, M.up⟩
end

/-! More operations: empty literals, slicing. -/
/-- A struct or an array literal without parts. -/
class ZeroB (P : Program) (ty : TypeId) (cs : outParam (Array Value)) : Prop where
  out : P.built ty [] = some cs
/-- A result that is a fresh slice. -/
def OwnR (w w' : World) (e : TypeId) (size : Nat) (r : Value) (n : Nat) (xs : List Value) : Prop := ∃ b cap, r = .slice b n cap ∧ w'.ownsRow w.heap.size e size (.slice b n cap) n xs
section
variable {P : Program} {ops : Array Oper} {rest : List Oper} {o : Oper} {a : Act} {w0 w : World} {Q : Exit → Act → World → Prop} {L : List It}
theorem m_buildZ (hgd : o.guard = none) {ty : TypeId} (ho : o.op = .build ty #[]) {cs : Array Value} [hz : ZeroB P ty cs] (h : wpList P ops Q rest (a.put o.dst (.agg cs)) w) : wpList P ops Q (o :: rest) a w := by
  have hf : P.built ty ((#[] : Array (Nat × Operand)).map fun (i, x) => (i, a.eval x)).toList = some cs := by simpa using hz.out
  refine wpList_build hgd ty #[] ho (by rw [hf]; rfl) ?_
  rw [hf]
  exact h
theorem m_lit0 (M : Mem w0 w L) (hgd : o.guard = none) {t : TypeId} (ho : o.op = .buildSlice t 0 #[]) {e : TypeId} [ht : SliceT P t e] {size bytes : Nat} {z : Value} [he : ElT P e size bytes z]
    (h : ∀ g w', Mem w0 w' (.own (some ⟨g, 0, none⟩) 0 e size 0 [] :: L) → wpList P ops Q rest (a.put o.dst (.slice (some ⟨g, 0, none⟩) 0 0)) w') : wpList P ops Q (o :: rest) a w :=
  wpList_plain hgd fun _ hK => by
    obtain ⟨h1, h2, h3⟩ := he.out
    obtain ⟨i0, hi0, hz0, hz1, hz2⟩ := info_parts h1
    have hr : (Instr.buildSlice t 0 #[]).run P w = .ok (.slice (some ⟨w.heap.size, 0, none⟩) 0 0) (w.alloc (.cells #[] e)) := by
      have h0 : Array.map (fun (_ : Nat) => (default : Value)) (Array.range 0) = #[] := Array.eq_empty_of_size_eq_zero (by simp)
      simp [Instr.buildSlice, run_underlying ht.out, sizeOf, typeInfo, hi0, Instr.fill, newRow, h0]
    unfold Oper.wp execOp
    simp only [ho, List.map_toArray, List.map_nil, Array.map_empty, Sem.run_bind, hr, Result.andThen_ok, Sem.run_pure]
    refine hK _ _ (h _ _ ?_)
    have M' := M.alloc_ e #[]
    exact M'.blk_own (p := 0) rfl size 0 0 (Nat.le_refl _) (by simp only [maxLen]; omega) (by simp) (by simp)
theorem run_sizeOf {P : Program} {e : TypeId} {size bytes : Nat} {z : Value} (he : ElT P e size bytes z) (w : World) : (sizeOf e).run P w = .ok size w := by
  obtain ⟨i0, hi0, hz0, hz1, hz2⟩ := info_parts he.out.1
  simp [sizeOf, typeInfo, hi0, hz1]
theorem Rd.slice_ {w1 : World} {size n : Nat} {b : Option Addr} {cap : Nat} {xs : List Value} (hr : Rd w1 size (.slice b n cap) n xs) (l h : Nat) (hl : l ≤ h) (hh : h ≤ n) :
    Rd w1 size (.slice (if cap = l then b else b.map (·.add (l * size))) (h - l) (cap - l)) (h - l) ((xs.drop (l * size)).take ((h - l) * size)) := by
  obtain ⟨b', cap', hv, hn, hm, hlen, hone, hc⟩ := hr
  injection hv with e1 e2 e3
  subst e1 e3
  have hlx : ((xs.drop (l * size)).take ((h - l) * size)).length = (h - l) * size := by
    rw [List.length_take, List.length_drop, hlen, ← Nat.sub_mul]
    exact Nat.min_eq_left (Nat.mul_le_mul_right _ (by omega))
  refine ⟨_, _, rfl, by omega, by omega, hlx, fun u hu => hone u (List.mem_of_mem_drop (List.mem_of_mem_take hu)), ?_⟩
  by_cases h0 : h - l = 0
  · exact .inl h0
  · rcases hc with hc | ⟨g, o, rfl, hg, hrng⟩
    · omega
    · refine .inr ⟨g, o + l * size, ?_, hg, fun j u hj => ?_⟩
      · rw [if_neg (by omega)]
        simp [Addr.add_mid]
      · rw [List.getElem?_take] at hj
        split at hj
        · rw [List.getElem?_drop] at hj
          rw [Nat.add_assoc]
          exact hrng _ u hj
        · cases hj
theorem run_slice_ {t e : TypeId} (ht : SliceT P t e) {size bytes : Nat} {z : Value} (he : ElT P e size bytes z) (b : Option Addr) (n cap l h : Nat) (hl : l ≤ h) (hh : h ≤ cap) (lo hi : Option Value)
    (hlo : (match lo with | some v => v = .int .i64 (l : Int) | none => l = 0)) (hhi : (match hi with | some v => v = .int .i64 (h : Int) | none => h = n)) (w : World) :
    (Instr.sliceAt t (.slice b n cap) lo hi none).run P w = .ok (.slice (if cap = l then b else b.map (·.add (l * size))) (h - l) (cap - l)) w := by
  have h1 := run_sizeOf he w
  have e1 : ∀ (x y : Nat) (c : BoundsCode), x ≤ y → (Instr.sliceBound (.int .i64 (x : Int)) y c).run P w = .ok x w := fun x y c hxy => by
    simp only [Instr.sliceBound, asIntOf, Sem.run_bind, Sem.run_pure, Result.andThen_ok]
    rw [if_pos (by omega)]
    simp
  have hb : (Instr.sliceBounds true n cap lo hi none).run P w = .ok (l, h, cap) w := by
    unfold Instr.sliceBounds
    cases lo with
    | none =>
      cases hi with
      | none =>
        simp only at hlo hhi
        subst hlo hhi
        simp
      | some v =>
        simp only at hlo hhi
        subst hlo hhi
        simp [e1 _ _ _ hh]
    | some u =>
      cases hi with
      | none =>
        simp only at hlo hhi
        subst hlo hhi
        simp [e1 _ _ _ hl]
      | some v =>
        simp only at hlo hhi
        subst hlo hhi
        simp [e1 _ _ _ hh, e1 _ _ _ hl]
  simp only [Instr.sliceAt, Sem.run_bind, run_underlying ht.out, Result.andThen_ok, Instr.slice, hb, h1, Sem.run_pure]
theorem m_slice (hgd : o.guard = none) {t : TypeId} {x : Operand} {lo hi : Option Operand} (ho : o.op = .slice t x lo hi none) {e : TypeId} [ht : SliceT P t e] {size bytes : Nat} {z : Value} [he : ElT P e size bytes z]
    {w1 : World} {b : Option Addr} {cap n : Nat} {xs : List Value} (hx : a.eval x = .slice b n cap) (hr : Rd w1 size (.slice b n cap) n xs) (l h : Nat) (hl : l ≤ h) (hh : h ≤ n)
    (hlo : (match lo.map a.eval with | some v => v = .int .i64 (l : Int) | none => l = 0)) (hhi : (match hi.map a.eval with | some v => v = .int .i64 (h : Int) | none => h = n))
    (k : ∀ b' cap', Rd w1 size (.slice b' (h - l) cap') (h - l) ((xs.drop (l * size)).take ((h - l) * size)) → wpList P ops Q rest (a.put o.dst (.slice b' (h - l) cap')) w) : wpList P ops Q (o :: rest) a w :=
  wpList_plain hgd fun _ hK => by
    have hcap : n ≤ cap := by
      obtain ⟨_, _, hv, hn, _⟩ := hr
      injection hv with _ _ e3
      omega
    have hrun := run_slice_ (P := P) ht he b n cap l h hl (by omega) (lo.map a.eval) (hi.map a.eval) hlo hhi w
    unfold Oper.wp execOp
    simp only [ho, hx, Option.map_none, Sem.run_bind, hrun, Result.andThen_ok, Sem.run_pure]
    exact hK _ _ (k _ _ (hr.slice_ l h hl hh))
theorem Rd.open_ {w1 : World} {size n : Nat} {b : Option Addr} {cap : Nat} {xs : List Value} (hr : Rd w1 size (.slice b n cap) n xs) (hn : 0 < n) :
    ∃ g o, b = some ⟨g, o, none⟩ ∧ ∀ wx, Up w1 wx → wx.rangeAt g o xs := by
  obtain ⟨b', cap', hv, h1, hm, hlen, hone, hc⟩ := hr
  injection hv with e1 e2 e3
  subst e1 e3
  rcases hc with hc | ⟨g, o, rfl, hg, hrng⟩
  · omega
  · exact ⟨g, o, rfl, fun wx hb j u hj => (Below.cell hb (p := ⟨g, o + j, none⟩) hg).trans (hrng j u hj)⟩
theorem Rd.len_ {w1 : World} {size n : Nat} {b : Option Addr} {cap : Nat} {xs : List Value} (hr : Rd w1 size (.slice b n cap) n xs) : n ≤ cap ∧ cap ≤ maxLen ∧ xs.length = n * size := by
  obtain ⟨b', cap', hv, h1, hm, hlen, hone, hc⟩ := hr
  injection hv with e1 e2 e3
  exact ⟨by omega, by omega, hlen⟩
theorem Rd.shape {w1 : World} {size n : Nat} {v : Value} {xs : List Value} (hr : Rd w1 size v n xs) : ∃ b cap, v = .slice b n cap := by
  obtain ⟨b', cap', hv, _⟩ := hr
  exact ⟨b', cap', hv⟩
theorem OwnR.shape {w' : World} {e : TypeId} {size n : Nat} {r : Value} {xs : List Value} (h : OwnR w w' e size r n xs) : ∃ b cap, r = .slice b n cap ∧ w'.ownsRow w.heap.size e size (.slice b n cap) n xs := h
end
section
variable {P : Program} {ops : Array Oper} {rest : List Oper} {o : Oper} {a : Act} {w0 w : World} {Q : Exit → Act → World → Prop} {L : List It}
theorem cells_one {v : Value} (hv : v.oneCell' = true) : v.cells = #[v] := by cases v <;> first | rfl | cases hv
theorem m_boxA (M : Mem w0 w L) (hgd : o.guard = none) {ty : TypeId} {x : Operand} (ho : o.op = .box ty x) {cs : Array Value} (hx : a.eval x = .agg cs)
    (h : ∀ g w', Mem w0 w' (.blk g ty cs :: L) → wpList P ops Q rest (a.put o.dst (.pointer (some ⟨g, 0, none⟩))) w') : wpList P ops Q (o :: rest) a w := mem_box M hgd ho hx rfl h
theorem m_box1 (M : Mem w0 w L) (hgd : o.guard = none) {ty : TypeId} {x : Operand} (ho : o.op = .box ty x) {v : Value} (hx : a.eval x = v) (hv : v.oneCell' = true)
    (h : ∀ g w', Mem w0 w' (.blk g ty #[v] :: L) → wpList P ops Q rest (a.put o.dst (.pointer (some ⟨g, 0, none⟩))) w') : wpList P ops Q (o :: rest) a w := mem_box M hgd ho hx (cells_one hv) h
theorem m_lit1A (M : Mem w0 w L) (hgd : o.guard = none) {t : TypeId} {x : Operand} (ho : o.op = .buildSlice t 1 #[(0, x)]) {e : TypeId} [ht : SliceT P t e] {size bytes : Nat} {z : Value} [he : ElT P e size bytes z]
    {cs : Array Value} (hx : a.eval x = .agg cs) (hs : cs.size = size) (hsm : size ≤ 16777216)
    (h : ∀ g w', Mem w0 w' (.blk g e cs :: L) → wpList P ops Q rest (a.put o.dst (.slice (some ⟨g, 0, none⟩) 1 1)) w') : wpList P ops Q (o :: rest) a w := mem_lit1 M hgd ho hx rfl hs hsm h
theorem m_lit11 (M : Mem w0 w L) (hgd : o.guard = none) {t : TypeId} {x : Operand} (ho : o.op = .buildSlice t 1 #[(0, x)]) {e : TypeId} [ht : SliceT P t e] {bytes : Nat} {z : Value} [he : ElT P e 1 bytes z]
    {v : Value} (hx : a.eval x = v) (hv : v.oneCell' = true)
    (h : ∀ g w', Mem w0 w' (.blk g e #[v] :: L) → wpList P ops Q rest (a.put o.dst (.slice (some ⟨g, 0, none⟩) 1 1)) w') : wpList P ops Q (o :: rest) a w := mem_lit1 M hgd ho hx (cells_one hv) rfl (by simp) h
end

/-! Calls that make a slice, or write into one. -/
section
variable {P : Program} {ops : Array Oper} {rest : List Oper} {o : Oper} {a : Act} {w0 w : World} {Q : Exit → Act → World → Prop} {L : List It}
theorem mem_callO {f : FuncId} {args : Array Value} {e : TypeId} {size n : Nat} {xs : List Value} (M : Mem w0 w L) {K : Ending → World → Prop} (h : Ret P f args w fun r w' => OwnR w w' e size r n xs)
    (k : ∀ b cap w', Mem w0 w' (.own b cap e size n xs :: L) → K (.returned (.slice b n cap)) w') : Calls P f args w K :=
  Calls.mono h fun e' w' ⟨r, he, ⟨b, cap, hr, ho⟩, hb⟩ => by
    subst he hr
    exact k b cap w' (M.addO hb ho)
/-- A result of two: a fresh slice, and something else. -/
def OwnR2 (w w' : World) (e : TypeId) (size : Nat) (r : Value) (n : Nat) (xs : List Value) (y : Value) : Prop := ∃ b cap, r = .tuple #[.slice b n cap, y] ∧ w'.ownsRow w.heap.size e size (.slice b n cap) n xs
theorem mem_callO2 {f : FuncId} {args : Array Value} {e : TypeId} {size n : Nat} {xs : List Value} {y : Value} (M : Mem w0 w L) {K : Ending → World → Prop} (h : Ret P f args w fun r w' => OwnR2 w w' e size r n xs y)
    (k : ∀ b cap w', Mem w0 w' (.own b cap e size n xs :: L) → K (.returned (.tuple #[.slice b n cap, y])) w') : Calls P f args w K :=
  Calls.mono h fun e' w' ⟨r, he, ⟨b, cap, hr, ho⟩, hb⟩ => by
    subst he hr
    exact k b cap w' (M.addO hb ho)
/-- A slice of the call's own is written by a callee. -/
def Writes (P : Program) (f : FuncId) (args : Array Value) (w : World) (B : Nat) (e : TypeId) (size : Nat) (b : Option Addr) (cap n : Nat) (xs : List Value) (v : Value) : Prop :=
  Calls P f args w fun e' w' => e' = .returned v ∧ w'.ownsRow B e size (.slice b n cap) n xs ∧ w.grownBy w' (Value.slice b n cap).ownBlock
theorem mem_callW {f : FuncId} {args : Array Value} {b : Option Addr} {cap n p : Nat} {e : TypeId} {size : Nat} {xs xs' : List Value} {v : Value} (M : Mem w0 w L) {K : Ending → World → Prop} [hL : AtO L b cap n p e size xs]
    (h : w.ownsRow w0.heap.size e size (.slice b n cap) n xs → Writes P f args w w0.heap.size e size b cap n xs' v)
    (k : ∀ w', Mem w0 w' (L.set p (.own b cap e size n xs')) → K (.returned v) w') : Calls P f args w K :=
  Calls.mono (h (M.at_ hL.out)) fun e' w' ⟨he, ho, hg⟩ => by
    subst he
    exact k w' (M.change (x' := .own b cap e size n xs') hL.out hg ho (fun k hk => .inl hk))
theorem Mem.rdO (M : Mem w0 w L) {b : Option Addr} {cap n p : Nat} {e : TypeId} {size : Nat} {xs : List Value} [hL : AtO L b cap n p e size xs] (h1 : ∀ u ∈ xs, u.oneCell' = true) : Rd w size (.slice b n cap) n xs := M.rd hL.out h1
theorem own_cases {B : Nat} {e : TypeId} {size n cap : Nat} {b : Option Addr} {xs : List Value} (h : w.ownsRow B e size (.slice b n cap) n xs) :
    n = 0 ∨ ∃ g tl, b = some ⟨g, 0, none⟩ ∧ B ≤ g ∧ n ≤ cap ∧ cap ≤ maxLen ∧ (xs ++ tl).length = cap * size ∧ Blk w g e (xs ++ tl).toArray := by
  rcases h.2 with ⟨hv, rfl⟩ | ⟨g, cap', cur, hv, hbg, hgg, hnc, hcm, hcs, htake⟩
  · exact .inl rfl
  · injection hv with e1 e2 e3
    subst e1 e3
    have hx : (xs ++ cur.toList.drop (n * size)) = cur.toList := by rw [← htake, List.take_append_drop]
    refine .inr ⟨g, cur.toList.drop (n * size), rfl, hbg, hnc, hcm, by rw [hx]; simpa using hcs, ?_⟩
    rw [hx]
    show Blk w g e cur.toList.toArray
    rw [Array.toArray_toList]
    exact hgg
theorem own_back {w' : World} {B : Nat} {e : TypeId} {size n cap g : Nat} {xs tl : List Value} (hg : B ≤ g) (hb : Blk w' g e (xs ++ tl).toArray) (hl : xs.length = n * size) (hn : n ≤ cap) (hm : cap ≤ maxLen) (hc : (xs ++ tl).length = cap * size) :
    w'.ownsRow B e size (.slice (some ⟨g, 0, none⟩) n cap) n xs :=
  ⟨hl, .inr ⟨g, cap, _, rfl, hg, hb, hn, hm, by simpa using hc, by rw [← hl]; simp⟩⟩
/-- A slice literal of several one-cell elements. -/
theorem m_litN (M : Mem w0 w L) (hgd : o.guard = none) {t : TypeId} {n : Nat} {parts : Array (Nat × Operand)} (ho : o.op = .buildSlice t n parts) {e : TypeId} [ht : SliceT P t e] {bytes : Nat} {z : Value} [he : ElT P e 1 bytes z]
    (vs : List Value) (hp : (parts.map fun (i, x) => (i, a.eval x)).toList = (vs.zipIdx 0).map fun x => (x.2, x.1)) (h1 : ∀ v ∈ vs, v.oneCell' = true) (hn : n = vs.length) (hpos : 0 < n) (hsm : n ≤ 16777216)
    (h : ∀ g w', Mem w0 w' (.blk g e vs.toArray :: L) → wpList P ops Q rest (a.put o.dst (.slice (some ⟨g, 0, none⟩) n n)) w') : wpList P ops Q (o :: rest) a w := by
  obtain ⟨g1, g2, g3⟩ := he.out
  obtain ⟨i0, hi0, hz0, hz1, hz2⟩ := info_parts g1
  refine wpList_buildSlice hgd t e n parts ho vs.toArray i0 z ht.out hi0 hz0 (by rw [hz1]; omega) (by rw [hz1]; omega) ?_ (h _ _ (M.alloc_ e _))
  rw [hz1, hp]
  exact Great.fill_flat _ _ (fun v hv => cells_one (h1 v hv)) (by simp [hn])
end
theorem grown_trans {w w1 w2 : World} {row : Option Nat} (h1 : w.grownBy w1 row) (h2 : w1.grownBy w2 row) : w.grownBy w2 row :=
  ⟨h2.os.trans h1.os, h2.tape.trans h1.tape, h2.output.trans h1.output, Nat.le_trans h1.size h2.size, fun k hk hne => (h2.block k (Nat.lt_of_lt_of_le hk h1.size) hne).trans (h1.block k hk hne)⟩
theorem grown_refl (w : World) (row : Option Nat) : w.grownBy w row := ⟨rfl, rfl, rfl, Nat.le_refl _, fun _ _ _ => rfl⟩

/-! append of zeros to nil: what slices.Grow does. -/
section
variable {P : Program} {ops : Array Oper} {rest : List Oper} {o : Oper} {a : Act} {w0 w : World} {Q : Exit → Act → World → Prop} {L : List It}
theorem run_append_zeros_nil (t ti ty e : TypeId) (i : TypeInfo) (z : Value) (k : IntKind) (ht : P.underlying t = some (.slice e)) (hti : P.underlying ti = some (.int k)) (hi : P.info? e = some i) (hz : i.zero = some z) (n : Nat)
    (h0 : 0 < n) (hs : n * i.size ≠ 0) (h63 : (n : Int) ≤ 9223372036854775807) (h48 : n * i.bytes ≤ 281474976710656) :
    (Builtin.append_ #[t, ti] ty #[.slice none 0 0, .int .i64 (n : Int)]).run P w =
      .ok (.slice (some ⟨w.heap.size, 0, none⟩) n (grownCap w n 0 e)) (w.drew.alloc (.cells (Builtin.zeroCells z.cells n ++ Builtin.zeroCells z.cells (grownCap w n 0 e - n)) e)) := by
  have hn : n ≠ 0 := by omega
  have h63' : ¬ (9223372036854775807 < (n : Int)) := by omega
  have h48' : ¬ (281474976710656 < Builtin.nextslicecap n 0 * i.bytes) := by rw [nextslicecap_zero h0]; omega
  have h48'' : ¬ (281474976710656 < (n : Int) * (i.bytes : Int)) := by
    have : ((n * i.bytes : Nat) : Int) ≤ 281474976710656 := by omega
    rw [Int.natCast_mul] at this
    omega
  have hw : IntKind.i64.wrap (n : Int) = (n : Int) := by rw [IntKind.wrap_i64]; omega
  have hneg : ¬ ((n : Int) < 0) := by omega
  simp [Builtin.append_, run_underlying ht, run_underlying hti, sizeOf, typeInfo, zeroValue, hi, hz, Builtin.lenOf, asInt, asIntOf, hw, hneg, hn, hs, h63', h48', h48'', Question.forced, run_firstCells_none, newRow, grownCap]
theorem m_growNil (M : Mem w0 w L) (hgd : o.guard = none) {s x : Operand} {t ti : TypeId} (ho : o.op = .call { callee := .builtin .append, args := #[s, x], argTypes := #[t, ti] }) {k : IntKind} (hti : P.underlying ti = some (.int k))
    {e : TypeId} [ht : SliceT P t e] {size bytes : Nat} {z : Value} [he : ElT P e size bytes z] (hs : a.eval s = .slice none 0 0) {n : Nat} (hx : a.eval x = .int .i64 (n : Int)) (h0 : 0 < n) (h63 : n ≤ maxLen) (hbytes : n * bytes ≤ 140737488355328)
    (h : ∀ g cap xs w', n ≤ cap → Mem w0 w' (.own (some ⟨g, 0, none⟩) cap e size n xs :: L) → wpList P ops Q rest (a.put o.dst (.slice (some ⟨g, 0, none⟩) n cap)) w') : wpList P ops Q (o :: rest) a w :=
  wpList_plain hgd fun _ hK => by
    obtain ⟨g1, g2, g3⟩ := he.out
    obtain ⟨i0, hi0, hz0, hz1, hz2⟩ := info_parts g1
    have hns : n * i0.size ≠ 0 := by rw [hz1]; exact Nat.mul_ne_zero (by omega) (by omega)
    have hr := run_append_zeros_nil (P := P) (w := w) t ti o.type e i0 z k ht.out hti hi0 hz0 n h0 hns (by simp only [maxLen] at h63; omega) (by rw [hz2]; omega)
    unfold Oper.wp execOp
    simp only [ho, resolve, invoke, builtin, Sem.run_bind, Sem.run_pure, Result.andThen_ok, List.map_toArray, List.map_cons, List.map_nil, hs, hx, hr]
    have hge : n ≤ grownCap w n 0 e := grownCap_ge w n 0 e
    have M' := ((M.grow (w' := w.drew) ((Up.refl _).drew)).alloc_ e (Builtin.zeroCells z.cells n ++ Builtin.zeroCells z.cells (grownCap w n 0 e - n))).blk_own (p := 0) rfl size n (grownCap w n 0 e) hge (grownCap_le_maxLen w n 0 e h63) (by
      rw [Array.size_append, size_zeroCells, size_zeroCells, g2, ← Nat.add_mul]
      congr 1
      omega) rfl
    exact hK _ _ (h _ _ _ _ hge M')
/-- Less of a slice of the call's own, from its head. -/
theorem Mem.own_less (M : Mem w0 w L) {b : Option Addr} {cap n size p : Nat} {e : TypeId} {xs : List Value} (hL : L[p]? = some (.own b cap e size n xs)) (m : Nat) (hm : m ≤ n) : Mem w0 w (L.set p (.own b cap e size m (xs.take (m * size)))) := by
  have hok : w.ownsRow w0.heap.size e size (.slice b n cap) n xs := M.at_ hL
  refine M.change (x' := .own b cap e size m (xs.take (m * size))) hL (grown_refl _ _) ?_ ?_
  · have hl : (xs.take (m * size)).length = m * size := by rw [List.length_take, hok.1]; exact Nat.min_eq_left (Nat.mul_le_mul_right _ hm)
    refine ⟨hl, ?_⟩
    rcases hok.2 with ⟨hv, rfl⟩ | ⟨g, cap', cur, hv, hbg, hgg, hnc, hcm, hcs, htake⟩
    · injection hv with e1 e2 e3
      have : m = 0 := by omega
      subst this e1 e3
      exact .inl ⟨rfl, rfl⟩
    · injection hv with e1 e2 e3
      subst e1 e3
      refine .inr ⟨g, cap, cur, rfl, hbg, hgg, by omega, hcm, hcs, ?_⟩
      rw [← htake, List.take_take]
      congr 1
      exact (Nat.min_eq_left (Nat.mul_le_mul_right _ hm)).symm
  · intro k hk
    left
    cases b with
    | none => simp [It.foot, Value.ownBlock] at hk
    | some q => simpa [It.foot, Value.ownBlock] using hk
theorem Mem.front (M : Mem w0 w L) {p : Nat} {x : It} (hL : L[p]? = some x) : Mem w0 w (x :: L.eraseIdx p) := by
  have hp := (List.getElem?_eq_some_iff.1 hL).1
  refine ⟨M.up, fun y hy => ?_, List.pairwise_cons.2 ⟨fun y hy => ?_, M.sep.sublist (List.eraseIdx_sublist _ _)⟩⟩
  · rcases List.mem_cons.1 hy with rfl | hy
    · exact M.at_ hL
    · exact M.ok y (List.mem_of_mem_eraseIdx hy)
  · obtain ⟨q, hq⟩ := List.mem_iff_getElem?.1 hy
    rw [List.getElem?_eraseIdx] at hq
    split at hq
    · exact M.apart hL hq (by omega)
    · exact M.apart hL hq (by omega)
theorem Mem.frontO (M : Mem w0 w L) (b : Option Addr) (cap : Nat) {n p : Nat} {e : TypeId} {size : Nat} {xs : List Value} [hL : AtO L b cap n p e size xs] : Mem w0 w (.own b cap e size n xs :: L.eraseIdx p) := M.front hL.out
end
section
variable {P : Program} {ops : Array Oper} {rest : List Oper} {o : Oper} {a : Act} {w0 w : World} {Q : Exit → Act → World → Prop} {L : List It}
/-- s[:h] of a slice that begins at its block's head. -/
theorem m_sliceHi (hgd : o.guard = none) {t : TypeId} {x y : Operand} (ho : o.op = .slice t x none (some y) none) {e : TypeId} [ht : SliceT P t e] {size bytes : Nat} {z : Value} [he : ElT P e size bytes z]
    {b : Option Addr} {cap n : Nat} (hx : a.eval x = .slice b n cap) (hb : b = none ∨ ∃ g, b = some ⟨g, 0, none⟩) {h : Nat} (hy : a.eval y = .int .i64 (h : Int)) (hh : h ≤ cap)
    (k : wpList P ops Q rest (a.put o.dst (.slice b h cap)) w) : wpList P ops Q (o :: rest) a w :=
  wpList_plain hgd fun _ hK => by
    have hrun := run_slice_ (P := P) ht he b n cap 0 h (Nat.zero_le _) hh none (some (.int .i64 (h : Int))) rfl rfl w
    have hbb : (if cap = 0 then b else b.map (·.add (0 * size))) = b := by
      split
      · rfl
      · rcases hb with rfl | ⟨g, rfl⟩
        · rfl
        · simp [Addr.add_mid]
    unfold Oper.wp execOp
    simp only [ho, hx, hy, Option.map_none, Option.map_some, Sem.run_bind, hrun, Result.andThen_ok, Sem.run_pure, hbb, Nat.sub_zero]
    exact hK _ _ k
theorem own_head {B : Nat} {e : TypeId} {b : Option Addr} {cap n size : Nat} {xs : List Value} (h : w.ownsRow B e size (.slice b n cap) n xs) : b = none ∨ ∃ g, b = some ⟨g, 0, none⟩ := by
  rcases h.2 with ⟨hv, rfl⟩ | ⟨g, cap', cur, hv, _⟩
  · injection hv with e1 _ _
    exact .inl e1
  · injection hv with e1 _ _
    exact .inr ⟨g, e1⟩
theorem Mem.headO (M : Mem w0 w L) (b : Option Addr) (cap : Nat) {n p : Nat} {e : TypeId} {size : Nat} {xs : List Value} [hL : AtO L b cap n p e size xs] : b = none ∨ ∃ g, b = some ⟨g, 0, none⟩ := own_head (M.at_ hL.out)
theorem Mem.lenO (M : Mem w0 w L) (b : Option Addr) (cap : Nat) {n p : Nat} {e : TypeId} {size : Nat} {xs : List Value} [hL : AtO L b cap n p e size xs] : n ≤ cap ∧ cap ≤ maxLen ∧ xs.length = n * size := M.own_len hL.out
end
/-- A slice's array, by its address. -/
theorem m_arrP {P : Program} {ops : Array Oper} {rest : List Oper} {o : Oper} {a : Act} {w : World} {Q : Exit → Act → World → Prop} (hgd : o.guard = none) {t e : TypeId} {n : Nat} {x : Operand} (ho : o.op = .sliceToArrayPointer t x) (ht : P.underlying t = some (.array n e))
    {b : Option Addr} {m cap : Nat} (hx : a.eval x = .slice b m cap) (hm : n ≤ m) (k : wpList P ops Q rest (a.put o.dst (.pointer b)) w) : wpList P ops Q (o :: rest) a w :=
  wpList_plain hgd fun _ hK => by
    have hr : (Instr.arrayAt t (.slice b m cap)).run P w = .ok (.pointer b) w := by
      simp [Instr.arrayAt, run_underlying ht, Nat.not_lt.2 hm]
    unfold Oper.wp execOp
    simp only [ho, hx, Sem.run_bind, hr, Result.andThen_ok, Sem.run_pure]
    exact hK _ _ k
section
variable {P : Program} {ops : Array Oper} {rest : List Oper} {o : Oper} {a : Act} {w0 w : World} {Q : Exit → Act → World → Prop} {L : List It}
theorem m_slL (hgd : o.guard = none) {t : TypeId} {x y : Operand} (ho : o.op = .slice t x (some y) none none) {e : TypeId} [ht : SliceT P t e] {size bytes : Nat} {z : Value} [he : ElT P e size bytes z]
    {w1 : World} {b : Option Addr} {cap n : Nat} {xs : List Value} (hx : a.eval x = .slice b n cap) (hr : Rd w1 size (.slice b n cap) n xs) (l : Nat) (hl : l ≤ n) (hy : a.eval y = .int .i64 (l : Int))
    (k : ∀ b' cap', Rd w1 size (.slice b' (n - l) cap') (n - l) (xs.drop (l * size)) → wpList P ops Q rest (a.put o.dst (.slice b' (n - l) cap')) w) : wpList P ops Q (o :: rest) a w :=
  m_slice hgd ho hx hr l n hl (Nat.le_refl _) hy rfl (fun b' cap' h => k b' cap' (by
    have hlen := hr.len_.2.2
    rwa [List.take_of_length_le (by rw [List.length_drop, hlen, ← Nat.sub_mul]; exact Nat.le_refl _)] at h))
theorem m_slH (hgd : o.guard = none) {t : TypeId} {x y : Operand} (ho : o.op = .slice t x none (some y) none) {e : TypeId} [ht : SliceT P t e] {size bytes : Nat} {z : Value} [he : ElT P e size bytes z]
    {w1 : World} {b : Option Addr} {cap n : Nat} {xs : List Value} (hx : a.eval x = .slice b n cap) (hr : Rd w1 size (.slice b n cap) n xs) (h : Nat) (hh : h ≤ n) (hy : a.eval y = .int .i64 (h : Int))
    (k : ∀ b' cap', Rd w1 size (.slice b' h cap') h (xs.take (h * size)) → wpList P ops Q rest (a.put o.dst (.slice b' h cap')) w) : wpList P ops Q (o :: rest) a w :=
  m_slice hgd ho hx hr 0 h (Nat.zero_le _) hh rfl hy (fun b' cap' hR => by
    rw [Nat.sub_zero, Nat.zero_mul, List.drop_zero] at hR
    exact k b' cap' hR)
theorem m_slLH (hgd : o.guard = none) {t : TypeId} {x y u : Operand} (ho : o.op = .slice t x (some y) (some u) none) {e : TypeId} [ht : SliceT P t e] {size bytes : Nat} {z : Value} [he : ElT P e size bytes z]
    {w1 : World} {b : Option Addr} {cap n : Nat} {xs : List Value} (hx : a.eval x = .slice b n cap) (hr : Rd w1 size (.slice b n cap) n xs) (l h : Nat) (hl : l ≤ h) (hh : h ≤ n) (hy : a.eval y = .int .i64 (l : Int)) (hu : a.eval u = .int .i64 (h : Int))
    (k : ∀ b' cap', Rd w1 size (.slice b' (h - l) cap') (h - l) ((xs.drop (l * size)).take ((h - l) * size)) → wpList P ops Q rest (a.put o.dst (.slice b' (h - l) cap')) w) : wpList P ops Q (o :: rest) a w :=
  m_slice hgd ho hx hr l h hl hh hy hu k
end
section
variable {P : Program} {ops : Array Oper} {rest : List Oper} {o : Oper} {a : Act} {w0 w : World} {Q : Exit → Act → World → Prop} {L : List It}
theorem m_lit2 (M : Mem w0 w L) (hgd : o.guard = none) {t : TypeId} {x0 x1 : Operand} (ho : o.op = .buildSlice t 2 #[(0, x0), (1, x1)]) {e : TypeId} [ht : SliceT P t e] {bytes : Nat} {z : Value} [he : ElT P e 1 bytes z]
    {v0 v1 : Value} (h0 : a.eval x0 = v0) (h1 : a.eval x1 = v1) (o0 : v0.oneCell' = true) (o1 : v1.oneCell' = true)
    (h : ∀ g w', Mem w0 w' (.blk g e #[v0, v1] :: L) → wpList P ops Q rest (a.put o.dst (.slice (some ⟨g, 0, none⟩) 2 2)) w') : wpList P ops Q (o :: rest) a w :=
  m_litN M hgd ho [v0, v1] (by simp [h0, h1, List.zipIdx]) (by simp [o0, o1]) rfl (by decide) (by decide) h
theorem m_lit5 (M : Mem w0 w L) (hgd : o.guard = none) {t : TypeId} {x0 x1 x2 x3 x4 : Operand} (ho : o.op = .buildSlice t 5 #[(0, x0), (1, x1), (2, x2), (3, x3), (4, x4)]) {e : TypeId} [ht : SliceT P t e] {bytes : Nat} {z : Value} [he : ElT P e 1 bytes z]
    {v0 v1 v2 v3 v4 : Value} (h0 : a.eval x0 = v0) (h1 : a.eval x1 = v1) (h2 : a.eval x2 = v2) (h3 : a.eval x3 = v3) (h4 : a.eval x4 = v4) (o0 : v0.oneCell' = true) (o1 : v1.oneCell' = true) (o2 : v2.oneCell' = true) (o3 : v3.oneCell' = true) (o4 : v4.oneCell' = true)
    (h : ∀ g w', Mem w0 w' (.blk g e #[v0, v1, v2, v3, v4] :: L) → wpList P ops Q rest (a.put o.dst (.slice (some ⟨g, 0, none⟩) 5 5)) w') : wpList P ops Q (o :: rest) a w :=
  m_litN M hgd ho [v0, v1, v2, v3, v4] (by simp [h0, h1, h2, h3, h4, List.zipIdx]) (by simp [o0, o1, o2, o3, o4]) rfl (by decide) (by decide) h
end

/-! Slices of slices. -/
class AtI (L : List It) (us : List Value) (p : outParam Nat) (e : outParam TypeId) (ls : outParam (List (List Value))) : Prop where
  out : L[p]? = some (.inn e us ls)
instance {e : TypeId} {us : List Value} {ls : List (List Value)} {L : List It} : AtI (.inn e us ls :: L) us 0 e ls := ⟨rfl⟩
instance {p : Nat} {e : TypeId} {us : List Value} {ls : List (List Value)} {x : It} {L : List It} [h : AtI L us p e ls] : AtI (x :: L) us (p + 1) e ls := ⟨by simpa using h.out⟩
section
variable {P : Program} {w0 w : World} {L : List It}
theorem Mem.nil_inn (M : Mem w0 w L) (e : TypeId) : Mem w0 w (.inn e [] [] :: L) :=
  M.add (x := .inn e [] []) (Up.refl _) (⟨rfl, fun i u l hu => by simp at hu, fun i j u u' k hu => by simp at hu⟩ : Inn _ _ _ _ _) (fun k hk => by obtain ⟨u, hu, _⟩ := hk; simp at hu)
/-- One slice more. -/
theorem Mem.push_inn {b : Option Addr} {c n : Nat} {e : TypeId} {l : List Value} {us : List Value} {ls : List (List Value)} (M : Mem w0 w (.own b c e 1 n l :: .inn e us ls :: L)) (hn : n = l.length) :
    Mem w0 w (.inn e (us ++ [.slice b n c]) (ls ++ [l]) :: L) := by
  subst hn
  have h1 : w.ownsRow w0.heap.size e 1 (.slice b l.length c) l.length l := M.at_ (p := 0) rfl
  have h2 : Inn w0.heap.size w e us ls := M.at_ (p := 1) rfl
  have ap := M.apart (i := 0) (j := 1) rfl rfl (by omega)
  have hlen := h2.len
  refine ⟨M.up, fun y hy => ?_, ?_⟩
  · rcases List.mem_cons.1 hy with rfl | hy
    · refine (⟨by rw [List.length_append, List.length_append, hlen]; rfl, fun i u l' hu hl => ?_, fun i j u u' k hu hu' hij hk hk' => ?_⟩ : Inn w0.heap.size w e (us ++ [.slice b l.length c]) (ls ++ [l]))
      · by_cases hi : i < us.length
        · rw [List.getElem?_append_left hi] at hu
          rw [List.getElem?_append_left (by omega)] at hl
          exact h2.own i u l' hu hl
        · rw [List.getElem?_append_right (by omega)] at hu
          rw [List.getElem?_append_right (by omega), ← hlen] at hl
          have h0 : i - us.length = 0 := by
            have := (List.getElem?_eq_some_iff.1 hu).1
            simp at this
            omega
          rw [h0] at hu hl
          obtain rfl := Option.some.inj hu
          obtain rfl := Option.some.inj hl
          exact ⟨b, c, rfl, h1⟩
      · have key : ∀ i j u u', (us ++ [Value.slice b l.length c])[i]? = some u → (us ++ [Value.slice b l.length c])[j]? = some u' → i < us.length → ¬ j < us.length → u.ownBlock = some k → u'.ownBlock = some k → False := by
          intro i j u u' hu hu' hi hj hk hk'
          rw [List.getElem?_append_left hi] at hu
          rw [List.getElem?_append_right (by omega)] at hu'
          have h0 : j - us.length = 0 := by
            have := (List.getElem?_eq_some_iff.1 hu').1
            simp at this
            omega
          rw [h0] at hu'
          obtain rfl := Option.some.inj hu'
          exact ap k hk' ⟨u, List.mem_of_getElem? hu, hk⟩
        by_cases hi : i < us.length
        · by_cases hj : j < us.length
          · rw [List.getElem?_append_left hi] at hu
            rw [List.getElem?_append_left hj] at hu'
            exact h2.apart i j u u' k hu hu' hij hk hk'
          · exact key i j u u' hu hu' hi hj hk hk'
        · by_cases hj : j < us.length
          · exact key j i u' u hu' hu hj hi hk' hk
          · have a1 := (List.getElem?_eq_some_iff.1 hu).1
            have a2 := (List.getElem?_eq_some_iff.1 hu').1
            rw [List.length_append, List.length_singleton] at a1 a2
            omega
    · exact M.ok y (List.mem_cons_of_mem _ (List.mem_cons_of_mem _ hy))
  · have s1 := List.pairwise_cons.1 M.sep
    have s2 := List.pairwise_cons.1 s1.2
    refine List.pairwise_cons.2 ⟨fun y hy k h1 h2 => ?_, s2.2⟩
    obtain ⟨u, hu, hk⟩ := h1
    rcases List.mem_append.1 hu with hu | hu
    · exact s2.1 y hy k ⟨u, hu, hk⟩ h2
    · simp at hu
      subst hu
      exact s1.1 y (List.mem_cons_of_mem _ hy) k hk h2
theorem Mem.innI (M : Mem w0 w L) (us : List Value) {p : Nat} {e : TypeId} {ls : List (List Value)} [h : AtI L us p e ls] : Inn w0.heap.size w e us ls := M.at_ h.out
/-- The elements are written by a callee. -/
theorem mem_callI {f : FuncId} {args : Array Value} {us : List Value} {p : Nat} {e : TypeId} {ls ls' : List (List Value)} {v : Value} (M : Mem w0 w L) {K : Ending → World → Prop} (us_ : us = us) [hL : AtI L us p e ls]
    (h : Inn w0.heap.size w e us ls → Calls P f args w fun e' w' => e' = .returned v ∧ Inn w0.heap.size w' e us ls' ∧ Chg w w' (fun k => ∃ u ∈ us, u.ownBlock = some k))
    (k : ∀ w', Mem w0 w' (L.set p (.inn e us ls')) → K (.returned v) w') : Calls P f args w K :=
  Calls.mono (h (M.at_ hL.out)) fun e' w' ⟨he, ho, hg⟩ => by
    subst he
    exact k w' (M.chg (x' := .inn e us ls') hL.out hg ho (fun k hk => .inl hk))
/-- A result that is a slice of slices, all fresh. -/
def OwnS (w w' : World) (e ei : TypeId) (r : Value) (n : Nat) (ls : List (List Value)) : Prop := ∃ b cap us, r = .slice b n cap ∧ n = ls.length ∧ w'.ownsRow w.heap.size e 1 (.slice b n cap) n us ∧ Inn w.heap.size w' ei us ls ∧ ∀ u k, u ∈ us → u.ownBlock = some k → (Value.slice b n cap).ownBlock = some k → False
theorem mem_callS {f : FuncId} {args : Array Value} {e ei : TypeId} {n : Nat} {ls : List (List Value)} (M : Mem w0 w L) {K : Ending → World → Prop} (h : Ret P f args w fun r w' => OwnS w w' e ei r n ls)
    (k : ∀ b cap us w', Mem w0 w' (.own b cap e 1 n us :: .inn ei us ls :: L) → K (.returned (.slice b n cap)) w') : Calls P f args w K :=
  Calls.mono h fun e' w' ⟨r, he, ⟨b, cap, us, hr, hn, ho, hi, hap⟩, hb⟩ => by
    subst he hr
    have up : ∀ {e : TypeId} {n : Nat} {v : Value} {xs : List Value}, w'.ownsRow w.heap.size e 1 v n xs → w'.ownsRow w0.heap.size e 1 v n xs := fun h => by
      refine ⟨h.1, ?_⟩
      rcases h.2 with h2 | ⟨g, cap', cur, hv, hg, r⟩
      · exact .inl h2
      · exact .inr ⟨g, cap', cur, hv, Nat.le_trans M.le hg, r⟩
    have M1 : Mem w0 w' (.inn ei us ls :: L) := M.add (x := .inn ei us ls) hb
      (⟨hi.len, fun i u l hu hl => by obtain ⟨b, c, h1, h2⟩ := hi.own i u l hu hl; exact ⟨b, c, h1, up h2⟩, hi.apart⟩ : Inn _ _ _ _ _)
      (fun k hk => (It.ok.foot_lt (x := .inn ei us ls) (show Inn w.heap.size w' ei us ls from hi) hk).1)
    refine k b cap us w' ⟨M1.up, fun y hy => ?_, List.pairwise_cons.2 ⟨fun y hy q h1 h2 => ?_, M1.sep⟩⟩
    · rcases List.mem_cons.1 hy with rfl | hy
      · exact up ho
      · exact M1.ok y hy
    · rcases List.mem_cons.1 hy with rfl | hy
      · obtain ⟨u, hu, hk⟩ := h2
        exact hap u q hu hk h1
      · have h3 := ((M.ok y hy).foot_lt h2).2
        have h4 := (World.ownsRow.lt ho q h1).1
        omega
end
section
variable {P : Program} {w0 w : World} {L : List It}
/-- The elements of a slice of slices are written by a callee. -/
theorem mem_callN {f : FuncId} {args : Array Value} {b : Option Addr} {cap n p q : Nat} {e e2 : TypeId} {us : List Value} {ls ls' : List (List Value)} {v : Value} (M : Mem w0 w L) {K : Ending → World → Prop} [hO : AtO L b cap n p e2 1 us] [hL : AtI L us q e ls]
    (h : w.ownsRow w0.heap.size e2 1 (.slice b n cap) n us → Inn w0.heap.size w e us ls → (∀ u k, u ∈ us → u.ownBlock = some k → (Value.slice b n cap).ownBlock = some k → False) → Calls P f args w fun e' w' => e' = .returned v ∧ Inn w0.heap.size w' e us ls' ∧ Chg w w' (fun k => ∃ u ∈ us, u.ownBlock = some k))
    (k : ∀ w', Mem w0 w' (L.set q (.inn e us ls')) → K (.returned v) w') : Calls P f args w K := by
  have hpq : p ≠ q := fun e => by
    subst e
    have := hO.out.symm.trans hL.out
    simp at this
  refine mem_callI M (us_ := rfl) (fun hi => h (M.at_ hO.out) hi (fun u k hu hk hb => M.apart hO.out hL.out hpq k hb ⟨u, hu, hk⟩)) k
end
theorem run_loadAt_any {P : Program} {w : World} {ty : TypeId} {d : TypeDesc} (hu : P.underlying ty = some d) (hd : d.isRow = false) {q : Addr} {v : Value} (hc : w.cell? q = some v) :
    (Instr.loadAt ty (.pointer (some q))).run P w = .ok v w := by
  have h1 := isAgg_no (w := w) hu hd
  simp only [Instr.loadAt, Instr.sureAddr, Sem.run_bind, Sem.run_pure, Result.andThen_ok, loadVar, h1, Bool.false_eq_true, if_false, ↓reduceIte]
  simp [load, Sem.run, hc]
theorem wpList_loadP {P : Program} {ops : Array Oper} {rest : List Oper} {o : Oper} {a : Act} {w : World} {Q : Exit → Act → World → Prop} (hgd : o.guard = none) {ty : TypeId} {x : Operand} (ho : o.op = .load ty x) {q : Addr} (hx : a.eval x = .pointer (some q)) [hT : OneT P ty] {v : Value} (hc : w.cell? q = some v)
    (h : wpList P ops Q rest (a.put o.dst v) w) : wpList P ops Q (o :: rest) a w :=
  wpList_plain hgd fun _ hK => by
    obtain ⟨d, h1, h2, _⟩ := hT.out
    unfold Oper.wp execOp
    simp only [ho, hx, Sem.run_bind, run_loadAt_any h1 h2 hc, Result.andThen_ok, Sem.run_pure]
    exact hK _ _ h

end Go.Proofs.YtmbhaoiahlbglaaDoor

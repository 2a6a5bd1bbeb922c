/- A map whose keys are pieces, made by the call: what is in it, lookup and store. -/
import Derived.Test.YtmbhaoiahlbglaaHPi
import Derived.Test.YtmbhaoiahlbglaaOpen
import Derived.Maps.Own
import Derived.DeepKeys4
namespace Go.Proofs.Ytmbhaoiahlbglaa
open Go.RowKit Go.WideMaps
set_option linter.unusedVariables false
set_option linter.unusedSimpArgs false

/-- A piece with a length that is an int64. -/
def Pw (p : Pc) : Prop := -9223372036854775808 ≤ p.2 ∧ p.2 < 9223372036854775808
theorem wf_i64 {n : Int} (h : -9223372036854775808 ≤ n ∧ n < 9223372036854775808) : (Lit.int .i64 n).wf = true := by
  have h1 : IntKind.i64.min = -9223372036854775808 := by decide
  have h2 : IntKind.i64.max = 9223372036854775807 := by decide
  simp [Lit.wf, h1, h2]
  omega
theorem wf_u8 (b : UInt8) : (Lit.int .u8 (b.toNat : Int)).wf = true := by
  have := b.toNat_lt
  have h1 : IntKind.u8.min = 0 := by decide
  have h2 : IntKind.u8.max = 255 := by decide
  simp [Lit.wf, h1, h2]
  omega
theorem some_mapM {α β : Type} (f : α → Option β) : ∀ (l : List α), (∀ x ∈ l, ∃ y, f x = some y) → ∃ ys, l.mapM f = some ys
  | [], _ => ⟨[], rfl⟩
  | x :: l, h => by
    obtain ⟨y, hy⟩ := h x (by simp)
    obtain ⟨ys, hys⟩ := some_mapM f l (fun z hz => h z (by simp [hz]))
    exact ⟨y :: ys, by simp [List.mapM_cons, hy, hys]⟩
theorem keyLits_u8 (d : Nat) (b : UInt8) : ∃ l, Try.prog.keyLits (d + 1) 5 [bV b] = some l := by
  refine ⟨[.int .u8 (b.toNat : Int)], ?_⟩
  unfold Program.keyLits
  rw [Try.underlying5]
  simp [bV, wf_u8]
theorem keyLits_i64 (d : Nat) (n : Int) (h : -9223372036854775808 ≤ n ∧ n < 9223372036854775808) : ∃ l, Try.prog.keyLits (d + 1) 2 [.int .i64 n] = some l := by
  refine ⟨[.int .i64 n], ?_⟩
  unfold Program.keyLits
  rw [Try.underlying2]
  simp [wf_i64 h]
theorem cellsOf_u8 : Try.prog.cellsOf 5 = 1 := by kernel_rfl
theorem cellsOf_key : Try.prog.cellsOf 25 = 32 := by kernel_rfl
theorem cellsOf_i64 : Try.prog.cellsOf 2 = 1 := by kernel_rfl
theorem cellsOf_pie : Try.prog.cellsOf 103 = 33 := by kernel_rfl
theorem keyLits_key (d : Nat) (k : Ky) : ∃ l, Try.prog.keyLits (d + 2) 25 (bL k.1) = some l := by
  unfold Program.keyLits
  rw [Try.underlying25]
  dsimp only
  rw [if_pos (by rw [bL_length, k.2, cellsOf_key])]
  obtain ⟨ys, h⟩ := some_mapM (fun i => Try.prog.keyLits (d + 1) 5 (((bL k.1).drop (i * Try.prog.cellsOf 5)).take (Try.prog.cellsOf 5))) (List.range 32) (fun i hi => by
    have hi := List.mem_range.1 hi
    have e : ((bL k.1).drop (i * Try.prog.cellsOf 5)).take (Try.prog.cellsOf 5) = [bV (k.1[i]'(by rw [k.2]; exact hi))] := by
      rw [cellsOf_u8, Nat.mul_one, List.drop_eq_getElem_cons (by rw [bL_length, k.2]; exact hi)]
      simp [bL]
    rw [e]
    exact keyLits_u8 d _)
  rw [h]
  exact ⟨_, rfl⟩
theorem keyOf_pie (p : Pc) (hp : Pw p) : ∃ l, keyOf Try.prog 103 (.agg (pieC p.1.1 p.2)) = some l := by
  obtain ⟨m, hm⟩ : ∃ m, Try.prog.types.size + 1 = m + 3 := ⟨Try.prog.types.size - 2, by have : 2 ≤ Try.prog.types.size := of_decide_eq_true (by kernel_rfl); omega⟩
  have hkt : Try.prog.keyType 103 = true := by kernel_rfl
  have hf : (Value.agg (pieC p.1.1 p.2)).formed Try.prog 103 = true := by
    unfold Value.formed
    rw [Try.underlying103]
    dsimp only
    rw [pie_size _ p.1.2, cellsOf_pie]
    rfl
  unfold keyOf
  rw [Try.underlying103]
  dsimp only
  rw [hkt, hf, hm, if_pos (by rfl)]
  unfold Program.keyLits
  rw [Try.underlying103]
  dsimp only
  rw [if_pos ⟨by rw [Array.length_toList]; exact (pie_size _ p.1.2 _).trans cellsOf_pie.symm, by kernel_rfl⟩]
  obtain ⟨l0, h0⟩ := keyLits_key m p.1
  obtain ⟨l1, h1⟩ := keyLits_i64 (m + 1) p.2 hp
  have e0 : (((Value.agg (pieC p.1.1 p.2)).cells.toList.drop 0).take (Try.prog.cellsOf 25)) = bL p.1.1 := by
    rw [cellsOf_key, List.drop_zero]
    show (bP p).take 32 = _
    unfold bP
    rw [List.take_left' (by rw [bL_length, p.1.2])]
  have e1 : (((Value.agg (pieC p.1.1 p.2)).cells.toList.drop 32).take (Try.prog.cellsOf 2)) = [.int .i64 p.2] := by
    rw [cellsOf_i64]
    show ((bP p).drop 32).take 1 = _
    unfold bP
    rw [List.drop_left' (by rw [bL_length, p.1.2])]
    rfl
  simp only [List.mapM_cons, List.mapM_nil]
  have h1' : Try.prog.keyLits (m + 2) 2 [.int .i64 p.2] = some l1 := h1
  rw [e0, h0, e1, h1']
  exact ⟨_, rfl⟩
theorem pieLaw : KeyLaw Try.prog 103 := deep_law_laid laidOut_ (m := 3) (by omega) (of_decide_eq_true (by kernel_rfl)) (by kernel_rfl) (by kernel_rfl)

/-- The block holds these entries. -/
def MapIs (o : Obj) (es : List (Pc × Value)) : Prop := ∃ E c, o = .map E c ∧ E.toList.map (fun e => (e.key, e.val)) = es.map (fun x => (Value.agg (pieC x.1.1.1 x.1.2), x.2))
theorem MapIs.nil : MapIs (.map #[] 0) [] := ⟨#[], 0, rfl, rfl⟩
theorem pie_inj {p q : Pc} (h : Value.agg (pieC p.1.1 p.2) = Value.agg (pieC q.1.1 q.2)) : p = q := by
  obtain ⟨⟨k, hk⟩, n⟩ := p
  obtain ⟨⟨l, hl⟩, m⟩ := q
  injection h with h
  have h := congrArg Array.toList h
  simp only [pieC] at h
  have h2 : bL k ++ [Value.int .i64 n] = bL l ++ [Value.int .i64 m] := h
  have hlen : (bL k).length = (bL l).length := by rw [bL_length, bL_length, hk, hl]
  obtain ⟨h3, h4⟩ := List.append_inj h2 hlen
  injection h4 with h4 _
  injection h4 with _ h4
  subst h4
  have : k = l := by
    apply List.ext_getElem?
    intro i
    have h5 := congrArg (·[i]?) h3
    simp only [bL, List.getElem?_map] at h5
    cases hk1 : k[i]? <;> cases hl1 : l[i]? <;> rw [hk1, hl1] at h5 <;> simp at h5
    · rename_i a b
      injection h5 with _ h5
      have : a.toNat = b.toNat := by omega
      rw [UInt8.toNat_inj.1 this]
  subst this
  rfl
section
variable {w : World} {g : Nat} {o : Obj} {es : List (Pc × Value)}
theorem zeroBytes (w : World) : (zeroValue 66).run Try.prog w = .ok (.slice none 0 0) w := by kernel_rfl
theorem MapIs.entries (hm : MapIs o es) (hw : ∀ x ∈ es, Pw x.1) : ∃ E c, o = .map E c ∧ (∀ e ∈ E.toList, ∃ x ∈ es, e.key = .agg (pieC x.1.1.1 x.1.2) ∧ e.val = x.2) ∧ (∀ x ∈ es, ∃ e ∈ E.toList, e.key = .agg (pieC x.1.1.1 x.1.2) ∧ e.val = x.2) ∧ (∀ e ∈ E.toList, ∃ l, keyOf Try.prog 103 e.key = some l) := by
  obtain ⟨E, c, rfl, hE⟩ := hm
  have hk : ∀ e ∈ E.toList, ∃ x ∈ es, e.key = .agg (pieC x.1.1.1 x.1.2) ∧ e.val = x.2 := fun e he => by
    have : (e.key, e.val) ∈ E.toList.map (fun e => (e.key, e.val)) := List.mem_map.2 ⟨e, he, rfl⟩
    rw [hE] at this
    obtain ⟨x, hx, h⟩ := List.mem_map.1 this
    injection h with h1 h2
    exact ⟨x, hx, h1.symm, h2.symm⟩
  refine ⟨E, c, rfl, hk, fun x hx => ?_, fun e he => ?_⟩
  · have : (Value.agg (pieC x.1.1.1 x.1.2), x.2) ∈ es.map (fun x => (Value.agg (pieC x.1.1.1 x.1.2), x.2)) := List.mem_map.2 ⟨x, hx, rfl⟩
    rw [← hE] at this
    obtain ⟨e, he, h⟩ := List.mem_map.1 this
    injection h with h1 h2
    exact ⟨e, he, h1, h2⟩
  · obtain ⟨x, hx, h1, _⟩ := hk e he
    rw [h1]
    exact keyOf_pie x.1 (hw x hx)
theorem MapIs.look_none (hm : MapIs o es) (hw : ∀ x ∈ es, Pw x.1) (p : Pc) (hp : Pw p) (hne : ∀ x ∈ es, x.1 ≠ p) (w : World) (hb : w.heap[g]? = some o) :
    (Instr.lookup 109 (.map (some g)) (.agg (pieC p.1.1 p.2)) true).run Try.prog w = .ok (.tuple #[.slice none 0 0, .bool false]) w := by
  obtain ⟨E, c, rfl, hk, _, hkl⟩ := hm.entries hw
  obtain ⟨l, hl⟩ := keyOf_pie p hp
  rcases pieLaw.find w hl E.toList hkl with ⟨h1, _⟩ | ⟨j, e, h1, h2, h3⟩
  · simp [Instr.lookup, run_underlying Try.underlying109, MapKept.run_getObj_map hb, pieLaw.check w _ hl, h1, zeroBytes w, Result.andThen]
  · obtain ⟨x, hx, h4, _⟩ := hk e (List.mem_of_getElem? h2)
    exact absurd (pie_inj (h4.symm.trans h3)) (hne x hx)
theorem MapIs.look_some (hm : MapIs o es) (hw : ∀ x ∈ es, Pw x.1) (p : Pc) (hp : Pw p) (u : Value) (hx : (p, u) ∈ es) (hq : ∀ u', (p, u') ∈ es → u' = u) (w : World) (hb : w.heap[g]? = some o) :
    (Instr.lookup 109 (.map (some g)) (.agg (pieC p.1.1 p.2)) true).run Try.prog w = .ok (.tuple #[u, .bool true]) w := by
  obtain ⟨E, c, rfl, hk, hk2, hkl⟩ := hm.entries hw
  obtain ⟨l, hl⟩ := keyOf_pie p hp
  rcases pieLaw.find w hl E.toList hkl with ⟨_, h1⟩ | ⟨j, e, h1, h2, h3⟩
  · obtain ⟨e, he, h2, _⟩ := hk2 _ hx
    exact absurd h2 (h1 e he)
  · obtain ⟨x, hx2, h4, h5⟩ := hk e (List.mem_of_getElem? h2)
    have hxp : x.1 = p := pie_inj (h4.symm.trans h3)
    have hu : e.val = u := by rw [h5]; exact hq _ (by rw [← hxp]; exact hx2)
    rw [hu] at h1
    simp [Instr.lookup, run_underlying Try.underlying109, MapKept.run_getObj_map hb, pieLaw.check w _ hl, h1, Result.andThen]
theorem MapIs.update (hm : MapIs o es) (hw : ∀ x ∈ es, Pw x.1) (p : Pc) (hp : Pw p) (hne : ∀ x ∈ es, x.1 ≠ p) (v : Value) :
    ∃ o', MapIs o' (es ++ [(p, v)]) ∧ ∀ w g, w.heap[g]? = some o → (Instr.mapUpdate 109 (.map (some g)) (.agg (pieC p.1.1 p.2)) v).run Try.prog w = .ok () (ChangeMaps.setBlock w g o') := by
  obtain ⟨E, c, rfl, hE⟩ := id hm
  obtain ⟨E', c', he, hk, _, hkl⟩ := hm.entries hw
  injection he with he1 he2
  subst he1 he2
  obtain ⟨l, hl⟩ := keyOf_pie p hp
  refine ⟨.map (E.push ⟨.agg (pieC p.1.1 p.2), v, c⟩) (c + 1), ⟨_, _, rfl, by simp [hE]⟩, fun w g hb => ?_⟩
  rcases pieLaw.find w hl E.toList hkl with ⟨h1, _⟩ | ⟨j, e, h1, h2, h3⟩
  · simp [Instr.mapUpdate, run_underlying Try.underlying109, MapKept.run_getObj_map hb, pieLaw.check w false hl, h1, MapKept.run_setObj_map _ hb, Result.andThen, ChangeMaps.setBlock]
  · obtain ⟨x, hx, h4, _⟩ := hk e (List.mem_of_getElem? h2)
    exact absurd (pie_inj (h4.symm.trans h3)) (hne x hx)
end

/-! The operations of a walk. -/
class AtM (L : List It) (g : Nat) (p : outParam Nat) (ob : outParam Obj) : Prop where
  out : L[p]? = some (.obj g ob)
instance {g : Nat} {ob : Obj} {L : List It} : AtM (.obj g ob :: L) g 0 ob := ⟨rfl⟩
instance {g p : Nat} {ob : Obj} {x : It} {L : List It} [h : AtM L g p ob] : AtM (x :: L) g (p + 1) ob := ⟨by simpa using h.out⟩
section
variable {P : Program} {ops : Array Oper} {rest : List Oper} {o : Oper} {a : Act} {w0 w : World} {Q : Exit → Act → World → Prop} {L : List It}
theorem Mem.objM (M : Mem w0 w L) (g : Nat) {p : Nat} {ob : Obj} [h : AtM L g p ob] : w.heap[g]? = some ob := (M.at_ h.out).2
theorem Mem.addObj (M : Mem w0 w L) {w' : World} (hb : Up w w') {g : Nat} {ob : Obj} (hg : w.heap.size ≤ g) (ho : w'.heap[g]? = some ob) : Mem w0 w' (.obj g ob :: L) :=
  M.add (x := .obj g ob) hb ⟨Nat.le_trans M.le hg, ho⟩ (fun k hk => by have hk : some g = some k := hk; injection hk with hk; omega)
theorem m_makeMap (M : Mem w0 w L) (hgd : o.guard = none) {t : TypeId} (ho : o.op = .makeMap t none)
    (h : ∀ g w', Mem w0 w' (.obj g (.map #[] 0) :: L) → wpList P ops Q rest (a.put o.dst (.map (some g))) w') : wpList P ops Q (o :: rest) a w :=
  wpList_plain hgd fun _ hK => by
    have hr : (Instr.makeMap t none).run P w = .ok (.map (some w.heap.size)) (w.alloc (.map #[] 0)) := run_makeMap t w
    unfold Oper.wp execOp
    simp only [ho, Option.map_none, Sem.run_bind, hr, Result.andThen_ok, Sem.run_pure]
    exact hK _ _ (h _ _ (M.addObj ((Up.refl _).alloc _) (Nat.le_refl _) (heap_alloc_new w _)))
theorem m_lookup (M : Mem w0 w L) (hgd : o.guard = none) {t : TypeId} {x y : Operand} (ho : o.op = .lookup t x y true) {g : Nat} (hx : a.eval x = .map (some g)) {k : Value} (hy : a.eval y = k) {p : Nat} {ob : Obj} [hL : AtM L g p ob] {v : Value}
    (hr : ∀ w : World, w.heap[g]? = some ob → (Instr.lookup t (.map (some g)) k true).run P w = .ok v w) (h : wpList P ops Q rest (a.put o.dst v) w) : wpList P ops Q (o :: rest) a w :=
  wpList_plain hgd fun _ hK => by
    unfold Oper.wp execOp
    simp only [ho, hx, hy, Sem.run_bind, hr w (M.objM g), Result.andThen_ok, Sem.run_pure]
    exact hK _ _ h
theorem m_mapUpdate (M : Mem w0 w L) (hgd : o.guard = none) {t : TypeId} {x y z : Operand} (ho : o.op = .mapUpdate t x y z) {g : Nat} (hx : a.eval x = .map (some g)) {k v : Value} (hy : a.eval y = k) (hz : a.eval z = v) {p : Nat} {ob ob' : Obj} [hL : AtM L g p ob]
    (hr : ∀ (w : World) (g : Nat), w.heap[g]? = some ob → (Instr.mapUpdate t (.map (some g)) k v).run P w = .ok () (ChangeMaps.setBlock w g ob')) (h : ∀ w', Mem w0 w' (L.set p (.obj g ob')) → wpList P ops Q rest (a.put o.dst undef) w') : wpList P ops Q (o :: rest) a w :=
  wpList_plain hgd fun _ hK => by
    have hb := M.objM (g := g)
    have hlt : g < w.heap.size := (Array.getElem?_eq_some_iff.1 hb).1
    have hM : Mem w0 (ChangeMaps.setBlock w g ob') (L.set p (.obj g ob')) := by
      refine M.chg (x' := .obj g ob') hL.out ⟨rfl, rfl, rfl, by simp [ChangeMaps.setBlock], fun k hk hn => ?_⟩ ⟨(M.at_ hL.out).1, ?_⟩ (fun k hk => .inl hk)
      · simp only [ChangeMaps.setBlock]
        rw [Array.getElem?_setIfInBounds_ne (fun e => hn (by rw [e]; rfl))]
      · simp [ChangeMaps.setBlock, hlt]
    unfold Oper.wp execOp
    simp only [ho, hx, hy, hz, Sem.run_bind, hr w g hb, Result.andThen_ok, Sem.run_pure]
    exact hK _ _ (h _ hM)
end

end Go.Proofs.Ytmbhaoiahlbglaa

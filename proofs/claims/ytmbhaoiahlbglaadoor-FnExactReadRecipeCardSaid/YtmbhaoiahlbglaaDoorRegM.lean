/- Single operations of a region that draws its order, where all that is known of memory is a list of things. No conditions beyond those each lemma states. -/
import Derived.Test.YtmbhaoiahlbglaaDoorTy
import Derived.Test.YtmbhaoiahlbglaaDoorReg2
import Derived.Test.YtmbhaoiahlbglaaDoorMem2
namespace Go.Proofs.YtmbhaoiahlbglaaDoor
open Go.RowKit
set_option linter.unusedVariables false
set_option linter.unusedSimpArgs false

section
variable {P : Program} {ops : Array Oper} {Q : Exit → Act → World → Prop} {o : Oper} {a : Act} {w w0 : World} {F : Value → World → Prop} {L : List It}
theorem st_loadG (M : Mem w0 w L) {ty : TypeId} {x : Operand} (ho : o.op = .load ty x) {g : Nat} (hx : a.eval x = .pointer (some ⟨g, 0, none⟩)) {n : Nat} [hT : RowT P ty n] {p : Nat} {t : TypeId} {cs : Array Value} [hL : AtG L g p t cs] (hn : cs.size = n) (hF : F (.agg cs) w) : St P o a w Q F := by
  obtain ⟨d, h1, h2, h3⟩ := hT.out
  exact st_load_row ho hx (M.blkG g) h1 (by cases d <;> simp_all) (by rw [h3, hn]) hF
theorem st_loadP {ty : TypeId} {x : Operand} (ho : o.op = .load ty x) {g i : Nat} (hx : a.eval x = .pointer (some ⟨g, i, none⟩)) {n : Nat} [hT : RowT P ty n] {xs : List Value} (hc : w.rangeAt g i xs) (hn : xs.length = n) (hF : F (.agg xs.toArray) w) : St P o a w Q F := by
  obtain ⟨d, h1, h2, h3⟩ := hT.out
  exact wp_load_mid ty x ho g i hx xs d hc h1 h2 (by rw [h3, hn]) ⟨_, rfl, Below.refl _ _, hF⟩
theorem st_loadPG (M : Mem w0 w L) {ty : TypeId} {x : Operand} (ho : o.op = .load ty x) {g i : Nat} (hx : a.eval x = .pointer (some ⟨g, i, none⟩)) {n : Nat} [hT : RowT P ty n] {p : Nat} {t : TypeId} {cs : Array Value} [hL : AtG L g p t cs] {xs : List Value} (hc : ∀ j v, xs[j]? = some v → cs[i + j]? = some v) (hn : xs.length = n) (hF : F (.agg xs.toArray) w) : St P o a w Q F :=
  st_loadP ho hx (Blk.rng (M.blkG g) i xs hc) hn hF
theorem st_loadA {ty : TypeId} {x : Operand} (ho : o.op = .load ty x) {g i : Nat} (hx : a.eval x = .pointer (some ⟨g, i, none⟩)) {n : Nat} [hT : RowT P ty n] {l : List UInt8} (hc : w.rangeAt g i (bL l)) (hn : l.length = n) (hF : F (.agg (bA l)) w) : St P o a w Q F :=
  st_loadP ho hx hc (by rw [bL_length, hn]) hF
theorem st_load1 {ty : TypeId} {x : Operand} (ho : o.op = .load ty x) {g i : Nat} (hx : a.eval x = .pointer (some ⟨g, i, none⟩)) [hT : OneT P ty] {v : Value} (hc : w.cell? ⟨g, i, none⟩ = some v) (hF : F v w) : St P o a w Q F := by
  obtain ⟨d, h1, h2, _⟩ := hT.out
  refine st_run (v := v) ?_ hF
  unfold execOp
  simp only [ho, hx, Sem.run_bind, run_loadAt_one h1 h2 hc, Result.andThen_ok, Sem.run_pure]
theorem st_load1G (M : Mem w0 w L) {ty : TypeId} {x : Operand} (ho : o.op = .load ty x) {g i : Nat} (hx : a.eval x = .pointer (some ⟨g, i, none⟩)) [hT : OneT P ty] {p : Nat} {t : TypeId} {cs : Array Value} [hL : AtG L g p t cs] {v : Value} (hc : cs[i]? = some v) (hF : F v w) : St P o a w Q F :=
  st_load1 ho hx (M.cellG hc) hF
theorem st_ret {f : FuncId} {xs : Array Operand} {ats : Array TypeId} (ho : o.op = .call { callee := .value (.func f), args := xs, argTypes := ats }) {args : Array Value}
    (hcf : ∀ args w, (callFunc f args).run P w = .ok (.enter f args) w) (hx : xs.map a.eval = args) {R : Value → World → Prop} (h : Ret P f args w R)
    (hR : ∀ r w', R r w' → Up w w' → F r w') : St P o a w Q F :=
  st_call ho hcf hx h fun e w' ⟨r, he, h1, h2⟩ => ⟨r, he, h2, hR r w' h1 h2⟩
theorem st_ret1 {f : FuncId} {x1 : Operand} {ats : Array TypeId} (ho : o.op = .call { callee := .value (.func f), args := #[x1], argTypes := ats }) {v1 : Value}
    (hcf : ∀ args w, (callFunc f args).run P w = .ok (.enter f args) w) (h1 : a.eval x1 = v1) {R : Value → World → Prop} (h : Ret P f #[v1] w R)
    (hR : ∀ r w', R r w' → Up w w' → F r w') : St P o a w Q F := st_ret ho hcf (by simp [h1]) h hR
theorem st_ret2 {f : FuncId} {x1 x2 : Operand} {ats : Array TypeId} (ho : o.op = .call { callee := .value (.func f), args := #[x1, x2], argTypes := ats }) {v1 v2 : Value}
    (hcf : ∀ args w, (callFunc f args).run P w = .ok (.enter f args) w) (h1 : a.eval x1 = v1) (h2 : a.eval x2 = v2) {R : Value → World → Prop} (h : Ret P f #[v1, v2] w R)
    (hR : ∀ r w', R r w' → Up w w' → F r w') : St P o a w Q F := st_ret ho hcf (by simp [h1, h2]) h hR
theorem st_ret3 {f : FuncId} {x1 x2 x3 : Operand} {ats : Array TypeId} (ho : o.op = .call { callee := .value (.func f), args := #[x1, x2, x3], argTypes := ats }) {v1 v2 v3 : Value}
    (hcf : ∀ args w, (callFunc f args).run P w = .ok (.enter f args) w) (h1 : a.eval x1 = v1) (h2 : a.eval x2 = v2) (h3 : a.eval x3 = v3) {R : Value → World → Prop} (h : Ret P f #[v1, v2, v3] w R)
    (hR : ∀ r w', R r w' → Up w w' → F r w') : St P o a w Q F := st_ret ho hcf (by simp [h1, h2, h3]) h hR
theorem st_lit2 {t : TypeId} {x0 x1 : Operand} (ho : o.op = .buildSlice t 2 #[(0, x0), (1, x1)]) {e : TypeId} [ht : SliceT P t e] {bytes : Nat} {z : Value} [he : ElT P e 1 bytes z]
    {v0 v1 : Value} (h0 : a.eval x0 = v0) (h1 : a.eval x1 = v1) (o0 : v0.oneCell' = true) (o1 : v1.oneCell' = true)
    (hF : F (.slice (some ⟨w.heap.size, 0, none⟩) 2 2) (w.alloc (.cells #[v0, v1] e))) : St P o a w Q F := by
  obtain ⟨g1, g2, g3⟩ := he.out
  obtain ⟨i0, hi0, hz0, hz1, hz2⟩ := info_parts g1
  refine wp_buildSlice t e 2 _ ho #[v0, v1] i0 z ht.out hi0 hz0 (by rw [hz1]; omega) (by rw [hz1]; omega) ?_ ⟨_, rfl, (Below.refl _ _).alloc (Nat.le_refl _) _, hF⟩
  rw [hz1]
  have hp : (((#[(0, x0), (1, x1)] : Array (Nat × Operand)).map fun (i, x) => (i, a.eval x)).toList) = (([v0, v1] : List Value).zipIdx 0).map fun x => (x.2, x.1) := by simp [h0, h1, List.zipIdx]
  rw [hp]
  exact Great.fill_flat _ _ (fun v hv => cells_one (by simp at hv; rcases hv with rfl | rfl <;> assumption)) (by simp)
theorem st_sliceL {t : TypeId} {x y : Operand} (ho : o.op = .slice t x (some y) none none) {vx vy v : Value} (hx : a.eval x = vx) (hy : a.eval y = vy)
    (hr : (Instr.sliceAt t vx (some vy) none none).run P w = .ok v w) (hF : F v w) : St P o a w Q F := by
  refine st_run (v := v) ?_ hF
  unfold execOp
  rw [ho]
  simp only [hx, hy, Option.map_some, Option.map_none]
  rw [Sem.run_bind, hr]
  rfl
theorem st_slice0 {t : TypeId} {x : Operand} (ho : o.op = .slice t x none none none) {vx v : Value} (hx : a.eval x = vx)
    (hr : (Instr.sliceAt t vx none none none).run P w = .ok v w) (hF : F v w) : St P o a w Q F := by
  refine st_run (v := v) ?_ hF
  unfold execOp
  rw [ho]
  simp only [hx, Option.map_none]
  rw [Sem.run_bind, hr]
  rfl
/-- A variable made somewhere in a region. -/
def Fresh (w0 : World) (L : List It) (ty : TypeId) (cs : Array Value) (v : Value) (w : World) : Prop := ∃ g, v = .pointer (some ⟨g, 0, none⟩) ∧ w0.heap.size ≤ g ∧ (∀ x ∈ L, ¬ x.foot g) ∧ Blk w g ty cs
theorem Fresh.up {ty : TypeId} {cs : Array Value} {v : Value} {w' : World} (h : Fresh w0 L ty cs v w) (hb : Up w w') : Fresh w0 L ty cs v w' := by
  obtain ⟨g, h1, h2, h3, h4⟩ := h
  exact ⟨g, h1, h2, h3, h4.up hb⟩
theorem st_new (M : Mem w0 w L) {ty : TypeId} (ho : o.op = .alloc ty) {cs : Array Value} [hz : ZeroT P ty cs] : St P o a w Q (Fresh w0 L ty cs) := by
  unfold St Oper.wp
  rw [run_alloc_ ho hz.out]
  exact ⟨_, rfl, (Below.refl _ _).alloc (Nat.le_refl _) _, ⟨_, rfl, M.le, fun x hx hf => by have := ((M.ok x hx).foot_lt hf).2; omega, Blk.new _ _ _⟩⟩
theorem Mem.fresh {ty : TypeId} {cs : Array Value} {v : Value} (M : Mem w0 w L) (h : Fresh w0 L ty cs v w) : ∃ g, v = .pointer (some ⟨g, 0, none⟩) ∧ Mem w0 w (.blk g ty cs :: L) := by
  obtain ⟨g, h1, h2, h3, h4⟩ := h
  refine ⟨g, h1, M.up, fun y hy => ?_, List.pairwise_cons.2 ⟨fun y hy k hk hk' => ?_, M.sep⟩⟩
  · rcases List.mem_cons.1 hy with rfl | hy
    · exact ⟨h2, h4⟩
    · exact M.ok y hy
  · have hk : some g = some k := hk
    injection hk with hk
    subst hk
    exact h3 y hy hk'
/-- The address of an element of a slice. -/
theorem ix_slice {t e : TypeId} [ht : SliceT P t e] {size bytes : Nat} {z : Value} [he : ElT P e size bytes z] (g o n cap i : Nat) (hi : i < n) (w : World) :
    (Instr.indexAt t (.slice (some ⟨g, o, none⟩) n cap) (.int .i64 (i : Int))).run P w = .ok (.pointer (some ⟨g, o + i * size, none⟩)) w := by
  have h1 := run_sizeOf he w
  have hi' : (0 : Int) ≤ (i : Int) ∧ (i : Int) < (n : Int) := by omega
  simp only [Instr.indexAt, asIntOf, Sem.run_bind, Sem.run_pure, Result.andThen_ok, run_underlying ht.out]
  by_cases hn : n ≤ 1
  · simp [hn, run_underlying ht.out, hi, h1, Addr.add_mid]
  · simp [hn, hi, h1, Addr.add_mid]
end
theorem mixedOrders_ : Tryd.prog.follows .mixedOrders = true := by kernel_rfl

theorem conv_u64 (x : UInt32) (w : World) : (convert 109 84 (.int .u32 (x.toNat : Int))).run Tryd.prog w = .ok (.int .u64 (x.toNat : Int)) w := by
  have := x.toNat_lt
  go_simp
  simp only [IntKind.wrap, IntKind.signed, IntKind.bits]
  simp
  omega

theorem m_ret2 {P : Program} {a : Act} {w0 w : World} {L : List It} {fn : Func} {r u : Tmp} {ty : TypeId} {R : Value → World → Prop} (M : Mem w0 w L) (hd : a.defers = []) (h : fn.results = #[.cell r ty, .tmp u]) {g : Nat} (hp : a.tmps.getD r undef = .pointer (some ⟨g, 0, none⟩)) {n : Nat} [hT : RowT P ty n]
    {p : Nat} {t : TypeId} {cs : Array Value} [hL : AtG L g p t cs] (hn : cs.size = n) (hR : R (.tuple #[.agg cs, a.tmps.getD u undef]) w) :
    bodyPost P fn (fun e w' => ∃ r, e = .returned r ∧ R r w' ∧ Up w0 w') .ret a w := by
  obtain ⟨d, h1, h2, h3⟩ := hT.out
  exact bodyPost_ret (results_row_tmp h _ _ g t cs (0, 0) d hp (M.blkG g) h1 (by cases d <;> simp_all) (by rw [h3, hn])) hd ⟨_, rfl, hR, M.up⟩

end Go.Proofs.YtmbhaoiahlbglaaDoor

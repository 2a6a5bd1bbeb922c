/- Single operations of a region that draws its order, where all that is known of memory is a list of things. No conditions beyond those each lemma states. -/
import Derived.Test.YtkfmokpijkoidaaTy
import Derived.Test.YtkfmokpijkoidaaReg2
namespace Go.Proofs.Ytkfmokpijkoidaa
open Go.RowKit
set_option linter.unusedVariables false
set_option linter.unusedSimpArgs false

section
variable {P : Program} {ops : Array Oper} {Q : Exit → Act → World → Prop} {o : Oper} {a : Act} {w w0 : World} {F : Value → World → Prop} {L : List It}
theorem st_loadG (M : Mem w0 w L) {ty : TypeId} {x : Operand} (ho : o.op = .load ty x) {g : Nat} (hx : a.eval x = .pointer (some ⟨g, 0, none⟩)) {n : Nat} [hT : RowT P ty n] {p : Nat} {t : TypeId} {cs : Array Value} [hL : AtG L g p t cs] (hn : cs.size = n) (hF : F (.agg cs) w) : St P o a w Q F := by
  obtain ⟨d, h1, h2, h3⟩ := hT.out
  exact st_load_row ho hx (M.blkG g) h1 (by cases d <;> simp_all) (by rw [h3, hn]) hF
theorem st_loadP {ty : TypeId} {x : Operand} (ho : o.op = .load ty x) {g i : Nat} (hx : a.eval x = .pointer (some ⟨g, i, none⟩)) {n : Nat} [hT : RowT P ty n] {xs : List Value} (hc : w.rangeAt g i xs) (hn : xs.length = n) (hF : F (.agg xs.toArray) w) : St P o a w Q F := by
  obtain ⟨d, h1, h2, h3⟩ := hT.out
  exact wp_load_mid ty x ho g i hx xs d hc h1 h2 (by rw [h3, hn]) ⟨_, rfl, Below.refl _ _, hF⟩
theorem st_loadPG (M : Mem w0 w L) {ty : TypeId} {x : Operand} (ho : o.op = .load ty x) {g i : Nat} (hx : a.eval x = .pointer (some ⟨g, i, none⟩)) {n : Nat} [hT : RowT P ty n] {p : Nat} {t : TypeId} {cs : Array Value} [hL : AtG L g p t cs] {xs : List Value} (hc : ∀ j v, xs[j]? = some v → cs[i + j]? = some v) (hn : xs.length = n) (hF : F (.agg xs.toArray) w) : St P o a w Q F :=
  st_loadP ho hx (Blk.rng (M.blkG g) i xs hc) hn hF
theorem st_loadA {ty : TypeId} {x : Operand} (ho : o.op = .load ty x) {g i : Nat} (hx : a.eval x = .pointer (some ⟨g, i, none⟩)) {n : Nat} [hT : RowT P ty n] {l : List UInt8} (hc : w.rangeAt g i (bL l)) (hn : l.length = n) (hF : F (.agg (bA l)) w) : St P o a w Q F :=
  st_loadP ho hx hc (by rw [bL_length, hn]) hF
theorem st_load1 {ty : TypeId} {x : Operand} (ho : o.op = .load ty x) {g i : Nat} (hx : a.eval x = .pointer (some ⟨g, i, none⟩)) [hT : OneT P ty] {v : Value} (hc : w.cell? ⟨g, i, none⟩ = some v) (hF : F v w) : St P o a w Q F := by
  obtain ⟨d, h1, h2, _⟩ := hT.out
  refine st_run (v := v) ?_ hF
  unfold execOp
  simp only [ho, hx, Sem.run_bind, run_loadAt_one h1 h2 hc, Result.andThen_ok, Sem.run_pure]
theorem st_load1G (M : Mem w0 w L) {ty : TypeId} {x : Operand} (ho : o.op = .load ty x) {g i : Nat} (hx : a.eval x = .pointer (some ⟨g, i, none⟩)) [hT : OneT P ty] {p : Nat} {t : TypeId} {cs : Array Value} [hL : AtG L g p t cs] {v : Value} (hc : cs[i]? = some v) (hF : F v w) : St P o a w Q F :=
  st_load1 ho hx (M.cellG hc) hF
theorem st_ret {f : FuncId} {xs : Array Operand} {ats : Array TypeId} (ho : o.op = .call { callee := .value (.func f), args := xs, argTypes := ats }) {args : Array Value}
    (hcf : ∀ args w, (callFunc f args).run P w = .ok (.enter f args) w) (hx : xs.map a.eval = args) {R : Value → World → Prop} (h : Ret P f args w R)
    (hR : ∀ r w', R r w' → Up w w' → F r w') : St P o a w Q F :=
  st_call ho hcf hx h fun e w' ⟨r, he, h1, h2⟩ => ⟨r, he, h2, hR r w' h1 h2⟩
theorem st_ret1 {f : FuncId} {x1 : Operand} {ats : Array TypeId} (ho : o.op = .call { callee := .value (.func f), args := #[x1], argTypes := ats }) {v1 : Value}
    (hcf : ∀ args w, (callFunc f args).run P w = .ok (.enter f args) w) (h1 : a.eval x1 = v1) {R : Value → World → Prop} (h : Ret P f #[v1] w R)
    (hR : ∀ r w', R r w' → Up w w' → F r w') : St P o a w Q F := st_ret ho hcf (by simp [h1]) h hR
theorem st_ret2 {f : FuncId} {x1 x2 : Operand} {ats : Array TypeId} (ho : o.op = .call { callee := .value (.func f), args := #[x1, x2], argTypes := ats }) {v1 v2 : Value}
    (hcf : ∀ args w, (callFunc f args).run P w = .ok (.enter f args) w) (h1 : a.eval x1 = v1) (h2 : a.eval x2 = v2) {R : Value → World → Prop} (h : Ret P f #[v1, v2] w R)
    (hR : ∀ r w', R r w' → Up w w' → F r w') : St P o a w Q F := st_ret ho hcf (by simp [h1, h2]) h hR
theorem st_ret3 {f : FuncId} {x1 x2 x3 : Operand} {ats : Array TypeId} (ho : o.op = .call { callee := .value (.func f), args := #[x1, x2, x3], argTypes := ats }) {v1 v2 v3 : Value}
    (hcf : ∀ args w, (callFunc f args).run P w = .ok (.enter f args) w) (h1 : a.eval x1 = v1) (h2 : a.eval x2 = v2) (h3 : a.eval x3 = v3) {R : Value → World → Prop} (h : Ret P f #[v1, v2, v3] w R)
    (hR : ∀ r w', R r w' → Up w w' → F r w') : St P o a w Q F := st_ret ho hcf (by simp [h1, h2, h3]) h hR
/-- The address of an element of a slice. -/
theorem ix_slice {t e : TypeId} [ht : SliceT P t e] {size bytes : Nat} {z : Value} [he : ElT P e size bytes z] (g o n cap i : Nat) (hi : i < n) (w : World) :
    (Instr.indexAt t (.slice (some ⟨g, o, none⟩) n cap) (.int .i64 (i : Int))).run P w = .ok (.pointer (some ⟨g, o + i * size, none⟩)) w := by
  have h1 := run_sizeOf he w
  have hi' : (0 : Int) ≤ (i : Int) ∧ (i : Int) < (n : Int) := by omega
  simp only [Instr.indexAt, asIntOf, Sem.run_bind, Sem.run_pure, Result.andThen_ok, run_underlying ht.out]
  by_cases hn : n ≤ 1
  · simp [hn, run_underlying ht.out, hi, h1, Addr.add_mid]
  · simp [hn, hi, h1, Addr.add_mid]
end
theorem mixedOrders_ : Try.prog.follows .mixedOrders = true := by kernel_rfl

end Go.Proofs.Ytkfmokpijkoidaa

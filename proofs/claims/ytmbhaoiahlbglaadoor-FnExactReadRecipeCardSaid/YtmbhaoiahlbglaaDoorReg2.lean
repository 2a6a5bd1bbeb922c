/- More single operations of a region that draws its order: arithmetic, indexes, conversions. -/
import Derived.Test.YtmbhaoiahlbglaaDoorReg
import Derived.Test.YtmbhaoiahlbglaaDoorProg
namespace Go.Proofs.YtmbhaoiahlbglaaDoor
open Go.RowKit
set_option linter.unusedVariables false
set_option linter.unusedSimpArgs false

section
variable {P : Program} {ops : Array Oper} {Q : Exit → Act → World → Prop} {o : Oper} {a : Act} {w : World} {F : Value → World → Prop}
theorem st_run {v : Value} (hr : (execOp a.eval o).run P w = .ok (.value v) w) (hF : F v w) : St P o a w Q F := by
  unfold St Oper.wp
  rw [hr]
  exact ⟨_, rfl, Below.refl _ _, hF⟩
theorem st_bin {op : BinOp} {t r : TypeId} {x y : Operand} (ho : o.op = .binOp op t x y r) {vx vy v : Value} (hx : a.eval x = vx) (hy : a.eval y = vy)
    (hr : Sem.run P (do eqGuard op t x y vx vy; binOp op t vx vy) w = .ok v w) (hF : F v w) : St P o a w Q F := by
  refine st_run (v := v) ?_ hF
  unfold execOp
  rw [ho]
  simp only [hx, hy]
  rw [Sem.run_bind, hr]
  rfl
theorem st_index {t : TypeId} {x y : Operand} (ho : o.op = .index t x y) {vx vy v : Value} (hx : a.eval x = vx) (hy : a.eval y = vy)
    (hr : (Instr.index t vx vy).run P w = .ok v w) (hF : F v w) : St P o a w Q F := by
  refine st_run (v := v) ?_ hF
  unfold execOp
  rw [ho]
  simp only [hx, hy]
  rw [Sem.run_bind, hr]
  rfl
theorem st_indexAddr {t : TypeId} {x y : Operand} (ho : o.op = .indexAddr t x y) {vx vy v : Value} (hx : a.eval x = vx) (hy : a.eval y = vy)
    (hr : (Instr.indexAt t vx vy).run P w = .ok v w) (hF : F v w) : St P o a w Q F := by
  refine st_run (v := v) ?_ hF
  unfold execOp
  rw [ho]
  simp only [hx, hy]
  rw [Sem.run_bind, hr]
  rfl
theorem st_convert {s t : TypeId} {x : Operand} (ho : o.op = .convert s t x) {vx v : Value} (hx : a.eval x = vx)
    (hr : (convert s t vx).run P w = .ok v w) (hF : F v w) : St P o a w Q F := by
  refine st_run (v := v) ?_ hF
  unfold execOp
  rw [ho]
  simp only [hx]
  rw [Sem.run_bind, hr]
  rfl
end

theorem setRow_alloc_at (w : World) (c c' : Array Value) (t : TypeId) (g : Nat) (h : g = w.heap.size) : (w.alloc (.cells c t)).setRow g c' = w.alloc (.cells c' t) := by
  subst h
  exact World.setRow_alloc_new w c c' t

theorem str_ix (s : ByteArray) (i : Int) (k : Nat) (h : i = k) (hk : k < s.size) (w : World) : (Instr.index 9 (.string s) (.int .i64 i)).run Tryd.prog w = .ok (.int .u8 ((bt s.data.toList k).toNat : Int)) w := by
  subst h
  have hz : k < s.data.toList.length := hk
  go_simp
  rw [bt_eq _ _ hz]
  rfl
theorem bin_mul (x y z : Int) (h : IntKind.wrap .i64 (x * y) = z) (a b : Operand) (w : World) : Sem.run Tryd.prog (do eqGuard .mul 3 a b (.int .i64 x) (.int .i64 y); binOp .mul 3 (.int .i64 x) (.int .i64 y)) w = .ok (.int .i64 z) w := by
  go_simp
  try rw [h]
theorem bin_add (x y z : Int) (h : IntKind.wrap .i64 (x + y) = z) (a b : Operand) (w : World) : Sem.run Tryd.prog (do eqGuard .add 3 a b (.int .i64 x) (.int .i64 y); binOp .add 3 (.int .i64 x) (.int .i64 y)) w = .ok (.int .i64 z) w := by
  go_simp
  try rw [h]
theorem conv_u8 (x : Int) (b : UInt8) (h : x = b.toNat) (w : World) : (convert 3 5 (.int .i64 x)).run Tryd.prog w = .ok (.int .u8 (b.toNat : Int)) w := by
  subst h
  have := b.toNat_lt
  go_simp
  rw [u8_wrap]
  simp
theorem i64_in_ (n : Int) (h : -9223372036854775808 ≤ n ∧ n ≤ 9223372036854775807) : IntKind.wrap .i64 n = n := by rw [IntKind.wrap_i64]; omega
theorem st_mov {P : Program} {Q : Exit → Act → World → Prop} {o : Oper} {a : Act} {w : World} {F : Value → World → Prop} {x : Operand} (ho : o.op = .move x) {v : Value} (hx : a.eval x = v) (hF : F v w) : St P o a w Q F := st_move (.inl ho) hx hF
theorem top_size (w : World) (x : Obj) : w.heap.size + 1 = (w.alloc x).heap.size := (Array.size_push _).symm
theorem results_row_tmp {P : Program} {fn : Func} {p u : Tmp} {ty : TypeId} (h : fn.results = #[.cell p ty, .tmp u]) (tmps : Array Value) (w : World) (g : Nat) (t : TypeId) (cs : Array Value) (fr : Nat × Nat) (d : TypeDesc)
    (hp : tmps.getD p undef = .pointer (some ⟨g, 0, none⟩)) (hg : w.heap[g]? = some (.cells cs t fr))
    (hu : P.underlying ty = some d) (hd : (match d with | .struct _ | .array _ _ => true | _ => false) = true) (hi : (P.info? ty).map (·.size) = some cs.size) :
    (results fn tmps).run P w = .ok (.tuple #[.agg cs, tmps.getD u undef]) w := by
  rw [results_cell_tmp h, hp]
  simp [asAddr, run_loadVar_row w g t ty cs fr d hg hu hd hi, Result.andThen]

end Go.Proofs.YtmbhaoiahlbglaaDoor

/- Walks: proofs of leaves. -/
import Derived.Test.YtmbhaoiahlbglaaHO
import Derived.Test.YtmbhaoiahlbglaaHS
import Derived.Test.YtmbhaoiahlbglaaRegG
import Derived.Stop.BytesEq
namespace Go.Proofs.Ytmbhaoiahlbglaa
open Go.RowKit
set_option linter.unusedVariables false
set_option linter.unusedSimpArgs false

theorem bin_sub64 (x y z : Int) (h : IntKind.wrap .i64 (x - y) = z) (a b : Operand) (w : World) : Sem.run Try.prog (do eqGuard .sub 2 a b (.int .i64 x) (.int .i64 y); binOp .sub 2 (.int .i64 x) (.int .i64 y)) w = .ok (.int .i64 z) w := by
  go_simp
  try rw [h]
theorem bin_eql64 (x y : Int) (a b : Operand) (w : World) : Sem.run Try.prog (do eqGuard .eql 2 a b (.int .i64 x) (.int .i64 y); binOp .eql 2 (.int .i64 x) (.int .i64 y)) w = .ok (.bool (x == y)) w := by
  go_simp
set_option maxRecDepth 100000 in
theorem key_eql (a b : Ky) (w : World) : (binOp .eql 25 (.agg (bA a.1)) (.agg (bA b.1))).run Try.prog w = .ok (.bool (decide (a = b))) w := by
  have h := run_eql_bytes (P := Try.prog) w 25 5 32 Try.underlying25 Try.underlying5 (fun w => Try.sizeOf5 w) a.1 b.1 a.2 b.2
  rw [show (.agg (bA a.1) : Value) = .agg (a.1.map Extern.Stop.cell).toArray from rfl, show (.agg (bA b.1) : Value) = .agg (b.1.map Extern.Stop.cell).toArray from rfl, h]
  congr 2
  rw [Bool.eq_iff_iff]
  simp [Subtype.ext_iff]
set_option maxRecDepth 100000 in
theorem key_eqlG (a b : Ky) (x y : Operand) (w : World) : Sem.run Try.prog (do eqGuard .eql 25 x y (.agg (bA a.1)) (.agg (bA b.1)); binOp .eql 25 (.agg (bA a.1)) (.agg (bA b.1))) w = .ok (.bool (decide (a = b))) w := by
  rw [Sem.run_bind, run_eqGuard_agg _ _ _ _ _ _ _ (by kernel_rfl), Result.andThen_ok, key_eql]
theorem results_cell_cell {fn : Func} {p q : Tmp} {ty : TypeId} (h : fn.results = #[.cell p ty, .cell q ty]) (tmps : Array Value) (P : Program) (w : World) :
    (results fn tmps).run P w =
      ((asAddr (tmps.getD p undef)).run P w).andThen fun a w₁ => ((loadVar ty a).run P w₁).andThen fun v w₂ => ((asAddr (tmps.getD q undef)).run P w₂).andThen fun a' w₃ => ((loadVar ty a').run P w₃).andThen fun v' w₄ => .ok (.tuple #[v, v']) w₄ := by
  simp only [results, h]
  simp [Sem.run_bind, Result.andThen]
theorem results_row_row {P : Program} {fn : Func} {p q : Tmp} {ty : TypeId} (h : fn.results = #[.cell p ty, .cell q ty]) (tmps : Array Value) (w : World) (g1 g2 : Nat) (t1 t2 : TypeId) (cs1 cs2 : Array Value) (fr1 fr2 : Nat × Nat) (d : TypeDesc)
    (hp : tmps.getD p undef = .pointer (some ⟨g1, 0, none⟩)) (hq : tmps.getD q undef = .pointer (some ⟨g2, 0, none⟩)) (hg1 : w.heap[g1]? = some (.cells cs1 t1 fr1)) (hg2 : w.heap[g2]? = some (.cells cs2 t2 fr2))
    (hu : P.underlying ty = some d) (hd : (match d with | .struct _ | .array _ _ => true | _ => false) = true) (hi1 : (P.info? ty).map (·.size) = some cs1.size) (hi2 : (P.info? ty).map (·.size) = some cs2.size) :
    (results fn tmps).run P w = .ok (.tuple #[.agg cs1, .agg cs2]) w := by
  rw [results_cell_cell h, hp, hq]
  simp [asAddr, run_loadVar_row w g1 t1 ty cs1 fr1 d hg1 hu hd hi1, run_loadVar_row w g2 t2 ty cs2 fr2 d hg2 hu hd hi2, Result.andThen]
theorem m_retRR {P : Program} {a : Act} {w0 w : World} {L : List It} {fn : Func} {r u : Tmp} {ty : TypeId} {R : Value → World → Prop} (M : Mem w0 w L) (hd : a.defers = []) (h : fn.results = #[.cell r ty, .cell u ty]) {g1 g2 : Nat} (hp : a.tmps.getD r undef = .pointer (some ⟨g1, 0, none⟩)) (hq : a.tmps.getD u undef = .pointer (some ⟨g2, 0, none⟩)) {n : Nat} [hT : RowT P ty n]
    {p1 p2 : Nat} {t1 t2 : TypeId} {cs1 cs2 : Array Value} [hL1 : AtG L g1 p1 t1 cs1] [hL2 : AtG L g2 p2 t2 cs2] (hn1 : cs1.size = n) (hn2 : cs2.size = n) (hR : R (.tuple #[.agg cs1, .agg cs2]) w) :
    bodyPost P fn (fun e w' => ∃ r, e = .returned r ∧ R r w' ∧ Up w0 w') .ret a w := by
  obtain ⟨d, h1, h2, h3⟩ := hT.out
  exact bodyPost_ret (results_row_row h _ _ g1 g2 t1 t2 cs1 cs2 (0, 0) (0, 0) d hp hq (M.blkG g1) (M.blkG g2) h1 (by cases d <;> simp_all) (by rw [h3, hn1]) (by rw [h3, hn2])) hd ⟨_, rfl, hR, M.up⟩

section
variable {P : Program} {ops : Array Oper} {o : Oper} {a : Act} {w0 w : World} {Q : Exit → Act → World → Prop} {L : List It} {K : Act → World → Prop} {i : Nat}
theorem wpAny_step {n : Nat} {listed : Array Bool} {l : List Nat} (hl : Region.ready .any ops listed = l) (hne : l ≠ []) (h : ∀ i ∈ l, wpOp P ops Q i (wpAny P .any ops Q n (listed.setIfInBounds i true)) a w) : wpAny P .any ops Q (n + 1) listed a w :=
  ⟨fun e => absurd (hl.symm.trans e) hne, fun i hi => h i (hl ▸ hi)⟩
theorem wpAny_end {listed : Array Bool} (hl : Region.ready .any ops listed = []) (h : Q .normal a w) : wpAny P .any ops Q 0 listed a w := ⟨hl, h⟩
theorem op_loadR (hoi : ops[i]? = some o) (hgd : o.guard = none) (M : Mem w0 w L) {ty : TypeId} {x : Operand} (ho : o.op = .load ty x) {g : Nat} (hx : a.eval x = .pointer (some ⟨g, 0, none⟩)) {n : Nat} [hT : RowT P ty n] {p : Nat} {t : TypeId} {cs : Array Value} [hL : AtG L g p t cs] (hn : cs.size = n)
    (h : K (a.put o.dst (.agg cs)) w) : wpOp P ops Q i K a w :=
  wpOp_some hoi hgd (Oper.wp_mono (fun a' w' ⟨v, h1, _, h2, h3⟩ => by subst h1 h2 h3; exact h) (st_loadG (F := fun v w' => v = .agg cs ∧ w' = w) M ho hx hn ⟨rfl, rfl⟩))
theorem op_storeR (hoi : ops[i]? = some o) (hgd : o.guard = none) (M : Mem w0 w L) {ty : TypeId} {x y : Operand} (ho : o.op = .store ty x y) {g : Nat} (hx : a.eval x = .pointer (some ⟨g, 0, none⟩)) {cells : Array Value} (hy : a.eval y = .agg cells) {n : Nat} [hT : RowT P ty n]
    {p : Nat} {t : TypeId} {cs : Array Value} [hL : AtG L g p t cs] (hn : cells.size = n) (hn2 : cs.size = n) (h1 : cells.all (·.oneCell') = true)
    (h : ∀ w', Mem w0 w' (L.set p (.blk g t cells)) → K (a.put o.dst undef) w') : wpOp P ops Q i K a w := by
  obtain ⟨d, _, _, h3⟩ := hT.out
  exact wpOp_some hoi hgd (wp_store_row ty x y ho g cells hx hy t cs (M.at_ hL.out).2 (by rw [h3, hn]) (by rw [hn, hn2]) h1 (h _ (M.setRow_ hL.out cells)))
end

set_option maxHeartbeats 1000000 in
set_option maxRecDepth 100000 in
theorem paired_c (a b : Ky) (r : Bool) (w : World) : Ret Try.prog 75 #[.agg (bA a.1), .agg (bA b.1), .bool r] w fun x _ => x = .tuple #[.agg (bA (if r then b else a).1), .agg (bA (if r then a else b).1)] := by
  refine ret_start fun wx M => ?_
  cases r <;>
  · go_enter Try.func75, Try.ntmps75
    go_wp2_with (first
      | (with_reducible (show wpList _ _ _ (Oper.mk (some 3) (.box _ _) _ _ _ _ :: _) _ _); (first | (refine m_boxA M rfl rfl rfl ?_) | (refine m_box1 (v := Value.int _ _) M rfl rfl rfl rfl ?_) | (refine m_box1 (v := Value.slice _ _ _) M rfl rfl rfl rfl ?_) | (refine m_box1 (v := Value.bool _) M rfl rfl rfl rfl ?_) | (refine m_box1 (v := Value.string _) M rfl rfl rfl rfl ?_) | (refine m_box1 (v := Value.pointer _) M rfl rfl rfl rfl ?_)); clear M; (try clear wx); intro g3 wx M)
      | (with_reducible (show wpList _ _ _ (Oper.mk (some 4) (.box _ _) _ _ _ _ :: _) _ _); (first | (refine m_boxA M rfl rfl rfl ?_) | (refine m_box1 (v := Value.int _ _) M rfl rfl rfl rfl ?_) | (refine m_box1 (v := Value.slice _ _ _) M rfl rfl rfl rfl ?_) | (refine m_box1 (v := Value.bool _) M rfl rfl rfl rfl ?_) | (refine m_box1 (v := Value.string _) M rfl rfl rfl rfl ?_) | (refine m_box1 (v := Value.pointer _) M rfl rfl rfl rfl ?_)); clear M; (try clear wx); intro g4 wx M)
      | (with_reducible (show wpList _ _ _ (Oper.mk (some 6) (.alloc _) _ _ _ _ :: _) _ _); refine mem_new M rfl rfl ?_; clear M; (try clear wx); intro g6 wx M)
      | (with_reducible (show wpList _ _ _ (Oper.mk (some 7) (.alloc _) _ _ _ _ :: _) _ _); refine mem_new M rfl rfl ?_; clear M; (try clear wx); intro g7 wx M)
      | (with_reducible (show wpList _ _ _ (Oper.mk _ (.load _ _) _ _ _ _ :: _) _ _); (first | (refine m_load M rfl rfl rfl (by first | assumption | rfl) ?_) | (refine m_loadR M rfl rfl rfl (by first | rfl | assumption | (simp; done) | (simp; omega)) ?_)))
      | (with_reducible (show wpList _ _ _ (Oper.mk _ (.store _ _ _) _ _ _ _ :: _) _ _); (first | (refine m_storeR M rfl rfl rfl rfl (by first | rfl | assumption | (simp; done) | (simp; omega)) (by first | rfl | assumption | (simp; done) | (simp; omega)) (by first | exact bA_one _ | exact wA_one _ | assumption | (simp [Value.oneCell']; done)) ?_) | (refine m_store (v := Value.int _ _) M rfl rfl rfl rfl rfl (by first | assumption | (simp; done) | (simp; omega)) ?_) | (refine m_store (v := Value.slice _ _ _) M rfl rfl rfl rfl rfl (by first | assumption | (simp; done) | (simp; omega)) ?_) | (refine m_store (v := Value.bool _) M rfl rfl rfl rfl rfl (by first | assumption | (simp; done) | (simp; omega)) ?_) | (refine m_store (v := Value.string _) M rfl rfl rfl rfl rfl (by first | assumption | (simp; done) | (simp; omega)) ?_) | (refine m_store (v := Value.pointer _) M rfl rfl rfl rfl rfl (by first | assumption | (simp; done) | (simp; omega)) ?_)); clear M; (try clear wx); intro wx M; simp only [List.set_cons_zero, List.set_cons_succ, Nat.zero_add, List.nil_append] at M))
    refine wp_region_any mixedOrders_ ?_
    have M := M.grow ((Up.refl _).drew)
    change wpAny _ _ _ _ 4 #[false, false, false, false] _ _
    refine wpAny_step (l := [0, 1]) (by kernel_rfl) (by decide) (fun i hi => ?_)
    simp only [List.mem_cons, List.not_mem_nil, or_false] at hi
    rcases hi with rfl | rfl
    ·
      refine op_loadR rfl rfl M rfl rfl (by simp) ?_
      change wpAny _ _ _ _ 3 #[true, false, false, false] _ _
      refine wpAny_step (l := [1, 2]) (by kernel_rfl) (by decide) (fun i hi => ?_)
      simp only [List.mem_cons, List.not_mem_nil, or_false] at hi
      rcases hi with rfl | rfl
      ·
        refine op_loadR rfl rfl M rfl rfl (by simp) ?_
        change wpAny _ _ _ _ 2 #[true, true, false, false] _ _
        refine wpAny_step (l := [2]) (by kernel_rfl) (by decide) (fun i hi => ?_)
        simp only [List.mem_cons, List.not_mem_nil, or_false] at hi
        subst hi
        refine op_storeR rfl rfl M rfl rfl rfl (by simp) (by simp) (bA_one _) ?_
        clear M
        (try clear wx)
        intro wx M
        simp only [List.set_cons_zero, List.set_cons_succ] at M
        change wpAny _ _ _ _ 1 #[true, true, true, false] _ _
        refine wpAny_step (l := [3]) (by kernel_rfl) (by decide) (fun i hi => ?_)
        simp only [List.mem_cons, List.not_mem_nil, or_false] at hi
        subst hi
        refine op_storeR rfl rfl M rfl rfl rfl (by simp) (by simp) (bA_one _) ?_
        clear M
        (try clear wx)
        intro wx M
        simp only [List.set_cons_zero, List.set_cons_succ] at M
        change wpAny _ _ _ _ 0 #[true, true, true, true] _ _
        refine wpAny_end (by kernel_rfl) ?_
        simp only [Act.put, List.setIfInBounds_toArray, List.set_cons_zero, List.set_cons_succ]
        go_wp2_with (first
          | (with_reducible (show wpList _ _ _ (Oper.mk (some 3) (.box _ _) _ _ _ _ :: _) _ _); (first | (refine m_boxA M rfl rfl rfl ?_) | (refine m_box1 (v := Value.int _ _) M rfl rfl rfl rfl ?_) | (refine m_box1 (v := Value.slice _ _ _) M rfl rfl rfl rfl ?_) | (refine m_box1 (v := Value.bool _) M rfl rfl rfl rfl ?_) | (refine m_box1 (v := Value.string _) M rfl rfl rfl rfl ?_) | (refine m_box1 (v := Value.pointer _) M rfl rfl rfl rfl ?_)); clear M; (try clear wx); intro g3 wx M)
          | (with_reducible (show wpList _ _ _ (Oper.mk (some 4) (.box _ _) _ _ _ _ :: _) _ _); (first | (refine m_boxA M rfl rfl rfl ?_) | (refine m_box1 (v := Value.int _ _) M rfl rfl rfl rfl ?_) | (refine m_box1 (v := Value.slice _ _ _) M rfl rfl rfl rfl ?_) | (refine m_box1 (v := Value.bool _) M rfl rfl rfl rfl ?_) | (refine m_box1 (v := Value.string _) M rfl rfl rfl rfl ?_) | (refine m_box1 (v := Value.pointer _) M rfl rfl rfl rfl ?_)); clear M; (try clear wx); intro g4 wx M)
          | (with_reducible (show wpList _ _ _ (Oper.mk (some 6) (.alloc _) _ _ _ _ :: _) _ _); refine mem_new M rfl rfl ?_; clear M; (try clear wx); intro g6 wx M)
          | (with_reducible (show wpList _ _ _ (Oper.mk (some 7) (.alloc _) _ _ _ _ :: _) _ _); refine mem_new M rfl rfl ?_; clear M; (try clear wx); intro g7 wx M)
          | (with_reducible (show wpList _ _ _ (Oper.mk _ (.load _ _) _ _ _ _ :: _) _ _); (first | (refine m_load M rfl rfl rfl (by first | assumption | rfl) ?_) | (refine m_loadR M rfl rfl rfl (by first | rfl | assumption | (simp; done) | (simp; omega)) ?_)))
          | (with_reducible (show wpList _ _ _ (Oper.mk _ (.store _ _ _) _ _ _ _ :: _) _ _); (first | (refine m_storeR M rfl rfl rfl rfl (by first | rfl | assumption | (simp; done) | (simp; omega)) (by first | rfl | assumption | (simp; done) | (simp; omega)) (by first | exact bA_one _ | exact wA_one _ | assumption | (simp [Value.oneCell']; done)) ?_) | (refine m_store (v := Value.int _ _) M rfl rfl rfl rfl rfl (by first | assumption | (simp; done) | (simp; omega)) ?_) | (refine m_store (v := Value.slice _ _ _) M rfl rfl rfl rfl rfl (by first | assumption | (simp; done) | (simp; omega)) ?_) | (refine m_store (v := Value.bool _) M rfl rfl rfl rfl rfl (by first | assumption | (simp; done) | (simp; omega)) ?_) | (refine m_store (v := Value.string _) M rfl rfl rfl rfl rfl (by first | assumption | (simp; done) | (simp; omega)) ?_) | (refine m_store (v := Value.pointer _) M rfl rfl rfl rfl rfl (by first | assumption | (simp; done) | (simp; omega)) ?_)); clear M; (try clear wx); intro wx M; simp only [List.set_cons_zero, List.set_cons_succ, Nat.zero_add, List.nil_append] at M))
        refine m_retRR M rfl rfl rfl rfl ?_ ?_ ?_
        · simp
        · simp
        · rfl
      ·
        refine op_storeR rfl rfl M rfl rfl rfl (by simp) (by simp) (bA_one _) ?_
        clear M
        (try clear wx)
        intro wx M
        simp only [List.set_cons_zero, List.set_cons_succ] at M
        change wpAny _ _ _ _ 2 #[true, false, true, false] _ _
        refine wpAny_step (l := [1]) (by kernel_rfl) (by decide) (fun i hi => ?_)
        simp only [List.mem_cons, List.not_mem_nil, or_false] at hi
        subst hi
        refine op_loadR rfl rfl M rfl rfl (by simp) ?_
        change wpAny _ _ _ _ 1 #[true, true, true, false] _ _
        refine wpAny_step (l := [3]) (by kernel_rfl) (by decide) (fun i hi => ?_)
        simp only [List.mem_cons, List.not_mem_nil, or_false] at hi
        subst hi
        refine op_storeR rfl rfl M rfl rfl rfl (by simp) (by simp) (bA_one _) ?_
        clear M
        (try clear wx)
        intro wx M
        simp only [List.set_cons_zero, List.set_cons_succ] at M
        change wpAny _ _ _ _ 0 #[true, true, true, true] _ _
        refine wpAny_end (by kernel_rfl) ?_
        simp only [Act.put, List.setIfInBounds_toArray, List.set_cons_zero, List.set_cons_succ]
        go_wp2_with (first
          | (with_reducible (show wpList _ _ _ (Oper.mk (some 3) (.box _ _) _ _ _ _ :: _) _ _); (first | (refine m_boxA M rfl rfl rfl ?_) | (refine m_box1 (v := Value.int _ _) M rfl rfl rfl rfl ?_) | (refine m_box1 (v := Value.slice _ _ _) M rfl rfl rfl rfl ?_) | (refine m_box1 (v := Value.bool _) M rfl rfl rfl rfl ?_) | (refine m_box1 (v := Value.string _) M rfl rfl rfl rfl ?_) | (refine m_box1 (v := Value.pointer _) M rfl rfl rfl rfl ?_)); clear M; (try clear wx); intro g3 wx M)
          | (with_reducible (show wpList _ _ _ (Oper.mk (some 4) (.box _ _) _ _ _ _ :: _) _ _); (first | (refine m_boxA M rfl rfl rfl ?_) | (refine m_box1 (v := Value.int _ _) M rfl rfl rfl rfl ?_) | (refine m_box1 (v := Value.slice _ _ _) M rfl rfl rfl rfl ?_) | (refine m_box1 (v := Value.bool _) M rfl rfl rfl rfl ?_) | (refine m_box1 (v := Value.string _) M rfl rfl rfl rfl ?_) | (refine m_box1 (v := Value.pointer _) M rfl rfl rfl rfl ?_)); clear M; (try clear wx); intro g4 wx M)
          | (with_reducible (show wpList _ _ _ (Oper.mk (some 6) (.alloc _) _ _ _ _ :: _) _ _); refine mem_new M rfl rfl ?_; clear M; (try clear wx); intro g6 wx M)
          | (with_reducible (show wpList _ _ _ (Oper.mk (some 7) (.alloc _) _ _ _ _ :: _) _ _); refine mem_new M rfl rfl ?_; clear M; (try clear wx); intro g7 wx M)
          | (with_reducible (show wpList _ _ _ (Oper.mk _ (.load _ _) _ _ _ _ :: _) _ _); (first | (refine m_load M rfl rfl rfl (by first | assumption | rfl) ?_) | (refine m_loadR M rfl rfl rfl (by first | rfl | assumption | (simp; done) | (simp; omega)) ?_)))
          | (with_reducible (show wpList _ _ _ (Oper.mk _ (.store _ _ _) _ _ _ _ :: _) _ _); (first | (refine m_storeR M rfl rfl rfl rfl (by first | rfl | assumption | (simp; done) | (simp; omega)) (by first | rfl | assumption | (simp; done) | (simp; omega)) (by first | exact bA_one _ | exact wA_one _ | assumption | (simp [Value.oneCell']; done)) ?_) | (refine m_store (v := Value.int _ _) M rfl rfl rfl rfl rfl (by first | assumption | (simp; done) | (simp; omega)) ?_) | (refine m_store (v := Value.slice _ _ _) M rfl rfl rfl rfl rfl (by first | assumption | (simp; done) | (simp; omega)) ?_) | (refine m_store (v := Value.bool _) M rfl rfl rfl rfl rfl (by first | assumption | (simp; done) | (simp; omega)) ?_) | (refine m_store (v := Value.string _) M rfl rfl rfl rfl rfl (by first | assumption | (simp; done) | (simp; omega)) ?_) | (refine m_store (v := Value.pointer _) M rfl rfl rfl rfl rfl (by first | assumption | (simp; done) | (simp; omega)) ?_)); clear M; (try clear wx); intro wx M; simp only [List.set_cons_zero, List.set_cons_succ, Nat.zero_add, List.nil_append] at M))
        refine m_retRR M rfl rfl rfl rfl ?_ ?_ ?_
        · simp
        · simp
        · rfl
    ·
      refine op_loadR rfl rfl M rfl rfl (by simp) ?_
      change wpAny _ _ _ _ 3 #[false, true, false, false] _ _
      refine wpAny_step (l := [0]) (by kernel_rfl) (by decide) (fun i hi => ?_)
      simp only [List.mem_cons, List.not_mem_nil, or_false] at hi
      subst hi
      refine op_loadR rfl rfl M rfl rfl (by simp) ?_
      change wpAny _ _ _ _ 2 #[true, true, false, false] _ _
      refine wpAny_step (l := [2]) (by kernel_rfl) (by decide) (fun i hi => ?_)
      simp only [List.mem_cons, List.not_mem_nil, or_false] at hi
      subst hi
      refine op_storeR rfl rfl M rfl rfl rfl (by simp) (by simp) (bA_one _) ?_
      clear M
      (try clear wx)
      intro wx M
      simp only [List.set_cons_zero, List.set_cons_succ] at M
      change wpAny _ _ _ _ 1 #[true, true, true, false] _ _
      refine wpAny_step (l := [3]) (by kernel_rfl) (by decide) (fun i hi => ?_)
      simp only [List.mem_cons, List.not_mem_nil, or_false] at hi
      subst hi
      refine op_storeR rfl rfl M rfl rfl rfl (by simp) (by simp) (bA_one _) ?_
      clear M
      (try clear wx)
      intro wx M
      simp only [List.set_cons_zero, List.set_cons_succ] at M
      change wpAny _ _ _ _ 0 #[true, true, true, true] _ _
      refine wpAny_end (by kernel_rfl) ?_
      simp only [Act.put, List.setIfInBounds_toArray, List.set_cons_zero, List.set_cons_succ]
      go_wp2_with (first
        | (with_reducible (show wpList _ _ _ (Oper.mk (some 3) (.box _ _) _ _ _ _ :: _) _ _); (first | (refine m_boxA M rfl rfl rfl ?_) | (refine m_box1 (v := Value.int _ _) M rfl rfl rfl rfl ?_) | (refine m_box1 (v := Value.slice _ _ _) M rfl rfl rfl rfl ?_) | (refine m_box1 (v := Value.bool _) M rfl rfl rfl rfl ?_) | (refine m_box1 (v := Value.string _) M rfl rfl rfl rfl ?_) | (refine m_box1 (v := Value.pointer _) M rfl rfl rfl rfl ?_)); clear M; (try clear wx); intro g3 wx M)
        | (with_reducible (show wpList _ _ _ (Oper.mk (some 4) (.box _ _) _ _ _ _ :: _) _ _); (first | (refine m_boxA M rfl rfl rfl ?_) | (refine m_box1 (v := Value.int _ _) M rfl rfl rfl rfl ?_) | (refine m_box1 (v := Value.slice _ _ _) M rfl rfl rfl rfl ?_) | (refine m_box1 (v := Value.bool _) M rfl rfl rfl rfl ?_) | (refine m_box1 (v := Value.string _) M rfl rfl rfl rfl ?_) | (refine m_box1 (v := Value.pointer _) M rfl rfl rfl rfl ?_)); clear M; (try clear wx); intro g4 wx M)
        | (with_reducible (show wpList _ _ _ (Oper.mk (some 6) (.alloc _) _ _ _ _ :: _) _ _); refine mem_new M rfl rfl ?_; clear M; (try clear wx); intro g6 wx M)
        | (with_reducible (show wpList _ _ _ (Oper.mk (some 7) (.alloc _) _ _ _ _ :: _) _ _); refine mem_new M rfl rfl ?_; clear M; (try clear wx); intro g7 wx M)
        | (with_reducible (show wpList _ _ _ (Oper.mk _ (.load _ _) _ _ _ _ :: _) _ _); (first | (refine m_load M rfl rfl rfl (by first | assumption | rfl) ?_) | (refine m_loadR M rfl rfl rfl (by first | rfl | assumption | (simp; done) | (simp; omega)) ?_)))
        | (with_reducible (show wpList _ _ _ (Oper.mk _ (.store _ _ _) _ _ _ _ :: _) _ _); (first | (refine m_storeR M rfl rfl rfl rfl (by first | rfl | assumption | (simp; done) | (simp; omega)) (by first | rfl | assumption | (simp; done) | (simp; omega)) (by first | exact bA_one _ | exact wA_one _ | assumption | (simp [Value.oneCell']; done)) ?_) | (refine m_store (v := Value.int _ _) M rfl rfl rfl rfl rfl (by first | assumption | (simp; done) | (simp; omega)) ?_) | (refine m_store (v := Value.slice _ _ _) M rfl rfl rfl rfl rfl (by first | assumption | (simp; done) | (simp; omega)) ?_) | (refine m_store (v := Value.bool _) M rfl rfl rfl rfl rfl (by first | assumption | (simp; done) | (simp; omega)) ?_) | (refine m_store (v := Value.string _) M rfl rfl rfl rfl rfl (by first | assumption | (simp; done) | (simp; omega)) ?_) | (refine m_store (v := Value.pointer _) M rfl rfl rfl rfl rfl (by first | assumption | (simp; done) | (simp; omega)) ?_)); clear M; (try clear wx); intro wx M; simp only [List.set_cons_zero, List.set_cons_succ, Nat.zero_add, List.nil_append] at M))
      refine m_retRR M rfl rfl rfl rfl ?_ ?_ ?_
      · simp
      · simp
      · rfl

/-- What a leaf and a proof lead to, from the leaf up. -/
def leadF : Ky → List Bool → List Ky → Ky
  | k, b :: bs, p :: ps => leadF (if b then nodeK p k else nodeK k p) bs ps
  | k, _, _ => k
theorem leadF_snoc (b : Bool) (p : Ky) (bs : List Bool) : ∀ (k : Ky) (ps : List Ky), bs.length = ps.length → leadF k (bs ++ [b]) (ps ++ [p]) = if b then nodeK p (leadF k bs ps) else nodeK (leadF k bs ps) p := by
  induction bs with
  | nil =>
    intro k ps h
    obtain rfl := List.eq_nil_of_length_eq_zero h.symm
    rfl
  | cons c bs ih =>
    intro k ps h
    cases ps with
    | nil => cases h
    | cons q ps => exact ih _ ps (by simpa using h)
theorem lead_last (k : Ky) (n i d : Nat) (ps : List Ky) (c : Bool) (S : List Bool) (hs : sideR n i = c :: S) (hp : ps.length = d + 1) (hl : S.length = d) (hd : d < ps.length) :
    leadF k (sideR n i).reverse ps = if c then nodeK (ps[d]'hd) (leadF k S.reverse (ps.take d)) else nodeK (leadF k S.reverse (ps.take d)) (ps[d]'hd) := by
  have h : ps = ps.take d ++ [ps[d]'hd] := by
    rw [← List.take_succ_eq_append_getElem (by omega), List.take_of_length_le (by omega)]
  conv => lhs; rw [hs, List.reverse_cons, h]
  exact leadF_snoc _ _ _ _ _ (by simp; omega)

set_option maxHeartbeats 2000000 in
set_option maxRecDepth 100000 in
theorem l03Lead_c (n : Nat) : ∀ (i : Nat) (k : Ky) (ps : List Ky) (m : Nat), 1 ≤ n → n ≤ 256 → i ≤ 256 → m = (sideR n i).length → ps.length = m → ∀ v w, Rd w 32 v m (kyL ps) →
    Ret Try.prog 70 #[.int .i64 (n : Int), .int .i64 (i : Int), .agg (bA k.1), v] w fun r _ => r = .agg (bA (leadF k (sideR n i).reverse ps).1) := by
  induction n using Nat.strongRecOn with
  | ind n ih =>
  intro i k ps m h1 hn hi hm hps v w hv
  obtain ⟨b, cap, rfl⟩ := hv.shape
  have HV := Lib.hid hv
  have IH := Lib.hid ih
  clear ih hv
  refine ret_start fun wx M => ?_
  by_cases hn1 : n = 1
  · subst hn1
    rw [sideR_one] at hm ⊢
    have HE := Lib.hid (show leadF k [].reverse ps = k by cases ps <;> rfl)
    clear hm hps
    go_enter Try.func70, Try.ntmps70
    go_wp2_with (first
      | (with_reducible (show wpList _ _ _ (Oper.mk (some 6) (.box _ _) _ _ _ _ :: _) _ _); (first | (refine m_boxA M rfl rfl rfl ?_) | (refine m_box1 (v := Value.int _ _) M rfl rfl rfl rfl ?_) | (refine m_box1 (v := Value.slice _ _ _) M rfl rfl rfl rfl ?_) | (refine m_box1 (v := Value.bool _) M rfl rfl rfl rfl ?_) | (refine m_box1 (v := Value.string _) M rfl rfl rfl rfl ?_) | (refine m_box1 (v := Value.pointer _) M rfl rfl rfl rfl ?_)); clear M; (try clear wx); intro g6 wx M)
      | (with_reducible (show wpList _ _ _ (Oper.mk (some 8) (.alloc _) _ _ _ _ :: _) _ _); refine mem_new M rfl rfl ?_; clear M; (try clear wx); intro g8 wx M)
      | (with_reducible (show wpList _ _ _ (Oper.mk _ (.load _ _) _ _ _ _ :: _) _ _); (first | (refine m_load M rfl rfl rfl (by first | assumption | rfl) ?_) | (refine m_loadR M rfl rfl rfl (by first | rfl | assumption | (simp; done) | (simp; omega)) ?_)))
      | (with_reducible (show wpList _ _ _ (Oper.mk _ (.store _ _ _) _ _ _ _ :: _) _ _); (first | (refine m_storeR M rfl rfl rfl rfl (by first | rfl | assumption | (simp; done) | (simp; omega)) (by first | rfl | assumption | (simp; done) | (simp; omega)) (by first | exact bA_one _ | exact wA_one _ | assumption | (simp [Value.oneCell']; done)) ?_) | (refine m_store (v := Value.int _ _) M rfl rfl rfl rfl rfl (by first | assumption | (simp; done) | (simp; omega)) ?_) | (refine m_store (v := Value.slice _ _ _) M rfl rfl rfl rfl rfl (by first | assumption | (simp; done) | (simp; omega)) ?_) | (refine m_store (v := Value.bool _) M rfl rfl rfl rfl rfl (by first | assumption | (simp; done) | (simp; omega)) ?_) | (refine m_store (v := Value.string _) M rfl rfl rfl rfl rfl (by first | assumption | (simp; done) | (simp; omega)) ?_) | (refine m_store (v := Value.pointer _) M rfl rfl rfl rfl rfl (by first | assumption | (simp; done) | (simp; omega)) ?_)); clear M; (try clear wx); intro wx M; simp only [List.set_cons_zero, List.set_cons_succ, Nat.zero_add, List.nil_append] at M))
    exact m_ret M rfl rfl rfl (by simp) (by rw [HE.out])
  · have h2 : 2 ≤ n := by omega
    have hm1 := halfN_lt n h2
    have hm2 := halfN_pos n
    have HH := Lib.hid (l03Half_c n (by omega))
    obtain ⟨d, rfl⟩ : ∃ d, m = d + 1 := by
      by_cases hlt : i < halfN n
      · rw [sideR_lt n i h2 hlt] at hm
        exact ⟨_, hm⟩
      · rw [sideR_ge n i h2 (by omega)] at hm
        exact ⟨_, hm⟩
    have hd1 : d < ps.length := by omega
    have hd2 : d < d + 1 := by omega
    have hd3 : d ≤ d + 1 := by omega
    have hd4 : d < 256 := by have := sideR_len n i h1; omega
    obtain ⟨g, o, rfl, hr⟩ := HV.out.open_ (by omega)
    have C1 := Lib.hid (fun wx (hb : Up w wx) => kyL_range (hr wx hb) d hd1)
    have e1 : ((d + 1 : Nat) : Int) - 1 = (d : Int) := by omega
    by_cases hlt : i < halfN n
    · have hS := sideR_lt n i h2 hlt
      have HE := Lib.hid (lead_last k n i d ps false _ hS hps (by rw [hS] at hm; simpa using hm.symm) hd1)
      have HA : Hid (∀ v w, Rd w 32 v d ((kyL ps).take (d * 32)) → Ret Try.prog 70 #[.int .i64 (halfN n : Int), .int .i64 (i : Int), .agg (bA k.1), v] w fun r _ => r = .agg (bA (leadF k (sideR (halfN n) i).reverse (ps.take d)).1)) := Lib.hid (fun v w h => IH.out _ hm1 i k (ps.take d) d hm2 (by omega) hi (by rw [hS] at hm; simpa using hm) (by rw [List.length_take]; omega) v w (by rw [kyL_take] at h; exact h))
      clear hS hm hps hr
      generalize leadF k (sideR (halfN n) i).reverse (ps.take d) = x at *
      generalize (ps[d]'hd1) = y at *
      generalize halfN n = q at *
      go_enter Try.func70, Try.ntmps70
      go_wp2_with (first
        | (go_at_call 103; (with_reducible refine mem_call M (HH.out _) ?_); clear M; (try clear wx); rintro _ wx rfl _ M)
        | (with_reducible (show wpList _ _ _ (Oper.mk (some 6) (.box _ _) _ _ _ _ :: _) _ _); (first | (refine m_boxA M rfl rfl rfl ?_) | (refine m_box1 (v := Value.int _ _) M rfl rfl rfl rfl ?_) | (refine m_box1 (v := Value.slice _ _ _) M rfl rfl rfl rfl ?_) | (refine m_box1 (v := Value.bool _) M rfl rfl rfl rfl ?_) | (refine m_box1 (v := Value.string _) M rfl rfl rfl rfl ?_) | (refine m_box1 (v := Value.pointer _) M rfl rfl rfl rfl ?_)); clear M; (try clear wx); intro g6 wx M)
        | (with_reducible (show wpList _ _ _ (Oper.mk (some 8) (.alloc _) _ _ _ _ :: _) _ _); refine mem_new M rfl rfl ?_; clear M; (try clear wx); intro g8 wx M)
        | (with_reducible (show wpList _ _ _ (Oper.mk _ (.load _ _) _ _ _ _ :: _) _ _); (first | (refine m_load M rfl rfl rfl (by first | assumption | rfl) ?_) | (refine m_loadR M rfl rfl rfl (by first | rfl | assumption | (simp; done) | (simp; omega)) ?_)))
        | (with_reducible (show wpList _ _ _ (Oper.mk _ (.store _ _ _) _ _ _ _ :: _) _ _); (first | (refine m_storeR M rfl rfl rfl rfl (by first | rfl | assumption | (simp; done) | (simp; omega)) (by first | rfl | assumption | (simp; done) | (simp; omega)) (by first | exact bA_one _ | exact wA_one _ | assumption | (simp [Value.oneCell']; done)) ?_) | (refine m_store (v := Value.int _ _) M rfl rfl rfl rfl rfl (by first | assumption | (simp; done) | (simp; omega)) ?_) | (refine m_store (v := Value.slice _ _ _) M rfl rfl rfl rfl rfl (by first | assumption | (simp; done) | (simp; omega)) ?_) | (refine m_store (v := Value.bool _) M rfl rfl rfl rfl rfl (by first | assumption | (simp; done) | (simp; omega)) ?_) | (refine m_store (v := Value.string _) M rfl rfl rfl rfl rfl (by first | assumption | (simp; done) | (simp; omega)) ?_) | (refine m_store (v := Value.pointer _) M rfl rfl rfl rfl rfl (by first | assumption | (simp; done) | (simp; omega)) ?_)); clear M; (try clear wx); intro wx M; simp only [List.set_cons_zero, List.set_cons_succ, Nat.zero_add, List.nil_append] at M))
      refine region_mono (m := 12) mixedOrders_ (by kernel_rfl) (by kernel_rfl)
        (fun | 0 => fun vq _ => vq = .int .i64 (q : Int) | 1 => fun vq _ => vq = .int .i64 (i : Int) | 2 => fun vq _ => vq = .agg (bA k.1) | 3 => fun vq _ => vq = .slice (some ⟨g, o, none⟩) (d + 1) cap | 4 => fun vq _ => vq = .int .i64 (d : Int) | 5 => fun v wx => Rd wx 32 v d ((kyL ps).take (d * 32)) | 6 => fun vq _ => vq = .agg (bA x.1) | 7 => fun vq _ => vq = .slice (some ⟨g, o, none⟩) (d + 1) cap | 8 => fun vq _ => vq = .int .i64 (d : Int) | 9 => fun vq _ => vq = .pointer (some ⟨g, o + d * 32, none⟩) | 10 => fun vq _ => vq = .agg (bA (y.1)) | 11 => fun vq _ => vq = .agg (bA (nodeK x y).1) | _ => fun _ _ => True)
        (fun wx => Mem w wx [.blk g8 25 (bA zero32), .blk g6 25 (bA k.1)]) ?_ ?_ ?_ ?_ ?_
      · intro j hj v w1 w2 hb h
        match j, hj with
        | 0, _ => exact h
        | 1, _ => exact h
        | 2, _ => exact h
        | 3, _ => exact h
        | 4, _ => exact h
        | 5, _ => exact h.up hb
        | 6, _ => exact h
        | 7, _ => exact h
        | 8, _ => exact h
        | 9, _ => exact h
        | 10, _ => exact h
        | 11, _ => exact h
      · intro w1 w2 hb h
        exact h.grow hb
      · exact M.grow ((Up.refl _).drew)
      · rintro i o hi ho av wv fr gM dep
        match i, hi with
        | 0, _ =>
          obtain rfl := Option.some.inj ho
          exact st_mov rfl (fr.eval rfl) rfl
        | 1, _ =>
          obtain rfl := Option.some.inj ho
          exact st_mov rfl (fr.eval rfl) rfl
        | 2, _ =>
          obtain rfl := Option.some.inj ho
          exact st_loadG gM rfl (fr.eval rfl) (by first | rfl | (simp; done)) rfl
        | 3, _ =>
          obtain rfl := Option.some.inj ho
          exact st_mov rfl (fr.eval rfl) rfl
        | 4, _ =>
          obtain rfl := Option.some.inj ho
          exact st_mov rfl (by rw [fr.eval rfl, ← e1]; rfl) rfl
        | 5, _ =>
          obtain rfl := Option.some.inj ho
          exact st_slH rfl (dep ⟨3, .data⟩ (by simp) rfl) (dep ⟨4, .data⟩ (by simp) rfl) (HV.out.up gM.up) hd3 (fun v h => h)
        | 6, _ =>
          obtain rfl := Option.some.inj ho
          have d0 := dep ⟨0, .data⟩ (by simp) rfl
          have d1 := dep ⟨1, .data⟩ (by simp) rfl
          have d2 := dep ⟨2, .data⟩ (by simp) rfl
          have D5 := dep ⟨5, .data⟩ (by simp) rfl
          exact st_ret4 rfl (fun _ _ => by kernel_rfl) d0 d1 d2 (rfl) (HA.out _ _ D5) (fun r w' h _ => h)
        | 7, _ =>
          obtain rfl := Option.some.inj ho
          exact st_mov rfl (fr.eval rfl) rfl
        | 8, _ =>
          obtain rfl := Option.some.inj ho
          exact st_mov rfl (by rw [fr.eval rfl, ← e1]; rfl) rfl
        | 9, _ =>
          obtain rfl := Option.some.inj ho
          exact st_indexAddr rfl (dep ⟨7, .data⟩ (by simp) rfl) (dep ⟨8, .data⟩ (by simp) rfl) (ix_slice _ _ _ _ _ hd2 _) rfl
        | 10, _ =>
          obtain rfl := Option.some.inj ho
          exact st_loadA rfl (dep ⟨9, .data⟩ (by simp) rfl) (C1.out _ gM.up) y.2 rfl
        | 11, _ =>
          obtain rfl := Option.some.inj ho
          have d0 := dep ⟨6, .data⟩ (by simp) rfl
          have d1 := dep ⟨10, .data⟩ (by simp) rfl
          exact st_ret2 rfl (fun _ _ => by kernel_rfl) d0 d1 (l03Node_c x y _) (fun r w' h _ => h)
      · rintro vs wv gM hf
        have f0 : vs 0 = .int .i64 (q : Int) := hf 0 (by omega)
        have f1 : vs 1 = .int .i64 (i : Int) := hf 1 (by omega)
        have f2 : vs 2 = .agg (bA k.1) := hf 2 (by omega)
        have f3 : vs 3 = .slice (some ⟨g, o, none⟩) (d + 1) cap := hf 3 (by omega)
        have f4 : vs 4 = .int .i64 (d : Int) := hf 4 (by omega)
        have f5 := hf 5 (by omega)
        have f6 : vs 6 = .agg (bA x.1) := hf 6 (by omega)
        have f7 : vs 7 = .slice (some ⟨g, o, none⟩) (d + 1) cap := hf 7 (by omega)
        have f8 : vs 8 = .int .i64 (d : Int) := hf 8 (by omega)
        have f9 : vs 9 = .pointer (some ⟨g, o + d * 32, none⟩) := hf 9 (by omega)
        have f10 : vs 10 = .agg (bA (y.1)) := hf 10 (by omega)
        have f11 : vs 11 = .agg (bA (nodeK x y).1) := hf 11 (by omega)
        simp only [putAll, Act.put, List.getElem?_toArray, List.getElem?_cons_zero, List.getElem?_cons_succ, Option.bind_some, List.setIfInBounds_toArray, List.set_cons_zero, List.set_cons_succ, List.drop_succ_cons, List.drop_zero, List.drop_nil, f11]
        clear f0 f1 f2 f3 f4 f5 f6 f7 f8 f9 f10 f11 hf
        have M := gM
        go_wp2_with (first
          | (with_reducible (show wpList _ _ _ (Oper.mk (some 6) (.box _ _) _ _ _ _ :: _) _ _); (first | (refine m_boxA M rfl rfl rfl ?_) | (refine m_box1 (v := Value.int _ _) M rfl rfl rfl rfl ?_) | (refine m_box1 (v := Value.slice _ _ _) M rfl rfl rfl rfl ?_) | (refine m_box1 (v := Value.bool _) M rfl rfl rfl rfl ?_) | (refine m_box1 (v := Value.string _) M rfl rfl rfl rfl ?_) | (refine m_box1 (v := Value.pointer _) M rfl rfl rfl rfl ?_)); clear M; (try clear wx); intro g6 wx M)
          | (with_reducible (show wpList _ _ _ (Oper.mk (some 8) (.alloc _) _ _ _ _ :: _) _ _); refine mem_new M rfl rfl ?_; clear M; (try clear wx); intro g8 wx M)
          | (with_reducible (show wpList _ _ _ (Oper.mk _ (.load _ _) _ _ _ _ :: _) _ _); (first | (refine m_load M rfl rfl rfl (by first | assumption | rfl) ?_) | (refine m_loadR M rfl rfl rfl (by first | rfl | assumption | (simp; done) | (simp; omega)) ?_)))
          | (with_reducible (show wpList _ _ _ (Oper.mk _ (.store _ _ _) _ _ _ _ :: _) _ _); (first | (refine m_storeR M rfl rfl rfl rfl (by first | rfl | assumption | (simp; done) | (simp; omega)) (by first | rfl | assumption | (simp; done) | (simp; omega)) (by first | exact bA_one _ | exact wA_one _ | assumption | (simp [Value.oneCell']; done)) ?_) | (refine m_store (v := Value.int _ _) M rfl rfl rfl rfl rfl (by first | assumption | (simp; done) | (simp; omega)) ?_) | (refine m_store (v := Value.slice _ _ _) M rfl rfl rfl rfl rfl (by first | assumption | (simp; done) | (simp; omega)) ?_) | (refine m_store (v := Value.bool _) M rfl rfl rfl rfl rfl (by first | assumption | (simp; done) | (simp; omega)) ?_) | (refine m_store (v := Value.string _) M rfl rfl rfl rfl rfl (by first | assumption | (simp; done) | (simp; omega)) ?_) | (refine m_store (v := Value.pointer _) M rfl rfl rfl rfl rfl (by first | assumption | (simp; done) | (simp; omega)) ?_)); clear M; (try clear wx); intro wx M; simp only [List.set_cons_zero, List.set_cons_succ, Nat.zero_add, List.nil_append] at M))
        exact m_ret M rfl rfl rfl (by simp) (by rw [HE.out]; rfl)
    · have hS := sideR_ge n i h2 (by omega)
      have HE := Lib.hid (lead_last k n i d ps true _ hS hps (by rw [hS] at hm; simpa using hm.symm) hd1)
      have HA : Hid (∀ v w, Rd w 32 v d ((kyL ps).take (d * 32)) → Ret Try.prog 70 #[.int .i64 ((n : Int) - (halfN n : Int)), .int .i64 ((i : Int) - (halfN n : Int)), .agg (bA k.1), v] w fun r _ => r = .agg (bA (leadF k (sideR (n - halfN n) (i - halfN n)).reverse (ps.take d)).1)) := Lib.hid (fun v w h => by
        have := IH.out (n - halfN n) (by omega) (i - halfN n) k (ps.take d) d (by omega) (by omega) (by omega) (by rw [hS] at hm; simpa using hm) (by rw [List.length_take]; omega) v w (by rw [kyL_take] at h; exact h)
        rwa [Int.natCast_sub (by omega), Int.natCast_sub (by omega)] at this)
      clear hS hm hps hr
      generalize leadF k (sideR (n - halfN n) (i - halfN n)).reverse (ps.take d) = x at *
      generalize (ps[d]'hd1) = y at *
      generalize halfN n = q at *
      go_enter Try.func70, Try.ntmps70
      go_wp2_with (first
        | (go_at_call 103; (with_reducible refine mem_call M (HH.out _) ?_); clear M; (try clear wx); rintro _ wx rfl _ M)
        | (with_reducible (show wpList _ _ _ (Oper.mk (some 6) (.box _ _) _ _ _ _ :: _) _ _); (first | (refine m_boxA M rfl rfl rfl ?_) | (refine m_box1 (v := Value.int _ _) M rfl rfl rfl rfl ?_) | (refine m_box1 (v := Value.slice _ _ _) M rfl rfl rfl rfl ?_) | (refine m_box1 (v := Value.bool _) M rfl rfl rfl rfl ?_) | (refine m_box1 (v := Value.string _) M rfl rfl rfl rfl ?_) | (refine m_box1 (v := Value.pointer _) M rfl rfl rfl rfl ?_)); clear M; (try clear wx); intro g6 wx M)
        | (with_reducible (show wpList _ _ _ (Oper.mk (some 8) (.alloc _) _ _ _ _ :: _) _ _); refine mem_new M rfl rfl ?_; clear M; (try clear wx); intro g8 wx M)
        | (with_reducible (show wpList _ _ _ (Oper.mk _ (.load _ _) _ _ _ _ :: _) _ _); (first | (refine m_load M rfl rfl rfl (by first | assumption | rfl) ?_) | (refine m_loadR M rfl rfl rfl (by first | rfl | assumption | (simp; done) | (simp; omega)) ?_)))
        | (with_reducible (show wpList _ _ _ (Oper.mk _ (.store _ _ _) _ _ _ _ :: _) _ _); (first | (refine m_storeR M rfl rfl rfl rfl (by first | rfl | assumption | (simp; done) | (simp; omega)) (by first | rfl | assumption | (simp; done) | (simp; omega)) (by first | exact bA_one _ | exact wA_one _ | assumption | (simp [Value.oneCell']; done)) ?_) | (refine m_store (v := Value.int _ _) M rfl rfl rfl rfl rfl (by first | assumption | (simp; done) | (simp; omega)) ?_) | (refine m_store (v := Value.slice _ _ _) M rfl rfl rfl rfl rfl (by first | assumption | (simp; done) | (simp; omega)) ?_) | (refine m_store (v := Value.bool _) M rfl rfl rfl rfl rfl (by first | assumption | (simp; done) | (simp; omega)) ?_) | (refine m_store (v := Value.string _) M rfl rfl rfl rfl rfl (by first | assumption | (simp; done) | (simp; omega)) ?_) | (refine m_store (v := Value.pointer _) M rfl rfl rfl rfl rfl (by first | assumption | (simp; done) | (simp; omega)) ?_)); clear M; (try clear wx); intro wx M; simp only [List.set_cons_zero, List.set_cons_succ, Nat.zero_add, List.nil_append] at M))
      refine region_mono (m := 16) mixedOrders_ (by kernel_rfl) (by kernel_rfl)
        (fun | 0 => fun vq _ => vq = .slice (some ⟨g, o, none⟩) (d + 1) cap | 1 => fun vq _ => vq = .int .i64 (d : Int) | 2 => fun vq _ => vq = .pointer (some ⟨g, o + d * 32, none⟩) | 3 => fun vq _ => vq = .agg (bA (y.1)) | 4 => fun vq _ => vq = .int .i64 (n : Int) | 5 => fun vq _ => vq = .int .i64 (q : Int) | 6 => fun vq _ => vq = .int .i64 ((n : Int) - (q : Int)) | 7 => fun vq _ => vq = .int .i64 (i : Int) | 8 => fun vq _ => vq = .int .i64 (q : Int) | 9 => fun vq _ => vq = .int .i64 ((i : Int) - (q : Int)) | 10 => fun vq _ => vq = .agg (bA k.1) | 11 => fun vq _ => vq = .slice (some ⟨g, o, none⟩) (d + 1) cap | 12 => fun vq _ => vq = .int .i64 (d : Int) | 13 => fun v wx => Rd wx 32 v d ((kyL ps).take (d * 32)) | 14 => fun v wx => v = .agg (bA x.1) | 15 => fun vq _ => vq = .agg (bA (nodeK y x).1) | _ => fun _ _ => True)
        (fun wx => Mem w wx [.blk g8 25 (bA zero32), .blk g6 25 (bA k.1)]) ?_ ?_ ?_ ?_ ?_
      · intro j hj v w1 w2 hb h
        match j, hj with
        | 0, _ => exact h
        | 1, _ => exact h
        | 2, _ => exact h
        | 3, _ => exact h
        | 4, _ => exact h
        | 5, _ => exact h
        | 6, _ => exact h
        | 7, _ => exact h
        | 8, _ => exact h
        | 9, _ => exact h
        | 10, _ => exact h
        | 11, _ => exact h
        | 12, _ => exact h
        | 13, _ => exact h.up hb
        | 14, _ => exact h
        | 15, _ => exact h
        | n + 16, h' => exact absurd h' (by omega)
      · intro w1 w2 hb h
        exact h.grow hb
      · exact M.grow ((Up.refl _).drew)
      · rintro i o hi ho av wv fr gM dep
        match i, hi with
        | 0, _ =>
          obtain rfl := Option.some.inj ho
          exact st_mov rfl (fr.eval rfl) rfl
        | 1, _ =>
          obtain rfl := Option.some.inj ho
          exact st_mov rfl (by rw [fr.eval rfl, ← e1]; rfl) rfl
        | 2, _ =>
          obtain rfl := Option.some.inj ho
          exact st_indexAddr rfl (dep ⟨0, .data⟩ (by simp) rfl) (dep ⟨1, .data⟩ (by simp) rfl) (ix_slice _ _ _ _ _ hd2 _) rfl
        | 3, _ =>
          obtain rfl := Option.some.inj ho
          exact st_loadA rfl (dep ⟨2, .data⟩ (by simp) rfl) (C1.out _ gM.up) y.2 rfl
        | 4, _ =>
          obtain rfl := Option.some.inj ho
          exact st_mov rfl (fr.eval rfl) rfl
        | 5, _ =>
          obtain rfl := Option.some.inj ho
          exact st_mov rfl (fr.eval rfl) rfl
        | 6, _ =>
          obtain rfl := Option.some.inj ho
          exact st_bin rfl (dep ⟨4, .data⟩ (by simp) rfl) (dep ⟨5, .data⟩ (by simp) rfl) (bin_sub64 _ _ _ (i64_in_ _ (by omega)) _ _ _) rfl
        | 7, _ =>
          obtain rfl := Option.some.inj ho
          exact st_mov rfl (fr.eval rfl) rfl
        | 8, _ =>
          obtain rfl := Option.some.inj ho
          exact st_mov rfl (fr.eval rfl) rfl
        | 9, _ =>
          obtain rfl := Option.some.inj ho
          exact st_bin rfl (dep ⟨7, .data⟩ (by simp) rfl) (dep ⟨8, .data⟩ (by simp) rfl) (bin_sub64 _ _ _ (i64_in_ _ (by omega)) _ _ _) rfl
        | 10, _ =>
          obtain rfl := Option.some.inj ho
          exact st_loadG gM rfl (fr.eval rfl) (by first | rfl | (simp; done)) rfl
        | 11, _ =>
          obtain rfl := Option.some.inj ho
          exact st_mov rfl (fr.eval rfl) rfl
        | 12, _ =>
          obtain rfl := Option.some.inj ho
          exact st_mov rfl (by rw [fr.eval rfl, ← e1]; rfl) rfl
        | 13, _ =>
          obtain rfl := Option.some.inj ho
          exact st_slH rfl (dep ⟨11, .data⟩ (by simp) rfl) (dep ⟨12, .data⟩ (by simp) rfl) (HV.out.up gM.up) hd3 (fun v h => h)
        | 14, _ =>
          obtain rfl := Option.some.inj ho
          have D13 := dep ⟨13, .data⟩ (by simp) rfl
          exact st_ret4 rfl (fun _ _ => by kernel_rfl) (dep ⟨6, .data⟩ (by simp) rfl) (dep ⟨9, .data⟩ (by simp) rfl) (dep ⟨10, .data⟩ (by simp) rfl) rfl (HA.out _ _ D13) (fun r w' h _ => h)
        | 15, _ =>
          obtain rfl := Option.some.inj ho
          have d0 := dep ⟨3, .data⟩ (by simp) rfl
          have d1 := dep ⟨14, .data⟩ (by simp) rfl
          exact st_ret2 rfl (fun _ _ => by kernel_rfl) d0 d1 (l03Node_c y x _) (fun r w' h _ => h)
        | n + 16, h' => exact absurd h' (by omega)
      · rintro vs wv gM hf
        have f0 : vs 0 = .slice (some ⟨g, o, none⟩) (d + 1) cap := hf 0 (by omega)
        have f1 : vs 1 = .int .i64 (d : Int) := hf 1 (by omega)
        have f2 : vs 2 = .pointer (some ⟨g, o + d * 32, none⟩) := hf 2 (by omega)
        have f3 : vs 3 = .agg (bA (y.1)) := hf 3 (by omega)
        have f4 : vs 4 = .int .i64 (n : Int) := hf 4 (by omega)
        have f5 : vs 5 = .int .i64 (q : Int) := hf 5 (by omega)
        have f6 : vs 6 = .int .i64 ((n : Int) - (q : Int)) := hf 6 (by omega)
        have f7 : vs 7 = .int .i64 (i : Int) := hf 7 (by omega)
        have f8 : vs 8 = .int .i64 (q : Int) := hf 8 (by omega)
        have f9 : vs 9 = .int .i64 ((i : Int) - (q : Int)) := hf 9 (by omega)
        have f10 : vs 10 = .agg (bA k.1) := hf 10 (by omega)
        have f11 : vs 11 = .slice (some ⟨g, o, none⟩) (d + 1) cap := hf 11 (by omega)
        have f12 : vs 12 = .int .i64 (d : Int) := hf 12 (by omega)
        have f13 := hf 13 (by omega)
        have f14 := hf 14 (by omega)
        have f15 : vs 15 = .agg (bA (nodeK y x).1) := hf 15 (by omega)
        simp only [putAll, Act.put, List.getElem?_toArray, List.getElem?_cons_zero, List.getElem?_cons_succ, Option.bind_some, List.setIfInBounds_toArray, List.set_cons_zero, List.set_cons_succ, List.drop_succ_cons, List.drop_zero, List.drop_nil, f15]
        clear f0 f1 f2 f3 f4 f5 f6 f7 f8 f9 f10 f11 f12 f13 f14 f15 hf
        have M := gM
        go_wp2_with (first
          | (with_reducible (show wpList _ _ _ (Oper.mk (some 6) (.box _ _) _ _ _ _ :: _) _ _); (first | (refine m_boxA M rfl rfl rfl ?_) | (refine m_box1 (v := Value.int _ _) M rfl rfl rfl rfl ?_) | (refine m_box1 (v := Value.slice _ _ _) M rfl rfl rfl rfl ?_) | (refine m_box1 (v := Value.bool _) M rfl rfl rfl rfl ?_) | (refine m_box1 (v := Value.string _) M rfl rfl rfl rfl ?_) | (refine m_box1 (v := Value.pointer _) M rfl rfl rfl rfl ?_)); clear M; (try clear wx); intro g6 wx M)
          | (with_reducible (show wpList _ _ _ (Oper.mk (some 8) (.alloc _) _ _ _ _ :: _) _ _); refine mem_new M rfl rfl ?_; clear M; (try clear wx); intro g8 wx M)
          | (with_reducible (show wpList _ _ _ (Oper.mk _ (.load _ _) _ _ _ _ :: _) _ _); (first | (refine m_load M rfl rfl rfl (by first | assumption | rfl) ?_) | (refine m_loadR M rfl rfl rfl (by first | rfl | assumption | (simp; done) | (simp; omega)) ?_)))
          | (with_reducible (show wpList _ _ _ (Oper.mk _ (.store _ _ _) _ _ _ _ :: _) _ _); (first | (refine m_storeR M rfl rfl rfl rfl (by first | rfl | assumption | (simp; done) | (simp; omega)) (by first | rfl | assumption | (simp; done) | (simp; omega)) (by first | exact bA_one _ | exact wA_one _ | assumption | (simp [Value.oneCell']; done)) ?_) | (refine m_store (v := Value.int _ _) M rfl rfl rfl rfl rfl (by first | assumption | (simp; done) | (simp; omega)) ?_) | (refine m_store (v := Value.slice _ _ _) M rfl rfl rfl rfl rfl (by first | assumption | (simp; done) | (simp; omega)) ?_) | (refine m_store (v := Value.bool _) M rfl rfl rfl rfl rfl (by first | assumption | (simp; done) | (simp; omega)) ?_) | (refine m_store (v := Value.string _) M rfl rfl rfl rfl rfl (by first | assumption | (simp; done) | (simp; omega)) ?_) | (refine m_store (v := Value.pointer _) M rfl rfl rfl rfl rfl (by first | assumption | (simp; done) | (simp; omega)) ?_)); clear M; (try clear wx); intro wx M; simp only [List.set_cons_zero, List.set_cons_succ, Nat.zero_add, List.nil_append] at M))
        exact m_ret M rfl rfl rfl (by simp) (by rw [HE.out]; rfl)

/-- What a check of a proof says. -/
def cpT (root leaf : Ky) (n i : Int) (ps : List Ky) : Bool × Int :=
  if 256 < ps.length then (false, 3) else if 1 ≤ n ∧ n ≤ 256 ∧ 0 ≤ i ∧ i ≤ n - 1 then
    (decide (ps.length = (sideR n.toNat i.toNat).length) && decide (leadF leaf (sideR n.toNat i.toNat).reverse ps = root), 0) else (false, 2)
section
variable {P : Program} {Q : Exit → Act → World → Prop} {o : Oper} {a : Act} {w w0 : World} {F : Value → World → Prop}
theorem st_ext0 {x : Operand} (ho : o.op = .extract x 0) {v0 v1 : Value} (hx : a.eval x = .tuple #[v0, v1]) (hF : F v0 w) : St P o a w Q F := by
  refine st_run (v := v0) ?_ hF
  unfold execOp
  simp only [ho, hx]
  rfl
theorem st_ext1 {x : Operand} (ho : o.op = .extract x 1) {v0 v1 : Value} (hx : a.eval x = .tuple #[v0, v1]) (hF : F v1 w) : St P o a w Q F := by
  refine st_run (v := v1) ?_ hF
  unfold execOp
  simp only [ho, hx]
  rfl
theorem st_ret5 {f : FuncId} {x1 x2 x3 x4 x5 : Operand} {ats : Array TypeId} (ho : o.op = .call { callee := .value (.func f), args := #[x1, x2, x3, x4, x5], argTypes := ats }) {v1 v2 v3 v4 v5 : Value}
    (hcf : ∀ args w, (callFunc f args).run P w = .ok (.enter f args) w) (h1 : a.eval x1 = v1) (h2 : a.eval x2 = v2) (h3 : a.eval x3 = v3) (h4 : a.eval x4 = v4) (h5 : a.eval x5 = v5) {R : Value → World → Prop} (h : Ret P f #[v1, v2, v3, v4, v5] w R)
    (hR : ∀ r w', R r w' → Up w w' → F r w') : St P o a w Q F := st_ret ho hcf (by simp [h1, h2, h3, h4, h5]) h hR
end

theorem l00In_is (x lo hi : Int) (b : Bool) (h : (decide (lo ≤ x) && decide (x ≤ hi)) = b) (w : World) : Ret Try.prog 62 #[.int .i64 x, .int .i64 lo, .int .i64 hi] w fun r _ => r = .bool b := h ▸ l00In_c x lo hi w
theorem within_is (x lo hi : Int) (b : Bool) (h : (decide (lo ≤ x) && decide (x ≤ hi)) = b) (w : World) : Ret Try.prog 65 #[.int .i64 x, .int .i64 lo, .int .i64 hi] w fun r _ => r = .bool b := h ▸ within_c x lo hi w
set_option maxRecDepth 100000 in
theorem isLeaves_is (x : Int) (b : Bool) (h : (decide (1 ≤ x) && decide (x ≤ 256)) = b) (w : World) : Ret Try.prog 112 #[.int .i64 x] w fun r _ => r = .bool b := by
  have HW := Lib.hid (within_is x 1 256 b h)
  refine ret_start fun wx M => ?_
  clear h
  go_enter Try.func112, Try.ntmps112
  go_wp2_with (first
    | (go_at_call 65; (with_reducible refine mem_call M (HW.out _) ?_); clear M; (try clear wx); rintro _ wx rfl _ M))
  go_ret
  exact ⟨_, rfl, rfl, M.up⟩
theorem boL_get (l : List Bool) (k : Nat) (h : k < l.length) : (boL l)[k]? = some (.bool l[k]) := by simp [boL, h]
theorem lead_step (leaf : Ky) (S : List Bool) (ps : List Ky) (k : Nat) (h1 : k < S.length) (h2 : k < ps.length) :
    leadF leaf (S.take (k + 1)) (ps.take (k + 1)) = nodeK (if S[k] then ps[k] else leadF leaf (S.take k) (ps.take k)) (if S[k] then leadF leaf (S.take k) (ps.take k) else ps[k]) := by
  rw [List.take_succ_eq_append_getElem h1, List.take_succ_eq_append_getElem h2, leadF_snoc _ _ _ _ _ (by simp; omega)]
  split <;> rfl
set_option maxHeartbeats 2000000 in
set_option maxRecDepth 100000 in
theorem implCheckProof_c (root leaf : Ky) (n i : Int) (v : Value) (m : Nat) (ps : List Ky) (hps : ps.length = m) (w : World) (hv : Rd w 32 v m (kyL ps)) (hl : m ≤ 1048576) :
    Ret Try.prog 72 #[.agg (bA root.1), .int .i64 n, .int .i64 i, .agg (bA leaf.1), v] w fun r _ => r = .tuple #[.bool (cpT root leaf n i ps).1, .int .i64 (cpT root leaf n i ps).2] := by
  obtain ⟨b, cap, rfl⟩ := hv.shape
  have HV := Lib.hid hv
  have HP := Lib.hid hps
  refine ret_start fun wx M => ?_
  clear hv
  by_cases hbig : 256 < m
  · have HE := Lib.hid (show cpT root leaf n i ps = (false, 3) by rw [cpT, if_pos (by omega)])
    clear hps
    go_enter Try.func72, Try.ntmps72
    go_wp2_with (first
      | (with_reducible (show wpList _ _ _ (Oper.mk (some 5) (.box _ _) _ _ _ _ :: _) _ _); (first | (refine m_boxA M rfl rfl rfl ?_) | (refine m_box1 (v := Value.int _ _) M rfl rfl rfl rfl ?_) | (refine m_box1 (v := Value.slice _ _ _) M rfl rfl rfl rfl ?_) | (refine m_box1 (v := Value.bool _) M rfl rfl rfl rfl ?_) | (refine m_box1 (v := Value.string _) M rfl rfl rfl rfl ?_) | (refine m_box1 (v := Value.pointer _) M rfl rfl rfl rfl ?_)); clear M; (try clear wx); intro g5 wx M)
      | (with_reducible (show wpList _ _ _ (Oper.mk (some 8) (.box _ _) _ _ _ _ :: _) _ _); (first | (refine m_boxA M rfl rfl rfl ?_) | (refine m_box1 (v := Value.int _ _) M rfl rfl rfl rfl ?_) | (refine m_box1 (v := Value.slice _ _ _) M rfl rfl rfl rfl ?_) | (refine m_box1 (v := Value.bool _) M rfl rfl rfl rfl ?_) | (refine m_box1 (v := Value.string _) M rfl rfl rfl rfl ?_) | (refine m_box1 (v := Value.pointer _) M rfl rfl rfl rfl ?_)); clear M; (try clear wx); intro g8 wx M)
      | (with_reducible (show wpList _ _ _ (Oper.mk _ (.load _ _) _ _ _ _ :: _) _ _); (first | (refine m_load M rfl rfl rfl (by first | assumption | rfl) ?_) | (refine m_loadR M rfl rfl rfl (by first | rfl | assumption | (simp; done) | (simp; omega)) ?_)))
      | (with_reducible (show wpList _ _ _ (Oper.mk _ (.store _ _ _) _ _ _ _ :: _) _ _); (first | (refine m_storeR M rfl rfl rfl rfl (by first | rfl | assumption | (simp; done) | (simp; omega)) (by first | rfl | assumption | (simp; done) | (simp; omega)) (by first | exact bA_one _ | exact wA_one _ | assumption | (simp [Value.oneCell']; done)) ?_) | (refine m_store (v := Value.int _ _) M rfl rfl rfl rfl rfl (by first | assumption | (simp; done) | (simp; omega)) ?_) | (refine m_store (v := Value.slice _ _ _) M rfl rfl rfl rfl rfl (by first | assumption | (simp; done) | (simp; omega)) ?_) | (refine m_store (v := Value.bool _) M rfl rfl rfl rfl rfl (by first | assumption | (simp; done) | (simp; omega)) ?_) | (refine m_store (v := Value.string _) M rfl rfl rfl rfl rfl (by first | assumption | (simp; done) | (simp; omega)) ?_) | (refine m_store (v := Value.pointer _) M rfl rfl rfl rfl rfl (by first | assumption | (simp; done) | (simp; omega)) ?_)); clear M; (try clear wx); intro wx M; simp only [List.set_cons_zero, List.set_cons_succ, Nat.zero_add, List.nil_append] at M))
    go_ret2
    exact ⟨_, rfl, by rw [HE.out]; rfl, M.up⟩
  · by_cases hn : 1 ≤ n ∧ n ≤ 256
    · have HI1 := Lib.hid (isLeaves_is n true (by simp [hn]))
      by_cases hi : 0 ≤ i ∧ i ≤ n - 1
      · have HI2 := Lib.hid (within_is i 0 (n - 1) true (by simp [hi]))
        obtain ⟨n, rfl⟩ : ∃ k : Nat, n = (k : Int) := ⟨n.toNat, by omega⟩
        obtain ⟨i, rfl⟩ : ∃ k : Nat, i = (k : Int) := ⟨i.toNat, by omega⟩
        have HE := Lib.hid (show cpT root leaf n i ps = (decide (m = (sideR n i).length) && decide (leadF leaf (sideR n i).reverse ps = root), 0) by rw [cpT, if_neg (by omega), if_pos ⟨hn.1, hn.2, hi.1, hi.2⟩, hps]; rfl)
        have HD := Lib.hid (sides_c n i (by omega) (by omega) (by omega))
        have hdl := sideR_len n i (by omega)
        have hb1 : (n : Int) ≤ 256 := hn.2
        have hb2 : (1 : Int) ≤ n := hn.1
        have HSL := Lib.hid (show (sideR n i).reverse.length = (sideR n i).length by simp)
        by_cases hm : m = (sideR n i).length
        · rw [decide_eq_true hm, Bool.true_and] at HE
          rw [← hm] at HD HSL hdl
          clear hm hps hn hi
          generalize (sideR n i).reverse = S at *
          go_enter Try.func72, Try.ntmps72
          go_wp2_with (first
            | (go_at_call 112; (with_reducible refine mem_call M (HI1.out _) ?_); clear M; (try clear wx); rintro _ wx rfl _ M)
            | (go_at_call 65; (with_reducible refine mem_call M (HI2.out _) ?_); clear M; (try clear wx); rintro _ wx rfl _ M)
            | (go_at_call 74; (with_reducible refine mem_callO M (HD.out _) ?_); clear M; (try clear wx); intro bs caps wx M)
            | (with_reducible (show wpList _ _ _ (Oper.mk (some 5) (.box _ _) _ _ _ _ :: _) _ _); (first | (refine m_boxA M rfl rfl rfl ?_) | (refine m_box1 (v := Value.int _ _) M rfl rfl rfl rfl ?_) | (refine m_box1 (v := Value.slice _ _ _) M rfl rfl rfl rfl ?_) | (refine m_box1 (v := Value.bool _) M rfl rfl rfl rfl ?_) | (refine m_box1 (v := Value.string _) M rfl rfl rfl rfl ?_) | (refine m_box1 (v := Value.pointer _) M rfl rfl rfl rfl ?_)); clear M; (try clear wx); intro g5 wx M)
            | (with_reducible (show wpList _ _ _ (Oper.mk (some 8) (.box _ _) _ _ _ _ :: _) _ _); (first | (refine m_boxA M rfl rfl rfl ?_) | (refine m_box1 (v := Value.int _ _) M rfl rfl rfl rfl ?_) | (refine m_box1 (v := Value.slice _ _ _) M rfl rfl rfl rfl ?_) | (refine m_box1 (v := Value.bool _) M rfl rfl rfl rfl ?_) | (refine m_box1 (v := Value.string _) M rfl rfl rfl rfl ?_) | (refine m_box1 (v := Value.pointer _) M rfl rfl rfl rfl ?_)); clear M; (try clear wx); intro g8 wx M)
            | (with_reducible (show wpList _ _ _ (Oper.mk _ (.load _ _) _ _ _ _ :: _) _ _); (first | (refine m_load M rfl rfl rfl (by first | assumption | rfl) ?_) | (refine m_loadR M rfl rfl rfl (by first | rfl | assumption | (simp; done) | (simp; omega)) ?_)))
            | (with_reducible (show wpList _ _ _ (Oper.mk _ (.store _ _ _) _ _ _ _ :: _) _ _); (first | (refine m_storeR M rfl rfl rfl rfl (by first | rfl | assumption | (simp; done) | (simp; omega)) (by first | rfl | assumption | (simp; done) | (simp; omega)) (by first | exact bA_one _ | exact wA_one _ | assumption | (simp [Value.oneCell']; done)) ?_) | (refine m_store (v := Value.int _ _) M rfl rfl rfl rfl rfl (by first | assumption | (simp; done) | (simp; omega)) ?_) | (refine m_store (v := Value.slice _ _ _) M rfl rfl rfl rfl rfl (by first | assumption | (simp; done) | (simp; omega)) ?_) | (refine m_store (v := Value.bool _) M rfl rfl rfl rfl rfl (by first | assumption | (simp; done) | (simp; omega)) ?_) | (refine m_store (v := Value.string _) M rfl rfl rfl rfl rfl (by first | assumption | (simp; done) | (simp; omega)) ?_) | (refine m_store (v := Value.pointer _) M rfl rfl rfl rfl rfl (by first | assumption | (simp; done) | (simp; omega)) ?_)); clear M; (try clear wx); intro wx M; simp only [List.set_cons_zero, List.set_cons_succ, Nat.zero_add, List.nil_append] at M))
          go_loopg [40] m (fun q x wr => ∃ (k : Nat), k + q = m ∧ x = .int .i64 (k : Int) ∧ Mem w wr [.own bs caps 4 1 m (boL S), .blk g8 25 (bA (leadF leaf (S.take k) (ps.take k)).1), .blk g5 25 (bA root.1)])
          case atStart => exact ⟨0, by omega, rfl, M⟩
          case round =>
            obtain ⟨k, hk, rfl, M⟩ := hrel
            by_cases hlt : k < m
            · have h1 : k < S.length := by have := HSL.out; omega
              have h2 : k < ps.length := by have := HP.out; omega
              obtain ⟨gs, os, rfl, hr⟩ := (M.rdO (b := bs) (cap := caps) (boL_one S)).open_ (by omega)
              have c1 := hr wr (Up.refl _) k _ (boL_get S k h1)
              obtain ⟨g, o, rfl, hr2⟩ := HV.out.open_ (by omega)
              have C2 := Lib.hid (fun wx (hb : Up w wx) => kyL_range (hr2 wx hb) k h2)
              have HST := Lib.hid (lead_step leaf S ps k h1 h2)
              obtain ⟨z, HZ⟩ : ∃ z, Hid (leadF leaf (S.take (k + 1)) (ps.take (k + 1)) = z) := ⟨_, Lib.hid rfl⟩
              rw [HZ.out] at HST
              have HK := Lib.hid hk
              clear hr hr2 hk
              generalize leadF leaf (S.take k) (ps.take k) = x at *
              generalize (S[k]'h1) = c at *
              generalize (ps[k]'h2) = y at *
              go_wp2_with (first
                | (with_reducible (show wpList _ _ _ (Oper.mk (some 5) (.box _ _) _ _ _ _ :: _) _ _); (first | (refine m_boxA M rfl rfl rfl ?_) | (refine m_box1 (v := Value.int _ _) M rfl rfl rfl rfl ?_) | (refine m_box1 (v := Value.slice _ _ _) M rfl rfl rfl rfl ?_) | (refine m_box1 (v := Value.bool _) M rfl rfl rfl rfl ?_) | (refine m_box1 (v := Value.string _) M rfl rfl rfl rfl ?_) | (refine m_box1 (v := Value.pointer _) M rfl rfl rfl rfl ?_)); clear M; (try clear wx); intro g5 wx M)
                | (with_reducible (show wpList _ _ _ (Oper.mk (some 8) (.box _ _) _ _ _ _ :: _) _ _); (first | (refine m_boxA M rfl rfl rfl ?_) | (refine m_box1 (v := Value.int _ _) M rfl rfl rfl rfl ?_) | (refine m_box1 (v := Value.slice _ _ _) M rfl rfl rfl rfl ?_) | (refine m_box1 (v := Value.bool _) M rfl rfl rfl rfl ?_) | (refine m_box1 (v := Value.string _) M rfl rfl rfl rfl ?_) | (refine m_box1 (v := Value.pointer _) M rfl rfl rfl rfl ?_)); clear M; (try clear wx); intro g8 wx M)
                | (with_reducible (show wpList _ _ _ (Oper.mk _ (.load _ _) _ _ _ _ :: _) _ _); (first | (refine m_load M rfl rfl rfl (by first | assumption | rfl) ?_) | (refine m_loadR M rfl rfl rfl (by first | rfl | assumption | (simp; done) | (simp; omega)) ?_)))
                | (with_reducible (show wpList _ _ _ (Oper.mk _ (.store _ _ _) _ _ _ _ :: _) _ _); (first | (refine m_storeR M rfl rfl rfl rfl (by first | rfl | assumption | (simp; done) | (simp; omega)) (by first | rfl | assumption | (simp; done) | (simp; omega)) (by first | exact bA_one _ | exact wA_one _ | assumption | (simp [Value.oneCell']; done)) ?_) | (refine m_store (v := Value.int _ _) M rfl rfl rfl rfl rfl (by first | assumption | (simp; done) | (simp; omega)) ?_) | (refine m_store (v := Value.slice _ _ _) M rfl rfl rfl rfl rfl (by first | assumption | (simp; done) | (simp; omega)) ?_) | (refine m_store (v := Value.bool _) M rfl rfl rfl rfl rfl (by first | assumption | (simp; done) | (simp; omega)) ?_) | (refine m_store (v := Value.string _) M rfl rfl rfl rfl rfl (by first | assumption | (simp; done) | (simp; omega)) ?_) | (refine m_store (v := Value.pointer _) M rfl rfl rfl rfl rfl (by first | assumption | (simp; done) | (simp; omega)) ?_)); clear M; (try clear wx); intro wx M; simp only [List.set_cons_zero, List.set_cons_succ, Nat.zero_add, List.nil_append] at M))
              refine region_mono (m := 10) mixedOrders_ (by kernel_rfl) (by kernel_rfl)
                (fun | 0 => fun vq _ => vq = .agg (bA x.1) | 1 => fun vq _ => vq = .slice (some ⟨g, o, none⟩) m cap | 2 => fun vq _ => vq = .int .i64 (k : Int) | 3 => fun vq _ => vq = .pointer (some ⟨g, o + k * 32, none⟩) | 4 => fun vq _ => vq = .agg (bA (y.1)) | 5 => fun vq _ => vq = .bool c | 6 => fun vq _ => vq = .tuple #[.agg (bA (if c then y else x).1), .agg (bA (if c then x else y).1)] | 7 => fun v wx => v = .agg (bA (if c then y else x).1) | 8 => fun v wx => v = .agg (bA (if c then x else y).1) | 9 => fun vq _ => vq = .agg (bA (nodeK (if c then y else x) (if c then x else y)).1) | _ => fun _ _ => True)
                (fun wx => Mem w wx [.own (some ⟨gs, os, none⟩) caps 4 1 m (boL S), .blk g8 25 (bA x.1), .blk g5 25 (bA root.1)]) ?_ ?_ ?_ ?_ ?_
              · intro j hj v w1 w2 hb h
                match j, hj with
                | 0, _ => exact h
                | 1, _ => exact h
                | 2, _ => exact h
                | 3, _ => exact h
                | 4, _ => exact h
                | 5, _ => exact h
                | 6, _ => exact h
                | 7, _ => exact h
                | 8, _ => exact h
                | 9, _ => exact h
              · intro w1 w2 hb h
                exact h.grow hb
              · exact M.grow ((Up.refl _).drew)
              · rintro i o hi ho av wv fr gM dep
                match i, hi with
                | 0, _ =>
                  obtain rfl := Option.some.inj ho
                  exact st_loadG gM rfl (fr.eval rfl) (by first | rfl | (simp; done)) rfl
                | 1, _ =>
                  obtain rfl := Option.some.inj ho
                  exact st_mov rfl (fr.eval rfl) rfl
                | 2, _ =>
                  obtain rfl := Option.some.inj ho
                  exact st_mov rfl (fr.eval rfl) rfl
                | 3, _ =>
                  obtain rfl := Option.some.inj ho
                  exact st_indexAddr rfl (dep ⟨1, .data⟩ (by simp) rfl) (dep ⟨2, .data⟩ (by simp) rfl) (ix_slice _ _ _ _ _ hlt _) rfl
                | 4, _ =>
                  obtain rfl := Option.some.inj ho
                  exact st_loadA rfl (dep ⟨3, .data⟩ (by simp) rfl) (C2.out _ gM.up) y.2 rfl
                | 5, _ =>
                  obtain rfl := Option.some.inj ho
                  exact st_mov rfl (fr.eval rfl) rfl
                | 6, _ =>
                  obtain rfl := Option.some.inj ho
                  have d0 := dep ⟨0, .data⟩ (by simp) rfl
                  have d1 := dep ⟨4, .data⟩ (by simp) rfl
                  have d2 := dep ⟨5, .data⟩ (by simp) rfl
                  exact st_ret3 rfl (fun _ _ => by kernel_rfl) d0 d1 d2 (paired_c x y c _) (fun r w' h _ => h)
                | 7, _ =>
                  obtain rfl := Option.some.inj ho
                  exact st_ext0 rfl (dep ⟨6, .data⟩ (by simp) rfl) rfl
                | 8, _ =>
                  obtain rfl := Option.some.inj ho
                  exact st_ext1 rfl (dep ⟨6, .data⟩ (by simp) rfl) rfl
                | 9, _ =>
                  obtain rfl := Option.some.inj ho
                  have d0 := dep ⟨7, .data⟩ (by simp) rfl
                  have d1 := dep ⟨8, .data⟩ (by simp) rfl
                  exact st_ret2 rfl (fun _ _ => by kernel_rfl) d0 d1 (implNodeKey_c _ _ _) (fun r w' h _ => h)
              · rintro vs wv gM hf
                have f0 : vs 0 = .agg (bA x.1) := hf 0 (by omega)
                have f1 : vs 1 = .slice (some ⟨g, o, none⟩) m cap := hf 1 (by omega)
                have f2 : vs 2 = .int .i64 (k : Int) := hf 2 (by omega)
                have f3 : vs 3 = .pointer (some ⟨g, o + k * 32, none⟩) := hf 3 (by omega)
                have f4 : vs 4 = .agg (bA (y.1)) := hf 4 (by omega)
                have f5 : vs 5 = .bool c := hf 5 (by omega)
                have f6 : vs 6 = .tuple #[.agg (bA (if c then y else x).1), .agg (bA (if c then x else y).1)] := hf 6 (by omega)
                have f7 := hf 7 (by omega)
                have f8 := hf 8 (by omega)
                have f9 : vs 9 = .agg (bA (nodeK (if c then y else x) (if c then x else y)).1) := hf 9 (by omega)
                simp only [putAll, Act.put, List.getElem?_toArray, List.getElem?_cons_zero, List.getElem?_cons_succ, Option.bind_some, List.setIfInBounds_toArray, List.set_cons_zero, List.set_cons_succ, List.drop_succ_cons, List.drop_zero, List.drop_nil, f9]
                clear f0 f1 f2 f3 f4 f5 f6 f7 f8 f9 hf
                have M := gM
                rw [← HST.out]
                go_wp2_with (first
                  | (with_reducible (show wpList _ _ _ (Oper.mk (some 5) (.box _ _) _ _ _ _ :: _) _ _); (first | (refine m_boxA M rfl rfl rfl ?_) | (refine m_box1 (v := Value.int _ _) M rfl rfl rfl rfl ?_) | (refine m_box1 (v := Value.slice _ _ _) M rfl rfl rfl rfl ?_) | (refine m_box1 (v := Value.bool _) M rfl rfl rfl rfl ?_) | (refine m_box1 (v := Value.string _) M rfl rfl rfl rfl ?_) | (refine m_box1 (v := Value.pointer _) M rfl rfl rfl rfl ?_)); clear M; (try clear wx); intro g5 wx M)
                  | (with_reducible (show wpList _ _ _ (Oper.mk (some 8) (.box _ _) _ _ _ _ :: _) _ _); (first | (refine m_boxA M rfl rfl rfl ?_) | (refine m_box1 (v := Value.int _ _) M rfl rfl rfl rfl ?_) | (refine m_box1 (v := Value.slice _ _ _) M rfl rfl rfl rfl ?_) | (refine m_box1 (v := Value.bool _) M rfl rfl rfl rfl ?_) | (refine m_box1 (v := Value.string _) M rfl rfl rfl rfl ?_) | (refine m_box1 (v := Value.pointer _) M rfl rfl rfl rfl ?_)); clear M; (try clear wx); intro g8 wx M)
                  | (with_reducible (show wpList _ _ _ (Oper.mk _ (.load _ _) _ _ _ _ :: _) _ _); (first | (refine m_load M rfl rfl rfl (by first | assumption | rfl) ?_) | (refine m_loadR M rfl rfl rfl (by first | rfl | assumption | (simp; done) | (simp; omega)) ?_)))
                  | (with_reducible (show wpList _ _ _ (Oper.mk _ (.store _ _ _) _ _ _ _ :: _) _ _); (first | (refine m_storeR M rfl rfl rfl rfl (by first | rfl | assumption | (simp; done) | (simp; omega)) (by first | rfl | assumption | (simp; done) | (simp; omega)) (by first | exact bA_one _ | exact wA_one _ | assumption | (simp [Value.oneCell']; done)) ?_) | (refine m_store (v := Value.int _ _) M rfl rfl rfl rfl rfl (by first | assumption | (simp; done) | (simp; omega)) ?_) | (refine m_store (v := Value.slice _ _ _) M rfl rfl rfl rfl rfl (by first | assumption | (simp; done) | (simp; omega)) ?_) | (refine m_store (v := Value.bool _) M rfl rfl rfl rfl rfl (by first | assumption | (simp; done) | (simp; omega)) ?_) | (refine m_store (v := Value.string _) M rfl rfl rfl rfl rfl (by first | assumption | (simp; done) | (simp; omega)) ?_) | (refine m_store (v := Value.pointer _) M rfl rfl rfl rfl rfl (by first | assumption | (simp; done) | (simp; omega)) ?_)); clear M; (try clear wx); intro wx M; simp only [List.set_cons_zero, List.set_cons_succ, Nat.zero_add, List.nil_append] at M))
                have hk := HK.out
                go_roundg (gk - 1)
                case measure => omega
                case rel => exact ⟨k + 1, by omega, by go_num, by rw [HZ.out]; exact M⟩
            · obtain rfl : k = m := by omega
              rw [List.take_of_length_le (by have := HSL.out; omega), List.take_of_length_le (by have := HP.out; omega)] at M
              clear hk
              generalize leadF leaf S ps = x at *
              have ce := key_eql x root
              go_wp2_with (first
                | (with_reducible (show wpList _ _ _ (Oper.mk (some 5) (.box _ _) _ _ _ _ :: _) _ _); (first | (refine m_boxA M rfl rfl rfl ?_) | (refine m_box1 (v := Value.int _ _) M rfl rfl rfl rfl ?_) | (refine m_box1 (v := Value.slice _ _ _) M rfl rfl rfl rfl ?_) | (refine m_box1 (v := Value.bool _) M rfl rfl rfl rfl ?_) | (refine m_box1 (v := Value.string _) M rfl rfl rfl rfl ?_) | (refine m_box1 (v := Value.pointer _) M rfl rfl rfl rfl ?_)); clear M; (try clear wx); intro g5 wx M)
                | (with_reducible (show wpList _ _ _ (Oper.mk (some 8) (.box _ _) _ _ _ _ :: _) _ _); (first | (refine m_boxA M rfl rfl rfl ?_) | (refine m_box1 (v := Value.int _ _) M rfl rfl rfl rfl ?_) | (refine m_box1 (v := Value.slice _ _ _) M rfl rfl rfl rfl ?_) | (refine m_box1 (v := Value.bool _) M rfl rfl rfl rfl ?_) | (refine m_box1 (v := Value.string _) M rfl rfl rfl rfl ?_) | (refine m_box1 (v := Value.pointer _) M rfl rfl rfl rfl ?_)); clear M; (try clear wx); intro g8 wx M)
                | (with_reducible (show wpList _ _ _ (Oper.mk _ (.load _ _) _ _ _ _ :: _) _ _); (first | (refine m_load M rfl rfl rfl (by first | assumption | rfl) ?_) | (refine m_loadR M rfl rfl rfl (by first | rfl | assumption | (simp; done) | (simp; omega)) ?_)))
                | (with_reducible (show wpList _ _ _ (Oper.mk _ (.store _ _ _) _ _ _ _ :: _) _ _); (first | (refine m_storeR M rfl rfl rfl rfl (by first | rfl | assumption | (simp; done) | (simp; omega)) (by first | rfl | assumption | (simp; done) | (simp; omega)) (by first | exact bA_one _ | exact wA_one _ | assumption | (simp [Value.oneCell']; done)) ?_) | (refine m_store (v := Value.int _ _) M rfl rfl rfl rfl rfl (by first | assumption | (simp; done) | (simp; omega)) ?_) | (refine m_store (v := Value.slice _ _ _) M rfl rfl rfl rfl rfl (by first | assumption | (simp; done) | (simp; omega)) ?_) | (refine m_store (v := Value.bool _) M rfl rfl rfl rfl rfl (by first | assumption | (simp; done) | (simp; omega)) ?_) | (refine m_store (v := Value.string _) M rfl rfl rfl rfl rfl (by first | assumption | (simp; done) | (simp; omega)) ?_) | (refine m_store (v := Value.pointer _) M rfl rfl rfl rfl rfl (by first | assumption | (simp; done) | (simp; omega)) ?_)); clear M; (try clear wx); intro wx M; simp only [List.set_cons_zero, List.set_cons_succ, Nat.zero_add, List.nil_append] at M))
              go_ret2
              exact ⟨_, rfl, by rw [HE.out]; rfl, M.up⟩
        · rw [decide_eq_false hm, Bool.false_and] at HE
          clear hps hn hi
          generalize (sideR n i).reverse = S at *
          generalize (sideR n i).length = d at *
          go_enter Try.func72, Try.ntmps72
          go_wp2_with (first
            | (go_at_call 112; (with_reducible refine mem_call M (HI1.out _) ?_); clear M; (try clear wx); rintro _ wx rfl _ M)
            | (go_at_call 65; (with_reducible refine mem_call M (HI2.out _) ?_); clear M; (try clear wx); rintro _ wx rfl _ M)
            | (go_at_call 74; (with_reducible refine mem_callO M (HD.out _) ?_); clear M; (try clear wx); intro bs caps wx M)
            | (with_reducible (show wpList _ _ _ (Oper.mk (some 5) (.box _ _) _ _ _ _ :: _) _ _); (first | (refine m_boxA M rfl rfl rfl ?_) | (refine m_box1 (v := Value.int _ _) M rfl rfl rfl rfl ?_) | (refine m_box1 (v := Value.slice _ _ _) M rfl rfl rfl rfl ?_) | (refine m_box1 (v := Value.bool _) M rfl rfl rfl rfl ?_) | (refine m_box1 (v := Value.string _) M rfl rfl rfl rfl ?_) | (refine m_box1 (v := Value.pointer _) M rfl rfl rfl rfl ?_)); clear M; (try clear wx); intro g5 wx M)
            | (with_reducible (show wpList _ _ _ (Oper.mk (some 8) (.box _ _) _ _ _ _ :: _) _ _); (first | (refine m_boxA M rfl rfl rfl ?_) | (refine m_box1 (v := Value.int _ _) M rfl rfl rfl rfl ?_) | (refine m_box1 (v := Value.slice _ _ _) M rfl rfl rfl rfl ?_) | (refine m_box1 (v := Value.bool _) M rfl rfl rfl rfl ?_) | (refine m_box1 (v := Value.string _) M rfl rfl rfl rfl ?_) | (refine m_box1 (v := Value.pointer _) M rfl rfl rfl rfl ?_)); clear M; (try clear wx); intro g8 wx M)
            | (with_reducible (show wpList _ _ _ (Oper.mk _ (.load _ _) _ _ _ _ :: _) _ _); (first | (refine m_load M rfl rfl rfl (by first | assumption | rfl) ?_) | (refine m_loadR M rfl rfl rfl (by first | rfl | assumption | (simp; done) | (simp; omega)) ?_)))
            | (with_reducible (show wpList _ _ _ (Oper.mk _ (.store _ _ _) _ _ _ _ :: _) _ _); (first | (refine m_storeR M rfl rfl rfl rfl (by first | rfl | assumption | (simp; done) | (simp; omega)) (by first | rfl | assumption | (simp; done) | (simp; omega)) (by first | exact bA_one _ | exact wA_one _ | assumption | (simp [Value.oneCell']; done)) ?_) | (refine m_store (v := Value.int _ _) M rfl rfl rfl rfl rfl (by first | assumption | (simp; done) | (simp; omega)) ?_) | (refine m_store (v := Value.slice _ _ _) M rfl rfl rfl rfl rfl (by first | assumption | (simp; done) | (simp; omega)) ?_) | (refine m_store (v := Value.bool _) M rfl rfl rfl rfl rfl (by first | assumption | (simp; done) | (simp; omega)) ?_) | (refine m_store (v := Value.string _) M rfl rfl rfl rfl rfl (by first | assumption | (simp; done) | (simp; omega)) ?_) | (refine m_store (v := Value.pointer _) M rfl rfl rfl rfl rfl (by first | assumption | (simp; done) | (simp; omega)) ?_)); clear M; (try clear wx); intro wx M; simp only [List.set_cons_zero, List.set_cons_succ, Nat.zero_add, List.nil_append] at M))
          go_ret2
          exact ⟨_, rfl, by rw [HE.out]; rfl, M.up⟩
      · have HI2 := Lib.hid (within_is i 0 (n - 1) false (by simp; omega))
        have HE := Lib.hid (show cpT root leaf n i ps = (false, 2) by rw [cpT, if_neg (by omega), if_neg (by omega)])
        obtain ⟨hb1, hb2⟩ := hn
        clear hps hi
        go_enter Try.func72, Try.ntmps72
        go_wp2_with (first
          | (go_at_call 112; (with_reducible refine mem_call M (HI1.out _) ?_); clear M; (try clear wx); rintro _ wx rfl _ M)
          | (go_at_call 65; (with_reducible refine mem_call M (HI2.out _) ?_); clear M; (try clear wx); rintro _ wx rfl _ M)
          | (with_reducible (show wpList _ _ _ (Oper.mk (some 5) (.box _ _) _ _ _ _ :: _) _ _); (first | (refine m_boxA M rfl rfl rfl ?_) | (refine m_box1 (v := Value.int _ _) M rfl rfl rfl rfl ?_) | (refine m_box1 (v := Value.slice _ _ _) M rfl rfl rfl rfl ?_) | (refine m_box1 (v := Value.bool _) M rfl rfl rfl rfl ?_) | (refine m_box1 (v := Value.string _) M rfl rfl rfl rfl ?_) | (refine m_box1 (v := Value.pointer _) M rfl rfl rfl rfl ?_)); clear M; (try clear wx); intro g5 wx M)
          | (with_reducible (show wpList _ _ _ (Oper.mk (some 8) (.box _ _) _ _ _ _ :: _) _ _); (first | (refine m_boxA M rfl rfl rfl ?_) | (refine m_box1 (v := Value.int _ _) M rfl rfl rfl rfl ?_) | (refine m_box1 (v := Value.slice _ _ _) M rfl rfl rfl rfl ?_) | (refine m_box1 (v := Value.bool _) M rfl rfl rfl rfl ?_) | (refine m_box1 (v := Value.string _) M rfl rfl rfl rfl ?_) | (refine m_box1 (v := Value.pointer _) M rfl rfl rfl rfl ?_)); clear M; (try clear wx); intro g8 wx M)
          | (with_reducible (show wpList _ _ _ (Oper.mk _ (.load _ _) _ _ _ _ :: _) _ _); (first | (refine m_load M rfl rfl rfl (by first | assumption | rfl) ?_) | (refine m_loadR M rfl rfl rfl (by first | rfl | assumption | (simp; done) | (simp; omega)) ?_)))
          | (with_reducible (show wpList _ _ _ (Oper.mk _ (.store _ _ _) _ _ _ _ :: _) _ _); (first | (refine m_storeR M rfl rfl rfl rfl (by first | rfl | assumption | (simp; done) | (simp; omega)) (by first | rfl | assumption | (simp; done) | (simp; omega)) (by first | exact bA_one _ | exact wA_one _ | assumption | (simp [Value.oneCell']; done)) ?_) | (refine m_store (v := Value.int _ _) M rfl rfl rfl rfl rfl (by first | assumption | (simp; done) | (simp; omega)) ?_) | (refine m_store (v := Value.slice _ _ _) M rfl rfl rfl rfl rfl (by first | assumption | (simp; done) | (simp; omega)) ?_) | (refine m_store (v := Value.bool _) M rfl rfl rfl rfl rfl (by first | assumption | (simp; done) | (simp; omega)) ?_) | (refine m_store (v := Value.string _) M rfl rfl rfl rfl rfl (by first | assumption | (simp; done) | (simp; omega)) ?_) | (refine m_store (v := Value.pointer _) M rfl rfl rfl rfl rfl (by first | assumption | (simp; done) | (simp; omega)) ?_)); clear M; (try clear wx); intro wx M; simp only [List.set_cons_zero, List.set_cons_succ, Nat.zero_add, List.nil_append] at M))
        go_ret2
        exact ⟨_, rfl, by rw [HE.out]; rfl, M.up⟩
    · have HI1 := Lib.hid (isLeaves_is n false (by simp; omega))
      have HE := Lib.hid (show cpT root leaf n i ps = (false, 2) by rw [cpT, if_neg (by omega), if_neg (by omega)])
      clear hps hn
      go_enter Try.func72, Try.ntmps72
      go_wp2_with (first
        | (go_at_call 112; (with_reducible refine mem_call M (HI1.out _) ?_); clear M; (try clear wx); rintro _ wx rfl _ M)
        | (with_reducible (show wpList _ _ _ (Oper.mk (some 5) (.box _ _) _ _ _ _ :: _) _ _); (first | (refine m_boxA M rfl rfl rfl ?_) | (refine m_box1 (v := Value.int _ _) M rfl rfl rfl rfl ?_) | (refine m_box1 (v := Value.slice _ _ _) M rfl rfl rfl rfl ?_) | (refine m_box1 (v := Value.bool _) M rfl rfl rfl rfl ?_) | (refine m_box1 (v := Value.string _) M rfl rfl rfl rfl ?_) | (refine m_box1 (v := Value.pointer _) M rfl rfl rfl rfl ?_)); clear M; (try clear wx); intro g5 wx M)
        | (with_reducible (show wpList _ _ _ (Oper.mk (some 8) (.box _ _) _ _ _ _ :: _) _ _); (first | (refine m_boxA M rfl rfl rfl ?_) | (refine m_box1 (v := Value.int _ _) M rfl rfl rfl rfl ?_) | (refine m_box1 (v := Value.slice _ _ _) M rfl rfl rfl rfl ?_) | (refine m_box1 (v := Value.bool _) M rfl rfl rfl rfl ?_) | (refine m_box1 (v := Value.string _) M rfl rfl rfl rfl ?_) | (refine m_box1 (v := Value.pointer _) M rfl rfl rfl rfl ?_)); clear M; (try clear wx); intro g8 wx M)
        | (with_reducible (show wpList _ _ _ (Oper.mk _ (.load _ _) _ _ _ _ :: _) _ _); (first | (refine m_load M rfl rfl rfl (by first | assumption | rfl) ?_) | (refine m_loadR M rfl rfl rfl (by first | rfl | assumption | (simp; done) | (simp; omega)) ?_)))
        | (with_reducible (show wpList _ _ _ (Oper.mk _ (.store _ _ _) _ _ _ _ :: _) _ _); (first | (refine m_storeR M rfl rfl rfl rfl (by first | rfl | assumption | (simp; done) | (simp; omega)) (by first | rfl | assumption | (simp; done) | (simp; omega)) (by first | exact bA_one _ | exact wA_one _ | assumption | (simp [Value.oneCell']; done)) ?_) | (refine m_store (v := Value.int _ _) M rfl rfl rfl rfl rfl (by first | assumption | (simp; done) | (simp; omega)) ?_) | (refine m_store (v := Value.slice _ _ _) M rfl rfl rfl rfl rfl (by first | assumption | (simp; done) | (simp; omega)) ?_) | (refine m_store (v := Value.bool _) M rfl rfl rfl rfl rfl (by first | assumption | (simp; done) | (simp; omega)) ?_) | (refine m_store (v := Value.string _) M rfl rfl rfl rfl rfl (by first | assumption | (simp; done) | (simp; omega)) ?_) | (refine m_store (v := Value.pointer _) M rfl rfl rfl rfl rfl (by first | assumption | (simp; done) | (simp; omega)) ?_)); clear M; (try clear wx); intro wx M; simp only [List.set_cons_zero, List.set_cons_succ, Nat.zero_add, List.nil_append] at M))
      go_ret2
      exact ⟨_, rfl, by rw [HE.out]; rfl, M.up⟩

end Go.Proofs.Ytmbhaoiahlbglaa

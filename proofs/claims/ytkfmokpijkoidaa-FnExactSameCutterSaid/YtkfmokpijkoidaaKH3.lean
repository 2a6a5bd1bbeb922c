/- Walks: StartHasher. -/
import Derived.Test.YtkfmokpijkoidaaKH
import Derived.Great.BuildSlice
namespace Go.Proofs.Ytkfmokpijkoidaa
open Go.RowKit
set_option linter.unusedVariables false
set_option linter.unusedSimpArgs false

set_option maxHeartbeats 400000 in
set_option maxRecDepth 100000 in
theorem markByteS_nil (k : Int) (w : World) : Calls Try.prog 58 #[.slice none 0 0, .int .i64 k] w fun e w' => e = .returned (.int .i64 k) ∧ w' = w := by
  go_enter Try.func58, Try.ntmps58
  go_wp2_with fail
  go_loopg [1, 5] 0 (fun n x i wr => x = .int .i64 k ∧ i = .int .i64 0 ∧ wr = w)
  case atStart => exact ⟨rfl, rfl, rfl⟩
  case round =>
    obtain ⟨rfl, rfl, rfl⟩ := hrel
    go_wp2_with fail
    go_ret
    exact ⟨rfl, rfl⟩
set_option maxHeartbeats 400000 in
set_option maxRecDepth 100000 in
theorem heldByteS_nil (k : Int) (w : World) : Calls Try.prog 59 #[.slice none 0 0, .int .i64 k] w fun e w' => e = .returned (.int .i64 k) ∧ w' = w := by
  go_enter Try.func59, Try.ntmps59
  go_wp2_with fail
  go_loopg [1, 5] 0 (fun n x i wr => x = .int .i64 k ∧ i = .int .i64 0 ∧ wr = w)
  case atStart => exact ⟨rfl, rfl, rfl⟩
  case round =>
    obtain ⟨rfl, rfl, rfl⟩ := hrel
    go_wp2_with fail
    go_ret
    exact ⟨rfl, rfl⟩

set_option maxHeartbeats 400000 in
set_option maxRecDepth 100000 in
theorem markHasher_nil (s : List UInt32) (hs : s.length = 8) (n : Int) (k : Int) (w : World) : Calls Try.prog 23 #[.agg (hasC s (.slice none 0 0) n), .int .i64 k] w fun e w' => e = .returned (.int .i64 k) ∧ Up w w' := by
  have c8 := (Blk.top rfl : Blk (w.alloc (.cells (hasC s (.slice none 0 0) n) 32)) w.heap.size 32 _).cell_ (hasC_8 s (.slice none 0 0) n hs)
  go_enter Try.func23, Try.ntmps23
  go_wp2_with (first
    | (go_at_call 58; (with_reducible refine (markByteS_nil k _).mono ?_); rintro e w' ⟨rfl, rfl⟩))
  go_ret
  exact ⟨rfl, (Up.refl _).alloc _⟩
set_option maxHeartbeats 400000 in
set_option maxRecDepth 100000 in
theorem heldHasher_nil (s : List UInt32) (hs : s.length = 8) (n : Int) (w : World) : Calls Try.prog 24 #[.agg (hasC s (.slice none 0 0) n), .int .i64 1] w fun e w' => e = .returned (.int .i64 1) ∧ Up w w' := by
  have c8 := (Blk.top rfl : Blk (w.alloc (.cells (hasC s (.slice none 0 0) n) 32)) w.heap.size 32 _).cell_ (hasC_8 s (.slice none 0 0) n hs)
  go_enter Try.func24, Try.ntmps24
  go_wp2_with (first
    | (go_at_call 59; (with_reducible refine (heldByteS_nil 1 _).mono ?_); rintro e w' ⟨rfl, rfl⟩))
  go_ret
  exact ⟨rfl, (Up.refl _).alloc _⟩

theorem wpList_build_ {P : Program} {ops : Array Oper} {rest : List Oper} {o : Oper} {a : Act} {w : World} {Q : Exit → Act → World → Prop} (hgd : o.guard = none) {t : TypeId} {parts : Array (Nat × Operand)} (ho : o.op = .build t parts)
    {v : Value} (hr : (Instr.build t (parts.map fun p => (p.1, a.eval p.2))).run P w = .ok v w) (h : wpList P ops Q rest (a.put o.dst v) w) : wpList P ops Q (o :: rest) a w :=
  wpList_plain hgd fun _ hK => by
    have hx : (execOp a.eval o).run P w = .ok (.value v) w := by
      unfold execOp
      rw [ho]
      simp only
      rw [Sem.run_bind, hr]
      rfl
    unfold Oper.wp
    rw [hx]
    exact hK _ _ h
theorem built8 (a b c d e f g h : UInt32) : Try.prog.built 32 [(0, .agg (wA [a, b, c, d, e, f, g, h]))] = some (hasC [a, b, c, d, e, f, g, h] (.slice none 0 0) 0) := by kernel_rfl
theorem built_has (s : List UInt32) (hs : s.length = 8) : Try.prog.built 32 [(0, .agg (wA s))] = some (hasC s (.slice none 0 0) 0) := by
  match s, hs with
  | [a, b, c, d, e, f, g, h], _ => exact built8 a b c d e f g h
theorem build_has (s : List UInt32) (hs : s.length = 8) (w : World) : (Instr.build 32 #[(0, .agg (wA s))]).run Try.prog w = .ok (.agg (hasC s (.slice none 0 0) 0)) w := by
  match s, hs with
  | [a, b, c, d, e, f, g, h], _ => exact run_build w _ _ _ (by kernel_rfl)

set_option maxHeartbeats 400000 in
set_option maxRecDepth 100000 in
theorem specStartHasher_of (tag : UInt8) (s : List UInt32) (hs : s.length = 8) (HC : Hid (∀ w, Calls Try.prog 74 #[.int .u8 (tag.toNat : Int)] w fun e w' => e = .returned (.agg (wA s)) ∧ Up w w')) (w : World) : Calls Try.prog 20 #[.int .u8 (tag.toNat : Int)] w fun e w' => e = .returned (.agg (hasC s (.slice none 0 0) 0)) ∧ Up w w' := by
  have HBT := Lib.hid (built_has s hs)
  have HI2 := Lib.hid (show (Try.prog.info? 32).map (·.size) = some (hasC s (.slice none 0 0) 0).size by rw [hasC_size _ _ _ hs]; exact info_has)
  have HZ := Lib.hid (show hasZ.size = (hasC s (.slice none 0 0) 0).size by rw [hasC_size _ _ _ hs]; rfl)
  have B0 := Lib.hid (show Blk (w.alloc (.cells hasZ 32)) w.heap.size 32 hasZ from Blk.top rfl)
  clear hs
  go_enter Try.func20, Try.ntmps20
  go_wp2_with (first
    | (go_at_call 74; (with_reducible refine (HC.out _).mono ?_); rintro e w' ⟨rfl, hb1⟩)
    | (refine wpList_buildTo rfl 32 #[(0, .tmp 4)] rfl (some 5) rfl (hasC s (.slice none 0 0) 0) (by simp only [List.map_toArray, List.map_cons, List.map_nil]; exact HBT.out) ?_)
    | (refine wpList_store_row rfl 32 (.tmp 2) (.tmp 5) rfl _ (hasC s (.slice none 0 0) 0) rfl rfl 32 (hasZ) (B0.out.up hb1) (HI2.out) (HZ.out) (hasC_one _ _ _ rfl) ?_))
  refine bodyPost_ret (results_cell_row rfl _ _ _ 32 (hasC s (.slice none 0 0) 0) (0, 0) _ rfl ((B0.out.up hb1).row _) Try.underlying32 rfl HI2.out) rfl ⟨rfl, (((Up.refl _).alloc _).trans hb1).setRow (by omega) _⟩

set_option maxHeartbeats 400000 in
set_option maxRecDepth 100000 in
theorem implStartHasher_of (tag : UInt8) (s : List UInt32) (hs : s.length = 8) (HC : Hid (∀ w, Calls Try.prog 75 #[.int .u8 (tag.toNat : Int)] w fun e w' => e = .returned (.agg (wA s)) ∧ Up w w')) (w : World) : Calls Try.prog 21 #[.int .u8 (tag.toNat : Int)] w fun e w' => e = .returned (.agg (hasC s (.slice none 0 0) 0)) ∧ Up w w' := by
  have HBT := Lib.hid (built_has s hs)
  have HI2 := Lib.hid (show (Try.prog.info? 32).map (·.size) = some (hasC s (.slice none 0 0) 0).size by rw [hasC_size _ _ _ hs]; exact info_has)
  have HZ := Lib.hid (show hasZ.size = (hasC s (.slice none 0 0) 0).size by rw [hasC_size _ _ _ hs]; rfl)
  have B0 := Lib.hid (show Blk (w.alloc (.cells hasZ 32)) w.heap.size 32 hasZ from Blk.top rfl)
  clear hs
  go_enter Try.func21, Try.ntmps21
  go_wp2_with (first
    | (go_at_call 75; (with_reducible refine (HC.out _).mono ?_); rintro e w' ⟨rfl, hb1⟩)
    | (refine wpList_buildTo rfl 32 #[(0, .tmp 4)] rfl (some 5) rfl (hasC s (.slice none 0 0) 0) (by simp only [List.map_toArray, List.map_cons, List.map_nil]; exact HBT.out) ?_)
    | (refine wpList_store_row rfl 32 (.tmp 2) (.tmp 5) rfl _ (hasC s (.slice none 0 0) 0) rfl rfl 32 (hasZ) (B0.out.up hb1) (HI2.out) (HZ.out) (hasC_one _ _ _ rfl) ?_))
  refine bodyPost_ret (results_cell_row rfl _ _ _ 32 (hasC s (.slice none 0 0) 0) (0, 0) _ rfl ((B0.out.up hb1).row _) Try.underlying32 rfl HI2.out) rfl ⟨rfl, (((Up.refl _).alloc _).trans hb1).setRow (by omega) _⟩

set_option maxHeartbeats 1000000 in
set_option maxRecDepth 100000 in
theorem lawStartHasher_c (tag : UInt8) (w : World) : Calls Try.prog 4 #[.int .u8 (tag.toNat : Int)] w fun e w' => e = .returned (.bool true) ∧ Up w w' := by
  have hl := startL_length tag
  generalize hS : hasC (startL tag) (.slice none 0 0) 0 = cs at *
  have HI2 := Lib.hid (show (Try.prog.info? 32).map (·.size) = some cs.size by rw [← hS, hasC_size _ _ _ hl]; exact info_has)
  have HZ := Lib.hid (show hasZ.size = cs.size by rw [← hS, hasC_size _ _ _ hl]; rfl)
  have H1 := Lib.hid (show cs.all (·.oneCell') = true by rw [← hS]; exact hasC_one _ _ _ rfl)
  have S1 : Hid (∀ w, Calls Try.prog 20 #[.int .u8 (tag.toNat : Int)] w fun e w' => e = .returned (.agg cs) ∧ Up w w') := Lib.hid (by rw [← hS]; exact fun w => specStartHasher_of tag (startL tag) hl (Lib.hid (fun w => specl01Start_c tag w)) w)
  have S2 : Hid (∀ w, Calls Try.prog 21 #[.int .u8 (tag.toNat : Int)] w fun e w' => e = .returned (.agg cs) ∧ Up w w') := Lib.hid (by rw [← hS]; exact fun w => implStartHasher_of tag (startL tag) hl (Lib.hid (fun w => implStartState_c tag w)) w)
  have S3 : Hid (∀ w, Calls Try.prog 22 #[.agg cs, .agg cs] w fun e w' => e = .returned (.bool true) ∧ Up w w') := Lib.hid (by rw [← hS]; exact fun w => eqHasher_same (startL tag) hl _ _ [] 0 w (RdB.nil w) (RdB.nil w))
  have S4 : Hid (∀ w, Calls Try.prog 23 #[.agg cs, .int .i64 1] w fun e w' => e = .returned (.int .i64 1) ∧ Up w w') := Lib.hid (by rw [← hS]; exact fun w => markHasher_nil (startL tag) hl 0 1 w)
  have S5 : Hid (∀ w, Calls Try.prog 24 #[.agg cs, .int .i64 1] w fun e w' => e = .returned (.int .i64 1) ∧ Up w w') := Lib.hid (by rw [← hS]; exact fun w => heldHasher_nil (startL tag) hl 0 w)
  clear hl hS
  go_enter Try.func4, Try.ntmps4
  go_wp2_with (first
    | (refine wpList_store_row rfl 32 (.tmp 3) (.tmp 9) rfl _ (cs) rfl rfl 32 (hasZ) (Blk.top rfl) (HI2.out) (HZ.out) (H1.out) ?_; rw [World.setRow_alloc_new])
    | (go_at_call 20; (with_reducible refine (S1.out _).mono ?_); rintro e w' ⟨rfl, hb1⟩))
  (with_reducible refine (S2.out _).mono ?_)
  rintro e w2 ⟨rfl, hb2⟩
  have B3 := Lib.hid (show Blk w2 w'.heap.size 32 cs from (Blk.top rfl).up hb2)
  have U2 := Lib.hid (show Up w w2 from (((Up.refl _).trans hb1).alloc _).trans hb2)
  have HN := Lib.hid (show w'.heap.size < w2.heap.size from B3.out.lt)
  clear hb1 hb2
  go_wp2_with (first
    | (refine wpList_store_row rfl 32 (.tmp 4) (.tmp 11) rfl _ (cs) rfl rfl 32 (hasZ) (Blk.top rfl) (HI2.out) (HZ.out) (H1.out) ?_; rw [World.setRow_alloc_new])
    | (refine wpList_load_row rfl 32 (.tmp 4) rfl _ rfl 32 (cs) (0, 0) _ ((Blk.top rfl)) Try.underlying32 rfl (HI2.out) ?_)
    | (refine wpList_load_row rfl 32 (.tmp 3) rfl _ rfl 32 (cs) (0, 0) _ (B3.out.alloc _) Try.underlying32 rfl (HI2.out) ?_))
  have B4 := Lib.hid (show Blk (w2.alloc (.cells cs 32)) w2.heap.size 32 cs from Blk.top rfl)
  have B3' := Lib.hid (B3.out.alloc (.cells cs 32))
  have U3 := Lib.hid (U2.out.alloc (.cells cs 32))
  (with_reducible refine (S3.out _).mono ?_)
  rintro e w3 ⟨rfl, hb3⟩
  have B4a := Lib.hid (B4.out.up hb3)
  have B3a := Lib.hid (B3'.out.up hb3)
  have U4 := Lib.hid (U3.out.trans hb3)
  clear hb3
  go_wp2_with (first
    | (refine wpList_load_row rfl 32 (.tmp 4) rfl _ rfl 32 (cs) (0, 0) _ (B4a.out) Try.underlying32 rfl (HI2.out) ?_))
  (with_reducible refine (S4.out _).mono ?_)
  rintro e w4 ⟨rfl, hb4⟩
  have B4b := Lib.hid (B4a.out.up hb4)
  have B3b := Lib.hid (B3a.out.up hb4)
  have U5 := Lib.hid (U4.out.trans hb4)
  clear hb4
  go_wp2_with (first
    | (refine wpList_load_row rfl 32 (.tmp 4) rfl _ rfl 32 (cs) (0, 0) _ (B4b.out) Try.underlying32 rfl (HI2.out) ?_))
  (with_reducible refine (S5.out _).mono ?_)
  rintro e w5 ⟨rfl, hb5⟩
  have B4c := Lib.hid (B4b.out.up hb5)
  have B3c := Lib.hid (B3b.out.up hb5)
  have U6 := Lib.hid (U5.out.trans hb5)
  clear hb5
  go_wp2_with fail
  (with_reducible refine (S2.out _).mono ?_)
  rintro e w6 ⟨rfl, hb6⟩
  have B4d := Lib.hid ((B4c.out.up hb6).alloc (.cells cs 32))
  have B3d := Lib.hid ((B3c.out.up hb6).alloc (.cells cs 32))
  have B7 := Lib.hid (show Blk (w6.alloc (.cells cs 32)) w6.heap.size 32 cs from Blk.top rfl)
  have U7 := Lib.hid ((U6.out.trans hb6).alloc (.cells cs 32))
  clear hb6
  go_wp2_with (first
    | (refine wpList_store_row rfl 32 (.tmp 7) (.tmp 28) rfl _ (cs) rfl rfl 32 (hasZ) (Blk.top rfl) (HI2.out) (HZ.out) (H1.out) ?_; rw [World.setRow_alloc_new])
    | (refine wpList_load_row rfl 32 (.tmp 7) rfl _ rfl 32 (cs) (0, 0) _ (B7.out) Try.underlying32 rfl (HI2.out) ?_)
    | (refine wpList_load_row rfl 32 (.tmp 3) rfl _ rfl 32 (cs) (0, 0) _ (B3d.out) Try.underlying32 rfl (HI2.out) ?_))
  (with_reducible refine (S3.out _).mono ?_)
  rintro e w7 ⟨rfl, hb7⟩
  have B4e := Lib.hid (B4d.out.up hb7)
  have U8 := Lib.hid (U7.out.trans hb7)
  clear hb7
  go_wp2_with (first
    | (refine wpList_load_row rfl 32 (.tmp 4) rfl _ rfl 32 (cs) (0, 0) _ (B4e.out) Try.underlying32 rfl (HI2.out) ?_))
  (with_reducible refine (S5.out _).mono ?_)
  rintro e w8 ⟨rfl, hb8⟩
  have U9 := Lib.hid (U8.out.trans hb8)
  clear hb8
  go_wp2_with fail
  go_ret
  exact ⟨rfl, U9.out⟩

end Go.Proofs.Ytkfmokpijkoidaa

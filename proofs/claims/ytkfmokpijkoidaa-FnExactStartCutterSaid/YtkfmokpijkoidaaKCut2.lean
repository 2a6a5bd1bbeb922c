/- Walks: the law FnExactStartCutter. -/
import Derived.Test.YtkfmokpijkoidaaKCut
namespace Go.Proofs.Ytkfmokpijkoidaa
open Go.RowKit
set_option linter.unusedVariables false
set_option linter.unusedSimpArgs false

def cutZ : Array Value := #[.int .i64 0, .int .i64 0, .int .i64 0, .int .u32 0, .slice none 0 0]
theorem cut_parts (a b c : Int) : ∃ (x y z : Int) (k : Int), cutV a b c = .tuple #[.agg (cutC x y z 0 (.slice none 0 0)), .int .i64 k] := by
  unfold cutV
  by_cases h : okRule a b c = true
  · exact ⟨a, b, c, 0, by rw [if_pos h]⟩
  · exact ⟨0, 0, 0, 1, by rw [if_neg h]⟩
set_option maxHeartbeats 1000000 in
set_option maxRecDepth 100000 in
theorem lawStartCutter_c (a b c : Int) (w : World) : Calls Try.prog 9 #[ruleV a b c] w fun e w' => e = .returned (.bool true) ∧ Up w w' := by
  obtain ⟨x, y, z, k, hV⟩ := cut_parts a b c
  generalize hS : cutC x y z 0 (.slice none 0 0) = cs at hV
  have HI := Lib.hid (show (Try.prog.info? 50).map (·.size) = some 3 by kernel_rfl)
  have HI2 := Lib.hid (show (Try.prog.info? 57).map (·.size) = some cs.size by rw [← hS]; kernel_rfl)
  have HZ := Lib.hid (show cutZ.size = cs.size by rw [← hS]; rfl)
  have H1 := Lib.hid (show cs.all (·.oneCell') = true by rw [← hS]; simp [Value.oneCell'])
  have S0 := Lib.hid (fun w => toCutRule_c a b c w)
  have S1 : Hid (∀ w, Calls Try.prog 40 #[ruleV a b c] w fun e w' => e = .returned (.tuple #[.agg cs, .int .i64 k]) ∧ Up w w') := Lib.hid (by rw [← hV]; exact fun w => specStartCutter_c a b c w)
  have S2 : Hid (∀ w, Calls Try.prog 42 #[ruleV a b c] w fun e w' => e = .returned (.tuple #[.agg cs, .int .i64 k]) ∧ Up w w') := Lib.hid (by rw [← hV]; exact fun w => implStartCutter_c a b c w)
  have S3 : Hid (∀ w, Calls Try.prog 39 #[.agg cs, .agg cs] w fun e w' => e = .returned (.bool true) ∧ Up w w') := Lib.hid (by rw [← hS]; exact fun w => eqCutter_same x y z 0 _ _ [] w (RdB.nil w) (RdB.nil w))
  have S4 : Hid (∀ w, Calls Try.prog 43 #[.agg cs, .int .i64 1] w fun e w' => e = .returned (.int .i64 1) ∧ Up w w') := Lib.hid (by rw [← hS]; exact fun w => markCutter_nil x y z 0 1 w)
  have S5 : Hid (∀ w, Calls Try.prog 44 #[.agg cs, .int .i64 1] w fun e w' => e = .returned (.int .i64 1) ∧ Up w w') := Lib.hid (by rw [← hS]; exact fun w => heldCutter_nil x y z 0 w)
  unfold ruleV at S0 S1 S2 ⊢
  have B1 := Lib.hid (show Blk (w.alloc (.cells #[.int .i64 a, .int .i64 b, .int .i64 c] 50)) w.heap.size 50 #[.int .i64 a, .int .i64 b, .int .i64 c] from Blk.top rfl)
  have U0 := Lib.hid (show Up w (w.alloc (.cells #[.int .i64 a, .int .i64 b, .int .i64 c] 50)) from (Up.refl _).alloc _)
  clear hS hV
  go_enter Try.func9, Try.ntmps9
  go_wp2_with (first
    | (refine wpList_load_row rfl 50 (.tmp 1) rfl _ rfl 50 (#[.int .i64 a, .int .i64 b, .int .i64 c]) (0, 0) _ (B1.out) Try.underlying50 rfl (HI.out) ?_))
  (with_reducible refine (S0.out _).mono ?_)
  rintro e w1 ⟨rfl, hb1⟩
  have B1a := Lib.hid (B1.out.up hb1)
  have U1 := Lib.hid (U0.out.trans hb1)
  clear hb1
  go_wp2_with fail
  (with_reducible refine (S1.out _).mono ?_)
  rintro e w2 ⟨rfl, hb2⟩
  have B1b := Lib.hid ((B1a.out.up hb2).alloc (.cells cs 57))
  have U2 := Lib.hid ((U1.out.trans hb2).alloc (.cells cs 57))
  have B3 := Lib.hid (show Blk (w2.alloc (.cells cs 57)) w2.heap.size 57 cs from Blk.top rfl)
  clear hb2
  go_wp2_with (first
    | (refine wpList_store_row rfl 57 (.tmp 3) (.tmp 15) rfl _ (cs) rfl rfl 57 (cutZ) (Blk.top rfl) (HI2.out) (HZ.out) (H1.out) ?_; rw [World.setRow_alloc_new])
    | (refine wpList_load_row rfl 50 (.tmp 1) rfl _ rfl 50 (#[.int .i64 a, .int .i64 b, .int .i64 c]) (0, 0) _ (B1b.out) Try.underlying50 rfl (HI.out) ?_))
  (with_reducible refine (S0.out _).mono ?_)
  rintro e w3 ⟨rfl, hb3⟩
  have B1c := Lib.hid (B1b.out.up hb3)
  have B3c := Lib.hid (B3.out.up hb3)
  have U3 := Lib.hid (U2.out.trans hb3)
  clear hb3
  go_wp2_with fail
  (with_reducible refine (S2.out _).mono ?_)
  rintro e w4 ⟨rfl, hb4⟩
  have B1d := Lib.hid ((B1c.out.up hb4).alloc (.cells cs 57))
  have B3d := Lib.hid ((B3c.out.up hb4).alloc (.cells cs 57))
  have U4 := Lib.hid ((U3.out.trans hb4).alloc (.cells cs 57))
  have B5 := Lib.hid (show Blk (w4.alloc (.cells cs 57)) w4.heap.size 57 cs from Blk.top rfl)
  clear hb4
  go_wp2_with (first
    | (refine wpList_store_row rfl 57 (.tmp 5) (.tmp 21) rfl _ (cs) rfl rfl 57 (cutZ) (Blk.top rfl) (HI2.out) (HZ.out) (H1.out) ?_; rw [World.setRow_alloc_new])
    | (refine wpList_load_row rfl 57 (.tmp 5) rfl _ rfl 57 (cs) (0, 0) _ (B5.out) Try.underlying57 rfl (HI2.out) ?_)
    | (refine wpList_load_row rfl 57 (.tmp 3) rfl _ rfl 57 (cs) (0, 0) _ (B3d.out) Try.underlying57 rfl (HI2.out) ?_))
  (with_reducible refine (S3.out _).mono ?_)
  rintro e w5 ⟨rfl, hb5⟩
  have B1e := Lib.hid (B1d.out.up hb5)
  have B3e := Lib.hid (B3d.out.up hb5)
  have B5e := Lib.hid (B5.out.up hb5)
  have U5 := Lib.hid (U4.out.trans hb5)
  clear hb5
  go_wp2_with (first
    | (refine wpList_load_row rfl 57 (.tmp 5) rfl _ rfl 57 (cs) (0, 0) _ (B5e.out) Try.underlying57 rfl (HI2.out) ?_))
  (with_reducible refine (S4.out _).mono ?_)
  rintro e w6 ⟨rfl, hb6⟩
  have B1f := Lib.hid (B1e.out.up hb6)
  have B3f := Lib.hid (B3e.out.up hb6)
  have B5f := Lib.hid (B5e.out.up hb6)
  have U6 := Lib.hid (U5.out.trans hb6)
  clear hb6
  go_wp2_with (first
    | (refine wpList_load_row rfl 57 (.tmp 5) rfl _ rfl 57 (cs) (0, 0) _ (B5f.out) Try.underlying57 rfl (HI2.out) ?_))
  (with_reducible refine (S5.out _).mono ?_)
  rintro e w7 ⟨rfl, hb7⟩
  have B1g := Lib.hid (B1f.out.up hb7)
  have B3g := Lib.hid (B3f.out.up hb7)
  have B5g := Lib.hid (B5f.out.up hb7)
  have U7 := Lib.hid (U6.out.trans hb7)
  clear hb7
  go_wp2_with (first
    | (refine wpList_load_row rfl 50 (.tmp 1) rfl _ rfl 50 (#[.int .i64 a, .int .i64 b, .int .i64 c]) (0, 0) _ (B1g.out) Try.underlying50 rfl (HI.out) ?_))
  (with_reducible refine (S0.out _).mono ?_)
  rintro e w8 ⟨rfl, hb8⟩
  have B3h := Lib.hid (B3g.out.up hb8)
  have B5h := Lib.hid (B5g.out.up hb8)
  have U8 := Lib.hid (U7.out.trans hb8)
  clear hb8
  go_wp2_with fail
  (with_reducible refine (S2.out _).mono ?_)
  rintro e w9 ⟨rfl, hb9⟩
  have B3i := Lib.hid ((B3h.out.up hb9).alloc (.cells cs 57))
  have B5i := Lib.hid ((B5h.out.up hb9).alloc (.cells cs 57))
  have U9 := Lib.hid ((U8.out.trans hb9).alloc (.cells cs 57))
  have B9 := Lib.hid (show Blk (w9.alloc (.cells cs 57)) w9.heap.size 57 cs from Blk.top rfl)
  clear hb9
  go_wp2_with (first
    | (refine wpList_store_row rfl 57 (.tmp 9) (.tmp 47) rfl _ (cs) rfl rfl 57 (cutZ) (Blk.top rfl) (HI2.out) (HZ.out) (H1.out) ?_; rw [World.setRow_alloc_new])
    | (refine wpList_load_row rfl 57 (.tmp 9) rfl _ rfl 57 (cs) (0, 0) _ (B9.out) Try.underlying57 rfl (HI2.out) ?_)
    | (refine wpList_load_row rfl 57 (.tmp 3) rfl _ rfl 57 (cs) (0, 0) _ (B3i.out) Try.underlying57 rfl (HI2.out) ?_))
  (with_reducible refine (S3.out _).mono ?_)
  rintro e w10 ⟨rfl, hb10⟩
  have B5j := Lib.hid (B5i.out.up hb10)
  have U10 := Lib.hid (U9.out.trans hb10)
  clear hb10
  go_wp2_with (first
    | (refine wpList_load_row rfl 57 (.tmp 5) rfl _ rfl 57 (cs) (0, 0) _ (B5j.out) Try.underlying57 rfl (HI2.out) ?_))
  (with_reducible refine (S5.out _).mono ?_)
  rintro e w11 ⟨rfl, hb11⟩
  have U11 := Lib.hid (U10.out.trans hb11)
  clear hb11
  go_wp2_with fail
  go_ret
  exact ⟨rfl, U11.out⟩

end Go.Proofs.Ytkfmokpijkoidaa

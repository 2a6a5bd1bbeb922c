/- Walks: cutters. -/
import Derived.Test.YtkfmokpijkoidaaK4
import Derived.Test.YtkfmokpijkoidaaKS
import Derived.Test.YtkfmokpijkoidaaKH3
namespace Go.Proofs.Ytkfmokpijkoidaa
open Go.RowKit
set_option linter.unusedVariables false
set_option linter.unusedSimpArgs false

/-- A cutter's five cells. -/
abbrev cutC (a b c : Int) (r : UInt32) (h : Value) : Array Value := #[.int .i64 a, .int .i64 b, .int .i64 c, .int .u32 (r.toNat : Int), h]

set_option maxHeartbeats 400000 in
theorem eqCutRule_same (a b c : Int) (w : World) : Calls Try.prog 87 #[ruleV a b c, ruleV a b c] w fun e w' => e = .returned (.bool true) ∧ Up w w' := by
  unfold ruleV
  go_enter Try.func87, Try.ntmps87
  go_wp2
  go_ret
  exact ⟨rfl, ((Up.refl _).alloc _).alloc _⟩

set_option maxHeartbeats 400000 in
set_option maxRecDepth 100000 in
theorem eqCutter_same (a b c : Int) (r : UInt32) (va vb : Value) (l : List UInt8) (w : World) (ha : RdB w va l) (hb : RdB w vb l) :
    Calls Try.prog 39 #[.agg (cutC a b c r va), .agg (cutC a b c r vb)] w fun e w' => e = .returned (.bool true) ∧ Up w w' := by
  unfold cutC
  have b2 : Blk ((w.alloc (.cells #[.int .i64 a, .int .i64 b, .int .i64 c, .int .u32 (r.toNat : Int), va] 57)).alloc (.cells #[.int .i64 a, .int .i64 b, .int .i64 c, .int .u32 (r.toNat : Int), vb] 57)) w.heap.size 57 #[.int .i64 a, .int .i64 b, .int .i64 c, .int .u32 (r.toNat : Int), va] := (Blk.top rfl).alloc _
  have b3 : Blk ((w.alloc (.cells #[.int .i64 a, .int .i64 b, .int .i64 c, .int .u32 (r.toNat : Int), va] 57)).alloc (.cells #[.int .i64 a, .int .i64 b, .int .i64 c, .int .u32 (r.toNat : Int), vb] 57)) (w.heap.size + 1) 57 #[.int .i64 a, .int .i64 b, .int .i64 c, .int .u32 (r.toNat : Int), vb] := Blk.top (by simp)
  have HB := Lib.hid (And.intro b2 b3)
  have HR := Lib.hid (And.intro ha hb)
  clear b2 b3 ha hb
  go_enter Try.func39, Try.ntmps39
  go_wp2_with fail
  refine (eqCutRule_same a b c _).mono ?_
  rintro e w1 ⟨rfl, hb1⟩
  have c2 := (HB.out.1.up hb1).cell_ (i := 3) rfl
  have c3 := (HB.out.2.up hb1).cell_ (i := 3) rfl
  have d2 := (HB.out.1.up hb1).cell_ (i := 4) rfl
  have d3 := (HB.out.2.up hb1).cell_ (i := 4) rfl
  have U := Lib.hid ((((Up.refl w).alloc (.cells #[.int .i64 a, .int .i64 b, .int .i64 c, .int .u32 (r.toNat : Int), va] 57)).alloc (.cells #[.int .i64 a, .int .i64 b, .int .i64 c, .int .u32 (r.toNat : Int), vb] 57)).trans hb1)
  clear hb1
  go_wp2_with fail
  refine (eqByteS_same va vb l _ (HR.out.1.up U.out) (HR.out.2.up U.out)).mono ?_
  rintro e w2 ⟨rfl, hb2⟩
  go_wp2_with fail
  go_ret
  exact ⟨rfl, U.out.trans hb2⟩

set_option maxHeartbeats 400000 in
set_option maxRecDepth 100000 in
theorem markCutter_nil (a b c : Int) (r : UInt32) (k : Int) (w : World) : Calls Try.prog 43 #[.agg (cutC a b c r (.slice none 0 0)), .int .i64 k] w fun e w' => e = .returned (.int .i64 k) ∧ Up w w' := by
  unfold cutC
  go_enter Try.func43, Try.ntmps43
  go_wp2_with (first
    | (go_at_call 58; (with_reducible refine (markByteS_nil k _).mono ?_); rintro e w' ⟨rfl, rfl⟩))
  go_ret
  exact ⟨rfl, (Up.refl _).alloc _⟩
set_option maxHeartbeats 400000 in
set_option maxRecDepth 100000 in
theorem heldCutter_nil (a b c : Int) (r : UInt32) (w : World) : Calls Try.prog 44 #[.agg (cutC a b c r (.slice none 0 0)), .int .i64 1] w fun e w' => e = .returned (.int .i64 1) ∧ Up w w' := by
  unfold cutC
  go_enter Try.func44, Try.ntmps44
  go_wp2_with (first
    | (go_at_call 59; (with_reducible refine (heldByteS_nil 1 _).mono ?_); rintro e w' ⟨rfl, rfl⟩))
  go_ret
  exact ⟨rfl, (Up.refl _).alloc _⟩

/-- What StartCutter returns. -/
def cutV (a b c : Int) : Value := if okRule a b c then .tuple #[.agg (cutC a b c 0 (.slice none 0 0)), .int .i64 0] else .tuple #[.agg (cutC 0 0 0 0 (.slice none 0 0)), .int .i64 1]
set_option maxHeartbeats 400000 in
set_option maxRecDepth 100000 in
theorem specStartCutter_c (a b c : Int) (w : World) : Calls Try.prog 40 #[ruleV a b c] w fun e w' => e = .returned (cutV a b c) ∧ Up w w' := by
  unfold ruleV
  have b1 : Blk ((w.alloc (.cells #[.int .i64 a, .int .i64 b, .int .i64 c] 55)).alloc (.cells #[.int .i64 0, .int .i64 0, .int .i64 0, .int .u32 0, .slice none 0 0] 57)) w.heap.size 55 #[.int .i64 a, .int .i64 b, .int .i64 c] := (Blk.top rfl).alloc _
  have b2 : Blk ((w.alloc (.cells #[.int .i64 a, .int .i64 b, .int .i64 c] 55)).alloc (.cells #[.int .i64 0, .int .i64 0, .int .i64 0, .int .u32 0, .slice none 0 0] 57)) (w.heap.size + 1) 57 #[.int .i64 0, .int .i64 0, .int .i64 0, .int .u32 0, .slice none 0 0] := Blk.top (by simp)
  have HB := Lib.hid (And.intro b1 b2)
  have HI := Lib.hid (show (Try.prog.info? 55).map (·.size) = some 3 by kernel_rfl)
  have HI2 := Lib.hid (show (Try.prog.info? 57).map (·.size) = some 5 by kernel_rfl)
  clear b1 b2
  by_cases h : okRule a b c = true
  · have HV := Lib.hid (show cutV a b c = .tuple #[.agg (cutC a b c 0 (.slice none 0 0)), .int .i64 0] by unfold cutV; rw [if_pos h])
    have H := Lib.hid h
    clear h
    go_enter Try.func40, Try.ntmps40
    go_wp2_with (first
      | (go_at_call 88; refine (l02Ok_c _ _ _ a b c _ HB.out.1 rfl rfl rfl).mono ?_; rintro e w' ⟨rfl, m, rfl⟩; rw [H.out])
      | (refine wpList_load_row rfl 55 (.tmp 1) rfl _ rfl 55 (#[.int .i64 a, .int .i64 b, .int .i64 c]) (0, 0) _ (HB.out.1.drewN _) Try.underlying55 rfl (HI.out) ?_)
      | (refine wpList_store_row rfl 57 (.tmp 2) (.tmp 8) rfl _ (#[.int .i64 a, .int .i64 b, .int .i64 c, .int .u32 0, .slice none 0 0]) rfl rfl 57 (#[.int .i64 0, .int .i64 0, .int .i64 0, .int .u32 0, .slice none 0 0]) (HB.out.2.drewN _) (HI2.out) (rfl) ((by simp [Value.oneCell'])) ?_))
    refine bodyPost_ret (results_row_tmp rfl _ _ _ 57 #[.int .i64 a, .int .i64 b, .int .i64 c, .int .u32 0, .slice none 0 0] (0, 0) _ rfl ((HB.out.2.drewN _).row _) Try.underlying57 rfl HI2.out) rfl ⟨by rw [HV.out]; rfl, ((((Up.refl w).alloc _).alloc _).drewN _).setRow (by omega) _⟩
  · have h' : okRule a b c = false := by simpa using h
    have HV := Lib.hid (show cutV a b c = .tuple #[.agg (cutC 0 0 0 0 (.slice none 0 0)), .int .i64 1] by unfold cutV; rw [if_neg h])
    have H := Lib.hid h'
    clear h h'
    go_enter Try.func40, Try.ntmps40
    go_wp2_with (first
      | (go_at_call 88; refine (l02Ok_c _ _ _ a b c _ HB.out.1 rfl rfl rfl).mono ?_; rintro e w' ⟨rfl, m, rfl⟩; rw [H.out])
      | (refine wpList_store_row rfl 57 (.tmp 2) (.tmp 6) rfl _ (#[.int .i64 0, .int .i64 0, .int .i64 0, .int .u32 0, .slice none 0 0]) rfl rfl 57 (#[.int .i64 0, .int .i64 0, .int .i64 0, .int .u32 0, .slice none 0 0]) (HB.out.2.drewN _) (HI2.out) (rfl) ((by simp [Value.oneCell'])) ?_))
    refine bodyPost_ret (results_row_tmp rfl _ _ _ 57 #[.int .i64 0, .int .i64 0, .int .i64 0, .int .u32 0, .slice none 0 0] (0, 0) _ rfl ((HB.out.2.drewN _).row _) Try.underlying57 rfl HI2.out) rfl ⟨by rw [HV.out]; rfl, ((((Up.refl w).alloc _).alloc _).drewN _).setRow (by omega) _⟩

set_option maxHeartbeats 400000 in
set_option maxRecDepth 100000 in
theorem implStartCutter_c (a b c : Int) (w : World) : Calls Try.prog 42 #[ruleV a b c] w fun e w' => e = .returned (cutV a b c) ∧ Up w w' := by
  have HR := Lib.hid (fun w => implValidRule_c a b c w)
  unfold ruleV at HR ⊢
  have b1 : Blk ((w.alloc (.cells #[.int .i64 a, .int .i64 b, .int .i64 c] 55)).alloc (.cells #[.int .i64 0, .int .i64 0, .int .i64 0, .int .u32 0, .slice none 0 0] 57)) w.heap.size 55 #[.int .i64 a, .int .i64 b, .int .i64 c] := (Blk.top rfl).alloc _
  have b2 : Blk ((w.alloc (.cells #[.int .i64 a, .int .i64 b, .int .i64 c] 55)).alloc (.cells #[.int .i64 0, .int .i64 0, .int .i64 0, .int .u32 0, .slice none 0 0] 57)) (w.heap.size + 1) 57 #[.int .i64 0, .int .i64 0, .int .i64 0, .int .u32 0, .slice none 0 0] := Blk.top (by simp)
  have HB := Lib.hid (And.intro b1 b2)
  have HI := Lib.hid (show (Try.prog.info? 55).map (·.size) = some 3 by kernel_rfl)
  have HI2 := Lib.hid (show (Try.prog.info? 57).map (·.size) = some 5 by kernel_rfl)
  clear b1 b2
  go_enter Try.func42, Try.ntmps42
  go_wp2_with (first
    | (refine wpList_load_row rfl 55 (.tmp 1) rfl _ rfl 55 (#[.int .i64 a, .int .i64 b, .int .i64 c]) (0, 0) _ (HB.out.1) Try.underlying55 rfl (HI.out) ?_))
  (with_reducible refine (HR.out _).mono ?_)
  rintro e w1 ⟨rfl, hb1⟩
  have B1 := Lib.hid (HB.out.1.up hb1)
  have B2 := Lib.hid (HB.out.2.up hb1)
  have U := Lib.hid ((((Up.refl w).alloc (.cells #[.int .i64 a, .int .i64 b, .int .i64 c] 55)).alloc (.cells #[.int .i64 0, .int .i64 0, .int .i64 0, .int .u32 0, .slice none 0 0] 57)).trans hb1)
  clear hb1
  by_cases h : okRule a b c = true
  · have HV := Lib.hid (show cutV a b c = .tuple #[.agg (cutC a b c 0 (.slice none 0 0)), .int .i64 0] by unfold cutV; rw [if_pos h])
    rw [h]
    clear h
    go_wp2_with (first
      | (refine wpList_load_row rfl 55 (.tmp 1) rfl _ rfl 55 (#[.int .i64 a, .int .i64 b, .int .i64 c]) (0, 0) _ (B1.out) Try.underlying55 rfl (HI.out) ?_)
      | (refine wpList_store_row rfl 57 (.tmp 2) (.tmp 9) rfl _ (#[.int .i64 a, .int .i64 b, .int .i64 c, .int .u32 0, .slice none 0 0]) rfl rfl 57 (#[.int .i64 0, .int .i64 0, .int .i64 0, .int .u32 0, .slice none 0 0]) (B2.out) (HI2.out) (rfl) ((by simp [Value.oneCell'])) ?_))
    refine bodyPost_ret (results_row_tmp rfl _ _ _ 57 #[.int .i64 a, .int .i64 b, .int .i64 c, .int .u32 0, .slice none 0 0] (0, 0) _ rfl (B2.out.row _) Try.underlying57 rfl HI2.out) rfl ⟨by rw [HV.out]; rfl, U.out.setRow (by omega) _⟩
  · have h' : okRule a b c = false := by simpa using h
    have HV := Lib.hid (show cutV a b c = .tuple #[.agg (cutC 0 0 0 0 (.slice none 0 0)), .int .i64 1] by unfold cutV; rw [if_neg h])
    rw [h']
    clear h h'
    go_wp2_with (first
      | (refine wpList_store_row rfl 57 (.tmp 2) (.tmp 7) rfl _ (#[.int .i64 0, .int .i64 0, .int .i64 0, .int .u32 0, .slice none 0 0]) rfl rfl 57 (#[.int .i64 0, .int .i64 0, .int .i64 0, .int .u32 0, .slice none 0 0]) (B2.out) (HI2.out) (rfl) ((by simp [Value.oneCell'])) ?_))
    refine bodyPost_ret (results_row_tmp rfl _ _ _ 57 #[.int .i64 0, .int .i64 0, .int .i64 0, .int .u32 0, .slice none 0 0] (0, 0) _ rfl (B2.out.row _) Try.underlying57 rfl HI2.out) rfl ⟨by rw [HV.out]; rfl, U.out.setRow (by omega) _⟩

end Go.Proofs.Ytkfmokpijkoidaa

/- Walks: a cutter copied by the law's own code. -/
import Derived.Test.YtkfmokpijkoidaaKSC
namespace Go.Proofs.Ytkfmokpijkoidaa
open Go.RowKit
set_option linter.unusedVariables false
set_option linter.unusedSimpArgs false

set_option maxHeartbeats 1000000 in
set_option maxRecDepth 100000 in
theorem toCutter_c (a b c : Int) (r : UInt32) (v : Value) (l : List UInt8) (w : World) (hv : RdB w v l) (hl : l.length ≤ 1048576) :
    Calls Try.prog 37 #[.agg (cutC a b c r v)] w fun e w' => (∃ g, e = .returned (.agg (cutC a b c r (.slice (some ⟨g, 0, none⟩) l.length l.length))) ∧ w.heap.size ≤ g ∧ Blk w' g 5 (bA l)) ∧ Up w w' := by
  have HV := Lib.hid hv
  have HL := Lib.hid hl
  have S0 := Lib.hid (fun w => toCutRule_c a b c w)
  unfold ruleV at S0
  unfold cutC
  have b1 : Blk (((w.alloc (.cells #[.int .i64 a, .int .i64 b, .int .i64 c, .int .u32 (r.toNat : Int), v] 52)).alloc (.cells #[.int .i64 0, .int .i64 0, .int .i64 0, .int .u32 0, .slice none 0 0] 57)).alloc (.cells #[.int .i64 0, .int .i64 0, .int .i64 0, .int .u32 0, .slice none 0 0] 57)) w.heap.size 52 #[.int .i64 a, .int .i64 b, .int .i64 c, .int .u32 (r.toNat : Int), v] := ((Blk.top rfl).alloc _).alloc _
  have b2 : Blk (((w.alloc (.cells #[.int .i64 a, .int .i64 b, .int .i64 c, .int .u32 (r.toNat : Int), v] 52)).alloc (.cells #[.int .i64 0, .int .i64 0, .int .i64 0, .int .u32 0, .slice none 0 0] 57)).alloc (.cells #[.int .i64 0, .int .i64 0, .int .i64 0, .int .u32 0, .slice none 0 0] 57)) (w.heap.size + 1) 57 #[.int .i64 0, .int .i64 0, .int .i64 0, .int .u32 0, .slice none 0 0] := (Blk.top (by simp)).alloc _
  have b3 : Blk (((w.alloc (.cells #[.int .i64 a, .int .i64 b, .int .i64 c, .int .u32 (r.toNat : Int), v] 52)).alloc (.cells #[.int .i64 0, .int .i64 0, .int .i64 0, .int .u32 0, .slice none 0 0] 57)).alloc (.cells #[.int .i64 0, .int .i64 0, .int .i64 0, .int .u32 0, .slice none 0 0] 57)) (w.heap.size + 1 + 1) 57 #[.int .i64 0, .int .i64 0, .int .i64 0, .int .u32 0, .slice none 0 0] := Blk.top (by simp)
  have HB := Lib.hid (And.intro b1 (And.intro b2 b3))
  clear hv hl b1 b2 b3
  go_enter Try.func37, Try.ntmps37
  go_wp2_with fail
  (with_reducible refine (S0.out _).mono ?_)
  rintro e w1 ⟨rfl, hb1⟩
  have C1 := HB.out.1.up hb1
  have C3 := HB.out.2.2.up hb1
  have c3 := C1.cell_ (i := 3) rfl
  have c4 := C1.cell_ (i := 4) rfl
  have d0 := C3.cell_ (i := 0) rfl
  have d1 := C3.cell_ (i := 1) rfl
  have d2 := C3.cell_ (i := 2) rfl
  have d3 := C3.cell_ (i := 3) rfl
  have d4 := C3.cell_ (i := 4) rfl
  have f0 := C3.free 0
  have f1 := C3.free 1
  have f2 := C3.free 2
  have f3 := C3.free 3
  have f4 := C3.free 4
  have HW := Lib.hid (And.intro hb1 (And.intro C1 C3))
  clear hb1 C1 C3
  go_wp2_with fail
  have U1 := Lib.hid (show Up w ((((w1.setCell ⟨w.heap.size + 1 + 1, 0, none⟩ (.int .i64 a)).setCell ⟨w.heap.size + 1 + 1, 1, none⟩ (.int .i64 b)).setCell ⟨w.heap.size + 1 + 1, 2, none⟩ (.int .i64 c)).setCell ⟨w.heap.size + 1 + 1, 3, none⟩ (.int .u32 (r.toNat : Int))) from ((((((((Up.refl w).alloc _).alloc _).alloc _).trans HW.out.1).setCell (by dsimp only; omega) _).setCell (by dsimp only; omega) _).setCell (by dsimp only; omega) _).setCell (by dsimp only; omega) _)
  refine (toByteS_c v l _ (HV.out.up U1.out) HL.out).mono ?_
  rintro e w2 ⟨⟨g, rfl, hg, bg⟩, hb2⟩
  have E3 : Blk w2 (w.heap.size + 1 + 1) 57 #[.int .i64 a, .int .i64 b, .int .i64 c, .int .u32 (r.toNat : Int), .slice none 0 0] := ((((HW.out.2.2.set_ 0 (.int .i64 a)).set_ 1 (.int .i64 b)).set_ 2 (.int .i64 c)).set_ 3 (.int .u32 (r.toNat : Int))).up hb2
  have E2 : Blk w2 (w.heap.size + 1) 57 #[.int .i64 0, .int .i64 0, .int .i64 0, .int .u32 0, .slice none 0 0] := (((((HB.out.2.1.up HW.out.1).far (p := ⟨w.heap.size + 1 + 1, 0, none⟩) (by dsimp only; omega) (.int .i64 a)).far (p := ⟨w.heap.size + 1 + 1, 1, none⟩) (by dsimp only; omega) (.int .i64 b)).far (p := ⟨w.heap.size + 1 + 1, 2, none⟩) (by dsimp only; omega) (.int .i64 c)).far (p := ⟨w.heap.size + 1 + 1, 3, none⟩) (by dsimp only; omega) (.int .u32 (r.toNat : Int))).up hb2
  have e4 := E3.cell_ (i := 4) rfl
  have g4 := E3.free 4
  have hgs : w.heap.size + 1 + 1 < w2.heap.size := E3.lt
  have hg2 : ((((w1.setCell ⟨w.heap.size + 1 + 1, 0, none⟩ (.int .i64 a)).setCell ⟨w.heap.size + 1 + 1, 1, none⟩ (.int .i64 b)).setCell ⟨w.heap.size + 1 + 1, 2, none⟩ (.int .i64 c)).setCell ⟨w.heap.size + 1 + 1, 3, none⟩ (.int .u32 (r.toNat : Int))).heap.size ≥ w.heap.size + 1 + 1 + 1 := ((((HW.out.2.2.set_ 0 (.int .i64 a)).set_ 1 (.int .i64 b)).set_ 2 (.int .i64 c)).set_ 3 (.int .u32 (r.toNat : Int))).lt
  have E3f : Blk (w2.setCell ⟨w.heap.size + 1 + 1, 4, none⟩ (.slice (some ⟨g, 0, none⟩) l.length l.length)) (w.heap.size + 1 + 1) 57 #[.int .i64 a, .int .i64 b, .int .i64 c, .int .u32 (r.toNat : Int), .slice (some ⟨g, 0, none⟩) l.length l.length] := E3.set_ 4 (.slice (some ⟨g, 0, none⟩) l.length l.length)
  have HF := Lib.hid (And.intro E3f (And.intro (E2.far (p := ⟨w.heap.size + 1 + 1, 4, none⟩) (by dsimp only; omega) (.slice (some ⟨g, 0, none⟩) l.length l.length)) (And.intro hg (And.intro bg (And.intro hb2 hg2)))))
  have HI2 := Lib.hid (show (Try.prog.info? 57).map (·.size) = some 5 by kernel_rfl)
  clear E3 E2 E3f hg bg hb2 hgs hg2
  go_wp2_with (first
    | (refine wpList_load_row rfl 57 (.tmp 3) rfl _ rfl 57 (#[.int .i64 a, .int .i64 b, .int .i64 c, .int .u32 (r.toNat : Int), .slice (some ⟨g, 0, none⟩) l.length l.length]) (0, 0) _ (HF.out.1) Try.underlying57 rfl (HI2.out) ?_)
    | (refine wpList_store_row rfl 57 (.tmp 2) (.tmp 15) rfl _ (#[.int .i64 a, .int .i64 b, .int .i64 c, .int .u32 (r.toNat : Int), .slice (some ⟨g, 0, none⟩) l.length l.length]) rfl rfl 57 (#[.int .i64 0, .int .i64 0, .int .i64 0, .int .u32 0, .slice none 0 0]) (HF.out.2.1) (HI2.out) (rfl) ((by simp [Value.oneCell'])) ?_))
  have hg := HF.out.2.2.1
  have hg2 := HF.out.2.2.2.2.2
  refine bodyPost_ret (results_cell_row rfl _ _ _ 57 #[.int .i64 a, .int .i64 b, .int .i64 c, .int .u32 (r.toNat : Int), .slice (some ⟨g, 0, none⟩) l.length l.length] (0, 0) _ rfl (HF.out.2.1.row _) Try.underlying57 rfl HI2.out) rfl ⟨⟨g, rfl, by omega, ?_⟩, ?_⟩
  · exact (HF.out.2.2.2.1.far (by dsimp only; omega) _).rowFar (by omega) _
  · exact ((U1.out.trans HF.out.2.2.2.2.1).setCell (by dsimp only; omega) _).setRow (by omega) _

end Go.Proofs.Ytkfmokpijkoidaa

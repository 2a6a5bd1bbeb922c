/- Walks: the law FnExactSameCutter. -/
import Derived.Test.YtkfmokpijkoidaaKSC2
import Derived.Test.YtkfmokpijkoidaaReg
namespace Go.Proofs.Ytkfmokpijkoidaa
open Go.RowKit
set_option linter.unusedVariables false
set_option linter.unusedSimpArgs false

theorem mixedOrders : Try.prog.follows .mixedOrders = true := by kernel_rfl
def cutZ : Array Value := #[.int .i64 0, .int .i64 0, .int .i64 0, .int .u32 0, .slice none 0 0]
/-- What is left of a measure. -/
def leftB (left : Int) (n : Nat) : Int := if left - n < 0 then -1 else left - n
set_option maxHeartbeats 400000 in
set_option maxRecDepth 100000 in
theorem szCutter_l (a b c : Int) (r : UInt32) (v : Value) (l : List UInt8) (left : Int) (h0 : 0 ≤ left) (h1 : left ≤ 1048576) (w : World) (hv : RdB w v l) :
    Calls Try.prog 35 #[.agg (cutC a b c r v), .int .i64 left] w fun e w' => e = .returned (.int .i64 (leftB left l.length)) ∧ Up w w' := by
  obtain ⟨q, cap, rfl, hl, -⟩ := hv
  have c2 := (Blk.top rfl : Blk (w.alloc (.cells (cutC a b c r (.slice q l.length cap)) 52)) w.heap.size 52 (cutC a b c r (.slice q l.length cap))).cell_ (i := 4) rfl
  have HC := Lib.hid (szByteS_c q l.length cap left h0 h1 hl)
  unfold leftB
  by_cases c1 : left - l.length < 0
  · rw [if_pos c1]
    rw [if_pos c1] at HC
    go_enter Try.func35, Try.ntmps35
    go_wp2_with (first
      | (go_at_call 84; (with_reducible refine (HC.out _).mono ?_); rintro e w' ⟨rfl, rfl⟩))
    go_ret
    exact ⟨rfl, (Up.refl _).alloc _⟩
  · rw [if_neg c1]
    rw [if_neg c1] at HC
    go_enter Try.func35, Try.ntmps35
    go_wp2_with (first
      | (go_at_call 84; (with_reducible refine (HC.out _).mono ?_); rintro e w' ⟨rfl, rfl⟩))
    go_ret
    exact ⟨rfl, (Up.refl _).alloc _⟩

set_option maxHeartbeats 2000000 in
set_option maxRecDepth 100000 in
theorem lawSameCutter_c (a b c : Int) (r : UInt32) (va : Value) (x : List UInt8) (a' b' c' : Int) (r' : UInt32) (vb : Value) (y : List UInt8) (w : World) (ha : RdB w va x) (hb : RdB w vb y) :
    Calls Try.prog 8 #[.agg (cutC a b c r va), .agg (cutC a' b' c' r' vb)] w fun e w' => e = .returned (.bool true) ∧ Up w w' := by
  have HI := Lib.hid (show (Try.prog.info? 52).map (·.size) = some (cutC a b c r va).size by kernel_rfl)
  have HI' := Lib.hid (show (Try.prog.info? 52).map (·.size) = some (cutC a' b' c' r' vb).size by kernel_rfl)
  have HA := Lib.hid ha
  have HB := Lib.hid hb
  have B2 := Lib.hid (show Blk ((w.alloc (.cells (cutC a b c r va) 52)).alloc (.cells (cutC a' b' c' r' vb) 52)) w.heap.size 52 (cutC a b c r va) from (Blk.top rfl).alloc _)
  have B3 := Lib.hid (show Blk ((w.alloc (.cells (cutC a b c r va) 52)).alloc (.cells (cutC a' b' c' r' vb) 52)) (w.heap.size + 1) 52 (cutC a' b' c' r' vb) from Blk.top (by simp))
  have U0 := Lib.hid (show Up w ((w.alloc (.cells (cutC a b c r va) 52)).alloc (.cells (cutC a' b' c' r' vb) 52)) from ((Up.refl _).alloc _).alloc _)
  clear ha hb
  go_enter Try.func8, Try.ntmps8
  go_wp2_with (first
    | (refine wpList_load_row rfl 52 (.tmp 2) rfl _ rfl 52 (cutC a b c r va) (0, 0) _ (B2.out) Try.underlying52 rfl (HI.out) ?_))
  refine (szCutter_l a b c r va x 1048576 (by omega) (by omega) _ (HA.out.up U0.out)).mono ?_
  rintro e w1 ⟨rfl, hb1⟩
  have U1 := Lib.hid (U0.out.trans hb1)
  have B2a := Lib.hid (B2.out.up hb1)
  have B3a := Lib.hid (B3.out.up hb1)
  clear hb1
  by_cases hbig : (1048576 : Int) - x.length < 0
  · have hz : leftB 1048576 x.length = -1 := by unfold leftB; rw [if_pos hbig]
    rw [hz]
    clear hz
    go_wp2_with fail
    go_ret
    exact ⟨rfl, U1.out⟩
  have hz : leftB 1048576 x.length = 1048576 - x.length := by unfold leftB; rw [if_neg hbig]
  rw [hz]
  have HX := Lib.hid (show x.length ≤ 1048576 by omega)
  clear hz
  go_wp2_with (first
    | (refine wpList_load_row rfl 52 (.tmp 3) rfl _ rfl 52 (cutC a' b' c' r' vb) (0, 0) _ (B3a.out) Try.underlying52 rfl (HI'.out) ?_))
  refine (szCutter_l a' b' c' r' vb y (1048576 - x.length) (by omega) (by omega) _ (HB.out.up U1.out)).mono ?_
  rintro e w2 ⟨rfl, hb2⟩
  have U2 := Lib.hid (U1.out.trans hb2)
  have B2b := Lib.hid (B2a.out.up hb2)
  have B3b := Lib.hid (B3a.out.up hb2)
  clear hb2
  by_cases hbig2 : (1048576 : Int) - x.length - y.length < 0
  · have hz : leftB (1048576 - x.length) y.length = -1 := by unfold leftB; rw [if_pos hbig2]
    rw [hz]
    clear hz
    go_wp2_with fail
    go_ret
    exact ⟨rfl, U2.out⟩
  have hz : leftB (1048576 - x.length) y.length = 1048576 - x.length - y.length := by unfold leftB; rw [if_neg hbig2]
  rw [hz]
  have HY := Lib.hid (show y.length ≤ 1048576 by omega)
  clear hz
  go_upto_region 8 with fail
  go_cut [6] (fun s6 wx => s6 = .bool (sameC a b c a' b' c' r r' x y) ∧ Blk wx w.heap.size 52 (cutC a b c r va) ∧ Blk wx (w.heap.size + 1) 52 (cutC a' b' c' r' vb) ∧ Up w wx)
  case first =>
    refine region_mono (m := 5) mixedOrders (by kernel_rfl) (by kernel_rfl)
      (fun | 0 => fun vq _ => vq = .agg (cutC a b c r va) | 1 => fun vq wx => ∃ g : Nat, vq = .agg (cutC a b c r (.slice (some ⟨g, 0, none⟩) x.length x.length)) ∧ RdB wx (.slice (some ⟨g, 0, none⟩) x.length x.length) x | 2 => fun vq _ => vq = .agg (cutC a' b' c' r' vb) | 3 => fun vq wx => ∃ g : Nat, vq = .agg (cutC a' b' c' r' (.slice (some ⟨g, 0, none⟩) y.length y.length)) ∧ RdB wx (.slice (some ⟨g, 0, none⟩) y.length y.length) y | 4 => fun vq _ => vq = .bool (sameC a b c a' b' c' r r' x y) | _ => fun _ _ => True)
      (fun wx => Blk wx w.heap.size 52 (cutC a b c r va) ∧ Blk wx (w.heap.size + 1) 52 (cutC a' b' c' r' vb) ∧ Up w wx) ?_ ?_ ?_ ?_ ?_
    · intro j hj v w1 w2 hb h
      match j, hj with
      | 0, _ => exact h
      | 1, _ => exact (let ⟨g, h1, h2⟩ := h; ⟨g, h1, h2.up hb⟩)
      | 2, _ => exact h
      | 3, _ => exact (let ⟨g, h1, h2⟩ := h; ⟨g, h1, h2.up hb⟩)
      | 4, _ => exact h
    · rintro w1 w2 hb ⟨g2, g3, gu⟩
      exact ⟨g2.up hb, g3.up hb, gu.up hb⟩
    · exact ⟨B2b.out.drew, B3b.out.drew, U2.out.drew⟩
    · rintro i o hi ho av wv fr ⟨g2, g3, gu⟩ dep
      match i, hi with
      | 0, _ =>
        obtain rfl := Option.some.inj ho
        exact st_load_row rfl (fr.eval rfl) g2 Try.underlying52 rfl HI.out rfl
      | 1, _ =>
        obtain rfl := Option.some.inj ho
        have d0 := dep ⟨0, .data⟩ (by simp) rfl
        exact st_call1 rfl (fun _ _ => by kernel_rfl) d0 (toCutter_c a b c r va x _ (HA.out.up gu) HX.out) (fun e w' ⟨⟨g, he, _, bg⟩, hb⟩ => ⟨_, he, hb, g, rfl, RdB.of_blk bg (Nat.le_trans HX.out (by decide)) x.length⟩)
      | 2, _ =>
        obtain rfl := Option.some.inj ho
        exact st_load_row rfl (fr.eval rfl) g3 Try.underlying52 rfl HI'.out rfl
      | 3, _ =>
        obtain rfl := Option.some.inj ho
        have d0 := dep ⟨2, .data⟩ (by simp) rfl
        exact st_call1 rfl (fun _ _ => by kernel_rfl) d0 (toCutter_c a' b' c' r' vb y _ (HB.out.up gu) HY.out) (fun e w' ⟨⟨g, he, _, bg⟩, hb⟩ => ⟨_, he, hb, g, rfl, RdB.of_blk bg (Nat.le_trans HY.out (by decide)) y.length⟩)
      | 4, _ =>
        obtain rfl := Option.some.inj ho
        have d0 := dep ⟨1, .data⟩ (by simp) rfl
        have d1 := dep ⟨3, .data⟩ (by simp) rfl
        obtain ⟨g0, d0, r0⟩ := d0
        obtain ⟨g1, d1, r1⟩ := d1
        exact st_call2 rfl (fun _ _ => by kernel_rfl) d0 d1 (specSameCutter_c a b c a' b' c' r r' _ _ x y _ r0 r1) (fun e w' ⟨he, hb⟩ => ⟨_, he, hb, rfl⟩)
    · rintro vs wv ⟨g2, g3, gu⟩ hf
      have f0 : vs 0 = .agg (cutC a b c r va) := hf 0 (by omega)
      have f1 := hf 1 (by omega)
      have f2 : vs 2 = .agg (cutC a' b' c' r' vb) := hf 2 (by omega)
      have f3 := hf 3 (by omega)
      have f4 : vs 4 = .bool (sameC a b c a' b' c' r r' x y) := hf 4 (by omega)
      simp only [putAll, Act.put, List.getElem?_toArray, List.getElem?_cons_zero, List.getElem?_cons_succ, Option.bind_some, List.setIfInBounds_toArray, List.set_cons_zero, List.set_cons_succ, f4]
      go_wp2_with fail
      go_meet
      exact ⟨rfl, g2, g3, gu⟩
  case rest =>
    obtain ⟨rfl, b2, b3, hbel⟩ := hcut
    have B2c := Lib.hid b2
    have B3c := Lib.hid b3
    have U3 := Lib.hid hbel
    clear b2 b3 hbel
    go_wp2_with (first
      | (refine wpList_load_row rfl 52 (.tmp 2) rfl _ rfl 52 (cutC a b c r va) (0, 0) _ (B2c.out) Try.underlying52 rfl (HI.out) ?_))
    refine (toCutter_c a b c r va x _ (HA.out.up U3.out) HX.out).mono ?_
    rintro e w4 ⟨⟨h, rfl, hh, bh⟩, hb4⟩
    have HJ := Lib.hid (show (Try.prog.info? 57).map (·.size) = some (cutC a b c r (.slice (some ⟨h, 0, none⟩) x.length x.length)).size by kernel_rfl)
    have HZ := Lib.hid (show cutZ.size = (cutC a b c r (.slice (some ⟨h, 0, none⟩) x.length x.length)).size from rfl)
    have U4 := Lib.hid (show Up w (w4.alloc (.cells (cutC a b c r (.slice (some ⟨h, 0, none⟩) x.length x.length)) 57)) from (U3.out.trans hb4).alloc _)
    have B2d := Lib.hid ((B2c.out.up hb4).alloc (.cells (cutC a b c r (.slice (some ⟨h, 0, none⟩) x.length x.length)) 57))
    have B3d := Lib.hid ((B3c.out.up hb4).alloc (.cells (cutC a b c r (.slice (some ⟨h, 0, none⟩) x.length x.length)) 57))
    have D7 := Lib.hid (show Blk (w4.alloc (.cells (cutC a b c r (.slice (some ⟨h, 0, none⟩) x.length x.length)) 57)) w4.heap.size 57 (cutC a b c r (.slice (some ⟨h, 0, none⟩) x.length x.length)) from Blk.top rfl)
    have R7 := Lib.hid ((RdB.of_blk bh (Nat.le_trans HX.out (by decide)) x.length).alloc (.cells (cutC a b c r (.slice (some ⟨h, 0, none⟩) x.length x.length)) 57))
    clear hh bh hb4
    go_wp2_with (first
      | (refine wpList_store_row rfl 57 (.tmp 7) (.tmp 26) rfl _ (cutC a b c r (.slice (some ⟨h, 0, none⟩) x.length x.length)) rfl rfl 57 (cutZ) (Blk.top rfl) (HJ.out) (HZ.out) ((by simp [Value.oneCell'])) ?_; rw [World.setRow_alloc_new])
      | (refine wpList_load_row rfl 52 (.tmp 3) rfl _ rfl 52 (cutC a' b' c' r' vb) (0, 0) _ (B3d.out) Try.underlying52 rfl (HI'.out) ?_))
    refine (toCutter_c a' b' c' r' vb y _ (HB.out.up U4.out) HY.out).mono ?_
    rintro e w5 ⟨⟨h2, rfl, hh, bh⟩, hb5⟩
    have HJ' := Lib.hid (show (Try.prog.info? 57).map (·.size) = some (cutC a' b' c' r' (.slice (some ⟨h2, 0, none⟩) y.length y.length)).size by kernel_rfl)
    have HZ' := Lib.hid (show cutZ.size = (cutC a' b' c' r' (.slice (some ⟨h2, 0, none⟩) y.length y.length)).size from rfl)
    have U5 := Lib.hid (show Up w (w5.alloc (.cells (cutC a' b' c' r' (.slice (some ⟨h2, 0, none⟩) y.length y.length)) 57)) from (U4.out.trans hb5).alloc _)
    have B2e := Lib.hid ((B2d.out.up hb5).alloc (.cells (cutC a' b' c' r' (.slice (some ⟨h2, 0, none⟩) y.length y.length)) 57))
    have B3e := Lib.hid ((B3d.out.up hb5).alloc (.cells (cutC a' b' c' r' (.slice (some ⟨h2, 0, none⟩) y.length y.length)) 57))
    have D7e := Lib.hid ((D7.out.up hb5).alloc (.cells (cutC a' b' c' r' (.slice (some ⟨h2, 0, none⟩) y.length y.length)) 57))
    have R7e := Lib.hid ((R7.out.up hb5).alloc (.cells (cutC a' b' c' r' (.slice (some ⟨h2, 0, none⟩) y.length y.length)) 57))
    have D8 := Lib.hid (show Blk (w5.alloc (.cells (cutC a' b' c' r' (.slice (some ⟨h2, 0, none⟩) y.length y.length)) 57)) w5.heap.size 57 (cutC a' b' c' r' (.slice (some ⟨h2, 0, none⟩) y.length y.length)) from Blk.top rfl)
    have R8 := Lib.hid ((RdB.of_blk bh (Nat.le_trans HY.out (by decide)) y.length).alloc (.cells (cutC a' b' c' r' (.slice (some ⟨h2, 0, none⟩) y.length y.length)) 57))
    clear hh bh hb5
    go_wp2_with (first
      | (refine wpList_store_row rfl 57 (.tmp 8) (.tmp 28) rfl _ (cutC a' b' c' r' (.slice (some ⟨h2, 0, none⟩) y.length y.length)) rfl rfl 57 (cutZ) (Blk.top rfl) (HJ'.out) (HZ'.out) ((by simp [Value.oneCell'])) ?_; rw [World.setRow_alloc_new])
      | (refine wpList_load_row rfl 57 (.tmp 7) rfl _ rfl 57 (cutC a b c r (.slice (some ⟨h, 0, none⟩) x.length x.length)) (0, 0) _ (D7e.out) Try.underlying57 rfl (HJ.out) ?_)
      | (refine wpList_load_row rfl 57 (.tmp 8) rfl _ rfl 57 (cutC a' b' c' r' (.slice (some ⟨h2, 0, none⟩) y.length y.length)) (0, 0) _ (D8.out) Try.underlying57 rfl (HJ'.out) ?_))
    refine (implSameCutter_c a b c a' b' c' r r' _ _ x y _ R7e.out R8.out).mono ?_
    rintro e w6 ⟨rfl, hb6⟩
    have U6 := Lib.hid (U5.out.trans hb6)
    have B2f := Lib.hid (B2e.out.up hb6)
    have B3f := Lib.hid (B3e.out.up hb6)
    have D7f := Lib.hid (D7e.out.up hb6)
    have R7f := Lib.hid (R7e.out.up hb6)
    have D8f := Lib.hid (D8.out.up hb6)
    have R8f := Lib.hid (R8.out.up hb6)
    clear hb6
    go_upto_region 14 with fail
    go_cut [39] (fun s39 wx => s39 = .bool false ∧ Blk wx (w.heap.size + 1) 52 (cutC a' b' c' r' vb) ∧ Blk wx w5.heap.size 57 (cutC a' b' c' r' (.slice (some ⟨h2, 0, none⟩) y.length y.length)) ∧ RdB wx (.slice (some ⟨h2, 0, none⟩) y.length y.length) y ∧ Up w wx)
    case first =>
      refine region_mono (m := 5) mixedOrders (by kernel_rfl) (by kernel_rfl)
        (fun | 0 => fun vq _ => vq = .agg (cutC a b c r (.slice (some ⟨h, 0, none⟩) x.length x.length)) | 1 => fun vq _ => vq = .agg (cutC a b c r va) | 2 => fun vq wx => ∃ g : Nat, vq = .agg (cutC a b c r (.slice (some ⟨g, 0, none⟩) x.length x.length)) ∧ RdB wx (.slice (some ⟨g, 0, none⟩) x.length x.length) x | 3 => fun vq _ => vq = .bool true | 4 => fun vq _ => vq = .bool (!true) | _ => fun _ _ => True)
        (fun wx => Blk wx w4.heap.size 57 (cutC a b c r (.slice (some ⟨h, 0, none⟩) x.length x.length)) ∧ Blk wx w.heap.size 52 (cutC a b c r va) ∧ RdB wx (.slice (some ⟨h, 0, none⟩) x.length x.length) x ∧ Blk wx (w.heap.size + 1) 52 (cutC a' b' c' r' vb) ∧ Blk wx w5.heap.size 57 (cutC a' b' c' r' (.slice (some ⟨h2, 0, none⟩) y.length y.length)) ∧ RdB wx (.slice (some ⟨h2, 0, none⟩) y.length y.length) y ∧ Up w wx) ?_ ?_ ?_ ?_ ?_
      · intro j hj v w1 w2 hb h
        match j, hj with
        | 0, _ => exact h
        | 1, _ => exact h
        | 2, _ => exact (let ⟨g, h1, h2⟩ := h; ⟨g, h1, h2.up hb⟩)
        | 3, _ => exact h
        | 4, _ => exact h
      · rintro w1 w2 hb ⟨g7, g2, gr, g3, g8, gq, gu⟩
        exact ⟨g7.up hb, g2.up hb, gr.up hb, g3.up hb, g8.up hb, gq.up hb, gu.up hb⟩
      · exact ⟨D7f.out.drew, B2f.out.drew, R7f.out.up ((Up.refl _).drew), B3f.out.drew, D8f.out.drew, R8f.out.up ((Up.refl _).drew), U6.out.drew⟩
      · rintro i o hi ho av wv fr ⟨g7, g2, gr, g3, g8, gq, gu⟩ dep
        match i, hi with
        | 0, _ =>
          obtain rfl := Option.some.inj ho
          exact st_load_row rfl (fr.eval rfl) g7 Try.underlying57 rfl HJ.out rfl
        | 1, _ =>
          obtain rfl := Option.some.inj ho
          exact st_load_row rfl (fr.eval rfl) g2 Try.underlying52 rfl HI.out rfl
        | 2, _ =>
          obtain rfl := Option.some.inj ho
          have d0 := dep ⟨1, .data⟩ (by simp) rfl
          exact st_call1 rfl (fun _ _ => by kernel_rfl) d0 (toCutter_c a b c r va x _ (HA.out.up gu) HX.out) (fun e w' ⟨⟨g, he, _, bg⟩, hb⟩ => ⟨_, he, hb, g, rfl, RdB.of_blk bg (Nat.le_trans HX.out (by decide)) x.length⟩)
        | 3, _ =>
          obtain rfl := Option.some.inj ho
          have d0 := dep ⟨0, .data⟩ (by simp) rfl
          have d1 := dep ⟨2, .data⟩ (by simp) rfl
          obtain ⟨g, d1, r1⟩ := d1
          exact st_call2 rfl (fun _ _ => by kernel_rfl) d0 d1 (eqCutter_same a b c r _ _ x _ gr r1) (fun e w' ⟨he, hb⟩ => ⟨_, he, hb, rfl⟩)
        | 4, _ =>
          obtain rfl := Option.some.inj ho
          exact st_not rfl (dep ⟨3, .data⟩ (by simp) rfl) rfl
      · rintro vs wv ⟨g7, g2, gr, g3, g8, gq, gu⟩ hf
        have f0 : vs 0 = .agg (cutC a b c r (.slice (some ⟨h, 0, none⟩) x.length x.length)) := hf 0 (by omega)
        have f1 : vs 1 = .agg (cutC a b c r va) := hf 1 (by omega)
        have f2 := hf 2 (by omega)
        have f3 : vs 3 = .bool true := hf 3 (by omega)
        have f4 : vs 4 = .bool (!true) := hf 4 (by omega)
        simp only [putAll, Act.put, List.getElem?_toArray, List.getElem?_cons_zero, List.getElem?_cons_succ, Option.bind_some, List.setIfInBounds_toArray, List.set_cons_zero, List.set_cons_succ, f4]
        go_wp2_with fail
        go_meet
        exact ⟨rfl, g3, g8, gq, gu⟩
    case rest =>
      obtain ⟨rfl, b3, b8, r8, hbel⟩ := hcut
      have B3g := Lib.hid b3
      have D8g := Lib.hid b8
      have R8g := Lib.hid r8
      have U7 := Lib.hid hbel
      clear b3 b8 r8 hbel
      go_upto_region 16 with fail
      refine region_mono (m := 5) mixedOrders (by kernel_rfl) (by kernel_rfl)
        (fun | 0 => fun vq _ => vq = .agg (cutC a' b' c' r' (.slice (some ⟨h2, 0, none⟩) y.length y.length)) | 1 => fun vq _ => vq = .agg (cutC a' b' c' r' vb) | 2 => fun vq wx => ∃ g : Nat, vq = .agg (cutC a' b' c' r' (.slice (some ⟨g, 0, none⟩) y.length y.length)) ∧ RdB wx (.slice (some ⟨g, 0, none⟩) y.length y.length) y | 3 => fun vq _ => vq = .bool true | 4 => fun vq _ => vq = .bool (!true) | _ => fun _ _ => True)
        (fun wx => Blk wx w5.heap.size 57 (cutC a' b' c' r' (.slice (some ⟨h2, 0, none⟩) y.length y.length)) ∧ Blk wx (w.heap.size + 1) 52 (cutC a' b' c' r' vb) ∧ RdB wx (.slice (some ⟨h2, 0, none⟩) y.length y.length) y ∧ Up w wx) ?_ ?_ ?_ ?_ ?_
      · intro j hj v w1 w2 hb h
        match j, hj with
        | 0, _ => exact h
        | 1, _ => exact h
        | 2, _ => exact (let ⟨g, h1, h2⟩ := h; ⟨g, h1, h2.up hb⟩)
        | 3, _ => exact h
        | 4, _ => exact h
      · rintro w1 w2 hb ⟨g8, g3, gq, gu⟩
        exact ⟨g8.up hb, g3.up hb, gq.up hb, gu.up hb⟩
      · exact ⟨D8g.out.drew, B3g.out.drew, R8g.out.up ((Up.refl _).drew), U7.out.drew⟩
      · rintro i o hi ho av wv fr ⟨g8, g3, gq, gu⟩ dep
        match i, hi with
        | 0, _ =>
          obtain rfl := Option.some.inj ho
          exact st_load_row rfl (fr.eval rfl) g8 Try.underlying57 rfl HJ'.out rfl
        | 1, _ =>
          obtain rfl := Option.some.inj ho
          exact st_load_row rfl (fr.eval rfl) g3 Try.underlying52 rfl HI'.out rfl
        | 2, _ =>
          obtain rfl := Option.some.inj ho
          have d0 := dep ⟨1, .data⟩ (by simp) rfl
          exact st_call1 rfl (fun _ _ => by kernel_rfl) d0 (toCutter_c a' b' c' r' vb y _ (HB.out.up gu) HY.out) (fun e w' ⟨⟨g, he, _, bg⟩, hb⟩ => ⟨_, he, hb, g, rfl, RdB.of_blk bg (Nat.le_trans HY.out (by decide)) y.length⟩)
        | 3, _ =>
          obtain rfl := Option.some.inj ho
          have d0 := dep ⟨0, .data⟩ (by simp) rfl
          have d1 := dep ⟨2, .data⟩ (by simp) rfl
          obtain ⟨g, d1, r1⟩ := d1
          exact st_call2 rfl (fun _ _ => by kernel_rfl) d0 d1 (eqCutter_same a' b' c' r' _ _ y _ gq r1) (fun e w' ⟨he, hb⟩ => ⟨_, he, hb, rfl⟩)
        | 4, _ =>
          obtain rfl := Option.some.inj ho
          exact st_not rfl (dep ⟨3, .data⟩ (by simp) rfl) rfl
      · rintro vs wv ⟨g8, g3, gq, gu⟩ hf
        have f0 : vs 0 = .agg (cutC a' b' c' r' (.slice (some ⟨h2, 0, none⟩) y.length y.length)) := hf 0 (by omega)
        have f1 : vs 1 = .agg (cutC a' b' c' r' vb) := hf 1 (by omega)
        have f2 := hf 2 (by omega)
        have f3 : vs 3 = .bool true := hf 3 (by omega)
        have f4 : vs 4 = .bool (!true) := hf 4 (by omega)
        simp only [putAll, Act.put, List.getElem?_toArray, List.getElem?_cons_zero, List.getElem?_cons_succ, Option.bind_some, List.setIfInBounds_toArray, List.set_cons_zero, List.set_cons_succ, f4]
        go_wp2_with fail
        go_ret
        exact ⟨rfl, gu⟩

end Go.Proofs.Ytkfmokpijkoidaa

/- Walks: the reference's MixBlock, the law's own copies, the law FnExactMixBlock. -/
import Derived.Test.YtkfmokpijkoidaaKM4
import Derived.Test.YtkfmokpijkoidaaK1
import Derived.Test.YtkfmokpijkoidaaReg
namespace Go.Proofs.Ytkfmokpijkoidaa
open Go.RowKit
set_option linter.unusedVariables false
set_option linter.unusedSimpArgs false

theorem info_b32 : (Try.prog.info? 24).map (·.size) = some 32 := by kernel_rfl
theorem mixedOrders : Try.prog.follows .mixedOrders = true := by kernel_rfl

set_option maxHeartbeats 400000 in
set_option maxRecDepth 100000 in
theorem toByteA32_c (l : List UInt8) (hl : l.length = 32) (w : World) :
    Calls Try.prog 17 #[.agg (bA l)] w fun e w' => e = .returned (.agg (bA l)) ∧ Up w w' := by
  have HS := Lib.hid (show (Try.prog.info? 24).map (·.size) = some (bA l).size by rw [bA_size, hl]; exact info_b32)
  have HL := Lib.hid hl
  clear hl
  go_enter Try.func17, Try.ntmps17
  go_wp2
  go_loopg [4] 32 (fun n i wr => ∃ k : Nat, k + n = 32 ∧ i = .int .i64 k ∧ Blk wr w.heap.size 24 (bA l) ∧ Blk wr (w.heap.size + 1) 24 (bA zero32) ∧ Blk wr (w.heap.size + 1 + 1) 24 (bA (fillTo (bt l) k 32 0)) ∧ Up w wr)
  case atStart =>
    exact ⟨0, by omega, rfl, ((Blk.top rfl).alloc _).alloc _, (Blk.top (by simp)).alloc _, Blk.top (by simp), (((Up.refl _).alloc _).alloc _).alloc _⟩
  case round =>
    obtain ⟨k, hk, rfl, b0, b1, b2, hbel⟩ := hrel
    have hl := HL.out
    by_cases hlt : k < 32
    · have c0 := b0.cell_ (bA_at l k (by omega))
      have c2 := b2.cell_ (bA_at (fillTo (bt l) k 32 0) k (by rw [fill_length]; omega))
      have f2 := b2.free k
      have BA := Lib.hid (And.intro b0 (And.intro b1 (And.intro b2 hbel)))
      have HK := Lib.hid hk
      clear b0 b1 b2 hbel hl hk
      go_wp2
      obtain ⟨b0, b1, b2, hbel⟩ := BA.out
      have hk := HK.out
      go_roundg (gk - 1)
      case measure => omega
      case rel =>
        refine ⟨k + 1, by omega, by go_num, b0.far (by simp; omega) _, b1.far (by simp) _, ?_, hbel.setCell (by simp; omega) _⟩
        rw [← fill_set (bt l) k 32 0, ← bA_set]
        exact b2.set_ k _
    · obtain rfl : k = 32 := by omega
      clear hk
      rw [fill_full, map_bt l 32 hl] at b2
      clear hl
      go_wp2_with (first
        | (refine wpList_load_row rfl 24 (.tmp 3) rfl _ rfl 24 (bA l) (0, 0) _ b2 Try.underlying24 rfl HS.out ?_)
        | (refine wpList_store_row rfl 24 (.tmp 2) (.tmp 14) rfl _ (bA l) rfl rfl 24 (bA zero32) b1 HS.out ?_ (bA_one l) ?_; · rw [bA_size, bA_size, HL.out]; rfl))
      refine bodyPost_ret (results_cell_row rfl _ _ _ 24 (bA l) (0, 0) _ rfl (b1.row _) Try.underlying24 rfl HS.out) rfl ⟨rfl, hbel.setRow (by omega) _⟩

set_option maxHeartbeats 400000 in
set_option maxRecDepth 100000 in
theorem specMixBlock_c (s : List UInt32) (l : List UInt8) (hs : s.length = 8) (hl : l.length = 32) (w : World) :
    Calls Try.prog 15 #[.agg (wA s), .agg (bA l)] w fun e w' => e = .returned (.agg (wA (mixL s l))) ∧ Up w w' := by
  have HI := Lib.hid (show (Try.prog.info? 23).map (·.size) = some (wA s).size by rw [wA_size, hs]; exact info_state)
  have HB := Lib.hid (show (Try.prog.info? 24).map (·.size) = some (bA l).size by rw [bA_size, hl]; exact info_b32)
  have HM := Lib.hid (show (Try.prog.info? 23).map (·.size) = some (wA (mixL s l)).size by rw [wA_size, mixL_length]; exact info_state)
  have B4 := Lib.hid (show Blk (((w.alloc (.cells (wA s) 23)).alloc (.cells (bA l) 24)).alloc (.cells (wA zero8) 23)) (w.heap.size + 1 + 1) 23 (wA zero8) from Blk.top (by simp))
  have HL := Lib.hid (And.intro hs hl)
  clear hs hl
  go_enter Try.func15, Try.ntmps15
  go_wp2_with (first
    | (refine wpList_load_row rfl 23 (.tmp 2) rfl _ rfl 23 (wA s) (0, 0) _ (((Blk.top rfl).alloc _).alloc _) Try.underlying23 rfl (HI.out) ?_)
    | (refine wpList_load_row rfl 24 (.tmp 3) rfl _ rfl 24 (bA l) (0, 0) _ (((Blk.top (by simp)).alloc _ : Blk _ (w.heap.size + 1) _ _)) Try.underlying24 rfl (HB.out) ?_)
    | (go_at_call 71; (with_reducible refine (specl01Mix_c s l HL.out.1 HL.out.2 _).mono ?_); rintro e w' ⟨rfl, hb1⟩)
    | (refine wpList_store_row rfl 23 (.tmp 4) (.tmp 7) rfl _ (wA (mixL s l)) rfl rfl 23 (wA zero8) (B4.out.up hb1) (HM.out) ((by rw [wA_size, wA_size, mixL_length]; rfl)) (wA_one _) ?_))
  refine bodyPost_ret (results_cell_row rfl _ _ _ 23 (wA (mixL s l)) (0, 0) _ rfl ((B4.out.up hb1).row _) Try.underlying23 rfl HM.out) rfl ⟨rfl, (((((Up.refl _).alloc _).alloc _).alloc _).trans hb1).setRow (by omega) _⟩

set_option maxHeartbeats 800000 in
set_option maxRecDepth 100000 in
theorem lawMixBlock_c (a : List UInt32) (b : List UInt8) (ha : a.length = 8) (hb : b.length = 32) (w : World) :
    Calls Try.prog 3 #[.agg (wA a), .agg (bA b)] w fun e w' => e = .returned (.bool true) ∧ Up w w' := by
  have HSa := Lib.hid (show (Try.prog.info? 23).map (·.size) = some (wA a).size by rw [wA_size, ha]; exact info_state)
  have HSb := Lib.hid (show (Try.prog.info? 24).map (·.size) = some (bA b).size by rw [bA_size, hb]; exact info_b32)
  have HSx := Lib.hid (show (Try.prog.info? 23).map (·.size) = some (wA (mixL a b)).size by rw [wA_size, mixL_length]; exact info_state)
  have HZ := Lib.hid (show (wA zero8).size = (wA (mixL a b)).size by rw [wA_size, wA_size, mixL_length]; rfl)
  have HL := Lib.hid (And.intro ha hb)
  clear ha hb
  go_enter Try.func3, Try.ntmps3
  go_upto_region 1 with fail
  go_cut [5] (fun s5 wx => ∃ g : Nat, s5 = .pointer (some ⟨g, 0, none⟩) ∧ w.heap.size + 2 ≤ g ∧ Blk wx g 23 (wA (mixL a b)) ∧ Blk wx w.heap.size 23 (wA a) ∧ Blk wx (w.heap.size + 1) 24 (bA b) ∧ Up w wx)
  case first =>
    refine region_mono (m := 6) mixedOrders (by kernel_rfl) (by kernel_rfl)
      (fun | 0 => fun v _ => v = .agg (wA a) | 1 => fun v _ => v = .agg (wA a) | 2 => fun v _ => v = .agg (bA b) | 3 => fun v _ => v = .agg (bA b) | 4 => fun v _ => v = .agg (wA (mixL a b)) | 5 => fun v wx => ∃ gz : Nat, v = .pointer (some ⟨gz, 0, none⟩) ∧ w.heap.size + 2 ≤ gz ∧ Blk wx gz 23 (wA zero8) | _ => fun _ _ => True)
      (fun wx => Blk wx w.heap.size 23 (wA a) ∧ Blk wx (w.heap.size + 1) 24 (bA b) ∧ Up w wx) ?_ ?_ ?_ ?_ ?_
    · intro j hj v w1 w2 hb h
      match j, hj with
      | 0, _ => exact h
      | 1, _ => exact h
      | 2, _ => exact h
      | 3, _ => exact h
      | 4, _ => exact h
      | 5, _ => obtain ⟨g, h1, h2, h3⟩ := h; exact ⟨g, h1, h2, h3.up hb⟩
    · rintro w1 w2 hb ⟨g1, g2, g3⟩
      exact ⟨g1.up hb, g2.up hb, g3.up hb⟩
    · exact ⟨((Blk.top rfl).alloc _).drew, (Blk.top (by simp)).drew, (((Up.refl _).alloc _).alloc _).drew⟩
    · rintro i o hi ho av wv fr ⟨g1, g2, g3⟩ dep
      match i, hi with
      | 0, _ =>
        obtain rfl := Option.some.inj ho
        exact st_load_row rfl (fr.eval rfl) g1 Try.underlying23 rfl HSa.out rfl
      | 1, _ =>
        obtain rfl := Option.some.inj ho
        have d0 := dep ⟨0, .data⟩ (by simp) rfl
        exact st_call1 rfl (fun _ _ => by kernel_rfl) d0 (toUint32A8_c a HL.out.1 _) (fun e w' ⟨he, hb⟩ => ⟨_, he, hb, rfl⟩)
      | 2, _ =>
        obtain rfl := Option.some.inj ho
        exact st_load_row rfl (fr.eval rfl) g2 Try.underlying24 rfl HSb.out rfl
      | 3, _ =>
        obtain rfl := Option.some.inj ho
        have d0 := dep ⟨2, .data⟩ (by simp) rfl
        exact st_call1 rfl (fun _ _ => by kernel_rfl) d0 (toByteA32_c b HL.out.2 _) (fun e w' ⟨he, hb⟩ => ⟨_, he, hb, rfl⟩)
      | 4, _ =>
        obtain rfl := Option.some.inj ho
        have d0 := dep ⟨1, .data⟩ (by simp) rfl
        have d1 := dep ⟨3, .data⟩ (by simp) rfl
        exact st_call2 rfl (fun _ _ => by kernel_rfl) d0 d1 (specMixBlock_c a b HL.out.1 HL.out.2 _) (fun e w' ⟨he, hb⟩ => ⟨_, he, hb, rfl⟩)
      | 5, _ =>
        obtain rfl := Option.some.inj ho
        exact st_alloc rfl zero_state ⟨_, rfl, Nat.le_trans (Nat.succ_le_of_lt g2.lt) (Nat.le_refl _), Blk.top rfl⟩
    · rintro vs wv ⟨g1, g2, g3⟩ hf
      have f0 : vs 0 = .agg (wA a) := hf 0 (by omega)
      have f1 : vs 1 = .agg (wA a) := hf 1 (by omega)
      have f2 : vs 2 = .agg (bA b) := hf 2 (by omega)
      have f3 : vs 3 = .agg (bA b) := hf 3 (by omega)
      have f4 : vs 4 = .agg (wA (mixL a b)) := hf 4 (by omega)
      have f5 := hf 5 (by omega)
      obtain ⟨g, f5, hg, bg⟩ := f5
      simp only [putAll, Act.put, List.getElem?_toArray, List.getElem?_cons_zero, List.getElem?_cons_succ, Option.bind_some, List.setIfInBounds_toArray, List.set_cons_zero, List.set_cons_succ, f4, f5]
      refine wpList_store_row rfl 23 (.tmp 5) (.tmp 11) rfl g (wA (mixL a b)) rfl rfl 23 (wA zero8) bg HSx.out HZ.out (wA_one _) ?_
      go_wp2_with fail
      go_meet
      exact ⟨g, rfl, hg, bg.row _, g1.rowFar (by omega) _, g2.rowFar (by omega) _, g3.setRow (by omega) _⟩
  case rest =>
    obtain ⟨g, rfl, hg, bg, b0, b1, hbel⟩ := hcut
    have BB := Lib.hid (And.intro hg (And.intro bg (And.intro b0 (And.intro b1 hbel))))
    clear hg bg b0 b1 hbel
    go_upto_region 2 with fail
    go_cut [6] (fun s6 wx => ∃ h : Nat, s6 = .pointer (some ⟨h, 0, none⟩) ∧ Blk wx h 23 (wA (mixL a b)) ∧ Blk wx g 23 (wA (mixL a b)) ∧ Up w wx)
    case first =>
      obtain ⟨hg, bg, b0, b1, hbel⟩ := BB.out
      refine region_mono (m := 6) mixedOrders (by kernel_rfl) (by kernel_rfl)
        (fun | 0 => fun v _ => v = .agg (wA a) | 1 => fun v _ => v = .agg (wA a) | 2 => fun v _ => v = .agg (bA b) | 3 => fun v _ => v = .agg (bA b) | 4 => fun v _ => v = .agg (wA (mixL a b)) | 5 => fun v wx => ∃ gz : Nat, v = .pointer (some ⟨gz, 0, none⟩) ∧ g + 1 ≤ gz ∧ Blk wx gz 23 (wA zero8) | _ => fun _ _ => True)
        (fun wx => Blk wx w.heap.size 23 (wA a) ∧ Blk wx (w.heap.size + 1) 24 (bA b) ∧ Blk wx g 23 (wA (mixL a b)) ∧ Up w wx) ?_ ?_ ?_ ?_ ?_
      · intro j hj v w1 w2 hb h
        match j, hj with
        | 0, _ => exact h
        | 1, _ => exact h
        | 2, _ => exact h
        | 3, _ => exact h
        | 4, _ => exact h
        | 5, _ => obtain ⟨g, h1, h2, h3⟩ := h; exact ⟨g, h1, h2, h3.up hb⟩
      · rintro w1 w2 hb ⟨g1, g2, g4, g3⟩
        exact ⟨g1.up hb, g2.up hb, g4.up hb, g3.up hb⟩
      · exact ⟨b0.drew, b1.drew, bg.drew, hbel.drew⟩
      · rintro i o hi ho av wv fr ⟨g1, g2, g4, g3⟩ dep
        match i, hi with
        | 0, _ =>
          obtain rfl := Option.some.inj ho
          exact st_load_row rfl (fr.eval rfl) g1 Try.underlying23 rfl HSa.out rfl
        | 1, _ =>
          obtain rfl := Option.some.inj ho
          have d0 := dep ⟨0, .data⟩ (by simp) rfl
          exact st_call1 rfl (fun _ _ => by kernel_rfl) d0 (toUint32A8_c a HL.out.1 _) (fun e w' ⟨he, hb⟩ => ⟨_, he, hb, rfl⟩)
        | 2, _ =>
          obtain rfl := Option.some.inj ho
          exact st_load_row rfl (fr.eval rfl) g2 Try.underlying24 rfl HSb.out rfl
        | 3, _ =>
          obtain rfl := Option.some.inj ho
          have d0 := dep ⟨2, .data⟩ (by simp) rfl
          exact st_call1 rfl (fun _ _ => by kernel_rfl) d0 (toByteA32_c b HL.out.2 _) (fun e w' ⟨he, hb⟩ => ⟨_, he, hb, rfl⟩)
        | 4, _ =>
          obtain rfl := Option.some.inj ho
          have d0 := dep ⟨1, .data⟩ (by simp) rfl
          have d1 := dep ⟨3, .data⟩ (by simp) rfl
          exact st_call2 rfl (fun _ _ => by kernel_rfl) d0 d1 (implMixBlock_c a b HL.out.1 HL.out.2 _) (fun e w' ⟨he, hb⟩ => ⟨_, he, hb, rfl⟩)
        | 5, _ =>
          obtain rfl := Option.some.inj ho
          exact st_alloc rfl zero_state ⟨_, rfl, g4.lt, Blk.top rfl⟩
      · rintro vs wv ⟨g1, g2, g4, g3⟩ hf
        have f0 : vs 0 = .agg (wA a) := hf 0 (by omega)
        have f1 : vs 1 = .agg (wA a) := hf 1 (by omega)
        have f2 : vs 2 = .agg (bA b) := hf 2 (by omega)
        have f3 : vs 3 = .agg (bA b) := hf 3 (by omega)
        have f4 : vs 4 = .agg (wA (mixL a b)) := hf 4 (by omega)
        have f5 := hf 5 (by omega)
        obtain ⟨h, f5, hh, bh⟩ := f5
        simp only [putAll, Act.put, List.getElem?_toArray, List.getElem?_cons_zero, List.getElem?_cons_succ, Option.bind_some, List.setIfInBounds_toArray, List.set_cons_zero, List.set_cons_succ, f4, f5]
        refine wpList_store_row rfl 23 (.tmp 6) (.tmp 16) rfl h (wA (mixL a b)) rfl rfl 23 (wA zero8) bh HSx.out HZ.out (wA_one _) ?_
        go_wp2_with fail
        go_meet
        exact ⟨h, rfl, bh.row _, g4.rowFar (by omega) _, g3.setRow (by omega) _⟩
    case rest =>
      obtain ⟨h, rfl, bh, bg, hbel⟩ := hcut
      have HLx := Lib.hid (show (mixL a b).length = 8 from mixL_length a b)
      go_wp2_with (first
        | (refine wpList_load_row rfl 23 (.tmp 6) rfl _ rfl 23 (wA (mixL a b)) (0, 0) _ bh Try.underlying23 rfl HSx.out ?_)
        | (refine wpList_load_row rfl 23 (.tmp 5) rfl _ rfl 23 (wA (mixL a b)) (0, 0) _ bg Try.underlying23 rfl HSx.out ?_)
        | (go_at_call 19; (with_reducible refine (eqUint32A8_same (mixL a b) HLx.out _).mono ?_); rintro e w' ⟨rfl, hb1⟩))
      go_ret
      exact ⟨rfl, hbel.trans hb1⟩

end Go.Proofs.Ytkfmokpijkoidaa

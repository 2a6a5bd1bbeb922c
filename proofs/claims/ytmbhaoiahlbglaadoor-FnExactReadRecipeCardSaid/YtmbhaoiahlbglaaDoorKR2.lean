/- Walks: keys read from their texts, the program's own reader. -/
import Derived.Test.YtmbhaoiahlbglaaDoorKR
namespace Go.Proofs.YtmbhaoiahlbglaaDoor
open Go.RowKit
set_option linter.unusedVariables false
set_option linter.unusedSimpArgs false

set_option maxHeartbeats 1000000 in
set_option maxRecDepth 100000 in
theorem implReadKey_yes (s : ByteArray) (hs : s.size = 64) (hx : allHex s.data.toList = true) (w : World) :
    Calls Tryd.prog 20 #[.string s] w fun e w' => e = .returned (.tuple #[.agg (bA (readL s.data.toList)), .int .i64 0]) ∧ Up w w' := by
  have HS := Lib.hid (show (Tryd.prog.info? 37).map (·.size) = some (bA (readL s.data.toList)).size by rw [bA_size, readL_length]; exact info_key)
  have HZ := Lib.hid (show (bA zero32).size = (bA (readL s.data.toList)).size by rw [bA_size, bA_size, readL_length]; rfl)
  have g1 : ((s.size : Int) != 64) = false := by simp; omega
  have HX := Lib.hid hx
  have HN := Lib.hid hs
  clear hs hx
  go_enter Tryd.func20, Tryd.ntmps20
  have H0 := Lib.hid (show (Tryd.prog.info? 37).map (·.size) = some (bA zero32).size from info_key)
  go_wp2_with (first
    | (refine wpList_store_row rfl 37 (.tmp 4) (.tmp 15) rfl _ (bA zero32) rfl rfl 37 (bA zero32) (Blk.top (by simp) : Blk _ (w.heap.size + 1) _ _) (H0.out) (rfl) (bA_one _) ?_; rw [setRow_alloc_at]; rotate_left; (exact top_size _ _))
    | (go_at_call 35; (with_reducible refine (isDigits_c s (by rw [HN.out]; omega) _).mono ?_); rintro e w' ⟨rfl, rfl⟩; rw [HX.out]))
  go_loopg [16] 32 (fun n i wr => ∃ k : Nat, k + n = 32 ∧ i = .int .i64 k ∧ Blk wr w.heap.size 37 (bA zero32) ∧ Blk wr (w.heap.size + 1) 37 (bA (fillTo (fullB s.data.toList) k 32 0)) ∧ Up w wr)
  case atStart => exact ⟨0, by omega, rfl, (Blk.top rfl).alloc _, Blk.top (by simp), ((Up.refl _).alloc _).alloc _⟩
  case round =>
    obtain ⟨k, hk, rfl, b0, b1, hbel⟩ := hrel
    by_cases hlt : k < 32
    · have hs := HN.out
      have x0 := allHex_at _ HX.out (2 * k) (by show 2 * k < s.size; omega)
      have x1 := allHex_at _ HX.out (2 * k + 1) (by show 2 * k + 1 < s.size; omega)
      have y0 := hv_bd (bt s.data.toList (2 * k))
      have y1 := hv_bd (bt s.data.toList (2 * k + 1))
      have HB := fullB_int s.data.toList k x0 x1
      have BA := Lib.hid (And.intro b0 (And.intro b1 hbel))
      have HK := Lib.hid hk
      clear b0 b1 hbel hk hs
      go_wp2_with fail
      refine region_mono (m := 15) mixedOrders (by kernel_rfl) (by kernel_rfl)
        (fun | 0 => fun vq _ => vq = .int .i64 k | 1 => fun vq _ => vq = .string s | 2 => fun vq _ => vq = .int .i64 k | 3 => fun vq _ => vq = .int .i64 (2 * (k : Int)) | 4 => fun vq _ => vq = .int .u8 ((bt s.data.toList (2 * k)).toNat : Int) | 5 => fun vq _ => vq = .int .i64 (hv (bt s.data.toList (2 * k))) | 6 => fun vq _ => vq = .int .i64 (16 * hv (bt s.data.toList (2 * k))) | 7 => fun vq _ => vq = .string s | 8 => fun vq _ => vq = .int .i64 k | 9 => fun vq _ => vq = .int .i64 (2 * (k : Int)) | 10 => fun vq _ => vq = .int .i64 (2 * (k : Int) + 1) | 11 => fun vq _ => vq = .int .u8 ((bt s.data.toList (2 * k + 1)).toNat : Int) | 12 => fun vq _ => vq = .int .i64 (hv (bt s.data.toList (2 * k + 1))) | 13 => fun vq _ => vq = .int .i64 (16 * hv (bt s.data.toList (2 * k)) + hv (bt s.data.toList (2 * k + 1))) | 14 => fun vq _ => vq = .int .u8 ((fullB s.data.toList k).toNat : Int) | _ => fun _ _ => True)
        (fun wx => Blk wx w.heap.size 37 (bA zero32) ∧ Blk wx (w.heap.size + 1) 37 (bA (fillTo (fullB s.data.toList) k 32 0)) ∧ Up w wx) ?_ ?_ ?_ ?_ ?_
      · intro j hj v w1 w2 hb h
        match j, hj with
        | 0, _ => exact h
        | 1, _ => exact h
        | 2, _ => exact h
        | 3, _ => exact h
        | 4, _ => exact h
        | 5, _ => exact h
        | 6, _ => exact h
        | 7, _ => exact h
        | 8, _ => exact h
        | 9, _ => exact h
        | 10, _ => exact h
        | 11, _ => exact h
        | 12, _ => exact h
        | 13, _ => exact h
        | 14, _ => exact h
      · rintro w1 w2 hb ⟨b0, b1, hbel⟩
        exact ⟨b0.up hb, b1.up hb, hbel.up hb⟩
      · exact ⟨BA.out.1.drew, BA.out.2.1.drew, BA.out.2.2.drew⟩
      · rintro i o hi ho av wv fr ⟨b0, b1, hbel⟩ dep
        match i, hi with
        | 0, _ =>
          obtain rfl := Option.some.inj ho
          exact st_mov rfl (fr.eval rfl) rfl
        | 1, _ =>
          obtain rfl := Option.some.inj ho
          exact st_mov rfl (fr.eval rfl) rfl
        | 2, _ =>
          obtain rfl := Option.some.inj ho
          exact st_mov rfl (fr.eval rfl) rfl
        | 3, _ =>
          obtain rfl := Option.some.inj ho
          have d1 := dep ⟨2, .data⟩ (by simp) rfl
          exact st_bin rfl (rfl) d1 (bin_mul _ _ _ (i64_in_ _ (by omega)) _ _ _) rfl
        | 4, _ =>
          obtain rfl := Option.some.inj ho
          have d0 := dep ⟨1, .data⟩ (by simp) rfl
          have d1 := dep ⟨3, .data⟩ (by simp) rfl
          exact st_index rfl d0 d1 (str_ix s _ (2 * k) (by simp) (by rw [HN.out]; omega) _) rfl
        | 5, _ =>
          obtain rfl := Option.some.inj ho
          have d1 := dep ⟨4, .data⟩ (by simp) rfl
          exact st_call2 rfl (fun _ _ => by kernel_rfl) (rfl) d1 (hexIndex_c _ _) (fun e w' ⟨he, hb⟩ => ⟨_, he, hb ▸ Below.refl _ _, rfl⟩)
        | 6, _ =>
          obtain rfl := Option.some.inj ho
          have d1 := dep ⟨5, .data⟩ (by simp) rfl
          exact st_bin rfl (rfl) d1 (bin_mul _ _ _ (i64_in_ _ (by omega)) _ _ _) rfl
        | 7, _ =>
          obtain rfl := Option.some.inj ho
          exact st_mov rfl (fr.eval rfl) rfl
        | 8, _ =>
          obtain rfl := Option.some.inj ho
          exact st_mov rfl (fr.eval rfl) rfl
        | 9, _ =>
          obtain rfl := Option.some.inj ho
          have d1 := dep ⟨8, .data⟩ (by simp) rfl
          exact st_bin rfl (rfl) d1 (bin_mul _ _ _ (i64_in_ _ (by omega)) _ _ _) rfl
        | 10, _ =>
          obtain rfl := Option.some.inj ho
          have d0 := dep ⟨9, .data⟩ (by simp) rfl
          exact st_bin rfl d0 (rfl) (bin_add _ _ _ (i64_in_ _ (by omega)) _ _ _) rfl
        | 11, _ =>
          obtain rfl := Option.some.inj ho
          have d0 := dep ⟨7, .data⟩ (by simp) rfl
          have d1 := dep ⟨10, .data⟩ (by simp) rfl
          exact st_index rfl d0 d1 (str_ix s _ (2 * k + 1) (by simp) (by rw [HN.out]; omega) _) rfl
        | 12, _ =>
          obtain rfl := Option.some.inj ho
          have d1 := dep ⟨11, .data⟩ (by simp) rfl
          exact st_call2 rfl (fun _ _ => by kernel_rfl) (rfl) d1 (hexIndex_c _ _) (fun e w' ⟨he, hb⟩ => ⟨_, he, hb ▸ Below.refl _ _, rfl⟩)
        | 13, _ =>
          obtain rfl := Option.some.inj ho
          have d0 := dep ⟨6, .data⟩ (by simp) rfl
          have d1 := dep ⟨12, .data⟩ (by simp) rfl
          exact st_bin rfl d0 d1 (bin_add _ _ _ (i64_in_ _ (by omega)) _ _ _) rfl
        | 14, _ =>
          obtain rfl := Option.some.inj ho
          have d0 := dep ⟨13, .data⟩ (by simp) rfl
          exact st_convert rfl d0 (conv_u8 _ _ (by rw [HB]) _) rfl
      · rintro vs wv ⟨b0, b1, hbel⟩ hf
        have f0 : vs 0 = .int .i64 k := hf 0 (by omega)
        have f1 : vs 1 = .string s := hf 1 (by omega)
        have f2 : vs 2 = .int .i64 k := hf 2 (by omega)
        have f3 : vs 3 = .int .i64 (2 * (k : Int)) := hf 3 (by omega)
        have f4 : vs 4 = .int .u8 ((bt s.data.toList (2 * k)).toNat : Int) := hf 4 (by omega)
        have f5 : vs 5 = .int .i64 (hv (bt s.data.toList (2 * k))) := hf 5 (by omega)
        have f6 : vs 6 = .int .i64 (16 * hv (bt s.data.toList (2 * k))) := hf 6 (by omega)
        have f7 : vs 7 = .string s := hf 7 (by omega)
        have f8 : vs 8 = .int .i64 k := hf 8 (by omega)
        have f9 : vs 9 = .int .i64 (2 * (k : Int)) := hf 9 (by omega)
        have f10 : vs 10 = .int .i64 (2 * (k : Int) + 1) := hf 10 (by omega)
        have f11 : vs 11 = .int .u8 ((bt s.data.toList (2 * k + 1)).toNat : Int) := hf 11 (by omega)
        have f12 : vs 12 = .int .i64 (hv (bt s.data.toList (2 * k + 1))) := hf 12 (by omega)
        have f13 : vs 13 = .int .i64 (16 * hv (bt s.data.toList (2 * k)) + hv (bt s.data.toList (2 * k + 1))) := hf 13 (by omega)
        have f14 : vs 14 = .int .u8 ((fullB s.data.toList k).toNat : Int) := hf 14 (by omega)
        simp only [putAll, Act.put, List.getElem?_toArray, List.getElem?_cons_zero, List.getElem?_cons_succ, Option.bind_some, List.setIfInBounds_toArray, List.set_cons_zero, List.set_cons_succ, List.drop_succ_cons, List.drop_zero, List.drop_nil, f0, f1, f2, f3, f4, f5, f6, f7, f8, f9, f10, f11, f12, f13, f14]
        have c1 := b1.cell_ (bA_at (fillTo (fullB s.data.toList) k 32 0) k (by rw [fill_length]; omega))
        have f1 := b1.free k
        have BA2 := Lib.hid (And.intro b0 (And.intro b1 hbel))
        clear b0 b1 hbel BA f0 f2 f3 f4 f5 f6 f7 f8 f9 f10 f11 f12 f13 f14 hf
        go_wp2_with fail
        obtain ⟨b0, b1, hbel⟩ := BA2.out
        have hk := HK.out
        go_roundg (gk - 1)
        case measure => omega
        case rel =>
          refine ⟨k + 1, by omega, by go_num, b0.far (by simp) _, ?_, hbel.setCell (by simp) _⟩
          rw [← fill_set (fullB s.data.toList) k 32 0, ← bA_set, HB]
          exact b1.set_ k _
    · obtain rfl : k = 32 := by omega
      clear hk
      rw [fill_full] at b1
      have BA := Lib.hid (And.intro b0 (And.intro b1 hbel))
      clear b0 b1 hbel
      go_wp2_with (first
        | (refine wpList_load_row rfl 37 (.tmp 4) rfl _ rfl 37 (bA (readL s.data.toList)) (0, 0) _ (BA.out.2.1) Tryd.underlying37 rfl (HS.out) ?_)
        | (refine wpList_store_row rfl 37 (.tmp 2) (.tmp 36) rfl _ (bA (readL s.data.toList)) rfl rfl 37 (bA zero32) (BA.out.1) (HS.out) (HZ.out) (bA_one _) ?_))
      refine bodyPost_ret (results_row_tmp rfl _ _ _ 37 (bA (readL s.data.toList)) (0, 0) _ rfl (BA.out.1.row _) Tryd.underlying37 rfl HS.out) rfl ⟨rfl, BA.out.2.2.setRow (by omega) _⟩

set_option maxHeartbeats 400000 in
theorem implReadKey_no (s : ByteArray) (hs : s.size ≤ 1048576) (hx : s.size = 64 → allHex s.data.toList = false) (w : World) :
    Calls Tryd.prog 20 #[.string s] w fun e w' => e = .returned (.tuple #[.agg (bA zero32), .int .i64 5]) ∧ Up w w' := by
  have H0 := Lib.hid (show (Tryd.prog.info? 37).map (·.size) = some (bA zero32).size from info_key)
  have HL := Lib.hid hs
  by_cases h64 : s.size = 64
  · have HX := Lib.hid (hx h64)
    have g1 : ((s.size : Int) != 64) = false := by simp; omega
    clear hx h64 hs
    go_enter Tryd.func20, Tryd.ntmps20
    go_wp2_with (first
      | (refine wpList_store_row rfl 37 (.tmp 2) (.tmp 14) rfl _ (bA zero32) rfl rfl 37 (bA zero32) (Blk.top rfl) (H0.out) (rfl) (bA_one _) ?_; rw [World.setRow_alloc_new])
      | (go_at_call 35; (with_reducible refine (isDigits_c s HL.out _).mono ?_); rintro e w' ⟨rfl, rfl⟩; rw [HX.out]))
    refine bodyPost_ret (results_row_tmp rfl _ _ _ 37 (bA zero32) (0, 0) _ rfl (Blk.top rfl) Tryd.underlying37 rfl H0.out) rfl ⟨rfl, (Up.refl _).alloc _⟩
  · have g1 : ((s.size : Int) != 64) = true := by simp; omega
    clear hx h64 hs
    go_enter Tryd.func20, Tryd.ntmps20
    go_wp2_with (first
      | (refine wpList_store_row rfl 37 (.tmp 2) (.tmp 14) rfl _ (bA zero32) rfl rfl 37 (bA zero32) (Blk.top rfl) (H0.out) (rfl) (bA_one _) ?_; rw [World.setRow_alloc_new]))
    refine bodyPost_ret (results_row_tmp rfl _ _ _ 37 (bA zero32) (0, 0) _ rfl (Blk.top rfl) Tryd.underlying37 rfl H0.out) rfl ⟨rfl, (Up.refl _).alloc _⟩

end Go.Proofs.YtmbhaoiahlbglaaDoor

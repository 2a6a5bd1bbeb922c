/- Walks: keys read from their texts, the reference reader. -/
import Derived.Test.YtmbhaoiahlbglaaDoorKR2
namespace Go.Proofs.YtmbhaoiahlbglaaDoor
open Go.RowKit
set_option linter.unusedVariables false
set_option linter.unusedSimpArgs false

/-- The key's byte when i digits have been read. -/
def halfB (l : List UInt8) (i j : Nat) : UInt8 := if 2 * j + 1 < i then fullB l j else if 2 * j < i then UInt8.ofNat (hv (bt l (2 * j))).toNat else 0
def halfL (l : List UInt8) (i : Nat) : List UInt8 := (List.range 32).map (halfB l i)
theorem halfL_length (l : List UInt8) (i : Nat) : (halfL l i).length = 32 := by simp [halfL]
theorem halfL_at (l : List UInt8) (i j : Nat) (h : j < 32) : bt (halfL l i) j = halfB l i j := by
  rw [bt_eq _ _ (by rw [halfL_length]; exact h)]
  simp [halfL]
theorem halfL_zero (l : List UInt8) : halfL l 0 = zero32 := by
  simp [halfL, halfB, zero32]
  rfl
theorem halfL_full (l : List UInt8) : halfL l 64 = readL l := by
  unfold halfL readL
  apply List.map_congr_left
  intro j hj
  simp at hj
  simp [halfB]
  omega
theorem halfB_int (l : List UInt8) (i : Nat) (hi : i < 64) (h : ∀ m, m < i → 0 ≤ hv (bt l m)) (h1 : 0 ≤ hv (bt l i)) :
    ((halfB l i (i / 2)).toNat : Int) * 16 + hv (bt l i) = ((halfB l (i + 1) (i / 2)).toNat : Int) ∧ (halfB l i (i / 2)).toNat ≤ 15 := by
  have b1 := hv_bd (bt l i)
  by_cases he : i % 2 = 0
  · have e : 2 * (i / 2) = i := by omega
    have x0 : halfB l i (i / 2) = 0 := by
      unfold halfB
      rw [if_neg (by omega), if_neg (by omega)]
    have x1 : halfB l (i + 1) (i / 2) = UInt8.ofNat (hv (bt l i)).toNat := by
      unfold halfB
      rw [if_neg (by omega), if_pos (by omega), e]
    rw [x0, x1]
    simp only [UInt8.toNat_ofNat']
    constructor
    · simp
      omega
    · simp
  · have e : 2 * (i / 2) + 1 = i := by omega
    have h0 := h (2 * (i / 2)) (by omega)
    have b0 := hv_bd (bt l (2 * (i / 2)))
    have x0 : halfB l i (i / 2) = UInt8.ofNat (hv (bt l (2 * (i / 2)))).toNat := by
      unfold halfB
      rw [if_neg (by omega), if_pos (by omega)]
    have x1 : halfB l (i + 1) (i / 2) = fullB l (i / 2) := by
      unfold halfB
      rw [if_pos (by omega)]
    rw [x0, x1, fullB_int l (i / 2) h0 (by rw [e]; exact h1), e]
    simp only [UInt8.toNat_ofNat']
    omega
theorem halfL_set (l : List UInt8) (i : Nat) (hi : i < 64) : (halfL l i).set (i / 2) (halfB l (i + 1) (i / 2)) = halfL l (i + 1) := by
  apply List.ext_getElem?
  intro j
  simp only [halfL, List.getElem?_set, List.length_map, List.length_range, List.getElem?_map]
  by_cases h : i / 2 = j
  · subst h
    rw [if_pos rfl, if_pos (by omega), List.getElem?_range (by omega)]
    rfl
  · rw [if_neg h]
    by_cases hj : j < 32
    · rw [List.getElem?_range hj]
      simp only [Option.map_some]
      congr 1
      unfold halfB
      by_cases h1 : 2 * j + 1 < i
      · rw [if_pos h1, if_pos (by omega)]
      · rw [if_neg h1, if_neg (show ¬ 2 * j + 1 < i + 1 by omega)]
        by_cases h2 : 2 * j < i
        · rw [if_pos h2, if_pos (by omega)]
        · rw [if_neg h2, if_neg (by omega)]
    · rw [List.getElem?_eq_none (by simp; omega)]
      rfl
/-- What the reader tells. -/
def readV (l : List UInt8) : Value := if allHex l then .tuple #[.agg (bA (readL l)), .bool true] else .tuple #[.agg (bA zero32), .bool false]

set_option maxHeartbeats 1000000 in
set_option maxRecDepth 100000 in
theorem l01Read_c (s : ByteArray) (hs : s.size = 64) (w : World) :
    Calls Tryd.prog 15 #[.string s] w fun e w' => e = .returned (readV s.data.toList) ∧ Up w w' := by
  have H0 := Lib.hid (show (Tryd.prog.info? 37).map (·.size) = some (bA zero32).size from info_key)
  have HS := Lib.hid (show (Tryd.prog.info? 37).map (·.size) = some (bA (readL s.data.toList)).size by rw [bA_size, readL_length]; exact info_key)
  have HZ := Lib.hid (show (bA zero32).size = (bA (readL s.data.toList)).size by rw [bA_size, bA_size, readL_length]; rfl)
  have g1 : ((s.size : Int) != 64) = false := by simp; omega
  have HN := Lib.hid hs
  clear hs
  go_enter Tryd.func15, Tryd.ntmps15
  go_wp2_with (first
    | (refine wpList_store_row rfl 37 (.tmp 4) (.tmp 8) rfl _ (bA zero32) rfl rfl 37 (bA zero32) (Blk.top (by simp) : Blk _ (w.heap.size + 1) _ _) (H0.out) (rfl) (bA_one _) ?_; rw [setRow_alloc_at]; rotate_left; (exact top_size _ _)))
  go_loopg [5] 64 (fun n i wr => ∃ k : Nat, k + n = 64 ∧ i = .int .i64 k ∧ (∀ m, m < k → 0 ≤ hv (bt s.data.toList m)) ∧ Blk wr w.heap.size 37 (bA zero32) ∧ Blk wr (w.heap.size + 1) 37 (bA (halfL s.data.toList k)) ∧ Up w wr)
  case atStart => exact ⟨0, by omega, rfl, fun m hm => absurd hm (by omega), (Blk.top rfl).alloc _, by rw [halfL_zero]; exact Blk.top (by simp), ((Up.refl _).alloc _).alloc _⟩
  case round =>
    obtain ⟨k, hk, rfl, hall, b0, b1, hbel⟩ := hrel
    by_cases hlt : k < 64
    · by_cases hx : 0 ≤ hv (bt s.data.toList k)
      · have c1 := b1.cell_ (bA_at (halfL s.data.toList k) (k / 2) (by rw [halfL_length]; omega))
        rw [halfL_at _ _ _ (by omega)] at c1
        have f1 := b1.free (k / 2)
        obtain ⟨e1, e2⟩ := halfB_int s.data.toList k hlt hall hx
        have HX := Lib.hid (And.intro hx hall)
        have y1 := hv_bd (bt s.data.toList k)
        have E1 := Lib.hid e1
        have BA := Lib.hid (And.intro b0 (And.intro b1 hbel))
        have HK := Lib.hid hk
        have hss := HN.out
        have ix := fun w => str_ix s k k rfl (by omega) w
        clear b0 b1 hbel hk hall hss e1
        go_wp2_with (first | rw [ix] | (go_at_call 29; (with_reducible refine (l01Hex_yes (bt s.data.toList k) HX.out.1 _).mono ?_); rintro e w' ⟨rfl, rfl⟩))
        obtain ⟨b0, b1, hbel⟩ := BA.out
        have hk := HK.out
        go_roundg (gk - 1)
        case measure => omega
        case rel =>
          refine ⟨k + 1, by omega, by go_num, fun m hm => ?_, b0.far (by simp) _, ?_, hbel.setCell (by simp) _⟩
          · by_cases hmk : m = k
            · exact hmk ▸ HX.out.1
            · exact HX.out.2 m (by omega)
          · rw [← halfL_set s.data.toList k hlt, ← bA_set, E1.out]
            exact b1.set_ (k / 2) _
      · have hss := HN.out
        have ix := fun w => str_ix s k k rfl (by omega) w
        have HV := Lib.hid (show readV s.data.toList = .tuple #[.agg (bA zero32), .bool false] by
          unfold readV
          rw [if_neg]
          intro ha
          exact hx (allHex_at _ ha k (by show k < s.size; omega)))
        have HX := Lib.hid (show hv (bt s.data.toList k) < 0 by omega)
        have BA := Lib.hid (And.intro b0 (And.intro b1 hbel))
        clear b0 b1 hbel hk hall hss hx
        go_wp2_with (first
          | rw [ix]
          | (go_at_call 29; (with_reducible refine (l01Hex_no (bt s.data.toList k) HX.out _).mono ?_); rintro e w' ⟨rfl, rfl⟩)
          | (refine wpList_store_row rfl 37 (.tmp 2) (.tmp 26) rfl _ (bA zero32) rfl rfl 37 (bA zero32) (BA.out.1) (H0.out) (rfl) (bA_one _) ?_))
        refine bodyPost_ret (results_row_tmp rfl _ _ _ 37 (bA zero32) (0, 0) _ rfl (BA.out.1.row _) Tryd.underlying37 rfl H0.out) rfl ⟨by rw [HV.out]; rfl, BA.out.2.2.setRow (by omega) _⟩
    · obtain rfl : k = 64 := by omega
      clear hk
      rw [halfL_full] at b1
      have HV := Lib.hid (show readV s.data.toList = .tuple #[.agg (bA (readL s.data.toList)), .bool true] by
        unfold readV
        rw [if_pos]
        refine List.all_eq_true.2 fun x hx => ?_
        obtain ⟨m, hm, rfl⟩ := List.getElem_of_mem hx
        have hss := HN.out
        have := hall m (by have : m < s.size := hm; omega)
        rw [bt_eq _ _ hm] at this
        simpa using this)
      have BA := Lib.hid (And.intro b0 (And.intro b1 hbel))
      clear b0 b1 hbel hall
      go_wp2_with (first
        | (refine wpList_load_row rfl 37 (.tmp 4) rfl _ rfl 37 (bA (readL s.data.toList)) (0, 0) _ (BA.out.2.1) Tryd.underlying37 rfl (HS.out) ?_)
        | (refine wpList_store_row rfl 37 (.tmp 2) (.tmp 37) rfl _ (bA (readL s.data.toList)) rfl rfl 37 (bA zero32) (BA.out.1) (HS.out) (HZ.out) (bA_one _) ?_))
      refine bodyPost_ret (results_row_tmp rfl _ _ _ 37 (bA (readL s.data.toList)) (0, 0) _ rfl (BA.out.1.row _) Tryd.underlying37 rfl HS.out) rfl ⟨by rw [HV.out]; rfl, BA.out.2.2.setRow (by omega) _⟩

set_option maxHeartbeats 400000 in
theorem l01Read_short (s : ByteArray) (hs : s.size ≠ 64) (hs2 : s.size ≤ 1048576) (w : World) :
    Calls Tryd.prog 15 #[.string s] w fun e w' => e = .returned (.tuple #[.agg (bA zero32), .bool false]) ∧ Up w w' := by
  have H0 := Lib.hid (show (Tryd.prog.info? 37).map (·.size) = some (bA zero32).size from info_key)
  have g1 : ((s.size : Int) != 64) = true := by simp; omega
  clear hs
  go_enter Tryd.func15, Tryd.ntmps15
  go_wp2_with (first
    | (refine wpList_store_row rfl 37 (.tmp 4) (.tmp 8) rfl _ (bA zero32) rfl rfl 37 (bA zero32) (Blk.top (by simp) : Blk _ (w.heap.size + 1) _ _) (H0.out) (rfl) (bA_one _) ?_; rw [setRow_alloc_at]; rotate_left; (exact top_size _ _))
    | (refine wpList_load_row rfl 37 (.tmp 4) rfl _ rfl 37 (bA zero32) (0, 0) _ ((Blk.top (by simp) : Blk _ (w.heap.size + 1) _ _)) Tryd.underlying37 rfl (H0.out) ?_)
    | (refine wpList_store_row rfl 37 (.tmp 2) (.tmp 12) rfl _ (bA zero32) rfl rfl 37 (bA zero32) ((Blk.top rfl).alloc _) (H0.out) (rfl) (bA_one _) ?_))
  refine bodyPost_ret (results_row_tmp rfl _ _ _ 37 (bA zero32) (0, 0) _ rfl (((Blk.top rfl).alloc _).row _) Tryd.underlying37 rfl H0.out) rfl ⟨rfl, (((Up.refl _).alloc _).alloc _).setRow (by omega) _⟩

end Go.Proofs.YtmbhaoiahlbglaaDoor

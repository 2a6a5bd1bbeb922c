/- Walks: toKey. -/
import Derived.Test.YtmbhaoiahlbglaaDoorRows
import Derived.Test.YtmbhaoiahlbglaaDoorBase
namespace Go.Proofs.YtmbhaoiahlbglaaDoor
open Go.RowKit
set_option linter.unusedVariables false
set_option linter.unusedSimpArgs false

theorem info_key : (Tryd.prog.info? 37).map (·.size) = some 32 := by kernel_rfl
theorem info_u8 : (Tryd.prog.info? 5).map (·.size) = some 1 := by kernel_rfl
def zero32 : List UInt8 := List.replicate 32 0

set_option maxHeartbeats 400000 in
set_option maxRecDepth 100000 in
theorem toKey_c (l : List UInt8) (hl : l.length = 32) (w : World) :
    Calls Tryd.prog 48 #[.agg (bA l)] w fun e w' => e = .returned (.agg (bA l)) ∧ Up w w' := by
  have HS := Lib.hid (show (Tryd.prog.info? 37).map (·.size) = some (bA l).size by rw [bA_size, hl]; exact info_key)
  have HL := Lib.hid hl
  clear hl
  go_enter Tryd.func48, Tryd.ntmps48
  go_wp2
  go_loopg [4] 32 (fun n i wr => ∃ k : Nat, k + n = 32 ∧ i = .int .i64 k ∧ Blk wr w.heap.size 36 (bA l) ∧ Blk wr (w.heap.size + 1) 37 (bA zero32) ∧ Blk wr (w.heap.size + 1 + 1) 37 (bA (fillTo (bt l) k 32 0)) ∧ Up w wr)
  case atStart =>
    exact ⟨0, by omega, rfl, ((Blk.top rfl).alloc _).alloc _, (Blk.top (by simp)).alloc _, Blk.top (by simp), (((Up.refl _).alloc _).alloc _).alloc _⟩
  case round =>
    obtain ⟨k, hk, rfl, b0, b1, b2, hbel⟩ := hrel
    have hl := HL.out
    by_cases hlt : k < 32
    · have c0 := b0.cell_ (bA_at l k (by omega))
      have c2 := b2.cell_ (bA_at (fillTo (bt l) k 32 0) k (by rw [fill_length]; omega))
      have f2 := b2.free k
      have BA := Lib.hid (And.intro b0 (And.intro b1 (And.intro b2 hbel)))
      have HK := Lib.hid hk
      clear b0 b1 b2 hbel hl hk
      go_wp2
      obtain ⟨b0, b1, b2, hbel⟩ := BA.out
      have hk := HK.out
      go_roundg (gk - 1)
      case measure => omega
      case rel =>
        refine ⟨k + 1, by omega, by go_num, b0.far (by simp; omega) _, b1.far (by simp) _, ?_, hbel.setCell (by simp; omega) _⟩
        rw [← fill_set (bt l) k 32 0, ← bA_set]
        exact b2.set_ k _
    · obtain rfl : k = 32 := by omega
      clear hk
      rw [fill_full, map_bt l 32 hl] at b2
      clear hl
      go_wp2_with (first
        | (refine wpList_load_row rfl 37 (.tmp 3) rfl _ rfl 37 (bA l) (0, 0) _ b2 Tryd.underlying37 rfl HS.out ?_)
        | (refine wpList_store_row rfl 37 (.tmp 2) (.tmp 14) rfl _ (bA l) rfl rfl 37 (bA zero32) b1 HS.out ?_ (bA_one l) ?_; · rw [bA_size, bA_size, HL.out]; rfl))
      refine bodyPost_ret (results_cell_row rfl _ _ _ 37 (bA l) (0, 0) _ rfl (b1.row _) Tryd.underlying37 rfl HS.out) rfl ⟨rfl, hbel.setRow (by omega) _⟩

set_option maxHeartbeats 400000 in
set_option maxRecDepth 100000 in
theorem eqKey_c (a b : List UInt8) (ha : a.length = 32) (hb : b.length = 32) (w : World) :
    Calls Tryd.prog 46 #[.agg (bA a), .agg (bA b)] w fun e w' => e = .returned (.bool (decide (a = b))) ∧ Up w w' := by
  have HL := Lib.hid (And.intro ha hb)
  clear ha hb
  go_enter Tryd.func46, Tryd.ntmps46
  go_wp2
  go_loopg [5] 32 (fun n i wr => ∃ k : Nat, k + n = 32 ∧ i = .int .i64 k ∧ a.take k = b.take k ∧ Blk wr w.heap.size 37 (bA a) ∧ Blk wr (w.heap.size + 1) 37 (bA b) ∧ Up w wr)
  case atStart =>
    refine ⟨0, by omega, rfl, by simp, ?_, Blk.top (by simp), ?_⟩
    · exact ((Blk.top rfl).alloc _)
    · exact (((Up.refl _).alloc _).alloc _)
  case round =>
    obtain ⟨k, hk, rfl, he, b0, b1, hbel⟩ := hrel
    obtain ⟨ha, hb⟩ := HL.out
    by_cases hlt : k < 32
    · have c0 := b0.cell_ (bA_at a k (by omega))
      have c1 := b1.cell_ (bA_at b k (by omega))
      have BA := Lib.hid (And.intro he (And.intro b0 (And.intro b1 hbel)))
      have HK := Lib.hid hk
      clear b0 b1 hbel ha hb hk he
      by_cases hx : bt a k = bt b k
      · have hx1 : (((bt a k).toNat : Int) != ((bt b k).toNat : Int)) = false := by simp [hx]
        have HX := Lib.hid hx
        clear hx
        go_wp2
        go_quiet (fail)
        go_wp2
        obtain ⟨he, b0, b1, hbel⟩ := BA.out
        obtain ⟨ha, hb⟩ := HL.out
        have hk := HK.out
        go_roundg (gk - 1)
        case measure => omega
        case rel => exact ⟨k + 1, by omega, by go_num, take_bt a b k (by omega) (by omega) he HX.out, b0.drewN _, b1.drewN _, hbel.drewN _⟩
      · have hx1 : (((bt a k).toNat : Int) != ((bt b k).toNat : Int)) = true := by
          simp only [bne_iff_ne, ne_eq, Int.natCast_inj, UInt8.toNat_inj]
          exact hx
        have HX := Lib.hid hx
        clear hx
        go_wp2
        go_quiet (fail)
        go_wp2
        go_ret
        obtain ⟨he, b0, b1, hbel⟩ := BA.out
        exact ⟨by simp [ne_bt HX.out], hbel.drewN _⟩
    · obtain rfl : k = 32 := by omega
      rw [List.take_of_length_le (by omega), List.take_of_length_le (by omega)] at he
      have HE := Lib.hid he
      clear hk ha hb he
      go_wp2
      go_ret
      exact ⟨by simp [HE.out], hbel⟩

theorem eqKey_same (a : List UInt8) (ha : a.length = 32) (w : World) :
    Calls Tryd.prog 46 #[.agg (bA a), .agg (bA a)] w fun e w' => e = .returned (.bool true) ∧ Up w w' :=
  (eqKey_c a a ha ha w).mono fun e w' ⟨he, hb⟩ => ⟨by rw [he]; simp, hb⟩

end Go.Proofs.YtmbhaoiahlbglaaDoor

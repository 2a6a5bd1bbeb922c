/- Walks: states of eight words. -/
import Derived.Test.YtmbhaoiahlbglaaRows
import Derived.Test.YtmbhaoiahlbglaaBase
namespace Go.Proofs.Ytmbhaoiahlbglaa
open Go.RowKit
set_option linter.unusedVariables false
set_option linter.unusedSimpArgs false

theorem info_state : (Try.prog.info? 134).map (·.size) = some 8 := by kernel_rfl
theorem info_u32 : (Try.prog.info? 133).map (·.size) = some 1 := by kernel_rfl
def zero8 : List UInt32 := List.replicate 8 0
theorem zero_state (w : World) : (zeroValue 134).run Try.prog w = .ok (.agg (wA zero8)) w := by kernel_rfl
/-- The i-th word of the state of a tag. -/
def startW (tag : UInt8) (i : Nat) : UInt32 := UInt32.ofNat (16777619 * (i + 1) + tag.toNat)
def startL (tag : UInt8) : List UInt32 := (List.range 8).map (startW tag)
theorem startL_length (tag : UInt8) : (startL tag).length = 8 := by simp [startL]

theorem startW_int (tag : UInt8) (k : Nat) (hk : k < 8) : ((startW tag k).toNat : Int) = 16777619 * ((k : Int) + 1) + (tag.toNat : Int) := by
  have := tag.toNat_lt
  simp only [startW, UInt32.toNat_ofNat']
  omega

set_option maxHeartbeats 400000 in
set_option maxRecDepth 100000 in
theorem specl01Start_c (tag : UInt8) (w : World) :
    Calls Try.prog 132 #[.int .u8 (tag.toNat : Int)] w fun e w' => e = .returned (.agg (wA (startL tag))) ∧ Up w w' := by
  go_enter Try.func132, Try.ntmps132
  go_wp2
  go_loopg [4] 8 (fun n i wr => ∃ k : Nat, k + n = 8 ∧ i = .int .i64 k ∧ Blk wr w.heap.size 134 (wA zero8) ∧ Blk wr (w.heap.size + 1) 134 (wA (fillTo (startW tag) k 8 0)) ∧ Up w wr)
  case atStart =>
    refine ⟨0, by omega, rfl, (Blk.top rfl).alloc _, Blk.top (by simp), ((Up.refl _).alloc _).alloc _⟩
  case round =>
    obtain ⟨k, hk, rfl, b0, b1, hbel⟩ := hrel
    by_cases hlt : k < 8
    · have c1 := b1.cell_ (wA_at (fillTo (startW tag) k 8 0) k (by rw [fill_length]; omega))
      have f1 := b1.free k
      have BA := Lib.hid (And.intro b0 (And.intro b1 hbel))
      have HK := Lib.hid hk
      clear b0 b1 hbel hk
      have hb := byte_bd tag
      go_wp2
      obtain ⟨b0, b1, hbel⟩ := BA.out
      have hk := HK.out
      go_roundg (gk - 1)
      case measure => omega
      case rel =>
        refine ⟨k + 1, by omega, by go_num, b0.far (by simp) _, ?_, hbel.setCell (by simp) _⟩
        rw [← fill_set (startW tag) k 8 0, ← wA_set, startW_int tag k hlt]
        exact b1.set_ k _
    · obtain rfl : k = 8 := by omega
      clear hk
      rw [fill_full] at b1
      go_wp2_with (first
        | (refine wpList_load_row rfl 134 (.tmp 3) rfl _ rfl 134 (wA (startL tag)) (0, 0) _ b1 Try.underlying134 rfl (by rw [wA_size, startL_length]; exact info_state) ?_)
        | (refine wpList_store_row rfl 134 (.tmp 2) (.tmp 19) rfl _ (wA (startL tag)) rfl rfl 134 (wA zero8) b0 (by rw [wA_size, startL_length]; exact info_state) (by rw [wA_size, wA_size, startL_length]; rfl) (wA_one _) ?_))
      refine bodyPost_ret (results_cell_row rfl _ _ _ 134 (wA (startL tag)) (0, 0) _ rfl (b0.row _) Try.underlying134 rfl (by rw [wA_size, startL_length]; exact info_state)) rfl ⟨rfl, hbel.setRow (by omega) _⟩

set_option maxHeartbeats 400000 in
set_option maxRecDepth 100000 in
theorem implStartState_c (tag : UInt8) (w : World) :
    Calls Try.prog 139 #[.int .u8 (tag.toNat : Int)] w fun e w' => e = .returned (.agg (wA (startL tag))) ∧ Up w w' := by
  go_enter Try.func139, Try.ntmps139
  go_wp2
  go_loopg [6] 8 (fun n i wr => ∃ k : Nat, k + n = 8 ∧ i = .int .i64 k ∧ Blk wr w.heap.size 134 (wA zero8) ∧ Blk wr (w.heap.size + 1) 134 (wA (fillTo (startW tag) k 8 0)) ∧ Up w wr)
  case atStart =>
    refine ⟨0, by omega, rfl, (Blk.top rfl).alloc _, Blk.top (by simp), ((Up.refl _).alloc _).alloc _⟩
  case round =>
    obtain ⟨k, hk, rfl, b0, b1, hbel⟩ := hrel
    by_cases hlt : k < 8
    · have c1 := b1.cell_ (wA_at (fillTo (startW tag) k 8 0) k (by rw [fill_length]; omega))
      have f1 := b1.free k
      have BA := Lib.hid (And.intro b0 (And.intro b1 hbel))
      have HK := Lib.hid hk
      clear b0 b1 hbel hk
      have hb := byte_bd tag
      go_wp2
      obtain ⟨b0, b1, hbel⟩ := BA.out
      have hk := HK.out
      go_roundg (gk - 1)
      case measure => omega
      case rel =>
        refine ⟨k + 1, by omega, by go_num, b0.far (by simp) _, ?_, hbel.setCell (by simp) _⟩
        rw [← fill_set (startW tag) k 8 0, ← wA_set, startW_int tag k hlt]
        exact b1.set_ k _
    · obtain rfl : k = 8 := by omega
      clear hk
      rw [fill_full] at b1
      go_wp2_with (first
        | (refine wpList_load_row rfl 134 (.tmp 3) rfl _ rfl 134 (wA (startL tag)) (0, 0) _ b1 Try.underlying134 rfl (by rw [wA_size, startL_length]; exact info_state) ?_)
        | (refine wpList_store_row rfl 134 (.tmp 2) (.tmp 19) rfl _ (wA (startL tag)) rfl rfl 134 (wA zero8) b0 (by rw [wA_size, startL_length]; exact info_state) (by rw [wA_size, wA_size, startL_length]; rfl) (wA_one _) ?_))
      refine bodyPost_ret (results_cell_row rfl _ _ _ 134 (wA (startL tag)) (0, 0) _ rfl (b0.row _) Try.underlying134 rfl (by rw [wA_size, startL_length]; exact info_state)) rfl ⟨rfl, hbel.setRow (by omega) _⟩

end Go.Proofs.Ytmbhaoiahlbglaa

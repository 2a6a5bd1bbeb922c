/- Walks: states of eight words. -/
import Derived.Test.YtgofolmekgjkjaaRows
import Derived.Test.YtgofolmekgjkjaaBase
namespace Go.Proofs.Ytgofolmekgjkjaa
open Go.RowKit
set_option linter.unusedVariables false
set_option linter.unusedSimpArgs false

theorem info_state : (Try.prog.info? 39).map (·.size) = some 8 := by kernel_rfl
theorem info_u32 : (Try.prog.info? 38).map (·.size) = some 1 := by kernel_rfl
def zero8 : List UInt32 := List.replicate 8 0
theorem zero_state (w : World) : (zeroValue 39).run Try.prog w = .ok (.agg (wA zero8)) w := by kernel_rfl
/-- The i-th word of the state of a tag. -/
def startW (tag : UInt8) (i : Nat) : UInt32 := UInt32.ofNat (16777619 * (i + 1) + tag.toNat)
def startL (tag : UInt8) : List UInt32 := (List.range 8).map (startW tag)
theorem startL_length (tag : UInt8) : (startL tag).length = 8 := by simp [startL]

theorem startW_int (tag : UInt8) (k : Nat) (hk : k < 8) : ((startW tag k).toNat : Int) = 16777619 * ((k : Int) + 1) + (tag.toNat : Int) := by
  have := tag.toNat_lt
  simp only [startW, UInt32.toNat_ofNat']
  omega

set_option maxHeartbeats 400000 in
set_option maxRecDepth 100000 in
theorem specl01Start_c (tag : UInt8) (w : World) :
    Calls Try.prog 95 #[.int .u8 (tag.toNat : Int)] w fun e w' => e = .returned (.agg (wA (startL tag))) ∧ Up w w' := by
  go_enter Try.func95, Try.ntmps95
  go_wp2
  go_loopg [4] 8 (fun n i wr => ∃ k : Nat, k + n = 8 ∧ i = .int .i64 k ∧ Blk wr w.heap.size 39 (wA zero8) ∧ Blk wr (w.heap.size + 1) 39 (wA (fillTo (startW tag) k 8 0)) ∧ Up w wr)
  case atStart =>
    refine ⟨0, by omega, rfl, (Blk.top rfl).alloc _, Blk.top (by simp), ((Up.refl _).alloc _).alloc _⟩
  case round =>
    obtain ⟨k, hk, rfl, b0, b1, hbel⟩ := hrel
    by_cases hlt : k < 8
    · have c1 := b1.cell_ (wA_at (fillTo (startW tag) k 8 0) k (by rw [fill_length]; omega))
      have f1 := b1.free k
      have BA := Lib.hid (And.intro b0 (And.intro b1 hbel))
      have HK := Lib.hid hk
      clear b0 b1 hbel hk
      have hb := byte_bd tag
      go_wp2
      obtain ⟨b0, b1, hbel⟩ := BA.out
      have hk := HK.out
      go_roundg (gk - 1)
      case measure => omega
      case rel =>
        refine ⟨k + 1, by omega, by go_num, b0.far (by simp) _, ?_, hbel.setCell (by simp) _⟩
        rw [← fill_set (startW tag) k 8 0, ← wA_set, startW_int tag k hlt]
        exact b1.set_ k _
    · obtain rfl : k = 8 := by omega
      clear hk
      rw [fill_full] at b1
      go_wp2_with (first
        | (refine wpList_load_row rfl 39 (.tmp 3) rfl _ rfl 39 (wA (startL tag)) (0, 0) _ b1 Try.underlying39 rfl (by rw [wA_size, startL_length]; exact info_state) ?_)
        | (refine wpList_store_row rfl 39 (.tmp 2) (.tmp 19) rfl _ (wA (startL tag)) rfl rfl 39 (wA zero8) b0 (by rw [wA_size, startL_length]; exact info_state) (by rw [wA_size, wA_size, startL_length]; rfl) (wA_one _) ?_))
      refine bodyPost_ret (results_cell_row rfl _ _ _ 39 (wA (startL tag)) (0, 0) _ rfl (b0.row _) Try.underlying39 rfl (by rw [wA_size, startL_length]; exact info_state)) rfl ⟨rfl, hbel.setRow (by omega) _⟩

set_option maxHeartbeats 400000 in
set_option maxRecDepth 100000 in
theorem implStartState_c (tag : UInt8) (w : World) :
    Calls Try.prog 93 #[.int .u8 (tag.toNat : Int)] w fun e w' => e = .returned (.agg (wA (startL tag))) ∧ Up w w' := by
  go_enter Try.func93, Try.ntmps93
  go_wp2
  go_loopg [6] 8 (fun n i wr => ∃ k : Nat, k + n = 8 ∧ i = .int .i64 k ∧ Blk wr w.heap.size 39 (wA zero8) ∧ Blk wr (w.heap.size + 1) 39 (wA (fillTo (startW tag) k 8 0)) ∧ Up w wr)
  case atStart =>
    refine ⟨0, by omega, rfl, (Blk.top rfl).alloc _, Blk.top (by simp), ((Up.refl _).alloc _).alloc _⟩
  case round =>
    obtain ⟨k, hk, rfl, b0, b1, hbel⟩ := hrel
    by_cases hlt : k < 8
    · have c1 := b1.cell_ (wA_at (fillTo (startW tag) k 8 0) k (by rw [fill_length]; omega))
      have f1 := b1.free k
      have BA := Lib.hid (And.intro b0 (And.intro b1 hbel))
      have HK := Lib.hid hk
      clear b0 b1 hbel hk
      have hb := byte_bd tag
      go_wp2
      obtain ⟨b0, b1, hbel⟩ := BA.out
      have hk := HK.out
      go_roundg (gk - 1)
      case measure => omega
      case rel =>
        refine ⟨k + 1, by omega, by go_num, b0.far (by simp) _, ?_, hbel.setCell (by simp) _⟩
        rw [← fill_set (startW tag) k 8 0, ← wA_set, startW_int tag k hlt]
        exact b1.set_ k _
    · obtain rfl : k = 8 := by omega
      clear hk
      rw [fill_full] at b1
      go_wp2_with (first
        | (refine wpList_load_row rfl 39 (.tmp 3) rfl _ rfl 39 (wA (startL tag)) (0, 0) _ b1 Try.underlying39 rfl (by rw [wA_size, startL_length]; exact info_state) ?_)
        | (refine wpList_store_row rfl 39 (.tmp 2) (.tmp 19) rfl _ (wA (startL tag)) rfl rfl 39 (wA zero8) b0 (by rw [wA_size, startL_length]; exact info_state) (by rw [wA_size, wA_size, startL_length]; rfl) (wA_one _) ?_))
      refine bodyPost_ret (results_cell_row rfl _ _ _ 39 (wA (startL tag)) (0, 0) _ rfl (b0.row _) Try.underlying39 rfl (by rw [wA_size, startL_length]; exact info_state)) rfl ⟨rfl, hbel.setRow (by omega) _⟩

set_option maxHeartbeats 400000 in
set_option maxRecDepth 100000 in
theorem eqUint32A8_c (a b : List UInt32) (ha : a.length = 8) (hb : b.length = 8) (w : World) :
    Calls Try.prog 69 #[.agg (wA a), .agg (wA b)] w fun e w' => e = .returned (.bool (decide (a = b))) ∧ Up w w' := by
  have HL := Lib.hid (And.intro ha hb)
  clear ha hb
  go_enter Try.func69, Try.ntmps69
  go_wp2
  go_loopg [5] 8 (fun n i wr => ∃ k : Nat, k + n = 8 ∧ i = .int .i64 k ∧ a.take k = b.take k ∧ Blk wr w.heap.size 39 (wA a) ∧ Blk wr (w.heap.size + 1) 39 (wA b) ∧ Up w wr)
  case atStart =>
    refine ⟨0, by omega, rfl, by simp, ?_, Blk.top (by simp), ?_⟩
    · exact ((Blk.top rfl).alloc _)
    · exact (((Up.refl _).alloc _).alloc _)
  case round =>
    obtain ⟨k, hk, rfl, he, b0, b1, hbel⟩ := hrel
    obtain ⟨ha, hb⟩ := HL.out
    by_cases hlt : k < 8
    · have c0 := b0.cell_ (wA_at a k (by omega))
      have c1 := b1.cell_ (wA_at b k (by omega))
      have BA := Lib.hid (And.intro he (And.intro b0 (And.intro b1 hbel)))
      have HK := Lib.hid hk
      clear b0 b1 hbel ha hb hk he
      by_cases hx : wt a k = wt b k
      · have hx1 : (((wt a k).toNat : Int) != ((wt b k).toNat : Int)) = false := by simp [hx]
        have HX := Lib.hid hx
        clear hx
        go_wp2
        go_quiet (fail)
        go_wp2
        obtain ⟨he, b0, b1, hbel⟩ := BA.out
        obtain ⟨ha, hb⟩ := HL.out
        have hk := HK.out
        go_roundg (gk - 1)
        case measure => omega
        case rel => exact ⟨k + 1, by omega, by go_num, take_wt a b k (by omega) (by omega) he HX.out, b0.drewN _, b1.drewN _, hbel.drewN _⟩
      · have hx1 : (((wt a k).toNat : Int) != ((wt b k).toNat : Int)) = true := by
          simp only [bne_iff_ne, ne_eq, Int.natCast_inj, UInt32.toNat_inj]
          exact hx
        have HX := Lib.hid hx
        clear hx
        go_wp2
        go_quiet (fail)
        go_wp2
        go_ret
        obtain ⟨he, b0, b1, hbel⟩ := BA.out
        exact ⟨by simp [ne_wt HX.out], hbel.drewN _⟩
    · obtain rfl : k = 8 := by omega
      rw [List.take_of_length_le (by omega), List.take_of_length_le (by omega)] at he
      have HE := Lib.hid he
      clear hk ha hb he
      go_wp2
      go_ret
      exact ⟨by simp [HE.out], hbel⟩

set_option maxHeartbeats 400000 in
set_option maxRecDepth 100000 in
theorem toUint32A8_c (l : List UInt32) (hl : l.length = 8) (w : World) :
    Calls Try.prog 63 #[.agg (wA l)] w fun e w' => e = .returned (.agg (wA l)) ∧ Up w w' := by
  have HS := Lib.hid (show (Try.prog.info? 39).map (·.size) = some (wA l).size by rw [wA_size, hl]; exact info_state)
  have HL := Lib.hid hl
  clear hl
  go_enter Try.func63, Try.ntmps63
  go_wp2
  go_loopg [4] 8 (fun n i wr => ∃ k : Nat, k + n = 8 ∧ i = .int .i64 k ∧ Blk wr w.heap.size 39 (wA l) ∧ Blk wr (w.heap.size + 1) 39 (wA zero8) ∧ Blk wr (w.heap.size + 1 + 1) 39 (wA (fillTo (wt l) k 8 0)) ∧ Up w wr)
  case atStart =>
    exact ⟨0, by omega, rfl, ((Blk.top rfl).alloc _).alloc _, (Blk.top (by simp)).alloc _, Blk.top (by simp), (((Up.refl _).alloc _).alloc _).alloc _⟩
  case round =>
    obtain ⟨k, hk, rfl, b0, b1, b2, hbel⟩ := hrel
    have hl := HL.out
    by_cases hlt : k < 8
    · have c0 := b0.cell_ (wA_at l k (by omega))
      have c2 := b2.cell_ (wA_at (fillTo (wt l) k 8 0) k (by rw [fill_length]; omega))
      have f2 := b2.free k
      have BA := Lib.hid (And.intro b0 (And.intro b1 (And.intro b2 hbel)))
      have HK := Lib.hid hk
      clear b0 b1 b2 hbel hl hk
      go_wp2
      obtain ⟨b0, b1, b2, hbel⟩ := BA.out
      have hk := HK.out
      go_roundg (gk - 1)
      case measure => omega
      case rel =>
        refine ⟨k + 1, by omega, by go_num, b0.far (by simp; omega) _, b1.far (by simp) _, ?_, hbel.setCell (by simp; omega) _⟩
        rw [← fill_set (wt l) k 8 0, ← wA_set]
        exact b2.set_ k _
    · obtain rfl : k = 8 := by omega
      clear hk
      rw [fill_full, map_wt l 8 hl] at b2
      clear hl
      go_wp2_with (first
        | (refine wpList_load_row rfl 39 (.tmp 3) rfl _ rfl 39 (wA l) (0, 0) _ b2 Try.underlying39 rfl HS.out ?_)
        | (refine wpList_store_row rfl 39 (.tmp 2) (.tmp 14) rfl _ (wA l) rfl rfl 39 (wA zero8) b1 HS.out ?_ (wA_one l) ?_; · rw [wA_size, wA_size, HL.out]; rfl))
      refine bodyPost_ret (results_cell_row rfl _ _ _ 39 (wA l) (0, 0) _ rfl (b1.row _) Try.underlying39 rfl HS.out) rfl ⟨rfl, hbel.setRow (by omega) _⟩

theorem eqUint32A8_same (a : List UInt32) (ha : a.length = 8) (w : World) :
    Calls Try.prog 69 #[.agg (wA a), .agg (wA a)] w fun e w' => e = .returned (.bool true) ∧ Up w w' :=
  (eqUint32A8_c a a ha ha w).mono fun e w' ⟨he, hb⟩ => ⟨by rw [he]; simp, hb⟩

end Go.Proofs.Ytgofolmekgjkjaa

/- Walk: the program's mixing of a block into a state. -/
import Derived.Test.YtmbhaoiahlbglaaKM2
import Derived.Test.YtmbhaoiahlbglaaKM3
namespace Go.Proofs.Ytmbhaoiahlbglaa
open Go.RowKit
set_option linter.unusedVariables false
set_option linter.unusedSimpArgs false

set_option maxHeartbeats 2000000 in
set_option maxRecDepth 100000 in
theorem implMixBlock_c (s : List UInt32) (l : List UInt8) (hs : s.length = 8) (hl : l.length = 32) (w : World) :
    Calls Try.prog 159 #[.agg (wA s), .agg (bA l)] w fun e w' => e = .returned (.agg (wA (mixL s l))) ∧ Up w w' := by
  have HI := Lib.hid (show (Try.prog.info? 134).map (·.size) = some (wA s).size by rw [wA_size, hs]; exact info_state)
  have H0 := Lib.hid (show (Try.prog.info? 134).map (·.size) = some (wA zero8).size from info_state)
  have HL := Lib.hid (And.intro hs hl)
  clear hs hl
  go_enter Try.func159, Try.ntmps159
  go_wp2_with (first
    | (refine wpList_store_row rfl 134 (.tmp 5) (.tmp 13) rfl _ (wA zero8) rfl rfl 134 (wA zero8) (Blk.top (by simp) : Blk _ (w.heap.size + 1 + 1 + 1) _ _) (H0.out) (rfl) (wA_one _) ?_; rw [setRow_alloc_at]; rotate_left; (exact top_size _ _)))
  go_loopg [14] 8 (fun n i wr => ∃ k : Nat, k + n = 8 ∧ i = .int .i64 k ∧ Blk wr w.heap.size 134 (wA s) ∧ Blk wr (w.heap.size + 1) 24 (bA l) ∧ Blk wr (w.heap.size + 1 + 1) 134 (wA zero8) ∧ Blk wr (w.heap.size + 1 + 1 + 1) 134 (wA (fillTo (mW l) k 8 0)) ∧ Up w wr)
  case atStart => exact ⟨0, by omega, rfl, (((Blk.top rfl).alloc _).alloc _).alloc _, ((Blk.top (by simp)).alloc _).alloc _, (Blk.top (by simp)).alloc _, Blk.top (by simp), ((((Up.refl _).alloc _).alloc _).alloc _).alloc _⟩
  case round =>
    obtain ⟨k, hk, rfl, b0, b1, b2, b3, hbel⟩ := hrel
    by_cases hlt : k < 8
    · have hm : (mW l k).toNat = upN l k 4 := by
        have := upN_lt l k 4
        simp only [mW, UInt32.toNat_ofNat']
        omega
      have hu : upN l k 4 < 4294967296 := upN_lt l k 4
      have f3 := b3.free k
      have hl := HL.out.2
      have d0 := b1.cell_ (bA_at l (4 * k) (by omega))
      have d1 := b1.cell_ (bA_at l (4 * k + 1) (by omega))
      have d2 := b1.cell_ (bA_at l (4 * k + 2) (by omega))
      have d3 := b1.cell_ (bA_at l (4 * k + 3) (by omega))
      have c3 := b3.cell_ (wA_at (fillTo (mW l) k 8 0) k (by rw [fill_length]; omega))
      have HM := Lib.hid hm
      have hsl := fun w2 => slice4 (w.heap.size + 1) k hlt w2
      have HD := Lib.hid (And.intro d0 (And.intro d1 (And.intro d2 d3)))
      have BA := Lib.hid (And.intro b0 (And.intro b1 (And.intro b2 (And.intro b3 hbel))))
      have HK := Lib.hid hk
      clear b0 b1 b2 b3 hbel hk hl hm d0 d1 d2 d3
      go_wp2_with (first
        | (go_at_call 168; (with_reducible refine (little_c _ (4 * k) _ k l _ HD.out.1 HD.out.2.1 HD.out.2.2.1 HD.out.2.2.2).mono ?_); rintro e w' ⟨rfl, rfl⟩))
      obtain ⟨b0, b1, b2, b3, hbel⟩ := BA.out
      have hk := HK.out
      go_roundg (gk - 1)
      case measure => omega
      case rel =>
        refine ⟨k + 1, by omega, by go_num, b0.far (by dsimp only; omega) _, b1.far (by dsimp only; omega) _, b2.far (by dsimp only; omega) _, ?_, hbel.setCell (by dsimp only; omega) _⟩
        rw [← fill_set (mW l) k 8 0, ← wA_set, HM.out]
        exact b3.set_ k _
    · obtain rfl : k = 8 := by omega
      clear hk
      rw [fill_full] at b3
      obtain ⟨g8, hg8⟩ : ∃ g, g = wr.heap.size := ⟨_, rfl⟩
      have hg0 : g8 ≠ w.heap.size := by have := b0.lt; omega
      have hg1 : g8 ≠ w.heap.size + 1 := by have := b1.lt; omega
      have hg2 : g8 ≠ w.heap.size + 1 + 1 := by have := b2.lt; omega
      have hg3 : g8 ≠ w.heap.size + 1 + 1 + 1 := by have := b3.lt; omega
      have hgg : w.heap.size ≤ g8 := by have := b0.lt; omega
      have HG := Lib.hid (And.intro hg0 (And.intro hg1 (And.intro hg2 (And.intro hg3 hgg))))
      have BA := Lib.hid (And.intro b0 (And.intro b1 (And.intro b2 (And.intro b3 hbel))))
      clear b0 b1 b2 b3 hbel hg0 hg1 hg2 hg3 hgg
      go_wp2_with (first
        | (refine wpList_load_row rfl 134 (.tmp 2) rfl _ rfl 134 (wA s) (0, 0) _ (BA.out.1) Try.underlying134 rfl (HI.out) ?_)
        | (refine wpList_store_row rfl 134 (.tmp 7) (.tmp 28) rfl _ (wA s) rfl rfl 134 (wA zero8) (Blk.top rfl) (HI.out) ((by rw [wA_size, wA_size, HL.out.1]; rfl)) (wA_one _) ?_; rw [World.setRow_alloc_new]))
      rw [← hg8]
      have HG8 := Lib.hid hg8
      clear hg8
      go_loopg [29] 12 (fun n i wq => ∃ k : Nat, k + n = 12 ∧ i = .int .i64 k ∧ Blk wq w.heap.size 134 (wA s) ∧ Blk wq (w.heap.size + 1 + 1) 134 (wA zero8) ∧ Blk wq (w.heap.size + 1 + 1 + 1) 134 (wA (mixM l)) ∧ Blk wq g8 134 (wA (mixS (mixM l) s (8 * k))) ∧ Up w wq)
      case atStart =>
        obtain ⟨b0, b1, b2, b3, hbel⟩ := BA.out
        exact ⟨0, by omega, rfl, b0.alloc _, b2.alloc _, b3.alloc _, Blk.top HG8.out, hbel.alloc _⟩
      case round =>
        obtain ⟨k, hk, rfl, b0, b2, b3, b8, hbel⟩ := hrel
        by_cases hlt : k < 12
        · have BB := Lib.hid (And.intro b0 (And.intro b2 (And.intro b3 (And.intro b8 hbel))))
          have HK := Lib.hid hk
          have HT := Lib.hid hlt
          clear b0 b2 b3 b8 hbel hk
          go_wp2_with fail
          have hd : decide ((k : Int) < 12) = true := by simp; omega
          try rw [hd]
          clear hlt hd
          go_loopg [32] 8 (fun n i wq => ∃ j : Nat, j + n = 8 ∧ i = .int .i64 j ∧ Blk wq w.heap.size 134 (wA s) ∧ Blk wq (w.heap.size + 1 + 1) 134 (wA zero8) ∧ Blk wq (w.heap.size + 1 + 1 + 1) 134 (wA (mixM l)) ∧ Blk wq g8 134 (wA (mixS (mixM l) s (8 * k + j))) ∧ Up w wq)
          case atStart =>
            obtain ⟨b0, b2, b3, b8, hbel⟩ := BB.out
            exact ⟨0, by omega, rfl, b0, b2, b3, b8, hbel⟩
          case round =>
            obtain ⟨j, hj, rfl, b0, b2, b3, b8, hbel⟩ := hrel
            by_cases hjlt : j < 8
            · have hkl : k ≤ 1000 := by have := HT.out; omega
              have hS : (mixS (mixM l) s (8 * k + j)).length = 8 := by rw [mixS_length]; exact HL.out.1
              have HN := Lib.hid (show (mixS (mixM l) s (8 * k + j)).set j (mixU (mixM l) (mixS (mixM l) s (8 * k + j)) k j) = mixS (mixM l) s (8 * k + (j + 1)) by
                show _ = mixS (mixM l) s (8 * k + j + 1)
                rw [mixS, show (8 * k + j) % 8 = j by omega, show (8 * k + j) / 8 = k by omega])
              generalize mixS (mixM l) s (8 * k + j) = S at *
              have c8 := b8.cell_ (wA_at S j (by omega))
              have c8b := b8.cell_ (wA_at S ((j + 1) % 8) (by omega))
              have c8c := b8.cell_ (wA_at S ((j + 5) % 8) (by omega))
              have c3 := b3.cell_ (wA_at (mixM l) ((j + 3 * k) % 8) (by rw [mixM_length]; omega))
              have f8 := b8.free j
              have BC := Lib.hid (And.intro b0 (And.intro b2 (And.intro b3 (And.intro b8 hbel))))
              have HJ := Lib.hid hj
              have HS := Lib.hid hS
              clear b0 b2 b3 b8 hbel hj hS
              go_wp2_with fail
              go_quiet (fail)
              go_wp2_with fail
              have HTT := mixT_int (mixM l) S k j
              have hx := xor_u32 (rot7 (mixT (mixM l) S k j)) (wt S ((j + 1) % 8))
              have HU := Lib.hid (mixU_int2 (rot7 (mixT (mixM l) S k j)) (wt S ((j + 1) % 8)) (rot13 (wt S ((j + 5) % 8))))
              go_quiet ((go_at_call 169; with_reducible exact quiet_same2 (rotL7_c (mixT (mixM l) S k j) _ rfl _)))
              go_wp2_with (first
                | (go_at_call 169; (with_reducible refine (rotL13_c (wt S ((j + 5) % 8)) _ rfl _).mono ?_); rintro e w' ⟨rfl, rfl⟩))
              obtain ⟨b0, b2, b3, b8, hbel⟩ := BC.out
              obtain ⟨hg0, hg1, hg2, hg3, hgg⟩ := HG.out
              have hj := HJ.out
              go_roundg (8 - j - 1)
              case measure => omega
              case rel =>
                refine ⟨j + 1, by omega, by go_num, (b0.drewN _).far (by dsimp only; omega) _, (b2.drewN _).far (by dsimp only; omega) _, (b3.drewN _).far (by dsimp only; omega) _, ?_, (hbel.drewN _).setCell (by dsimp only; omega) _⟩
                rw [HU.out, ← HN.out, ← wA_set]
                exact (b8.drewN _).set_ j _
            · obtain rfl : j = 8 := by omega
              rw [show 8 * k + 8 = 8 * (k + 1) by omega] at b8
              have BC := Lib.hid (And.intro b0 (And.intro b2 (And.intro b3 (And.intro b8 hbel))))
              clear b0 b2 b3 b8 hbel
              have hkl : k ≤ 1000 := by have := HT.out; omega
              go_wp2_with fail
              obtain ⟨b0, b2, b3, b8, hbel⟩ := BC.out
              have hk := HK.out
              go_roundg (12 - k - 1)
              case measure => omega
              case rel => exact ⟨k + 1, by omega, by go_num, b0, b2, b3, b8, hbel⟩
        · obtain rfl : k = 12 := by omega
          have hT : (mixS (mixM l) s (8 * 12)).length = 8 := by rw [mixS_length]; exact HL.out.1
          have HR := Lib.hid (show midW (fun i => wt (mixS (mixM l) s (8 * 12)) i ^^^ wt s i) (wt (mixS (mixM l) s (8 * 12))) 8 = mixL s l by rw [midW_full]; rfl)
          rw [← midW_zero (fun i => wt (mixS (mixM l) s (8 * 12)) i ^^^ wt s i) _ hT] at b8
          generalize mixS (mixM l) s (8 * 12) = T at *
          have BC := Lib.hid (And.intro b0 (And.intro b2 (And.intro b8 hbel)))
          clear b0 b2 b3 b8 hbel hk hT
          go_wp2_with fail
          go_loopg [74] 8 (fun n i wq => ∃ j : Nat, j + n = 8 ∧ i = .int .i64 j ∧ Blk wq w.heap.size 134 (wA s) ∧ Blk wq (w.heap.size + 1 + 1) 134 (wA zero8) ∧ Blk wq g8 134 (wA (midW (fun i => wt T i ^^^ wt s i) (wt T) j)) ∧ Up w wq)
          case atStart =>
            obtain ⟨b0, b2, b8, hbel⟩ := BC.out
            exact ⟨0, by omega, rfl, b0, b2, b8, hbel⟩
          case round =>
            obtain ⟨j, hj, rfl, b0, b2, b8, hbel⟩ := hrel
            by_cases hjlt : j < 8
            · have c8 := b8.cell_ (wA_at (midW (fun i => wt T i ^^^ wt s i) (wt T) j) j (by rw [midW_length]; omega))
              rw [midW_at _ _ _ _ hjlt, if_neg (Nat.lt_irrefl j)] at c8
              have c0 := b0.cell_ (wA_at s j (by rw [HL.out.1]; omega))
              have f8 := b8.free j
              have hx := xor_u32 (wt T j) (wt s j)
              have HX := Lib.hid (xor_nat (wt T j) (wt s j))
              have BD := Lib.hid (And.intro b0 (And.intro b2 (And.intro b8 hbel)))
              have HJ := Lib.hid hj
              clear b0 b2 b8 hbel hj
              go_wp2_with fail
              go_region
              go_wp2_with fail
              obtain ⟨b0, b2, b8, hbel⟩ := BD.out
              obtain ⟨hg0, hg1, hg2, hg3, hgg⟩ := HG.out
              have hj := HJ.out
              go_roundg (gk - 1)
              case measure => omega
              case rel =>
                refine ⟨j + 1, by omega, by go_num, (b0.far (by dsimp only; omega) _).drew, (b2.far (by dsimp only; omega) _).drew, ?_, (hbel.setCell (by dsimp only; omega) _).drew⟩
                rw [HX.out, ← midW_set (fun i => wt T i ^^^ wt s i) (wt T) j, ← wA_set]
                exact (b8.set_ j _).drew
            · obtain rfl : j = 8 := by omega
              rw [HR.out] at b8
              have BD := Lib.hid (And.intro b0 (And.intro b2 (And.intro b8 hbel)))
              have HM := Lib.hid (show (Try.prog.info? 134).map (·.size) = some (wA (mixL s l)).size by rw [wA_size, mixL_length]; exact info_state)
              clear b0 b2 b8 hbel hj
              go_wp2_with (first
                | (refine wpList_load_row rfl 134 (.tmp 7) rfl _ rfl 134 (wA (mixL s l)) (0, 0) _ (BD.out.2.2.1) Try.underlying134 rfl (HM.out) ?_)
                | (refine wpList_store_row rfl 134 (.tmp 4) (.tmp 86) rfl _ (wA (mixL s l)) rfl rfl 134 (wA zero8) (BD.out.2.1) (HM.out) ((by rw [wA_size, wA_size, mixL_length]; rfl)) (wA_one _) ?_))
              refine bodyPost_ret (results_cell_row rfl _ _ _ 134 (wA (mixL s l)) (0, 0) _ rfl (BD.out.2.1.row _) Try.underlying134 rfl HM.out) rfl ⟨rfl, BD.out.2.2.2.setRow (by omega) _⟩

end Go.Proofs.Ytmbhaoiahlbglaa

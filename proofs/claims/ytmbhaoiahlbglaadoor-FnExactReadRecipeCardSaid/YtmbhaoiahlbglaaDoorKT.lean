/- Walks: the text of a key. -/
import Derived.Test.YtmbhaoiahlbglaaDoorRows
import Derived.Test.YtmbhaoiahlbglaaDoorSl
import Derived.Test.YtmbhaoiahlbglaaDoorK1
import Derived.Test.YtmbhaoiahlbglaaDoorReg
import Derived.Deep.RegionLaw
namespace Go.Proofs.YtmbhaoiahlbglaaDoor
open Go.RowKit
set_option linter.unusedVariables false
set_option linter.unusedSimpArgs false

theorem mixedOrders : Tryd.prog.follows .mixedOrders = true := by kernel_rfl
theorem info_byte : (Tryd.prog.info? 5).map (fun i => (i.zero, i.size, i.bytes)) = some (some (.int .u8 0), 1, 1) := by kernel_rfl
set_option maxRecDepth 100000 in
theorem hex_index (n : Nat) (hn : n < 16) (w : World) : (Instr.index 9 (.string ⟨#[48, 49, 50, 51, 52, 53, 54, 55, 56, 57, 97, 98, 99, 100, 101, 102]⟩) (.int .u8 (n : Int))).run Tryd.prog w = .ok (.int .u8 ((hexD n).toNat : Int)) w := by
  have h : n = 0 ∨ n = 1 ∨ n = 2 ∨ n = 3 ∨ n = 4 ∨ n = 5 ∨ n = 6 ∨ n = 7 ∨ n = 8 ∨ n = 9 ∨ n = 10 ∨ n = 11 ∨ n = 12 ∨ n = 13 ∨ n = 14 ∨ n = 15 := by omega
  rcases h with rfl | rfl | rfl | rfl | rfl | rfl | rfl | rfl | rfl | rfl | rfl | rfl | rfl | rfl | rfl | rfl <;> rfl

theorem and_15 (b : UInt8) : bits .and .u8 (b.toNat : Int) 15 = ((b.toNat % 16 : Nat) : Int) := by
  have h : b.toNat < 256 := b.toNat_lt
  show IntKind.u8.wrap ((BitVec.ofInt 8 (b.toNat : Int) &&& BitVec.ofInt 8 15).toNat : Int) = _
  rw [BitVec.ofInt_natCast, BitVec.toNat_and, BitVec.toNat_ofNat, Nat.mod_eq_of_lt h]
  have e : (BitVec.ofInt 8 15).toNat = 2 ^ 4 - 1 := by decide
  rw [e, Nat.and_two_pow_sub_one_eq_mod]
  simp only [IntKind.wrap, IntKind.signed, IntKind.bits]
  simp
  omega

set_option maxHeartbeats 400000 in
theorem l01Digit_c (l : List UInt8) (i : Nat) (hl : l.length = 32) (hi : i < 64) (w : World) :
    Calls Tryd.prog 47 #[.agg (bA l), .int .i64 (i : Int)] w fun e w' => e = .returned (.int .u8 (dig l i : Int)) ∧ Up w w' := by
  have c0 := (Blk.top rfl : Blk (w.alloc (.cells (bA l) 37)) w.heap.size 37 (bA l)).cell_ (bA_at l (i / 2) (by omega))
  have hb := byte_bd (bt l (i / 2))
  by_cases h : i % 2 = 0
  · have g1 : ((i : Int) % 2 == 0) = true := by simp; omega
    have HE := Lib.hid (show (dig l i : Int) = ((bt l (i / 2)).toNat : Int) / 16 by simp [dig, h])
    clear h hl
    go_enter Tryd.func47, Tryd.ntmps47
    go_wp2
    go_ret
    exact ⟨by rw [HE.out]; rfl, (Up.refl _).alloc _⟩
  · have g1 : ((i : Int) % 2 == 0) = false := by simp; omega
    have HE := Lib.hid (show (dig l i : Int) = ((bt l (i / 2)).toNat : Int) % 16 by simp [dig, h])
    clear h hl
    go_enter Tryd.func47, Tryd.ntmps47
    go_wp2
    go_ret
    exact ⟨by rw [HE.out]; rfl, (Up.refl _).alloc _⟩

set_option maxHeartbeats 1000000 in
set_option maxRecDepth 100000 in
theorem l01Text_c (l : List UInt8) (hl : l.length = 32) (w : World) :
    Calls Tryd.prog 26 #[.agg (bA l)] w fun e w' => e = .returned (.string (keyTx l)) ∧ Up w w' := by
  obtain ⟨i0, hi0, hz0, hz1, hz2⟩ := info_parts info_byte
  have HS := Lib.hid (show (Tryd.prog.info? 37).map (·.size) = some (bA l).size by rw [bA_size, hl]; exact info_key)
  have HL := Lib.hid hl
  clear hl
  go_enter Tryd.func26, Tryd.ntmps26
  go_wp2_with fail
  go_loopg [3, 4] 64 (fun n v i wr => ∃ k : Nat, k + n = 64 ∧ i = .int .i64 k ∧ wr.ownsRow (w.heap.size + 1) 5 1 v k (bL (hexL l k)) ∧ Blk wr w.heap.size 37 (bA l) ∧ Up w wr)
  case atStart =>
    exact ⟨0, by omega, rfl, own_start (Nat.le_refl _) (Blk.top (by simp)), (Blk.top rfl).alloc _, ((Up.refl _).alloc _).alloc _⟩
  case round =>
    obtain ⟨k, hk, rfl, hown, b0, hbel⟩ := hrel
    by_cases hlt : k < 64
    · have HK := Lib.hid hk
      have BL := Lib.hid hbel
      clear hk hbel
      have hn : k + 1 ≤ 1000000000 := by omega
      go_wp2_with (first
        | (refine wpList_load_row rfl 37 (.tmp 1) rfl _ rfl 37 (bA l) (0, 0) _ b0 Tryd.underlying37 rfl HS.out ?_)
        | (go_at_call 47; (with_reducible refine (l01Digit_c l k HL.out hlt _).mono ?_); rintro e w1 ⟨rfl, hb1⟩; have hix := hex_index (dig l k) (dig_lt l k))
        | (at_builtin; refine app_bytes rfl (.tmp 10) (.tmp 15) 72 rfl (w.heap.size + 1) Tryd.underlying72 info_byte ((own_up hown hb1).alloc _) rfl (news := [hexD (dig l k)]) rfl (Blk.top rfl) rfl rfl hn ((b0.up hb1).alloc _).lt ?_; intro v' w2 hown' hg))
      have hk := HK.out
      have hbel := BL.out
      have h3 := own_block_ge hown
      rw [hexL_succ] at hown'
      go_roundg (gk - 1)
      case measure => omega
      case rel => exact ⟨k + 1, by omega, by go_num, hown', ((b0.up hb1).alloc _).grown hg (ne_own hown (by omega)), ((hbel.trans hb1).alloc _).grown hg (fun j hj => by have := h3 j hj; omega)⟩
    · obtain rfl : k = 64 := by omega
      clear hk
      have hcv := own_string (P := Tryd.prog) Tryd.underlying72 Tryd.underlying5 Tryd.underlying9 hown
      clear hown
      go_wp2
      go_ret
      exact ⟨rfl, hbel⟩

set_option maxHeartbeats 1000000 in
set_option maxRecDepth 100000 in
theorem implKeyText_c (l : List UInt8) (hl : l.length = 32) (w : World) :
    Calls Tryd.prog 43 #[.agg (bA l)] w fun e w' => e = .returned (.string (keyTx l)) ∧ Up w w' := by
  have HS := Lib.hid (show (Tryd.prog.info? 37).map (·.size) = some (bA l).size by rw [bA_size, hl]; exact info_key)
  have HL := Lib.hid hl
  clear hl
  go_enter Tryd.func43, Tryd.ntmps43
  go_wp2_with (first
    | (refine wpList_load_row rfl 37 (.tmp 1) rfl _ rfl 37 (bA l) (0, 0) _ ((Blk.top rfl).alloc _) Tryd.underlying37 rfl (HS.out) ?_))
  go_loopg [3, 8] 32 (fun n v i wr => ∃ k : Nat, k + n = 32 ∧ i = .int .i64 k ∧ wr.ownsRow (w.heap.size + 1) 5 1 v (2 * k) (bL (hexL l (2 * k))) ∧ w.heap.size + 1 ≤ wr.heap.size ∧ Up w wr)
  case atStart =>
    exact ⟨0, by omega, rfl, own_start (Nat.le_refl _) (Blk.top (by simp)), by simp, ((Up.refl _).alloc _).alloc _⟩
  case round =>
    obtain ⟨k, hk, rfl, hown, hsz, hbel⟩ := hrel
    by_cases hlt : k < 32
    · have hl := HL.out
      have c1 := run_index_arr (P := Tryd.prog) Tryd.underlying37 Tryd.underlying5 info_u8 hlt (bA_at l k (by omega))
      have hb := byte_bd (bt l k)
      have e0 : (bt l k).toNat / 16 = dig l (2 * k) := by
        unfold dig
        rw [if_pos (by omega), show 2 * k / 2 = k by omega]
      have e1 : (bt l k).toNat % 16 = dig l (2 * k + 1) := by
        unfold dig
        rw [if_neg (by omega), show (2 * k + 1) / 2 = k by omega]
      have x0 := hex_index (dig l (2 * k)) (dig_lt _ _)
      have x1 := hex_index (dig l (2 * k + 1)) (dig_lt _ _)
      rw [← e0, show (((bt l k).toNat / 16 : Nat) : Int) = ((bt l k).toNat : Int) / 16 by omega, e0] at x0
      rw [← e1, ← and_15, e1] at x1
      have hn : 2 * k + 2 ≤ 1000000000 := by omega
      have HK := Lib.hid hk
      have BL := Lib.hid hbel
      clear hk hbel hl e0 e1
      go_wp2_with fail
      go_region_law (refine step_app_bytes rfl (.tmp 11) (.tmp 18) 72 rfl (w.heap.size + 1) Tryd.underlying72 info_byte ((hown.alloc _).drew) rfl (news := [hexD (dig l (2 * k)), hexD (dig l (2 * k + 1))]) rfl (Blk.drew (Blk.top rfl)) rfl rfl hn (Nat.le_trans hsz (by simp)) ?_; intro v' w2 hown' hg)
      all_goals
        go_wp2
        have hk := HK.out
        have hbel := BL.out
        have h3 := own_block_ge hown
        rw [show hexL l (2 * k) ++ [hexD (dig l (2 * k)), hexD (dig l (2 * k + 1))] = hexL l (2 * (k + 1)) by rw [show 2 * (k + 1) = 2 * k + 1 + 1 by omega, ← hexL_succ, ← hexL_succ, List.append_assoc]; rfl, show 2 * k + 2 = 2 * (k + 1) by omega] at hown'
        go_roundg (gk - 1)
        case measure => omega
        case rel => exact ⟨k + 1, by omega, by go_num, hown', Nat.le_trans hsz (Nat.le_trans (by simp) hg.size), (hbel.alloc _).drew.grown hg (fun j hj => by have := h3 j hj; omega)⟩
    · obtain rfl : k = 32 := by omega
      clear hk
      have hcv := own_string (P := Tryd.prog) Tryd.underlying72 Tryd.underlying5 Tryd.underlying9 hown
      clear hown
      go_wp2
      go_ret
      exact ⟨rfl, hbel⟩

end Go.Proofs.YtmbhaoiahlbglaaDoor

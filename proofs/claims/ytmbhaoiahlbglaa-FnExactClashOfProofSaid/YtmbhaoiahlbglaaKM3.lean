/- Walk: a number from its four bytes. -/
import Derived.Test.YtmbhaoiahlbglaaKM
namespace Go.Proofs.Ytmbhaoiahlbglaa
open Go.RowKit
set_option linter.unusedVariables false
set_option linter.unusedSimpArgs false

/-- The number that the first k of four bytes make, the lowest first. -/
def lowN (l : List UInt8) (i : Nat) : Nat → Nat
  | 0 => 0
  | k + 1 => lowN l i k + (bt l (4 * i + k)).toNat * 256 ^ k
theorem lowN_lt (l : List UInt8) (i : Nat) : ∀ k, lowN l i k < 256 ^ k
  | 0 => by simp [lowN]
  | k + 1 => by
    have := lowN_lt l i k
    have hb := (bt l (4 * i + k)).toNat_lt
    have : (bt l (4 * i + k)).toNat * 256 ^ k ≤ 255 * 256 ^ k := Nat.mul_le_mul_right _ (by omega)
    simp only [lowN, Nat.pow_succ]
    omega
theorem lowN_four (l : List UInt8) (i : Nat) : lowN l i 4 = upN l i 4 := by
  simp only [lowN, upN]
  simp
  omega
theorem or_u64 (a b : Nat) (ha : a < 2 ^ 64) (hb : b < 2 ^ 64) : bits .or .u64 (a : Int) (b : Int) = ((a ||| b : Nat) : Int) := by
  have hx : a ||| b < 2 ^ 64 := Nat.or_lt_two_pow ha hb
  show IntKind.u64.wrap ((BitVec.ofInt 64 (a : Int) ||| BitVec.ofInt 64 (b : Int)).toNat : Int) = _
  rw [BitVec.ofInt_natCast, BitVec.ofInt_natCast, BitVec.toNat_or, BitVec.toNat_ofNat, BitVec.toNat_ofNat, Nat.mod_eq_of_lt ha, Nat.mod_eq_of_lt hb]
  simp only [IntKind.wrap, IntKind.signed, IntKind.bits]
  simp
  omega
theorem or_up (a b k : Nat) (ha : a < 256 ^ k) : a ||| b * 256 ^ k = a + b * 256 ^ k := by
  have h8 : 256 ^ k = 2 ^ (8 * k) := by rw [Nat.pow_mul]
  rw [h8] at ha ⊢
  rw [Nat.or_comm, Nat.mul_comm, ← Nat.two_pow_add_eq_or_of_lt ha, Nat.add_comm]

theorem or_step (l : List UInt8) (i k : Nat) (hk : k ≤ 3) : bits .or .u64 ((lowN l i k : Nat) : Int) (((bt l (4 * i + k)).toNat : Int) * 256 ^ k) = ((lowN l i (k + 1) : Nat) : Int) := by
  have h := lowN_lt l i k
  have h1 := lowN_lt l i (k + 1)
  have hb := (bt l (4 * i + k)).toNat_lt
  have p0 : 256 ^ k ≤ 256 ^ 3 := Nat.pow_le_pow_right (by omega) hk
  have p1 : 256 ^ (k + 1) ≤ 256 ^ 4 := Nat.pow_le_pow_right (by omega) (by omega)
  have hm : (bt l (4 * i + k)).toNat * 256 ^ k ≤ lowN l i (k + 1) := by simp only [lowN]; omega
  rw [show ((bt l (4 * i + k)).toNat : Int) * 256 ^ k = (((bt l (4 * i + k)).toNat * 256 ^ k : Nat) : Int) by simp, or_u64 _ _ (by omega) (by omega), or_up _ _ _ h]
  rfl

set_option maxHeartbeats 1000000 in
set_option maxRecDepth 100000 in
theorem little_c (g o cap i : Nat) (l : List UInt8) (w : World) (h0 : w.cell? ⟨g, o, none⟩ = some (.int .u8 ((bt l (4 * i)).toNat : Int))) (h1 : w.cell? ⟨g, o + 1, none⟩ = some (.int .u8 ((bt l (4 * i + 1)).toNat : Int)))
    (h2 : w.cell? ⟨g, o + 2, none⟩ = some (.int .u8 ((bt l (4 * i + 2)).toNat : Int))) (h3 : w.cell? ⟨g, o + 3, none⟩ = some (.int .u8 ((bt l (4 * i + 3)).toNat : Int))) :
    Calls Try.prog 168 #[.slice (some ⟨g, o, none⟩) 4 cap] w fun e w' => e = .returned (.int .u64 ((upN l i 4 : Nat) : Int)) ∧ w' = w := by
  go_enter Try.func168, Try.ntmps168
  go_wp2_with fail
  go_loopg [3, 8] 4 (fun n x j wr => ∃ k : Nat, k + n = 4 ∧ j = .int .i64 k ∧ x = .int .u64 ((lowN l i k : Nat) : Int) ∧ wr = w)
  case atStart => exact ⟨0, by omega, rfl, rfl, rfl⟩
  case round =>
    obtain ⟨k, hk, rfl, rfl, rfl⟩ := hrel
    have hl := lowN_lt l i k
    have hb0 := byte_bd (bt l (4 * i))
    have hb1 := byte_bd (bt l (4 * i + 1))
    have hb2 := byte_bd (bt l (4 * i + 2))
    have hb3 := byte_bd (bt l (4 * i + 3))
    rcases k with _ | _ | _ | _ | k
    · go_wp2_with fail
      go_roundg (gk - 1)
      case measure => omega
      case rel =>
        refine ⟨1, by omega, by go_num, ?_, rfl⟩
        rw [← or_step l i 0 (by omega)]
        simp
    · go_wp2_with fail
      go_roundg (gk - 1)
      case measure => omega
      case rel =>
        refine ⟨2, by omega, by go_num, ?_, rfl⟩
        rw [← or_step l i 1 (by omega)]
        simp
    · go_wp2_with fail
      go_roundg (gk - 1)
      case measure => omega
      case rel =>
        refine ⟨3, by omega, by go_num, ?_, rfl⟩
        rw [← or_step l i 2 (by omega)]
        simp
    · go_wp2_with fail
      go_roundg (gk - 1)
      case measure => omega
      case rel =>
        refine ⟨4, by omega, by go_num, ?_, rfl⟩
        rw [← or_step l i 3 (by omega)]
        simp
    · obtain rfl : gk = 0 := by omega
      obtain rfl : k = 0 := by omega
      go_wp2_with fail
      go_ret
      exact ⟨by rw [← lowN_four]; rfl, rfl⟩

theorem slice4 (g k : Nat) (hk : k < 8) (w : World) : (Instr.sliceAt 24 (.pointer (some ⟨g, 0, none⟩)) (some (.int .i64 (4 * (k : Int)))) (some (.int .i64 (4 * (k : Int) + 4))) none).run Try.prog w = .ok (.slice (some ⟨g, 4 * k, none⟩) 4 (32 - 4 * k)) w := by
  unfold Instr.sliceAt
  go_simp
  rw [if_pos (by omega), if_pos (by omega), if_neg (by omega), show (4 * (k : Int) + 4).toNat - (4 * (k : Int)).toNat = 4 by omega, show (4 * (k : Int)).toNat = 4 * k by omega]

end Go.Proofs.Ytmbhaoiahlbglaa

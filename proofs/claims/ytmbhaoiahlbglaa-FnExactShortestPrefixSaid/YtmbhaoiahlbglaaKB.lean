/- Walks: the bits that two keys have in common. -/
import Derived.Test.YtmbhaoiahlbglaaKC
import Derived.Test.YtmbhaoiahlbglaaShelf
namespace Go.Proofs.Ytmbhaoiahlbglaa
open Go.RowKit
set_option linter.unusedVariables false
set_option linter.unusedSimpArgs false

theorem ret_int {k : IntKind} {a b : Int} (h : a = b) : Ending.returned (.int k a) = .returned (.int k b) := by rw [h]
/-- The i-th bit of some bytes, the highest one of each byte first. -/
def bitAt (x : List UInt8) (i : Nat) : Bool := (bt x (i / 8)).toNat / 2 ^ (7 - i % 8) % 2 == 1
theorem and_1 (m : Nat) (h : m < 256) : bits .and .u8 (m : Int) 1 = ((m % 2 : Nat) : Int) := by
  show IntKind.u8.wrap ((BitVec.ofInt 8 (m : Int) &&& BitVec.ofInt 8 1).toNat : Int) = _
  rw [BitVec.ofInt_natCast, BitVec.toNat_and, BitVec.toNat_ofNat, Nat.mod_eq_of_lt h]
  have e : (BitVec.ofInt 8 1).toNat = 2 ^ 1 - 1 := by decide
  rw [e, Nat.and_two_pow_sub_one_eq_mod]
  simp only [IntKind.wrap, IntKind.signed, IntKind.bits]
  simp
  omega
theorem bitAt_int (x : List UInt8) (k : Nat) : (bits .and .u8 (((bt x (k / 8)).toNat : Int) / 2 ^ (7 - k % 8)) 1 == 1) = bitAt x k := by
  have h : (((bt x (k / 8)).toNat : Int) / 2 ^ (7 - k % 8)) = (((bt x (k / 8)).toNat / 2 ^ (7 - k % 8) : Nat) : Int) := by simp
  have h2 : (bt x (k / 8)).toNat / 2 ^ (7 - k % 8) < 256 := Nat.lt_of_le_of_lt (Nat.div_le_self _ _) (bt x (k / 8)).toNat_lt
  rw [h, and_1 _ h2]
  unfold bitAt
  generalize (bt x (k / 8)).toNat / 2 ^ (7 - k % 8) = m
  rw [Bool.eq_iff_iff]
  simp only [beq_iff_eq]
  omega
/-- The first of n bits from i on that is 1, or the end. -/
def leadFrom (x : List UInt8) : Nat → Nat → Nat
  | 0, i => i
  | n + 1, i => if bitAt x i then i else leadFrom x n (i + 1)
theorem leadFrom_hit (x : List UInt8) (n i : Nat) (h : bitAt x i = true) : leadFrom x (n + 1) i = i := by simp [leadFrom, h]
theorem leadFrom_next (x : List UInt8) (n i : Nat) (h : bitAt x i = false) : leadFrom x (n + 1) i = leadFrom x n (i + 1) := by simp [leadFrom, h]
theorem leadFrom_skip (x : List UInt8) : ∀ (m n i : Nat), (∀ j, j < m → bitAt x (i + j) = false) → leadFrom x (n + m) i = leadFrom x n (i + m)
  | 0, n, i, _ => rfl
  | m + 1, n, i, h => by
    rw [← Nat.add_assoc, leadFrom_next x _ i (by simpa using h 0 (by omega)), leadFrom_skip x m n (i + 1) (fun j hj => by rw [show i + 1 + j = i + (j + 1) by omega]; exact h (j + 1) (by omega))]
    congr 1
    omega
theorem lz_bits : ∀ c, c < 256 → c ≠ 0 → (8 - Lib.bitLen c < 8 ∧ 8 - Lib.bitLen c + Lib.bitLen c = 8 ∧ c / 2 ^ (7 - (8 - Lib.bitLen c)) % 2 = 1 ∧ ∀ j, j < 8 - Lib.bitLen c → c / 2 ^ (7 - j) % 2 = 0) := by decide +kernel
/-- What a byte tells that is not 0, all bits ahead of it being 0. -/
theorem leadFrom_byte (x : List UInt8) (k n : Nat) (hc : (bt x k).toNat ≠ 0) : leadFrom x (n + 8) (8 * k) = 8 * k + (8 - Lib.bitLen (bt x k).toNat) := by
  obtain ⟨h1, h2, h3, h4⟩ := lz_bits (bt x k).toNat (bt x k).toNat_lt hc
  generalize 8 - Lib.bitLen (bt x k).toNat = z at h1 h3 h4 ⊢
  have e : n + 8 = (n + (8 - z)) + z := by omega
  rw [e, leadFrom_skip x z _ _ (fun j hj => by
    unfold bitAt
    rw [show (8 * k + j) / 8 = k by omega, show (8 * k + j) % 8 = j by omega, h4 j hj]
    rfl), show n + (8 - z) = (n + (7 - z)) + 1 by omega]
  refine leadFrom_hit x _ _ ?_
  unfold bitAt
  rw [show (8 * k + z) / 8 = k by omega, show (8 * k + z) % 8 = z by omega, h3]
  rfl
theorem leadFrom_zero (x : List UInt8) (k n : Nat) (hc : (bt x k).toNat = 0) : leadFrom x (n + 8) (8 * k) = leadFrom x n (8 * (k + 1)) := by
  rw [leadFrom_skip x 8 n (8 * k) (fun j hj => by
    unfold bitAt
    rw [show (8 * k + j) / 8 = k by omega, hc]
    simp), show 8 * (k + 1) = 8 * k + 8 by omega]

set_option maxHeartbeats 1000000 in
set_option maxRecDepth 100000 in
theorem specCommonBits_c (a b : List UInt8) (ha : a.length = 32) (hb : b.length = 32) (w : World) :
    Calls Try.prog 91 #[.agg (bA a), .agg (bA b)] w fun e w' => e = .returned (.int .i64 (leadFrom (xorL a b) 256 0)) ∧ Up w w' := by
  have HSa := Lib.hid (show (Try.prog.info? 25).map (·.size) = some (bA a).size by rw [bA_size, ha]; exact info_key)
  have HSb := Lib.hid (show (Try.prog.info? 25).map (·.size) = some (bA b).size by rw [bA_size, hb]; exact info_key)
  have HSx := Lib.hid (show (Try.prog.info? 25).map (·.size) = some (bA (xorL a b)).size by rw [bA_size, xorL_length _ _ (by omega), ha]; exact info_key)
  have HZ := Lib.hid (show (bA zero32).size = (bA (xorL a b)).size by rw [bA_size, bA_size, xorL_length _ _ (by omega), ha]; rfl)
  have HLx := Lib.hid (show (xorL a b).length = 32 by rw [xorL_length a b (by omega), ha])
  go_enter Try.func91, Try.ntmps91
  go_wp2_with (first
    | (refine wpList_load_row rfl 25 (.tmp 2) rfl _ rfl 25 (bA a) (0, 0) _ ((Blk.top rfl).alloc _) Try.underlying25 rfl (HSa.out) ?_)
    | (refine wpList_load_row rfl 25 (.tmp 3) rfl _ rfl 25 (bA b) (0, 0) _ ((Blk.top (by simp) : Blk _ (w.heap.size + 1) _ _)) Try.underlying25 rfl (HSb.out) ?_)
    | (go_at_call 122; (with_reducible refine (specl01Xor_c a b ha hb _).mono ?_); rintro e w' ⟨rfl, hb1⟩)
    | (refine wpList_store_row rfl 25 (.tmp 5) (.tmp 9) rfl _ (bA (xorL a b)) rfl rfl 25 (bA zero32) (Blk.top rfl) (HSx.out) (HZ.out) (bA_one _) ?_; rw [World.setRow_alloc_new]))
  clear ha hb
  have hu := ((((Up.refl w).alloc (.cells (bA a) 25)).alloc (.cells (bA b) 25)).trans hb1).alloc (.cells (bA (xorL a b)) 25)
  clear hb1
  have bx : Blk (w'.alloc (.cells (bA (xorL a b)) 25)) w'.heap.size 25 (bA (xorL a b)) := Blk.top rfl
  generalize hg : w'.heap.size = g at *
  clear hg
  go_loopg [6] 256 (fun n i wr => ∃ k : Nat, k + n = 256 ∧ i = .int .i64 k ∧ Hid (leadFrom (xorL a b) 256 0 = leadFrom (xorL a b) n k) ∧ Blk wr g 25 (bA (xorL a b)) ∧ Up w wr)
  case atStart => exact ⟨0, by omega, rfl, rfl, bx, hu⟩
  case round =>
    clear hu bx
    obtain ⟨k, hk, rfl, he, bx, hbel⟩ := hrel
    by_cases hlt : k < 256
    · have hx := HLx.out
      have c1 := bx.cell_ (bA_at (xorL a b) (k / 8) (by omega))
      have hb := byte_bd (bt (xorL a b) (k / 8))
      clear hx
      obtain ⟨n, rfl⟩ : ∃ n, gk = n + 1 := ⟨gk - 1, by omega⟩
      have BX := Lib.hid bx
      have HK := Lib.hid hk
      have BL := Lib.hid hbel
      have h7 : 0 ≤ 7 - (k : Int) % 8 := by omega
      have h8 : 7 - (k : Int) % 8 ≤ 7 := by omega
      clear hk bx hbel
      by_cases hbit : bitAt (xorL a b) k = true
      · have g1 := (bitAt_int (xorL a b) k).trans hbit
        have HE := Lib.hid (show leadFrom (xorL a b) 256 0 = k by rw [he.out, leadFrom_hit _ _ _ hbit])
        clear hbit
        go_wp2
        go_ret
        exact ⟨by rw [HE.out]; rfl, BL.out⟩
      · have hbit' : bitAt (xorL a b) k = false := by simpa using hbit
        have g1 := (bitAt_int (xorL a b) k).trans hbit'
        have HE := Lib.hid (show leadFrom (xorL a b) 256 0 = leadFrom (xorL a b) n (k + 1) by rw [he.out, leadFrom_next _ _ _ hbit'])
        clear hbit hbit'
        go_wp2
        have hk := HK.out
        go_roundg n
        case measure => omega
        case rel => exact ⟨k + 1, by omega, by go_num, HE, BX.out, BL.out⟩
    · obtain rfl : k = 256 := by omega
      obtain rfl : gk = 0 := by omega
      have HE := Lib.hid (show leadFrom (xorL a b) 256 0 = 256 from he.out)
      clear hk he
      go_wp2
      go_ret
      exact ⟨by rw [HE.out]; rfl, hbel⟩

end Go.Proofs.Ytmbhaoiahlbglaa

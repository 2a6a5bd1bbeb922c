/- Walks: halves of lists. -/
import Derived.Test.YtmbhaoiahlbglaaHL
import Derived.Test.YtmbhaoiahlbglaaShelf
namespace Go.Proofs.Ytmbhaoiahlbglaa
open Go.RowKit
set_option linter.unusedVariables false
set_option linter.unusedSimpArgs false

/-- The greatest power of two below n. -/
def halfN (n : Nat) : Nat := 2 ^ Nat.log2 (n - 1)
/-- The greatest power of two up to n. -/
def topN (n : Nat) : Nat := 2 ^ Nat.log2 n
theorem bitLen_small (x : Nat) (h : x < 600) (h0 : 0 < x) : Lib.bitLen x = Nat.log2 x + 1 := by
  have : ∀ x < 600, 0 < x → Lib.bitLen x = Nat.log2 x + 1 := by decide +kernel
  exact this x h h0
theorem halfN_lt (n : Nat) (h : 2 ≤ n) : halfN n < n := by
  have := Nat.log2_self_le (n := n - 1) (by omega)
  unfold halfN
  omega
theorem halfN_pos (n : Nat) : 0 < halfN n := Nat.two_pow_pos _
theorem topN_pos (n : Nat) : 0 < topN n := Nat.two_pow_pos _
theorem topN_le (n : Nat) (h : 0 < n) : topN n ≤ n := Nat.log2_self_le (by omega)
theorem halfN_of (n k j : Nat) (hk : k = 2 ^ j) (h1 : j = 0 ∨ k < n) (h2 : ¬ 2 * k < n) : k = halfN n := by
  subst hk
  unfold halfN
  congr 1
  rcases h1 with rfl | h1
  · have : n - 1 = 0 ∨ n - 1 = 1 := by simp at h2; omega
    rcases this with h | h <;> rw [h] <;> decide
  · have : n - 1 ≠ 0 := by have := Nat.two_pow_pos j; omega
    exact ((Nat.log2_eq_iff this).2 ⟨by omega, by rw [Nat.pow_succ]; omega⟩).symm

set_option maxHeartbeats 1000000 in
set_option maxRecDepth 100000 in
theorem l03Half_c (n : Nat) (hn : n ≤ 1000000000000) (w : World) : Ret Try.prog 103 #[.int .i64 (n : Int)] w fun r _ => r = .int .i64 (halfN n : Int) := by
  refine ret_start fun wx M => ?_
  go_enter Try.func103, Try.ntmps103
  go_wp2_with fail
  go_loopg [3] n (fun q x wr => ∃ (k : Nat), x = .int .i64 (k : Int) ∧ 1 ≤ k ∧ k ≤ n + 1 ∧ q = n + 1 - k ∧ Hid (∃ j, k = 2 ^ j ∧ (j = 0 ∨ k < n)) ∧ Mem w wr [])
  case atStart => exact ⟨1, rfl, by omega, by omega, by omega, Lib.hid ⟨0, rfl, .inl rfl⟩, M⟩
  case round =>
    obtain ⟨k, rfl, hk1, hk2, hq, HK, M⟩ := hrel
    by_cases hlt : 2 * k < n
    · have HQ := Lib.hid hq
      clear hq
      go_wp2_with fail
      have hq := HQ.out
      go_roundg (n + 1 - 2 * k)
      case measure => omega
      case rel =>
        refine ⟨2 * k, by go_num, by omega, by omega, rfl, ?_, M⟩
        obtain ⟨j, h1, h2⟩ := HK.out
        exact Lib.hid ⟨j + 1, by rw [Nat.pow_succ]; omega, .inr hlt⟩
    · have HE := Lib.hid (show k = halfN n by obtain ⟨j, h1, h2⟩ := HK.out; exact halfN_of n k j h1 h2 hlt)
      clear hq
      go_wp2_with fail
      go_ret
      exact ⟨_, rfl, by rw [← HE.out]; rfl, M.up⟩

set_option maxHeartbeats 1000000 in
set_option maxRecDepth 100000 in
theorem leftOf_c (n : Nat) (h2 : 2 ≤ n) (hn : n ≤ 300) (w : World) : Ret Try.prog 106 #[.int .i64 (n : Int)] w fun r _ => r = .int .i64 (halfN n : Int) := by
  have HL : Hid (∀ w, Ret Try.prog 140 #[.int .u64 ((n : Int) - 1)] w fun r _ => r = .int .i64 ((Nat.log2 (n - 1) + 1 : Nat) : Int)) := Lib.hid (fun w => by
    have := Ret.same (Try.bits_Len64 ((n : Int) - 1) w (by omega) (by omega))
    rw [show ((n : Int) - 1).toNat = n - 1 by omega, bitLen_small _ (by omega) (by omega)] at this
    exact this)
  have hlog : Nat.log2 (n - 1) < 9 := (Nat.log2_lt (by omega)).2 (by omega)
  have HE := Lib.hid (show halfN n = 2 ^ Nat.log2 (n - 1) from rfl)
  generalize Nat.log2 (n - 1) = L at *
  refine ret_start fun wx M => ?_
  have : L = 0 ∨ L = 1 ∨ L = 2 ∨ L = 3 ∨ L = 4 ∨ L = 5 ∨ L = 6 ∨ L = 7 ∨ L = 8 := by omega
  rcases this with rfl | rfl | rfl | rfl | rfl | rfl | rfl | rfl | rfl <;>
  · go_enter Try.func106, Try.ntmps106
    go_wp2_with (first
      | (go_at_call 140; (with_reducible refine mem_call M (HL.out _) ?_); clear M; (try clear wx); rintro _ wx rfl _ M))
    go_ret
    exact ⟨_, rfl, by rw [HE.out]; rfl, M.up⟩

end Go.Proofs.Ytmbhaoiahlbglaa

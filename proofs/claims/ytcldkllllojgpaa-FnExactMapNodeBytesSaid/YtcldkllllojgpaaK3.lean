/- Walks: small functions on numbers. -/
import Derived.Test.YtcldkllllojgpaaRows
import Derived.Test.YtcldkllllojgpaaBase
import Derived.Test.YtcldkllllojgpaaReg
namespace Go.Proofs.Ytcldkllllojgpaa
open Go.RowKit
set_option linter.unusedVariables false
set_option linter.unusedSimpArgs false

/-- Is n from lo to hi? -/
def inB (n lo hi : Int) : Bool := decide (lo ≤ n) && decide (n ≤ hi)

theorem l00In_c (n lo hi : Int) (w : World) : Calls Try.prog 28 #[.int .i64 n, .int .i64 lo, .int .i64 hi] w fun e w' => e = .returned (.bool (inB n lo hi)) ∧ w' = w := by
  by_cases h1 : lo ≤ n
  · have g1 : decide (lo ≤ n) = true := by simpa using h1
    have e1 : inB n lo hi = decide (n ≤ hi) := by simp [inB, h1]
    have E1 := Lib.hid e1
    clear h1 e1
    go_enter Try.func28, Try.ntmps28
    go_wp2
    go_ret
    exact ⟨by rw [E1.out]; rfl, rfl⟩
  · have g1 : decide (lo ≤ n) = false := by simpa using h1
    have e1 : inB n lo hi = false := by simp [inB, h1]
    have E1 := Lib.hid e1
    clear h1 e1
    go_enter Try.func28, Try.ntmps28
    go_wp2
    go_ret
    exact ⟨by rw [E1.out]; rfl, rfl⟩

theorem within_c (n lo hi : Int) (w : World) : Calls Try.prog 31 #[.int .i64 n, .int .i64 lo, .int .i64 hi] w fun e w' => e = .returned (.bool (inB n lo hi)) ∧ w' = w := by
  by_cases h1 : lo ≤ n
  · have g1 : decide (lo ≤ n) = true := by simpa using h1
    have e1 : inB n lo hi = decide (n ≤ hi) := by simp [inB, h1]
    have E1 := Lib.hid e1
    clear h1 e1
    go_enter Try.func31, Try.ntmps31
    go_wp2
    go_ret
    exact ⟨by rw [E1.out]; rfl, rfl⟩
  · have g1 : decide (lo ≤ n) = false := by simpa using h1
    have e1 : inB n lo hi = false := by simp [inB, h1]
    have E1 := Lib.hid e1
    clear h1 e1
    go_enter Try.func31, Try.ntmps31
    go_wp2
    go_ret
    exact ⟨by rw [E1.out]; rfl, rfl⟩


theorem l00In_b (n lo hi : Int) (b : Bool) (h : inB n lo hi = b) (w : World) : Calls Try.prog 28 #[.int .i64 n, .int .i64 lo, .int .i64 hi] w fun e w' => e = .returned (.bool b) ∧ w' = w :=
  (l00In_c n lo hi w).mono fun e w' ⟨he, hw⟩ => ⟨by rw [he, h], hw⟩

theorem within_b (n lo hi : Int) (b : Bool) (h : inB n lo hi = b) (w : World) : Calls Try.prog 31 #[.int .i64 n, .int .i64 lo, .int .i64 hi] w fun e w' => e = .returned (.bool b) ∧ w' = w :=
  (within_c n lo hi w).mono fun e w' ⟨he, hw⟩ => ⟨by rw [he, h], hw⟩

/-- Is a rule with these three numbers valid? -/
def okRule (a b c : Int) : Bool := inB a 1 64 && inB b a 256 && inB c 0 8

end Go.Proofs.Ytcldkllllojgpaa

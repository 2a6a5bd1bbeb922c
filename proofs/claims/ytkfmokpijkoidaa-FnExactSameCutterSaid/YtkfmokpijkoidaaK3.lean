/- Walks: small functions on numbers. -/
import Derived.Test.YtkfmokpijkoidaaRows
import Derived.Test.YtkfmokpijkoidaaBase
import Derived.Test.YtkfmokpijkoidaaReg
namespace Go.Proofs.Ytkfmokpijkoidaa
open Go.RowKit
set_option linter.unusedVariables false
set_option linter.unusedSimpArgs false

/-- Is n from lo to hi? -/
def inB (n lo hi : Int) : Bool := decide (lo ≤ n) && decide (n ≤ hi)

theorem l00In_c (n lo hi : Int) (w : World) : Calls Try.prog 108 #[.int .i64 n, .int .i64 lo, .int .i64 hi] w fun e w' => e = .returned (.bool (inB n lo hi)) ∧ w' = w := by
  by_cases h1 : lo ≤ n
  · have g1 : decide (lo ≤ n) = true := by simpa using h1
    have e1 : inB n lo hi = decide (n ≤ hi) := by simp [inB, h1]
    have E1 := Lib.hid e1
    clear h1 e1
    go_enter Try.func108, Try.ntmps108
    go_wp2
    go_ret
    exact ⟨by rw [E1.out]; rfl, rfl⟩
  · have g1 : decide (lo ≤ n) = false := by simpa using h1
    have e1 : inB n lo hi = false := by simp [inB, h1]
    have E1 := Lib.hid e1
    clear h1 e1
    go_enter Try.func108, Try.ntmps108
    go_wp2
    go_ret
    exact ⟨by rw [E1.out]; rfl, rfl⟩

theorem within_c (n lo hi : Int) (w : World) : Calls Try.prog 109 #[.int .i64 n, .int .i64 lo, .int .i64 hi] w fun e w' => e = .returned (.bool (inB n lo hi)) ∧ w' = w := by
  by_cases h1 : lo ≤ n
  · have g1 : decide (lo ≤ n) = true := by simpa using h1
    have e1 : inB n lo hi = decide (n ≤ hi) := by simp [inB, h1]
    have E1 := Lib.hid e1
    clear h1 e1
    go_enter Try.func109, Try.ntmps109
    go_wp2
    go_ret
    exact ⟨by rw [E1.out]; rfl, rfl⟩
  · have g1 : decide (lo ≤ n) = false := by simpa using h1
    have e1 : inB n lo hi = false := by simp [inB, h1]
    have E1 := Lib.hid e1
    clear h1 e1
    go_enter Try.func109, Try.ntmps109
    go_wp2
    go_ret
    exact ⟨by rw [E1.out]; rfl, rfl⟩


theorem l00In_b (n lo hi : Int) (b : Bool) (h : inB n lo hi = b) (w : World) : Calls Try.prog 108 #[.int .i64 n, .int .i64 lo, .int .i64 hi] w fun e w' => e = .returned (.bool b) ∧ w' = w :=
  (l00In_c n lo hi w).mono fun e w' ⟨he, hw⟩ => ⟨by rw [he, h], hw⟩

theorem within_b (n lo hi : Int) (b : Bool) (h : inB n lo hi = b) (w : World) : Calls Try.prog 109 #[.int .i64 n, .int .i64 lo, .int .i64 hi] w fun e w' => e = .returned (.bool b) ∧ w' = w :=
  (within_c n lo hi w).mono fun e w' ⟨he, hw⟩ => ⟨by rw [he, h], hw⟩

/-- Is a rule with these three numbers valid? -/
def okRule (a b c : Int) : Bool := inB a 1 64 && inB b a 256 && inB c 0 8

set_option maxHeartbeats 1000000 in
set_option maxRecDepth 100000 in
theorem l02Ok_c (g t : Nat) (cs : Array Value) (a b c : Int) (w : World) (hb : Blk w g t cs) (e0 : cs[0]? = some (.int .i64 a)) (e1 : cs[1]? = some (.int .i64 b)) (e2 : cs[2]? = some (.int .i64 c)) :
    Calls Try.prog 88 #[.pointer (some ⟨g, 0, none⟩)] w fun e w' => e = .returned (.bool (okRule a b c)) ∧ ∃ n, w' = w.drewN n := by
  have c0 := hb.cell_ e0
  have c1 := hb.cell_ e1
  have c2 := hb.cell_ e2
  clear hb e0 e1 e2
  by_cases h1 : inB a 1 64 = true
  · by_cases h2 : inB b a 256 = true
    · have HE := Lib.hid (show okRule a b c = inB c 0 8 by simp [okRule, h1, h2])
      have H1 := Lib.hid h1
      have H2 := Lib.hid h2
      clear h1 h2
      go_enter Try.func88, Try.ntmps88
      go_wp2_with fail
      go_quiet ((first
        | (go_at_call 108; with_reducible exact Calls.quiet_of_same (l00In_b a 1 64 true H1.out _))
        | (go_at_call 108; with_reducible exact Calls.quiet_of_same (l00In_b b a 256 true H2.out _))
        | (go_at_call 108; with_reducible exact Calls.quiet_of_same (l00In_c c 0 8 _))))
      go_wp2_with fail
      go_ret
      exact ⟨by rw [HE.out]; rfl, _, rfl⟩
    · have h2' : inB b a 256 = false := by simpa using h2
      have HE := Lib.hid (show okRule a b c = false by simp [okRule, h1, h2'])
      have H1 := Lib.hid h1
      have H2 := Lib.hid h2'
      clear h1 h2 h2'
      go_enter Try.func88, Try.ntmps88
      go_wp2_with fail
      go_quiet ((first
        | (go_at_call 108; with_reducible exact Calls.quiet_of_same (l00In_b a 1 64 true H1.out _))
        | (go_at_call 108; with_reducible exact Calls.quiet_of_same (l00In_b b a 256 false H2.out _))))
      go_wp2_with fail
      go_ret
      exact ⟨by rw [HE.out]; rfl, _, rfl⟩
  · have h1' : inB a 1 64 = false := by simpa using h1
    have HE := Lib.hid (show okRule a b c = false by simp [okRule, h1'])
    have H1 := Lib.hid h1'
    clear h1 h1'
    go_enter Try.func88, Try.ntmps88
    go_wp2_with fail
    go_quiet ((go_at_call 108; with_reducible exact Calls.quiet_of_same (l00In_b a 1 64 false H1.out _)))
    go_wp2_with fail
    go_ret
    exact ⟨by rw [HE.out]; rfl, _, rfl⟩

end Go.Proofs.Ytkfmokpijkoidaa

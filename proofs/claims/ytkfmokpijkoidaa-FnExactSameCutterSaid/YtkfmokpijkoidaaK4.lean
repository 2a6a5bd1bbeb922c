/- Walks: rules. -/
import Derived.Test.YtkfmokpijkoidaaK3
namespace Go.Proofs.Ytkfmokpijkoidaa
open Go.RowKit
set_option linter.unusedVariables false
set_option linter.unusedSimpArgs false

/-- A rule as a value. -/
abbrev ruleV (a b c : Int) : Value := .agg #[.int .i64 a, .int .i64 b, .int .i64 c]

set_option maxHeartbeats 400000 in
theorem toCutRule_c (a b c : Int) (w : World) : Calls Try.prog 41 #[ruleV a b c] w fun e w' => e = .returned (ruleV a b c) ∧ Up w w' := by
  unfold ruleV
  go_enter Try.func41, Try.ntmps41
  go_wp2
  refine bodyPost_ret (v := .agg #[.int .i64 a, .int .i64 b, .int .i64 c]) (by simp [results, Try.results41, go_sem]) rfl ⟨rfl, ?_⟩
  repeat (first | exact Up.refl _ | refine Up.alloc ?_ _ | refine Up.setCell ?_ (by simp) _)

set_option maxHeartbeats 400000 in
theorem implValidRule_c (a b c : Int) (w : World) : Calls Try.prog 89 #[ruleV a b c] w fun e w' => e = .returned (.bool (okRule a b c)) ∧ Up w w' := by
  unfold ruleV
  by_cases h1 : inB a 1 64 = true
  · by_cases h2 : inB b a 256 = true
    · have HE := Lib.hid (show okRule a b c = inB c 0 8 by simp [okRule, h1, h2])
      have H1 := Lib.hid h1
      have H2 := Lib.hid h2
      clear h1 h2
      go_enter Try.func89, Try.ntmps89
      go_wp2_with (first
        | (go_at_call 109; (with_reducible refine (within_b a 1 64 true H1.out _).mono ?_); rintro e w' ⟨rfl, rfl⟩)
        | (go_at_call 109; (with_reducible refine (within_b b a 256 true H2.out _).mono ?_); rintro e w' ⟨rfl, rfl⟩)
        | (go_at_call 109; (with_reducible refine (within_c c 0 8 _).mono ?_); rintro e w' ⟨rfl, rfl⟩))
      go_ret
      exact ⟨by rw [HE.out]; rfl, (Up.refl _).alloc _⟩
    · have h2' : inB b a 256 = false := by simpa using h2
      have HE := Lib.hid (show okRule a b c = false by simp [okRule, h1, h2'])
      have H1 := Lib.hid h1
      have H2 := Lib.hid h2'
      clear h1 h2 h2'
      go_enter Try.func89, Try.ntmps89
      go_wp2_with (first
        | (go_at_call 109; (with_reducible refine (within_b a 1 64 true H1.out _).mono ?_); rintro e w' ⟨rfl, rfl⟩)
        | (go_at_call 109; (with_reducible refine (within_b b a 256 false H2.out _).mono ?_); rintro e w' ⟨rfl, rfl⟩))
      go_ret
      exact ⟨by rw [HE.out]; rfl, (Up.refl _).alloc _⟩
  · have h1' : inB a 1 64 = false := by simpa using h1
    have HE := Lib.hid (show okRule a b c = false by simp [okRule, h1'])
    have H1 := Lib.hid h1'
    clear h1 h1'
    go_enter Try.func89, Try.ntmps89
    go_wp2_with (go_at_call 109; (with_reducible refine (within_b a 1 64 false H1.out _).mono ?_); rintro e w' ⟨rfl, rfl⟩)
    go_ret
    exact ⟨by rw [HE.out]; rfl, (Up.refl _).alloc _⟩

end Go.Proofs.Ytkfmokpijkoidaa

/- Walks: rules. -/
import Derived.Test.YtmganlabhkogcaaK3
namespace Go.Proofs.Ytmganlabhkogcaa
open Go.RowKit
set_option linter.unusedVariables false
set_option linter.unusedSimpArgs false

/-- A rule as a value. -/
abbrev ruleV (a b c : Int) : Value := .agg #[.int .i64 a, .int .i64 b, .int .i64 c]

set_option maxHeartbeats 400000 in
theorem toCutRule_c (a b c : Int) (w : World) : Calls Try.prog 18 #[ruleV a b c] w fun e w' => e = .returned (ruleV a b c) ∧ Up w w' := by
  unfold ruleV
  go_enter Try.func18, Try.ntmps18
  go_wp2
  refine bodyPost_ret (v := .agg #[.int .i64 a, .int .i64 b, .int .i64 c]) (by simp [results, Try.results18, go_sem]) rfl ⟨rfl, ?_⟩
  repeat (first | exact Up.refl _ | refine Up.alloc ?_ _ | refine Up.setCell ?_ (by simp) _)

set_option maxHeartbeats 400000 in
theorem specValidRule_c (a b c : Int) (w : World) : Calls Try.prog 17 #[ruleV a b c] w fun e w' => e = .returned (.bool (okRule a b c)) ∧ Up w w' := by
  unfold ruleV
  go_enter Try.func17, Try.ntmps17
  go_wp2_with (go_at_call 47; (with_reducible refine (l02Ok_c _ _ _ a b c _ (Blk.top rfl) rfl rfl rfl).mono ?_); rintro e w' ⟨rfl, n, rfl⟩)
  go_ret
  exact ⟨rfl, ((Up.refl _).alloc _).drewN _⟩

set_option maxHeartbeats 400000 in
theorem implValidRule_c (a b c : Int) (w : World) : Calls Try.prog 19 #[ruleV a b c] w fun e w' => e = .returned (.bool (okRule a b c)) ∧ Up w w' := by
  unfold ruleV
  by_cases h1 : inB a 1 64 = true
  · by_cases h2 : inB b a 256 = true
    · have HE := Lib.hid (show okRule a b c = inB c 0 8 by simp [okRule, h1, h2])
      have H1 := Lib.hid h1
      have H2 := Lib.hid h2
      clear h1 h2
      go_enter Try.func19, Try.ntmps19
      go_wp2_with (first
        | (go_at_call 48; (with_reducible refine (within_b a 1 64 true H1.out _).mono ?_); rintro e w' ⟨rfl, rfl⟩)
        | (go_at_call 48; (with_reducible refine (within_b b a 256 true H2.out _).mono ?_); rintro e w' ⟨rfl, rfl⟩)
        | (go_at_call 48; (with_reducible refine (within_c c 0 8 _).mono ?_); rintro e w' ⟨rfl, rfl⟩))
      go_ret
      exact ⟨by rw [HE.out]; rfl, (Up.refl _).alloc _⟩
    · have h2' : inB b a 256 = false := by simpa using h2
      have HE := Lib.hid (show okRule a b c = false by simp [okRule, h1, h2'])
      have H1 := Lib.hid h1
      have H2 := Lib.hid h2'
      clear h1 h2 h2'
      go_enter Try.func19, Try.ntmps19
      go_wp2_with (first
        | (go_at_call 48; (with_reducible refine (within_b a 1 64 true H1.out _).mono ?_); rintro e w' ⟨rfl, rfl⟩)
        | (go_at_call 48; (with_reducible refine (within_b b a 256 false H2.out _).mono ?_); rintro e w' ⟨rfl, rfl⟩))
      go_ret
      exact ⟨by rw [HE.out]; rfl, (Up.refl _).alloc _⟩
  · have h1' : inB a 1 64 = false := by simpa using h1
    have HE := Lib.hid (show okRule a b c = false by simp [okRule, h1'])
    have H1 := Lib.hid h1'
    clear h1 h1'
    go_enter Try.func19, Try.ntmps19
    go_wp2_with (go_at_call 48; (with_reducible refine (within_b a 1 64 false H1.out _).mono ?_); rintro e w' ⟨rfl, rfl⟩)
    go_ret
    exact ⟨by rw [HE.out]; rfl, (Up.refl _).alloc _⟩

set_option maxHeartbeats 400000 in
theorem lawValidRule_c (a b c : Int) (w : World) : Calls Try.prog 5 #[ruleV a b c] w fun e w' => e = .returned (.bool true) ∧ Up w w' := by
  have b0 : Blk (w.alloc (.cells #[.int .i64 a, .int .i64 b, .int .i64 c] 26)) w.heap.size 26 #[.int .i64 a, .int .i64 b, .int .i64 c] := Blk.top rfl
  have B0 := Lib.hid b0
  clear b0
  unfold ruleV
  have HI := Lib.hid (show (Try.prog.info? 26).map (·.size) = some 3 by kernel_rfl)
  go_enter Try.func5, Try.ntmps5
  go_wp2_with fail
  (with_reducible refine (toCutRule_c a b c _).mono ?_)
  rintro e w1 ⟨rfl, hb1⟩
  go_wp2_with fail
  (with_reducible refine (specValidRule_c a b c _).mono ?_)
  rintro e w2 ⟨rfl, hb2⟩
  go_wp2_with (refine wpList_load_row rfl 26 (.tmp 1) rfl _ rfl 26 (#[.int .i64 a, .int .i64 b, .int .i64 c]) (0, 0) _ ((B0.out.up hb1).up hb2) Try.underlying26 rfl (HI.out) ?_)
  (with_reducible refine (toCutRule_c a b c _).mono ?_)
  rintro e w3 ⟨rfl, hb3⟩
  go_wp2_with fail
  (with_reducible refine (implValidRule_c a b c _).mono ?_)
  rintro e w4 ⟨rfl, hb4⟩
  go_wp2_with fail
  go_ret
  exact ⟨rfl, ((((Up.refl _).alloc _).trans hb1).trans hb2).trans (hb3.trans hb4)⟩

end Go.Proofs.Ytmganlabhkogcaa

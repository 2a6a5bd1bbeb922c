/- Walks: names of codes. -/
import Derived.Test.YtmganlabhkogcaaRows
import Derived.Test.YtmganlabhkogcaaK3
import Derived.Test.YtmganlabhkogcaaReg
namespace Go.Proofs.Ytmganlabhkogcaa
open Go.RowKit
set_option linter.unusedVariables false
set_option linter.unusedSimpArgs false

/-- The name of an error code. -/
def codeNm (c : Int) : ByteArray :=
  if c = 0 then ⟨#[111, 107]⟩ else
  if c = 1 then ⟨#[105, 110, 118, 97, 108, 105, 100]⟩ else
  if c = 2 then ⟨#[114, 97, 110, 103, 101]⟩ else
  if c = 3 then ⟨#[108, 105, 109, 105, 116]⟩ else
  if c = 4 then ⟨#[115, 116, 97, 116, 101]⟩ else
  if c = 5 then ⟨#[115, 121, 110, 116, 97, 120]⟩ else
  if c = 6 then ⟨#[110, 111, 116, 102, 111, 117, 110, 100]⟩ else
  if c = 7 then ⟨#[98, 117, 100, 103, 101, 116]⟩ else
  if c = 8 then ⟨#[112, 114, 111, 111, 102]⟩ else ⟨#[]⟩
theorem codeNm_out (c : Int) (h : c < 0 ∨ 8 < c) : codeNm c = ⟨#[]⟩ := by
  unfold codeNm
  repeat rw [if_neg (by omega)]

set_option maxHeartbeats 1000000 in
set_option maxRecDepth 100000 in
theorem specCodeName_c (c : Int) (w : World) : Calls Try.prog 15 #[.int .i64 c] w fun e w' => e = .returned (.string (codeNm c)) ∧ Up w w' := by
  by_cases h : 0 ≤ c ∧ c ≤ 8
  · have hi : inB c 0 8 = true := by simp [inB, h.1, h.2]
    have HI := Lib.hid hi
    clear hi
    have hc : c = 0 ∨ c = 1 ∨ c = 2 ∨ c = 3 ∨ c = 4 ∨ c = 5 ∨ c = 6 ∨ c = 7 ∨ c = 8 := by omega
    clear h
    rcases hc with rfl | rfl | rfl | rfl | rfl | rfl | rfl | rfl | rfl
    all_goals
      (go_enter Try.func15, Try.ntmps15
       go_wp2_with (go_at_call 46; (with_reducible refine (l00In_c _ 0 8 _).mono ?_); rintro e w' ⟨rfl, rfl⟩; rw [HI.out])
       go_ret
       exact ⟨rfl, (Up.refl _).alloc _⟩)
  · have hi : inB c 0 8 = false := by
      simp only [inB, Bool.and_eq_false_iff, decide_eq_false_iff_not]
      omega
    have HI := Lib.hid hi
    have HC := Lib.hid (codeNm_out c (by omega))
    clear hi h
    go_enter Try.func15, Try.ntmps15
    go_wp2_with (go_at_call 46; (with_reducible refine (l00In_c c 0 8 _).mono ?_); rintro e w' ⟨rfl, rfl⟩; rw [HI.out])
    go_ret
    exact ⟨by rw [HC.out]; rfl, (Up.refl _).alloc _⟩

set_option maxHeartbeats 1000000 in
set_option maxRecDepth 100000 in
theorem implCodeName_c (c : Int) (w : World) : Calls Try.prog 16 #[.int .i64 c] w fun e w' => e = .returned (.string (codeNm c)) ∧ Up w w' := by
  by_cases h : 0 ≤ c ∧ c ≤ 8
  · have hc : c = 0 ∨ c = 1 ∨ c = 2 ∨ c = 3 ∨ c = 4 ∨ c = 5 ∨ c = 6 ∨ c = 7 ∨ c = 8 := by omega
    clear h
    rcases hc with rfl | rfl | rfl | rfl | rfl | rfl | rfl | rfl | rfl
    all_goals
      (go_enter Try.func16, Try.ntmps16
       go_wp2
       go_ret
       exact ⟨rfl, by repeat (first | exact Up.refl _ | refine Up.alloc ?_ _ | refine Up.setCell ?_ (by simp) _)⟩)
  · have HC := Lib.hid (codeNm_out c (by omega))
    by_cases h0 : c < 0
    · have g0 : decide (c < 0) = true := by simpa using h0
      clear h h0
      go_enter Try.func16, Try.ntmps16
      go_wp2
      go_ret
      exact ⟨by rw [HC.out]; rfl, by repeat (first | exact Up.refl _ | refine Up.alloc ?_ _ | refine Up.setCell ?_ (by simp) _)⟩
    · have g0 : decide (c < 0) = false := by simpa using h0
      have g1 : decide (9 ≤ c) = true := by simp; omega
      clear h h0
      go_enter Try.func16, Try.ntmps16
      go_wp2
      go_ret
      exact ⟨by rw [HC.out]; rfl, by repeat (first | exact Up.refl _ | refine Up.alloc ?_ _ | refine Up.setCell ?_ (by simp) _)⟩

theorem lawCodeName_c (c : Int) (w : World) : Calls Try.prog 4 #[.int .i64 c] w fun e w' => e = .returned (.bool true) ∧ Up w w' := by
  go_enter Try.func4, Try.ntmps4
  go_wp2_with (first
    | (go_at_call 15; (with_reducible refine (specCodeName_c c _).mono ?_); rintro e w' ⟨rfl, hb1⟩)
    | (go_at_call 16; (with_reducible refine (implCodeName_c c _).mono ?_); rintro e w' ⟨rfl, hb2⟩))
  go_ret
  exact ⟨rfl, hb1.trans hb2⟩

end Go.Proofs.Ytmganlabhkogcaa

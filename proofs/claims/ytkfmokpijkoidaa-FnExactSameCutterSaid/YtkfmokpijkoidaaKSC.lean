/- Walks: two cutters compared. -/
import Derived.Test.YtkfmokpijkoidaaKCut
import Derived.Test.YtkfmokpijkoidaaKEq
import Derived.Test.YtkfmokpijkoidaaKBe
namespace Go.Proofs.Ytkfmokpijkoidaa
open Go.RowKit
set_option linter.unusedVariables false
set_option linter.unusedSimpArgs false

/-- Are two cutters equal? -/
def sameC (a b c a' b' c' : Int) (r r' : UInt32) (x y : List UInt8) : Bool := (decide (a = a') && (decide (b = b') && decide (c = c'))) && (decide (r = r') && decide (x = y))

set_option maxHeartbeats 1000000 in
set_option maxRecDepth 100000 in
theorem specSameCutter_c (a b c a' b' c' : Int) (r r' : UInt32) (va vb : Value) (x y : List UInt8) (w : World) (ha : RdB w va x) (hb : RdB w vb y) :
    Calls Try.prog 36 #[.agg (cutC a b c r va), .agg (cutC a' b' c' r' vb)] w fun e w' => e = .returned (.bool (sameC a b c a' b' c' r r' x y)) ∧ Up w w' := by
  unfold cutC
  have HR := Lib.hid (And.intro ((ha.alloc (.cells #[.int .i64 a, .int .i64 b, .int .i64 c, .int .u32 (r.toNat : Int), va] 57)).alloc (.cells #[.int .i64 a', .int .i64 b', .int .i64 c', .int .u32 (r'.toNat : Int), vb] 57)) ((hb.alloc (.cells #[.int .i64 a, .int .i64 b, .int .i64 c, .int .u32 (r.toNat : Int), va] 57)).alloc (.cells #[.int .i64 a', .int .i64 b', .int .i64 c', .int .u32 (r'.toNat : Int), vb] 57)))
  clear ha hb
  by_cases h1 : a = a' ∧ b = b' ∧ c = c' ∧ r = r'
  · obtain ⟨rfl, rfl, rfl, rfl⟩ := h1
    have HE := Lib.hid (show sameC a b c a b c r r x y = decide (x = y) by simp [sameC])
    go_enter Try.func36, Try.ntmps36
    go_wp2_with (go_at_call 85; (with_reducible refine (l01Bytes_c va vb x y _ HR.out.1 HR.out.2).mono ?_); rintro e w' ⟨rfl, m, rfl⟩)
    go_ret
    exact ⟨by rw [HE.out]; rfl, (((Up.refl _).alloc _).alloc _).drewN _⟩
  · have HE := Lib.hid (show sameC a b c a' b' c' r r' x y = false by
      simp only [sameC, Bool.and_eq_false_imp, Bool.and_eq_true, decide_eq_true_eq, decide_eq_false_iff_not]
      intro ⟨e1, e2, e3⟩ e4
      exact absurd ⟨e1, e2, e3, e4⟩ h1)
    have HX : a = a' → b = b' → c = c' → ((r.toNat : Int) == (r'.toNat : Int)) = false := fun e1 e2 e3 => by
      rw [beq_eq_false_iff_ne]
      exact fun e => h1 ⟨e1, e2, e3, UInt32.toNat_inj.1 (by omega)⟩
    have HXX := Lib.hid HX
    clear h1 HX
    by_cases q1 : a = a'
    · by_cases q2 : b = b'
      · by_cases q3 : c = c'
        · have g := HXX.out q1 q2 q3
          subst q1 q2 q3
          go_enter Try.func36, Try.ntmps36
          go_wp2
          go_ret
          exact ⟨by rw [HE.out]; rfl, ((Up.refl _).alloc _).alloc _⟩
        · have g : (c == c') = false := by rw [beq_eq_false_iff_ne]; exact q3
          subst q1 q2
          go_enter Try.func36, Try.ntmps36
          go_wp2
          go_ret
          exact ⟨by rw [HE.out]; rfl, ((Up.refl _).alloc _).alloc _⟩
      · have g : (b == b') = false := by rw [beq_eq_false_iff_ne]; exact q2
        subst q1
        go_enter Try.func36, Try.ntmps36
        go_wp2
        go_ret
        exact ⟨by rw [HE.out]; rfl, ((Up.refl _).alloc _).alloc _⟩
    · have g : (a == a') = false := by rw [beq_eq_false_iff_ne]; exact q1
      go_enter Try.func36, Try.ntmps36
      go_wp2
      go_ret
      exact ⟨by rw [HE.out]; rfl, ((Up.refl _).alloc _).alloc _⟩

set_option maxHeartbeats 1000000 in
set_option maxRecDepth 100000 in
theorem implSameCutter_c (a b c a' b' c' : Int) (r r' : UInt32) (va vb : Value) (x y : List UInt8) (w : World) (ha : RdB w va x) (hb : RdB w vb y) :
    Calls Try.prog 38 #[.agg (cutC a b c r va), .agg (cutC a' b' c' r' vb)] w fun e w' => e = .returned (.bool (sameC a b c a' b' c' r r' x y)) ∧ Up w w' := by
  unfold cutC
  have HR := Lib.hid (And.intro ((ha.alloc (.cells #[.int .i64 a, .int .i64 b, .int .i64 c, .int .u32 (r.toNat : Int), va] 57)).alloc (.cells #[.int .i64 a', .int .i64 b', .int .i64 c', .int .u32 (r'.toNat : Int), vb] 57)) ((hb.alloc (.cells #[.int .i64 a, .int .i64 b, .int .i64 c, .int .u32 (r.toNat : Int), va] 57)).alloc (.cells #[.int .i64 a', .int .i64 b', .int .i64 c', .int .u32 (r'.toNat : Int), vb] 57)))
  clear ha hb
  by_cases h1 : a = a' ∧ b = b' ∧ c = c' ∧ r = r'
  · obtain ⟨rfl, rfl, rfl, rfl⟩ := h1
    have HE := Lib.hid (show sameC a b c a b c r r x y = decide (x = y) by simp [sameC])
    go_enter Try.func38, Try.ntmps38
    go_wp2_with (go_at_call 86; (with_reducible refine (bytesEqual_c va vb x y _ HR.out.1 HR.out.2).mono ?_); rintro e w' ⟨rfl, rfl⟩)
    go_ret
    exact ⟨by rw [HE.out]; rfl, ((Up.refl _).alloc _).alloc _⟩
  · have HE := Lib.hid (show sameC a b c a' b' c' r r' x y = false by
      simp only [sameC, Bool.and_eq_false_imp, Bool.and_eq_true, decide_eq_true_eq, decide_eq_false_iff_not]
      intro ⟨e1, e2, e3⟩ e4
      exact absurd ⟨e1, e2, e3, e4⟩ h1)
    have HX : a = a' → b = b' → c = c' → ((r.toNat : Int) == (r'.toNat : Int)) = false := fun e1 e2 e3 => by
      rw [beq_eq_false_iff_ne]
      exact fun e => h1 ⟨e1, e2, e3, UInt32.toNat_inj.1 (by omega)⟩
    have HXX := Lib.hid HX
    clear h1 HX
    by_cases q1 : a = a'
    · by_cases q2 : b = b'
      · by_cases q3 : c = c'
        · have g := HXX.out q1 q2 q3
          subst q1 q2 q3
          go_enter Try.func38, Try.ntmps38
          go_wp2
          go_ret
          exact ⟨by rw [HE.out]; rfl, ((Up.refl _).alloc _).alloc _⟩
        · have g : (c == c') = false := by rw [beq_eq_false_iff_ne]; exact q3
          subst q1 q2
          go_enter Try.func38, Try.ntmps38
          go_wp2
          go_ret
          exact ⟨by rw [HE.out]; rfl, ((Up.refl _).alloc _).alloc _⟩
      · have g : (b == b') = false := by rw [beq_eq_false_iff_ne]; exact q2
        subst q1
        go_enter Try.func38, Try.ntmps38
        go_wp2
        go_ret
        exact ⟨by rw [HE.out]; rfl, ((Up.refl _).alloc _).alloc _⟩
    · have g : (a == a') = false := by rw [beq_eq_false_iff_ne]; exact q1
      go_enter Try.func38, Try.ntmps38
      go_wp2
      go_ret
      exact ⟨by rw [HE.out]; rfl, ((Up.refl _).alloc _).alloc _⟩

end Go.Proofs.Ytkfmokpijkoidaa

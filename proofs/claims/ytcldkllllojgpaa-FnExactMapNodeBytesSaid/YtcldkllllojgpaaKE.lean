/- Walks: entries of a map. -/
import Derived.Test.YtcldkllllojgpaaRows
import Derived.Test.YtcldkllllojgpaaSl
import Derived.Test.YtcldkllllojgpaaK3
namespace Go.Proofs.Ytcldkllllojgpaa
open Go.RowKit
set_option linter.unusedVariables false
set_option linter.unusedSimpArgs false

/-- An entry as a value. -/
abbrev entC (n v : ByteArray) : Array Value := #[.string n, .string v]
/-- Is an entry valid? -/
def entB (n v : ByteArray) : Bool := inB (n.size : Int) 1 24 && decide ((v.size : Int) ≤ 64)

set_option maxHeartbeats 400000 in
theorem toEntry_c (n v : ByteArray) (w : World) : Calls Try.prog 36 #[.agg (entC n v)] w fun e w' => e = .returned (.agg (entC n v)) ∧ Up w w' := by
  unfold entC
  go_enter Try.func36, Try.ntmps36
  go_wp2
  refine bodyPost_ret (v := .agg #[.string n, .string v]) (by simp [results, Try.results36, go_sem]) rfl ⟨rfl, ?_⟩
  repeat (first | exact Up.refl _ | refine Up.alloc ?_ _ | refine Up.setCell ?_ (by simp) _)

/-- What is left of a measure when an entry is taken off; -1: too much. -/
def szE (n v : ByteArray) (left : Int) : Int := if left - n.size < 0 then -1 else if left - n.size - v.size < 0 then -1 else left - n.size - v.size
set_option maxHeartbeats 400000 in
theorem szEntry_c (n v : ByteArray) (hn : n.size ≤ maxLen) (hv : v.size ≤ maxLen) (left : Int) (h0 : 0 ≤ left) (h1 : left ≤ 1048576) (w : World) : Calls Try.prog 34 #[.agg (entC n v), .int .i64 left] w fun e w' => e = .returned (.int .i64 (szE n v left)) ∧ Up w w' := by
  have hm : (n.size : Int) ≤ 9223372036854775807 ∧ (v.size : Int) ≤ 9223372036854775807 := by
    have : maxLen ≤ 9223372036854775807 := by decide
    omega
  unfold entC
  by_cases c1 : left - n.size < 0
  · have HE := Lib.hid (show szE n v left = -1 by unfold szE; rw [if_pos c1])
    clear hn hv
    go_enter Try.func34, Try.ntmps34
    go_wp2
    go_ret
    exact ⟨by rw [HE.out]; rfl, (Up.refl _).alloc _⟩
  · by_cases c2 : left - n.size - v.size < 0
    · have HE := Lib.hid (show szE n v left = -1 by unfold szE; rw [if_neg c1, if_pos c2])
      clear hn hv
      go_enter Try.func34, Try.ntmps34
      go_wp2
      go_ret
      exact ⟨by rw [HE.out]; rfl, (Up.refl _).alloc _⟩
    · have HE := Lib.hid (show szE n v left = left - n.size - v.size by unfold szE; rw [if_neg c1, if_neg c2])
      clear hn hv
      go_enter Try.func34, Try.ntmps34
      go_wp2
      go_ret
      exact ⟨by rw [HE.out]; rfl, (Up.refl _).alloc _⟩

set_option maxHeartbeats 400000 in
theorem l04Name_c (n : ByteArray) (w : World) : Calls Try.prog 51 #[.string n] w fun e w' => e = .returned (.bool (inB (n.size : Int) 1 24)) ∧ w' = w := by
  go_enter Try.func51, Try.ntmps51
  go_wp2_with (first
    | (go_at_call 28; (with_reducible refine (l00In_c (n.size : Int) 1 24 _).mono ?_); rintro e w' ⟨rfl, rfl⟩))
  go_ret
  exact ⟨rfl, rfl⟩
set_option maxHeartbeats 400000 in
theorem isName_c (n : ByteArray) (w : World) : Calls Try.prog 50 #[.string n] w fun e w' => e = .returned (.bool (inB (n.size : Int) 1 24)) ∧ w' = w := by
  go_enter Try.func50, Try.ntmps50
  go_wp2_with (first
    | (go_at_call 31; (with_reducible refine (within_c (n.size : Int) 1 24 _).mono ?_); rintro e w' ⟨rfl, rfl⟩))
  go_ret
  exact ⟨rfl, rfl⟩

set_option maxHeartbeats 400000 in
theorem l04Entry_c (g t i : Nat) (n v : ByteArray) (w : World) (e0 : w.cell? ⟨g, i, none⟩ = some (.string n)) (e1 : w.cell? ⟨g, i + 1, none⟩ = some (.string v)) :
    Calls Try.prog 43 #[.pointer (some ⟨g, i, none⟩)] w fun e w' => e = .returned (.bool (entB n v)) ∧ w' = w := by
  by_cases h1 : inB (n.size : Int) 1 24 = true
  · have HE := Lib.hid (show entB n v = decide ((v.size : Int) ≤ 64) by rw [entB, h1, Bool.true_and])
    have H1 := Lib.hid h1
    clear h1
    go_enter Try.func43, Try.ntmps43
    go_wp2_with (first
      | (go_at_call 51; (with_reducible refine (l04Name_c n _).mono ?_); rintro e w' ⟨rfl, rfl⟩; rw [H1.out]))
    go_ret
    exact ⟨by rw [HE.out]; rfl, rfl⟩
  · have h1' : inB (n.size : Int) 1 24 = false := by simpa using h1
    have HE := Lib.hid (show entB n v = false by simp [entB, h1'])
    have H1 := Lib.hid h1'
    clear h1 h1'
    go_enter Try.func43, Try.ntmps43
    go_wp2_with (first
      | (go_at_call 51; (with_reducible refine (l04Name_c n _).mono ?_); rintro e w' ⟨rfl, rfl⟩; rw [H1.out]))
    go_ret
    exact ⟨by rw [HE.out]; rfl, rfl⟩

set_option maxHeartbeats 400000 in
theorem implValidEntry_c (n v : ByteArray) (w : World) : Calls Try.prog 40 #[.agg (entC n v)] w fun e w' => e = .returned (.bool (entB n v)) ∧ Up w w' := by
  unfold entC
  by_cases h1 : inB (n.size : Int) 1 24 = true
  · have HE := Lib.hid (show entB n v = decide ((v.size : Int) ≤ 64) by rw [entB, h1, Bool.true_and])
    have H1 := Lib.hid h1
    clear h1
    go_enter Try.func40, Try.ntmps40
    go_wp2_with (first
      | (go_at_call 50; (with_reducible refine (isName_c n _).mono ?_); rintro e w' ⟨rfl, rfl⟩; rw [H1.out]))
    go_ret
    exact ⟨by rw [HE.out]; rfl, (Up.refl _).alloc _⟩
  · have h1' : inB (n.size : Int) 1 24 = false := by simpa using h1
    have HE := Lib.hid (show entB n v = false by simp [entB, h1'])
    have H1 := Lib.hid h1'
    clear h1 h1'
    go_enter Try.func40, Try.ntmps40
    go_wp2_with (first
      | (go_at_call 50; (with_reducible refine (isName_c n _).mono ?_); rintro e w' ⟨rfl, rfl⟩; rw [H1.out]))
    go_ret
    exact ⟨by rw [HE.out]; rfl, (Up.refl _).alloc _⟩

end Go.Proofs.Ytcldkllllojgpaa

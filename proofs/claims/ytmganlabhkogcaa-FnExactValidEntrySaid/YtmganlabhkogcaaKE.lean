/- Walks: entries of a map. -/
import Derived.Test.YtmganlabhkogcaaRows
import Derived.Test.YtmganlabhkogcaaSl
import Derived.Test.YtmganlabhkogcaaK3
namespace Go.Proofs.Ytmganlabhkogcaa
open Go.RowKit
set_option linter.unusedVariables false
set_option linter.unusedSimpArgs false

/-- An entry as a value. -/
abbrev entC (n v : ByteArray) : Array Value := #[.string n, .string v]
/-- Is an entry valid? -/
def entB (n v : ByteArray) : Bool := inB (n.size : Int) 1 24 && decide ((v.size : Int) ≤ 64)

set_option maxHeartbeats 400000 in
theorem toEntry_c (n v : ByteArray) (w : World) : Calls Try.prog 31 #[.agg (entC n v)] w fun e w' => e = .returned (.agg (entC n v)) ∧ Up w w' := by
  unfold entC
  go_enter Try.func31, Try.ntmps31
  go_wp2
  refine bodyPost_ret (v := .agg #[.string n, .string v]) (by simp [results, Try.results31, go_sem]) rfl ⟨rfl, ?_⟩
  repeat (first | exact Up.refl _ | refine Up.alloc ?_ _ | refine Up.setCell ?_ (by simp) _)

/-- What is left of a measure when an entry is taken off; -1: too much. -/
def szE (n v : ByteArray) (left : Int) : Int := if left - n.size < 0 then -1 else if left - n.size - v.size < 0 then -1 else left - n.size - v.size
set_option maxHeartbeats 400000 in
theorem szEntry_c (n v : ByteArray) (hn : n.size ≤ maxLen) (hv : v.size ≤ maxLen) (left : Int) (h0 : 0 ≤ left) (h1 : left ≤ 1048576) (w : World) : Calls Try.prog 29 #[.agg (entC n v), .int .i64 left] w fun e w' => e = .returned (.int .i64 (szE n v left)) ∧ Up w w' := by
  have hm : (n.size : Int) ≤ 9223372036854775807 ∧ (v.size : Int) ≤ 9223372036854775807 := by
    have : maxLen ≤ 9223372036854775807 := by decide
    omega
  unfold entC
  by_cases c1 : left - n.size < 0
  · have HE := Lib.hid (show szE n v left = -1 by unfold szE; rw [if_pos c1])
    clear hn hv
    go_enter Try.func29, Try.ntmps29
    go_wp2
    go_ret
    exact ⟨by rw [HE.out]; rfl, (Up.refl _).alloc _⟩
  · by_cases c2 : left - n.size - v.size < 0
    · have HE := Lib.hid (show szE n v left = -1 by unfold szE; rw [if_neg c1, if_pos c2])
      clear hn hv
      go_enter Try.func29, Try.ntmps29
      go_wp2
      go_ret
      exact ⟨by rw [HE.out]; rfl, (Up.refl _).alloc _⟩
    · have HE := Lib.hid (show szE n v left = left - n.size - v.size by unfold szE; rw [if_neg c1, if_neg c2])
      clear hn hv
      go_enter Try.func29, Try.ntmps29
      go_wp2
      go_ret
      exact ⟨by rw [HE.out]; rfl, (Up.refl _).alloc _⟩

set_option maxHeartbeats 400000 in
theorem l04Name_c (n : ByteArray) (w : World) : Calls Try.prog 71 #[.string n] w fun e w' => e = .returned (.bool (inB (n.size : Int) 1 24)) ∧ w' = w := by
  go_enter Try.func71, Try.ntmps71
  go_wp2_with (first
    | (go_at_call 46; (with_reducible refine (l00In_c (n.size : Int) 1 24 _).mono ?_); rintro e w' ⟨rfl, rfl⟩))
  go_ret
  exact ⟨rfl, rfl⟩
set_option maxHeartbeats 400000 in
theorem isName_c (n : ByteArray) (w : World) : Calls Try.prog 53 #[.string n] w fun e w' => e = .returned (.bool (inB (n.size : Int) 1 24)) ∧ w' = w := by
  go_enter Try.func53, Try.ntmps53
  go_wp2_with (first
    | (go_at_call 48; (with_reducible refine (within_c (n.size : Int) 1 24 _).mono ?_); rintro e w' ⟨rfl, rfl⟩))
  go_ret
  exact ⟨rfl, rfl⟩

set_option maxHeartbeats 400000 in
theorem l04Entry_c (g t i : Nat) (n v : ByteArray) (w : World) (e0 : w.cell? ⟨g, i, none⟩ = some (.string n)) (e1 : w.cell? ⟨g, i + 1, none⟩ = some (.string v)) :
    Calls Try.prog 52 #[.pointer (some ⟨g, i, none⟩)] w fun e w' => e = .returned (.bool (entB n v)) ∧ w' = w := by
  by_cases h1 : inB (n.size : Int) 1 24 = true
  · have HE := Lib.hid (show entB n v = decide ((v.size : Int) ≤ 64) by rw [entB, h1, Bool.true_and])
    have H1 := Lib.hid h1
    clear h1
    go_enter Try.func52, Try.ntmps52
    go_wp2_with (first
      | (go_at_call 71; (with_reducible refine (l04Name_c n _).mono ?_); rintro e w' ⟨rfl, rfl⟩; rw [H1.out]))
    go_ret
    exact ⟨by rw [HE.out]; rfl, rfl⟩
  · have h1' : inB (n.size : Int) 1 24 = false := by simpa using h1
    have HE := Lib.hid (show entB n v = false by simp [entB, h1'])
    have H1 := Lib.hid h1'
    clear h1 h1'
    go_enter Try.func52, Try.ntmps52
    go_wp2_with (first
      | (go_at_call 71; (with_reducible refine (l04Name_c n _).mono ?_); rintro e w' ⟨rfl, rfl⟩; rw [H1.out]))
    go_ret
    exact ⟨by rw [HE.out]; rfl, rfl⟩

set_option maxHeartbeats 400000 in
theorem specValidEntry_c (n v : ByteArray) (w : World) : Calls Try.prog 30 #[.agg (entC n v)] w fun e w' => e = .returned (.bool (entB n v)) ∧ Up w w' := by
  unfold entC
  go_enter Try.func30, Try.ntmps30
  go_wp2_with (first
    | (go_at_call 52; (with_reducible refine (l04Entry_c _ 0 0 n v _ ((Blk.top rfl : Blk _ _ 48 #[.string n, .string v]).cell_ rfl) ((Blk.top rfl : Blk _ _ 48 #[.string n, .string v]).cell_ rfl)).mono ?_); rintro e w' ⟨rfl, rfl⟩))
  go_ret
  exact ⟨rfl, (Up.refl _).alloc _⟩

set_option maxHeartbeats 400000 in
theorem implValidEntry_c (n v : ByteArray) (w : World) : Calls Try.prog 32 #[.agg (entC n v)] w fun e w' => e = .returned (.bool (entB n v)) ∧ Up w w' := by
  unfold entC
  by_cases h1 : inB (n.size : Int) 1 24 = true
  · have HE := Lib.hid (show entB n v = decide ((v.size : Int) ≤ 64) by rw [entB, h1, Bool.true_and])
    have H1 := Lib.hid h1
    clear h1
    go_enter Try.func32, Try.ntmps32
    go_wp2_with (first
      | (go_at_call 53; (with_reducible refine (isName_c n _).mono ?_); rintro e w' ⟨rfl, rfl⟩; rw [H1.out]))
    go_ret
    exact ⟨by rw [HE.out]; rfl, (Up.refl _).alloc _⟩
  · have h1' : inB (n.size : Int) 1 24 = false := by simpa using h1
    have HE := Lib.hid (show entB n v = false by simp [entB, h1'])
    have H1 := Lib.hid h1'
    clear h1 h1'
    go_enter Try.func32, Try.ntmps32
    go_wp2_with (first
      | (go_at_call 53; (with_reducible refine (isName_c n _).mono ?_); rintro e w' ⟨rfl, rfl⟩; rw [H1.out]))
    go_ret
    exact ⟨by rw [HE.out]; rfl, (Up.refl _).alloc _⟩

set_option maxRecDepth 100000 in
set_option maxHeartbeats 400000 in
theorem lawValidEntry_c (n v : ByteArray) (hn : n.size ≤ maxLen) (hv : v.size ≤ maxLen) (w : World) : Calls Try.prog 9 #[.agg (entC n v)] w fun e w' => e = .returned (.bool true) ∧ Up w w' := by
  have HI := Lib.hid (show (Try.prog.info? 45).map (·.size) = some 2 by kernel_rfl)
  have HM := Lib.hid (And.intro hn hv)
  have B0 := Lib.hid (show Blk (w.alloc (.cells #[.string n, .string v] 45)) w.heap.size 45 #[.string n, .string v] from Blk.top rfl)
  clear hn hv
  unfold entC
  go_enter Try.func9, Try.ntmps9
  go_wp2_with fail
  (with_reducible refine (szEntry_c n v HM.out.1 HM.out.2 1048576 (by omega) (by omega) _).mono ?_)
  rintro e w1 ⟨rfl, hb1⟩
  by_cases hz : szE n v 1048576 < 0
  · go_wp2
    go_ret
    exact ⟨rfl, ((Up.refl _).alloc _).trans hb1⟩
  · go_wp2_with (refine wpList_load_row rfl 45 (.tmp 1) rfl _ rfl 45 (#[.string n, .string v]) (0, 0) _ (B0.out.up hb1) Try.underlying45 rfl (HI.out) ?_)
    (with_reducible refine (toEntry_c n v _).mono ?_)
    rintro e w2 ⟨rfl, hb2⟩
    go_wp2_with fail
    (with_reducible refine (specValidEntry_c n v _).mono ?_)
    rintro e w3 ⟨rfl, hb3⟩
    go_wp2_with (refine wpList_load_row rfl 45 (.tmp 1) rfl _ rfl 45 (#[.string n, .string v]) (0, 0) _ (((B0.out.up hb1).up hb2).up hb3) Try.underlying45 rfl (HI.out) ?_)
    (with_reducible refine (toEntry_c n v _).mono ?_)
    rintro e w4 ⟨rfl, hb4⟩
    go_wp2_with fail
    (with_reducible refine (implValidEntry_c n v _).mono ?_)
    rintro e w5 ⟨rfl, hb5⟩
    go_wp2_with fail
    go_ret
    exact ⟨rfl, (((((Up.refl _).alloc _).trans hb1).trans hb2).trans hb3).trans (hb4.trans hb5)⟩

end Go.Proofs.Ytmganlabhkogcaa

/- Walks: ValidHasher. -/
import Derived.Test.YtgofolmekgjkjaaKH
namespace Go.Proofs.Ytgofolmekgjkjaa
open Go.RowKit
set_option linter.unusedVariables false
set_option linter.unusedSimpArgs false

/-- Is a hasher with this count and so many bytes held valid? -/
def okHas (n : Int) (len : Nat) : Bool := inB n 0 1000000000 && ((len : Int) == n % 32)
theorem inB_pos (n : Int) (h : inB n 0 1000000000 = true) : 0 ≤ n ∧ n ≤ 1000000000 := by
  simp only [inB, Bool.and_eq_true, decide_eq_true_eq] at h
  exact h

set_option maxHeartbeats 400000 in
theorem sizeB_c (a : Option Addr) (n cap : Nat) (w : World) : Calls Try.prog 65 #[.slice a n cap] w fun e w' => e = .returned (.int .i64 n) ∧ w' = w := by
  go_enter Try.func65, Try.ntmps65
  go_wp2
  go_ret
  exact ⟨rfl, rfl⟩

set_option maxHeartbeats 1000000 in
set_option maxRecDepth 100000 in
theorem l01Ok_c (g t : Nat) (cs : Array Value) (a : Option Addr) (len cap : Nat) (n : Int) (w : World) (hb : Blk w g t cs) (e8 : cs[8]? = some (.slice a len cap)) (e9 : cs[9]? = some (.int .i64 n)) :
    Calls Try.prog 60 #[.pointer (some ⟨g, 0, none⟩)] w fun e w' => e = .returned (.bool (okHas n len)) ∧ ∃ m, w' = w.drewN m := by
  have c8 := hb.cell_ e8
  have c9 := hb.cell_ e9
  clear hb e8 e9
  by_cases h1 : inB n 0 1000000000 = true
  · obtain ⟨g0, g1⟩ := inB_pos n h1
    have HE := Lib.hid (show okHas n len = ((len : Int) == n % 32) by rw [okHas, h1, Bool.true_and])
    have H1 := Lib.hid h1
    clear h1
    go_enter Try.func60, Try.ntmps60
    go_wp2_with fail
    go_quiet ((go_at_call 76; with_reducible exact Calls.quiet_of_same (l00In_b n 0 1000000000 true H1.out _)))
    go_wp2_with fail
    go_ret
    exact ⟨by rw [HE.out]; rfl, _, rfl⟩
  · have h1' : inB n 0 1000000000 = false := by simpa using h1
    have HE := Lib.hid (show okHas n len = false by rw [okHas, h1']; rfl)
    have H1 := Lib.hid h1'
    clear h1 h1'
    go_enter Try.func60, Try.ntmps60
    go_wp2_with fail
    go_quiet ((go_at_call 76; with_reducible exact Calls.quiet_of_same (l00In_b n 0 1000000000 false H1.out _)))
    go_wp2_with fail
    go_ret
    exact ⟨by rw [HE.out]; rfl, _, rfl⟩

set_option maxHeartbeats 1000000 in
set_option maxRecDepth 100000 in
theorem implValidHasher_c (s : List UInt32) (hs : s.length = 8) (a : Option Addr) (len cap : Nat) (n : Int) (w : World) :
    Calls Try.prog 64 #[.agg (hasC s (.slice a len cap) n)] w fun e w' => e = .returned (.bool (okHas n len)) ∧ Up w w' := by
  have b0 : Blk (w.alloc (.cells (hasC s (.slice a len cap) n) 43)) w.heap.size 43 (hasC s (.slice a len cap) n) := Blk.top rfl
  have c8 := b0.cell_ (hasC_8 s _ n hs)
  have c9 := b0.cell_ (hasC_9 s _ n hs)
  clear b0
  by_cases h1 : inB n 0 1000000000 = true
  · obtain ⟨g0, g1⟩ := inB_pos n h1
    have HE := Lib.hid (show okHas n len = ((len : Int) == n % 32) by rw [okHas, h1, Bool.true_and])
    have H1 := Lib.hid h1
    clear h1
    go_enter Try.func64, Try.ntmps64
    go_wp2_with fail
    go_quiet ((first
      | (go_at_call 80; with_reducible exact Calls.quiet_of_same (within_b n 0 1000000000 true H1.out _))
      | (go_at_call 65; with_reducible exact Calls.quiet_of_same (sizeB_c a len cap _))))
    go_wp2_with fail
    go_ret
    exact ⟨by rw [HE.out]; rfl, ((Up.refl _).alloc _).drewN _⟩
  · have h1' : inB n 0 1000000000 = false := by simpa using h1
    have HE := Lib.hid (show okHas n len = false by rw [okHas, h1']; rfl)
    have H1 := Lib.hid h1'
    clear h1 h1'
    go_enter Try.func64, Try.ntmps64
    go_wp2_with fail
    go_quiet ((go_at_call 80; with_reducible exact Calls.quiet_of_same (within_b n 0 1000000000 false H1.out _)))
    go_wp2_with fail
    go_ret
    exact ⟨by rw [HE.out]; rfl, ((Up.refl _).alloc _).drewN _⟩

end Go.Proofs.Ytgofolmekgjkjaa

/- Walks: two hashers compared. -/
import Derived.Test.YtkfmokpijkoidaaKEq
import Derived.Test.YtkfmokpijkoidaaKArr
namespace Go.Proofs.Ytkfmokpijkoidaa
open Go.RowKit
set_option linter.unusedVariables false
set_option linter.unusedSimpArgs false

/-- Are two hashers equal? -/
def sameH (s s' : List UInt32) (n n' : Int) (x y : List UInt8) : Bool := decide (s = s') && (decide (n = n') && decide (x = y))

set_option maxHeartbeats 1000000 in
set_option maxRecDepth 100000 in
theorem specSameHasher_c (s s' : List UInt32) (hs : s.length = 8) (hs' : s'.length = 8) (va vb : Value) (x y : List UInt8) (n n' : Int) (w : World) (ha : RdB w va x) (hb : RdB w vb y) :
    Calls Try.prog 51 #[.agg (hasC s va n), .agg (hasC s' vb n')] w fun e w' => e = .returned (.bool (sameH s s' n n' x y)) ∧ Up w w' := by
  have b2 : Blk ((w.alloc (.cells (hasC s va n) 32)).alloc (.cells (hasC s' vb n') 32)) w.heap.size 32 (hasC s va n) := (Blk.top rfl).alloc _
  have b3 : Blk ((w.alloc (.cells (hasC s va n) 32)).alloc (.cells (hasC s' vb n') 32)) (w.heap.size + 1) 32 (hasC s' vb n') := Blk.top (by simp)
  have HI := Lib.hid (show (Try.prog.info? 23).map (·.size) = some (s.map wV).length by rw [List.length_map, hs]; exact info_state)
  have HI' := Lib.hid (show (Try.prog.info? 23).map (·.size) = some (s'.map wV).length by rw [List.length_map, hs']; exact info_state)
  have HR := Lib.hid (And.intro ((ha.alloc (.cells (hasC s va n) 32)).alloc (.cells (hasC s' vb n') 32)) ((hb.alloc (.cells (hasC s va n) 32)).alloc (.cells (hasC s' vb n') 32)))
  have HB := Lib.hid (And.intro b2 b3)
  have c2 := b2.cell_ (hasC_8 s va n hs)
  have c3 := b3.cell_ (hasC_8 s' vb n' hs')
  have d2 := b2.cell_ (hasC_9 s va n hs)
  have d3 := b3.cell_ (hasC_9 s' vb n' hs')
  obtain ⟨i32, hi32⟩ := Option.isSome_iff_exists.1 (show (Try.prog.info? 22).isSome = true by kernel_rfl)
  have heq := fun w => eq_words (P := Try.prog) 9998 (t := 23) (e := 22) Try.underlying23 hi32 Try.underlying22 (by kernel_rfl) s s' hs hs' w
  simp only [wA] at heq
  clear b2 b3 ha hb hs hs' hi32
  by_cases h1 : s = s'
  · by_cases h2 : n = n'
    · have HE := Lib.hid (show sameH s s' n n' x y = decide (x = y) by rw [sameH, decide_eq_true h1, decide_eq_true h2]; rfl)
      have g2 : (n == n') = true := by simp [h2]
      simp only [decide_eq_true h1] at heq
      clear h1 h2
      go_enter Try.func51, Try.ntmps51
      go_wp2_with (first
        | (refine wpList_load_mid rfl 23 (.tmp 5) rfl w.heap.size 0 rfl (s.map wV) _ (hasC_words HB.out.1) Try.underlying23 rfl HI.out ?_)
        | (refine wpList_load_mid rfl 23 (.tmp 7) rfl (w.heap.size + 1) 0 rfl (s'.map wV) _ (hasC_words HB.out.2) Try.underlying23 rfl HI'.out ?_)
        | (go_at_call 85; (with_reducible refine (l01Bytes_c va vb x y _ HR.out.1 HR.out.2).mono ?_); rintro e w' ⟨rfl, m, rfl⟩))
      go_ret
      exact ⟨by rw [HE.out]; rfl, (((Up.refl _).alloc _).alloc _).drewN _⟩
    · have HE := Lib.hid (show sameH s s' n n' x y = false by rw [sameH, decide_eq_true h1, decide_eq_false h2]; rfl)
      have HX := Lib.hid (show sameH s s' n n' x y = false by rw [sameH, decide_eq_true h1, decide_eq_false h2]; rfl)
      have g2 : (n == n') = false := by simp [h2]
      simp only [decide_eq_true h1] at heq
      clear h1 h2
      go_enter Try.func51, Try.ntmps51
      go_wp2_with (first
        | (refine wpList_load_mid rfl 23 (.tmp 5) rfl w.heap.size 0 rfl (s.map wV) _ (hasC_words HB.out.1) Try.underlying23 rfl HI.out ?_)
        | (refine wpList_load_mid rfl 23 (.tmp 7) rfl (w.heap.size + 1) 0 rfl (s'.map wV) _ (hasC_words HB.out.2) Try.underlying23 rfl HI'.out ?_)
        | (go_at_call 85; (with_reducible refine (l01Bytes_c va vb x y _ HR.out.1 HR.out.2).mono ?_); rintro e w' ⟨rfl, m, rfl⟩))
      go_ret
      exact ⟨by rw [HE.out]; rfl, by first | exact ((Up.refl _).alloc _).alloc _ | exact (((Up.refl _).alloc _).alloc _).drewN _⟩
  · have HE := Lib.hid (show sameH s s' n n' x y = false by rw [sameH, decide_eq_false h1]; rfl)
    simp only [decide_eq_false h1] at heq
    clear h1
    go_enter Try.func51, Try.ntmps51
    go_wp2_with (first
      | (refine wpList_load_mid rfl 23 (.tmp 5) rfl w.heap.size 0 rfl (s.map wV) _ (hasC_words HB.out.1) Try.underlying23 rfl HI.out ?_)
      | (refine wpList_load_mid rfl 23 (.tmp 7) rfl (w.heap.size + 1) 0 rfl (s'.map wV) _ (hasC_words HB.out.2) Try.underlying23 rfl HI'.out ?_)
      | (go_at_call 85; (with_reducible refine (l01Bytes_c va vb x y _ HR.out.1 HR.out.2).mono ?_); rintro e w' ⟨rfl, m, rfl⟩))
    go_ret
    exact ⟨by rw [HE.out]; rfl, ((Up.refl _).alloc _).alloc _⟩

set_option maxHeartbeats 1000000 in
set_option maxRecDepth 100000 in
theorem implSameHasher_c (s s' : List UInt32) (hs : s.length = 8) (hs' : s'.length = 8) (va vb : Value) (x y : List UInt8) (n n' : Int) (w : World) (ha : RdB w va x) (hb : RdB w vb y) :
    Calls Try.prog 53 #[.agg (hasC s va n), .agg (hasC s' vb n')] w fun e w' => e = .returned (.bool (sameH s s' n n' x y)) ∧ Up w w' := by
  have b2 : Blk ((w.alloc (.cells (hasC s va n) 32)).alloc (.cells (hasC s' vb n') 32)) w.heap.size 32 (hasC s va n) := (Blk.top rfl).alloc _
  have b3 : Blk ((w.alloc (.cells (hasC s va n) 32)).alloc (.cells (hasC s' vb n') 32)) (w.heap.size + 1) 32 (hasC s' vb n') := Blk.top (by simp)
  have HI := Lib.hid (show (Try.prog.info? 23).map (·.size) = some (s.map wV).length by rw [List.length_map, hs]; exact info_state)
  have HI' := Lib.hid (show (Try.prog.info? 23).map (·.size) = some (s'.map wV).length by rw [List.length_map, hs']; exact info_state)
  have HR := Lib.hid (And.intro ((ha.alloc (.cells (hasC s va n) 32)).alloc (.cells (hasC s' vb n') 32)) ((hb.alloc (.cells (hasC s va n) 32)).alloc (.cells (hasC s' vb n') 32)))
  have HB := Lib.hid (And.intro b2 b3)
  have c2 := b2.cell_ (hasC_8 s va n hs)
  have c3 := b3.cell_ (hasC_8 s' vb n' hs')
  have d2 := b2.cell_ (hasC_9 s va n hs)
  have d3 := b3.cell_ (hasC_9 s' vb n' hs')
  obtain ⟨i32, hi32⟩ := Option.isSome_iff_exists.1 (show (Try.prog.info? 22).isSome = true by kernel_rfl)
  have heq := fun w => eq_words (P := Try.prog) 9998 (t := 23) (e := 22) Try.underlying23 hi32 Try.underlying22 (by kernel_rfl) s s' hs hs' w
  simp only [wA] at heq
  clear b2 b3 ha hb hs hs' hi32
  by_cases h1 : s = s'
  · by_cases h3 : x = y
    · by_cases h2 : n = n'
      · have HE := Lib.hid (show sameH s s' n n' x y = true by simp [sameH, h1, h2, h3])
        have g2 : (n == n') = true := by simp [h2]
        have H3 := Lib.hid (decide_eq_true h3)
        simp only [decide_eq_true h1] at heq
        clear h1 h2 h3
        go_enter Try.func53, Try.ntmps53
        go_wp2_with (first
          | (refine wpList_load_mid rfl 23 (.tmp 5) rfl w.heap.size 0 rfl (s.map wV) _ (hasC_words HB.out.1) Try.underlying23 rfl HI.out ?_)
          | (refine wpList_load_mid rfl 23 (.tmp 7) rfl (w.heap.size + 1) 0 rfl (s'.map wV) _ (hasC_words HB.out.2) Try.underlying23 rfl HI'.out ?_)
          | (go_at_call 92; (with_reducible refine (slEqual_c va vb x y _ HR.out.1 HR.out.2).mono ?_); rintro e w' ⟨rfl, m, rfl⟩; rw [H3.out]))
        go_ret
        exact ⟨by rw [HE.out]; rfl, (((Up.refl _).alloc _).alloc _).drewN _⟩
      · have HE := Lib.hid (show sameH s s' n n' x y = false by simp [sameH, h1, h2, h3])
        have g2 : (n == n') = false := by simp [h2]
        have H3 := Lib.hid (decide_eq_true h3)
        simp only [decide_eq_true h1] at heq
        clear h1 h2 h3
        go_enter Try.func53, Try.ntmps53
        go_wp2_with (first
          | (refine wpList_load_mid rfl 23 (.tmp 5) rfl w.heap.size 0 rfl (s.map wV) _ (hasC_words HB.out.1) Try.underlying23 rfl HI.out ?_)
          | (refine wpList_load_mid rfl 23 (.tmp 7) rfl (w.heap.size + 1) 0 rfl (s'.map wV) _ (hasC_words HB.out.2) Try.underlying23 rfl HI'.out ?_)
          | (go_at_call 92; (with_reducible refine (slEqual_c va vb x y _ HR.out.1 HR.out.2).mono ?_); rintro e w' ⟨rfl, m, rfl⟩; rw [H3.out]))
        go_ret
        exact ⟨by rw [HE.out]; rfl, (((Up.refl _).alloc _).alloc _).drewN _⟩
    · have HE := Lib.hid (show sameH s s' n n' x y = false by simp [sameH, h3])
      have H3 := Lib.hid (decide_eq_false h3)
      simp only [decide_eq_true h1] at heq
      clear h1 h3
      go_enter Try.func53, Try.ntmps53
      go_wp2_with (first
        | (refine wpList_load_mid rfl 23 (.tmp 5) rfl w.heap.size 0 rfl (s.map wV) _ (hasC_words HB.out.1) Try.underlying23 rfl HI.out ?_)
        | (refine wpList_load_mid rfl 23 (.tmp 7) rfl (w.heap.size + 1) 0 rfl (s'.map wV) _ (hasC_words HB.out.2) Try.underlying23 rfl HI'.out ?_)
        | (go_at_call 92; (with_reducible refine (slEqual_c va vb x y _ HR.out.1 HR.out.2).mono ?_); rintro e w' ⟨rfl, m, rfl⟩; rw [H3.out]))
      go_ret
      exact ⟨by rw [HE.out]; rfl, (((Up.refl _).alloc _).alloc _).drewN _⟩
  · have HE := Lib.hid (show sameH s s' n n' x y = false by simp [sameH, h1])
    simp only [decide_eq_false h1] at heq
    clear h1
    go_enter Try.func53, Try.ntmps53
    go_wp2_with (first
      | (refine wpList_load_mid rfl 23 (.tmp 5) rfl w.heap.size 0 rfl (s.map wV) _ (hasC_words HB.out.1) Try.underlying23 rfl HI.out ?_)
      | (refine wpList_load_mid rfl 23 (.tmp 7) rfl (w.heap.size + 1) 0 rfl (s'.map wV) _ (hasC_words HB.out.2) Try.underlying23 rfl HI'.out ?_)
      | (go_at_call 92; (with_reducible refine (slEqual_c va vb x y _ HR.out.1 HR.out.2).mono ?_); rintro e w' ⟨rfl, m, rfl⟩))
    go_ret
    exact ⟨by rw [HE.out]; rfl, ((Up.refl _).alloc _).alloc _⟩

end Go.Proofs.Ytkfmokpijkoidaa

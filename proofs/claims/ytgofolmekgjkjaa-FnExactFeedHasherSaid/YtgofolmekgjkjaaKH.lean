/- Walks: hashers as values, ValidHasher. -/
import Derived.Test.YtgofolmekgjkjaaKS
import Derived.Test.YtgofolmekgjkjaaK2
import Derived.Test.YtgofolmekgjkjaaK3
import Derived.Test.YtgofolmekgjkjaaReg2
import Derived.Deep.MidRow
namespace Go.Proofs.Ytgofolmekgjkjaa
open Go.RowKit
set_option linter.unusedVariables false
set_option linter.unusedSimpArgs false

/-- A hasher's ten cells: eight words, the bytes held, the count. -/
def hasL (s : List UInt32) (h : Value) (n : Int) : List Value := s.map wV ++ [h, .int .i64 n]
def hasC (s : List UInt32) (h : Value) (n : Int) : Array Value := (hasL s h n).toArray
theorem hasC_size (s : List UInt32) (h : Value) (n : Int) (hs : s.length = 8) : (hasC s h n).size = 10 := by simp [hasC, hasL, hs]
theorem hasC_at (s : List UInt32) (h : Value) (n : Int) (hs : s.length = 8) (i : Nat) (hi : i < 8) : (hasC s h n)[i]? = some (.int .u32 ((wt s i).toNat : Int)) := by
  have : i < s.length := by omega
  simp [hasC, hasL, List.getElem?_append, this, wt_eq s i this, wV]
theorem hasC_8 (s : List UInt32) (h : Value) (n : Int) (hs : s.length = 8) : (hasC s h n)[8]? = some h := by simp [hasC, hasL, List.getElem?_append, hs]
theorem hasC_9 (s : List UInt32) (h : Value) (n : Int) (hs : s.length = 8) : (hasC s h n)[9]? = some (.int .i64 n) := by simp [hasC, hasL, List.getElem?_append, hs]
theorem hasC_one (s : List UInt32) (h : Value) (n : Int) (hh : h.oneCell' = true) : (hasC s h n).all (·.oneCell') = true := by
  simp [hasC, hasL, wV, Value.oneCell']
  exact hh
/-- A range of a block. -/
theorem Blk.range {w : World} {g : Nat} {t : TypeId} {cs : Array Value} (h : Blk w g t cs) (o : Nat) (xs : List Value) (hx : ∀ j v, xs[j]? = some v → cs[o + j]? = some v) : w.rangeAt g o xs := fun j v hv => h.cell_ (hx j v hv)
theorem hasC_words {w : World} {g : Nat} {t : TypeId} {s : List UInt32} {h : Value} {n : Int} (hb : Blk w g t (hasC s h n)) : w.rangeAt g 0 (s.map wV) :=
  hb.range 0 _ fun j v hv => by
    have hj : j < (s.map wV).length := (List.getElem?_eq_some_iff.1 hv).1
    simp only [Nat.zero_add, hasC, hasL, List.getElem?_toArray, List.getElem?_append_left hj]
    exact hv

/-- What a store of several cells leaves in a block. -/
def putL : List Value → Nat → Array Value → Array Value
  | [], _, cs => cs
  | v :: vs, o, cs => putL vs (o + 1) (cs.setIfInBounds o v)
theorem putL_size (vs : List Value) : ∀ (o : Nat) (cs : Array Value), (putL vs o cs).size = cs.size := by
  induction vs with
  | nil => intro o cs; rfl
  | cons v vs ih => intro o cs; rw [putL, ih, Array.size_setIfInBounds]
theorem putL_get (vs : List Value) : ∀ (o : Nat) (cs : Array Value) (i : Nat), i < cs.size → (putL vs o cs)[i]? = if o ≤ i ∧ i < o + vs.length then vs[i - o]? else cs[i]? := by
  induction vs with
  | nil => intro o cs i hi; rw [putL, if_neg (by simp)]
  | cons v vs ih =>
    intro o cs i hi
    rw [putL, ih _ _ _ (by rw [Array.size_setIfInBounds]; exact hi)]
    by_cases h : i = o
    · subst h
      rw [if_neg (by omega), if_pos (by simp)]
      simp [hi]
    · by_cases h2 : o + 1 ≤ i ∧ i < o + 1 + vs.length
      · rw [if_pos h2, if_pos (by simp; omega), show i - o = (i - (o + 1)) + 1 by omega, List.getElem?_cons_succ]
      · rw [if_neg h2, if_neg (by simp; omega), Array.getElem?_setIfInBounds_ne (by omega)]
theorem Blk.setCells_ {w : World} {g : Nat} {t : TypeId} {cs : Array Value} (h : Blk w g t cs) (vs : List Value) (o : Nat) : Blk (w.setCells g o vs) g t (putL vs o cs) := by
  induction vs generalizing w o cs with
  | nil => exact h
  | cons v vs ih => exact ih (h.set_ o v) (o + 1)
theorem Blk.cellsFar {w : World} {g k : Nat} {t : TypeId} {cs : Array Value} (h : Blk w g t cs) (hk : g ≠ k) (vs : List Value) (o : Nat) : Blk (w.setCells k o vs) g t cs := by
  induction vs generalizing w o with
  | nil => exact h
  | cons v vs ih => exact ih (h.far hk v) (o + 1)
theorem Up.setCells {a w : World} (h : Up a w) {k : Nat} (hk : a.heap.size ≤ k) (vs : List Value) (o : Nat) : Up a (w.setCells k o vs) := by
  induction vs generalizing w o with
  | nil => exact h
  | cons v vs ih => exact ih (h.setCell (p := ⟨k, o, none⟩) hk v) (o + 1)
theorem Blk.there {w : World} {g : Nat} {t : TypeId} {cs : Array Value} (h : Blk w g t cs) (o n : Nat) (hn : o + n ≤ cs.size) : w.there g o n := fun j hj => by
  refine ⟨?_, h.free _⟩
  rw [h.cell_ (v := cs[o + j]'(by omega)) (Array.getElem?_eq_getElem (by omega))]
  rfl
theorem put_words (s z : List UInt32) (hs : s.length = 8) (hz : z.length = 8) (h : Value) (n : Int) : putL (s.map wV) 0 (hasC z h n) = hasC s h n := by
  apply Array.ext_getElem?
  intro i
  by_cases hi : i < 10
  · rw [putL_get _ _ _ _ (by rw [hasC_size _ _ _ hz]; exact hi)]
    by_cases h8 : i < 8
    · rw [if_pos (by simp [hs, h8]), Nat.sub_zero]
      simp only [hasC, hasL, List.getElem?_toArray]
      rw [List.getElem?_append_left (by simp [hs, h8])]
    · rw [if_neg (by simp [hs]; omega)]
      simp only [hasC, hasL, List.getElem?_toArray]
      rw [List.getElem?_append_right (by simp [hz]; omega), List.getElem?_append_right (by simp [hs]; omega)]
      simp [hs, hz]
  · rw [Array.getElem?_eq_none (by rw [putL_size, hasC_size _ _ _ hz]; omega), Array.getElem?_eq_none (by rw [hasC_size _ _ _ hs]; omega)]
theorem set_held (s : List UInt32) (hs : s.length = 8) (h h' : Value) (n : Int) : (hasC s h n).setIfInBounds 8 h' = hasC s h' n := by
  simp [hasC, hasL, List.set_append, hs]
theorem set_count (s : List UInt32) (hs : s.length = 8) (h : Value) (n n' : Int) : (hasC s h n).setIfInBounds 9 (.int .i64 n') = hasC s h n' := by
  simp [hasC, hasL, List.set_append, hs]
theorem info_has : (Try.prog.info? 43).map (·.size) = some 10 := by kernel_rfl
def hasZ : Array Value := hasC zero8 (.slice none 0 0) 0

set_option maxHeartbeats 400000 in
set_option maxRecDepth 100000 in
theorem eqHasher_same (s : List UInt32) (hs : s.length = 8) (va vb : Value) (l : List UInt8) (n : Int) (w : World) (ha : RdB w va l) (hb : RdB w vb l) :
    Calls Try.prog 31 #[.agg (hasC s va n), .agg (hasC s vb n)] w fun e w' => e = .returned (.bool true) ∧ Up w w' := by
  have b2 : Blk ((w.alloc (.cells (hasC s va n) 43)).alloc (.cells (hasC s vb n) 43)) w.heap.size 43 (hasC s va n) := (Blk.top rfl).alloc _
  have b3 : Blk ((w.alloc (.cells (hasC s va n) 43)).alloc (.cells (hasC s vb n) 43)) (w.heap.size + 1) 43 (hasC s vb n) := Blk.top (by simp)
  have HI := Lib.hid (show (Try.prog.info? 39).map (·.size) = some (s.map wV).length by rw [List.length_map, hs]; exact info_state)
  have HB := Lib.hid (And.intro b2 (And.intro b3 (And.intro ((ha.alloc (.cells (hasC s va n) 43)).alloc (.cells (hasC s vb n) 43)) ((hb.alloc (.cells (hasC s va n) 43)).alloc (.cells (hasC s vb n) 43)))))
  have HL := Lib.hid hs
  clear b2 b3 ha hb hs
  go_enter Try.func31, Try.ntmps31
  go_wp2_with (first
    | (refine wpList_load_mid rfl 39 (.tmp 5) rfl w.heap.size 0 rfl (s.map wV) _ (hasC_words HB.out.1) Try.underlying39 rfl HI.out ?_)
    | (refine wpList_load_mid rfl 39 (.tmp 7) rfl (w.heap.size + 1) 0 rfl (s.map wV) _ (hasC_words HB.out.2.1) Try.underlying39 rfl HI.out ?_))
  refine (eqUint32A8_same s HL.out _).mono ?_
  rintro e w1 ⟨rfl, hb1⟩
  have c2 := (HB.out.1.up hb1).cell_ (hasC_8 s va n HL.out)
  have c3 := (HB.out.2.1.up hb1).cell_ (hasC_8 s vb n HL.out)
  have d2 := (HB.out.1.up hb1).cell_ (hasC_9 s va n HL.out)
  have d3 := (HB.out.2.1.up hb1).cell_ (hasC_9 s vb n HL.out)
  have HW := Lib.hid hb1
  clear hb1
  go_wp2_with fail
  (with_reducible refine (eqByteS_same va vb l _ (HB.out.2.2.1.up HW.out) (HB.out.2.2.2.up HW.out)).mono ?_)
  rintro e w2 ⟨rfl, hb2⟩
  have d2' := ((HB.out.1.up HW.out).up hb2).cell_ (hasC_9 s va n HL.out)
  have d3' := ((HB.out.2.1.up HW.out).up hb2).cell_ (hasC_9 s vb n HL.out)
  have HW2 := Lib.hid hb2
  clear hb2 c2 c3 d2 d3
  go_wp2_with fail
  go_ret
  exact ⟨rfl, ((((Up.refl _).alloc _).alloc _).trans HW.out).trans HW2.out⟩

set_option maxHeartbeats 400000 in
set_option maxRecDepth 100000 in
theorem szHasher_c (s : List UInt32) (hs : s.length = 8) (a : Option Addr) (len cap : Nat) (n : Int) (hl : len ≤ maxLen) (w : World) :
    Calls Try.prog 27 #[.agg (hasC s (.slice a len cap) n), .int .i64 1048576] w fun e w' => e = .returned (.int .i64 (if (1048576 : Int) - len < 0 then -1 else 1048576 - len)) ∧ Up w w' := by
  have c2 := (Blk.top rfl : Blk (w.alloc (.cells (hasC s (.slice a len cap) n) 41)) w.heap.size 41 (hasC s (.slice a len cap) n)).cell_ (hasC_8 s (.slice a len cap) n hs)
  have HC := Lib.hid (szByteS_c a len cap 1048576 (by omega) (by omega) hl)
  by_cases c1 : (1048576 : Int) - len < 0
  · rw [if_pos c1]
    rw [if_pos c1] at HC
    go_enter Try.func27, Try.ntmps27
    go_wp2_with (first
      | (go_at_call 59; (with_reducible refine (HC.out _).mono ?_); rintro e w' ⟨rfl, rfl⟩))
    go_ret
    exact ⟨rfl, (Up.refl _).alloc _⟩
  · rw [if_neg c1]
    rw [if_neg c1] at HC
    go_enter Try.func27, Try.ntmps27
    go_wp2_with (first
      | (go_at_call 59; (with_reducible refine (HC.out _).mono ?_); rintro e w' ⟨rfl, rfl⟩))
    go_ret
    exact ⟨rfl, (Up.refl _).alloc _⟩

set_option maxHeartbeats 800000 in
set_option maxRecDepth 100000 in
theorem toHasher_c (s : List UInt32) (hs : s.length = 8) (v : Value) (l : List UInt8) (n : Int) (w : World) (hv : RdB w v l) (hl : l.length ≤ 1048576) :
    Calls Try.prog 29 #[.agg (hasC s v n)] w fun e w' => (∃ g, e = .returned (.agg (hasC s (.slice (some ⟨g, 0, none⟩) l.length l.length) n)) ∧ w.heap.size ≤ g ∧ Blk w' g 5 (bA l)) ∧ Up w w' := by
  have HI := Lib.hid (show (Try.prog.info? 39).map (·.size) = some (s.map wV).length by rw [List.length_map, hs]; exact info_state)
  have HL := Lib.hid (And.intro hs hl)
  have HV := Lib.hid hv
  have b1 : Blk (((w.alloc (.cells (hasC s v n) 41)).alloc (.cells hasZ 43)).alloc (.cells hasZ 43)) w.heap.size 41 (hasC s v n) := ((Blk.top rfl).alloc _).alloc _
  have b2 : Blk (((w.alloc (.cells (hasC s v n) 41)).alloc (.cells hasZ 43)).alloc (.cells hasZ 43)) (w.heap.size + 1) 43 hasZ := (Blk.top (by simp)).alloc _
  have b3 : Blk (((w.alloc (.cells (hasC s v n) 41)).alloc (.cells hasZ 43)).alloc (.cells hasZ 43)) (w.heap.size + 1 + 1) 43 hasZ := Blk.top (by simp)
  have HB := Lib.hid (And.intro b1 (And.intro b2 b3))
  clear hs hl hv b1 b2 b3
  go_enter Try.func29, Try.ntmps29
  go_wp2_with (first
    | (refine wpList_load_mid rfl 39 (.tmp 4) rfl w.heap.size 0 rfl (s.map wV) _ (hasC_words HB.out.1) Try.underlying39 rfl HI.out ?_))
  refine (toUint32A8_c s HL.out.1 _).mono ?_
  rintro e w1 ⟨rfl, hb1⟩
  have c8 := ((HB.out.1.up hb1).cellsFar (k := w.heap.size + 1 + 1) (by omega) (wA s).toList 0).cell_ (hasC_8 s v n HL.out.1)
  have U1 := Lib.hid (show Up w (w1.setCells (w.heap.size + 1 + 1) 0 (wA s).toList) from ((((Up.refl _).alloc _).alloc _).alloc _ |>.trans hb1).setCells (by omega) _ 0)
  have HW := Lib.hid hb1
  clear hb1
  go_wp2_with (first
    | (refine wpList_store_mid rfl 39 (.tmp 7) (.tmp 6) rfl (w.heap.size + 1 + 1) 0 (wA s) rfl rfl ((HB.out.2.2.up HW.out).there 0 _ (by rw [wA_size, HL.out.1]; decide)) (by rw [wA_size, HL.out.1]; exact info_state) (wA_one s) ?_))
  refine (toByteS_c v l _ (HV.out.up U1.out) HL.out.2).mono ?_
  rintro e w2 ⟨⟨g, rfl, hg, bg⟩, hb2⟩
  have hgs : (w1.setCells (w.heap.size + 1 + 1) 0 (wA s).toList).heap.size ≥ w.heap.size + 1 + 1 + 1 := by
    have := ((HB.out.2.2.up HW.out).setCells_ (wA s).toList 0).lt
    omega
  have b3 : Blk w2 (w.heap.size + 1 + 1) 43 (hasC s (.slice none 0 0) 0) := by
    have := ((HB.out.2.2.up HW.out).setCells_ (wA s).toList 0).up hb2
    rwa [show (wA s).toList = s.map wV from rfl, hasZ, put_words s zero8 HL.out.1 rfl] at this
  have b2 : Blk w2 (w.heap.size + 1) 43 hasZ := ((HB.out.2.1.up HW.out).cellsFar (k := w.heap.size + 1 + 1) (by omega) (wA s).toList 0).up hb2
  have c9 := (((HB.out.1.up HW.out).cellsFar (k := w.heap.size + 1 + 1) (by omega) (wA s).toList 0).up hb2).cell_ (hasC_9 s v n HL.out.1)
  have d8 := b3.cell_ (hasC_8 s (.slice none 0 0) 0 HL.out.1)
  have d9 := b3.cell_ (hasC_9 s (.slice none 0 0) 0 HL.out.1)
  have f8 := b3.free 8
  have f9 := b3.free 9
  have b3f : Blk ((w2.setCell ⟨w.heap.size + 1 + 1, 8, none⟩ (.slice (some ⟨g, 0, none⟩) l.length l.length)).setCell ⟨w.heap.size + 1 + 1, 9, none⟩ (.int .i64 n)) (w.heap.size + 1 + 1) 43 (hasC s (.slice (some ⟨g, 0, none⟩) l.length l.length) n) := by
    have := (b3.set_ 8 (.slice (some ⟨g, 0, none⟩) l.length l.length)).set_ 9 (.int .i64 n)
    rwa [set_held s HL.out.1, set_count s HL.out.1] at this
  have b2f := (b2.far (p := ⟨w.heap.size + 1 + 1, 8, none⟩) (by dsimp only; omega) (.slice (some ⟨g, 0, none⟩) l.length l.length)).far (p := ⟨w.heap.size + 1 + 1, 9, none⟩) (by dsimp only; omega) (.int .i64 n)
  have HF := Lib.hid (And.intro b3f (And.intro b2f (And.intro hg (And.intro bg hb2))))
  have HI2 := Lib.hid (show (Try.prog.info? 43).map (·.size) = some (hasC s (.slice (some ⟨g, 0, none⟩) l.length l.length) n).size by rw [hasC_size _ _ _ HL.out.1]; exact info_has)
  have HZ := Lib.hid (show hasZ.size = (hasC s (.slice (some ⟨g, 0, none⟩) l.length l.length) n).size by rw [hasC_size _ _ _ HL.out.1]; rfl)
  have HG := Lib.hid hgs
  clear b3f b2f hg bg hb2 b3 b2 hgs
  go_wp2_with (first
    | (refine wpList_load_row rfl 43 (.tmp 3) rfl _ rfl 43 (hasC s (.slice (some ⟨g, 0, none⟩) l.length l.length) n) (0, 0) _ (HF.out.1) Try.underlying43 rfl (HI2.out) ?_)
    | (refine wpList_store_row rfl 43 (.tmp 2) (.tmp 15) rfl _ (hasC s (.slice (some ⟨g, 0, none⟩) l.length l.length) n) rfl rfl 43 (hasZ) (HF.out.2.1) (HI2.out) (HZ.out) (hasC_one _ _ _ rfl) ?_))
  have hgg := HF.out.2.2.1
  have hgs := HG.out
  refine bodyPost_ret (results_cell_row rfl _ _ _ 43 (hasC s (.slice (some ⟨g, 0, none⟩) l.length l.length) n) (0, 0) _ rfl (HF.out.2.1.row _) Try.underlying43 rfl HI2.out) rfl ⟨⟨g, rfl, by omega, ?_⟩, ?_⟩
  · exact ((HF.out.2.2.2.1.far (by dsimp only; omega) _).far (by dsimp only; omega) _).rowFar (by omega) _
  · exact (((U1.out.trans HF.out.2.2.2.2).setCell (by dsimp only; omega) _).setCell (by dsimp only; omega) _).setRow (by omega) _

end Go.Proofs.Ytgofolmekgjkjaa

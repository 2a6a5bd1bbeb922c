/- Walks: keys sorted by the library. -/
import Derived.Test.YtmbhaoiahlbglaaSort
import Derived.Test.YtmbhaoiahlbglaaKC
import Derived.Test.YtmbhaoiahlbglaaHZ
namespace Go.Proofs.Ytmbhaoiahlbglaa
open Go.RowKit Go.Sort
set_option linter.unusedVariables false
set_option linter.unusedSimpArgs false

theorem cmpL_self (a : List UInt8) : cmpL a a = 0 := by
  induction a with
  | nil => rfl
  | cons x a ih => simp [cmpL, ih]
theorem u8_tri (x y : UInt8) : x < y ∨ x = y ∨ y < x := by
  rcases Nat.lt_trichotomy x.toNat y.toNat with h | h | h
  · exact .inl (UInt8.lt_iff_toNat_lt.2 h)
  · exact .inr (.inl (UInt8.toNat_inj.1 h))
  · exact .inr (.inr (UInt8.lt_iff_toNat_lt.2 h))
theorem cmpL_neg : ∀ (a b : List UInt8), cmpL b a = - cmpL a b
  | [], [] => rfl
  | [], _ :: _ => rfl
  | _ :: _, [] => rfl
  | x :: a, y :: b => by
    have ih := cmpL_neg a b
    by_cases h : x = y
    · subst h
      simpa [cmpL] using ih
    · have h' : ¬ y = x := fun e => h e.symm
      simp only [cmpL, if_neg h, if_neg h']
      rcases u8_tri x y with h1 | h1 | h1
      · have h2 : ¬ y < x := by simp only [UInt8.lt_iff_toNat_lt] at h1 ⊢; omega
        rw [if_pos h1, if_neg h2]
        rfl
      · exact absurd h1 h
      · have h2 : ¬ x < y := by simp only [UInt8.lt_iff_toNat_lt] at h1 ⊢; omega
        rw [if_pos h1, if_neg h2]
theorem cmpL_eq : ∀ (a b : List UInt8), cmpL a b = 0 → a = b
  | [], [], _ => rfl
  | [], _ :: _, h => by simp [cmpL] at h
  | _ :: _, [], h => by simp [cmpL] at h
  | x :: a, y :: b, h => by
    simp only [cmpL] at h
    split at h
    · rename_i e
      rw [e, cmpL_eq a b h]
    · split at h <;> simp at h
theorem cmpL_trans : ∀ (a b c : List UInt8), cmpL a b < 0 → cmpL b c < 0 → cmpL a c < 0
  | [], _, [], h1, h2 => by
    rename_i b
    cases b with
    | nil => simp [cmpL] at h1
    | cons => simp [cmpL] at h2
  | [], _, _ :: _, _, _ => by simp [cmpL]
  | x :: a, [], _, h1, _ => by simp [cmpL] at h1
  | x :: a, y :: b, [], _, h2 => by simp [cmpL] at h2
  | x :: a, y :: b, z :: c, h1, h2 => by
    have ih := cmpL_trans a b c
    simp only [cmpL] at h1 h2 ⊢
    by_cases e1 : x = y
    · subst e1
      rw [if_pos rfl] at h1
      by_cases e2 : x = z
      · rw [if_pos e2] at h2 ⊢
        exact ih h1 h2
      · rw [if_neg e2] at h2 ⊢
        exact h2
    · rw [if_neg e1] at h1
      have l1 : x < y := by
        by_cases h : x < y
        · exact h
        · rw [if_neg h] at h1; simp at h1
      by_cases e2 : y = z
      · subst e2
        rw [if_neg e1, if_pos l1]
        decide
      · rw [if_neg e2] at h2
        have l2 : y < z := by
          by_cases h : y < z
          · exact h
          · rw [if_neg h] at h2; simp at h2
        have l3 : x < z := by simp only [UInt8.lt_iff_toNat_lt] at *; omega
        have e3 : ¬ x = z := fun e => by subst e; simp only [UInt8.lt_iff_toNat_lt] at l3; omega
        rw [if_neg e3, if_pos l3]
        decide
/-- The order of keys. -/
def cfK (x y : Ky) : Int := cmpL x.1 y.1
instance inhKyS : Inhabited Ky := ⟨zeroKy⟩
theorem ltK_tot (x y : Ky) (h1 : ltOf cfK x y = false) (h2 : ltOf cfK y x = false) : x = y := by
  have e1 := of_decide_eq_false h1
  have e2 := of_decide_eq_false h2
  have := cmpL_neg x.1 y.1
  unfold cfK at e1 e2
  exact Subtype.ext (cmpL_eq _ _ (by omega))
theorem swoK : SWO (ltOf cfK) where
  irrefl x := by unfold ltOf cfK; rw [cmpL_self]; decide
  trans x y z h1 h2 := decide_eq_true (cmpL_trans _ _ _ (of_decide_eq_true h1) (of_decide_eq_true h2))
  ntrans x y z h1 h2 := by
    cases h : ltOf cfK x z with
    | false => rfl
    | true =>
      exfalso
      have e1 := of_decide_eq_false h1
      have e2 := of_decide_eq_false h2
      have e := of_decide_eq_true h
      unfold cfK at e1 e2 e
      have n1 := cmpL_neg x.1 y.1
      have n2 := cmpL_neg y.1 z.1
      by_cases c1 : cmpL y.1 x.1 < 0
      · have := cmpL_trans _ _ _ c1 e
        omega
      · have := cmpL_eq x.1 y.1 (by omega)
        rw [this] at e
        omega
/-- Keys in their order. -/
def srtK (ks : List Ky) : List Ky := ks.mergeSort fun x y => !(ltOf cfK) y x
theorem srtK_len (ks : List Ky) : (srtK ks).length = ks.length := by simp [srtK]

theorem grow2 (w : World) (o1 o2 : Obj) (n : Nat) : ((w.alloc o1).alloc o2).drewN n = grow (w.drewN n) #[o1, o2] := by
  rw [alloc_eq_grow, alloc_eq_grow, grow_grow]
  rfl

set_option maxHeartbeats 400000 in
theorem compareKeys_g (a b : List UInt8) (ha : a.length = 32) (hb : b.length = 32) (w : World) :
    Calls Try.prog 87 #[.agg (bA a), .agg (bA b)] w fun e w' => e = .returned (.int .i64 (cmpL a b)) ∧ ∃ q os', w' = grow (w.drewN q) os' := by
  have B := Lib.hid (show Blk ((w.alloc (.cells (bA a) 25)).alloc (.cells (bA b) 25)) w.heap.size 25 (bA a) ∧ Blk ((w.alloc (.cells (bA a) 25)).alloc (.cells (bA b) 25)) (w.heap.size + 1) 25 (bA b) from ⟨(Blk.top rfl).alloc _, Blk.top (by simp)⟩)
  go_enter Try.func87, Try.ntmps87
  go_wp2_with fail
  go_quiet ((go_at_call 126; with_reducible exact Calls.quiet_of_same (slicesCompare_c _ _ _ _ _ _ a b ha hb _ (B.out.1.drewN _) (B.out.2.drewN _))))
  go_wp2_with fail
  go_ret
  exact ⟨rfl, _, _, grow2 _ _ _ _⟩

theorem flatK_kyL (ts : List Ky) : flatK (fun k : Ky => bL k.1) 32 ts.toArray = (kyL ts).toArray := by
  apply Array.ext
  · rw [size_flatK]
    simp
  · intro t h1 h2
    have ht : t < ts.length * 32 := by simpa using h1
    have hi : t / 32 < ts.length := by omega
    have hj : t % 32 < (bL ts[t / 32].1).length := by rw [bL_length, ts[t / 32].2]; omega
    have hg := kyL_get ts (t / 32) hi (t % 32) _ (List.getElem?_eq_getElem hj)
    rw [show t / 32 * 32 + t % 32 = t by omega] at hg
    have h3 : (flatK (fun k : Ky => bL k.1) 32 ts.toArray)[t]! = (bL ts.toArray[t / 32]!.1)[t % 32]! := get_flatK _ _ _ _ (by simpa using ht)
    rw [getElem!_pos _ t h1] at h3
    rw [h3, getElem!_pos ts.toArray _ (by simpa using hi)]
    rw [List.getElem_toArray, getElem!_pos (bL ts[t / 32].1) _ hj, List.getElem_toArray]
    exact (List.getElem?_eq_some_iff.1 hg).2.symm
theorem holdsK_of {w : World} {g : Nat} {cur : Array Value} {e : TypeId} {ks : List Ky} (hb : w.heap[g]? = some (.cells cur e (0, 0))) (ht : cur.toList.take (ks.length * 32) = kyL ks) : HoldsK (fun k : Ky => bL k.1) 32 w g 0 ks.toArray := by
  unfold HoldsK
  rw [flatK_kyL]
  intro j hj
  have hj' : j < ks.length * 32 := by simpa using hj
  refine ⟨?_, by simp [World.frozen?, hb]⟩
  have h1 : (cur.toList.take (ks.length * 32))[j]? = (kyL ks)[j]? := by rw [ht]
  rw [List.getElem?_take_of_lt hj'] at h1
  simp only [World.cell?, hb, Nat.zero_add]
  simp only [Option.isSome_none, Bool.false_eq_true, if_false]
  rw [← Array.getElem?_toList, h1]
  rw [getElem!_pos (kyL ks).toArray _ hj]
  simp [hj']
theorem heap_sortedI {w : World} {g n : Nat} {os : Array Obj} {cur : Array Value} {e : TypeId} {fr : Nat × Nat} (d : Array Value) (hb : w.heap[g]? = some (.cells cur e fr)) :
    (grow (putRow id (Sort.ahead w n) g 0 d) os).heap[g]? = some (.cells (putCells id 0 d cur) e fr) := by
  have hg : g < w.heap.size := (Array.getElem?_eq_some_iff.1 hb).1
  rw [heap_grow_old _ _ (by simpa using hg)]
  simp [putRow, mapBlock, Sort.ahead, Array.getElem?_modify, hb, onCells]
theorem grownBy_sortedI {w : World} {g n : Nat} {os : Array Obj} (d : Array Value) : w.grownBy (grow (putRow id (Sort.ahead w n) g 0 d) os) (some g) := by
  refine ⟨rfl, rfl, rfl, by simp, fun k hk hne => ?_⟩
  rw [heap_grow_old _ _ (by simpa using hk)]
  have : g ≠ k := fun e => hne (by rw [e])
  simp [putRow, mapBlock, Sort.ahead, Array.getElem?_modify, this]
theorem take_putI (cur : Array Value) (ts : List Value) (h : ts.length ≤ cur.size) : (putCells id 0 ts.toArray cur).toList.take ts.length = ts := by
  apply List.ext_getElem?
  intro j
  by_cases hj : j < ts.length
  · rw [List.getElem?_take_of_lt hj, Array.getElem?_toList]
    simp [putCells, hj, show j < cur.size by omega]
  · rw [List.getElem?_take_eq_none (by omega), List.getElem?_eq_none (by omega)]
set_option maxHeartbeats 1000000 in
theorem sortKey_c (b : Option Addr) (cap n B : Nat) (ks : List Ky) (hks : ks.length = n) (w : World) (hn : n ≤ 1048576) (h : w.ownsRow B 25 32 (.slice b n cap) n (kyL ks)) :
    Writes Try.prog 85 #[.slice b n cap, .func (.func 87) #[] #[]] w B 25 32 b cap n (kyL (srtK ks)) (.tuple #[]) := by
  subst hks
  rcases id h.2 with ⟨hv, h0⟩ | ⟨g, cap', cur, hv, hB, hb, h1, h2, h3, h4⟩
  · injection hv with e1 e2 e3
    obtain rfl := List.eq_nil_of_length_eq_zero h0
    subst e1 e3
    refine Calls.mono (AnyF.slices_SortFunc_none Try.sortKey none 0 _ w) ?_
    rintro e w' ⟨rfl, rfl⟩
    rw [show srtK [] = [] by simp [srtK]]
    exact ⟨rfl, h, grown_of_up (Up.refl _) _⟩
  · injection hv with e1 e2 e3
    subst e1 e3
    have eg : ∀ args w, (callFunc 87 args).run Try.prog w = .ok (.enter 87 args) w := enters_of Try.func87 (by kernel_rfl) rfl
    have hcon := AnyQ.slices_SortFunc_total Try.sortKey 32 Try.isAgg25 Try.sizeOf25 (fun k : Ky => bL k.1) (fun k => by rw [bL_length, k.2]) (fun k => bL_one k.1) cfK swoK 87 #[] g 0 cap ks.toArray w eg
      (fun _ _ _ _ x y => compareKeys_g x.1 y.1 x.2 y.2 _) (holdsK_of hb h4) (Array.getElem?_eq_some_iff.1 hb).1 (by simp; omega) ltK_tot
    refine Calls.mono hcon ?_
    rintro e w' ⟨rfl, m, os, rfl⟩
    have hflat : sortWorldK (fun k : Ky => bL k.1) 32 w g 0 m (srtK ks).toArray os = grow (putRow id (Sort.ahead w m) g 0 (kyL (srtK ks)).toArray) os := by
      unfold sortWorldK putRowK
      rw [flatK_kyL]
    have hl : (kyL (srtK ks)).length = ks.length * 32 := by rw [kyL_len, srtK_len]
    refine ⟨rfl, ?_, ?_⟩
    · show (sortWorldK (fun k : Ky => bL k.1) 32 w g 0 m (srtK ks).toArray os).ownsRow B _ 32 _ _ _
      rw [hflat]
      exact ⟨hl, .inr ⟨g, cap, _, rfl, hB, heap_sortedI _ hb, h1, h2, by simp [putCells, h3], by rw [← hl]; exact take_putI cur _ (by rw [hl, h3]; exact Nat.mul_le_mul_right _ h1)⟩⟩
    · show w.grownBy (sortWorldK (fun k : Ky => bL k.1) 32 w g 0 m (srtK ks).toArray os) _
      rw [hflat]
      exact grownBy_sortedI _

end Go.Proofs.Ytmbhaoiahlbglaa

/- Lists in strict order with given members: there is one at most; a sorted list without its doubles is one; inserting into one. -/
import Derived.Test.YtmbhaoiahlbglaaMem
import Derived.Sort.Statements
namespace Go.Proofs.Ytmbhaoiahlbglaa
open Go.Sort
set_option linter.unusedVariables false
set_option linter.unusedSimpArgs false

section
variable {α : Type} {lt : α → α → Bool}
/-- out holds what ks holds, each once, in strict order. -/
def SetOf (lt : α → α → Bool) (ks out : List α) : Prop := out.Pairwise (fun x y => lt x y = true) ∧ ∀ k, k ∈ out ↔ k ∈ ks
theorem strict_ext (hO : SWO lt) : ∀ (a b : List α), a.Pairwise (fun x y => lt x y = true) → b.Pairwise (fun x y => lt x y = true) → (∀ k, k ∈ a ↔ k ∈ b) → a = b
  | [], [], _, _, _ => rfl
  | [], y :: b, _, _, h => by have := (h y).2 (by simp); simp at this
  | x :: a, [], _, _, h => by have := (h x).1 (by simp); simp at this
  | x :: a, y :: b, ha, hb, h => by
    obtain ⟨ha1, ha2⟩ := List.pairwise_cons.1 ha
    obtain ⟨hb1, hb2⟩ := List.pairwise_cons.1 hb
    have hxy : x = y := by
      rcases List.mem_cons.1 ((h x).1 (by simp)) with e | e
      · exact e
      · rcases List.mem_cons.1 ((h y).2 (by simp)) with e' | e'
        · exact e'.symm
        · have h1 := hO.trans _ _ _ (hb1 x e) (ha1 y e')
          rw [hO.irrefl] at h1
          cases h1
    subst hxy
    rw [strict_ext hO a b ha2 hb2 fun k => ?_]
    constructor
    · intro hk
      rcases List.mem_cons.1 ((h k).1 (by simp [hk])) with e | e
      · subst e
        have := ha1 k hk
        rw [hO.irrefl] at this
        cases this
      · exact e
    · intro hk
      rcases List.mem_cons.1 ((h k).2 (by simp [hk])) with e | e
      · subst e
        have := hb1 k hk
        rw [hO.irrefl] at this
        cases this
      · exact e
theorem SetOf.unique (hO : SWO lt) {ks a b : List α} (ha : SetOf lt ks a) (hb : SetOf lt ks b) : a = b := strict_ext hO a b ha.1 hb.1 fun k => (ha.2 k).trans (hb.2 k).symm

/-- What slices.Compact leaves: of neighbours that are one, the first. -/
def compK [DecidableEq α] : List α → List α
  | [] => []
  | [x] => [x]
  | x :: y :: l => if x = y then compK (y :: l) else x :: compK (y :: l)
theorem compK_mem [DecidableEq α] : ∀ (l : List α) (k : α), k ∈ compK l ↔ k ∈ l
  | [], _ => Iff.rfl
  | [_], _ => Iff.rfl
  | x :: y :: l, k => by
    have ih := compK_mem (y :: l) k
    by_cases h : x = y
    · subst h
      rw [compK, if_pos rfl, ih]
      simp
    · rw [compK, if_neg h, List.mem_cons, ih]
      exact List.mem_cons.symm
theorem compK_strict [DecidableEq α] (hO : SWO lt) (hT : ∀ x y, lt x y = false → lt y x = false → x = y) : ∀ (l : List α), l.Pairwise (fun x y => lt y x = false) → (compK l).Pairwise (fun x y => lt x y = true)
  | [], _ => List.Pairwise.nil
  | [x], _ => by simp [compK]
  | x :: y :: l, h => by
    obtain ⟨h1, h2⟩ := List.pairwise_cons.1 h
    have ih := compK_strict hO hT (y :: l) h2
    by_cases e : x = y
    · rw [compK, if_pos e]
      exact ih
    · rw [compK, if_neg e]
      refine List.pairwise_cons.2 ⟨fun k hk => ?_, ih⟩
      have hxy : lt x y = true := by
        cases hc : lt x y with
        | true => rfl
        | false => exact absurd (hT x y hc (h1 y (by simp))) e
      rcases List.mem_cons.1 ((compK_mem _ k).1 hk) with rfl | hk'
      · exact hxy
      · have hky := (List.pairwise_cons.1 h2).1 k hk'
        cases hc : lt x k with
        | true => rfl
        | false =>
          have := hO.ntrans _ _ _ hc hky
          rw [hxy] at this
          cases this
/-- The library's sort and Compact give the one. -/
theorem compK_setOf [DecidableEq α] (hO : SWO lt) (hT : ∀ x y, lt x y = false → lt y x = false → x = y) (ks l : List α) (hs : l.Pairwise (fun x y => lt y x = false)) (hm : ∀ k, k ∈ l ↔ k ∈ ks) : SetOf lt ks (compK l) :=
  ⟨compK_strict hO hT l hs, fun k => (compK_mem l k).trans (hm k)⟩

/-- An insertion under way: a and b are in strict order, x comes ahead of all of b. -/
def Ins (lt : α → α → Bool) (ks : List α) (x : α) (a b : List α) : Prop := SetOf lt ks (a ++ b) ∧ x ∉ ks ∧ ∀ y ∈ b, lt x y = true
theorem Ins.start {ks out : List α} {x : α} (h : SetOf lt ks out) (hx : x ∉ out) : Ins lt ks x out [] :=
  ⟨by rwa [List.append_nil], fun hk => hx ((h.2 x).2 hk), fun y hy => by simp at hy⟩
theorem Ins.step {ks a b : List α} {x y : α} (h : Ins lt ks x (a ++ [y]) b) (hl : lt x y = true) : Ins lt ks x a (y :: b) :=
  ⟨by have := h.1; rwa [List.append_assoc] at this, h.2.1, fun z hz => by exact (List.mem_cons.1 hz).elim (fun e => e ▸ hl) (h.2.2 z)⟩
theorem Ins.done (hO : SWO lt) (hT : ∀ x y, lt x y = false → lt y x = false → x = y) {ks a b : List α} {x : α} (h : Ins lt ks x a b) (hl : a = [] ∨ ∃ a' y, a = a' ++ [y] ∧ lt x y = false) : SetOf lt (ks ++ [x]) (a ++ x :: b) := by
  obtain ⟨⟨hp, hm⟩, hx, hb⟩ := h
  obtain ⟨p1, p2, p3⟩ := List.pairwise_append.1 hp
  have ha : ∀ z ∈ a, lt z x = true := by
    rcases hl with rfl | ⟨a', y, rfl, hy⟩
    · intro z hz; simp at hz
    · have hyx : lt y x = true := by
        cases hc : lt y x with
        | true => rfl
        | false =>
          have := hT x y hy hc
          subst this
          exact absurd ((hm x).1 (by simp)) hx
      intro z hz
      rcases List.mem_append.1 hz with hz | hz
      · exact hO.trans _ _ _ ((List.pairwise_append.1 p1).2.2 z hz y (by simp)) hyx
      · rw [List.mem_singleton] at hz
        subst hz
        exact hyx
  refine ⟨List.pairwise_append.2 ⟨p1, List.pairwise_cons.2 ⟨hb, p2⟩, fun z hz y hy => ?_⟩, fun k => ?_⟩
  · rcases List.mem_cons.1 hy with rfl | hy
    · exact ha z hz
    · exact p3 z hz y hy
  · have := hm k
    simp only [List.mem_append, List.mem_cons, List.mem_singleton] at this ⊢
    constructor
    · rintro (h | h | h)
      · exact .inl (this.1 (.inl h))
      · exact .inr (by simpa using h)
      · exact .inl (this.1 (.inr h))
    · rintro (h | h)
      · rcases this.2 h with h | h
        · exact .inl h
        · exact .inr (.inr h)
      · exact .inr (.inl (by simpa using h))
theorem SetOf.again {ks out : List α} {x : α} (h : SetOf lt ks out) (hx : x ∈ out) : SetOf lt (ks ++ [x]) out :=
  ⟨h.1, fun k => by
    rw [h.2, List.mem_append, List.mem_singleton]
    constructor
    · exact .inl
    · rintro (hk | rfl)
      · exact hk
      · exact (h.2 k).1 hx⟩
theorem SetOf.nil : SetOf lt ([] : List α) [] := ⟨List.Pairwise.nil, fun _ => Iff.rfl⟩
end

section
variable {α : Type} [DecidableEq α]
theorem compK_same {a : α} {l : List α} (h : l.head? = some a) : compK (a :: l) = compK l := by
  cases l with
  | nil => simp at h
  | cons b l =>
    obtain rfl := Option.some.inj h
    rw [compK, if_pos rfl]
theorem compK_new {a b : α} {l : List α} (h : l.head? = some b) (hab : a ≠ b) : compK (a :: l) = a :: compK l := by
  cases l with
  | nil => simp at h
  | cons c l =>
    obtain rfl := Option.some.inj h
    rw [compK, if_neg hab]
theorem compK_drop_same (ks : List α) (p : Nat) (h : p + 1 < ks.length) (he : ks[p + 1] = ks[p]) : compK (ks.drop p) = compK (ks.drop (p + 1)) := by
  rw [List.drop_eq_getElem_cons (by omega : p < ks.length)]
  refine compK_same ?_
  rw [List.drop_eq_getElem_cons h, List.head?_cons, he]
theorem compK_drop_new (ks : List α) (p : Nat) (h : p + 1 < ks.length) (he : ks[p + 1] ≠ ks[p]) : compK (ks.drop p) = ks[p] :: compK (ks.drop (p + 1)) := by
  rw [List.drop_eq_getElem_cons (by omega : p < ks.length)]
  refine compK_new (b := ks[p + 1]) ?_ (fun e => he e.symm)
  rw [List.drop_eq_getElem_cons h, List.head?_cons]
theorem compK_drop_last (ks : List α) (p : Nat) (h : p + 1 = ks.length) : compK (ks.drop p) = [ks[p]] := by
  rw [List.drop_eq_getElem_cons (by omega : p < ks.length), List.drop_of_length_le (by omega)]
  rfl
/-- slices.Compact's first loop at k: nothing has been found yet. -/
def C1 (ks : List α) (k : Nat) : Prop := 1 ≤ k ∧ k ≤ ks.length ∧ compK ks = ks.take (k - 1) ++ compK (ks.drop (k - 1))
theorem C1.start (ks : List α) (h : 1 ≤ ks.length) : C1 ks 1 := ⟨Nat.le_refl _, h, by simp⟩
theorem C1.step {ks : List α} {k : Nat} (h : C1 ks k) (hk : k < ks.length) (he : ks[k] ≠ ks[k - 1]'(by omega)) : C1 ks (k + 1) := by
  obtain ⟨h1, h2, h3⟩ := h
  obtain ⟨p, rfl⟩ : ∃ p, k = p + 1 := ⟨k - 1, by omega⟩
  refine ⟨by omega, by omega, ?_⟩
  simp only [Nat.add_sub_cancel] at h3 he ⊢
  rw [h3, compK_drop_new ks p hk he, List.take_succ_eq_append_getElem (by omega), List.append_assoc]
  rfl
theorem C1.done {ks : List α} (h : C1 ks ks.length) : compK ks = ks := by
  obtain ⟨h1, h2, h3⟩ := h
  rw [compK_drop_last ks _ (by omega)] at h3
  rw [h3]
  conv => rhs; rw [← List.take_append_drop (ks.length - 1) ks]
  rw [List.drop_eq_getElem_cons (by omega : ks.length - 1 < ks.length), List.drop_of_length_le (by omega)]
/-- .. its second loop: xs lies in memory, j places are written, place p is the last one looked at. -/
def C2 (ks xs : List α) (j p : Nat) : Prop := xs.length = ks.length ∧ 1 ≤ j ∧ j ≤ p ∧ p < ks.length ∧ (∀ i, p ≤ i → xs[i]? = ks[i]?) ∧ ∃ Y z, ks[p]? = some z ∧ xs.take j = Y ++ [z] ∧ compK ks = Y ++ compK (ks.drop p)
theorem C1.found {ks : List α} {k : Nat} (h : C1 ks k) (hk : k < ks.length) (he : ks[k] = ks[k - 1]'(by omega)) : C2 ks ks k k := by
  obtain ⟨h1, h2, h3⟩ := h
  obtain ⟨p, rfl⟩ : ∃ p, k = p + 1 := ⟨k - 1, by omega⟩
  simp only [Nat.add_sub_cancel] at h3 he
  refine ⟨rfl, by omega, Nat.le_refl _, hk, fun i _ => rfl, ks.take p, ks[p + 1], List.getElem?_eq_getElem hk, ?_, ?_⟩
  · rw [he, List.take_succ_eq_append_getElem (by omega)]
  · rw [h3, compK_drop_same ks p hk he]
theorem C2.same {ks xs : List α} {j p : Nat} (h : C2 ks xs j p) (hp : p + 1 < ks.length) (he : ks[p + 1] = ks[p]) : C2 ks xs j (p + 1) := by
  obtain ⟨h1, h2, h3, h4, h5, Y, z, hz, h6, h7⟩ := h
  refine ⟨h1, h2, by omega, hp, fun i hi => h5 i (by omega), Y, z, ?_, h6, by rw [h7, compK_drop_same ks p hp he]⟩
  rw [List.getElem?_eq_getElem hp, he, ← List.getElem?_eq_getElem h4]
  exact hz
theorem C2.new {ks xs : List α} {j p : Nat} (h : C2 ks xs j p) (hp : p + 1 < ks.length) (he : ks[p + 1] ≠ ks[p]) : C2 ks (xs.set j ks[p + 1]) (j + 1) (p + 1) := by
  obtain ⟨h1, h2, h3, h4, h5, Y, z, hz, h6, h7⟩ := h
  refine ⟨by rw [List.length_set, h1], by omega, by omega, hp, fun i hi => ?_, Y ++ [z], ks[p + 1], List.getElem?_eq_getElem hp, ?_, ?_⟩
  · rw [List.getElem?_set_ne (by omega)]
    exact h5 i (by omega)
  · rw [List.take_succ_eq_append_getElem (by rw [List.length_set]; omega), List.getElem_set_self, List.take_set_of_le (Nat.le_refl _), h6]
  · rw [List.getElem?_eq_getElem h4] at hz
    obtain rfl := Option.some.inj hz
    rw [h7, compK_drop_new ks p hp he, List.append_assoc]
    rfl
theorem C2.done {ks xs : List α} {j p : Nat} (h : C2 ks xs j p) (hp : p + 1 = ks.length) : compK ks = xs.take j := by
  obtain ⟨h1, h2, h3, h4, h5, Y, z, hz, h6, h7⟩ := h
  rw [List.getElem?_eq_getElem h4] at hz
  obtain rfl := Option.some.inj hz
  rw [h7, h6, compK_drop_last ks p hp]
end

end Go.Proofs.Ytmbhaoiahlbglaa

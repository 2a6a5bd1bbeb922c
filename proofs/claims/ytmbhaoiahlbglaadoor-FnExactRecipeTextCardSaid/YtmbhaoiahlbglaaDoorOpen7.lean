/- Opening of parameters: slices whose elements have several cells. -/
import Derived.Test.YtmbhaoiahlbglaaDoorOpen
import Derived.Test.YtmbhaoiahlbglaaDoorRows
import Derived.Test.YtmbhaoiahlbglaaDoorHC
import Derived.Deep.Slices
import Derived.Lib.SmallJoins
namespace Go.Proofs.YtmbhaoiahlbglaaDoor
open Go.ChangeShapes Go.WideShapes Go.ChangeAt Go.RowKit Go.Deep
set_option linter.unusedVariables false
set_option linter.unusedSimpArgs false
instance : Inhabited Ky := ⟨zeroKy⟩
theorem range_flat {α : Type} (f : α → List Value) (size : Nat) (hf : ∀ k, (f k).length = size) {w : World} {g : Nat} : ∀ (ks : List α) (o : Nat), (∀ (i : Nat) k, ks[i]? = some k → w.rangeAt g (o + i * size) (f k)) → w.rangeAt g o (ks.flatMap f) := by
  intro ks
  induction ks with
  | nil => intro o _ j v hj; simp at hj
  | cons k ks ih =>
    intro o h j v hj
    rw [List.flatMap_cons] at hj
    by_cases hlt : j < (f k).length
    · rw [List.getElem?_append_left hlt] at hj
      have := h 0 k rfl j v hj
      simpa using this
    · rw [List.getElem?_append_right (by omega), hf] at hj
      rw [hf] at hlt
      have := ih (o + size) (fun i k' hk => by
        have := h (i + 1) k' (by simpa using hk)
        rw [Nat.succ_mul] at this
        rw [show o + size + i * size = o + (i * size + size) by omega]
        exact this) (j - size) v hj
      rw [show o + size + (j - size) = o + j by omega] at this
      exact this
theorem spot_none {w : World} {p : Addr} {v : Value} (h : w.cell? p = some v) : p = ⟨p.block, p.off, none⟩ ∧ p.block < w.heap.size := by
  obtain ⟨b, o, s⟩ := p
  unfold World.cell? at h
  split at h
  · rename_i hb
    cases s with
    | none => exact ⟨rfl, (Array.getElem?_eq_some_iff.1 hb).1⟩
    | some _ => simp at h
  · simp at h
section
variable {H : Type} {enc : TypeId × Value → H} {P : Program} {w : World} {base : Nat} {sp : Nat → Bool} {held : Bool}
theorem open_rowsL {α : Type} [Inhabited α] (f : α → List Value) (size : Nat) (hpos : 0 < size) (hf : ∀ k, (f k).length = size) (h1 : ∀ k, ∀ u ∈ f k, u.oneCell' = true) {t e : TypeId} {fuel : Nat} {cs : List Value} {x : DataW H × List MemPlace} (ht : P.underlying t = some (.slice e)) (hc : P.cellsOf e = size)
    (hel : ∀ fuel cs y, DataW.trod enc P w base sp held fuel e cs = some y → ∃ k, cs = f k) (h : DataW.trod enc P w base sp held fuel t cs = some x) : ∃ (v : Value) (ks : List α), cs = [v] ∧ Rd w size v ks.length (ks.flatMap f) := by
  rcases open_slice ht h with ⟨rfl, -⟩ | ⟨a, len, cap, m, n, D, Pl, rfl, hb, hl, hm, hmm, -, hx⟩
  · exact ⟨_, [], rfl, Rd.nil w size⟩
  · have hle : len ≤ m := by rw [hmm]; split <;> omega
    rw [hc] at hx
    obtain ⟨K, hK⟩ := choose_lt (α := α) (p := fun i k => ∀ j v, (f k)[j]? = some v → w.cell? ((a.add (i * size)).add j) = some v) (n := len) (fun i hi => by
      obtain ⟨cs', h2, h3⟩ := hx i (by omega)
      obtain ⟨k, rfl⟩ := hel _ _ _ h3
      obtain ⟨-, hlen, hcell⟩ := World.cells?_some h2
      refine ⟨k, fun j v hj => ?_⟩
      rw [hcell j (by rw [← hf k]; exact (List.getElem?_eq_some_iff.1 hj).1)]
      exact hj)
    have hlen : ((List.range len).map K).length = len := by simp
    have hfl : (((List.range len).map K).flatMap f).length = len * size := by
      have : ∀ l : List α, (l.flatMap f).length = l.length * size := fun l => by
        induction l with
        | nil => simp
        | cons k l ih => rw [List.flatMap_cons, List.length_append, ih, hf, List.length_cons, Nat.succ_mul]; omega
      rw [this, hlen]
    refine ⟨_, (List.range len).map K, rfl, some a, cap, by rw [hlen], by rw [hlen]; exact hl, hm, by rw [hlen]; exact hfl, fun u hu => ?_, ?_⟩
    · obtain ⟨k, -, hk⟩ := List.mem_flatMap.1 hu
      exact h1 k u hk
    · rw [hlen]
      by_cases h0 : len = 0
      · exact .inl h0
      · have hz : 0 < (f (K 0)).length := by rw [hf]; exact hpos
        have hc0 := hK 0 (by omega) 0 _ (List.getElem?_eq_getElem hz)
        rw [Nat.zero_mul] at hc0
        have ha : (a.add 0).add 0 = a := by simp [Addr.add]
        rw [ha] at hc0
        obtain ⟨e1, e2⟩ := spot_none hc0
        refine .inr ⟨a.block, a.off, by rw [← e1], e2, ?_⟩
        refine range_flat f size hf _ _ (fun i k hk j v hj => ?_)
        have hi : i < len := by
          have := (List.getElem?_eq_some_iff.1 hk).1
          rwa [hlen] at this
        rw [List.getElem?_map, List.getElem?_range hi] at hk
        obtain rfl := Option.some.inj hk
        have := hK i hi j v hj
        rw [e1, Addr.add_mid, Addr.add_mid] at this
        exact this
theorem open_rowsP {α : Type} [Inhabited α] (f : α → List Value) (size : Nat) (hpos : 0 < size) (hf : ∀ k, (f k).length = size) (h1 : ∀ k, ∀ u ∈ f k, u.oneCell' = true) {r : Reach} {b0 : Nat} {t e : TypeId} {v : Value} {d : DataW H} {ps : List MemPlace} (ht : P.underlying t = some (.slice e)) (hc : P.cellsOf e = size)
    (hel : ∀ fuel cs y, DataW.trod enc P w base sp held fuel e cs = some y → ∃ k, cs = f k) (hval : Value.okWide P w r b0 t v) (hd : DataW.Trod enc P w base sp held t v d ps) : ∃ ks : List α, Rd w size v ks.length (ks.flatMap f) := by
  obtain ⟨a, len, cap, rfl⟩ := okWide_slice ht hval
  obtain ⟨fuel, hfu⟩ := hd
  obtain ⟨v, ks, h1, h2⟩ := open_rowsL f size hpos hf h1 ht hc hel hfu
  have : Value.slice a len cap = v := by
    have h3 : (Value.slice a len cap).cells.toList = [Value.slice a len cap] := rfl
    rw [h3] at h1
    injection h1
  subst this
  exact ⟨ks, h2⟩
theorem open_keysP {r : Reach} {b0 : Nat} {t e el : TypeId} {v : Value} {d : DataW H} {ps : List MemPlace} (ht : P.underlying t = some (.slice e)) (he : P.underlying e = some (.array 32 el)) (hel : P.underlying el = some (.int .u8)) (hce : P.cellsOf el = 1) (hct : P.cellsOf e = 32)
    (hval : Value.okWide P w r b0 t v) (hd : DataW.Trod enc P w base sp held t v d ps) : ∃ ks : List Ky, Rd w 32 v ks.length (kyL ks) :=
  open_rowsP (fun k : Ky => bL k.1) 32 (by omega) (fun k => by simp [bL_length]) (fun k => bL_one _) ht hct (fun fuel cs y h => by
    obtain ⟨l, h1, h2⟩ := cells_of_arr (e := bV) (fun n hn => by obtain ⟨b, rfl⟩ := byte_of_wf hn; exact ⟨b, rfl⟩) he hel hce hct h
    exact ⟨⟨l, h1⟩, h2⟩) hval hd
end

end Go.Proofs.YtmbhaoiahlbglaaDoor

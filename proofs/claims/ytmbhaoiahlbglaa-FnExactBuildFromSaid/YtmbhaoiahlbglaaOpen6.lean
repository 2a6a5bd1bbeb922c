/- Opening of parameters: slices of slices of bytes. -/
import Derived.Test.YtmbhaoiahlbglaaOpen5
import Derived.Test.YtmbhaoiahlbglaaHN
namespace Go.Proofs.Ytmbhaoiahlbglaa
open Go.ChangeShapes Go.WideShapes Go.ChangeAt Go.RowKit Go.Deep
set_option linter.unusedVariables false
set_option linter.unusedSimpArgs false
section
variable {H : Type} {enc : TypeId × Value → H} {P : Program} {w : World} {base : Nat} {sp : Nat → Bool} {held : Bool}
theorem open_bytesSL {t te e : TypeId} {fuel : Nat} {cs : List Value} {x : DataW H × List MemPlace} (ht : P.underlying t = some (.slice te)) (hte : P.underlying te = some (.slice e)) (he : P.underlying e = some (.int .u8)) (hct : P.cellsOf te = 1) (hc : P.cellsOf e = 1) (h : DataW.trod enc P w base sp held fuel t cs = some x) :
    ∃ v ls, cs = [v] ∧ RdSA w v ls := by
  rcases open_slice1 ht hct h with ⟨rfl, -⟩ | ⟨a, len, cap, m, n, V, D, Pl, rfl, hb, hl, hm, hmm, -, hV⟩
  · exact ⟨_, [], rfl, none, 0, rfl, Nat.zero_le _, fun i l hi => by simp at hi⟩
  · have hle : len ≤ m := by rw [hmm]; split <;> omega
    have hB : ∀ i, i < len → ∃ l : List UInt8, RdB w (V i) l := fun i hi => by
      obtain ⟨v, l, h1, h2⟩ := open_bytesL hte he hc (hV i (by omega)).2
      injection h1 with h1 _
      subst h1
      exact ⟨l, h2⟩
    obtain ⟨B, hB⟩ := choose_lt (α := List UInt8) (p := fun i l => RdB w (V i) l) hB
    have hlen : ((List.range len).map B).length = len := by simp
    refine ⟨_, (List.range len).map B, rfl, some a, cap, by rw [hlen], by rw [hlen]; omega, fun i l hi => ?_⟩
    have hil : i < len := by
      have := (List.getElem?_eq_some_iff.1 hi).1
      omega
    have hl' : l = B i := by
      rw [List.getElem?_map, List.getElem?_range hil] at hi
      exact (Option.some.inj hi).symm
    subst hl'
    have hcell := (hV i (by omega)).1
    have hr := hB i hil
    obtain ⟨b, c, hv, -, -⟩ := id hr
    rw [hv] at hcell hr
    refine ⟨a, b, c, rfl, ?_, hcell, hr⟩
    have := cell_lt' hcell
    rwa [add_block] at this
theorem open_bytesSP {r : Reach} {b0 : Nat} {t te e : TypeId} {v : Value} {d : DataW H} {ps : List MemPlace} (ht : P.underlying t = some (.slice te)) (hte : P.underlying te = some (.slice e)) (he : P.underlying e = some (.int .u8)) (hct : P.cellsOf te = 1) (hc : P.cellsOf e = 1)
    (hval : Value.okWide P w r b0 t v) (hd : DataW.Trod enc P w base sp held t v d ps) : ∃ ls : List (List UInt8), RdSA w v ls := by
  obtain ⟨a, len, cap, rfl⟩ := okWide_slice ht hval
  obtain ⟨fuel, hf⟩ := hd
  obtain ⟨v, l, h1, h2⟩ := open_bytesSL ht hte he hct hc hf
  have : Value.slice a len cap = v := by
    have h3 : (Value.slice a len cap).cells.toList = [Value.slice a len cap] := rfl
    rw [h3] at h1
    injection h1
  subst this
  exact ⟨l, h2⟩
end

end Go.Proofs.Ytmbhaoiahlbglaa

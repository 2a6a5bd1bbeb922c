/- Opening of parameters: slices of bytes. -/
import Derived.Test.YtmbhaoiahlbglaaOpen
import Derived.Test.YtmbhaoiahlbglaaRows
import Derived.Test.YtmbhaoiahlbglaaKS
import Derived.Deep.Slices
import Derived.Lib.SmallJoins
namespace Go.Proofs.Ytmbhaoiahlbglaa
open Go.ChangeShapes Go.WideShapes Go.ChangeAt Go.RowKit Go.Deep
set_option linter.unusedVariables false
set_option linter.unusedSimpArgs false
section
variable {H : Type} {enc : TypeId × Value → H} {P : Program} {w : World} {base : Nat} {sp : Nat → Bool} {held : Bool}
theorem cell_lt' {w : World} {p : Addr} {v : Value} (h : w.cell? p = some v) : p.block < w.heap.size := by
  rcases Nat.lt_or_ge p.block w.heap.size with hl | hl
  · exact hl
  · unfold World.cell? at h
    rw [Array.getElem?_eq_none hl] at h
    simp at h
theorem open_bytesL {t e : TypeId} {fuel : Nat} {cs : List Value} {x : DataW H × List MemPlace} (ht : P.underlying t = some (.slice e)) (he : P.underlying e = some (.int .u8)) (hc : P.cellsOf e = 1) (h : DataW.trod enc P w base sp held fuel t cs = some x) :
    ∃ v l, cs = [v] ∧ RdB w v l := by
  rcases open_slice1 ht hc h with ⟨rfl, -⟩ | ⟨a, len, cap, m, n, V, D, Pl, rfl, hb, hl, hm, hmm, -, hV⟩
  · exact ⟨_, [], rfl, RdB.nil w⟩
  · have hle : len ≤ m := by rw [hmm]; split <;> omega
    have hB : ∀ i, i < len → ∃ b : UInt8, V i = .int .u8 (b.toNat : Int) := fun i hi => by
      obtain ⟨n', h1, -, h3⟩ := DataW.trod_int he (hV i (by omega)).2
      obtain ⟨b, rfl⟩ := byte_of_wf h3
      injection h1 with h1 _
      exact ⟨b, h1⟩
    obtain ⟨B, hB⟩ := choose_lt (α := UInt8) (p := fun i b => V i = .int .u8 (b.toNat : Int)) hB
    have hlen : ((List.range len).map B).length = len := by simp
    refine ⟨_, (List.range len).map B, rfl, some a, cap, by rw [hlen], by rw [hlen]; omega, fun i hi => ⟨a, rfl, ?_, ?_⟩⟩
    · have := cell_lt' (hV i (by omega)).1
      rwa [add_block] at this
    · rw [hlen] at hi
      rw [(hV i (by omega)).1, hB i hi, bt_eq _ _ (by rw [hlen]; exact hi)]
      simp
theorem open_bytesP {r : Reach} {b0 : Nat} {t e : TypeId} {v : Value} {d : DataW H} {ps : List MemPlace} (ht : P.underlying t = some (.slice e)) (he : P.underlying e = some (.int .u8)) (hc : P.cellsOf e = 1)
    (hval : Value.okWide P w r b0 t v) (hd : DataW.Trod enc P w base sp held t v d ps) : ∃ l : List UInt8, RdB w v l := by
  obtain ⟨a, len, cap, rfl⟩ := okWide_slice ht hval
  obtain ⟨fuel, hf⟩ := hd
  obtain ⟨v, l, h1, h2⟩ := open_bytesL ht he hc hf
  have : Value.slice a len cap = v := by
    have h3 : (Value.slice a len cap).cells.toList = [Value.slice a len cap] := rfl
    rw [h3] at h1
    injection h1
  subst this
  exact ⟨l, h2⟩
end

end Go.Proofs.Ytmbhaoiahlbglaa

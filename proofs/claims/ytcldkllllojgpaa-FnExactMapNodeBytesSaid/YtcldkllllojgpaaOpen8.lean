/- Opening of parameters: slices of entries. -/
import Derived.Test.YtcldkllllojgpaaOpen7
import Derived.Test.YtcldkllllojgpaaHEn
namespace Go.Proofs.Ytcldkllllojgpaa
open Go.ChangeShapes Go.WideShapes Go.ChangeAt Go.RowKit Go.Deep
set_option linter.unusedVariables false
set_option linter.unusedSimpArgs false
abbrev EnS := {e : En // e.1.size ≤ maxLen ∧ e.2.size ≤ maxLen}
instance : Inhabited EnS := ⟨⟨(ByteArray.empty, ByteArray.empty), by simp⟩⟩
section
variable {H : Type} {enc : TypeId × Value → H} {P : Program} {w : World} {base : Nat} {sp : Nat → Bool} {held : Bool}
theorem open_entC {e : TypeId} {f0 f1 : Field} {fuel : Nat} {cs : List Value} {y : DataW H × List MemPlace} (hs : P.underlying e = some (.struct #[f0, f1])) (hone : oneCellFields P #[f0, f1] = true) (hC : P.cellsOf e = 2) (h0 : P.underlying f0.type = some .string) (h1 : P.underlying f1.type = some .string)
    (h : DataW.trod enc P w base sp held fuel e cs = some y) : ∃ k : EnS, cs = bE k.1 := by
  obtain ⟨y0, y1, n, hx, hl, z0, z1⟩ := trod_struct2 hs h
  obtain ⟨o0, k0⟩ := hone_of hone 0 f0 rfl
  obtain ⟨o1, k1⟩ := hone_of hone 1 f1 rfl
  rw [hC] at hl
  match cs, hl with
  | [c0, c1], _ =>
    have z0 : DataW.trod enc P w base sp held n f0.type [c0] = some y0 := by simpa [o0, k0] using z0
    have z1 : DataW.trod enc P w base sp held n f1.type [c1] = some y1 := by simpa [o1, k1] using z1
    obtain ⟨a, e0, -, wa⟩ := DataW.trod_string h0 z0
    obtain ⟨b, e1, -, wb⟩ := DataW.trod_string h1 z1
    simp at e0 e1
    subst e0 e1
    exact ⟨⟨(a, b), wa, wb⟩, rfl⟩
theorem open_entsP {r : Reach} {b0 : Nat} {t e : TypeId} {f0 f1 : Field} {v : Value} {d : DataW H} {ps : List MemPlace} (ht : P.underlying t = some (.slice e)) (hs : P.underlying e = some (.struct #[f0, f1])) (hone : oneCellFields P #[f0, f1] = true) (hC : P.cellsOf e = 2) (h0 : P.underlying f0.type = some .string) (h1 : P.underlying f1.type = some .string)
    (hval : Value.okWide P w r b0 t v) (hd : DataW.Trod enc P w base sp held t v d ps) : ∃ es : List En, smallE es ∧ Rd w 2 v es.length (enL es) := by
  obtain ⟨ks, hk⟩ := open_rowsP (fun k : EnS => bE k.1) 2 (by omega) (fun k => rfl) (fun k => bE_one k.1) ht hC (fun fuel cs y h => open_entC hs hone hC h0 h1 h) hval hd
  refine ⟨ks.map (·.1), fun e he => ?_, ?_⟩
  · obtain ⟨k, -, rfl⟩ := List.mem_map.1 he
    exact k.2
  · rw [List.length_map, enL, List.flatMap_map]
    exact hk
end

end Go.Proofs.Ytcldkllllojgpaa

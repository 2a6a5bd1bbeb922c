/- Opening of parameters: arrays of words. -/
import Derived.Test.YtgofolmekgjkjaaOpen
import Derived.Test.YtgofolmekgjkjaaRows
namespace Go.Proofs.Ytgofolmekgjkjaa
open Go.ChangeShapes Go.WideShapes Go.ChangeAt Go.RowKit
set_option linter.unusedVariables false
section
variable {H : Type} {enc : TypeId × Value → H} {P : Program} {w : World} {base : Nat} {sp : Nat → Bool} {held : Bool}
theorem open_u32arr {r : Reach} {b0 : Nat} {t el : TypeId} {n : Nat} {v : Value} {d : DataW H} {ps : List MemPlace} (ht : P.underlying t = some (.array n el)) (he : P.underlying el = some (.int .u32)) (hce : P.cellsOf el = 1) (hct : P.cellsOf t = n)
    (hval : Value.okWide P w r b0 t v) (hd : DataW.Trod enc P w base sp held t v d ps) : ∃ l : List UInt32, l.length = n ∧ v = .agg (wA l) := by
  unfold Value.okWide at hval
  rw [ht] at hval
  obtain ⟨cs, rfl, hs, -⟩ := hval
  obtain ⟨fuel, hf⟩ := hd
  obtain ⟨l, h1, h2⟩ := cells_of_arr (e := wV) (fun n hn => by obtain ⟨b, rfl⟩ := word_of_wf hn; exact ⟨b, rfl⟩) ht he hce hct hf
  refine ⟨l, h1, ?_⟩
  have : cs = (l.map wV).toArray := by rw [← h2]; rfl
  rw [this]
  rfl
end

end Go.Proofs.Ytgofolmekgjkjaa

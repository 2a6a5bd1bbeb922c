/- Opening of parameters: a node (two arrays of 32 bytes, a struct of two strings). -/
import Derived.Test.YtcldkllllojgpaaOpen8
import Derived.Test.YtcldkllllojgpaaHNd
namespace Go.Proofs.Ytcldkllllojgpaa
open Go.ChangeShapes Go.WideShapes Go.ChangeAt Go.RowKit Go.Deep
set_option linter.unusedVariables false
set_option linter.unusedSimpArgs false
section
variable {H : Type} {enc : TypeId × Value → H} {P : Program} {w : World} {base : Nat} {sp : Nat → Bool} {held : Bool}
theorem open_nod {r : Reach} {b0 : Nat} {t te : TypeId} {f0 f1 f2 g0 g1 : Field} {v : Value} {d : DataW H} {p : List MemPlace} (ht : P.underlying t = some (.struct #[f0, f1, f2])) (he : P.underlying te = some (.int .u8)) (hce : P.cellsOf te = 1)
    (hw0 : P.underlying f0.type = some (.array 32 te)) (hc0 : P.cellsOf f0.type = 32) (ho0 : f0.offset = 0) (hw1 : P.underlying f1.type = some (.array 32 te)) (hc1 : P.cellsOf f1.type = 32) (ho1 : f1.offset = 32)
    (hE : P.underlying f2.type = some (.struct #[g0, g1])) (hone : oneCellFields P #[g0, g1] = true) (hC : P.cellsOf f2.type = 2) (ho2 : f2.offset = 64) (hs0 : P.underlying g0.type = some .string) (hs1 : P.underlying g1.type = some .string) (hct : P.cellsOf t = 66)
    (hval : Value.okWide P w r b0 t v) (h : DataW.Trod enc P w base sp held t v d p) :
    ∃ (k0 k1 : Ky) (n u : ByteArray), v = .agg (nodC k0.1 k1.1 n u) ∧ n.size ≤ maxLen ∧ u.size ≤ maxLen := by
  unfold Value.okWide at hval
  rw [ht] at hval
  obtain ⟨cs, rfl, hsz, -⟩ := hval
  obtain ⟨fuel, hf⟩ := h
  obtain ⟨xs, m, -, -, hl, hlen, hfs⟩ := DataW.trod_struct ht hf
  have h0 := hfs 0 f0 rfl
  have h1 := hfs 1 f1 rfl
  have h2 := hfs 2 f2 rfl
  have hxs : xs.length = 3 := hlen
  rw [List.getElem?_eq_getElem (by omega), ho0, hc0] at h0
  rw [List.getElem?_eq_getElem (by omega), ho1, hc1] at h1
  rw [List.getElem?_eq_getElem (by omega), ho2, hC] at h2
  obtain ⟨a, ha, e0⟩ := cells_of_arr (e := bV) (fun n hn => by obtain ⟨b, rfl⟩ := byte_of_wf hn; exact ⟨b, rfl⟩) hw0 he hce hc0 h0
  obtain ⟨b, hb, e1⟩ := cells_of_arr (e := bV) (fun n hn => by obtain ⟨b, rfl⟩ := byte_of_wf hn; exact ⟨b, rfl⟩) hw1 he hce hc1 h1
  obtain ⟨k, e2⟩ := open_entC hE hone hC hs0 hs1 h2
  have hcl : (Value.agg cs).cells.toList.length = 66 := by rw [hl, hct]
  have hcc : (Value.agg cs).cells.toList = cs.toList := rfl
  rw [hcc] at e0 e1 e2 hcl
  refine ⟨⟨a, ha⟩, ⟨b, hb⟩, k.1.1, k.1.2, ?_, k.2.1, k.2.2⟩
  have : cs.toList = bL a ++ bL b ++ bE k.1 := by
    have q1 : cs.toList = cs.toList.take 32 ++ cs.toList.drop 32 := (List.take_append_drop 32 _).symm
    have q2 : cs.toList.drop 32 = (cs.toList.drop 32).take 32 ++ (cs.toList.drop 32).drop 32 := (List.take_append_drop 32 _).symm
    have q3 : (cs.toList.drop 32).drop 32 = cs.toList.drop 64 := by rw [List.drop_drop]
    have q4 : cs.toList.drop 64 = (cs.toList.drop 64).take 2 := (List.take_of_length_le (by rw [List.length_drop]; omega)).symm
    rw [q1, q2, q3, q4, e1, e2]
    rw [List.drop_zero] at e0
    rw [e0, List.append_assoc]
    rfl
  unfold nodC
  show Value.agg cs = .agg (bL a ++ bL b ++ bE k.1).toArray
  rw [← this]
end

end Go.Proofs.Ytcldkllllojgpaa

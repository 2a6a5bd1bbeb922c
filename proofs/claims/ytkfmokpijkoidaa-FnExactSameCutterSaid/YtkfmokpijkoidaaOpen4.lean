/- Opening of parameters: cutters. -/
import Derived.Test.YtkfmokpijkoidaaOpen3
import Derived.Test.YtkfmokpijkoidaaKCut
namespace Go.Proofs.Ytkfmokpijkoidaa
open Go.ChangeShapes Go.WideShapes Go.ChangeAt Go.RowKit Go.Deep
set_option linter.unusedVariables false
set_option linter.unusedSimpArgs false
section
variable {H : Type} {enc : TypeId × Value → H} {P : Program} {w : World} {base : Nat} {sp : Nat → Bool} {held : Bool}
theorem open_cut {r : Reach} {b0 : Nat} {t tx : TypeId} {f0 f1 f2 p0 p1 p2 : Field} {v : Value} {d : DataW H} {p : List MemPlace} (ht : P.underlying t = some (.struct #[f0, f1, f2]))
    (hr : P.underlying f0.type = some (.struct #[p0, p1, p2])) (hcr : P.cellsOf f0.type = 3) (ho0 : f0.offset = 0)
    (q0 : P.underlying p0.type = some (.int .i64)) (q1 : P.underlying p1.type = some (.int .i64)) (q2 : P.underlying p2.type = some (.int .i64)) (z0 : P.cellsOf p0.type = 1) (z1 : P.cellsOf p1.type = 1) (z2 : P.cellsOf p2.type = 1) (y0 : p0.offset = 0) (y1 : p1.offset = 1) (y2 : p2.offset = 2)
    (hw : P.underlying f1.type = some (.int .u32)) (hcw : P.cellsOf f1.type = 1) (ho1 : f1.offset = 3)
    (hb : P.underlying f2.type = some (.slice tx)) (hx : P.underlying tx = some (.int .u8)) (hcx : P.cellsOf tx = 1) (hcb : P.cellsOf f2.type = 1) (ho2 : f2.offset = 4) (hct : P.cellsOf t = 5)
    (hval : Value.okWide P w r b0 t v) (h : DataW.Trod enc P w base sp held t v d p) :
    ∃ (a b c : Int) (x : UInt32) (h : Value) (l : List UInt8), v = .agg (cutC a b c x h) ∧ RdB w h l := by
  unfold Value.okWide at hval
  rw [ht] at hval
  obtain ⟨cs, rfl, hsz, -⟩ := hval
  obtain ⟨fuel, hf⟩ := h
  obtain ⟨xs, m, -, -, hl, hlen, hfs⟩ := DataW.trod_struct ht hf
  have h0 := hfs 0 f0 rfl
  have h1 := hfs 1 f1 rfl
  have h2 := hfs 2 f2 rfl
  have hxs : xs.length = 3 := hlen
  rw [List.getElem?_eq_getElem (by omega), ho0, hcr] at h0
  rw [List.getElem?_eq_getElem (by omega), ho1, hcw] at h1
  rw [List.getElem?_eq_getElem (by omega), ho2, hcb] at h2
  rw [hct] at hl
  have hcc : (Value.agg cs).cells.toList = cs.toList := rfl
  rw [hcc] at h0 h1 h2 hl
  obtain ⟨ys, m', -, -, hl', hlen', hfs'⟩ := DataW.trod_struct hr h0
  have hys : ys.length = 3 := hlen'
  have g0 := hfs' 0 p0 rfl
  have g1 := hfs' 1 p1 rfl
  have g2 := hfs' 2 p2 rfl
  rw [List.getElem?_eq_getElem (by omega), y0, z0] at g0
  rw [List.getElem?_eq_getElem (by omega), y1, z1] at g1
  rw [List.getElem?_eq_getElem (by omega), y2, z2] at g2
  obtain ⟨a, e0, -, -⟩ := DataW.trod_int q0 g0
  obtain ⟨b, e1, -, -⟩ := DataW.trod_int q1 g1
  obtain ⟨c, e2, -, -⟩ := DataW.trod_int q2 g2
  obtain ⟨n, e3, -, hn⟩ := DataW.trod_int hw h1
  obtain ⟨x, rfl⟩ := word_of_wf hn
  obtain ⟨hv, l, e4, hrd⟩ := open_bytes hb hx hcx h2
  obtain ⟨cl⟩ := cs
  simp only at e0 e1 e2 e3 e4 hl
  match cl, hl with
  | [k0, k1, k2, k3, k4], _ =>
    simp at e0 e1 e2 e3 e4
    subst e0 e1 e2 e3 e4
    exact ⟨a, b, c, x, _, l, rfl, hrd⟩
end

end Go.Proofs.Ytkfmokpijkoidaa

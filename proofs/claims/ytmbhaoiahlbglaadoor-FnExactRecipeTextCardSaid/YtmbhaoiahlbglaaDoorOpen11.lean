/- Opening of parameters: slices of pieces (without maps). -/
import Derived.Test.YtmbhaoiahlbglaaDoorOpen7
import Derived.Test.YtmbhaoiahlbglaaDoorHPi
namespace Go.Proofs.YtmbhaoiahlbglaaDoor
open Go.ChangeShapes Go.WideShapes Go.ChangeAt Go.RowKit
set_option linter.unusedVariables false
set_option linter.unusedSimpArgs false
def Pw (p : Pc) : Prop := -9223372036854775808 ≤ p.2 ∧ p.2 < 9223372036854775808
abbrev PcW := {p : Pc // Pw p}
instance : Inhabited PcW := ⟨⟨(zeroKy, 0), by unfold Pw; decide⟩⟩
section
variable {H : Type} {enc : TypeId × Value → H} {P : Program} {w : World} {base : Nat} {sp : Nat → Bool} {held : Bool}
theorem wf_i64_inv {n : Int} (h : (Lit.int .i64 n).wf = true) : -9223372036854775808 ≤ n ∧ n < 9223372036854775808 := by
  have h1 : IntKind.i64.min = -9223372036854775808 := by decide
  have h2 : IntKind.i64.max = 9223372036854775807 := by decide
  simp [Lit.wf, h1, h2] at h
  omega
theorem open_pieC {e el : TypeId} {f0 f1 : Field} {fuel : Nat} {cs : List Value} {y : DataW H × List MemPlace} (hs : P.underlying e = some (.struct #[f0, f1])) (hC : P.cellsOf e = 33) (h0 : P.underlying f0.type = some (.array 32 el)) (he : P.underlying el = some (.int .u8)) (hce : P.cellsOf el = 1) (hct : P.cellsOf f0.type = 32) (o0 : f0.offset = 0)
    (h1 : P.underlying f1.type = some (.int .i64)) (hc1 : P.cellsOf f1.type = 1) (o1 : f1.offset = 32) (h : DataW.trod enc P w base sp held fuel e cs = some y) : ∃ k : PcW, cs = bP k.1 := by
  obtain ⟨y0, y1, n, hx, hl, z0, z1⟩ := trod_struct2 hs h
  rw [hC] at hl
  rw [o0, hct, List.drop_zero] at z0
  rw [o1, hc1] at z1
  obtain ⟨l, hl32, e0⟩ := cells_of_arr (e := bV) (fun n hn => by obtain ⟨b, rfl⟩ := byte_of_wf hn; exact ⟨b, rfl⟩) h0 he hce hct z0
  obtain ⟨m, e1, -, wm⟩ := DataW.trod_int h1 z1
  refine ⟨⟨(⟨l, hl32⟩, m), wf_i64_inv wm⟩, ?_⟩
  have : cs = cs.take 32 ++ (cs.drop 32).take 1 := by
    rw [List.take_of_length_le (l := cs.drop 32) (by rw [List.length_drop, hl]; omega)]
    exact (List.take_append_drop 32 cs).symm
  rw [this, e0, e1]
  rfl
theorem open_piecesP {r : Reach} {b0 : Nat} {t e el : TypeId} {f0 f1 : Field} {v : Value} {d : DataW H} {ps : List MemPlace} (ht : P.underlying t = some (.slice e)) (hs : P.underlying e = some (.struct #[f0, f1])) (hC : P.cellsOf e = 33) (h0 : P.underlying f0.type = some (.array 32 el)) (he : P.underlying el = some (.int .u8)) (hce : P.cellsOf el = 1) (hct : P.cellsOf f0.type = 32) (o0 : f0.offset = 0)
    (h1 : P.underlying f1.type = some (.int .i64)) (hc1 : P.cellsOf f1.type = 1) (o1 : f1.offset = 32) (hval : Value.okWide P w r b0 t v) (hd : DataW.Trod enc P w base sp held t v d ps) : ∃ qs : List Pc, (∀ p ∈ qs, Pw p) ∧ Rd w 33 v qs.length (piL qs) := by
  obtain ⟨ks, hk⟩ := open_rowsP (fun k : PcW => bP k.1) 33 (by omega) (fun k => bP_len _) (fun k => bP_one k.1) ht hC (fun fuel cs y h => open_pieC hs hC h0 he hce hct o0 h1 hc1 o1 h) hval hd
  refine ⟨ks.map (·.1), fun e he => ?_, ?_⟩
  · obtain ⟨k, -, rfl⟩ := List.mem_map.1 he
    exact k.2
  · rw [List.length_map, piL, List.flatMap_map]
    exact hk
end

end Go.Proofs.YtmbhaoiahlbglaaDoor

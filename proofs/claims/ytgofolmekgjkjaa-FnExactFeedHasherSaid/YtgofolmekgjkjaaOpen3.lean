/- Opening of parameters: slices of bytes, hashers. -/
import Derived.Test.YtgofolmekgjkjaaOpen2
import Derived.Test.YtgofolmekgjkjaaKH
import Derived.Deep.Slices
import Derived.Lib.SmallJoins
namespace Go.Proofs.Ytgofolmekgjkjaa
open Go.ChangeShapes Go.WideShapes Go.ChangeAt Go.RowKit Go.Deep
set_option linter.unusedVariables false
set_option linter.unusedSimpArgs false
section
variable {H : Type} {enc : TypeId × Value → H} {P : Program} {w : World} {base : Nat} {sp : Nat → Bool} {held : Bool}
theorem cell_lt {w : World} {p : Addr} {v : Value} (h : w.cell? p = some v) : p.block < w.heap.size := by
  rcases Nat.lt_or_ge p.block w.heap.size with hl | hl
  · exact hl
  · unfold World.cell? at h
    rw [Array.getElem?_eq_none hl] at h
    simp at h
theorem open_bytes {t e : TypeId} {fuel : Nat} {cs : List Value} {x : DataW H × List MemPlace} (ht : P.underlying t = some (.slice e)) (he : P.underlying e = some (.int .u8)) (hc : P.cellsOf e = 1) (h : DataW.trod enc P w base sp held fuel t cs = some x) :
    ∃ v l, cs = [v] ∧ RdB w v l := by
  rcases open_slice1 ht hc h with ⟨rfl, -⟩ | ⟨a, len, cap, m, n, V, D, Pl, rfl, hb, hl, hm, hmm, -, hV⟩
  · exact ⟨_, [], rfl, RdB.nil w⟩
  · have hle : len ≤ m := by rw [hmm]; split <;> omega
    have hB : ∀ i, i < len → ∃ b : UInt8, V i = .int .u8 (b.toNat : Int) := fun i hi => by
      obtain ⟨n', h1, -, h3⟩ := DataW.trod_int he (hV i (by omega)).2
      obtain ⟨b, rfl⟩ := byte_of_wf h3
      injection h1 with h1 _
      exact ⟨b, h1⟩
    obtain ⟨B, hB⟩ := choose_lt (α := UInt8) (p := fun i b => V i = .int .u8 (b.toNat : Int)) hB
    have hlen : ((List.range len).map B).length = len := by simp
    refine ⟨_, (List.range len).map B, rfl, some a, cap, by rw [hlen], by rw [hlen]; omega, fun i hi => ⟨a, rfl, ?_, ?_⟩⟩
    · have := cell_lt (hV i (by omega)).1
      rwa [add_block] at this
    · rw [hlen] at hi
      rw [(hV i (by omega)).1, hB i hi, bt_eq _ _ (by rw [hlen]; exact hi)]
      simp
theorem open_has {r : Reach} {b0 : Nat} {t te tx : TypeId} {f0 f1 f2 : Field} {v : Value} {d : DataW H} {p : List MemPlace} (ht : P.underlying t = some (.struct #[f0, f1, f2]))
    (hw : P.underlying f0.type = some (.array 8 te)) (he : P.underlying te = some (.int .u32)) (hce : P.cellsOf te = 1) (hcw : P.cellsOf f0.type = 8) (ho0 : f0.offset = 0)
    (hb : P.underlying f1.type = some (.slice tx)) (hx : P.underlying tx = some (.int .u8)) (hcx : P.cellsOf tx = 1) (hcb : P.cellsOf f1.type = 1) (ho1 : f1.offset = 8)
    (hi : P.underlying f2.type = some (.int .i64)) (hci : P.cellsOf f2.type = 1) (ho2 : f2.offset = 9) (hct : P.cellsOf t = 10)
    (hval : Value.okWide P w r b0 t v) (h : DataW.Trod enc P w base sp held t v d p) :
    ∃ s h l n, v = .agg (hasC s h n) ∧ s.length = 8 ∧ RdB w h l := by
  unfold Value.okWide at hval
  rw [ht] at hval
  obtain ⟨cs, rfl, hsz, -⟩ := hval
  obtain ⟨fuel, hf⟩ := h
  obtain ⟨xs, m, -, -, hl, hlen, hfs⟩ := DataW.trod_struct ht hf
  have h0 := hfs 0 f0 rfl
  have h1 := hfs 1 f1 rfl
  have h2 := hfs 2 f2 rfl
  have hxs : xs.length = 3 := hlen
  rw [List.getElem?_eq_getElem (by omega), ho0, hcw] at h0
  rw [List.getElem?_eq_getElem (by omega), ho1, hcb] at h1
  rw [List.getElem?_eq_getElem (by omega), ho2, hci] at h2
  obtain ⟨s, hs, e0⟩ := cells_of_arr (e := wV) (fun n hn => by obtain ⟨b, rfl⟩ := word_of_wf hn; exact ⟨b, rfl⟩) hw he hce hcw h0
  obtain ⟨hv, l, e1, hr⟩ := open_bytes hb hx hcx h1
  obtain ⟨n, e2, -, -⟩ := DataW.trod_int hi h2
  have hcl : (Value.agg cs).cells.toList.length = 10 := by rw [hl, hct]
  have hcc : (Value.agg cs).cells.toList = cs.toList := rfl
  rw [hcc] at e0 e1 e2 hcl
  refine ⟨s, hv, l, n, ?_, hs, hr⟩
  have : cs.toList = hasL s hv n := by
    have q1 : cs.toList = cs.toList.take 8 ++ cs.toList.drop 8 := (List.take_append_drop 8 _).symm
    have q2 : cs.toList.drop 8 = (cs.toList.drop 8).take 1 ++ (cs.toList.drop 8).drop 1 := (List.take_append_drop 1 _).symm
    have q3 : (cs.toList.drop 8).drop 1 = cs.toList.drop 9 := by rw [List.drop_drop]
    have q4 : cs.toList.drop 9 = (cs.toList.drop 9).take 1 := (List.take_of_length_le (by rw [List.length_drop]; omega)).symm
    rw [q1, q2, q3, q4, e1, e2]
    rw [List.drop_zero] at e0
    rw [e0]
    rfl
  unfold hasC
  rw [← this]
end

end Go.Proofs.Ytgofolmekgjkjaa

/- How the arguments of a law read: arrays of numbers by value, slices of bytes. No conditions beyond those each lemma states. -/
import Derived.Test.YtmbhaoiahlbglaaDoorRows
import Derived.Test.YtmbhaoiahlbglaaDoorBase
import Derived.ProofKit
import Derived.OpenShut
import Derived.ShutString
import Derived.ChangeOld
import Derived.SizedLaws
namespace Go.Proofs.YtmbhaoiahlbglaaDoor
open Go.ChangeShapes Go.WideShapes Go.ChangeAt Go.RowKit
open Go.ChangeMaps (open_string shut_string)
set_option linter.unusedVariables false
set_option linter.unusedSimpArgs false

theorem ownKnob_ : ownKnob Tryd.prog.godebug = none := by kernel_rfl
theorem laidOut_ : laidOutB Tryd.prog = true := by kernel_rfl

section
variable {H : Type} {enc : TypeId × Value → H} {P : Program} {w : World} {base : Nat} {sp : Nat → Bool} {held : Bool}

theorem byte_of_wf {n : Int} (h : (Lit.int .u8 n).wf = true) : ∃ b : UInt8, n = (b.toNat : Int) := by
  obtain ⟨h1, h2⟩ := bounds_u8 h
  refine ⟨UInt8.ofNat n.toNat, ?_⟩
  simp only [UInt8.toNat_ofNat']
  omega
theorem word_of_wf {n : Int} (h : (Lit.int .u32 n).wf = true) : ∃ b : UInt32, n = (b.toNat : Int) := by
  obtain ⟨h1, h2⟩ := bounds_u32 h
  refine ⟨UInt32.ofNat n.toNat, ?_⟩
  simp only [UInt32.toNat_ofNat']
  omega

/-- Cells that read as an array of one-cell elements: each cell is an element's. -/
theorem cells_of_arr {α : Type} {e : α → Value} {k : IntKind} (hk : ∀ n, (Lit.int k n).wf = true → ∃ x : α, Value.int k n = e x)
    {t el : TypeId} {n fuel : Nat} {cs : List Value} {x : DataW H × List MemPlace} (ht : P.underlying t = some (.array n el)) (he : P.underlying el = some (.int k)) (hce : P.cellsOf el = 1) (hct : P.cellsOf t = n)
    (h : DataW.trod enc P w base sp held fuel t cs = some x) : ∃ l : List α, l.length = n ∧ cs = l.map e := by
  obtain ⟨xs, m, -, -, hl, hx, hel⟩ := DataW.trod_array ht h
  rw [hct] at hl
  have main : ∀ (q : List Value) (i : Nat), (∀ j, j < q.length → ∃ y, DataW.trod enc P w base sp held m el [q.getD j undef] = some y) → ∃ l : List α, l.length = q.length ∧ q = l.map e := by
    intro q
    induction q with
    | nil => exact fun _ _ => ⟨[], rfl, rfl⟩
    | cons a q ih =>
      intro i hq
      obtain ⟨y, hy⟩ := hq 0 (by simp)
      simp only [List.getD_cons_zero] at hy
      obtain ⟨n', h1, h2, h3⟩ := DataW.trod_int he hy
      obtain ⟨x0, hx0⟩ := hk n' h3
      obtain ⟨l, hl1, hl2⟩ := ih 0 (fun j hj => by simpa using hq (j + 1) (by simpa using hj))
      injection h1 with h1 _
      exact ⟨x0 :: l, by simp [hl1], by rw [List.map_cons, ← hx0, ← h1, ← hl2]⟩
  obtain ⟨l, h1, h2⟩ := main cs 0 (fun j hj => by
    have h3 := hel j (by omega)
    rw [hce, Nat.mul_one] at h3
    have h4 : (cs.drop j).take 1 = [cs.getD j undef] := by
      rw [List.drop_eq_getElem_cons hj, List.take_succ_cons, List.take_zero]
      simp [List.getD, hj]
    rw [h4, List.getElem?_eq_getElem (by omega)] at h3
    exact ⟨_, h3⟩)
  exact ⟨l, by omega, h2⟩

theorem open_u8arr {r : Reach} {b0 : Nat} {t el : TypeId} {n : Nat} {v : Value} {d : DataW H} {ps : List MemPlace} (ht : P.underlying t = some (.array n el)) (he : P.underlying el = some (.int .u8)) (hce : P.cellsOf el = 1) (hct : P.cellsOf t = n)
    (hval : Value.okWide P w r b0 t v) (hd : DataW.Trod enc P w base sp held t v d ps) : ∃ l : List UInt8, l.length = n ∧ v = .agg (bA l) := by
  unfold Value.okWide at hval
  rw [ht] at hval
  obtain ⟨cs, rfl, hs, -⟩ := hval
  obtain ⟨fuel, hf⟩ := hd
  obtain ⟨l, h1, h2⟩ := cells_of_arr (e := bV) (fun n hn => by obtain ⟨b, rfl⟩ := byte_of_wf hn; exact ⟨b, rfl⟩) ht he hce hct hf
  refine ⟨l, h1, ?_⟩
  have : cs = (l.map bV).toArray := by rw [← h2]; rfl
  rw [this]
  rfl
end

end Go.Proofs.YtmbhaoiahlbglaaDoor

/- For all inputs the program's MapNodeBytes returns what the reference's returns, and what it returns is its own: the law FnExactMapNodeBytes returns true and leaves its argument as it is. Conditions: none. -/
import Derived.Test.YtcldkllllojgpaaHNl
import Derived.Test.YtcldkllllojgpaaOpen9
import Derived.Test.YtcldkllllojgpaaReg
import Derived.Test.YtcldkllllojgpaaOpen
namespace Go.Proofs.Ytcldkllllojgpaa
open Go.ChangeShapes Go.WideShapes Go.ChangeAt Go.RowKit
open Go.ChangeMaps (open_string shut_string)
set_option linter.unusedVariables false
set_option linter.unusedSimpArgs false

namespace fnExactMapNodeBytes
set_option maxRecDepth 100000 in
theorem lifted (os : Os) (started : os.Started) (H : Type) (enc : TypeId × Value → H) :
    ReturnsInHanded {} Try.checked os 7 .any (Rows.fnExactMapNodeBytesSpec.pre6 enc Try.prog Try.f7 Rows.fnExactMapNodeBytesRow.domain false) (Rows.fnExactMapNodeBytesSpec.post enc Try.prog Try.f7 false true false false) := by
  refine returnsInHanded_of_change_sized (C := Try.checked) ownKnob_ started (by kernel_rfl) Try.func7
    (ChangeSpec.witness6 (enc := enc) (C := Try.checked) false ⟨#[], #[.agg (nodC zero32 zero32 ByteArray.empty ByteArray.empty)], []⟩ 8 (by kernel_rfl) (by kernel_rfl) (by kernel_rfl) (by kernel_rfl)) ?_
  intro W base args ds gs before hval0 hW hcnd hsz0 _
  have hsz : (DataW.weightsEach Try.prog (Try.f7.params.toList ++ Rows.fnExactMapNodeBytesSpec.plain.varTypes Try.prog) (ds ++ gs)).all (· ≤ reachBytes) = true := hsz0
  have hval : ∀ (j : Nat) t v, Try.f7.params[j]? = some t → args[j]? = some v → Value.okWide Try.prog W .any base t v := hval0
  have hW' := hW
  obtain ⟨p, q, hA0, hV, rfl, hfz, hnd⟩ := hW
  have hA : DataW.TrodAll enc Try.prog W 0 (fun _ => true) true Try.f7.params.toList args.toList ds p := hA0
  rw [Try.params7] at hA hval hsz
  obtain ⟨v0, vs0, d0, ds0, p0, q0, hargs, rfl, rfl, h0, r0⟩ := trodAll_cons hA
  obtain ⟨rfl, rfl, rfl⟩ := trodAll_nil r0
  obtain rfl : args = #[v0] := by cases args; simp_all
  obtain ⟨rfl, rfl⟩ := trodVars_none hV
  have k0 := h0
  have lt0 : ∀ x ∈ p0, x.block < W.heap.size := fun x hx => hW'.lt x (by simp [hx])
  obtain ⟨k00, k10, n0, u0, rfl, wn0, wu0⟩ := open_nod Try.underlying48 Try.underlying5 (by kernel_rfl) Try.underlying34 (by kernel_rfl) rfl Try.underlying34 (by kernel_rfl) rfl Try.underlying46 (by kernel_rfl) (by kernel_rfl) rfl Try.underlying9 Try.underlying9 (by kernel_rfl) (hval 0 48 v0 rfl rfl) h0
  refine (lawMapNodeBytes_c k00 k10 n0 u0 wn0 wu0 W).mono fun e W' ⟨he, bel⟩ => ?_
  subst he
  exact ⟨_, rfl, _, _, _, [], _, [], hW', trodAll_mk1 (shut_bool Try.underlying4 _), (trodAll_cons_mk (Below.trod laidOut_ (by kernel_rfl) (of_decide_eq_true (by kernel_rfl)) k0 bel lt0) trodAll_mk0), rfl, Below.frame bel _, fun h => by cases h⟩
theorem over : Rows.fnExactMapNodeBytesRow.holds Try.pinned (OpenSpec.ofChange Rows.fnExactMapNodeBytesSpec) :=
  OpenClaim.holds_of_wide 7 Try.f7 rfl rfl rfl rfl rfl rfl rfl ⟨rfl, rfl, rfl, rfl, rfl⟩ rfl rfl rfl rfl rfl (by kernel_rfl) Try.func7 (by kernel_rfl)
    (of_decide_eq_true (by kernel_rfl)) (by unfold Func.isWrapper; first | (rw [if_pos (by decide +kernel)]; kernel_rfl) | (rw [if_neg (by decide +kernel)]; exact ⟨rfl, rfl⟩))
    (fun os started H enc _ => lifted os started H enc)
theorem proved : Rows.FnExactMapNodeBytesSaid := over
end fnExactMapNodeBytes
#print axioms fnExactMapNodeBytes.proved

end Go.Proofs.Ytcldkllllojgpaa

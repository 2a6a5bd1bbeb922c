/- For all inputs the program's SameCutter returns what the reference's returns: the law FnExactSameCutter returns true and leaves its arguments as they are. Conditions: none. -/
import Derived.Test.YtkfmokpijkoidaaKSC3
import Derived.Test.YtkfmokpijkoidaaOpen4
import Derived.Test.YtkfmokpijkoidaaReg
import Derived.Test.YtkfmokpijkoidaaOpen
namespace Go.Proofs.Ytkfmokpijkoidaa
open Go.ChangeShapes Go.WideShapes Go.ChangeAt Go.RowKit
open Go.ChangeMaps (open_string shut_string)
set_option linter.unusedVariables false
set_option linter.unusedSimpArgs false

namespace fnExactSameCutter
set_option maxRecDepth 100000 in
theorem lifted (os : Os) (started : os.Started) (H : Type) (enc : TypeId × Value → H) :
    ReturnsInHanded {} Try.checked os 8 .any (Rows.fnExactSameCutterSpec.pre6 enc Try.prog Try.f8 Rows.fnExactSameCutterRow.domain false) (Rows.fnExactSameCutterSpec.post enc Try.prog Try.f8 false true false false) := by
  refine returnsInHanded_of_change_sized (C := Try.checked) ownKnob_ started (by kernel_rfl) Try.func8
    (ChangeSpec.witness6 (enc := enc) (C := Try.checked) false ⟨#[], #[.agg #[.int .i64 0, .int .i64 0, .int .i64 0, .int .u32 0, .slice none 0 0], .agg #[.int .i64 0, .int .i64 0, .int .i64 0, .int .u32 0, .slice none 0 0]], []⟩ 8 (by kernel_rfl) (by kernel_rfl) (by kernel_rfl) (by kernel_rfl)) ?_
  intro W base args ds gs before hval0 hW hcnd hsz0 _
  have hsz : (DataW.weightsEach Try.prog (Try.f8.params.toList ++ Rows.fnExactSameCutterSpec.plain.varTypes Try.prog) (ds ++ gs)).all (· ≤ reachBytes) = true := hsz0
  have hval : ∀ (j : Nat) t v, Try.f8.params[j]? = some t → args[j]? = some v → Value.okWide Try.prog W .any base t v := hval0
  have hW' := hW
  obtain ⟨p, q, hA0, hV, rfl, hfz, hnd⟩ := hW
  have hA : DataW.TrodAll enc Try.prog W 0 (fun _ => true) true Try.f8.params.toList args.toList ds p := hA0
  rw [Try.params8] at hA hval hsz
  obtain ⟨v0, vs0, d0, ds0, p0, q0, hargs, rfl, rfl, h0, r0⟩ := trodAll_cons hA
  obtain ⟨v1, vs1, d1, ds1, p1, q1, rfl, rfl, rfl, h1, r1⟩ := trodAll_cons r0
  obtain ⟨rfl, rfl, rfl⟩ := trodAll_nil r1
  obtain rfl : args = #[v0, v1] := by cases args; simp_all
  obtain ⟨rfl, rfl⟩ := trodVars_none hV
  have k0 := h0
  have k1 := h1
  have lt0 : ∀ x ∈ p0, x.block < W.heap.size := fun x hx => hW'.lt x (by simp [hx])
  have lt1 : ∀ x ∈ p1, x.block < W.heap.size := fun x hx => hW'.lt x (by simp [hx])
  obtain ⟨a0, b0, c0, x0, hv0, l0, rfl, rd0⟩ := open_cut Try.underlying52 Try.underlying50 (by kernel_rfl) rfl Try.underlying2 Try.underlying2 Try.underlying2 (by kernel_rfl) (by kernel_rfl) (by kernel_rfl) rfl rfl rfl Try.underlying22 (by kernel_rfl) rfl Try.underlying30 Try.underlying5 (by kernel_rfl) (by kernel_rfl) rfl (by kernel_rfl) (hval 0 52 v0 rfl rfl) h0
  obtain ⟨a1, b1, c1, x1, hv1, l1, rfl, rd1⟩ := open_cut Try.underlying52 Try.underlying50 (by kernel_rfl) rfl Try.underlying2 Try.underlying2 Try.underlying2 (by kernel_rfl) (by kernel_rfl) (by kernel_rfl) rfl rfl rfl Try.underlying22 (by kernel_rfl) rfl Try.underlying30 Try.underlying5 (by kernel_rfl) (by kernel_rfl) rfl (by kernel_rfl) (hval 1 52 v1 rfl rfl) h1
  refine (lawSameCutter_c a0 b0 c0 x0 hv0 l0 a1 b1 c1 x1 hv1 l1 W rd0 rd1).mono fun e W' ⟨he, bel⟩ => ?_
  subst he
  exact ⟨_, rfl, _, _, _, [], _, [], hW', trodAll_mk1 (shut_bool Try.underlying4 _), (trodAll_cons_mk (Below.trod laidOut_ (by kernel_rfl) (of_decide_eq_true (by kernel_rfl)) k0 bel lt0) (trodAll_cons_mk (Below.trod laidOut_ (by kernel_rfl) (of_decide_eq_true (by kernel_rfl)) k1 bel lt1) trodAll_mk0)), rfl, Below.frame bel _, fun h => by cases h⟩
theorem over : Rows.fnExactSameCutterRow.holds Try.pinned (OpenSpec.ofChange Rows.fnExactSameCutterSpec) :=
  OpenClaim.holds_of_wide 8 Try.f8 rfl rfl rfl rfl rfl rfl rfl ⟨rfl, rfl, rfl, rfl, rfl⟩ rfl rfl rfl rfl rfl (by kernel_rfl) Try.func8 (by kernel_rfl)
    (of_decide_eq_true (by kernel_rfl)) (by unfold Func.isWrapper; first | (rw [if_pos (by decide +kernel)]; kernel_rfl) | (rw [if_neg (by decide +kernel)]; exact ⟨rfl, rfl⟩))
    (fun os started H enc _ => lifted os started H enc)
theorem proved : Rows.FnExactSameCutterSaid := over
end fnExactSameCutter
#print axioms fnExactSameCutter.proved

end Go.Proofs.Ytkfmokpijkoidaa

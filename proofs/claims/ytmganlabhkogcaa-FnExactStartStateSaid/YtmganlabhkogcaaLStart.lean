/- For all inputs the program's StartState returns what the reference's returns: the law FnExactStartState returns true and leaves its argument as it is. Conditions: none. -/
import Derived.Test.YtmganlabhkogcaaK2
import Derived.Test.YtmganlabhkogcaaReg
import Derived.Test.YtmganlabhkogcaaOpen
namespace Go.Proofs.Ytmganlabhkogcaa
open Go.ChangeShapes Go.WideShapes Go.ChangeAt Go.RowKit
open Go.ChangeMaps (open_string shut_string)
set_option linter.unusedVariables false
set_option linter.unusedSimpArgs false

set_option maxHeartbeats 800000 in
set_option maxRecDepth 100000 in
theorem lawStartState_c (tag : UInt8) (w : World) :
    Calls Try.prog 6 #[.int .u8 (tag.toNat : Int)] w fun e w' => e = .returned (.bool true) ∧ Up w w' := by
  have HS := Lib.hid (show (Try.prog.info? 32).map (·.size) = some (wA (startL tag)).size by rw [wA_size, startL_length]; exact info_state)
  have HZ := Lib.hid (show (wA zero8).size = (wA (startL tag)).size by rw [wA_size, wA_size, startL_length]; rfl)
  go_enter Try.func6, Try.ntmps6
  go_wp2_with (first
    | (go_at_call 20; (with_reducible refine (specStartState_c tag _).mono ?_); rintro e w' ⟨rfl, hb1⟩)
    | (refine wpList_store_row rfl 32 (.tmp 3) (.tmp 6) rfl _ (wA (startL tag)) rfl rfl 32 (wA zero8) (Blk.top rfl) (HS.out) (HZ.out) (wA_one _) ?_; rw [World.setRow_alloc_new])
    | (go_at_call 21; (with_reducible refine (implStartState_c tag _).mono ?_); rintro e w' ⟨rfl, hb2⟩)
    | (refine wpList_store_row rfl 32 (.tmp 4) (.tmp 8) rfl _ (wA (startL tag)) rfl rfl 32 (wA zero8) (Blk.top rfl) (HS.out) (HZ.out) (wA_one _) ?_; rw [World.setRow_alloc_new])
    | (refine wpList_load_row rfl 32 (.tmp 4) rfl _ rfl 32 (wA (startL tag)) (0, 0) _ (Blk.top rfl) Try.underlying32 rfl (HS.out) ?_)
    | (refine wpList_load_row rfl 32 (.tmp 3) rfl _ rfl 32 (wA (startL tag)) (0, 0) _ (((Blk.top rfl).up hb2).alloc _) Try.underlying32 rfl (HS.out) ?_)
    | (go_at_call 22; (with_reducible refine (eqUint32A8_same (startL tag) (startL_length _) _).mono ?_); rintro e w' ⟨rfl, hb3⟩))
  go_ret
  exact ⟨rfl, (((hb1.alloc _).trans hb2).alloc _).trans hb3⟩

namespace fnExactStartState
set_option maxRecDepth 100000 in
theorem lifted (os : Os) (started : os.Started) (H : Type) (enc : TypeId × Value → H) :
    ReturnsInHanded {} Try.checked os 6 .any (Rows.fnExactStartStateSpec.pre6 enc Try.prog Try.f6 Rows.fnExactStartStateRow.domain false) (Rows.fnExactStartStateSpec.post enc Try.prog Try.f6 false true false false) := by
  refine returnsInHanded_of_change_sized (C := Try.checked) ownKnob_ started (by kernel_rfl) Try.func6
    (ChangeSpec.witness6 (enc := enc) (C := Try.checked) false ⟨#[], #[.int .u8 0], []⟩ 8 (by kernel_rfl) (by kernel_rfl) (by kernel_rfl) (by kernel_rfl)) ?_
  intro W base args ds gs before hval0 hW hcnd hsz0 _
  have hsz : (DataW.weightsEach Try.prog (Try.f6.params.toList ++ Rows.fnExactStartStateSpec.plain.varTypes Try.prog) (ds ++ gs)).all (· ≤ reachBytes) = true := hsz0
  have hval : ∀ (j : Nat) t v, Try.f6.params[j]? = some t → args[j]? = some v → Value.okWide Try.prog W .any base t v := hval0
  have hW' := hW
  obtain ⟨p, q, hA0, hV, rfl, hfz, hnd⟩ := hW
  have hA : DataW.TrodAll enc Try.prog W 0 (fun _ => true) true Try.f6.params.toList args.toList ds p := hA0
  rw [Try.params6] at hA hval hsz
  obtain ⟨v0, vs0, d0, ds0, p0, q0, hargs, rfl, rfl, h0, r0⟩ := trodAll_cons hA
  obtain ⟨rfl, rfl, rfl⟩ := trodAll_nil r0
  obtain rfl : args = #[v0] := by cases args; simp_all
  obtain ⟨rfl, rfl⟩ := trodVars_none hV
  have k0 := h0
  have lt0 : ∀ x ∈ p0, x.block < W.heap.size := fun x hx => hW'.lt x (by simp [hx])
  obtain ⟨x0, rfl, rfl, rfl, wf0⟩ := open_int Try.underlying5 (hval 0 5 v0 rfl rfl) h0; obtain ⟨b0, rfl⟩ := byte_of_wf wf0
  refine (lawStartState_c b0 W).mono fun e W' ⟨he, bel⟩ => ?_
  subst he
  exact ⟨_, rfl, _, _, _, [], _, [], hW', trodAll_mk1 (shut_bool Try.underlying4 _), (trodAll_cons_mk (Below.trod laidOut_ (by kernel_rfl) (of_decide_eq_true (by kernel_rfl)) k0 bel lt0) trodAll_mk0), rfl, Below.frame bel _, fun h => by cases h⟩
theorem over : Rows.fnExactStartStateRow.holds Try.pinned (OpenSpec.ofChange Rows.fnExactStartStateSpec) :=
  OpenClaim.holds_of_wide 6 Try.f6 rfl rfl rfl rfl rfl rfl rfl ⟨rfl, rfl, rfl, rfl, rfl⟩ rfl rfl rfl rfl rfl (by kernel_rfl) Try.func6 (by kernel_rfl)
    (of_decide_eq_true (by kernel_rfl)) (by unfold Func.isWrapper; first | (rw [if_pos (by decide +kernel)]; kernel_rfl) | (rw [if_neg (by decide +kernel)]; exact ⟨rfl, rfl⟩))
    (fun os started H enc _ => lifted os started H enc)
theorem proved : Rows.FnExactStartStateSaid := over
end fnExactStartState
#print axioms fnExactStartState.proved

end Go.Proofs.Ytmganlabhkogcaa

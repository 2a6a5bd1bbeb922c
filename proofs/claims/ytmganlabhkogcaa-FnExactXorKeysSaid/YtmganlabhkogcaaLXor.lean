/- For all inputs the program's XorKeys returns what the reference's returns: the law FnExactXorKeys returns true and leaves its arguments as they are. Conditions: none. -/
import Derived.Test.YtmganlabhkogcaaK1
import Derived.Test.YtmganlabhkogcaaReg
import Derived.Test.YtmganlabhkogcaaOpen
namespace Go.Proofs.Ytmganlabhkogcaa
open Go.ChangeShapes Go.WideShapes Go.ChangeAt Go.RowKit
open Go.ChangeMaps (open_string shut_string)
set_option linter.unusedVariables false
set_option linter.unusedSimpArgs false

theorem info_arr32 : (Try.prog.info? 36).map (·.size) = some 32 := by kernel_rfl
theorem mixedOrders : Try.prog.follows .mixedOrders = true := by kernel_rfl
theorem zero_key (w : World) : (zeroValue 38).run Try.prog w = .ok (.agg (bA zero32)) w := by kernel_rfl
set_option maxHeartbeats 800000 in
set_option maxRecDepth 100000 in
theorem lawXorKeys_c (a b : List UInt8) (ha : a.length = 32) (hb : b.length = 32) (w : World) :
    Calls Try.prog 8 #[.agg (bA a), .agg (bA b)] w fun e w' => e = .returned (.bool true) ∧ Up w w' := by
  have HSa := Lib.hid (show (Try.prog.info? 36).map (·.size) = some (bA a).size by rw [bA_size, ha]; exact info_arr32)
  have HSb := Lib.hid (show (Try.prog.info? 36).map (·.size) = some (bA b).size by rw [bA_size, hb]; exact info_arr32)
  have HSx := Lib.hid (show (Try.prog.info? 38).map (·.size) = some (bA (xorL a b)).size by rw [bA_size, xorL_length _ _ (by omega), ha]; exact info_key)
  have HZ := Lib.hid (show (bA zero32).size = (bA (xorL a b)).size by rw [bA_size, bA_size, xorL_length _ _ (by omega), ha]; rfl)
  have HL := Lib.hid (And.intro ha hb)
  clear ha hb
  go_enter Try.func8, Try.ntmps8
  go_upto_region 1 with fail
  go_cut [5] (fun s5 wx => ∃ g : Nat, s5 = .pointer (some ⟨g, 0, none⟩) ∧ w.heap.size + 2 ≤ g ∧ Blk wx g 38 (bA (xorL a b)) ∧ Blk wx w.heap.size 36 (bA a) ∧ Blk wx (w.heap.size + 1) 36 (bA b) ∧ Up w wx)
  case first =>
    refine region_mono (m := 6) mixedOrders (by kernel_rfl) (by kernel_rfl)
      (fun | 0 => fun v _ => v = .agg (bA a) | 1 => fun v _ => v = .agg (bA a) | 2 => fun v _ => v = .agg (bA b) | 3 => fun v _ => v = .agg (bA b) | 4 => fun v _ => v = .agg (bA (xorL a b)) | 5 => fun v wx => ∃ gz : Nat, v = .pointer (some ⟨gz, 0, none⟩) ∧ w.heap.size + 2 ≤ gz ∧ Blk wx gz 38 (bA zero32) | _ => fun _ _ => True)
      (fun wx => Blk wx w.heap.size 36 (bA a) ∧ Blk wx (w.heap.size + 1) 36 (bA b) ∧ Up w wx) ?_ ?_ ?_ ?_ ?_
    · intro j hj v w1 w2 hb h
      match j, hj with
      | 0, _ => exact h
      | 1, _ => exact h
      | 2, _ => exact h
      | 3, _ => exact h
      | 4, _ => exact h
      | 5, _ => obtain ⟨g, h1, h2, h3⟩ := h; exact ⟨g, h1, h2, h3.up hb⟩
    · rintro w1 w2 hb ⟨g1, g2, g3⟩
      exact ⟨g1.up hb, g2.up hb, g3.up hb⟩
    · exact ⟨((Blk.top rfl).alloc _).drew, (Blk.top (by simp)).drew, (((Up.refl _).alloc _).alloc _).drew⟩
    · rintro i o hi ho av wv fr ⟨g1, g2, g3⟩ dep
      match i, hi with
      | 0, _ =>
        obtain rfl := Option.some.inj ho
        exact st_load_row rfl (fr.eval rfl) g1 Try.underlying36 rfl HSa.out rfl
      | 1, _ =>
        obtain rfl := Option.some.inj ho
        have d0 := dep ⟨0, .data⟩ (by simp) rfl
        exact st_call1 rfl (fun _ _ => by kernel_rfl) d0 (toKey_c a HL.out.1 _) (fun e w' ⟨he, hb⟩ => ⟨_, he, hb, rfl⟩)
      | 2, _ =>
        obtain rfl := Option.some.inj ho
        exact st_load_row rfl (fr.eval rfl) g2 Try.underlying36 rfl HSb.out rfl
      | 3, _ =>
        obtain rfl := Option.some.inj ho
        have d0 := dep ⟨2, .data⟩ (by simp) rfl
        exact st_call1 rfl (fun _ _ => by kernel_rfl) d0 (toKey_c b HL.out.2 _) (fun e w' ⟨he, hb⟩ => ⟨_, he, hb, rfl⟩)
      | 4, _ =>
        obtain rfl := Option.some.inj ho
        have d0 := dep ⟨1, .data⟩ (by simp) rfl
        have d1 := dep ⟨3, .data⟩ (by simp) rfl
        exact st_call2 rfl (fun _ _ => by kernel_rfl) d0 d1 (specXorKeys_c a b HL.out.1 HL.out.2 _) (fun e w' ⟨he, hb⟩ => ⟨_, he, hb, rfl⟩)
      | 5, _ =>
        obtain rfl := Option.some.inj ho
        exact st_alloc rfl zero_key ⟨_, rfl, Nat.le_trans (Nat.succ_le_of_lt g2.lt) (Nat.le_refl _), Blk.top rfl⟩
    · rintro vs wv ⟨g1, g2, g3⟩ hf
      have f0 : vs 0 = .agg (bA a) := hf 0 (by omega)
      have f1 : vs 1 = .agg (bA a) := hf 1 (by omega)
      have f2 : vs 2 = .agg (bA b) := hf 2 (by omega)
      have f3 : vs 3 = .agg (bA b) := hf 3 (by omega)
      have f4 : vs 4 = .agg (bA (xorL a b)) := hf 4 (by omega)
      have f5 := hf 5 (by omega)
      obtain ⟨g, f5, hg, bg⟩ := f5
      simp only [putAll, Act.put, List.getElem?_toArray, List.getElem?_cons_zero, List.getElem?_cons_succ, Option.bind_some, List.setIfInBounds_toArray, List.set_cons_zero, List.set_cons_succ, f4, f5]
      refine wpList_store_row rfl 38 (.tmp 5) (.tmp 11) rfl g (bA (xorL a b)) rfl rfl 38 (bA zero32) bg HSx.out HZ.out (bA_one _) ?_
      go_wp2_with fail
      go_meet
      exact ⟨g, rfl, hg, bg.row _, g1.rowFar (by omega) _, g2.rowFar (by omega) _, g3.setRow (by omega) _⟩
  case rest =>
    obtain ⟨g, rfl, hg, bg, b0, b1, hbel⟩ := hcut
    have BB := Lib.hid (And.intro hg (And.intro bg (And.intro b0 (And.intro b1 hbel))))
    clear hg bg b0 b1 hbel
    go_upto_region 2 with fail
    go_cut [6] (fun s6 wx => ∃ h : Nat, s6 = .pointer (some ⟨h, 0, none⟩) ∧ Blk wx h 38 (bA (xorL a b)) ∧ Blk wx g 38 (bA (xorL a b)) ∧ Up w wx)
    case first =>
      obtain ⟨hg, bg, b0, b1, hbel⟩ := BB.out
      refine region_mono (m := 6) mixedOrders (by kernel_rfl) (by kernel_rfl)
        (fun | 0 => fun v _ => v = .agg (bA a) | 1 => fun v _ => v = .agg (bA a) | 2 => fun v _ => v = .agg (bA b) | 3 => fun v _ => v = .agg (bA b) | 4 => fun v _ => v = .agg (bA (xorL a b)) | 5 => fun v wx => ∃ gz : Nat, v = .pointer (some ⟨gz, 0, none⟩) ∧ g + 1 ≤ gz ∧ Blk wx gz 38 (bA zero32) | _ => fun _ _ => True)
        (fun wx => Blk wx w.heap.size 36 (bA a) ∧ Blk wx (w.heap.size + 1) 36 (bA b) ∧ Blk wx g 38 (bA (xorL a b)) ∧ Up w wx) ?_ ?_ ?_ ?_ ?_
      · intro j hj v w1 w2 hb h
        match j, hj with
        | 0, _ => exact h
        | 1, _ => exact h
        | 2, _ => exact h
        | 3, _ => exact h
        | 4, _ => exact h
        | 5, _ => obtain ⟨g, h1, h2, h3⟩ := h; exact ⟨g, h1, h2, h3.up hb⟩
      · rintro w1 w2 hb ⟨g1, g2, g4, g3⟩
        exact ⟨g1.up hb, g2.up hb, g4.up hb, g3.up hb⟩
      · exact ⟨b0.drew, b1.drew, bg.drew, hbel.drew⟩
      · rintro i o hi ho av wv fr ⟨g1, g2, g4, g3⟩ dep
        match i, hi with
        | 0, _ =>
          obtain rfl := Option.some.inj ho
          exact st_load_row rfl (fr.eval rfl) g1 Try.underlying36 rfl HSa.out rfl
        | 1, _ =>
          obtain rfl := Option.some.inj ho
          have d0 := dep ⟨0, .data⟩ (by simp) rfl
          exact st_call1 rfl (fun _ _ => by kernel_rfl) d0 (toKey_c a HL.out.1 _) (fun e w' ⟨he, hb⟩ => ⟨_, he, hb, rfl⟩)
        | 2, _ =>
          obtain rfl := Option.some.inj ho
          exact st_load_row rfl (fr.eval rfl) g2 Try.underlying36 rfl HSb.out rfl
        | 3, _ =>
          obtain rfl := Option.some.inj ho
          have d0 := dep ⟨2, .data⟩ (by simp) rfl
          exact st_call1 rfl (fun _ _ => by kernel_rfl) d0 (toKey_c b HL.out.2 _) (fun e w' ⟨he, hb⟩ => ⟨_, he, hb, rfl⟩)
        | 4, _ =>
          obtain rfl := Option.some.inj ho
          have d0 := dep ⟨1, .data⟩ (by simp) rfl
          have d1 := dep ⟨3, .data⟩ (by simp) rfl
          exact st_call2 rfl (fun _ _ => by kernel_rfl) d0 d1 (implXorKeys_c a b HL.out.1 HL.out.2 _) (fun e w' ⟨he, hb⟩ => ⟨_, he, hb, rfl⟩)
        | 5, _ =>
          obtain rfl := Option.some.inj ho
          exact st_alloc rfl zero_key ⟨_, rfl, g4.lt, Blk.top rfl⟩
      · rintro vs wv ⟨g1, g2, g4, g3⟩ hf
        have f0 : vs 0 = .agg (bA a) := hf 0 (by omega)
        have f1 : vs 1 = .agg (bA a) := hf 1 (by omega)
        have f2 : vs 2 = .agg (bA b) := hf 2 (by omega)
        have f3 : vs 3 = .agg (bA b) := hf 3 (by omega)
        have f4 : vs 4 = .agg (bA (xorL a b)) := hf 4 (by omega)
        have f5 := hf 5 (by omega)
        obtain ⟨h, f5, hh, bh⟩ := f5
        simp only [putAll, Act.put, List.getElem?_toArray, List.getElem?_cons_zero, List.getElem?_cons_succ, Option.bind_some, List.setIfInBounds_toArray, List.set_cons_zero, List.set_cons_succ, f4, f5]
        refine wpList_store_row rfl 38 (.tmp 6) (.tmp 16) rfl h (bA (xorL a b)) rfl rfl 38 (bA zero32) bh HSx.out HZ.out (bA_one _) ?_
        go_wp2_with fail
        go_meet
        exact ⟨h, rfl, bh.row _, g4.rowFar (by omega) _, g3.setRow (by omega) _⟩
    case rest =>
      obtain ⟨h, rfl, bh, bg, hbel⟩ := hcut
      have HT := Lib.hid (show decide (xorL a b = xorL a b) = true by simp)
      have HLx := Lib.hid (show (xorL a b).length = 32 by rw [xorL_length a b (by rw [HL.out.1, HL.out.2]), HL.out.1])
      go_wp2_with (first
        | (refine wpList_load_row rfl 38 (.tmp 6) rfl _ rfl 38 (bA (xorL a b)) (0, 0) _ bh Try.underlying38 rfl HSx.out ?_)
        | (refine wpList_load_row rfl 38 (.tmp 5) rfl _ rfl 38 (bA (xorL a b)) (0, 0) _ bg Try.underlying38 rfl HSx.out ?_)
        | (go_at_call 28; (with_reducible refine (eqKey_c (xorL a b) (xorL a b) HLx.out HLx.out _).mono ?_); rintro e w' ⟨rfl, hb1⟩; rw [HT.out]))
      go_ret
      exact ⟨rfl, hbel.trans hb1⟩

namespace fnExactXorKeys
set_option maxRecDepth 100000 in
theorem lifted (os : Os) (started : os.Started) (H : Type) (enc : TypeId × Value → H) :
    ReturnsInHanded {} Try.checked os 8 .any (Rows.fnExactXorKeysSpec.pre6 enc Try.prog Try.f8 Rows.fnExactXorKeysRow.domain false) (Rows.fnExactXorKeysSpec.post enc Try.prog Try.f8 false true false false) := by
  refine returnsInHanded_of_change_sized (C := Try.checked) ownKnob_ started (by kernel_rfl) Try.func8
    (ChangeSpec.witness6 (enc := enc) (C := Try.checked) false ⟨#[], #[.agg (Array.replicate 32 (.int .u8 0)), .agg (Array.replicate 32 (.int .u8 0))], []⟩ 8 (by kernel_rfl) (by kernel_rfl) (by kernel_rfl) (by kernel_rfl)) ?_
  intro W base args ds gs before hval0 hW hcnd hsz0 _
  have hsz : (DataW.weightsEach Try.prog (Try.f8.params.toList ++ Rows.fnExactXorKeysSpec.plain.varTypes Try.prog) (ds ++ gs)).all (· ≤ reachBytes) = true := hsz0
  have hval : ∀ (j : Nat) t v, Try.f8.params[j]? = some t → args[j]? = some v → Value.okWide Try.prog W .any base t v := hval0
  have hW' := hW
  obtain ⟨p, q, hA0, hV, rfl, hfz, hnd⟩ := hW
  have hA : DataW.TrodAll enc Try.prog W 0 (fun _ => true) true Try.f8.params.toList args.toList ds p := hA0
  rw [Try.params8] at hA hval hsz
  obtain ⟨v0, vs0, d0, ds0, p0, q0, hargs, rfl, rfl, h0, r0⟩ := trodAll_cons hA
  obtain ⟨v1, vs1, d1, ds1, p1, q1, rfl, rfl, rfl, h1, r1⟩ := trodAll_cons r0
  obtain ⟨rfl, rfl, rfl⟩ := trodAll_nil r1
  obtain rfl : args = #[v0, v1] := by cases args; simp_all
  obtain ⟨rfl, rfl⟩ := trodVars_none hV
  have k0 := h0
  have k1 := h1
  have lt0 : ∀ x ∈ p0, x.block < W.heap.size := fun x hx => hW'.lt x (by simp [hx])
  have lt1 : ∀ x ∈ p1, x.block < W.heap.size := fun x hx => hW'.lt x (by simp [hx])
  obtain ⟨l0, hl0, rfl⟩ := open_u8arr Try.underlying36 Try.underlying5 (by kernel_rfl) (by kernel_rfl) (hval 0 36 v0 rfl rfl) h0
  obtain ⟨l1, hl1, rfl⟩ := open_u8arr Try.underlying36 Try.underlying5 (by kernel_rfl) (by kernel_rfl) (hval 1 36 v1 rfl rfl) h1
  refine (lawXorKeys_c l0 l1 hl0 hl1 W).mono fun e W' ⟨he, bel⟩ => ?_
  subst he
  exact ⟨_, rfl, _, _, _, [], _, [], hW', trodAll_mk1 (shut_bool Try.underlying4 _), (trodAll_cons_mk (Below.trod laidOut_ (by kernel_rfl) (of_decide_eq_true (by kernel_rfl)) k0 bel lt0) (trodAll_cons_mk (Below.trod laidOut_ (by kernel_rfl) (of_decide_eq_true (by kernel_rfl)) k1 bel lt1) trodAll_mk0)), rfl, Below.frame bel _, fun h => by cases h⟩
theorem over : Rows.fnExactXorKeysRow.holds Try.pinned (OpenSpec.ofChange Rows.fnExactXorKeysSpec) :=
  OpenClaim.holds_of_wide 8 Try.f8 rfl rfl rfl rfl rfl rfl rfl ⟨rfl, rfl, rfl, rfl, rfl⟩ rfl rfl rfl rfl rfl (by kernel_rfl) Try.func8 (by kernel_rfl)
    (of_decide_eq_true (by kernel_rfl)) (by unfold Func.isWrapper; first | (rw [if_pos (by decide +kernel)]; kernel_rfl) | (rw [if_neg (by decide +kernel)]; exact ⟨rfl, rfl⟩))
    (fun os started H enc _ => lifted os started H enc)
theorem proved : Rows.FnExactXorKeysSaid := over
end fnExactXorKeys
#print axioms fnExactXorKeys.proved

end Go.Proofs.Ytmganlabhkogcaa

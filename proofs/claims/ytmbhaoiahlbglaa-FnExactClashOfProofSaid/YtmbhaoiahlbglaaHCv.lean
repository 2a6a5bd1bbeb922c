/- Walks: ValidClash. -/
import Derived.Test.YtmbhaoiahlbglaaHCq
namespace Go.Proofs.Ytmbhaoiahlbglaa
open Go.RowKit
set_option linter.unusedVariables false
set_option linter.unusedSimpArgs false

section
variable {P : Program} {Q : Exit → Act → World → Prop} {o : Oper} {a : Act} {w : World} {F : Value → World → Prop}
theorem st_fldC {t : TypeId} {x : Operand} {i : Nat} (ho : o.op = .fieldAddr t x i) {fs : Array Field} (hu : P.underlying t = some (.struct fs)) {f : Field} (hf : fs[i]? = some f) {g off : Nat} (hx : a.eval x = .pointer (some ⟨g, off, none⟩)) (k : Nat) (hk : f.offset = k) (hs : (P.info? f.type).map (fun i => decide (i.size = 0)) = some false)
    (hF : F (.pointer (some ⟨g, off + k, none⟩)) w) : St P o a w Q F := by
  refine st_run (v := .pointer (some ⟨g, off + k, none⟩)) ?_ hF
  unfold execOp
  subst hk
  obtain ⟨i0, hi, hs⟩ := Option.map_eq_some_iff.1 hs
  have hs' : i0.size ≠ 0 := of_decide_eq_false hs
  simp [ho, hx, Instr.fieldAt, Instr.sureAddr, run_underlying hu, hf, Sem.run_bind, fieldPlace, Addr.add_mid, sizeOf, typeInfo, hi, hs']
end

set_option maxHeartbeats 4000000 in
set_option maxRecDepth 100000 in
theorem implValid_c (c : Cl) (w : World) : Ret Try.prog 76 #[.agg (claV c)] w fun r _ => r = .bool (vcB c) := by
  obtain ⟨a, b, x, y⟩ := c
  obtain ⟨e, he⟩ : ∃ e, decide (nodeK a b = nodeK x y) = e := ⟨_, rfl⟩
  have HE := Lib.hid he
  have hs := claC_size a b x y
  refine ret_start fun wx M => ?_
  unfold claV
  by_cases h1 : a = x
  · have H1 := Lib.hid (show (!decide (a = x)) = false by simp [h1])
    by_cases h2 : b = y
    · have H2 := Lib.hid (show (!decide (b = y)) = false by simp [h2])
      have HR := Lib.hid (show vcB (a, b, x, y) = false by simp [vcB, h1, h2])
      clear h1 h2 he
      go_enter Try.func76, Try.ntmps76
      go_wp2_with (first
        | (with_reducible (show wpList _ _ _ (Oper.mk (some 1) (.box _ _) _ _ _ _ :: _) _ _); (first | (refine m_boxA M rfl rfl rfl ?_) | (refine m_box1 (v := Value.int _ _) M rfl rfl rfl rfl ?_) | (refine m_box1 (v := Value.slice _ _ _) M rfl rfl rfl rfl ?_) | (refine m_box1 (v := Value.bool _) M rfl rfl rfl rfl ?_) | (refine m_box1 (v := Value.string _) M rfl rfl rfl rfl ?_) | (refine m_box1 (v := Value.pointer _) M rfl rfl rfl rfl ?_)); clear M; (try clear wx); intro g1 wx M)
        | (with_reducible (show wpList _ _ _ (Oper.mk _ (.load _ _) _ _ _ _ :: _) _ _); (first | (refine m_load M rfl rfl rfl (by first | assumption | rfl) ?_) | (refine m_loadR M rfl rfl rfl (by first | exact hs | (simp; done)) ?_))))
      refine region_monoG (m := 25) mixedOrders_ (by kernel_rfl) (by kernel_rfl)
        (fun | 0 => fun vq _ => vq = .pointer (some ⟨g1, 0, none⟩) | 1 => fun vq _ => vq = .agg (bA a.1) | 2 => fun vq _ => vq = .pointer (some ⟨g1, 64, none⟩) | 3 => fun vq _ => vq = .agg (bA x.1) | 4 => fun vq _ => vq = .bool false | 5 => fun vq _ => vq = .bool false | 6 => fun vq _ => vq = .pointer (some ⟨g1, 32, none⟩) | 7 => fun vq _ => vq = .agg (bA b.1) | 8 => fun vq _ => vq = .pointer (some ⟨g1, 96, none⟩) | 9 => fun vq _ => vq = .agg (bA y.1) | 10 => fun vq _ => vq = .bool false | 11 => fun vq _ => vq = .bool false | 12 => fun vq _ => vq = .bool false | 13 => fun vq _ => vq = undef | 14 => fun vq _ => vq = undef | 15 => fun vq _ => vq = undef | 16 => fun vq _ => vq = undef | 17 => fun vq _ => vq = undef | 18 => fun vq _ => vq = undef | 19 => fun vq _ => vq = undef | 20 => fun vq _ => vq = undef | 21 => fun vq _ => vq = undef | 22 => fun vq _ => vq = undef | 23 => fun vq _ => vq = undef | 24 => fun vq _ => vq = .bool false | _ => fun _ _ => True)
        (fun wx => Mem w wx [.blk g1 27 (claC a.1 b.1 x.1 y.1)]) ?_ ?_ ?_ ?_ ?_
      · intro j hj v w1 w2 hb h
        match j, hj with
        | 0, _ => exact h
        | 1, _ => exact h
        | 2, _ => exact h
        | 3, _ => exact h
        | 4, _ => exact h
        | 5, _ => exact h
        | 6, _ => exact h
        | 7, _ => exact h
        | 8, _ => exact h
        | 9, _ => exact h
        | 10, _ => exact h
        | 11, _ => exact h
        | 12, _ => exact h
        | 13, _ => exact h
        | 14, _ => exact h
        | 15, _ => exact h
        | 16, _ => exact h
        | 17, _ => exact h
        | 18, _ => exact h
        | 19, _ => exact h
        | 20, _ => exact h
        | 21, _ => exact h
        | 22, _ => exact h
        | 23, _ => exact h
        | 24, _ => exact h
        | n + 25, h' => exact absurd h' (by omega)
      · intro w1 w2 hb h
        exact h.grow hb
      · exact M.grow ((Up.refl _).drew)
      · rintro i o hi ho av wv fr gM dep
        match i, hi with
        | 0, _ =>
          obtain rfl := Option.some.inj ho
          refine g_none rfl rfl ?_
          exact st_fldC rfl Try.underlying27 rfl (fr.eval rfl) 0 rfl (by kernel_rfl) rfl
        | 1, _ =>
          obtain rfl := Option.some.inj ho
          refine g_none rfl rfl ?_
          exact st_loadPG gM rfl (dep ⟨0, .data⟩ (by simp) rfl) (xs := bL a.1) (cla_get0 a b x y) (by rw [bL_length, a.2]) rfl
        | 2, _ =>
          obtain rfl := Option.some.inj ho
          refine g_none rfl rfl ?_
          exact st_fldC rfl Try.underlying27 rfl (fr.eval rfl) 64 rfl (by kernel_rfl) rfl
        | 3, _ =>
          obtain rfl := Option.some.inj ho
          refine g_none rfl rfl ?_
          exact st_loadPG gM rfl (dep ⟨2, .data⟩ (by simp) rfl) (xs := bL x.1) (cla_get2 a b x y) (by rw [bL_length, x.2]) rfl
        | 4, _ =>
          obtain rfl := Option.some.inj ho
          refine g_none rfl rfl ?_
          exact st_bin rfl (dep ⟨1, .data⟩ (by simp) rfl) (dep ⟨3, .data⟩ (by simp) rfl) (key_neqG a x false H1.out _ _ _) rfl
        | 5, _ =>
          obtain rfl := Option.some.inj ho
          refine g_none rfl rfl ?_
          exact st_mov rfl (dep ⟨4, .data⟩ (by simp) rfl) rfl
        | 6, _ =>
          obtain rfl := Option.some.inj ho
          refine g_yes rfl rfl (dep ⟨5, .guard⟩ (by simp) rfl) ?_
          exact st_fldC rfl Try.underlying27 rfl (fr.eval rfl) 32 rfl (by kernel_rfl) rfl
        | 7, _ =>
          obtain rfl := Option.some.inj ho
          refine g_yes rfl rfl (dep ⟨5, .guard⟩ (by simp) rfl) ?_
          exact st_loadPG gM rfl (dep ⟨6, .data⟩ (by simp) rfl) (xs := bL b.1) (cla_get1 a b x y) (by rw [bL_length, b.2]) rfl
        | 8, _ =>
          obtain rfl := Option.some.inj ho
          refine g_yes rfl rfl (dep ⟨5, .guard⟩ (by simp) rfl) ?_
          exact st_fldC rfl Try.underlying27 rfl (fr.eval rfl) 96 rfl (by kernel_rfl) rfl
        | 9, _ =>
          obtain rfl := Option.some.inj ho
          refine g_yes rfl rfl (dep ⟨5, .guard⟩ (by simp) rfl) ?_
          exact st_loadPG gM rfl (dep ⟨8, .data⟩ (by simp) rfl) (xs := bL y.1) (cla_get3 a b x y) (by rw [bL_length, y.2]) rfl
        | 10, _ =>
          obtain rfl := Option.some.inj ho
          refine g_yes rfl rfl (dep ⟨5, .guard⟩ (by simp) rfl) ?_
          exact st_bin rfl (dep ⟨7, .data⟩ (by simp) rfl) (dep ⟨9, .data⟩ (by simp) rfl) (key_neqG b y false H2.out _ _ _) rfl
        | 11, _ =>
          obtain rfl := Option.some.inj ho
          refine g_none rfl rfl ?_
          exact st_pick rfl (dep ⟨5, .data⟩ (by simp) rfl) (rfl) (dep ⟨10, .data⟩ (by simp) rfl) rfl
        | 12, _ =>
          obtain rfl := Option.some.inj ho
          refine g_none rfl rfl ?_
          exact st_mov rfl (dep ⟨11, .data⟩ (by simp) rfl) rfl
        | 13, _ =>
          obtain rfl := Option.some.inj ho
          exact g_no rfl rfl (dep ⟨12, .guard⟩ (by simp) rfl) (by decide) rfl
        | 14, _ =>
          obtain rfl := Option.some.inj ho
          exact g_no rfl rfl (dep ⟨12, .guard⟩ (by simp) rfl) (by decide) rfl
        | 15, _ =>
          obtain rfl := Option.some.inj ho
          exact g_no rfl rfl (dep ⟨12, .guard⟩ (by simp) rfl) (by decide) rfl
        | 16, _ =>
          obtain rfl := Option.some.inj ho
          exact g_no rfl rfl (dep ⟨12, .guard⟩ (by simp) rfl) (by decide) rfl
        | 17, _ =>
          obtain rfl := Option.some.inj ho
          exact g_no rfl rfl (dep ⟨12, .guard⟩ (by simp) rfl) (by decide) rfl
        | 18, _ =>
          obtain rfl := Option.some.inj ho
          exact g_no rfl rfl (dep ⟨12, .guard⟩ (by simp) rfl) (by decide) rfl
        | 19, _ =>
          obtain rfl := Option.some.inj ho
          exact g_no rfl rfl (dep ⟨12, .guard⟩ (by simp) rfl) (by decide) rfl
        | 20, _ =>
          obtain rfl := Option.some.inj ho
          exact g_no rfl rfl (dep ⟨12, .guard⟩ (by simp) rfl) (by decide) rfl
        | 21, _ =>
          obtain rfl := Option.some.inj ho
          exact g_no rfl rfl (dep ⟨12, .guard⟩ (by simp) rfl) (by decide) rfl
        | 22, _ =>
          obtain rfl := Option.some.inj ho
          exact g_no rfl rfl (dep ⟨12, .guard⟩ (by simp) rfl) (by decide) rfl
        | 23, _ =>
          obtain rfl := Option.some.inj ho
          exact g_no rfl rfl (dep ⟨12, .guard⟩ (by simp) rfl) (by decide) rfl
        | 24, _ =>
          obtain rfl := Option.some.inj ho
          refine g_none rfl rfl ?_
          exact st_pick rfl (dep ⟨12, .data⟩ (by simp) rfl) (dep ⟨23, .data⟩ (by simp) rfl) (rfl) rfl
        | n + 25, h' => exact absurd h' (by omega)
      · rintro vs wv gM hf
        have f0 : vs 0 = .pointer (some ⟨g1, 0, none⟩) := hf 0 (by omega)
        have f1 : vs 1 = .agg (bA a.1) := hf 1 (by omega)
        have f2 : vs 2 = .pointer (some ⟨g1, 64, none⟩) := hf 2 (by omega)
        have f3 : vs 3 = .agg (bA x.1) := hf 3 (by omega)
        have f4 : vs 4 = .bool false := hf 4 (by omega)
        have f5 : vs 5 = .bool false := hf 5 (by omega)
        have f6 : vs 6 = .pointer (some ⟨g1, 32, none⟩) := hf 6 (by omega)
        have f7 : vs 7 = .agg (bA b.1) := hf 7 (by omega)
        have f8 : vs 8 = .pointer (some ⟨g1, 96, none⟩) := hf 8 (by omega)
        have f9 : vs 9 = .agg (bA y.1) := hf 9 (by omega)
        have f10 : vs 10 = .bool false := hf 10 (by omega)
        have f11 : vs 11 = .bool false := hf 11 (by omega)
        have f12 : vs 12 = .bool false := hf 12 (by omega)
        have f13 : vs 13 = undef := hf 13 (by omega)
        have f14 : vs 14 = undef := hf 14 (by omega)
        have f15 : vs 15 = undef := hf 15 (by omega)
        have f16 : vs 16 = undef := hf 16 (by omega)
        have f17 : vs 17 = undef := hf 17 (by omega)
        have f18 : vs 18 = undef := hf 18 (by omega)
        have f19 : vs 19 = undef := hf 19 (by omega)
        have f20 : vs 20 = undef := hf 20 (by omega)
        have f21 : vs 21 = undef := hf 21 (by omega)
        have f22 : vs 22 = undef := hf 22 (by omega)
        have f23 : vs 23 = undef := hf 23 (by omega)
        have f24 : vs 24 = .bool false := hf 24 (by omega)
        simp only [putAll, Act.put, List.getElem?_toArray, List.getElem?_cons_zero, List.getElem?_cons_succ, Option.bind_some, List.setIfInBounds_toArray, List.set_cons_zero, List.set_cons_succ, List.drop_succ_cons, List.drop_zero, List.drop_nil, f24]
        clear f0 f1 f2 f3 f4 f5 f6 f7 f8 f9 f10 f11 f12 f13 f14 f15 f16 f17 f18 f19 f20 f21 f22 f23 f24 hf
        have M := gM
        go_wp2_with fail
        go_ret
        exact ⟨_, rfl, by rw [HR.out]; rfl, M.up⟩
    · have H2 := Lib.hid (show (!decide (b = y)) = true by simp [h2])
      have HR := Lib.hid (show vcB (a, b, x, y) = e by rw [← he]; simp [vcB, h2])
      clear h1 h2 he
      go_enter Try.func76, Try.ntmps76
      go_wp2_with (first
        | (with_reducible (show wpList _ _ _ (Oper.mk (some 1) (.box _ _) _ _ _ _ :: _) _ _); (first | (refine m_boxA M rfl rfl rfl ?_) | (refine m_box1 (v := Value.int _ _) M rfl rfl rfl rfl ?_) | (refine m_box1 (v := Value.slice _ _ _) M rfl rfl rfl rfl ?_) | (refine m_box1 (v := Value.bool _) M rfl rfl rfl rfl ?_) | (refine m_box1 (v := Value.string _) M rfl rfl rfl rfl ?_) | (refine m_box1 (v := Value.pointer _) M rfl rfl rfl rfl ?_)); clear M; (try clear wx); intro g1 wx M)
        | (with_reducible (show wpList _ _ _ (Oper.mk _ (.load _ _) _ _ _ _ :: _) _ _); (first | (refine m_load M rfl rfl rfl (by first | assumption | rfl) ?_) | (refine m_loadR M rfl rfl rfl (by first | exact hs | (simp; done)) ?_))))
      refine region_monoG (m := 25) mixedOrders_ (by kernel_rfl) (by kernel_rfl)
        (fun | 0 => fun vq _ => vq = .pointer (some ⟨g1, 0, none⟩) | 1 => fun vq _ => vq = .agg (bA a.1) | 2 => fun vq _ => vq = .pointer (some ⟨g1, 64, none⟩) | 3 => fun vq _ => vq = .agg (bA x.1) | 4 => fun vq _ => vq = .bool false | 5 => fun vq _ => vq = .bool false | 6 => fun vq _ => vq = .pointer (some ⟨g1, 32, none⟩) | 7 => fun vq _ => vq = .agg (bA b.1) | 8 => fun vq _ => vq = .pointer (some ⟨g1, 96, none⟩) | 9 => fun vq _ => vq = .agg (bA y.1) | 10 => fun vq _ => vq = .bool true | 11 => fun vq _ => vq = .bool true | 12 => fun vq _ => vq = .bool true | 13 => fun vq _ => vq = .pointer (some ⟨g1, 0, none⟩) | 14 => fun vq _ => vq = .agg (bA a.1) | 15 => fun vq _ => vq = .pointer (some ⟨g1, 32, none⟩) | 16 => fun vq _ => vq = .agg (bA b.1) | 17 => fun vq _ => vq = .agg (bA (nodeK a b).1) | 18 => fun vq _ => vq = .pointer (some ⟨g1, 64, none⟩) | 19 => fun vq _ => vq = .agg (bA x.1) | 20 => fun vq _ => vq = .pointer (some ⟨g1, 96, none⟩) | 21 => fun vq _ => vq = .agg (bA y.1) | 22 => fun vq _ => vq = .agg (bA (nodeK x y).1) | 23 => fun vq _ => vq = .bool e | 24 => fun vq _ => vq = .bool e | _ => fun _ _ => True)
        (fun wx => Mem w wx [.blk g1 27 (claC a.1 b.1 x.1 y.1)]) ?_ ?_ ?_ ?_ ?_
      · intro j hj v w1 w2 hb h
        match j, hj with
        | 0, _ => exact h
        | 1, _ => exact h
        | 2, _ => exact h
        | 3, _ => exact h
        | 4, _ => exact h
        | 5, _ => exact h
        | 6, _ => exact h
        | 7, _ => exact h
        | 8, _ => exact h
        | 9, _ => exact h
        | 10, _ => exact h
        | 11, _ => exact h
        | 12, _ => exact h
        | 13, _ => exact h
        | 14, _ => exact h
        | 15, _ => exact h
        | 16, _ => exact h
        | 17, _ => exact h
        | 18, _ => exact h
        | 19, _ => exact h
        | 20, _ => exact h
        | 21, _ => exact h
        | 22, _ => exact h
        | 23, _ => exact h
        | 24, _ => exact h
        | n + 25, h' => exact absurd h' (by omega)
      · intro w1 w2 hb h
        exact h.grow hb
      · exact M.grow ((Up.refl _).drew)
      · rintro i o hi ho av wv fr gM dep
        match i, hi with
        | 0, _ =>
          obtain rfl := Option.some.inj ho
          refine g_none rfl rfl ?_
          exact st_fldC rfl Try.underlying27 rfl (fr.eval rfl) 0 rfl (by kernel_rfl) rfl
        | 1, _ =>
          obtain rfl := Option.some.inj ho
          refine g_none rfl rfl ?_
          exact st_loadPG gM rfl (dep ⟨0, .data⟩ (by simp) rfl) (xs := bL a.1) (cla_get0 a b x y) (by rw [bL_length, a.2]) rfl
        | 2, _ =>
          obtain rfl := Option.some.inj ho
          refine g_none rfl rfl ?_
          exact st_fldC rfl Try.underlying27 rfl (fr.eval rfl) 64 rfl (by kernel_rfl) rfl
        | 3, _ =>
          obtain rfl := Option.some.inj ho
          refine g_none rfl rfl ?_
          exact st_loadPG gM rfl (dep ⟨2, .data⟩ (by simp) rfl) (xs := bL x.1) (cla_get2 a b x y) (by rw [bL_length, x.2]) rfl
        | 4, _ =>
          obtain rfl := Option.some.inj ho
          refine g_none rfl rfl ?_
          exact st_bin rfl (dep ⟨1, .data⟩ (by simp) rfl) (dep ⟨3, .data⟩ (by simp) rfl) (key_neqG a x false H1.out _ _ _) rfl
        | 5, _ =>
          obtain rfl := Option.some.inj ho
          refine g_none rfl rfl ?_
          exact st_mov rfl (dep ⟨4, .data⟩ (by simp) rfl) rfl
        | 6, _ =>
          obtain rfl := Option.some.inj ho
          refine g_yes rfl rfl (dep ⟨5, .guard⟩ (by simp) rfl) ?_
          exact st_fldC rfl Try.underlying27 rfl (fr.eval rfl) 32 rfl (by kernel_rfl) rfl
        | 7, _ =>
          obtain rfl := Option.some.inj ho
          refine g_yes rfl rfl (dep ⟨5, .guard⟩ (by simp) rfl) ?_
          exact st_loadPG gM rfl (dep ⟨6, .data⟩ (by simp) rfl) (xs := bL b.1) (cla_get1 a b x y) (by rw [bL_length, b.2]) rfl
        | 8, _ =>
          obtain rfl := Option.some.inj ho
          refine g_yes rfl rfl (dep ⟨5, .guard⟩ (by simp) rfl) ?_
          exact st_fldC rfl Try.underlying27 rfl (fr.eval rfl) 96 rfl (by kernel_rfl) rfl
        | 9, _ =>
          obtain rfl := Option.some.inj ho
          refine g_yes rfl rfl (dep ⟨5, .guard⟩ (by simp) rfl) ?_
          exact st_loadPG gM rfl (dep ⟨8, .data⟩ (by simp) rfl) (xs := bL y.1) (cla_get3 a b x y) (by rw [bL_length, y.2]) rfl
        | 10, _ =>
          obtain rfl := Option.some.inj ho
          refine g_yes rfl rfl (dep ⟨5, .guard⟩ (by simp) rfl) ?_
          exact st_bin rfl (dep ⟨7, .data⟩ (by simp) rfl) (dep ⟨9, .data⟩ (by simp) rfl) (key_neqG b y true H2.out _ _ _) rfl
        | 11, _ =>
          obtain rfl := Option.some.inj ho
          refine g_none rfl rfl ?_
          exact st_pick rfl (dep ⟨5, .data⟩ (by simp) rfl) (rfl) (dep ⟨10, .data⟩ (by simp) rfl) rfl
        | 12, _ =>
          obtain rfl := Option.some.inj ho
          refine g_none rfl rfl ?_
          exact st_mov rfl (dep ⟨11, .data⟩ (by simp) rfl) rfl
        | 13, _ =>
          obtain rfl := Option.some.inj ho
          refine g_yes rfl rfl (dep ⟨12, .guard⟩ (by simp) rfl) ?_
          exact st_fldC rfl Try.underlying27 rfl (fr.eval rfl) 0 rfl (by kernel_rfl) rfl
        | 14, _ =>
          obtain rfl := Option.some.inj ho
          refine g_yes rfl rfl (dep ⟨12, .guard⟩ (by simp) rfl) ?_
          exact st_loadPG gM rfl (dep ⟨13, .data⟩ (by simp) rfl) (xs := bL a.1) (cla_get0 a b x y) (by rw [bL_length, a.2]) rfl
        | 15, _ =>
          obtain rfl := Option.some.inj ho
          refine g_yes rfl rfl (dep ⟨12, .guard⟩ (by simp) rfl) ?_
          exact st_fldC rfl Try.underlying27 rfl (fr.eval rfl) 32 rfl (by kernel_rfl) rfl
        | 16, _ =>
          obtain rfl := Option.some.inj ho
          refine g_yes rfl rfl (dep ⟨12, .guard⟩ (by simp) rfl) ?_
          exact st_loadPG gM rfl (dep ⟨15, .data⟩ (by simp) rfl) (xs := bL b.1) (cla_get1 a b x y) (by rw [bL_length, b.2]) rfl
        | 17, _ =>
          obtain rfl := Option.some.inj ho
          refine g_yes rfl rfl (dep ⟨12, .guard⟩ (by simp) rfl) ?_
          have d0 := dep ⟨14, .data⟩ (by simp) rfl
          have d1 := dep ⟨16, .data⟩ (by simp) rfl
          exact st_ret2 rfl (fun _ _ => by kernel_rfl) d0 d1 (implNodeKey_c a b _) (fun r w' h _ => h)
        | 18, _ =>
          obtain rfl := Option.some.inj ho
          refine g_yes rfl rfl (dep ⟨12, .guard⟩ (by simp) rfl) ?_
          exact st_fldC rfl Try.underlying27 rfl (fr.eval rfl) 64 rfl (by kernel_rfl) rfl
        | 19, _ =>
          obtain rfl := Option.some.inj ho
          refine g_yes rfl rfl (dep ⟨12, .guard⟩ (by simp) rfl) ?_
          exact st_loadPG gM rfl (dep ⟨18, .data⟩ (by simp) rfl) (xs := bL x.1) (cla_get2 a b x y) (by rw [bL_length, x.2]) rfl
        | 20, _ =>
          obtain rfl := Option.some.inj ho
          refine g_yes rfl rfl (dep ⟨12, .guard⟩ (by simp) rfl) ?_
          exact st_fldC rfl Try.underlying27 rfl (fr.eval rfl) 96 rfl (by kernel_rfl) rfl
        | 21, _ =>
          obtain rfl := Option.some.inj ho
          refine g_yes rfl rfl (dep ⟨12, .guard⟩ (by simp) rfl) ?_
          exact st_loadPG gM rfl (dep ⟨20, .data⟩ (by simp) rfl) (xs := bL y.1) (cla_get3 a b x y) (by rw [bL_length, y.2]) rfl
        | 22, _ =>
          obtain rfl := Option.some.inj ho
          refine g_yes rfl rfl (dep ⟨12, .guard⟩ (by simp) rfl) ?_
          have d0 := dep ⟨19, .data⟩ (by simp) rfl
          have d1 := dep ⟨21, .data⟩ (by simp) rfl
          exact st_ret2 rfl (fun _ _ => by kernel_rfl) d0 d1 (implNodeKey_c x y _) (fun r w' h _ => h)
        | 23, _ =>
          obtain rfl := Option.some.inj ho
          refine g_yes rfl rfl (dep ⟨12, .guard⟩ (by simp) rfl) ?_
          exact st_bin rfl (dep ⟨17, .data⟩ (by simp) rfl) (dep ⟨22, .data⟩ (by simp) rfl) (by have := key_eqlG (nodeK a b) (nodeK x y); rw [HE.out] at this; exact this _ _ _) rfl
        | 24, _ =>
          obtain rfl := Option.some.inj ho
          refine g_none rfl rfl ?_
          exact st_pick rfl (dep ⟨12, .data⟩ (by simp) rfl) (dep ⟨23, .data⟩ (by simp) rfl) (rfl) rfl
        | n + 25, h' => exact absurd h' (by omega)
      · rintro vs wv gM hf
        have f0 : vs 0 = .pointer (some ⟨g1, 0, none⟩) := hf 0 (by omega)
        have f1 : vs 1 = .agg (bA a.1) := hf 1 (by omega)
        have f2 : vs 2 = .pointer (some ⟨g1, 64, none⟩) := hf 2 (by omega)
        have f3 : vs 3 = .agg (bA x.1) := hf 3 (by omega)
        have f4 : vs 4 = .bool false := hf 4 (by omega)
        have f5 : vs 5 = .bool false := hf 5 (by omega)
        have f6 : vs 6 = .pointer (some ⟨g1, 32, none⟩) := hf 6 (by omega)
        have f7 : vs 7 = .agg (bA b.1) := hf 7 (by omega)
        have f8 : vs 8 = .pointer (some ⟨g1, 96, none⟩) := hf 8 (by omega)
        have f9 : vs 9 = .agg (bA y.1) := hf 9 (by omega)
        have f10 : vs 10 = .bool true := hf 10 (by omega)
        have f11 : vs 11 = .bool true := hf 11 (by omega)
        have f12 : vs 12 = .bool true := hf 12 (by omega)
        have f13 : vs 13 = .pointer (some ⟨g1, 0, none⟩) := hf 13 (by omega)
        have f14 : vs 14 = .agg (bA a.1) := hf 14 (by omega)
        have f15 : vs 15 = .pointer (some ⟨g1, 32, none⟩) := hf 15 (by omega)
        have f16 : vs 16 = .agg (bA b.1) := hf 16 (by omega)
        have f17 : vs 17 = .agg (bA (nodeK a b).1) := hf 17 (by omega)
        have f18 : vs 18 = .pointer (some ⟨g1, 64, none⟩) := hf 18 (by omega)
        have f19 : vs 19 = .agg (bA x.1) := hf 19 (by omega)
        have f20 : vs 20 = .pointer (some ⟨g1, 96, none⟩) := hf 20 (by omega)
        have f21 : vs 21 = .agg (bA y.1) := hf 21 (by omega)
        have f22 : vs 22 = .agg (bA (nodeK x y).1) := hf 22 (by omega)
        have f23 : vs 23 = .bool e := hf 23 (by omega)
        have f24 : vs 24 = .bool e := hf 24 (by omega)
        simp only [putAll, Act.put, List.getElem?_toArray, List.getElem?_cons_zero, List.getElem?_cons_succ, Option.bind_some, List.setIfInBounds_toArray, List.set_cons_zero, List.set_cons_succ, List.drop_succ_cons, List.drop_zero, List.drop_nil, f24]
        clear f0 f1 f2 f3 f4 f5 f6 f7 f8 f9 f10 f11 f12 f13 f14 f15 f16 f17 f18 f19 f20 f21 f22 f23 f24 hf
        have M := gM
        go_wp2_with fail
        go_ret
        exact ⟨_, rfl, by rw [HR.out]; rfl, M.up⟩
  · have H1 := Lib.hid (show (!decide (a = x)) = true by simp [h1])
    have HR := Lib.hid (show vcB (a, b, x, y) = e by rw [← he]; simp [vcB, h1])
    clear h1 he
    go_enter Try.func76, Try.ntmps76
    go_wp2_with (first
      | (with_reducible (show wpList _ _ _ (Oper.mk (some 1) (.box _ _) _ _ _ _ :: _) _ _); (first | (refine m_boxA M rfl rfl rfl ?_) | (refine m_box1 (v := Value.int _ _) M rfl rfl rfl rfl ?_) | (refine m_box1 (v := Value.slice _ _ _) M rfl rfl rfl rfl ?_) | (refine m_box1 (v := Value.bool _) M rfl rfl rfl rfl ?_) | (refine m_box1 (v := Value.string _) M rfl rfl rfl rfl ?_) | (refine m_box1 (v := Value.pointer _) M rfl rfl rfl rfl ?_)); clear M; (try clear wx); intro g1 wx M)
      | (with_reducible (show wpList _ _ _ (Oper.mk _ (.load _ _) _ _ _ _ :: _) _ _); (first | (refine m_load M rfl rfl rfl (by first | assumption | rfl) ?_) | (refine m_loadR M rfl rfl rfl (by first | exact hs | (simp; done)) ?_))))
    refine region_monoG (m := 25) mixedOrders_ (by kernel_rfl) (by kernel_rfl)
      (fun | 0 => fun vq _ => vq = .pointer (some ⟨g1, 0, none⟩) | 1 => fun vq _ => vq = .agg (bA a.1) | 2 => fun vq _ => vq = .pointer (some ⟨g1, 64, none⟩) | 3 => fun vq _ => vq = .agg (bA x.1) | 4 => fun vq _ => vq = .bool true | 5 => fun vq _ => vq = .bool true | 6 => fun vq _ => vq = undef | 7 => fun vq _ => vq = undef | 8 => fun vq _ => vq = undef | 9 => fun vq _ => vq = undef | 10 => fun vq _ => vq = undef | 11 => fun vq _ => vq = .bool true | 12 => fun vq _ => vq = .bool true | 13 => fun vq _ => vq = .pointer (some ⟨g1, 0, none⟩) | 14 => fun vq _ => vq = .agg (bA a.1) | 15 => fun vq _ => vq = .pointer (some ⟨g1, 32, none⟩) | 16 => fun vq _ => vq = .agg (bA b.1) | 17 => fun vq _ => vq = .agg (bA (nodeK a b).1) | 18 => fun vq _ => vq = .pointer (some ⟨g1, 64, none⟩) | 19 => fun vq _ => vq = .agg (bA x.1) | 20 => fun vq _ => vq = .pointer (some ⟨g1, 96, none⟩) | 21 => fun vq _ => vq = .agg (bA y.1) | 22 => fun vq _ => vq = .agg (bA (nodeK x y).1) | 23 => fun vq _ => vq = .bool e | 24 => fun vq _ => vq = .bool e | _ => fun _ _ => True)
      (fun wx => Mem w wx [.blk g1 27 (claC a.1 b.1 x.1 y.1)]) ?_ ?_ ?_ ?_ ?_
    · intro j hj v w1 w2 hb h
      match j, hj with
      | 0, _ => exact h
      | 1, _ => exact h
      | 2, _ => exact h
      | 3, _ => exact h
      | 4, _ => exact h
      | 5, _ => exact h
      | 6, _ => exact h
      | 7, _ => exact h
      | 8, _ => exact h
      | 9, _ => exact h
      | 10, _ => exact h
      | 11, _ => exact h
      | 12, _ => exact h
      | 13, _ => exact h
      | 14, _ => exact h
      | 15, _ => exact h
      | 16, _ => exact h
      | 17, _ => exact h
      | 18, _ => exact h
      | 19, _ => exact h
      | 20, _ => exact h
      | 21, _ => exact h
      | 22, _ => exact h
      | 23, _ => exact h
      | 24, _ => exact h
      | n + 25, h' => exact absurd h' (by omega)
    · intro w1 w2 hb h
      exact h.grow hb
    · exact M.grow ((Up.refl _).drew)
    · rintro i o hi ho av wv fr gM dep
      match i, hi with
      | 0, _ =>
        obtain rfl := Option.some.inj ho
        refine g_none rfl rfl ?_
        exact st_fldC rfl Try.underlying27 rfl (fr.eval rfl) 0 rfl (by kernel_rfl) rfl
      | 1, _ =>
        obtain rfl := Option.some.inj ho
        refine g_none rfl rfl ?_
        exact st_loadPG gM rfl (dep ⟨0, .data⟩ (by simp) rfl) (xs := bL a.1) (cla_get0 a b x y) (by rw [bL_length, a.2]) rfl
      | 2, _ =>
        obtain rfl := Option.some.inj ho
        refine g_none rfl rfl ?_
        exact st_fldC rfl Try.underlying27 rfl (fr.eval rfl) 64 rfl (by kernel_rfl) rfl
      | 3, _ =>
        obtain rfl := Option.some.inj ho
        refine g_none rfl rfl ?_
        exact st_loadPG gM rfl (dep ⟨2, .data⟩ (by simp) rfl) (xs := bL x.1) (cla_get2 a b x y) (by rw [bL_length, x.2]) rfl
      | 4, _ =>
        obtain rfl := Option.some.inj ho
        refine g_none rfl rfl ?_
        exact st_bin rfl (dep ⟨1, .data⟩ (by simp) rfl) (dep ⟨3, .data⟩ (by simp) rfl) (key_neqG a x true H1.out _ _ _) rfl
      | 5, _ =>
        obtain rfl := Option.some.inj ho
        refine g_none rfl rfl ?_
        exact st_mov rfl (dep ⟨4, .data⟩ (by simp) rfl) rfl
      | 6, _ =>
        obtain rfl := Option.some.inj ho
        exact g_no rfl rfl (dep ⟨5, .guard⟩ (by simp) rfl) (by decide) rfl
      | 7, _ =>
        obtain rfl := Option.some.inj ho
        exact g_no rfl rfl (dep ⟨5, .guard⟩ (by simp) rfl) (by decide) rfl
      | 8, _ =>
        obtain rfl := Option.some.inj ho
        exact g_no rfl rfl (dep ⟨5, .guard⟩ (by simp) rfl) (by decide) rfl
      | 9, _ =>
        obtain rfl := Option.some.inj ho
        exact g_no rfl rfl (dep ⟨5, .guard⟩ (by simp) rfl) (by decide) rfl
      | 10, _ =>
        obtain rfl := Option.some.inj ho
        exact g_no rfl rfl (dep ⟨5, .guard⟩ (by simp) rfl) (by decide) rfl
      | 11, _ =>
        obtain rfl := Option.some.inj ho
        refine g_none rfl rfl ?_
        exact st_pick rfl (dep ⟨5, .data⟩ (by simp) rfl) (rfl) (dep ⟨10, .data⟩ (by simp) rfl) rfl
      | 12, _ =>
        obtain rfl := Option.some.inj ho
        refine g_none rfl rfl ?_
        exact st_mov rfl (dep ⟨11, .data⟩ (by simp) rfl) rfl
      | 13, _ =>
        obtain rfl := Option.some.inj ho
        refine g_yes rfl rfl (dep ⟨12, .guard⟩ (by simp) rfl) ?_
        exact st_fldC rfl Try.underlying27 rfl (fr.eval rfl) 0 rfl (by kernel_rfl) rfl
      | 14, _ =>
        obtain rfl := Option.some.inj ho
        refine g_yes rfl rfl (dep ⟨12, .guard⟩ (by simp) rfl) ?_
        exact st_loadPG gM rfl (dep ⟨13, .data⟩ (by simp) rfl) (xs := bL a.1) (cla_get0 a b x y) (by rw [bL_length, a.2]) rfl
      | 15, _ =>
        obtain rfl := Option.some.inj ho
        refine g_yes rfl rfl (dep ⟨12, .guard⟩ (by simp) rfl) ?_
        exact st_fldC rfl Try.underlying27 rfl (fr.eval rfl) 32 rfl (by kernel_rfl) rfl
      | 16, _ =>
        obtain rfl := Option.some.inj ho
        refine g_yes rfl rfl (dep ⟨12, .guard⟩ (by simp) rfl) ?_
        exact st_loadPG gM rfl (dep ⟨15, .data⟩ (by simp) rfl) (xs := bL b.1) (cla_get1 a b x y) (by rw [bL_length, b.2]) rfl
      | 17, _ =>
        obtain rfl := Option.some.inj ho
        refine g_yes rfl rfl (dep ⟨12, .guard⟩ (by simp) rfl) ?_
        have d0 := dep ⟨14, .data⟩ (by simp) rfl
        have d1 := dep ⟨16, .data⟩ (by simp) rfl
        exact st_ret2 rfl (fun _ _ => by kernel_rfl) d0 d1 (implNodeKey_c a b _) (fun r w' h _ => h)
      | 18, _ =>
        obtain rfl := Option.some.inj ho
        refine g_yes rfl rfl (dep ⟨12, .guard⟩ (by simp) rfl) ?_
        exact st_fldC rfl Try.underlying27 rfl (fr.eval rfl) 64 rfl (by kernel_rfl) rfl
      | 19, _ =>
        obtain rfl := Option.some.inj ho
        refine g_yes rfl rfl (dep ⟨12, .guard⟩ (by simp) rfl) ?_
        exact st_loadPG gM rfl (dep ⟨18, .data⟩ (by simp) rfl) (xs := bL x.1) (cla_get2 a b x y) (by rw [bL_length, x.2]) rfl
      | 20, _ =>
        obtain rfl := Option.some.inj ho
        refine g_yes rfl rfl (dep ⟨12, .guard⟩ (by simp) rfl) ?_
        exact st_fldC rfl Try.underlying27 rfl (fr.eval rfl) 96 rfl (by kernel_rfl) rfl
      | 21, _ =>
        obtain rfl := Option.some.inj ho
        refine g_yes rfl rfl (dep ⟨12, .guard⟩ (by simp) rfl) ?_
        exact st_loadPG gM rfl (dep ⟨20, .data⟩ (by simp) rfl) (xs := bL y.1) (cla_get3 a b x y) (by rw [bL_length, y.2]) rfl
      | 22, _ =>
        obtain rfl := Option.some.inj ho
        refine g_yes rfl rfl (dep ⟨12, .guard⟩ (by simp) rfl) ?_
        have d0 := dep ⟨19, .data⟩ (by simp) rfl
        have d1 := dep ⟨21, .data⟩ (by simp) rfl
        exact st_ret2 rfl (fun _ _ => by kernel_rfl) d0 d1 (implNodeKey_c x y _) (fun r w' h _ => h)
      | 23, _ =>
        obtain rfl := Option.some.inj ho
        refine g_yes rfl rfl (dep ⟨12, .guard⟩ (by simp) rfl) ?_
        exact st_bin rfl (dep ⟨17, .data⟩ (by simp) rfl) (dep ⟨22, .data⟩ (by simp) rfl) (by have := key_eqlG (nodeK a b) (nodeK x y); rw [HE.out] at this; exact this _ _ _) rfl
      | 24, _ =>
        obtain rfl := Option.some.inj ho
        refine g_none rfl rfl ?_
        exact st_pick rfl (dep ⟨12, .data⟩ (by simp) rfl) (dep ⟨23, .data⟩ (by simp) rfl) (rfl) rfl
      | n + 25, h' => exact absurd h' (by omega)
    · rintro vs wv gM hf
      have f0 : vs 0 = .pointer (some ⟨g1, 0, none⟩) := hf 0 (by omega)
      have f1 : vs 1 = .agg (bA a.1) := hf 1 (by omega)
      have f2 : vs 2 = .pointer (some ⟨g1, 64, none⟩) := hf 2 (by omega)
      have f3 : vs 3 = .agg (bA x.1) := hf 3 (by omega)
      have f4 : vs 4 = .bool true := hf 4 (by omega)
      have f5 : vs 5 = .bool true := hf 5 (by omega)
      have f6 : vs 6 = undef := hf 6 (by omega)
      have f7 : vs 7 = undef := hf 7 (by omega)
      have f8 : vs 8 = undef := hf 8 (by omega)
      have f9 : vs 9 = undef := hf 9 (by omega)
      have f10 : vs 10 = undef := hf 10 (by omega)
      have f11 : vs 11 = .bool true := hf 11 (by omega)
      have f12 : vs 12 = .bool true := hf 12 (by omega)
      have f13 : vs 13 = .pointer (some ⟨g1, 0, none⟩) := hf 13 (by omega)
      have f14 : vs 14 = .agg (bA a.1) := hf 14 (by omega)
      have f15 : vs 15 = .pointer (some ⟨g1, 32, none⟩) := hf 15 (by omega)
      have f16 : vs 16 = .agg (bA b.1) := hf 16 (by omega)
      have f17 : vs 17 = .agg (bA (nodeK a b).1) := hf 17 (by omega)
      have f18 : vs 18 = .pointer (some ⟨g1, 64, none⟩) := hf 18 (by omega)
      have f19 : vs 19 = .agg (bA x.1) := hf 19 (by omega)
      have f20 : vs 20 = .pointer (some ⟨g1, 96, none⟩) := hf 20 (by omega)
      have f21 : vs 21 = .agg (bA y.1) := hf 21 (by omega)
      have f22 : vs 22 = .agg (bA (nodeK x y).1) := hf 22 (by omega)
      have f23 : vs 23 = .bool e := hf 23 (by omega)
      have f24 : vs 24 = .bool e := hf 24 (by omega)
      simp only [putAll, Act.put, List.getElem?_toArray, List.getElem?_cons_zero, List.getElem?_cons_succ, Option.bind_some, List.setIfInBounds_toArray, List.set_cons_zero, List.set_cons_succ, List.drop_succ_cons, List.drop_zero, List.drop_nil, f24]
      clear f0 f1 f2 f3 f4 f5 f6 f7 f8 f9 f10 f11 f12 f13 f14 f15 f16 f17 f18 f19 f20 f21 f22 f23 f24 hf
      have M := gM
      go_wp2_with fail
      go_ret
      exact ⟨_, rfl, by rw [HR.out]; rfl, M.up⟩

set_option maxHeartbeats 4000000 in
set_option maxRecDepth 100000 in
theorem specValid_c (c : Cl) (w : World) : Ret Try.prog 111 #[.agg (claV c)] w fun r _ => r = .bool (vcB c) := by
  obtain ⟨a, b, x, y⟩ := c
  obtain ⟨e, he⟩ : ∃ e, decide (nodeK a b = nodeK x y) = e := ⟨_, rfl⟩
  have HE := Lib.hid he
  have hs := claC_size a b x y
  refine ret_start fun wx M => ?_
  unfold claV
  by_cases h1 : a = x
  · have ce1 : ∀ w, (binOp .neq 25 (.agg (bA a.1)) (.agg (bA x.1))).run Try.prog w = .ok (.bool false) w := fun w => by rw [key_neq, decide_eq_true h1]; rfl
    by_cases h2 : b = y
    · have ce2 : ∀ w, (binOp .neq 25 (.agg (bA b.1)) (.agg (bA y.1))).run Try.prog w = .ok (.bool false) w := fun w => by rw [key_neq, decide_eq_true h2]; rfl
      have HR := Lib.hid (show vcB (a, b, x, y) = false by simp [vcB, h1, h2])
      clear h1 h2 he
      go_enter Try.func111, Try.ntmps111
      go_wp2_with (first
        | (with_reducible (show wpList _ _ _ (Oper.mk (some 1) (.box _ _) _ _ _ _ :: _) _ _); (first | (refine m_boxA M rfl rfl rfl ?_) | (refine m_box1 (v := Value.int _ _) M rfl rfl rfl rfl ?_) | (refine m_box1 (v := Value.slice _ _ _) M rfl rfl rfl rfl ?_) | (refine m_box1 (v := Value.bool _) M rfl rfl rfl rfl ?_) | (refine m_box1 (v := Value.string _) M rfl rfl rfl rfl ?_) | (refine m_box1 (v := Value.pointer _) M rfl rfl rfl rfl ?_)); clear M; (try clear wx); intro g1 wx M)
        | (with_reducible (show wpList _ _ _ (Oper.mk _ (.load _ _) _ _ _ _ :: _) _ _); (first | (refine m_loadB M rfl rfl rfl (cla_get0 _ _ _ _) (Ky.len _) ?_) | (refine m_loadB M rfl rfl rfl (cla_get1 _ _ _ _) (Ky.len _) ?_) | (refine m_loadB M rfl rfl rfl (cla_get2 _ _ _ _) (Ky.len _) ?_) | (refine m_loadB M rfl rfl rfl (cla_get3 _ _ _ _) (Ky.len _) ?_) | (refine m_loadBw M rfl rfl rfl (cla_get0 _ _ _ _) (Ky.len _) ?_) | (refine m_loadBw M rfl rfl rfl (cla_get1 _ _ _ _) (Ky.len _) ?_) | (refine m_loadBw M rfl rfl rfl (cla_get2 _ _ _ _) (Ky.len _) ?_) | (refine m_loadBw M rfl rfl rfl (cla_get3 _ _ _ _) (Ky.len _) ?_) | (refine m_load M rfl rfl rfl (by first | assumption | rfl) ?_) | (refine m_loadR M rfl rfl rfl (by first | exact hs | (simp; done)) ?_))))
      clear ce1 ce2
      refine region_monoG (m := 14) mixedOrders_ (by kernel_rfl) (by kernel_rfl)
        (fun | 0 => fun vq _ => vq = .bool false | 1 => fun vq _ => vq = .bool false | 2 => fun vq _ => vq = undef | 3 => fun vq _ => vq = undef | 4 => fun vq _ => vq = undef | 5 => fun vq _ => vq = undef | 6 => fun vq _ => vq = undef | 7 => fun vq _ => vq = undef | 8 => fun vq _ => vq = undef | 9 => fun vq _ => vq = undef | 10 => fun vq _ => vq = undef | 11 => fun vq _ => vq = undef | 12 => fun vq _ => vq = undef | 13 => fun vq _ => vq = .bool false | _ => fun _ _ => True)
        (fun wx => Mem w wx [.blk g1 27 (claC a.1 b.1 x.1 y.1)]) ?_ ?_ ?_ ?_ ?_
      · intro j hj v w1 w2 hb h
        match j, hj with
        | 0, _ => exact h
        | 1, _ => exact h
        | 2, _ => exact h
        | 3, _ => exact h
        | 4, _ => exact h
        | 5, _ => exact h
        | 6, _ => exact h
        | 7, _ => exact h
        | 8, _ => exact h
        | 9, _ => exact h
        | 10, _ => exact h
        | 11, _ => exact h
        | 12, _ => exact h
        | 13, _ => exact h
      · intro w1 w2 hb h
        exact h.grow hb
      · exact M.grow ((Up.refl _).drew)
      · rintro i o hi ho av wv fr gM dep
        match i, hi with
        | 0, _ =>
          obtain rfl := Option.some.inj ho
          refine g_none rfl rfl ?_
          exact st_mov rfl (fr.eval rfl) rfl
        | 1, _ =>
          obtain rfl := Option.some.inj ho
          refine g_none rfl rfl ?_
          exact st_mov rfl (dep ⟨0, .data⟩ (by simp) rfl) rfl
        | 2, _ =>
          obtain rfl := Option.some.inj ho
          exact g_no rfl rfl (dep ⟨1, .guard⟩ (by simp) rfl) (by decide) rfl
        | 3, _ =>
          obtain rfl := Option.some.inj ho
          exact g_no rfl rfl (dep ⟨1, .guard⟩ (by simp) rfl) (by decide) rfl
        | 4, _ =>
          obtain rfl := Option.some.inj ho
          exact g_no rfl rfl (dep ⟨1, .guard⟩ (by simp) rfl) (by decide) rfl
        | 5, _ =>
          obtain rfl := Option.some.inj ho
          exact g_no rfl rfl (dep ⟨1, .guard⟩ (by simp) rfl) (by decide) rfl
        | 6, _ =>
          obtain rfl := Option.some.inj ho
          exact g_no rfl rfl (dep ⟨1, .guard⟩ (by simp) rfl) (by decide) rfl
        | 7, _ =>
          obtain rfl := Option.some.inj ho
          exact g_no rfl rfl (dep ⟨1, .guard⟩ (by simp) rfl) (by decide) rfl
        | 8, _ =>
          obtain rfl := Option.some.inj ho
          exact g_no rfl rfl (dep ⟨1, .guard⟩ (by simp) rfl) (by decide) rfl
        | 9, _ =>
          obtain rfl := Option.some.inj ho
          exact g_no rfl rfl (dep ⟨1, .guard⟩ (by simp) rfl) (by decide) rfl
        | 10, _ =>
          obtain rfl := Option.some.inj ho
          exact g_no rfl rfl (dep ⟨1, .guard⟩ (by simp) rfl) (by decide) rfl
        | 11, _ =>
          obtain rfl := Option.some.inj ho
          exact g_no rfl rfl (dep ⟨1, .guard⟩ (by simp) rfl) (by decide) rfl
        | 12, _ =>
          obtain rfl := Option.some.inj ho
          exact g_no rfl rfl (dep ⟨1, .guard⟩ (by simp) rfl) (by decide) rfl
        | 13, _ =>
          obtain rfl := Option.some.inj ho
          refine g_none rfl rfl ?_
          exact st_pick rfl (dep ⟨1, .data⟩ (by simp) rfl) (dep ⟨12, .data⟩ (by simp) rfl) (rfl) rfl
      · rintro vs wv gM hf
        have f0 : vs 0 = .bool false := hf 0 (by omega)
        have f1 : vs 1 = .bool false := hf 1 (by omega)
        have f2 : vs 2 = undef := hf 2 (by omega)
        have f3 : vs 3 = undef := hf 3 (by omega)
        have f4 : vs 4 = undef := hf 4 (by omega)
        have f5 : vs 5 = undef := hf 5 (by omega)
        have f6 : vs 6 = undef := hf 6 (by omega)
        have f7 : vs 7 = undef := hf 7 (by omega)
        have f8 : vs 8 = undef := hf 8 (by omega)
        have f9 : vs 9 = undef := hf 9 (by omega)
        have f10 : vs 10 = undef := hf 10 (by omega)
        have f11 : vs 11 = undef := hf 11 (by omega)
        have f12 : vs 12 = undef := hf 12 (by omega)
        have f13 : vs 13 = .bool false := hf 13 (by omega)
        simp only [putAll, Act.put, List.getElem?_toArray, List.getElem?_cons_zero, List.getElem?_cons_succ, Option.bind_some, List.setIfInBounds_toArray, List.set_cons_zero, List.set_cons_succ, List.drop_succ_cons, List.drop_zero, List.drop_nil, f13]
        clear f0 f1 f2 f3 f4 f5 f6 f7 f8 f9 f10 f11 f12 f13 hf
        have M := gM
        go_wp2_with fail
        go_ret
        exact ⟨_, rfl, by rw [HR.out]; rfl, M.up⟩
    · have ce2 : ∀ w, (binOp .neq 25 (.agg (bA b.1)) (.agg (bA y.1))).run Try.prog w = .ok (.bool true) w := fun w => by rw [key_neq, decide_eq_false h2]; rfl
      have HR := Lib.hid (show vcB (a, b, x, y) = e by rw [← he]; simp [vcB, h2])
      clear h1 h2 he
      go_enter Try.func111, Try.ntmps111
      go_wp2_with (first
        | (with_reducible (show wpList _ _ _ (Oper.mk (some 1) (.box _ _) _ _ _ _ :: _) _ _); (first | (refine m_boxA M rfl rfl rfl ?_) | (refine m_box1 (v := Value.int _ _) M rfl rfl rfl rfl ?_) | (refine m_box1 (v := Value.slice _ _ _) M rfl rfl rfl rfl ?_) | (refine m_box1 (v := Value.bool _) M rfl rfl rfl rfl ?_) | (refine m_box1 (v := Value.string _) M rfl rfl rfl rfl ?_) | (refine m_box1 (v := Value.pointer _) M rfl rfl rfl rfl ?_)); clear M; (try clear wx); intro g1 wx M)
        | (with_reducible (show wpList _ _ _ (Oper.mk _ (.load _ _) _ _ _ _ :: _) _ _); (first | (refine m_loadB M rfl rfl rfl (cla_get0 _ _ _ _) (Ky.len _) ?_) | (refine m_loadB M rfl rfl rfl (cla_get1 _ _ _ _) (Ky.len _) ?_) | (refine m_loadB M rfl rfl rfl (cla_get2 _ _ _ _) (Ky.len _) ?_) | (refine m_loadB M rfl rfl rfl (cla_get3 _ _ _ _) (Ky.len _) ?_) | (refine m_loadBw M rfl rfl rfl (cla_get0 _ _ _ _) (Ky.len _) ?_) | (refine m_loadBw M rfl rfl rfl (cla_get1 _ _ _ _) (Ky.len _) ?_) | (refine m_loadBw M rfl rfl rfl (cla_get2 _ _ _ _) (Ky.len _) ?_) | (refine m_loadBw M rfl rfl rfl (cla_get3 _ _ _ _) (Ky.len _) ?_) | (refine m_load M rfl rfl rfl (by first | assumption | rfl) ?_) | (refine m_loadR M rfl rfl rfl (by first | exact hs | (simp; done)) ?_))))
      clear ce1 ce2
      refine region_monoG (m := 14) mixedOrders_ (by kernel_rfl) (by kernel_rfl)
        (fun | 0 => fun vq _ => vq = .bool true | 1 => fun vq _ => vq = .bool true | 2 => fun vq _ => vq = .pointer (some ⟨g1, 0, none⟩) | 3 => fun vq _ => vq = .agg (bA a.1) | 4 => fun vq _ => vq = .pointer (some ⟨g1, 32, none⟩) | 5 => fun vq _ => vq = .agg (bA b.1) | 6 => fun vq _ => vq = .agg (bA (nodeK a b).1) | 7 => fun vq _ => vq = .pointer (some ⟨g1, 64, none⟩) | 8 => fun vq _ => vq = .agg (bA x.1) | 9 => fun vq _ => vq = .pointer (some ⟨g1, 96, none⟩) | 10 => fun vq _ => vq = .agg (bA y.1) | 11 => fun vq _ => vq = .agg (bA (nodeK x y).1) | 12 => fun vq _ => vq = .bool e | 13 => fun vq _ => vq = .bool e | _ => fun _ _ => True)
        (fun wx => Mem w wx [.blk g1 27 (claC a.1 b.1 x.1 y.1)]) ?_ ?_ ?_ ?_ ?_
      · intro j hj v w1 w2 hb h
        match j, hj with
        | 0, _ => exact h
        | 1, _ => exact h
        | 2, _ => exact h
        | 3, _ => exact h
        | 4, _ => exact h
        | 5, _ => exact h
        | 6, _ => exact h
        | 7, _ => exact h
        | 8, _ => exact h
        | 9, _ => exact h
        | 10, _ => exact h
        | 11, _ => exact h
        | 12, _ => exact h
        | 13, _ => exact h
      · intro w1 w2 hb h
        exact h.grow hb
      · exact M.grow ((Up.refl _).drew)
      · rintro i o hi ho av wv fr gM dep
        match i, hi with
        | 0, _ =>
          obtain rfl := Option.some.inj ho
          refine g_none rfl rfl ?_
          exact st_mov rfl (fr.eval rfl) rfl
        | 1, _ =>
          obtain rfl := Option.some.inj ho
          refine g_none rfl rfl ?_
          exact st_mov rfl (dep ⟨0, .data⟩ (by simp) rfl) rfl
        | 2, _ =>
          obtain rfl := Option.some.inj ho
          refine g_yes rfl rfl (dep ⟨1, .guard⟩ (by simp) rfl) ?_
          exact st_fldC rfl Try.underlying27 rfl (fr.eval rfl) 0 rfl (by kernel_rfl) rfl
        | 3, _ =>
          obtain rfl := Option.some.inj ho
          refine g_yes rfl rfl (dep ⟨1, .guard⟩ (by simp) rfl) ?_
          exact st_loadPG gM rfl (dep ⟨2, .data⟩ (by simp) rfl) (xs := bL a.1) (cla_get0 a b x y) (by rw [bL_length, a.2]) rfl
        | 4, _ =>
          obtain rfl := Option.some.inj ho
          refine g_yes rfl rfl (dep ⟨1, .guard⟩ (by simp) rfl) ?_
          exact st_fldC rfl Try.underlying27 rfl (fr.eval rfl) 32 rfl (by kernel_rfl) rfl
        | 5, _ =>
          obtain rfl := Option.some.inj ho
          refine g_yes rfl rfl (dep ⟨1, .guard⟩ (by simp) rfl) ?_
          exact st_loadPG gM rfl (dep ⟨4, .data⟩ (by simp) rfl) (xs := bL b.1) (cla_get1 a b x y) (by rw [bL_length, b.2]) rfl
        | 6, _ =>
          obtain rfl := Option.some.inj ho
          refine g_yes rfl rfl (dep ⟨1, .guard⟩ (by simp) rfl) ?_
          have d0 := dep ⟨3, .data⟩ (by simp) rfl
          have d1 := dep ⟨5, .data⟩ (by simp) rfl
          exact st_ret2 rfl (fun _ _ => by kernel_rfl) d0 d1 (l03Node_c a b _) (fun r w' h _ => h)
        | 7, _ =>
          obtain rfl := Option.some.inj ho
          refine g_yes rfl rfl (dep ⟨1, .guard⟩ (by simp) rfl) ?_
          exact st_fldC rfl Try.underlying27 rfl (fr.eval rfl) 64 rfl (by kernel_rfl) rfl
        | 8, _ =>
          obtain rfl := Option.some.inj ho
          refine g_yes rfl rfl (dep ⟨1, .guard⟩ (by simp) rfl) ?_
          exact st_loadPG gM rfl (dep ⟨7, .data⟩ (by simp) rfl) (xs := bL x.1) (cla_get2 a b x y) (by rw [bL_length, x.2]) rfl
        | 9, _ =>
          obtain rfl := Option.some.inj ho
          refine g_yes rfl rfl (dep ⟨1, .guard⟩ (by simp) rfl) ?_
          exact st_fldC rfl Try.underlying27 rfl (fr.eval rfl) 96 rfl (by kernel_rfl) rfl
        | 10, _ =>
          obtain rfl := Option.some.inj ho
          refine g_yes rfl rfl (dep ⟨1, .guard⟩ (by simp) rfl) ?_
          exact st_loadPG gM rfl (dep ⟨9, .data⟩ (by simp) rfl) (xs := bL y.1) (cla_get3 a b x y) (by rw [bL_length, y.2]) rfl
        | 11, _ =>
          obtain rfl := Option.some.inj ho
          refine g_yes rfl rfl (dep ⟨1, .guard⟩ (by simp) rfl) ?_
          have d0 := dep ⟨8, .data⟩ (by simp) rfl
          have d1 := dep ⟨10, .data⟩ (by simp) rfl
          exact st_ret2 rfl (fun _ _ => by kernel_rfl) d0 d1 (l03Node_c x y _) (fun r w' h _ => h)
        | 12, _ =>
          obtain rfl := Option.some.inj ho
          refine g_yes rfl rfl (dep ⟨1, .guard⟩ (by simp) rfl) ?_
          exact st_bin rfl (dep ⟨6, .data⟩ (by simp) rfl) (dep ⟨11, .data⟩ (by simp) rfl) (by have := key_eqlG (nodeK a b) (nodeK x y); rw [HE.out] at this; exact this _ _ _) rfl
        | 13, _ =>
          obtain rfl := Option.some.inj ho
          refine g_none rfl rfl ?_
          exact st_pick rfl (dep ⟨1, .data⟩ (by simp) rfl) (dep ⟨12, .data⟩ (by simp) rfl) (rfl) rfl
      · rintro vs wv gM hf
        have f0 : vs 0 = .bool true := hf 0 (by omega)
        have f1 : vs 1 = .bool true := hf 1 (by omega)
        have f2 : vs 2 = .pointer (some ⟨g1, 0, none⟩) := hf 2 (by omega)
        have f3 : vs 3 = .agg (bA a.1) := hf 3 (by omega)
        have f4 : vs 4 = .pointer (some ⟨g1, 32, none⟩) := hf 4 (by omega)
        have f5 : vs 5 = .agg (bA b.1) := hf 5 (by omega)
        have f6 : vs 6 = .agg (bA (nodeK a b).1) := hf 6 (by omega)
        have f7 : vs 7 = .pointer (some ⟨g1, 64, none⟩) := hf 7 (by omega)
        have f8 : vs 8 = .agg (bA x.1) := hf 8 (by omega)
        have f9 : vs 9 = .pointer (some ⟨g1, 96, none⟩) := hf 9 (by omega)
        have f10 : vs 10 = .agg (bA y.1) := hf 10 (by omega)
        have f11 : vs 11 = .agg (bA (nodeK x y).1) := hf 11 (by omega)
        have f12 : vs 12 = .bool e := hf 12 (by omega)
        have f13 : vs 13 = .bool e := hf 13 (by omega)
        simp only [putAll, Act.put, List.getElem?_toArray, List.getElem?_cons_zero, List.getElem?_cons_succ, Option.bind_some, List.setIfInBounds_toArray, List.set_cons_zero, List.set_cons_succ, List.drop_succ_cons, List.drop_zero, List.drop_nil, f13]
        clear f0 f1 f2 f3 f4 f5 f6 f7 f8 f9 f10 f11 f12 f13 hf
        have M := gM
        go_wp2_with fail
        go_ret
        exact ⟨_, rfl, by rw [HR.out]; rfl, M.up⟩
  · have ce1 : ∀ w, (binOp .neq 25 (.agg (bA a.1)) (.agg (bA x.1))).run Try.prog w = .ok (.bool true) w := fun w => by rw [key_neq, decide_eq_false h1]; rfl
    have HR := Lib.hid (show vcB (a, b, x, y) = e by rw [← he]; simp [vcB, h1])
    clear h1 he
    go_enter Try.func111, Try.ntmps111
    go_wp2_with (first
      | (with_reducible (show wpList _ _ _ (Oper.mk (some 1) (.box _ _) _ _ _ _ :: _) _ _); (first | (refine m_boxA M rfl rfl rfl ?_) | (refine m_box1 (v := Value.int _ _) M rfl rfl rfl rfl ?_) | (refine m_box1 (v := Value.slice _ _ _) M rfl rfl rfl rfl ?_) | (refine m_box1 (v := Value.bool _) M rfl rfl rfl rfl ?_) | (refine m_box1 (v := Value.string _) M rfl rfl rfl rfl ?_) | (refine m_box1 (v := Value.pointer _) M rfl rfl rfl rfl ?_)); clear M; (try clear wx); intro g1 wx M)
      | (with_reducible (show wpList _ _ _ (Oper.mk _ (.load _ _) _ _ _ _ :: _) _ _); (first | (refine m_loadB M rfl rfl rfl (cla_get0 _ _ _ _) (Ky.len _) ?_) | (refine m_loadB M rfl rfl rfl (cla_get1 _ _ _ _) (Ky.len _) ?_) | (refine m_loadB M rfl rfl rfl (cla_get2 _ _ _ _) (Ky.len _) ?_) | (refine m_loadB M rfl rfl rfl (cla_get3 _ _ _ _) (Ky.len _) ?_) | (refine m_loadBw M rfl rfl rfl (cla_get0 _ _ _ _) (Ky.len _) ?_) | (refine m_loadBw M rfl rfl rfl (cla_get1 _ _ _ _) (Ky.len _) ?_) | (refine m_loadBw M rfl rfl rfl (cla_get2 _ _ _ _) (Ky.len _) ?_) | (refine m_loadBw M rfl rfl rfl (cla_get3 _ _ _ _) (Ky.len _) ?_) | (refine m_load M rfl rfl rfl (by first | assumption | rfl) ?_) | (refine m_loadR M rfl rfl rfl (by first | exact hs | (simp; done)) ?_))))
    clear ce1
    refine region_monoG (m := 14) mixedOrders_ (by kernel_rfl) (by kernel_rfl)
      (fun | 0 => fun vq _ => vq = .bool true | 1 => fun vq _ => vq = .bool true | 2 => fun vq _ => vq = .pointer (some ⟨g1, 0, none⟩) | 3 => fun vq _ => vq = .agg (bA a.1) | 4 => fun vq _ => vq = .pointer (some ⟨g1, 32, none⟩) | 5 => fun vq _ => vq = .agg (bA b.1) | 6 => fun vq _ => vq = .agg (bA (nodeK a b).1) | 7 => fun vq _ => vq = .pointer (some ⟨g1, 64, none⟩) | 8 => fun vq _ => vq = .agg (bA x.1) | 9 => fun vq _ => vq = .pointer (some ⟨g1, 96, none⟩) | 10 => fun vq _ => vq = .agg (bA y.1) | 11 => fun vq _ => vq = .agg (bA (nodeK x y).1) | 12 => fun vq _ => vq = .bool e | 13 => fun vq _ => vq = .bool e | _ => fun _ _ => True)
      (fun wx => Mem w wx [.blk g1 27 (claC a.1 b.1 x.1 y.1)]) ?_ ?_ ?_ ?_ ?_
    · intro j hj v w1 w2 hb h
      match j, hj with
      | 0, _ => exact h
      | 1, _ => exact h
      | 2, _ => exact h
      | 3, _ => exact h
      | 4, _ => exact h
      | 5, _ => exact h
      | 6, _ => exact h
      | 7, _ => exact h
      | 8, _ => exact h
      | 9, _ => exact h
      | 10, _ => exact h
      | 11, _ => exact h
      | 12, _ => exact h
      | 13, _ => exact h
    · intro w1 w2 hb h
      exact h.grow hb
    · exact M.grow ((Up.refl _).drew)
    · rintro i o hi ho av wv fr gM dep
      match i, hi with
      | 0, _ =>
        obtain rfl := Option.some.inj ho
        refine g_none rfl rfl ?_
        exact st_mov rfl (fr.eval rfl) rfl
      | 1, _ =>
        obtain rfl := Option.some.inj ho
        refine g_none rfl rfl ?_
        exact st_mov rfl (dep ⟨0, .data⟩ (by simp) rfl) rfl
      | 2, _ =>
        obtain rfl := Option.some.inj ho
        refine g_yes rfl rfl (dep ⟨1, .guard⟩ (by simp) rfl) ?_
        exact st_fldC rfl Try.underlying27 rfl (fr.eval rfl) 0 rfl (by kernel_rfl) rfl
      | 3, _ =>
        obtain rfl := Option.some.inj ho
        refine g_yes rfl rfl (dep ⟨1, .guard⟩ (by simp) rfl) ?_
        exact st_loadPG gM rfl (dep ⟨2, .data⟩ (by simp) rfl) (xs := bL a.1) (cla_get0 a b x y) (by rw [bL_length, a.2]) rfl
      | 4, _ =>
        obtain rfl := Option.some.inj ho
        refine g_yes rfl rfl (dep ⟨1, .guard⟩ (by simp) rfl) ?_
        exact st_fldC rfl Try.underlying27 rfl (fr.eval rfl) 32 rfl (by kernel_rfl) rfl
      | 5, _ =>
        obtain rfl := Option.some.inj ho
        refine g_yes rfl rfl (dep ⟨1, .guard⟩ (by simp) rfl) ?_
        exact st_loadPG gM rfl (dep ⟨4, .data⟩ (by simp) rfl) (xs := bL b.1) (cla_get1 a b x y) (by rw [bL_length, b.2]) rfl
      | 6, _ =>
        obtain rfl := Option.some.inj ho
        refine g_yes rfl rfl (dep ⟨1, .guard⟩ (by simp) rfl) ?_
        have d0 := dep ⟨3, .data⟩ (by simp) rfl
        have d1 := dep ⟨5, .data⟩ (by simp) rfl
        exact st_ret2 rfl (fun _ _ => by kernel_rfl) d0 d1 (l03Node_c a b _) (fun r w' h _ => h)
      | 7, _ =>
        obtain rfl := Option.some.inj ho
        refine g_yes rfl rfl (dep ⟨1, .guard⟩ (by simp) rfl) ?_
        exact st_fldC rfl Try.underlying27 rfl (fr.eval rfl) 64 rfl (by kernel_rfl) rfl
      | 8, _ =>
        obtain rfl := Option.some.inj ho
        refine g_yes rfl rfl (dep ⟨1, .guard⟩ (by simp) rfl) ?_
        exact st_loadPG gM rfl (dep ⟨7, .data⟩ (by simp) rfl) (xs := bL x.1) (cla_get2 a b x y) (by rw [bL_length, x.2]) rfl
      | 9, _ =>
        obtain rfl := Option.some.inj ho
        refine g_yes rfl rfl (dep ⟨1, .guard⟩ (by simp) rfl) ?_
        exact st_fldC rfl Try.underlying27 rfl (fr.eval rfl) 96 rfl (by kernel_rfl) rfl
      | 10, _ =>
        obtain rfl := Option.some.inj ho
        refine g_yes rfl rfl (dep ⟨1, .guard⟩ (by simp) rfl) ?_
        exact st_loadPG gM rfl (dep ⟨9, .data⟩ (by simp) rfl) (xs := bL y.1) (cla_get3 a b x y) (by rw [bL_length, y.2]) rfl
      | 11, _ =>
        obtain rfl := Option.some.inj ho
        refine g_yes rfl rfl (dep ⟨1, .guard⟩ (by simp) rfl) ?_
        have d0 := dep ⟨8, .data⟩ (by simp) rfl
        have d1 := dep ⟨10, .data⟩ (by simp) rfl
        exact st_ret2 rfl (fun _ _ => by kernel_rfl) d0 d1 (l03Node_c x y _) (fun r w' h _ => h)
      | 12, _ =>
        obtain rfl := Option.some.inj ho
        refine g_yes rfl rfl (dep ⟨1, .guard⟩ (by simp) rfl) ?_
        exact st_bin rfl (dep ⟨6, .data⟩ (by simp) rfl) (dep ⟨11, .data⟩ (by simp) rfl) (by have := key_eqlG (nodeK a b) (nodeK x y); rw [HE.out] at this; exact this _ _ _) rfl
      | 13, _ =>
        obtain rfl := Option.some.inj ho
        refine g_none rfl rfl ?_
        exact st_pick rfl (dep ⟨1, .data⟩ (by simp) rfl) (dep ⟨12, .data⟩ (by simp) rfl) (rfl) rfl
    · rintro vs wv gM hf
      have f0 : vs 0 = .bool true := hf 0 (by omega)
      have f1 : vs 1 = .bool true := hf 1 (by omega)
      have f2 : vs 2 = .pointer (some ⟨g1, 0, none⟩) := hf 2 (by omega)
      have f3 : vs 3 = .agg (bA a.1) := hf 3 (by omega)
      have f4 : vs 4 = .pointer (some ⟨g1, 32, none⟩) := hf 4 (by omega)
      have f5 : vs 5 = .agg (bA b.1) := hf 5 (by omega)
      have f6 : vs 6 = .agg (bA (nodeK a b).1) := hf 6 (by omega)
      have f7 : vs 7 = .pointer (some ⟨g1, 64, none⟩) := hf 7 (by omega)
      have f8 : vs 8 = .agg (bA x.1) := hf 8 (by omega)
      have f9 : vs 9 = .pointer (some ⟨g1, 96, none⟩) := hf 9 (by omega)
      have f10 : vs 10 = .agg (bA y.1) := hf 10 (by omega)
      have f11 : vs 11 = .agg (bA (nodeK x y).1) := hf 11 (by omega)
      have f12 : vs 12 = .bool e := hf 12 (by omega)
      have f13 : vs 13 = .bool e := hf 13 (by omega)
      simp only [putAll, Act.put, List.getElem?_toArray, List.getElem?_cons_zero, List.getElem?_cons_succ, Option.bind_some, List.setIfInBounds_toArray, List.set_cons_zero, List.set_cons_succ, List.drop_succ_cons, List.drop_zero, List.drop_nil, f13]
      clear f0 f1 f2 f3 f4 f5 f6 f7 f8 f9 f10 f11 f12 f13 hf
      have M := gM
      go_wp2_with fail
      go_ret
      exact ⟨_, rfl, by rw [HR.out]; rfl, M.up⟩

end Go.Proofs.Ytmbhaoiahlbglaa

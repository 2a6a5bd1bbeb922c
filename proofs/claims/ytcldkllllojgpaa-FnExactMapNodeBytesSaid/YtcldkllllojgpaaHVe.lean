/- Walks: are entries valid; the law ValidEntries. -/
import Derived.Test.YtcldkllllojgpaaHEn
import Derived.WalkLawsBesides
namespace Go.Proofs.Ytcldkllllojgpaa
open Go.RowKit
set_option linter.unusedVariables false
set_option linter.unusedSimpArgs false

instance : ZeroT Try.prog 37 #[.string ByteArray.empty, .string ByteArray.empty] := ⟨⟨.agg #[.string ByteArray.empty, .string ByteArray.empty], fun w => by kernel_rfl, rfl⟩⟩
theorem less_tri : ∀ (x y : List UInt8), (Op.bytesLess x y || x == y) = !(Op.bytesLess y x) := by
  intro x
  induction x with
  | nil => intro y; cases y <;> simp [Op.bytesLess]
  | cons a x ih =>
    intro y
    cases y with
    | nil => simp [Op.bytesLess]
    | cons b y =>
      have hi := ih y
      simp only [Op.bytesLess]
      rcases Nat.lt_trichotomy a.toNat b.toNat with h | h | h
      · have h1 : a < b := h
        have h2 : ¬ b < a := fun h' => by have : b.toNat < a.toNat := h'; omega
        have h3 : ¬ b = a := fun e => by subst e; omega
        simp [h1, h2, h3]
      · have h1 : a = b := UInt8.toNat_inj.1 h
        subst h1
        have h2 : ¬ a < a := fun h' => by have : a.toNat < a.toNat := h'; omega
        simp [h2]
        rw [← hi]
      · have h1 : b < a := h
        have h2 : ¬ a < b := fun h' => by have : a.toNat < b.toNat := h'; omega
        have h3 : ¬ a = b := fun e => by subst e; omega
        simp [h1, h2, h3]
/-- Is there a fault at place i? -/
def badE (es : List En) (i : Nat) : Bool :=
  !(entB (es.getD i (ByteArray.empty, ByteArray.empty)).1 (es.getD i (ByteArray.empty, ByteArray.empty)).2) || (decide (0 < i) && !(Op.bytesLess (es.getD (i - 1) (ByteArray.empty, ByteArray.empty)).1.toList (es.getD i (ByteArray.empty, ByteArray.empty)).1.toList))
/-- Are entries valid? -/
def veB (es : List En) : Bool := decide (∀ i, i < es.length → badE es i = false) && decide (es.length ≤ 64)
theorem badE_0 (es : List En) (h : 0 < es.length) : badE es 0 = !(entB (es[0]'h).1 (es[0]'h).2) := by simp [badE, h]
theorem badE_s (es : List En) (j : Nat) (h : j + 1 < es.length) : badE es (j + 1) = (!(entB (es[j + 1]'h).1 (es[j + 1]'h).2) || !(Op.bytesLess (es[j]'(by omega)).1.toList (es[j + 1]'h).1.toList)) := by
  have h' : j < es.length := by omega
  simp [badE, h, h']
theorem veB_bad (es : List En) (i : Nat) (hi : i < es.length) (h : badE es i = true) : veB es = false := by
  rw [veB, decide_eq_false, Bool.false_and]
  intro hh
  rw [hh i hi] at h
  cases h
theorem veB_good (es : List En) (n : Nat) (hn : es.length = n) (h : ∀ i, i < n → badE es i = false) : veB es = decide (n ≤ 64) := by
  subst hn
  rw [veB, decide_eq_true h, Bool.true_and]
section
variable {P : Program} {ops : Array Oper} {rest : List Oper} {o : Oper} {a : Act} {w0 w : World} {Q : Exit → Act → World → Prop} {L : List It} {F : Value → World → Prop}
theorem st_fld {t : TypeId} {x : Operand} {i : Nat} (ho : o.op = .fieldAddr t x i) {fs : Array Field} (hu : P.underlying t = some (.struct fs)) {f : Field} (hf : fs[i]? = some f) {g off : Nat} (hx : a.eval x = .pointer (some ⟨g, off, none⟩)) (k : Nat) (hk : f.offset = k) (hs : (P.info? f.type).map (fun i => decide (i.size = 0)) = some false)
    (hF : F (.pointer (some ⟨g, off + k, none⟩)) w) : St P o a w Q F := by
  refine st_run (v := .pointer (some ⟨g, off + k, none⟩)) ?_ hF
  unfold execOp
  subst hk
  obtain ⟨i0, hi, hs⟩ := Option.map_eq_some_iff.1 hs
  have hs' : i0.size ≠ 0 := of_decide_eq_false hs
  simp [ho, hx, Instr.fieldAt, Instr.sureAddr, run_underlying hu, hf, Sem.run_bind, fieldPlace, Addr.add_mid, sizeOf, typeInfo, hi, hs']
end
section
variable {P : Program} {ops : Array Oper} {rest : List Oper} {o : Oper} {a : Act} {w : World} {Q : Exit → Act → World → Prop}
/-- The address of an element, the index given. -/
theorem m_ixE (hgd : o.guard = none) {t : TypeId} {x y : Operand} (ho : o.op = .indexAddr t x y) {e : TypeId} [ht : SliceT P t e] {size bytes : Nat} {z : Value} [he : ElT P e size bytes z]
    {g off n cap : Nat} (hx : a.eval x = .slice (some ⟨g, off, none⟩) n cap) (i : Nat) (hi : i < n) (hy : a.eval y = .int .i64 (i : Int) := by first | rfl | (refine congrArg (Value.int .i64) ?_; omega))
    (k : wpList P ops Q rest (a.put o.dst (.pointer (some ⟨g, off + i * size, none⟩))) w) : wpList P ops Q (o :: rest) a w :=
  wpList_plain hgd fun _ hK => by
    have hr := ix_slice (P := P) (t := t) g off n cap i hi w
    unfold Oper.wp execOp
    simp only [ho, hx, hy, Sem.run_bind, hr, Result.andThen_ok, Sem.run_pure]
    exact hK _ _ k
end
theorem str_geqG (s t : ByteArray) (c : Bool) (h : (!(Op.bytesLess s.toList t.toList)) = c) (x y : Operand) (w : World) : Sem.run Try.prog (do eqGuard .geq 9 x y (.string s) (.string t); binOp .geq 9 (.string s) (.string t)) w = .ok (.bool c) w := by
  subst h
  go_simp
theorem str_leqG (s t : ByteArray) (c : Bool) (h : (Op.bytesLess s.toList t.toList || s.toList == t.toList) = c) (x y : Operand) (w : World) : Sem.run Try.prog (do eqGuard .leq 9 x y (.string s) (.string t); binOp .leq 9 (.string s) (.string t)) w = .ok (.bool c) w := by
  subst h
  go_simp
theorem bin_gtrI (x y : Int) (c : Bool) (h : decide (x > y) = c) (a b : Operand) (w : World) : Sem.run Try.prog (do eqGuard .gtr 3 a b (.int .i64 x) (.int .i64 y); binOp .gtr 3 (.int .i64 x) (.int .i64 y)) w = .ok (.bool c) w := by
  subst h
  go_simp
theorem bin_subI (x y z : Int) (h : IntKind.wrap .i64 (x - y) = z) (a b : Operand) (w : World) : Sem.run Try.prog (do eqGuard .sub 3 a b (.int .i64 x) (.int .i64 y); binOp .sub 3 (.int .i64 x) (.int .i64 y)) w = .ok (.int .i64 z) w := by
  go_simp
  try rw [h]

set_option maxHeartbeats 4000000 in
set_option maxRecDepth 100000 in
theorem l04Ok_c (v : Value) (n : Nat) (es : List En) (hes : es.length = n) (w : World) (hl : n ≤ 1048576) (hv : Rd w 2 v n (enL es)) : Ret Try.prog 39 #[v] w fun r _ => r = .bool (veB es) := by
  obtain ⟨b, cap, rfl⟩ := hv.shape
  have HV := Lib.hid hv
  have HK := Lib.hid hes
  refine ret_start fun wx M => ?_
  clear hv hes
  go_enter Try.func39, Try.ntmps39
  go_wp2_with fail
  go_loopg [3] n (fun q i wr => ∃ j : Nat, j + q = n ∧ i = .int .i64 (j : Int) ∧ Hid (∀ i, i < j → badE es i = false) ∧ Mem w wr [])
  case atStart => exact ⟨0, by omega, rfl, Lib.hid (fun i h => absurd h (by omega)), M⟩
  case round =>
    obtain ⟨j, hj, rfl, HT, M⟩ := hrel
    by_cases hlt : j < n
    · have hkl : j < es.length := by rw [HK.out]; exact hlt
      obtain ⟨g, o, rfl, h1⟩ := HV.out.open_ (by omega)
      have HR := Lib.hid h1
      have HJ := Lib.hid hj
      have HX : Hid (∀ wx, Up w wx → Ret Try.prog 43 #[.pointer (some ⟨g, o + j * 2, none⟩)] wx fun r _ => r = .bool (entB (es[j]'hkl).1 (es[j]'hkl).2)) := Lib.hid (fun wx hb => Ret.same (l04Entry_c g 0 (o + j * 2) _ _ wx (enL_range (h1 wx hb) j hkl 0 _ rfl) (enL_range (h1 wx hb) j hkl 1 _ rfl)))
      have HB := Lib.hid (fun h => veB_bad es j hkl h)
      have HN := Lib.hid (show badE es j = false → ∀ i, i < j + 1 → badE es i = false from fun h i hi => by
        rcases Nat.lt_or_ge i j with h2 | h2
        · exact HT.out i h2
        · obtain rfl : i = j := by omega
          exact h)
      clear h1 hj
      have HBV := HB
      cases j with
      | zero =>
        have HD := Lib.hid (badE_0 es hkl)
        generalize (es[0]'hkl) = y at *
        cases hb : entB y.1 y.2 with
        | false =>
          rw [hb] at HX HD
          have HB := Lib.hid (HB.out HD.out)
          clear hb HD HN
          go_wp2_with fail
          refine region_monoG (m := 23) mixedOrders_ (by kernel_rfl) (by kernel_rfl)
            (fun | 0 => fun vq _ => vq = .slice (some ⟨g, o, none⟩) n cap | 1 => fun vq _ => vq = .int .i64 ((0 : Nat) : Int) | 2 => fun vq _ => vq = .pointer (some ⟨g, o + 0 * 2, none⟩) | 3 => fun vq _ => vq = .bool false | 4 => fun vq _ => vq = .bool (!false) | 5 => fun vq _ => vq = .bool (!false) | 6 => fun vq _ => vq = undef | 7 => fun vq _ => vq = undef | 8 => fun vq _ => vq = undef | 9 => fun vq _ => vq = undef | 10 => fun vq _ => vq = undef | 11 => fun vq _ => vq = undef | 12 => fun vq _ => vq = undef | 13 => fun vq _ => vq = undef | 14 => fun vq _ => vq = undef | 15 => fun vq _ => vq = undef | 16 => fun vq _ => vq = undef | 17 => fun vq _ => vq = undef | 18 => fun vq _ => vq = undef | 19 => fun vq _ => vq = undef | 20 => fun vq _ => vq = undef | 21 => fun vq _ => vq = undef | 22 => fun vq _ => vq = .bool true | _ => fun _ _ => True)
            (fun wx => Mem w wx []) ?_ ?_ ?_ ?_ ?_
          · intro j hj v w1 w2 hb h
            match j, hj with
            | 0, _ => exact h
            | 1, _ => exact h
            | 2, _ => exact h
            | 3, _ => exact h
            | 4, _ => exact h
            | 5, _ => exact h
            | 6, _ => exact h
            | 7, _ => exact h
            | 8, _ => exact h
            | 9, _ => exact h
            | 10, _ => exact h
            | 11, _ => exact h
            | 12, _ => exact h
            | 13, _ => exact h
            | 14, _ => exact h
            | 15, _ => exact h
            | 16, _ => exact h
            | 17, _ => exact h
            | 18, _ => exact h
            | 19, _ => exact h
            | 20, _ => exact h
            | 21, _ => exact h
            | 22, _ => exact h
            | n + 23, h' => exact absurd h' (by omega)
          · intro w1 w2 hb h
            exact h.grow hb
          · exact M.grow ((Up.refl _).drew)
          · rintro i o hi ho av wv fr gM dep
            match i, hi with
            | 0, _ =>
              obtain rfl := Option.some.inj ho
              refine g_none rfl rfl ?_
              exact st_mov rfl (fr.eval rfl) rfl
            | 1, _ =>
              obtain rfl := Option.some.inj ho
              refine g_none rfl rfl ?_
              exact st_mov rfl (fr.eval rfl) rfl
            | 2, _ =>
              obtain rfl := Option.some.inj ho
              refine g_none rfl rfl ?_
              exact st_indexAddr rfl (dep ⟨0, .data⟩ (by simp) rfl) (dep ⟨1, .data⟩ (by simp) rfl) (ix_slice _ _ _ _ _ hlt _) rfl
            | 3, _ =>
              obtain rfl := Option.some.inj ho
              refine g_none rfl rfl ?_
              have d0 := dep ⟨2, .data⟩ (by simp) rfl
              exact st_ret1 rfl (fun _ _ => by kernel_rfl) d0 (HX.out _ gM.up) (fun r w' h _ => h)
            | 4, _ =>
              obtain rfl := Option.some.inj ho
              refine g_none rfl rfl ?_
              exact st_not rfl (dep ⟨3, .data⟩ (by simp) rfl) rfl
            | 5, _ =>
              obtain rfl := Option.some.inj ho
              refine g_none rfl rfl ?_
              exact st_mov rfl (dep ⟨4, .data⟩ (by simp) rfl) rfl
            | 6, _ =>
              obtain rfl := Option.some.inj ho
              exact g_no rfl rfl (dep ⟨5, .guard⟩ (by simp) rfl) (by decide) rfl
            | 7, _ =>
              obtain rfl := Option.some.inj ho
              exact g_no rfl rfl (dep ⟨5, .guard⟩ (by simp) rfl) (by decide) rfl
            | 8, _ =>
              obtain rfl := Option.some.inj ho
              exact g_no rfl rfl (dep ⟨5, .guard⟩ (by simp) rfl) (by decide) rfl
            | 9, _ =>
              obtain rfl := Option.some.inj ho
              exact g_no2 rfl rfl (dep ⟨8, .guard⟩ (by simp) rfl) rfl
            | 10, _ =>
              obtain rfl := Option.some.inj ho
              exact g_no2 rfl rfl (dep ⟨8, .guard⟩ (by simp) rfl) rfl
            | 11, _ =>
              obtain rfl := Option.some.inj ho
              exact g_no2 rfl rfl (dep ⟨8, .guard⟩ (by simp) rfl) rfl
            | 12, _ =>
              obtain rfl := Option.some.inj ho
              exact g_no2 rfl rfl (dep ⟨8, .guard⟩ (by simp) rfl) rfl
            | 13, _ =>
              obtain rfl := Option.some.inj ho
              exact g_no2 rfl rfl (dep ⟨8, .guard⟩ (by simp) rfl) rfl
            | 14, _ =>
              obtain rfl := Option.some.inj ho
              exact g_no2 rfl rfl (dep ⟨8, .guard⟩ (by simp) rfl) rfl
            | 15, _ =>
              obtain rfl := Option.some.inj ho
              exact g_no2 rfl rfl (dep ⟨8, .guard⟩ (by simp) rfl) rfl
            | 16, _ =>
              obtain rfl := Option.some.inj ho
              exact g_no2 rfl rfl (dep ⟨8, .guard⟩ (by simp) rfl) rfl
            | 17, _ =>
              obtain rfl := Option.some.inj ho
              exact g_no2 rfl rfl (dep ⟨8, .guard⟩ (by simp) rfl) rfl
            | 18, _ =>
              obtain rfl := Option.some.inj ho
              exact g_no2 rfl rfl (dep ⟨8, .guard⟩ (by simp) rfl) rfl
            | 19, _ =>
              obtain rfl := Option.some.inj ho
              exact g_no2 rfl rfl (dep ⟨8, .guard⟩ (by simp) rfl) rfl
            | 20, _ =>
              obtain rfl := Option.some.inj ho
              exact g_no2 rfl rfl (dep ⟨8, .guard⟩ (by simp) rfl) rfl
            | 21, _ =>
              obtain rfl := Option.some.inj ho
              exact g_no rfl rfl (dep ⟨5, .guard⟩ (by simp) rfl) (by decide) rfl
            | 22, _ =>
              obtain rfl := Option.some.inj ho
              refine g_none rfl rfl ?_
              exact st_pick rfl (dep ⟨5, .data⟩ (by simp) rfl) (rfl) (dep ⟨21, .data⟩ (by simp) rfl) rfl
            | n + 23, h' => exact absurd h' (by omega)
          · rintro vs wv gM hf
            have f0 : vs 0 = .slice (some ⟨g, o, none⟩) n cap := hf 0 (by omega)
            have f1 : vs 1 = .int .i64 ((0 : Nat) : Int) := hf 1 (by omega)
            have f2 : vs 2 = .pointer (some ⟨g, o + 0 * 2, none⟩) := hf 2 (by omega)
            have f3 : vs 3 = .bool false := hf 3 (by omega)
            have f4 : vs 4 = .bool (!false) := hf 4 (by omega)
            have f5 : vs 5 = .bool (!false) := hf 5 (by omega)
            have f6 : vs 6 = undef := hf 6 (by omega)
            have f7 : vs 7 = undef := hf 7 (by omega)
            have f8 : vs 8 = undef := hf 8 (by omega)
            have f9 : vs 9 = undef := hf 9 (by omega)
            have f10 : vs 10 = undef := hf 10 (by omega)
            have f11 : vs 11 = undef := hf 11 (by omega)
            have f12 : vs 12 = undef := hf 12 (by omega)
            have f13 : vs 13 = undef := hf 13 (by omega)
            have f14 : vs 14 = undef := hf 14 (by omega)
            have f15 : vs 15 = undef := hf 15 (by omega)
            have f16 : vs 16 = undef := hf 16 (by omega)
            have f17 : vs 17 = undef := hf 17 (by omega)
            have f18 : vs 18 = undef := hf 18 (by omega)
            have f19 : vs 19 = undef := hf 19 (by omega)
            have f20 : vs 20 = undef := hf 20 (by omega)
            have f21 : vs 21 = undef := hf 21 (by omega)
            have f22 : vs 22 = .bool true := hf 22 (by omega)
            simp only [putAll, Act.put, List.getElem?_toArray, List.getElem?_cons_zero, List.getElem?_cons_succ, Option.bind_some, List.setIfInBounds_toArray, List.set_cons_zero, List.set_cons_succ, List.drop_succ_cons, List.drop_zero, List.drop_nil, f22]
            clear f0 f1 f2 f3 f4 f5 f6 f7 f8 f9 f10 f11 f12 f13 f14 f15 f16 f17 f18 f19 f20 f21 f22 hf
            have M := gM
            clear gM
            go_wp2_with fail
            go_ret
            exact ⟨_, rfl, by rw [HB.out]; rfl, M.up⟩
        | true =>
          rw [hb] at HX HD
          have HB := Lib.hid (HN.out HD.out)
          clear hb HD HN
          go_wp2_with fail
          refine region_monoG (m := 23) mixedOrders_ (by kernel_rfl) (by kernel_rfl)
            (fun | 0 => fun vq _ => vq = .slice (some ⟨g, o, none⟩) n cap | 1 => fun vq _ => vq = .int .i64 ((0 : Nat) : Int) | 2 => fun vq _ => vq = .pointer (some ⟨g, o + 0 * 2, none⟩) | 3 => fun vq _ => vq = .bool true | 4 => fun vq _ => vq = .bool (!true) | 5 => fun vq _ => vq = .bool (!true) | 6 => fun vq _ => vq = .int .i64 ((0 : Nat) : Int) | 7 => fun vq _ => vq = .bool false | 8 => fun vq _ => vq = .bool false | 9 => fun vq _ => vq = undef | 10 => fun vq _ => vq = undef | 11 => fun vq _ => vq = undef | 12 => fun vq _ => vq = undef | 13 => fun vq _ => vq = undef | 14 => fun vq _ => vq = undef | 15 => fun vq _ => vq = undef | 16 => fun vq _ => vq = undef | 17 => fun vq _ => vq = undef | 18 => fun vq _ => vq = undef | 19 => fun vq _ => vq = undef | 20 => fun vq _ => vq = undef | 21 => fun vq _ => vq = .bool false | 22 => fun vq _ => vq = .bool false | _ => fun _ _ => True)
            (fun wx => Mem w wx []) ?_ ?_ ?_ ?_ ?_
          · intro j hj v w1 w2 hb h
            match j, hj with
            | 0, _ => exact h
            | 1, _ => exact h
            | 2, _ => exact h
            | 3, _ => exact h
            | 4, _ => exact h
            | 5, _ => exact h
            | 6, _ => exact h
            | 7, _ => exact h
            | 8, _ => exact h
            | 9, _ => exact h
            | 10, _ => exact h
            | 11, _ => exact h
            | 12, _ => exact h
            | 13, _ => exact h
            | 14, _ => exact h
            | 15, _ => exact h
            | 16, _ => exact h
            | 17, _ => exact h
            | 18, _ => exact h
            | 19, _ => exact h
            | 20, _ => exact h
            | 21, _ => exact h
            | 22, _ => exact h
            | n + 23, h' => exact absurd h' (by omega)
          · intro w1 w2 hb h
            exact h.grow hb
          · exact M.grow ((Up.refl _).drew)
          · rintro i o hi ho av wv fr gM dep
            match i, hi with
            | 0, _ =>
              obtain rfl := Option.some.inj ho
              refine g_none rfl rfl ?_
              exact st_mov rfl (fr.eval rfl) rfl
            | 1, _ =>
              obtain rfl := Option.some.inj ho
              refine g_none rfl rfl ?_
              exact st_mov rfl (fr.eval rfl) rfl
            | 2, _ =>
              obtain rfl := Option.some.inj ho
              refine g_none rfl rfl ?_
              exact st_indexAddr rfl (dep ⟨0, .data⟩ (by simp) rfl) (dep ⟨1, .data⟩ (by simp) rfl) (ix_slice _ _ _ _ _ hlt _) rfl
            | 3, _ =>
              obtain rfl := Option.some.inj ho
              refine g_none rfl rfl ?_
              have d0 := dep ⟨2, .data⟩ (by simp) rfl
              exact st_ret1 rfl (fun _ _ => by kernel_rfl) d0 (HX.out _ gM.up) (fun r w' h _ => h)
            | 4, _ =>
              obtain rfl := Option.some.inj ho
              refine g_none rfl rfl ?_
              exact st_not rfl (dep ⟨3, .data⟩ (by simp) rfl) rfl
            | 5, _ =>
              obtain rfl := Option.some.inj ho
              refine g_none rfl rfl ?_
              exact st_mov rfl (dep ⟨4, .data⟩ (by simp) rfl) rfl
            | 6, _ =>
              obtain rfl := Option.some.inj ho
              refine g_yes rfl rfl (dep ⟨5, .guard⟩ (by simp) rfl) ?_
              exact st_mov rfl (fr.eval rfl) rfl
            | 7, _ =>
              obtain rfl := Option.some.inj ho
              refine g_yes rfl rfl (dep ⟨5, .guard⟩ (by simp) rfl) ?_
              exact st_bin rfl (dep ⟨6, .data⟩ (by simp) rfl) (rfl) (bin_gtrI _ _ _ (decide_eq_false (by simp)) _ _ _) rfl
            | 8, _ =>
              obtain rfl := Option.some.inj ho
              refine g_yes rfl rfl (dep ⟨5, .guard⟩ (by simp) rfl) ?_
              exact st_mov rfl (dep ⟨7, .data⟩ (by simp) rfl) rfl
            | 9, _ =>
              obtain rfl := Option.some.inj ho
              exact g_no rfl rfl (dep ⟨8, .guard⟩ (by simp) rfl) (by decide) rfl
            | 10, _ =>
              obtain rfl := Option.some.inj ho
              exact g_no rfl rfl (dep ⟨8, .guard⟩ (by simp) rfl) (by decide) rfl
            | 11, _ =>
              obtain rfl := Option.some.inj ho
              exact g_no rfl rfl (dep ⟨8, .guard⟩ (by simp) rfl) (by decide) rfl
            | 12, _ =>
              obtain rfl := Option.some.inj ho
              exact g_no rfl rfl (dep ⟨8, .guard⟩ (by simp) rfl) (by decide) rfl
            | 13, _ =>
              obtain rfl := Option.some.inj ho
              exact g_no rfl rfl (dep ⟨8, .guard⟩ (by simp) rfl) (by decide) rfl
            | 14, _ =>
              obtain rfl := Option.some.inj ho
              exact g_no rfl rfl (dep ⟨8, .guard⟩ (by simp) rfl) (by decide) rfl
            | 15, _ =>
              obtain rfl := Option.some.inj ho
              exact g_no rfl rfl (dep ⟨8, .guard⟩ (by simp) rfl) (by decide) rfl
            | 16, _ =>
              obtain rfl := Option.some.inj ho
              exact g_no rfl rfl (dep ⟨8, .guard⟩ (by simp) rfl) (by decide) rfl
            | 17, _ =>
              obtain rfl := Option.some.inj ho
              exact g_no rfl rfl (dep ⟨8, .guard⟩ (by simp) rfl) (by decide) rfl
            | 18, _ =>
              obtain rfl := Option.some.inj ho
              exact g_no rfl rfl (dep ⟨8, .guard⟩ (by simp) rfl) (by decide) rfl
            | 19, _ =>
              obtain rfl := Option.some.inj ho
              exact g_no rfl rfl (dep ⟨8, .guard⟩ (by simp) rfl) (by decide) rfl
            | 20, _ =>
              obtain rfl := Option.some.inj ho
              exact g_no rfl rfl (dep ⟨8, .guard⟩ (by simp) rfl) (by decide) rfl
            | 21, _ =>
              obtain rfl := Option.some.inj ho
              refine g_yes rfl rfl (dep ⟨5, .guard⟩ (by simp) rfl) ?_
              exact st_pick rfl (dep ⟨8, .data⟩ (by simp) rfl) (dep ⟨20, .data⟩ (by simp) rfl) (rfl) rfl
            | 22, _ =>
              obtain rfl := Option.some.inj ho
              refine g_none rfl rfl ?_
              exact st_pick rfl (dep ⟨5, .data⟩ (by simp) rfl) (rfl) (dep ⟨21, .data⟩ (by simp) rfl) rfl
            | n + 23, h' => exact absurd h' (by omega)
          · rintro vs wv gM hf
            have f0 : vs 0 = .slice (some ⟨g, o, none⟩) n cap := hf 0 (by omega)
            have f1 : vs 1 = .int .i64 ((0 : Nat) : Int) := hf 1 (by omega)
            have f2 : vs 2 = .pointer (some ⟨g, o + 0 * 2, none⟩) := hf 2 (by omega)
            have f3 : vs 3 = .bool true := hf 3 (by omega)
            have f4 : vs 4 = .bool (!true) := hf 4 (by omega)
            have f5 : vs 5 = .bool (!true) := hf 5 (by omega)
            have f6 : vs 6 = .int .i64 ((0 : Nat) : Int) := hf 6 (by omega)
            have f7 : vs 7 = .bool false := hf 7 (by omega)
            have f8 : vs 8 = .bool false := hf 8 (by omega)
            have f9 : vs 9 = undef := hf 9 (by omega)
            have f10 : vs 10 = undef := hf 10 (by omega)
            have f11 : vs 11 = undef := hf 11 (by omega)
            have f12 : vs 12 = undef := hf 12 (by omega)
            have f13 : vs 13 = undef := hf 13 (by omega)
            have f14 : vs 14 = undef := hf 14 (by omega)
            have f15 : vs 15 = undef := hf 15 (by omega)
            have f16 : vs 16 = undef := hf 16 (by omega)
            have f17 : vs 17 = undef := hf 17 (by omega)
            have f18 : vs 18 = undef := hf 18 (by omega)
            have f19 : vs 19 = undef := hf 19 (by omega)
            have f20 : vs 20 = undef := hf 20 (by omega)
            have f21 : vs 21 = .bool false := hf 21 (by omega)
            have f22 : vs 22 = .bool false := hf 22 (by omega)
            simp only [putAll, Act.put, List.getElem?_toArray, List.getElem?_cons_zero, List.getElem?_cons_succ, Option.bind_some, List.setIfInBounds_toArray, List.set_cons_zero, List.set_cons_succ, List.drop_succ_cons, List.drop_zero, List.drop_nil, f22]
            clear f0 f1 f2 f3 f4 f5 f6 f7 f8 f9 f10 f11 f12 f13 f14 f15 f16 f17 f18 f19 f20 f21 f22 hf
            have M := gM
            clear gM
            go_wp2_with fail
            have hj := HJ.out
            go_roundg (gk - 1)
            case measure => omega
            case rel => exact ⟨0 + 1, by omega, by go_num, HB, M⟩
      | succ k =>
        have hkn : k < n := by omega
        have hk1 : ((k + 1 : Nat) : Int) - 1 = (k : Int) := by omega
        have HD := Lib.hid (badE_s es k hkl)
        have C1 := Lib.hid (fun wx (hb : Up w wx) => enL_range (HR.out wx hb) k (Nat.lt_of_succ_lt hkl))
        have C2 := Lib.hid (fun wx (hb : Up w wx) => enL_range (HR.out wx hb) (k + 1) hkl)
        generalize (es[k + 1]'hkl) = y at *
        generalize (es[k]'_) = x at *
        cases hb : entB y.1 y.2 with
        | false =>
          rw [hb] at HX HD
          have HB := Lib.hid (HB.out HD.out)
          clear hb HD HN
          go_wp2_with fail
          refine region_monoG (m := 23) mixedOrders_ (by kernel_rfl) (by kernel_rfl)
            (fun | 0 => fun vq _ => vq = .slice (some ⟨g, o, none⟩) n cap | 1 => fun vq _ => vq = .int .i64 ((k + 1 : Nat) : Int) | 2 => fun vq _ => vq = .pointer (some ⟨g, o + (k + 1) * 2, none⟩) | 3 => fun vq _ => vq = .bool false | 4 => fun vq _ => vq = .bool (!false) | 5 => fun vq _ => vq = .bool (!false) | 6 => fun vq _ => vq = undef | 7 => fun vq _ => vq = undef | 8 => fun vq _ => vq = undef | 9 => fun vq _ => vq = undef | 10 => fun vq _ => vq = undef | 11 => fun vq _ => vq = undef | 12 => fun vq _ => vq = undef | 13 => fun vq _ => vq = undef | 14 => fun vq _ => vq = undef | 15 => fun vq _ => vq = undef | 16 => fun vq _ => vq = undef | 17 => fun vq _ => vq = undef | 18 => fun vq _ => vq = undef | 19 => fun vq _ => vq = undef | 20 => fun vq _ => vq = undef | 21 => fun vq _ => vq = undef | 22 => fun vq _ => vq = .bool true | _ => fun _ _ => True)
            (fun wx => Mem w wx []) ?_ ?_ ?_ ?_ ?_
          · intro j hj v w1 w2 hb h
            match j, hj with
            | 0, _ => exact h
            | 1, _ => exact h
            | 2, _ => exact h
            | 3, _ => exact h
            | 4, _ => exact h
            | 5, _ => exact h
            | 6, _ => exact h
            | 7, _ => exact h
            | 8, _ => exact h
            | 9, _ => exact h
            | 10, _ => exact h
            | 11, _ => exact h
            | 12, _ => exact h
            | 13, _ => exact h
            | 14, _ => exact h
            | 15, _ => exact h
            | 16, _ => exact h
            | 17, _ => exact h
            | 18, _ => exact h
            | 19, _ => exact h
            | 20, _ => exact h
            | 21, _ => exact h
            | 22, _ => exact h
            | n + 23, h' => exact absurd h' (by omega)
          · intro w1 w2 hb h
            exact h.grow hb
          · exact M.grow ((Up.refl _).drew)
          · rintro i o hi ho av wv fr gM dep
            match i, hi with
            | 0, _ =>
              obtain rfl := Option.some.inj ho
              refine g_none rfl rfl ?_
              exact st_mov rfl (fr.eval rfl) rfl
            | 1, _ =>
              obtain rfl := Option.some.inj ho
              refine g_none rfl rfl ?_
              exact st_mov rfl (fr.eval rfl) rfl
            | 2, _ =>
              obtain rfl := Option.some.inj ho
              refine g_none rfl rfl ?_
              exact st_indexAddr rfl (dep ⟨0, .data⟩ (by simp) rfl) (dep ⟨1, .data⟩ (by simp) rfl) (ix_slice _ _ _ _ _ hlt _) rfl
            | 3, _ =>
              obtain rfl := Option.some.inj ho
              refine g_none rfl rfl ?_
              have d0 := dep ⟨2, .data⟩ (by simp) rfl
              exact st_ret1 rfl (fun _ _ => by kernel_rfl) d0 (HX.out _ gM.up) (fun r w' h _ => h)
            | 4, _ =>
              obtain rfl := Option.some.inj ho
              refine g_none rfl rfl ?_
              exact st_not rfl (dep ⟨3, .data⟩ (by simp) rfl) rfl
            | 5, _ =>
              obtain rfl := Option.some.inj ho
              refine g_none rfl rfl ?_
              exact st_mov rfl (dep ⟨4, .data⟩ (by simp) rfl) rfl
            | 6, _ =>
              obtain rfl := Option.some.inj ho
              exact g_no rfl rfl (dep ⟨5, .guard⟩ (by simp) rfl) (by decide) rfl
            | 7, _ =>
              obtain rfl := Option.some.inj ho
              exact g_no rfl rfl (dep ⟨5, .guard⟩ (by simp) rfl) (by decide) rfl
            | 8, _ =>
              obtain rfl := Option.some.inj ho
              exact g_no rfl rfl (dep ⟨5, .guard⟩ (by simp) rfl) (by decide) rfl
            | 9, _ =>
              obtain rfl := Option.some.inj ho
              exact g_no2 rfl rfl (dep ⟨8, .guard⟩ (by simp) rfl) rfl
            | 10, _ =>
              obtain rfl := Option.some.inj ho
              exact g_no2 rfl rfl (dep ⟨8, .guard⟩ (by simp) rfl) rfl
            | 11, _ =>
              obtain rfl := Option.some.inj ho
              exact g_no2 rfl rfl (dep ⟨8, .guard⟩ (by simp) rfl) rfl
            | 12, _ =>
              obtain rfl := Option.some.inj ho
              exact g_no2 rfl rfl (dep ⟨8, .guard⟩ (by simp) rfl) rfl
            | 13, _ =>
              obtain rfl := Option.some.inj ho
              exact g_no2 rfl rfl (dep ⟨8, .guard⟩ (by simp) rfl) rfl
            | 14, _ =>
              obtain rfl := Option.some.inj ho
              exact g_no2 rfl rfl (dep ⟨8, .guard⟩ (by simp) rfl) rfl
            | 15, _ =>
              obtain rfl := Option.some.inj ho
              exact g_no2 rfl rfl (dep ⟨8, .guard⟩ (by simp) rfl) rfl
            | 16, _ =>
              obtain rfl := Option.some.inj ho
              exact g_no2 rfl rfl (dep ⟨8, .guard⟩ (by simp) rfl) rfl
            | 17, _ =>
              obtain rfl := Option.some.inj ho
              exact g_no2 rfl rfl (dep ⟨8, .guard⟩ (by simp) rfl) rfl
            | 18, _ =>
              obtain rfl := Option.some.inj ho
              exact g_no2 rfl rfl (dep ⟨8, .guard⟩ (by simp) rfl) rfl
            | 19, _ =>
              obtain rfl := Option.some.inj ho
              exact g_no2 rfl rfl (dep ⟨8, .guard⟩ (by simp) rfl) rfl
            | 20, _ =>
              obtain rfl := Option.some.inj ho
              exact g_no2 rfl rfl (dep ⟨8, .guard⟩ (by simp) rfl) rfl
            | 21, _ =>
              obtain rfl := Option.some.inj ho
              exact g_no rfl rfl (dep ⟨5, .guard⟩ (by simp) rfl) (by decide) rfl
            | 22, _ =>
              obtain rfl := Option.some.inj ho
              refine g_none rfl rfl ?_
              exact st_pick rfl (dep ⟨5, .data⟩ (by simp) rfl) (rfl) (dep ⟨21, .data⟩ (by simp) rfl) rfl
            | n + 23, h' => exact absurd h' (by omega)
          · rintro vs wv gM hf
            have f0 : vs 0 = .slice (some ⟨g, o, none⟩) n cap := hf 0 (by omega)
            have f1 : vs 1 = .int .i64 ((k + 1 : Nat) : Int) := hf 1 (by omega)
            have f2 : vs 2 = .pointer (some ⟨g, o + (k + 1) * 2, none⟩) := hf 2 (by omega)
            have f3 : vs 3 = .bool false := hf 3 (by omega)
            have f4 : vs 4 = .bool (!false) := hf 4 (by omega)
            have f5 : vs 5 = .bool (!false) := hf 5 (by omega)
            have f6 : vs 6 = undef := hf 6 (by omega)
            have f7 : vs 7 = undef := hf 7 (by omega)
            have f8 : vs 8 = undef := hf 8 (by omega)
            have f9 : vs 9 = undef := hf 9 (by omega)
            have f10 : vs 10 = undef := hf 10 (by omega)
            have f11 : vs 11 = undef := hf 11 (by omega)
            have f12 : vs 12 = undef := hf 12 (by omega)
            have f13 : vs 13 = undef := hf 13 (by omega)
            have f14 : vs 14 = undef := hf 14 (by omega)
            have f15 : vs 15 = undef := hf 15 (by omega)
            have f16 : vs 16 = undef := hf 16 (by omega)
            have f17 : vs 17 = undef := hf 17 (by omega)
            have f18 : vs 18 = undef := hf 18 (by omega)
            have f19 : vs 19 = undef := hf 19 (by omega)
            have f20 : vs 20 = undef := hf 20 (by omega)
            have f21 : vs 21 = undef := hf 21 (by omega)
            have f22 : vs 22 = .bool true := hf 22 (by omega)
            simp only [putAll, Act.put, List.getElem?_toArray, List.getElem?_cons_zero, List.getElem?_cons_succ, Option.bind_some, List.setIfInBounds_toArray, List.set_cons_zero, List.set_cons_succ, List.drop_succ_cons, List.drop_zero, List.drop_nil, f22]
            clear f0 f1 f2 f3 f4 f5 f6 f7 f8 f9 f10 f11 f12 f13 f14 f15 f16 f17 f18 f19 f20 f21 f22 hf
            have M := gM
            clear gM
            go_wp2_with fail
            go_ret
            exact ⟨_, rfl, by rw [HB.out]; rfl, M.up⟩
        | true =>
          rw [hb, Bool.not_true, Bool.false_or] at HD
          rw [hb] at HX
          obtain ⟨c, hc⟩ : ∃ c, (!(Op.bytesLess x.1.toList y.1.toList)) = c := ⟨_, rfl⟩
          have HC := Lib.hid hc
          rw [hc] at HD
          clear hb hc
          go_wp2_with fail
          refine region_monoG (m := 23) mixedOrders_ (by kernel_rfl) (by kernel_rfl)
            (fun | 0 => fun vq _ => vq = .slice (some ⟨g, o, none⟩) n cap | 1 => fun vq _ => vq = .int .i64 ((k + 1 : Nat) : Int) | 2 => fun vq _ => vq = .pointer (some ⟨g, o + (k + 1) * 2, none⟩) | 3 => fun vq _ => vq = .bool true | 4 => fun vq _ => vq = .bool (!true) | 5 => fun vq _ => vq = .bool (!true) | 6 => fun vq _ => vq = .int .i64 ((k + 1 : Nat) : Int) | 7 => fun vq _ => vq = .bool true | 8 => fun vq _ => vq = .bool true | 9 => fun vq _ => vq = .slice (some ⟨g, o, none⟩) n cap | 10 => fun vq _ => vq = .int .i64 ((k + 1 : Nat) : Int) | 11 => fun vq _ => vq = .int .i64 (k : Int) | 12 => fun vq _ => vq = .pointer (some ⟨g, o + k * 2, none⟩) | 13 => fun vq _ => vq = .pointer (some ⟨g, o + k * 2, none⟩) | 14 => fun vq _ => vq = .string x.1 | 15 => fun vq _ => vq = .slice (some ⟨g, o, none⟩) n cap | 16 => fun vq _ => vq = .int .i64 ((k + 1 : Nat) : Int) | 17 => fun vq _ => vq = .pointer (some ⟨g, o + (k + 1) * 2, none⟩) | 18 => fun vq _ => vq = .pointer (some ⟨g, o + (k + 1) * 2, none⟩) | 19 => fun vq _ => vq = .string y.1 | 20 => fun vq _ => vq = .bool c | 21 => fun vq _ => vq = .bool c | 22 => fun vq _ => vq = .bool c | _ => fun _ _ => True)
            (fun wx => Mem w wx []) ?_ ?_ ?_ ?_ ?_
          · intro j hj v w1 w2 hb h
            match j, hj with
            | 0, _ => exact h
            | 1, _ => exact h
            | 2, _ => exact h
            | 3, _ => exact h
            | 4, _ => exact h
            | 5, _ => exact h
            | 6, _ => exact h
            | 7, _ => exact h
            | 8, _ => exact h
            | 9, _ => exact h
            | 10, _ => exact h
            | 11, _ => exact h
            | 12, _ => exact h
            | 13, _ => exact h
            | 14, _ => exact h
            | 15, _ => exact h
            | 16, _ => exact h
            | 17, _ => exact h
            | 18, _ => exact h
            | 19, _ => exact h
            | 20, _ => exact h
            | 21, _ => exact h
            | 22, _ => exact h
            | n + 23, h' => exact absurd h' (by omega)
          · intro w1 w2 hb h
            exact h.grow hb
          · exact M.grow ((Up.refl _).drew)
          · rintro i o hi ho av wv fr gM dep
            match i, hi with
            | 0, _ =>
              obtain rfl := Option.some.inj ho
              refine g_none rfl rfl ?_
              exact st_mov rfl (fr.eval rfl) rfl
            | 1, _ =>
              obtain rfl := Option.some.inj ho
              refine g_none rfl rfl ?_
              exact st_mov rfl (fr.eval rfl) rfl
            | 2, _ =>
              obtain rfl := Option.some.inj ho
              refine g_none rfl rfl ?_
              exact st_indexAddr rfl (dep ⟨0, .data⟩ (by simp) rfl) (dep ⟨1, .data⟩ (by simp) rfl) (ix_slice _ _ _ _ _ hlt _) rfl
            | 3, _ =>
              obtain rfl := Option.some.inj ho
              refine g_none rfl rfl ?_
              have d0 := dep ⟨2, .data⟩ (by simp) rfl
              exact st_ret1 rfl (fun _ _ => by kernel_rfl) d0 (HX.out _ gM.up) (fun r w' h _ => h)
            | 4, _ =>
              obtain rfl := Option.some.inj ho
              refine g_none rfl rfl ?_
              exact st_not rfl (dep ⟨3, .data⟩ (by simp) rfl) rfl
            | 5, _ =>
              obtain rfl := Option.some.inj ho
              refine g_none rfl rfl ?_
              exact st_mov rfl (dep ⟨4, .data⟩ (by simp) rfl) rfl
            | 6, _ =>
              obtain rfl := Option.some.inj ho
              refine g_yes rfl rfl (dep ⟨5, .guard⟩ (by simp) rfl) ?_
              exact st_mov rfl (fr.eval rfl) rfl
            | 7, _ =>
              obtain rfl := Option.some.inj ho
              refine g_yes rfl rfl (dep ⟨5, .guard⟩ (by simp) rfl) ?_
              exact st_bin rfl (dep ⟨6, .data⟩ (by simp) rfl) (rfl) (bin_gtrI _ _ _ (decide_eq_true (by omega)) _ _ _) rfl
            | 8, _ =>
              obtain rfl := Option.some.inj ho
              refine g_yes rfl rfl (dep ⟨5, .guard⟩ (by simp) rfl) ?_
              exact st_mov rfl (dep ⟨7, .data⟩ (by simp) rfl) rfl
            | 9, _ =>
              obtain rfl := Option.some.inj ho
              refine g_yes rfl rfl (dep ⟨8, .guard⟩ (by simp) rfl) ?_
              exact st_mov rfl (fr.eval rfl) rfl
            | 10, _ =>
              obtain rfl := Option.some.inj ho
              refine g_yes rfl rfl (dep ⟨8, .guard⟩ (by simp) rfl) ?_
              exact st_mov rfl (fr.eval rfl) rfl
            | 11, _ =>
              obtain rfl := Option.some.inj ho
              refine g_yes rfl rfl (dep ⟨8, .guard⟩ (by simp) rfl) ?_
              exact st_bin rfl (dep ⟨10, .data⟩ (by simp) rfl) (rfl) (bin_subI _ _ _ (by rw [hk1]; exact i64_in_ _ (by omega)) _ _ _) rfl
            | 12, _ =>
              obtain rfl := Option.some.inj ho
              refine g_yes rfl rfl (dep ⟨8, .guard⟩ (by simp) rfl) ?_
              exact st_indexAddr rfl (dep ⟨9, .data⟩ (by simp) rfl) (dep ⟨11, .data⟩ (by simp) rfl) (ix_slice _ _ _ _ _ hkn _) rfl
            | 13, _ =>
              obtain rfl := Option.some.inj ho
              refine g_yes rfl rfl (dep ⟨8, .guard⟩ (by simp) rfl) ?_
              exact st_fld rfl Try.underlying37 rfl (dep ⟨12, .data⟩ (by simp) rfl) 0 rfl (by kernel_rfl) rfl
            | 14, _ =>
              obtain rfl := Option.some.inj ho
              refine g_yes rfl rfl (dep ⟨8, .guard⟩ (by simp) rfl) ?_
              exact st_load1 rfl (dep ⟨13, .data⟩ (by simp) rfl) (C1.out _ gM.up 0 _ rfl) rfl
            | 15, _ =>
              obtain rfl := Option.some.inj ho
              refine g_yes rfl rfl (dep ⟨8, .guard⟩ (by simp) rfl) ?_
              exact st_mov rfl (fr.eval rfl) rfl
            | 16, _ =>
              obtain rfl := Option.some.inj ho
              refine g_yes rfl rfl (dep ⟨8, .guard⟩ (by simp) rfl) ?_
              exact st_mov rfl (fr.eval rfl) rfl
            | 17, _ =>
              obtain rfl := Option.some.inj ho
              refine g_yes rfl rfl (dep ⟨8, .guard⟩ (by simp) rfl) ?_
              exact st_indexAddr rfl (dep ⟨15, .data⟩ (by simp) rfl) (dep ⟨16, .data⟩ (by simp) rfl) (ix_slice _ _ _ _ _ hlt _) rfl
            | 18, _ =>
              obtain rfl := Option.some.inj ho
              refine g_yes rfl rfl (dep ⟨8, .guard⟩ (by simp) rfl) ?_
              exact st_fld rfl Try.underlying37 rfl (dep ⟨17, .data⟩ (by simp) rfl) 0 rfl (by kernel_rfl) rfl
            | 19, _ =>
              obtain rfl := Option.some.inj ho
              refine g_yes rfl rfl (dep ⟨8, .guard⟩ (by simp) rfl) ?_
              exact st_load1 rfl (dep ⟨18, .data⟩ (by simp) rfl) (C2.out _ gM.up 0 _ rfl) rfl
            | 20, _ =>
              obtain rfl := Option.some.inj ho
              refine g_yes rfl rfl (dep ⟨8, .guard⟩ (by simp) rfl) ?_
              exact st_bin rfl (dep ⟨14, .data⟩ (by simp) rfl) (dep ⟨19, .data⟩ (by simp) rfl) (str_geqG x.1 y.1 c HC.out _ _ _) rfl
            | 21, _ =>
              obtain rfl := Option.some.inj ho
              refine g_yes rfl rfl (dep ⟨5, .guard⟩ (by simp) rfl) ?_
              exact st_pick rfl (dep ⟨8, .data⟩ (by simp) rfl) (dep ⟨20, .data⟩ (by simp) rfl) (rfl) rfl
            | 22, _ =>
              obtain rfl := Option.some.inj ho
              refine g_none rfl rfl ?_
              exact st_pick rfl (dep ⟨5, .data⟩ (by simp) rfl) (rfl) (dep ⟨21, .data⟩ (by simp) rfl) rfl
            | n + 23, h' => exact absurd h' (by omega)
          · rintro vs wv gM hf
            have f0 : vs 0 = .slice (some ⟨g, o, none⟩) n cap := hf 0 (by omega)
            have f1 : vs 1 = .int .i64 ((k + 1 : Nat) : Int) := hf 1 (by omega)
            have f2 : vs 2 = .pointer (some ⟨g, o + (k + 1) * 2, none⟩) := hf 2 (by omega)
            have f3 : vs 3 = .bool true := hf 3 (by omega)
            have f4 : vs 4 = .bool (!true) := hf 4 (by omega)
            have f5 : vs 5 = .bool (!true) := hf 5 (by omega)
            have f6 : vs 6 = .int .i64 ((k + 1 : Nat) : Int) := hf 6 (by omega)
            have f7 : vs 7 = .bool true := hf 7 (by omega)
            have f8 : vs 8 = .bool true := hf 8 (by omega)
            have f9 : vs 9 = .slice (some ⟨g, o, none⟩) n cap := hf 9 (by omega)
            have f10 : vs 10 = .int .i64 ((k + 1 : Nat) : Int) := hf 10 (by omega)
            have f11 : vs 11 = .int .i64 (k : Int) := hf 11 (by omega)
            have f12 : vs 12 = .pointer (some ⟨g, o + k * 2, none⟩) := hf 12 (by omega)
            have f13 : vs 13 = .pointer (some ⟨g, o + k * 2, none⟩) := hf 13 (by omega)
            have f14 : vs 14 = .string x.1 := hf 14 (by omega)
            have f15 : vs 15 = .slice (some ⟨g, o, none⟩) n cap := hf 15 (by omega)
            have f16 : vs 16 = .int .i64 ((k + 1 : Nat) : Int) := hf 16 (by omega)
            have f17 : vs 17 = .pointer (some ⟨g, o + (k + 1) * 2, none⟩) := hf 17 (by omega)
            have f18 : vs 18 = .pointer (some ⟨g, o + (k + 1) * 2, none⟩) := hf 18 (by omega)
            have f19 : vs 19 = .string y.1 := hf 19 (by omega)
            have f20 : vs 20 = .bool c := hf 20 (by omega)
            have f21 : vs 21 = .bool c := hf 21 (by omega)
            have f22 : vs 22 = .bool c := hf 22 (by omega)
            simp only [putAll, Act.put, List.getElem?_toArray, List.getElem?_cons_zero, List.getElem?_cons_succ, Option.bind_some, List.setIfInBounds_toArray, List.set_cons_zero, List.set_cons_succ, List.drop_succ_cons, List.drop_zero, List.drop_nil, f22]
            clear f0 f1 f2 f3 f4 f5 f6 f7 f8 f9 f10 f11 f12 f13 f14 f15 f16 f17 f18 f19 f20 f21 f22 hf
            have M := gM
            clear gM
            cases c with
            | true =>
              have HB := Lib.hid (HB.out HD.out)
              clear HD HN
              go_wp2_with fail
              go_ret
              exact ⟨_, rfl, by rw [HB.out]; rfl, M.up⟩
            | false =>
              have HB := Lib.hid (HN.out HD.out)
              clear HD HN
              go_wp2_with fail
              have hj := HJ.out
              go_roundg (gk - 1)
              case measure => omega
              case rel => exact ⟨k + 1 + 1, by omega, by go_num, HB, M⟩
    · obtain rfl : j = n := by omega
      have HE := Lib.hid (veB_good es j HK.out HT.out)
      clear hj hlt
      go_wp2_with fail
      go_ret
      exact ⟨_, rfl, by rw [HE.out]; go_num, M.up⟩

theorem validEntry_r (e : En) (w : World) : Ret Try.prog 40 #[.agg (entC e.1 e.2)] w fun r _ => r = .bool (entB e.1 e.2) := Ret.of (implValidEntry_c e.1 e.2 w)
set_option maxHeartbeats 4000000 in
set_option maxRecDepth 100000 in
theorem implValidEntries_c (v : Value) (n : Nat) (es : List En) (hes : es.length = n) (w : World) (hl : n ≤ 1048576) (hv : Rd w 2 v n (enL es)) : Ret Try.prog 16 #[v] w fun r _ => r = .bool (veB es) := by
  obtain ⟨b, cap, rfl⟩ := hv.shape
  have HV := Lib.hid hv
  have HK := Lib.hid hes
  refine ret_start fun wx M => ?_
  clear hv hes
  go_enter Try.func16, Try.ntmps16
  go_wp2_with fail
  go_loopg [7] n (fun q i wr => ∃ j : Nat, j + q = n ∧ i = .int .i64 (j : Int) ∧ Hid (∀ i, i < j → badE es i = false) ∧ Mem w wr [])
  case atStart => exact ⟨0, by omega, rfl, Lib.hid (fun i h => absurd h (by omega)), M⟩
  case round =>
    obtain ⟨j, hj, rfl, HT, M⟩ := hrel
    by_cases hlt : j < n
    · have hkl : j < es.length := by rw [HK.out]; exact hlt
      obtain ⟨g, o, rfl, h1⟩ := HV.out.open_ (by omega)
      have HR := Lib.hid h1
      have HJ := Lib.hid hj
      have C0 := Lib.hid (fun wx (hb : Up w wx) => enL_range (h1 wx hb) j hkl)
      have HB := Lib.hid (fun h => veB_bad es j hkl h)
      have HN := Lib.hid (show badE es j = false → ∀ i, i < j + 1 → badE es i = false from fun h i hi => by
        rcases Nat.lt_or_ge i j with h2 | h2
        · exact HT.out i h2
        · obtain rfl : i = j := by omega
          exact h)
      clear h1 hj
      cases j with
      | zero =>
        have HD := Lib.hid (badE_0 es hkl)
        generalize (es[0]'hkl) = y at *
        cases hb : entB y.1 y.2 with
        | false =>
          have HEB := Lib.hid hb
          rw [hb] at HD
          have HB := Lib.hid (HB.out HD.out)
          clear hb HD HN
          go_wp2_with (first
            | (with_reducible (show wpList _ _ _ (Oper.mk _ (.indexAddr _ _ _) _ _ _ _ :: _) _ _); refine m_ixE rfl rfl rfl 0 hlt rfl ?_)
            | (with_reducible (show wpList _ _ _ (Oper.mk (some 4) (.alloc _) _ _ _ _ :: _) _ _); refine mem_new M rfl rfl ?_; clear M; (try clear wx); intro g4 wx M)
            | (with_reducible (show wpList _ _ _ (Oper.mk _ (.load _ _) _ _ _ _ :: _) _ _); (first | (refine rd_loadE rfl rfl rfl (C0.out _ M.up) ?_) | (refine m_load M rfl rfl rfl (by first | assumption | rfl) ?_) | (refine m_loadR M rfl rfl rfl (by first | rfl | assumption | (simp; done) | (simp; omega)) ?_)))
            | (with_reducible (show wpList _ _ _ (Oper.mk _ (.store _ _ _) _ _ _ _ :: _) _ _); (first | (refine m_storeR M rfl rfl rfl rfl (by first | rfl | assumption | (simp; done) | (simp; omega)) (by first | rfl | assumption | (simp; done) | (simp; omega)) (entC_one _) ?_) | (refine m_store (v := Value.int _ _) M rfl rfl rfl rfl rfl (by first | assumption | (simp; done) | (simp; omega)) ?_) | (refine m_store (v := Value.slice _ _ _) M rfl rfl rfl rfl rfl (by first | assumption | (simp; done) | (simp; omega)) ?_) | (refine m_store (v := Value.bool _) M rfl rfl rfl rfl rfl (by first | assumption | (simp; done) | (simp; omega)) ?_) | (refine m_store (v := Value.string _) M rfl rfl rfl rfl rfl (by first | assumption | (simp; done) | (simp; omega)) ?_) | (refine m_store (v := Value.pointer _) M rfl rfl rfl rfl rfl (by first | assumption | (simp; done) | (simp; omega)) ?_)); clear M; (try clear wx); intro wx M; simp only [List.set_cons_zero, List.set_cons_succ, Nat.zero_add, List.nil_append] at M))
          refine region_monoG (m := 18) mixedOrders_ (by kernel_rfl) (by kernel_rfl)
            (fun | 0 => fun vq _ => vq = .agg (entC y.1 y.2) | 1 => fun vq _ => vq = .bool false | 2 => fun vq _ => vq = .bool (!false) | 3 => fun vq _ => vq = .bool (!false) | 4 => fun vq _ => vq = undef | 5 => fun vq _ => vq = undef | 6 => fun vq _ => vq = undef | 7 => fun vq _ => vq = undef | 8 => fun vq _ => vq = undef | 9 => fun vq _ => vq = undef | 10 => fun vq _ => vq = undef | 11 => fun vq _ => vq = undef | 12 => fun vq _ => vq = undef | 13 => fun vq _ => vq = undef | 14 => fun vq _ => vq = undef | 15 => fun vq _ => vq = undef | 16 => fun vq _ => vq = undef | 17 => fun vq _ => vq = .bool true | _ => fun _ _ => True)
            (fun wx => Mem w wx [.blk g4 37 (entC y.1 y.2)]) ?_ ?_ ?_ ?_ ?_
          · intro j hj v w1 w2 hb h
            match j, hj with
            | 0, _ => exact h
            | 1, _ => exact h
            | 2, _ => exact h
            | 3, _ => exact h
            | 4, _ => exact h
            | 5, _ => exact h
            | 6, _ => exact h
            | 7, _ => exact h
            | 8, _ => exact h
            | 9, _ => exact h
            | 10, _ => exact h
            | 11, _ => exact h
            | 12, _ => exact h
            | 13, _ => exact h
            | 14, _ => exact h
            | 15, _ => exact h
            | 16, _ => exact h
            | 17, _ => exact h
            | n + 18, h' => exact absurd h' (by omega)
          · intro w1 w2 hb h
            exact h.grow hb
          · exact M.grow ((Up.refl _).drew)
          · rintro i o hi ho av wv fr gM dep
            match i, hi with
            | 0, _ =>
              obtain rfl := Option.some.inj ho
              refine g_none rfl rfl ?_
              exact st_loadG gM rfl (fr.eval rfl) rfl rfl
            | 1, _ =>
              obtain rfl := Option.some.inj ho
              refine g_none rfl rfl ?_
              have d0 := dep ⟨0, .data⟩ (by simp) rfl
              exact st_ret1 rfl (fun _ _ => by kernel_rfl) d0 (by have := validEntry_r y wv; rw [HEB.out] at this; exact this) (fun r w' h _ => h)
            | 2, _ =>
              obtain rfl := Option.some.inj ho
              refine g_none rfl rfl ?_
              exact st_not rfl (dep ⟨1, .data⟩ (by simp) rfl) rfl
            | 3, _ =>
              obtain rfl := Option.some.inj ho
              refine g_none rfl rfl ?_
              exact st_mov rfl (dep ⟨2, .data⟩ (by simp) rfl) rfl
            | 4, _ =>
              obtain rfl := Option.some.inj ho
              exact g_no rfl rfl (dep ⟨3, .guard⟩ (by simp) rfl) (by decide) rfl
            | 5, _ =>
              obtain rfl := Option.some.inj ho
              exact g_no rfl rfl (dep ⟨3, .guard⟩ (by simp) rfl) (by decide) rfl
            | 6, _ =>
              obtain rfl := Option.some.inj ho
              exact g_no rfl rfl (dep ⟨3, .guard⟩ (by simp) rfl) (by decide) rfl
            | 7, _ =>
              obtain rfl := Option.some.inj ho
              exact g_no2 rfl rfl (dep ⟨6, .guard⟩ (by simp) rfl) rfl
            | 8, _ =>
              obtain rfl := Option.some.inj ho
              exact g_no2 rfl rfl (dep ⟨6, .guard⟩ (by simp) rfl) rfl
            | 9, _ =>
              obtain rfl := Option.some.inj ho
              exact g_no2 rfl rfl (dep ⟨6, .guard⟩ (by simp) rfl) rfl
            | 10, _ =>
              obtain rfl := Option.some.inj ho
              exact g_no2 rfl rfl (dep ⟨6, .guard⟩ (by simp) rfl) rfl
            | 11, _ =>
              obtain rfl := Option.some.inj ho
              exact g_no2 rfl rfl (dep ⟨6, .guard⟩ (by simp) rfl) rfl
            | 12, _ =>
              obtain rfl := Option.some.inj ho
              exact g_no2 rfl rfl (dep ⟨6, .guard⟩ (by simp) rfl) rfl
            | 13, _ =>
              obtain rfl := Option.some.inj ho
              exact g_no2 rfl rfl (dep ⟨6, .guard⟩ (by simp) rfl) rfl
            | 14, _ =>
              obtain rfl := Option.some.inj ho
              exact g_no2 rfl rfl (dep ⟨6, .guard⟩ (by simp) rfl) rfl
            | 15, _ =>
              obtain rfl := Option.some.inj ho
              exact g_no2 rfl rfl (dep ⟨6, .guard⟩ (by simp) rfl) rfl
            | 16, _ =>
              obtain rfl := Option.some.inj ho
              exact g_no rfl rfl (dep ⟨3, .guard⟩ (by simp) rfl) (by decide) rfl
            | 17, _ =>
              obtain rfl := Option.some.inj ho
              refine g_none rfl rfl ?_
              exact st_pick rfl (dep ⟨3, .data⟩ (by simp) rfl) (rfl) (dep ⟨16, .data⟩ (by simp) rfl) rfl
            | n + 18, h' => exact absurd h' (by omega)
          · rintro vs wv gM hf
            have f0 : vs 0 = .agg (entC y.1 y.2) := hf 0 (by omega)
            have f1 : vs 1 = .bool false := hf 1 (by omega)
            have f2 : vs 2 = .bool (!false) := hf 2 (by omega)
            have f3 : vs 3 = .bool (!false) := hf 3 (by omega)
            have f4 : vs 4 = undef := hf 4 (by omega)
            have f5 : vs 5 = undef := hf 5 (by omega)
            have f6 : vs 6 = undef := hf 6 (by omega)
            have f7 : vs 7 = undef := hf 7 (by omega)
            have f8 : vs 8 = undef := hf 8 (by omega)
            have f9 : vs 9 = undef := hf 9 (by omega)
            have f10 : vs 10 = undef := hf 10 (by omega)
            have f11 : vs 11 = undef := hf 11 (by omega)
            have f12 : vs 12 = undef := hf 12 (by omega)
            have f13 : vs 13 = undef := hf 13 (by omega)
            have f14 : vs 14 = undef := hf 14 (by omega)
            have f15 : vs 15 = undef := hf 15 (by omega)
            have f16 : vs 16 = undef := hf 16 (by omega)
            have f17 : vs 17 = .bool true := hf 17 (by omega)
            simp only [putAll, Act.put, List.getElem?_toArray, List.getElem?_cons_zero, List.getElem?_cons_succ, Option.bind_some, List.setIfInBounds_toArray, List.set_cons_zero, List.set_cons_succ, List.drop_succ_cons, List.drop_zero, List.drop_nil, f17]
            clear f0 f1 f2 f3 f4 f5 f6 f7 f8 f9 f10 f11 f12 f13 f14 f15 f16 f17 hf
            have M := gM.tail
            clear gM
            go_wp2_with fail
            go_ret
            exact ⟨_, rfl, by rw [HB.out]; rfl, M.up⟩
        | true =>
          have HEB := Lib.hid hb
          rw [hb] at HD
          have HB := Lib.hid (HN.out HD.out)
          clear hb HD HN
          go_wp2_with (first
            | (with_reducible (show wpList _ _ _ (Oper.mk _ (.indexAddr _ _ _) _ _ _ _ :: _) _ _); refine m_ixE rfl rfl rfl 0 hlt rfl ?_)
            | (with_reducible (show wpList _ _ _ (Oper.mk (some 4) (.alloc _) _ _ _ _ :: _) _ _); refine mem_new M rfl rfl ?_; clear M; (try clear wx); intro g4 wx M)
            | (with_reducible (show wpList _ _ _ (Oper.mk _ (.load _ _) _ _ _ _ :: _) _ _); (first | (refine rd_loadE rfl rfl rfl (C0.out _ M.up) ?_) | (refine m_load M rfl rfl rfl (by first | assumption | rfl) ?_) | (refine m_loadR M rfl rfl rfl (by first | rfl | assumption | (simp; done) | (simp; omega)) ?_)))
            | (with_reducible (show wpList _ _ _ (Oper.mk _ (.store _ _ _) _ _ _ _ :: _) _ _); (first | (refine m_storeR M rfl rfl rfl rfl (by first | rfl | assumption | (simp; done) | (simp; omega)) (by first | rfl | assumption | (simp; done) | (simp; omega)) (entC_one _) ?_) | (refine m_store (v := Value.int _ _) M rfl rfl rfl rfl rfl (by first | assumption | (simp; done) | (simp; omega)) ?_) | (refine m_store (v := Value.slice _ _ _) M rfl rfl rfl rfl rfl (by first | assumption | (simp; done) | (simp; omega)) ?_) | (refine m_store (v := Value.bool _) M rfl rfl rfl rfl rfl (by first | assumption | (simp; done) | (simp; omega)) ?_) | (refine m_store (v := Value.string _) M rfl rfl rfl rfl rfl (by first | assumption | (simp; done) | (simp; omega)) ?_) | (refine m_store (v := Value.pointer _) M rfl rfl rfl rfl rfl (by first | assumption | (simp; done) | (simp; omega)) ?_)); clear M; (try clear wx); intro wx M; simp only [List.set_cons_zero, List.set_cons_succ, Nat.zero_add, List.nil_append] at M))
          refine region_monoG (m := 18) mixedOrders_ (by kernel_rfl) (by kernel_rfl)
            (fun | 0 => fun vq _ => vq = .agg (entC y.1 y.2) | 1 => fun vq _ => vq = .bool true | 2 => fun vq _ => vq = .bool (!true) | 3 => fun vq _ => vq = .bool (!true) | 4 => fun vq _ => vq = .int .i64 ((0 : Nat) : Int) | 5 => fun vq _ => vq = .bool false | 6 => fun vq _ => vq = .bool false | 7 => fun vq _ => vq = undef | 8 => fun vq _ => vq = undef | 9 => fun vq _ => vq = undef | 10 => fun vq _ => vq = undef | 11 => fun vq _ => vq = undef | 12 => fun vq _ => vq = undef | 13 => fun vq _ => vq = undef | 14 => fun vq _ => vq = undef | 15 => fun vq _ => vq = undef | 16 => fun vq _ => vq = .bool false | 17 => fun vq _ => vq = .bool false | _ => fun _ _ => True)
            (fun wx => Mem w wx [.blk g4 37 (entC y.1 y.2)]) ?_ ?_ ?_ ?_ ?_
          · intro j hj v w1 w2 hb h
            match j, hj with
            | 0, _ => exact h
            | 1, _ => exact h
            | 2, _ => exact h
            | 3, _ => exact h
            | 4, _ => exact h
            | 5, _ => exact h
            | 6, _ => exact h
            | 7, _ => exact h
            | 8, _ => exact h
            | 9, _ => exact h
            | 10, _ => exact h
            | 11, _ => exact h
            | 12, _ => exact h
            | 13, _ => exact h
            | 14, _ => exact h
            | 15, _ => exact h
            | 16, _ => exact h
            | 17, _ => exact h
            | n + 18, h' => exact absurd h' (by omega)
          · intro w1 w2 hb h
            exact h.grow hb
          · exact M.grow ((Up.refl _).drew)
          · rintro i o hi ho av wv fr gM dep
            match i, hi with
            | 0, _ =>
              obtain rfl := Option.some.inj ho
              refine g_none rfl rfl ?_
              exact st_loadG gM rfl (fr.eval rfl) rfl rfl
            | 1, _ =>
              obtain rfl := Option.some.inj ho
              refine g_none rfl rfl ?_
              have d0 := dep ⟨0, .data⟩ (by simp) rfl
              exact st_ret1 rfl (fun _ _ => by kernel_rfl) d0 (by have := validEntry_r y wv; rw [HEB.out] at this; exact this) (fun r w' h _ => h)
            | 2, _ =>
              obtain rfl := Option.some.inj ho
              refine g_none rfl rfl ?_
              exact st_not rfl (dep ⟨1, .data⟩ (by simp) rfl) rfl
            | 3, _ =>
              obtain rfl := Option.some.inj ho
              refine g_none rfl rfl ?_
              exact st_mov rfl (dep ⟨2, .data⟩ (by simp) rfl) rfl
            | 4, _ =>
              obtain rfl := Option.some.inj ho
              refine g_yes rfl rfl (dep ⟨3, .guard⟩ (by simp) rfl) ?_
              exact st_mov rfl (fr.eval rfl) rfl
            | 5, _ =>
              obtain rfl := Option.some.inj ho
              refine g_yes rfl rfl (dep ⟨3, .guard⟩ (by simp) rfl) ?_
              exact st_bin rfl (dep ⟨4, .data⟩ (by simp) rfl) (rfl) (bin_gtrI _ _ _ (decide_eq_false (by simp)) _ _ _) rfl
            | 6, _ =>
              obtain rfl := Option.some.inj ho
              refine g_yes rfl rfl (dep ⟨3, .guard⟩ (by simp) rfl) ?_
              exact st_mov rfl (dep ⟨5, .data⟩ (by simp) rfl) rfl
            | 7, _ =>
              obtain rfl := Option.some.inj ho
              exact g_no rfl rfl (dep ⟨6, .guard⟩ (by simp) rfl) (by decide) rfl
            | 8, _ =>
              obtain rfl := Option.some.inj ho
              exact g_no rfl rfl (dep ⟨6, .guard⟩ (by simp) rfl) (by decide) rfl
            | 9, _ =>
              obtain rfl := Option.some.inj ho
              exact g_no rfl rfl (dep ⟨6, .guard⟩ (by simp) rfl) (by decide) rfl
            | 10, _ =>
              obtain rfl := Option.some.inj ho
              exact g_no rfl rfl (dep ⟨6, .guard⟩ (by simp) rfl) (by decide) rfl
            | 11, _ =>
              obtain rfl := Option.some.inj ho
              exact g_no rfl rfl (dep ⟨6, .guard⟩ (by simp) rfl) (by decide) rfl
            | 12, _ =>
              obtain rfl := Option.some.inj ho
              exact g_no rfl rfl (dep ⟨6, .guard⟩ (by simp) rfl) (by decide) rfl
            | 13, _ =>
              obtain rfl := Option.some.inj ho
              exact g_no rfl rfl (dep ⟨6, .guard⟩ (by simp) rfl) (by decide) rfl
            | 14, _ =>
              obtain rfl := Option.some.inj ho
              exact g_no rfl rfl (dep ⟨6, .guard⟩ (by simp) rfl) (by decide) rfl
            | 15, _ =>
              obtain rfl := Option.some.inj ho
              exact g_no rfl rfl (dep ⟨6, .guard⟩ (by simp) rfl) (by decide) rfl
            | 16, _ =>
              obtain rfl := Option.some.inj ho
              refine g_yes rfl rfl (dep ⟨3, .guard⟩ (by simp) rfl) ?_
              exact st_pick rfl (dep ⟨6, .data⟩ (by simp) rfl) (dep ⟨15, .data⟩ (by simp) rfl) (rfl) rfl
            | 17, _ =>
              obtain rfl := Option.some.inj ho
              refine g_none rfl rfl ?_
              exact st_pick rfl (dep ⟨3, .data⟩ (by simp) rfl) (rfl) (dep ⟨16, .data⟩ (by simp) rfl) rfl
            | n + 18, h' => exact absurd h' (by omega)
          · rintro vs wv gM hf
            have f0 : vs 0 = .agg (entC y.1 y.2) := hf 0 (by omega)
            have f1 : vs 1 = .bool true := hf 1 (by omega)
            have f2 : vs 2 = .bool (!true) := hf 2 (by omega)
            have f3 : vs 3 = .bool (!true) := hf 3 (by omega)
            have f4 : vs 4 = .int .i64 ((0 : Nat) : Int) := hf 4 (by omega)
            have f5 : vs 5 = .bool false := hf 5 (by omega)
            have f6 : vs 6 = .bool false := hf 6 (by omega)
            have f7 : vs 7 = undef := hf 7 (by omega)
            have f8 : vs 8 = undef := hf 8 (by omega)
            have f9 : vs 9 = undef := hf 9 (by omega)
            have f10 : vs 10 = undef := hf 10 (by omega)
            have f11 : vs 11 = undef := hf 11 (by omega)
            have f12 : vs 12 = undef := hf 12 (by omega)
            have f13 : vs 13 = undef := hf 13 (by omega)
            have f14 : vs 14 = undef := hf 14 (by omega)
            have f15 : vs 15 = undef := hf 15 (by omega)
            have f16 : vs 16 = .bool false := hf 16 (by omega)
            have f17 : vs 17 = .bool false := hf 17 (by omega)
            simp only [putAll, Act.put, List.getElem?_toArray, List.getElem?_cons_zero, List.getElem?_cons_succ, Option.bind_some, List.setIfInBounds_toArray, List.set_cons_zero, List.set_cons_succ, List.drop_succ_cons, List.drop_zero, List.drop_nil, f17]
            clear f0 f1 f2 f3 f4 f5 f6 f7 f8 f9 f10 f11 f12 f13 f14 f15 f16 f17 hf
            have M := gM.tail
            clear gM
            go_wp2_with fail
            have hj := HJ.out
            go_roundg (gk - 1)
            case measure => omega
            case rel => exact ⟨0 + 1, by omega, by go_num, HB, M⟩
      | succ k =>
        have hkn : k < n := by omega
        have hk1 : ((k + 1 : Nat) : Int) - 1 = (k : Int) := by omega
        have HD := Lib.hid (badE_s es k hkl)
        have C1 := Lib.hid (fun wx (hb : Up w wx) => enL_range (HR.out wx hb) k (Nat.lt_of_succ_lt hkl))
        generalize (es[k + 1]'hkl) = y at *
        generalize (es[k]'_) = x at *
        cases hb : entB y.1 y.2 with
        | false =>
          have HEB := Lib.hid hb
          rw [hb] at HD
          have HB := Lib.hid (HB.out HD.out)
          clear hb HD HN
          go_wp2_with (first
            | (with_reducible (show wpList _ _ _ (Oper.mk _ (.indexAddr _ _ _) _ _ _ _ :: _) _ _); refine m_ixE rfl rfl rfl (k + 1) hlt rfl ?_)
            | (with_reducible (show wpList _ _ _ (Oper.mk (some 4) (.alloc _) _ _ _ _ :: _) _ _); refine mem_new M rfl rfl ?_; clear M; (try clear wx); intro g4 wx M)
            | (with_reducible (show wpList _ _ _ (Oper.mk _ (.load _ _) _ _ _ _ :: _) _ _); (first | (refine rd_loadE rfl rfl rfl (C0.out _ M.up) ?_) | (refine m_load M rfl rfl rfl (by first | assumption | rfl) ?_) | (refine m_loadR M rfl rfl rfl (by first | rfl | assumption | (simp; done) | (simp; omega)) ?_)))
            | (with_reducible (show wpList _ _ _ (Oper.mk _ (.store _ _ _) _ _ _ _ :: _) _ _); (first | (refine m_storeR M rfl rfl rfl rfl (by first | rfl | assumption | (simp; done) | (simp; omega)) (by first | rfl | assumption | (simp; done) | (simp; omega)) (entC_one _) ?_) | (refine m_store (v := Value.int _ _) M rfl rfl rfl rfl rfl (by first | assumption | (simp; done) | (simp; omega)) ?_) | (refine m_store (v := Value.slice _ _ _) M rfl rfl rfl rfl rfl (by first | assumption | (simp; done) | (simp; omega)) ?_) | (refine m_store (v := Value.bool _) M rfl rfl rfl rfl rfl (by first | assumption | (simp; done) | (simp; omega)) ?_) | (refine m_store (v := Value.string _) M rfl rfl rfl rfl rfl (by first | assumption | (simp; done) | (simp; omega)) ?_) | (refine m_store (v := Value.pointer _) M rfl rfl rfl rfl rfl (by first | assumption | (simp; done) | (simp; omega)) ?_)); clear M; (try clear wx); intro wx M; simp only [List.set_cons_zero, List.set_cons_succ, Nat.zero_add, List.nil_append] at M))
          refine region_monoG (m := 18) mixedOrders_ (by kernel_rfl) (by kernel_rfl)
            (fun | 0 => fun vq _ => vq = .agg (entC y.1 y.2) | 1 => fun vq _ => vq = .bool false | 2 => fun vq _ => vq = .bool (!false) | 3 => fun vq _ => vq = .bool (!false) | 4 => fun vq _ => vq = undef | 5 => fun vq _ => vq = undef | 6 => fun vq _ => vq = undef | 7 => fun vq _ => vq = undef | 8 => fun vq _ => vq = undef | 9 => fun vq _ => vq = undef | 10 => fun vq _ => vq = undef | 11 => fun vq _ => vq = undef | 12 => fun vq _ => vq = undef | 13 => fun vq _ => vq = undef | 14 => fun vq _ => vq = undef | 15 => fun vq _ => vq = undef | 16 => fun vq _ => vq = undef | 17 => fun vq _ => vq = .bool true | _ => fun _ _ => True)
            (fun wx => Mem w wx [.blk g4 37 (entC y.1 y.2)]) ?_ ?_ ?_ ?_ ?_
          · intro j hj v w1 w2 hb h
            match j, hj with
            | 0, _ => exact h
            | 1, _ => exact h
            | 2, _ => exact h
            | 3, _ => exact h
            | 4, _ => exact h
            | 5, _ => exact h
            | 6, _ => exact h
            | 7, _ => exact h
            | 8, _ => exact h
            | 9, _ => exact h
            | 10, _ => exact h
            | 11, _ => exact h
            | 12, _ => exact h
            | 13, _ => exact h
            | 14, _ => exact h
            | 15, _ => exact h
            | 16, _ => exact h
            | 17, _ => exact h
            | n + 18, h' => exact absurd h' (by omega)
          · intro w1 w2 hb h
            exact h.grow hb
          · exact M.grow ((Up.refl _).drew)
          · rintro i o hi ho av wv fr gM dep
            match i, hi with
            | 0, _ =>
              obtain rfl := Option.some.inj ho
              refine g_none rfl rfl ?_
              exact st_loadG gM rfl (fr.eval rfl) rfl rfl
            | 1, _ =>
              obtain rfl := Option.some.inj ho
              refine g_none rfl rfl ?_
              have d0 := dep ⟨0, .data⟩ (by simp) rfl
              exact st_ret1 rfl (fun _ _ => by kernel_rfl) d0 (by have := validEntry_r y wv; rw [HEB.out] at this; exact this) (fun r w' h _ => h)
            | 2, _ =>
              obtain rfl := Option.some.inj ho
              refine g_none rfl rfl ?_
              exact st_not rfl (dep ⟨1, .data⟩ (by simp) rfl) rfl
            | 3, _ =>
              obtain rfl := Option.some.inj ho
              refine g_none rfl rfl ?_
              exact st_mov rfl (dep ⟨2, .data⟩ (by simp) rfl) rfl
            | 4, _ =>
              obtain rfl := Option.some.inj ho
              exact g_no rfl rfl (dep ⟨3, .guard⟩ (by simp) rfl) (by decide) rfl
            | 5, _ =>
              obtain rfl := Option.some.inj ho
              exact g_no rfl rfl (dep ⟨3, .guard⟩ (by simp) rfl) (by decide) rfl
            | 6, _ =>
              obtain rfl := Option.some.inj ho
              exact g_no rfl rfl (dep ⟨3, .guard⟩ (by simp) rfl) (by decide) rfl
            | 7, _ =>
              obtain rfl := Option.some.inj ho
              exact g_no2 rfl rfl (dep ⟨6, .guard⟩ (by simp) rfl) rfl
            | 8, _ =>
              obtain rfl := Option.some.inj ho
              exact g_no2 rfl rfl (dep ⟨6, .guard⟩ (by simp) rfl) rfl
            | 9, _ =>
              obtain rfl := Option.some.inj ho
              exact g_no2 rfl rfl (dep ⟨6, .guard⟩ (by simp) rfl) rfl
            | 10, _ =>
              obtain rfl := Option.some.inj ho
              exact g_no2 rfl rfl (dep ⟨6, .guard⟩ (by simp) rfl) rfl
            | 11, _ =>
              obtain rfl := Option.some.inj ho
              exact g_no2 rfl rfl (dep ⟨6, .guard⟩ (by simp) rfl) rfl
            | 12, _ =>
              obtain rfl := Option.some.inj ho
              exact g_no2 rfl rfl (dep ⟨6, .guard⟩ (by simp) rfl) rfl
            | 13, _ =>
              obtain rfl := Option.some.inj ho
              exact g_no2 rfl rfl (dep ⟨6, .guard⟩ (by simp) rfl) rfl
            | 14, _ =>
              obtain rfl := Option.some.inj ho
              exact g_no2 rfl rfl (dep ⟨6, .guard⟩ (by simp) rfl) rfl
            | 15, _ =>
              obtain rfl := Option.some.inj ho
              exact g_no2 rfl rfl (dep ⟨6, .guard⟩ (by simp) rfl) rfl
            | 16, _ =>
              obtain rfl := Option.some.inj ho
              exact g_no rfl rfl (dep ⟨3, .guard⟩ (by simp) rfl) (by decide) rfl
            | 17, _ =>
              obtain rfl := Option.some.inj ho
              refine g_none rfl rfl ?_
              exact st_pick rfl (dep ⟨3, .data⟩ (by simp) rfl) (rfl) (dep ⟨16, .data⟩ (by simp) rfl) rfl
            | n + 18, h' => exact absurd h' (by omega)
          · rintro vs wv gM hf
            have f0 : vs 0 = .agg (entC y.1 y.2) := hf 0 (by omega)
            have f1 : vs 1 = .bool false := hf 1 (by omega)
            have f2 : vs 2 = .bool (!false) := hf 2 (by omega)
            have f3 : vs 3 = .bool (!false) := hf 3 (by omega)
            have f4 : vs 4 = undef := hf 4 (by omega)
            have f5 : vs 5 = undef := hf 5 (by omega)
            have f6 : vs 6 = undef := hf 6 (by omega)
            have f7 : vs 7 = undef := hf 7 (by omega)
            have f8 : vs 8 = undef := hf 8 (by omega)
            have f9 : vs 9 = undef := hf 9 (by omega)
            have f10 : vs 10 = undef := hf 10 (by omega)
            have f11 : vs 11 = undef := hf 11 (by omega)
            have f12 : vs 12 = undef := hf 12 (by omega)
            have f13 : vs 13 = undef := hf 13 (by omega)
            have f14 : vs 14 = undef := hf 14 (by omega)
            have f15 : vs 15 = undef := hf 15 (by omega)
            have f16 : vs 16 = undef := hf 16 (by omega)
            have f17 : vs 17 = .bool true := hf 17 (by omega)
            simp only [putAll, Act.put, List.getElem?_toArray, List.getElem?_cons_zero, List.getElem?_cons_succ, Option.bind_some, List.setIfInBounds_toArray, List.set_cons_zero, List.set_cons_succ, List.drop_succ_cons, List.drop_zero, List.drop_nil, f17]
            clear f0 f1 f2 f3 f4 f5 f6 f7 f8 f9 f10 f11 f12 f13 f14 f15 f16 f17 hf
            have M := gM.tail
            clear gM
            go_wp2_with fail
            go_ret
            exact ⟨_, rfl, by rw [HB.out]; rfl, M.up⟩
        | true =>
          have HEB := Lib.hid hb
          rw [hb, Bool.not_true, Bool.false_or, ← less_tri] at HD
          obtain ⟨c, hc⟩ : ∃ c, (Op.bytesLess y.1.toList x.1.toList || y.1.toList == x.1.toList) = c := ⟨_, rfl⟩
          have HC := Lib.hid hc
          rw [hc] at HD
          clear hb hc
          go_wp2_with (first
            | (with_reducible (show wpList _ _ _ (Oper.mk _ (.indexAddr _ _ _) _ _ _ _ :: _) _ _); refine m_ixE rfl rfl rfl (k + 1) hlt rfl ?_)
            | (with_reducible (show wpList _ _ _ (Oper.mk (some 4) (.alloc _) _ _ _ _ :: _) _ _); refine mem_new M rfl rfl ?_; clear M; (try clear wx); intro g4 wx M)
            | (with_reducible (show wpList _ _ _ (Oper.mk _ (.load _ _) _ _ _ _ :: _) _ _); (first | (refine rd_loadE rfl rfl rfl (C0.out _ M.up) ?_) | (refine m_load M rfl rfl rfl (by first | assumption | rfl) ?_) | (refine m_loadR M rfl rfl rfl (by first | rfl | assumption | (simp; done) | (simp; omega)) ?_)))
            | (with_reducible (show wpList _ _ _ (Oper.mk _ (.store _ _ _) _ _ _ _ :: _) _ _); (first | (refine m_storeR M rfl rfl rfl rfl (by first | rfl | assumption | (simp; done) | (simp; omega)) (by first | rfl | assumption | (simp; done) | (simp; omega)) (entC_one _) ?_) | (refine m_store (v := Value.int _ _) M rfl rfl rfl rfl rfl (by first | assumption | (simp; done) | (simp; omega)) ?_) | (refine m_store (v := Value.slice _ _ _) M rfl rfl rfl rfl rfl (by first | assumption | (simp; done) | (simp; omega)) ?_) | (refine m_store (v := Value.bool _) M rfl rfl rfl rfl rfl (by first | assumption | (simp; done) | (simp; omega)) ?_) | (refine m_store (v := Value.string _) M rfl rfl rfl rfl rfl (by first | assumption | (simp; done) | (simp; omega)) ?_) | (refine m_store (v := Value.pointer _) M rfl rfl rfl rfl rfl (by first | assumption | (simp; done) | (simp; omega)) ?_)); clear M; (try clear wx); intro wx M; simp only [List.set_cons_zero, List.set_cons_succ, Nat.zero_add, List.nil_append] at M))
          refine region_monoG (m := 18) mixedOrders_ (by kernel_rfl) (by kernel_rfl)
            (fun | 0 => fun vq _ => vq = .agg (entC y.1 y.2) | 1 => fun vq _ => vq = .bool true | 2 => fun vq _ => vq = .bool (!true) | 3 => fun vq _ => vq = .bool (!true) | 4 => fun vq _ => vq = .int .i64 ((k + 1 : Nat) : Int) | 5 => fun vq _ => vq = .bool true | 6 => fun vq _ => vq = .bool true | 7 => fun vq _ => vq = .pointer (some ⟨g4, 0, none⟩) | 8 => fun vq _ => vq = .string y.1 | 9 => fun vq _ => vq = .slice (some ⟨g, o, none⟩) n cap | 10 => fun vq _ => vq = .int .i64 ((k + 1 : Nat) : Int) | 11 => fun vq _ => vq = .int .i64 (k : Int) | 12 => fun vq _ => vq = .pointer (some ⟨g, o + k * 2, none⟩) | 13 => fun vq _ => vq = .pointer (some ⟨g, o + k * 2, none⟩) | 14 => fun vq _ => vq = .string x.1 | 15 => fun vq _ => vq = .bool c | 16 => fun vq _ => vq = .bool c | 17 => fun vq _ => vq = .bool c | _ => fun _ _ => True)
            (fun wx => Mem w wx [.blk g4 37 (entC y.1 y.2)]) ?_ ?_ ?_ ?_ ?_
          · intro j hj v w1 w2 hb h
            match j, hj with
            | 0, _ => exact h
            | 1, _ => exact h
            | 2, _ => exact h
            | 3, _ => exact h
            | 4, _ => exact h
            | 5, _ => exact h
            | 6, _ => exact h
            | 7, _ => exact h
            | 8, _ => exact h
            | 9, _ => exact h
            | 10, _ => exact h
            | 11, _ => exact h
            | 12, _ => exact h
            | 13, _ => exact h
            | 14, _ => exact h
            | 15, _ => exact h
            | 16, _ => exact h
            | 17, _ => exact h
            | n + 18, h' => exact absurd h' (by omega)
          · intro w1 w2 hb h
            exact h.grow hb
          · exact M.grow ((Up.refl _).drew)
          · rintro i o hi ho av wv fr gM dep
            match i, hi with
            | 0, _ =>
              obtain rfl := Option.some.inj ho
              refine g_none rfl rfl ?_
              exact st_loadG gM rfl (fr.eval rfl) rfl rfl
            | 1, _ =>
              obtain rfl := Option.some.inj ho
              refine g_none rfl rfl ?_
              have d0 := dep ⟨0, .data⟩ (by simp) rfl
              exact st_ret1 rfl (fun _ _ => by kernel_rfl) d0 (by have := validEntry_r y wv; rw [HEB.out] at this; exact this) (fun r w' h _ => h)
            | 2, _ =>
              obtain rfl := Option.some.inj ho
              refine g_none rfl rfl ?_
              exact st_not rfl (dep ⟨1, .data⟩ (by simp) rfl) rfl
            | 3, _ =>
              obtain rfl := Option.some.inj ho
              refine g_none rfl rfl ?_
              exact st_mov rfl (dep ⟨2, .data⟩ (by simp) rfl) rfl
            | 4, _ =>
              obtain rfl := Option.some.inj ho
              refine g_yes rfl rfl (dep ⟨3, .guard⟩ (by simp) rfl) ?_
              exact st_mov rfl (fr.eval rfl) rfl
            | 5, _ =>
              obtain rfl := Option.some.inj ho
              refine g_yes rfl rfl (dep ⟨3, .guard⟩ (by simp) rfl) ?_
              exact st_bin rfl (dep ⟨4, .data⟩ (by simp) rfl) (rfl) (bin_gtrI _ _ _ (decide_eq_true (by omega)) _ _ _) rfl
            | 6, _ =>
              obtain rfl := Option.some.inj ho
              refine g_yes rfl rfl (dep ⟨3, .guard⟩ (by simp) rfl) ?_
              exact st_mov rfl (dep ⟨5, .data⟩ (by simp) rfl) rfl
            | 7, _ =>
              obtain rfl := Option.some.inj ho
              refine g_yes rfl rfl (dep ⟨6, .guard⟩ (by simp) rfl) ?_
              exact st_fld rfl Try.underlying37 rfl (fr.eval rfl) 0 rfl (by kernel_rfl) rfl
            | 8, _ =>
              obtain rfl := Option.some.inj ho
              refine g_yes rfl rfl (dep ⟨6, .guard⟩ (by simp) rfl) ?_
              exact st_load1G gM rfl (dep ⟨7, .data⟩ (by simp) rfl) (rfl) rfl
            | 9, _ =>
              obtain rfl := Option.some.inj ho
              refine g_yes rfl rfl (dep ⟨6, .guard⟩ (by simp) rfl) ?_
              exact st_mov rfl (fr.eval rfl) rfl
            | 10, _ =>
              obtain rfl := Option.some.inj ho
              refine g_yes rfl rfl (dep ⟨6, .guard⟩ (by simp) rfl) ?_
              exact st_mov rfl (fr.eval rfl) rfl
            | 11, _ =>
              obtain rfl := Option.some.inj ho
              refine g_yes rfl rfl (dep ⟨6, .guard⟩ (by simp) rfl) ?_
              exact st_bin rfl (dep ⟨10, .data⟩ (by simp) rfl) (rfl) (bin_subI _ _ _ (by rw [hk1]; exact i64_in_ _ (by omega)) _ _ _) rfl
            | 12, _ =>
              obtain rfl := Option.some.inj ho
              refine g_yes rfl rfl (dep ⟨6, .guard⟩ (by simp) rfl) ?_
              exact st_indexAddr rfl (dep ⟨9, .data⟩ (by simp) rfl) (dep ⟨11, .data⟩ (by simp) rfl) (ix_slice _ _ _ _ _ hkn _) rfl
            | 13, _ =>
              obtain rfl := Option.some.inj ho
              refine g_yes rfl rfl (dep ⟨6, .guard⟩ (by simp) rfl) ?_
              exact st_fld rfl Try.underlying37 rfl (dep ⟨12, .data⟩ (by simp) rfl) 0 rfl (by kernel_rfl) rfl
            | 14, _ =>
              obtain rfl := Option.some.inj ho
              refine g_yes rfl rfl (dep ⟨6, .guard⟩ (by simp) rfl) ?_
              exact st_load1 rfl (dep ⟨13, .data⟩ (by simp) rfl) (C1.out _ gM.up 0 _ rfl) rfl
            | 15, _ =>
              obtain rfl := Option.some.inj ho
              refine g_yes rfl rfl (dep ⟨6, .guard⟩ (by simp) rfl) ?_
              exact st_bin rfl (dep ⟨8, .data⟩ (by simp) rfl) (dep ⟨14, .data⟩ (by simp) rfl) (str_leqG y.1 x.1 c HC.out _ _ _) rfl
            | 16, _ =>
              obtain rfl := Option.some.inj ho
              refine g_yes rfl rfl (dep ⟨3, .guard⟩ (by simp) rfl) ?_
              exact st_pick rfl (dep ⟨6, .data⟩ (by simp) rfl) (dep ⟨15, .data⟩ (by simp) rfl) (rfl) rfl
            | 17, _ =>
              obtain rfl := Option.some.inj ho
              refine g_none rfl rfl ?_
              exact st_pick rfl (dep ⟨3, .data⟩ (by simp) rfl) (rfl) (dep ⟨16, .data⟩ (by simp) rfl) rfl
            | n + 18, h' => exact absurd h' (by omega)
          · rintro vs wv gM hf
            have f0 : vs 0 = .agg (entC y.1 y.2) := hf 0 (by omega)
            have f1 : vs 1 = .bool true := hf 1 (by omega)
            have f2 : vs 2 = .bool (!true) := hf 2 (by omega)
            have f3 : vs 3 = .bool (!true) := hf 3 (by omega)
            have f4 : vs 4 = .int .i64 ((k + 1 : Nat) : Int) := hf 4 (by omega)
            have f5 : vs 5 = .bool true := hf 5 (by omega)
            have f6 : vs 6 = .bool true := hf 6 (by omega)
            have f7 : vs 7 = .pointer (some ⟨g4, 0, none⟩) := hf 7 (by omega)
            have f8 : vs 8 = .string y.1 := hf 8 (by omega)
            have f9 : vs 9 = .slice (some ⟨g, o, none⟩) n cap := hf 9 (by omega)
            have f10 : vs 10 = .int .i64 ((k + 1 : Nat) : Int) := hf 10 (by omega)
            have f11 : vs 11 = .int .i64 (k : Int) := hf 11 (by omega)
            have f12 : vs 12 = .pointer (some ⟨g, o + k * 2, none⟩) := hf 12 (by omega)
            have f13 : vs 13 = .pointer (some ⟨g, o + k * 2, none⟩) := hf 13 (by omega)
            have f14 : vs 14 = .string x.1 := hf 14 (by omega)
            have f15 : vs 15 = .bool c := hf 15 (by omega)
            have f16 : vs 16 = .bool c := hf 16 (by omega)
            have f17 : vs 17 = .bool c := hf 17 (by omega)
            simp only [putAll, Act.put, List.getElem?_toArray, List.getElem?_cons_zero, List.getElem?_cons_succ, Option.bind_some, List.setIfInBounds_toArray, List.set_cons_zero, List.set_cons_succ, List.drop_succ_cons, List.drop_zero, List.drop_nil, f17]
            clear f0 f1 f2 f3 f4 f5 f6 f7 f8 f9 f10 f11 f12 f13 f14 f15 f16 f17 hf
            have M := gM.tail
            clear gM
            cases c with
            | true =>
              have HB := Lib.hid (HB.out HD.out)
              clear HD HN
              go_wp2_with fail
              go_ret
              exact ⟨_, rfl, by rw [HB.out]; rfl, M.up⟩
            | false =>
              have HB := Lib.hid (HN.out HD.out)
              clear HD HN
              go_wp2_with fail
              have hj := HJ.out
              go_roundg (gk - 1)
              case measure => omega
              case rel => exact ⟨k + 1 + 1, by omega, by go_num, HB, M⟩
    · obtain rfl : j = n := by omega
      have HE := Lib.hid (veB_good es j HK.out HT.out)
      clear hj hlt
      go_wp2_with fail
      go_ret
      exact ⟨_, rfl, by rw [HE.out]; go_num, M.up⟩

theorem specValidEntries_c (v : Value) (n : Nat) (es : List En) (hes : es.length = n) (w : World) (hl : n ≤ 1048576) (hv : Rd w 2 v n (enL es)) : Ret Try.prog 15 #[v] w fun r _ => r = .bool (veB es) := by
  have HA := Lib.hid hv
  have HC := Lib.hid (fun w => l04Ok_c v n es hes w hl)
  refine ret_start fun wx M => ?_
  clear hv hes
  go_enter Try.func15, Try.ntmps15
  go_wp2_with (first
    | (go_at_call 39; (with_reducible refine mem_call M (HC.out _ (HA.out.up M.up)) ?_); clear M; (try clear wx); rintro _ wx rfl _ M))
  go_ret
  exact ⟨_, rfl, rfl, M.up⟩

theorem szT_cases' (es : List En) (left : Int) (h0 : 0 ≤ left) (h1 : left ≤ 1048576) : szT es left < 0 ∨ (0 ≤ szT es left ∧ szT es left ≤ left ∧ (es.length : Int) ≤ left) := by
  unfold szT
  split
  · exact .inl (by omega)
  · have := szF_le es (left - es.length) (by omega)
    omega
set_option maxHeartbeats 4000000 in
set_option maxRecDepth 100000 in
theorem lawValidEntries_c (va : Value) (a : List En) (hsa : smallE a) (w : World) (hva : Rd w 2 va a.length (enL a)) : Calls Try.prog 5 #[va] w fun e w' => e = .returned (.bool true) ∧ Up w w' := by
  obtain ⟨n, hn⟩ : ∃ n, a.length = n := ⟨_, rfl⟩
  rw [hn] at hva
  obtain ⟨b1, cap1, rfl⟩ := hva.shape
  have hnl : n ≤ maxLen := by have := hva.len_; omega
  have HVA := Lib.hid hva
  have HN := Lib.hid hn
  have c1 := szT_cases' a 1048576 (by omega) (by omega)
  have HZ1 := Lib.hid (fun w h => szEntryS_c (.slice b1 n cap1) n a hn hsa 1048576 (by omega) (by omega) hnl w h)
  rw [hn] at c1
  generalize szT a 1048576 = l1 at *
  have M := Mem.start w
  clear hva hn
  rcases c1 with c1 | ⟨c1, c1', hl⟩
  · go_enter Try.func5, Try.ntmps5
    go_wp2_with (first
      | (go_at_call 10; (with_reducible refine mem_call M (HZ1.out _ (HVA.out.up M.up)) ?_); clear M; (try clear wx); rintro _ wx rfl _ M))
    go_ret
    exact ⟨rfl, M.up⟩
  have hln : n ≤ 1048576 := by omega
  have HS : Hid (∀ va w, Rd w 2 va n (enL a) → Ret Try.prog 15 #[va] w fun r _ => r = .bool (veB a)) := Lib.hid (fun va w h => specValidEntries_c va n a HN.out w hln h)
  have HI : Hid (∀ va w, Rd w 2 va n (enL a) → Ret Try.prog 16 #[va] w fun r _ => r = .bool (veB a)) := Lib.hid (fun va w h => implValidEntries_c va n a HN.out w hln h)
  generalize veB a = c at *
  go_enter Try.func5, Try.ntmps5
  go_wp2_with (first
    | (go_at_call 10; (with_reducible refine mem_call M (HZ1.out _ (HVA.out.up M.up)) ?_); clear M; (try clear wx); rintro _ wx rfl _ M)
    | (go_at_call 12; (with_reducible refine mem_callO M (toEntryS_c _ n a HN.out _ (HVA.out.up M.up) hln) ?_); clear M; (try clear wx); intro b_ cap_ wx M)
    | (go_at_call 15; (with_reducible refine mem_call M (HS.out _ _ (M.rdE a)) ?_); clear M; (try clear wx); rintro _ wx rfl _ M)
    | (go_at_call 16; (with_reducible refine mem_call M (HI.out _ _ (M.rdE a)) ?_); clear M; (try clear wx); rintro _ wx rfl _ M)
    | (go_at_call 14; (with_reducible refine mem_call M (eqEntryS_same _ _ n a HN.out _ (by omega) (M.rdE a) (M.rdE a)) ?_); clear M; (try clear wx); rintro _ wx rfl _ M))
  go_ret
  exact ⟨rfl, M.up⟩

end Go.Proofs.Ytcldkllllojgpaa

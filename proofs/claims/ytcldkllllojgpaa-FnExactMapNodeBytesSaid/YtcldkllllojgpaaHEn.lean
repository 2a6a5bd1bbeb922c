/- Walks: slices of entries. -/
import Derived.Test.YtcldkllllojgpaaKE
import Derived.Test.YtcldkllllojgpaaHC
import Derived.Test.YtcldkllllojgpaaRegM
import Derived.Test.YtcldkllllojgpaaRegG
import Derived.Test.YtcldkllllojgpaaHL
namespace Go.Proofs.Ytcldkllllojgpaa
open Go.RowKit
set_option linter.unusedVariables false
set_option linter.unusedSimpArgs false

instance : ElT Try.prog 37 2 32 (.agg #[.string ByteArray.empty, .string ByteArray.empty]) := ⟨by kernel_rfl, by kernel_rfl, by decide⟩
instance : ElT Try.prog 46 2 32 (.agg #[.string ByteArray.empty, .string ByteArray.empty]) := ⟨by kernel_rfl, by kernel_rfl, by decide⟩
/-- An entry: a name and a value. -/
abbrev En := ByteArray × ByteArray
def bE (e : En) : List Value := [.string e.1, .string e.2]
def enL (es : List En) : List Value := es.flatMap bE
@[simp] theorem enL_len (es : List En) : (enL es).length = es.length * 2 := by
  induction es with
  | nil => rfl
  | cons e es ih => simp only [enL, bE, List.flatMap_cons, List.length_append, List.length_cons] at ih ⊢; rw [ih]; simp; omega
theorem enL_append (a b : List En) : enL (a ++ b) = enL a ++ enL b := by simp [enL]
theorem bE_one (e : En) : ∀ u ∈ bE e, u.oneCell' = true := by
  intro u hu
  simp [bE] at hu
  rcases hu with rfl | rfl <;> rfl
theorem enL_one (es : List En) : ∀ u ∈ enL es, u.oneCell' = true := by
  intro u hu
  simp only [enL, List.mem_flatMap] at hu
  obtain ⟨e, _, he⟩ := hu
  exact bE_one e u he
theorem enL_get (es : List En) (i : Nat) (hi : i < es.length) (j : Nat) (v : Value) (hv : (bE es[i])[j]? = some v) : (enL es)[i * 2 + j]? = some v := by
  induction es generalizing i with
  | nil => simp at hi
  | cons e es ih =>
    have hk : (bE e).length = 2 := rfl
    simp only [enL, List.flatMap_cons]
    cases i with
    | zero =>
      have hj : j < (bE e).length := (List.getElem?_eq_some_iff.1 (by simpa using hv)).1
      rw [Nat.zero_mul, Nat.zero_add, List.getElem?_append_left hj]
      simpa using hv
    | succ i =>
      rw [List.getElem?_append_right (by omega), hk]
      have := ih i (by simpa using hi) (by simpa using hv)
      rw [show (i + 1) * 2 + j - 2 = i * 2 + j by omega]
      exact this
theorem enL_range {w : World} {g o : Nat} {es : List En} (h : w.rangeAt g o (enL es)) (k : Nat) (hk : k < es.length) : w.rangeAt g (o + k * 2) (bE es[k]) := fun j v hv => by
  have := h _ _ (enL_get es k hk j v hv)
  rw [← Nat.add_assoc] at this
  exact this
theorem Mem.rdE {w0 w : World} {L : List It} (M : Mem w0 w L) (es : List En) {b : Option Addr} {cap n p : Nat} {e : TypeId} [hL : AtO L b cap n p e 2 (enL es)] : Rd w 2 (.slice b n cap) n (enL es) := M.rd hL.out (enL_one es)
set_option maxRecDepth 100000 in
theorem ent_eqIn (a b : En) (w : World) : (Op.equalIn 10000 37 (.agg (entC a.1 a.2)) (.agg (entC b.1 b.2))).run Try.prog w = .ok (decide (a = b)) w := by
  obtain ⟨a1, a2⟩ := a
  obtain ⟨b1, b2⟩ := b
  unfold entC
  have hx : ∀ {x y : ByteArray}, x.toList = y.toList → x = y := fun {x y} h => by
    rw [ByteArray.toList_eq, ByteArray.toList_eq] at h
    obtain ⟨⟨x⟩⟩ := x
    obtain ⟨⟨y⟩⟩ := y
    simp at h
    subst h
    rfl
  by_cases h1 : a1 = b1
  · subst h1
    by_cases h2 : a2 = b2
    · subst h2
      go_simp
    · have h3 : ¬ a2.toList = b2.toList := fun h => h2 (hx h)
      go_simp
  · have h3 : ¬ a1.toList = b1.toList := fun h => h1 (hx h)
    go_simp
set_option maxRecDepth 100000 in
theorem ent_neqG (a b : En) (c : Bool) (hc : (!decide (a = b)) = c) (x y : Operand) (w : World) : Sem.run Try.prog (do eqGuard .neq 37 x y (.agg (entC a.1 a.2)) (.agg (entC b.1 b.2)); binOp .neq 37 (.agg (entC a.1 a.2)) (.agg (entC b.1 b.2))) w = .ok (.bool c) w := by
  rw [Sem.run_bind, run_eqGuard_agg _ _ _ _ _ _ _ (by kernel_rfl), Result.andThen_ok, run_neq_struct, ent_eqIn]
  show Result.ok (Value.bool (!decide (a = b))) w = _
  rw [hc]
theorem take_snoc_eqE {a b : List En} {j n : Nat} (ha : a.length = n) (hb : b.length = n) (hj : j < n) (h : a.take j = b.take j) (he : a[j]'(by omega) = b[j]'(by omega)) : a.take (j + 1) = b.take (j + 1) := by
  rw [List.take_succ_eq_append_getElem (by omega), List.take_succ_eq_append_getElem (by omega), h, he]
section
variable {P : Program} {ops : Array Oper} {rest : List Oper} {o : Oper} {a : Act} {w0 w : World} {Q : Exit → Act → World → Prop} {L : List It} {F : Value → World → Prop}
theorem st_loadE {ty : TypeId} {x : Operand} (ho : o.op = .load ty x) {g i : Nat} (hx : a.eval x = .pointer (some ⟨g, i, none⟩)) [hT : RowT P ty 2] {e : En} (hc : w.rangeAt g i (bE e)) (hF : F (.agg (entC e.1 e.2)) w) : St P o a w Q F :=
  st_loadP ho hx hc rfl hF
theorem rd_loadE {w : World} (hgd : o.guard = none) {ty : TypeId} {x : Operand} (ho : o.op = .load ty x) {g i : Nat} (hx : a.eval x = .pointer (some ⟨g, i, none⟩)) [hT : RowT P ty 2] {e : En} (hc : w.rangeAt g i (bE e)) (h : wpList P ops Q rest (a.put o.dst (.agg (entC e.1 e.2))) w) : wpList P ops Q (o :: rest) a w :=
  rd_loadR hgd ho hx hc rfl h
end

set_option maxHeartbeats 2000000 in
set_option maxRecDepth 100000 in
theorem l04Same_c (n m : Nat) (a b : List En) (ha : a.length = n) (hb : b.length = m) (va vb : Value) (w : World) (hl : n ≤ 1048576) (hm : m ≤ 1048576) (hva : Rd w 2 va n (enL a)) (hvb : Rd w 2 vb m (enL b)) : Ret Try.prog 35 #[va, vb] w fun r _ => r = .bool (decide (a = b)) := by
  obtain ⟨b1, cap1, rfl⟩ := hva.shape
  obtain ⟨b2, cap2, rfl⟩ := hvb.shape
  have HA := Lib.hid hva
  have HB := Lib.hid hvb
  refine ret_start fun wx M => ?_
  clear hva hvb
  by_cases hnm : n ≠ m
  · have HE := Lib.hid (show decide (a = b) = false from decide_eq_false (fun e => hnm (by rw [← ha, ← hb, e])))
    clear ha hb
    go_enter Try.func35, Try.ntmps35
    go_wp2_with fail
    go_ret
    exact ⟨_, rfl, by rw [HE.out]; rfl, M.up⟩
  obtain rfl : n = m := by omega
  have HK := Lib.hid (And.intro ha hb)
  clear ha hb hnm
  go_enter Try.func35, Try.ntmps35
  go_wp2_with fail
  go_loopg [5] n (fun q i wr => ∃ j : Nat, j + q = n ∧ i = .int .i64 (j : Int) ∧ Hid (a.take j = b.take j) ∧ Mem w wr [])
  case atStart => exact ⟨0, by omega, rfl, Lib.hid rfl, M⟩
  case round =>
    obtain ⟨j, hj, rfl, HT, M⟩ := hrel
    by_cases hlt : j < n
    · have hja : j < a.length := by rw [HK.out.1]; exact hlt
      have hjb : j < b.length := by rw [HK.out.2]; exact hlt
      obtain ⟨g1, o1, rfl, h1⟩ := HA.out.open_ (by omega)
      obtain ⟨g2, o2, rfl, h2⟩ := HB.out.open_ (by omega)
      have C1 := Lib.hid (fun wx (hb : Up w wx) => enL_range (h1 wx hb) j hja)
      have C2 := Lib.hid (fun wx (hb : Up w wx) => enL_range (h2 wx hb) j hjb)
      have HJ := Lib.hid hj
      have HS := Lib.hid (take_snoc_eqE HK.out.1 HK.out.2 hlt HT.out)
      have HN := Lib.hid (show a[j]'hja ≠ b[j]'hjb → decide (a = b) = false from fun hne => decide_eq_false (fun e => hne (by subst e; rfl)))
      generalize (a[j]'hja) = x at *
      generalize (b[j]'hjb) = y at *
      obtain ⟨c, hc⟩ : ∃ c, (!decide (x = y)) = c := ⟨_, rfl⟩
      have HC := Lib.hid hc
      clear h1 h2 hj hja hjb hc
      go_wp2_with fail
      refine region_mono (m := 9) mixedOrders_ (by kernel_rfl) (by kernel_rfl)
        (fun | 0 => fun vq _ => vq = .slice (some ⟨g1, o1, none⟩) n cap1 | 1 => fun vq _ => vq = .int .i64 (j : Int) | 2 => fun vq _ => vq = .pointer (some ⟨g1, o1 + j * 2, none⟩) | 3 => fun vq _ => vq = .agg (entC x.1 x.2) | 4 => fun vq _ => vq = .slice (some ⟨g2, o2, none⟩) n cap2 | 5 => fun vq _ => vq = .int .i64 (j : Int) | 6 => fun vq _ => vq = .pointer (some ⟨g2, o2 + j * 2, none⟩) | 7 => fun vq _ => vq = .agg (entC y.1 y.2) | 8 => fun vq _ => vq = .bool c | _ => fun _ _ => True)
        (fun wx => Mem w wx []) ?_ ?_ ?_ ?_ ?_
      · intro j hj v w1 w2 hb h
        match j, hj with
        | 0, _ => exact h
        | 1, _ => exact h
        | 2, _ => exact h
        | 3, _ => exact h
        | 4, _ => exact h
        | 5, _ => exact h
        | 6, _ => exact h
        | 7, _ => exact h
        | 8, _ => exact h
      · intro w1 w2 hb h
        exact h.grow hb
      · exact M.grow ((Up.refl _).drew)
      · rintro i o hi ho av wv fr gM dep
        match i, hi with
        | 0, _ =>
          obtain rfl := Option.some.inj ho
          exact st_mov rfl (fr.eval rfl) rfl
        | 1, _ =>
          obtain rfl := Option.some.inj ho
          exact st_mov rfl (fr.eval rfl) rfl
        | 2, _ =>
          obtain rfl := Option.some.inj ho
          exact st_indexAddr rfl (dep ⟨0, .data⟩ (by simp) rfl) (dep ⟨1, .data⟩ (by simp) rfl) (ix_slice _ _ _ _ _ hlt _) rfl
        | 3, _ =>
          obtain rfl := Option.some.inj ho
          exact st_loadE rfl (dep ⟨2, .data⟩ (by simp) rfl) (C1.out _ gM.up) rfl
        | 4, _ =>
          obtain rfl := Option.some.inj ho
          exact st_mov rfl (fr.eval rfl) rfl
        | 5, _ =>
          obtain rfl := Option.some.inj ho
          exact st_mov rfl (fr.eval rfl) rfl
        | 6, _ =>
          obtain rfl := Option.some.inj ho
          exact st_indexAddr rfl (dep ⟨4, .data⟩ (by simp) rfl) (dep ⟨5, .data⟩ (by simp) rfl) (ix_slice _ _ _ _ _ hlt _) rfl
        | 7, _ =>
          obtain rfl := Option.some.inj ho
          exact st_loadE rfl (dep ⟨6, .data⟩ (by simp) rfl) (C2.out _ gM.up) rfl
        | 8, _ =>
          obtain rfl := Option.some.inj ho
          exact st_bin rfl (dep ⟨3, .data⟩ (by simp) rfl) (dep ⟨7, .data⟩ (by simp) rfl) (ent_neqG x y c HC.out _ _ _) rfl
      · rintro vs wv gM hf
        have f0 : vs 0 = .slice (some ⟨g1, o1, none⟩) n cap1 := hf 0 (by omega)
        have f1 : vs 1 = .int .i64 (j : Int) := hf 1 (by omega)
        have f2 : vs 2 = .pointer (some ⟨g1, o1 + j * 2, none⟩) := hf 2 (by omega)
        have f3 : vs 3 = .agg (entC x.1 x.2) := hf 3 (by omega)
        have f4 : vs 4 = .slice (some ⟨g2, o2, none⟩) n cap2 := hf 4 (by omega)
        have f5 : vs 5 = .int .i64 (j : Int) := hf 5 (by omega)
        have f6 : vs 6 = .pointer (some ⟨g2, o2 + j * 2, none⟩) := hf 6 (by omega)
        have f7 : vs 7 = .agg (entC y.1 y.2) := hf 7 (by omega)
        have f8 : vs 8 = .bool c := hf 8 (by omega)
        simp only [putAll, Act.put, List.getElem?_toArray, List.getElem?_cons_zero, List.getElem?_cons_succ, Option.bind_some, List.setIfInBounds_toArray, List.set_cons_zero, List.set_cons_succ, List.drop_succ_cons, List.drop_zero, List.drop_nil, f8]
        clear f0 f1 f2 f3 f4 f5 f6 f7 f8 hf
        cases c with
        | true =>
          go_wp2_with fail
          go_ret
          have hne : x ≠ y := by have := HC.out; simpa using this
          exact ⟨_, rfl, by rw [HN.out hne]; rfl, gM.up⟩
        | false =>
          go_wp2_with fail
          have hj := HJ.out
          have he : x = y := by have := HC.out; simpa using this
          go_roundg (gk - 1)
          case measure => omega
          case rel => exact ⟨j + 1, by omega, by go_num, Lib.hid (HS.out he), gM⟩
    · obtain rfl : j = n := by omega
      have HE := Lib.hid (show a = b by have := HT.out; rwa [List.take_of_length_le (by rw [HK.out.1]; exact Nat.le_refl _), List.take_of_length_le (by rw [HK.out.2]; exact Nat.le_refl _)] at this)
      clear hj hlt
      go_wp2_with fail
      go_ret
      exact ⟨_, rfl, by rw [decide_eq_true HE.out]; rfl, M.up⟩

set_option maxHeartbeats 2000000 in
set_option maxRecDepth 100000 in
theorem equalE_c (n m : Nat) (a b : List En) (ha : a.length = n) (hb : b.length = m) (va vb : Value) (w : World) (hl : n ≤ 1048576) (hm : m ≤ 1048576) (hva : Rd w 2 va n (enL a)) (hvb : Rd w 2 vb m (enL b)) : Ret Try.prog 37 #[va, vb] w fun r _ => r = .bool (decide (a = b)) := by
  obtain ⟨b1, cap1, rfl⟩ := hva.shape
  obtain ⟨b2, cap2, rfl⟩ := hvb.shape
  have HA := Lib.hid hva
  have HB := Lib.hid hvb
  refine ret_start fun wx M => ?_
  clear hva hvb
  by_cases hnm : n ≠ m
  · have HE := Lib.hid (show decide (a = b) = false from decide_eq_false (fun e => hnm (by rw [← ha, ← hb, e])))
    clear ha hb
    go_enter Try.func37, Try.ntmps37
    go_wp2_with fail
    go_ret
    exact ⟨_, rfl, by rw [HE.out]; rfl, M.up⟩
  obtain rfl : n = m := by omega
  have HK := Lib.hid (And.intro ha hb)
  clear ha hb hnm
  go_enter Try.func37, Try.ntmps37
  go_wp2_with fail
  go_loopg [13] n (fun q i wr => ∃ j : Nat, j + q = n ∧ i = .int .i64 (j : Int) ∧ Hid (a.take j = b.take j) ∧ Mem w wr [])
  case atStart => exact ⟨0, by omega, rfl, Lib.hid rfl, M⟩
  case round =>
    obtain ⟨j, hj, rfl, HT, M⟩ := hrel
    by_cases hlt : j < n
    · have hja : j < a.length := by rw [HK.out.1]; exact hlt
      have hjb : j < b.length := by rw [HK.out.2]; exact hlt
      obtain ⟨g1, o1, rfl, h1⟩ := HA.out.open_ (by omega)
      obtain ⟨g2, o2, rfl, h2⟩ := HB.out.open_ (by omega)
      have C1 := Lib.hid (fun wx (hb : Up w wx) => enL_range (h1 wx hb) j hja)
      have C2 := Lib.hid (fun wx (hb : Up w wx) => enL_range (h2 wx hb) j hjb)
      have HJ := Lib.hid hj
      have HS := Lib.hid (take_snoc_eqE HK.out.1 HK.out.2 hlt HT.out)
      have HN := Lib.hid (show a[j]'hja ≠ b[j]'hjb → decide (a = b) = false from fun hne => decide_eq_false (fun e => hne (by subst e; rfl)))
      generalize (a[j]'hja) = x at *
      generalize (b[j]'hjb) = y at *
      obtain ⟨c, hc⟩ : ∃ c, (!decide (x = y)) = c := ⟨_, rfl⟩
      have HC := Lib.hid hc
      clear h1 h2 hj hja hjb hc
      go_wp2_with fail
      refine region_mono (m := 9) mixedOrders_ (by kernel_rfl) (by kernel_rfl)
        (fun | 0 => fun vq _ => vq = .slice (some ⟨g1, o1, none⟩) n cap1 | 1 => fun vq _ => vq = .int .i64 (j : Int) | 2 => fun vq _ => vq = .pointer (some ⟨g1, o1 + j * 2, none⟩) | 3 => fun vq _ => vq = .agg (entC x.1 x.2) | 4 => fun vq _ => vq = .slice (some ⟨g2, o2, none⟩) n cap2 | 5 => fun vq _ => vq = .int .i64 (j : Int) | 6 => fun vq _ => vq = .pointer (some ⟨g2, o2 + j * 2, none⟩) | 7 => fun vq _ => vq = .agg (entC y.1 y.2) | 8 => fun vq _ => vq = .bool c | _ => fun _ _ => True)
        (fun wx => Mem w wx []) ?_ ?_ ?_ ?_ ?_
      · intro j hj v w1 w2 hb h
        match j, hj with
        | 0, _ => exact h
        | 1, _ => exact h
        | 2, _ => exact h
        | 3, _ => exact h
        | 4, _ => exact h
        | 5, _ => exact h
        | 6, _ => exact h
        | 7, _ => exact h
        | 8, _ => exact h
      · intro w1 w2 hb h
        exact h.grow hb
      · exact M.grow ((Up.refl _).drew)
      · rintro i o hi ho av wv fr gM dep
        match i, hi with
        | 0, _ =>
          obtain rfl := Option.some.inj ho
          exact st_mov rfl (fr.eval rfl) rfl
        | 1, _ =>
          obtain rfl := Option.some.inj ho
          exact st_mov rfl (fr.eval rfl) rfl
        | 2, _ =>
          obtain rfl := Option.some.inj ho
          exact st_indexAddr rfl (dep ⟨0, .data⟩ (by simp) rfl) (dep ⟨1, .data⟩ (by simp) rfl) (ix_slice _ _ _ _ _ hlt _) rfl
        | 3, _ =>
          obtain rfl := Option.some.inj ho
          exact st_loadE rfl (dep ⟨2, .data⟩ (by simp) rfl) (C1.out _ gM.up) rfl
        | 4, _ =>
          obtain rfl := Option.some.inj ho
          exact st_mov rfl (fr.eval rfl) rfl
        | 5, _ =>
          obtain rfl := Option.some.inj ho
          exact st_mov rfl (fr.eval rfl) rfl
        | 6, _ =>
          obtain rfl := Option.some.inj ho
          exact st_indexAddr rfl (dep ⟨4, .data⟩ (by simp) rfl) (dep ⟨5, .data⟩ (by simp) rfl) (ix_slice _ _ _ _ _ hlt _) rfl
        | 7, _ =>
          obtain rfl := Option.some.inj ho
          exact st_loadE rfl (dep ⟨6, .data⟩ (by simp) rfl) (C2.out _ gM.up) rfl
        | 8, _ =>
          obtain rfl := Option.some.inj ho
          exact st_bin rfl (dep ⟨3, .data⟩ (by simp) rfl) (dep ⟨7, .data⟩ (by simp) rfl) (ent_neqG x y c HC.out _ _ _) rfl
      · rintro vs wv gM hf
        have f0 : vs 0 = .slice (some ⟨g1, o1, none⟩) n cap1 := hf 0 (by omega)
        have f1 : vs 1 = .int .i64 (j : Int) := hf 1 (by omega)
        have f2 : vs 2 = .pointer (some ⟨g1, o1 + j * 2, none⟩) := hf 2 (by omega)
        have f3 : vs 3 = .agg (entC x.1 x.2) := hf 3 (by omega)
        have f4 : vs 4 = .slice (some ⟨g2, o2, none⟩) n cap2 := hf 4 (by omega)
        have f5 : vs 5 = .int .i64 (j : Int) := hf 5 (by omega)
        have f6 : vs 6 = .pointer (some ⟨g2, o2 + j * 2, none⟩) := hf 6 (by omega)
        have f7 : vs 7 = .agg (entC y.1 y.2) := hf 7 (by omega)
        have f8 : vs 8 = .bool c := hf 8 (by omega)
        simp only [putAll, Act.put, List.getElem?_toArray, List.getElem?_cons_zero, List.getElem?_cons_succ, Option.bind_some, List.setIfInBounds_toArray, List.set_cons_zero, List.set_cons_succ, List.drop_succ_cons, List.drop_zero, List.drop_nil, f8]
        clear f0 f1 f2 f3 f4 f5 f6 f7 f8 hf
        cases c with
        | true =>
          go_wp2_with fail
          go_ret
          have hne : x ≠ y := by have := HC.out; simpa using this
          exact ⟨_, rfl, by rw [HN.out hne]; rfl, gM.up⟩
        | false =>
          go_wp2_with fail
          have hj := HJ.out
          have he : x = y := by have := HC.out; simpa using this
          go_roundg (gk - 1)
          case measure => omega
          case rel => exact ⟨j + 1, by omega, by go_num, Lib.hid (HS.out he), gM⟩
    · obtain rfl : j = n := by omega
      have HE := Lib.hid (show a = b by have := HT.out; rwa [List.take_of_length_le (by rw [HK.out.1]; exact Nat.le_refl _), List.take_of_length_le (by rw [HK.out.2]; exact Nat.le_refl _)] at this)
      clear hj hlt
      go_wp2_with fail
      go_ret
      exact ⟨_, rfl, by rw [decide_eq_true HE.out]; rfl, M.up⟩

theorem toEntry_r (e : En) (w : World) : Ret Try.prog 36 #[.agg (entC e.1 e.2)] w fun r _ => r = .agg (entC e.1 e.2) := Ret.of (toEntry_c e.1 e.2 w)
theorem made_ents (n : Nat) : madeCells (Value.agg #[.string ByteArray.empty, .string ByteArray.empty]).cells (n * 2) = (List.replicate (n * 2) (Value.string ByteArray.empty)).toArray := by
  apply Array.ext_getElem?
  intro i
  by_cases h : i < n * 2
  · have hm : i % 2 = 0 ∨ i % 2 = 1 := by omega
    rcases hm with hm | hm <;> simp [madeCells, h, Value.cells, hm]
  · rw [Array.getElem?_eq_none (by simp [madeCells]; omega), Array.getElem?_eq_none (by simp; omega)]
theorem put_ents (es : List En) (j q : Nat) (hj : j < es.length) : putC (entC es[j].1 es[j].2).toList (j * 2) (enL (es.take j) ++ List.replicate ((q + 1) * 2) (Value.string ByteArray.empty)).toArray = (enL (es.take (j + 1)) ++ List.replicate (q * 2) (Value.string ByteArray.empty)).toArray := by
  have h1 : (enL (es.take j)).length = j * 2 := by rw [enL_len, List.length_take]; omega
  have h2 : (entC es[j].1 es[j].2).toList.length = 2 := rfl
  rw [putC_list _ _ _ (by rw [h2, List.length_append, h1, List.length_replicate]; omega)]
  rw [List.take_left' h1, List.take_succ_eq_append_getElem hj, enL_append, h2]
  rw [show List.drop (j * 2 + 2) (enL (es.take j) ++ List.replicate ((q + 1) * 2) (Value.string ByteArray.empty)) = List.replicate (q * 2) (Value.string ByteArray.empty) by
    rw [List.drop_append, List.drop_of_length_le (by omega), h1, List.nil_append, List.drop_replicate]; congr 1; omega]
  simp [enL, bE, entC]
theorem entC_one (e : En) : (entC e.1 e.2).all (·.oneCell') = true := by simp [entC, Value.oneCell']
set_option maxHeartbeats 1000000 in
set_option maxRecDepth 100000 in
theorem toEntryS_c (v : Value) (n : Nat) (es : List En) (hes : es.length = n) (w : World) (hv : Rd w 2 v n (enL es)) (hl : n ≤ 1048576) :
    Ret Try.prog 12 #[v] w fun r w' => OwnR w w' 37 2 r n (enL es) := by
  obtain ⟨b, cap, rfl⟩ := hv.shape
  have HV := Lib.hid hv
  have HK := Lib.hid hes
  clear hv hes
  refine ret_start fun wx M => ?_
  go_enter Try.func12, Try.ntmps12
  go_wp2_with (with_reducible (show wpList _ _ _ (Oper.mk _ (.makeSlice _ _ _) _ _ _ _ :: _) _ _); refine m_mk M rfl rfl rfl rfl (by omega) (by omega) ?_; clear M; (try clear wx); intro g7 wx M)
  rw [made_ents] at M
  go_loopg [4] n (fun q i wr => ∃ (j : Nat), j + q = n ∧ i = .int .i64 (j : Int) ∧ Mem w wr [.blk g7 37 (enL (es.take j) ++ List.replicate (q * 2) (Value.string ByteArray.empty)).toArray])
  case atStart => exact ⟨0, by omega, rfl, by simpa [enL] using M⟩
  case round =>
    obtain ⟨j, hj, rfl, M⟩ := hrel
    by_cases hlt : j < n
    · obtain ⟨q, rfl⟩ : ∃ q, gk = q + 1 := ⟨gk - 1, by omega⟩
      obtain ⟨g, o, rfl, h1⟩ := HV.out.open_ (by omega)
      have hkl : j < es.length := by have := HK.out; omega
      have C1 := Lib.hid (fun wx (hb : Up w wx) => enL_range (h1 wx hb) j hkl)
      have HP := Lib.hid (put_ents es j q hkl)
      have HJ := Lib.hid hj
      have hsz : j * 2 + 2 ≤ (enL (es.take j) ++ List.replicate ((q + 1) * 2) (Value.string ByteArray.empty)).toArray.size := by
        simp only [List.size_toArray, List.length_append, enL_len, List.length_take, List.length_replicate]
        omega
      clear h1 hj
      generalize (es[j]'hkl) = x at *
      generalize (enL (es.take j) ++ List.replicate ((q + 1) * 2) (Value.string ByteArray.empty)).toArray = cs at *
      go_wp2_with (first
        | (go_at_call 36; (with_reducible refine mem_call M (toEntry_r x _) ?_); clear M; (try clear wx); rintro _ wx rfl _ M)
        | (with_reducible (show wpList _ _ _ (Oper.mk _ (.store _ _ _) _ _ _ _ :: _) _ _); refine m_storeP M rfl rfl rfl rfl rfl hsz (entC_one x) ?_; clear M; (try clear wx); intro wx M; simp only [List.set_cons_zero, List.set_cons_succ, Nat.zero_add, List.nil_append] at M)
        | (with_reducible (show wpList _ _ _ (Oper.mk _ (.load _ _) _ _ _ _ :: _) _ _); (first | (refine rd_loadE rfl rfl rfl (C1.out _ M.up) ?_) | (refine m_load M rfl rfl rfl (by first | assumption | rfl) ?_) | (refine m_loadR M rfl rfl rfl (by first | rfl | assumption | (simp; done) | (simp; omega)) ?_)))
        | (with_reducible (show wpList _ _ _ (Oper.mk _ (.store _ _ _) _ _ _ _ :: _) _ _); (first | (refine m_storeR M rfl rfl rfl rfl (by first | rfl | assumption | (simp; done) | (simp; omega)) (by first | rfl | assumption | (simp; done) | (simp; omega)) (by first | exact bA_one _ | exact wA_one _ | assumption | (simp [Value.oneCell']; done)) ?_) | (refine m_store (v := Value.int _ _) M rfl rfl rfl rfl rfl (by first | assumption | (simp; done) | (simp; omega)) ?_) | (refine m_store (v := Value.slice _ _ _) M rfl rfl rfl rfl rfl (by first | assumption | (simp; done) | (simp; omega)) ?_) | (refine m_store (v := Value.bool _) M rfl rfl rfl rfl rfl (by first | assumption | (simp; done) | (simp; omega)) ?_) | (refine m_store (v := Value.string _) M rfl rfl rfl rfl rfl (by first | assumption | (simp; done) | (simp; omega)) ?_) | (refine m_store (v := Value.pointer _) M rfl rfl rfl rfl rfl (by first | assumption | (simp; done) | (simp; omega)) ?_)); clear M; (try clear wx); intro wx M; simp only [List.set_cons_zero, List.set_cons_succ, Nat.zero_add, List.nil_append] at M))
      rw [HP.out] at M
      have hj := HJ.out
      go_roundg q
      case measure => omega
      case rel => exact ⟨j + 1, by omega, by go_num, M⟩
    · obtain rfl : j = n := by omega
      obtain rfl : gk = 0 := by omega
      have hml : j ≤ maxLen := by simp only [maxLen]; omega
      rw [List.take_of_length_le (by have := HK.out; omega), Nat.zero_mul, List.replicate_zero, List.append_nil] at M
      have M := M.blk_own (p := 0) rfl 2 j j (Nat.le_refl _) hml (by simp [HK.out]) (xs := enL es) (by show List.take _ (enL es) = enL es; exact List.take_of_length_le (by simp [HK.out]))
      clear hj
      go_wp2_with fail
      go_ret
      exact ⟨_, rfl, ⟨_, _, rfl, M.out_own (p := 0) rfl⟩, M.up⟩

theorem eqEntry_r (e : En) (w : World) : Ret Try.prog 38 #[.agg (entC e.1 e.2), .agg (entC e.1 e.2)] w fun r _ => r = .bool true := by
  refine ret_start fun wx M => ?_
  unfold entC at *
  go_enter Try.func38, Try.ntmps38
  go_wp2_with (first
    | (with_reducible (show wpList _ _ _ (Oper.mk (some 2) (.box _ _) _ _ _ _ :: _) _ _); (first | (refine m_boxA M rfl rfl rfl ?_) | (refine m_box1 (v := Value.int _ _) M rfl rfl rfl rfl ?_) | (refine m_box1 (v := Value.slice _ _ _) M rfl rfl rfl rfl ?_) | (refine m_box1 (v := Value.bool _) M rfl rfl rfl rfl ?_) | (refine m_box1 (v := Value.string _) M rfl rfl rfl rfl ?_) | (refine m_box1 (v := Value.pointer _) M rfl rfl rfl rfl ?_)); clear M; (try clear wx); intro g2 wx M)
    | (with_reducible (show wpList _ _ _ (Oper.mk (some 3) (.box _ _) _ _ _ _ :: _) _ _); (first | (refine m_boxA M rfl rfl rfl ?_) | (refine m_box1 (v := Value.int _ _) M rfl rfl rfl rfl ?_) | (refine m_box1 (v := Value.slice _ _ _) M rfl rfl rfl rfl ?_) | (refine m_box1 (v := Value.bool _) M rfl rfl rfl rfl ?_) | (refine m_box1 (v := Value.string _) M rfl rfl rfl rfl ?_) | (refine m_box1 (v := Value.pointer _) M rfl rfl rfl rfl ?_)); clear M; (try clear wx); intro g3 wx M)
    | (with_reducible (show wpList _ _ _ (Oper.mk _ (.load _ _) _ _ _ _ :: _) _ _); (first | (refine m_load (v := .string e.1) M rfl rfl rfl rfl ?_) | (refine m_load (v := .string e.2) M rfl rfl rfl rfl ?_) | (refine m_load M rfl rfl rfl (by first | assumption | rfl) ?_) | (refine m_loadR M rfl rfl rfl (by first | rfl | assumption | (simp; done) | (simp; omega)) ?_))))
  go_ret
  exact ⟨_, rfl, rfl, M.up⟩
set_option maxHeartbeats 2000000 in
set_option maxRecDepth 100000 in
theorem eqEntryS_same (va vb : Value) (n : Nat) (es : List En) (hes : es.length = n) (w : World) (hn : n ≤ 1000000000000) (ha : Rd w 2 va n (enL es)) (hb : Rd w 2 vb n (enL es)) :
    Ret Try.prog 14 #[va, vb] w fun r _ => r = .bool true := by
  obtain ⟨b1, cap1, rfl⟩ := ha.shape
  obtain ⟨b2, cap2, rfl⟩ := hb.shape
  have HA := Lib.hid ha
  have HB := Lib.hid hb
  have HK := Lib.hid hes
  refine ret_start fun wx M => ?_
  clear ha hb hes
  go_enter Try.func14, Try.ntmps14
  go_wp2_with fail
  go_loopg [5] n (fun q i wr => ∃ j : Nat, j + q = n ∧ i = .int .i64 (j : Int) ∧ Mem w wr [])
  case atStart => exact ⟨0, by omega, rfl, M⟩
  case round =>
    obtain ⟨j, hj, rfl, M⟩ := hrel
    by_cases hlt : j < n
    · have hkl : j < es.length := by rw [HK.out]; exact hlt
      obtain ⟨g1, o1, rfl, h1⟩ := HA.out.open_ (by omega)
      obtain ⟨g2, o2, rfl, h2⟩ := HB.out.open_ (by omega)
      have C1 := Lib.hid (fun wx (hb : Up w wx) => enL_range (h1 wx hb) j hkl)
      have C2 := Lib.hid (fun wx (hb : Up w wx) => enL_range (h2 wx hb) j hkl)
      have HJ := Lib.hid hj
      generalize (es[j]'hkl) = x at *
      clear h1 h2 hj hkl
      go_wp2_with fail
      refine region_mono (m := 10) mixedOrders_ (by kernel_rfl) (by kernel_rfl)
        (fun | 0 => fun vq _ => vq = .slice (some ⟨g1, o1, none⟩) n cap1 | 1 => fun vq _ => vq = .int .i64 (j : Int) | 2 => fun vq _ => vq = .pointer (some ⟨g1, o1 + j * 2, none⟩) | 3 => fun vq _ => vq = .agg (entC x.1 x.2) | 4 => fun vq _ => vq = .slice (some ⟨g2, o2, none⟩) n cap2 | 5 => fun vq _ => vq = .int .i64 (j : Int) | 6 => fun vq _ => vq = .pointer (some ⟨g2, o2 + j * 2, none⟩) | 7 => fun vq _ => vq = .agg (entC x.1 x.2) | 8 => fun vq _ => vq = .bool true | 9 => fun vq _ => vq = .bool (!true) | _ => fun _ _ => True)
        (fun wx => Mem w wx []) ?_ ?_ ?_ ?_ ?_
      · intro j hj v w1 w2 hb h
        match j, hj with
        | 0, _ => exact h
        | 1, _ => exact h
        | 2, _ => exact h
        | 3, _ => exact h
        | 4, _ => exact h
        | 5, _ => exact h
        | 6, _ => exact h
        | 7, _ => exact h
        | 8, _ => exact h
        | 9, _ => exact h
      · intro w1 w2 hb h
        exact h.grow hb
      · exact M.grow ((Up.refl _).drew)
      · rintro i o hi ho av wv fr gM dep
        match i, hi with
        | 0, _ =>
          obtain rfl := Option.some.inj ho
          exact st_mov rfl (fr.eval rfl) rfl
        | 1, _ =>
          obtain rfl := Option.some.inj ho
          exact st_mov rfl (fr.eval rfl) rfl
        | 2, _ =>
          obtain rfl := Option.some.inj ho
          exact st_indexAddr rfl (dep ⟨0, .data⟩ (by simp) rfl) (dep ⟨1, .data⟩ (by simp) rfl) (ix_slice _ _ _ _ _ hlt _) rfl
        | 3, _ =>
          obtain rfl := Option.some.inj ho
          exact st_loadE rfl (dep ⟨2, .data⟩ (by simp) rfl) (C1.out _ gM.up) rfl
        | 4, _ =>
          obtain rfl := Option.some.inj ho
          exact st_mov rfl (fr.eval rfl) rfl
        | 5, _ =>
          obtain rfl := Option.some.inj ho
          exact st_mov rfl (fr.eval rfl) rfl
        | 6, _ =>
          obtain rfl := Option.some.inj ho
          exact st_indexAddr rfl (dep ⟨4, .data⟩ (by simp) rfl) (dep ⟨5, .data⟩ (by simp) rfl) (ix_slice _ _ _ _ _ hlt _) rfl
        | 7, _ =>
          obtain rfl := Option.some.inj ho
          exact st_loadE rfl (dep ⟨6, .data⟩ (by simp) rfl) (C2.out _ gM.up) rfl
        | 8, _ =>
          obtain rfl := Option.some.inj ho
          have d0 := dep ⟨3, .data⟩ (by simp) rfl
          have d1 := dep ⟨7, .data⟩ (by simp) rfl
          exact st_ret2 rfl (fun _ _ => by kernel_rfl) d0 d1 (eqEntry_r x _) (fun r w' h _ => h)
        | 9, _ =>
          obtain rfl := Option.some.inj ho
          exact st_not rfl (dep ⟨8, .data⟩ (by simp) rfl) rfl
      · rintro vs wv gM hf
        have f0 : vs 0 = .slice (some ⟨g1, o1, none⟩) n cap1 := hf 0 (by omega)
        have f1 : vs 1 = .int .i64 (j : Int) := hf 1 (by omega)
        have f2 : vs 2 = .pointer (some ⟨g1, o1 + j * 2, none⟩) := hf 2 (by omega)
        have f3 : vs 3 = .agg (entC x.1 x.2) := hf 3 (by omega)
        have f4 : vs 4 = .slice (some ⟨g2, o2, none⟩) n cap2 := hf 4 (by omega)
        have f5 : vs 5 = .int .i64 (j : Int) := hf 5 (by omega)
        have f6 : vs 6 = .pointer (some ⟨g2, o2 + j * 2, none⟩) := hf 6 (by omega)
        have f7 : vs 7 = .agg (entC x.1 x.2) := hf 7 (by omega)
        have f8 : vs 8 = .bool true := hf 8 (by omega)
        have f9 : vs 9 = .bool (!true) := hf 9 (by omega)
        simp only [putAll, Act.put, List.getElem?_toArray, List.getElem?_cons_zero, List.getElem?_cons_succ, Option.bind_some, List.setIfInBounds_toArray, List.set_cons_zero, List.set_cons_succ, List.drop_succ_cons, List.drop_zero, List.drop_nil, f9]
        clear f0 f1 f2 f3 f4 f5 f6 f7 f8 f9 hf
        go_wp2_with fail
        have hj := HJ.out
        go_roundg (gk - 1)
        case measure => omega
        case rel => exact ⟨j + 1, by omega, by go_num, gM⟩
    · obtain rfl : j = n := by omega
      clear hj hlt
      go_wp2_with fail
      go_ret
      exact ⟨_, rfl, rfl, M.up⟩

/-- What is left of a measure when entries are taken off; -1: too much. -/
def szF : List En → Int → Int
  | [], left => left
  | e :: es, left => if szE e.1 e.2 left < 0 then -1 else szF es (szE e.1 e.2 left)
def szT (es : List En) (left : Int) : Int := if left - es.length < 0 then -1 else szF es (left - es.length)
theorem szE_le (n v : ByteArray) (left : Int) (h : 0 ≤ left) : szE n v left ≤ left := by
  unfold szE
  split
  · omega
  · split <;> omega
theorem szF_le (es : List En) : ∀ left, 0 ≤ left → szF es left ≤ left := by
  induction es with
  | nil => intro left h; exact Int.le_refl _
  | cons e es ih =>
    intro left h
    have h1 := szE_le e.1 e.2 left h
    rw [szF]
    split
    · omega
    · have := ih (szE e.1 e.2 left) (by omega)
      omega
/-- Every text is of a length that a machine can hold. -/
def smallE (es : List En) : Prop := ∀ e ∈ es, e.1.size ≤ maxLen ∧ e.2.size ≤ maxLen
set_option maxHeartbeats 2000000 in
set_option maxRecDepth 100000 in
theorem szEntryS_c (v : Value) (n : Nat) (es : List En) (hes : es.length = n) (hsm : smallE es) (left : Int) (h0 : 0 ≤ left) (h1 : left ≤ 1048576) (hn : n ≤ maxLen) (w : World) (hv : Rd w 2 v n (enL es)) :
    Ret Try.prog 10 #[v, .int .i64 left] w fun r _ => r = .int .i64 (szT es left) := by
  obtain ⟨b, cap, rfl⟩ := hv.shape
  have HV := Lib.hid hv
  have HK := Lib.hid (And.intro hes hsm)
  have hm : (n : Int) ≤ 9223372036854775807 := by
    have : maxLen ≤ 9223372036854775807 := by decide
    omega
  refine ret_start fun wx M => ?_
  clear hv
  by_cases c1 : left - n < 0
  · have HE := Lib.hid (show szT es left = -1 by rw [szT, hes, if_pos c1])
    clear hes hsm hn
    go_enter Try.func10, Try.ntmps10
    go_wp2_with fail
    go_ret
    exact ⟨_, rfl, by rw [HE.out]; rfl, M.up⟩
  · have HE := Lib.hid (show szT es left = szF es (left - n) by rw [szT, hes, if_neg c1])
    obtain ⟨T, hT⟩ : ∃ T, szF es (left - n) = T := ⟨_, rfl⟩
    rw [hT] at HE
    have HT := Lib.hid hT
    clear hes hsm hn hT
    go_enter Try.func10, Try.ntmps10
    go_wp2_with fail
    go_loopg [1, 5] n (fun q x i wr => ∃ (j : Nat) (lf : Int), j + q = n ∧ x = .int .i64 lf ∧ i = .int .i64 (j : Int) ∧ 0 ≤ lf ∧ lf ≤ 1048576 ∧ Hid (szF (es.drop j) lf = T) ∧ Mem w wr [])
    case atStart => exact ⟨0, left - n, by omega, rfl, rfl, by omega, by omega, Lib.hid HT.out, M⟩
    case round =>
      obtain ⟨j, lf, hj, rfl, rfl, hl0, hl1, HL, M⟩ := hrel
      by_cases hlt : j < n
      · have hkl : j < es.length := by rw [HK.out.1]; exact hlt
        obtain ⟨g1, o1, rfl, h1'⟩ := HV.out.open_ (by omega)
        have C1 := Lib.hid (fun wx (hb : Up w wx) => enL_range (h1' wx hb) j hkl)
        have HD := Lib.hid (show es.drop j = es[j]'hkl :: es.drop (j + 1) from List.drop_eq_getElem_cons hkl)
        have hx := HK.out.2 (es[j]'hkl) (List.getElem_mem hkl)
        have HJ := Lib.hid hj
        have HSZ := Lib.hid (fun w => Ret.of (szEntry_c (es[j]'hkl).1 (es[j]'hkl).2 hx.1 hx.2 lf hl0 hl1 w))
        have hle := szE_le (es[j]'hkl).1 (es[j]'hkl).2 lf hl0
        have HF := Lib.hid (show (if szE (es[j]'hkl).1 (es[j]'hkl).2 lf < 0 then -1 else szF (es.drop (j + 1)) (szE (es[j]'hkl).1 (es[j]'hkl).2 lf)) = T by have := HL.out; rw [HD.out, szF] at this; exact this)
        generalize szE (es[j]'hkl).1 (es[j]'hkl).2 lf = lf2 at *
        generalize (es[j]'hkl) = x at *
        clear h1' hj hkl hx
        have HIX := Lib.hid hlt
        by_cases hneg : lf2 < 0
        · have HF := Lib.hid (show T = -1 by rw [← HF.out, if_pos hneg])
          go_wp2_with (first
            | (go_at_call 34; (with_reducible refine mem_call M (HSZ.out _) ?_); clear M; (try clear wx); rintro _ wx rfl _ M)
            | (with_reducible (show wpList _ _ _ (Oper.mk _ (.load _ _) _ _ _ _ :: _) _ _); (first | (refine rd_loadE rfl rfl rfl (C1.out _ M.up) ?_) | (refine m_load M rfl rfl rfl (by first | assumption | rfl) ?_) | (refine m_loadR M rfl rfl rfl (by first | rfl | assumption | (simp; done) | (simp; omega)) ?_))))
          go_ret
          exact ⟨_, rfl, by rw [HE.out, HF.out]; rfl, M.up⟩
        · have HF := Lib.hid (show szF (es.drop (j + 1)) lf2 = T by rw [← HF.out, if_neg hneg])
          go_wp2_with (first
            | (go_at_call 34; (with_reducible refine mem_call M (HSZ.out _) ?_); clear M; (try clear wx); rintro _ wx rfl _ M)
            | (with_reducible (show wpList _ _ _ (Oper.mk _ (.load _ _) _ _ _ _ :: _) _ _); (first | (refine rd_loadE rfl rfl rfl (C1.out _ M.up) ?_) | (refine m_load M rfl rfl rfl (by first | assumption | rfl) ?_) | (refine m_loadR M rfl rfl rfl (by first | rfl | assumption | (simp; done) | (simp; omega)) ?_))))
          have hj := HJ.out
          go_roundg (gk - 1)
          case measure => omega
          case rel => exact ⟨j + 1, lf2, by omega, rfl, by go_num, by omega, by omega, HF, M⟩
      · obtain rfl : j = n := by omega
        have HF := Lib.hid (show lf = T by have := HL.out; rwa [List.drop_of_length_le (by rw [HK.out.1]; exact Nat.le_refl _)] at this)
        clear hj hlt
        go_wp2_with fail
        go_ret
        exact ⟨_, rfl, by rw [HE.out, ← HF.out]; rfl, M.up⟩

end Go.Proofs.Ytcldkllllojgpaa

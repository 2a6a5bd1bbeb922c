/- Walks: the clash of two lists. -/
import Derived.Test.YtmbhaoiahlbglaaHV
namespace Go.Proofs.Ytmbhaoiahlbglaa
open Go.RowKit
set_option linter.unusedVariables false
set_option linter.unusedSimpArgs false

set_option maxRecDepth 100000 in
theorem key_neq (a b : Ky) (w : World) : (binOp .neq 25 (.agg (bA a.1)) (.agg (bA b.1))).run Try.prog w = .ok (.bool (!decide (a = b))) w := by
  have h := run_equalIn_bytes (P := Try.prog) w 9998 25 5 32 Try.underlying25 Try.underlying5 (fun w => Try.sizeOf5 w) a.1 b.1 a.2 b.2
  rw [run_neq_struct, show (.agg (bA a.1) : Value) = .agg (a.1.map Extern.Stop.cell).toArray from rfl, show (.agg (bA b.1) : Value) = .agg (b.1.map Extern.Stop.cell).toArray from rfl, h]
  show Result.ok (Value.bool (!(a.1 == b.1))) w = _
  congr 3
  rw [Bool.eq_iff_iff]
  simp [Subtype.ext_iff]
set_option maxRecDepth 100000 in
theorem key_neqG (a b : Ky) (c : Bool) (hc : (!decide (a = b)) = c) (x y : Operand) (w : World) : Sem.run Try.prog (do eqGuard .neq 25 x y (.agg (bA a.1)) (.agg (bA b.1)); binOp .neq 25 (.agg (bA a.1)) (.agg (bA b.1))) w = .ok (.bool c) w := by
  rw [Sem.run_bind, run_eqGuard_agg _ _ _ _ _ _ _ (by kernel_rfl), Result.andThen_ok, key_neq, hc]

theorem take_snoc_eq {a b : List Ky} {j n : Nat} (ha : a.length = n) (hb : b.length = n) (hj : j < n) (h : a.take j = b.take j) (he : a[j]'(by omega) = b[j]'(by omega)) : a.take (j + 1) = b.take (j + 1) := by
  rw [List.take_succ_eq_append_getElem (by omega), List.take_succ_eq_append_getElem (by omega), h, he]

set_option maxHeartbeats 2000000 in
set_option maxRecDepth 100000 in
theorem l03Lists_c (n : Nat) (a b : List Ky) (ha : a.length = n) (hb : b.length = n) (va vb : Value) (w : World) (hl : n ≤ 1048576) (hva : Rd w 32 va n (kyL a)) (hvb : Rd w 32 vb n (kyL b)) : Ret Try.prog 53 #[va, vb] w fun r _ => r = .bool (decide (a = b)) := by
  obtain ⟨b1, cap1, rfl⟩ := hva.shape
  obtain ⟨b2, cap2, rfl⟩ := hvb.shape
  have HA := Lib.hid hva
  have HB := Lib.hid hvb
  have HK := Lib.hid (And.intro ha hb)
  refine ret_start fun wx M => ?_
  clear hva hvb ha hb
  go_enter Try.func53, Try.ntmps53
  go_wp2_with fail
  go_loopg [5] n (fun q i wr => ∃ j : Nat, j + q = n ∧ i = .int .i64 (j : Int) ∧ Hid (a.take j = b.take j) ∧ Mem w wr [])
  case atStart => exact ⟨0, by omega, rfl, Lib.hid rfl, M⟩
  case round =>
    obtain ⟨j, hj, rfl, HT, M⟩ := hrel
    by_cases hlt : j < n
    · have hja : j < a.length := by rw [HK.out.1]; exact hlt
      have hjb : j < b.length := by rw [HK.out.2]; exact hlt
      obtain ⟨g1, o1, rfl, h1⟩ := HA.out.open_ (by omega)
      obtain ⟨g2, o2, rfl, h2⟩ := HB.out.open_ (by omega)
      have C1 := Lib.hid (fun wx (hb : Up w wx) => kyL_range (h1 wx hb) j hja)
      have C2 := Lib.hid (fun wx (hb : Up w wx) => kyL_range (h2 wx hb) j hjb)
      have HJ := Lib.hid hj
      have HS := Lib.hid (take_snoc_eq HK.out.1 HK.out.2 hlt HT.out)
      have HN := Lib.hid (show a[j]'hja ≠ b[j]'hjb → decide (a = b) = false from fun hne => decide_eq_false (fun e => hne (by subst e; rfl)))
      generalize (a[j]'hja) = x at *
      generalize (b[j]'hjb) = y at *
      obtain ⟨c, hc⟩ : ∃ c, (!decide (x = y)) = c := ⟨_, rfl⟩
      have HC := Lib.hid hc
      clear h1 h2 hj hja hjb hc
      go_wp2_with fail
      refine region_mono (m := 9) mixedOrders_ (by kernel_rfl) (by kernel_rfl)
        (fun | 0 => fun vq _ => vq = .slice (some ⟨g1, o1, none⟩) n cap1 | 1 => fun vq _ => vq = .int .i64 (j : Int) | 2 => fun vq _ => vq = .pointer (some ⟨g1, o1 + j * 32, none⟩) | 3 => fun vq _ => vq = .agg (bA (x.1)) | 4 => fun vq _ => vq = .slice (some ⟨g2, o2, none⟩) n cap2 | 5 => fun vq _ => vq = .int .i64 (j : Int) | 6 => fun vq _ => vq = .pointer (some ⟨g2, o2 + j * 32, none⟩) | 7 => fun vq _ => vq = .agg (bA (y.1)) | 8 => fun vq _ => vq = .bool c | _ => fun _ _ => True)
        (fun wx => Mem w wx []) ?_ ?_ ?_ ?_ ?_
      · intro j hj v w1 w2 hb h
        match j, hj with
        | 0, _ => exact h
        | 1, _ => exact h
        | 2, _ => exact h
        | 3, _ => exact h
        | 4, _ => exact h
        | 5, _ => exact h
        | 6, _ => exact h
        | 7, _ => exact h
        | 8, _ => exact h
      · intro w1 w2 hb h
        exact h.grow hb
      · exact M.grow ((Up.refl _).drew)
      · rintro i o hi ho av wv fr gM dep
        match i, hi with
        | 0, _ =>
          obtain rfl := Option.some.inj ho
          exact st_mov rfl (fr.eval rfl) rfl
        | 1, _ =>
          obtain rfl := Option.some.inj ho
          exact st_mov rfl (fr.eval rfl) rfl
        | 2, _ =>
          obtain rfl := Option.some.inj ho
          exact st_indexAddr rfl (dep ⟨0, .data⟩ (by simp) rfl) (dep ⟨1, .data⟩ (by simp) rfl) (ix_slice _ _ _ _ _ hlt _) rfl
        | 3, _ =>
          obtain rfl := Option.some.inj ho
          exact st_loadA rfl (dep ⟨2, .data⟩ (by simp) rfl) (C1.out _ gM.up) x.2 rfl
        | 4, _ =>
          obtain rfl := Option.some.inj ho
          exact st_mov rfl (fr.eval rfl) rfl
        | 5, _ =>
          obtain rfl := Option.some.inj ho
          exact st_mov rfl (fr.eval rfl) rfl
        | 6, _ =>
          obtain rfl := Option.some.inj ho
          exact st_indexAddr rfl (dep ⟨4, .data⟩ (by simp) rfl) (dep ⟨5, .data⟩ (by simp) rfl) (ix_slice _ _ _ _ _ hlt _) rfl
        | 7, _ =>
          obtain rfl := Option.some.inj ho
          exact st_loadA rfl (dep ⟨6, .data⟩ (by simp) rfl) (C2.out _ gM.up) y.2 rfl
        | 8, _ =>
          obtain rfl := Option.some.inj ho
          exact st_bin rfl (dep ⟨3, .data⟩ (by simp) rfl) (dep ⟨7, .data⟩ (by simp) rfl) (key_neqG x y c HC.out _ _ _) rfl
      · rintro vs wv gM hf
        have f0 : vs 0 = .slice (some ⟨g1, o1, none⟩) n cap1 := hf 0 (by omega)
        have f1 : vs 1 = .int .i64 (j : Int) := hf 1 (by omega)
        have f2 : vs 2 = .pointer (some ⟨g1, o1 + j * 32, none⟩) := hf 2 (by omega)
        have f3 : vs 3 = .agg (bA (x.1)) := hf 3 (by omega)
        have f4 : vs 4 = .slice (some ⟨g2, o2, none⟩) n cap2 := hf 4 (by omega)
        have f5 : vs 5 = .int .i64 (j : Int) := hf 5 (by omega)
        have f6 : vs 6 = .pointer (some ⟨g2, o2 + j * 32, none⟩) := hf 6 (by omega)
        have f7 : vs 7 = .agg (bA (y.1)) := hf 7 (by omega)
        have f8 : vs 8 = .bool c := hf 8 (by omega)
        simp only [putAll, Act.put, List.getElem?_toArray, List.getElem?_cons_zero, List.getElem?_cons_succ, Option.bind_some, List.setIfInBounds_toArray, List.set_cons_zero, List.set_cons_succ, List.drop_succ_cons, List.drop_zero, List.drop_nil, f8]
        clear f0 f1 f2 f3 f4 f5 f6 f7 f8 hf
        cases c with
        | true =>
          go_wp2_with fail
          go_ret
          have hne : x ≠ y := by have := HC.out; simpa using this
          exact ⟨_, rfl, by rw [HN.out hne]; rfl, gM.up⟩
        | false =>
          go_wp2_with fail
          have hj := HJ.out
          have he : x = y := by have := HC.out; simpa using this
          go_roundg (gk - 1)
          case measure => omega
          case rel => exact ⟨j + 1, by omega, by go_num, Lib.hid (HS.out he), gM⟩
    · obtain rfl : j = n := by omega
      have HE := Lib.hid (show a = b by have := HT.out; rwa [List.take_of_length_le (by rw [HK.out.1]; exact Nat.le_refl _), List.take_of_length_le (by rw [HK.out.2]; exact Nat.le_refl _)] at this)
      clear hj hlt
      go_wp2_with fail
      go_ret
      exact ⟨_, rfl, by rw [decide_eq_true HE.out]; rfl, M.up⟩

set_option maxHeartbeats 2000000 in
set_option maxRecDepth 100000 in
theorem equalK_c (n : Nat) (a b : List Ky) (ha : a.length = n) (hb : b.length = n) (va vb : Value) (w : World) (hl : n ≤ 1048576) (hva : Rd w 32 va n (kyL a)) (hvb : Rd w 32 vb n (kyL b)) : Ret Try.prog 56 #[va, vb] w fun r _ => r = .bool (decide (a = b)) := by
  obtain ⟨b1, cap1, rfl⟩ := hva.shape
  obtain ⟨b2, cap2, rfl⟩ := hvb.shape
  have HA := Lib.hid hva
  have HB := Lib.hid hvb
  have HK := Lib.hid (And.intro ha hb)
  refine ret_start fun wx M => ?_
  clear hva hvb ha hb
  go_enter Try.func56, Try.ntmps56
  go_wp2_with fail
  go_loopg [13] n (fun q i wr => ∃ j : Nat, j + q = n ∧ i = .int .i64 (j : Int) ∧ Hid (a.take j = b.take j) ∧ Mem w wr [])
  case atStart => exact ⟨0, by omega, rfl, Lib.hid rfl, M⟩
  case round =>
    obtain ⟨j, hj, rfl, HT, M⟩ := hrel
    by_cases hlt : j < n
    · have hja : j < a.length := by rw [HK.out.1]; exact hlt
      have hjb : j < b.length := by rw [HK.out.2]; exact hlt
      obtain ⟨g1, o1, rfl, h1⟩ := HA.out.open_ (by omega)
      obtain ⟨g2, o2, rfl, h2⟩ := HB.out.open_ (by omega)
      have C1 := Lib.hid (fun wx (hb : Up w wx) => kyL_range (h1 wx hb) j hja)
      have C2 := Lib.hid (fun wx (hb : Up w wx) => kyL_range (h2 wx hb) j hjb)
      have HJ := Lib.hid hj
      have HS := Lib.hid (take_snoc_eq HK.out.1 HK.out.2 hlt HT.out)
      have HN := Lib.hid (show a[j]'hja ≠ b[j]'hjb → decide (a = b) = false from fun hne => decide_eq_false (fun e => hne (by subst e; rfl)))
      generalize (a[j]'hja) = x at *
      generalize (b[j]'hjb) = y at *
      obtain ⟨c, hc⟩ : ∃ c, (!decide (x = y)) = c := ⟨_, rfl⟩
      have HC := Lib.hid hc
      clear h1 h2 hj hja hjb hc
      go_wp2_with fail
      refine region_mono (m := 9) mixedOrders_ (by kernel_rfl) (by kernel_rfl)
        (fun | 0 => fun vq _ => vq = .slice (some ⟨g1, o1, none⟩) n cap1 | 1 => fun vq _ => vq = .int .i64 (j : Int) | 2 => fun vq _ => vq = .pointer (some ⟨g1, o1 + j * 32, none⟩) | 3 => fun vq _ => vq = .agg (bA (x.1)) | 4 => fun vq _ => vq = .slice (some ⟨g2, o2, none⟩) n cap2 | 5 => fun vq _ => vq = .int .i64 (j : Int) | 6 => fun vq _ => vq = .pointer (some ⟨g2, o2 + j * 32, none⟩) | 7 => fun vq _ => vq = .agg (bA (y.1)) | 8 => fun vq _ => vq = .bool c | _ => fun _ _ => True)
        (fun wx => Mem w wx []) ?_ ?_ ?_ ?_ ?_
      · intro j hj v w1 w2 hb h
        match j, hj with
        | 0, _ => exact h
        | 1, _ => exact h
        | 2, _ => exact h
        | 3, _ => exact h
        | 4, _ => exact h
        | 5, _ => exact h
        | 6, _ => exact h
        | 7, _ => exact h
        | 8, _ => exact h
      · intro w1 w2 hb h
        exact h.grow hb
      · exact M.grow ((Up.refl _).drew)
      · rintro i o hi ho av wv fr gM dep
        match i, hi with
        | 0, _ =>
          obtain rfl := Option.some.inj ho
          exact st_mov rfl (fr.eval rfl) rfl
        | 1, _ =>
          obtain rfl := Option.some.inj ho
          exact st_mov rfl (fr.eval rfl) rfl
        | 2, _ =>
          obtain rfl := Option.some.inj ho
          exact st_indexAddr rfl (dep ⟨0, .data⟩ (by simp) rfl) (dep ⟨1, .data⟩ (by simp) rfl) (ix_slice _ _ _ _ _ hlt _) rfl
        | 3, _ =>
          obtain rfl := Option.some.inj ho
          exact st_loadA rfl (dep ⟨2, .data⟩ (by simp) rfl) (C1.out _ gM.up) x.2 rfl
        | 4, _ =>
          obtain rfl := Option.some.inj ho
          exact st_mov rfl (fr.eval rfl) rfl
        | 5, _ =>
          obtain rfl := Option.some.inj ho
          exact st_mov rfl (fr.eval rfl) rfl
        | 6, _ =>
          obtain rfl := Option.some.inj ho
          exact st_indexAddr rfl (dep ⟨4, .data⟩ (by simp) rfl) (dep ⟨5, .data⟩ (by simp) rfl) (ix_slice _ _ _ _ _ hlt _) rfl
        | 7, _ =>
          obtain rfl := Option.some.inj ho
          exact st_loadA rfl (dep ⟨6, .data⟩ (by simp) rfl) (C2.out _ gM.up) y.2 rfl
        | 8, _ =>
          obtain rfl := Option.some.inj ho
          exact st_bin rfl (dep ⟨3, .data⟩ (by simp) rfl) (dep ⟨7, .data⟩ (by simp) rfl) (key_neqG x y c HC.out _ _ _) rfl
      · rintro vs wv gM hf
        have f0 : vs 0 = .slice (some ⟨g1, o1, none⟩) n cap1 := hf 0 (by omega)
        have f1 : vs 1 = .int .i64 (j : Int) := hf 1 (by omega)
        have f2 : vs 2 = .pointer (some ⟨g1, o1 + j * 32, none⟩) := hf 2 (by omega)
        have f3 : vs 3 = .agg (bA (x.1)) := hf 3 (by omega)
        have f4 : vs 4 = .slice (some ⟨g2, o2, none⟩) n cap2 := hf 4 (by omega)
        have f5 : vs 5 = .int .i64 (j : Int) := hf 5 (by omega)
        have f6 : vs 6 = .pointer (some ⟨g2, o2 + j * 32, none⟩) := hf 6 (by omega)
        have f7 : vs 7 = .agg (bA (y.1)) := hf 7 (by omega)
        have f8 : vs 8 = .bool c := hf 8 (by omega)
        simp only [putAll, Act.put, List.getElem?_toArray, List.getElem?_cons_zero, List.getElem?_cons_succ, Option.bind_some, List.setIfInBounds_toArray, List.set_cons_zero, List.set_cons_succ, List.drop_succ_cons, List.drop_zero, List.drop_nil, f8]
        clear f0 f1 f2 f3 f4 f5 f6 f7 f8 hf
        cases c with
        | true =>
          go_wp2_with fail
          go_ret
          have hne : x ≠ y := by have := HC.out; simpa using this
          exact ⟨_, rfl, by rw [HN.out hne]; rfl, gM.up⟩
        | false =>
          go_wp2_with fail
          have hj := HJ.out
          have he : x = y := by have := HC.out; simpa using this
          go_roundg (gk - 1)
          case measure => omega
          case rel => exact ⟨j + 1, by omega, by go_num, Lib.hid (HS.out he), gM⟩
    · obtain rfl : j = n := by omega
      have HE := Lib.hid (show a = b by have := HT.out; rwa [List.take_of_length_le (by rw [HK.out.1]; exact Nat.le_refl _), List.take_of_length_le (by rw [HK.out.2]; exact Nat.le_refl _)] at this)
      clear hj hlt
      go_wp2_with fail
      go_ret
      exact ⟨_, rfl, by rw [decide_eq_true HE.out]; rfl, M.up⟩

/-- The clash of two lists. -/
def clL (a b : List Ky) : Ky × Ky × Ky × Ky :=
  if h : a.length ≤ 1 then (zeroKy, zeroKy, zeroKy, zeroKy) else
    if listK (a.take (halfN a.length)) ≠ listK (b.take (halfN a.length)) ∨ listK (a.drop (halfN a.length)) ≠ listK (b.drop (halfN a.length)) then
      (listK (a.take (halfN a.length)), listK (a.drop (halfN a.length)), listK (b.take (halfN a.length)), listK (b.drop (halfN a.length)))
    else if a.take (halfN a.length) = b.take (halfN a.length) then clL (a.drop (halfN a.length)) (b.drop (halfN a.length)) else clL (a.take (halfN a.length)) (b.take (halfN a.length))
termination_by a.length
decreasing_by
  · rw [List.length_drop]; have := halfN_pos a.length; omega
  · rw [List.length_take]; have := halfN_lt a.length (by omega); omega
theorem clL_1 (a b : List Ky) (n : Nat) (ha : a.length = n) (h2 : 2 ≤ n) (h : listK (a.take (halfN n)) ≠ listK (b.take (halfN n)) ∨ listK (a.drop (halfN n)) ≠ listK (b.drop (halfN n))) : clL a b = (listK (a.take (halfN n)), listK (a.drop (halfN n)), listK (b.take (halfN n)), listK (b.drop (halfN n))) := by
  subst ha
  rw [clL, dif_neg (by omega), if_pos h]
theorem clL_2 (a b : List Ky) (n : Nat) (ha : a.length = n) (h2 : 2 ≤ n) (h : listK (a.take (halfN n)) = listK (b.take (halfN n))) (h' : listK (a.drop (halfN n)) = listK (b.drop (halfN n))) (hne : a.take (halfN n) ≠ b.take (halfN n)) : clL a b = clL (a.take (halfN n)) (b.take (halfN n)) := by
  subst ha
  rw [clL, dif_neg (by omega), if_neg (by rintro (c | c); exact c h; exact c h'), if_neg hne]
theorem clL_3 (a b : List Ky) (n : Nat) (ha : a.length = n) (h2 : 2 ≤ n) (h : listK (a.take (halfN n)) = listK (b.take (halfN n))) (h' : listK (a.drop (halfN n)) = listK (b.drop (halfN n))) (he : a.take (halfN n) = b.take (halfN n)) : clL a b = clL (a.drop (halfN n)) (b.drop (halfN n)) := by
  subst ha
  rw [clL, dif_neg (by omega), if_neg (by rintro (c | c); exact c h; exact c h'), if_pos he]
/-- A clash's cells. -/
def claV (c : Ky × Ky × Ky × Ky) : Array Value := claC c.1.1 c.2.1.1 c.2.2.1.1 c.2.2.2.1
@[simp] theorem claV_size (c : Ky × Ky × Ky × Ky) : (claV c).size = 128 := by simp [claV]
theorem claC_one (a b c d : List UInt8) : (claC a b c d).all (·.oneCell') = true := by simp [claC, bL, bV, Value.oneCell']
theorem claV_one (c : Ky × Ky × Ky × Ky) : (claV c).all (·.oneCell') = true := claC_one _ _ _ _
theorem bLk_take (k : Ky) (n : Nat) (h : 32 ≤ n) : List.take n (bL k.1) = bL k.1 := List.take_of_length_le (by simp [bL_length]; exact h)
theorem bLk_drop (k : Ky) (n : Nat) (h : 32 ≤ n) : List.drop n (bL k.1) = [] := List.drop_of_length_le (by simp [bL_length]; exact h)
theorem cla_set0 (x a b c d : Ky) : putC (bL x.1) 0 (claC a.1 b.1 c.1 d.1) = claC x.1 b.1 c.1 d.1 := by
  unfold claC
  rw [putC_list _ _ _ (by simp [bL_length])]
  simp [bL_length, List.append_assoc]
theorem cla_set1 (x a b c d : Ky) : putC (bL x.1) 32 (claC a.1 b.1 c.1 d.1) = claC a.1 x.1 c.1 d.1 := by
  unfold claC
  rw [putC_list _ _ _ (by simp [bL_length])]
  simp [bL_length, List.append_assoc, List.take_append, List.drop_append, bLk_take, bLk_drop]
theorem cla_set2 (x a b c d : Ky) : putC (bL x.1) 64 (claC a.1 b.1 c.1 d.1) = claC a.1 b.1 x.1 d.1 := by
  unfold claC
  rw [putC_list _ _ _ (by simp [bL_length])]
  simp [bL_length, List.append_assoc, List.take_append, List.drop_append, bLk_take, bLk_drop]
theorem cla_set3 (x a b c d : Ky) : putC (bL x.1) 96 (claC a.1 b.1 c.1 d.1) = claC a.1 b.1 c.1 x.1 := by
  unfold claC
  rw [putC_list _ _ _ (by simp [bL_length])]
  simp [bL_length, List.append_assoc, List.take_append, List.drop_append, bLk_take, bLk_drop]
theorem cla_get0 (a b c d : Ky) : ∀ (j : Nat) (v : Value), (bL a.1)[j]? = some v → (claC a.1 b.1 c.1 d.1)[0 + j]? = some v := by
  intro j v h
  have hj := (List.getElem?_eq_some_iff.1 h).1
  simp only [bL_length, Ky.len] at hj
  simp only [claC, List.getElem?_toArray, List.append_assoc, Nat.zero_add]
  rw [List.getElem?_append_left (by simp [bL_length]; omega)]
  exact h
theorem cla_get1 (a b c d : Ky) : ∀ (j : Nat) (v : Value), (bL b.1)[j]? = some v → (claC a.1 b.1 c.1 d.1)[32 + j]? = some v := by
  intro j v h
  have hj := (List.getElem?_eq_some_iff.1 h).1
  simp only [bL_length, Ky.len] at hj
  simp only [claC, List.getElem?_toArray, List.append_assoc]
  rw [List.getElem?_append_right (by simp [bL_length]), List.getElem?_append_left (by simp [bL_length]; omega)]
  simpa [bL_length] using h
theorem cla_get2 (a b c d : Ky) : ∀ (j : Nat) (v : Value), (bL c.1)[j]? = some v → (claC a.1 b.1 c.1 d.1)[64 + j]? = some v := by
  intro j v h
  have hj := (List.getElem?_eq_some_iff.1 h).1
  simp only [bL_length, Ky.len] at hj
  simp only [claC, List.getElem?_toArray, List.append_assoc]
  rw [List.getElem?_append_right (by simp [bL_length]; omega), List.getElem?_append_right (by simp [bL_length]; omega), List.getElem?_append_left (by simp [bL_length]; omega)]
  simpa [bL_length, show 64 + j - 32 - 32 = j by omega] using h
theorem cla_get3 (a b c d : Ky) : ∀ (j : Nat) (v : Value), (bL d.1)[j]? = some v → (claC a.1 b.1 c.1 d.1)[96 + j]? = some v := by
  intro j v h
  have hj := (List.getElem?_eq_some_iff.1 h).1
  simp only [bL_length, Ky.len] at hj
  simp only [claC, List.getElem?_toArray, List.append_assoc]
  rw [List.getElem?_append_right (by simp [bL_length]; omega), List.getElem?_append_right (by simp [bL_length]; omega), List.getElem?_append_right (by simp [bL_length]; omega)]
  simpa [bL_length, show 96 + j - 32 - 32 - 32 = j by omega] using h
@[simp] theorem claC_zero : (claC zero32 zero32 zero32 zero32).size = 128 := claC_size zeroKy zeroKy zeroKy zeroKy
/-- A part written by a literal. -/
theorem fill_cons (place : Nat → Option (Nat × Nat)) (cs : Array Value) (i : Nat) (v : Value) (rest : List (Nat × Value)) (off size : Nat) (hp : place i = some (off, size)) (hs : v.cells.size = size) (hb : off + size ≤ cs.size) :
    Instr.fill place cs ((i, v) :: rest) = Instr.fill place (putC v.cells.toList off cs) rest := by
  have key : ∀ (l : List Value) (k : Nat) (c : Array Value), (l.zipIdx k).foldl (fun cs (x : Value × Nat) => cs.setIfInBounds (off + x.2) x.1) c = putC l (off + k) c := by
    intro l
    induction l with
    | nil => intro k c; rfl
    | cons u l ih => intro k c; simp only [List.zipIdx_cons, List.foldl_cons]; rw [ih, putC, Nat.add_assoc]
  conv => lhs; unfold Instr.fill
  simp only [hp]
  rw [if_neg (by simp [hs]; exact hb)]
  rw [← Array.foldl_toList, Array.toList_zipIdx, key, Nat.add_zero]
theorem built_cla (parts : List (Nat × Value)) : Try.prog.built 27 parts = Instr.fill (#[(0, 32), (32, 32), (64, 32), (96, 32)][·]?) (claC zeroKy.1 zeroKy.1 zeroKy.1 zeroKy.1) parts := by kernel_rfl
theorem built_cla4 (a b c d : Ky) : Try.prog.built 27 [(0, .agg (bA a.1)), (1, .agg (bA b.1)), (2, .agg (bA c.1)), (3, .agg (bA d.1))] = some (claC a.1 b.1 c.1 d.1) := by
  have hc : ∀ k : Ky, (Value.agg (bA k.1)).cells.toList = bL k.1 := fun _ => rfl
  have hs : ∀ k : Ky, (Value.agg (bA k.1)).cells.size = 32 := fun k => by show (bA k.1).size = 32; simp
  rw [built_cla, fill_cons _ _ _ _ _ 0 32 rfl (hs a) (by simp [putC_size]), fill_cons _ _ _ _ _ 32 32 rfl (hs b) (by simp [putC_size]), fill_cons _ _ _ _ _ 64 32 rfl (hs c) (by simp [putC_size]), fill_cons _ _ _ _ _ 96 32 rfl (hs d) (by simp [putC_size]), hc, hc, hc, hc, cla_set0, cla_set1, cla_set2, cla_set3]
  rfl
theorem built_cla2 (a b : Ky) : Try.prog.built 27 [(0, .agg (bA a.1)), (1, .agg (bA b.1))] = some (claC a.1 b.1 zeroKy.1 zeroKy.1) := by
  have hc : ∀ k : Ky, (Value.agg (bA k.1)).cells.toList = bL k.1 := fun _ => rfl
  have hs : ∀ k : Ky, (Value.agg (bA k.1)).cells.size = 32 := fun k => by show (bA k.1).size = 32; simp
  rw [built_cla, fill_cons _ _ _ _ _ 0 32 rfl (hs a) (by simp [putC_size]), fill_cons _ _ _ _ _ 32 32 rfl (hs b) (by simp [putC_size]), hc, hc, cla_set0, cla_set1]
  rfl
section
variable {P : Program} {Q : Exit → Act → World → Prop} {o : Oper} {a : Act} {w : World} {F : Value → World → Prop}
theorem st_build {t : TypeId} {parts : Array (Nat × Operand)} (ho : o.op = .build t parts) {cells : Array Value} (hf : P.built t (parts.map fun p => (p.1, a.eval p.2)).toList = some cells) (hF : F (.agg cells) w) : St P o a w Q F := by
  refine st_run (v := .agg cells) ?_ hF
  unfold execOp
  rw [ho]
  simp only
  rw [Sem.run_bind, run_build w t _ _ hf]
  rfl
theorem st_build4 {t : TypeId} {x0 x1 x2 x3 : Operand} (ho : o.op = .build t #[(0, x0), (1, x1), (2, x2), (3, x3)]) {v0 v1 v2 v3 : Value} (h0 : a.eval x0 = v0) (h1 : a.eval x1 = v1) (h2 : a.eval x2 = v2) (h3 : a.eval x3 = v3) {cells : Array Value} (hb : P.built t [(0, v0), (1, v1), (2, v2), (3, v3)] = some cells) (hF : F (.agg cells) w) : St P o a w Q F :=
  st_build ho (by simpa [h0, h1, h2, h3] using hb) hF
theorem st_build2 {t : TypeId} {x0 x1 : Operand} (ho : o.op = .build t #[(0, x0), (1, x1)]) {v0 v1 : Value} (h0 : a.eval x0 = v0) (h1 : a.eval x1 = v1) {cells : Array Value} (hb : P.built t [(0, v0), (1, v1)] = some cells) (hF : F (.agg cells) w) : St P o a w Q F :=
  st_build ho (by simpa [h0, h1] using hb) hF
end
section
variable {P : Program} {ops : Array Oper} {rest : List Oper} {o : Oper} {a : Act} {w0 w : World} {Q : Exit → Act → World → Prop} {L : List It}
/-- Bytes out of the middle of a block. -/
theorem m_loadB (M : Mem w0 w L) (hgd : o.guard = none) {ty : TypeId} {x : Operand} (ho : o.op = .load ty x) {g i : Nat} (hx : a.eval x = .pointer (some ⟨g, i, none⟩)) {n : Nat} [hT : RowT P ty n]
    {p : Nat} {t : TypeId} {cs : Array Value} [hL : AtG L g p t cs] {l : List UInt8} (hc : ∀ (j : Nat) (v : Value), (bL l)[j]? = some v → cs[i + j]? = some v) (hn : l.length = n)
    (h : wpList P ops Q rest (a.put o.dst (.agg (bA l))) w) : wpList P ops Q (o :: rest) a w := m_loadP M hgd ho hx hc (by rw [bL_length, hn]) h
end
section
variable {P : Program} {ops : Array Oper} {rest : List Oper} {o : Oper} {a : Act} {w0 w : World} {Q : Exit → Act → World → Prop} {L : List It}
theorem wpList_want (hw : Region.wanted o (yielded ops a.tmps) = true) (h : o.wp P a w (wpList P ops Q rest) Q) : wpList P ops Q (o :: rest) a w := by
  unfold wpList
  rw [if_pos hw]
  exact .inl h
/-- The same where a guard lets the load by. -/
theorem m_loadBw (M : Mem w0 w L) (hgd : Region.wanted o (yielded ops a.tmps) = true) {ty : TypeId} {x : Operand} (ho : o.op = .load ty x) {g i : Nat} (hx : a.eval x = .pointer (some ⟨g, i, none⟩)) {n : Nat} [hT : RowT P ty n]
    {p : Nat} {t : TypeId} {cs : Array Value} [hL : AtG L g p t cs] {l : List UInt8} (hc : ∀ (j : Nat) (v : Value), (bL l)[j]? = some v → cs[i + j]? = some v) (hn : l.length = n)
    (h : wpList P ops Q rest (a.put o.dst (.agg (bA l))) w) : wpList P ops Q (o :: rest) a w := by
  obtain ⟨d, h1, h2, h3⟩ := hT.out
  exact wpList_want hgd (wp_load_mid ty x ho g i hx (bL l) d (Blk.rng (M.blkG g) i (bL l) hc) h1 h2 (by rw [h3, bL_length, hn]) h)
end

end Go.Proofs.Ytmbhaoiahlbglaa

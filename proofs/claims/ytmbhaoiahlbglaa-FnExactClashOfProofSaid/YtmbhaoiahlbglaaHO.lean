/- Walks: keys of lists. -/
import Derived.Test.YtmbhaoiahlbglaaHM
import Derived.Test.YtmbhaoiahlbglaaHHq
namespace Go.Proofs.Ytmbhaoiahlbglaa
open Go.RowKit
set_option linter.unusedVariables false
set_option linter.unusedSimpArgs false

section
variable {P : Program} {ops : Array Oper} {Q : Exit → Act → World → Prop} {o : Oper} {a : Act} {w w0 : World} {F : Value → World → Prop} {L : List It}
theorem st_slH {t : TypeId} {x y : Operand} (ho : o.op = .slice t x none (some y) none) {e : TypeId} [ht : SliceT P t e] {size bytes : Nat} {z : Value} [he : ElT P e size bytes z] {b : Option Addr} {cap n h : Nat} {xs : List Value}
    (hx : a.eval x = .slice b n cap) (hy : a.eval y = .int .i64 (h : Int)) (hr : Rd w size (.slice b n cap) n xs) (hh : h ≤ n) (hF : ∀ v, Rd w size v h (xs.take (h * size)) → F v w) : St P o a w Q F := by
  have hc := hr.len_
  have hrun := run_slice_ (P := P) ht he b n cap 0 h (Nat.zero_le _) (by omega) none (some (.int .i64 (h : Int))) rfl rfl w
  have hR := hr.slice_ 0 h (Nat.zero_le _) hh
  rw [Nat.zero_mul, List.drop_zero, Nat.sub_zero, Nat.sub_zero] at hR
  refine st_run (v := _) ?_ (hF _ hR)
  unfold execOp
  rw [ho]
  simp only [hx, hy, Option.map_some, Option.map_none]
  rw [Sem.run_bind, hrun, Nat.zero_mul]
  rfl
theorem st_slL {t : TypeId} {x y : Operand} (ho : o.op = .slice t x (some y) none none) {e : TypeId} [ht : SliceT P t e] {size bytes : Nat} {z : Value} [he : ElT P e size bytes z] {b : Option Addr} {cap n l : Nat} {xs : List Value}
    (hx : a.eval x = .slice b n cap) (hy : a.eval y = .int .i64 (l : Int)) (hr : Rd w size (.slice b n cap) n xs) (hl : l ≤ n) (hF : ∀ v, Rd w size v (n - l) (xs.drop (l * size)) → F v w) : St P o a w Q F := by
  have hc := hr.len_
  have hrun := run_slice_ (P := P) ht he b n cap l n hl (by omega) (some (.int .i64 (l : Int))) none rfl rfl w
  have hR := hr.slice_ l n hl (Nat.le_refl _)
  rw [List.take_of_length_le (by rw [List.length_drop, hc.2.2, ← Nat.sub_mul]; exact Nat.le_refl _)] at hR
  refine st_run (v := _) ?_ (hF _ hR)
  unfold execOp
  rw [ho]
  simp only [hx, hy, Option.map_some, Option.map_none]
  rw [Sem.run_bind, hrun]
  rfl
end
theorem kyL_take (ks : List Ky) (m : Nat) : (kyL ks).take (m * 32) = kyL (ks.take m) := by
  by_cases h : m ≤ ks.length
  · have : kyL ks = kyL (ks.take m) ++ kyL (ks.drop m) := by rw [← kyL_append, List.take_append_drop]
    rw [this, List.take_left' (by rw [kyL_len, List.length_take, Nat.min_eq_left h])]
  · rw [List.take_of_length_le (by rw [kyL_len]; omega), List.take_of_length_le (by omega)]
theorem kyL_drop (ks : List Ky) (m : Nat) : (kyL ks).drop (m * 32) = kyL (ks.drop m) := by
  by_cases h : m ≤ ks.length
  · have : kyL ks = kyL (ks.take m) ++ kyL (ks.drop m) := by rw [← kyL_append, List.take_append_drop]
    rw [this, List.drop_left' (by rw [kyL_len, List.length_take, Nat.min_eq_left h])]
  · rw [List.drop_of_length_le (by rw [kyL_len]; omega), List.drop_of_length_le (by omega)]
    rfl
/-- The key of a list. -/
def listK (ks : List Ky) : Ky :=
  if h : ks.length ≤ 1 then (if ks.length = 0 then hashK 3 [] else ks.getD 0 zeroKy)
  else nodeK (listK (ks.take (halfN ks.length))) (listK (ks.drop (halfN ks.length)))
termination_by ks.length
decreasing_by
  · rw [List.length_take]; have := halfN_lt ks.length (by omega); omega
  · rw [List.length_drop]; have := halfN_pos ks.length; omega
theorem listK_0 : listK [] = hashK 3 [] := by rw [listK]; rfl
theorem listK_1 (k : Ky) : listK [k] = k := by rw [listK]; rfl
theorem listK_2 (ks : List Ky) (n : Nat) (hn : ks.length = n) (h : 2 ≤ n) : listK ks = nodeK (listK (ks.take (halfN n))) (listK (ks.drop (halfN n))) := by
  subst hn
  rw [listK, dif_neg (by omega)]

theorem l01Hash_3 (v : Value) (w : World) (h : Rd w 1 v 0 []) : Ret Try.prog 102 #[.int .u8 3, v] w fun r _ => r = .agg (bA (hashK 3 []).1) := l01Hash_c 3 v [] w h (by decide)
set_option maxHeartbeats 1000000 in
set_option maxRecDepth 100000 in
theorem l03Key_c (n : Nat) : ∀ (ks : List Ky), ks.length = n → n ≤ 256 → ∀ v w, Rd w 32 v n (kyL ks) → Ret Try.prog 52 #[v] w fun r _ => r = .agg (bA (listK ks).1) := by
  induction n using Nat.strongRecOn with
  | ind n ih =>
  intro ks hks hn v w hv
  obtain ⟨b, cap, rfl⟩ := hv.shape
  have HV := Lib.hid hv
  have IH := Lib.hid ih
  clear hv ih
  refine ret_start fun wx M => ?_
  rcases (show n = 0 ∨ n = 1 ∨ 2 ≤ n by omega) with rfl | rfl | h2
  · obtain rfl := List.eq_nil_of_length_eq_zero hks
    rw [listK_0]
    go_enter Try.func52, Try.ntmps52
    go_wp2_with (first
      | (go_at_call 102; (with_reducible refine mem_call M (l01Hash_3 _ _ (M.rdO (by simp))) ?_); clear M; (try clear wx); rintro _ wx rfl _ M)
      | (with_reducible (show wpList _ _ _ (Oper.mk (some 2) (.alloc _) _ _ _ _ :: _) _ _); refine mem_new M rfl rfl ?_; clear M; (try clear wx); intro g2 wx M)
      | (with_reducible (show wpList _ _ _ (Oper.mk (some 7) (.buildSlice _ _ _) _ _ _ _ :: _) _ _); refine m_lit0 M rfl rfl ?_; clear M; (try clear wx); intro g7 wx M)
      | (with_reducible (show wpList _ _ _ (Oper.mk _ (.load _ _) _ _ _ _ :: _) _ _); (first | (refine m_load M rfl rfl rfl (by first | assumption | rfl) ?_) | (refine m_loadR M rfl rfl rfl (by first | rfl | assumption | (simp; done) | (simp; omega)) ?_)))
      | (with_reducible (show wpList _ _ _ (Oper.mk _ (.store _ _ _) _ _ _ _ :: _) _ _); (first | (refine m_storeR M rfl rfl rfl rfl (by first | rfl | assumption | (simp; done) | (simp; omega)) (by first | rfl | assumption | (simp; done) | (simp; omega)) (by first | exact bA_one _ | exact wA_one _ | assumption | (simp [Value.oneCell']; done)) ?_) | (refine m_store (v := Value.int _ _) M rfl rfl rfl rfl rfl (by first | assumption | (simp; done) | (simp; omega)) ?_) | (refine m_store (v := Value.slice _ _ _) M rfl rfl rfl rfl rfl (by first | assumption | (simp; done) | (simp; omega)) ?_) | (refine m_store (v := Value.bool _) M rfl rfl rfl rfl rfl (by first | assumption | (simp; done) | (simp; omega)) ?_) | (refine m_store (v := Value.string _) M rfl rfl rfl rfl rfl (by first | assumption | (simp; done) | (simp; omega)) ?_) | (refine m_store (v := Value.pointer _) M rfl rfl rfl rfl rfl (by first | assumption | (simp; done) | (simp; omega)) ?_)); clear M; (try clear wx); intro wx M; simp only [List.set_cons_zero, List.set_cons_succ, Nat.zero_add, List.nil_append] at M))
    exact m_ret M rfl rfl rfl (by simp) rfl
  · obtain ⟨k, rfl⟩ := List.length_eq_one_iff.1 hks
    rw [listK_1]
    obtain ⟨g, o, rfl, h1⟩ := HV.out.open_ (by omega)
    have C1 := Lib.hid (show ∀ wx, Up w wx → wx.rangeAt g o (bL k.1) from fun wx hb => by have := h1 wx hb; simpa [kyL] using this)
    clear h1
    go_enter Try.func52, Try.ntmps52
    go_wp2_with (first
      | (with_reducible (show wpList _ _ _ (Oper.mk (some 2) (.alloc _) _ _ _ _ :: _) _ _); refine mem_new M rfl rfl ?_; clear M; (try clear wx); intro g2 wx M)
      | (with_reducible (show wpList _ _ _ (Oper.mk (some 7) (.buildSlice _ _ _) _ _ _ _ :: _) _ _); refine m_lit0 M rfl rfl ?_; clear M; (try clear wx); intro g7 wx M)
      | (with_reducible (show wpList _ _ _ (Oper.mk _ (.load _ _) _ _ _ _ :: _) _ _); (first | (refine rd_loadA rfl rfl rfl (C1.out _ M.up) k.2 ?_) | (refine m_load M rfl rfl rfl (by first | assumption | rfl) ?_) | (refine m_loadR M rfl rfl rfl (by first | rfl | assumption | (simp; done) | (simp; omega)) ?_)))
      | (with_reducible (show wpList _ _ _ (Oper.mk _ (.store _ _ _) _ _ _ _ :: _) _ _); (first | (refine m_storeR M rfl rfl rfl rfl (by first | rfl | assumption | (simp; done) | (simp; omega)) (by first | rfl | assumption | (simp; done) | (simp; omega)) (by first | exact bA_one _ | exact wA_one _ | assumption | (simp [Value.oneCell']; done)) ?_) | (refine m_store (v := Value.int _ _) M rfl rfl rfl rfl rfl (by first | assumption | (simp; done) | (simp; omega)) ?_) | (refine m_store (v := Value.slice _ _ _) M rfl rfl rfl rfl rfl (by first | assumption | (simp; done) | (simp; omega)) ?_) | (refine m_store (v := Value.bool _) M rfl rfl rfl rfl rfl (by first | assumption | (simp; done) | (simp; omega)) ?_) | (refine m_store (v := Value.string _) M rfl rfl rfl rfl rfl (by first | assumption | (simp; done) | (simp; omega)) ?_) | (refine m_store (v := Value.pointer _) M rfl rfl rfl rfl rfl (by first | assumption | (simp; done) | (simp; omega)) ?_)); clear M; (try clear wx); intro wx M; simp only [List.set_cons_zero, List.set_cons_succ, Nat.zero_add, List.nil_append] at M))
    exact m_ret M rfl rfl rfl (by simp) rfl
  · have hm1 := halfN_lt n h2
    have hm2 := halfN_pos n
    have HH := Lib.hid (l03Half_c n (by omega))
    have HE := Lib.hid (listK_2 ks n hks h2)
    have HA : Hid (∀ v w, Rd w 32 v (halfN n) ((kyL ks).take (halfN n * 32)) → Ret Try.prog 52 #[v] w fun r _ => r = .agg (bA (listK (ks.take (halfN n))).1)) := Lib.hid (fun v w h => IH.out _ hm1 _ (by rw [List.length_take]; omega) (by omega) v w (by rw [kyL_take] at h; exact h))
    have HB : Hid (∀ v w, Rd w 32 v (n - halfN n) ((kyL ks).drop (halfN n * 32)) → Ret Try.prog 52 #[v] w fun r _ => r = .agg (bA (listK (ks.drop (halfN n))).1)) := Lib.hid (fun v w h => IH.out (n - halfN n) (by omega) _ (by rw [List.length_drop, hks]) (by omega) v w (by rw [kyL_drop] at h; exact h))
    clear hks
    generalize listK (ks.take (halfN n)) = x at *
    generalize listK (ks.drop (halfN n)) = y at *
    generalize halfN n = m at *
    go_enter Try.func52, Try.ntmps52
    go_wp2_with (first
      | (go_at_call 103; (with_reducible refine mem_call M (HH.out _) ?_); clear M; (try clear wx); rintro _ wx rfl _ M)
      | (with_reducible (show wpList _ _ _ (Oper.mk (some 2) (.alloc _) _ _ _ _ :: _) _ _); refine mem_new M rfl rfl ?_; clear M; (try clear wx); intro g2 wx M)
      | (with_reducible (show wpList _ _ _ (Oper.mk (some 7) (.buildSlice _ _ _) _ _ _ _ :: _) _ _); refine m_lit0 M rfl rfl ?_; clear M; (try clear wx); intro g7 wx M)
      | (with_reducible (show wpList _ _ _ (Oper.mk _ (.load _ _) _ _ _ _ :: _) _ _); (first | (refine m_load M rfl rfl rfl (by first | assumption | rfl) ?_) | (refine m_loadR M rfl rfl rfl (by first | rfl | assumption | (simp; done) | (simp; omega)) ?_)))
      | (with_reducible (show wpList _ _ _ (Oper.mk _ (.store _ _ _) _ _ _ _ :: _) _ _); (first | (refine m_storeR M rfl rfl rfl rfl (by first | rfl | assumption | (simp; done) | (simp; omega)) (by first | rfl | assumption | (simp; done) | (simp; omega)) (by first | exact bA_one _ | exact wA_one _ | assumption | (simp [Value.oneCell']; done)) ?_) | (refine m_store (v := Value.int _ _) M rfl rfl rfl rfl rfl (by first | assumption | (simp; done) | (simp; omega)) ?_) | (refine m_store (v := Value.slice _ _ _) M rfl rfl rfl rfl rfl (by first | assumption | (simp; done) | (simp; omega)) ?_) | (refine m_store (v := Value.bool _) M rfl rfl rfl rfl rfl (by first | assumption | (simp; done) | (simp; omega)) ?_) | (refine m_store (v := Value.string _) M rfl rfl rfl rfl rfl (by first | assumption | (simp; done) | (simp; omega)) ?_) | (refine m_store (v := Value.pointer _) M rfl rfl rfl rfl rfl (by first | assumption | (simp; done) | (simp; omega)) ?_)); clear M; (try clear wx); intro wx M; simp only [List.set_cons_zero, List.set_cons_succ, Nat.zero_add, List.nil_append] at M))
    refine region_mono (m := 9) mixedOrders_ (by kernel_rfl) (by kernel_rfl)
      (fun | 0 => fun vq _ => vq = .slice b n cap | 1 => fun vq _ => vq = .int .i64 (m : Int) | 2 => fun v wx => Rd wx 32 v m ((kyL ks).take (m * 32)) | 3 => fun vq _ => vq = .agg (bA x.1) | 4 => fun vq _ => vq = .slice b n cap | 5 => fun vq _ => vq = .int .i64 (m : Int) | 6 => fun v wx => Rd wx 32 v (n - m) ((kyL ks).drop (m * 32)) | 7 => fun vq _ => vq = .agg (bA y.1) | 8 => fun vq _ => vq = .agg (bA (nodeK x y).1) | _ => fun _ _ => True)
      (fun wx => Mem w wx [.blk g2 25 (bA zero32)]) ?_ ?_ ?_ ?_ ?_
    · intro j hj v w1 w2 hb h
      match j, hj with
      | 0, _ => exact h
      | 1, _ => exact h
      | 2, _ => exact h.up hb
      | 3, _ => exact h
      | 4, _ => exact h
      | 5, _ => exact h
      | 6, _ => exact h.up hb
      | 7, _ => exact h
      | 8, _ => exact h
    · intro w1 w2 hb h
      exact h.grow hb
    · exact M.grow ((Up.refl _).drew)
    · rintro i o hi ho av wv fr gM dep
      match i, hi with
      | 0, _ =>
        obtain rfl := Option.some.inj ho
        exact st_mov rfl (fr.eval rfl) rfl
      | 1, _ =>
        obtain rfl := Option.some.inj ho
        exact st_mov rfl (fr.eval rfl) rfl
      | 2, _ =>
        obtain rfl := Option.some.inj ho
        exact st_slH rfl (dep ⟨0, .data⟩ (by simp) rfl) (dep ⟨1, .data⟩ (by simp) rfl) (HV.out.up gM.up) (Nat.le_of_lt hm1) (fun v h => h)
      | 3, _ =>
        obtain rfl := Option.some.inj ho
        have D2 := dep ⟨2, .data⟩ (by simp) rfl
        exact st_ret1 rfl (fun _ _ => by kernel_rfl) (rfl) (HA.out _ _ D2) (fun r w' h _ => h)
      | 4, _ =>
        obtain rfl := Option.some.inj ho
        exact st_mov rfl (fr.eval rfl) rfl
      | 5, _ =>
        obtain rfl := Option.some.inj ho
        exact st_mov rfl (fr.eval rfl) rfl
      | 6, _ =>
        obtain rfl := Option.some.inj ho
        exact st_slL rfl (dep ⟨4, .data⟩ (by simp) rfl) (dep ⟨5, .data⟩ (by simp) rfl) (HV.out.up gM.up) (Nat.le_of_lt hm1) (fun v h => h)
      | 7, _ =>
        obtain rfl := Option.some.inj ho
        have D6 := dep ⟨6, .data⟩ (by simp) rfl
        exact st_ret1 rfl (fun _ _ => by kernel_rfl) (rfl) (HB.out _ _ D6) (fun r w' h _ => h)
      | 8, _ =>
        obtain rfl := Option.some.inj ho
        have d0 := dep ⟨3, .data⟩ (by simp) rfl
        have d1 := dep ⟨7, .data⟩ (by simp) rfl
        exact st_ret2 rfl (fun _ _ => by kernel_rfl) d0 d1 (l03Node_c x y _) (fun r w' h _ => h)
    · rintro vs wv gM hf
      have f0 : vs 0 = .slice b n cap := hf 0 (by omega)
      have f1 : vs 1 = .int .i64 (m : Int) := hf 1 (by omega)
      have f2 := hf 2 (by omega)
      have f3 : vs 3 = .agg (bA x.1) := hf 3 (by omega)
      have f4 : vs 4 = .slice b n cap := hf 4 (by omega)
      have f5 : vs 5 = .int .i64 (m : Int) := hf 5 (by omega)
      have f6 := hf 6 (by omega)
      have f7 : vs 7 = .agg (bA y.1) := hf 7 (by omega)
      have f8 : vs 8 = .agg (bA (nodeK x y).1) := hf 8 (by omega)
      simp only [putAll, Act.put, List.getElem?_toArray, List.getElem?_cons_zero, List.getElem?_cons_succ, Option.bind_some, List.setIfInBounds_toArray, List.set_cons_zero, List.set_cons_succ, List.drop_succ_cons, List.drop_zero, List.drop_nil, f8]
      clear f0 f1 f2 f3 f4 f5 f6 f7 f8 hf
      have M := gM
      go_wp2_with (first
        | (with_reducible (show wpList _ _ _ (Oper.mk (some 2) (.alloc _) _ _ _ _ :: _) _ _); refine mem_new M rfl rfl ?_; clear M; (try clear wx); intro g2 wx M)
        | (with_reducible (show wpList _ _ _ (Oper.mk (some 7) (.buildSlice _ _ _) _ _ _ _ :: _) _ _); refine m_lit0 M rfl rfl ?_; clear M; (try clear wx); intro g7 wx M)
        | (with_reducible (show wpList _ _ _ (Oper.mk _ (.load _ _) _ _ _ _ :: _) _ _); (first | (refine m_load M rfl rfl rfl (by first | assumption | rfl) ?_) | (refine m_loadR M rfl rfl rfl (by first | rfl | assumption | (simp; done) | (simp; omega)) ?_)))
        | (with_reducible (show wpList _ _ _ (Oper.mk _ (.store _ _ _) _ _ _ _ :: _) _ _); (first | (refine m_storeR M rfl rfl rfl rfl (by first | rfl | assumption | (simp; done) | (simp; omega)) (by first | rfl | assumption | (simp; done) | (simp; omega)) (by first | exact bA_one _ | exact wA_one _ | assumption | (simp [Value.oneCell']; done)) ?_) | (refine m_store (v := Value.int _ _) M rfl rfl rfl rfl rfl (by first | assumption | (simp; done) | (simp; omega)) ?_) | (refine m_store (v := Value.slice _ _ _) M rfl rfl rfl rfl rfl (by first | assumption | (simp; done) | (simp; omega)) ?_) | (refine m_store (v := Value.bool _) M rfl rfl rfl rfl rfl (by first | assumption | (simp; done) | (simp; omega)) ?_) | (refine m_store (v := Value.string _) M rfl rfl rfl rfl rfl (by first | assumption | (simp; done) | (simp; omega)) ?_) | (refine m_store (v := Value.pointer _) M rfl rfl rfl rfl rfl (by first | assumption | (simp; done) | (simp; omega)) ?_)); clear M; (try clear wx); intro wx M; simp only [List.set_cons_zero, List.set_cons_succ, Nat.zero_add, List.nil_append] at M))
      exact m_ret M rfl rfl rfl (by simp) (by rw [HE.out])

theorem implHash_3 (w : World) : Ret Try.prog 105 #[.int .u8 3, .slice none 0 0] w fun r _ => r = .agg (bA (hashK 3 []).1) := hash_c 3 _ [] w (Rd.nil w 1) (by decide)
theorem sizeKey_c (b : Option Addr) (n cap : Nat) (w : World) : Ret Try.prog 66 #[.slice b n cap] w fun r _ => r = .int .i64 (n : Int) := by
  refine ret_start fun wx M => ?_
  go_enter Try.func66, Try.ntmps66
  go_wp2_with fail
  go_ret
  exact ⟨_, rfl, rfl, M.up⟩
theorem unused_3 (v : Value) (w : World) (h : Rd w 1 v 0 []) : Ret Try.prog 102 #[.int .u8 3, v] w fun r _ => r = .agg (bA (hashK 3 []).1) := l01Hash_c 3 v [] w h (by decide)
set_option maxHeartbeats 1000000 in
set_option maxRecDepth 100000 in
theorem listKey_c (n : Nat) : ∀ (ks : List Ky), ks.length = n → n ≤ 256 → ∀ v w, Rd w 32 v n (kyL ks) → Ret Try.prog 55 #[v] w fun r _ => r = .agg (bA (listK ks).1) := by
  induction n using Nat.strongRecOn with
  | ind n ih =>
  intro ks hks hn v w hv
  obtain ⟨b, cap, rfl⟩ := hv.shape
  have HV := Lib.hid hv
  have IH := Lib.hid ih
  clear hv ih
  refine ret_start fun wx M => ?_
  rcases (show n = 0 ∨ n = 1 ∨ 2 ≤ n by omega) with rfl | rfl | h2
  · obtain rfl := List.eq_nil_of_length_eq_zero hks
    rw [listK_0]
    go_enter Try.func55, Try.ntmps55
    go_wp2_with (first
      | (go_at_call 66; (with_reducible refine mem_call M (sizeKey_c _ _ _ _) ?_); clear M; (try clear wx); rintro _ wx rfl _ M)
      | (go_at_call 105; (with_reducible refine mem_call M (implHash_3 _) ?_); clear M; (try clear wx); rintro _ wx rfl _ M)
      | (with_reducible (show wpList _ _ _ (Oper.mk (some 2) (.alloc _) _ _ _ _ :: _) _ _); refine mem_new M rfl rfl ?_; clear M; (try clear wx); intro g2 wx M)
      | (with_reducible (show wpList _ _ _ (Oper.mk _ (.load _ _) _ _ _ _ :: _) _ _); (first | (refine m_load M rfl rfl rfl (by first | assumption | rfl) ?_) | (refine m_loadR M rfl rfl rfl (by first | rfl | assumption | (simp; done) | (simp; omega)) ?_)))
      | (with_reducible (show wpList _ _ _ (Oper.mk _ (.store _ _ _) _ _ _ _ :: _) _ _); (first | (refine m_storeR M rfl rfl rfl rfl (by first | rfl | assumption | (simp; done) | (simp; omega)) (by first | rfl | assumption | (simp; done) | (simp; omega)) (by first | exact bA_one _ | exact wA_one _ | assumption | (simp [Value.oneCell']; done)) ?_) | (refine m_store (v := Value.int _ _) M rfl rfl rfl rfl rfl (by first | assumption | (simp; done) | (simp; omega)) ?_) | (refine m_store (v := Value.slice _ _ _) M rfl rfl rfl rfl rfl (by first | assumption | (simp; done) | (simp; omega)) ?_) | (refine m_store (v := Value.bool _) M rfl rfl rfl rfl rfl (by first | assumption | (simp; done) | (simp; omega)) ?_) | (refine m_store (v := Value.string _) M rfl rfl rfl rfl rfl (by first | assumption | (simp; done) | (simp; omega)) ?_) | (refine m_store (v := Value.pointer _) M rfl rfl rfl rfl rfl (by first | assumption | (simp; done) | (simp; omega)) ?_)); clear M; (try clear wx); intro wx M; simp only [List.set_cons_zero, List.set_cons_succ, Nat.zero_add, List.nil_append] at M))
    exact m_ret M rfl rfl rfl (by simp) rfl
  · obtain ⟨k, rfl⟩ := List.length_eq_one_iff.1 hks
    rw [listK_1]
    obtain ⟨g, o, rfl, h1⟩ := HV.out.open_ (by omega)
    have C1 := Lib.hid (show ∀ wx, Up w wx → wx.rangeAt g o (bL k.1) from fun wx hb => by have := h1 wx hb; simpa [kyL] using this)
    clear h1
    go_enter Try.func55, Try.ntmps55
    go_wp2_with (first
      | (go_at_call 66; (with_reducible refine mem_call M (sizeKey_c _ _ _ _) ?_); clear M; (try clear wx); rintro _ wx rfl _ M)
      | (with_reducible (show wpList _ _ _ (Oper.mk (some 2) (.alloc _) _ _ _ _ :: _) _ _); refine mem_new M rfl rfl ?_; clear M; (try clear wx); intro g2 wx M)
      | (with_reducible (show wpList _ _ _ (Oper.mk _ (.load _ _) _ _ _ _ :: _) _ _); (first | (refine rd_loadA rfl rfl rfl (C1.out _ M.up) k.2 ?_) | (refine m_load M rfl rfl rfl (by first | assumption | rfl) ?_) | (refine m_loadR M rfl rfl rfl (by first | rfl | assumption | (simp; done) | (simp; omega)) ?_)))
      | (with_reducible (show wpList _ _ _ (Oper.mk _ (.store _ _ _) _ _ _ _ :: _) _ _); (first | (refine m_storeR M rfl rfl rfl rfl (by first | rfl | assumption | (simp; done) | (simp; omega)) (by first | rfl | assumption | (simp; done) | (simp; omega)) (by first | exact bA_one _ | exact wA_one _ | assumption | (simp [Value.oneCell']; done)) ?_) | (refine m_store (v := Value.int _ _) M rfl rfl rfl rfl rfl (by first | assumption | (simp; done) | (simp; omega)) ?_) | (refine m_store (v := Value.slice _ _ _) M rfl rfl rfl rfl rfl (by first | assumption | (simp; done) | (simp; omega)) ?_) | (refine m_store (v := Value.bool _) M rfl rfl rfl rfl rfl (by first | assumption | (simp; done) | (simp; omega)) ?_) | (refine m_store (v := Value.string _) M rfl rfl rfl rfl rfl (by first | assumption | (simp; done) | (simp; omega)) ?_) | (refine m_store (v := Value.pointer _) M rfl rfl rfl rfl rfl (by first | assumption | (simp; done) | (simp; omega)) ?_)); clear M; (try clear wx); intro wx M; simp only [List.set_cons_zero, List.set_cons_succ, Nat.zero_add, List.nil_append] at M))
    exact m_ret M rfl rfl rfl (by simp) rfl
  · have hm1 := halfN_lt n h2
    have hm2 := halfN_pos n
    have HH := Lib.hid (leftOf_c n h2 (by omega))
    have HE := Lib.hid (listK_2 ks n hks h2)
    have HA : Hid (∀ v w, Rd w 32 v (halfN n) ((kyL ks).take (halfN n * 32)) → Ret Try.prog 55 #[v] w fun r _ => r = .agg (bA (listK (ks.take (halfN n))).1)) := Lib.hid (fun v w h => IH.out _ hm1 _ (by rw [List.length_take]; omega) (by omega) v w (by rw [kyL_take] at h; exact h))
    have HB : Hid (∀ v w, Rd w 32 v (n - halfN n) ((kyL ks).drop (halfN n * 32)) → Ret Try.prog 55 #[v] w fun r _ => r = .agg (bA (listK (ks.drop (halfN n))).1)) := Lib.hid (fun v w h => IH.out (n - halfN n) (by omega) _ (by rw [List.length_drop, hks]) (by omega) v w (by rw [kyL_drop] at h; exact h))
    clear hks
    generalize listK (ks.take (halfN n)) = x at *
    generalize listK (ks.drop (halfN n)) = y at *
    generalize halfN n = m at *
    go_enter Try.func55, Try.ntmps55
    go_wp2_with (first
      | (go_at_call 66; (with_reducible refine mem_call M (sizeKey_c _ _ _ _) ?_); clear M; (try clear wx); rintro _ wx rfl _ M)
      | (go_at_call 106; (with_reducible refine mem_call M (HH.out _) ?_); clear M; (try clear wx); rintro _ wx rfl _ M)
      | (with_reducible (show wpList _ _ _ (Oper.mk (some 2) (.alloc _) _ _ _ _ :: _) _ _); refine mem_new M rfl rfl ?_; clear M; (try clear wx); intro g2 wx M)
      | (with_reducible (show wpList _ _ _ (Oper.mk _ (.load _ _) _ _ _ _ :: _) _ _); (first | (refine m_load M rfl rfl rfl (by first | assumption | rfl) ?_) | (refine m_loadR M rfl rfl rfl (by first | rfl | assumption | (simp; done) | (simp; omega)) ?_)))
      | (with_reducible (show wpList _ _ _ (Oper.mk _ (.store _ _ _) _ _ _ _ :: _) _ _); (first | (refine m_storeR M rfl rfl rfl rfl (by first | rfl | assumption | (simp; done) | (simp; omega)) (by first | rfl | assumption | (simp; done) | (simp; omega)) (by first | exact bA_one _ | exact wA_one _ | assumption | (simp [Value.oneCell']; done)) ?_) | (refine m_store (v := Value.int _ _) M rfl rfl rfl rfl rfl (by first | assumption | (simp; done) | (simp; omega)) ?_) | (refine m_store (v := Value.slice _ _ _) M rfl rfl rfl rfl rfl (by first | assumption | (simp; done) | (simp; omega)) ?_) | (refine m_store (v := Value.bool _) M rfl rfl rfl rfl rfl (by first | assumption | (simp; done) | (simp; omega)) ?_) | (refine m_store (v := Value.string _) M rfl rfl rfl rfl rfl (by first | assumption | (simp; done) | (simp; omega)) ?_) | (refine m_store (v := Value.pointer _) M rfl rfl rfl rfl rfl (by first | assumption | (simp; done) | (simp; omega)) ?_)); clear M; (try clear wx); intro wx M; simp only [List.set_cons_zero, List.set_cons_succ, Nat.zero_add, List.nil_append] at M))
    refine region_mono (m := 9) mixedOrders_ (by kernel_rfl) (by kernel_rfl)
      (fun | 0 => fun vq _ => vq = .slice b n cap | 1 => fun vq _ => vq = .int .i64 (m : Int) | 2 => fun v wx => Rd wx 32 v m ((kyL ks).take (m * 32)) | 3 => fun vq _ => vq = .agg (bA x.1) | 4 => fun vq _ => vq = .slice b n cap | 5 => fun vq _ => vq = .int .i64 (m : Int) | 6 => fun v wx => Rd wx 32 v (n - m) ((kyL ks).drop (m * 32)) | 7 => fun vq _ => vq = .agg (bA y.1) | 8 => fun vq _ => vq = .agg (bA (nodeK x y).1) | _ => fun _ _ => True)
      (fun wx => Mem w wx [.blk g2 25 (bA zero32)]) ?_ ?_ ?_ ?_ ?_
    · intro j hj v w1 w2 hb h
      match j, hj with
      | 0, _ => exact h
      | 1, _ => exact h
      | 2, _ => exact h.up hb
      | 3, _ => exact h
      | 4, _ => exact h
      | 5, _ => exact h
      | 6, _ => exact h.up hb
      | 7, _ => exact h
      | 8, _ => exact h
    · intro w1 w2 hb h
      exact h.grow hb
    · exact M.grow ((Up.refl _).drew)
    · rintro i o hi ho av wv fr gM dep
      match i, hi with
      | 0, _ =>
        obtain rfl := Option.some.inj ho
        exact st_mov rfl (fr.eval rfl) rfl
      | 1, _ =>
        obtain rfl := Option.some.inj ho
        exact st_mov rfl (fr.eval rfl) rfl
      | 2, _ =>
        obtain rfl := Option.some.inj ho
        exact st_slH rfl (dep ⟨0, .data⟩ (by simp) rfl) (dep ⟨1, .data⟩ (by simp) rfl) (HV.out.up gM.up) (Nat.le_of_lt hm1) (fun v h => h)
      | 3, _ =>
        obtain rfl := Option.some.inj ho
        have D2 := dep ⟨2, .data⟩ (by simp) rfl
        exact st_ret1 rfl (fun _ _ => by kernel_rfl) (rfl) (HA.out _ _ D2) (fun r w' h _ => h)
      | 4, _ =>
        obtain rfl := Option.some.inj ho
        exact st_mov rfl (fr.eval rfl) rfl
      | 5, _ =>
        obtain rfl := Option.some.inj ho
        exact st_mov rfl (fr.eval rfl) rfl
      | 6, _ =>
        obtain rfl := Option.some.inj ho
        exact st_slL rfl (dep ⟨4, .data⟩ (by simp) rfl) (dep ⟨5, .data⟩ (by simp) rfl) (HV.out.up gM.up) (Nat.le_of_lt hm1) (fun v h => h)
      | 7, _ =>
        obtain rfl := Option.some.inj ho
        have D6 := dep ⟨6, .data⟩ (by simp) rfl
        exact st_ret1 rfl (fun _ _ => by kernel_rfl) (rfl) (HB.out _ _ D6) (fun r w' h _ => h)
      | 8, _ =>
        obtain rfl := Option.some.inj ho
        have d0 := dep ⟨3, .data⟩ (by simp) rfl
        have d1 := dep ⟨7, .data⟩ (by simp) rfl
        exact st_ret2 rfl (fun _ _ => by kernel_rfl) d0 d1 (implNodeKey_c x y _) (fun r w' h _ => h)
    · rintro vs wv gM hf
      have f0 : vs 0 = .slice b n cap := hf 0 (by omega)
      have f1 : vs 1 = .int .i64 (m : Int) := hf 1 (by omega)
      have f2 := hf 2 (by omega)
      have f3 : vs 3 = .agg (bA x.1) := hf 3 (by omega)
      have f4 : vs 4 = .slice b n cap := hf 4 (by omega)
      have f5 : vs 5 = .int .i64 (m : Int) := hf 5 (by omega)
      have f6 := hf 6 (by omega)
      have f7 : vs 7 = .agg (bA y.1) := hf 7 (by omega)
      have f8 : vs 8 = .agg (bA (nodeK x y).1) := hf 8 (by omega)
      simp only [putAll, Act.put, List.getElem?_toArray, List.getElem?_cons_zero, List.getElem?_cons_succ, Option.bind_some, List.setIfInBounds_toArray, List.set_cons_zero, List.set_cons_succ, List.drop_succ_cons, List.drop_zero, List.drop_nil, f8]
      clear f0 f1 f2 f3 f4 f5 f6 f7 f8 hf
      have M := gM
      go_wp2_with (first
        | (go_at_call 66; (with_reducible refine mem_call M (sizeKey_c _ _ _ _) ?_); clear M; (try clear wx); rintro _ wx rfl _ M)
        | (with_reducible (show wpList _ _ _ (Oper.mk (some 2) (.alloc _) _ _ _ _ :: _) _ _); refine mem_new M rfl rfl ?_; clear M; (try clear wx); intro g2 wx M)
        | (with_reducible (show wpList _ _ _ (Oper.mk _ (.load _ _) _ _ _ _ :: _) _ _); (first | (refine m_load M rfl rfl rfl (by first | assumption | rfl) ?_) | (refine m_loadR M rfl rfl rfl (by first | rfl | assumption | (simp; done) | (simp; omega)) ?_)))
        | (with_reducible (show wpList _ _ _ (Oper.mk _ (.store _ _ _) _ _ _ _ :: _) _ _); (first | (refine m_storeR M rfl rfl rfl rfl (by first | rfl | assumption | (simp; done) | (simp; omega)) (by first | rfl | assumption | (simp; done) | (simp; omega)) (by first | exact bA_one _ | exact wA_one _ | assumption | (simp [Value.oneCell']; done)) ?_) | (refine m_store (v := Value.int _ _) M rfl rfl rfl rfl rfl (by first | assumption | (simp; done) | (simp; omega)) ?_) | (refine m_store (v := Value.slice _ _ _) M rfl rfl rfl rfl rfl (by first | assumption | (simp; done) | (simp; omega)) ?_) | (refine m_store (v := Value.bool _) M rfl rfl rfl rfl rfl (by first | assumption | (simp; done) | (simp; omega)) ?_) | (refine m_store (v := Value.string _) M rfl rfl rfl rfl rfl (by first | assumption | (simp; done) | (simp; omega)) ?_) | (refine m_store (v := Value.pointer _) M rfl rfl rfl rfl rfl (by first | assumption | (simp; done) | (simp; omega)) ?_)); clear M; (try clear wx); intro wx M; simp only [List.set_cons_zero, List.set_cons_succ, Nat.zero_add, List.nil_append] at M))
      exact m_ret M rfl rfl rfl (by simp) (by rw [HE.out])

def lkK (ks : List Ky) : Ky := if 256 < ks.length then zeroKy else listK ks
def lkC (n : Nat) : Int := if 256 < n then 3 else 0

theorem Mem.rdK {w0 w : World} {L : List It} (M : Mem w0 w L) (ks : List Ky) {b : Option Addr} {cap n p : Nat} {e : TypeId} [hL : AtO L b cap n p e 32 (kyL ks)] : Rd w 32 (.slice b n cap) n (kyL ks) := M.rd hL.out (kyL_one ks)
theorem szKeyS_r (a : Option Addr) (n cap : Nat) (hn : n ≤ maxLen) (w : World) : Ret Try.prog 13 #[.slice a n cap, .int .i64 1048576] w fun r _ => r = .int .i64 (if (1048576 : Int) - n < 0 then -1 else 1048576 - n) := Ret.same (szKeyS_c a n cap 1048576 (by omega) (by omega) hn w)

end Go.Proofs.Ytmbhaoiahlbglaa

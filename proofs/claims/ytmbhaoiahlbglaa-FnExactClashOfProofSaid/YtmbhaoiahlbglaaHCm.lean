/- Walks: the clash of two lists, its walks and its law. -/
import Derived.Test.YtmbhaoiahlbglaaHCl
namespace Go.Proofs.Ytmbhaoiahlbglaa
open Go.RowKit
set_option linter.unusedVariables false
set_option linter.unusedSimpArgs false

set_option maxHeartbeats 8000000 in
set_option maxRecDepth 100000 in
theorem l03Clash_c (n : Nat) : ∀ (a b : List Ky), a.length = n → b.length = n → n ≤ 256 → a ≠ b → listK a = listK b → ∀ va vb w, Rd w 32 va n (kyL a) → Rd w 32 vb n (kyL b) →
    Ret Try.prog 54 #[va, vb] w fun r _ => r = .agg (claV (clL a b)) := by
  induction n using Nat.strongRecOn with
  | ind n ih =>
  intro a b ha hb hn hne hk va vb w hva hvb
  obtain ⟨b1, cap1, rfl⟩ := hva.shape
  obtain ⟨b2, cap2, rfl⟩ := hvb.shape
  have HVA := Lib.hid hva
  have HVB := Lib.hid hvb
  have IH := Lib.hid ih
  clear hva hvb ih
  have h2 : 2 ≤ n := by
    rcases (show n = 0 ∨ n = 1 ∨ 2 ≤ n by omega) with rfl | rfl | h2
    · exact absurd ((List.eq_nil_of_length_eq_zero ha).trans (List.eq_nil_of_length_eq_zero hb).symm) hne
    · obtain ⟨x, rfl⟩ := List.length_eq_one_iff.1 ha
      obtain ⟨y, rfl⟩ := List.length_eq_one_iff.1 hb
      rw [listK_1, listK_1] at hk
      exact absurd (by rw [hk]) hne
    · exact h2
  have hm1 := halfN_lt n h2
  have hm2 := halfN_pos n
  have hml : halfN n ≤ n := Nat.le_of_lt hm1
  have lta : (a.take (halfN n)).length = halfN n := by rw [List.length_take]; omega
  have ltb : (b.take (halfN n)).length = halfN n := by rw [List.length_take]; omega
  have lda : (a.drop (halfN n)).length = n - halfN n := by rw [List.length_drop]; omega
  have ldb : (b.drop (halfN n)).length = n - halfN n := by rw [List.length_drop]; omega
  have HH := Lib.hid (l03Half_c n (by omega))
  have KA1 : Hid (∀ v w, Rd w 32 v (halfN n) ((kyL a).take (halfN n * 32)) → Ret Try.prog 52 #[v] w fun r _ => r = .agg (bA (listK (a.take (halfN n))).1)) := Lib.hid (fun v w h => l03Key_c _ _ lta (by omega) v w (by rw [kyL_take] at h; exact h))
  have KA2 : Hid (∀ v w, Rd w 32 v (n - halfN n) ((kyL a).drop (halfN n * 32)) → Ret Try.prog 52 #[v] w fun r _ => r = .agg (bA (listK (a.drop (halfN n))).1)) := Lib.hid (fun v w h => l03Key_c _ _ lda (by omega) v w (by rw [kyL_drop] at h; exact h))
  have KB1 : Hid (∀ v w, Rd w 32 v (halfN n) ((kyL b).take (halfN n * 32)) → Ret Try.prog 52 #[v] w fun r _ => r = .agg (bA (listK (b.take (halfN n))).1)) := Lib.hid (fun v w h => l03Key_c _ _ ltb (by omega) v w (by rw [kyL_take] at h; exact h))
  have KB2 : Hid (∀ v w, Rd w 32 v (n - halfN n) ((kyL b).drop (halfN n * 32)) → Ret Try.prog 52 #[v] w fun r _ => r = .agg (bA (listK (b.drop (halfN n))).1)) := Lib.hid (fun v w h => l03Key_c _ _ ldb (by omega) v w (by rw [kyL_drop] at h; exact h))
  have HLS : Hid (∀ va vb w, Rd w 32 va (halfN n) ((kyL a).take (halfN n * 32)) → Rd w 32 vb (halfN n) ((kyL b).take (halfN n * 32)) → Ret Try.prog 53 #[va, vb] w fun r _ => r = .bool (decide (a.take (halfN n) = b.take (halfN n)))) := Lib.hid (fun va vb w h h' => l03Lists_c _ _ _ lta ltb va vb w (by omega) (by rw [kyL_take] at h; exact h) (by rw [kyL_take] at h'; exact h'))
  have R1 : Hid (listK (a.take (halfN n)) = listK (b.take (halfN n)) → a.take (halfN n) ≠ b.take (halfN n) → ∀ va vb w, Rd w 32 va (halfN n) ((kyL a).take (halfN n * 32)) → Rd w 32 vb (halfN n) ((kyL b).take (halfN n * 32)) → Ret Try.prog 54 #[va, vb] w fun r _ => r = .agg (claV (clL (a.take (halfN n)) (b.take (halfN n))))) :=
    Lib.hid (fun hk1 hne1 va vb w h h' => IH.out _ hm1 _ _ lta ltb (by omega) hne1 hk1 va vb w (by rw [kyL_take] at h; exact h) (by rw [kyL_take] at h'; exact h'))
  have R2 : Hid (listK (a.drop (halfN n)) = listK (b.drop (halfN n)) → a.take (halfN n) = b.take (halfN n) → ∀ va vb w, Rd w 32 va (n - halfN n) ((kyL a).drop (halfN n * 32)) → Rd w 32 vb (n - halfN n) ((kyL b).drop (halfN n * 32)) → Ret Try.prog 54 #[va, vb] w fun r _ => r = .agg (claV (clL (a.drop (halfN n)) (b.drop (halfN n))))) :=
    Lib.hid (fun hk1 heq1 va vb w h h' => IH.out _ (by omega) _ _ lda ldb (by omega) (fun e => hne (by rw [← List.take_append_drop (halfN n) a, ← List.take_append_drop (halfN n) b, heq1, e])) hk1 va vb w (by rw [kyL_drop] at h; exact h) (by rw [kyL_drop] at h'; exact h'))
  have E1 := Lib.hid (clL_1 a b n ha h2)
  have E2 := Lib.hid (clL_2 a b n ha h2)
  have E3 := Lib.hid (clL_3 a b n ha h2)
  clear lta ltb lda ldb IH ha hb hne hk
  generalize clL (a.take (halfN n)) (b.take (halfN n)) = T1 at *
  generalize clL (a.drop (halfN n)) (b.drop (halfN n)) = T2 at *
  generalize clL a b = T at *
  generalize listK (a.take (halfN n)) = x1 at *
  generalize listK (a.drop (halfN n)) = x2 at *
  generalize listK (b.take (halfN n)) = y1 at *
  generalize listK (b.drop (halfN n)) = y2 at *
  generalize a.take (halfN n) = A1 at *
  generalize b.take (halfN n) = B1 at *
  generalize halfN n = m at *
  refine ret_start fun wx M => ?_
  go_enter Try.func54, Try.ntmps54
  go_wp2_with (first
    | (go_at_call 103; (with_reducible refine mem_call M (HH.out _) ?_); clear M; (try clear wx); rintro _ wx rfl _ M)
    | (with_reducible (show wpList _ _ _ (Oper.mk (some 4) (.alloc _) _ _ _ _ :: _) _ _); refine mem_new M rfl rfl ?_; clear M; (try clear wx); intro g4 wx M)
    | (with_reducible (show wpList _ _ _ (Oper.mk (some 6) (.alloc _) _ _ _ _ :: _) _ _); refine mem_new M rfl rfl ?_; clear M; (try clear wx); intro g6 wx M)
    | (with_reducible (show wpList _ _ _ (Oper.mk _ (.load _ _) _ _ _ _ :: _) _ _); (first | (refine m_load M rfl rfl rfl (by first | assumption | rfl) ?_) | (refine m_loadR M rfl rfl rfl (by first | rfl | assumption | (simp; done) | (simp; omega)) ?_)))
    | (with_reducible (show wpList _ _ _ (Oper.mk _ (.store _ _ _) _ _ _ _ :: _) _ _); (first | (refine m_storeR M rfl rfl rfl rfl (by first | rfl | assumption | (simp; done) | (simp; omega)) (by first | rfl | assumption | (simp; done) | (simp; omega)) (by first | exact bA_one _ | exact wA_one _ | assumption | (simp [Value.oneCell']; done)) ?_) | (refine m_store (v := Value.int _ _) M rfl rfl rfl rfl rfl (by first | assumption | (simp; done) | (simp; omega)) ?_) | (refine m_store (v := Value.slice _ _ _) M rfl rfl rfl rfl rfl (by first | assumption | (simp; done) | (simp; omega)) ?_) | (refine m_store (v := Value.bool _) M rfl rfl rfl rfl rfl (by first | assumption | (simp; done) | (simp; omega)) ?_) | (refine m_store (v := Value.string _) M rfl rfl rfl rfl rfl (by first | assumption | (simp; done) | (simp; omega)) ?_) | (refine m_store (v := Value.pointer _) M rfl rfl rfl rfl rfl (by first | assumption | (simp; done) | (simp; omega)) ?_)); clear M; (try clear wx); intro wx M; simp only [List.set_cons_zero, List.set_cons_succ, Nat.zero_add, List.nil_append] at M)
    | (with_reducible (show wpList _ _ _ (Oper.mk _ (.build _ _) _ _ _ _ :: _) _ _); refine m_buildZ rfl rfl ?_))
  refine region_mono (m := 18) mixedOrders_ (by kernel_rfl) (by kernel_rfl)
    (fun | 0 => fun vq _ => vq = .slice b1 n cap1 | 1 => fun vq _ => vq = .int .i64 (m : Int) | 2 => fun v wx => Rd wx 32 v m ((kyL a).take (m * 32)) | 3 => fun vq _ => vq = .agg (bA x1.1) | 4 => fun vq _ => vq = .slice b1 n cap1 | 5 => fun vq _ => vq = .int .i64 (m : Int) | 6 => fun v wx => Rd wx 32 v (n - m) ((kyL a).drop (m * 32)) | 7 => fun vq _ => vq = .agg (bA x2.1) | 8 => fun vq _ => vq = .slice b2 n cap2 | 9 => fun vq _ => vq = .int .i64 (m : Int) | 10 => fun v wx => Rd wx 32 v m ((kyL b).take (m * 32)) | 11 => fun vq _ => vq = .agg (bA y1.1) | 12 => fun vq _ => vq = .slice b2 n cap2 | 13 => fun vq _ => vq = .int .i64 (m : Int) | 14 => fun v wx => Rd wx 32 v (n - m) ((kyL b).drop (m * 32)) | 15 => fun vq _ => vq = .agg (bA y2.1) | 16 => fun vq _ => vq = .agg (claC x1.1 x2.1 y1.1 y2.1) | 17 => fun v wx => Fresh w [.blk g4 27 (claC zeroKy.1 zeroKy.1 zeroKy.1 zeroKy.1)] 27 (claC zeroKy.1 zeroKy.1 zeroKy.1 zeroKy.1) v wx | _ => fun _ _ => True)
    (fun wx => Mem w wx [.blk g4 27 (claC zeroKy.1 zeroKy.1 zeroKy.1 zeroKy.1)]) ?_ ?_ ?_ ?_ ?_
  · intro j hj v w1 w2 hb h
    match j, hj with
    | 0, _ => exact h
    | 1, _ => exact h
    | 2, _ => exact h.up hb
    | 3, _ => exact h
    | 4, _ => exact h
    | 5, _ => exact h
    | 6, _ => exact h.up hb
    | 7, _ => exact h
    | 8, _ => exact h
    | 9, _ => exact h
    | 10, _ => exact h.up hb
    | 11, _ => exact h
    | 12, _ => exact h
    | 13, _ => exact h
    | 14, _ => exact h.up hb
    | 15, _ => exact h
    | 16, _ => exact h
    | 17, _ => exact h.up hb
    | n + 18, h' => exact absurd h' (by omega)
  · intro w1 w2 hb h
    exact h.grow hb
  · exact M.grow ((Up.refl _).drew)
  · rintro i o hi ho av wv fr gM dep
    match i, hi with
    | 0, _ =>
      obtain rfl := Option.some.inj ho
      exact st_mov rfl (fr.eval rfl) rfl
    | 1, _ =>
      obtain rfl := Option.some.inj ho
      exact st_mov rfl (fr.eval rfl) rfl
    | 2, _ =>
      obtain rfl := Option.some.inj ho
      exact st_slH rfl (dep ⟨0, .data⟩ (by simp) rfl) (dep ⟨1, .data⟩ (by simp) rfl) (HVA.out.up gM.up) hml (fun v h => h)
    | 3, _ =>
      obtain rfl := Option.some.inj ho
      have D2 := dep ⟨2, .data⟩ (by simp) rfl
      exact st_ret1 rfl (fun _ _ => by kernel_rfl) (rfl) (KA1.out _ _ D2) (fun r w' h _ => h)
    | 4, _ =>
      obtain rfl := Option.some.inj ho
      exact st_mov rfl (fr.eval rfl) rfl
    | 5, _ =>
      obtain rfl := Option.some.inj ho
      exact st_mov rfl (fr.eval rfl) rfl
    | 6, _ =>
      obtain rfl := Option.some.inj ho
      exact st_slL rfl (dep ⟨4, .data⟩ (by simp) rfl) (dep ⟨5, .data⟩ (by simp) rfl) (HVA.out.up gM.up) hml (fun v h => h)
    | 7, _ =>
      obtain rfl := Option.some.inj ho
      have D6 := dep ⟨6, .data⟩ (by simp) rfl
      exact st_ret1 rfl (fun _ _ => by kernel_rfl) (rfl) (KA2.out _ _ D6) (fun r w' h _ => h)
    | 8, _ =>
      obtain rfl := Option.some.inj ho
      exact st_mov rfl (fr.eval rfl) rfl
    | 9, _ =>
      obtain rfl := Option.some.inj ho
      exact st_mov rfl (fr.eval rfl) rfl
    | 10, _ =>
      obtain rfl := Option.some.inj ho
      exact st_slH rfl (dep ⟨8, .data⟩ (by simp) rfl) (dep ⟨9, .data⟩ (by simp) rfl) (HVB.out.up gM.up) hml (fun v h => h)
    | 11, _ =>
      obtain rfl := Option.some.inj ho
      have D10 := dep ⟨10, .data⟩ (by simp) rfl
      exact st_ret1 rfl (fun _ _ => by kernel_rfl) (rfl) (KB1.out _ _ D10) (fun r w' h _ => h)
    | 12, _ =>
      obtain rfl := Option.some.inj ho
      exact st_mov rfl (fr.eval rfl) rfl
    | 13, _ =>
      obtain rfl := Option.some.inj ho
      exact st_mov rfl (fr.eval rfl) rfl
    | 14, _ =>
      obtain rfl := Option.some.inj ho
      exact st_slL rfl (dep ⟨12, .data⟩ (by simp) rfl) (dep ⟨13, .data⟩ (by simp) rfl) (HVB.out.up gM.up) hml (fun v h => h)
    | 15, _ =>
      obtain rfl := Option.some.inj ho
      have D14 := dep ⟨14, .data⟩ (by simp) rfl
      exact st_ret1 rfl (fun _ _ => by kernel_rfl) (rfl) (KB2.out _ _ D14) (fun r w' h _ => h)
    | 16, _ =>
      obtain rfl := Option.some.inj ho
      exact st_build4 rfl (dep ⟨3, .data⟩ (by simp) rfl) (dep ⟨7, .data⟩ (by simp) rfl) (dep ⟨11, .data⟩ (by simp) rfl) (dep ⟨15, .data⟩ (by simp) rfl) (built_cla4 x1 x2 y1 y2) rfl
    | 17, _ =>
      obtain rfl := Option.some.inj ho
      exact st_new gM rfl
    | n + 18, h' => exact absurd h' (by omega)
  · rintro vs wv gM hf
    have f0 : vs 0 = .slice b1 n cap1 := hf 0 (by omega)
    have f1 : vs 1 = .int .i64 (m : Int) := hf 1 (by omega)
    have f2 := hf 2 (by omega)
    have f3 : vs 3 = .agg (bA x1.1) := hf 3 (by omega)
    have f4 : vs 4 = .slice b1 n cap1 := hf 4 (by omega)
    have f5 : vs 5 = .int .i64 (m : Int) := hf 5 (by omega)
    have f6 := hf 6 (by omega)
    have f7 : vs 7 = .agg (bA x2.1) := hf 7 (by omega)
    have f8 : vs 8 = .slice b2 n cap2 := hf 8 (by omega)
    have f9 : vs 9 = .int .i64 (m : Int) := hf 9 (by omega)
    have f10 := hf 10 (by omega)
    have f11 : vs 11 = .agg (bA y1.1) := hf 11 (by omega)
    have f12 : vs 12 = .slice b2 n cap2 := hf 12 (by omega)
    have f13 : vs 13 = .int .i64 (m : Int) := hf 13 (by omega)
    have f14 := hf 14 (by omega)
    have f15 : vs 15 = .agg (bA y2.1) := hf 15 (by omega)
    have f16 : vs 16 = .agg (claC x1.1 x2.1 y1.1 y2.1) := hf 16 (by omega)
    have f17 := hf 17 (by omega)
    obtain ⟨g6, e6, M⟩ := gM.fresh f17
    simp only [putAll, Act.put, List.getElem?_toArray, List.getElem?_cons_zero, List.getElem?_cons_succ, Option.bind_some, List.setIfInBounds_toArray, List.set_cons_zero, List.set_cons_succ, List.drop_succ_cons, List.drop_zero, List.drop_nil, f16, e6]
    clear f0 f1 f2 f3 f4 f5 f6 f7 f8 f9 f10 f11 f12 f13 f14 f15 f16 f17 e6 hf gM
    have M := M
    by_cases h1 : x1 = y1
    · by_cases h2 : x2 = y2
      · have ce1 : ∀ w, (binOp .neq 25 (.agg (bA x1.1)) (.agg (bA y1.1))).run Try.prog w = .ok (.bool false) w := fun w => by rw [key_neq, decide_eq_true h1]; rfl
        have ce2 : ∀ w, (binOp .neq 25 (.agg (bA x2.1)) (.agg (bA y2.1))).run Try.prog w = .ok (.bool false) w := fun w => by rw [key_neq, decide_eq_true h2]; rfl
        obtain ⟨c, hc⟩ : ∃ c, decide (A1 = B1) = c := ⟨_, rfl⟩
        have HC := Lib.hid hc
        have E2 := Lib.hid (E2.out h1 h2)
        have E3 := Lib.hid (E3.out h1 h2)
        have R1 := Lib.hid (R1.out h1)
        have R2 := Lib.hid (R2.out h2)
        clear h1 h2 hc E1
        go_wp2_with (first
          | (with_reducible (show wpList _ _ _ (Oper.mk (some 4) (.alloc _) _ _ _ _ :: _) _ _); refine mem_new M rfl rfl ?_; clear M; (try clear wx); intro g4 wx M)
          | (with_reducible (show wpList _ _ _ (Oper.mk (some 6) (.alloc _) _ _ _ _ :: _) _ _); refine mem_new M rfl rfl ?_; clear M; (try clear wx); intro g6 wx M)
          | (with_reducible (show wpList _ _ _ (Oper.mk _ (.load _ _) _ _ _ _ :: _) _ _); (first | (refine m_loadB M rfl rfl rfl (cla_get0 _ _ _ _) (Ky.len _) ?_) | (refine m_loadB M rfl rfl rfl (cla_get1 _ _ _ _) (Ky.len _) ?_) | (refine m_loadB M rfl rfl rfl (cla_get2 _ _ _ _) (Ky.len _) ?_) | (refine m_loadB M rfl rfl rfl (cla_get3 _ _ _ _) (Ky.len _) ?_) | (refine m_loadBw M rfl rfl rfl (cla_get0 _ _ _ _) (Ky.len _) ?_) | (refine m_loadBw M rfl rfl rfl (cla_get1 _ _ _ _) (Ky.len _) ?_) | (refine m_loadBw M rfl rfl rfl (cla_get2 _ _ _ _) (Ky.len _) ?_) | (refine m_loadBw M rfl rfl rfl (cla_get3 _ _ _ _) (Ky.len _) ?_) | (refine m_load M rfl rfl rfl (by first | assumption | rfl) ?_) | (refine m_loadR M rfl rfl rfl (by first | rfl | assumption | (simp; done) | (simp; omega)) ?_)))
          | (with_reducible (show wpList _ _ _ (Oper.mk _ (.store _ _ _) _ _ _ _ :: _) _ _); (first | (refine m_storeR M rfl rfl rfl rfl (by first | rfl | assumption | (simp; done) | (simp; omega)) (by first | rfl | assumption | (simp; done) | (simp; omega)) (claC_one _ _ _ _) ?_) | (refine m_store (v := Value.int _ _) M rfl rfl rfl rfl rfl (by first | assumption | (simp; done) | (simp; omega)) ?_) | (refine m_store (v := Value.slice _ _ _) M rfl rfl rfl rfl rfl (by first | assumption | (simp; done) | (simp; omega)) ?_) | (refine m_store (v := Value.bool _) M rfl rfl rfl rfl rfl (by first | assumption | (simp; done) | (simp; omega)) ?_) | (refine m_store (v := Value.string _) M rfl rfl rfl rfl rfl (by first | assumption | (simp; done) | (simp; omega)) ?_) | (refine m_store (v := Value.pointer _) M rfl rfl rfl rfl rfl (by first | assumption | (simp; done) | (simp; omega)) ?_)); clear M; (try clear wx); intro wx M; simp only [List.set_cons_zero, List.set_cons_succ, Nat.zero_add, List.nil_append] at M)
          | (with_reducible (show wpList _ _ _ (Oper.mk _ (.build _ _) _ _ _ _ :: _) _ _); refine m_buildZ rfl rfl ?_))
        refine region_mono (m := 8) mixedOrders_ (by kernel_rfl) (by kernel_rfl)
          (fun | 0 => fun vq _ => vq = .slice b1 n cap1 | 1 => fun vq _ => vq = .int .i64 (m : Int) | 2 => fun v wx => Rd wx 32 v m ((kyL a).take (m * 32)) | 3 => fun vq _ => vq = .slice b2 n cap2 | 4 => fun vq _ => vq = .int .i64 (m : Int) | 5 => fun v wx => Rd wx 32 v m ((kyL b).take (m * 32)) | 6 => fun vq _ => vq = .bool c | 7 => fun vq _ => vq = .bool (!c) | _ => fun _ _ => True)
          (fun wx => Mem w wx [.blk g6 27 (claC x1.1 x2.1 y1.1 y2.1), .blk g4 27 (claC zeroKy.1 zeroKy.1 zeroKy.1 zeroKy.1)]) ?_ ?_ ?_ ?_ ?_
        · intro j hj v w1 w2 hb h
          match j, hj with
          | 0, _ => exact h
          | 1, _ => exact h
          | 2, _ => exact h.up hb
          | 3, _ => exact h
          | 4, _ => exact h
          | 5, _ => exact h.up hb
          | 6, _ => exact h
          | 7, _ => exact h
        · intro w1 w2 hb h
          exact h.grow hb
        · exact M.grow ((Up.refl _).drew)
        · rintro i o hi ho av wv fr gM dep
          match i, hi with
          | 0, _ =>
            obtain rfl := Option.some.inj ho
            exact st_mov rfl (fr.eval rfl) rfl
          | 1, _ =>
            obtain rfl := Option.some.inj ho
            exact st_mov rfl (fr.eval rfl) rfl
          | 2, _ =>
            obtain rfl := Option.some.inj ho
            exact st_slH rfl (dep ⟨0, .data⟩ (by simp) rfl) (dep ⟨1, .data⟩ (by simp) rfl) (HVA.out.up gM.up) hml (fun v h => h)
          | 3, _ =>
            obtain rfl := Option.some.inj ho
            exact st_mov rfl (fr.eval rfl) rfl
          | 4, _ =>
            obtain rfl := Option.some.inj ho
            exact st_mov rfl (fr.eval rfl) rfl
          | 5, _ =>
            obtain rfl := Option.some.inj ho
            exact st_slH rfl (dep ⟨3, .data⟩ (by simp) rfl) (dep ⟨4, .data⟩ (by simp) rfl) (HVB.out.up gM.up) hml (fun v h => h)
          | 6, _ =>
            obtain rfl := Option.some.inj ho
            have D2 := dep ⟨2, .data⟩ (by simp) rfl
            have D5 := dep ⟨5, .data⟩ (by simp) rfl
            exact st_ret2 rfl (fun _ _ => by kernel_rfl) rfl rfl (HLS.out _ _ _ D2 D5) (fun r w' h _ => h.trans (by rw [HC.out]))
          | 7, _ =>
            obtain rfl := Option.some.inj ho
            exact st_not rfl (dep ⟨6, .data⟩ (by simp) rfl) rfl
        · rintro vs wv gM hf
          have f0 : vs 0 = .slice b1 n cap1 := hf 0 (by omega)
          have f1 : vs 1 = .int .i64 (m : Int) := hf 1 (by omega)
          have f2 := hf 2 (by omega)
          have f3 : vs 3 = .slice b2 n cap2 := hf 3 (by omega)
          have f4 : vs 4 = .int .i64 (m : Int) := hf 4 (by omega)
          have f5 := hf 5 (by omega)
          have f6 : vs 6 = .bool c := hf 6 (by omega)
          have f7 : vs 7 = .bool (!c) := hf 7 (by omega)
          simp only [putAll, Act.put, List.getElem?_toArray, List.getElem?_cons_zero, List.getElem?_cons_succ, Option.bind_some, List.setIfInBounds_toArray, List.set_cons_zero, List.set_cons_succ, List.drop_succ_cons, List.drop_zero, List.drop_nil, f7]
          clear f0 f1 f2 f3 f4 f5 f6 f7 hf ce1 ce2
          have M := gM
          clear gM
          cases c with
          | true =>
            have heq : A1 = B1 := of_decide_eq_true HC.out
            have HE := Lib.hid (E3.out heq)
            have R2 := Lib.hid (R2.out heq)
            clear heq E2 E3 R1
            go_wp2_with (first
              | (with_reducible (show wpList _ _ _ (Oper.mk (some 4) (.alloc _) _ _ _ _ :: _) _ _); refine mem_new M rfl rfl ?_; clear M; (try clear wx); intro g4 wx M)
              | (with_reducible (show wpList _ _ _ (Oper.mk (some 6) (.alloc _) _ _ _ _ :: _) _ _); refine mem_new M rfl rfl ?_; clear M; (try clear wx); intro g6 wx M)
              | (with_reducible (show wpList _ _ _ (Oper.mk _ (.load _ _) _ _ _ _ :: _) _ _); (first | (refine m_load M rfl rfl rfl (by first | assumption | rfl) ?_) | (refine m_loadR M rfl rfl rfl (by first | rfl | assumption | (simp; done) | (simp; omega)) ?_)))
              | (with_reducible (show wpList _ _ _ (Oper.mk _ (.store _ _ _) _ _ _ _ :: _) _ _); (first | (refine m_storeR M rfl rfl rfl rfl (by first | rfl | assumption | (simp; done) | (simp; omega)) (by first | rfl | assumption | (simp; done) | (simp; omega)) (by first | exact bA_one _ | exact wA_one _ | assumption | (simp [Value.oneCell']; done)) ?_) | (refine m_store (v := Value.int _ _) M rfl rfl rfl rfl rfl (by first | assumption | (simp; done) | (simp; omega)) ?_) | (refine m_store (v := Value.slice _ _ _) M rfl rfl rfl rfl rfl (by first | assumption | (simp; done) | (simp; omega)) ?_) | (refine m_store (v := Value.bool _) M rfl rfl rfl rfl rfl (by first | assumption | (simp; done) | (simp; omega)) ?_) | (refine m_store (v := Value.string _) M rfl rfl rfl rfl rfl (by first | assumption | (simp; done) | (simp; omega)) ?_) | (refine m_store (v := Value.pointer _) M rfl rfl rfl rfl rfl (by first | assumption | (simp; done) | (simp; omega)) ?_)); clear M; (try clear wx); intro wx M; simp only [List.set_cons_zero, List.set_cons_succ, Nat.zero_add, List.nil_append] at M)
              | (with_reducible (show wpList _ _ _ (Oper.mk _ (.build _ _) _ _ _ _ :: _) _ _); refine m_buildZ rfl rfl ?_))
            refine region_mono (m := 7) mixedOrders_ (by kernel_rfl) (by kernel_rfl)
              (fun | 0 => fun vq _ => vq = .slice b1 n cap1 | 1 => fun vq _ => vq = .int .i64 (m : Int) | 2 => fun v wx => Rd wx 32 v (n - m) ((kyL a).drop (m * 32)) | 3 => fun vq _ => vq = .slice b2 n cap2 | 4 => fun vq _ => vq = .int .i64 (m : Int) | 5 => fun v wx => Rd wx 32 v (n - m) ((kyL b).drop (m * 32)) | 6 => fun vq _ => vq = .agg (claV T2) | _ => fun _ _ => True)
              (fun wx => Mem w wx [.blk g6 27 (claC x1.1 x2.1 y1.1 y2.1), .blk g4 27 (claC zeroKy.1 zeroKy.1 zeroKy.1 zeroKy.1)]) ?_ ?_ ?_ ?_ ?_
            · intro j hj v w1 w2 hb h
              match j, hj with
              | 0, _ => exact h
              | 1, _ => exact h
              | 2, _ => exact h.up hb
              | 3, _ => exact h
              | 4, _ => exact h
              | 5, _ => exact h.up hb
              | 6, _ => exact h
            · intro w1 w2 hb h
              exact h.grow hb
            · exact M.grow ((Up.refl _).drew)
            · rintro i o hi ho av wv fr gM dep
              match i, hi with
              | 0, _ =>
                obtain rfl := Option.some.inj ho
                exact st_mov rfl (fr.eval rfl) rfl
              | 1, _ =>
                obtain rfl := Option.some.inj ho
                exact st_mov rfl (fr.eval rfl) rfl
              | 2, _ =>
                obtain rfl := Option.some.inj ho
                exact st_slL rfl (dep ⟨0, .data⟩ (by simp) rfl) (dep ⟨1, .data⟩ (by simp) rfl) (HVA.out.up gM.up) hml (fun v h => h)
              | 3, _ =>
                obtain rfl := Option.some.inj ho
                exact st_mov rfl (fr.eval rfl) rfl
              | 4, _ =>
                obtain rfl := Option.some.inj ho
                exact st_mov rfl (fr.eval rfl) rfl
              | 5, _ =>
                obtain rfl := Option.some.inj ho
                exact st_slL rfl (dep ⟨3, .data⟩ (by simp) rfl) (dep ⟨4, .data⟩ (by simp) rfl) (HVB.out.up gM.up) hml (fun v h => h)
              | 6, _ =>
                obtain rfl := Option.some.inj ho
                have D2 := dep ⟨2, .data⟩ (by simp) rfl
                have D5 := dep ⟨5, .data⟩ (by simp) rfl
                exact st_ret2 rfl (fun _ _ => by kernel_rfl) rfl rfl (R2.out _ _ _ D2 D5) (fun r w' h _ => h)
            · rintro vs wv gM hf
              have f0 : vs 0 = .slice b1 n cap1 := hf 0 (by omega)
              have f1 : vs 1 = .int .i64 (m : Int) := hf 1 (by omega)
              have f2 := hf 2 (by omega)
              have f3 : vs 3 = .slice b2 n cap2 := hf 3 (by omega)
              have f4 : vs 4 = .int .i64 (m : Int) := hf 4 (by omega)
              have f5 := hf 5 (by omega)
              have f6 : vs 6 = .agg (claV T2) := hf 6 (by omega)
              simp only [putAll, Act.put, List.getElem?_toArray, List.getElem?_cons_zero, List.getElem?_cons_succ, Option.bind_some, List.setIfInBounds_toArray, List.set_cons_zero, List.set_cons_succ, List.drop_succ_cons, List.drop_zero, List.drop_nil, f6]
              clear f0 f1 f2 f3 f4 f5 f6 hf
              have M := gM
              go_wp2_with (first
                | (with_reducible (show wpList _ _ _ (Oper.mk (some 4) (.alloc _) _ _ _ _ :: _) _ _); refine mem_new M rfl rfl ?_; clear M; (try clear wx); intro g4 wx M)
                | (with_reducible (show wpList _ _ _ (Oper.mk (some 6) (.alloc _) _ _ _ _ :: _) _ _); refine mem_new M rfl rfl ?_; clear M; (try clear wx); intro g6 wx M)
                | (with_reducible (show wpList _ _ _ (Oper.mk _ (.load _ _) _ _ _ _ :: _) _ _); (first | (refine m_load M rfl rfl rfl (by first | assumption | rfl) ?_) | (refine m_loadR M rfl rfl rfl (by first | rfl | assumption | (simp; done) | (simp; omega)) ?_)))
                | (with_reducible (show wpList _ _ _ (Oper.mk _ (.store _ _ _) _ _ _ _ :: _) _ _); (first | (refine m_storeR M rfl rfl rfl rfl (by first | rfl | assumption | (simp; done) | (simp; omega)) (by first | rfl | assumption | (simp; done) | (simp; omega)) (claV_one _) ?_) | (refine m_store (v := Value.int _ _) M rfl rfl rfl rfl rfl (by first | assumption | (simp; done) | (simp; omega)) ?_) | (refine m_store (v := Value.slice _ _ _) M rfl rfl rfl rfl rfl (by first | assumption | (simp; done) | (simp; omega)) ?_) | (refine m_store (v := Value.bool _) M rfl rfl rfl rfl rfl (by first | assumption | (simp; done) | (simp; omega)) ?_) | (refine m_store (v := Value.string _) M rfl rfl rfl rfl rfl (by first | assumption | (simp; done) | (simp; omega)) ?_) | (refine m_store (v := Value.pointer _) M rfl rfl rfl rfl rfl (by first | assumption | (simp; done) | (simp; omega)) ?_)); clear M; (try clear wx); intro wx M; simp only [List.set_cons_zero, List.set_cons_succ, Nat.zero_add, List.nil_append] at M)
                | (with_reducible (show wpList _ _ _ (Oper.mk _ (.build _ _) _ _ _ _ :: _) _ _); refine m_buildZ rfl rfl ?_))
              exact m_ret M rfl rfl rfl (by simp) (by rw [HE.out])
          | false =>
            have heq : A1 ≠ B1 := of_decide_eq_false HC.out
            have HE := Lib.hid (E2.out heq)
            have R1 := Lib.hid (R1.out heq)
            clear heq E2 E3 R2
            go_wp2_with (first
              | (with_reducible (show wpList _ _ _ (Oper.mk (some 4) (.alloc _) _ _ _ _ :: _) _ _); refine mem_new M rfl rfl ?_; clear M; (try clear wx); intro g4 wx M)
              | (with_reducible (show wpList _ _ _ (Oper.mk (some 6) (.alloc _) _ _ _ _ :: _) _ _); refine mem_new M rfl rfl ?_; clear M; (try clear wx); intro g6 wx M)
              | (with_reducible (show wpList _ _ _ (Oper.mk _ (.load _ _) _ _ _ _ :: _) _ _); (first | (refine m_load M rfl rfl rfl (by first | assumption | rfl) ?_) | (refine m_loadR M rfl rfl rfl (by first | rfl | assumption | (simp; done) | (simp; omega)) ?_)))
              | (with_reducible (show wpList _ _ _ (Oper.mk _ (.store _ _ _) _ _ _ _ :: _) _ _); (first | (refine m_storeR M rfl rfl rfl rfl (by first | rfl | assumption | (simp; done) | (simp; omega)) (by first | rfl | assumption | (simp; done) | (simp; omega)) (by first | exact bA_one _ | exact wA_one _ | assumption | (simp [Value.oneCell']; done)) ?_) | (refine m_store (v := Value.int _ _) M rfl rfl rfl rfl rfl (by first | assumption | (simp; done) | (simp; omega)) ?_) | (refine m_store (v := Value.slice _ _ _) M rfl rfl rfl rfl rfl (by first | assumption | (simp; done) | (simp; omega)) ?_) | (refine m_store (v := Value.bool _) M rfl rfl rfl rfl rfl (by first | assumption | (simp; done) | (simp; omega)) ?_) | (refine m_store (v := Value.string _) M rfl rfl rfl rfl rfl (by first | assumption | (simp; done) | (simp; omega)) ?_) | (refine m_store (v := Value.pointer _) M rfl rfl rfl rfl rfl (by first | assumption | (simp; done) | (simp; omega)) ?_)); clear M; (try clear wx); intro wx M; simp only [List.set_cons_zero, List.set_cons_succ, Nat.zero_add, List.nil_append] at M)
              | (with_reducible (show wpList _ _ _ (Oper.mk _ (.build _ _) _ _ _ _ :: _) _ _); refine m_buildZ rfl rfl ?_))
            refine region_mono (m := 7) mixedOrders_ (by kernel_rfl) (by kernel_rfl)
              (fun | 0 => fun vq _ => vq = .slice b1 n cap1 | 1 => fun vq _ => vq = .int .i64 (m : Int) | 2 => fun v wx => Rd wx 32 v m ((kyL a).take (m * 32)) | 3 => fun vq _ => vq = .slice b2 n cap2 | 4 => fun vq _ => vq = .int .i64 (m : Int) | 5 => fun v wx => Rd wx 32 v m ((kyL b).take (m * 32)) | 6 => fun vq _ => vq = .agg (claV T1) | _ => fun _ _ => True)
              (fun wx => Mem w wx [.blk g6 27 (claC x1.1 x2.1 y1.1 y2.1), .blk g4 27 (claC zeroKy.1 zeroKy.1 zeroKy.1 zeroKy.1)]) ?_ ?_ ?_ ?_ ?_
            · intro j hj v w1 w2 hb h
              match j, hj with
              | 0, _ => exact h
              | 1, _ => exact h
              | 2, _ => exact h.up hb
              | 3, _ => exact h
              | 4, _ => exact h
              | 5, _ => exact h.up hb
              | 6, _ => exact h
            · intro w1 w2 hb h
              exact h.grow hb
            · exact M.grow ((Up.refl _).drew)
            · rintro i o hi ho av wv fr gM dep
              match i, hi with
              | 0, _ =>
                obtain rfl := Option.some.inj ho
                exact st_mov rfl (fr.eval rfl) rfl
              | 1, _ =>
                obtain rfl := Option.some.inj ho
                exact st_mov rfl (fr.eval rfl) rfl
              | 2, _ =>
                obtain rfl := Option.some.inj ho
                exact st_slH rfl (dep ⟨0, .data⟩ (by simp) rfl) (dep ⟨1, .data⟩ (by simp) rfl) (HVA.out.up gM.up) hml (fun v h => h)
              | 3, _ =>
                obtain rfl := Option.some.inj ho
                exact st_mov rfl (fr.eval rfl) rfl
              | 4, _ =>
                obtain rfl := Option.some.inj ho
                exact st_mov rfl (fr.eval rfl) rfl
              | 5, _ =>
                obtain rfl := Option.some.inj ho
                exact st_slH rfl (dep ⟨3, .data⟩ (by simp) rfl) (dep ⟨4, .data⟩ (by simp) rfl) (HVB.out.up gM.up) hml (fun v h => h)
              | 6, _ =>
                obtain rfl := Option.some.inj ho
                have D2 := dep ⟨2, .data⟩ (by simp) rfl
                have D5 := dep ⟨5, .data⟩ (by simp) rfl
                exact st_ret2 rfl (fun _ _ => by kernel_rfl) rfl rfl (R1.out _ _ _ D2 D5) (fun r w' h _ => h)
            · rintro vs wv gM hf
              have f0 : vs 0 = .slice b1 n cap1 := hf 0 (by omega)
              have f1 : vs 1 = .int .i64 (m : Int) := hf 1 (by omega)
              have f2 := hf 2 (by omega)
              have f3 : vs 3 = .slice b2 n cap2 := hf 3 (by omega)
              have f4 : vs 4 = .int .i64 (m : Int) := hf 4 (by omega)
              have f5 := hf 5 (by omega)
              have f6 : vs 6 = .agg (claV T1) := hf 6 (by omega)
              simp only [putAll, Act.put, List.getElem?_toArray, List.getElem?_cons_zero, List.getElem?_cons_succ, Option.bind_some, List.setIfInBounds_toArray, List.set_cons_zero, List.set_cons_succ, List.drop_succ_cons, List.drop_zero, List.drop_nil, f6]
              clear f0 f1 f2 f3 f4 f5 f6 hf
              have M := gM
              go_wp2_with (first
                | (with_reducible (show wpList _ _ _ (Oper.mk (some 4) (.alloc _) _ _ _ _ :: _) _ _); refine mem_new M rfl rfl ?_; clear M; (try clear wx); intro g4 wx M)
                | (with_reducible (show wpList _ _ _ (Oper.mk (some 6) (.alloc _) _ _ _ _ :: _) _ _); refine mem_new M rfl rfl ?_; clear M; (try clear wx); intro g6 wx M)
                | (with_reducible (show wpList _ _ _ (Oper.mk _ (.load _ _) _ _ _ _ :: _) _ _); (first | (refine m_load M rfl rfl rfl (by first | assumption | rfl) ?_) | (refine m_loadR M rfl rfl rfl (by first | rfl | assumption | (simp; done) | (simp; omega)) ?_)))
                | (with_reducible (show wpList _ _ _ (Oper.mk _ (.store _ _ _) _ _ _ _ :: _) _ _); (first | (refine m_storeR M rfl rfl rfl rfl (by first | rfl | assumption | (simp; done) | (simp; omega)) (by first | rfl | assumption | (simp; done) | (simp; omega)) (claV_one _) ?_) | (refine m_store (v := Value.int _ _) M rfl rfl rfl rfl rfl (by first | assumption | (simp; done) | (simp; omega)) ?_) | (refine m_store (v := Value.slice _ _ _) M rfl rfl rfl rfl rfl (by first | assumption | (simp; done) | (simp; omega)) ?_) | (refine m_store (v := Value.bool _) M rfl rfl rfl rfl rfl (by first | assumption | (simp; done) | (simp; omega)) ?_) | (refine m_store (v := Value.string _) M rfl rfl rfl rfl rfl (by first | assumption | (simp; done) | (simp; omega)) ?_) | (refine m_store (v := Value.pointer _) M rfl rfl rfl rfl rfl (by first | assumption | (simp; done) | (simp; omega)) ?_)); clear M; (try clear wx); intro wx M; simp only [List.set_cons_zero, List.set_cons_succ, Nat.zero_add, List.nil_append] at M)
                | (with_reducible (show wpList _ _ _ (Oper.mk _ (.build _ _) _ _ _ _ :: _) _ _); refine m_buildZ rfl rfl ?_))
              exact m_ret M rfl rfl rfl (by simp) (by rw [HE.out])
      · have ce1 : ∀ w, (binOp .neq 25 (.agg (bA x1.1)) (.agg (bA y1.1))).run Try.prog w = .ok (.bool false) w := fun w => by rw [key_neq, decide_eq_true h1]; rfl
        have ce2 : ∀ w, (binOp .neq 25 (.agg (bA x2.1)) (.agg (bA y2.1))).run Try.prog w = .ok (.bool true) w := fun w => by rw [key_neq, decide_eq_false h2]; rfl
        have HE := Lib.hid (E1.out (.inr h2))
        clear h1 h2 E1 E2 E3
        go_wp2_with (first
          | (with_reducible (show wpList _ _ _ (Oper.mk (some 4) (.alloc _) _ _ _ _ :: _) _ _); refine mem_new M rfl rfl ?_; clear M; (try clear wx); intro g4 wx M)
          | (with_reducible (show wpList _ _ _ (Oper.mk (some 6) (.alloc _) _ _ _ _ :: _) _ _); refine mem_new M rfl rfl ?_; clear M; (try clear wx); intro g6 wx M)
          | (with_reducible (show wpList _ _ _ (Oper.mk _ (.load _ _) _ _ _ _ :: _) _ _); (first | (refine m_loadB M rfl rfl rfl (cla_get0 _ _ _ _) (Ky.len _) ?_) | (refine m_loadB M rfl rfl rfl (cla_get1 _ _ _ _) (Ky.len _) ?_) | (refine m_loadB M rfl rfl rfl (cla_get2 _ _ _ _) (Ky.len _) ?_) | (refine m_loadB M rfl rfl rfl (cla_get3 _ _ _ _) (Ky.len _) ?_) | (refine m_loadBw M rfl rfl rfl (cla_get0 _ _ _ _) (Ky.len _) ?_) | (refine m_loadBw M rfl rfl rfl (cla_get1 _ _ _ _) (Ky.len _) ?_) | (refine m_loadBw M rfl rfl rfl (cla_get2 _ _ _ _) (Ky.len _) ?_) | (refine m_loadBw M rfl rfl rfl (cla_get3 _ _ _ _) (Ky.len _) ?_) | (refine m_load M rfl rfl rfl (by first | assumption | rfl) ?_) | (refine m_loadR M rfl rfl rfl (by first | rfl | assumption | (simp; done) | (simp; omega)) ?_)))
          | (with_reducible (show wpList _ _ _ (Oper.mk _ (.store _ _ _) _ _ _ _ :: _) _ _); (first | (refine m_storeR M rfl rfl rfl rfl (by first | rfl | assumption | (simp; done) | (simp; omega)) (by first | rfl | assumption | (simp; done) | (simp; omega)) (claC_one _ _ _ _) ?_) | (refine m_store (v := Value.int _ _) M rfl rfl rfl rfl rfl (by first | assumption | (simp; done) | (simp; omega)) ?_) | (refine m_store (v := Value.slice _ _ _) M rfl rfl rfl rfl rfl (by first | assumption | (simp; done) | (simp; omega)) ?_) | (refine m_store (v := Value.bool _) M rfl rfl rfl rfl rfl (by first | assumption | (simp; done) | (simp; omega)) ?_) | (refine m_store (v := Value.string _) M rfl rfl rfl rfl rfl (by first | assumption | (simp; done) | (simp; omega)) ?_) | (refine m_store (v := Value.pointer _) M rfl rfl rfl rfl rfl (by first | assumption | (simp; done) | (simp; omega)) ?_)); clear M; (try clear wx); intro wx M; simp only [List.set_cons_zero, List.set_cons_succ, Nat.zero_add, List.nil_append] at M)
          | (with_reducible (show wpList _ _ _ (Oper.mk _ (.build _ _) _ _ _ _ :: _) _ _); refine m_buildZ rfl rfl ?_))
        exact m_ret M rfl rfl rfl (by simp) (by rw [HE.out]; rfl)
    · have ce1 : ∀ w, (binOp .neq 25 (.agg (bA x1.1)) (.agg (bA y1.1))).run Try.prog w = .ok (.bool true) w := fun w => by rw [key_neq, decide_eq_false h1]; rfl
      have HE := Lib.hid (E1.out (.inl h1))
      clear h1 E1 E2 E3
      go_wp2_with (first
        | (with_reducible (show wpList _ _ _ (Oper.mk (some 4) (.alloc _) _ _ _ _ :: _) _ _); refine mem_new M rfl rfl ?_; clear M; (try clear wx); intro g4 wx M)
        | (with_reducible (show wpList _ _ _ (Oper.mk (some 6) (.alloc _) _ _ _ _ :: _) _ _); refine mem_new M rfl rfl ?_; clear M; (try clear wx); intro g6 wx M)
        | (with_reducible (show wpList _ _ _ (Oper.mk _ (.load _ _) _ _ _ _ :: _) _ _); (first | (refine m_loadB M rfl rfl rfl (cla_get0 _ _ _ _) (Ky.len _) ?_) | (refine m_loadB M rfl rfl rfl (cla_get1 _ _ _ _) (Ky.len _) ?_) | (refine m_loadB M rfl rfl rfl (cla_get2 _ _ _ _) (Ky.len _) ?_) | (refine m_loadB M rfl rfl rfl (cla_get3 _ _ _ _) (Ky.len _) ?_) | (refine m_loadBw M rfl rfl rfl (cla_get0 _ _ _ _) (Ky.len _) ?_) | (refine m_loadBw M rfl rfl rfl (cla_get1 _ _ _ _) (Ky.len _) ?_) | (refine m_loadBw M rfl rfl rfl (cla_get2 _ _ _ _) (Ky.len _) ?_) | (refine m_loadBw M rfl rfl rfl (cla_get3 _ _ _ _) (Ky.len _) ?_) | (refine m_load M rfl rfl rfl (by first | assumption | rfl) ?_) | (refine m_loadR M rfl rfl rfl (by first | rfl | assumption | (simp; done) | (simp; omega)) ?_)))
        | (with_reducible (show wpList _ _ _ (Oper.mk _ (.store _ _ _) _ _ _ _ :: _) _ _); (first | (refine m_storeR M rfl rfl rfl rfl (by first | rfl | assumption | (simp; done) | (simp; omega)) (by first | rfl | assumption | (simp; done) | (simp; omega)) (claC_one _ _ _ _) ?_) | (refine m_store (v := Value.int _ _) M rfl rfl rfl rfl rfl (by first | assumption | (simp; done) | (simp; omega)) ?_) | (refine m_store (v := Value.slice _ _ _) M rfl rfl rfl rfl rfl (by first | assumption | (simp; done) | (simp; omega)) ?_) | (refine m_store (v := Value.bool _) M rfl rfl rfl rfl rfl (by first | assumption | (simp; done) | (simp; omega)) ?_) | (refine m_store (v := Value.string _) M rfl rfl rfl rfl rfl (by first | assumption | (simp; done) | (simp; omega)) ?_) | (refine m_store (v := Value.pointer _) M rfl rfl rfl rfl rfl (by first | assumption | (simp; done) | (simp; omega)) ?_)); clear M; (try clear wx); intro wx M; simp only [List.set_cons_zero, List.set_cons_succ, Nat.zero_add, List.nil_append] at M)
        | (with_reducible (show wpList _ _ _ (Oper.mk _ (.build _ _) _ _ _ _ :: _) _ _); refine m_buildZ rfl rfl ?_))
      exact m_ret M rfl rfl rfl (by simp) (by rw [HE.out]; rfl)

set_option maxHeartbeats 8000000 in
set_option maxRecDepth 100000 in
theorem clash_c (n : Nat) : ∀ (a b : List Ky), a.length = n → b.length = n → n ≤ 256 → a ≠ b → listK a = listK b → ∀ va vb w, Rd w 32 va n (kyL a) → Rd w 32 vb n (kyL b) →
    Ret Try.prog 57 #[va, vb] w fun r _ => r = .agg (claV (clL a b)) := by
  induction n using Nat.strongRecOn with
  | ind n ih =>
  intro a b ha hb hn hne hk va vb w hva hvb
  obtain ⟨b1, cap1, rfl⟩ := hva.shape
  obtain ⟨b2, cap2, rfl⟩ := hvb.shape
  have HVA := Lib.hid hva
  have HVB := Lib.hid hvb
  have IH := Lib.hid ih
  clear hva hvb ih
  have h2 : 2 ≤ n := by
    rcases (show n = 0 ∨ n = 1 ∨ 2 ≤ n by omega) with rfl | rfl | h2
    · exact absurd ((List.eq_nil_of_length_eq_zero ha).trans (List.eq_nil_of_length_eq_zero hb).symm) hne
    · obtain ⟨x, rfl⟩ := List.length_eq_one_iff.1 ha
      obtain ⟨y, rfl⟩ := List.length_eq_one_iff.1 hb
      rw [listK_1, listK_1] at hk
      exact absurd (by rw [hk]) hne
    · exact h2
  have hm1 := halfN_lt n h2
  have hm2 := halfN_pos n
  have hml : halfN n ≤ n := Nat.le_of_lt hm1
  have lta : (a.take (halfN n)).length = halfN n := by rw [List.length_take]; omega
  have ltb : (b.take (halfN n)).length = halfN n := by rw [List.length_take]; omega
  have lda : (a.drop (halfN n)).length = n - halfN n := by rw [List.length_drop]; omega
  have ldb : (b.drop (halfN n)).length = n - halfN n := by rw [List.length_drop]; omega
  have HH := Lib.hid (leftOf_c n h2 (by omega))
  have KA1 : Hid (∀ v w, Rd w 32 v (halfN n) ((kyL a).take (halfN n * 32)) → Ret Try.prog 55 #[v] w fun r _ => r = .agg (bA (listK (a.take (halfN n))).1)) := Lib.hid (fun v w h => listKey_c _ _ lta (by omega) v w (by rw [kyL_take] at h; exact h))
  have KA2 : Hid (∀ v w, Rd w 32 v (n - halfN n) ((kyL a).drop (halfN n * 32)) → Ret Try.prog 55 #[v] w fun r _ => r = .agg (bA (listK (a.drop (halfN n))).1)) := Lib.hid (fun v w h => listKey_c _ _ lda (by omega) v w (by rw [kyL_drop] at h; exact h))
  have KB1 : Hid (∀ v w, Rd w 32 v (halfN n) ((kyL b).take (halfN n * 32)) → Ret Try.prog 55 #[v] w fun r _ => r = .agg (bA (listK (b.take (halfN n))).1)) := Lib.hid (fun v w h => listKey_c _ _ ltb (by omega) v w (by rw [kyL_take] at h; exact h))
  have KB2 : Hid (∀ v w, Rd w 32 v (n - halfN n) ((kyL b).drop (halfN n * 32)) → Ret Try.prog 55 #[v] w fun r _ => r = .agg (bA (listK (b.drop (halfN n))).1)) := Lib.hid (fun v w h => listKey_c _ _ ldb (by omega) v w (by rw [kyL_drop] at h; exact h))
  have HLS : Hid (∀ va vb w, Rd w 32 va (halfN n) ((kyL a).take (halfN n * 32)) → Rd w 32 vb (halfN n) ((kyL b).take (halfN n * 32)) → Ret Try.prog 56 #[va, vb] w fun r _ => r = .bool (decide (a.take (halfN n) = b.take (halfN n)))) := Lib.hid (fun va vb w h h' => equalK_c _ _ _ lta ltb va vb w (by omega) (by rw [kyL_take] at h; exact h) (by rw [kyL_take] at h'; exact h'))
  have R1 : Hid (listK (a.take (halfN n)) = listK (b.take (halfN n)) → a.take (halfN n) ≠ b.take (halfN n) → ∀ va vb w, Rd w 32 va (halfN n) ((kyL a).take (halfN n * 32)) → Rd w 32 vb (halfN n) ((kyL b).take (halfN n * 32)) → Ret Try.prog 57 #[va, vb] w fun r _ => r = .agg (claV (clL (a.take (halfN n)) (b.take (halfN n))))) :=
    Lib.hid (fun hk1 hne1 va vb w h h' => IH.out _ hm1 _ _ lta ltb (by omega) hne1 hk1 va vb w (by rw [kyL_take] at h; exact h) (by rw [kyL_take] at h'; exact h'))
  have R2 : Hid (listK (a.drop (halfN n)) = listK (b.drop (halfN n)) → a.take (halfN n) = b.take (halfN n) → ∀ va vb w, Rd w 32 va (n - halfN n) ((kyL a).drop (halfN n * 32)) → Rd w 32 vb (n - halfN n) ((kyL b).drop (halfN n * 32)) → Ret Try.prog 57 #[va, vb] w fun r _ => r = .agg (claV (clL (a.drop (halfN n)) (b.drop (halfN n))))) :=
    Lib.hid (fun hk1 heq1 va vb w h h' => IH.out _ (by omega) _ _ lda ldb (by omega) (fun e => hne (by rw [← List.take_append_drop (halfN n) a, ← List.take_append_drop (halfN n) b, heq1, e])) hk1 va vb w (by rw [kyL_drop] at h; exact h) (by rw [kyL_drop] at h'; exact h'))
  have E1 := Lib.hid (clL_1 a b n ha h2)
  have E2 := Lib.hid (clL_2 a b n ha h2)
  have E3 := Lib.hid (clL_3 a b n ha h2)
  clear lta ltb lda ldb IH ha hb hne hk
  generalize clL (a.take (halfN n)) (b.take (halfN n)) = T1 at *
  generalize clL (a.drop (halfN n)) (b.drop (halfN n)) = T2 at *
  generalize clL a b = T at *
  generalize listK (a.take (halfN n)) = x1 at *
  generalize listK (a.drop (halfN n)) = x2 at *
  generalize listK (b.take (halfN n)) = y1 at *
  generalize listK (b.drop (halfN n)) = y2 at *
  generalize a.take (halfN n) = A1 at *
  generalize b.take (halfN n) = B1 at *
  generalize halfN n = m at *
  refine ret_start fun wx M => ?_
  go_enter Try.func57, Try.ntmps57
  go_wp2_with (first
    | (go_at_call 66; (with_reducible refine mem_call M (sizeKey_c _ _ _ _) ?_); clear M; (try clear wx); rintro _ wx rfl _ M)
    | (go_at_call 106; (with_reducible refine mem_call M (HH.out _) ?_); clear M; (try clear wx); rintro _ wx rfl _ M)
    | (with_reducible (show wpList _ _ _ (Oper.mk (some 4) (.alloc _) _ _ _ _ :: _) _ _); refine mem_new M rfl rfl ?_; clear M; (try clear wx); intro g4 wx M)
    | (with_reducible (show wpList _ _ _ (Oper.mk (some 6) (.alloc _) _ _ _ _ :: _) _ _); refine mem_new M rfl rfl ?_; clear M; (try clear wx); intro g6 wx M)
    | (with_reducible (show wpList _ _ _ (Oper.mk _ (.load _ _) _ _ _ _ :: _) _ _); (first | (refine m_load M rfl rfl rfl (by first | assumption | rfl) ?_) | (refine m_loadR M rfl rfl rfl (by first | rfl | assumption | (simp; done) | (simp; omega)) ?_)))
    | (with_reducible (show wpList _ _ _ (Oper.mk _ (.store _ _ _) _ _ _ _ :: _) _ _); (first | (refine m_storeR M rfl rfl rfl rfl (by first | rfl | assumption | (simp; done) | (simp; omega)) (by first | rfl | assumption | (simp; done) | (simp; omega)) (by first | exact bA_one _ | exact wA_one _ | assumption | (simp [Value.oneCell']; done)) ?_) | (refine m_store (v := Value.int _ _) M rfl rfl rfl rfl rfl (by first | assumption | (simp; done) | (simp; omega)) ?_) | (refine m_store (v := Value.slice _ _ _) M rfl rfl rfl rfl rfl (by first | assumption | (simp; done) | (simp; omega)) ?_) | (refine m_store (v := Value.bool _) M rfl rfl rfl rfl rfl (by first | assumption | (simp; done) | (simp; omega)) ?_) | (refine m_store (v := Value.string _) M rfl rfl rfl rfl rfl (by first | assumption | (simp; done) | (simp; omega)) ?_) | (refine m_store (v := Value.pointer _) M rfl rfl rfl rfl rfl (by first | assumption | (simp; done) | (simp; omega)) ?_)); clear M; (try clear wx); intro wx M; simp only [List.set_cons_zero, List.set_cons_succ, Nat.zero_add, List.nil_append] at M)
    | (with_reducible (show wpList _ _ _ (Oper.mk _ (.build _ _) _ _ _ _ :: _) _ _); refine m_buildZ rfl rfl ?_))
  refine region_mono (m := 18) mixedOrders_ (by kernel_rfl) (by kernel_rfl)
    (fun | 0 => fun vq _ => vq = .slice b1 n cap1 | 1 => fun vq _ => vq = .int .i64 (m : Int) | 2 => fun v wx => Rd wx 32 v m ((kyL a).take (m * 32)) | 3 => fun vq _ => vq = .agg (bA x1.1) | 4 => fun vq _ => vq = .slice b1 n cap1 | 5 => fun vq _ => vq = .int .i64 (m : Int) | 6 => fun v wx => Rd wx 32 v (n - m) ((kyL a).drop (m * 32)) | 7 => fun vq _ => vq = .agg (bA x2.1) | 8 => fun vq _ => vq = .slice b2 n cap2 | 9 => fun vq _ => vq = .int .i64 (m : Int) | 10 => fun v wx => Rd wx 32 v m ((kyL b).take (m * 32)) | 11 => fun vq _ => vq = .agg (bA y1.1) | 12 => fun vq _ => vq = .slice b2 n cap2 | 13 => fun vq _ => vq = .int .i64 (m : Int) | 14 => fun v wx => Rd wx 32 v (n - m) ((kyL b).drop (m * 32)) | 15 => fun vq _ => vq = .agg (bA y2.1) | 16 => fun vq _ => vq = .agg (claC x1.1 x2.1 y1.1 y2.1) | 17 => fun v wx => Fresh w [.blk g4 27 (claC zeroKy.1 zeroKy.1 zeroKy.1 zeroKy.1)] 27 (claC zeroKy.1 zeroKy.1 zeroKy.1 zeroKy.1) v wx | _ => fun _ _ => True)
    (fun wx => Mem w wx [.blk g4 27 (claC zeroKy.1 zeroKy.1 zeroKy.1 zeroKy.1)]) ?_ ?_ ?_ ?_ ?_
  · intro j hj v w1 w2 hb h
    match j, hj with
    | 0, _ => exact h
    | 1, _ => exact h
    | 2, _ => exact h.up hb
    | 3, _ => exact h
    | 4, _ => exact h
    | 5, _ => exact h
    | 6, _ => exact h.up hb
    | 7, _ => exact h
    | 8, _ => exact h
    | 9, _ => exact h
    | 10, _ => exact h.up hb
    | 11, _ => exact h
    | 12, _ => exact h
    | 13, _ => exact h
    | 14, _ => exact h.up hb
    | 15, _ => exact h
    | 16, _ => exact h
    | 17, _ => exact h.up hb
    | n + 18, h' => exact absurd h' (by omega)
  · intro w1 w2 hb h
    exact h.grow hb
  · exact M.grow ((Up.refl _).drew)
  · rintro i o hi ho av wv fr gM dep
    match i, hi with
    | 0, _ =>
      obtain rfl := Option.some.inj ho
      exact st_mov rfl (fr.eval rfl) rfl
    | 1, _ =>
      obtain rfl := Option.some.inj ho
      exact st_mov rfl (fr.eval rfl) rfl
    | 2, _ =>
      obtain rfl := Option.some.inj ho
      exact st_slH rfl (dep ⟨0, .data⟩ (by simp) rfl) (dep ⟨1, .data⟩ (by simp) rfl) (HVA.out.up gM.up) hml (fun v h => h)
    | 3, _ =>
      obtain rfl := Option.some.inj ho
      have D2 := dep ⟨2, .data⟩ (by simp) rfl
      exact st_ret1 rfl (fun _ _ => by kernel_rfl) (rfl) (KA1.out _ _ D2) (fun r w' h _ => h)
    | 4, _ =>
      obtain rfl := Option.some.inj ho
      exact st_mov rfl (fr.eval rfl) rfl
    | 5, _ =>
      obtain rfl := Option.some.inj ho
      exact st_mov rfl (fr.eval rfl) rfl
    | 6, _ =>
      obtain rfl := Option.some.inj ho
      exact st_slL rfl (dep ⟨4, .data⟩ (by simp) rfl) (dep ⟨5, .data⟩ (by simp) rfl) (HVA.out.up gM.up) hml (fun v h => h)
    | 7, _ =>
      obtain rfl := Option.some.inj ho
      have D6 := dep ⟨6, .data⟩ (by simp) rfl
      exact st_ret1 rfl (fun _ _ => by kernel_rfl) (rfl) (KA2.out _ _ D6) (fun r w' h _ => h)
    | 8, _ =>
      obtain rfl := Option.some.inj ho
      exact st_mov rfl (fr.eval rfl) rfl
    | 9, _ =>
      obtain rfl := Option.some.inj ho
      exact st_mov rfl (fr.eval rfl) rfl
    | 10, _ =>
      obtain rfl := Option.some.inj ho
      exact st_slH rfl (dep ⟨8, .data⟩ (by simp) rfl) (dep ⟨9, .data⟩ (by simp) rfl) (HVB.out.up gM.up) hml (fun v h => h)
    | 11, _ =>
      obtain rfl := Option.some.inj ho
      have D10 := dep ⟨10, .data⟩ (by simp) rfl
      exact st_ret1 rfl (fun _ _ => by kernel_rfl) (rfl) (KB1.out _ _ D10) (fun r w' h _ => h)
    | 12, _ =>
      obtain rfl := Option.some.inj ho
      exact st_mov rfl (fr.eval rfl) rfl
    | 13, _ =>
      obtain rfl := Option.some.inj ho
      exact st_mov rfl (fr.eval rfl) rfl
    | 14, _ =>
      obtain rfl := Option.some.inj ho
      exact st_slL rfl (dep ⟨12, .data⟩ (by simp) rfl) (dep ⟨13, .data⟩ (by simp) rfl) (HVB.out.up gM.up) hml (fun v h => h)
    | 15, _ =>
      obtain rfl := Option.some.inj ho
      have D14 := dep ⟨14, .data⟩ (by simp) rfl
      exact st_ret1 rfl (fun _ _ => by kernel_rfl) (rfl) (KB2.out _ _ D14) (fun r w' h _ => h)
    | 16, _ =>
      obtain rfl := Option.some.inj ho
      exact st_build4 rfl (dep ⟨3, .data⟩ (by simp) rfl) (dep ⟨7, .data⟩ (by simp) rfl) (dep ⟨11, .data⟩ (by simp) rfl) (dep ⟨15, .data⟩ (by simp) rfl) (built_cla4 x1 x2 y1 y2) rfl
    | 17, _ =>
      obtain rfl := Option.some.inj ho
      exact st_new gM rfl
    | n + 18, h' => exact absurd h' (by omega)
  · rintro vs wv gM hf
    have f0 : vs 0 = .slice b1 n cap1 := hf 0 (by omega)
    have f1 : vs 1 = .int .i64 (m : Int) := hf 1 (by omega)
    have f2 := hf 2 (by omega)
    have f3 : vs 3 = .agg (bA x1.1) := hf 3 (by omega)
    have f4 : vs 4 = .slice b1 n cap1 := hf 4 (by omega)
    have f5 : vs 5 = .int .i64 (m : Int) := hf 5 (by omega)
    have f6 := hf 6 (by omega)
    have f7 : vs 7 = .agg (bA x2.1) := hf 7 (by omega)
    have f8 : vs 8 = .slice b2 n cap2 := hf 8 (by omega)
    have f9 : vs 9 = .int .i64 (m : Int) := hf 9 (by omega)
    have f10 := hf 10 (by omega)
    have f11 : vs 11 = .agg (bA y1.1) := hf 11 (by omega)
    have f12 : vs 12 = .slice b2 n cap2 := hf 12 (by omega)
    have f13 : vs 13 = .int .i64 (m : Int) := hf 13 (by omega)
    have f14 := hf 14 (by omega)
    have f15 : vs 15 = .agg (bA y2.1) := hf 15 (by omega)
    have f16 : vs 16 = .agg (claC x1.1 x2.1 y1.1 y2.1) := hf 16 (by omega)
    have f17 := hf 17 (by omega)
    obtain ⟨g6, e6, M⟩ := gM.fresh f17
    simp only [putAll, Act.put, List.getElem?_toArray, List.getElem?_cons_zero, List.getElem?_cons_succ, Option.bind_some, List.setIfInBounds_toArray, List.set_cons_zero, List.set_cons_succ, List.drop_succ_cons, List.drop_zero, List.drop_nil, f16, e6]
    clear f0 f1 f2 f3 f4 f5 f6 f7 f8 f9 f10 f11 f12 f13 f14 f15 f16 f17 e6 hf gM
    have M := M
    by_cases h1 : x1 = y1
    · by_cases h2 : x2 = y2
      · have ce1 : ∀ w, (binOp .neq 25 (.agg (bA x1.1)) (.agg (bA y1.1))).run Try.prog w = .ok (.bool false) w := fun w => by rw [key_neq, decide_eq_true h1]; rfl
        have ce2 : ∀ w, (binOp .neq 25 (.agg (bA x2.1)) (.agg (bA y2.1))).run Try.prog w = .ok (.bool false) w := fun w => by rw [key_neq, decide_eq_true h2]; rfl
        obtain ⟨c, hc⟩ : ∃ c, decide (A1 = B1) = c := ⟨_, rfl⟩
        have HC := Lib.hid hc
        have E2 := Lib.hid (E2.out h1 h2)
        have E3 := Lib.hid (E3.out h1 h2)
        have R1 := Lib.hid (R1.out h1)
        have R2 := Lib.hid (R2.out h2)
        clear h1 h2 hc E1
        go_wp2_with (first
          | (with_reducible (show wpList _ _ _ (Oper.mk (some 4) (.alloc _) _ _ _ _ :: _) _ _); refine mem_new M rfl rfl ?_; clear M; (try clear wx); intro g4 wx M)
          | (with_reducible (show wpList _ _ _ (Oper.mk (some 6) (.alloc _) _ _ _ _ :: _) _ _); refine mem_new M rfl rfl ?_; clear M; (try clear wx); intro g6 wx M)
          | (with_reducible (show wpList _ _ _ (Oper.mk _ (.load _ _) _ _ _ _ :: _) _ _); (first | (refine m_loadB M rfl rfl rfl (cla_get0 _ _ _ _) (Ky.len _) ?_) | (refine m_loadB M rfl rfl rfl (cla_get1 _ _ _ _) (Ky.len _) ?_) | (refine m_loadB M rfl rfl rfl (cla_get2 _ _ _ _) (Ky.len _) ?_) | (refine m_loadB M rfl rfl rfl (cla_get3 _ _ _ _) (Ky.len _) ?_) | (refine m_loadBw M rfl rfl rfl (cla_get0 _ _ _ _) (Ky.len _) ?_) | (refine m_loadBw M rfl rfl rfl (cla_get1 _ _ _ _) (Ky.len _) ?_) | (refine m_loadBw M rfl rfl rfl (cla_get2 _ _ _ _) (Ky.len _) ?_) | (refine m_loadBw M rfl rfl rfl (cla_get3 _ _ _ _) (Ky.len _) ?_) | (refine m_load M rfl rfl rfl (by first | assumption | rfl) ?_) | (refine m_loadR M rfl rfl rfl (by first | rfl | assumption | (simp; done) | (simp; omega)) ?_)))
          | (with_reducible (show wpList _ _ _ (Oper.mk _ (.store _ _ _) _ _ _ _ :: _) _ _); (first | (refine m_storeR M rfl rfl rfl rfl (by first | rfl | assumption | (simp; done) | (simp; omega)) (by first | rfl | assumption | (simp; done) | (simp; omega)) (claC_one _ _ _ _) ?_) | (refine m_store (v := Value.int _ _) M rfl rfl rfl rfl rfl (by first | assumption | (simp; done) | (simp; omega)) ?_) | (refine m_store (v := Value.slice _ _ _) M rfl rfl rfl rfl rfl (by first | assumption | (simp; done) | (simp; omega)) ?_) | (refine m_store (v := Value.bool _) M rfl rfl rfl rfl rfl (by first | assumption | (simp; done) | (simp; omega)) ?_) | (refine m_store (v := Value.string _) M rfl rfl rfl rfl rfl (by first | assumption | (simp; done) | (simp; omega)) ?_) | (refine m_store (v := Value.pointer _) M rfl rfl rfl rfl rfl (by first | assumption | (simp; done) | (simp; omega)) ?_)); clear M; (try clear wx); intro wx M; simp only [List.set_cons_zero, List.set_cons_succ, Nat.zero_add, List.nil_append] at M)
          | (with_reducible (show wpList _ _ _ (Oper.mk _ (.build _ _) _ _ _ _ :: _) _ _); refine m_buildZ rfl rfl ?_))
        refine region_mono (m := 8) mixedOrders_ (by kernel_rfl) (by kernel_rfl)
          (fun | 0 => fun vq _ => vq = .slice b1 n cap1 | 1 => fun vq _ => vq = .int .i64 (m : Int) | 2 => fun v wx => Rd wx 32 v m ((kyL a).take (m * 32)) | 3 => fun vq _ => vq = .slice b2 n cap2 | 4 => fun vq _ => vq = .int .i64 (m : Int) | 5 => fun v wx => Rd wx 32 v m ((kyL b).take (m * 32)) | 6 => fun vq _ => vq = .bool c | 7 => fun vq _ => vq = .bool (!c) | _ => fun _ _ => True)
          (fun wx => Mem w wx [.blk g6 27 (claC x1.1 x2.1 y1.1 y2.1), .blk g4 27 (claC zeroKy.1 zeroKy.1 zeroKy.1 zeroKy.1)]) ?_ ?_ ?_ ?_ ?_
        · intro j hj v w1 w2 hb h
          match j, hj with
          | 0, _ => exact h
          | 1, _ => exact h
          | 2, _ => exact h.up hb
          | 3, _ => exact h
          | 4, _ => exact h
          | 5, _ => exact h.up hb
          | 6, _ => exact h
          | 7, _ => exact h
        · intro w1 w2 hb h
          exact h.grow hb
        · exact M.grow ((Up.refl _).drew)
        · rintro i o hi ho av wv fr gM dep
          match i, hi with
          | 0, _ =>
            obtain rfl := Option.some.inj ho
            exact st_mov rfl (fr.eval rfl) rfl
          | 1, _ =>
            obtain rfl := Option.some.inj ho
            exact st_mov rfl (fr.eval rfl) rfl
          | 2, _ =>
            obtain rfl := Option.some.inj ho
            exact st_slH rfl (dep ⟨0, .data⟩ (by simp) rfl) (dep ⟨1, .data⟩ (by simp) rfl) (HVA.out.up gM.up) hml (fun v h => h)
          | 3, _ =>
            obtain rfl := Option.some.inj ho
            exact st_mov rfl (fr.eval rfl) rfl
          | 4, _ =>
            obtain rfl := Option.some.inj ho
            exact st_mov rfl (fr.eval rfl) rfl
          | 5, _ =>
            obtain rfl := Option.some.inj ho
            exact st_slH rfl (dep ⟨3, .data⟩ (by simp) rfl) (dep ⟨4, .data⟩ (by simp) rfl) (HVB.out.up gM.up) hml (fun v h => h)
          | 6, _ =>
            obtain rfl := Option.some.inj ho
            have D2 := dep ⟨2, .data⟩ (by simp) rfl
            have D5 := dep ⟨5, .data⟩ (by simp) rfl
            exact st_ret2 rfl (fun _ _ => by kernel_rfl) rfl rfl (HLS.out _ _ _ D2 D5) (fun r w' h _ => h.trans (by rw [HC.out]))
          | 7, _ =>
            obtain rfl := Option.some.inj ho
            exact st_not rfl (dep ⟨6, .data⟩ (by simp) rfl) rfl
        · rintro vs wv gM hf
          have f0 : vs 0 = .slice b1 n cap1 := hf 0 (by omega)
          have f1 : vs 1 = .int .i64 (m : Int) := hf 1 (by omega)
          have f2 := hf 2 (by omega)
          have f3 : vs 3 = .slice b2 n cap2 := hf 3 (by omega)
          have f4 : vs 4 = .int .i64 (m : Int) := hf 4 (by omega)
          have f5 := hf 5 (by omega)
          have f6 : vs 6 = .bool c := hf 6 (by omega)
          have f7 : vs 7 = .bool (!c) := hf 7 (by omega)
          simp only [putAll, Act.put, List.getElem?_toArray, List.getElem?_cons_zero, List.getElem?_cons_succ, Option.bind_some, List.setIfInBounds_toArray, List.set_cons_zero, List.set_cons_succ, List.drop_succ_cons, List.drop_zero, List.drop_nil, f7]
          clear f0 f1 f2 f3 f4 f5 f6 f7 hf ce1 ce2
          have M := gM
          clear gM
          cases c with
          | true =>
            have heq : A1 = B1 := of_decide_eq_true HC.out
            have HE := Lib.hid (E3.out heq)
            have R2 := Lib.hid (R2.out heq)
            clear heq E2 E3 R1
            go_wp2_with (first
              | (with_reducible (show wpList _ _ _ (Oper.mk (some 4) (.alloc _) _ _ _ _ :: _) _ _); refine mem_new M rfl rfl ?_; clear M; (try clear wx); intro g4 wx M)
              | (with_reducible (show wpList _ _ _ (Oper.mk (some 6) (.alloc _) _ _ _ _ :: _) _ _); refine mem_new M rfl rfl ?_; clear M; (try clear wx); intro g6 wx M)
              | (with_reducible (show wpList _ _ _ (Oper.mk _ (.load _ _) _ _ _ _ :: _) _ _); (first | (refine m_load M rfl rfl rfl (by first | assumption | rfl) ?_) | (refine m_loadR M rfl rfl rfl (by first | rfl | assumption | (simp; done) | (simp; omega)) ?_)))
              | (with_reducible (show wpList _ _ _ (Oper.mk _ (.store _ _ _) _ _ _ _ :: _) _ _); (first | (refine m_storeR M rfl rfl rfl rfl (by first | rfl | assumption | (simp; done) | (simp; omega)) (by first | rfl | assumption | (simp; done) | (simp; omega)) (by first | exact bA_one _ | exact wA_one _ | assumption | (simp [Value.oneCell']; done)) ?_) | (refine m_store (v := Value.int _ _) M rfl rfl rfl rfl rfl (by first | assumption | (simp; done) | (simp; omega)) ?_) | (refine m_store (v := Value.slice _ _ _) M rfl rfl rfl rfl rfl (by first | assumption | (simp; done) | (simp; omega)) ?_) | (refine m_store (v := Value.bool _) M rfl rfl rfl rfl rfl (by first | assumption | (simp; done) | (simp; omega)) ?_) | (refine m_store (v := Value.string _) M rfl rfl rfl rfl rfl (by first | assumption | (simp; done) | (simp; omega)) ?_) | (refine m_store (v := Value.pointer _) M rfl rfl rfl rfl rfl (by first | assumption | (simp; done) | (simp; omega)) ?_)); clear M; (try clear wx); intro wx M; simp only [List.set_cons_zero, List.set_cons_succ, Nat.zero_add, List.nil_append] at M)
              | (with_reducible (show wpList _ _ _ (Oper.mk _ (.build _ _) _ _ _ _ :: _) _ _); refine m_buildZ rfl rfl ?_))
            refine region_mono (m := 7) mixedOrders_ (by kernel_rfl) (by kernel_rfl)
              (fun | 0 => fun vq _ => vq = .slice b1 n cap1 | 1 => fun vq _ => vq = .int .i64 (m : Int) | 2 => fun v wx => Rd wx 32 v (n - m) ((kyL a).drop (m * 32)) | 3 => fun vq _ => vq = .slice b2 n cap2 | 4 => fun vq _ => vq = .int .i64 (m : Int) | 5 => fun v wx => Rd wx 32 v (n - m) ((kyL b).drop (m * 32)) | 6 => fun vq _ => vq = .agg (claV T2) | _ => fun _ _ => True)
              (fun wx => Mem w wx [.blk g6 27 (claC x1.1 x2.1 y1.1 y2.1), .blk g4 27 (claC zeroKy.1 zeroKy.1 zeroKy.1 zeroKy.1)]) ?_ ?_ ?_ ?_ ?_
            · intro j hj v w1 w2 hb h
              match j, hj with
              | 0, _ => exact h
              | 1, _ => exact h
              | 2, _ => exact h.up hb
              | 3, _ => exact h
              | 4, _ => exact h
              | 5, _ => exact h.up hb
              | 6, _ => exact h
            · intro w1 w2 hb h
              exact h.grow hb
            · exact M.grow ((Up.refl _).drew)
            · rintro i o hi ho av wv fr gM dep
              match i, hi with
              | 0, _ =>
                obtain rfl := Option.some.inj ho
                exact st_mov rfl (fr.eval rfl) rfl
              | 1, _ =>
                obtain rfl := Option.some.inj ho
                exact st_mov rfl (fr.eval rfl) rfl
              | 2, _ =>
                obtain rfl := Option.some.inj ho
                exact st_slL rfl (dep ⟨0, .data⟩ (by simp) rfl) (dep ⟨1, .data⟩ (by simp) rfl) (HVA.out.up gM.up) hml (fun v h => h)
              | 3, _ =>
                obtain rfl := Option.some.inj ho
                exact st_mov rfl (fr.eval rfl) rfl
              | 4, _ =>
                obtain rfl := Option.some.inj ho
                exact st_mov rfl (fr.eval rfl) rfl
              | 5, _ =>
                obtain rfl := Option.some.inj ho
                exact st_slL rfl (dep ⟨3, .data⟩ (by simp) rfl) (dep ⟨4, .data⟩ (by simp) rfl) (HVB.out.up gM.up) hml (fun v h => h)
              | 6, _ =>
                obtain rfl := Option.some.inj ho
                have D2 := dep ⟨2, .data⟩ (by simp) rfl
                have D5 := dep ⟨5, .data⟩ (by simp) rfl
                exact st_ret2 rfl (fun _ _ => by kernel_rfl) rfl rfl (R2.out _ _ _ D2 D5) (fun r w' h _ => h)
            · rintro vs wv gM hf
              have f0 : vs 0 = .slice b1 n cap1 := hf 0 (by omega)
              have f1 : vs 1 = .int .i64 (m : Int) := hf 1 (by omega)
              have f2 := hf 2 (by omega)
              have f3 : vs 3 = .slice b2 n cap2 := hf 3 (by omega)
              have f4 : vs 4 = .int .i64 (m : Int) := hf 4 (by omega)
              have f5 := hf 5 (by omega)
              have f6 : vs 6 = .agg (claV T2) := hf 6 (by omega)
              simp only [putAll, Act.put, List.getElem?_toArray, List.getElem?_cons_zero, List.getElem?_cons_succ, Option.bind_some, List.setIfInBounds_toArray, List.set_cons_zero, List.set_cons_succ, List.drop_succ_cons, List.drop_zero, List.drop_nil, f6]
              clear f0 f1 f2 f3 f4 f5 f6 hf
              have M := gM
              go_wp2_with (first
                | (with_reducible (show wpList _ _ _ (Oper.mk (some 4) (.alloc _) _ _ _ _ :: _) _ _); refine mem_new M rfl rfl ?_; clear M; (try clear wx); intro g4 wx M)
                | (with_reducible (show wpList _ _ _ (Oper.mk (some 6) (.alloc _) _ _ _ _ :: _) _ _); refine mem_new M rfl rfl ?_; clear M; (try clear wx); intro g6 wx M)
                | (with_reducible (show wpList _ _ _ (Oper.mk _ (.load _ _) _ _ _ _ :: _) _ _); (first | (refine m_load M rfl rfl rfl (by first | assumption | rfl) ?_) | (refine m_loadR M rfl rfl rfl (by first | rfl | assumption | (simp; done) | (simp; omega)) ?_)))
                | (with_reducible (show wpList _ _ _ (Oper.mk _ (.store _ _ _) _ _ _ _ :: _) _ _); (first | (refine m_storeR M rfl rfl rfl rfl (by first | rfl | assumption | (simp; done) | (simp; omega)) (by first | rfl | assumption | (simp; done) | (simp; omega)) (claV_one _) ?_) | (refine m_store (v := Value.int _ _) M rfl rfl rfl rfl rfl (by first | assumption | (simp; done) | (simp; omega)) ?_) | (refine m_store (v := Value.slice _ _ _) M rfl rfl rfl rfl rfl (by first | assumption | (simp; done) | (simp; omega)) ?_) | (refine m_store (v := Value.bool _) M rfl rfl rfl rfl rfl (by first | assumption | (simp; done) | (simp; omega)) ?_) | (refine m_store (v := Value.string _) M rfl rfl rfl rfl rfl (by first | assumption | (simp; done) | (simp; omega)) ?_) | (refine m_store (v := Value.pointer _) M rfl rfl rfl rfl rfl (by first | assumption | (simp; done) | (simp; omega)) ?_)); clear M; (try clear wx); intro wx M; simp only [List.set_cons_zero, List.set_cons_succ, Nat.zero_add, List.nil_append] at M)
                | (with_reducible (show wpList _ _ _ (Oper.mk _ (.build _ _) _ _ _ _ :: _) _ _); refine m_buildZ rfl rfl ?_))
              exact m_ret M rfl rfl rfl (by simp) (by rw [HE.out])
          | false =>
            have heq : A1 ≠ B1 := of_decide_eq_false HC.out
            have HE := Lib.hid (E2.out heq)
            have R1 := Lib.hid (R1.out heq)
            clear heq E2 E3 R2
            go_wp2_with (first
              | (with_reducible (show wpList _ _ _ (Oper.mk (some 4) (.alloc _) _ _ _ _ :: _) _ _); refine mem_new M rfl rfl ?_; clear M; (try clear wx); intro g4 wx M)
              | (with_reducible (show wpList _ _ _ (Oper.mk (some 6) (.alloc _) _ _ _ _ :: _) _ _); refine mem_new M rfl rfl ?_; clear M; (try clear wx); intro g6 wx M)
              | (with_reducible (show wpList _ _ _ (Oper.mk _ (.load _ _) _ _ _ _ :: _) _ _); (first | (refine m_load M rfl rfl rfl (by first | assumption | rfl) ?_) | (refine m_loadR M rfl rfl rfl (by first | rfl | assumption | (simp; done) | (simp; omega)) ?_)))
              | (with_reducible (show wpList _ _ _ (Oper.mk _ (.store _ _ _) _ _ _ _ :: _) _ _); (first | (refine m_storeR M rfl rfl rfl rfl (by first | rfl | assumption | (simp; done) | (simp; omega)) (by first | rfl | assumption | (simp; done) | (simp; omega)) (by first | exact bA_one _ | exact wA_one _ | assumption | (simp [Value.oneCell']; done)) ?_) | (refine m_store (v := Value.int _ _) M rfl rfl rfl rfl rfl (by first | assumption | (simp; done) | (simp; omega)) ?_) | (refine m_store (v := Value.slice _ _ _) M rfl rfl rfl rfl rfl (by first | assumption | (simp; done) | (simp; omega)) ?_) | (refine m_store (v := Value.bool _) M rfl rfl rfl rfl rfl (by first | assumption | (simp; done) | (simp; omega)) ?_) | (refine m_store (v := Value.string _) M rfl rfl rfl rfl rfl (by first | assumption | (simp; done) | (simp; omega)) ?_) | (refine m_store (v := Value.pointer _) M rfl rfl rfl rfl rfl (by first | assumption | (simp; done) | (simp; omega)) ?_)); clear M; (try clear wx); intro wx M; simp only [List.set_cons_zero, List.set_cons_succ, Nat.zero_add, List.nil_append] at M)
              | (with_reducible (show wpList _ _ _ (Oper.mk _ (.build _ _) _ _ _ _ :: _) _ _); refine m_buildZ rfl rfl ?_))
            refine region_mono (m := 7) mixedOrders_ (by kernel_rfl) (by kernel_rfl)
              (fun | 0 => fun vq _ => vq = .slice b1 n cap1 | 1 => fun vq _ => vq = .int .i64 (m : Int) | 2 => fun v wx => Rd wx 32 v m ((kyL a).take (m * 32)) | 3 => fun vq _ => vq = .slice b2 n cap2 | 4 => fun vq _ => vq = .int .i64 (m : Int) | 5 => fun v wx => Rd wx 32 v m ((kyL b).take (m * 32)) | 6 => fun vq _ => vq = .agg (claV T1) | _ => fun _ _ => True)
              (fun wx => Mem w wx [.blk g6 27 (claC x1.1 x2.1 y1.1 y2.1), .blk g4 27 (claC zeroKy.1 zeroKy.1 zeroKy.1 zeroKy.1)]) ?_ ?_ ?_ ?_ ?_
            · intro j hj v w1 w2 hb h
              match j, hj with
              | 0, _ => exact h
              | 1, _ => exact h
              | 2, _ => exact h.up hb
              | 3, _ => exact h
              | 4, _ => exact h
              | 5, _ => exact h.up hb
              | 6, _ => exact h
            · intro w1 w2 hb h
              exact h.grow hb
            · exact M.grow ((Up.refl _).drew)
            · rintro i o hi ho av wv fr gM dep
              match i, hi with
              | 0, _ =>
                obtain rfl := Option.some.inj ho
                exact st_mov rfl (fr.eval rfl) rfl
              | 1, _ =>
                obtain rfl := Option.some.inj ho
                exact st_mov rfl (fr.eval rfl) rfl
              | 2, _ =>
                obtain rfl := Option.some.inj ho
                exact st_slH rfl (dep ⟨0, .data⟩ (by simp) rfl) (dep ⟨1, .data⟩ (by simp) rfl) (HVA.out.up gM.up) hml (fun v h => h)
              | 3, _ =>
                obtain rfl := Option.some.inj ho
                exact st_mov rfl (fr.eval rfl) rfl
              | 4, _ =>
                obtain rfl := Option.some.inj ho
                exact st_mov rfl (fr.eval rfl) rfl
              | 5, _ =>
                obtain rfl := Option.some.inj ho
                exact st_slH rfl (dep ⟨3, .data⟩ (by simp) rfl) (dep ⟨4, .data⟩ (by simp) rfl) (HVB.out.up gM.up) hml (fun v h => h)
              | 6, _ =>
                obtain rfl := Option.some.inj ho
                have D2 := dep ⟨2, .data⟩ (by simp) rfl
                have D5 := dep ⟨5, .data⟩ (by simp) rfl
                exact st_ret2 rfl (fun _ _ => by kernel_rfl) rfl rfl (R1.out _ _ _ D2 D5) (fun r w' h _ => h)
            · rintro vs wv gM hf
              have f0 : vs 0 = .slice b1 n cap1 := hf 0 (by omega)
              have f1 : vs 1 = .int .i64 (m : Int) := hf 1 (by omega)
              have f2 := hf 2 (by omega)
              have f3 : vs 3 = .slice b2 n cap2 := hf 3 (by omega)
              have f4 : vs 4 = .int .i64 (m : Int) := hf 4 (by omega)
              have f5 := hf 5 (by omega)
              have f6 : vs 6 = .agg (claV T1) := hf 6 (by omega)
              simp only [putAll, Act.put, List.getElem?_toArray, List.getElem?_cons_zero, List.getElem?_cons_succ, Option.bind_some, List.setIfInBounds_toArray, List.set_cons_zero, List.set_cons_succ, List.drop_succ_cons, List.drop_zero, List.drop_nil, f6]
              clear f0 f1 f2 f3 f4 f5 f6 hf
              have M := gM
              go_wp2_with (first
                | (with_reducible (show wpList _ _ _ (Oper.mk (some 4) (.alloc _) _ _ _ _ :: _) _ _); refine mem_new M rfl rfl ?_; clear M; (try clear wx); intro g4 wx M)
                | (with_reducible (show wpList _ _ _ (Oper.mk (some 6) (.alloc _) _ _ _ _ :: _) _ _); refine mem_new M rfl rfl ?_; clear M; (try clear wx); intro g6 wx M)
                | (with_reducible (show wpList _ _ _ (Oper.mk _ (.load _ _) _ _ _ _ :: _) _ _); (first | (refine m_load M rfl rfl rfl (by first | assumption | rfl) ?_) | (refine m_loadR M rfl rfl rfl (by first | rfl | assumption | (simp; done) | (simp; omega)) ?_)))
                | (with_reducible (show wpList _ _ _ (Oper.mk _ (.store _ _ _) _ _ _ _ :: _) _ _); (first | (refine m_storeR M rfl rfl rfl rfl (by first | rfl | assumption | (simp; done) | (simp; omega)) (by first | rfl | assumption | (simp; done) | (simp; omega)) (claV_one _) ?_) | (refine m_store (v := Value.int _ _) M rfl rfl rfl rfl rfl (by first | assumption | (simp; done) | (simp; omega)) ?_) | (refine m_store (v := Value.slice _ _ _) M rfl rfl rfl rfl rfl (by first | assumption | (simp; done) | (simp; omega)) ?_) | (refine m_store (v := Value.bool _) M rfl rfl rfl rfl rfl (by first | assumption | (simp; done) | (simp; omega)) ?_) | (refine m_store (v := Value.string _) M rfl rfl rfl rfl rfl (by first | assumption | (simp; done) | (simp; omega)) ?_) | (refine m_store (v := Value.pointer _) M rfl rfl rfl rfl rfl (by first | assumption | (simp; done) | (simp; omega)) ?_)); clear M; (try clear wx); intro wx M; simp only [List.set_cons_zero, List.set_cons_succ, Nat.zero_add, List.nil_append] at M)
                | (with_reducible (show wpList _ _ _ (Oper.mk _ (.build _ _) _ _ _ _ :: _) _ _); refine m_buildZ rfl rfl ?_))
              exact m_ret M rfl rfl rfl (by simp) (by rw [HE.out])
      · have ce1 : ∀ w, (binOp .neq 25 (.agg (bA x1.1)) (.agg (bA y1.1))).run Try.prog w = .ok (.bool false) w := fun w => by rw [key_neq, decide_eq_true h1]; rfl
        have ce2 : ∀ w, (binOp .neq 25 (.agg (bA x2.1)) (.agg (bA y2.1))).run Try.prog w = .ok (.bool true) w := fun w => by rw [key_neq, decide_eq_false h2]; rfl
        have HE := Lib.hid (E1.out (.inr h2))
        clear h1 h2 E1 E2 E3
        go_wp2_with (first
          | (with_reducible (show wpList _ _ _ (Oper.mk (some 4) (.alloc _) _ _ _ _ :: _) _ _); refine mem_new M rfl rfl ?_; clear M; (try clear wx); intro g4 wx M)
          | (with_reducible (show wpList _ _ _ (Oper.mk (some 6) (.alloc _) _ _ _ _ :: _) _ _); refine mem_new M rfl rfl ?_; clear M; (try clear wx); intro g6 wx M)
          | (with_reducible (show wpList _ _ _ (Oper.mk _ (.load _ _) _ _ _ _ :: _) _ _); (first | (refine m_loadB M rfl rfl rfl (cla_get0 _ _ _ _) (Ky.len _) ?_) | (refine m_loadB M rfl rfl rfl (cla_get1 _ _ _ _) (Ky.len _) ?_) | (refine m_loadB M rfl rfl rfl (cla_get2 _ _ _ _) (Ky.len _) ?_) | (refine m_loadB M rfl rfl rfl (cla_get3 _ _ _ _) (Ky.len _) ?_) | (refine m_loadBw M rfl rfl rfl (cla_get0 _ _ _ _) (Ky.len _) ?_) | (refine m_loadBw M rfl rfl rfl (cla_get1 _ _ _ _) (Ky.len _) ?_) | (refine m_loadBw M rfl rfl rfl (cla_get2 _ _ _ _) (Ky.len _) ?_) | (refine m_loadBw M rfl rfl rfl (cla_get3 _ _ _ _) (Ky.len _) ?_) | (refine m_load M rfl rfl rfl (by first | assumption | rfl) ?_) | (refine m_loadR M rfl rfl rfl (by first | rfl | assumption | (simp; done) | (simp; omega)) ?_)))
          | (with_reducible (show wpList _ _ _ (Oper.mk _ (.store _ _ _) _ _ _ _ :: _) _ _); (first | (refine m_storeR M rfl rfl rfl rfl (by first | rfl | assumption | (simp; done) | (simp; omega)) (by first | rfl | assumption | (simp; done) | (simp; omega)) (claC_one _ _ _ _) ?_) | (refine m_store (v := Value.int _ _) M rfl rfl rfl rfl rfl (by first | assumption | (simp; done) | (simp; omega)) ?_) | (refine m_store (v := Value.slice _ _ _) M rfl rfl rfl rfl rfl (by first | assumption | (simp; done) | (simp; omega)) ?_) | (refine m_store (v := Value.bool _) M rfl rfl rfl rfl rfl (by first | assumption | (simp; done) | (simp; omega)) ?_) | (refine m_store (v := Value.string _) M rfl rfl rfl rfl rfl (by first | assumption | (simp; done) | (simp; omega)) ?_) | (refine m_store (v := Value.pointer _) M rfl rfl rfl rfl rfl (by first | assumption | (simp; done) | (simp; omega)) ?_)); clear M; (try clear wx); intro wx M; simp only [List.set_cons_zero, List.set_cons_succ, Nat.zero_add, List.nil_append] at M)
          | (with_reducible (show wpList _ _ _ (Oper.mk _ (.build _ _) _ _ _ _ :: _) _ _); refine m_buildZ rfl rfl ?_))
        exact m_ret M rfl rfl rfl (by simp) (by rw [HE.out]; rfl)
    · have ce1 : ∀ w, (binOp .neq 25 (.agg (bA x1.1)) (.agg (bA y1.1))).run Try.prog w = .ok (.bool true) w := fun w => by rw [key_neq, decide_eq_false h1]; rfl
      have HE := Lib.hid (E1.out (.inl h1))
      clear h1 E1 E2 E3
      go_wp2_with (first
        | (with_reducible (show wpList _ _ _ (Oper.mk (some 4) (.alloc _) _ _ _ _ :: _) _ _); refine mem_new M rfl rfl ?_; clear M; (try clear wx); intro g4 wx M)
        | (with_reducible (show wpList _ _ _ (Oper.mk (some 6) (.alloc _) _ _ _ _ :: _) _ _); refine mem_new M rfl rfl ?_; clear M; (try clear wx); intro g6 wx M)
        | (with_reducible (show wpList _ _ _ (Oper.mk _ (.load _ _) _ _ _ _ :: _) _ _); (first | (refine m_loadB M rfl rfl rfl (cla_get0 _ _ _ _) (Ky.len _) ?_) | (refine m_loadB M rfl rfl rfl (cla_get1 _ _ _ _) (Ky.len _) ?_) | (refine m_loadB M rfl rfl rfl (cla_get2 _ _ _ _) (Ky.len _) ?_) | (refine m_loadB M rfl rfl rfl (cla_get3 _ _ _ _) (Ky.len _) ?_) | (refine m_loadBw M rfl rfl rfl (cla_get0 _ _ _ _) (Ky.len _) ?_) | (refine m_loadBw M rfl rfl rfl (cla_get1 _ _ _ _) (Ky.len _) ?_) | (refine m_loadBw M rfl rfl rfl (cla_get2 _ _ _ _) (Ky.len _) ?_) | (refine m_loadBw M rfl rfl rfl (cla_get3 _ _ _ _) (Ky.len _) ?_) | (refine m_load M rfl rfl rfl (by first | assumption | rfl) ?_) | (refine m_loadR M rfl rfl rfl (by first | rfl | assumption | (simp; done) | (simp; omega)) ?_)))
        | (with_reducible (show wpList _ _ _ (Oper.mk _ (.store _ _ _) _ _ _ _ :: _) _ _); (first | (refine m_storeR M rfl rfl rfl rfl (by first | rfl | assumption | (simp; done) | (simp; omega)) (by first | rfl | assumption | (simp; done) | (simp; omega)) (claC_one _ _ _ _) ?_) | (refine m_store (v := Value.int _ _) M rfl rfl rfl rfl rfl (by first | assumption | (simp; done) | (simp; omega)) ?_) | (refine m_store (v := Value.slice _ _ _) M rfl rfl rfl rfl rfl (by first | assumption | (simp; done) | (simp; omega)) ?_) | (refine m_store (v := Value.bool _) M rfl rfl rfl rfl rfl (by first | assumption | (simp; done) | (simp; omega)) ?_) | (refine m_store (v := Value.string _) M rfl rfl rfl rfl rfl (by first | assumption | (simp; done) | (simp; omega)) ?_) | (refine m_store (v := Value.pointer _) M rfl rfl rfl rfl rfl (by first | assumption | (simp; done) | (simp; omega)) ?_)); clear M; (try clear wx); intro wx M; simp only [List.set_cons_zero, List.set_cons_succ, Nat.zero_add, List.nil_append] at M)
        | (with_reducible (show wpList _ _ _ (Oper.mk _ (.build _ _) _ _ _ _ :: _) _ _); refine m_buildZ rfl rfl ?_))
      exact m_ret M rfl rfl rfl (by simp) (by rw [HE.out]; rfl)

def noCl : Ky × Ky × Ky × Ky := (zeroKy, zeroKy, zeroKy, zeroKy)
/-- What ClashOf gives. -/
def coT (a b : List Ky) : (Ky × Ky × Ky × Ky) × Int :=
  if 256 < a.length ∨ 256 < b.length then (noCl, 3) else if a.length = 0 ∨ a.length ≠ b.length ∨ listK a ≠ listK b then (noCl, 4) else if a = b then (noCl, 6) else (clL a b, 0)

set_option maxHeartbeats 4000000 in
set_option maxRecDepth 100000 in
theorem specClashOf_c (va vb : Value) (n m : Nat) (a b : List Ky) (ha : a.length = n) (hb : b.length = m) (w : World) (hva : Rd w 32 va n (kyL a)) (hvb : Rd w 32 vb m (kyL b)) (hl : n ≤ 1048576) (hl2 : m ≤ 1048576) :
    Ret Try.prog 14 #[va, vb] w fun r _ => r = .tuple #[.agg (claV (coT a b).1), .int .i64 (coT a b).2] := by
  obtain ⟨b1, cap1, rfl⟩ := hva.shape
  obtain ⟨b2, cap2, rfl⟩ := hvb.shape
  have HVA := Lib.hid hva
  have HVB := Lib.hid hvb
  clear hva hvb
  refine ret_start fun wx M => ?_
  by_cases hA : 256 < n
  · have HE := Lib.hid (show coT a b = (noCl, 3) by rw [coT, if_pos (by omega)])
    clear ha hb
    go_enter Try.func14, Try.ntmps14
    go_wp2_with (first
      | (with_reducible (show wpList _ _ _ (Oper.mk (some 4) (.alloc _) _ _ _ _ :: _) _ _); refine mem_new M rfl rfl ?_; clear M; (try clear wx); intro g4 wx M)
      | (with_reducible (show wpList _ _ _ (Oper.mk _ (.store _ _ _) _ _ _ _ :: _) _ _); (first | (refine m_storeR M rfl rfl rfl rfl (by first | rfl | assumption | (simp; done) | (simp; omega)) (by first | rfl | assumption | (simp; done) | (simp; omega)) (by first | exact claV_one _ | exact claC_one _ _ _ _) ?_) | (refine m_store (v := Value.int _ _) M rfl rfl rfl rfl rfl (by first | assumption | (simp; done) | (simp; omega)) ?_) | (refine m_store (v := Value.slice _ _ _) M rfl rfl rfl rfl rfl (by first | assumption | (simp; done) | (simp; omega)) ?_) | (refine m_store (v := Value.bool _) M rfl rfl rfl rfl rfl (by first | assumption | (simp; done) | (simp; omega)) ?_) | (refine m_store (v := Value.string _) M rfl rfl rfl rfl rfl (by first | assumption | (simp; done) | (simp; omega)) ?_) | (refine m_store (v := Value.pointer _) M rfl rfl rfl rfl rfl (by first | assumption | (simp; done) | (simp; omega)) ?_)); clear M; (try clear wx); intro wx M; simp only [List.set_cons_zero, List.set_cons_succ, Nat.zero_add, List.nil_append] at M)
      | (with_reducible (show wpList _ _ _ (Oper.mk _ (.build _ _) _ _ _ _ :: _) _ _); refine m_buildZ rfl rfl ?_))
    exact m_ret2 M rfl rfl rfl (by simp) (by rw [HE.out]; rfl)
  by_cases hB : 256 < m
  · have HE := Lib.hid (show coT a b = (noCl, 3) by rw [coT, if_pos (by omega)])
    clear ha hb
    go_enter Try.func14, Try.ntmps14
    go_wp2_with (first
      | (with_reducible (show wpList _ _ _ (Oper.mk (some 4) (.alloc _) _ _ _ _ :: _) _ _); refine mem_new M rfl rfl ?_; clear M; (try clear wx); intro g4 wx M)
      | (with_reducible (show wpList _ _ _ (Oper.mk _ (.store _ _ _) _ _ _ _ :: _) _ _); (first | (refine m_storeR M rfl rfl rfl rfl (by first | rfl | assumption | (simp; done) | (simp; omega)) (by first | rfl | assumption | (simp; done) | (simp; omega)) (by first | exact claV_one _ | exact claC_one _ _ _ _) ?_) | (refine m_store (v := Value.int _ _) M rfl rfl rfl rfl rfl (by first | assumption | (simp; done) | (simp; omega)) ?_) | (refine m_store (v := Value.slice _ _ _) M rfl rfl rfl rfl rfl (by first | assumption | (simp; done) | (simp; omega)) ?_) | (refine m_store (v := Value.bool _) M rfl rfl rfl rfl rfl (by first | assumption | (simp; done) | (simp; omega)) ?_) | (refine m_store (v := Value.string _) M rfl rfl rfl rfl rfl (by first | assumption | (simp; done) | (simp; omega)) ?_) | (refine m_store (v := Value.pointer _) M rfl rfl rfl rfl rfl (by first | assumption | (simp; done) | (simp; omega)) ?_)); clear M; (try clear wx); intro wx M; simp only [List.set_cons_zero, List.set_cons_succ, Nat.zero_add, List.nil_append] at M)
      | (with_reducible (show wpList _ _ _ (Oper.mk _ (.build _ _) _ _ _ _ :: _) _ _); refine m_buildZ rfl rfl ?_))
    exact m_ret2 M rfl rfl rfl (by simp) (by rw [HE.out]; rfl)
  by_cases hC : n ≠ m
  · have HE := Lib.hid (show coT a b = (noCl, 4) by rw [coT, if_neg (by omega), if_pos (by omega)])
    clear ha hb
    by_cases hZ : n = 0
    · subst hZ
      go_enter Try.func14, Try.ntmps14
      go_wp2_with (first
        | (with_reducible (show wpList _ _ _ (Oper.mk (some 4) (.alloc _) _ _ _ _ :: _) _ _); refine mem_new M rfl rfl ?_; clear M; (try clear wx); intro g4 wx M)
        | (with_reducible (show wpList _ _ _ (Oper.mk _ (.store _ _ _) _ _ _ _ :: _) _ _); (first | (refine m_storeR M rfl rfl rfl rfl (by first | rfl | assumption | (simp; done) | (simp; omega)) (by first | rfl | assumption | (simp; done) | (simp; omega)) (by first | exact claV_one _ | exact claC_one _ _ _ _) ?_) | (refine m_store (v := Value.int _ _) M rfl rfl rfl rfl rfl (by first | assumption | (simp; done) | (simp; omega)) ?_) | (refine m_store (v := Value.slice _ _ _) M rfl rfl rfl rfl rfl (by first | assumption | (simp; done) | (simp; omega)) ?_) | (refine m_store (v := Value.bool _) M rfl rfl rfl rfl rfl (by first | assumption | (simp; done) | (simp; omega)) ?_) | (refine m_store (v := Value.string _) M rfl rfl rfl rfl rfl (by first | assumption | (simp; done) | (simp; omega)) ?_) | (refine m_store (v := Value.pointer _) M rfl rfl rfl rfl rfl (by first | assumption | (simp; done) | (simp; omega)) ?_)); clear M; (try clear wx); intro wx M; simp only [List.set_cons_zero, List.set_cons_succ, Nat.zero_add, List.nil_append] at M)
        | (with_reducible (show wpList _ _ _ (Oper.mk _ (.build _ _) _ _ _ _ :: _) _ _); refine m_buildZ rfl rfl ?_))
      exact m_ret2 M rfl rfl rfl (by simp) (by rw [HE.out]; rfl)
    · go_enter Try.func14, Try.ntmps14
      go_wp2_with (first
        | (with_reducible (show wpList _ _ _ (Oper.mk (some 4) (.alloc _) _ _ _ _ :: _) _ _); refine mem_new M rfl rfl ?_; clear M; (try clear wx); intro g4 wx M)
        | (with_reducible (show wpList _ _ _ (Oper.mk _ (.store _ _ _) _ _ _ _ :: _) _ _); (first | (refine m_storeR M rfl rfl rfl rfl (by first | rfl | assumption | (simp; done) | (simp; omega)) (by first | rfl | assumption | (simp; done) | (simp; omega)) (by first | exact claV_one _ | exact claC_one _ _ _ _) ?_) | (refine m_store (v := Value.int _ _) M rfl rfl rfl rfl rfl (by first | assumption | (simp; done) | (simp; omega)) ?_) | (refine m_store (v := Value.slice _ _ _) M rfl rfl rfl rfl rfl (by first | assumption | (simp; done) | (simp; omega)) ?_) | (refine m_store (v := Value.bool _) M rfl rfl rfl rfl rfl (by first | assumption | (simp; done) | (simp; omega)) ?_) | (refine m_store (v := Value.string _) M rfl rfl rfl rfl rfl (by first | assumption | (simp; done) | (simp; omega)) ?_) | (refine m_store (v := Value.pointer _) M rfl rfl rfl rfl rfl (by first | assumption | (simp; done) | (simp; omega)) ?_)); clear M; (try clear wx); intro wx M; simp only [List.set_cons_zero, List.set_cons_succ, Nat.zero_add, List.nil_append] at M)
        | (with_reducible (show wpList _ _ _ (Oper.mk _ (.build _ _) _ _ _ _ :: _) _ _); refine m_buildZ rfl rfl ?_))
      exact m_ret2 M rfl rfl rfl (by simp) (by rw [HE.out]; rfl)
  obtain rfl : n = m := by omega
  rcases Nat.eq_zero_or_pos n with rfl | hpos
  · have HE := Lib.hid (show coT a b = (noCl, 4) by rw [coT, if_neg (by omega), if_pos (by omega)])
    clear ha hb hC hA hB
    go_enter Try.func14, Try.ntmps14
    go_wp2_with (first
      | (with_reducible (show wpList _ _ _ (Oper.mk (some 4) (.alloc _) _ _ _ _ :: _) _ _); refine mem_new M rfl rfl ?_; clear M; (try clear wx); intro g4 wx M)
      | (with_reducible (show wpList _ _ _ (Oper.mk _ (.store _ _ _) _ _ _ _ :: _) _ _); (first | (refine m_storeR M rfl rfl rfl rfl (by first | rfl | assumption | (simp; done) | (simp; omega)) (by first | rfl | assumption | (simp; done) | (simp; omega)) (by first | exact claV_one _ | exact claC_one _ _ _ _) ?_) | (refine m_store (v := Value.int _ _) M rfl rfl rfl rfl rfl (by first | assumption | (simp; done) | (simp; omega)) ?_) | (refine m_store (v := Value.slice _ _ _) M rfl rfl rfl rfl rfl (by first | assumption | (simp; done) | (simp; omega)) ?_) | (refine m_store (v := Value.bool _) M rfl rfl rfl rfl rfl (by first | assumption | (simp; done) | (simp; omega)) ?_) | (refine m_store (v := Value.string _) M rfl rfl rfl rfl rfl (by first | assumption | (simp; done) | (simp; omega)) ?_) | (refine m_store (v := Value.pointer _) M rfl rfl rfl rfl rfl (by first | assumption | (simp; done) | (simp; omega)) ?_)); clear M; (try clear wx); intro wx M; simp only [List.set_cons_zero, List.set_cons_succ, Nat.zero_add, List.nil_append] at M)
      | (with_reducible (show wpList _ _ _ (Oper.mk _ (.build _ _) _ _ _ _ :: _) _ _); refine m_buildZ rfl rfl ?_))
    exact m_ret2 M rfl rfl rfl (by simp) (by rw [HE.out]; rfl)
  have KA : Hid (∀ v w, Rd w 32 v n (kyL a) → Ret Try.prog 52 #[v] w fun r _ => r = .agg (bA (listK a).1)) := Lib.hid (fun v w h => l03Key_c _ _ ha (by omega) v w h)
  have KB : Hid (∀ v w, Rd w 32 v n (kyL b) → Ret Try.prog 52 #[v] w fun r _ => r = .agg (bA (listK b).1)) := Lib.hid (fun v w h => l03Key_c _ _ hb (by omega) v w h)
  by_cases hK : listK a = listK b
  · have ce : ∀ w, (binOp .neq 25 (.agg (bA (listK a).1)) (.agg (bA (listK b).1))).run Try.prog w = .ok (.bool false) w := fun w => by rw [key_neq, decide_eq_true hK]; rfl
    have HL : Hid (∀ va vb w, Rd w 32 va n (kyL a) → Rd w 32 vb n (kyL b) → Ret Try.prog 53 #[va, vb] w fun r _ => r = .bool (decide (a = b))) := Lib.hid (fun va vb w h h' => l03Lists_c _ _ _ ha hb va vb w (by omega) h h')
    by_cases hab : a = b
    · have HE := Lib.hid (show coT a b = (noCl, 6) by rw [coT, if_neg (by omega), if_neg (by rintro (h | h | h) <;> first | omega | exact h hK), if_pos hab])
      rw [decide_eq_true hab] at HL
      clear ha hb hC hab hK
      generalize listK a = x at *
      generalize listK b = y at *
      go_enter Try.func14, Try.ntmps14
      go_wp2_with (first
        | (go_at_call 52; (first | (with_reducible refine mem_call M (KA.out _ _ (HVA.out.up M.up)) ?_) | (with_reducible refine mem_call M (KB.out _ _ (HVB.out.up M.up)) ?_)); clear M; (try clear wx); rintro _ wx rfl _ M)
        | (go_at_call 53; (with_reducible refine mem_call M (HL.out _ _ _ (HVA.out.up M.up) (HVB.out.up M.up)) ?_); clear M; (try clear wx); rintro _ wx rfl _ M)
        | (with_reducible (show wpList _ _ _ (Oper.mk (some 4) (.alloc _) _ _ _ _ :: _) _ _); refine mem_new M rfl rfl ?_; clear M; (try clear wx); intro g4 wx M)
        | (with_reducible (show wpList _ _ _ (Oper.mk _ (.store _ _ _) _ _ _ _ :: _) _ _); (first | (refine m_storeR M rfl rfl rfl rfl (by first | rfl | assumption | (simp; done) | (simp; omega)) (by first | rfl | assumption | (simp; done) | (simp; omega)) (by first | exact claV_one _ | exact claC_one _ _ _ _) ?_) | (refine m_store (v := Value.int _ _) M rfl rfl rfl rfl rfl (by first | assumption | (simp; done) | (simp; omega)) ?_) | (refine m_store (v := Value.slice _ _ _) M rfl rfl rfl rfl rfl (by first | assumption | (simp; done) | (simp; omega)) ?_) | (refine m_store (v := Value.bool _) M rfl rfl rfl rfl rfl (by first | assumption | (simp; done) | (simp; omega)) ?_) | (refine m_store (v := Value.string _) M rfl rfl rfl rfl rfl (by first | assumption | (simp; done) | (simp; omega)) ?_) | (refine m_store (v := Value.pointer _) M rfl rfl rfl rfl rfl (by first | assumption | (simp; done) | (simp; omega)) ?_)); clear M; (try clear wx); intro wx M; simp only [List.set_cons_zero, List.set_cons_succ, Nat.zero_add, List.nil_append] at M)
        | (with_reducible (show wpList _ _ _ (Oper.mk _ (.build _ _) _ _ _ _ :: _) _ _); refine m_buildZ rfl rfl ?_))
      exact m_ret2 M rfl rfl rfl (by simp) (by rw [HE.out]; rfl)
    · have HE := Lib.hid (show coT a b = (clL a b, 0) by rw [coT, if_neg (by omega), if_neg (by rintro (h | h | h) <;> first | omega | exact h hK), if_neg hab])
      rw [decide_eq_false hab] at HL
      have HR : Hid (∀ va vb w, Rd w 32 va n (kyL a) → Rd w 32 vb n (kyL b) → Ret Try.prog 54 #[va, vb] w fun r _ => r = .agg (claV (clL a b))) := Lib.hid (fun va vb w h h' => l03Clash_c _ _ _ ha hb (by omega) hab hK va vb w h h')
      clear ha hb hC hab hK
      generalize listK a = x at *
      generalize listK b = y at *
      generalize clL a b = T at *
      go_enter Try.func14, Try.ntmps14
      go_wp2_with (first
        | (go_at_call 52; (first | (with_reducible refine mem_call M (KA.out _ _ (HVA.out.up M.up)) ?_) | (with_reducible refine mem_call M (KB.out _ _ (HVB.out.up M.up)) ?_)); clear M; (try clear wx); rintro _ wx rfl _ M)
        | (go_at_call 53; (with_reducible refine mem_call M (HL.out _ _ _ (HVA.out.up M.up) (HVB.out.up M.up)) ?_); clear M; (try clear wx); rintro _ wx rfl _ M)
        | (go_at_call 54; (with_reducible refine mem_call M (HR.out _ _ _ (HVA.out.up M.up) (HVB.out.up M.up)) ?_); clear M; (try clear wx); rintro _ wx rfl _ M)
        | (with_reducible (show wpList _ _ _ (Oper.mk (some 4) (.alloc _) _ _ _ _ :: _) _ _); refine mem_new M rfl rfl ?_; clear M; (try clear wx); intro g4 wx M)
        | (with_reducible (show wpList _ _ _ (Oper.mk _ (.store _ _ _) _ _ _ _ :: _) _ _); (first | (refine m_storeR M rfl rfl rfl rfl (by first | rfl | assumption | (simp; done) | (simp; omega)) (by first | rfl | assumption | (simp; done) | (simp; omega)) (by first | exact claV_one _ | exact claC_one _ _ _ _) ?_) | (refine m_store (v := Value.int _ _) M rfl rfl rfl rfl rfl (by first | assumption | (simp; done) | (simp; omega)) ?_) | (refine m_store (v := Value.slice _ _ _) M rfl rfl rfl rfl rfl (by first | assumption | (simp; done) | (simp; omega)) ?_) | (refine m_store (v := Value.bool _) M rfl rfl rfl rfl rfl (by first | assumption | (simp; done) | (simp; omega)) ?_) | (refine m_store (v := Value.string _) M rfl rfl rfl rfl rfl (by first | assumption | (simp; done) | (simp; omega)) ?_) | (refine m_store (v := Value.pointer _) M rfl rfl rfl rfl rfl (by first | assumption | (simp; done) | (simp; omega)) ?_)); clear M; (try clear wx); intro wx M; simp only [List.set_cons_zero, List.set_cons_succ, Nat.zero_add, List.nil_append] at M)
        | (with_reducible (show wpList _ _ _ (Oper.mk _ (.build _ _) _ _ _ _ :: _) _ _); refine m_buildZ rfl rfl ?_))
      exact m_ret2 M rfl rfl rfl (by simp) (by rw [HE.out]; rfl)
  · have ce : ∀ w, (binOp .neq 25 (.agg (bA (listK a).1)) (.agg (bA (listK b).1))).run Try.prog w = .ok (.bool true) w := fun w => by rw [key_neq, decide_eq_false hK]; rfl
    have HE := Lib.hid (show coT a b = (noCl, 4) by rw [coT, if_neg (by omega), if_pos (.inr (.inr hK))])
    clear ha hb hC hK
    generalize listK a = x at *
    generalize listK b = y at *
    go_enter Try.func14, Try.ntmps14
    go_wp2_with (first
      | (go_at_call 52; (first | (with_reducible refine mem_call M (KA.out _ _ (HVA.out.up M.up)) ?_) | (with_reducible refine mem_call M (KB.out _ _ (HVB.out.up M.up)) ?_)); clear M; (try clear wx); rintro _ wx rfl _ M)
      | (with_reducible (show wpList _ _ _ (Oper.mk (some 4) (.alloc _) _ _ _ _ :: _) _ _); refine mem_new M rfl rfl ?_; clear M; (try clear wx); intro g4 wx M)
      | (with_reducible (show wpList _ _ _ (Oper.mk _ (.store _ _ _) _ _ _ _ :: _) _ _); (first | (refine m_storeR M rfl rfl rfl rfl (by first | rfl | assumption | (simp; done) | (simp; omega)) (by first | rfl | assumption | (simp; done) | (simp; omega)) (by first | exact claV_one _ | exact claC_one _ _ _ _) ?_) | (refine m_store (v := Value.int _ _) M rfl rfl rfl rfl rfl (by first | assumption | (simp; done) | (simp; omega)) ?_) | (refine m_store (v := Value.slice _ _ _) M rfl rfl rfl rfl rfl (by first | assumption | (simp; done) | (simp; omega)) ?_) | (refine m_store (v := Value.bool _) M rfl rfl rfl rfl rfl (by first | assumption | (simp; done) | (simp; omega)) ?_) | (refine m_store (v := Value.string _) M rfl rfl rfl rfl rfl (by first | assumption | (simp; done) | (simp; omega)) ?_) | (refine m_store (v := Value.pointer _) M rfl rfl rfl rfl rfl (by first | assumption | (simp; done) | (simp; omega)) ?_)); clear M; (try clear wx); intro wx M; simp only [List.set_cons_zero, List.set_cons_succ, Nat.zero_add, List.nil_append] at M)
      | (with_reducible (show wpList _ _ _ (Oper.mk _ (.build _ _) _ _ _ _ :: _) _ _); refine m_buildZ rfl rfl ?_))
    exact m_ret2 M rfl rfl rfl (by simp) (by rw [HE.out]; rfl)

set_option maxHeartbeats 4000000 in
set_option maxRecDepth 100000 in
theorem implClashOf_c (va vb : Value) (n m : Nat) (a b : List Ky) (ha : a.length = n) (hb : b.length = m) (w : World) (hva : Rd w 32 va n (kyL a)) (hvb : Rd w 32 vb m (kyL b)) (hl : n ≤ 1048576) (hl2 : m ≤ 1048576) :
    Ret Try.prog 16 #[va, vb] w fun r _ => r = .tuple #[.agg (claV (coT a b).1), .int .i64 (coT a b).2] := by
  obtain ⟨b1, cap1, rfl⟩ := hva.shape
  obtain ⟨b2, cap2, rfl⟩ := hvb.shape
  have HVA := Lib.hid hva
  have HVB := Lib.hid hvb
  clear hva hvb
  refine ret_start fun wx M => ?_
  by_cases hA : 256 < n
  · have HE := Lib.hid (show coT a b = (noCl, 3) by rw [coT, if_pos (by omega)])
    clear ha hb
    go_enter Try.func16, Try.ntmps16
    go_wp2_with (first
      | (with_reducible (show wpList _ _ _ (Oper.mk (some 4) (.alloc _) _ _ _ _ :: _) _ _); refine mem_new M rfl rfl ?_; clear M; (try clear wx); intro g4 wx M)
      | (with_reducible (show wpList _ _ _ (Oper.mk _ (.store _ _ _) _ _ _ _ :: _) _ _); (first | (refine m_storeR M rfl rfl rfl rfl (by first | rfl | assumption | (simp; done) | (simp; omega)) (by first | rfl | assumption | (simp; done) | (simp; omega)) (by first | exact claV_one _ | exact claC_one _ _ _ _) ?_) | (refine m_store (v := Value.int _ _) M rfl rfl rfl rfl rfl (by first | assumption | (simp; done) | (simp; omega)) ?_) | (refine m_store (v := Value.slice _ _ _) M rfl rfl rfl rfl rfl (by first | assumption | (simp; done) | (simp; omega)) ?_) | (refine m_store (v := Value.bool _) M rfl rfl rfl rfl rfl (by first | assumption | (simp; done) | (simp; omega)) ?_) | (refine m_store (v := Value.string _) M rfl rfl rfl rfl rfl (by first | assumption | (simp; done) | (simp; omega)) ?_) | (refine m_store (v := Value.pointer _) M rfl rfl rfl rfl rfl (by first | assumption | (simp; done) | (simp; omega)) ?_)); clear M; (try clear wx); intro wx M; simp only [List.set_cons_zero, List.set_cons_succ, Nat.zero_add, List.nil_append] at M)
      | (with_reducible (show wpList _ _ _ (Oper.mk _ (.build _ _) _ _ _ _ :: _) _ _); refine m_buildZ rfl rfl ?_))
    exact m_ret2 M rfl rfl rfl (by simp) (by rw [HE.out]; rfl)
  by_cases hB : 256 < m
  · have HE := Lib.hid (show coT a b = (noCl, 3) by rw [coT, if_pos (by omega)])
    clear ha hb
    go_enter Try.func16, Try.ntmps16
    go_wp2_with (first
      | (with_reducible (show wpList _ _ _ (Oper.mk (some 4) (.alloc _) _ _ _ _ :: _) _ _); refine mem_new M rfl rfl ?_; clear M; (try clear wx); intro g4 wx M)
      | (with_reducible (show wpList _ _ _ (Oper.mk _ (.store _ _ _) _ _ _ _ :: _) _ _); (first | (refine m_storeR M rfl rfl rfl rfl (by first | rfl | assumption | (simp; done) | (simp; omega)) (by first | rfl | assumption | (simp; done) | (simp; omega)) (by first | exact claV_one _ | exact claC_one _ _ _ _) ?_) | (refine m_store (v := Value.int _ _) M rfl rfl rfl rfl rfl (by first | assumption | (simp; done) | (simp; omega)) ?_) | (refine m_store (v := Value.slice _ _ _) M rfl rfl rfl rfl rfl (by first | assumption | (simp; done) | (simp; omega)) ?_) | (refine m_store (v := Value.bool _) M rfl rfl rfl rfl rfl (by first | assumption | (simp; done) | (simp; omega)) ?_) | (refine m_store (v := Value.string _) M rfl rfl rfl rfl rfl (by first | assumption | (simp; done) | (simp; omega)) ?_) | (refine m_store (v := Value.pointer _) M rfl rfl rfl rfl rfl (by first | assumption | (simp; done) | (simp; omega)) ?_)); clear M; (try clear wx); intro wx M; simp only [List.set_cons_zero, List.set_cons_succ, Nat.zero_add, List.nil_append] at M)
      | (with_reducible (show wpList _ _ _ (Oper.mk _ (.build _ _) _ _ _ _ :: _) _ _); refine m_buildZ rfl rfl ?_))
    exact m_ret2 M rfl rfl rfl (by simp) (by rw [HE.out]; rfl)
  by_cases hC : n ≠ m
  · have HE := Lib.hid (show coT a b = (noCl, 4) by rw [coT, if_neg (by omega), if_pos (by omega)])
    clear ha hb
    by_cases hZ : n = 0
    · subst hZ
      go_enter Try.func16, Try.ntmps16
      go_wp2_with (first
        | (with_reducible (show wpList _ _ _ (Oper.mk (some 4) (.alloc _) _ _ _ _ :: _) _ _); refine mem_new M rfl rfl ?_; clear M; (try clear wx); intro g4 wx M)
        | (with_reducible (show wpList _ _ _ (Oper.mk _ (.store _ _ _) _ _ _ _ :: _) _ _); (first | (refine m_storeR M rfl rfl rfl rfl (by first | rfl | assumption | (simp; done) | (simp; omega)) (by first | rfl | assumption | (simp; done) | (simp; omega)) (by first | exact claV_one _ | exact claC_one _ _ _ _) ?_) | (refine m_store (v := Value.int _ _) M rfl rfl rfl rfl rfl (by first | assumption | (simp; done) | (simp; omega)) ?_) | (refine m_store (v := Value.slice _ _ _) M rfl rfl rfl rfl rfl (by first | assumption | (simp; done) | (simp; omega)) ?_) | (refine m_store (v := Value.bool _) M rfl rfl rfl rfl rfl (by first | assumption | (simp; done) | (simp; omega)) ?_) | (refine m_store (v := Value.string _) M rfl rfl rfl rfl rfl (by first | assumption | (simp; done) | (simp; omega)) ?_) | (refine m_store (v := Value.pointer _) M rfl rfl rfl rfl rfl (by first | assumption | (simp; done) | (simp; omega)) ?_)); clear M; (try clear wx); intro wx M; simp only [List.set_cons_zero, List.set_cons_succ, Nat.zero_add, List.nil_append] at M)
        | (with_reducible (show wpList _ _ _ (Oper.mk _ (.build _ _) _ _ _ _ :: _) _ _); refine m_buildZ rfl rfl ?_))
      exact m_ret2 M rfl rfl rfl (by simp) (by rw [HE.out]; rfl)
    · go_enter Try.func16, Try.ntmps16
      go_wp2_with (first
        | (with_reducible (show wpList _ _ _ (Oper.mk (some 4) (.alloc _) _ _ _ _ :: _) _ _); refine mem_new M rfl rfl ?_; clear M; (try clear wx); intro g4 wx M)
        | (with_reducible (show wpList _ _ _ (Oper.mk _ (.store _ _ _) _ _ _ _ :: _) _ _); (first | (refine m_storeR M rfl rfl rfl rfl (by first | rfl | assumption | (simp; done) | (simp; omega)) (by first | rfl | assumption | (simp; done) | (simp; omega)) (by first | exact claV_one _ | exact claC_one _ _ _ _) ?_) | (refine m_store (v := Value.int _ _) M rfl rfl rfl rfl rfl (by first | assumption | (simp; done) | (simp; omega)) ?_) | (refine m_store (v := Value.slice _ _ _) M rfl rfl rfl rfl rfl (by first | assumption | (simp; done) | (simp; omega)) ?_) | (refine m_store (v := Value.bool _) M rfl rfl rfl rfl rfl (by first | assumption | (simp; done) | (simp; omega)) ?_) | (refine m_store (v := Value.string _) M rfl rfl rfl rfl rfl (by first | assumption | (simp; done) | (simp; omega)) ?_) | (refine m_store (v := Value.pointer _) M rfl rfl rfl rfl rfl (by first | assumption | (simp; done) | (simp; omega)) ?_)); clear M; (try clear wx); intro wx M; simp only [List.set_cons_zero, List.set_cons_succ, Nat.zero_add, List.nil_append] at M)
        | (with_reducible (show wpList _ _ _ (Oper.mk _ (.build _ _) _ _ _ _ :: _) _ _); refine m_buildZ rfl rfl ?_))
      exact m_ret2 M rfl rfl rfl (by simp) (by rw [HE.out]; rfl)
  obtain rfl : n = m := by omega
  rcases Nat.eq_zero_or_pos n with rfl | hpos
  · have HE := Lib.hid (show coT a b = (noCl, 4) by rw [coT, if_neg (by omega), if_pos (by omega)])
    clear ha hb hC hA hB
    go_enter Try.func16, Try.ntmps16
    go_wp2_with (first
      | (with_reducible (show wpList _ _ _ (Oper.mk (some 4) (.alloc _) _ _ _ _ :: _) _ _); refine mem_new M rfl rfl ?_; clear M; (try clear wx); intro g4 wx M)
      | (with_reducible (show wpList _ _ _ (Oper.mk _ (.store _ _ _) _ _ _ _ :: _) _ _); (first | (refine m_storeR M rfl rfl rfl rfl (by first | rfl | assumption | (simp; done) | (simp; omega)) (by first | rfl | assumption | (simp; done) | (simp; omega)) (by first | exact claV_one _ | exact claC_one _ _ _ _) ?_) | (refine m_store (v := Value.int _ _) M rfl rfl rfl rfl rfl (by first | assumption | (simp; done) | (simp; omega)) ?_) | (refine m_store (v := Value.slice _ _ _) M rfl rfl rfl rfl rfl (by first | assumption | (simp; done) | (simp; omega)) ?_) | (refine m_store (v := Value.bool _) M rfl rfl rfl rfl rfl (by first | assumption | (simp; done) | (simp; omega)) ?_) | (refine m_store (v := Value.string _) M rfl rfl rfl rfl rfl (by first | assumption | (simp; done) | (simp; omega)) ?_) | (refine m_store (v := Value.pointer _) M rfl rfl rfl rfl rfl (by first | assumption | (simp; done) | (simp; omega)) ?_)); clear M; (try clear wx); intro wx M; simp only [List.set_cons_zero, List.set_cons_succ, Nat.zero_add, List.nil_append] at M)
      | (with_reducible (show wpList _ _ _ (Oper.mk _ (.build _ _) _ _ _ _ :: _) _ _); refine m_buildZ rfl rfl ?_))
    exact m_ret2 M rfl rfl rfl (by simp) (by rw [HE.out]; rfl)
  have KA : Hid (∀ v w, Rd w 32 v n (kyL a) → Ret Try.prog 55 #[v] w fun r _ => r = .agg (bA (listK a).1)) := Lib.hid (fun v w h => listKey_c _ _ ha (by omega) v w h)
  have KB : Hid (∀ v w, Rd w 32 v n (kyL b) → Ret Try.prog 55 #[v] w fun r _ => r = .agg (bA (listK b).1)) := Lib.hid (fun v w h => listKey_c _ _ hb (by omega) v w h)
  by_cases hK : listK a = listK b
  · have ce : ∀ w, (binOp .neq 25 (.agg (bA (listK a).1)) (.agg (bA (listK b).1))).run Try.prog w = .ok (.bool false) w := fun w => by rw [key_neq, decide_eq_true hK]; rfl
    have HL : Hid (∀ va vb w, Rd w 32 va n (kyL a) → Rd w 32 vb n (kyL b) → Ret Try.prog 56 #[va, vb] w fun r _ => r = .bool (decide (a = b))) := Lib.hid (fun va vb w h h' => equalK_c _ _ _ ha hb va vb w (by omega) h h')
    by_cases hab : a = b
    · have HE := Lib.hid (show coT a b = (noCl, 6) by rw [coT, if_neg (by omega), if_neg (by rintro (h | h | h) <;> first | omega | exact h hK), if_pos hab])
      rw [decide_eq_true hab] at HL
      clear ha hb hC hab hK
      generalize listK a = x at *
      generalize listK b = y at *
      go_enter Try.func16, Try.ntmps16
      go_wp2_with (first
        | (go_at_call 55; (first | (with_reducible refine mem_call M (KA.out _ _ (HVA.out.up M.up)) ?_) | (with_reducible refine mem_call M (KB.out _ _ (HVB.out.up M.up)) ?_)); clear M; (try clear wx); rintro _ wx rfl _ M)
        | (go_at_call 56; (with_reducible refine mem_call M (HL.out _ _ _ (HVA.out.up M.up) (HVB.out.up M.up)) ?_); clear M; (try clear wx); rintro _ wx rfl _ M)
        | (with_reducible (show wpList _ _ _ (Oper.mk (some 4) (.alloc _) _ _ _ _ :: _) _ _); refine mem_new M rfl rfl ?_; clear M; (try clear wx); intro g4 wx M)
        | (with_reducible (show wpList _ _ _ (Oper.mk _ (.store _ _ _) _ _ _ _ :: _) _ _); (first | (refine m_storeR M rfl rfl rfl rfl (by first | rfl | assumption | (simp; done) | (simp; omega)) (by first | rfl | assumption | (simp; done) | (simp; omega)) (by first | exact claV_one _ | exact claC_one _ _ _ _) ?_) | (refine m_store (v := Value.int _ _) M rfl rfl rfl rfl rfl (by first | assumption | (simp; done) | (simp; omega)) ?_) | (refine m_store (v := Value.slice _ _ _) M rfl rfl rfl rfl rfl (by first | assumption | (simp; done) | (simp; omega)) ?_) | (refine m_store (v := Value.bool _) M rfl rfl rfl rfl rfl (by first | assumption | (simp; done) | (simp; omega)) ?_) | (refine m_store (v := Value.string _) M rfl rfl rfl rfl rfl (by first | assumption | (simp; done) | (simp; omega)) ?_) | (refine m_store (v := Value.pointer _) M rfl rfl rfl rfl rfl (by first | assumption | (simp; done) | (simp; omega)) ?_)); clear M; (try clear wx); intro wx M; simp only [List.set_cons_zero, List.set_cons_succ, Nat.zero_add, List.nil_append] at M)
        | (with_reducible (show wpList _ _ _ (Oper.mk _ (.build _ _) _ _ _ _ :: _) _ _); refine m_buildZ rfl rfl ?_))
      exact m_ret2 M rfl rfl rfl (by simp) (by rw [HE.out]; rfl)
    · have HE := Lib.hid (show coT a b = (clL a b, 0) by rw [coT, if_neg (by omega), if_neg (by rintro (h | h | h) <;> first | omega | exact h hK), if_neg hab])
      rw [decide_eq_false hab] at HL
      have HR : Hid (∀ va vb w, Rd w 32 va n (kyL a) → Rd w 32 vb n (kyL b) → Ret Try.prog 57 #[va, vb] w fun r _ => r = .agg (claV (clL a b))) := Lib.hid (fun va vb w h h' => clash_c _ _ _ ha hb (by omega) hab hK va vb w h h')
      clear ha hb hC hab hK
      generalize listK a = x at *
      generalize listK b = y at *
      generalize clL a b = T at *
      go_enter Try.func16, Try.ntmps16
      go_wp2_with (first
        | (go_at_call 55; (first | (with_reducible refine mem_call M (KA.out _ _ (HVA.out.up M.up)) ?_) | (with_reducible refine mem_call M (KB.out _ _ (HVB.out.up M.up)) ?_)); clear M; (try clear wx); rintro _ wx rfl _ M)
        | (go_at_call 56; (with_reducible refine mem_call M (HL.out _ _ _ (HVA.out.up M.up) (HVB.out.up M.up)) ?_); clear M; (try clear wx); rintro _ wx rfl _ M)
        | (go_at_call 57; (with_reducible refine mem_call M (HR.out _ _ _ (HVA.out.up M.up) (HVB.out.up M.up)) ?_); clear M; (try clear wx); rintro _ wx rfl _ M)
        | (with_reducible (show wpList _ _ _ (Oper.mk (some 4) (.alloc _) _ _ _ _ :: _) _ _); refine mem_new M rfl rfl ?_; clear M; (try clear wx); intro g4 wx M)
        | (with_reducible (show wpList _ _ _ (Oper.mk _ (.store _ _ _) _ _ _ _ :: _) _ _); (first | (refine m_storeR M rfl rfl rfl rfl (by first | rfl | assumption | (simp; done) | (simp; omega)) (by first | rfl | assumption | (simp; done) | (simp; omega)) (by first | exact claV_one _ | exact claC_one _ _ _ _) ?_) | (refine m_store (v := Value.int _ _) M rfl rfl rfl rfl rfl (by first | assumption | (simp; done) | (simp; omega)) ?_) | (refine m_store (v := Value.slice _ _ _) M rfl rfl rfl rfl rfl (by first | assumption | (simp; done) | (simp; omega)) ?_) | (refine m_store (v := Value.bool _) M rfl rfl rfl rfl rfl (by first | assumption | (simp; done) | (simp; omega)) ?_) | (refine m_store (v := Value.string _) M rfl rfl rfl rfl rfl (by first | assumption | (simp; done) | (simp; omega)) ?_) | (refine m_store (v := Value.pointer _) M rfl rfl rfl rfl rfl (by first | assumption | (simp; done) | (simp; omega)) ?_)); clear M; (try clear wx); intro wx M; simp only [List.set_cons_zero, List.set_cons_succ, Nat.zero_add, List.nil_append] at M)
        | (with_reducible (show wpList _ _ _ (Oper.mk _ (.build _ _) _ _ _ _ :: _) _ _); refine m_buildZ rfl rfl ?_))
      exact m_ret2 M rfl rfl rfl (by simp) (by rw [HE.out]; rfl)
  · have ce : ∀ w, (binOp .neq 25 (.agg (bA (listK a).1)) (.agg (bA (listK b).1))).run Try.prog w = .ok (.bool true) w := fun w => by rw [key_neq, decide_eq_false hK]; rfl
    have HE := Lib.hid (show coT a b = (noCl, 4) by rw [coT, if_neg (by omega), if_pos (.inr (.inr hK))])
    clear ha hb hC hK
    generalize listK a = x at *
    generalize listK b = y at *
    go_enter Try.func16, Try.ntmps16
    go_wp2_with (first
      | (go_at_call 55; (first | (with_reducible refine mem_call M (KA.out _ _ (HVA.out.up M.up)) ?_) | (with_reducible refine mem_call M (KB.out _ _ (HVB.out.up M.up)) ?_)); clear M; (try clear wx); rintro _ wx rfl _ M)
      | (with_reducible (show wpList _ _ _ (Oper.mk (some 4) (.alloc _) _ _ _ _ :: _) _ _); refine mem_new M rfl rfl ?_; clear M; (try clear wx); intro g4 wx M)
      | (with_reducible (show wpList _ _ _ (Oper.mk _ (.store _ _ _) _ _ _ _ :: _) _ _); (first | (refine m_storeR M rfl rfl rfl rfl (by first | rfl | assumption | (simp; done) | (simp; omega)) (by first | rfl | assumption | (simp; done) | (simp; omega)) (by first | exact claV_one _ | exact claC_one _ _ _ _) ?_) | (refine m_store (v := Value.int _ _) M rfl rfl rfl rfl rfl (by first | assumption | (simp; done) | (simp; omega)) ?_) | (refine m_store (v := Value.slice _ _ _) M rfl rfl rfl rfl rfl (by first | assumption | (simp; done) | (simp; omega)) ?_) | (refine m_store (v := Value.bool _) M rfl rfl rfl rfl rfl (by first | assumption | (simp; done) | (simp; omega)) ?_) | (refine m_store (v := Value.string _) M rfl rfl rfl rfl rfl (by first | assumption | (simp; done) | (simp; omega)) ?_) | (refine m_store (v := Value.pointer _) M rfl rfl rfl rfl rfl (by first | assumption | (simp; done) | (simp; omega)) ?_)); clear M; (try clear wx); intro wx M; simp only [List.set_cons_zero, List.set_cons_succ, Nat.zero_add, List.nil_append] at M)
      | (with_reducible (show wpList _ _ _ (Oper.mk _ (.build _ _) _ _ _ _ :: _) _ _); refine m_buildZ rfl rfl ?_))
    exact m_ret2 M rfl rfl rfl (by simp) (by rw [HE.out]; rfl)

theorem szKeyS_l (a : Option Addr) (n cap : Nat) (left : Int) (h0 : 0 ≤ left) (h1 : left ≤ 1048576) (hn : n ≤ maxLen) (w : World) : Ret Try.prog 13 #[.slice a n cap, .int .i64 left] w fun r _ => r = .int .i64 (if left - n < 0 then -1 else left - n) := Ret.same (szKeyS_c a n cap left h0 h1 hn w)
set_option maxHeartbeats 1000000 in
set_option maxRecDepth 100000 in
theorem eqClash_r (c : Ky × Ky × Ky × Ky) (w : World) : Ret Try.prog 17 #[.agg (claV c), .agg (claV c)] w fun r _ => r = .bool true := by
  obtain ⟨x1, x2, y1, y2⟩ := c
  show Ret Try.prog 17 #[.agg (claC x1.1 x2.1 y1.1 y2.1), .agg (claC x1.1 x2.1 y1.1 y2.1)] w fun r _ => r = .bool true
  refine ret_start fun wx M => ?_
  go_enter Try.func17, Try.ntmps17
  go_wp2_with (first
    | (go_at_call 21; (with_reducible refine mem_call M (eqKey_r _ _) ?_); clear M; (try clear wx); rintro _ wx rfl _ M)
    | (with_reducible (show wpList _ _ _ (Oper.mk (some 2) (.box _ _) _ _ _ _ :: _) _ _); (first | (refine m_boxA M rfl rfl rfl ?_) | (refine m_box1 (v := Value.int _ _) M rfl rfl rfl rfl ?_) | (refine m_box1 (v := Value.slice _ _ _) M rfl rfl rfl rfl ?_) | (refine m_box1 (v := Value.bool _) M rfl rfl rfl rfl ?_) | (refine m_box1 (v := Value.string _) M rfl rfl rfl rfl ?_) | (refine m_box1 (v := Value.pointer _) M rfl rfl rfl rfl ?_)); clear M; (try clear wx); intro g2 wx M)
    | (with_reducible (show wpList _ _ _ (Oper.mk (some 3) (.box _ _) _ _ _ _ :: _) _ _); (first | (refine m_boxA M rfl rfl rfl ?_) | (refine m_box1 (v := Value.int _ _) M rfl rfl rfl rfl ?_) | (refine m_box1 (v := Value.slice _ _ _) M rfl rfl rfl rfl ?_) | (refine m_box1 (v := Value.bool _) M rfl rfl rfl rfl ?_) | (refine m_box1 (v := Value.string _) M rfl rfl rfl rfl ?_) | (refine m_box1 (v := Value.pointer _) M rfl rfl rfl rfl ?_)); clear M; (try clear wx); intro g3 wx M)
    | (with_reducible (show wpList _ _ _ (Oper.mk _ (.load _ _) _ _ _ _ :: _) _ _); (first | (refine m_loadB M rfl rfl rfl (cla_get0 _ _ _ _) (Ky.len _) ?_) | (refine m_loadB M rfl rfl rfl (cla_get1 _ _ _ _) (Ky.len _) ?_) | (refine m_loadB M rfl rfl rfl (cla_get2 _ _ _ _) (Ky.len _) ?_) | (refine m_loadB M rfl rfl rfl (cla_get3 _ _ _ _) (Ky.len _) ?_) | (refine m_load M rfl rfl rfl (by first | assumption | rfl) ?_) | (refine m_loadR M rfl rfl rfl (by first | rfl | assumption | (simp; done) | (simp; omega)) ?_))))
  go_ret
  exact ⟨_, rfl, rfl, M.up⟩

set_option maxHeartbeats 4000000 in
set_option maxRecDepth 100000 in
theorem lawClashOf_c (va vb : Value) (a b : List Ky) (w : World) (hva : Rd w 32 va a.length (kyL a)) (hvb : Rd w 32 vb b.length (kyL b)) : Calls Try.prog 3 #[va, vb] w fun e w' => e = .returned (.bool true) ∧ Up w w' := by
  obtain ⟨n, hn⟩ : ∃ n, a.length = n := ⟨_, rfl⟩
  obtain ⟨m, hm⟩ : ∃ m, b.length = m := ⟨_, rfl⟩
  rw [hn] at hva
  rw [hm] at hvb
  obtain ⟨b1, cap1, rfl⟩ := hva.shape
  obtain ⟨b2, cap2, rfl⟩ := hvb.shape
  have hnl : n ≤ maxLen := by have := hva.len_; omega
  have hml : m ≤ maxLen := by have := hvb.len_; omega
  have HVA := Lib.hid hva
  have HVB := Lib.hid hvb
  have HN := Lib.hid (And.intro hn hm)
  have hmm : maxLen ≤ 9223372036854775807 := by decide
  have hnl' : n ≤ 9223372036854775807 := by omega
  have hml' : m ≤ 9223372036854775807 := by omega
  clear hva hvb hn hm hmm
  have M := Mem.start w
  by_cases hbig : (1048576 : Int) - n < 0
  · have HZ1 : Hid (∀ w, Ret Try.prog 13 #[.slice b1 n cap1, .int .i64 1048576] w fun r _ => r = .int .i64 (-1)) := Lib.hid (fun w => by have := szKeyS_l b1 n cap1 1048576 (by omega) (by omega) hnl w; rwa [if_pos hbig] at this)
    go_enter Try.func3, Try.ntmps3
    go_wp2_with (first
      | (go_at_call 13; (with_reducible refine mem_call M (HZ1.out _) ?_); clear M; (try clear wx); rintro _ wx rfl _ M)
      | (with_reducible (show wpList _ _ _ (Oper.mk (some 6) (.alloc _) _ _ _ _ :: _) _ _); refine mem_new M rfl rfl ?_; clear M; (try clear wx); intro g6 wx M)
      | (with_reducible (show wpList _ _ _ (Oper.mk (some 10) (.alloc _) _ _ _ _ :: _) _ _); refine mem_new M rfl rfl ?_; clear M; (try clear wx); intro g10 wx M)
      | (with_reducible (show wpList _ _ _ (Oper.mk _ (.load _ _) _ _ _ _ :: _) _ _); (first | (refine m_load M rfl rfl rfl (by first | assumption | rfl) ?_) | (refine m_loadR M rfl rfl rfl (by first | rfl | assumption | (simp; done) | (simp; omega)) ?_)))
      | (with_reducible (show wpList _ _ _ (Oper.mk _ (.store _ _ _) _ _ _ _ :: _) _ _); (first | (refine m_storeR M rfl rfl rfl rfl (by first | rfl | assumption | (simp; done) | (simp; omega)) (by first | rfl | assumption | (simp; done) | (simp; omega)) (by first | exact bA_one _ | exact wA_one _ | assumption | (simp [Value.oneCell']; done)) ?_) | (refine m_store (v := Value.int _ _) M rfl rfl rfl rfl rfl (by first | assumption | (simp; done) | (simp; omega)) ?_) | (refine m_store (v := Value.slice _ _ _) M rfl rfl rfl rfl rfl (by first | assumption | (simp; done) | (simp; omega)) ?_) | (refine m_store (v := Value.bool _) M rfl rfl rfl rfl rfl (by first | assumption | (simp; done) | (simp; omega)) ?_) | (refine m_store (v := Value.string _) M rfl rfl rfl rfl rfl (by first | assumption | (simp; done) | (simp; omega)) ?_) | (refine m_store (v := Value.pointer _) M rfl rfl rfl rfl rfl (by first | assumption | (simp; done) | (simp; omega)) ?_)); clear M; (try clear wx); intro wx M; simp only [List.set_cons_zero, List.set_cons_succ, Nat.zero_add, List.nil_append] at M))
    go_ret
    exact ⟨rfl, M.up⟩
  have hl : n ≤ 1048576 := by omega
  obtain ⟨l1, hl1⟩ : ∃ l1 : Int, l1 = 1048576 - n := ⟨_, rfl⟩
  have HZ1 : Hid (∀ w, Ret Try.prog 13 #[.slice b1 n cap1, .int .i64 1048576] w fun r _ => r = .int .i64 l1) := Lib.hid (fun w => by have := szKeyS_l b1 n cap1 1048576 (by omega) (by omega) hnl w; rw [if_neg hbig] at this; rw [hl1]; exact this)
  have HZ2 := Lib.hid (fun w => szKeyS_l b2 m cap2 l1 (by omega) (by omega) hml w)
  have h1p : 0 ≤ l1 := by omega
  by_cases hbig2 : l1 - m < 0
  · rw [if_pos hbig2] at HZ2
    clear hl1 hbig
    go_enter Try.func3, Try.ntmps3
    go_wp2_with (first
      | (go_at_call 13; (with_reducible refine mem_call M (HZ1.out _) ?_); clear M; (try clear wx); rintro _ wx rfl _ M)
      | (go_at_call 13; (with_reducible refine mem_call M (HZ2.out _) ?_); clear M; (try clear wx); rintro _ wx rfl _ M)
      | (with_reducible (show wpList _ _ _ (Oper.mk (some 6) (.alloc _) _ _ _ _ :: _) _ _); refine mem_new M rfl rfl ?_; clear M; (try clear wx); intro g6 wx M)
      | (with_reducible (show wpList _ _ _ (Oper.mk (some 10) (.alloc _) _ _ _ _ :: _) _ _); refine mem_new M rfl rfl ?_; clear M; (try clear wx); intro g10 wx M)
      | (with_reducible (show wpList _ _ _ (Oper.mk _ (.load _ _) _ _ _ _ :: _) _ _); (first | (refine m_load M rfl rfl rfl (by first | assumption | rfl) ?_) | (refine m_loadR M rfl rfl rfl (by first | rfl | assumption | (simp; done) | (simp; omega)) ?_)))
      | (with_reducible (show wpList _ _ _ (Oper.mk _ (.store _ _ _) _ _ _ _ :: _) _ _); (first | (refine m_storeR M rfl rfl rfl rfl (by first | rfl | assumption | (simp; done) | (simp; omega)) (by first | rfl | assumption | (simp; done) | (simp; omega)) (by first | exact bA_one _ | exact wA_one _ | assumption | (simp [Value.oneCell']; done)) ?_) | (refine m_store (v := Value.int _ _) M rfl rfl rfl rfl rfl (by first | assumption | (simp; done) | (simp; omega)) ?_) | (refine m_store (v := Value.slice _ _ _) M rfl rfl rfl rfl rfl (by first | assumption | (simp; done) | (simp; omega)) ?_) | (refine m_store (v := Value.bool _) M rfl rfl rfl rfl rfl (by first | assumption | (simp; done) | (simp; omega)) ?_) | (refine m_store (v := Value.string _) M rfl rfl rfl rfl rfl (by first | assumption | (simp; done) | (simp; omega)) ?_) | (refine m_store (v := Value.pointer _) M rfl rfl rfl rfl rfl (by first | assumption | (simp; done) | (simp; omega)) ?_)); clear M; (try clear wx); intro wx M; simp only [List.set_cons_zero, List.set_cons_succ, Nat.zero_add, List.nil_append] at M))
    go_ret
    exact ⟨rfl, M.up⟩
  have hl2 : m ≤ 1048576 := by omega
  rw [if_neg hbig2] at HZ2
  obtain ⟨l2, hl2'⟩ : ∃ l2 : Int, l2 = l1 - m := ⟨_, rfl⟩
  rw [← hl2'] at HZ2
  have h2p : 0 ≤ l2 := by omega
  clear hl1 hbig hl2' hbig2
  have HS : Hid (∀ va vb w, Rd w 32 va n (kyL a) → Rd w 32 vb m (kyL b) → Ret Try.prog 14 #[va, vb] w fun r _ => r = .tuple #[.agg (claV (coT a b).1), .int .i64 (coT a b).2]) := Lib.hid (fun va vb w h h' => specClashOf_c va vb n m a b HN.out.1 HN.out.2 w h h' hl hl2)
  have HI : Hid (∀ va vb w, Rd w 32 va n (kyL a) → Rd w 32 vb m (kyL b) → Ret Try.prog 16 #[va, vb] w fun r _ => r = .tuple #[.agg (claV (coT a b).1), .int .i64 (coT a b).2]) := Lib.hid (fun va vb w h h' => implClashOf_c va vb n m a b HN.out.1 HN.out.2 w h h' hl hl2)
  generalize coT a b = c at *
  obtain ⟨c, q⟩ := c
  go_enter Try.func3, Try.ntmps3
  go_wp2_with (first
    | (go_at_call 13; (with_reducible refine mem_call M (HZ1.out _) ?_); clear M; (try clear wx); rintro _ wx rfl _ M)
    | (go_at_call 13; (with_reducible refine mem_call M (HZ2.out _) ?_); clear M; (try clear wx); rintro _ wx rfl _ M)
    | (go_at_call 15; (first | (with_reducible refine mem_callO M (toKeyS_c _ n a HN.out.1 _ (HVA.out.up M.up) hl) ?_) | (with_reducible refine mem_callO M (toKeyS_c _ m b HN.out.2 _ (HVB.out.up M.up) hl2) ?_)); clear M; (try clear wx); intro _ _ wx M)
    | (go_at_call 14; (with_reducible refine mem_call M (HS.out _ _ _ (M.rdK a) (M.rdK b)) ?_); clear M; (try clear wx); rintro _ wx rfl _ M)
    | (go_at_call 16; (with_reducible refine mem_call M (HI.out _ _ _ (M.rdK a) (M.rdK b)) ?_); clear M; (try clear wx); rintro _ wx rfl _ M)
    | (go_at_call 17; (with_reducible refine mem_call M (eqClash_r _ _) ?_); clear M; (try clear wx); rintro _ wx rfl _ M)
    | (go_at_call 18; (first | (with_reducible refine mem_call M (eqKeyS_same _ _ n a HN.out.1 _ (by omega) (M.rdK a) (M.rdK a)) ?_) | (with_reducible refine mem_call M (eqKeyS_same _ _ m b HN.out.2 _ (by omega) (M.rdK b) (M.rdK b)) ?_)); clear M; (try clear wx); rintro _ wx rfl _ M)
    | (with_reducible (show wpList _ _ _ (Oper.mk (some 6) (.alloc _) _ _ _ _ :: _) _ _); refine mem_new M rfl rfl ?_; clear M; (try clear wx); intro g6 wx M)
    | (with_reducible (show wpList _ _ _ (Oper.mk (some 10) (.alloc _) _ _ _ _ :: _) _ _); refine mem_new M rfl rfl ?_; clear M; (try clear wx); intro g10 wx M)
    | (with_reducible (show wpList _ _ _ (Oper.mk _ (.load _ _) _ _ _ _ :: _) _ _); (first | (refine m_load M rfl rfl rfl (by first | assumption | rfl) ?_) | (refine m_loadR M rfl rfl rfl (by first | rfl | assumption | (simp; done) | (simp; omega)) ?_)))
    | (with_reducible (show wpList _ _ _ (Oper.mk _ (.store _ _ _) _ _ _ _ :: _) _ _); (first | (refine m_storeR M rfl rfl rfl rfl (by first | rfl | assumption | (simp; done) | (simp; omega)) (by first | rfl | assumption | (simp; done) | (simp; omega)) (by first | exact claV_one _ | exact claC_one _ _ _ _) ?_) | (refine m_store (v := Value.int _ _) M rfl rfl rfl rfl rfl (by first | assumption | (simp; done) | (simp; omega)) ?_) | (refine m_store (v := Value.slice _ _ _) M rfl rfl rfl rfl rfl (by first | assumption | (simp; done) | (simp; omega)) ?_) | (refine m_store (v := Value.bool _) M rfl rfl rfl rfl rfl (by first | assumption | (simp; done) | (simp; omega)) ?_) | (refine m_store (v := Value.string _) M rfl rfl rfl rfl rfl (by first | assumption | (simp; done) | (simp; omega)) ?_) | (refine m_store (v := Value.pointer _) M rfl rfl rfl rfl rfl (by first | assumption | (simp; done) | (simp; omega)) ?_)); clear M; (try clear wx); intro wx M; simp only [List.set_cons_zero, List.set_cons_succ, Nat.zero_add, List.nil_append] at M))
  go_ret
  exact ⟨rfl, M.up⟩

end Go.Proofs.Ytmbhaoiahlbglaa

/- The law CheckProof. -/
import Derived.Test.YtgofolmekgjkjaaHV
namespace Go.Proofs.Ytgofolmekgjkjaa
open Go.RowKit
set_option linter.unusedVariables false
set_option linter.unusedSimpArgs false

set_option maxHeartbeats 4000000 in
set_option maxRecDepth 100000 in
theorem lawCheckProof_c (root leaf : Ky) (n i : Int) (v : Value) (ps : List Ky) (w : World) (hv : Rd w 32 v ps.length (kyL ps)) : Calls Try.prog 10 #[.agg (bA root.1), .int .i64 n, .int .i64 i, .agg (bA leaf.1), v] w fun e w' => e = .returned (.bool true) ∧ Up w w' := by
  obtain ⟨m, hm⟩ : ∃ m, ps.length = m := ⟨_, rfl⟩
  rw [hm] at hv
  obtain ⟨b, cap, rfl⟩ := hv.shape
  have hml : m ≤ maxLen := by have := hv.len_; omega
  have HV := Lib.hid hv
  have HN := Lib.hid hm
  have hmm : maxLen ≤ 9223372036854775807 := by decide
  have hml' : m ≤ 9223372036854775807 := by omega
  clear hv hm hmm
  have M := Mem.start w
  by_cases hbig : (1048576 : Int) - m < 0
  · go_enter Try.func10, Try.ntmps10
    go_wp2_with (first
      | (go_at_call 37; (with_reducible refine mem_call M (szKeyS_r _ m _ hml _) ?_); clear M; (try clear wx); rintro _ wx rfl _ M; rw [if_pos hbig])
      | (with_reducible (show wpList _ _ _ (Oper.mk (some 5) (.box _ _) _ _ _ _ :: _) _ _); (first | (refine m_boxA M rfl rfl rfl ?_) | (refine m_box1 (v := Value.int _ _) M rfl rfl rfl rfl ?_) | (refine m_box1 (v := Value.slice _ _ _) M rfl rfl rfl rfl ?_) | (refine m_box1 (v := Value.bool _) M rfl rfl rfl rfl ?_) | (refine m_box1 (v := Value.string _) M rfl rfl rfl rfl ?_) | (refine m_box1 (v := Value.pointer _) M rfl rfl rfl rfl ?_)); clear M; (try clear wx); intro g5 wx M)
      | (with_reducible (show wpList _ _ _ (Oper.mk (some 8) (.box _ _) _ _ _ _ :: _) _ _); (first | (refine m_boxA M rfl rfl rfl ?_) | (refine m_box1 (v := Value.int _ _) M rfl rfl rfl rfl ?_) | (refine m_box1 (v := Value.slice _ _ _) M rfl rfl rfl rfl ?_) | (refine m_box1 (v := Value.bool _) M rfl rfl rfl rfl ?_) | (refine m_box1 (v := Value.string _) M rfl rfl rfl rfl ?_) | (refine m_box1 (v := Value.pointer _) M rfl rfl rfl rfl ?_)); clear M; (try clear wx); intro g8 wx M)
      | (with_reducible (show wpList _ _ _ (Oper.mk _ (.load _ _) _ _ _ _ :: _) _ _); (first | (refine m_load M rfl rfl rfl (by first | assumption | rfl) ?_) | (refine m_loadR M rfl rfl rfl (by first | rfl | assumption | (simp; done) | (simp; omega)) ?_))))
    go_ret
    exact ⟨rfl, M.up⟩
  · have hl : m ≤ 1048576 := by omega
    have HS : Hid (∀ v w, Rd w 32 v m (kyL ps) → Ret Try.prog 42 #[.agg (bA root.1), .int .i64 n, .int .i64 i, .agg (bA leaf.1), v] w fun r _ => r = .tuple #[.bool (cpT root leaf n i ps).1, .int .i64 (cpT root leaf n i ps).2]) := Lib.hid (fun v w h => specCheckProof_c root leaf n i v m ps HN.out w h hl)
    have HI : Hid (∀ v w, Rd w 32 v m (kyL ps) → Ret Try.prog 43 #[.agg (bA root.1), .int .i64 n, .int .i64 i, .agg (bA leaf.1), v] w fun r _ => r = .tuple #[.bool (cpT root leaf n i ps).1, .int .i64 (cpT root leaf n i ps).2]) := Lib.hid (fun v w h => implCheckProof_c root leaf n i v m ps HN.out w h hl)
    have HT : Hid (∀ w, Rd w 32 (.slice b m cap) m (kyL ps) → Ret Try.prog 39 #[.slice b m cap] w fun r w' => Rd w' 32 r m (kyL ps)) := Lib.hid (fun w h => (toKeyS_c _ m ps HN.out w h hl).mono fun r w' _ h => by obtain ⟨b, cap, rfl, ho⟩ := h; exact own_rd ho (kyL_one ps))
    generalize cpT root leaf n i ps = c at *
    go_enter Try.func10, Try.ntmps10
    go_wp2_with (first
      | (go_at_call 37; (with_reducible refine mem_call M (szKeyS_r _ m _ hml _) ?_); clear M; (try clear wx); rintro _ wx rfl _ M; rw [if_neg hbig])
      | (with_reducible (show wpList _ _ _ (Oper.mk (some 5) (.box _ _) _ _ _ _ :: _) _ _); (first | (refine m_boxA M rfl rfl rfl ?_) | (refine m_box1 (v := Value.int _ _) M rfl rfl rfl rfl ?_) | (refine m_box1 (v := Value.slice _ _ _) M rfl rfl rfl rfl ?_) | (refine m_box1 (v := Value.bool _) M rfl rfl rfl rfl ?_) | (refine m_box1 (v := Value.string _) M rfl rfl rfl rfl ?_) | (refine m_box1 (v := Value.pointer _) M rfl rfl rfl rfl ?_)); clear M; (try clear wx); intro g5 wx M)
      | (with_reducible (show wpList _ _ _ (Oper.mk (some 8) (.box _ _) _ _ _ _ :: _) _ _); (first | (refine m_boxA M rfl rfl rfl ?_) | (refine m_box1 (v := Value.int _ _) M rfl rfl rfl rfl ?_) | (refine m_box1 (v := Value.slice _ _ _) M rfl rfl rfl rfl ?_) | (refine m_box1 (v := Value.bool _) M rfl rfl rfl rfl ?_) | (refine m_box1 (v := Value.string _) M rfl rfl rfl rfl ?_) | (refine m_box1 (v := Value.pointer _) M rfl rfl rfl rfl ?_)); clear M; (try clear wx); intro g8 wx M)
      | (with_reducible (show wpList _ _ _ (Oper.mk _ (.load _ _) _ _ _ _ :: _) _ _); (first | (refine m_load M rfl rfl rfl (by first | assumption | rfl) ?_) | (refine m_loadR M rfl rfl rfl (by first | rfl | assumption | (simp; done) | (simp; omega)) ?_))))
    refine region_mono (m := 13) mixedOrders_ (by kernel_rfl) (by kernel_rfl)
      (fun | 0 => fun vq _ => vq = .agg (bA root.1) | 1 => fun vq _ => vq = .agg (bA root.1) | 2 => fun vq _ => vq = .int .i64 n | 3 => fun vq _ => vq = .int .i64 i | 4 => fun vq _ => vq = .agg (bA leaf.1) | 5 => fun vq _ => vq = .agg (bA leaf.1) | 6 => fun vq _ => vq = .slice b m cap | 7 => fun v wx => Rd wx 32 v m (kyL ps) | 8 => fun v wx => v = .tuple #[.bool c.1, .int .i64 c.2] | 9 => fun vq _ => vq = .tuple #[.bool c.1, .int .i64 c.2] | 10 => fun vq _ => vq = .bool c.1 | 11 => fun vq _ => vq = .int .i64 c.2 | 12 => fun vq _ => vq = .bool c.1 | _ => fun _ _ => True)
      (fun wx => Mem w wx [.blk g8 22 (bA leaf.1), .blk g5 22 (bA root.1)]) ?_ ?_ ?_ ?_ ?_
    · intro j hj v w1 w2 hb h
      match j, hj with
      | 0, _ => exact h
      | 1, _ => exact h
      | 2, _ => exact h
      | 3, _ => exact h
      | 4, _ => exact h
      | 5, _ => exact h
      | 6, _ => exact h
      | 7, _ => exact h.up hb
      | 8, _ => exact h
      | 9, _ => exact h
      | 10, _ => exact h
      | 11, _ => exact h
      | 12, _ => exact h
    · intro w1 w2 hb h
      exact h.grow hb
    · exact M.grow ((Up.refl _).drew)
    · rintro i o hi ho av wv fr gM dep
      match i, hi with
      | 0, _ =>
        obtain rfl := Option.some.inj ho
        exact st_loadG gM rfl (fr.eval rfl) (by first | rfl | (simp; done)) rfl
      | 1, _ =>
        obtain rfl := Option.some.inj ho
        have d0 := dep ⟨0, .data⟩ (by simp) rfl
        exact st_ret1 rfl (fun _ _ => by kernel_rfl) d0 (toKey_r root _) (fun r w' h _ => h)
      | 2, _ =>
        obtain rfl := Option.some.inj ho
        exact st_mov rfl (fr.eval rfl) rfl
      | 3, _ =>
        obtain rfl := Option.some.inj ho
        exact st_mov rfl (fr.eval rfl) rfl
      | 4, _ =>
        obtain rfl := Option.some.inj ho
        exact st_loadG gM rfl (fr.eval rfl) (by first | rfl | (simp; done)) rfl
      | 5, _ =>
        obtain rfl := Option.some.inj ho
        have d0 := dep ⟨4, .data⟩ (by simp) rfl
        exact st_ret1 rfl (fun _ _ => by kernel_rfl) d0 (toKey_r leaf _) (fun r w' h _ => h)
      | 6, _ =>
        obtain rfl := Option.some.inj ho
        exact st_mov rfl (fr.eval rfl) rfl
      | 7, _ =>
        obtain rfl := Option.some.inj ho
        have d0 := dep ⟨6, .data⟩ (by simp) rfl
        exact st_ret1 rfl (fun _ _ => by kernel_rfl) d0 (HT.out _ (HV.out.up gM.up)) (fun r w' h _ => h)
      | 8, _ =>
        obtain rfl := Option.some.inj ho
        have D7 := dep ⟨7, .data⟩ (by simp) rfl
        exact st_ret5 rfl (fun _ _ => by kernel_rfl) (dep ⟨1, .data⟩ (by simp) rfl) (dep ⟨2, .data⟩ (by simp) rfl) (dep ⟨3, .data⟩ (by simp) rfl) (dep ⟨5, .data⟩ (by simp) rfl) rfl (HS.out _ _ D7) (fun r w' h _ => h)
      | 9, _ =>
        obtain rfl := Option.some.inj ho
        exact st_mov rfl (dep ⟨8, .data⟩ (by simp) rfl) rfl
      | 10, _ =>
        obtain rfl := Option.some.inj ho
        exact st_ext0 rfl (dep ⟨9, .data⟩ (by simp) rfl) rfl
      | 11, _ =>
        obtain rfl := Option.some.inj ho
        exact st_ext1 rfl (dep ⟨9, .data⟩ (by simp) rfl) rfl
      | 12, _ =>
        obtain rfl := Option.some.inj ho
        exact st_move (.inr rfl) (dep ⟨10, .data⟩ (by simp) rfl) rfl
    · rintro vs wv gM hf
      have f0 : vs 0 = .agg (bA root.1) := hf 0 (by omega)
      have f1 : vs 1 = .agg (bA root.1) := hf 1 (by omega)
      have f2 : vs 2 = .int .i64 n := hf 2 (by omega)
      have f3 : vs 3 = .int .i64 i := hf 3 (by omega)
      have f4 : vs 4 = .agg (bA leaf.1) := hf 4 (by omega)
      have f5 : vs 5 = .agg (bA leaf.1) := hf 5 (by omega)
      have f6 : vs 6 = .slice b m cap := hf 6 (by omega)
      have f7 := hf 7 (by omega)
      have f8 := hf 8 (by omega)
      have f9 : vs 9 = .tuple #[.bool c.1, .int .i64 c.2] := hf 9 (by omega)
      have f10 : vs 10 = .bool c.1 := hf 10 (by omega)
      have f11 : vs 11 = .int .i64 c.2 := hf 11 (by omega)
      have f12 : vs 12 = .bool c.1 := hf 12 (by omega)
      simp only [putAll, Act.put, List.getElem?_toArray, List.getElem?_cons_zero, List.getElem?_cons_succ, Option.bind_some, List.setIfInBounds_toArray, List.set_cons_zero, List.set_cons_succ, List.drop_succ_cons, List.drop_zero, List.drop_nil, f11, f12]
      clear f0 f1 f2 f3 f4 f5 f6 f8 f9 f10 f11 f12 hf
      generalize hv7 : vs 7 = v7
      rw [hv7] at f7
      clear hv7 f7
      have M := gM
      go_wp2_with (first
        | (go_at_call 39; (with_reducible refine mem_callO M (toKeyS_c _ m ps HN.out _ (HV.out.up M.up) hl) ?_); clear M; (try clear wx); intro bk capk wx M)
        | (with_reducible (show wpList _ _ _ (Oper.mk (some 5) (.box _ _) _ _ _ _ :: _) _ _); (first | (refine m_boxA M rfl rfl rfl ?_) | (refine m_box1 (v := Value.int _ _) M rfl rfl rfl rfl ?_) | (refine m_box1 (v := Value.slice _ _ _) M rfl rfl rfl rfl ?_) | (refine m_box1 (v := Value.bool _) M rfl rfl rfl rfl ?_) | (refine m_box1 (v := Value.string _) M rfl rfl rfl rfl ?_) | (refine m_box1 (v := Value.pointer _) M rfl rfl rfl rfl ?_)); clear M; (try clear wx); intro g5 wx M)
        | (with_reducible (show wpList _ _ _ (Oper.mk (some 8) (.box _ _) _ _ _ _ :: _) _ _); (first | (refine m_boxA M rfl rfl rfl ?_) | (refine m_box1 (v := Value.int _ _) M rfl rfl rfl rfl ?_) | (refine m_box1 (v := Value.slice _ _ _) M rfl rfl rfl rfl ?_) | (refine m_box1 (v := Value.bool _) M rfl rfl rfl rfl ?_) | (refine m_box1 (v := Value.string _) M rfl rfl rfl rfl ?_) | (refine m_box1 (v := Value.pointer _) M rfl rfl rfl rfl ?_)); clear M; (try clear wx); intro g8 wx M)
        | (with_reducible (show wpList _ _ _ (Oper.mk _ (.load _ _) _ _ _ _ :: _) _ _); (first | (refine m_load M rfl rfl rfl (by first | assumption | rfl) ?_) | (refine m_loadR M rfl rfl rfl (by first | rfl | assumption | (simp; done) | (simp; omega)) ?_))))
      refine region_mono (m := 12) mixedOrders_ (by kernel_rfl) (by kernel_rfl)
        (fun | 0 => fun vq _ => vq = .agg (bA root.1) | 1 => fun vq _ => vq = .agg (bA root.1) | 2 => fun vq _ => vq = .int .i64 n | 3 => fun vq _ => vq = .int .i64 i | 4 => fun vq _ => vq = .agg (bA leaf.1) | 5 => fun vq _ => vq = .agg (bA leaf.1) | 6 => fun vq _ => vq = .slice bk m capk | 7 => fun v wx => v = .tuple #[.bool c.1, .int .i64 c.2] | 8 => fun vq _ => vq = .tuple #[.bool c.1, .int .i64 c.2] | 9 => fun vq _ => vq = .bool c.1 | 10 => fun vq _ => vq = .int .i64 c.2 | 11 => fun vq _ => vq = .bool c.1 | _ => fun _ _ => True)
        (fun wx => Mem w wx [.own bk capk 23 32 m (kyL ps), .blk g8 22 (bA leaf.1), .blk g5 22 (bA root.1)]) ?_ ?_ ?_ ?_ ?_
      · intro j hj v w1 w2 hb h
        match j, hj with
        | 0, _ => exact h
        | 1, _ => exact h
        | 2, _ => exact h
        | 3, _ => exact h
        | 4, _ => exact h
        | 5, _ => exact h
        | 6, _ => exact h
        | 7, _ => exact h
        | 8, _ => exact h
        | 9, _ => exact h
        | 10, _ => exact h
        | 11, _ => exact h
      · intro w1 w2 hb h
        exact h.grow hb
      · exact M.grow ((Up.refl _).drew)
      · rintro i o hi ho av wv fr gM dep
        match i, hi with
        | 0, _ =>
          obtain rfl := Option.some.inj ho
          exact st_loadG gM rfl (fr.eval rfl) (by first | rfl | (simp; done)) rfl
        | 1, _ =>
          obtain rfl := Option.some.inj ho
          have d0 := dep ⟨0, .data⟩ (by simp) rfl
          exact st_ret1 rfl (fun _ _ => by kernel_rfl) d0 (toKey_r root _) (fun r w' h _ => h)
        | 2, _ =>
          obtain rfl := Option.some.inj ho
          exact st_mov rfl (fr.eval rfl) rfl
        | 3, _ =>
          obtain rfl := Option.some.inj ho
          exact st_mov rfl (fr.eval rfl) rfl
        | 4, _ =>
          obtain rfl := Option.some.inj ho
          exact st_loadG gM rfl (fr.eval rfl) (by first | rfl | (simp; done)) rfl
        | 5, _ =>
          obtain rfl := Option.some.inj ho
          have d0 := dep ⟨4, .data⟩ (by simp) rfl
          exact st_ret1 rfl (fun _ _ => by kernel_rfl) d0 (toKey_r leaf _) (fun r w' h _ => h)
        | 6, _ =>
          obtain rfl := Option.some.inj ho
          exact st_mov rfl (fr.eval rfl) rfl
        | 7, _ =>
          obtain rfl := Option.some.inj ho
          exact st_ret5 rfl (fun _ _ => by kernel_rfl) (dep ⟨1, .data⟩ (by simp) rfl) (dep ⟨2, .data⟩ (by simp) rfl) (dep ⟨3, .data⟩ (by simp) rfl) (dep ⟨5, .data⟩ (by simp) rfl) (dep ⟨6, .data⟩ (by simp) rfl) (HI.out _ _ (gM.rdK ps)) (fun r w' h _ => h)
        | 8, _ =>
          obtain rfl := Option.some.inj ho
          exact st_mov rfl (dep ⟨7, .data⟩ (by simp) rfl) rfl
        | 9, _ =>
          obtain rfl := Option.some.inj ho
          exact st_ext0 rfl (dep ⟨8, .data⟩ (by simp) rfl) rfl
        | 10, _ =>
          obtain rfl := Option.some.inj ho
          exact st_ext1 rfl (dep ⟨8, .data⟩ (by simp) rfl) rfl
        | 11, _ =>
          obtain rfl := Option.some.inj ho
          exact st_move (.inr rfl) (dep ⟨9, .data⟩ (by simp) rfl) rfl
      · rintro vs wv gM hf
        have f0 : vs 0 = .agg (bA root.1) := hf 0 (by omega)
        have f1 : vs 1 = .agg (bA root.1) := hf 1 (by omega)
        have f2 : vs 2 = .int .i64 n := hf 2 (by omega)
        have f3 : vs 3 = .int .i64 i := hf 3 (by omega)
        have f4 : vs 4 = .agg (bA leaf.1) := hf 4 (by omega)
        have f5 : vs 5 = .agg (bA leaf.1) := hf 5 (by omega)
        have f6 : vs 6 = .slice bk m capk := hf 6 (by omega)
        have f7 := hf 7 (by omega)
        have f8 : vs 8 = .tuple #[.bool c.1, .int .i64 c.2] := hf 8 (by omega)
        have f9 : vs 9 = .bool c.1 := hf 9 (by omega)
        have f10 : vs 10 = .int .i64 c.2 := hf 10 (by omega)
        have f11 : vs 11 = .bool c.1 := hf 11 (by omega)
        simp only [putAll, Act.put, List.getElem?_toArray, List.getElem?_cons_zero, List.getElem?_cons_succ, Option.bind_some, List.setIfInBounds_toArray, List.set_cons_zero, List.set_cons_succ, List.drop_succ_cons, List.drop_zero, List.drop_nil, f10, f11]
        clear f0 f1 f2 f3 f4 f5 f6 f7 f8 f9 f10 f11 hf
        have M := gM
        go_wp2_with (first
          | (go_at_call 39; (with_reducible refine mem_callO M (toKeyS_c _ m ps HN.out _ (HV.out.up M.up) hl) ?_); clear M; (try clear wx); intro bj capj wx M)
          | (go_at_call 41; (with_reducible refine mem_call M (eqKeyS_same _ _ m ps HN.out _ (by omega) (M.rdK ps) (M.rdK ps)) ?_); clear M; (try clear wx); rintro _ wx rfl _ M)
          | (with_reducible (show wpList _ _ _ (Oper.mk (some 5) (.box _ _) _ _ _ _ :: _) _ _); (first | (refine m_boxA M rfl rfl rfl ?_) | (refine m_box1 (v := Value.int _ _) M rfl rfl rfl rfl ?_) | (refine m_box1 (v := Value.slice _ _ _) M rfl rfl rfl rfl ?_) | (refine m_box1 (v := Value.bool _) M rfl rfl rfl rfl ?_) | (refine m_box1 (v := Value.string _) M rfl rfl rfl rfl ?_) | (refine m_box1 (v := Value.pointer _) M rfl rfl rfl rfl ?_)); clear M; (try clear wx); intro g5 wx M)
          | (with_reducible (show wpList _ _ _ (Oper.mk (some 8) (.box _ _) _ _ _ _ :: _) _ _); (first | (refine m_boxA M rfl rfl rfl ?_) | (refine m_box1 (v := Value.int _ _) M rfl rfl rfl rfl ?_) | (refine m_box1 (v := Value.slice _ _ _) M rfl rfl rfl rfl ?_) | (refine m_box1 (v := Value.bool _) M rfl rfl rfl rfl ?_) | (refine m_box1 (v := Value.string _) M rfl rfl rfl rfl ?_) | (refine m_box1 (v := Value.pointer _) M rfl rfl rfl rfl ?_)); clear M; (try clear wx); intro g8 wx M)
          | (with_reducible (show wpList _ _ _ (Oper.mk _ (.load _ _) _ _ _ _ :: _) _ _); (first | (refine m_load M rfl rfl rfl (by first | assumption | rfl) ?_) | (refine m_loadR M rfl rfl rfl (by first | rfl | assumption | (simp; done) | (simp; omega)) ?_))))
        go_ret
        exact ⟨rfl, M.up⟩

end Go.Proofs.Ytgofolmekgjkjaa

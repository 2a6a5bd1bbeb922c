/- The law AddLeaf. -/
import Derived.Test.YtgofolmekgjkjaaHZ
namespace Go.Proofs.Ytgofolmekgjkjaa
open Go.RowKit
set_option linter.unusedVariables false
set_option linter.unusedSimpArgs false

theorem adF_len (f : Nat) : ∀ (out : List Ky) (n : Nat) (leaf : Ky), (adF f out n leaf).length ≤ out.length + 1 := by
  induction f with
  | zero => intro out n leaf; simp [adF]
  | succ f ih =>
    intro out n leaf
    rw [adF]
    split
    · have := ih (out.take (out.length - 1)) (n / 2) (nodeK (out.getD (out.length - 1) zeroKy) leaf)
      rw [List.length_take] at this
      omega
    · simp
theorem gvC_cases (m : Nat) (n : Int) : (gvC m n = 0 ∧ ∃ k : Nat, n = (k : Int) ∧ k < 256 ∧ m = onesN 8 k) ∨ gvC m n = 2 ∨ gvC m n = 3 ∨ gvC m n = 4 := by
  unfold gvC
  by_cases h1 : 256 < m
  · rw [if_pos h1]; simp
  · rw [if_neg h1]
    by_cases h2 : 0 ≤ n ∧ n ≤ 255
    · rw [if_pos h2]
      by_cases h3 : m = onesN 8 n.toNat
      · rw [if_pos h3]; exact .inl ⟨rfl, n.toNat, by omega, by omega, h3⟩
      · rw [if_neg h3]; simp
    · rw [if_neg h2]; simp
/-- What AddLeaf gives. -/
def adT (ks : List Ky) (n : Int) (leaf : Ky) : List Ky × Int := if gvC ks.length n = 0 then (adF 8 ks n.toNat leaf, 0) else ([], gvC ks.length n)
theorem adT_len (ks : List Ky) (n : Int) (leaf : Ky) : (adT ks n leaf).1.length ≤ 257 := by
  unfold adT
  split
  · rename_i h
    have := adF_len 8 ks n.toNat leaf
    rcases gvC_cases ks.length n with ⟨_, k, _, hk, hm⟩ | h2 | h2 | h2
    · have := onesN_le 8 k
      show (adF 8 ks n.toNat leaf).length ≤ 257
      omega
    all_goals (rw [h2] at h; cases h)
  · exact Nat.zero_le _

set_option maxHeartbeats 2000000 in
set_option maxRecDepth 100000 in
theorem specAddLeafT_c (v : Value) (m : Nat) (ks : List Ky) (hks : ks.length = m) (n : Int) (leaf : Ky) (w : World) (hv : Rd w 32 v m (kyL ks)) (hl : m ≤ 1048576) :
    Ret Try.prog 50 #[v, .int .i64 n, .agg (bA leaf.1)] w fun r w' => OwnR2 w w' 23 32 r (adT ks n leaf).1.length (kyL (adT ks n leaf).1) (.int .i64 (adT ks n leaf).2) := by
  rcases gvC_cases m n with ⟨hg, k, hk, hk2, hk3⟩ | hg
  · have HE : adT ks n leaf = (adF 8 ks k leaf, 0) := by rw [adT, hks, if_pos hg, hk]; rfl
    rw [HE]
    exact specAddLeaf_c v m ks hks n leaf w hv hl hg k hk hk2 hk3
  · obtain ⟨b, cap, rfl⟩ := hv.shape
    have HGV := Lib.hid (fun w => l03Given_c b m cap n w hl)
    have HE := Lib.hid (show adT ks n leaf = ([], gvC m n) by rw [adT, hks, if_neg]; omega)
    clear hks hv
    rcases hg with hg | hg | hg <;>
    · rw [hg] at HGV HE
      refine ret_start fun wx M => ?_
      clear hg
      go_enter Try.func50, Try.ntmps50
      go_wp2_with (first
        | (go_at_call 88; (with_reducible refine mem_call M (HGV.out _) ?_); clear M; (try clear wx); rintro _ wx rfl _ M)
        | (with_reducible (show wpList _ _ _ (Oper.mk (some 5) (.box _ _) _ _ _ _ :: _) _ _); (first | (refine m_boxA M rfl rfl rfl ?_) | (refine m_box1 (v := Value.int _ _) M rfl rfl rfl rfl ?_) | (refine m_box1 (v := Value.slice _ _ _) M rfl rfl rfl rfl ?_) | (refine m_box1 (v := Value.bool _) M rfl rfl rfl rfl ?_) | (refine m_box1 (v := Value.string _) M rfl rfl rfl rfl ?_) | (refine m_box1 (v := Value.pointer _) M rfl rfl rfl rfl ?_)); clear M; (try clear wx); intro g5 wx M)
        | (with_reducible (show wpList _ _ _ (Oper.mk (some 15) (.buildSlice _ _ _) _ _ _ _ :: _) _ _); refine m_lit0 M rfl rfl ?_; clear M; (try clear wx); intro g15 wx M)
        | (with_reducible (show wpList _ _ _ (Oper.mk (some 17) (.buildSlice _ _ _) _ _ _ _ :: _) _ _); refine m_lit0 M rfl rfl ?_; clear M; (try clear wx); intro g17 wx M)
        | (with_reducible (show wpList _ _ _ (Oper.mk (some 40) (.buildSlice _ _ _) _ _ _ _ :: _) _ _); (first | (refine m_lit1A M rfl rfl rfl (by first | rfl | assumption | (simp; done) | (simp; omega)) (by decide) ?_) | (refine m_lit11 (v := Value.int _ _) M rfl rfl rfl rfl ?_) | (refine m_lit11 (v := Value.slice _ _ _) M rfl rfl rfl rfl ?_) | (refine m_lit11 (v := Value.bool _) M rfl rfl rfl rfl ?_) | (refine m_lit11 (v := Value.string _) M rfl rfl rfl rfl ?_) | (refine m_lit11 (v := Value.pointer _) M rfl rfl rfl rfl ?_)); clear M; (try clear wx); intro g40 wx M)
        | (with_reducible (show wpList _ _ _ (Oper.mk _ (.load _ _) _ _ _ _ :: _) _ _); (first | (refine m_load M rfl rfl rfl (by first | assumption | rfl) ?_) | (refine m_loadR M rfl rfl rfl (by first | rfl | assumption | (simp; done) | (simp; omega)) ?_)))
        | (with_reducible (show wpList _ _ _ (Oper.mk _ (.store _ _ _) _ _ _ _ :: _) _ _); (first | (refine m_storeR M rfl rfl rfl rfl (by first | rfl | assumption | (simp; done) | (simp; omega)) (by first | rfl | assumption | (simp; done) | (simp; omega)) (by first | exact bA_one _ | exact wA_one _ | assumption | (simp [Value.oneCell']; done)) ?_) | (refine m_store (v := Value.int _ _) M rfl rfl rfl rfl rfl (by first | assumption | (simp; done) | (simp; omega)) ?_) | (refine m_store (v := Value.slice _ _ _) M rfl rfl rfl rfl rfl (by first | assumption | (simp; done) | (simp; omega)) ?_) | (refine m_store (v := Value.bool _) M rfl rfl rfl rfl rfl (by first | assumption | (simp; done) | (simp; omega)) ?_) | (refine m_store (v := Value.string _) M rfl rfl rfl rfl rfl (by first | assumption | (simp; done) | (simp; omega)) ?_) | (refine m_store (v := Value.pointer _) M rfl rfl rfl rfl rfl (by first | assumption | (simp; done) | (simp; omega)) ?_)); clear M; (try clear wx); intro wx M; simp only [List.set_cons_zero, List.set_cons_succ, Nat.zero_add, List.nil_append] at M)
        | (with_reducible (show wpList _ _ _ (Oper.mk _ (.call (Call.mk (.builtin .append) _ _)) _ _ _ _ :: _) _ _); (first | (refine m_append1 M rfl rfl rfl (by first | rfl | omega | (simp; done)) rfl (by first | rfl | assumption | (simp; done) | (simp; omega)) (by first | exact bA_one _ | exact wA_one _ | assumption | (simp [Value.oneCell']; done)) (by first | assumption | (simp only [maxLen]; omega)) (by omega) ?_)); clear M; (try clear wx); intro _ _ wx M; simp only [List.set_cons_zero, List.set_cons_succ, Nat.zero_add, List.nil_append] at M))
      go_ret2
      exact ⟨_, rfl, by rw [HE.out]; exact ⟨_, _, rfl, M.out_own (p := 0) rfl⟩, M.up⟩

set_option maxHeartbeats 2000000 in
set_option maxRecDepth 100000 in
theorem implAddLeafT_c (v : Value) (m : Nat) (ks : List Ky) (hks : ks.length = m) (n : Int) (leaf : Ky) (w : World) (hv : Rd w 32 v m (kyL ks)) (hl : m ≤ 1048576) :
    Ret Try.prog 51 #[v, .int .i64 n, .agg (bA leaf.1)] w fun r w' => OwnR2 w w' 23 32 r (adT ks n leaf).1.length (kyL (adT ks n leaf).1) (.int .i64 (adT ks n leaf).2) := by
  rcases gvC_cases m n with ⟨hg, k, hk, hk2, hk3⟩ | hg
  · have HE : adT ks n leaf = (adF 8 ks k leaf, 0) := by rw [adT, hks, if_pos hg, hk]; rfl
    rw [HE]
    exact implAddLeaf_c v m ks hks n leaf w hv hl hg k hk hk2 hk3
  · obtain ⟨b, cap, rfl⟩ := hv.shape
    have HGV := Lib.hid (fun w => peaksCode_c b m cap n w hl)
    have HE := Lib.hid (show adT ks n leaf = ([], gvC m n) by rw [adT, hks, if_neg]; omega)
    clear hks hv
    rcases hg with hg | hg | hg <;>
    · rw [hg] at HGV HE
      refine ret_start fun wx M => ?_
      clear hg
      go_enter Try.func51, Try.ntmps51
      go_wp2_with (first
        | (go_at_call 89; (with_reducible refine mem_call M (HGV.out _) ?_); clear M; (try clear wx); rintro _ wx rfl _ M)
        | (with_reducible (show wpList _ _ _ (Oper.mk (some 5) (.box _ _) _ _ _ _ :: _) _ _); (first | (refine m_boxA M rfl rfl rfl ?_) | (refine m_box1 (v := Value.int _ _) M rfl rfl rfl rfl ?_) | (refine m_box1 (v := Value.slice _ _ _) M rfl rfl rfl rfl ?_) | (refine m_box1 (v := Value.bool _) M rfl rfl rfl rfl ?_) | (refine m_box1 (v := Value.string _) M rfl rfl rfl rfl ?_) | (refine m_box1 (v := Value.pointer _) M rfl rfl rfl rfl ?_)); clear M; (try clear wx); intro g5 wx M)
        | (with_reducible (show wpList _ _ _ (Oper.mk (some 38) (.buildSlice _ _ _) _ _ _ _ :: _) _ _); (first | (refine m_lit1A M rfl rfl rfl (by first | rfl | assumption | (simp; done) | (simp; omega)) (by decide) ?_) | (refine m_lit11 (v := Value.int _ _) M rfl rfl rfl rfl ?_) | (refine m_lit11 (v := Value.slice _ _ _) M rfl rfl rfl rfl ?_) | (refine m_lit11 (v := Value.bool _) M rfl rfl rfl rfl ?_) | (refine m_lit11 (v := Value.string _) M rfl rfl rfl rfl ?_) | (refine m_lit11 (v := Value.pointer _) M rfl rfl rfl rfl ?_)); clear M; (try clear wx); intro g38 wx M)
        | (with_reducible (show wpList _ _ _ (Oper.mk _ (.load _ _) _ _ _ _ :: _) _ _); (first | (refine m_load M rfl rfl rfl (by first | assumption | rfl) ?_) | (refine m_loadR M rfl rfl rfl (by first | rfl | assumption | (simp; done) | (simp; omega)) ?_)))
        | (with_reducible (show wpList _ _ _ (Oper.mk _ (.store _ _ _) _ _ _ _ :: _) _ _); (first | (refine m_storeR M rfl rfl rfl rfl (by first | rfl | assumption | (simp; done) | (simp; omega)) (by first | rfl | assumption | (simp; done) | (simp; omega)) (by first | exact bA_one _ | exact wA_one _ | assumption | (simp [Value.oneCell']; done)) ?_) | (refine m_store (v := Value.int _ _) M rfl rfl rfl rfl rfl (by first | assumption | (simp; done) | (simp; omega)) ?_) | (refine m_store (v := Value.slice _ _ _) M rfl rfl rfl rfl rfl (by first | assumption | (simp; done) | (simp; omega)) ?_) | (refine m_store (v := Value.bool _) M rfl rfl rfl rfl rfl (by first | assumption | (simp; done) | (simp; omega)) ?_) | (refine m_store (v := Value.string _) M rfl rfl rfl rfl rfl (by first | assumption | (simp; done) | (simp; omega)) ?_) | (refine m_store (v := Value.pointer _) M rfl rfl rfl rfl rfl (by first | assumption | (simp; done) | (simp; omega)) ?_)); clear M; (try clear wx); intro wx M; simp only [List.set_cons_zero, List.set_cons_succ, Nat.zero_add, List.nil_append] at M)
        | (with_reducible (show wpList _ _ _ (Oper.mk _ (.call (Call.mk (.builtin .append) _ _)) _ _ _ _ :: _) _ _); (first | (refine m_append1 M rfl rfl rfl (by first | rfl | omega | (simp; done)) rfl (by first | rfl | assumption | (simp; done) | (simp; omega)) (by first | exact bA_one _ | exact wA_one _ | assumption | (simp [Value.oneCell']; done)) (by first | assumption | (simp only [maxLen]; omega)) (by omega) ?_)); clear M; (try clear wx); intro _ _ wx M; simp only [List.set_cons_zero, List.set_cons_succ, Nat.zero_add, List.nil_append] at M))
      go_ret2
      exact ⟨_, rfl, by rw [HE.out]; exact ⟨_, _, rfl, (M.nil_own 23 32).out_own (p := 0) rfl⟩, M.up⟩

set_option maxHeartbeats 4000000 in
set_option maxRecDepth 100000 in
theorem lawAddLeaf_c (v : Value) (n : Int) (leaf : Ky) (ks : List Ky) (w : World) (hv : Rd w 32 v ks.length (kyL ks)) : Calls Try.prog 13 #[v, .int .i64 n, .agg (bA leaf.1)] w fun e w' => e = .returned (.bool true) ∧ Up w w' := by
  obtain ⟨m, hm⟩ : ∃ m, ks.length = m := ⟨_, rfl⟩
  rw [hm] at hv
  obtain ⟨b, cap, rfl⟩ := hv.shape
  have hml : m ≤ maxLen := by have := hv.len_; omega
  have HV := Lib.hid hv
  have HN := Lib.hid hm
  have hmm : maxLen ≤ 9223372036854775807 := by decide
  have hml' : m ≤ 9223372036854775807 := by omega
  clear hv hm hmm
  have M := Mem.start w
  by_cases hbig : (1048576 : Int) - m < 0
  · go_enter Try.func13, Try.ntmps13
    go_wp2_with (first
      | (go_at_call 37; (with_reducible refine mem_call M (szKeyS_r _ m _ hml _) ?_); clear M; (try clear wx); rintro _ wx rfl _ M; rw [if_pos hbig])
      | (with_reducible (show wpList _ _ _ (Oper.mk (some 5) (.box _ _) _ _ _ _ :: _) _ _); (first | (refine m_boxA M rfl rfl rfl ?_) | (refine m_box1 (v := Value.int _ _) M rfl rfl rfl rfl ?_) | (refine m_box1 (v := Value.slice _ _ _) M rfl rfl rfl rfl ?_) | (refine m_box1 (v := Value.bool _) M rfl rfl rfl rfl ?_) | (refine m_box1 (v := Value.string _) M rfl rfl rfl rfl ?_) | (refine m_box1 (v := Value.pointer _) M rfl rfl rfl rfl ?_)); clear M; (try clear wx); intro g5 wx M)
      | (with_reducible (show wpList _ _ _ (Oper.mk _ (.load _ _) _ _ _ _ :: _) _ _); (first | (refine m_load M rfl rfl rfl (by first | assumption | rfl) ?_) | (refine m_loadR M rfl rfl rfl (by first | rfl | assumption | (simp; done) | (simp; omega)) ?_))))
    go_ret
    exact ⟨rfl, M.up⟩
  · have hl : m ≤ 1048576 := by omega
    have hpl := adT_len ks n leaf
    have HS : Hid (∀ v w, Rd w 32 v m (kyL ks) → Ret Try.prog 50 #[v, .int .i64 n, .agg (bA leaf.1)] w fun r w' => OwnR2 w w' 23 32 r (adT ks n leaf).1.length (kyL (adT ks n leaf).1) (.int .i64 (adT ks n leaf).2)) := Lib.hid (fun v w h => specAddLeafT_c v m ks HN.out n leaf w h hl)
    have HI : Hid (∀ v w, Rd w 32 v m (kyL ks) → Ret Try.prog 51 #[v, .int .i64 n, .agg (bA leaf.1)] w fun r w' => OwnR2 w w' 23 32 r (adT ks n leaf).1.length (kyL (adT ks n leaf).1) (.int .i64 (adT ks n leaf).2)) := Lib.hid (fun v w h => implAddLeafT_c v m ks HN.out n leaf w h hl)
    have HT : Hid (∀ w, Rd w 32 (.slice b m cap) m (kyL ks) → Ret Try.prog 39 #[.slice b m cap] w fun r w' => Rd w' 32 r m (kyL ks)) := Lib.hid (fun w h => (toKeyS_c _ m ks HN.out w h hl).mono fun r w' _ h => by obtain ⟨b, cap, rfl, ho⟩ := h; exact own_rd ho (kyL_one ks))
    generalize (adT ks n leaf).2 = c at *
    generalize (adT ks n leaf).1 = q at *
    obtain ⟨d, hd⟩ : ∃ d, q.length = d := ⟨_, rfl⟩
    rw [hd] at HS HI hpl
    have HD := Lib.hid hd
    clear hd
    go_enter Try.func13, Try.ntmps13
    go_wp2_with (first
      | (go_at_call 37; (with_reducible refine mem_call M (szKeyS_r _ m _ hml _) ?_); clear M; (try clear wx); rintro _ wx rfl _ M; rw [if_neg hbig])
      | (with_reducible (show wpList _ _ _ (Oper.mk (some 5) (.box _ _) _ _ _ _ :: _) _ _); (first | (refine m_boxA M rfl rfl rfl ?_) | (refine m_box1 (v := Value.int _ _) M rfl rfl rfl rfl ?_) | (refine m_box1 (v := Value.slice _ _ _) M rfl rfl rfl rfl ?_) | (refine m_box1 (v := Value.bool _) M rfl rfl rfl rfl ?_) | (refine m_box1 (v := Value.string _) M rfl rfl rfl rfl ?_) | (refine m_box1 (v := Value.pointer _) M rfl rfl rfl rfl ?_)); clear M; (try clear wx); intro g5 wx M)
      | (with_reducible (show wpList _ _ _ (Oper.mk _ (.load _ _) _ _ _ _ :: _) _ _); (first | (refine m_load M rfl rfl rfl (by first | assumption | rfl) ?_) | (refine m_loadR M rfl rfl rfl (by first | rfl | assumption | (simp; done) | (simp; omega)) ?_))))
    refine region_mono (m := 10) mixedOrders_ (by kernel_rfl) (by kernel_rfl)
      (fun | 0 => fun vq _ => vq = .slice b m cap | 1 => fun v wx => Rd wx 32 v m (kyL ks) | 2 => fun vq _ => vq = .int .i64 n | 3 => fun vq _ => vq = .agg (bA leaf.1) | 4 => fun vq _ => vq = .agg (bA leaf.1) | 5 => fun v wx => ∃ r, v = .tuple #[r, .int .i64 c] ∧ OwnFr w [.blk g5 22 (bA leaf.1)] 23 32 d (kyL q) r wx | 6 => fun v wx => ∃ r, v = .tuple #[r, .int .i64 c] ∧ OwnFr w [.blk g5 22 (bA leaf.1)] 23 32 d (kyL q) r wx | 7 => fun v wx => OwnFr w [.blk g5 22 (bA leaf.1)] 23 32 d (kyL q) v wx | 8 => fun vq _ => vq = .int .i64 c | 9 => fun v wx => OwnFr w [.blk g5 22 (bA leaf.1)] 23 32 d (kyL q) v wx | _ => fun _ _ => True)
      (fun wx => Mem w wx [.blk g5 22 (bA leaf.1)]) ?_ ?_ ?_ ?_ ?_
    · intro j hj v w1 w2 hb h
      match j, hj with
      | 0, _ => exact h
      | 1, _ => exact h.up hb
      | 2, _ => exact h
      | 3, _ => exact h
      | 4, _ => exact h
      | 5, _ => exact (let ⟨r, e, h⟩ := h; ⟨r, e, h.up hb⟩)
      | 6, _ => exact (let ⟨r, e, h⟩ := h; ⟨r, e, h.up hb⟩)
      | 7, _ => exact h.up hb
      | 8, _ => exact h
      | 9, _ => exact h.up hb
    · intro w1 w2 hb h
      exact h.grow hb
    · exact M.grow ((Up.refl _).drew)
    · rintro i o hi ho av wv fr gM dep
      match i, hi with
      | 0, _ =>
        obtain rfl := Option.some.inj ho
        exact st_mov rfl (fr.eval rfl) rfl
      | 1, _ =>
        obtain rfl := Option.some.inj ho
        have d0 := dep ⟨0, .data⟩ (by simp) rfl
        exact st_ret1 rfl (fun _ _ => by kernel_rfl) d0 (HT.out _ (HV.out.up gM.up)) (fun r w' h _ => h)
      | 2, _ =>
        obtain rfl := Option.some.inj ho
        exact st_mov rfl (fr.eval rfl) rfl
      | 3, _ =>
        obtain rfl := Option.some.inj ho
        exact st_loadG gM rfl (fr.eval rfl) (by first | rfl | (simp; done)) rfl
      | 4, _ =>
        obtain rfl := Option.some.inj ho
        have d0 := dep ⟨3, .data⟩ (by simp) rfl
        exact st_ret1 rfl (fun _ _ => by kernel_rfl) d0 (toKey_r leaf _) (fun r w' h _ => h)
      | 5, _ =>
        obtain rfl := Option.some.inj ho
        have D1 := dep ⟨1, .data⟩ (by simp) rfl
        exact st_ret3 rfl (fun _ _ => by kernel_rfl) rfl (dep ⟨2, .data⟩ (by simp) rfl) (dep ⟨4, .data⟩ (by simp) rfl) (HS.out _ _ D1) (fun r w' h hb => by obtain ⟨b, cap, e, ho⟩ := h; exact ⟨_, e, OwnFr.of gM ⟨b, cap, rfl, ho⟩⟩)
      | 6, _ =>
        obtain rfl := Option.some.inj ho
        exact st_mov rfl rfl (dep ⟨5, .data⟩ (by simp) rfl)
      | 7, _ =>
        obtain rfl := Option.some.inj ho
        obtain ⟨r, e, h⟩ := dep ⟨6, .data⟩ (by simp) rfl
        exact st_ext0 rfl e h
      | 8, _ =>
        obtain rfl := Option.some.inj ho
        obtain ⟨r, e, h⟩ := dep ⟨6, .data⟩ (by simp) rfl
        exact st_ext1 rfl e rfl
      | 9, _ =>
        obtain rfl := Option.some.inj ho
        exact st_move (.inr rfl) rfl (dep ⟨7, .data⟩ (by simp) rfl)
    · rintro vs wv gM hf
      have f0 : vs 0 = .slice b m cap := hf 0 (by omega)
      have f1 := hf 1 (by omega)
      have f2 : vs 2 = .int .i64 n := hf 2 (by omega)
      have f3 : vs 3 = .agg (bA leaf.1) := hf 3 (by omega)
      have f4 : vs 4 = .agg (bA leaf.1) := hf 4 (by omega)
      have f5 := hf 5 (by omega)
      have f6 := hf 6 (by omega)
      have f7 := hf 7 (by omega)
      have f8 : vs 8 = .int .i64 c := hf 8 (by omega)
      have f9 := hf 9 (by omega)
      obtain ⟨b9, cap9, e9, M⟩ := gM.ownFr f9
      simp only [putAll, Act.put, List.getElem?_toArray, List.getElem?_cons_zero, List.getElem?_cons_succ, Option.bind_some, List.setIfInBounds_toArray, List.set_cons_zero, List.set_cons_succ, List.drop_succ_cons, List.drop_zero, List.drop_nil, e9, f8]
      clear f0 f1 f2 f3 f4 f5 f6 f7 f8 e9 hf gM
      go_wp2_with (first
        | (go_at_call 39; (with_reducible refine mem_callO M (toKeyS_c _ m ks HN.out _ (HV.out.up M.up) hl) ?_); clear M; (try clear wx); intro bx capx wx M)
        | (go_at_call 16; (with_reducible refine mem_call M (toKey_r leaf _) ?_); clear M; (try clear wx); rintro _ wx rfl _ M)
        | (go_at_call 51; (with_reducible refine mem_callO2 M (HI.out _ _ (M.rdK ks)) ?_); clear M; (try clear wx); intro bg capg wx M)
        | (go_at_call 41; (first | (with_reducible refine mem_call M (eqKeyS_same _ _ m ks HN.out _ (by omega) (M.rdK ks) (M.rdK ks)) ?_) | (with_reducible refine mem_call M (eqKeyS_same _ _ d q HD.out _ (by omega) (M.rdK q) (M.rdK q)) ?_)); clear M; (try clear wx); rintro _ wx rfl _ M)
        | (go_at_call 46; (with_reducible refine mem_callW M (fun h => markKeyS_1 _ _ _ _ _ _ (by omega) h) ?_); clear M; (try clear wx); intro wx M; simp only [List.set_cons_zero, List.set_cons_succ, Nat.zero_add, List.nil_append] at M)
        | (go_at_call 47; (with_reducible refine mem_call M (heldKeyS_1 _ _ _ (by omega) (M.rdK (markK 1 d))) ?_); clear M; (try clear wx); rintro _ wx rfl _ M)
        | (with_reducible (show wpList _ _ _ (Oper.mk (some 5) (.box _ _) _ _ _ _ :: _) _ _); (first | (refine m_boxA M rfl rfl rfl ?_) | (refine m_box1 (v := Value.int _ _) M rfl rfl rfl rfl ?_) | (refine m_box1 (v := Value.slice _ _ _) M rfl rfl rfl rfl ?_) | (refine m_box1 (v := Value.bool _) M rfl rfl rfl rfl ?_) | (refine m_box1 (v := Value.string _) M rfl rfl rfl rfl ?_) | (refine m_box1 (v := Value.pointer _) M rfl rfl rfl rfl ?_)); clear M; (try clear wx); intro g5 wx M)
        | (with_reducible (show wpList _ _ _ (Oper.mk _ (.load _ _) _ _ _ _ :: _) _ _); (first | (refine m_load M rfl rfl rfl (by first | assumption | rfl) ?_) | (refine m_loadR M rfl rfl rfl (by first | rfl | assumption | (simp; done) | (simp; omega)) ?_))))
      have M := M.pick [1, 3, 4] (by decide)
      simp only [List.filterMap_cons, List.filterMap_nil, List.getElem?_cons_zero, List.getElem?_cons_succ] at M
      refine region_mono (m := 10) mixedOrders_ (by kernel_rfl) (by kernel_rfl)
        (fun | 0 => fun vq _ => vq = .slice b m cap | 1 => fun v wx => Rd wx 32 v m (kyL ks) | 2 => fun vq _ => vq = .int .i64 n | 3 => fun vq _ => vq = .agg (bA leaf.1) | 4 => fun vq _ => vq = .agg (bA leaf.1) | 5 => fun v wx => ∃ r, v = .tuple #[r, .int .i64 c] ∧ OwnFr w [.own bg capg 23 32 d (kyL (markK 1 d)), .own b9 cap9 23 32 d (kyL q), .blk g5 22 (bA leaf.1)] 23 32 d (kyL q) r wx | 6 => fun v wx => ∃ r, v = .tuple #[r, .int .i64 c] ∧ OwnFr w [.own bg capg 23 32 d (kyL (markK 1 d)), .own b9 cap9 23 32 d (kyL q), .blk g5 22 (bA leaf.1)] 23 32 d (kyL q) r wx | 7 => fun v wx => OwnFr w [.own bg capg 23 32 d (kyL (markK 1 d)), .own b9 cap9 23 32 d (kyL q), .blk g5 22 (bA leaf.1)] 23 32 d (kyL q) v wx | 8 => fun vq _ => vq = .int .i64 c | 9 => fun v wx => OwnFr w [.own bg capg 23 32 d (kyL (markK 1 d)), .own b9 cap9 23 32 d (kyL q), .blk g5 22 (bA leaf.1)] 23 32 d (kyL q) v wx | _ => fun _ _ => True)
        (fun wx => Mem w wx [.own bg capg 23 32 d (kyL (markK 1 d)), .own b9 cap9 23 32 d (kyL q), .blk g5 22 (bA leaf.1)]) ?_ ?_ ?_ ?_ ?_
      · intro j hj v w1 w2 hb h
        match j, hj with
        | 0, _ => exact h
        | 1, _ => exact h.up hb
        | 2, _ => exact h
        | 3, _ => exact h
        | 4, _ => exact h
        | 5, _ => exact (let ⟨r, e, h⟩ := h; ⟨r, e, h.up hb⟩)
        | 6, _ => exact (let ⟨r, e, h⟩ := h; ⟨r, e, h.up hb⟩)
        | 7, _ => exact h.up hb
        | 8, _ => exact h
        | 9, _ => exact h.up hb
      · intro w1 w2 hb h
        exact h.grow hb
      · exact M.grow ((Up.refl _).drew)
      · rintro i o hi ho av wv fr gM dep
        match i, hi with
        | 0, _ =>
          obtain rfl := Option.some.inj ho
          exact st_mov rfl (fr.eval rfl) rfl
        | 1, _ =>
          obtain rfl := Option.some.inj ho
          have d0 := dep ⟨0, .data⟩ (by simp) rfl
          exact st_ret1 rfl (fun _ _ => by kernel_rfl) d0 (HT.out _ (HV.out.up gM.up)) (fun r w' h _ => h)
        | 2, _ =>
          obtain rfl := Option.some.inj ho
          exact st_mov rfl (fr.eval rfl) rfl
        | 3, _ =>
          obtain rfl := Option.some.inj ho
          exact st_loadG gM rfl (fr.eval rfl) (by first | rfl | (simp; done)) rfl
        | 4, _ =>
          obtain rfl := Option.some.inj ho
          have d0 := dep ⟨3, .data⟩ (by simp) rfl
          exact st_ret1 rfl (fun _ _ => by kernel_rfl) d0 (toKey_r leaf _) (fun r w' h _ => h)
        | 5, _ =>
          obtain rfl := Option.some.inj ho
          have D1 := dep ⟨1, .data⟩ (by simp) rfl
          exact st_ret3 rfl (fun _ _ => by kernel_rfl) rfl (dep ⟨2, .data⟩ (by simp) rfl) (dep ⟨4, .data⟩ (by simp) rfl) (HI.out _ _ D1) (fun r w' h hb => by obtain ⟨b, cap, e, ho⟩ := h; exact ⟨_, e, OwnFr.of gM ⟨b, cap, rfl, ho⟩⟩)
        | 6, _ =>
          obtain rfl := Option.some.inj ho
          exact st_mov rfl rfl (dep ⟨5, .data⟩ (by simp) rfl)
        | 7, _ =>
          obtain rfl := Option.some.inj ho
          obtain ⟨r, e, h⟩ := dep ⟨6, .data⟩ (by simp) rfl
          exact st_ext0 rfl e h
        | 8, _ =>
          obtain rfl := Option.some.inj ho
          obtain ⟨r, e, h⟩ := dep ⟨6, .data⟩ (by simp) rfl
          exact st_ext1 rfl e rfl
        | 9, _ =>
          obtain rfl := Option.some.inj ho
          exact st_move (.inr rfl) rfl (dep ⟨7, .data⟩ (by simp) rfl)
      · rintro vs wv gM hf
        have f0 : vs 0 = .slice b m cap := hf 0 (by omega)
        have f1 := hf 1 (by omega)
        have f2 : vs 2 = .int .i64 n := hf 2 (by omega)
        have f3 : vs 3 = .agg (bA leaf.1) := hf 3 (by omega)
        have f4 : vs 4 = .agg (bA leaf.1) := hf 4 (by omega)
        have f5 := hf 5 (by omega)
        have f6 := hf 6 (by omega)
        have f7 := hf 7 (by omega)
        have f8 : vs 8 = .int .i64 c := hf 8 (by omega)
        have f9 := hf 9 (by omega)
        obtain ⟨b99, cap99, e9, M⟩ := gM.ownFr f9
        simp only [putAll, Act.put, List.getElem?_toArray, List.getElem?_cons_zero, List.getElem?_cons_succ, Option.bind_some, List.setIfInBounds_toArray, List.set_cons_zero, List.set_cons_succ, List.drop_succ_cons, List.drop_zero, List.drop_nil, e9, f8]
        clear f0 f1 f2 f3 f4 f5 f6 f7 f8 e9 hf gM
        go_wp2_with (first
          | (go_at_call 41; (with_reducible refine mem_call M (eqKeyS_same _ _ d q HD.out _ (by omega) (M.rdK q) (M.rdK q)) ?_); clear M; (try clear wx); rintro _ wx rfl _ M)
          | (go_at_call 47; (with_reducible refine mem_call M (heldKeyS_1 _ _ _ (by omega) (M.rdK (markK 1 d))) ?_); clear M; (try clear wx); rintro _ wx rfl _ M)
          | (with_reducible (show wpList _ _ _ (Oper.mk (some 5) (.box _ _) _ _ _ _ :: _) _ _); (first | (refine m_boxA M rfl rfl rfl ?_) | (refine m_box1 (v := Value.int _ _) M rfl rfl rfl rfl ?_) | (refine m_box1 (v := Value.slice _ _ _) M rfl rfl rfl rfl ?_) | (refine m_box1 (v := Value.bool _) M rfl rfl rfl rfl ?_) | (refine m_box1 (v := Value.string _) M rfl rfl rfl rfl ?_) | (refine m_box1 (v := Value.pointer _) M rfl rfl rfl rfl ?_)); clear M; (try clear wx); intro g5 wx M)
          | (with_reducible (show wpList _ _ _ (Oper.mk _ (.load _ _) _ _ _ _ :: _) _ _); (first | (refine m_load M rfl rfl rfl (by first | assumption | rfl) ?_) | (refine m_loadR M rfl rfl rfl (by first | rfl | assumption | (simp; done) | (simp; omega)) ?_))))
        go_ret
        exact ⟨rfl, M.up⟩

end Go.Proofs.Ytgofolmekgjkjaa

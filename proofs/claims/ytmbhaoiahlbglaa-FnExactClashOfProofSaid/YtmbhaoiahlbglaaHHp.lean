/- Walks: the key of a pair, of some bytes. -/
import Derived.Test.YtmbhaoiahlbglaaHH
namespace Go.Proofs.Ytmbhaoiahlbglaa
open Go.RowKit
set_option linter.unusedVariables false
set_option linter.unusedSimpArgs false

/-- The key of a pair. -/
def pairK (tag : UInt8) (a b : Ky) : Ky := hashK tag (a.1 ++ b.1)
theorem two_len (a b : Ky) : (a.1 ++ b.1).length = 64 := by simp
theorem rdS_blk {w : World} {g g4 g5 : Nat} {e t4 t5 : TypeId} {a b : Ky} (h : Blk w g e #[.slice (some ⟨g4, 0, none⟩) 32 32, .slice (some ⟨g5, 0, none⟩) 32 32]) (h4 : Blk w g4 t4 (bA a.1)) (h5 : Blk w g5 t5 (bA b.1)) :
    RdS w (.slice (some ⟨g, 0, none⟩) 2 2) [a.1, b.1] := by
  have key : ∀ {g : Nat} {t : TypeId} {k : Ky}, Blk w g t (bA k.1) → Rd w 1 (.slice (some ⟨g, 0, none⟩) k.1.length 32) k.1.length (bL k.1) := fun {g t k} h =>
    ⟨_, 32, rfl, by rw [k.2]; exact Nat.le_refl _, by simp only [maxLen]; omega, by simp [bL], bL_one _, .inr ⟨g, 0, rfl, h.lt, h.rng 0 _ (fun j v hj => by simpa [bA, bL] using hj)⟩⟩
  refine ⟨[.slice (some ⟨g4, 0, none⟩) 32 32, .slice (some ⟨g5, 0, none⟩) 32 32], ⟨_, 2, rfl, Nat.le_refl _, by simp only [maxLen]; omega, rfl, by simp [Value.oneCell'], .inr ⟨g, 0, rfl, h.lt, h.rng 0 _ (fun j v hj => by simpa using hj)⟩⟩, fun i l hl => ?_⟩
  match i, hl with
  | 0, hl => obtain rfl := Option.some.inj hl; exact ⟨_, rfl, by have := key h4; rw [a.2] at this ⊢; exact this⟩
  | 1, hl => obtain rfl := Option.some.inj hl; exact ⟨_, rfl, by have := key h5; rw [b.2] at this ⊢; exact this⟩

set_option maxHeartbeats 1000000 in
set_option maxRecDepth 100000 in
theorem implPairKey_c (tag : UInt8) (a b : Ky) (w : World) : Ret Try.prog 115 #[.int .u8 (tag.toNat : Int), .agg (bA a.1), .agg (bA b.1)] w fun r _ => r = .agg (bA (pairK tag a b).1) := by
  refine ret_start fun wx M => ?_
  have HL := Lib.hid (two_len a b)
  go_enter Try.func115, Try.ntmps115
  go_wp2_with (first
    | (with_reducible (show wpList _ _ _ (Oper.mk (some 4) (.box _ _) _ _ _ _ :: _) _ _); (first | (refine m_boxA M rfl rfl rfl ?_) | (refine m_box1 (v := Value.int _ _) M rfl rfl rfl rfl ?_) | (refine m_box1 (v := Value.slice _ _ _) M rfl rfl rfl rfl ?_) | (refine m_box1 (v := Value.bool _) M rfl rfl rfl rfl ?_) | (refine m_box1 (v := Value.string _) M rfl rfl rfl rfl ?_) | (refine m_box1 (v := Value.pointer _) M rfl rfl rfl rfl ?_)); clear M; (try clear wx); intro g4 wx M)
    | (with_reducible (show wpList _ _ _ (Oper.mk (some 5) (.box _ _) _ _ _ _ :: _) _ _); (first | (refine m_boxA M rfl rfl rfl ?_) | (refine m_box1 (v := Value.int _ _) M rfl rfl rfl rfl ?_) | (refine m_box1 (v := Value.slice _ _ _) M rfl rfl rfl rfl ?_) | (refine m_box1 (v := Value.bool _) M rfl rfl rfl rfl ?_) | (refine m_box1 (v := Value.string _) M rfl rfl rfl rfl ?_) | (refine m_box1 (v := Value.pointer _) M rfl rfl rfl rfl ?_)); clear M; (try clear wx); intro g5 wx M)
    | (with_reducible (show wpList _ _ _ (Oper.mk (some 6) (.alloc _) _ _ _ _ :: _) _ _); refine mem_new M rfl rfl ?_; clear M; (try clear wx); intro g6 wx M)
    | (with_reducible (show wpList _ _ _ (Oper.mk _ (.store _ _ _) _ _ _ _ :: _) _ _); (first | (refine m_storeR M rfl rfl rfl rfl (by first | rfl | assumption | (simp; done) | (simp; omega)) (by first | rfl | assumption | (simp; done) | (simp; omega)) (by first | exact bA_one _ | exact wA_one _ | assumption | (simp [Value.oneCell']; done)) ?_) | (refine m_store (v := Value.int _ _) M rfl rfl rfl rfl rfl (by first | assumption | (simp; done) | (simp; omega)) ?_) | (refine m_store (v := Value.slice _ _ _) M rfl rfl rfl rfl rfl (by first | assumption | (simp; done) | (simp; omega)) ?_) | (refine m_store (v := Value.bool _) M rfl rfl rfl rfl rfl (by first | assumption | (simp; done) | (simp; omega)) ?_) | (refine m_store (v := Value.string _) M rfl rfl rfl rfl rfl (by first | assumption | (simp; done) | (simp; omega)) ?_) | (refine m_store (v := Value.pointer _) M rfl rfl rfl rfl rfl (by first | assumption | (simp; done) | (simp; omega)) ?_)); clear M; (try clear wx); intro wx M; simp only [List.set_cons_zero, List.set_cons_succ, Nat.zero_add, List.nil_append] at M))
  refine region_mono (m := 6) mixedOrders_ (by kernel_rfl) (by kernel_rfl)
    (fun | 0 => fun vq _ => vq = .int .u8 (tag.toNat : Int) | 1 => fun vq _ => vq = .slice (some ⟨g4, 0, none⟩) 32 32 | 2 => fun vq _ => vq = .slice (some ⟨g5, 0, none⟩) 32 32 | 3 => fun v wx => ∃ g, v = Value.slice (some ⟨g, 0, none⟩) 2 2 ∧ Blk wx g 66 #[.slice (some ⟨g4, 0, none⟩) 32 32, .slice (some ⟨g5, 0, none⟩) 32 32] | 4 => fun v wx => ∃ b1 c1, v = Value.slice b1 (a.1 ++ b.1).length c1 ∧ Rd wx 1 v (a.1 ++ b.1).length (bL (a.1 ++ b.1)) | 5 => fun vq _ => vq = .agg (bA (pairK tag a b).1) | _ => fun _ _ => True)
    (fun wx => Mem w wx [.blk g6 25 (bA zero32), .blk g5 25 (bA b.1), .blk g4 25 (bA a.1)]) ?_ ?_ ?_ ?_ ?_
  · intro j hj v w1 w2 hb h
    match j, hj with
    | 0, _ => exact h
    | 1, _ => exact h
    | 2, _ => exact h
    | 3, _ => exact (let ⟨g, e, h⟩ := h; ⟨g, e, h.up hb⟩)
    | 4, _ => exact (let ⟨b1, c1, e, h⟩ := h; ⟨b1, c1, e, h.up hb⟩)
    | 5, _ => exact h
  · intro w1 w2 hb h
    exact h.grow hb
  · exact M.grow ((Up.refl _).drew)
  · rintro i o hi ho av wv fr gM dep
    match i, hi with
    | 0, _ =>
      obtain rfl := Option.some.inj ho
      exact st_mov rfl (fr.eval rfl) rfl
    | 1, _ =>
      obtain rfl := Option.some.inj ho
      exact st_slice0 rfl (fr.eval rfl) (slice_arr0 Try.underlying25 (inferInstance : ElT Try.prog 5 1 1 _) g4 _) rfl
    | 2, _ =>
      obtain rfl := Option.some.inj ho
      exact st_slice0 rfl (fr.eval rfl) (slice_arr0 Try.underlying25 (inferInstance : ElT Try.prog 5 1 1 _) g5 _) rfl
    | 3, _ =>
      obtain rfl := Option.some.inj ho
      exact st_lit2 rfl (dep ⟨1, .data⟩ (by simp) rfl) (dep ⟨2, .data⟩ (by simp) rfl) rfl rfl ⟨_, rfl, Blk.new _ _ _⟩
    | 4, _ =>
      obtain rfl := Option.some.inj ho
      obtain ⟨g, d0, hg⟩ := dep ⟨3, .data⟩ (by simp) rfl
      have hc := concat_c _ [a.1, b.1] _ (rdS_blk hg (gM.blkG g4) (gM.blkG g5)) (by simp) (by simp)
      exact st_ret1 rfl (fun _ _ => by kernel_rfl) d0 hc (fun r w' h _ => by obtain ⟨b1, c1, e, _⟩ := id h; have h2 := h.rd (bL_one _); simp only [List.flatten_cons, List.flatten_nil, List.append_nil] at e h2; exact ⟨b1, c1, e, h2⟩)
    | 5, _ =>
      obtain rfl := Option.some.inj ho
      obtain ⟨b1, c1, d1, hr⟩ := dep ⟨4, .data⟩ (by simp) rfl
      have d0 := dep ⟨0, .data⟩ (by simp) rfl
      rw [d1] at hr
      exact st_ret2 rfl (fun _ _ => by kernel_rfl) d0 d1 (hash_c tag _ (a.1 ++ b.1) _ hr (by rw [HL.out]; omega)) (fun r w' h _ => h)
  · rintro vs wv gM hf
    have f0 : vs 0 = .int .u8 (tag.toNat : Int) := hf 0 (by omega)
    have f1 : vs 1 = .slice (some ⟨g4, 0, none⟩) 32 32 := hf 1 (by omega)
    have f2 : vs 2 = .slice (some ⟨g5, 0, none⟩) 32 32 := hf 2 (by omega)
    have f3 := hf 3 (by omega)
    have f4 := hf 4 (by omega)
    have f5 : vs 5 = .agg (bA (pairK tag a b).1) := hf 5 (by omega)
    simp only [putAll, Act.put, List.getElem?_toArray, List.getElem?_cons_zero, List.getElem?_cons_succ, Option.bind_some, List.setIfInBounds_toArray, List.set_cons_zero, List.set_cons_succ, List.drop_succ_cons, List.drop_zero, List.drop_nil, f5]
    clear f0 f1 f2 f3 f4 f5 hf
    have M := gM
    go_wp2_with (first
      | (with_reducible (show wpList _ _ _ (Oper.mk (some 4) (.box _ _) _ _ _ _ :: _) _ _); (first | (refine m_boxA M rfl rfl rfl ?_) | (refine m_box1 (v := Value.int _ _) M rfl rfl rfl rfl ?_) | (refine m_box1 (v := Value.slice _ _ _) M rfl rfl rfl rfl ?_) | (refine m_box1 (v := Value.bool _) M rfl rfl rfl rfl ?_) | (refine m_box1 (v := Value.string _) M rfl rfl rfl rfl ?_) | (refine m_box1 (v := Value.pointer _) M rfl rfl rfl rfl ?_)); clear M; (try clear wx); intro g4 wx M)
      | (with_reducible (show wpList _ _ _ (Oper.mk (some 5) (.box _ _) _ _ _ _ :: _) _ _); (first | (refine m_boxA M rfl rfl rfl ?_) | (refine m_box1 (v := Value.int _ _) M rfl rfl rfl rfl ?_) | (refine m_box1 (v := Value.slice _ _ _) M rfl rfl rfl rfl ?_) | (refine m_box1 (v := Value.bool _) M rfl rfl rfl rfl ?_) | (refine m_box1 (v := Value.string _) M rfl rfl rfl rfl ?_) | (refine m_box1 (v := Value.pointer _) M rfl rfl rfl rfl ?_)); clear M; (try clear wx); intro g5 wx M)
      | (with_reducible (show wpList _ _ _ (Oper.mk (some 6) (.alloc _) _ _ _ _ :: _) _ _); refine mem_new M rfl rfl ?_; clear M; (try clear wx); intro g6 wx M)
      | (with_reducible (show wpList _ _ _ (Oper.mk _ (.store _ _ _) _ _ _ _ :: _) _ _); (first | (refine m_storeR M rfl rfl rfl rfl (by first | rfl | assumption | (simp; done) | (simp; omega)) (by first | rfl | assumption | (simp; done) | (simp; omega)) (by first | exact bA_one _ | exact wA_one _ | assumption | (simp [Value.oneCell']; done)) ?_) | (refine m_store (v := Value.int _ _) M rfl rfl rfl rfl rfl (by first | assumption | (simp; done) | (simp; omega)) ?_) | (refine m_store (v := Value.slice _ _ _) M rfl rfl rfl rfl rfl (by first | assumption | (simp; done) | (simp; omega)) ?_) | (refine m_store (v := Value.bool _) M rfl rfl rfl rfl rfl (by first | assumption | (simp; done) | (simp; omega)) ?_) | (refine m_store (v := Value.string _) M rfl rfl rfl rfl rfl (by first | assumption | (simp; done) | (simp; omega)) ?_) | (refine m_store (v := Value.pointer _) M rfl rfl rfl rfl rfl (by first | assumption | (simp; done) | (simp; omega)) ?_)); clear M; (try clear wx); intro wx M; simp only [List.set_cons_zero, List.set_cons_succ, Nat.zero_add, List.nil_append] at M))
    exact m_ret M rfl rfl rfl (by simp) rfl

theorem blkK_take (q : List UInt8) (j : Nat) : blkK q (j + 1) = blkK q j ++ [cutK q (32 * j)] := blkK_succ q j
/-- The first j bytes of a state. -/
def stG (s : List UInt32) (j : Nat) : List UInt8 := fillTo (fun i => UInt8.ofNat ((wt s (i / 4)).toNat / 256 ^ (i % 4))) j 32 0
set_option maxHeartbeats 2000000 in
set_option maxRecDepth 100000 in
theorem l01End_c (s : List UInt32) (hs : s.length = 8) (v : Value) (l : List UInt8) (n : Nat) (w : World) (hv : Rd w 1 v l.length (bL l)) (hl : l.length ≤ 100000000) (hn : n ≤ 1000000000000) :
    Ret Try.prog 131 #[.agg (wA s), v, .int .i64 (n : Int)] w fun r _ => r = .agg (bA (endK s l n).1) := by
  have HV := Lib.hid hv
  have HE := Lib.hid (show endK s l n = stB (mixKs s (blkK (padded l n) ((padded l n).length / 32))) from rfl)
  have hql : (padded l n).length ≤ 200000000 := by have := padZ_lt l.length; rw [padded_len]; omega
  have hqm := padded_mod l n
  refine ret_start fun wx M => ?_
  clear hv
  have HP := Lib.hid (fun w hv => l01Padded_c v l n w hv (by omega) hn)
  have HQM := Lib.hid hqm
  clear hqm
  generalize padded l n = q at *
  go_enter Try.func131, Try.ntmps131
  go_wp2_with (first
    | (go_at_call 154; (with_reducible refine mem_callO M (HP.out _ (HV.out.up M.up)) ?_); clear M; (try clear wx); intro b13 cap13 wx M)
    | (with_reducible (show wpList _ _ _ (Oper.mk (some 3) (.box _ _) _ _ _ _ :: _) _ _); (first | (refine m_boxA M rfl rfl rfl ?_) | (refine m_box1 (v := Value.int _ _) M rfl rfl rfl rfl ?_) | (refine m_box1 (v := Value.slice _ _ _) M rfl rfl rfl rfl ?_) | (refine m_box1 (v := Value.bool _) M rfl rfl rfl rfl ?_) | (refine m_box1 (v := Value.string _) M rfl rfl rfl rfl ?_) | (refine m_box1 (v := Value.pointer _) M rfl rfl rfl rfl ?_)); clear M; (try clear wx); intro g3 wx M)
    | (with_reducible (show wpList _ _ _ (Oper.mk (some 6) (.alloc _) _ _ _ _ :: _) _ _); refine mem_new M rfl rfl ?_; clear M; (try clear wx); intro g6 wx M)
    | (with_reducible (show wpList _ _ _ (Oper.mk (some 9) (.alloc _) _ _ _ _ :: _) _ _); refine mem_new M rfl rfl ?_; clear M; (try clear wx); intro g9 wx M)
    | (with_reducible (show wpList _ _ _ (Oper.mk _ (.load _ _) _ _ _ _ :: _) _ _); (first | (refine m_load M rfl rfl rfl (by first | assumption | rfl) ?_) | (refine m_loadR M rfl rfl rfl (by first | rfl | assumption | (simp; done) | (simp; omega)) ?_)))
    | (with_reducible (show wpList _ _ _ (Oper.mk _ (.store _ _ _) _ _ _ _ :: _) _ _); (first | (refine m_storeR M rfl rfl rfl rfl (by first | rfl | assumption | (simp; done) | (simp; omega)) (by first | rfl | assumption | (simp; done) | (simp; omega)) (by first | exact bA_one _ | exact wA_one _ | assumption | (simp [Value.oneCell']; done)) ?_) | (refine m_store (v := Value.int _ _) M rfl rfl rfl rfl rfl (by first | assumption | (simp; done) | (simp; omega)) ?_) | (refine m_store (v := Value.slice _ _ _) M rfl rfl rfl rfl rfl (by first | assumption | (simp; done) | (simp; omega)) ?_) | (refine m_store (v := Value.bool _) M rfl rfl rfl rfl rfl (by first | assumption | (simp; done) | (simp; omega)) ?_) | (refine m_store (v := Value.string _) M rfl rfl rfl rfl rfl (by first | assumption | (simp; done) | (simp; omega)) ?_) | (refine m_store (v := Value.pointer _) M rfl rfl rfl rfl rfl (by first | assumption | (simp; done) | (simp; omega)) ?_)); clear M; (try clear wx); intro wx M; simp only [List.set_cons_zero, List.set_cons_succ, Nat.zero_add, List.nil_append] at M)
    | (with_reducible (show wpList _ _ _ (Oper.mk _ (.build _ _) _ _ _ _ :: _) _ _); refine m_buildZ rfl rfl ?_))
  obtain ⟨m, HM⟩ : ∃ m, Hid (m = q.length / 32) := ⟨_, Lib.hid rfl⟩
  rw [← HM.out] at HE HQM
  have hm1 : 32 * m ≤ q.length := by have := HQM.out; omega
  have hm2 : q.length ≤ 32 * m := by have := HQM.out; omega
  go_loopg [8] m (fun r i wr => ∃ (j : Nat), j + r = m ∧ i = .int .i64 ((32 * j : Nat) : Int) ∧ Mem w wr [.own b13 cap13 5 1 q.length (bL q), .blk g6 25 (bA zero32), .blk g3 134 (wA (mixKs s (blkK q j)))])
  case atStart => exact ⟨0, by omega, rfl, M⟩
  case round =>
    obtain ⟨j, hj, rfl, M⟩ := hrel
    have hS := mixKs_len s hs (blkK q j)
    by_cases hlt : j < m
    · have hlt' : 32 * j < q.length := by omega
      have hat : 32 * j + 32 ≤ q.length := by omega
      have HX := Lib.hid (show mixKs s (blkK q (j + 1)) = mixL (mixKs s (blkK q j)) (cutK q (32 * j)).1 by rw [blkK_succ, mixKs_snoc])
      have HC := Lib.hid (cutK_eq q (32 * j) hat)
      have HJ := Lib.hid hj
      clear hj
      generalize mixKs s (blkK q j) = S at *
      have hml := mixL_length S (cutK q (32 * j)).1
      go_wp2_with fail
      refine region_mono (m := 5) mixedOrders_ (by kernel_rfl) (by kernel_rfl)
        (fun | 0 => fun vq _ => vq = .agg (wA S) | 1 => fun vq _ => vq = .slice b13 q.length cap13 | 2 => fun vq _ => vq = .int .i64 ((32 * j : Nat) : Int) | 3 => fun vq _ => vq = .agg (bA (cutK q (32 * j)).1) | 4 => fun vq _ => vq = .agg (wA (mixL S (cutK q (32 * j)).1)) | _ => fun _ _ => True)
        (fun wx => Mem w wx [.own b13 cap13 5 1 q.length (bL q), .blk g6 25 (bA zero32), .blk g3 134 (wA S)]) ?_ ?_ ?_ ?_ ?_
      · intro j hj v w1 w2 hb h
        match j, hj with
        | 0, _ => exact h
        | 1, _ => exact h
        | 2, _ => exact h
        | 3, _ => exact h
        | 4, _ => exact h
      · intro w1 w2 hb h
        exact h.grow hb
      · exact M.grow ((Up.refl _).drew)
      · rintro i o hi ho av wv fr gM dep
        match i, hi with
        | 0, _ =>
          obtain rfl := Option.some.inj ho
          exact st_loadG gM rfl (fr.eval rfl) (by rw [wA_size, hS]) rfl
        | 1, _ =>
          obtain rfl := Option.some.inj ho
          exact st_mov rfl (fr.eval rfl) rfl
        | 2, _ =>
          obtain rfl := Option.some.inj ho
          exact st_mov rfl (fr.eval rfl) rfl
        | 3, _ =>
          obtain rfl := Option.some.inj ho
          have d0 := dep ⟨1, .data⟩ (by simp) rfl
          have d1 := dep ⟨2, .data⟩ (by simp) rfl
          exact st_ret2 rfl (fun _ _ => by kernel_rfl) d0 d1 (by rw [HC.out]; exact l01Block_c _ q (32 * j) _ gM.rdB hat) (fun r w' h _ => h)
        | 4, _ =>
          obtain rfl := Option.some.inj ho
          have d0 := dep ⟨0, .data⟩ (by simp) rfl
          have d1 := dep ⟨3, .data⟩ (by simp) rfl
          exact st_ret2 rfl (fun _ _ => by kernel_rfl) d0 d1 (Ret.of (specl01Mix_c S _ hS (Ky.len _) _)) (fun r w' h _ => h)
      · rintro vs wv gM hf
        have f0 : vs 0 = .agg (wA S) := hf 0 (by omega)
        have f1 : vs 1 = .slice b13 q.length cap13 := hf 1 (by omega)
        have f2 : vs 2 = .int .i64 ((32 * j : Nat) : Int) := hf 2 (by omega)
        have f3 : vs 3 = .agg (bA (cutK q (32 * j)).1) := hf 3 (by omega)
        have f4 : vs 4 = .agg (wA (mixL S (cutK q (32 * j)).1)) := hf 4 (by omega)
        simp only [putAll, Act.put, List.getElem?_toArray, List.getElem?_cons_zero, List.getElem?_cons_succ, Option.bind_some, List.setIfInBounds_toArray, List.set_cons_zero, List.set_cons_succ, List.drop_succ_cons, List.drop_zero, List.drop_nil, f4]
        clear f0 f1 f2 f3 f4 hf
        have M := gM
        go_wp2_with (first
          | (with_reducible (show wpList _ _ _ (Oper.mk (some 3) (.box _ _) _ _ _ _ :: _) _ _); (first | (refine m_boxA M rfl rfl rfl ?_) | (refine m_box1 (v := Value.int _ _) M rfl rfl rfl rfl ?_) | (refine m_box1 (v := Value.slice _ _ _) M rfl rfl rfl rfl ?_) | (refine m_box1 (v := Value.bool _) M rfl rfl rfl rfl ?_) | (refine m_box1 (v := Value.string _) M rfl rfl rfl rfl ?_) | (refine m_box1 (v := Value.pointer _) M rfl rfl rfl rfl ?_)); clear M; (try clear wx); intro g3 wx M)
          | (with_reducible (show wpList _ _ _ (Oper.mk (some 6) (.alloc _) _ _ _ _ :: _) _ _); refine mem_new M rfl rfl ?_; clear M; (try clear wx); intro g6 wx M)
          | (with_reducible (show wpList _ _ _ (Oper.mk (some 9) (.alloc _) _ _ _ _ :: _) _ _); refine mem_new M rfl rfl ?_; clear M; (try clear wx); intro g9 wx M)
          | (with_reducible (show wpList _ _ _ (Oper.mk _ (.load _ _) _ _ _ _ :: _) _ _); (first | (refine m_load M rfl rfl rfl (by first | assumption | rfl) ?_) | (refine m_loadR M rfl rfl rfl (by first | rfl | assumption | (simp; done) | (simp; omega)) ?_)))
          | (with_reducible (show wpList _ _ _ (Oper.mk _ (.store _ _ _) _ _ _ _ :: _) _ _); (first | (refine m_storeR M rfl rfl rfl rfl (by first | rfl | assumption | (simp; done) | (simp; omega)) (by first | rfl | assumption | (simp; done) | (simp; omega)) (by first | exact bA_one _ | exact wA_one _ | assumption | (simp [Value.oneCell']; done)) ?_) | (refine m_store (v := Value.int _ _) M rfl rfl rfl rfl rfl (by first | assumption | (simp; done) | (simp; omega)) ?_) | (refine m_store (v := Value.slice _ _ _) M rfl rfl rfl rfl rfl (by first | assumption | (simp; done) | (simp; omega)) ?_) | (refine m_store (v := Value.bool _) M rfl rfl rfl rfl rfl (by first | assumption | (simp; done) | (simp; omega)) ?_) | (refine m_store (v := Value.string _) M rfl rfl rfl rfl rfl (by first | assumption | (simp; done) | (simp; omega)) ?_) | (refine m_store (v := Value.pointer _) M rfl rfl rfl rfl rfl (by first | assumption | (simp; done) | (simp; omega)) ?_)); clear M; (try clear wx); intro wx M; simp only [List.set_cons_zero, List.set_cons_succ, Nat.zero_add, List.nil_append] at M)
          | (with_reducible (show wpList _ _ _ (Oper.mk _ (.build _ _) _ _ _ _ :: _) _ _); refine m_buildZ rfl rfl ?_))
        have hj := HJ.out
        go_roundg (gk - 1)
        case measure => omega
        case rel => exact ⟨j + 1, by omega, by go_num, by rw [HX.out]; exact M⟩
    · obtain rfl : j = m := by omega
      clear hj hlt
      generalize mixKs s (blkK q j) = S at *
      go_wp2_with (first
        | (with_reducible (show wpList _ _ _ (Oper.mk (some 3) (.box _ _) _ _ _ _ :: _) _ _); (first | (refine m_boxA M rfl rfl rfl ?_) | (refine m_box1 (v := Value.int _ _) M rfl rfl rfl rfl ?_) | (refine m_box1 (v := Value.slice _ _ _) M rfl rfl rfl rfl ?_) | (refine m_box1 (v := Value.bool _) M rfl rfl rfl rfl ?_) | (refine m_box1 (v := Value.string _) M rfl rfl rfl rfl ?_) | (refine m_box1 (v := Value.pointer _) M rfl rfl rfl rfl ?_)); clear M; (try clear wx); intro g3 wx M)
        | (with_reducible (show wpList _ _ _ (Oper.mk (some 6) (.alloc _) _ _ _ _ :: _) _ _); refine mem_new M rfl rfl ?_; clear M; (try clear wx); intro g6 wx M)
        | (with_reducible (show wpList _ _ _ (Oper.mk (some 9) (.alloc _) _ _ _ _ :: _) _ _); refine mem_new M rfl rfl ?_; clear M; (try clear wx); intro g9 wx M)
        | (with_reducible (show wpList _ _ _ (Oper.mk _ (.load _ _) _ _ _ _ :: _) _ _); (first | (refine m_load M rfl rfl rfl (by first | assumption | rfl) ?_) | (refine m_loadR M rfl rfl rfl (by first | rfl | assumption | (simp; done) | (simp; omega)) ?_)))
        | (with_reducible (show wpList _ _ _ (Oper.mk _ (.store _ _ _) _ _ _ _ :: _) _ _); (first | (refine m_storeR M rfl rfl rfl rfl (by first | rfl | assumption | (simp; done) | (simp; omega)) (by first | rfl | assumption | (simp; done) | (simp; omega)) (by first | exact bA_one _ | exact wA_one _ | assumption | (simp [Value.oneCell']; done)) ?_) | (refine m_store (v := Value.int _ _) M rfl rfl rfl rfl rfl (by first | assumption | (simp; done) | (simp; omega)) ?_) | (refine m_store (v := Value.slice _ _ _) M rfl rfl rfl rfl rfl (by first | assumption | (simp; done) | (simp; omega)) ?_) | (refine m_store (v := Value.bool _) M rfl rfl rfl rfl rfl (by first | assumption | (simp; done) | (simp; omega)) ?_) | (refine m_store (v := Value.string _) M rfl rfl rfl rfl rfl (by first | assumption | (simp; done) | (simp; omega)) ?_) | (refine m_store (v := Value.pointer _) M rfl rfl rfl rfl rfl (by first | assumption | (simp; done) | (simp; omega)) ?_)); clear M; (try clear wx); intro wx M; simp only [List.set_cons_zero, List.set_cons_succ, Nat.zero_add, List.nil_append] at M)
        | (with_reducible (show wpList _ _ _ (Oper.mk _ (.build _ _) _ _ _ _ :: _) _ _); refine m_buildZ rfl rfl ?_))
      go_loopg [10] 32 (fun r i wq => ∃ (k : Nat), k + r = 32 ∧ i = .int .i64 (k : Int) ∧ Mem w wq [.blk g9 25 (bA (stG S k)), .own b13 cap13 5 1 q.length (bL q), .blk g6 25 (bA zero32), .blk g3 134 (wA S)])
      case atStart => exact ⟨0, by omega, rfl, by rw [stG, fill_zero]; exact M⟩
      case round =>
        obtain ⟨k, hk, rfl, M⟩ := hrel
        by_cases hlt : k < 32
        · have hk4 : k / 4 < 8 := by omega
          have c1 := wA_at S (k / 4) (by omega)
          have hwb := (wt S (k / 4)).toNat_lt
          have HJ := Lib.hid hk
          clear hk
          have hsz : k < (bA (stG S k)).size := by simp [stG]; exact hlt
          go_wp2_with (first
            | (with_reducible (show wpList _ _ _ (Oper.mk (some 3) (.box _ _) _ _ _ _ :: _) _ _); (first | (refine m_boxA M rfl rfl rfl ?_) | (refine m_box1 (v := Value.int _ _) M rfl rfl rfl rfl ?_) | (refine m_box1 (v := Value.slice _ _ _) M rfl rfl rfl rfl ?_) | (refine m_box1 (v := Value.bool _) M rfl rfl rfl rfl ?_) | (refine m_box1 (v := Value.string _) M rfl rfl rfl rfl ?_) | (refine m_box1 (v := Value.pointer _) M rfl rfl rfl rfl ?_)); clear M; (try clear wx); intro g3 wx M)
            | (with_reducible (show wpList _ _ _ (Oper.mk (some 6) (.alloc _) _ _ _ _ :: _) _ _); refine mem_new M rfl rfl ?_; clear M; (try clear wx); intro g6 wx M)
            | (with_reducible (show wpList _ _ _ (Oper.mk (some 9) (.alloc _) _ _ _ _ :: _) _ _); refine mem_new M rfl rfl ?_; clear M; (try clear wx); intro g9 wx M)
            | (with_reducible (show wpList _ _ _ (Oper.mk _ (.load _ _) _ _ _ _ :: _) _ _); (first | (refine m_load M rfl rfl rfl (by first | assumption | rfl) ?_) | (refine m_loadR M rfl rfl rfl (by first | rfl | assumption | (simp; done) | (simp; omega)) ?_)))
            | (with_reducible (show wpList _ _ _ (Oper.mk _ (.store _ _ _) _ _ _ _ :: _) _ _); (first | (refine m_storeR M rfl rfl rfl rfl (by first | rfl | assumption | (simp; done) | (simp; omega)) (by first | rfl | assumption | (simp; done) | (simp; omega)) (by first | exact bA_one _ | exact wA_one _ | assumption | (simp [Value.oneCell']; done)) ?_) | (refine m_store (v := Value.int _ _) M rfl rfl rfl rfl rfl (by first | assumption | (simp; done) | (simp; omega)) ?_) | (refine m_store (v := Value.slice _ _ _) M rfl rfl rfl rfl rfl (by first | assumption | (simp; done) | (simp; omega)) ?_) | (refine m_store (v := Value.bool _) M rfl rfl rfl rfl rfl (by first | assumption | (simp; done) | (simp; omega)) ?_) | (refine m_store (v := Value.string _) M rfl rfl rfl rfl rfl (by first | assumption | (simp; done) | (simp; omega)) ?_) | (refine m_store (v := Value.pointer _) M rfl rfl rfl rfl rfl (by first | assumption | (simp; done) | (simp; omega)) ?_)); clear M; (try clear wx); intro wx M; simp only [List.set_cons_zero, List.set_cons_succ, Nat.zero_add, List.nil_append] at M)
            | (with_reducible (show wpList _ _ _ (Oper.mk _ (.build _ _) _ _ _ _ :: _) _ _); refine m_buildZ rfl rfl ?_))
          rw [show Value.int .u8 (((wt S (k / 4)).toNat : Int) / 2 ^ (8 * (k % 4)) % 256) = .int .u8 ((UInt8.ofNat ((wt S (k / 4)).toNat / 256 ^ (k % 4))).toNat : Int) by rw [u8_mod, shr_u64 _ (k % 4) (by omega)], bA_set, stG, fill_set (fun i => UInt8.ofNat ((wt S (i / 4)).toNat / 256 ^ (i % 4)))] at M
          have hk := HJ.out
          go_roundg (gk - 1)
          case measure => omega
          case rel => exact ⟨k + 1, by omega, by go_num, M⟩
        · obtain rfl : k = 32 := by omega
          have HS := Lib.hid (show stG S 32 = (stB S).1 by rw [stG, fill_full]; rfl)
          rw [HS.out] at M
          clear hk
          go_wp2_with (first
            | (with_reducible (show wpList _ _ _ (Oper.mk (some 3) (.box _ _) _ _ _ _ :: _) _ _); (first | (refine m_boxA M rfl rfl rfl ?_) | (refine m_box1 (v := Value.int _ _) M rfl rfl rfl rfl ?_) | (refine m_box1 (v := Value.slice _ _ _) M rfl rfl rfl rfl ?_) | (refine m_box1 (v := Value.bool _) M rfl rfl rfl rfl ?_) | (refine m_box1 (v := Value.string _) M rfl rfl rfl rfl ?_) | (refine m_box1 (v := Value.pointer _) M rfl rfl rfl rfl ?_)); clear M; (try clear wx); intro g3 wx M)
            | (with_reducible (show wpList _ _ _ (Oper.mk (some 6) (.alloc _) _ _ _ _ :: _) _ _); refine mem_new M rfl rfl ?_; clear M; (try clear wx); intro g6 wx M)
            | (with_reducible (show wpList _ _ _ (Oper.mk (some 9) (.alloc _) _ _ _ _ :: _) _ _); refine mem_new M rfl rfl ?_; clear M; (try clear wx); intro g9 wx M)
            | (with_reducible (show wpList _ _ _ (Oper.mk _ (.load _ _) _ _ _ _ :: _) _ _); (first | (refine m_load M rfl rfl rfl (by first | assumption | rfl) ?_) | (refine m_loadR M rfl rfl rfl (by first | rfl | assumption | (simp; done) | (simp; omega)) ?_)))
            | (with_reducible (show wpList _ _ _ (Oper.mk _ (.store _ _ _) _ _ _ _ :: _) _ _); (first | (refine m_storeR M rfl rfl rfl rfl (by first | rfl | assumption | (simp; done) | (simp; omega)) (by first | rfl | assumption | (simp; done) | (simp; omega)) (by first | exact bA_one _ | exact wA_one _ | assumption | (simp [Value.oneCell']; done)) ?_) | (refine m_store (v := Value.int _ _) M rfl rfl rfl rfl rfl (by first | assumption | (simp; done) | (simp; omega)) ?_) | (refine m_store (v := Value.slice _ _ _) M rfl rfl rfl rfl rfl (by first | assumption | (simp; done) | (simp; omega)) ?_) | (refine m_store (v := Value.bool _) M rfl rfl rfl rfl rfl (by first | assumption | (simp; done) | (simp; omega)) ?_) | (refine m_store (v := Value.string _) M rfl rfl rfl rfl rfl (by first | assumption | (simp; done) | (simp; omega)) ?_) | (refine m_store (v := Value.pointer _) M rfl rfl rfl rfl rfl (by first | assumption | (simp; done) | (simp; omega)) ?_)); clear M; (try clear wx); intro wx M; simp only [List.set_cons_zero, List.set_cons_succ, Nat.zero_add, List.nil_append] at M)
            | (with_reducible (show wpList _ _ _ (Oper.mk _ (.build _ _) _ _ _ _ :: _) _ _); refine m_buildZ rfl rfl ?_))
          exact m_ret M rfl rfl rfl (by simp) (by rw [HE.out])

set_option maxHeartbeats 1000000 in
set_option maxRecDepth 100000 in
theorem l01Hash_c (tag : UInt8) (v : Value) (l : List UInt8) (w : World) (hv : Rd w 1 v l.length (bL l)) (hl : l.length ≤ 100000000) :
    Ret Try.prog 102 #[.int .u8 (tag.toNat : Int), v] w fun r _ => r = .agg (bA (hashK tag l).1) := by
  obtain ⟨b, cap, rfl⟩ := hv.shape
  have HV := Lib.hid hv
  have HE := Lib.hid (show endK (startL tag) l l.length = hashK tag l from rfl)
  refine ret_start fun wx M => ?_
  clear hv
  go_enter Try.func102, Try.ntmps102
  go_wp2_with (first
    | (go_at_call 132; (with_reducible refine mem_call M (Ret.of (specl01Start_c tag _)) ?_); clear M; (try clear wx); rintro _ wx rfl _ M)
    | (go_at_call 131; (with_reducible refine mem_call M (l01End_c (startL tag) (startL_length tag) _ l l.length _ (HV.out.up M.up) hl (by omega)) ?_); clear M; (try clear wx); rintro _ wx rfl _ M; rw [HE.out])
    | (with_reducible (show wpList _ _ _ (Oper.mk (some 4) (.alloc _) _ _ _ _ :: _) _ _); refine mem_new M rfl rfl ?_; clear M; (try clear wx); intro g4 wx M)
    | (with_reducible (show wpList _ _ _ (Oper.mk _ (.store _ _ _) _ _ _ _ :: _) _ _); (first | (refine m_storeR M rfl rfl rfl rfl (by first | rfl | assumption | (simp; done) | (simp; omega)) (by first | rfl | assumption | (simp; done) | (simp; omega)) (by first | exact bA_one _ | exact wA_one _ | assumption | (simp [Value.oneCell']; done)) ?_) | (refine m_store (v := Value.int _ _) M rfl rfl rfl rfl rfl (by first | assumption | (simp; done) | (simp; omega)) ?_) | (refine m_store (v := Value.slice _ _ _) M rfl rfl rfl rfl rfl (by first | assumption | (simp; done) | (simp; omega)) ?_) | (refine m_store (v := Value.bool _) M rfl rfl rfl rfl rfl (by first | assumption | (simp; done) | (simp; omega)) ?_) | (refine m_store (v := Value.string _) M rfl rfl rfl rfl rfl (by first | assumption | (simp; done) | (simp; omega)) ?_) | (refine m_store (v := Value.pointer _) M rfl rfl rfl rfl rfl (by first | assumption | (simp; done) | (simp; omega)) ?_)); clear M; (try clear wx); intro wx M; simp only [List.set_cons_zero, List.set_cons_succ, Nat.zero_add, List.nil_append] at M))
  exact m_ret M rfl rfl rfl (by simp) rfl

theorem bt_snoc (l : List UInt8) (j : Nat) (h : j < l.length) : l.take j ++ [bt l j] = l.take (j + 1) := by rw [List.take_succ_eq_append_getElem h, bt_eq l j h]
set_option maxHeartbeats 1000000 in
set_option maxRecDepth 100000 in
theorem l01Pair_c (tag : UInt8) (a b : Ky) (w : World) : Ret Try.prog 133 #[.int .u8 (tag.toNat : Int), .agg (bA a.1), .agg (bA b.1)] w fun r _ => r = .agg (bA (pairK tag a b).1) := by
  have ha := a.2
  have hb := b.2
  have HL := Lib.hid (two_len a b)
  refine ret_start fun wx M => ?_
  go_enter Try.func133, Try.ntmps133
  go_wp2_with (first
    | (with_reducible (show wpList _ _ _ (Oper.mk (some 4) (.box _ _) _ _ _ _ :: _) _ _); (first | (refine m_boxA M rfl rfl rfl ?_) | (refine m_box1 (v := Value.int _ _) M rfl rfl rfl rfl ?_) | (refine m_box1 (v := Value.slice _ _ _) M rfl rfl rfl rfl ?_) | (refine m_box1 (v := Value.bool _) M rfl rfl rfl rfl ?_) | (refine m_box1 (v := Value.string _) M rfl rfl rfl rfl ?_) | (refine m_box1 (v := Value.pointer _) M rfl rfl rfl rfl ?_)); clear M; (try clear wx); intro g4 wx M)
    | (with_reducible (show wpList _ _ _ (Oper.mk (some 5) (.box _ _) _ _ _ _ :: _) _ _); (first | (refine m_boxA M rfl rfl rfl ?_) | (refine m_box1 (v := Value.int _ _) M rfl rfl rfl rfl ?_) | (refine m_box1 (v := Value.slice _ _ _) M rfl rfl rfl rfl ?_) | (refine m_box1 (v := Value.bool _) M rfl rfl rfl rfl ?_) | (refine m_box1 (v := Value.string _) M rfl rfl rfl rfl ?_) | (refine m_box1 (v := Value.pointer _) M rfl rfl rfl rfl ?_)); clear M; (try clear wx); intro g5 wx M)
    | (with_reducible (show wpList _ _ _ (Oper.mk (some 6) (.alloc _) _ _ _ _ :: _) _ _); refine mem_new M rfl rfl ?_; clear M; (try clear wx); intro g6 wx M)
    | (with_reducible (show wpList _ _ _ (Oper.mk (some 10) (.buildSlice _ _ _) _ _ _ _ :: _) _ _); refine m_lit0 M rfl rfl ?_; clear M; (try clear wx); intro g10 wx M)
    | (with_reducible (show wpList _ _ _ (Oper.mk (some 19) (.buildSlice _ _ _) _ _ _ _ :: _) _ _); (first | (refine m_lit1A M rfl rfl rfl (by first | rfl | assumption | (simp; done) | (simp; omega)) (by decide) ?_) | (refine m_lit11 (v := Value.int _ _) M rfl rfl rfl rfl ?_) | (refine m_lit11 (v := Value.slice _ _ _) M rfl rfl rfl rfl ?_) | (refine m_lit11 (v := Value.bool _) M rfl rfl rfl rfl ?_) | (refine m_lit11 (v := Value.string _) M rfl rfl rfl rfl ?_) | (refine m_lit11 (v := Value.pointer _) M rfl rfl rfl rfl ?_)); clear M; (try clear wx); intro g19 wx M)
    | (with_reducible (show wpList _ _ _ (Oper.mk (some 29) (.buildSlice _ _ _) _ _ _ _ :: _) _ _); (first | (refine m_lit1A M rfl rfl rfl (by first | rfl | assumption | (simp; done) | (simp; omega)) (by decide) ?_) | (refine m_lit11 (v := Value.int _ _) M rfl rfl rfl rfl ?_) | (refine m_lit11 (v := Value.slice _ _ _) M rfl rfl rfl rfl ?_) | (refine m_lit11 (v := Value.bool _) M rfl rfl rfl rfl ?_) | (refine m_lit11 (v := Value.string _) M rfl rfl rfl rfl ?_) | (refine m_lit11 (v := Value.pointer _) M rfl rfl rfl rfl ?_)); clear M; (try clear wx); intro g29 wx M)
    | (with_reducible (show wpList _ _ _ (Oper.mk _ (.load _ _) _ _ _ _ :: _) _ _); (first | (refine m_load M rfl rfl rfl (by first | assumption | rfl) ?_) | (refine m_loadR M rfl rfl rfl (by first | rfl | assumption | (simp; done) | (simp; omega)) ?_)))
    | (with_reducible (show wpList _ _ _ (Oper.mk _ (.store _ _ _) _ _ _ _ :: _) _ _); (first | (refine m_storeR M rfl rfl rfl rfl (by first | rfl | assumption | (simp; done) | (simp; omega)) (by first | rfl | assumption | (simp; done) | (simp; omega)) (by first | exact bA_one _ | exact wA_one _ | assumption | (simp [Value.oneCell']; done)) ?_) | (refine m_store (v := Value.int _ _) M rfl rfl rfl rfl rfl (by first | assumption | (simp; done) | (simp; omega)) ?_) | (refine m_store (v := Value.slice _ _ _) M rfl rfl rfl rfl rfl (by first | assumption | (simp; done) | (simp; omega)) ?_) | (refine m_store (v := Value.bool _) M rfl rfl rfl rfl rfl (by first | assumption | (simp; done) | (simp; omega)) ?_) | (refine m_store (v := Value.string _) M rfl rfl rfl rfl rfl (by first | assumption | (simp; done) | (simp; omega)) ?_) | (refine m_store (v := Value.pointer _) M rfl rfl rfl rfl rfl (by first | assumption | (simp; done) | (simp; omega)) ?_)); clear M; (try clear wx); intro wx M; simp only [List.set_cons_zero, List.set_cons_succ, Nat.zero_add, List.nil_append] at M)
    | (with_reducible (show wpList _ _ _ (Oper.mk _ (.call (Call.mk (.builtin .append) _ _)) _ _ _ _ :: _) _ _); (first | (refine m_append1 M rfl rfl rfl (by first | rfl | omega | (simp; done)) rfl (by first | rfl | assumption | (simp; done) | (simp; omega)) (by first | exact bA_one _ | exact wA_one _ | assumption | (simp [Value.oneCell']; done)) (by first | assumption | (simp only [maxLen]; omega)) (by omega) ?_)); clear M; (try clear wx); intro _ _ wx M; simp only [List.set_cons_zero, List.set_cons_succ, Nat.zero_add, List.nil_append] at M))
  go_loopg [7, 8] 32 (fun q x i wr => ∃ (j : Nat) (b1 : Option Addr) (cap : Nat), j + q = 32 ∧ x = .slice b1 j cap ∧ i = .int .i64 (j : Int) ∧ Mem w wr [.own b1 cap 5 1 j (bL (a.1.take j)), .blk g6 25 (bA zero32), .blk g5 25 (bA b.1), .blk g4 25 (bA a.1)])
  case atStart => exact ⟨0, _, _, by omega, rfl, rfl, M⟩
  case round =>
    obtain ⟨j, b1, cap, hj, rfl, rfl, M⟩ := hrel
    by_cases hlt : j < 32
    · have c1 := bA_at a.1 j (by omega)
      have HS := Lib.hid (bt_snoc a.1 j (by omega))
      have HJ := Lib.hid hj
      clear hj
      go_wp2_with (first
        | (with_reducible (show wpList _ _ _ (Oper.mk (some 4) (.box _ _) _ _ _ _ :: _) _ _); (first | (refine m_boxA M rfl rfl rfl ?_) | (refine m_box1 (v := Value.int _ _) M rfl rfl rfl rfl ?_) | (refine m_box1 (v := Value.slice _ _ _) M rfl rfl rfl rfl ?_) | (refine m_box1 (v := Value.bool _) M rfl rfl rfl rfl ?_) | (refine m_box1 (v := Value.string _) M rfl rfl rfl rfl ?_) | (refine m_box1 (v := Value.pointer _) M rfl rfl rfl rfl ?_)); clear M; (try clear wx); intro g4 wx M)
        | (with_reducible (show wpList _ _ _ (Oper.mk (some 5) (.box _ _) _ _ _ _ :: _) _ _); (first | (refine m_boxA M rfl rfl rfl ?_) | (refine m_box1 (v := Value.int _ _) M rfl rfl rfl rfl ?_) | (refine m_box1 (v := Value.slice _ _ _) M rfl rfl rfl rfl ?_) | (refine m_box1 (v := Value.bool _) M rfl rfl rfl rfl ?_) | (refine m_box1 (v := Value.string _) M rfl rfl rfl rfl ?_) | (refine m_box1 (v := Value.pointer _) M rfl rfl rfl rfl ?_)); clear M; (try clear wx); intro g5 wx M)
        | (with_reducible (show wpList _ _ _ (Oper.mk (some 6) (.alloc _) _ _ _ _ :: _) _ _); refine mem_new M rfl rfl ?_; clear M; (try clear wx); intro g6 wx M)
        | (with_reducible (show wpList _ _ _ (Oper.mk (some 10) (.buildSlice _ _ _) _ _ _ _ :: _) _ _); refine m_lit0 M rfl rfl ?_; clear M; (try clear wx); intro g10 wx M)
        | (with_reducible (show wpList _ _ _ (Oper.mk (some 19) (.buildSlice _ _ _) _ _ _ _ :: _) _ _); (first | (refine m_lit1A M rfl rfl rfl (by first | rfl | assumption | (simp; done) | (simp; omega)) (by decide) ?_) | (refine m_lit11 (v := Value.int _ _) M rfl rfl rfl rfl ?_) | (refine m_lit11 (v := Value.slice _ _ _) M rfl rfl rfl rfl ?_) | (refine m_lit11 (v := Value.bool _) M rfl rfl rfl rfl ?_) | (refine m_lit11 (v := Value.string _) M rfl rfl rfl rfl ?_) | (refine m_lit11 (v := Value.pointer _) M rfl rfl rfl rfl ?_)); clear M; (try clear wx); intro g19 wx M)
        | (with_reducible (show wpList _ _ _ (Oper.mk (some 29) (.buildSlice _ _ _) _ _ _ _ :: _) _ _); (first | (refine m_lit1A M rfl rfl rfl (by first | rfl | assumption | (simp; done) | (simp; omega)) (by decide) ?_) | (refine m_lit11 (v := Value.int _ _) M rfl rfl rfl rfl ?_) | (refine m_lit11 (v := Value.slice _ _ _) M rfl rfl rfl rfl ?_) | (refine m_lit11 (v := Value.bool _) M rfl rfl rfl rfl ?_) | (refine m_lit11 (v := Value.string _) M rfl rfl rfl rfl ?_) | (refine m_lit11 (v := Value.pointer _) M rfl rfl rfl rfl ?_)); clear M; (try clear wx); intro g29 wx M)
        | (with_reducible (show wpList _ _ _ (Oper.mk _ (.load _ _) _ _ _ _ :: _) _ _); (first | (refine m_load M rfl rfl rfl (by first | assumption | rfl) ?_) | (refine m_loadR M rfl rfl rfl (by first | rfl | assumption | (simp; done) | (simp; omega)) ?_)))
        | (with_reducible (show wpList _ _ _ (Oper.mk _ (.store _ _ _) _ _ _ _ :: _) _ _); (first | (refine m_storeR M rfl rfl rfl rfl (by first | rfl | assumption | (simp; done) | (simp; omega)) (by first | rfl | assumption | (simp; done) | (simp; omega)) (by first | exact bA_one _ | exact wA_one _ | assumption | (simp [Value.oneCell']; done)) ?_) | (refine m_store (v := Value.int _ _) M rfl rfl rfl rfl rfl (by first | assumption | (simp; done) | (simp; omega)) ?_) | (refine m_store (v := Value.slice _ _ _) M rfl rfl rfl rfl rfl (by first | assumption | (simp; done) | (simp; omega)) ?_) | (refine m_store (v := Value.bool _) M rfl rfl rfl rfl rfl (by first | assumption | (simp; done) | (simp; omega)) ?_) | (refine m_store (v := Value.string _) M rfl rfl rfl rfl rfl (by first | assumption | (simp; done) | (simp; omega)) ?_) | (refine m_store (v := Value.pointer _) M rfl rfl rfl rfl rfl (by first | assumption | (simp; done) | (simp; omega)) ?_)); clear M; (try clear wx); intro wx M; simp only [List.set_cons_zero, List.set_cons_succ, Nat.zero_add, List.nil_append] at M)
        | (with_reducible (show wpList _ _ _ (Oper.mk _ (.call (Call.mk (.builtin .append) _ _)) _ _ _ _ :: _) _ _); (first | (refine m_append1 M rfl rfl rfl (by first | rfl | omega | (simp; done)) rfl (by first | rfl | assumption | (simp; done) | (simp; omega)) (by first | exact bA_one _ | exact wA_one _ | assumption | (simp [Value.oneCell']; done)) (by first | assumption | (simp only [maxLen]; omega)) (by omega) ?_)); clear M; (try clear wx); intro _ _ wx M; simp only [List.set_cons_zero, List.set_cons_succ, Nat.zero_add, List.nil_append] at M))
      have hj := HJ.out
      go_roundg (gk - 1)
      case measure => omega
      case rel => exact ⟨j + 1, _, _, by omega, rfl, by go_num, by rw [← HS.out, ← bL_append]; exact M⟩
    · obtain rfl : j = 32 := by omega
      rw [List.take_of_length_le (by omega)] at M
      clear hj
      go_wp2_with (first
        | (with_reducible (show wpList _ _ _ (Oper.mk (some 4) (.box _ _) _ _ _ _ :: _) _ _); (first | (refine m_boxA M rfl rfl rfl ?_) | (refine m_box1 (v := Value.int _ _) M rfl rfl rfl rfl ?_) | (refine m_box1 (v := Value.slice _ _ _) M rfl rfl rfl rfl ?_) | (refine m_box1 (v := Value.bool _) M rfl rfl rfl rfl ?_) | (refine m_box1 (v := Value.string _) M rfl rfl rfl rfl ?_) | (refine m_box1 (v := Value.pointer _) M rfl rfl rfl rfl ?_)); clear M; (try clear wx); intro g4 wx M)
        | (with_reducible (show wpList _ _ _ (Oper.mk (some 5) (.box _ _) _ _ _ _ :: _) _ _); (first | (refine m_boxA M rfl rfl rfl ?_) | (refine m_box1 (v := Value.int _ _) M rfl rfl rfl rfl ?_) | (refine m_box1 (v := Value.slice _ _ _) M rfl rfl rfl rfl ?_) | (refine m_box1 (v := Value.bool _) M rfl rfl rfl rfl ?_) | (refine m_box1 (v := Value.string _) M rfl rfl rfl rfl ?_) | (refine m_box1 (v := Value.pointer _) M rfl rfl rfl rfl ?_)); clear M; (try clear wx); intro g5 wx M)
        | (with_reducible (show wpList _ _ _ (Oper.mk (some 6) (.alloc _) _ _ _ _ :: _) _ _); refine mem_new M rfl rfl ?_; clear M; (try clear wx); intro g6 wx M)
        | (with_reducible (show wpList _ _ _ (Oper.mk (some 10) (.buildSlice _ _ _) _ _ _ _ :: _) _ _); refine m_lit0 M rfl rfl ?_; clear M; (try clear wx); intro g10 wx M)
        | (with_reducible (show wpList _ _ _ (Oper.mk (some 19) (.buildSlice _ _ _) _ _ _ _ :: _) _ _); (first | (refine m_lit1A M rfl rfl rfl (by first | rfl | assumption | (simp; done) | (simp; omega)) (by decide) ?_) | (refine m_lit11 (v := Value.int _ _) M rfl rfl rfl rfl ?_) | (refine m_lit11 (v := Value.slice _ _ _) M rfl rfl rfl rfl ?_) | (refine m_lit11 (v := Value.bool _) M rfl rfl rfl rfl ?_) | (refine m_lit11 (v := Value.string _) M rfl rfl rfl rfl ?_) | (refine m_lit11 (v := Value.pointer _) M rfl rfl rfl rfl ?_)); clear M; (try clear wx); intro g19 wx M)
        | (with_reducible (show wpList _ _ _ (Oper.mk (some 29) (.buildSlice _ _ _) _ _ _ _ :: _) _ _); (first | (refine m_lit1A M rfl rfl rfl (by first | rfl | assumption | (simp; done) | (simp; omega)) (by decide) ?_) | (refine m_lit11 (v := Value.int _ _) M rfl rfl rfl rfl ?_) | (refine m_lit11 (v := Value.slice _ _ _) M rfl rfl rfl rfl ?_) | (refine m_lit11 (v := Value.bool _) M rfl rfl rfl rfl ?_) | (refine m_lit11 (v := Value.string _) M rfl rfl rfl rfl ?_) | (refine m_lit11 (v := Value.pointer _) M rfl rfl rfl rfl ?_)); clear M; (try clear wx); intro g29 wx M)
        | (with_reducible (show wpList _ _ _ (Oper.mk _ (.load _ _) _ _ _ _ :: _) _ _); (first | (refine m_load M rfl rfl rfl (by first | assumption | rfl) ?_) | (refine m_loadR M rfl rfl rfl (by first | rfl | assumption | (simp; done) | (simp; omega)) ?_)))
        | (with_reducible (show wpList _ _ _ (Oper.mk _ (.store _ _ _) _ _ _ _ :: _) _ _); (first | (refine m_storeR M rfl rfl rfl rfl (by first | rfl | assumption | (simp; done) | (simp; omega)) (by first | rfl | assumption | (simp; done) | (simp; omega)) (by first | exact bA_one _ | exact wA_one _ | assumption | (simp [Value.oneCell']; done)) ?_) | (refine m_store (v := Value.int _ _) M rfl rfl rfl rfl rfl (by first | assumption | (simp; done) | (simp; omega)) ?_) | (refine m_store (v := Value.slice _ _ _) M rfl rfl rfl rfl rfl (by first | assumption | (simp; done) | (simp; omega)) ?_) | (refine m_store (v := Value.bool _) M rfl rfl rfl rfl rfl (by first | assumption | (simp; done) | (simp; omega)) ?_) | (refine m_store (v := Value.string _) M rfl rfl rfl rfl rfl (by first | assumption | (simp; done) | (simp; omega)) ?_) | (refine m_store (v := Value.pointer _) M rfl rfl rfl rfl rfl (by first | assumption | (simp; done) | (simp; omega)) ?_)); clear M; (try clear wx); intro wx M; simp only [List.set_cons_zero, List.set_cons_succ, Nat.zero_add, List.nil_append] at M)
        | (with_reducible (show wpList _ _ _ (Oper.mk _ (.call (Call.mk (.builtin .append) _ _)) _ _ _ _ :: _) _ _); (first | (refine m_append1 M rfl rfl rfl (by first | rfl | omega | (simp; done)) rfl (by first | rfl | assumption | (simp; done) | (simp; omega)) (by first | exact bA_one _ | exact wA_one _ | assumption | (simp [Value.oneCell']; done)) (by first | assumption | (simp only [maxLen]; omega)) (by omega) ?_)); clear M; (try clear wx); intro _ _ wx M; simp only [List.set_cons_zero, List.set_cons_succ, Nat.zero_add, List.nil_append] at M))
      go_loopg [7, 9] 32 (fun q x i wq => ∃ (j : Nat) (b2 : Option Addr) (cap2 : Nat), j + q = 32 ∧ x = .slice b2 (32 + j) cap2 ∧ i = .int .i64 (j : Int) ∧ Mem w wq [.own b2 cap2 5 1 (32 + j) (bL (a.1 ++ b.1.take j)), .blk g6 25 (bA zero32), .blk g5 25 (bA b.1), .blk g4 25 (bA a.1)])
      case atStart => exact ⟨0, _, _, by omega, rfl, rfl, by simpa using M⟩
      case round =>
        obtain ⟨j, b2, cap2, hj, rfl, rfl, M⟩ := hrel
        by_cases hlt : j < 32
        · have c1 := bA_at b.1 j (by omega)
          have HS := Lib.hid (bt_snoc b.1 j (by omega))
          have HJ := Lib.hid hj
          clear hj
          go_wp2_with (first
            | (with_reducible (show wpList _ _ _ (Oper.mk (some 4) (.box _ _) _ _ _ _ :: _) _ _); (first | (refine m_boxA M rfl rfl rfl ?_) | (refine m_box1 (v := Value.int _ _) M rfl rfl rfl rfl ?_) | (refine m_box1 (v := Value.slice _ _ _) M rfl rfl rfl rfl ?_) | (refine m_box1 (v := Value.bool _) M rfl rfl rfl rfl ?_) | (refine m_box1 (v := Value.string _) M rfl rfl rfl rfl ?_) | (refine m_box1 (v := Value.pointer _) M rfl rfl rfl rfl ?_)); clear M; (try clear wx); intro g4 wx M)
            | (with_reducible (show wpList _ _ _ (Oper.mk (some 5) (.box _ _) _ _ _ _ :: _) _ _); (first | (refine m_boxA M rfl rfl rfl ?_) | (refine m_box1 (v := Value.int _ _) M rfl rfl rfl rfl ?_) | (refine m_box1 (v := Value.slice _ _ _) M rfl rfl rfl rfl ?_) | (refine m_box1 (v := Value.bool _) M rfl rfl rfl rfl ?_) | (refine m_box1 (v := Value.string _) M rfl rfl rfl rfl ?_) | (refine m_box1 (v := Value.pointer _) M rfl rfl rfl rfl ?_)); clear M; (try clear wx); intro g5 wx M)
            | (with_reducible (show wpList _ _ _ (Oper.mk (some 6) (.alloc _) _ _ _ _ :: _) _ _); refine mem_new M rfl rfl ?_; clear M; (try clear wx); intro g6 wx M)
            | (with_reducible (show wpList _ _ _ (Oper.mk (some 10) (.buildSlice _ _ _) _ _ _ _ :: _) _ _); refine m_lit0 M rfl rfl ?_; clear M; (try clear wx); intro g10 wx M)
            | (with_reducible (show wpList _ _ _ (Oper.mk (some 19) (.buildSlice _ _ _) _ _ _ _ :: _) _ _); (first | (refine m_lit1A M rfl rfl rfl (by first | rfl | assumption | (simp; done) | (simp; omega)) (by decide) ?_) | (refine m_lit11 (v := Value.int _ _) M rfl rfl rfl rfl ?_) | (refine m_lit11 (v := Value.slice _ _ _) M rfl rfl rfl rfl ?_) | (refine m_lit11 (v := Value.bool _) M rfl rfl rfl rfl ?_) | (refine m_lit11 (v := Value.string _) M rfl rfl rfl rfl ?_) | (refine m_lit11 (v := Value.pointer _) M rfl rfl rfl rfl ?_)); clear M; (try clear wx); intro g19 wx M)
            | (with_reducible (show wpList _ _ _ (Oper.mk (some 29) (.buildSlice _ _ _) _ _ _ _ :: _) _ _); (first | (refine m_lit1A M rfl rfl rfl (by first | rfl | assumption | (simp; done) | (simp; omega)) (by decide) ?_) | (refine m_lit11 (v := Value.int _ _) M rfl rfl rfl rfl ?_) | (refine m_lit11 (v := Value.slice _ _ _) M rfl rfl rfl rfl ?_) | (refine m_lit11 (v := Value.bool _) M rfl rfl rfl rfl ?_) | (refine m_lit11 (v := Value.string _) M rfl rfl rfl rfl ?_) | (refine m_lit11 (v := Value.pointer _) M rfl rfl rfl rfl ?_)); clear M; (try clear wx); intro g29 wx M)
            | (with_reducible (show wpList _ _ _ (Oper.mk _ (.load _ _) _ _ _ _ :: _) _ _); (first | (refine m_load M rfl rfl rfl (by first | assumption | rfl) ?_) | (refine m_loadR M rfl rfl rfl (by first | rfl | assumption | (simp; done) | (simp; omega)) ?_)))
            | (with_reducible (show wpList _ _ _ (Oper.mk _ (.store _ _ _) _ _ _ _ :: _) _ _); (first | (refine m_storeR M rfl rfl rfl rfl (by first | rfl | assumption | (simp; done) | (simp; omega)) (by first | rfl | assumption | (simp; done) | (simp; omega)) (by first | exact bA_one _ | exact wA_one _ | assumption | (simp [Value.oneCell']; done)) ?_) | (refine m_store (v := Value.int _ _) M rfl rfl rfl rfl rfl (by first | assumption | (simp; done) | (simp; omega)) ?_) | (refine m_store (v := Value.slice _ _ _) M rfl rfl rfl rfl rfl (by first | assumption | (simp; done) | (simp; omega)) ?_) | (refine m_store (v := Value.bool _) M rfl rfl rfl rfl rfl (by first | assumption | (simp; done) | (simp; omega)) ?_) | (refine m_store (v := Value.string _) M rfl rfl rfl rfl rfl (by first | assumption | (simp; done) | (simp; omega)) ?_) | (refine m_store (v := Value.pointer _) M rfl rfl rfl rfl rfl (by first | assumption | (simp; done) | (simp; omega)) ?_)); clear M; (try clear wx); intro wx M; simp only [List.set_cons_zero, List.set_cons_succ, Nat.zero_add, List.nil_append] at M)
            | (with_reducible (show wpList _ _ _ (Oper.mk _ (.call (Call.mk (.builtin .append) _ _)) _ _ _ _ :: _) _ _); (first | (refine m_append1 M rfl rfl rfl (by first | rfl | omega | (simp; done)) rfl (by first | rfl | assumption | (simp; done) | (simp; omega)) (by first | exact bA_one _ | exact wA_one _ | assumption | (simp [Value.oneCell']; done)) (by first | assumption | (simp only [maxLen]; omega)) (by omega) ?_)); clear M; (try clear wx); intro _ _ wx M; simp only [List.set_cons_zero, List.set_cons_succ, Nat.zero_add, List.nil_append] at M))
          have hj := HJ.out
          go_roundg (gk - 1)
          case measure => omega
          case rel => exact ⟨j + 1, _, _, by omega, rfl, by go_num, by rw [← HS.out, ← List.append_assoc, ← bL_append]; exact M⟩
        · obtain rfl : j = 32 := by omega
          rw [List.take_of_length_le (by omega)] at M
          have HR : Hid (∀ w v, Rd w 1 v 64 (bL (a.1 ++ b.1)) → Ret Try.prog 102 #[.int .u8 (tag.toNat : Int), v] w fun r _ => r = .agg (bA (pairK tag a b).1)) := Lib.hid (fun w v h => l01Hash_c tag v (a.1 ++ b.1) w (by rw [HL.out]; exact h) (by rw [HL.out]; omega))
          clear hj
          go_wp2_with (first
            | (go_at_call 102; (with_reducible refine mem_call M (HR.out _ _ M.rdB) ?_); clear M; (try clear wx); rintro _ wx rfl _ M)
            | (with_reducible (show wpList _ _ _ (Oper.mk (some 4) (.box _ _) _ _ _ _ :: _) _ _); (first | (refine m_boxA M rfl rfl rfl ?_) | (refine m_box1 (v := Value.int _ _) M rfl rfl rfl rfl ?_) | (refine m_box1 (v := Value.slice _ _ _) M rfl rfl rfl rfl ?_) | (refine m_box1 (v := Value.bool _) M rfl rfl rfl rfl ?_) | (refine m_box1 (v := Value.string _) M rfl rfl rfl rfl ?_) | (refine m_box1 (v := Value.pointer _) M rfl rfl rfl rfl ?_)); clear M; (try clear wx); intro g4 wx M)
            | (with_reducible (show wpList _ _ _ (Oper.mk (some 5) (.box _ _) _ _ _ _ :: _) _ _); (first | (refine m_boxA M rfl rfl rfl ?_) | (refine m_box1 (v := Value.int _ _) M rfl rfl rfl rfl ?_) | (refine m_box1 (v := Value.slice _ _ _) M rfl rfl rfl rfl ?_) | (refine m_box1 (v := Value.bool _) M rfl rfl rfl rfl ?_) | (refine m_box1 (v := Value.string _) M rfl rfl rfl rfl ?_) | (refine m_box1 (v := Value.pointer _) M rfl rfl rfl rfl ?_)); clear M; (try clear wx); intro g5 wx M)
            | (with_reducible (show wpList _ _ _ (Oper.mk (some 6) (.alloc _) _ _ _ _ :: _) _ _); refine mem_new M rfl rfl ?_; clear M; (try clear wx); intro g6 wx M)
            | (with_reducible (show wpList _ _ _ (Oper.mk (some 10) (.buildSlice _ _ _) _ _ _ _ :: _) _ _); refine m_lit0 M rfl rfl ?_; clear M; (try clear wx); intro g10 wx M)
            | (with_reducible (show wpList _ _ _ (Oper.mk (some 19) (.buildSlice _ _ _) _ _ _ _ :: _) _ _); (first | (refine m_lit1A M rfl rfl rfl (by first | rfl | assumption | (simp; done) | (simp; omega)) (by decide) ?_) | (refine m_lit11 (v := Value.int _ _) M rfl rfl rfl rfl ?_) | (refine m_lit11 (v := Value.slice _ _ _) M rfl rfl rfl rfl ?_) | (refine m_lit11 (v := Value.bool _) M rfl rfl rfl rfl ?_) | (refine m_lit11 (v := Value.string _) M rfl rfl rfl rfl ?_) | (refine m_lit11 (v := Value.pointer _) M rfl rfl rfl rfl ?_)); clear M; (try clear wx); intro g19 wx M)
            | (with_reducible (show wpList _ _ _ (Oper.mk (some 29) (.buildSlice _ _ _) _ _ _ _ :: _) _ _); (first | (refine m_lit1A M rfl rfl rfl (by first | rfl | assumption | (simp; done) | (simp; omega)) (by decide) ?_) | (refine m_lit11 (v := Value.int _ _) M rfl rfl rfl rfl ?_) | (refine m_lit11 (v := Value.slice _ _ _) M rfl rfl rfl rfl ?_) | (refine m_lit11 (v := Value.bool _) M rfl rfl rfl rfl ?_) | (refine m_lit11 (v := Value.string _) M rfl rfl rfl rfl ?_) | (refine m_lit11 (v := Value.pointer _) M rfl rfl rfl rfl ?_)); clear M; (try clear wx); intro g29 wx M)
            | (with_reducible (show wpList _ _ _ (Oper.mk _ (.load _ _) _ _ _ _ :: _) _ _); (first | (refine m_load M rfl rfl rfl (by first | assumption | rfl) ?_) | (refine m_loadR M rfl rfl rfl (by first | rfl | assumption | (simp; done) | (simp; omega)) ?_)))
            | (with_reducible (show wpList _ _ _ (Oper.mk _ (.store _ _ _) _ _ _ _ :: _) _ _); (first | (refine m_storeR M rfl rfl rfl rfl (by first | rfl | assumption | (simp; done) | (simp; omega)) (by first | rfl | assumption | (simp; done) | (simp; omega)) (by first | exact bA_one _ | exact wA_one _ | assumption | (simp [Value.oneCell']; done)) ?_) | (refine m_store (v := Value.int _ _) M rfl rfl rfl rfl rfl (by first | assumption | (simp; done) | (simp; omega)) ?_) | (refine m_store (v := Value.slice _ _ _) M rfl rfl rfl rfl rfl (by first | assumption | (simp; done) | (simp; omega)) ?_) | (refine m_store (v := Value.bool _) M rfl rfl rfl rfl rfl (by first | assumption | (simp; done) | (simp; omega)) ?_) | (refine m_store (v := Value.string _) M rfl rfl rfl rfl rfl (by first | assumption | (simp; done) | (simp; omega)) ?_) | (refine m_store (v := Value.pointer _) M rfl rfl rfl rfl rfl (by first | assumption | (simp; done) | (simp; omega)) ?_)); clear M; (try clear wx); intro wx M; simp only [List.set_cons_zero, List.set_cons_succ, Nat.zero_add, List.nil_append] at M)
            | (with_reducible (show wpList _ _ _ (Oper.mk _ (.call (Call.mk (.builtin .append) _ _)) _ _ _ _ :: _) _ _); (first | (refine m_append1 M rfl rfl rfl (by first | rfl | omega | (simp; done)) rfl (by first | rfl | assumption | (simp; done) | (simp; omega)) (by first | exact bA_one _ | exact wA_one _ | assumption | (simp [Value.oneCell']; done)) (by first | assumption | (simp only [maxLen]; omega)) (by omega) ?_)); clear M; (try clear wx); intro _ _ wx M; simp only [List.set_cons_zero, List.set_cons_succ, Nat.zero_add, List.nil_append] at M))
          exact m_ret M rfl rfl rfl (by simp) rfl

end Go.Proofs.Ytmbhaoiahlbglaa

/- Walks: hashing. -/
import Derived.Test.YtmbhaoiahlbglaaHC
import Derived.Test.YtmbhaoiahlbglaaRegM
import Derived.Test.YtmbhaoiahlbglaaKM4
import Derived.Test.YtmbhaoiahlbglaaMem2
namespace Go.Proofs.Ytmbhaoiahlbglaa
open Go.RowKit
set_option linter.unusedVariables false
set_option linter.unusedSimpArgs false

/-- A state that has taken in some blocks. -/
def mixKs (s : List UInt32) (ks : List Ky) : List UInt32 := ks.foldl (fun s k => mixL s k.1) s
theorem mixKs_len (s : List UInt32) (hs : s.length = 8) (ks : List Ky) : (mixKs s ks).length = 8 := by
  induction ks generalizing s with
  | nil => exact hs
  | cons k ks ih => exact ih _ (mixL_length _ _)
theorem mixKs_snoc (s : List UInt32) (ks : List Ky) (k : Ky) : mixKs s (ks ++ [k]) = mixL (mixKs s ks) k.1 := by simp [mixKs]
/-- A state's bytes. -/
def stB (s : List UInt32) : Ky := ⟨(List.range 32).map fun i => UInt8.ofNat ((wt s (i / 4)).toNat / 256 ^ (i % 4)), by simp⟩
/-- The blocks of some bytes. -/
def padKs' (l : List UInt8) (c : Nat) : List Ky := blkK (padded l c) ((padded l c).length / 32)
/-- The key of some bytes held by a state, of c in all. -/
def endK (s : List UInt32) (l : List UInt8) (c : Nat) : Ky := stB (mixKs s (padKs' l c))
/-- The hash of some bytes. -/
def hashK (tag : UInt8) (l : List UInt8) : Ky := endK (startL tag) l l.length

set_option maxHeartbeats 1000000 in
set_option maxRecDepth 100000 in
theorem mixed_c (s : List UInt32) (hs : s.length = 8) (v : Value) (n : Nat) (ks : List Ky) (hks : ks.length = n) (w : World) (hn : n ≤ 1000000000) (hv : Rd w 32 v n (kyL ks)) :
    Ret Try.prog 138 #[.agg (wA s), v] w fun r _ => r = .agg (wA (mixKs s ks)) := by
  obtain ⟨b, cap, rfl⟩ := hv.shape
  have HV := Lib.hid hv
  have HK := Lib.hid hks
  refine ret_start fun wx M => ?_
  clear hv hks
  go_enter Try.func138, Try.ntmps138
  go_wp2_with (first
    | (with_reducible (show wpList _ _ _ (Oper.mk (some 2) (.box _ _) _ _ _ _ :: _) _ _); (first | (refine m_boxA M rfl rfl rfl ?_) | (refine m_box1 (v := Value.int _ _) M rfl rfl rfl rfl ?_) | (refine m_box1 (v := Value.slice _ _ _) M rfl rfl rfl rfl ?_) | (refine m_box1 (v := Value.bool _) M rfl rfl rfl rfl ?_) | (refine m_box1 (v := Value.string _) M rfl rfl rfl rfl ?_) | (refine m_box1 (v := Value.pointer _) M rfl rfl rfl rfl ?_)); clear M; (try clear wx); intro g2 wx M)
    | (with_reducible (show wpList _ _ _ (Oper.mk (some 4) (.alloc _) _ _ _ _ :: _) _ _); refine mem_new M rfl rfl ?_; clear M; (try clear wx); intro g4 wx M)
    | (with_reducible (show wpList _ _ _ (Oper.mk (some 6) (.alloc _) _ _ _ _ :: _) _ _); refine mem_new M rfl rfl ?_; clear M; (try clear wx); intro g6 wx M)
    | (with_reducible (show wpList _ _ _ (Oper.mk _ (.load _ _) _ _ _ _ :: _) _ _); (first | (refine m_load M rfl rfl rfl (by first | assumption | rfl) ?_) | (refine m_loadR M rfl rfl rfl (by first | rfl | assumption | (simp; done) | (simp; omega)) ?_)))
    | (with_reducible (show wpList _ _ _ (Oper.mk _ (.store _ _ _) _ _ _ _ :: _) _ _); (first | (refine m_storeR M rfl rfl rfl rfl (by first | rfl | assumption | (simp; done) | (simp; omega)) (by first | rfl | assumption | (simp; done) | (simp; omega)) (by first | exact bA_one _ | exact wA_one _ | assumption | (simp [Value.oneCell']; done)) ?_) | (refine m_store (v := Value.int _ _) M rfl rfl rfl rfl rfl (by first | assumption | (simp; done) | (simp; omega)) ?_) | (refine m_store (v := Value.slice _ _ _) M rfl rfl rfl rfl rfl (by first | assumption | (simp; done) | (simp; omega)) ?_) | (refine m_store (v := Value.bool _) M rfl rfl rfl rfl rfl (by first | assumption | (simp; done) | (simp; omega)) ?_) | (refine m_store (v := Value.string _) M rfl rfl rfl rfl rfl (by first | assumption | (simp; done) | (simp; omega)) ?_) | (refine m_store (v := Value.pointer _) M rfl rfl rfl rfl rfl (by first | assumption | (simp; done) | (simp; omega)) ?_)); clear M; (try clear wx); intro wx M; simp only [List.set_cons_zero, List.set_cons_succ, Nat.zero_add, List.nil_append] at M))
  go_loopg [9] n (fun q i wr => ∃ (j : Nat), j + q = n ∧ i = .int .i64 (j : Int) ∧ Mem w wr [.blk g4 134 (wA zero8), .blk g2 134 (wA (mixKs s (ks.take j)))])
  case atStart => exact ⟨0, by omega, rfl, M⟩
  case round =>
    obtain ⟨j, hj, rfl, M⟩ := hrel
    have hS := mixKs_len s hs (ks.take j)
    by_cases hlt : j < n
    · have hks := HK.out
      obtain ⟨g, o, rfl, hr⟩ := HV.out.open_ (by omega)
      have hjk : j < ks.length := by omega
      have C1 := Lib.hid (fun wx (hb : Up w wx) => kyL_range (hr wx hb) j hjk)
      have HE := Lib.hid (show mixKs s (ks.take (j + 1)) = mixL (mixKs s (ks.take j)) ks[j].1 by rw [List.take_succ_eq_append_getElem hjk, mixKs_snoc])
      have HJ := Lib.hid hj
      clear hr hj hks
      generalize (ks[j]'hjk) = k at *
      generalize mixKs s (ks.take j) = S at *
      have hml := mixL_length S k.1
      go_wp2_with (first
        | (go_at_call 159; (with_reducible refine mem_call M (Ret.of (implMixBlock_c S k.1 hS k.2 _)) ?_); clear M; (try clear wx); rintro _ wx rfl _ M)
        | (with_reducible (show wpList _ _ _ (Oper.mk (some 2) (.box _ _) _ _ _ _ :: _) _ _); (first | (refine m_boxA M rfl rfl rfl ?_) | (refine m_box1 (v := Value.int _ _) M rfl rfl rfl rfl ?_) | (refine m_box1 (v := Value.slice _ _ _) M rfl rfl rfl rfl ?_) | (refine m_box1 (v := Value.bool _) M rfl rfl rfl rfl ?_) | (refine m_box1 (v := Value.string _) M rfl rfl rfl rfl ?_) | (refine m_box1 (v := Value.pointer _) M rfl rfl rfl rfl ?_)); clear M; (try clear wx); intro g2 wx M)
        | (with_reducible (show wpList _ _ _ (Oper.mk (some 4) (.alloc _) _ _ _ _ :: _) _ _); refine mem_new M rfl rfl ?_; clear M; (try clear wx); intro g4 wx M)
        | (with_reducible (show wpList _ _ _ (Oper.mk (some 6) (.alloc _) _ _ _ _ :: _) _ _); refine mem_new M rfl rfl ?_; clear M; (try clear wx); intro g6 wx M)
        | (with_reducible (show wpList _ _ _ (Oper.mk _ (.load _ _) _ _ _ _ :: _) _ _); (first | (refine rd_loadA rfl rfl rfl (C1.out _ M.up) (Ky.len _) ?_) | (refine m_load M rfl rfl rfl (by first | assumption | rfl) ?_) | (refine m_loadR M rfl rfl rfl (by first | rfl | assumption | (simp; done) | (simp; omega)) ?_)))
        | (with_reducible (show wpList _ _ _ (Oper.mk _ (.store _ _ _) _ _ _ _ :: _) _ _); (first | (refine m_storeR M rfl rfl rfl rfl (by first | rfl | assumption | (simp; done) | (simp; omega)) (by first | rfl | assumption | (simp; done) | (simp; omega)) (by first | exact bA_one _ | exact wA_one _ | assumption | (simp [Value.oneCell']; done)) ?_) | (refine m_store (v := Value.int _ _) M rfl rfl rfl rfl rfl (by first | assumption | (simp; done) | (simp; omega)) ?_) | (refine m_store (v := Value.slice _ _ _) M rfl rfl rfl rfl rfl (by first | assumption | (simp; done) | (simp; omega)) ?_) | (refine m_store (v := Value.bool _) M rfl rfl rfl rfl rfl (by first | assumption | (simp; done) | (simp; omega)) ?_) | (refine m_store (v := Value.string _) M rfl rfl rfl rfl rfl (by first | assumption | (simp; done) | (simp; omega)) ?_) | (refine m_store (v := Value.pointer _) M rfl rfl rfl rfl rfl (by first | assumption | (simp; done) | (simp; omega)) ?_)); clear M; (try clear wx); intro wx M; simp only [List.set_cons_zero, List.set_cons_succ, Nat.zero_add, List.nil_append] at M))
      have M := M.tail
      have hj := HJ.out
      go_roundg (gk - 1)
      case measure => omega
      case rel => exact ⟨j + 1, by omega, by go_num, by rw [HE.out]; exact M⟩
    · have hks := HK.out
      have HE := Lib.hid (show ks.take j = ks from List.take_of_length_le (by omega))
      rw [HE.out] at M hS
      generalize hS2 : mixKs s ks = S at *
      have HS := Lib.hid hS2
      clear hj hks hS2
      go_wp2_with (first
        | (with_reducible (show wpList _ _ _ (Oper.mk (some 2) (.box _ _) _ _ _ _ :: _) _ _); (first | (refine m_boxA M rfl rfl rfl ?_) | (refine m_box1 (v := Value.int _ _) M rfl rfl rfl rfl ?_) | (refine m_box1 (v := Value.slice _ _ _) M rfl rfl rfl rfl ?_) | (refine m_box1 (v := Value.bool _) M rfl rfl rfl rfl ?_) | (refine m_box1 (v := Value.string _) M rfl rfl rfl rfl ?_) | (refine m_box1 (v := Value.pointer _) M rfl rfl rfl rfl ?_)); clear M; (try clear wx); intro g2 wx M)
        | (with_reducible (show wpList _ _ _ (Oper.mk (some 4) (.alloc _) _ _ _ _ :: _) _ _); refine mem_new M rfl rfl ?_; clear M; (try clear wx); intro g4 wx M)
        | (with_reducible (show wpList _ _ _ (Oper.mk (some 6) (.alloc _) _ _ _ _ :: _) _ _); refine mem_new M rfl rfl ?_; clear M; (try clear wx); intro g6 wx M)
        | (with_reducible (show wpList _ _ _ (Oper.mk _ (.load _ _) _ _ _ _ :: _) _ _); (first | (refine m_load M rfl rfl rfl (by first | assumption | rfl) ?_) | (refine m_loadR M rfl rfl rfl (by first | rfl | assumption | (simp; done) | (simp; omega)) ?_)))
        | (with_reducible (show wpList _ _ _ (Oper.mk _ (.store _ _ _) _ _ _ _ :: _) _ _); (first | (refine m_storeR M rfl rfl rfl rfl (by first | rfl | assumption | (simp; done) | (simp; omega)) (by first | rfl | assumption | (simp; done) | (simp; omega)) (by first | exact bA_one _ | exact wA_one _ | assumption | (simp [Value.oneCell']; done)) ?_) | (refine m_store (v := Value.int _ _) M rfl rfl rfl rfl rfl (by first | assumption | (simp; done) | (simp; omega)) ?_) | (refine m_store (v := Value.slice _ _ _) M rfl rfl rfl rfl rfl (by first | assumption | (simp; done) | (simp; omega)) ?_) | (refine m_store (v := Value.bool _) M rfl rfl rfl rfl rfl (by first | assumption | (simp; done) | (simp; omega)) ?_) | (refine m_store (v := Value.string _) M rfl rfl rfl rfl rfl (by first | assumption | (simp; done) | (simp; omega)) ?_) | (refine m_store (v := Value.pointer _) M rfl rfl rfl rfl rfl (by first | assumption | (simp; done) | (simp; omega)) ?_)); clear M; (try clear wx); intro wx M; simp only [List.set_cons_zero, List.set_cons_succ, Nat.zero_add, List.nil_append] at M))
      exact m_ret M rfl rfl rfl (by simp [hS]) (by rw [HS.out])

theorem appendLittle4_r (n : Nat) (w : World) (hn : n < 2 ^ 64) : Ret Try.prog 158 #[.slice none 0 0, .int .u64 (n : Int), .int .i64 4] w fun r w' => OwnR w w' 5 1 r 4 (bL (leB n 4)) :=
  Calls.mono (appendLittle_c none 0 0 n 4 [] w w [] ((Mem.start w).nil_own _ _) (by omega) hn (by omega)) fun e w' ⟨b, cap, he, M⟩ => ⟨_, he, ⟨b, cap, by simp, by simpa using M.out_own (p := 0) rfl⟩, M.up⟩
theorem OwnR.rd {w w' : World} {e : TypeId} {size n : Nat} {r : Value} {xs : List Value} (h : OwnR w w' e size r n xs) (h1 : ∀ u ∈ xs, u.oneCell' = true) : Rd w' size r n xs := by
  obtain ⟨b, cap, rfl, ho⟩ := h
  exact own_rd ho h1
/-- The first j words as bytes, zeros behind. -/
def stF (s : List UInt32) (j : Nat) : List UInt8 := (List.range 32).map fun i => if i < 4 * j then UInt8.ofNat ((wt s (i / 4)).toNat / 256 ^ (i % 4)) else 0
theorem stF_len (s : List UInt32) (j : Nat) : (stF s j).length = 32 := by simp [stF]
theorem stF_zero (s : List UInt32) : stF s 0 = zero32 := by
  unfold stF zero32
  apply List.ext_getElem
  · simp
  · intro i h1 h2
    rw [List.getElem_replicate]
    simp
theorem stF_full (s : List UInt32) : stF s 8 = (stB s).1 := by
  show _ = (List.range 32).map fun i => UInt8.ofNat ((wt s (i / 4)).toNat / 256 ^ (i % 4))
  unfold stF
  apply List.map_congr_left
  intro i hi
  simp at hi
  simp [hi]
theorem stF_put (s : List UInt32) (j : Nat) (hj : j < 8) : putC (bL (leB (wt s j).toNat 4)) (4 * j) (bA (stF s j)) = bA (stF s (j + 1)) := by
  apply Array.ext_getElem?
  intro i
  by_cases hi : i < 32
  · rw [putC_get _ _ _ _ (by rw [bA_size, stF_len]; exact hi), bL_length, leB_len]
    simp only [bA_get, bL, List.getElem?_map, stF, leB]
    by_cases h : 4 * j ≤ i ∧ i < 4 * j + 4
    · have e1 : i / 4 = j := by omega
      have e2 : i - 4 * j = i % 4 := by omega
      have e3 : i % 4 < 4 := by omega
      rw [if_pos h, e2]
      simp [hi, e3, e1, show i < 4 * (j + 1) by omega]
    · rw [if_neg h]
      by_cases h2 : i < 4 * j
      · simp [hi, h2, show i < 4 * (j + 1) by omega]
      · simp [hi, h2, show ¬ i < 4 * (j + 1) by omega]
  · rw [Array.getElem?_eq_none (by rw [putC_size, bA_size, stF_len]; omega), Array.getElem?_eq_none (by rw [bA_size, stF_len]; omega)]
set_option maxHeartbeats 1000000 in
set_option maxRecDepth 100000 in
theorem keyOf_c (s : List UInt32) (hs : s.length = 8) (w : World) : Ret Try.prog 137 #[.agg (wA s)] w fun r _ => r = .agg (bA (stB s).1) := by
  refine ret_start fun wx M => ?_
  go_enter Try.func137, Try.ntmps137
  go_wp2_with (first
    | (with_reducible (show wpList _ _ _ (Oper.mk (some 1) (.box _ _) _ _ _ _ :: _) _ _); (first | (refine m_boxA M rfl rfl rfl ?_) | (refine m_box1 (v := Value.int _ _) M rfl rfl rfl rfl ?_) | (refine m_box1 (v := Value.slice _ _ _) M rfl rfl rfl rfl ?_) | (refine m_box1 (v := Value.bool _) M rfl rfl rfl rfl ?_) | (refine m_box1 (v := Value.string _) M rfl rfl rfl rfl ?_) | (refine m_box1 (v := Value.pointer _) M rfl rfl rfl rfl ?_)); clear M; (try clear wx); intro g1 wx M)
    | (with_reducible (show wpList _ _ _ (Oper.mk (some 2) (.alloc _) _ _ _ _ :: _) _ _); refine mem_new M rfl rfl ?_; clear M; (try clear wx); intro g2 wx M)
    | (with_reducible (show wpList _ _ _ (Oper.mk (some 3) (.alloc _) _ _ _ _ :: _) _ _); refine mem_new M rfl rfl ?_; clear M; (try clear wx); intro g3 wx M)
    | (with_reducible (show wpList _ _ _ (Oper.mk _ (.load _ _) _ _ _ _ :: _) _ _); (first | (refine m_load M rfl rfl rfl (by first | assumption | rfl) ?_) | (refine m_loadR M rfl rfl rfl (by first | rfl | assumption | (simp; done) | (simp; omega)) ?_)))
    | (with_reducible (show wpList _ _ _ (Oper.mk _ (.store _ _ _) _ _ _ _ :: _) _ _); (first | (refine m_storeR M rfl rfl rfl rfl (by first | rfl | assumption | (simp; done) | (simp; omega)) (by first | rfl | assumption | (simp; done) | (simp; omega)) (by first | exact bA_one _ | exact wA_one _ | assumption | (simp [Value.oneCell']; done)) ?_) | (refine m_store (v := Value.int _ _) M rfl rfl rfl rfl rfl (by first | assumption | (simp; done) | (simp; omega)) ?_) | (refine m_store (v := Value.slice _ _ _) M rfl rfl rfl rfl rfl (by first | assumption | (simp; done) | (simp; omega)) ?_) | (refine m_store (v := Value.bool _) M rfl rfl rfl rfl rfl (by first | assumption | (simp; done) | (simp; omega)) ?_) | (refine m_store (v := Value.string _) M rfl rfl rfl rfl rfl (by first | assumption | (simp; done) | (simp; omega)) ?_) | (refine m_store (v := Value.pointer _) M rfl rfl rfl rfl rfl (by first | assumption | (simp; done) | (simp; omega)) ?_)); clear M; (try clear wx); intro wx M; simp only [List.set_cons_zero, List.set_cons_succ, Nat.zero_add, List.nil_append] at M)
    | (with_reducible (show wpList _ _ _ (Oper.mk _ (.build _ _) _ _ _ _ :: _) _ _); refine m_buildZ rfl rfl ?_))
  go_loopg [8] 8 (fun q i wr => ∃ (j : Nat), j + q = 8 ∧ i = .int .i64 (j : Int) ∧ Mem w wr [.blk g3 25 (bA (stF s j)), .blk g2 25 (bA zero32), .blk g1 134 (wA s)])
  case atStart => exact ⟨0, by omega, rfl, by rw [stF_zero]; exact M⟩
  case round =>
    obtain ⟨j, hj, rfl, M⟩ := hrel
    by_cases hlt : j < 8
    · have c1 := run_index_arr (P := Try.prog) Try.underlying134 Try.underlying133 info_u32 hlt (wA_at s j (by omega))
      have hwb := (wt s j).toNat_lt
      have HP := Lib.hid (stF_put s j hlt)
      have HJ := Lib.hid hj
      clear hj
      generalize wt s j = x at *
      go_wp2_with fail
      refine region_mono (m := 6) mixedOrders_ (by kernel_rfl) (by kernel_rfl)
        (fun | 0 => fun vq _ => vq = .int .i64 (j : Int) | 1 => fun vq _ => vq = .int .i64 (4 * (j : Int)) | 2 => fun vq _ => vq = .slice (some ⟨g3, 4 * j * 1, none⟩) (32 - 4 * j) (32 - 4 * j) | 3 => fun vq _ => vq = .int .u32 (x.toNat : Int) | 4 => fun vq _ => vq = .int .u64 (x.toNat : Int) | 5 => fun v wx => ∃ b cap, v = .slice b 4 cap ∧ Rd wx 1 v 4 (bL (leB x.toNat 4)) | _ => fun _ _ => True)
        (fun wx => Mem w wx [.blk g3 25 (bA (stF s j)), .blk g2 25 (bA zero32), .blk g1 134 (wA s)]) ?_ ?_ ?_ ?_ ?_
      · intro j hj v w1 w2 hb h
        match j, hj with
        | 0, _ => exact h
        | 1, _ => exact h
        | 2, _ => exact h
        | 3, _ => exact h
        | 4, _ => exact h
        | 5, _ => exact (let ⟨b, cap, e, r⟩ := h; ⟨b, cap, e, r.up hb⟩)
      · intro w1 w2 hb h
        exact h.grow hb
      · exact M.grow ((Up.refl _).drew)
      · rintro i o hi ho av wv fr gM dep
        match i, hi with
        | 0, _ =>
          obtain rfl := Option.some.inj ho
          exact st_mov rfl (fr.eval rfl) rfl
        | 1, _ =>
          obtain rfl := Option.some.inj ho
          exact st_bin rfl (rfl) (dep ⟨0, .data⟩ (by simp) rfl) (bin_mul _ _ _ (i64_in_ _ (by omega)) _ _ _) rfl
        | 2, _ =>
          obtain rfl := Option.some.inj ho
          exact st_sliceL rfl (fr.eval rfl) (dep ⟨1, .data⟩ (by simp) rfl) (slice_arr Try.underlying25 (inferInstance : ElT Try.prog 5 1 1 _) g3 (4 * j) (by omega) _) rfl
        | 3, _ =>
          obtain rfl := Option.some.inj ho
          exact st_mov rfl (fr.eval rfl) rfl
        | 4, _ =>
          obtain rfl := Option.some.inj ho
          exact st_convert rfl (dep ⟨3, .data⟩ (by simp) rfl) (conv_u64 x _) rfl
        | 5, _ =>
          obtain rfl := Option.some.inj ho
          have d1 := dep ⟨4, .data⟩ (by simp) rfl
          exact st_ret3 rfl (fun _ _ => by kernel_rfl) (rfl) d1 (rfl) (appendLittle4_r x.toNat _ (by omega)) (fun r w' h _ => by obtain ⟨b, cap, e, _⟩ := id h; exact ⟨b, cap, e, h.rd (bL_one _)⟩)
      · rintro vs wv gM hf
        have f0 : vs 0 = .int .i64 (j : Int) := hf 0 (by omega)
        have f1 : vs 1 = .int .i64 (4 * (j : Int)) := hf 1 (by omega)
        have f2 : vs 2 = .slice (some ⟨g3, 4 * j * 1, none⟩) (32 - 4 * j) (32 - 4 * j) := hf 2 (by omega)
        have f3 : vs 3 = .int .u32 (x.toNat : Int) := hf 3 (by omega)
        have f4 : vs 4 = .int .u64 (x.toNat : Int) := hf 4 (by omega)
        have f5 := hf 5 (by omega)
        obtain ⟨b5, cap5, e5, r5⟩ := f5
        rw [e5] at r5
        simp only [putAll, Act.put, List.getElem?_toArray, List.getElem?_cons_zero, List.getElem?_cons_succ, Option.bind_some, List.setIfInBounds_toArray, List.set_cons_zero, List.set_cons_succ, List.drop_succ_cons, List.drop_zero, List.drop_nil, f2, e5]
        clear f0 f1 f2 f3 f4 e5 hf
        refine m_copy gM rfl rfl rfl rfl r5 (by omega) (by simp [stF_len]; omega) ?_
        clear gM r5 M
        intro wx M
        simp only [List.set_cons_zero, List.set_cons_succ, Nat.zero_add, List.nil_append] at M
        rw [Nat.mul_one, HP.out] at M
        go_wp2_with fail
        have hj := HJ.out
        go_roundg (gk - 1)
        case measure => omega
        case rel => exact ⟨j + 1, by omega, by go_num, M⟩
    · obtain rfl : j = 8 := by omega
      rw [stF_full] at M
      clear hj
      go_wp2_with (first
        | (with_reducible (show wpList _ _ _ (Oper.mk (some 1) (.box _ _) _ _ _ _ :: _) _ _); (first | (refine m_boxA M rfl rfl rfl ?_) | (refine m_box1 (v := Value.int _ _) M rfl rfl rfl rfl ?_) | (refine m_box1 (v := Value.slice _ _ _) M rfl rfl rfl rfl ?_) | (refine m_box1 (v := Value.bool _) M rfl rfl rfl rfl ?_) | (refine m_box1 (v := Value.string _) M rfl rfl rfl rfl ?_) | (refine m_box1 (v := Value.pointer _) M rfl rfl rfl rfl ?_)); clear M; (try clear wx); intro g1 wx M)
        | (with_reducible (show wpList _ _ _ (Oper.mk (some 2) (.alloc _) _ _ _ _ :: _) _ _); refine mem_new M rfl rfl ?_; clear M; (try clear wx); intro g2 wx M)
        | (with_reducible (show wpList _ _ _ (Oper.mk (some 3) (.alloc _) _ _ _ _ :: _) _ _); refine mem_new M rfl rfl ?_; clear M; (try clear wx); intro g3 wx M)
        | (with_reducible (show wpList _ _ _ (Oper.mk _ (.load _ _) _ _ _ _ :: _) _ _); (first | (refine m_load M rfl rfl rfl (by first | assumption | rfl) ?_) | (refine m_loadR M rfl rfl rfl (by first | rfl | assumption | (simp; done) | (simp; omega)) ?_)))
        | (with_reducible (show wpList _ _ _ (Oper.mk _ (.store _ _ _) _ _ _ _ :: _) _ _); (first | (refine m_storeR M rfl rfl rfl rfl (by first | rfl | assumption | (simp; done) | (simp; omega)) (by first | rfl | assumption | (simp; done) | (simp; omega)) (by first | exact bA_one _ | exact wA_one _ | assumption | (simp [Value.oneCell']; done)) ?_) | (refine m_store (v := Value.int _ _) M rfl rfl rfl rfl rfl (by first | assumption | (simp; done) | (simp; omega)) ?_) | (refine m_store (v := Value.slice _ _ _) M rfl rfl rfl rfl rfl (by first | assumption | (simp; done) | (simp; omega)) ?_) | (refine m_store (v := Value.bool _) M rfl rfl rfl rfl rfl (by first | assumption | (simp; done) | (simp; omega)) ?_) | (refine m_store (v := Value.string _) M rfl rfl rfl rfl rfl (by first | assumption | (simp; done) | (simp; omega)) ?_) | (refine m_store (v := Value.pointer _) M rfl rfl rfl rfl rfl (by first | assumption | (simp; done) | (simp; omega)) ?_)); clear M; (try clear wx); intro wx M; simp only [List.set_cons_zero, List.set_cons_succ, Nat.zero_add, List.nil_append] at M)
        | (with_reducible (show wpList _ _ _ (Oper.mk _ (.build _ _) _ _ _ _ :: _) _ _); refine m_buildZ rfl rfl ?_))
      exact m_ret M rfl rfl rfl (by simp) rfl

set_option maxHeartbeats 1000000 in
set_option maxRecDepth 100000 in
theorem hash_c (tag : UInt8) (v : Value) (l : List UInt8) (w : World) (hv : Rd w 1 v l.length (bL l)) (hl : l.length ≤ 100000000) :
    Ret Try.prog 105 #[.int .u8 (tag.toNat : Int), v] w fun r _ => r = .agg (bA (hashK tag l).1) := by
  obtain ⟨b, cap, rfl⟩ := hv.shape
  have HV := Lib.hid hv
  have hz := padZ_lt l.length
  have hpl : (padB l.length l.length).length ≤ 50 := by rw [padB_len]; omega
  have hql : (padded l l.length).length ≤ 200000000 := by rw [padded_len]; omega
  have hs := startL_length tag
  refine ret_start fun wx M => ?_
  clear hv
  go_enter Try.func105, Try.ntmps105
  go_wp2_with (first
    | (go_at_call 130; (with_reducible refine mem_call M (sizeByte_c _ _ _ _) ?_); clear M; (try clear wx); rintro _ wx rfl _ M)
    | (go_at_call 136; (with_reducible refine mem_callO M (padding_c l.length _ (by omega)) ?_); clear M; (try clear wx); intro b11 cap11 wx M)
    | (with_reducible (show wpList _ _ _ (Oper.mk (some 12) (.buildSlice _ _ _) _ _ _ _ :: _) _ _); refine m_lit2 (v0 := Value.slice _ _ _) (v1 := Value.slice _ _ _) M rfl rfl rfl rfl rfl rfl ?_; clear M; (try clear wx); intro g12 wx M)
    | (with_reducible (show wpList _ _ _ (Oper.mk (some 4) (.alloc _) _ _ _ _ :: _) _ _); refine mem_new M rfl rfl ?_; clear M; (try clear wx); intro g4 wx M)
    | (with_reducible (show wpList _ _ _ (Oper.mk _ (.store _ _ _) _ _ _ _ :: _) _ _); (first | (refine m_storeR M rfl rfl rfl rfl (by first | rfl | assumption | (simp; done) | (simp; omega)) (by first | rfl | assumption | (simp; done) | (simp; omega)) (by first | exact bA_one _ | exact wA_one _ | assumption | (simp [Value.oneCell']; done)) ?_) | (refine m_store (v := Value.int _ _) M rfl rfl rfl rfl rfl (by first | assumption | (simp; done) | (simp; omega)) ?_) | (refine m_store (v := Value.slice _ _ _) M rfl rfl rfl rfl rfl (by first | assumption | (simp; done) | (simp; omega)) ?_) | (refine m_store (v := Value.bool _) M rfl rfl rfl rfl rfl (by first | assumption | (simp; done) | (simp; omega)) ?_) | (refine m_store (v := Value.string _) M rfl rfl rfl rfl rfl (by first | assumption | (simp; done) | (simp; omega)) ?_) | (refine m_store (v := Value.pointer _) M rfl rfl rfl rfl rfl (by first | assumption | (simp; done) | (simp; omega)) ?_)); clear M; (try clear wx); intro wx M; simp only [List.set_cons_zero, List.set_cons_succ, Nat.zero_add, List.nil_append] at M))
  refine mem_callO M (concat2_c l (padB l.length l.length) M rfl rfl (HV.out.up M.up) M.rdB (by omega)) ?_
  rw [show l ++ padB l.length l.length = padded l l.length from rfl]
  have HE := Lib.hid (show (hashK tag l) = stB (mixKs (startL tag) (blkK (padded l l.length) ((padded l l.length).length / 32))) from rfl)
  generalize padded l l.length = q at *
  clear M hz hpl
  intro b13 cap13 wx M
  go_wp2_with fail
  refine Calls.mono (blocks_c _ q _ M.rdB (by omega)) ?_
  rintro e wy ⟨r, rfl, ⟨b, cap, b', cap', rfl, ho, -⟩, hb⟩
  have M := M.addO hb ho
  have hkl : q.length / 32 ≤ 1000000000 := by omega
  clear ho hb
  generalize q.length / 32 = n at *
  go_wp2_with (first
    | (go_at_call 139; (with_reducible refine mem_call M (Ret.of (implStartState_c tag _)) ?_); clear M; (try clear wx); rintro _ wx rfl _ M)
    | (go_at_call 138; (with_reducible refine mem_call M (mixed_c (startL tag) hs _ n (blkK q n) (blkK_len _ _) _ hkl (M.rdO (kyL_one _))) ?_); clear M; (try clear wx); rintro _ wx rfl _ M)
    | (go_at_call 137; (with_reducible refine mem_call M (keyOf_c _ (mixKs_len _ hs _) _) ?_); clear M; (try clear wx); rintro _ wx rfl _ M)
    | (with_reducible (show wpList _ _ _ (Oper.mk (some 4) (.alloc _) _ _ _ _ :: _) _ _); refine mem_new M rfl rfl ?_; clear M; (try clear wx); intro g4 wx M)
    | (with_reducible (show wpList _ _ _ (Oper.mk _ (.store _ _ _) _ _ _ _ :: _) _ _); (first | (refine m_storeR M rfl rfl rfl rfl (by first | rfl | assumption | (simp; done) | (simp; omega)) (by first | rfl | assumption | (simp; done) | (simp; omega)) (by first | exact bA_one _ | exact wA_one _ | assumption | (simp [Value.oneCell']; done)) ?_) | (refine m_store (v := Value.int _ _) M rfl rfl rfl rfl rfl (by first | assumption | (simp; done) | (simp; omega)) ?_) | (refine m_store (v := Value.slice _ _ _) M rfl rfl rfl rfl rfl (by first | assumption | (simp; done) | (simp; omega)) ?_) | (refine m_store (v := Value.bool _) M rfl rfl rfl rfl rfl (by first | assumption | (simp; done) | (simp; omega)) ?_) | (refine m_store (v := Value.string _) M rfl rfl rfl rfl rfl (by first | assumption | (simp; done) | (simp; omega)) ?_) | (refine m_store (v := Value.pointer _) M rfl rfl rfl rfl rfl (by first | assumption | (simp; done) | (simp; omega)) ?_)); clear M; (try clear wx); intro wx M; simp only [List.set_cons_zero, List.set_cons_succ, Nat.zero_add, List.nil_append] at M))
  exact m_ret M rfl rfl rfl (by simp) (by rw [HE.out])

end Go.Proofs.Ytmbhaoiahlbglaa

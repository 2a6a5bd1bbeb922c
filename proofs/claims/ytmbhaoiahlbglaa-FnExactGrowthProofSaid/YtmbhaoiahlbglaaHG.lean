/- Walks: the key of peaks, the proof of growth. -/
import Derived.Test.YtmbhaoiahlbglaaHX
import Derived.Test.YtmbhaoiahlbglaaHY
import Derived.Test.YtmbhaoiahlbglaaHZ
namespace Go.Proofs.Ytmbhaoiahlbglaa
open Go.RowKit
set_option linter.unusedVariables false
set_option linter.unusedSimpArgs false

section
variable {P : Program} {ops : Array Oper} {rest : List Oper} {o : Oper} {a : Act} {w : World} {Q : Exit → Act → World → Prop}
/-- The address of an element, the index given. -/
theorem m_ix (hgd : o.guard = none) {t : TypeId} {x y : Operand} (ho : o.op = .indexAddr t x y) {e : TypeId} [ht : SliceT P t e] {size bytes : Nat} {z : Value} [he : ElT P e size bytes z]
    {g off n cap : Nat} (hx : a.eval x = .slice (some ⟨g, off, none⟩) n cap) (i : Nat) (hy : a.eval y = .int .i64 (i : Int)) (hi : i < n)
    (k : wpList P ops Q rest (a.put o.dst (.pointer (some ⟨g, off + i * size, none⟩))) w) : wpList P ops Q (o :: rest) a w :=
  wpList_plain hgd fun _ hK => by
    have hr := ix_slice (P := P) (t := t) g off n cap i hi w
    unfold Oper.wp execOp
    simp only [ho, hx, hy, Sem.run_bind, hr, Result.andThen_ok, Sem.run_pure]
    exact hK _ _ k
end

set_option maxHeartbeats 1000000 in
set_option maxRecDepth 100000 in
theorem l03Ones9_c (n : Nat) (hn : n < 512) (w : World) : Ret Try.prog 107 #[.int .i64 (n : Int)] w fun r _ => r = .int .i64 (onesN 9 n : Int) := by
  obtain ⟨T, hT⟩ : ∃ T, T = onesN 9 n := ⟨_, rfl⟩
  rw [← hT]
  have HT := Lib.hid hT
  clear hT
  refine ret_start fun wx M => ?_
  go_enter Try.func107, Try.ntmps107
  go_wp2_with fail
  go_loopg [0, 3] 9 (fun q x y wr => ∃ (k t : Nat), x = .int .i64 (k : Int) ∧ y = .int .i64 (t : Int) ∧ k < 2 ^ q ∧ k < 512 ∧ t + q ≤ 9 ∧ Hid (t + onesN q k = T) ∧ Mem w wr [])
  case atStart => exact ⟨n, 0, rfl, rfl, hn, hn, by omega, Lib.hid (by rw [Nat.zero_add]; exact HT.out.symm), M⟩
  case round =>
    obtain ⟨k, t, rfl, rfl, hkq, hk, ht, HB, M⟩ := hrel
    by_cases h0 : 0 < k
    · obtain ⟨q, rfl⟩ : ∃ q, gk = q + 1 := by
        rcases gk with _ | q
        · simp at hkq; omega
        · exact ⟨q, rfl⟩
      have HQ := Lib.hid hkq
      have hb := HB.out
      have hle := onesN_le q (k / 2)
      clear hkq
      go_wp2_with fail
      have hkq := HQ.out
      have ht' : t + k % 2 + q ≤ 9 := by omega
      go_roundg q
      case measure => omega
      case rel => exact ⟨k / 2, t + k % 2, by go_num, by go_num, by rw [Nat.pow_succ] at hkq; omega, by omega, ht', Lib.hid (by rw [← hb]; simp only [onesN]; omega), M⟩
    · obtain rfl : k = 0 := by omega
      rw [onesN_zero] at HB
      clear hkq
      go_wp2_with fail
      go_ret
      exact ⟨_, rfl, by rw [← HB.out]; rfl, M.up⟩
theorem onesN9_0 (n : Nat) (hn : n < 512) (h : onesN 9 n = 0) : n = 0 := by
  revert n
  decide +kernel

theorem onesCount9_c (n : Nat) (hn : n < 512) (w : World) : Ret Try.prog 108 #[.int .u64 (n : Int)] w fun r _ => r = .int .i64 (onesN 9 n : Int) := by
  refine ret_start fun wx M => ?_
  go_enter Try.func108, Try.ntmps108
  go_wp2_with fail
  go_ret
  refine ⟨_, rfl, ?_, M.up⟩
  show Value.int .i64 _ = Value.int .i64 _
  congr 1
  clear M
  revert n
  decide +kernel

/-- What is said of peaks and a number of leaves up to 256. -/
def gvD (m : Nat) (n : Int) : Int := if 256 < m then 3 else if 0 ≤ n ∧ n ≤ 256 then (if m = onesN 9 n.toNat then 0 else 4) else 2
theorem gvD_cases (m : Nat) (n : Int) : (gvD m n = 0 ∧ ∃ k : Nat, n = (k : Int) ∧ k ≤ 256 ∧ m = onesN 9 k) ∨ gvD m n = 2 ∨ gvD m n = 3 ∨ gvD m n = 4 := by
  unfold gvD
  by_cases h1 : 256 < m
  · rw [if_pos h1]; simp
  · rw [if_neg h1]
    by_cases h2 : 0 ≤ n ∧ n ≤ 256
    · rw [if_pos h2]
      by_cases h3 : m = onesN 9 n.toNat
      · rw [if_pos h3]; exact .inl ⟨rfl, n.toNat, by omega, by omega, h3⟩
      · rw [if_neg h3]; simp
    · rw [if_neg h2]; simp

set_option maxHeartbeats 1000000 in
set_option maxRecDepth 100000 in
theorem l03Given9_c (b : Option Addr) (m cap : Nat) (n : Int) (w : World) (hm : m ≤ 1048576) : Ret Try.prog 58 #[.slice b m cap, .int .i64 n, .int .i64 256] w fun r _ => r = .int .i64 (gvD m n) := by
  refine ret_start fun wx M => ?_
  by_cases hbig : 256 < m
  · have HE := Lib.hid (show gvD m n = 3 by rw [gvD, if_pos hbig])
    go_enter Try.func58, Try.ntmps58
    go_wp2_with fail
    go_ret
    exact ⟨_, rfl, by rw [HE.out]; rfl, M.up⟩
  · by_cases hn : 0 ≤ n ∧ n ≤ 256
    · have HI := Lib.hid (l00In_is n 0 256 true (by simp [hn]))
      obtain ⟨n, rfl⟩ : ∃ k : Nat, n = (k : Int) := ⟨n.toNat, by omega⟩
      have HE := Lib.hid (show gvD m n = if m = onesN 9 n then 0 else 4 by rw [gvD, if_neg hbig, if_pos hn]; rfl)
      have HO := Lib.hid (l03Ones9_c n (by omega))
      have hn2 : n ≤ 256 := by omega
      clear hn
      generalize onesN 9 n = t at *
      by_cases hmt : m = t
      · subst hmt
        rw [if_pos rfl] at HE
        go_enter Try.func58, Try.ntmps58
        go_wp2_with (first
          | (go_at_call 62; (with_reducible refine mem_call M (HI.out _) ?_); clear M; (try clear wx); rintro _ wx rfl _ M)
          | (go_at_call 107; (with_reducible refine mem_call M (HO.out _) ?_); clear M; (try clear wx); rintro _ wx rfl _ M))
        go_ret
        exact ⟨_, rfl, by rw [HE.out]; rfl, M.up⟩
      · rw [if_neg hmt] at HE
        go_enter Try.func58, Try.ntmps58
        go_wp2_with (first
          | (go_at_call 62; (with_reducible refine mem_call M (HI.out _) ?_); clear M; (try clear wx); rintro _ wx rfl _ M)
          | (go_at_call 107; (with_reducible refine mem_call M (HO.out _) ?_); clear M; (try clear wx); rintro _ wx rfl _ M))
        go_ret
        exact ⟨_, rfl, by rw [HE.out]; rfl, M.up⟩
    · have HI := Lib.hid (l00In_is n 0 256 false (by simp; omega))
      have HE := Lib.hid (show gvD m n = 2 by rw [gvD, if_neg hbig, if_neg hn])
      clear hn
      go_enter Try.func58, Try.ntmps58
      go_wp2_with (first
        | (go_at_call 62; (with_reducible refine mem_call M (HI.out _) ?_); clear M; (try clear wx); rintro _ wx rfl _ M))
      go_ret
      exact ⟨_, rfl, by rw [HE.out]; rfl, M.up⟩

set_option maxHeartbeats 1000000 in
set_option maxRecDepth 100000 in
theorem peaksCode9_c (b : Option Addr) (m cap : Nat) (n : Int) (w : World) (hm : m ≤ 1048576) : Ret Try.prog 60 #[.slice b m cap, .int .i64 n, .int .i64 256] w fun r _ => r = .int .i64 (gvD m n) := by
  refine ret_start fun wx M => ?_
  by_cases hbig : 256 < m
  · have HE := Lib.hid (show gvD m n = 3 by rw [gvD, if_pos hbig])
    go_enter Try.func60, Try.ntmps60
    go_wp2_with fail
    go_ret
    exact ⟨_, rfl, by rw [HE.out]; rfl, M.up⟩
  · by_cases hn : 0 ≤ n ∧ n ≤ 256
    · have HI := Lib.hid (within_is n 0 256 true (by simp [hn]))
      obtain ⟨n, rfl⟩ : ∃ k : Nat, n = (k : Int) := ⟨n.toNat, by omega⟩
      have HE := Lib.hid (show gvD m n = if m = onesN 9 n then 0 else 4 by rw [gvD, if_neg hbig, if_pos hn]; rfl)
      have HO := Lib.hid (onesCount9_c n (by omega))
      have hn2 : n ≤ 256 := by omega
      clear hn
      generalize onesN 9 n = t at *
      by_cases hmt : m = t
      · subst hmt
        rw [if_pos rfl] at HE
        go_enter Try.func60, Try.ntmps60
        go_wp2_with (first
          | (go_at_call 65; (with_reducible refine mem_call M (HI.out _) ?_); clear M; (try clear wx); rintro _ wx rfl _ M)
          | (go_at_call 108; (with_reducible refine mem_call M (HO.out _) ?_); clear M; (try clear wx); rintro _ wx rfl _ M))
        go_ret
        exact ⟨_, rfl, by rw [HE.out]; rfl, M.up⟩
      · rw [if_neg hmt] at HE
        go_enter Try.func60, Try.ntmps60
        go_wp2_with (first
          | (go_at_call 65; (with_reducible refine mem_call M (HI.out _) ?_); clear M; (try clear wx); rintro _ wx rfl _ M)
          | (go_at_call 108; (with_reducible refine mem_call M (HO.out _) ?_); clear M; (try clear wx); rintro _ wx rfl _ M))
        go_ret
        exact ⟨_, rfl, by rw [HE.out]; rfl, M.up⟩
    · have HI := Lib.hid (within_is n 0 256 false (by simp; omega))
      have HE := Lib.hid (show gvD m n = 2 by rw [gvD, if_neg hbig, if_neg hn])
      clear hn
      go_enter Try.func60, Try.ntmps60
      go_wp2_with (first
        | (go_at_call 65; (with_reducible refine mem_call M (HI.out _) ?_); clear M; (try clear wx); rintro _ wx rfl _ M))
      go_ret
      exact ⟨_, rfl, by rw [HE.out]; rfl, M.up⟩

/-- The key of peaks, of which there is one at least. -/
def ofK : List Ky → Ky
  | [] => zeroKy
  | [k] => k
  | k :: l :: ks => nodeK k (ofK (l :: ks))
theorem ofK_last (ks : List Ky) (n : Nat) (h : ks.length = n + 1) : ofK (ks.drop n) = ks[n]'(by omega) := by
  rw [List.drop_eq_getElem_cons (by omega), List.drop_of_length_le (by omega)]
  rfl
theorem ofK_step (ks : List Ky) (i : Nat) (h : i + 1 < ks.length) : ofK (ks.drop i) = nodeK (ks[i]'(by omega)) (ofK (ks.drop (i + 1))) := by
  rw [List.drop_eq_getElem_cons (i := i) (by omega), List.drop_eq_getElem_cons (i := i + 1) h]
  rfl
/-- The key of the list with some peaks. -/
def kopK (ks : List Ky) : Ky := if ks.length = 0 then listK [] else ofK ks

set_option maxHeartbeats 2000000 in
set_option maxRecDepth 100000 in
theorem l03Of_c (n : Nat) (ks : List Ky) (hks : ks.length = n + 1) (hn : n ≤ 256) (v : Value) (w : World) (hv : Rd w 32 v (n + 1) (kyL ks)) : Ret Try.prog 59 #[v] w fun r _ => r = .agg (bA (ofK ks).1) := by
  obtain ⟨b, cap, rfl⟩ := hv.shape
  obtain ⟨g, o, rfl, hr⟩ := hv.open_ (by omega)
  have HR := Lib.hid hr
  have C1 := Lib.hid (fun wx (hb : Up w wx) => kyL_range (hr wx hb) n (by omega))
  have HL := Lib.hid (ofK_last ks n hks)
  have HK := Lib.hid hks
  have e1 : ((n + 1 : Nat) : Int) - 1 = (n : Int) := by omega
  have hn1 : n < n + 1 := by omega
  clear hv hr
  generalize (ks[n]'_) = y at *
  refine ret_start fun wx M => ?_
  clear hks
  go_enter Try.func59, Try.ntmps59
  go_wp2_with (first
    | (with_reducible (show wpList _ _ _ (Oper.mk _ (.indexAddr _ _ _) _ _ _ _ :: _) _ _); refine m_ix rfl rfl rfl n (by first | rfl | (refine congrArg (Value.int .i64) ?_; omega)) hn1 ?_)
    | (with_reducible (show wpList _ _ _ (Oper.mk (some 2) (.alloc _) _ _ _ _ :: _) _ _); refine mem_new M rfl rfl ?_; clear M; (try clear wx); intro g2 wx M)
    | (with_reducible (show wpList _ _ _ (Oper.mk (some 3) (.alloc _) _ _ _ _ :: _) _ _); refine mem_new M rfl rfl ?_; clear M; (try clear wx); intro g3 wx M)
    | (with_reducible (show wpList _ _ _ (Oper.mk _ (.load _ _) _ _ _ _ :: _) _ _); (first | (refine rd_loadA rfl rfl rfl (C1.out _ M.up) (Ky.len _) ?_) | (refine m_load M rfl rfl rfl (by first | assumption | rfl) ?_) | (refine m_loadR M rfl rfl rfl (by first | rfl | assumption | (simp; done) | (simp; omega)) ?_)))
    | (with_reducible (show wpList _ _ _ (Oper.mk _ (.store _ _ _) _ _ _ _ :: _) _ _); (first | (refine m_storeR M rfl rfl rfl rfl (by first | rfl | assumption | (simp; done) | (simp; omega)) (by first | rfl | assumption | (simp; done) | (simp; omega)) (by first | exact bA_one _ | exact wA_one _ | assumption | (simp [Value.oneCell']; done)) ?_) | (refine m_store (v := Value.int _ _) M rfl rfl rfl rfl rfl (by first | assumption | (simp; done) | (simp; omega)) ?_) | (refine m_store (v := Value.slice _ _ _) M rfl rfl rfl rfl rfl (by first | assumption | (simp; done) | (simp; omega)) ?_) | (refine m_store (v := Value.bool _) M rfl rfl rfl rfl rfl (by first | assumption | (simp; done) | (simp; omega)) ?_) | (refine m_store (v := Value.string _) M rfl rfl rfl rfl rfl (by first | assumption | (simp; done) | (simp; omega)) ?_) | (refine m_store (v := Value.pointer _) M rfl rfl rfl rfl rfl (by first | assumption | (simp; done) | (simp; omega)) ?_)); clear M; (try clear wx); intro wx M; simp only [List.set_cons_zero, List.set_cons_succ, Nat.zero_add, List.nil_append] at M))
  rw [← HL.out] at M
  go_loopg [4] n (fun q x wr => ∃ (j : Nat), q = j ∧ j ≤ n ∧ x = .int .i64 ((j : Int) - 1) ∧ Mem w wr [.blk g3 25 (bA (ofK (ks.drop j)).1), .blk g2 25 (bA zero32)])
  case atStart => exact ⟨n, rfl, Nat.le_refl _, by refine congrArg (Value.int .i64) ?_; omega, M⟩
  case round =>
    obtain ⟨j, hq, hj, hx, M⟩ := hrel
    have HQ := Lib.hid hq
    clear hq
    cases j with
    | zero =>
      subst hx
      rw [List.drop_zero] at M
      go_wp2_with (first
        | (with_reducible (show wpList _ _ _ (Oper.mk (some 2) (.alloc _) _ _ _ _ :: _) _ _); refine mem_new M rfl rfl ?_; clear M; (try clear wx); intro g2 wx M)
        | (with_reducible (show wpList _ _ _ (Oper.mk (some 3) (.alloc _) _ _ _ _ :: _) _ _); refine mem_new M rfl rfl ?_; clear M; (try clear wx); intro g3 wx M)
        | (with_reducible (show wpList _ _ _ (Oper.mk _ (.load _ _) _ _ _ _ :: _) _ _); (first | (refine m_load M rfl rfl rfl (by first | assumption | rfl) ?_) | (refine m_loadR M rfl rfl rfl (by first | rfl | assumption | (simp; done) | (simp; omega)) ?_)))
        | (with_reducible (show wpList _ _ _ (Oper.mk _ (.store _ _ _) _ _ _ _ :: _) _ _); (first | (refine m_storeR M rfl rfl rfl rfl (by first | rfl | assumption | (simp; done) | (simp; omega)) (by first | rfl | assumption | (simp; done) | (simp; omega)) (by first | exact bA_one _ | exact wA_one _ | assumption | (simp [Value.oneCell']; done)) ?_) | (refine m_store (v := Value.int _ _) M rfl rfl rfl rfl rfl (by first | assumption | (simp; done) | (simp; omega)) ?_) | (refine m_store (v := Value.slice _ _ _) M rfl rfl rfl rfl rfl (by first | assumption | (simp; done) | (simp; omega)) ?_) | (refine m_store (v := Value.bool _) M rfl rfl rfl rfl rfl (by first | assumption | (simp; done) | (simp; omega)) ?_) | (refine m_store (v := Value.string _) M rfl rfl rfl rfl rfl (by first | assumption | (simp; done) | (simp; omega)) ?_) | (refine m_store (v := Value.pointer _) M rfl rfl rfl rfl rfl (by first | assumption | (simp; done) | (simp; omega)) ?_)); clear M; (try clear wx); intro wx M; simp only [List.set_cons_zero, List.set_cons_succ, Nat.zero_add, List.nil_append] at M))
      exact m_ret M rfl rfl rfl (by simp) rfl
    | succ i =>
      have hx := hx.trans (show Value.int .i64 (((i + 1 : Nat) : Int) - 1) = .int .i64 (i : Int) by refine congrArg (Value.int .i64) ?_; omega)
      subst hx
      have hin : i < n + 1 := by omega
      have hik : i < ks.length := by rw [HK.out]; omega
      have C2 := Lib.hid (fun wx (hb : Up w wx) => kyL_range (HR.out wx hb) i hik)
      have HST := Lib.hid (ofK_step ks i (by rw [HK.out]; omega))
      generalize ofK (ks.drop (i + 1)) = z at *
      generalize (ks[i]'hik) = u at *
      go_wp2_with (first
        | (with_reducible (show wpList _ _ _ (Oper.mk (some 2) (.alloc _) _ _ _ _ :: _) _ _); refine mem_new M rfl rfl ?_; clear M; (try clear wx); intro g2 wx M)
        | (with_reducible (show wpList _ _ _ (Oper.mk (some 3) (.alloc _) _ _ _ _ :: _) _ _); refine mem_new M rfl rfl ?_; clear M; (try clear wx); intro g3 wx M)
        | (with_reducible (show wpList _ _ _ (Oper.mk _ (.load _ _) _ _ _ _ :: _) _ _); (first | (refine m_load M rfl rfl rfl (by first | assumption | rfl) ?_) | (refine m_loadR M rfl rfl rfl (by first | rfl | assumption | (simp; done) | (simp; omega)) ?_)))
        | (with_reducible (show wpList _ _ _ (Oper.mk _ (.store _ _ _) _ _ _ _ :: _) _ _); (first | (refine m_storeR M rfl rfl rfl rfl (by first | rfl | assumption | (simp; done) | (simp; omega)) (by first | rfl | assumption | (simp; done) | (simp; omega)) (by first | exact bA_one _ | exact wA_one _ | assumption | (simp [Value.oneCell']; done)) ?_) | (refine m_store (v := Value.int _ _) M rfl rfl rfl rfl rfl (by first | assumption | (simp; done) | (simp; omega)) ?_) | (refine m_store (v := Value.slice _ _ _) M rfl rfl rfl rfl rfl (by first | assumption | (simp; done) | (simp; omega)) ?_) | (refine m_store (v := Value.bool _) M rfl rfl rfl rfl rfl (by first | assumption | (simp; done) | (simp; omega)) ?_) | (refine m_store (v := Value.string _) M rfl rfl rfl rfl rfl (by first | assumption | (simp; done) | (simp; omega)) ?_) | (refine m_store (v := Value.pointer _) M rfl rfl rfl rfl rfl (by first | assumption | (simp; done) | (simp; omega)) ?_)); clear M; (try clear wx); intro wx M; simp only [List.set_cons_zero, List.set_cons_succ, Nat.zero_add, List.nil_append] at M))
      refine region_mono (m := 6) mixedOrders_ (by kernel_rfl) (by kernel_rfl)
        (fun | 0 => fun vq _ => vq = .slice (some ⟨g, o, none⟩) (n + 1) cap | 1 => fun vq _ => vq = .int .i64 (i : Int) | 2 => fun vq _ => vq = .pointer (some ⟨g, o + i * 32, none⟩) | 3 => fun vq _ => vq = .agg (bA (u.1)) | 4 => fun vq _ => vq = .agg (bA z.1) | 5 => fun vq _ => vq = .agg (bA (nodeK u z).1) | _ => fun _ _ => True)
        (fun wx => Mem w wx [.blk g3 25 (bA z.1), .blk g2 25 (bA zero32)]) ?_ ?_ ?_ ?_ ?_
      · intro j hj v w1 w2 hb h
        match j, hj with
        | 0, _ => exact h
        | 1, _ => exact h
        | 2, _ => exact h
        | 3, _ => exact h
        | 4, _ => exact h
        | 5, _ => exact h
      · intro w1 w2 hb h
        exact h.grow hb
      · exact M.grow ((Up.refl _).drew)
      · rintro i o hi ho av wv fr gM dep
        match i, hi with
        | 0, _ =>
          obtain rfl := Option.some.inj ho
          exact st_mov rfl (fr.eval rfl) rfl
        | 1, _ =>
          obtain rfl := Option.some.inj ho
          exact st_mov rfl (fr.eval rfl) rfl
        | 2, _ =>
          obtain rfl := Option.some.inj ho
          exact st_indexAddr rfl (dep ⟨0, .data⟩ (by simp) rfl) (dep ⟨1, .data⟩ (by simp) rfl) (ix_slice _ _ _ _ _ hin _) rfl
        | 3, _ =>
          obtain rfl := Option.some.inj ho
          exact st_loadA rfl (dep ⟨2, .data⟩ (by simp) rfl) (C2.out _ gM.up) u.2 rfl
        | 4, _ =>
          obtain rfl := Option.some.inj ho
          exact st_loadG gM rfl (fr.eval rfl) (by first | rfl | (simp; done)) rfl
        | 5, _ =>
          obtain rfl := Option.some.inj ho
          have d0 := dep ⟨3, .data⟩ (by simp) rfl
          have d1 := dep ⟨4, .data⟩ (by simp) rfl
          exact st_ret2 rfl (fun _ _ => by kernel_rfl) d0 d1 (l03Node_c u z _) (fun r w' h _ => h)
      · rintro vs wv gM hf
        have f0 : vs 0 = .slice (some ⟨g, o, none⟩) (n + 1) cap := hf 0 (by omega)
        have f1 : vs 1 = .int .i64 (i : Int) := hf 1 (by omega)
        have f2 : vs 2 = .pointer (some ⟨g, o + i * 32, none⟩) := hf 2 (by omega)
        have f3 : vs 3 = .agg (bA (u.1)) := hf 3 (by omega)
        have f4 : vs 4 = .agg (bA z.1) := hf 4 (by omega)
        have f5 : vs 5 = .agg (bA (nodeK u z).1) := hf 5 (by omega)
        simp only [putAll, Act.put, List.getElem?_toArray, List.getElem?_cons_zero, List.getElem?_cons_succ, Option.bind_some, List.setIfInBounds_toArray, List.set_cons_zero, List.set_cons_succ, List.drop_succ_cons, List.drop_zero, List.drop_nil, f5]
        clear f0 f1 f2 f3 f4 f5 hf
        have M := gM
        rw [← HST.out]
        go_wp2_with (first
          | (with_reducible (show wpList _ _ _ (Oper.mk (some 2) (.alloc _) _ _ _ _ :: _) _ _); refine mem_new M rfl rfl ?_; clear M; (try clear wx); intro g2 wx M)
          | (with_reducible (show wpList _ _ _ (Oper.mk (some 3) (.alloc _) _ _ _ _ :: _) _ _); refine mem_new M rfl rfl ?_; clear M; (try clear wx); intro g3 wx M)
          | (with_reducible (show wpList _ _ _ (Oper.mk _ (.load _ _) _ _ _ _ :: _) _ _); (first | (refine m_load M rfl rfl rfl (by first | assumption | rfl) ?_) | (refine m_loadR M rfl rfl rfl (by first | rfl | assumption | (simp; done) | (simp; omega)) ?_)))
          | (with_reducible (show wpList _ _ _ (Oper.mk _ (.store _ _ _) _ _ _ _ :: _) _ _); (first | (refine m_storeR M rfl rfl rfl rfl (by first | rfl | assumption | (simp; done) | (simp; omega)) (by first | rfl | assumption | (simp; done) | (simp; omega)) (by first | exact bA_one _ | exact wA_one _ | assumption | (simp [Value.oneCell']; done)) ?_) | (refine m_store (v := Value.int _ _) M rfl rfl rfl rfl rfl (by first | assumption | (simp; done) | (simp; omega)) ?_) | (refine m_store (v := Value.slice _ _ _) M rfl rfl rfl rfl rfl (by first | assumption | (simp; done) | (simp; omega)) ?_) | (refine m_store (v := Value.bool _) M rfl rfl rfl rfl rfl (by first | assumption | (simp; done) | (simp; omega)) ?_) | (refine m_store (v := Value.string _) M rfl rfl rfl rfl rfl (by first | assumption | (simp; done) | (simp; omega)) ?_) | (refine m_store (v := Value.pointer _) M rfl rfl rfl rfl rfl (by first | assumption | (simp; done) | (simp; omega)) ?_)); clear M; (try clear wx); intro wx M; simp only [List.set_cons_zero, List.set_cons_succ, Nat.zero_add, List.nil_append] at M))
        have hq := HQ.out
        go_roundg i
        case measure => omega
        case rel => exact ⟨i, rfl, by omega, by refine congrArg (Value.int .i64) ?_; omega, M⟩

set_option maxHeartbeats 2000000 in
set_option maxRecDepth 100000 in
theorem keyOfPeaks_c (m : Nat) (ks : List Ky) (hks : ks.length = m) (hm : m ≤ 256) (v : Value) (w : World) (hv : Rd w 32 v m (kyL ks)) : Ret Try.prog 61 #[v] w fun r _ => r = .agg (bA (kopK ks).1) := by
  obtain ⟨b, cap, rfl⟩ := hv.shape
  rcases Nat.eq_zero_or_pos m with rfl | hpos
  · have HE := Lib.hid (show kopK ks = listK [] by rw [kopK, if_pos hks])
    refine ret_start fun wx M => ?_
    clear hv hks
    go_enter Try.func61, Try.ntmps61
    go_wp2_with (first
      | (go_at_call 55; (with_reducible refine mem_call M (listKey_c 0 [] rfl (by omega) _ _ (Rd.nil _ 32)) ?_); clear M; (try clear wx); rintro _ wx rfl _ M)
      | (with_reducible (show wpList _ _ _ (Oper.mk (some 2) (.alloc _) _ _ _ _ :: _) _ _); refine mem_new M rfl rfl ?_; clear M; (try clear wx); intro g2 wx M)
      | (with_reducible (show wpList _ _ _ (Oper.mk (some 4) (.alloc _) _ _ _ _ :: _) _ _); refine mem_new M rfl rfl ?_; clear M; (try clear wx); intro g4 wx M)
      | (with_reducible (show wpList _ _ _ (Oper.mk _ (.load _ _) _ _ _ _ :: _) _ _); (first | (refine m_load M rfl rfl rfl (by first | assumption | rfl) ?_) | (refine m_loadR M rfl rfl rfl (by first | rfl | assumption | (simp; done) | (simp; omega)) ?_)))
      | (with_reducible (show wpList _ _ _ (Oper.mk _ (.store _ _ _) _ _ _ _ :: _) _ _); (first | (refine m_storeR M rfl rfl rfl rfl (by first | rfl | assumption | (simp; done) | (simp; omega)) (by first | rfl | assumption | (simp; done) | (simp; omega)) (by first | exact bA_one _ | exact wA_one _ | assumption | (simp [Value.oneCell']; done)) ?_) | (refine m_store (v := Value.int _ _) M rfl rfl rfl rfl rfl (by first | assumption | (simp; done) | (simp; omega)) ?_) | (refine m_store (v := Value.slice _ _ _) M rfl rfl rfl rfl rfl (by first | assumption | (simp; done) | (simp; omega)) ?_) | (refine m_store (v := Value.bool _) M rfl rfl rfl rfl rfl (by first | assumption | (simp; done) | (simp; omega)) ?_) | (refine m_store (v := Value.string _) M rfl rfl rfl rfl rfl (by first | assumption | (simp; done) | (simp; omega)) ?_) | (refine m_store (v := Value.pointer _) M rfl rfl rfl rfl rfl (by first | assumption | (simp; done) | (simp; omega)) ?_)); clear M; (try clear wx); intro wx M; simp only [List.set_cons_zero, List.set_cons_succ, Nat.zero_add, List.nil_append] at M))
    exact m_ret M rfl rfl rfl (by simp) (by rw [HE.out])
  · have HE := Lib.hid (show kopK ks = ofK ks by rw [kopK, if_neg (by omega)])
    obtain ⟨n, rfl⟩ : ∃ n, m = n + 1 := ⟨m - 1, by omega⟩
    obtain ⟨g, o, rfl, hr⟩ := hv.open_ (by omega)
    have HR := Lib.hid hr
    have C1 := Lib.hid (fun wx (hb : Up w wx) => kyL_range (hr wx hb) n (by omega))
    have HL := Lib.hid (ofK_last ks n hks)
    have HK := Lib.hid hks
    have e1 : ((n + 1 : Nat) : Int) - 1 = (n : Int) := by omega
    have hn1 : n < n + 1 := by omega
    clear hv hr
    generalize (ks[n]'_) = y at *
    refine ret_start fun wx M => ?_
    clear hks
    go_enter Try.func61, Try.ntmps61
    go_wp2_with (first
      | (with_reducible (show wpList _ _ _ (Oper.mk _ (.indexAddr _ _ _) _ _ _ _ :: _) _ _); refine m_ix rfl rfl rfl n (by first | rfl | (refine congrArg (Value.int .i64) ?_; omega)) hn1 ?_)
      | (with_reducible (show wpList _ _ _ (Oper.mk (some 2) (.alloc _) _ _ _ _ :: _) _ _); refine mem_new M rfl rfl ?_; clear M; (try clear wx); intro g2 wx M)
      | (with_reducible (show wpList _ _ _ (Oper.mk (some 4) (.alloc _) _ _ _ _ :: _) _ _); refine mem_new M rfl rfl ?_; clear M; (try clear wx); intro g4 wx M)
      | (with_reducible (show wpList _ _ _ (Oper.mk _ (.load _ _) _ _ _ _ :: _) _ _); (first | (refine rd_loadA rfl rfl rfl (C1.out _ M.up) (Ky.len _) ?_) | (refine m_load M rfl rfl rfl (by first | assumption | rfl) ?_) | (refine m_loadR M rfl rfl rfl (by first | rfl | assumption | (simp; done) | (simp; omega)) ?_)))
      | (with_reducible (show wpList _ _ _ (Oper.mk _ (.store _ _ _) _ _ _ _ :: _) _ _); (first | (refine m_storeR M rfl rfl rfl rfl (by first | rfl | assumption | (simp; done) | (simp; omega)) (by first | rfl | assumption | (simp; done) | (simp; omega)) (by first | exact bA_one _ | exact wA_one _ | assumption | (simp [Value.oneCell']; done)) ?_) | (refine m_store (v := Value.int _ _) M rfl rfl rfl rfl rfl (by first | assumption | (simp; done) | (simp; omega)) ?_) | (refine m_store (v := Value.slice _ _ _) M rfl rfl rfl rfl rfl (by first | assumption | (simp; done) | (simp; omega)) ?_) | (refine m_store (v := Value.bool _) M rfl rfl rfl rfl rfl (by first | assumption | (simp; done) | (simp; omega)) ?_) | (refine m_store (v := Value.string _) M rfl rfl rfl rfl rfl (by first | assumption | (simp; done) | (simp; omega)) ?_) | (refine m_store (v := Value.pointer _) M rfl rfl rfl rfl rfl (by first | assumption | (simp; done) | (simp; omega)) ?_)); clear M; (try clear wx); intro wx M; simp only [List.set_cons_zero, List.set_cons_succ, Nat.zero_add, List.nil_append] at M))
    rw [← HL.out] at M
    go_loopg [5] n (fun q x wr => ∃ (j : Nat), q = j ∧ j ≤ n ∧ x = .int .i64 ((j : Int) - 1) ∧ Mem w wr [.blk g4 25 (bA (ofK (ks.drop j)).1), .blk g2 25 (bA zero32)])
    case atStart => exact ⟨n, rfl, Nat.le_refl _, by refine congrArg (Value.int .i64) ?_; omega, M⟩
    case round =>
      obtain ⟨j, hq, hj, hx, M⟩ := hrel
      have HQ := Lib.hid hq
      clear hq
      cases j with
      | zero =>
        subst hx
        rw [List.drop_zero] at M
        go_wp2_with (first
          | (with_reducible (show wpList _ _ _ (Oper.mk (some 2) (.alloc _) _ _ _ _ :: _) _ _); refine mem_new M rfl rfl ?_; clear M; (try clear wx); intro g2 wx M)
          | (with_reducible (show wpList _ _ _ (Oper.mk (some 4) (.alloc _) _ _ _ _ :: _) _ _); refine mem_new M rfl rfl ?_; clear M; (try clear wx); intro g4 wx M)
          | (with_reducible (show wpList _ _ _ (Oper.mk _ (.load _ _) _ _ _ _ :: _) _ _); (first | (refine m_load M rfl rfl rfl (by first | assumption | rfl) ?_) | (refine m_loadR M rfl rfl rfl (by first | rfl | assumption | (simp; done) | (simp; omega)) ?_)))
          | (with_reducible (show wpList _ _ _ (Oper.mk _ (.store _ _ _) _ _ _ _ :: _) _ _); (first | (refine m_storeR M rfl rfl rfl rfl (by first | rfl | assumption | (simp; done) | (simp; omega)) (by first | rfl | assumption | (simp; done) | (simp; omega)) (by first | exact bA_one _ | exact wA_one _ | assumption | (simp [Value.oneCell']; done)) ?_) | (refine m_store (v := Value.int _ _) M rfl rfl rfl rfl rfl (by first | assumption | (simp; done) | (simp; omega)) ?_) | (refine m_store (v := Value.slice _ _ _) M rfl rfl rfl rfl rfl (by first | assumption | (simp; done) | (simp; omega)) ?_) | (refine m_store (v := Value.bool _) M rfl rfl rfl rfl rfl (by first | assumption | (simp; done) | (simp; omega)) ?_) | (refine m_store (v := Value.string _) M rfl rfl rfl rfl rfl (by first | assumption | (simp; done) | (simp; omega)) ?_) | (refine m_store (v := Value.pointer _) M rfl rfl rfl rfl rfl (by first | assumption | (simp; done) | (simp; omega)) ?_)); clear M; (try clear wx); intro wx M; simp only [List.set_cons_zero, List.set_cons_succ, Nat.zero_add, List.nil_append] at M))
        exact m_ret M rfl rfl rfl (by simp) (by rw [HE.out])
      | succ i =>
        have hx := hx.trans (show Value.int .i64 (((i + 1 : Nat) : Int) - 1) = .int .i64 (i : Int) by refine congrArg (Value.int .i64) ?_; omega)
        subst hx
        have hin : i < n + 1 := by omega
        have hik : i < ks.length := by rw [HK.out]; omega
        have C2 := Lib.hid (fun wx (hb : Up w wx) => kyL_range (HR.out wx hb) i hik)
        have HST := Lib.hid (ofK_step ks i (by rw [HK.out]; omega))
        generalize ofK (ks.drop (i + 1)) = z at *
        generalize (ks[i]'hik) = u at *
        go_wp2_with (first
          | (with_reducible (show wpList _ _ _ (Oper.mk (some 2) (.alloc _) _ _ _ _ :: _) _ _); refine mem_new M rfl rfl ?_; clear M; (try clear wx); intro g2 wx M)
          | (with_reducible (show wpList _ _ _ (Oper.mk (some 4) (.alloc _) _ _ _ _ :: _) _ _); refine mem_new M rfl rfl ?_; clear M; (try clear wx); intro g4 wx M)
          | (with_reducible (show wpList _ _ _ (Oper.mk _ (.load _ _) _ _ _ _ :: _) _ _); (first | (refine m_load M rfl rfl rfl (by first | assumption | rfl) ?_) | (refine m_loadR M rfl rfl rfl (by first | rfl | assumption | (simp; done) | (simp; omega)) ?_)))
          | (with_reducible (show wpList _ _ _ (Oper.mk _ (.store _ _ _) _ _ _ _ :: _) _ _); (first | (refine m_storeR M rfl rfl rfl rfl (by first | rfl | assumption | (simp; done) | (simp; omega)) (by first | rfl | assumption | (simp; done) | (simp; omega)) (by first | exact bA_one _ | exact wA_one _ | assumption | (simp [Value.oneCell']; done)) ?_) | (refine m_store (v := Value.int _ _) M rfl rfl rfl rfl rfl (by first | assumption | (simp; done) | (simp; omega)) ?_) | (refine m_store (v := Value.slice _ _ _) M rfl rfl rfl rfl rfl (by first | assumption | (simp; done) | (simp; omega)) ?_) | (refine m_store (v := Value.bool _) M rfl rfl rfl rfl rfl (by first | assumption | (simp; done) | (simp; omega)) ?_) | (refine m_store (v := Value.string _) M rfl rfl rfl rfl rfl (by first | assumption | (simp; done) | (simp; omega)) ?_) | (refine m_store (v := Value.pointer _) M rfl rfl rfl rfl rfl (by first | assumption | (simp; done) | (simp; omega)) ?_)); clear M; (try clear wx); intro wx M; simp only [List.set_cons_zero, List.set_cons_succ, Nat.zero_add, List.nil_append] at M))
        refine region_mono (m := 6) mixedOrders_ (by kernel_rfl) (by kernel_rfl)
          (fun | 0 => fun vq _ => vq = .slice (some ⟨g, o, none⟩) (n + 1) cap | 1 => fun vq _ => vq = .int .i64 (i : Int) | 2 => fun vq _ => vq = .pointer (some ⟨g, o + i * 32, none⟩) | 3 => fun vq _ => vq = .agg (bA (u.1)) | 4 => fun vq _ => vq = .agg (bA z.1) | 5 => fun vq _ => vq = .agg (bA (nodeK u z).1) | _ => fun _ _ => True)
          (fun wx => Mem w wx [.blk g4 25 (bA z.1), .blk g2 25 (bA zero32)]) ?_ ?_ ?_ ?_ ?_
        · intro j hj v w1 w2 hb h
          match j, hj with
          | 0, _ => exact h
          | 1, _ => exact h
          | 2, _ => exact h
          | 3, _ => exact h
          | 4, _ => exact h
          | 5, _ => exact h
        · intro w1 w2 hb h
          exact h.grow hb
        · exact M.grow ((Up.refl _).drew)
        · rintro i o hi ho av wv fr gM dep
          match i, hi with
          | 0, _ =>
            obtain rfl := Option.some.inj ho
            exact st_mov rfl (fr.eval rfl) rfl
          | 1, _ =>
            obtain rfl := Option.some.inj ho
            exact st_mov rfl (fr.eval rfl) rfl
          | 2, _ =>
            obtain rfl := Option.some.inj ho
            exact st_indexAddr rfl (dep ⟨0, .data⟩ (by simp) rfl) (dep ⟨1, .data⟩ (by simp) rfl) (ix_slice _ _ _ _ _ hin _) rfl
          | 3, _ =>
            obtain rfl := Option.some.inj ho
            exact st_loadA rfl (dep ⟨2, .data⟩ (by simp) rfl) (C2.out _ gM.up) u.2 rfl
          | 4, _ =>
            obtain rfl := Option.some.inj ho
            exact st_loadG gM rfl (fr.eval rfl) (by first | rfl | (simp; done)) rfl
          | 5, _ =>
            obtain rfl := Option.some.inj ho
            have d0 := dep ⟨3, .data⟩ (by simp) rfl
            have d1 := dep ⟨4, .data⟩ (by simp) rfl
            exact st_ret2 rfl (fun _ _ => by kernel_rfl) d0 d1 (implNodeKey_c u z _) (fun r w' h _ => h)
        · rintro vs wv gM hf
          have f0 : vs 0 = .slice (some ⟨g, o, none⟩) (n + 1) cap := hf 0 (by omega)
          have f1 : vs 1 = .int .i64 (i : Int) := hf 1 (by omega)
          have f2 : vs 2 = .pointer (some ⟨g, o + i * 32, none⟩) := hf 2 (by omega)
          have f3 : vs 3 = .agg (bA (u.1)) := hf 3 (by omega)
          have f4 : vs 4 = .agg (bA z.1) := hf 4 (by omega)
          have f5 : vs 5 = .agg (bA (nodeK u z).1) := hf 5 (by omega)
          simp only [putAll, Act.put, List.getElem?_toArray, List.getElem?_cons_zero, List.getElem?_cons_succ, Option.bind_some, List.setIfInBounds_toArray, List.set_cons_zero, List.set_cons_succ, List.drop_succ_cons, List.drop_zero, List.drop_nil, f5]
          clear f0 f1 f2 f3 f4 f5 hf
          have M := gM
          rw [← HST.out]
          go_wp2_with (first
            | (with_reducible (show wpList _ _ _ (Oper.mk (some 2) (.alloc _) _ _ _ _ :: _) _ _); refine mem_new M rfl rfl ?_; clear M; (try clear wx); intro g2 wx M)
            | (with_reducible (show wpList _ _ _ (Oper.mk (some 4) (.alloc _) _ _ _ _ :: _) _ _); refine mem_new M rfl rfl ?_; clear M; (try clear wx); intro g4 wx M)
            | (with_reducible (show wpList _ _ _ (Oper.mk _ (.load _ _) _ _ _ _ :: _) _ _); (first | (refine m_load M rfl rfl rfl (by first | assumption | rfl) ?_) | (refine m_loadR M rfl rfl rfl (by first | rfl | assumption | (simp; done) | (simp; omega)) ?_)))
            | (with_reducible (show wpList _ _ _ (Oper.mk _ (.store _ _ _) _ _ _ _ :: _) _ _); (first | (refine m_storeR M rfl rfl rfl rfl (by first | rfl | assumption | (simp; done) | (simp; omega)) (by first | rfl | assumption | (simp; done) | (simp; omega)) (by first | exact bA_one _ | exact wA_one _ | assumption | (simp [Value.oneCell']; done)) ?_) | (refine m_store (v := Value.int _ _) M rfl rfl rfl rfl rfl (by first | assumption | (simp; done) | (simp; omega)) ?_) | (refine m_store (v := Value.slice _ _ _) M rfl rfl rfl rfl rfl (by first | assumption | (simp; done) | (simp; omega)) ?_) | (refine m_store (v := Value.bool _) M rfl rfl rfl rfl rfl (by first | assumption | (simp; done) | (simp; omega)) ?_) | (refine m_store (v := Value.string _) M rfl rfl rfl rfl rfl (by first | assumption | (simp; done) | (simp; omega)) ?_) | (refine m_store (v := Value.pointer _) M rfl rfl rfl rfl rfl (by first | assumption | (simp; done) | (simp; omega)) ?_)); clear M; (try clear wx); intro wx M; simp only [List.set_cons_zero, List.set_cons_succ, Nat.zero_add, List.nil_append] at M))
          have hq := HQ.out
          go_roundg i
          case measure => omega
          case rel => exact ⟨i, rfl, by omega, by refine congrArg (Value.int .i64) ?_; omega, M⟩

def kpT (ks : List Ky) (n : Int) : Ky × Int := if gvD ks.length n = 0 then (kopK ks, 0) else (zeroKy, gvD ks.length n)

set_option maxHeartbeats 2000000 in
set_option maxRecDepth 100000 in
theorem specKeyOfPeaks_c (v : Value) (m : Nat) (ks : List Ky) (hks : ks.length = m) (n : Int) (w : World) (hv : Rd w 32 v m (kyL ks)) (hl : m ≤ 1048576) :
    Ret Try.prog 19 #[v, .int .i64 n] w fun r _ => r = .tuple #[.agg (bA (kpT ks n).1.1), .int .i64 (kpT ks n).2] := by
  obtain ⟨b, cap, rfl⟩ := hv.shape
  have HV := Lib.hid hv
  have HGV := Lib.hid (fun w => l03Given9_c b m cap n w hl)
  rcases gvD_cases m n with ⟨hg, k, hk, hk2, hk3⟩ | hg
  · have HE := Lib.hid (show kpT ks n = (kopK ks, 0) by rw [kpT, hks, if_pos hg])
    rw [hg] at HGV
    rcases Nat.eq_zero_or_pos k with rfl | hkp
    · obtain rfl : n = 0 := hk
      have HE2 := Lib.hid (show kopK ks = listK [] by rw [kopK, if_pos]; rw [hks, hk3]; rfl)
      have HA0 : Hid (∀ v w, Rd w 32 v 0 [] → Ret Try.prog 52 #[v] w fun r _ => r = .agg (bA (listK []).1)) := Lib.hid (fun v w h => l03Key_c 0 [] rfl (by omega) v w h)
      clear hv hks hk3 hg
      refine ret_start fun wx M => ?_
      go_enter Try.func19, Try.ntmps19
      go_wp2_with (first
        | (go_at_call 58; (with_reducible refine mem_call M (HGV.out _) ?_); clear M; (try clear wx); rintro _ wx rfl _ M)
        | (go_at_call 52; (with_reducible refine mem_call M (HA0.out _ _ (M.rdO (by simp))) ?_); clear M; (try clear wx); rintro _ wx rfl _ M)
        | (with_reducible (show wpList _ _ _ (Oper.mk (some 4) (.alloc _) _ _ _ _ :: _) _ _); refine mem_new M rfl rfl ?_; clear M; (try clear wx); intro g4 wx M)
        | (with_reducible (show wpList _ _ _ (Oper.mk (some 16) (.buildSlice _ _ _) _ _ _ _ :: _) _ _); refine m_lit0 M rfl rfl ?_; clear M; (try clear wx); intro g16 wx M)
        | (with_reducible (show wpList _ _ _ (Oper.mk _ (.store _ _ _) _ _ _ _ :: _) _ _); (first | (refine m_storeR M rfl rfl rfl rfl (by first | rfl | assumption | (simp; done) | (simp; omega)) (by first | rfl | assumption | (simp; done) | (simp; omega)) (by first | exact bA_one _ | exact wA_one _ | assumption | (simp [Value.oneCell']; done)) ?_) | (refine m_store (v := Value.int _ _) M rfl rfl rfl rfl rfl (by first | assumption | (simp; done) | (simp; omega)) ?_) | (refine m_store (v := Value.slice _ _ _) M rfl rfl rfl rfl rfl (by first | assumption | (simp; done) | (simp; omega)) ?_) | (refine m_store (v := Value.bool _) M rfl rfl rfl rfl rfl (by first | assumption | (simp; done) | (simp; omega)) ?_) | (refine m_store (v := Value.string _) M rfl rfl rfl rfl rfl (by first | assumption | (simp; done) | (simp; omega)) ?_) | (refine m_store (v := Value.pointer _) M rfl rfl rfl rfl rfl (by first | assumption | (simp; done) | (simp; omega)) ?_)); clear M; (try clear wx); intro wx M; simp only [List.set_cons_zero, List.set_cons_succ, Nat.zero_add, List.nil_append] at M)
        | (with_reducible (show wpList _ _ _ (Oper.mk _ (.build _ _) _ _ _ _ :: _) _ _); refine m_buildZ rfl rfl ?_))
      exact m_ret2 M rfl rfl rfl (by simp) (by rw [HE.out, HE2.out]; rfl)
    · subst hk
      have hm0 : m ≠ 0 := fun e => by
        have := onesN9_0 k (by omega) (by rw [← hk3, e])
        omega
      obtain ⟨d, rfl⟩ : ∃ d, m = d + 1 := ⟨m - 1, by omega⟩
      have HE2 := Lib.hid (show kopK ks = ofK ks by rw [kopK, if_neg]; omega)
      have hd : d ≤ 256 := by have := onesN_le 9 k; omega
      have HA : Hid (∀ v w, Rd w 32 v (d + 1) (kyL ks) → Ret Try.prog 59 #[v] w fun r _ => r = .agg (bA (ofK ks).1)) := Lib.hid (fun v w h => l03Of_c d ks hks hd v w h)
      clear hv hks hk3 hg
      generalize ofK ks = z at *
      refine ret_start fun wx M => ?_
      go_enter Try.func19, Try.ntmps19
      go_wp2_with (first
        | (go_at_call 58; (with_reducible refine mem_call M (HGV.out _) ?_); clear M; (try clear wx); rintro _ wx rfl _ M)
        | (go_at_call 59; (with_reducible refine mem_call M (HA.out _ _ (HV.out.up M.up)) ?_); clear M; (try clear wx); rintro _ wx rfl _ M)
        | (with_reducible (show wpList _ _ _ (Oper.mk (some 4) (.alloc _) _ _ _ _ :: _) _ _); refine mem_new M rfl rfl ?_; clear M; (try clear wx); intro g4 wx M)
        | (with_reducible (show wpList _ _ _ (Oper.mk (some 16) (.buildSlice _ _ _) _ _ _ _ :: _) _ _); refine m_lit0 M rfl rfl ?_; clear M; (try clear wx); intro g16 wx M)
        | (with_reducible (show wpList _ _ _ (Oper.mk _ (.store _ _ _) _ _ _ _ :: _) _ _); (first | (refine m_storeR M rfl rfl rfl rfl (by first | rfl | assumption | (simp; done) | (simp; omega)) (by first | rfl | assumption | (simp; done) | (simp; omega)) (by first | exact bA_one _ | exact wA_one _ | assumption | (simp [Value.oneCell']; done)) ?_) | (refine m_store (v := Value.int _ _) M rfl rfl rfl rfl rfl (by first | assumption | (simp; done) | (simp; omega)) ?_) | (refine m_store (v := Value.slice _ _ _) M rfl rfl rfl rfl rfl (by first | assumption | (simp; done) | (simp; omega)) ?_) | (refine m_store (v := Value.bool _) M rfl rfl rfl rfl rfl (by first | assumption | (simp; done) | (simp; omega)) ?_) | (refine m_store (v := Value.string _) M rfl rfl rfl rfl rfl (by first | assumption | (simp; done) | (simp; omega)) ?_) | (refine m_store (v := Value.pointer _) M rfl rfl rfl rfl rfl (by first | assumption | (simp; done) | (simp; omega)) ?_)); clear M; (try clear wx); intro wx M; simp only [List.set_cons_zero, List.set_cons_succ, Nat.zero_add, List.nil_append] at M)
        | (with_reducible (show wpList _ _ _ (Oper.mk _ (.build _ _) _ _ _ _ :: _) _ _); refine m_buildZ rfl rfl ?_))
      exact m_ret2 M rfl rfl rfl (by simp) (by rw [HE.out, HE2.out]; rfl)
  · have HE := Lib.hid (show kpT ks n = (zeroKy, gvD m n) by rw [kpT, hks, if_neg]; omega)
    clear hks hv
    rcases hg with hg | hg | hg <;>
    · rw [hg] at HGV HE
      refine ret_start fun wx M => ?_
      clear hg
      go_enter Try.func19, Try.ntmps19
      go_wp2_with (first
        | (go_at_call 58; (with_reducible refine mem_call M (HGV.out _) ?_); clear M; (try clear wx); rintro _ wx rfl _ M)
        | (with_reducible (show wpList _ _ _ (Oper.mk (some 4) (.alloc _) _ _ _ _ :: _) _ _); refine mem_new M rfl rfl ?_; clear M; (try clear wx); intro g4 wx M)
        | (with_reducible (show wpList _ _ _ (Oper.mk (some 16) (.buildSlice _ _ _) _ _ _ _ :: _) _ _); refine m_lit0 M rfl rfl ?_; clear M; (try clear wx); intro g16 wx M)
        | (with_reducible (show wpList _ _ _ (Oper.mk _ (.store _ _ _) _ _ _ _ :: _) _ _); (first | (refine m_storeR M rfl rfl rfl rfl (by first | rfl | assumption | (simp; done) | (simp; omega)) (by first | rfl | assumption | (simp; done) | (simp; omega)) (by first | exact bA_one _ | exact wA_one _ | assumption | (simp [Value.oneCell']; done)) ?_) | (refine m_store (v := Value.int _ _) M rfl rfl rfl rfl rfl (by first | assumption | (simp; done) | (simp; omega)) ?_) | (refine m_store (v := Value.slice _ _ _) M rfl rfl rfl rfl rfl (by first | assumption | (simp; done) | (simp; omega)) ?_) | (refine m_store (v := Value.bool _) M rfl rfl rfl rfl rfl (by first | assumption | (simp; done) | (simp; omega)) ?_) | (refine m_store (v := Value.string _) M rfl rfl rfl rfl rfl (by first | assumption | (simp; done) | (simp; omega)) ?_) | (refine m_store (v := Value.pointer _) M rfl rfl rfl rfl rfl (by first | assumption | (simp; done) | (simp; omega)) ?_)); clear M; (try clear wx); intro wx M; simp only [List.set_cons_zero, List.set_cons_succ, Nat.zero_add, List.nil_append] at M)
        | (with_reducible (show wpList _ _ _ (Oper.mk _ (.build _ _) _ _ _ _ :: _) _ _); refine m_buildZ rfl rfl ?_))
      exact m_ret2 M rfl rfl rfl (by simp) (by rw [HE.out]; rfl)

set_option maxHeartbeats 2000000 in
set_option maxRecDepth 100000 in
theorem implKeyOfPeaks_c (v : Value) (m : Nat) (ks : List Ky) (hks : ks.length = m) (n : Int) (w : World) (hv : Rd w 32 v m (kyL ks)) (hl : m ≤ 1048576) :
    Ret Try.prog 20 #[v, .int .i64 n] w fun r _ => r = .tuple #[.agg (bA (kpT ks n).1.1), .int .i64 (kpT ks n).2] := by
  obtain ⟨b, cap, rfl⟩ := hv.shape
  have HV := Lib.hid hv
  have HGV := Lib.hid (fun w => peaksCode9_c b m cap n w hl)
  rcases gvD_cases m n with ⟨hg, k, hk, hk2, hk3⟩ | hg
  · have HE := Lib.hid (show kpT ks n = (kopK ks, 0) by rw [kpT, hks, if_pos hg])
    subst hk
    rw [hg] at HGV
    have hd : m ≤ 256 := by have := onesN_le 9 k; omega
    have HA : Hid (∀ v w, Rd w 32 v m (kyL ks) → Ret Try.prog 61 #[v] w fun r _ => r = .agg (bA (kopK ks).1)) := Lib.hid (fun v w h => keyOfPeaks_c m ks hks hd v w h)
    clear hv hks hk3 hg
    generalize kopK ks = z at *
    refine ret_start fun wx M => ?_
    go_enter Try.func20, Try.ntmps20
    go_wp2_with (first
      | (go_at_call 60; (with_reducible refine mem_call M (HGV.out _) ?_); clear M; (try clear wx); rintro _ wx rfl _ M)
      | (go_at_call 61; (with_reducible refine mem_call M (HA.out _ _ (HV.out.up M.up)) ?_); clear M; (try clear wx); rintro _ wx rfl _ M)
      | (with_reducible (show wpList _ _ _ (Oper.mk (some 4) (.alloc _) _ _ _ _ :: _) _ _); refine mem_new M rfl rfl ?_; clear M; (try clear wx); intro g4 wx M)
      | (with_reducible (show wpList _ _ _ (Oper.mk _ (.store _ _ _) _ _ _ _ :: _) _ _); (first | (refine m_storeR M rfl rfl rfl rfl (by first | rfl | assumption | (simp; done) | (simp; omega)) (by first | rfl | assumption | (simp; done) | (simp; omega)) (by first | exact bA_one _ | exact wA_one _ | assumption | (simp [Value.oneCell']; done)) ?_) | (refine m_store (v := Value.int _ _) M rfl rfl rfl rfl rfl (by first | assumption | (simp; done) | (simp; omega)) ?_) | (refine m_store (v := Value.slice _ _ _) M rfl rfl rfl rfl rfl (by first | assumption | (simp; done) | (simp; omega)) ?_) | (refine m_store (v := Value.bool _) M rfl rfl rfl rfl rfl (by first | assumption | (simp; done) | (simp; omega)) ?_) | (refine m_store (v := Value.string _) M rfl rfl rfl rfl rfl (by first | assumption | (simp; done) | (simp; omega)) ?_) | (refine m_store (v := Value.pointer _) M rfl rfl rfl rfl rfl (by first | assumption | (simp; done) | (simp; omega)) ?_)); clear M; (try clear wx); intro wx M; simp only [List.set_cons_zero, List.set_cons_succ, Nat.zero_add, List.nil_append] at M)
      | (with_reducible (show wpList _ _ _ (Oper.mk _ (.build _ _) _ _ _ _ :: _) _ _); refine m_buildZ rfl rfl ?_))
    exact m_ret2 M rfl rfl rfl (by simp) (by rw [HE.out]; rfl)
  · have HE := Lib.hid (show kpT ks n = (zeroKy, gvD m n) by rw [kpT, hks, if_neg]; omega)
    clear hks hv
    rcases hg with hg | hg | hg <;>
    · rw [hg] at HGV HE
      refine ret_start fun wx M => ?_
      clear hg
      go_enter Try.func20, Try.ntmps20
      go_wp2_with (first
        | (go_at_call 60; (with_reducible refine mem_call M (HGV.out _) ?_); clear M; (try clear wx); rintro _ wx rfl _ M)
        | (with_reducible (show wpList _ _ _ (Oper.mk (some 4) (.alloc _) _ _ _ _ :: _) _ _); refine mem_new M rfl rfl ?_; clear M; (try clear wx); intro g4 wx M)
        | (with_reducible (show wpList _ _ _ (Oper.mk _ (.store _ _ _) _ _ _ _ :: _) _ _); (first | (refine m_storeR M rfl rfl rfl rfl (by first | rfl | assumption | (simp; done) | (simp; omega)) (by first | rfl | assumption | (simp; done) | (simp; omega)) (by first | exact bA_one _ | exact wA_one _ | assumption | (simp [Value.oneCell']; done)) ?_) | (refine m_store (v := Value.int _ _) M rfl rfl rfl rfl rfl (by first | assumption | (simp; done) | (simp; omega)) ?_) | (refine m_store (v := Value.slice _ _ _) M rfl rfl rfl rfl rfl (by first | assumption | (simp; done) | (simp; omega)) ?_) | (refine m_store (v := Value.bool _) M rfl rfl rfl rfl rfl (by first | assumption | (simp; done) | (simp; omega)) ?_) | (refine m_store (v := Value.string _) M rfl rfl rfl rfl rfl (by first | assumption | (simp; done) | (simp; omega)) ?_) | (refine m_store (v := Value.pointer _) M rfl rfl rfl rfl rfl (by first | assumption | (simp; done) | (simp; omega)) ?_)); clear M; (try clear wx); intro wx M; simp only [List.set_cons_zero, List.set_cons_succ, Nat.zero_add, List.nil_append] at M)
        | (with_reducible (show wpList _ _ _ (Oper.mk _ (.build _ _) _ _ _ _ :: _) _ _); refine m_buildZ rfl rfl ?_))
      exact m_ret2 M rfl rfl rfl (by simp) (by rw [HE.out]; rfl)

set_option maxHeartbeats 2000000 in
set_option maxRecDepth 100000 in
theorem lawKeyOfPeaks_c (v : Value) (q : Int) (ks : List Ky) (w : World) (hv : Rd w 32 v ks.length (kyL ks)) : Calls Try.prog 4 #[v, .int .i64 q] w fun e w' => e = .returned (.bool true) ∧ Up w w' := by
  obtain ⟨n, hn⟩ : ∃ n, ks.length = n := ⟨_, rfl⟩
  rw [hn] at hv
  obtain ⟨b, cap, rfl⟩ := hv.shape
  have hml : n ≤ maxLen := by have := hv.len_; omega
  have HV := Lib.hid hv
  have HN := Lib.hid hn
  have hmm : maxLen ≤ 9223372036854775807 := by decide
  have hml' : n ≤ 9223372036854775807 := by omega
  clear hv hn hmm
  have M := Mem.start w
  by_cases hbig : (1048576 : Int) - n < 0
  · go_enter Try.func4, Try.ntmps4
    go_wp2_with (first
      | (go_at_call 13; (with_reducible refine mem_call M (szKeyS_r _ n _ hml _) ?_); clear M; (try clear wx); rintro _ wx rfl _ M; rw [if_pos hbig])
      | (with_reducible (show wpList _ _ _ (Oper.mk (some 6) (.alloc _) _ _ _ _ :: _) _ _); refine mem_new M rfl rfl ?_; clear M; (try clear wx); intro g6 wx M)
      | (with_reducible (show wpList _ _ _ (Oper.mk (some 9) (.alloc _) _ _ _ _ :: _) _ _); refine mem_new M rfl rfl ?_; clear M; (try clear wx); intro g9 wx M)
      | (with_reducible (show wpList _ _ _ (Oper.mk _ (.load _ _) _ _ _ _ :: _) _ _); (first | (refine m_load M rfl rfl rfl (by first | assumption | rfl) ?_) | (refine m_loadR M rfl rfl rfl (by first | rfl | assumption | (simp; done) | (simp; omega)) ?_)))
      | (with_reducible (show wpList _ _ _ (Oper.mk _ (.store _ _ _) _ _ _ _ :: _) _ _); (first | (refine m_storeR M rfl rfl rfl rfl (by first | rfl | assumption | (simp; done) | (simp; omega)) (by first | rfl | assumption | (simp; done) | (simp; omega)) (by first | exact bA_one _ | exact wA_one _ | assumption | (simp [Value.oneCell']; done)) ?_) | (refine m_store (v := Value.int _ _) M rfl rfl rfl rfl rfl (by first | assumption | (simp; done) | (simp; omega)) ?_) | (refine m_store (v := Value.slice _ _ _) M rfl rfl rfl rfl rfl (by first | assumption | (simp; done) | (simp; omega)) ?_) | (refine m_store (v := Value.bool _) M rfl rfl rfl rfl rfl (by first | assumption | (simp; done) | (simp; omega)) ?_) | (refine m_store (v := Value.string _) M rfl rfl rfl rfl rfl (by first | assumption | (simp; done) | (simp; omega)) ?_) | (refine m_store (v := Value.pointer _) M rfl rfl rfl rfl rfl (by first | assumption | (simp; done) | (simp; omega)) ?_)); clear M; (try clear wx); intro wx M; simp only [List.set_cons_zero, List.set_cons_succ, Nat.zero_add, List.nil_append] at M))
    go_ret
    exact ⟨rfl, M.up⟩
  · have hl : n ≤ 1048576 := by omega
    go_enter Try.func4, Try.ntmps4
    go_wp2_with (first
      | (go_at_call 13; (with_reducible refine mem_call M (szKeyS_r _ n _ hml _) ?_); clear M; (try clear wx); rintro _ wx rfl _ M; rw [if_neg hbig])
      | (go_at_call 15; (with_reducible refine mem_callO M (toKeyS_c _ n ks HN.out _ (HV.out.up M.up) hl) ?_); clear M; (try clear wx); intro b_ cap_ wx M)
      | (go_at_call 19; (with_reducible refine mem_call M (specKeyOfPeaks_c _ n ks HN.out q _ (M.rdK ks) hl) ?_); clear M; (try clear wx); rintro _ wx rfl _ M)
      | (go_at_call 20; (with_reducible refine mem_call M (implKeyOfPeaks_c _ n ks HN.out q _ (M.rdK ks) hl) ?_); clear M; (try clear wx); rintro _ wx rfl _ M)
      | (go_at_call 21; (with_reducible refine mem_call M (eqKey_r _ _) ?_); clear M; (try clear wx); rintro _ wx rfl _ M)
      | (go_at_call 18; (with_reducible refine mem_call M (eqKeyS_same _ _ n ks HN.out _ (by omega) (M.rdK ks) (M.rdK ks)) ?_); clear M; (try clear wx); rintro _ wx rfl _ M)
      | (with_reducible (show wpList _ _ _ (Oper.mk (some 6) (.alloc _) _ _ _ _ :: _) _ _); refine mem_new M rfl rfl ?_; clear M; (try clear wx); intro g6 wx M)
      | (with_reducible (show wpList _ _ _ (Oper.mk (some 9) (.alloc _) _ _ _ _ :: _) _ _); refine mem_new M rfl rfl ?_; clear M; (try clear wx); intro g9 wx M)
      | (with_reducible (show wpList _ _ _ (Oper.mk _ (.load _ _) _ _ _ _ :: _) _ _); (first | (refine m_load M rfl rfl rfl (by first | assumption | rfl) ?_) | (refine m_loadR M rfl rfl rfl (by first | rfl | assumption | (simp; done) | (simp; omega)) ?_)))
      | (with_reducible (show wpList _ _ _ (Oper.mk _ (.store _ _ _) _ _ _ _ :: _) _ _); (first | (refine m_storeR M rfl rfl rfl rfl (by first | rfl | assumption | (simp; done) | (simp; omega)) (by first | rfl | assumption | (simp; done) | (simp; omega)) (by first | exact bA_one _ | exact wA_one _ | assumption | (simp [Value.oneCell']; done)) ?_) | (refine m_store (v := Value.int _ _) M rfl rfl rfl rfl rfl (by first | assumption | (simp; done) | (simp; omega)) ?_) | (refine m_store (v := Value.slice _ _ _) M rfl rfl rfl rfl rfl (by first | assumption | (simp; done) | (simp; omega)) ?_) | (refine m_store (v := Value.bool _) M rfl rfl rfl rfl rfl (by first | assumption | (simp; done) | (simp; omega)) ?_) | (refine m_store (v := Value.string _) M rfl rfl rfl rfl rfl (by first | assumption | (simp; done) | (simp; omega)) ?_) | (refine m_store (v := Value.pointer _) M rfl rfl rfl rfl rfl (by first | assumption | (simp; done) | (simp; omega)) ?_)); clear M; (try clear wx); intro wx M; simp only [List.set_cons_zero, List.set_cons_succ, Nat.zero_add, List.nil_append] at M))
    go_ret
    exact ⟨rfl, M.up⟩

end Go.Proofs.Ytmbhaoiahlbglaa

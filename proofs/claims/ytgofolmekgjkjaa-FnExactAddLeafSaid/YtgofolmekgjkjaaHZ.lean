/- Walks: peaks with a further leaf. -/
import Derived.Test.YtgofolmekgjkjaaHW
import Derived.Test.YtgofolmekgjkjaaRegS
namespace Go.Proofs.Ytgofolmekgjkjaa
open Go.RowKit
set_option linter.unusedVariables false
set_option linter.unusedSimpArgs false

/-- The number of ones. -/
def onesN : Nat → Nat → Nat
  | 0, _ => 0
  | f + 1, n => n % 2 + onesN f (n / 2)

theorem onesN_zero (f : Nat) : onesN f 0 = 0 := by
  induction f with
  | zero => rfl
  | succ f ih => simp [onesN, ih]
theorem onesN_le (f : Nat) : ∀ n, onesN f n ≤ f := by
  induction f with
  | zero => intro n; exact Nat.le_refl _
  | succ f ih => intro n; have := ih (n / 2); simp only [onesN]; omega
set_option maxHeartbeats 1000000 in
set_option maxRecDepth 100000 in
theorem l03Ones_c (n : Nat) (hn : n < 256) (w : World) : Ret Try.prog 103 #[.int .i64 (n : Int)] w fun r _ => r = .int .i64 (onesN 8 n : Int) := by
  obtain ⟨T, hT⟩ : ∃ T, T = onesN 8 n := ⟨_, rfl⟩
  rw [← hT]
  have HT := Lib.hid hT
  clear hT
  refine ret_start fun wx M => ?_
  go_enter Try.func103, Try.ntmps103
  go_wp2_with fail
  go_loopg [0, 3] 8 (fun q x y wr => ∃ (k t : Nat), x = .int .i64 (k : Int) ∧ y = .int .i64 (t : Int) ∧ k < 2 ^ q ∧ k < 256 ∧ t + q ≤ 8 ∧ Hid (t + onesN q k = T) ∧ Mem w wr [])
  case atStart => exact ⟨n, 0, rfl, rfl, hn, hn, by omega, Lib.hid (by rw [Nat.zero_add]; exact HT.out.symm), M⟩
  case round =>
    obtain ⟨k, t, rfl, rfl, hkq, hk, ht, HB, M⟩ := hrel
    by_cases h0 : 0 < k
    · obtain ⟨q, rfl⟩ : ∃ q, gk = q + 1 := by
        rcases gk with _ | q
        · simp at hkq; omega
        · exact ⟨q, rfl⟩
      have HQ := Lib.hid hkq
      have hb := HB.out
      have hle := onesN_le q (k / 2)
      clear hkq
      go_wp2_with fail
      have hkq := HQ.out
      have ht' : t + k % 2 + q ≤ 8 := by omega
      go_roundg q
      case measure => omega
      case rel => exact ⟨k / 2, t + k % 2, by go_num, by go_num, by rw [Nat.pow_succ] at hkq; omega, by omega, ht', Lib.hid (by rw [← hb]; simp only [onesN]; omega), M⟩
    · obtain rfl : k = 0 := by omega
      rw [onesN_zero] at HB
      clear hkq
      go_wp2_with fail
      go_ret
      exact ⟨_, rfl, by rw [← HB.out]; rfl, M.up⟩

theorem onesCount_c (n : Nat) (hn : n < 256) (w : World) : Ret Try.prog 104 #[.int .u64 (n : Int)] w fun r _ => r = .int .i64 (onesN 8 n : Int) := by
  refine ret_start fun wx M => ?_
  go_enter Try.func104, Try.ntmps104
  go_wp2_with fail
  go_ret
  refine ⟨_, rfl, ?_, M.up⟩
  show Value.int .i64 _ = Value.int .i64 _
  congr 1
  clear M
  revert n
  decide +kernel

/-- What is said of peaks and a number of leaves. -/
def gvC (m : Nat) (n : Int) : Int := if 256 < m then 3 else if 0 ≤ n ∧ n ≤ 255 then (if m = onesN 8 n.toNat then 0 else 4) else 2

set_option maxHeartbeats 1000000 in
set_option maxRecDepth 100000 in
theorem l03Given_c (b : Option Addr) (m cap : Nat) (n : Int) (w : World) (hm : m ≤ 1048576) : Ret Try.prog 88 #[.slice b m cap, .int .i64 n, .int .i64 255] w fun r _ => r = .int .i64 (gvC m n) := by
  refine ret_start fun wx M => ?_
  by_cases hbig : 256 < m
  · have HE := Lib.hid (show gvC m n = 3 by rw [gvC, if_pos hbig])
    go_enter Try.func88, Try.ntmps88
    go_wp2_with fail
    go_ret
    exact ⟨_, rfl, by rw [HE.out]; rfl, M.up⟩
  · by_cases hn : 0 ≤ n ∧ n ≤ 255
    · have HI := Lib.hid (l00In_is n 0 255 true (by simp [hn]))
      obtain ⟨n, rfl⟩ : ∃ k : Nat, n = (k : Int) := ⟨n.toNat, by omega⟩
      have HE := Lib.hid (show gvC m n = if m = onesN 8 n then 0 else 4 by rw [gvC, if_neg hbig, if_pos hn]; rfl)
      have HO := Lib.hid (l03Ones_c n (by omega))
      have hn2 : n ≤ 255 := by omega
      clear hn
      generalize onesN 8 n = t at *
      by_cases hmt : m = t
      · subst hmt
        rw [if_pos rfl] at HE
        go_enter Try.func88, Try.ntmps88
        go_wp2_with (first
          | (go_at_call 76; (with_reducible refine mem_call M (HI.out _) ?_); clear M; (try clear wx); rintro _ wx rfl _ M)
          | (go_at_call 103; (with_reducible refine mem_call M (HO.out _) ?_); clear M; (try clear wx); rintro _ wx rfl _ M))
        go_ret
        exact ⟨_, rfl, by rw [HE.out]; rfl, M.up⟩
      · rw [if_neg hmt] at HE
        go_enter Try.func88, Try.ntmps88
        go_wp2_with (first
          | (go_at_call 76; (with_reducible refine mem_call M (HI.out _) ?_); clear M; (try clear wx); rintro _ wx rfl _ M)
          | (go_at_call 103; (with_reducible refine mem_call M (HO.out _) ?_); clear M; (try clear wx); rintro _ wx rfl _ M))
        go_ret
        exact ⟨_, rfl, by rw [HE.out]; rfl, M.up⟩
    · have HI := Lib.hid (l00In_is n 0 255 false (by simp; omega))
      have HE := Lib.hid (show gvC m n = 2 by rw [gvC, if_neg hbig, if_neg hn])
      clear hn
      go_enter Try.func88, Try.ntmps88
      go_wp2_with (first
        | (go_at_call 76; (with_reducible refine mem_call M (HI.out _) ?_); clear M; (try clear wx); rintro _ wx rfl _ M))
      go_ret
      exact ⟨_, rfl, by rw [HE.out]; rfl, M.up⟩

set_option maxHeartbeats 1000000 in
set_option maxRecDepth 100000 in
theorem peaksCode_c (b : Option Addr) (m cap : Nat) (n : Int) (w : World) (hm : m ≤ 1048576) : Ret Try.prog 89 #[.slice b m cap, .int .i64 n, .int .i64 255] w fun r _ => r = .int .i64 (gvC m n) := by
  refine ret_start fun wx M => ?_
  by_cases hbig : 256 < m
  · have HE := Lib.hid (show gvC m n = 3 by rw [gvC, if_pos hbig])
    go_enter Try.func89, Try.ntmps89
    go_wp2_with fail
    go_ret
    exact ⟨_, rfl, by rw [HE.out]; rfl, M.up⟩
  · by_cases hn : 0 ≤ n ∧ n ≤ 255
    · have HI := Lib.hid (within_is n 0 255 true (by simp [hn]))
      obtain ⟨n, rfl⟩ : ∃ k : Nat, n = (k : Int) := ⟨n.toNat, by omega⟩
      have HE := Lib.hid (show gvC m n = if m = onesN 8 n then 0 else 4 by rw [gvC, if_neg hbig, if_pos hn]; rfl)
      have HO := Lib.hid (onesCount_c n (by omega))
      have hn2 : n ≤ 255 := by omega
      clear hn
      generalize onesN 8 n = t at *
      by_cases hmt : m = t
      · subst hmt
        rw [if_pos rfl] at HE
        go_enter Try.func89, Try.ntmps89
        go_wp2_with (first
          | (go_at_call 80; (with_reducible refine mem_call M (HI.out _) ?_); clear M; (try clear wx); rintro _ wx rfl _ M)
          | (go_at_call 104; (with_reducible refine mem_call M (HO.out _) ?_); clear M; (try clear wx); rintro _ wx rfl _ M))
        go_ret
        exact ⟨_, rfl, by rw [HE.out]; rfl, M.up⟩
      · rw [if_neg hmt] at HE
        go_enter Try.func89, Try.ntmps89
        go_wp2_with (first
          | (go_at_call 80; (with_reducible refine mem_call M (HI.out _) ?_); clear M; (try clear wx); rintro _ wx rfl _ M)
          | (go_at_call 104; (with_reducible refine mem_call M (HO.out _) ?_); clear M; (try clear wx); rintro _ wx rfl _ M))
        go_ret
        exact ⟨_, rfl, by rw [HE.out]; rfl, M.up⟩
    · have HI := Lib.hid (within_is n 0 255 false (by simp; omega))
      have HE := Lib.hid (show gvC m n = 2 by rw [gvC, if_neg hbig, if_neg hn])
      clear hn
      go_enter Try.func89, Try.ntmps89
      go_wp2_with (first
        | (go_at_call 80; (with_reducible refine mem_call M (HI.out _) ?_); clear M; (try clear wx); rintro _ wx rfl _ M))
      go_ret
      exact ⟨_, rfl, by rw [HE.out]; rfl, M.up⟩

theorem bin_sub1 (x y z : Int) (h : IntKind.wrap .i64 (x - y) = z) (a b : Operand) (w : World) : Sem.run Try.prog (do eqGuard .sub 3 a b (.int .i64 x) (.int .i64 y); binOp .sub 3 (.int .i64 x) (.int .i64 y)) w = .ok (.int .i64 z) w := by
  go_simp
  try rw [h]
/-- The peaks with a further leaf. -/
def adF : Nat → List Ky → Nat → Ky → List Ky
  | 0, out, _, leaf => out ++ [leaf]
  | f + 1, out, n, leaf => if n % 2 = 1 then adF f (out.take (out.length - 1)) (n / 2) (nodeK (out.getD (out.length - 1) zeroKy) leaf) else out ++ [leaf]
theorem adF_even (f : Nat) (out : List Ky) (n : Nat) (leaf : Ky) (h : n % 2 = 0) : adF f out n leaf = out ++ [leaf] := by
  cases f with
  | zero => rfl
  | succ f => rw [adF, if_neg (by omega)]
theorem adF_odd (f : Nat) (out : List Ky) (n m : Nat) (leaf : Ky) (h : n % 2 = 1) (hm : out.length = m + 1) (hl : m < out.length) : adF (f + 1) out n leaf = adF f (out.take m) (n / 2) (nodeK (out[m]'hl) leaf) := by
  rw [adF, if_pos h, hm, Nat.add_sub_cancel]
  simp [hl]
theorem Mem.rngK {w0 w : World} {L : List It} (M : Mem w0 w L) (ks : List Ky) {g o cap n p : Nat} {e : TypeId} [hL : AtO L (some ⟨g, o, none⟩) cap n p e 32 (kyL ks)] (j : Nat) (hj : j < ks.length) : w.rangeAt g (o + j * 32) (bL (ks[j]'hj).1) := by
  have hr := M.rdK ks (b := some ⟨g, o, none⟩) (cap := cap)
  have hn : ks.length = n := by have := hr.len_.2.2; simp at this; omega
  obtain ⟨g', o', h1, h2⟩ := hr.open_ (by omega)
  injection h1 with h1
  injection h1 with h1 h3
  subst h1 h3
  exact kyL_range (h2 w (Up.refl _)) j hj

set_option maxHeartbeats 2000000 in
set_option maxRecDepth 100000 in
theorem specAddLeaf_c (v : Value) (m : Nat) (ks : List Ky) (hks : ks.length = m) (n : Int) (leaf : Ky) (w : World) (hv : Rd w 32 v m (kyL ks)) (hl : m ≤ 1048576) (hg : gvC m n = 0) (n' : Nat) (hn' : n = (n' : Int)) (hn2 : n' < 256) (hn3 : m = onesN 8 n') :
    Ret Try.prog 50 #[v, .int .i64 n, .agg (bA leaf.1)] w fun r w' => OwnR2 w w' 23 32 r (adF 8 ks n' leaf).length (kyL (adF 8 ks n' leaf)) (.int .i64 0) := by
  obtain ⟨b, cap, rfl⟩ := hv.shape
  have HV := Lib.hid hv
  have HGV := Lib.hid (fun w => l03Given_c b m cap n w hl)
  rw [hg] at HGV
  subst hn'
  have HK := Lib.hid (And.intro hks hn3)
  obtain ⟨T, hT⟩ : ∃ T, T = adF 8 ks n' leaf := ⟨_, rfl⟩
  rw [← hT]
  have HT := Lib.hid hT
  have hm8 : m ≤ 8 := by rw [hn3]; exact onesN_le _ _
  clear hv hg hks hn3 hT
  refine ret_start fun wx M => ?_
  go_enter Try.func50, Try.ntmps50
  go_wp2_with (first
    | (go_at_call 88; (with_reducible refine mem_call M (HGV.out _) ?_); clear M; (try clear wx); rintro _ wx rfl _ M)
    | (with_reducible (show wpList _ _ _ (Oper.mk (some 5) (.box _ _) _ _ _ _ :: _) _ _); (first | (refine m_boxA M rfl rfl rfl ?_) | (refine m_box1 (v := Value.int _ _) M rfl rfl rfl rfl ?_) | (refine m_box1 (v := Value.slice _ _ _) M rfl rfl rfl rfl ?_) | (refine m_box1 (v := Value.bool _) M rfl rfl rfl rfl ?_) | (refine m_box1 (v := Value.string _) M rfl rfl rfl rfl ?_) | (refine m_box1 (v := Value.pointer _) M rfl rfl rfl rfl ?_)); clear M; (try clear wx); intro g5 wx M)
    | (with_reducible (show wpList _ _ _ (Oper.mk (some 15) (.buildSlice _ _ _) _ _ _ _ :: _) _ _); refine m_lit0 M rfl rfl ?_; clear M; (try clear wx); intro g15 wx M)
    | (with_reducible (show wpList _ _ _ (Oper.mk (some 17) (.buildSlice _ _ _) _ _ _ _ :: _) _ _); refine m_lit0 M rfl rfl ?_; clear M; (try clear wx); intro g17 wx M)
    | (with_reducible (show wpList _ _ _ (Oper.mk (some 40) (.buildSlice _ _ _) _ _ _ _ :: _) _ _); (first | (refine m_lit1A M rfl rfl rfl (by first | rfl | assumption | (simp; done) | (simp; omega)) (by decide) ?_) | (refine m_lit11 (v := Value.int _ _) M rfl rfl rfl rfl ?_) | (refine m_lit11 (v := Value.slice _ _ _) M rfl rfl rfl rfl ?_) | (refine m_lit11 (v := Value.bool _) M rfl rfl rfl rfl ?_) | (refine m_lit11 (v := Value.string _) M rfl rfl rfl rfl ?_) | (refine m_lit11 (v := Value.pointer _) M rfl rfl rfl rfl ?_)); clear M; (try clear wx); intro g40 wx M)
    | (with_reducible (show wpList _ _ _ (Oper.mk _ (.load _ _) _ _ _ _ :: _) _ _); (first | (refine m_load M rfl rfl rfl (by first | assumption | rfl) ?_) | (refine m_loadR M rfl rfl rfl (by first | rfl | assumption | (simp; done) | (simp; omega)) ?_)))
    | (with_reducible (show wpList _ _ _ (Oper.mk _ (.store _ _ _) _ _ _ _ :: _) _ _); (first | (refine m_storeR M rfl rfl rfl rfl (by first | rfl | assumption | (simp; done) | (simp; omega)) (by first | rfl | assumption | (simp; done) | (simp; omega)) (by first | exact bA_one _ | exact wA_one _ | assumption | (simp [Value.oneCell']; done)) ?_) | (refine m_store (v := Value.int _ _) M rfl rfl rfl rfl rfl (by first | assumption | (simp; done) | (simp; omega)) ?_) | (refine m_store (v := Value.slice _ _ _) M rfl rfl rfl rfl rfl (by first | assumption | (simp; done) | (simp; omega)) ?_) | (refine m_store (v := Value.bool _) M rfl rfl rfl rfl rfl (by first | assumption | (simp; done) | (simp; omega)) ?_) | (refine m_store (v := Value.string _) M rfl rfl rfl rfl rfl (by first | assumption | (simp; done) | (simp; omega)) ?_) | (refine m_store (v := Value.pointer _) M rfl rfl rfl rfl rfl (by first | assumption | (simp; done) | (simp; omega)) ?_)); clear M; (try clear wx); intro wx M; simp only [List.set_cons_zero, List.set_cons_succ, Nat.zero_add, List.nil_append] at M)
    | (with_reducible (show wpList _ _ _ (Oper.mk _ (.call (Call.mk (.builtin .append) _ _)) _ _ _ _ :: _) _ _); (first | (refine m_append M rfl rfl rfl (by first | rfl | omega | (simp; done)) rfl (HV.out.up M.up) (by first | assumption | (simp only [maxLen]; omega)) (by omega) ?_) | (refine m_append1 M rfl rfl rfl (by first | rfl | omega | (simp; done)) rfl (by first | rfl | assumption | (simp; done) | (simp; omega)) (by first | exact bA_one _ | exact wA_one _ | assumption | (simp [Value.oneCell']; done)) (by first | assumption | (simp only [maxLen]; omega)) (by omega) ?_)); clear M; (try clear wx); intro _ _ wx M; simp only [List.set_cons_zero, List.set_cons_succ, Nat.zero_add, List.nil_append] at M))
  go_loopg [1, 9] 8 (fun q x y wr => ∃ (k : Nat) (out : List Ky) (y5 : Ky) (b1 : Option Addr) (cap1 m1 : Nat), x = .int .i64 (k : Int) ∧ y = .slice b1 m1 cap1 ∧ k < 256 ∧ m1 ≤ 8 ∧ Hid (k < 2 ^ q ∧ out.length = m1 ∧ m1 = onesN q k ∧ adF q out k y5 = T) ∧ Mem w wr [.own b1 cap1 23 32 m1 (kyL out), .blk g5 23 (bA y5.1)])
  case atStart => exact ⟨n', ks, leaf, _, _, m, rfl, rfl, hn2, hm8, Lib.hid ⟨hn2, HK.out.1, HK.out.2, HT.out.symm⟩, M⟩
  case round =>
    obtain ⟨k, out, y5, b1, cap1, m1, rfl, rfl, hk, hm1, HB, M⟩ := hrel
    by_cases h1 : k % 2 = 1
    · obtain ⟨q, rfl⟩ : ∃ q, gk = q + 1 := by
        rcases gk with _ | q
        · have := HB.out.1; simp at this; omega
        · exact ⟨q, rfl⟩
      obtain ⟨d, rfl⟩ : ∃ d, m1 = d + 1 := by
        have := HB.out.2.2.1
        simp only [onesN] at this
        exact ⟨onesN q (k / 2), by omega⟩
      have hd : d < out.length := by have := HB.out.2.1; omega
      have hd2 : d < d + 1 := by omega
      have hd3 : d ≤ cap1 := by have := (M.lenO b1 cap1).1; omega
      have HE := Lib.hid (adF_odd q out k d y5 h1 HB.out.2.1 hd)
      have e1 : ((d + 1 : Nat) : Int) - 1 = (d : Int) := by omega
      have HO : Hid ((out.take d).length = d ∧ d = onesN q (k / 2) ∧ k / 2 < 2 ^ q) := Lib.hid (by
        obtain ⟨h2, h3, h4, -⟩ := HB.out
        refine ⟨by rw [List.length_take]; omega, ?_, ?_⟩
        · simp only [onesN] at h4; omega
        · rw [Nat.pow_succ] at h2; omega)
      obtain ⟨g, rfl⟩ : ∃ g, b1 = some ⟨g, 0, none⟩ := by
        rcases M.headO b1 cap1 with rfl | h
        · obtain ⟨_, _, h, _⟩ := (M.rdK out (b := none) (cap := cap1)).open_ (by omega)
          cases h
        · exact h
      have h1' : (k : Int) % 2 = 1 := by omega
      clear h1
      go_wp2_with (first
        | (with_reducible (show wpList _ _ _ (Oper.mk (some 5) (.box _ _) _ _ _ _ :: _) _ _); (first | (refine m_boxA M rfl rfl rfl ?_) | (refine m_box1 (v := Value.int _ _) M rfl rfl rfl rfl ?_) | (refine m_box1 (v := Value.slice _ _ _) M rfl rfl rfl rfl ?_) | (refine m_box1 (v := Value.bool _) M rfl rfl rfl rfl ?_) | (refine m_box1 (v := Value.string _) M rfl rfl rfl rfl ?_) | (refine m_box1 (v := Value.pointer _) M rfl rfl rfl rfl ?_)); clear M; (try clear wx); intro g5 wx M)
        | (with_reducible (show wpList _ _ _ (Oper.mk (some 15) (.buildSlice _ _ _) _ _ _ _ :: _) _ _); refine m_lit0 M rfl rfl ?_; clear M; (try clear wx); intro g15 wx M)
        | (with_reducible (show wpList _ _ _ (Oper.mk (some 17) (.buildSlice _ _ _) _ _ _ _ :: _) _ _); refine m_lit0 M rfl rfl ?_; clear M; (try clear wx); intro g17 wx M)
        | (with_reducible (show wpList _ _ _ (Oper.mk (some 40) (.buildSlice _ _ _) _ _ _ _ :: _) _ _); (first | (refine m_lit1A M rfl rfl rfl (by first | rfl | assumption | (simp; done) | (simp; omega)) (by decide) ?_) | (refine m_lit11 (v := Value.int _ _) M rfl rfl rfl rfl ?_) | (refine m_lit11 (v := Value.slice _ _ _) M rfl rfl rfl rfl ?_) | (refine m_lit11 (v := Value.bool _) M rfl rfl rfl rfl ?_) | (refine m_lit11 (v := Value.string _) M rfl rfl rfl rfl ?_) | (refine m_lit11 (v := Value.pointer _) M rfl rfl rfl rfl ?_)); clear M; (try clear wx); intro g40 wx M)
        | (with_reducible (show wpList _ _ _ (Oper.mk _ (.load _ _) _ _ _ _ :: _) _ _); (first | (refine m_load M rfl rfl rfl (by first | assumption | rfl) ?_) | (refine m_loadR M rfl rfl rfl (by first | rfl | assumption | (simp; done) | (simp; omega)) ?_)))
        | (with_reducible (show wpList _ _ _ (Oper.mk _ (.store _ _ _) _ _ _ _ :: _) _ _); (first | (refine m_storeR M rfl rfl rfl rfl (by first | rfl | assumption | (simp; done) | (simp; omega)) (by first | rfl | assumption | (simp; done) | (simp; omega)) (by first | exact bA_one _ | exact wA_one _ | assumption | (simp [Value.oneCell']; done)) ?_) | (refine m_store (v := Value.int _ _) M rfl rfl rfl rfl rfl (by first | assumption | (simp; done) | (simp; omega)) ?_) | (refine m_store (v := Value.slice _ _ _) M rfl rfl rfl rfl rfl (by first | assumption | (simp; done) | (simp; omega)) ?_) | (refine m_store (v := Value.bool _) M rfl rfl rfl rfl rfl (by first | assumption | (simp; done) | (simp; omega)) ?_) | (refine m_store (v := Value.string _) M rfl rfl rfl rfl rfl (by first | assumption | (simp; done) | (simp; omega)) ?_) | (refine m_store (v := Value.pointer _) M rfl rfl rfl rfl rfl (by first | assumption | (simp; done) | (simp; omega)) ?_)); clear M; (try clear wx); intro wx M; simp only [List.set_cons_zero, List.set_cons_succ, Nat.zero_add, List.nil_append] at M)
        | (with_reducible (show wpList _ _ _ (Oper.mk _ (.call (Call.mk (.builtin .append) _ _)) _ _ _ _ :: _) _ _); (first | (refine m_append1 M rfl rfl rfl (by first | rfl | omega | (simp; done)) rfl (by first | rfl | assumption | (simp; done) | (simp; omega)) (by first | exact bA_one _ | exact wA_one _ | assumption | (simp [Value.oneCell']; done)) (by first | assumption | (simp only [maxLen]; omega)) (by omega) ?_)); clear M; (try clear wx); intro _ _ wx M; simp only [List.set_cons_zero, List.set_cons_succ, Nat.zero_add, List.nil_append] at M))
      refine region_mono (m := 8) mixedOrders_ (by kernel_rfl) (by kernel_rfl)
        (fun | 0 => fun vq _ => vq = .slice (some ⟨g, 0, none⟩) (d + 1) cap1 | 1 => fun vq _ => vq = .slice (some ⟨g, 0, none⟩) (d + 1) cap1 | 2 => fun v wx => v = .int .i64 ((d + 1 : Nat) : Int) | 3 => fun vq _ => vq = .int .i64 (d : Int) | 4 => fun vq _ => vq = .pointer (some ⟨g, 0 + d * 32, none⟩) | 5 => fun vq _ => vq = .agg (bA ((out[d]'hd).1)) | 6 => fun vq _ => vq = .agg (bA y5.1) | 7 => fun vq _ => vq = .agg (bA (nodeK (out[d]'hd) y5).1) | _ => fun _ _ => True)
        (fun wx => Mem w wx [.own (some ⟨g, 0, none⟩) cap1 23 32 (d + 1) (kyL out), .blk g5 23 (bA y5.1)]) ?_ ?_ ?_ ?_ ?_
      · intro j hj v w1 w2 hb h
        match j, hj with
        | 0, _ => exact h
        | 1, _ => exact h
        | 2, _ => exact h
        | 3, _ => exact h
        | 4, _ => exact h
        | 5, _ => exact h
        | 6, _ => exact h
        | 7, _ => exact h
      · intro w1 w2 hb h
        exact h.grow hb
      · exact M.grow ((Up.refl _).drew)
      · rintro i o hi ho av wv fr gM dep
        match i, hi with
        | 0, _ =>
          obtain rfl := Option.some.inj ho
          exact st_mov rfl (fr.eval rfl) rfl
        | 1, _ =>
          obtain rfl := Option.some.inj ho
          exact st_mov rfl (fr.eval rfl) rfl
        | 2, _ =>
          obtain rfl := Option.some.inj ho
          exact st_len rfl (dep ⟨1, .data⟩ (by simp) rfl) rfl
        | 3, _ =>
          obtain rfl := Option.some.inj ho
          exact st_bin rfl (dep ⟨2, .data⟩ (by simp) rfl) (rfl) (bin_sub1 _ _ _ (by rw [e1]; exact i64_in_ _ (by omega)) _ _ _) rfl
        | 4, _ =>
          obtain rfl := Option.some.inj ho
          exact st_indexAddr rfl (dep ⟨0, .data⟩ (by simp) rfl) (dep ⟨3, .data⟩ (by simp) rfl) (ix_slice _ _ _ _ _ hd2 _) rfl
        | 5, _ =>
          obtain rfl := Option.some.inj ho
          exact st_loadA rfl (dep ⟨4, .data⟩ (by simp) rfl) (gM.rngK out (cap := cap1) d hd) (out[d]'hd).2 rfl
        | 6, _ =>
          obtain rfl := Option.some.inj ho
          exact st_loadG gM rfl (fr.eval rfl) (by first | rfl | (simp; done)) rfl
        | 7, _ =>
          obtain rfl := Option.some.inj ho
          have d0 := dep ⟨5, .data⟩ (by simp) rfl
          have d1 := dep ⟨6, .data⟩ (by simp) rfl
          exact st_ret2 rfl (fun _ _ => by kernel_rfl) d0 d1 (l03Node_c (out[d]'hd) y5 _) (fun r w' h _ => h)
      · rintro vs wv gM hf
        have f0 : vs 0 = .slice (some ⟨g, 0, none⟩) (d + 1) cap1 := hf 0 (by omega)
        have f1 : vs 1 = .slice (some ⟨g, 0, none⟩) (d + 1) cap1 := hf 1 (by omega)
        have f2 := hf 2 (by omega)
        have f3 : vs 3 = .int .i64 (d : Int) := hf 3 (by omega)
        have f4 : vs 4 = .pointer (some ⟨g, 0 + d * 32, none⟩) := hf 4 (by omega)
        have f5 : vs 5 = .agg (bA ((out[d]'hd).1)) := hf 5 (by omega)
        have f6 : vs 6 = .agg (bA y5.1) := hf 6 (by omega)
        have f7 : vs 7 = .agg (bA (nodeK (out[d]'hd) y5).1) := hf 7 (by omega)
        simp only [putAll, Act.put, List.getElem?_toArray, List.getElem?_cons_zero, List.getElem?_cons_succ, Option.bind_some, List.setIfInBounds_toArray, List.set_cons_zero, List.set_cons_succ, List.drop_succ_cons, List.drop_zero, List.drop_nil, f7]
        clear f0 f1 f2 f3 f4 f5 f6 f7 hf
        have M := gM
        generalize nodeK (out[d]'hd) y5 = z at *
        go_wp2_with (first
          | (with_reducible (show wpList _ _ _ (Oper.mk _ (.slice _ _ _ _ _) _ _ _ _ :: _) _ _); refine m_sliceHi rfl rfl (b := some ⟨g, 0, none⟩) rfl (.inr ⟨g, rfl⟩) (h := d) (by rw [← e1]; rfl) hd3 ?_)
          | (with_reducible (show wpList _ _ _ (Oper.mk (some 5) (.box _ _) _ _ _ _ :: _) _ _); (first | (refine m_boxA M rfl rfl rfl ?_) | (refine m_box1 (v := Value.int _ _) M rfl rfl rfl rfl ?_) | (refine m_box1 (v := Value.slice _ _ _) M rfl rfl rfl rfl ?_) | (refine m_box1 (v := Value.bool _) M rfl rfl rfl rfl ?_) | (refine m_box1 (v := Value.string _) M rfl rfl rfl rfl ?_) | (refine m_box1 (v := Value.pointer _) M rfl rfl rfl rfl ?_)); clear M; (try clear wx); intro g5 wx M)
          | (with_reducible (show wpList _ _ _ (Oper.mk (some 15) (.buildSlice _ _ _) _ _ _ _ :: _) _ _); refine m_lit0 M rfl rfl ?_; clear M; (try clear wx); intro g15 wx M)
          | (with_reducible (show wpList _ _ _ (Oper.mk (some 17) (.buildSlice _ _ _) _ _ _ _ :: _) _ _); refine m_lit0 M rfl rfl ?_; clear M; (try clear wx); intro g17 wx M)
          | (with_reducible (show wpList _ _ _ (Oper.mk (some 40) (.buildSlice _ _ _) _ _ _ _ :: _) _ _); (first | (refine m_lit1A M rfl rfl rfl (by first | rfl | assumption | (simp; done) | (simp; omega)) (by decide) ?_) | (refine m_lit11 (v := Value.int _ _) M rfl rfl rfl rfl ?_) | (refine m_lit11 (v := Value.slice _ _ _) M rfl rfl rfl rfl ?_) | (refine m_lit11 (v := Value.bool _) M rfl rfl rfl rfl ?_) | (refine m_lit11 (v := Value.string _) M rfl rfl rfl rfl ?_) | (refine m_lit11 (v := Value.pointer _) M rfl rfl rfl rfl ?_)); clear M; (try clear wx); intro g40 wx M)
          | (with_reducible (show wpList _ _ _ (Oper.mk _ (.load _ _) _ _ _ _ :: _) _ _); (first | (refine m_load M rfl rfl rfl (by first | assumption | rfl) ?_) | (refine m_loadR M rfl rfl rfl (by first | rfl | assumption | (simp; done) | (simp; omega)) ?_)))
          | (with_reducible (show wpList _ _ _ (Oper.mk _ (.store _ _ _) _ _ _ _ :: _) _ _); (first | (refine m_storeR M rfl rfl rfl rfl (by first | rfl | assumption | (simp; done) | (simp; omega)) (by first | rfl | assumption | (simp; done) | (simp; omega)) (by first | exact bA_one _ | exact wA_one _ | assumption | (simp [Value.oneCell']; done)) ?_) | (refine m_store (v := Value.int _ _) M rfl rfl rfl rfl rfl (by first | assumption | (simp; done) | (simp; omega)) ?_) | (refine m_store (v := Value.slice _ _ _) M rfl rfl rfl rfl rfl (by first | assumption | (simp; done) | (simp; omega)) ?_) | (refine m_store (v := Value.bool _) M rfl rfl rfl rfl rfl (by first | assumption | (simp; done) | (simp; omega)) ?_) | (refine m_store (v := Value.string _) M rfl rfl rfl rfl rfl (by first | assumption | (simp; done) | (simp; omega)) ?_) | (refine m_store (v := Value.pointer _) M rfl rfl rfl rfl rfl (by first | assumption | (simp; done) | (simp; omega)) ?_)); clear M; (try clear wx); intro wx M; simp only [List.set_cons_zero, List.set_cons_succ, Nat.zero_add, List.nil_append] at M)
          | (with_reducible (show wpList _ _ _ (Oper.mk _ (.call (Call.mk (.builtin .append) _ _)) _ _ _ _ :: _) _ _); (first | (refine m_append1 M rfl rfl rfl (by first | rfl | omega | (simp; done)) rfl (by first | rfl | assumption | (simp; done) | (simp; omega)) (by first | exact bA_one _ | exact wA_one _ | assumption | (simp [Value.oneCell']; done)) (by first | assumption | (simp only [maxLen]; omega)) (by omega) ?_)); clear M; (try clear wx); intro _ _ wx M; simp only [List.set_cons_zero, List.set_cons_succ, Nat.zero_add, List.nil_append] at M))
        have M := M.own_less (p := 0) rfl d (by omega)
        rw [List.set_cons_zero, kyL_take] at M
        go_roundg q
        case measure => omega
        case rel =>
          refine ⟨k / 2, out.take d, z, _, _, d, by go_num, rfl, by omega, by omega, Lib.hid ⟨HO.out.2.2, HO.out.1, HO.out.2.1, ?_⟩, M⟩
          rw [← HE.out]; exact HB.out.2.2.2
    · have h1' : (k : Int) % 2 = 0 := by omega
      have HE := Lib.hid (show out ++ [y5] = T by have := HB.out.2.2.2; rwa [adF_even _ _ _ _ (by omega)] at this)
      have HL := Lib.hid HB.out.2.1
      clear h1
      go_wp2_with (first
        | (with_reducible (show wpList _ _ _ (Oper.mk (some 5) (.box _ _) _ _ _ _ :: _) _ _); (first | (refine m_boxA M rfl rfl rfl ?_) | (refine m_box1 (v := Value.int _ _) M rfl rfl rfl rfl ?_) | (refine m_box1 (v := Value.slice _ _ _) M rfl rfl rfl rfl ?_) | (refine m_box1 (v := Value.bool _) M rfl rfl rfl rfl ?_) | (refine m_box1 (v := Value.string _) M rfl rfl rfl rfl ?_) | (refine m_box1 (v := Value.pointer _) M rfl rfl rfl rfl ?_)); clear M; (try clear wx); intro g5 wx M)
        | (with_reducible (show wpList _ _ _ (Oper.mk (some 15) (.buildSlice _ _ _) _ _ _ _ :: _) _ _); refine m_lit0 M rfl rfl ?_; clear M; (try clear wx); intro g15 wx M)
        | (with_reducible (show wpList _ _ _ (Oper.mk (some 17) (.buildSlice _ _ _) _ _ _ _ :: _) _ _); refine m_lit0 M rfl rfl ?_; clear M; (try clear wx); intro g17 wx M)
        | (with_reducible (show wpList _ _ _ (Oper.mk (some 40) (.buildSlice _ _ _) _ _ _ _ :: _) _ _); (first | (refine m_lit1A M rfl rfl rfl (by first | rfl | assumption | (simp; done) | (simp; omega)) (by decide) ?_) | (refine m_lit11 (v := Value.int _ _) M rfl rfl rfl rfl ?_) | (refine m_lit11 (v := Value.slice _ _ _) M rfl rfl rfl rfl ?_) | (refine m_lit11 (v := Value.bool _) M rfl rfl rfl rfl ?_) | (refine m_lit11 (v := Value.string _) M rfl rfl rfl rfl ?_) | (refine m_lit11 (v := Value.pointer _) M rfl rfl rfl rfl ?_)); clear M; (try clear wx); intro g40 wx M)
        | (with_reducible (show wpList _ _ _ (Oper.mk _ (.load _ _) _ _ _ _ :: _) _ _); (first | (refine m_load M rfl rfl rfl (by first | assumption | rfl) ?_) | (refine m_loadR M rfl rfl rfl (by first | rfl | assumption | (simp; done) | (simp; omega)) ?_)))
        | (with_reducible (show wpList _ _ _ (Oper.mk _ (.store _ _ _) _ _ _ _ :: _) _ _); (first | (refine m_storeR M rfl rfl rfl rfl (by first | rfl | assumption | (simp; done) | (simp; omega)) (by first | rfl | assumption | (simp; done) | (simp; omega)) (by first | exact bA_one _ | exact wA_one _ | assumption | (simp [Value.oneCell']; done)) ?_) | (refine m_store (v := Value.int _ _) M rfl rfl rfl rfl rfl (by first | assumption | (simp; done) | (simp; omega)) ?_) | (refine m_store (v := Value.slice _ _ _) M rfl rfl rfl rfl rfl (by first | assumption | (simp; done) | (simp; omega)) ?_) | (refine m_store (v := Value.bool _) M rfl rfl rfl rfl rfl (by first | assumption | (simp; done) | (simp; omega)) ?_) | (refine m_store (v := Value.string _) M rfl rfl rfl rfl rfl (by first | assumption | (simp; done) | (simp; omega)) ?_) | (refine m_store (v := Value.pointer _) M rfl rfl rfl rfl rfl (by first | assumption | (simp; done) | (simp; omega)) ?_)); clear M; (try clear wx); intro wx M; simp only [List.set_cons_zero, List.set_cons_succ, Nat.zero_add, List.nil_append] at M)
        | (with_reducible (show wpList _ _ _ (Oper.mk _ (.call (Call.mk (.builtin .append) _ _)) _ _ _ _ :: _) _ _); (first | (refine m_append1 M rfl rfl rfl (by first | rfl | omega | (simp; done)) rfl (by first | rfl | assumption | (simp; done) | (simp; omega)) (by first | exact bA_one _ | exact wA_one _ | assumption | (simp [Value.oneCell']; done)) (by first | assumption | (simp only [maxLen]; omega)) (by omega) ?_)); clear M; (try clear wx); intro _ _ wx M; simp only [List.set_cons_zero, List.set_cons_succ, Nat.zero_add, List.nil_append] at M))
      go_ret2
      refine ⟨_, rfl, ?_, M.up⟩
      rw [← HE.out, List.length_append, HL.out, ← kyL_snoc]
      exact ⟨_, _, rfl, M.out_own (p := 0) rfl⟩

theorem nil_eql (b : Option Addr) (n cap : Nat) (w : World) : (binOp .eql 56 (.slice b n cap) (.slice none 0 0)).run Try.prog w = .ok (.bool b.isNone) w := by
  have h : ∀ d, (Op.equalIn (d + 1) 56 (.slice b n cap) (.slice none 0 0)).run Try.prog w = .ok b.isNone w := fun d => by
    cases b <;> simp [Op.equalIn, run_underlying Try.underlying56]
  have h := h 9999
  simp only [binOp, Op.equal]
  rw [Sem.run_bind, show Op.maxDepth = 9999 + 1 from rfl, h]
  rfl
set_option maxHeartbeats 1000000 in
set_option maxRecDepth 100000 in
theorem cloneKey_c (v : Value) (n : Nat) (ks : List Ky) (hks : ks.length = n) (w : World) (hv : Rd w 32 v n (kyL ks)) (hl : n ≤ 1048576) : Ret Try.prog 90 #[v] w fun r w' => OwnR w w' 23 32 r n (kyL ks) := by
  obtain ⟨b, cap, rfl⟩ := hv.shape
  have HV := Lib.hid hv
  refine ret_start fun wx M => ?_
  cases b with
  | none =>
    have hn0 : n = 0 := by
      rcases Nat.eq_zero_or_pos n with h | h
      · exact h
      · obtain ⟨_, _, h2, _⟩ := hv.open_ h
        cases h2
    subst hn0
    obtain rfl := List.eq_nil_of_length_eq_zero hks
    clear hv
    have ce := nil_eql none 0 cap
    rw [Option.isNone_none] at ce
    go_enter Try.func90, Try.ntmps90
    go_wp2_with (first
      | (with_reducible (show wpList _ _ _ (Oper.mk (some 5) (.buildSlice _ _ _) _ _ _ _ :: _) _ _); refine m_lit0 M rfl rfl ?_; clear M; (try clear wx); intro g5 wx M)
      | (with_reducible (show wpList _ _ _ (Oper.mk _ (.call (Call.mk (.builtin .append) _ _)) _ _ _ _ :: _) _ _); (first | (refine m_append1 M rfl rfl rfl (by first | rfl | omega | (simp; done)) rfl (by first | rfl | assumption | (simp; done) | (simp; omega)) (by first | exact bA_one _ | exact wA_one _ | assumption | (simp [Value.oneCell']; done)) (by first | assumption | (simp only [maxLen]; omega)) (by omega) ?_)); clear M; (try clear wx); intro _ _ wx M; simp only [List.set_cons_zero, List.set_cons_succ, Nat.zero_add, List.nil_append] at M))
    go_ret
    exact ⟨_, rfl, ⟨_, _, rfl, (M.nil_own 23 32).out_own (p := 0) rfl⟩, M.up⟩
  | some q =>
    clear hv hks
    have ce := nil_eql (some q) n cap
    rw [Option.isNone_some] at ce
    go_enter Try.func90, Try.ntmps90
    go_wp2_with (first
      | (with_reducible (show wpList _ _ _ (Oper.mk (some 5) (.buildSlice _ _ _) _ _ _ _ :: _) _ _); refine m_lit0 M rfl rfl ?_; clear M; (try clear wx); intro g5 wx M)
      | (with_reducible (show wpList _ _ _ (Oper.mk _ (.call (Call.mk (.builtin .append) _ _)) _ _ _ _ :: _) _ _); (first | (refine m_append M rfl rfl rfl (by first | rfl | omega | (simp; done)) rfl (HV.out.up M.up) (by first | assumption | (simp only [maxLen]; omega)) (by omega) ?_) | (refine m_append1 M rfl rfl rfl (by first | rfl | omega | (simp; done)) rfl (by first | rfl | assumption | (simp; done) | (simp; omega)) (by first | exact bA_one _ | exact wA_one _ | assumption | (simp [Value.oneCell']; done)) (by first | assumption | (simp only [maxLen]; omega)) (by omega) ?_)); clear M; (try clear wx); intro _ _ wx M; simp only [List.set_cons_zero, List.set_cons_succ, Nat.zero_add, List.nil_append] at M))
    go_ret
    refine ⟨_, rfl, ?_, M.up⟩
    exact ⟨_, _, rfl, M.out_own (p := 0) rfl⟩

theorem st_sliceHi {P : Program} {Q : Exit → Act → World → Prop} {o : Oper} {a : Act} {w : World} {F : Value → World → Prop} {t : TypeId} {x y : Operand} (ho : o.op = .slice t x none (some y) none) {e : TypeId} [ht : SliceT P t e] {size bytes : Nat} {z : Value} [he : ElT P e size bytes z]
    {g n cap h : Nat} (hx : a.eval x = .slice (some ⟨g, 0, none⟩) n cap) (hy : a.eval y = .int .i64 (h : Int)) (hh : h ≤ cap) (hF : F (.slice (some ⟨g, 0, none⟩) h cap) w) : St P o a w Q F := by
  have hrun := run_slice_ (P := P) ht he (some ⟨g, 0, none⟩) n cap 0 h (Nat.zero_le _) hh none (some (.int .i64 (h : Int))) rfl rfl w
  have hbb : (if cap = 0 then (some ⟨g, 0, none⟩ : Option Addr) else (some ⟨g, 0, none⟩ : Option Addr).map (·.add (0 * size))) = some ⟨g, 0, none⟩ := by
    split
    · rfl
    · simp [Addr.add_mid]
  rw [hbb] at hrun
  refine st_run (v := .slice (some ⟨g, 0, none⟩) h cap) ?_ hF
  unfold execOp
  rw [ho]
  simp only [hx, hy, Option.map_some, Option.map_none]
  rw [Sem.run_bind, hrun]
  rfl
theorem bits_one (k : Nat) (hk : k < 256) (r : Nat) (h : k % 2 = r) : bits .and .i64 (k : Int) 1 = (r : Int) := by
  subst h
  revert k
  decide +kernel

set_option maxHeartbeats 2000000 in
set_option maxRecDepth 100000 in
theorem implAddLeaf_c (v : Value) (m : Nat) (ks : List Ky) (hks : ks.length = m) (n : Int) (leaf : Ky) (w : World) (hv : Rd w 32 v m (kyL ks)) (hl : m ≤ 1048576) (hg : gvC m n = 0) (n' : Nat) (hn' : n = (n' : Int)) (hn2 : n' < 256) (hn3 : m = onesN 8 n') :
    Ret Try.prog 51 #[v, .int .i64 n, .agg (bA leaf.1)] w fun r w' => OwnR2 w w' 23 32 r (adF 8 ks n' leaf).length (kyL (adF 8 ks n' leaf)) (.int .i64 0) := by
  obtain ⟨b, cap, rfl⟩ := hv.shape
  have HV := Lib.hid hv
  have HGV := Lib.hid (fun w => peaksCode_c b m cap n w hl)
  rw [hg] at HGV
  subst hn'
  have HK := Lib.hid (And.intro hks hn3)
  obtain ⟨T, hT⟩ : ∃ T, T = adF 8 ks n' leaf := ⟨_, rfl⟩
  rw [← hT]
  have HT := Lib.hid hT
  have hm8 : m ≤ 8 := by rw [hn3]; exact onesN_le _ _
  clear hv hg hks hn3 hT
  refine ret_start fun wx M => ?_
  go_enter Try.func51, Try.ntmps51
  go_wp2_with (first
    | (go_at_call 89; (with_reducible refine mem_call M (HGV.out _) ?_); clear M; (try clear wx); rintro _ wx rfl _ M)
    | (go_at_call 90; (with_reducible refine mem_callO M (cloneKey_c _ m ks HK.out.1 _ (HV.out.up M.up) hl) ?_); clear M; (try clear wx); intro b_ cap_ wx M)
    | (with_reducible (show wpList _ _ _ (Oper.mk (some 5) (.box _ _) _ _ _ _ :: _) _ _); (first | (refine m_boxA M rfl rfl rfl ?_) | (refine m_box1 (v := Value.int _ _) M rfl rfl rfl rfl ?_) | (refine m_box1 (v := Value.slice _ _ _) M rfl rfl rfl rfl ?_) | (refine m_box1 (v := Value.bool _) M rfl rfl rfl rfl ?_) | (refine m_box1 (v := Value.string _) M rfl rfl rfl rfl ?_) | (refine m_box1 (v := Value.pointer _) M rfl rfl rfl rfl ?_)); clear M; (try clear wx); intro g5 wx M)
    | (with_reducible (show wpList _ _ _ (Oper.mk (some 38) (.buildSlice _ _ _) _ _ _ _ :: _) _ _); (first | (refine m_lit1A M rfl rfl rfl (by first | rfl | assumption | (simp; done) | (simp; omega)) (by decide) ?_) | (refine m_lit11 (v := Value.int _ _) M rfl rfl rfl rfl ?_) | (refine m_lit11 (v := Value.slice _ _ _) M rfl rfl rfl rfl ?_) | (refine m_lit11 (v := Value.bool _) M rfl rfl rfl rfl ?_) | (refine m_lit11 (v := Value.string _) M rfl rfl rfl rfl ?_) | (refine m_lit11 (v := Value.pointer _) M rfl rfl rfl rfl ?_)); clear M; (try clear wx); intro g38 wx M)
    | (with_reducible (show wpList _ _ _ (Oper.mk _ (.load _ _) _ _ _ _ :: _) _ _); (first | (refine m_load M rfl rfl rfl (by first | assumption | rfl) ?_) | (refine m_loadR M rfl rfl rfl (by first | rfl | assumption | (simp; done) | (simp; omega)) ?_)))
    | (with_reducible (show wpList _ _ _ (Oper.mk _ (.store _ _ _) _ _ _ _ :: _) _ _); (first | (refine m_storeR M rfl rfl rfl rfl (by first | rfl | assumption | (simp; done) | (simp; omega)) (by first | rfl | assumption | (simp; done) | (simp; omega)) (by first | exact bA_one _ | exact wA_one _ | assumption | (simp [Value.oneCell']; done)) ?_) | (refine m_store (v := Value.int _ _) M rfl rfl rfl rfl rfl (by first | assumption | (simp; done) | (simp; omega)) ?_) | (refine m_store (v := Value.slice _ _ _) M rfl rfl rfl rfl rfl (by first | assumption | (simp; done) | (simp; omega)) ?_) | (refine m_store (v := Value.bool _) M rfl rfl rfl rfl rfl (by first | assumption | (simp; done) | (simp; omega)) ?_) | (refine m_store (v := Value.string _) M rfl rfl rfl rfl rfl (by first | assumption | (simp; done) | (simp; omega)) ?_) | (refine m_store (v := Value.pointer _) M rfl rfl rfl rfl rfl (by first | assumption | (simp; done) | (simp; omega)) ?_)); clear M; (try clear wx); intro wx M; simp only [List.set_cons_zero, List.set_cons_succ, Nat.zero_add, List.nil_append] at M)
    | (with_reducible (show wpList _ _ _ (Oper.mk _ (.call (Call.mk (.builtin .append) _ _)) _ _ _ _ :: _) _ _); (first | (refine m_append1 M rfl rfl rfl (by first | rfl | omega | (simp; done)) rfl (by first | rfl | assumption | (simp; done) | (simp; omega)) (by first | exact bA_one _ | exact wA_one _ | assumption | (simp [Value.oneCell']; done)) (by first | assumption | (simp only [maxLen]; omega)) (by omega) ?_)); clear M; (try clear wx); intro _ _ wx M; simp only [List.set_cons_zero, List.set_cons_succ, Nat.zero_add, List.nil_append] at M))
  go_loopg [1, 9] 8 (fun q x y wr => ∃ (k : Nat) (out : List Ky) (y5 : Ky) (b1 : Option Addr) (cap1 m1 : Nat), x = .int .i64 (k : Int) ∧ y = .slice b1 m1 cap1 ∧ k < 256 ∧ m1 ≤ 8 ∧ Hid (k < 2 ^ q ∧ out.length = m1 ∧ m1 = onesN q k ∧ adF q out k y5 = T) ∧ Mem w wr [.own b1 cap1 23 32 m1 (kyL out), .blk g5 23 (bA y5.1)])
  case atStart => exact ⟨n', ks, leaf, _, _, m, rfl, rfl, hn2, hm8, Lib.hid ⟨hn2, HK.out.1, HK.out.2, HT.out.symm⟩, M⟩
  case round =>
    obtain ⟨k, out, y5, b1, cap1, m1, rfl, rfl, hk, hm1, HB, M⟩ := hrel
    by_cases h1 : k % 2 = 1
    · obtain ⟨q, rfl⟩ : ∃ q, gk = q + 1 := by
        rcases gk with _ | q
        · have := HB.out.1; simp at this; omega
        · exact ⟨q, rfl⟩
      obtain ⟨d, rfl⟩ : ∃ d, m1 = d + 1 := by
        have := HB.out.2.2.1
        simp only [onesN] at this
        exact ⟨onesN q (k / 2), by omega⟩
      have hd : d < out.length := by have := HB.out.2.1; omega
      have hd2 : d < d + 1 := by omega
      have hd3 : d ≤ cap1 := by have := (M.lenO b1 cap1).1; omega
      have HE := Lib.hid (adF_odd q out k d y5 h1 HB.out.2.1 hd)
      have e1 : ((d + 1 : Nat) : Int) - 1 = (d : Int) := by omega
      have HO : Hid ((out.take d).length = d ∧ d = onesN q (k / 2) ∧ k / 2 < 2 ^ q) := Lib.hid (by
        obtain ⟨h2, h3, h4, -⟩ := HB.out
        refine ⟨by rw [List.length_take]; omega, ?_, ?_⟩
        · simp only [onesN] at h4; omega
        · rw [Nat.pow_succ] at h2; omega)
      obtain ⟨g, rfl⟩ : ∃ g, b1 = some ⟨g, 0, none⟩ := by
        rcases M.headO b1 cap1 with rfl | h
        · obtain ⟨_, _, h, _⟩ := (M.rdK out (b := none) (cap := cap1)).open_ (by omega)
          cases h
        · exact h
      have h1' : bits .and .i64 (k : Int) 1 = 1 := bits_one k hk 1 h1
      clear h1
      go_wp2_with (first
        | (with_reducible (show wpList _ _ _ (Oper.mk (some 5) (.box _ _) _ _ _ _ :: _) _ _); (first | (refine m_boxA M rfl rfl rfl ?_) | (refine m_box1 (v := Value.int _ _) M rfl rfl rfl rfl ?_) | (refine m_box1 (v := Value.slice _ _ _) M rfl rfl rfl rfl ?_) | (refine m_box1 (v := Value.bool _) M rfl rfl rfl rfl ?_) | (refine m_box1 (v := Value.string _) M rfl rfl rfl rfl ?_) | (refine m_box1 (v := Value.pointer _) M rfl rfl rfl rfl ?_)); clear M; (try clear wx); intro g5 wx M)
        | (with_reducible (show wpList _ _ _ (Oper.mk (some 38) (.buildSlice _ _ _) _ _ _ _ :: _) _ _); (first | (refine m_lit1A M rfl rfl rfl (by first | rfl | assumption | (simp; done) | (simp; omega)) (by decide) ?_) | (refine m_lit11 (v := Value.int _ _) M rfl rfl rfl rfl ?_) | (refine m_lit11 (v := Value.slice _ _ _) M rfl rfl rfl rfl ?_) | (refine m_lit11 (v := Value.bool _) M rfl rfl rfl rfl ?_) | (refine m_lit11 (v := Value.string _) M rfl rfl rfl rfl ?_) | (refine m_lit11 (v := Value.pointer _) M rfl rfl rfl rfl ?_)); clear M; (try clear wx); intro g38 wx M)
        | (with_reducible (show wpList _ _ _ (Oper.mk _ (.load _ _) _ _ _ _ :: _) _ _); (first | (refine m_load M rfl rfl rfl (by first | assumption | rfl) ?_) | (refine m_loadR M rfl rfl rfl (by first | rfl | assumption | (simp; done) | (simp; omega)) ?_)))
        | (with_reducible (show wpList _ _ _ (Oper.mk _ (.store _ _ _) _ _ _ _ :: _) _ _); (first | (refine m_storeR M rfl rfl rfl rfl (by first | rfl | assumption | (simp; done) | (simp; omega)) (by first | rfl | assumption | (simp; done) | (simp; omega)) (by first | exact bA_one _ | exact wA_one _ | assumption | (simp [Value.oneCell']; done)) ?_) | (refine m_store (v := Value.int _ _) M rfl rfl rfl rfl rfl (by first | assumption | (simp; done) | (simp; omega)) ?_) | (refine m_store (v := Value.slice _ _ _) M rfl rfl rfl rfl rfl (by first | assumption | (simp; done) | (simp; omega)) ?_) | (refine m_store (v := Value.bool _) M rfl rfl rfl rfl rfl (by first | assumption | (simp; done) | (simp; omega)) ?_) | (refine m_store (v := Value.string _) M rfl rfl rfl rfl rfl (by first | assumption | (simp; done) | (simp; omega)) ?_) | (refine m_store (v := Value.pointer _) M rfl rfl rfl rfl rfl (by first | assumption | (simp; done) | (simp; omega)) ?_)); clear M; (try clear wx); intro wx M; simp only [List.set_cons_zero, List.set_cons_succ, Nat.zero_add, List.nil_append] at M)
        | (with_reducible (show wpList _ _ _ (Oper.mk _ (.call (Call.mk (.builtin .append) _ _)) _ _ _ _ :: _) _ _); (first | (refine m_append1 M rfl rfl rfl (by first | rfl | omega | (simp; done)) rfl (by first | rfl | assumption | (simp; done) | (simp; omega)) (by first | exact bA_one _ | exact wA_one _ | assumption | (simp [Value.oneCell']; done)) (by first | assumption | (simp only [maxLen]; omega)) (by omega) ?_)); clear M; (try clear wx); intro _ _ wx M; simp only [List.set_cons_zero, List.set_cons_succ, Nat.zero_add, List.nil_append] at M))
      have hFk : ∀ (j : Nat) (u : Value) (wa wb : World), j < 10 → (fun (j : Nat) (v : Value) (_ : World) => (match j with | 0 => (fun vq => vq = .slice (some ⟨g, 0, none⟩) (d + 1) cap1) v | 1 => (fun vq => vq = .int .i64 (d : Int)) v | 2 => (fun vq => vq = .pointer (some ⟨g, 0 + d * 32, none⟩)) v | 3 => (fun vq => vq = .agg (bA ((out[d]'hd).1))) v | 4 => (fun vq => vq = .agg (bA y5.1)) v | 5 => (fun vq => vq = .agg (bA (nodeK (out[d]'hd) y5).1)) v | 6 => (fun vq => vq = .slice (some ⟨g, 0, none⟩) (d + 1) cap1) v | 7 => (fun vq => vq = .int .i64 (d : Int)) v | 8 => (fun vq => vq = .slice (some ⟨g, 0, none⟩) d cap1) v | 9 => (fun _ => True) v | _ => True)) j u wa → (fun (j : Nat) (v : Value) (_ : World) => (match j with | 0 => (fun vq => vq = .slice (some ⟨g, 0, none⟩) (d + 1) cap1) v | 1 => (fun vq => vq = .int .i64 (d : Int)) v | 2 => (fun vq => vq = .pointer (some ⟨g, 0 + d * 32, none⟩)) v | 3 => (fun vq => vq = .agg (bA ((out[d]'hd).1))) v | 4 => (fun vq => vq = .agg (bA y5.1)) v | 5 => (fun vq => vq = .agg (bA (nodeK (out[d]'hd) y5).1)) v | 6 => (fun vq => vq = .slice (some ⟨g, 0, none⟩) (d + 1) cap1) v | 7 => (fun vq => vq = .int .i64 (d : Int)) v | 8 => (fun vq => vq = .slice (some ⟨g, 0, none⟩) d cap1) v | 9 => (fun _ => True) v | _ => True)) j u wb := fun _ _ _ _ _ h => h
      refine region_monoS (m := 10) mixedOrders_ (by kernel_rfl) (by kernel_rfl)
        (fun (j : Nat) (v : Value) (_ : World) => (match j with | 0 => (fun vq => vq = .slice (some ⟨g, 0, none⟩) (d + 1) cap1) v | 1 => (fun vq => vq = .int .i64 (d : Int)) v | 2 => (fun vq => vq = .pointer (some ⟨g, 0 + d * 32, none⟩)) v | 3 => (fun vq => vq = .agg (bA ((out[d]'hd).1))) v | 4 => (fun vq => vq = .agg (bA y5.1)) v | 5 => (fun vq => vq = .agg (bA (nodeK (out[d]'hd) y5).1)) v | 6 => (fun vq => vq = .slice (some ⟨g, 0, none⟩) (d + 1) cap1) v | 7 => (fun vq => vq = .int .i64 (d : Int)) v | 8 => (fun vq => vq = .slice (some ⟨g, 0, none⟩) d cap1) v | 9 => (fun _ => True) v | _ => True))
        (fun s wx => Mem w wx (if s 9 = true then [.own (some ⟨g, 0, none⟩) cap1 23 32 (d + 1) (kyL out), .blk g5 23 (bA (nodeK (out[d]'hd) y5).1)] else [.own (some ⟨g, 0, none⟩) cap1 23 32 (d + 1) (kyL out), .blk g5 23 (bA y5.1)])) ?_ ?_ ?_
      · exact M.grow ((Up.refl _).drew)
      · rintro i o hi ho av wv s fr gM hs cl dep
        match i, hi with
        | 0, _ =>
          obtain rfl := Option.some.inj ho
          exact stS hFk (by decide) gM rfl rfl rfl (st_mov rfl (fr.eval rfl) rfl)
        | 1, _ =>
          obtain rfl := Option.some.inj ho
          exact stS hFk (by decide) gM rfl rfl rfl (st_mov rfl (by rw [fr.eval rfl, ← e1]; rfl) rfl)
        | 2, _ =>
          obtain rfl := Option.some.inj ho
          exact stS hFk (by decide) gM rfl rfl rfl (st_indexAddr rfl (dep ⟨0, .data⟩ (by simp) rfl).2 (dep ⟨1, .data⟩ (by simp) rfl).2 (ix_slice _ _ _ _ _ hd2 _) rfl)
        | 3, _ =>
          obtain rfl := Option.some.inj ho
          have hsp : s 9 = false := by
            rcases Bool.eq_false_or_eq_true (s 9) with h9 | h
            · have h5 := cl 9 _ h9 rfl ⟨5, .data⟩ (by first | (simp; done) | decide) rfl
              have h3 := cl 5 _ h5 rfl ⟨3, .data⟩ (by first | (simp; done) | decide) rfl
              rw [hs] at h3; cases h3
            · exact h
          have gM0 := gM
          rw [hsp, if_neg (by decide)] at gM0
          exact stS hFk (by decide) gM rfl rfl rfl (st_loadA rfl (dep ⟨2, .data⟩ (by simp) rfl).2 (gM0.rngK out (cap := cap1) d hd) (out[d]'hd).2 rfl)
        | 4, _ =>
          obtain rfl := Option.some.inj ho
          have hsp : s 9 = false := by
            rcases Bool.eq_false_or_eq_true (s 9) with h9 | h
            · have h5 := cl 9 _ h9 rfl ⟨5, .data⟩ (by first | (simp; done) | decide) rfl
              have h4 := cl 5 _ h5 rfl ⟨4, .data⟩ (by first | (simp; done) | decide) rfl
              rw [hs] at h4; cases h4
            · exact h
          have gM0 := gM
          rw [hsp, if_neg (by decide)] at gM0
          exact stS hFk (by decide) gM rfl rfl rfl (st_loadG gM0 rfl (fr.eval rfl) (by first | rfl | (simp; done)) rfl)
        | 5, _ =>
          obtain rfl := Option.some.inj ho
          exact stS hFk (by decide) gM rfl rfl rfl (st_ret2 rfl (fun _ _ => by kernel_rfl) (dep ⟨3, .data⟩ (by simp) rfl).2 (dep ⟨4, .data⟩ (by simp) rfl).2 (implNodeKey_c (out[d]'hd) y5 _) (fun r w' h _ => h))
        | 6, _ =>
          obtain rfl := Option.some.inj ho
          exact stS hFk (by decide) gM rfl rfl rfl (st_mov rfl (fr.eval rfl) rfl)
        | 7, _ =>
          obtain rfl := Option.some.inj ho
          exact stS hFk (by decide) gM rfl rfl rfl (st_mov rfl (by rw [fr.eval rfl, ← e1]; rfl) rfl)
        | 8, _ =>
          obtain rfl := Option.some.inj ho
          have D6 : _ = Value.slice _ _ _ := (dep ⟨6, .data⟩ (by simp) rfl).2
          have D7 : _ = Value.int _ _ := (dep ⟨7, .data⟩ (by simp) rfl).2
          exact stS hFk (by decide) gM rfl rfl rfl (st_sliceHi rfl D6 D7 hd3 rfl)
        | 9, _ =>
          obtain rfl := Option.some.inj ho
          have hsp : s 9 = false := by
            exact hs
          have gM0 := gM
          rw [hsp, if_neg (by decide)] at gM0
          have DV : av.eval (.tmp 32) = Value.agg _ := (dep ⟨5, .data⟩ (by simp) rfl).2
          have DA : av.eval (.tmp 5) = Value.pointer (some ⟨_, 0, none⟩) := fr.eval rfl
          refine stS_storeR (a := av) hFk (fun _ _ => trivial) gM0 rfl rfl rfl rfl DA DV ?_ ?_ ?_ rfl
          · simp
          · simp
          · first | exact bA_one _ | exact wA_one _ | assumption | (simp [Value.oneCell']; done)
      · rintro vs wv s hall gM hf
        rw [hall 9 (by omega), if_pos rfl] at gM
        have f0 : vs 0 = .slice (some ⟨g, 0, none⟩) (d + 1) cap1 := hf 0 (by omega)
        have f1 : vs 1 = .int .i64 (d : Int) := hf 1 (by omega)
        have f2 : vs 2 = .pointer (some ⟨g, 0 + d * 32, none⟩) := hf 2 (by omega)
        have f3 : vs 3 = .agg (bA ((out[d]'hd).1)) := hf 3 (by omega)
        have f4 : vs 4 = .agg (bA y5.1) := hf 4 (by omega)
        have f5 : vs 5 = .agg (bA (nodeK (out[d]'hd) y5).1) := hf 5 (by omega)
        have f6 : vs 6 = .slice (some ⟨g, 0, none⟩) (d + 1) cap1 := hf 6 (by omega)
        have f7 : vs 7 = .int .i64 (d : Int) := hf 7 (by omega)
        have f8 : vs 8 = .slice (some ⟨g, 0, none⟩) d cap1 := hf 8 (by omega)
        clear hFk
        simp only [putAll, Act.put, List.getElem?_toArray, List.getElem?_cons_zero, List.getElem?_cons_succ, Option.bind_some, List.setIfInBounds_toArray, List.set_cons_zero, List.set_cons_succ, List.drop_succ_cons, List.drop_zero, List.drop_nil, f8]
        clear f0 f1 f2 f3 f4 f5 f6 f7 f8 hf
        have M := gM
        generalize nodeK (out[d]'hd) y5 = z at *
        go_wp2_with (first
          | (with_reducible (show wpList _ _ _ (Oper.mk (some 5) (.box _ _) _ _ _ _ :: _) _ _); (first | (refine m_boxA M rfl rfl rfl ?_) | (refine m_box1 (v := Value.int _ _) M rfl rfl rfl rfl ?_) | (refine m_box1 (v := Value.slice _ _ _) M rfl rfl rfl rfl ?_) | (refine m_box1 (v := Value.bool _) M rfl rfl rfl rfl ?_) | (refine m_box1 (v := Value.string _) M rfl rfl rfl rfl ?_) | (refine m_box1 (v := Value.pointer _) M rfl rfl rfl rfl ?_)); clear M; (try clear wx); intro g5 wx M)
          | (with_reducible (show wpList _ _ _ (Oper.mk (some 38) (.buildSlice _ _ _) _ _ _ _ :: _) _ _); (first | (refine m_lit1A M rfl rfl rfl (by first | rfl | assumption | (simp; done) | (simp; omega)) (by decide) ?_) | (refine m_lit11 (v := Value.int _ _) M rfl rfl rfl rfl ?_) | (refine m_lit11 (v := Value.slice _ _ _) M rfl rfl rfl rfl ?_) | (refine m_lit11 (v := Value.bool _) M rfl rfl rfl rfl ?_) | (refine m_lit11 (v := Value.string _) M rfl rfl rfl rfl ?_) | (refine m_lit11 (v := Value.pointer _) M rfl rfl rfl rfl ?_)); clear M; (try clear wx); intro g38 wx M)
          | (with_reducible (show wpList _ _ _ (Oper.mk _ (.load _ _) _ _ _ _ :: _) _ _); (first | (refine m_load M rfl rfl rfl (by first | assumption | rfl) ?_) | (refine m_loadR M rfl rfl rfl (by first | rfl | assumption | (simp; done) | (simp; omega)) ?_)))
          | (with_reducible (show wpList _ _ _ (Oper.mk _ (.store _ _ _) _ _ _ _ :: _) _ _); (first | (refine m_storeR M rfl rfl rfl rfl (by first | rfl | assumption | (simp; done) | (simp; omega)) (by first | rfl | assumption | (simp; done) | (simp; omega)) (by first | exact bA_one _ | exact wA_one _ | assumption | (simp [Value.oneCell']; done)) ?_) | (refine m_store (v := Value.int _ _) M rfl rfl rfl rfl rfl (by first | assumption | (simp; done) | (simp; omega)) ?_) | (refine m_store (v := Value.slice _ _ _) M rfl rfl rfl rfl rfl (by first | assumption | (simp; done) | (simp; omega)) ?_) | (refine m_store (v := Value.bool _) M rfl rfl rfl rfl rfl (by first | assumption | (simp; done) | (simp; omega)) ?_) | (refine m_store (v := Value.string _) M rfl rfl rfl rfl rfl (by first | assumption | (simp; done) | (simp; omega)) ?_) | (refine m_store (v := Value.pointer _) M rfl rfl rfl rfl rfl (by first | assumption | (simp; done) | (simp; omega)) ?_)); clear M; (try clear wx); intro wx M; simp only [List.set_cons_zero, List.set_cons_succ, Nat.zero_add, List.nil_append] at M)
          | (with_reducible (show wpList _ _ _ (Oper.mk _ (.call (Call.mk (.builtin .append) _ _)) _ _ _ _ :: _) _ _); (first | (refine m_append1 M rfl rfl rfl (by first | rfl | omega | (simp; done)) rfl (by first | rfl | assumption | (simp; done) | (simp; omega)) (by first | exact bA_one _ | exact wA_one _ | assumption | (simp [Value.oneCell']; done)) (by first | assumption | (simp only [maxLen]; omega)) (by omega) ?_)); clear M; (try clear wx); intro _ _ wx M; simp only [List.set_cons_zero, List.set_cons_succ, Nat.zero_add, List.nil_append] at M))
        have M := M.own_less (p := 0) rfl d (by omega)
        rw [List.set_cons_zero, kyL_take] at M
        go_roundg q
        case measure => omega
        case rel =>
          refine ⟨k / 2, out.take d, z, _, _, d, by go_num, rfl, by omega, by omega, Lib.hid ⟨HO.out.2.2, HO.out.1, HO.out.2.1, ?_⟩, M⟩
          rw [← HE.out]; exact HB.out.2.2.2
    · have h1' : bits .and .i64 (k : Int) 1 = 0 := bits_one k hk 0 (by omega)
      have HE := Lib.hid (show out ++ [y5] = T by have := HB.out.2.2.2; rwa [adF_even _ _ _ _ (by omega)] at this)
      have HL := Lib.hid HB.out.2.1
      clear h1
      go_wp2_with (first
        | (with_reducible (show wpList _ _ _ (Oper.mk (some 5) (.box _ _) _ _ _ _ :: _) _ _); (first | (refine m_boxA M rfl rfl rfl ?_) | (refine m_box1 (v := Value.int _ _) M rfl rfl rfl rfl ?_) | (refine m_box1 (v := Value.slice _ _ _) M rfl rfl rfl rfl ?_) | (refine m_box1 (v := Value.bool _) M rfl rfl rfl rfl ?_) | (refine m_box1 (v := Value.string _) M rfl rfl rfl rfl ?_) | (refine m_box1 (v := Value.pointer _) M rfl rfl rfl rfl ?_)); clear M; (try clear wx); intro g5 wx M)
        | (with_reducible (show wpList _ _ _ (Oper.mk (some 38) (.buildSlice _ _ _) _ _ _ _ :: _) _ _); (first | (refine m_lit1A M rfl rfl rfl (by first | rfl | assumption | (simp; done) | (simp; omega)) (by decide) ?_) | (refine m_lit11 (v := Value.int _ _) M rfl rfl rfl rfl ?_) | (refine m_lit11 (v := Value.slice _ _ _) M rfl rfl rfl rfl ?_) | (refine m_lit11 (v := Value.bool _) M rfl rfl rfl rfl ?_) | (refine m_lit11 (v := Value.string _) M rfl rfl rfl rfl ?_) | (refine m_lit11 (v := Value.pointer _) M rfl rfl rfl rfl ?_)); clear M; (try clear wx); intro g38 wx M)
        | (with_reducible (show wpList _ _ _ (Oper.mk _ (.load _ _) _ _ _ _ :: _) _ _); (first | (refine m_load M rfl rfl rfl (by first | assumption | rfl) ?_) | (refine m_loadR M rfl rfl rfl (by first | rfl | assumption | (simp; done) | (simp; omega)) ?_)))
        | (with_reducible (show wpList _ _ _ (Oper.mk _ (.store _ _ _) _ _ _ _ :: _) _ _); (first | (refine m_storeR M rfl rfl rfl rfl (by first | rfl | assumption | (simp; done) | (simp; omega)) (by first | rfl | assumption | (simp; done) | (simp; omega)) (by first | exact bA_one _ | exact wA_one _ | assumption | (simp [Value.oneCell']; done)) ?_) | (refine m_store (v := Value.int _ _) M rfl rfl rfl rfl rfl (by first | assumption | (simp; done) | (simp; omega)) ?_) | (refine m_store (v := Value.slice _ _ _) M rfl rfl rfl rfl rfl (by first | assumption | (simp; done) | (simp; omega)) ?_) | (refine m_store (v := Value.bool _) M rfl rfl rfl rfl rfl (by first | assumption | (simp; done) | (simp; omega)) ?_) | (refine m_store (v := Value.string _) M rfl rfl rfl rfl rfl (by first | assumption | (simp; done) | (simp; omega)) ?_) | (refine m_store (v := Value.pointer _) M rfl rfl rfl rfl rfl (by first | assumption | (simp; done) | (simp; omega)) ?_)); clear M; (try clear wx); intro wx M; simp only [List.set_cons_zero, List.set_cons_succ, Nat.zero_add, List.nil_append] at M)
        | (with_reducible (show wpList _ _ _ (Oper.mk _ (.call (Call.mk (.builtin .append) _ _)) _ _ _ _ :: _) _ _); (first | (refine m_append1 M rfl rfl rfl (by first | rfl | omega | (simp; done)) rfl (by first | rfl | assumption | (simp; done) | (simp; omega)) (by first | exact bA_one _ | exact wA_one _ | assumption | (simp [Value.oneCell']; done)) (by first | assumption | (simp only [maxLen]; omega)) (by omega) ?_)); clear M; (try clear wx); intro _ _ wx M; simp only [List.set_cons_zero, List.set_cons_succ, Nat.zero_add, List.nil_append] at M))
      go_ret2
      refine ⟨_, rfl, ?_, M.up⟩
      rw [← HE.out, List.length_append, HL.out, ← kyL_snoc]
      exact ⟨_, _, rfl, M.out_own (p := 0) rfl⟩

end Go.Proofs.Ytgofolmekgjkjaa

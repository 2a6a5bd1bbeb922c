/- Walks: peaks with a further leaf. -/
import Derived.Test.YtmbhaoiahlbglaaHW
import Derived.Test.YtmbhaoiahlbglaaRegS
namespace Go.Proofs.Ytmbhaoiahlbglaa
open Go.RowKit
set_option linter.unusedVariables false
set_option linter.unusedSimpArgs false

/-- The number of ones. -/
def onesN : Nat → Nat → Nat
  | 0, _ => 0
  | f + 1, n => n % 2 + onesN f (n / 2)

theorem onesN_zero (f : Nat) : onesN f 0 = 0 := by
  induction f with
  | zero => rfl
  | succ f ih => simp [onesN, ih]
theorem onesN_le (f : Nat) : ∀ n, onesN f n ≤ f := by
  induction f with
  | zero => intro n; exact Nat.le_refl _
  | succ f ih => intro n; have := ih (n / 2); simp only [onesN]; omega
set_option maxHeartbeats 1000000 in
set_option maxRecDepth 100000 in
theorem l03Ones_c (n : Nat) (hn : n < 256) (w : World) : Ret Try.prog 107 #[.int .i64 (n : Int)] w fun r _ => r = .int .i64 (onesN 8 n : Int) := by
  obtain ⟨T, hT⟩ : ∃ T, T = onesN 8 n := ⟨_, rfl⟩
  rw [← hT]
  have HT := Lib.hid hT
  clear hT
  refine ret_start fun wx M => ?_
  go_enter Try.func107, Try.ntmps107
  go_wp2_with fail
  go_loopg [0, 3] 8 (fun q x y wr => ∃ (k t : Nat), x = .int .i64 (k : Int) ∧ y = .int .i64 (t : Int) ∧ k < 2 ^ q ∧ k < 256 ∧ t + q ≤ 8 ∧ Hid (t + onesN q k = T) ∧ Mem w wr [])
  case atStart => exact ⟨n, 0, rfl, rfl, hn, hn, by omega, Lib.hid (by rw [Nat.zero_add]; exact HT.out.symm), M⟩
  case round =>
    obtain ⟨k, t, rfl, rfl, hkq, hk, ht, HB, M⟩ := hrel
    by_cases h0 : 0 < k
    · obtain ⟨q, rfl⟩ : ∃ q, gk = q + 1 := by
        rcases gk with _ | q
        · simp at hkq; omega
        · exact ⟨q, rfl⟩
      have HQ := Lib.hid hkq
      have hb := HB.out
      have hle := onesN_le q (k / 2)
      clear hkq
      go_wp2_with fail
      have hkq := HQ.out
      have ht' : t + k % 2 + q ≤ 8 := by omega
      go_roundg q
      case measure => omega
      case rel => exact ⟨k / 2, t + k % 2, by go_num, by go_num, by rw [Nat.pow_succ] at hkq; omega, by omega, ht', Lib.hid (by rw [← hb]; simp only [onesN]; omega), M⟩
    · obtain rfl : k = 0 := by omega
      rw [onesN_zero] at HB
      clear hkq
      go_wp2_with fail
      go_ret
      exact ⟨_, rfl, by rw [← HB.out]; rfl, M.up⟩

theorem onesCount_c (n : Nat) (hn : n < 256) (w : World) : Ret Try.prog 108 #[.int .u64 (n : Int)] w fun r _ => r = .int .i64 (onesN 8 n : Int) := by
  refine ret_start fun wx M => ?_
  go_enter Try.func108, Try.ntmps108
  go_wp2_with fail
  go_ret
  refine ⟨_, rfl, ?_, M.up⟩
  show Value.int .i64 _ = Value.int .i64 _
  congr 1
  clear M
  revert n
  decide +kernel

/-- What is said of peaks and a number of leaves. -/
def gvC (m : Nat) (n : Int) : Int := if 256 < m then 3 else if 0 ≤ n ∧ n ≤ 255 then (if m = onesN 8 n.toNat then 0 else 4) else 2

set_option maxHeartbeats 1000000 in
set_option maxRecDepth 100000 in
theorem l03Given_c (b : Option Addr) (m cap : Nat) (n : Int) (w : World) (hm : m ≤ 1048576) : Ret Try.prog 58 #[.slice b m cap, .int .i64 n, .int .i64 255] w fun r _ => r = .int .i64 (gvC m n) := by
  refine ret_start fun wx M => ?_
  by_cases hbig : 256 < m
  · have HE := Lib.hid (show gvC m n = 3 by rw [gvC, if_pos hbig])
    go_enter Try.func58, Try.ntmps58
    go_wp2_with fail
    go_ret
    exact ⟨_, rfl, by rw [HE.out]; rfl, M.up⟩
  · by_cases hn : 0 ≤ n ∧ n ≤ 255
    · have HI := Lib.hid (l00In_is n 0 255 true (by simp [hn]))
      obtain ⟨n, rfl⟩ : ∃ k : Nat, n = (k : Int) := ⟨n.toNat, by omega⟩
      have HE := Lib.hid (show gvC m n = if m = onesN 8 n then 0 else 4 by rw [gvC, if_neg hbig, if_pos hn]; rfl)
      have HO := Lib.hid (l03Ones_c n (by omega))
      have hn2 : n ≤ 255 := by omega
      clear hn
      generalize onesN 8 n = t at *
      by_cases hmt : m = t
      · subst hmt
        rw [if_pos rfl] at HE
        go_enter Try.func58, Try.ntmps58
        go_wp2_with (first
          | (go_at_call 62; (with_reducible refine mem_call M (HI.out _) ?_); clear M; (try clear wx); rintro _ wx rfl _ M)
          | (go_at_call 107; (with_reducible refine mem_call M (HO.out _) ?_); clear M; (try clear wx); rintro _ wx rfl _ M))
        go_ret
        exact ⟨_, rfl, by rw [HE.out]; rfl, M.up⟩
      · rw [if_neg hmt] at HE
        go_enter Try.func58, Try.ntmps58
        go_wp2_with (first
          | (go_at_call 62; (with_reducible refine mem_call M (HI.out _) ?_); clear M; (try clear wx); rintro _ wx rfl _ M)
          | (go_at_call 107; (with_reducible refine mem_call M (HO.out _) ?_); clear M; (try clear wx); rintro _ wx rfl _ M))
        go_ret
        exact ⟨_, rfl, by rw [HE.out]; rfl, M.up⟩
    · have HI := Lib.hid (l00In_is n 0 255 false (by simp; omega))
      have HE := Lib.hid (show gvC m n = 2 by rw [gvC, if_neg hbig, if_neg hn])
      clear hn
      go_enter Try.func58, Try.ntmps58
      go_wp2_with (first
        | (go_at_call 62; (with_reducible refine mem_call M (HI.out _) ?_); clear M; (try clear wx); rintro _ wx rfl _ M))
      go_ret
      exact ⟨_, rfl, by rw [HE.out]; rfl, M.up⟩

set_option maxHeartbeats 1000000 in
set_option maxRecDepth 100000 in
theorem peaksCode_c (b : Option Addr) (m cap : Nat) (n : Int) (w : World) (hm : m ≤ 1048576) : Ret Try.prog 60 #[.slice b m cap, .int .i64 n, .int .i64 255] w fun r _ => r = .int .i64 (gvC m n) := by
  refine ret_start fun wx M => ?_
  by_cases hbig : 256 < m
  · have HE := Lib.hid (show gvC m n = 3 by rw [gvC, if_pos hbig])
    go_enter Try.func60, Try.ntmps60
    go_wp2_with fail
    go_ret
    exact ⟨_, rfl, by rw [HE.out]; rfl, M.up⟩
  · by_cases hn : 0 ≤ n ∧ n ≤ 255
    · have HI := Lib.hid (within_is n 0 255 true (by simp [hn]))
      obtain ⟨n, rfl⟩ : ∃ k : Nat, n = (k : Int) := ⟨n.toNat, by omega⟩
      have HE := Lib.hid (show gvC m n = if m = onesN 8 n then 0 else 4 by rw [gvC, if_neg hbig, if_pos hn]; rfl)
      have HO := Lib.hid (onesCount_c n (by omega))
      have hn2 : n ≤ 255 := by omega
      clear hn
      generalize onesN 8 n = t at *
      by_cases hmt : m = t
      · subst hmt
        rw [if_pos rfl] at HE
        go_enter Try.func60, Try.ntmps60
        go_wp2_with (first
          | (go_at_call 65; (with_reducible refine mem_call M (HI.out _) ?_); clear M; (try clear wx); rintro _ wx rfl _ M)
          | (go_at_call 108; (with_reducible refine mem_call M (HO.out _) ?_); clear M; (try clear wx); rintro _ wx rfl _ M))
        go_ret
        exact ⟨_, rfl, by rw [HE.out]; rfl, M.up⟩
      · rw [if_neg hmt] at HE
        go_enter Try.func60, Try.ntmps60
        go_wp2_with (first
          | (go_at_call 65; (with_reducible refine mem_call M (HI.out _) ?_); clear M; (try clear wx); rintro _ wx rfl _ M)
          | (go_at_call 108; (with_reducible refine mem_call M (HO.out _) ?_); clear M; (try clear wx); rintro _ wx rfl _ M))
        go_ret
        exact ⟨_, rfl, by rw [HE.out]; rfl, M.up⟩
    · have HI := Lib.hid (within_is n 0 255 false (by simp; omega))
      have HE := Lib.hid (show gvC m n = 2 by rw [gvC, if_neg hbig, if_neg hn])
      clear hn
      go_enter Try.func60, Try.ntmps60
      go_wp2_with (first
        | (go_at_call 65; (with_reducible refine mem_call M (HI.out _) ?_); clear M; (try clear wx); rintro _ wx rfl _ M))
      go_ret
      exact ⟨_, rfl, by rw [HE.out]; rfl, M.up⟩

theorem bin_sub1 (x y z : Int) (h : IntKind.wrap .i64 (x - y) = z) (a b : Operand) (w : World) : Sem.run Try.prog (do eqGuard .sub 3 a b (.int .i64 x) (.int .i64 y); binOp .sub 3 (.int .i64 x) (.int .i64 y)) w = .ok (.int .i64 z) w := by
  go_simp
  try rw [h]
/-- The peaks with a further leaf. -/
def adF : Nat → List Ky → Nat → Ky → List Ky
  | 0, out, _, leaf => out ++ [leaf]
  | f + 1, out, n, leaf => if n % 2 = 1 then adF f (out.take (out.length - 1)) (n / 2) (nodeK (out.getD (out.length - 1) zeroKy) leaf) else out ++ [leaf]
theorem adF_even (f : Nat) (out : List Ky) (n : Nat) (leaf : Ky) (h : n % 2 = 0) : adF f out n leaf = out ++ [leaf] := by
  cases f with
  | zero => rfl
  | succ f => rw [adF, if_neg (by omega)]
theorem adF_odd (f : Nat) (out : List Ky) (n m : Nat) (leaf : Ky) (h : n % 2 = 1) (hm : out.length = m + 1) (hl : m < out.length) : adF (f + 1) out n leaf = adF f (out.take m) (n / 2) (nodeK (out[m]'hl) leaf) := by
  rw [adF, if_pos h, hm, Nat.add_sub_cancel]
  simp [hl]
theorem Mem.rngK {w0 w : World} {L : List It} (M : Mem w0 w L) (ks : List Ky) {g o cap n p : Nat} {e : TypeId} [hL : AtO L (some ⟨g, o, none⟩) cap n p e 32 (kyL ks)] (j : Nat) (hj : j < ks.length) : w.rangeAt g (o + j * 32) (bL (ks[j]'hj).1) := by
  have hr := M.rdK ks (b := some ⟨g, o, none⟩) (cap := cap)
  have hn : ks.length = n := by have := hr.len_.2.2; simp at this; omega
  obtain ⟨g', o', h1, h2⟩ := hr.open_ (by omega)
  injection h1 with h1
  injection h1 with h1 h3
  subst h1 h3
  exact kyL_range (h2 w (Up.refl _)) j hj

theorem nil_eql (b : Option Addr) (n cap : Nat) (w : World) : (binOp .eql 30 (.slice b n cap) (.slice none 0 0)).run Try.prog w = .ok (.bool b.isNone) w := by
  have h : ∀ d, (Op.equalIn (d + 1) 30 (.slice b n cap) (.slice none 0 0)).run Try.prog w = .ok b.isNone w := fun d => by
    cases b <;> simp [Op.equalIn, run_underlying Try.underlying30]
  have h := h 9999
  simp only [binOp, Op.equal]
  rw [Sem.run_bind, show Op.maxDepth = 9999 + 1 from rfl, h]
  rfl
set_option maxHeartbeats 1000000 in
set_option maxRecDepth 100000 in
theorem cloneKey_c (v : Value) (n : Nat) (ks : List Ky) (hks : ks.length = n) (w : World) (hv : Rd w 32 v n (kyL ks)) (hl : n ≤ 1048576) : Ret Try.prog 123 #[v] w fun r w' => OwnR w w' 25 32 r n (kyL ks) := by
  obtain ⟨b, cap, rfl⟩ := hv.shape
  have HV := Lib.hid hv
  refine ret_start fun wx M => ?_
  cases b with
  | none =>
    have hn0 : n = 0 := by
      rcases Nat.eq_zero_or_pos n with h | h
      · exact h
      · obtain ⟨_, _, h2, _⟩ := hv.open_ h
        cases h2
    subst hn0
    obtain rfl := List.eq_nil_of_length_eq_zero hks
    clear hv
    have ce := nil_eql none 0 cap
    rw [Option.isNone_none] at ce
    go_enter Try.func123, Try.ntmps123
    go_wp2_with (first
      | (with_reducible (show wpList _ _ _ (Oper.mk (some 5) (.buildSlice _ _ _) _ _ _ _ :: _) _ _); refine m_lit0 M rfl rfl ?_; clear M; (try clear wx); intro g5 wx M)
      | (with_reducible (show wpList _ _ _ (Oper.mk _ (.call (Call.mk (.builtin .append) _ _)) _ _ _ _ :: _) _ _); (first | (refine m_append1 M rfl rfl rfl (by first | rfl | omega | (simp; done)) rfl (by first | rfl | assumption | (simp; done) | (simp; omega)) (by first | exact bA_one _ | exact wA_one _ | assumption | (simp [Value.oneCell']; done)) (by first | assumption | (simp only [maxLen]; omega)) (by omega) ?_)); clear M; (try clear wx); intro _ _ wx M; simp only [List.set_cons_zero, List.set_cons_succ, Nat.zero_add, List.nil_append] at M))
    go_ret
    exact ⟨_, rfl, ⟨_, _, rfl, (M.nil_own 25 32).out_own (p := 0) rfl⟩, M.up⟩
  | some q =>
    clear hv hks
    have ce := nil_eql (some q) n cap
    rw [Option.isNone_some] at ce
    go_enter Try.func123, Try.ntmps123
    go_wp2_with (first
      | (with_reducible (show wpList _ _ _ (Oper.mk (some 5) (.buildSlice _ _ _) _ _ _ _ :: _) _ _); refine m_lit0 M rfl rfl ?_; clear M; (try clear wx); intro g5 wx M)
      | (with_reducible (show wpList _ _ _ (Oper.mk _ (.call (Call.mk (.builtin .append) _ _)) _ _ _ _ :: _) _ _); (first | (refine m_append M rfl rfl rfl (by first | rfl | omega | (simp; done)) rfl (HV.out.up M.up) (by first | assumption | (simp only [maxLen]; omega)) (by omega) ?_) | (refine m_append1 M rfl rfl rfl (by first | rfl | omega | (simp; done)) rfl (by first | rfl | assumption | (simp; done) | (simp; omega)) (by first | exact bA_one _ | exact wA_one _ | assumption | (simp [Value.oneCell']; done)) (by first | assumption | (simp only [maxLen]; omega)) (by omega) ?_)); clear M; (try clear wx); intro _ _ wx M; simp only [List.set_cons_zero, List.set_cons_succ, Nat.zero_add, List.nil_append] at M))
    go_ret
    refine ⟨_, rfl, ?_, M.up⟩
    exact ⟨_, _, rfl, M.out_own (p := 0) rfl⟩

theorem st_sliceHi {P : Program} {Q : Exit → Act → World → Prop} {o : Oper} {a : Act} {w : World} {F : Value → World → Prop} {t : TypeId} {x y : Operand} (ho : o.op = .slice t x none (some y) none) {e : TypeId} [ht : SliceT P t e] {size bytes : Nat} {z : Value} [he : ElT P e size bytes z]
    {g n cap h : Nat} (hx : a.eval x = .slice (some ⟨g, 0, none⟩) n cap) (hy : a.eval y = .int .i64 (h : Int)) (hh : h ≤ cap) (hF : F (.slice (some ⟨g, 0, none⟩) h cap) w) : St P o a w Q F := by
  have hrun := run_slice_ (P := P) ht he (some ⟨g, 0, none⟩) n cap 0 h (Nat.zero_le _) hh none (some (.int .i64 (h : Int))) rfl rfl w
  have hbb : (if cap = 0 then (some ⟨g, 0, none⟩ : Option Addr) else (some ⟨g, 0, none⟩ : Option Addr).map (·.add (0 * size))) = some ⟨g, 0, none⟩ := by
    split
    · rfl
    · simp [Addr.add_mid]
  rw [hbb] at hrun
  refine st_run (v := .slice (some ⟨g, 0, none⟩) h cap) ?_ hF
  unfold execOp
  rw [ho]
  simp only [hx, hy, Option.map_some, Option.map_none]
  rw [Sem.run_bind, hrun]
  rfl
theorem bits_one (k : Nat) (hk : k < 256) (r : Nat) (h : k % 2 = r) : bits .and .i64 (k : Int) 1 = (r : Int) := by
  subst h
  revert k
  decide +kernel

end Go.Proofs.Ytmbhaoiahlbglaa

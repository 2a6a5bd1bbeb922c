/- Walks: PadBlocks. -/
import Derived.Test.YtkfmokpijkoidaaHC
import Derived.Test.YtkfmokpijkoidaaHK
namespace Go.Proofs.Ytkfmokpijkoidaa
open Go.RowKit
set_option linter.unusedVariables false
set_option linter.unusedSimpArgs false

/-- The blocks of some bytes. -/
def padKs (l : List UInt8) (c : Nat) : List Ky := blkK (padded l c) ((padded l c).length / 32)
@[simp] theorem padKs_len (l : List UInt8) (c : Nat) : (padKs l c).length = (padded l c).length / 32 := by simp [padKs]
/-- What PadBlocks gives. -/
def pbK (l : List UInt8) : List Ky := if l.length > 4096 then [] else padKs l l.length
def pbC (l : List UInt8) : Int := if l.length > 4096 then 3 else 0
theorem pbK_le (l : List UInt8) : (pbK l).length ≤ 200 := by
  unfold pbK
  split
  · simp
  · rw [padKs_len, padded_len]
    have := padZ_lt l.length
    omega
theorem RdS.two {w0 w : World} {L : List It} {g : Nat} {e : TypeId} {b1 b2 : Option Addr} {c1 c2 : Nat} {x y : List UInt8} (M : Mem w0 w (.blk g e #[.slice b1 x.length c1, .slice b2 y.length c2] :: L))
    (h1 : Rd w 1 (.slice b1 x.length c1) x.length (bL x)) (h2 : Rd w 1 (.slice b2 y.length c2) y.length (bL y)) : RdS w (.slice (some ⟨g, 0, none⟩) 2 2) [x, y] := by
  refine ⟨[.slice b1 x.length c1, .slice b2 y.length c2], M.rd_blk (p := 0) rfl 1 0 2 2 _ (fun j v hj => by simpa using hj) rfl (Nat.le_refl _) (by simp only [maxLen]; omega) (by simp [Value.oneCell']), fun i l hl => ?_⟩
  match i, hl with
  | 0, hl => obtain rfl := Option.some.inj hl; exact ⟨_, rfl, h1⟩
  | 1, hl => obtain rfl := Option.some.inj hl; exact ⟨_, rfl, h2⟩

theorem concat2_c {w0 w : World} {L : List It} {g : Nat} {e : TypeId} {b1 b2 : Option Addr} {c1 c2 n1 n2 : Nat} (x y : List UInt8) (M : Mem w0 w (.blk g e #[.slice b1 n1 c1, .slice b2 n2 c2] :: L)) (hn1 : n1 = x.length) (hn2 : n2 = y.length)
    (h1 : Rd w 1 (.slice b1 n1 c1) n1 (bL x)) (h2 : Rd w 1 (.slice b2 n2 c2) n2 (bL y)) (hl : x.length + y.length ≤ 1000000000000) :
    Ret Try.prog 99 #[.slice (some ⟨g, 0, none⟩) 2 2] w fun r w' => OwnR w w' 5 1 r (x ++ y).length (bL (x ++ y)) := by
  subst hn1 hn2
  have := concat_c _ [x, y] w (RdS.two M h1 h2) (by simpa using hl) (by simp)
  simpa using this

set_option maxHeartbeats 1000000 in
set_option maxRecDepth 100000 in
theorem specPadBlocks_c (v : Value) (l : List UInt8) (w : World) (hv : Rd w 1 v l.length (bL l)) (hl : l.length ≤ 1048576) :
    Ret Try.prog 66 #[v] w fun r w' => OwnR2 w w' 24 32 r (pbK l).length (kyL (pbK l)) (.int .i64 (pbC l)) := by
  obtain ⟨b, cap, rfl⟩ := hv.shape
  have HV := Lib.hid hv
  refine ret_start fun wx M => ?_
  clear hv
  by_cases hbig : 4096 < l.length
  · have HE := Lib.hid (show pbK l = [] ∧ pbC l = 3 by simp [pbK, pbC, hbig])
    go_enter Try.func66, Try.ntmps66
    go_wp2_with (first
      | (with_reducible (show wpList _ _ _ (Oper.mk (some 10) (.buildSlice _ _ _) _ _ _ _ :: _) _ _); refine m_lit0 M rfl rfl ?_; clear M; (try clear wx); intro g10 wx M)
      | (with_reducible (show wpList _ _ _ (Oper.mk (some 15) (.buildSlice _ _ _) _ _ _ _ :: _) _ _); refine m_lit0 M rfl rfl ?_; clear M; (try clear wx); intro g15 wx M)
      | (with_reducible (show wpList _ _ _ (Oper.mk (some 26) (.buildSlice _ _ _) _ _ _ _ :: _) _ _); (first | (refine m_lit1A M rfl rfl rfl (by first | rfl | assumption | (simp; done) | (simp; omega)) (by decide) ?_) | (refine m_lit11 (v := Value.int _ _) M rfl rfl rfl rfl ?_) | (refine m_lit11 (v := Value.slice _ _ _) M rfl rfl rfl rfl ?_) | (refine m_lit11 (v := Value.bool _) M rfl rfl rfl rfl ?_) | (refine m_lit11 (v := Value.string _) M rfl rfl rfl rfl ?_) | (refine m_lit11 (v := Value.pointer _) M rfl rfl rfl rfl ?_)); clear M; (try clear wx); intro g26 wx M)
      | (with_reducible (show wpList _ _ _ (Oper.mk _ (.call (Call.mk (.builtin .append) _ _)) _ _ _ _ :: _) _ _); (first | (refine m_append1 M rfl rfl rfl (by first | rfl | omega | (simp; done)) rfl (by first | rfl | assumption | (simp; done) | (simp; omega)) (by first | exact bA_one _ | exact wA_one _ | assumption | (simp [Value.oneCell']; done)) (by first | assumption | (simp only [maxLen]; omega)) (by omega) ?_)); clear M; (try clear wx); intro _ _ wx M; simp only [List.set_cons_zero, List.set_cons_succ, Nat.zero_add, List.nil_append] at M))
    go_ret2
    refine ⟨_, rfl, ?_, M.up⟩
    rw [HE.out.1, HE.out.2]
    exact ⟨_, _, rfl, M.out_own (p := 0) rfl⟩
  · have HE := Lib.hid (show pbK l = padKs l l.length ∧ pbC l = 0 by simp [pbK, pbC, hbig])
    go_enter Try.func66, Try.ntmps66
    go_wp2_with (first
      | (go_at_call 100; (with_reducible refine mem_callO M (l01Padded_c _ l l.length _ (HV.out.up M.up) (by omega) (by omega)) ?_); clear M; (try clear wx); intro b14 cap14 wx M)
      | (with_reducible (show wpList _ _ _ (Oper.mk (some 10) (.buildSlice _ _ _) _ _ _ _ :: _) _ _); refine m_lit0 M rfl rfl ?_; clear M; (try clear wx); intro g10 wx M)
      | (with_reducible (show wpList _ _ _ (Oper.mk (some 15) (.buildSlice _ _ _) _ _ _ _ :: _) _ _); refine m_lit0 M rfl rfl ?_; clear M; (try clear wx); intro g15 wx M)
      | (with_reducible (show wpList _ _ _ (Oper.mk (some 26) (.buildSlice _ _ _) _ _ _ _ :: _) _ _); (first | (refine m_lit1A M rfl rfl rfl (by first | rfl | assumption | (simp; done) | (simp; omega)) (by decide) ?_) | (refine m_lit11 (v := Value.int _ _) M rfl rfl rfl rfl ?_) | (refine m_lit11 (v := Value.slice _ _ _) M rfl rfl rfl rfl ?_) | (refine m_lit11 (v := Value.bool _) M rfl rfl rfl rfl ?_) | (refine m_lit11 (v := Value.string _) M rfl rfl rfl rfl ?_) | (refine m_lit11 (v := Value.pointer _) M rfl rfl rfl rfl ?_)); clear M; (try clear wx); intro g26 wx M)
      | (with_reducible (show wpList _ _ _ (Oper.mk _ (.call (Call.mk (.builtin .append) _ _)) _ _ _ _ :: _) _ _); (first | (refine m_append1 M rfl rfl rfl (by first | rfl | omega | (simp; done)) rfl (by first | rfl | assumption | (simp; done) | (simp; omega)) (by first | exact bA_one _ | exact wA_one _ | assumption | (simp [Value.oneCell']; done)) (by first | assumption | (simp only [maxLen]; omega)) (by omega) ?_)); clear M; (try clear wx); intro _ _ wx M; simp only [List.set_cons_zero, List.set_cons_succ, Nat.zero_add, List.nil_append] at M))
    have hq := padded_mod l l.length
    have hql := padded_len l l.length
    have hz := padZ_lt l.length
    have HK := Lib.hid (show padKs l l.length = blkK (padded l l.length) ((padded l l.length).length / 32) from rfl)
    generalize padded l l.length = q at *
    have hm : q.length ≤ 1000000 := by omega
    clear hql hz
    obtain ⟨m, HM⟩ : ∃ m, Hid (m = q.length / 32) := ⟨_, Lib.hid rfl⟩
    rw [← HM.out] at hq HK
    have HQ := Lib.hid hq
    have hmq : 32 * m ≤ q.length := by omega
    have hqm : q.length ≤ 32 * m := by omega
    clear hq
    go_loopg [5, 6] m (fun r x i wr => ∃ (j : Nat) (b : Option Addr) (cap : Nat), j + r = m ∧ x = .slice b j cap ∧ i = .int .i64 ((32 * j : Nat) : Int) ∧ Mem w wr [.own b cap 24 32 j (kyL (blkK q j)), .own b14 cap14 5 1 q.length (bL q)])
    case atStart => exact ⟨0, _, _, by omega, rfl, rfl, by simpa [blkK, kyL] using M⟩
    case round =>
      obtain ⟨j, b, cap, hj, rfl, rfl, M⟩ := hrel
      by_cases hlt : j < m
      · have HJ := Lib.hid hj
        have hlt' : 32 * j < q.length := by omega
        have hat : 32 * j + 32 ≤ q.length := by omega
        have HC := Lib.hid (cutK_eq q (32 * j) hat)
        clear hj
        go_wp2_with (first
          | (go_at_call 101; (with_reducible refine mem_call M (l01Block_c _ q (32 * j) _ M.rdB hat) ?_); rw [← HC.out]; clear M; (try clear wx); rintro _ wx rfl _ M)
          | (with_reducible (show wpList _ _ _ (Oper.mk (some 10) (.buildSlice _ _ _) _ _ _ _ :: _) _ _); refine m_lit0 M rfl rfl ?_; clear M; (try clear wx); intro g10 wx M)
          | (with_reducible (show wpList _ _ _ (Oper.mk (some 15) (.buildSlice _ _ _) _ _ _ _ :: _) _ _); refine m_lit0 M rfl rfl ?_; clear M; (try clear wx); intro g15 wx M)
          | (with_reducible (show wpList _ _ _ (Oper.mk (some 26) (.buildSlice _ _ _) _ _ _ _ :: _) _ _); (first | (refine m_lit1A M rfl rfl rfl (by first | rfl | assumption | (simp; done) | (simp; omega)) (by decide) ?_) | (refine m_lit11 (v := Value.int _ _) M rfl rfl rfl rfl ?_) | (refine m_lit11 (v := Value.slice _ _ _) M rfl rfl rfl rfl ?_) | (refine m_lit11 (v := Value.bool _) M rfl rfl rfl rfl ?_) | (refine m_lit11 (v := Value.string _) M rfl rfl rfl rfl ?_) | (refine m_lit11 (v := Value.pointer _) M rfl rfl rfl rfl ?_)); clear M; (try clear wx); intro g26 wx M)
          | (with_reducible (show wpList _ _ _ (Oper.mk _ (.call (Call.mk (.builtin .append) _ _)) _ _ _ _ :: _) _ _); (first | (refine m_append1 M rfl rfl rfl (by first | rfl | omega | (simp; done)) rfl (by first | rfl | assumption | (simp; done) | (simp; omega)) (by first | exact bA_one _ | exact wA_one _ | assumption | (simp [Value.oneCell']; done)) (by first | assumption | (simp only [maxLen]; omega)) (by omega) ?_)); clear M; (try clear wx); intro _ _ wx M; simp only [List.set_cons_zero, List.set_cons_succ, Nat.zero_add, List.nil_append] at M))
        have hj := HJ.out
        go_roundg (gk - 1)
        case measure => omega
        case rel =>
          refine ⟨j + 1, _, _, by omega, rfl, by go_num, ?_⟩
          rw [blkK_succ, ← kyL_snoc]
          exact M
      · obtain rfl : j = m := by omega
        clear hj
        go_wp2_with (first
          | (with_reducible (show wpList _ _ _ (Oper.mk (some 10) (.buildSlice _ _ _) _ _ _ _ :: _) _ _); refine m_lit0 M rfl rfl ?_; clear M; (try clear wx); intro g10 wx M)
          | (with_reducible (show wpList _ _ _ (Oper.mk (some 15) (.buildSlice _ _ _) _ _ _ _ :: _) _ _); refine m_lit0 M rfl rfl ?_; clear M; (try clear wx); intro g15 wx M)
          | (with_reducible (show wpList _ _ _ (Oper.mk (some 26) (.buildSlice _ _ _) _ _ _ _ :: _) _ _); (first | (refine m_lit1A M rfl rfl rfl (by first | rfl | assumption | (simp; done) | (simp; omega)) (by decide) ?_) | (refine m_lit11 (v := Value.int _ _) M rfl rfl rfl rfl ?_) | (refine m_lit11 (v := Value.slice _ _ _) M rfl rfl rfl rfl ?_) | (refine m_lit11 (v := Value.bool _) M rfl rfl rfl rfl ?_) | (refine m_lit11 (v := Value.string _) M rfl rfl rfl rfl ?_) | (refine m_lit11 (v := Value.pointer _) M rfl rfl rfl rfl ?_)); clear M; (try clear wx); intro g26 wx M)
          | (with_reducible (show wpList _ _ _ (Oper.mk _ (.call (Call.mk (.builtin .append) _ _)) _ _ _ _ :: _) _ _); (first | (refine m_append1 M rfl rfl rfl (by first | rfl | omega | (simp; done)) rfl (by first | rfl | assumption | (simp; done) | (simp; omega)) (by first | exact bA_one _ | exact wA_one _ | assumption | (simp [Value.oneCell']; done)) (by first | assumption | (simp only [maxLen]; omega)) (by omega) ?_)); clear M; (try clear wx); intro _ _ wx M; simp only [List.set_cons_zero, List.set_cons_succ, Nat.zero_add, List.nil_append] at M))
        go_ret2
        refine ⟨_, rfl, ?_, M.up⟩
        rw [HE.out.1, HE.out.2, HK.out, blkK_len]
        exact ⟨_, _, rfl, M.out_own (p := 0) rfl⟩

set_option maxHeartbeats 1000000 in
set_option maxRecDepth 100000 in
theorem implPadBlocks_c (v : Value) (l : List UInt8) (w : World) (hv : Rd w 1 v l.length (bL l)) (hl : l.length ≤ 1048576) :
    Ret Try.prog 67 #[v] w fun r w' => OwnR2 w w' 24 32 r (pbK l).length (kyL (pbK l)) (.int .i64 (pbC l)) := by
  obtain ⟨b, cap, rfl⟩ := hv.shape
  have HV := Lib.hid hv
  refine ret_start fun wx M => ?_
  clear hv
  by_cases hbig : 4096 < l.length
  · have HE := Lib.hid (show pbK l = [] ∧ pbC l = 3 by simp [pbK, pbC, hbig])
    go_enter Try.func67, Try.ntmps67
    go_wp2_with fail
    go_ret2
    refine ⟨_, rfl, ?_, M.up⟩
    rw [HE.out.1, HE.out.2]
    exact ⟨_, _, rfl, (M.nil_own 24 32).out_own (p := 0) rfl⟩
  · have HE := Lib.hid (show pbK l = padKs l l.length ∧ pbC l = 0 by simp [pbK, pbC, hbig])
    go_enter Try.func67, Try.ntmps67
    go_wp2_with (first
      | (go_at_call 104; (with_reducible refine mem_call M (sizeByte_c _ _ _ _) ?_); clear M; (try clear wx); rintro _ wx rfl _ M)
      | (go_at_call 103; (with_reducible refine mem_callO M (padding_c l.length _ (by omega)) ?_); clear M; (try clear wx); intro b13 cap13 wx M)
      | (with_reducible (show wpList _ _ _ (Oper.mk (some 14) (.buildSlice _ _ _) _ _ _ _ :: _) _ _); refine m_lit2 (v0 := Value.slice _ _ _) (v1 := Value.slice _ _ _) M rfl rfl rfl rfl rfl rfl ?_; clear M; (try clear wx); intro g14 wx M))
    have hz := padZ_lt l.length
    have hpl := padB_len l.length l.length
    have hll : l.length ≤ 4096 := by omega
    have hql : (padded l l.length).length ≤ 5000 := by rw [padded_len]; omega
    have HQ := Lib.hid (show padKs l l.length = blkK (padded l l.length) ((padded l l.length).length / 32) from rfl)
    refine mem_callO M (concat2_c l (padB l.length l.length) M rfl rfl (HV.out.up M.up) M.rdB (by omega)) ?_
    rw [show l ++ padB l.length l.length = padded l l.length from rfl]
    generalize padded l l.length = q at *
    clear M
    intro b15 cap15 wx M
    go_wp2_with fail
    refine Calls.mono (blocks_c _ q _ M.rdB (by omega)) ?_
    rintro e wy ⟨r, rfl, ⟨b, cap, b', cap', rfl, ho, -⟩, hb⟩
    have M := M.addO hb ho
    go_wp2_with fail
    go_ret2
    refine ⟨_, rfl, ?_, M.up⟩
    rw [HE.out.1, HE.out.2, HQ.out, blkK_len]
    exact ⟨_, _, rfl, M.out_own (p := 0) rfl⟩

set_option maxHeartbeats 2000000 in
set_option maxRecDepth 100000 in
theorem lawPadBlocks_c (v : Value) (l : List UInt8) (w : World) (hv : RdB w v l) : Calls Try.prog 14 #[v] w fun e w' => e = .returned (.bool true) ∧ Up w w' := by
  have HV := Lib.hid hv
  obtain ⟨a, cap, rfl, hm, -⟩ := hv
  have hmm : maxLen ≤ 9223372036854775807 := by decide
  have hml : l.length ≤ 9223372036854775807 := by omega
  clear hm hmm
  by_cases hbig : 1048576 < l.length
  · go_enter Try.func14, Try.ntmps14
    go_wp2_with fail
    go_ret
    exact ⟨rfl, Up.refl _⟩
  · have hl : l.length ≤ 1048576 := by omega
    have hpk := pbK_le l
    have M := Mem.start w
    go_enter Try.func14, Try.ntmps14
    go_wp2_with (first
      | (go_at_call 46; (with_reducible refine mem_callO M (toByteS_r _ l _ (HV.out.up M.up) hl) ?_); clear M; (try clear wx); intro b_ cap_ wx M)
      | (go_at_call 66; (with_reducible refine mem_callO2 M (specPadBlocks_c _ l _ M.rdB hl) ?_); clear M; (try clear wx); intro b_ cap_ wx M)
      | (go_at_call 67; (with_reducible refine mem_callO2 M (implPadBlocks_c _ l _ M.rdB hl) ?_); clear M; (try clear wx); intro b_ cap_ wx M)
      | (go_at_call 68; (with_reducible refine mem_call M (eqByteA32S_same _ _ _ (pbK l) rfl _ (by omega) (M.rdO (kyL_one _)) (M.rdO (kyL_one _))) ?_); clear M; (try clear wx); rintro _ wx rfl _ M)
      | (go_at_call 49; (with_reducible refine mem_call M (eqByteS_r _ _ l _ M.rdB' M.rdB') ?_); clear M; (try clear wx); rintro _ wx rfl _ M)
      | (go_at_call 58; (with_reducible refine mem_callW M (fun h => markByteS_1 _ _ _ _ _ _ (by omega) h) ?_); clear M; (try clear wx); intro wx M; simp only [List.set_cons_zero, List.set_cons_succ, Nat.zero_add, List.nil_append] at M)
      | (go_at_call 69; (with_reducible refine mem_callW M (fun h => markByteA32S_1 _ _ _ _ _ _ (by omega) h) ?_); clear M; (try clear wx); intro wx M; simp only [List.set_cons_zero, List.set_cons_succ, Nat.zero_add, List.nil_append] at M)
      | (go_at_call 70; (with_reducible refine mem_call M (heldByteA32S_1 _ _ _ (by omega) (M.rdO (kyL_one _))) ?_); clear M; (try clear wx); rintro _ wx rfl _ M))
    go_ret
    exact ⟨rfl, M.up⟩

end Go.Proofs.Ytkfmokpijkoidaa

/- Walks: BuildFrom and its law. -/
import Derived.Test.YtmbhaoiahlbglaaHMm
namespace Go.Proofs.Ytmbhaoiahlbglaa
open Go.RowKit
set_option linter.unusedVariables false
set_option linter.unusedSimpArgs false

/-- What BuildFrom gives. -/
def bfA (ps : List Pc) (ls : List (List UInt8)) : Bool := ps.all (fun p => (fdC ls p).isSome)
def bfL (ps : List Pc) (ls : List (List UInt8)) : List UInt8 := (ps.map (fun p => (fdC ls p).getD [])).flatten
def bfT (ps : List Pc) (ls : List (List UInt8)) : List UInt8 × Int := if kdC ps.length ls = 0 then (if bfA ps ls = true then (if 4096 < (bfL ps ls).length then ([], 3) else (bfL ps ls, 0)) else ([], 6)) else ([], kdC ps.length ls)
theorem bfT_len (ps : List Pc) (ls : List (List UInt8)) : (bfT ps ls).1.length ≤ 4096 := by
  unfold bfT
  split
  · split
    · split
      · exact Nat.zero_le _
      · show (bfL ps ls).length ≤ 4096
        omega
    · exact Nat.zero_le _
  · exact Nat.zero_le _
theorem bfA_snoc (ps : List Pc) (ls : List (List UInt8)) (p : Pc) : bfA (ps ++ [p]) ls = (bfA ps ls && (fdC ls p).isSome) := by simp [bfA]
theorem bfL_snoc (ps : List Pc) (ls : List (List UInt8)) (p : Pc) : bfL (ps ++ [p]) ls = bfL ps ls ++ (fdC ls p).getD [] := by simp [bfL]
theorem bfA_miss {ps : List Pc} {ls : List (List UInt8)} {j : Nat} (hj : j < ps.length) (h : fdC ls ps[j] = none) : bfA ps ls = false := by
  cases hb : bfA ps ls with
  | false => rfl
  | true =>
    have := List.all_eq_true.1 hb _ (List.getElem_mem hj)
    rw [h] at this
    cases this
theorem mem_flat_le (ls : List (List UInt8)) (c : List UInt8) (h : c ∈ ls) : c.length ≤ ls.flatten.length := by
  induction ls with
  | nil => simp at h
  | cons l ls ih =>
    rw [List.flatten_cons, List.length_append]
    rcases List.mem_cons.1 h with rfl | h
    · omega
    · have := ih h
      omega
theorem fdC_len {ls : List (List UInt8)} {p : Pc} {c : List UInt8} (h : fdC ls p = some c) : c.length ≤ ls.flatten.length := mem_flat_le ls c (List.mem_of_find?_eq_some h)

set_option maxHeartbeats 4000000 in
set_option maxRecDepth 100000 in
theorem implBuildFrom_c (va vb : Value) (n : Nat) (ps : List Pc) (hps : ps.length = n) (hpw : ∀ p ∈ ps, Pw p) (ls : List (List UInt8)) (w : World) (ha : Rd w 33 va n (piL ps)) (hb : RdS w vb ls) (hl : ls.flatten.length ≤ 100000000) (hn : ls.length ≤ 1000000000) :
    Ret Try.prog 48 #[va, vb] w fun r w' => OwnR2 w w' 5 1 r (bfT ps ls).1.length (bL (bfT ps ls).1) (.int .i64 (bfT ps ls).2) := by
  obtain ⟨b, cap, rfl⟩ := ha.shape
  have HA := Lib.hid ha
  have HB := Lib.hid hb
  have HK := Lib.hid hps
  refine ret_start fun wx M => ?_
  have HBC := Lib.hid (fun (w : World) (h : RdS w vb ls) => buildCode_c b n cap vb ls w h (by omega) hn)
  clear ha hb
  rcases kdC_cases n ls with hc | ⟨hc, hn256, hl2, hn2⟩
  · have HE := Lib.hid (show bfT ps ls = ([], 3) by rw [bfT, hps, hc, if_neg (by decide)])
    rw [hc] at HBC
    clear hps
    go_enter Try.func48, Try.ntmps48
    go_wp2_with (first
      | (go_at_call 99; (with_reducible refine mem_call M (HBC.out _ (HB.out.up M.up)) ?_); clear M; (try clear wx); rintro _ wx rfl _ M)
      | (with_reducible (show wpList _ _ _ (Oper.mk (some 21) (.buildSlice _ _ _) _ _ _ _ :: _) _ _); refine m_lit0 M rfl rfl ?_; clear M; (try clear wx); intro g21 wx M)
      | (with_reducible (show wpList _ _ _ (Oper.mk (some 10) (.alloc _) _ _ _ _ :: _) _ _); refine mem_new M rfl rfl ?_; clear M; (try clear wx); intro g10 wx M)
      | (with_reducible (show wpList _ _ _ (Oper.mk _ (.load _ _) _ _ _ _ :: _) _ _); (first | (refine m_load M rfl rfl rfl (by first | assumption | rfl) ?_) | (refine m_loadR M rfl rfl rfl (by first | rfl | assumption | (simp; done) | (simp; omega)) ?_)))
      | (with_reducible (show wpList _ _ _ (Oper.mk _ (.store _ _ _) _ _ _ _ :: _) _ _); (first | (refine m_storeR M rfl rfl rfl rfl (by first | rfl | assumption | (simp; done) | (simp; omega)) (by first | rfl | assumption | (simp; done) | (simp; omega)) (by first | exact bA_one _ | exact wA_one _ | assumption | (simp [Value.oneCell']; done)) ?_) | (refine m_store (v := Value.int _ _) M rfl rfl rfl rfl rfl (by first | assumption | (simp; done) | (simp; omega)) ?_) | (refine m_store (v := Value.slice _ _ _) M rfl rfl rfl rfl rfl (by first | assumption | (simp; done) | (simp; omega)) ?_) | (refine m_store (v := Value.bool _) M rfl rfl rfl rfl rfl (by first | assumption | (simp; done) | (simp; omega)) ?_) | (refine m_store (v := Value.string _) M rfl rfl rfl rfl rfl (by first | assumption | (simp; done) | (simp; omega)) ?_) | (refine m_store (v := Value.pointer _) M rfl rfl rfl rfl rfl (by first | assumption | (simp; done) | (simp; omega)) ?_)); clear M; (try clear wx); intro wx M; simp only [List.set_cons_zero, List.set_cons_succ, Nat.zero_add, List.nil_append] at M)
      | (with_reducible (show wpList _ _ _ (Oper.mk _ (.call (Call.mk (.builtin .append) _ _)) _ _ _ _ :: _) _ _); (first | (refine m_append1 M rfl rfl rfl (by first | rfl | omega | (simp; done)) rfl (by first | rfl | assumption | (simp; done) | (simp; omega)) (by first | exact bA_one _ | exact wA_one _ | assumption | (simp [Value.oneCell']; done)) (by first | assumption | (simp only [maxLen]; omega)) (by omega) ?_)); clear M; (try clear wx); intro _ _ wx M; simp only [List.set_cons_zero, List.set_cons_succ, Nat.zero_add, List.nil_append] at M))
    go_ret2
    exact ⟨_, rfl, by rw [HE.out]; exact ⟨_, _, rfl, (M.nil_own 5 1).out_own (p := 0) rfl⟩, M.up⟩
  · have HE := Lib.hid (show bfT ps ls = (if bfA ps ls = true then (if 4096 < (bfL ps ls).length then ([], 3) else (bfL ps ls, 0)) else ([], 6)) by rw [bfT, hps, hc, if_pos rfl])
    rw [hc] at HBC
    clear hps hc
    go_enter Try.func48, Try.ntmps48
    go_wp2_with (first
      | (go_at_call 99; (with_reducible refine mem_call M (HBC.out _ (HB.out.up M.up)) ?_); clear M; (try clear wx); rintro _ wx rfl _ M)
      | (go_at_call 100; (with_reducible refine mem_callMap M (shelf_c vb ls _ _ M.up HB.out hl hn) ?_); clear M; (try clear wx); intro g7 ob wx hms M; have HMS := Lib.hid hms; clear hms)
      | (with_reducible (show wpList _ _ _ (Oper.mk (some 21) (.buildSlice _ _ _) _ _ _ _ :: _) _ _); refine m_lit0 M rfl rfl ?_; clear M; (try clear wx); intro g21 wx M)
      | (with_reducible (show wpList _ _ _ (Oper.mk (some 10) (.alloc _) _ _ _ _ :: _) _ _); refine mem_new M rfl rfl ?_; clear M; (try clear wx); intro g10 wx M)
      | (with_reducible (show wpList _ _ _ (Oper.mk _ (.load _ _) _ _ _ _ :: _) _ _); (first | (refine m_load M rfl rfl rfl (by first | assumption | rfl) ?_) | (refine m_loadR M rfl rfl rfl (by first | rfl | assumption | (simp; done) | (simp; omega)) ?_)))
      | (with_reducible (show wpList _ _ _ (Oper.mk _ (.store _ _ _) _ _ _ _ :: _) _ _); (first | (refine m_storeR M rfl rfl rfl rfl (by first | rfl | assumption | (simp; done) | (simp; omega)) (by first | rfl | assumption | (simp; done) | (simp; omega)) (by first | exact bA_one _ | exact wA_one _ | assumption | (simp [Value.oneCell']; done)) ?_) | (refine m_store (v := Value.int _ _) M rfl rfl rfl rfl rfl (by first | assumption | (simp; done) | (simp; omega)) ?_) | (refine m_store (v := Value.slice _ _ _) M rfl rfl rfl rfl rfl (by first | assumption | (simp; done) | (simp; omega)) ?_) | (refine m_store (v := Value.bool _) M rfl rfl rfl rfl rfl (by first | assumption | (simp; done) | (simp; omega)) ?_) | (refine m_store (v := Value.string _) M rfl rfl rfl rfl rfl (by first | assumption | (simp; done) | (simp; omega)) ?_) | (refine m_store (v := Value.pointer _) M rfl rfl rfl rfl rfl (by first | assumption | (simp; done) | (simp; omega)) ?_)); clear M; (try clear wx); intro wx M; simp only [List.set_cons_zero, List.set_cons_succ, Nat.zero_add, List.nil_append] at M)
      | (with_reducible (show wpList _ _ _ (Oper.mk _ (.call (Call.mk (.builtin .append) _ _)) _ _ _ _ :: _) _ _); (first | (refine m_append1 M rfl rfl rfl (by first | rfl | omega | (simp; done)) rfl (by first | rfl | assumption | (simp; done) | (simp; omega)) (by first | exact bA_one _ | exact wA_one _ | assumption | (simp [Value.oneCell']; done)) (by first | assumption | (simp only [maxLen]; omega)) (by omega) ?_)); clear M; (try clear wx); intro _ _ wx M; simp only [List.set_cons_zero, List.set_cons_succ, Nat.zero_add, List.nil_append] at M))
    go_loopg [8, 24] n (fun q s i wr => ∃ (j m : Nat) (out : List UInt8) (b : Option Addr) (cap : Nat), j + q = n ∧ s = .slice b m cap ∧ i = .int .i64 (j : Int) ∧ m ≤ j * 4096 ∧ Hid (out.length = m ∧ out = bfL (ps.take j) ls ∧ bfA (ps.take j) ls = true) ∧ Mem w wr [.own b cap 5 1 m (bL out), .obj g7 ob])
    case atStart => exact ⟨0, 0, [], _, _, by omega, rfl, rfl, Nat.le_refl _, Lib.hid ⟨rfl, rfl, rfl⟩, M⟩
    case round =>
      clear M
      obtain ⟨j, m, out, b, cap, hj, rfl, rfl, hm, HO, M⟩ := hrel
      by_cases hlt : j < n
      · obtain ⟨g, o, rfl, hc⟩ := HA.out.open_ (by omega)
        have hjl : j < ps.length := by rw [HK.out]; exact hlt
        have C1 := Lib.hid (fun wx (hb : Up w wx) => piL_range (hc wx hb) j hjl)
        have HW := hpw _ (List.getElem_mem hjl)
        have HTS := Lib.hid (show bfL (ps.take (j + 1)) ls = bfL (ps.take j) ls ++ (fdC ls ps[j]).getD [] by rw [List.take_succ_eq_append_getElem hjl, bfL_snoc])
        have HTA := Lib.hid (show bfA (ps.take (j + 1)) ls = (bfA (ps.take j) ls && (fdC ls ps[j]).isSome) by rw [List.take_succ_eq_append_getElem hjl, bfA_snoc])
        have HMI := Lib.hid (fun (h : fdC ls ps[j] = none) => bfA_miss hjl h)
        have HJ := Lib.hid hj
        clear hc hj
        generalize (ps[j]'hjl) = p at *
        obtain ⟨⟨k, hk32⟩, z⟩ := p
        have hz := pie_size k hk32 z
        have hone := pie_one (⟨k, hk32⟩, z)
        cases hf : fdC ls (⟨k, hk32⟩, z) with
        | some c =>
          obtain ⟨u, hu, hlk⟩ := HMS.out.some _ HW hf
          have hcl := fdC_len hf
          obtain ⟨bu, cu, rfl⟩ := hu.shape
          have HU := Lib.hid hu
          have HLK := Lib.hid hlk
          have HN := Lib.hid (show bfL (ps.take (j + 1)) ls = bfL (ps.take j) ls ++ c ∧ bfA (ps.take (j + 1)) ls = bfA (ps.take j) ls by rw [HTS.out, HTA.out, hf]; simp)
          clear hlk hf HW HTS HTA HMI hu
          obtain ⟨cl, hcle⟩ : ∃ cl, c.length = cl := ⟨_, rfl⟩
          rw [hcle] at HU HLK hcl
          have HCL := Lib.hid hcle
          clear hcle
          go_wp2_with (first
            | (with_reducible (show wpList _ _ _ (Oper.mk _ (.lookup _ _ _ _) _ _ _ _ :: _) _ _); refine m_lookup (k := .agg (pieC k z)) M rfl rfl rfl rfl (fun w h => HLK.out w _ h) ?_)
            | (with_reducible (show wpList _ _ _ (Oper.mk (some 21) (.buildSlice _ _ _) _ _ _ _ :: _) _ _); refine m_lit0 M rfl rfl ?_; clear M; (try clear wx); intro g21 wx M)
            | (with_reducible (show wpList _ _ _ (Oper.mk (some 10) (.alloc _) _ _ _ _ :: _) _ _); refine mem_new M rfl rfl ?_; clear M; (try clear wx); intro g10 wx M)
            | (with_reducible (show wpList _ _ _ (Oper.mk _ (.load _ _) _ _ _ _ :: _) _ _); (first | (refine rd_loadPi (p := (⟨k, hk32⟩, z)) rfl rfl rfl (C1.out _ M.up) ?_) | (refine m_load M rfl rfl rfl (by first | assumption | rfl) ?_) | (refine m_loadR M rfl rfl rfl (by first | exact hz | exact pie_size _ rfl _ | (simp; done)) ?_)))
            | (with_reducible (show wpList _ _ _ (Oper.mk _ (.store _ _ _) _ _ _ _ :: _) _ _); (first | (refine m_storeR M rfl rfl rfl rfl (by first | exact hz | exact pie_size _ rfl _ | (simp; done)) (by first | exact hz | exact pie_size _ rfl _ | (simp; done)) hone ?_) | (refine m_store (v := Value.int _ _) M rfl rfl rfl rfl rfl (by first | assumption | (simp; done) | (simp; omega)) ?_) | (refine m_store (v := Value.slice _ _ _) M rfl rfl rfl rfl rfl (by first | assumption | (simp; done) | (simp; omega)) ?_) | (refine m_store (v := Value.bool _) M rfl rfl rfl rfl rfl (by first | assumption | (simp; done) | (simp; omega)) ?_) | (refine m_store (v := Value.string _) M rfl rfl rfl rfl rfl (by first | assumption | (simp; done) | (simp; omega)) ?_) | (refine m_store (v := Value.pointer _) M rfl rfl rfl rfl rfl (by first | assumption | (simp; done) | (simp; omega)) ?_)); clear M; (try clear wx); intro wx M; simp only [List.set_cons_zero, List.set_cons_succ, Nat.zero_add, List.nil_append] at M)
            | (with_reducible (show wpList _ _ _ (Oper.mk _ (.call (Call.mk (.builtin .append) _ _)) _ _ _ _ :: _) _ _); (first | (refine m_append M rfl rfl rfl (by first | rfl | omega | (simp; done)) rfl (HU.out.up M.up) (by first | assumption | (simp only [maxLen]; omega)) (by omega) ?_) | (refine m_append1 M rfl rfl rfl (by first | rfl | omega | (simp; done)) rfl (by first | exact hz | exact pie_size _ rfl _ | (simp; done)) hone (by first | assumption | (simp only [maxLen]; omega)) (by omega) ?_)); clear M; (try clear wx); intro _ _ wx M; simp only [List.set_cons_zero, List.set_cons_succ, Nat.zero_add, List.nil_append] at M))
          have M := M.tail
          rw [bL_append] at M
          have hj := HJ.out
          go_roundg (gk - 1)
          case measure => omega
          case rel => exact ⟨j + 1, m + cl, out ++ c, _, _, by omega, rfl, by go_num, by omega, Lib.hid ⟨by rw [List.length_append, HO.out.1, HCL.out], by rw [HN.out.1, HO.out.2.1], by rw [HN.out.2]; exact HO.out.2.2⟩, M⟩
        | none =>
          have HLK := Lib.hid (fun w g h => HMS.out.none (⟨k, hk32⟩, z) HW hf w g h)
          have HN := Lib.hid (show bfT ps ls = ([], 6) by rw [HE.out, HMI.out hf, if_neg (by decide)])
          clear hf HW HTS HTA HMI
          go_wp2_with (first
            | (with_reducible (show wpList _ _ _ (Oper.mk _ (.lookup _ _ _ _) _ _ _ _ :: _) _ _); refine m_lookup (k := .agg (pieC k z)) M rfl rfl rfl rfl (fun w h => HLK.out w _ h) ?_)
            | (with_reducible (show wpList _ _ _ (Oper.mk (some 21) (.buildSlice _ _ _) _ _ _ _ :: _) _ _); refine m_lit0 M rfl rfl ?_; clear M; (try clear wx); intro g21 wx M)
            | (with_reducible (show wpList _ _ _ (Oper.mk (some 10) (.alloc _) _ _ _ _ :: _) _ _); refine mem_new M rfl rfl ?_; clear M; (try clear wx); intro g10 wx M)
            | (with_reducible (show wpList _ _ _ (Oper.mk _ (.load _ _) _ _ _ _ :: _) _ _); (first | (refine rd_loadPi (p := (⟨k, hk32⟩, z)) rfl rfl rfl (C1.out _ M.up) ?_) | (refine m_load M rfl rfl rfl (by first | assumption | rfl) ?_) | (refine m_loadR M rfl rfl rfl (by first | exact hz | exact pie_size _ rfl _ | (simp; done)) ?_)))
            | (with_reducible (show wpList _ _ _ (Oper.mk _ (.store _ _ _) _ _ _ _ :: _) _ _); (first | (refine m_storeR M rfl rfl rfl rfl (by first | exact hz | exact pie_size _ rfl _ | (simp; done)) (by first | exact hz | exact pie_size _ rfl _ | (simp; done)) hone ?_) | (refine m_store (v := Value.int _ _) M rfl rfl rfl rfl rfl (by first | assumption | (simp; done) | (simp; omega)) ?_) | (refine m_store (v := Value.slice _ _ _) M rfl rfl rfl rfl rfl (by first | assumption | (simp; done) | (simp; omega)) ?_) | (refine m_store (v := Value.bool _) M rfl rfl rfl rfl rfl (by first | assumption | (simp; done) | (simp; omega)) ?_) | (refine m_store (v := Value.string _) M rfl rfl rfl rfl rfl (by first | assumption | (simp; done) | (simp; omega)) ?_) | (refine m_store (v := Value.pointer _) M rfl rfl rfl rfl rfl (by first | assumption | (simp; done) | (simp; omega)) ?_)); clear M; (try clear wx); intro wx M; simp only [List.set_cons_zero, List.set_cons_succ, Nat.zero_add, List.nil_append] at M)
            | (with_reducible (show wpList _ _ _ (Oper.mk _ (.call (Call.mk (.builtin .append) _ _)) _ _ _ _ :: _) _ _); (first | (refine m_append1 M rfl rfl rfl (by first | rfl | omega | (simp; done)) rfl (by first | exact hz | exact pie_size _ rfl _ | (simp; done)) hone (by first | assumption | (simp only [maxLen]; omega)) (by omega) ?_)); clear M; (try clear wx); intro _ _ wx M; simp only [List.set_cons_zero, List.set_cons_succ, Nat.zero_add, List.nil_append] at M))
          go_ret2
          exact ⟨_, rfl, by rw [HN.out]; exact ⟨_, _, rfl, (M.nil_own 5 1).out_own (p := 0) rfl⟩, M.up⟩
      · have HE2 := Lib.hid (show out = bfL ps ls ∧ bfA ps ls = true by have := HO.out.2; rwa [List.take_of_length_le (by rw [HK.out]; omega)] at this)
        have HM := Lib.hid HO.out.1
        have MM := Lib.hid M
        clear HO hj
        by_cases hbig : 4096 < m
        · have HF := Lib.hid (show bfT ps ls = ([], 3) by rw [HE.out, if_pos HE2.out.2, ← HE2.out.1, HM.out, if_pos hbig])
          go_wp2_with fail
          go_ret2
          exact ⟨_, rfl, by rw [HF.out]; exact ⟨_, _, rfl, (MM.out.nil_own 5 1).out_own (p := 0) rfl⟩, MM.out.up⟩
        · have HF := Lib.hid (show bfT ps ls = (out, 0) by rw [HE.out, if_pos HE2.out.2, ← HE2.out.1, HM.out, if_neg hbig])
          go_wp2_with fail
          go_ret2
          exact ⟨_, rfl, by rw [HF.out, HM.out]; exact ⟨_, _, rfl, MM.out.out_own (p := 0) rfl⟩, MM.out.up⟩

set_option maxHeartbeats 4000000 in
set_option maxRecDepth 100000 in
theorem specBuildFrom_c (va vb : Value) (n : Nat) (ps : List Pc) (hps : ps.length = n) (ls : List (List UInt8)) (w : World) (ha : Rd w 33 va n (piL ps)) (hb : RdS w vb ls) (hl : ls.flatten.length ≤ 100000000) (hn : ls.length ≤ 1000000000) :
    Ret Try.prog 47 #[va, vb] w fun r w' => OwnR2 w w' 5 1 r (bfT ps ls).1.length (bL (bfT ps ls).1) (.int .i64 (bfT ps ls).2) := by
  obtain ⟨b, cap, rfl⟩ := ha.shape
  obtain ⟨b1, cap1, rfl⟩ := hb.shape
  have HA := Lib.hid ha
  have HB := Lib.hid hb
  have HK := Lib.hid hps
  refine ret_start fun wx M => ?_
  have HKC := Lib.hid (fun (w : World) (h : RdS w (.slice b1 ls.length cap1) ls) => l02Keyed_c b n cap _ ls w h hl hn)
  clear ha hb
  rcases kdC_cases n ls with hc | ⟨hc, hn256, hl2, hn2⟩
  · have HE := Lib.hid (show bfT ps ls = ([], 3) by rw [bfT, hps, hc, if_neg (by decide)])
    rw [show kyT n ls = [] by rw [kyT, hc, if_neg (by decide)], hc] at HKC
    clear hps
    go_enter Try.func47, Try.ntmps47
    go_wp2_with (first
      | (go_at_call 95; (with_reducible refine mem_callO2 M (HKC.out _ (HB.out.up M.up)) ?_); clear M; (try clear wx); intro bk ck wx M)
      | (with_reducible (show wpList _ _ _ (Oper.mk (some 19) (.buildSlice _ _ _) _ _ _ _ :: _) _ _); refine m_lit0 M rfl rfl ?_; clear M; (try clear wx); intro g19 wx M)
      | (with_reducible (show wpList _ _ _ (Oper.mk (some 21) (.buildSlice _ _ _) _ _ _ _ :: _) _ _); refine m_lit0 M rfl rfl ?_; clear M; (try clear wx); intro g21 wx M)
      | (with_reducible (show wpList _ _ _ (Oper.mk (some 37) (.buildSlice _ _ _) _ _ _ _ :: _) _ _); refine m_lit0 M rfl rfl ?_; clear M; (try clear wx); intro g37 wx M)
      | (with_reducible (show wpList _ _ _ (Oper.mk (some 47) (.buildSlice _ _ _) _ _ _ _ :: _) _ _); refine m_lit0 M rfl rfl ?_; clear M; (try clear wx); intro g47 wx M)
      | (with_reducible (show wpList _ _ _ (Oper.mk _ (.load _ _) _ _ _ _ :: _) _ _); (first | (refine m_load M rfl rfl rfl (by first | assumption | rfl) ?_) | (refine m_loadR M rfl rfl rfl (by first | rfl | assumption | (simp; done) | (simp; omega)) ?_)))
      | (with_reducible (show wpList _ _ _ (Oper.mk _ (.call (Call.mk (.builtin .append) _ _)) _ _ _ _ :: _) _ _); (first | (refine m_append1 M rfl rfl rfl (by first | rfl | omega | (simp; done)) rfl (by first | rfl | assumption | (simp; done) | (simp; omega)) (by first | exact bA_one _ | exact wA_one _ | assumption | (simp [Value.oneCell']; done)) (by first | assumption | (simp only [maxLen]; omega)) (by omega) ?_)); clear M; (try clear wx); intro _ _ wx M; simp only [List.set_cons_zero, List.set_cons_succ, Nat.zero_add, List.nil_append] at M))
    go_ret2
    exact ⟨_, rfl, by rw [HE.out]; exact ⟨_, _, rfl, M.out_own (p := 0) rfl⟩, M.up⟩
  · have HE := Lib.hid (show bfT ps ls = (if bfA ps ls = true then (if 4096 < (bfL ps ls).length then ([], 3) else (bfL ps ls, 0)) else ([], 6)) by rw [bfT, hps, hc, if_pos rfl])
    rw [show kyT n ls = kysL ls by rw [kyT, hc, if_pos rfl], hc] at HKC
    have hkl : (kysL ls).length = ls.length := by simp [kysL]
    rw [hkl] at HKC
    clear hps hc
    go_enter Try.func47, Try.ntmps47
    go_wp2_with (first
      | (go_at_call 95; (with_reducible refine mem_callO2 M (HKC.out _ (HB.out.up M.up)) ?_); clear M; (try clear wx); intro bk ck wx M)
      | (with_reducible (show wpList _ _ _ (Oper.mk (some 19) (.buildSlice _ _ _) _ _ _ _ :: _) _ _); refine m_lit0 M rfl rfl ?_; clear M; (try clear wx); intro g19 wx M)
      | (with_reducible (show wpList _ _ _ (Oper.mk (some 21) (.buildSlice _ _ _) _ _ _ _ :: _) _ _); refine m_lit0 M rfl rfl ?_; clear M; (try clear wx); intro g21 wx M)
      | (with_reducible (show wpList _ _ _ (Oper.mk (some 37) (.buildSlice _ _ _) _ _ _ _ :: _) _ _); refine m_lit0 M rfl rfl ?_; clear M; (try clear wx); intro g37 wx M)
      | (with_reducible (show wpList _ _ _ (Oper.mk (some 47) (.buildSlice _ _ _) _ _ _ _ :: _) _ _); refine m_lit0 M rfl rfl ?_; clear M; (try clear wx); intro g47 wx M)
      | (with_reducible (show wpList _ _ _ (Oper.mk _ (.load _ _) _ _ _ _ :: _) _ _); (first | (refine m_load M rfl rfl rfl (by first | assumption | rfl) ?_) | (refine m_loadR M rfl rfl rfl (by first | rfl | assumption | (simp; done) | (simp; omega)) ?_)))
      | (with_reducible (show wpList _ _ _ (Oper.mk _ (.call (Call.mk (.builtin .append) _ _)) _ _ _ _ :: _) _ _); (first | (refine m_append1 M rfl rfl rfl (by first | rfl | omega | (simp; done)) rfl (by first | rfl | assumption | (simp; done) | (simp; omega)) (by first | exact bA_one _ | exact wA_one _ | assumption | (simp [Value.oneCell']; done)) (by first | assumption | (simp only [maxLen]; omega)) (by omega) ?_)); clear M; (try clear wx); intro _ _ wx M; simp only [List.set_cons_zero, List.set_cons_succ, Nat.zero_add, List.nil_append] at M))
    go_loopg [8, 9] n (fun q s i wr => ∃ (j m : Nat) (out : List UInt8) (b : Option Addr) (cap : Nat), j + q = n ∧ s = .slice b m cap ∧ i = .int .i64 (j : Int) ∧ m ≤ j * 4096 ∧ Hid (out.length = m ∧ out = bfL (ps.take j) ls ∧ bfA (ps.take j) ls = true) ∧ Mem w wr [.own b cap 5 1 m (bL out), .own bk ck 25 32 ls.length (kyL (kysL ls))])
    case atStart => exact ⟨0, 0, [], _, _, by omega, rfl, rfl, Nat.le_refl _, Lib.hid ⟨rfl, rfl, rfl⟩, M⟩
    case round =>
      clear M
      obtain ⟨j, m, out, b, cap, hj, rfl, rfl, hm, HO, M⟩ := hrel
      by_cases hlt : j < n
      · obtain ⟨g, o, rfl, hc⟩ := HA.out.open_ (by omega)
        have hjl : j < ps.length := by rw [HK.out]; exact hlt
        have C1 := Lib.hid (fun wx (hb : Up w wx) => piL_range (hc wx hb) j hjl)
        have HTS := Lib.hid (show bfL (ps.take (j + 1)) ls = bfL (ps.take j) ls ++ (fdC ls ps[j]).getD [] by rw [List.take_succ_eq_append_getElem hjl, bfL_snoc])
        have HTA := Lib.hid (show bfA (ps.take (j + 1)) ls = (bfA (ps.take j) ls && (fdC ls ps[j]).isSome) by rw [List.take_succ_eq_append_getElem hjl, bfA_snoc])
        have HMI := Lib.hid (fun (h : fdC ls ps[j] = none) => bfA_miss hjl h)
        have HJ := Lib.hid hj
        clear hc hj
        generalize (ps[j]'hjl) = p at *
        obtain ⟨⟨k, hk32⟩, z⟩ := p
        have HF := Lib.hid (fun (va vb2 : Value) (w : World) (h1 : RdS w va ls) (h2 : Rd w 32 vb2 ls.length (kyL (kysL ls))) => l02Find_c (⟨k, hk32⟩, z) va vb2 ls w h1 h2 hn)
        cases hf : fdC ls (⟨k, hk32⟩, z) with
        | some c =>
          obtain ⟨t, ht, hft, hct⟩ := fiC_some _ _ _ hf
          rw [hft] at HF
          have hcl := fdC_len hf
          obtain ⟨g2, o2, bu, cu, hbe, hcc, hu⟩ := HB.out.at_ t ht
          subst hbe
          rw [hct] at hcc hu
          have HU := Lib.hid hu
          have C2 := Lib.hid hcc
          have HN := Lib.hid (show bfL (ps.take (j + 1)) ls = bfL (ps.take j) ls ++ c ∧ bfA (ps.take (j + 1)) ls = bfA (ps.take j) ls by rw [HTS.out, HTA.out, hf]; simp)
          clear hf hft hct hcc hu HTS HTA HMI
          obtain ⟨cl, hcle⟩ : ∃ cl, c.length = cl := ⟨_, rfl⟩
          rw [hcle] at HU C2 hcl
          have HCL := Lib.hid hcle
          clear hcle
          go_wp2_with (first
            | (go_at_call 96; (with_reducible refine mem_call M (HF.out _ _ _ (HB.out.up M.up) (M.rdK (kysL ls))) ?_); clear M; (try clear wx); rintro _ wx rfl _ M)
            | (with_reducible (show wpList _ _ _ (Oper.mk (some 19) (.buildSlice _ _ _) _ _ _ _ :: _) _ _); refine m_lit0 M rfl rfl ?_; clear M; (try clear wx); intro g19 wx M)
            | (with_reducible (show wpList _ _ _ (Oper.mk (some 21) (.buildSlice _ _ _) _ _ _ _ :: _) _ _); refine m_lit0 M rfl rfl ?_; clear M; (try clear wx); intro g21 wx M)
            | (with_reducible (show wpList _ _ _ (Oper.mk (some 37) (.buildSlice _ _ _) _ _ _ _ :: _) _ _); refine m_lit0 M rfl rfl ?_; clear M; (try clear wx); intro g37 wx M)
            | (with_reducible (show wpList _ _ _ (Oper.mk (some 47) (.buildSlice _ _ _) _ _ _ _ :: _) _ _); refine m_lit0 M rfl rfl ?_; clear M; (try clear wx); intro g47 wx M)
            | (with_reducible (show wpList _ _ _ (Oper.mk _ (.load _ _) _ _ _ _ :: _) _ _); (first | (refine rd_loadPi (p := (⟨k, hk32⟩, z)) rfl rfl rfl (C1.out _ M.up) ?_) | (refine wpList_load_one rfl rfl rfl (C2.out _ M.up) ?_) | (refine m_load M rfl rfl rfl (by first | assumption | rfl) ?_) | (refine m_loadR M rfl rfl rfl (by first | rfl | assumption | (simp; done) | (simp; omega)) ?_)))
            | (with_reducible (show wpList _ _ _ (Oper.mk _ (.call (Call.mk (.builtin .append) _ _)) _ _ _ _ :: _) _ _); (first | (refine m_append M rfl rfl rfl (by first | rfl | omega | (simp; done)) rfl (HU.out.up M.up) (by first | assumption | (simp only [maxLen]; omega)) (by omega) ?_) | (refine m_append1 M rfl rfl rfl (by first | rfl | omega | (simp; done)) rfl (by first | rfl | assumption | (simp; done) | (simp; omega)) (by first | exact bA_one _ | exact wA_one _ | assumption | (simp [Value.oneCell']; done)) (by first | assumption | (simp only [maxLen]; omega)) (by omega) ?_)); clear M; (try clear wx); intro _ _ wx M; simp only [List.set_cons_zero, List.set_cons_succ, Nat.zero_add, List.nil_append] at M))
          rw [bL_append] at M
          have hj := HJ.out
          go_roundg (gk - 1)
          case measure => omega
          case rel => exact ⟨j + 1, m + cl, out ++ c, _, _, by omega, rfl, by go_num, by omega, Lib.hid ⟨by rw [List.length_append, HO.out.1, HCL.out], by rw [HN.out.1, HO.out.2.1], by rw [HN.out.2]; exact HO.out.2.2⟩, M⟩
        | none =>
          rw [fiC_none _ _ hf] at HF
          have HN := Lib.hid (show bfT ps ls = ([], 6) by rw [HE.out, HMI.out hf, if_neg (by decide)])
          clear hf HTS HTA HMI
          go_wp2_with (first
            | (go_at_call 96; (with_reducible refine mem_call M (HF.out _ _ _ (HB.out.up M.up) (M.rdK (kysL ls))) ?_); clear M; (try clear wx); rintro _ wx rfl _ M)
            | (with_reducible (show wpList _ _ _ (Oper.mk (some 19) (.buildSlice _ _ _) _ _ _ _ :: _) _ _); refine m_lit0 M rfl rfl ?_; clear M; (try clear wx); intro g19 wx M)
            | (with_reducible (show wpList _ _ _ (Oper.mk (some 21) (.buildSlice _ _ _) _ _ _ _ :: _) _ _); refine m_lit0 M rfl rfl ?_; clear M; (try clear wx); intro g21 wx M)
            | (with_reducible (show wpList _ _ _ (Oper.mk (some 37) (.buildSlice _ _ _) _ _ _ _ :: _) _ _); refine m_lit0 M rfl rfl ?_; clear M; (try clear wx); intro g37 wx M)
            | (with_reducible (show wpList _ _ _ (Oper.mk (some 47) (.buildSlice _ _ _) _ _ _ _ :: _) _ _); refine m_lit0 M rfl rfl ?_; clear M; (try clear wx); intro g47 wx M)
            | (with_reducible (show wpList _ _ _ (Oper.mk _ (.load _ _) _ _ _ _ :: _) _ _); (first | (refine rd_loadPi (p := (⟨k, hk32⟩, z)) rfl rfl rfl (C1.out _ M.up) ?_) | (refine m_load M rfl rfl rfl (by first | assumption | rfl) ?_) | (refine m_loadR M rfl rfl rfl (by first | rfl | assumption | (simp; done) | (simp; omega)) ?_)))
            | (with_reducible (show wpList _ _ _ (Oper.mk _ (.call (Call.mk (.builtin .append) _ _)) _ _ _ _ :: _) _ _); (first | (refine m_append1 M rfl rfl rfl (by first | rfl | omega | (simp; done)) rfl (by first | rfl | assumption | (simp; done) | (simp; omega)) (by first | exact bA_one _ | exact wA_one _ | assumption | (simp [Value.oneCell']; done)) (by first | assumption | (simp only [maxLen]; omega)) (by omega) ?_)); clear M; (try clear wx); intro _ _ wx M; simp only [List.set_cons_zero, List.set_cons_succ, Nat.zero_add, List.nil_append] at M))
          go_ret2
          exact ⟨_, rfl, by rw [HN.out]; exact ⟨_, _, rfl, M.out_own (p := 0) rfl⟩, M.up⟩
      · have HE2 := Lib.hid (show out = bfL ps ls ∧ bfA ps ls = true by have := HO.out.2; rwa [List.take_of_length_le (by rw [HK.out]; omega)] at this)
        have HM := Lib.hid HO.out.1
        clear HO hj
        by_cases hbig : 4096 < m
        · have HF := Lib.hid (show bfT ps ls = ([], 3) by rw [HE.out, if_pos HE2.out.2, ← HE2.out.1, HM.out, if_pos hbig])
          go_wp2_with (first
            | (with_reducible (show wpList _ _ _ (Oper.mk (some 19) (.buildSlice _ _ _) _ _ _ _ :: _) _ _); refine m_lit0 M rfl rfl ?_; clear M; (try clear wx); intro g19 wx M)
            | (with_reducible (show wpList _ _ _ (Oper.mk (some 21) (.buildSlice _ _ _) _ _ _ _ :: _) _ _); refine m_lit0 M rfl rfl ?_; clear M; (try clear wx); intro g21 wx M)
            | (with_reducible (show wpList _ _ _ (Oper.mk (some 37) (.buildSlice _ _ _) _ _ _ _ :: _) _ _); refine m_lit0 M rfl rfl ?_; clear M; (try clear wx); intro g37 wx M)
            | (with_reducible (show wpList _ _ _ (Oper.mk (some 47) (.buildSlice _ _ _) _ _ _ _ :: _) _ _); refine m_lit0 M rfl rfl ?_; clear M; (try clear wx); intro g47 wx M)
            | (with_reducible (show wpList _ _ _ (Oper.mk _ (.load _ _) _ _ _ _ :: _) _ _); (first | (refine m_load M rfl rfl rfl (by first | assumption | rfl) ?_) | (refine m_loadR M rfl rfl rfl (by first | rfl | assumption | (simp; done) | (simp; omega)) ?_)))
            | (with_reducible (show wpList _ _ _ (Oper.mk _ (.call (Call.mk (.builtin .append) _ _)) _ _ _ _ :: _) _ _); (first | (refine m_append1 M rfl rfl rfl (by first | rfl | omega | (simp; done)) rfl (by first | rfl | assumption | (simp; done) | (simp; omega)) (by first | exact bA_one _ | exact wA_one _ | assumption | (simp [Value.oneCell']; done)) (by first | assumption | (simp only [maxLen]; omega)) (by omega) ?_)); clear M; (try clear wx); intro _ _ wx M; simp only [List.set_cons_zero, List.set_cons_succ, Nat.zero_add, List.nil_append] at M))
          go_ret2
          exact ⟨_, rfl, by rw [HF.out]; exact ⟨_, _, rfl, M.out_own (p := 0) rfl⟩, M.up⟩
        · have HF := Lib.hid (show bfT ps ls = (out, 0) by rw [HE.out, if_pos HE2.out.2, ← HE2.out.1, HM.out, if_neg hbig])
          go_wp2_with (first
            | (with_reducible (show wpList _ _ _ (Oper.mk (some 19) (.buildSlice _ _ _) _ _ _ _ :: _) _ _); refine m_lit0 M rfl rfl ?_; clear M; (try clear wx); intro g19 wx M)
            | (with_reducible (show wpList _ _ _ (Oper.mk (some 21) (.buildSlice _ _ _) _ _ _ _ :: _) _ _); refine m_lit0 M rfl rfl ?_; clear M; (try clear wx); intro g21 wx M)
            | (with_reducible (show wpList _ _ _ (Oper.mk (some 37) (.buildSlice _ _ _) _ _ _ _ :: _) _ _); refine m_lit0 M rfl rfl ?_; clear M; (try clear wx); intro g37 wx M)
            | (with_reducible (show wpList _ _ _ (Oper.mk (some 47) (.buildSlice _ _ _) _ _ _ _ :: _) _ _); refine m_lit0 M rfl rfl ?_; clear M; (try clear wx); intro g47 wx M)
            | (with_reducible (show wpList _ _ _ (Oper.mk _ (.load _ _) _ _ _ _ :: _) _ _); (first | (refine m_load M rfl rfl rfl (by first | assumption | rfl) ?_) | (refine m_loadR M rfl rfl rfl (by first | rfl | assumption | (simp; done) | (simp; omega)) ?_)))
            | (with_reducible (show wpList _ _ _ (Oper.mk _ (.call (Call.mk (.builtin .append) _ _)) _ _ _ _ :: _) _ _); (first | (refine m_append1 M rfl rfl rfl (by first | rfl | omega | (simp; done)) rfl (by first | rfl | assumption | (simp; done) | (simp; omega)) (by first | exact bA_one _ | exact wA_one _ | assumption | (simp [Value.oneCell']; done)) (by first | assumption | (simp only [maxLen]; omega)) (by omega) ?_)); clear M; (try clear wx); intro _ _ wx M; simp only [List.set_cons_zero, List.set_cons_succ, Nat.zero_add, List.nil_append] at M))
          go_ret2
          exact ⟨_, rfl, by rw [HF.out, HM.out]; exact ⟨_, _, rfl, M.out_own (p := 0) rfl⟩, M.up⟩

set_option maxHeartbeats 8000000 in
set_option maxRecDepth 100000 in
theorem lawBuildFrom_c (va vb : Value) (ps : List Pc) (hpw : ∀ p ∈ ps, Pw p) (ls : List (List UInt8)) (w : World) (hva : Rd w 33 va ps.length (piL ps)) (hvb : RdSA w vb ls) : Calls Try.prog 12 #[va, vb] w fun e w' => e = .returned (.bool true) ∧ Up w w' := by
  obtain ⟨n, hps⟩ : ∃ n, ps.length = n := ⟨_, rfl⟩
  rw [hps] at hva
  obtain ⟨b, cap, rfl⟩ := hva.shape
  have hml : n ≤ maxLen := by have := hva.len_; omega
  have HA := Lib.hid hva
  have HB := Lib.hid hvb
  have HK := Lib.hid hps
  clear hva hvb hps
  have M := Mem.start w
  by_cases hbig : (1048576 : Int) - n < 0
  · go_enter Try.func12, Try.ntmps12
    go_wp2_with (first
      | (go_at_call 37; (with_reducible refine mem_call M (szPieceS_r _ n _ 1048576 (by omega) (by omega) hml _) ?_); clear M; (try clear wx); rintro _ wx rfl _ M; rw [if_pos hbig]))
    go_ret
    exact ⟨rfl, M.up⟩
  · have hn : n ≤ 1048576 := by omega
    have hh : (0 : Int) ≤ 1048576 - (n : Int) ∧ (1048576 : Int) - (n : Int) ≤ 1048576 := by omega
    have HSZ := Lib.hid (fun (w : World) (h : RdSA w vb ls) => szByteSS_c vb ls (1048576 - (n : Int)) w hh.1 hh.2 h)
    have hz : ¬ ((1048576 : Int) - (n : Int) < 0) := hbig
    go_enter Try.func12, Try.ntmps12
    go_wp2_with (first
      | (go_at_call 37; (with_reducible refine mem_call M (szPieceS_r _ n _ 1048576 (by omega) (by omega) hml _) ?_); clear M; (try clear wx); rintro _ wx rfl _ M; rw [if_neg hbig]))
    refine mem_call M (HSZ.out _ (HB.out.up M.up)) ?_
    clear M
    rintro _ wx ⟨x, rfl, hx⟩ _ M
    rcases hx with rfl | ⟨h0, hs⟩
    · go_wp2_with fail
      go_ret
      exact ⟨rfl, M.up⟩
    · have hl : ls.length + ls.flatten.length ≤ 1048576 := by omega
      have hl1 : ls.flatten.length ≤ 100000000 := by omega
      have hl2 : ls.length ≤ 1000000000 := by omega
      have hpl := bfT_len ps ls
      have HS : Hid (∀ va vb w, Rd w 33 va n (piL ps) → RdS w vb ls → Ret Try.prog 47 #[va, vb] w fun r w' => OwnR2 w w' 5 1 r (bfT ps ls).1.length (bL (bfT ps ls).1) (.int .i64 (bfT ps ls).2)) := Lib.hid (fun va vb w h1 h2 => specBuildFrom_c va vb n ps HK.out ls w h1 h2 hl1 hl2)
      have HI : Hid (∀ va vb w, Rd w 33 va n (piL ps) → RdS w vb ls → Ret Try.prog 48 #[va, vb] w fun r w' => OwnR2 w w' 5 1 r (bfT ps ls).1.length (bL (bfT ps ls).1) (.int .i64 (bfT ps ls).2)) := Lib.hid (fun va vb w h1 h2 => implBuildFrom_c va vb n ps HK.out hpw ls w h1 h2 hl1 hl2)
      generalize (bfT ps ls).2 = c at *
      generalize (bfT ps ls).1 = q at *
      obtain ⟨d, hd⟩ : ∃ d, q.length = d := ⟨_, rfl⟩
      rw [hd] at HS HI hpl
      have HD := Lib.hid hd
      have HEQ := Lib.hid (show ∀ (va vb : Value) (w : World), Rd w 1 va d (bL q) → Rd w 1 vb d (bL q) → Ret Try.prog 49 #[va, vb] w fun r _ => r = .bool true from fun va vb w h1 h2 => by
        subst hd
        exact eqByteS_r va vb q w h1.rdb h2.rdb)
      obtain ⟨m, hm⟩ : ∃ m, m = (ls.map bL).flatten.length := ⟨_, rfl⟩
      have hmm : m ≤ 100000000000 := by rw [hm, map_flat]; omega
      have HM := Lib.hid hm
      have HL := Lib.hid (And.intro hl hl1)
      have hk33 : 1 + 33 * n ≤ 100000000000 := by omega
      clear hd hs hl hl1 hm
      go_wp2_with (first
        | (go_at_call 40; (with_reducible refine mem_callO M (toPieceS_c _ n ps HK.out _ (HA.out.up M.up) hn) ?_); clear M; (try clear wx); intro b_ cap_ wx M)
        | (go_at_call 41; (with_reducible refine mem_callS M (toByteSS_c _ ls _ (HB.out.up M.up) HL.out.1) ?_); clear M; (try clear wx); intro _ _ _ wx M)
        | (go_at_call 47; (with_reducible refine mem_callO2 M (HS.out _ _ _ (M.rdP ps) (M.rdS ls)) ?_); clear M; (try clear wx); intro b_ cap_ wx M)
        | (go_at_call 48; (with_reducible refine mem_callO2 M (HI.out _ _ _ (M.rdP ps) (M.rdS ls)) ?_); clear M; (try clear wx); intro b_ cap_ wx M)
        | (go_at_call 49; (with_reducible refine mem_call M (HEQ.out _ _ _ (M.rdO (bL_one q)) (M.rdO (bL_one q))) ?_); clear M; (try clear wx); rintro _ wx rfl _ M)
        | (go_at_call 43; (with_reducible refine mem_call M (eqPieceS_same _ _ n ps HK.out _ (by omega) (M.rdP ps) (M.rdP ps)) ?_); clear M; (try clear wx); rintro _ wx rfl _ M)
        | (go_at_call 44; (with_reducible refine mem_call M (eqByteSS_same _ _ _ ls rfl _ (by omega) (M.rdS ls) (M.rdS ls)) ?_); clear M; (try clear wx); rintro _ wx rfl _ M)
        | (go_at_call 45; (with_reducible refine mem_callW M (fun h => markPieceS_1 _ _ _ _ _ _ (by omega) h) ?_); clear M; (try clear wx); intro wx M; simp only [List.set_cons_zero, List.set_cons_succ, Nat.zero_add, List.nil_append] at M)
        | (go_at_call 46; (with_reducible refine mem_callN M (fun ho hi hap => markByteSS_k (1 + 33 * n) _ _ _ _ m _ _ _ HM.out hmm hk33 (by omega) ho hi hap) ?_); clear M; (try clear wx); intro wx M; simp only [List.set_cons_zero, List.set_cons_succ, Nat.zero_add, List.nil_append] at M)
        | (go_at_call 50; (with_reducible refine mem_callW M (fun h => markByteS_1 _ _ _ _ _ _ (by omega) h) ?_); clear M; (try clear wx); intro wx M; simp only [List.set_cons_zero, List.set_cons_succ, Nat.zero_add, List.nil_append] at M)
        | (go_at_call 51; (with_reducible refine mem_call M (heldByteS_1 _ _ _ (by omega) M.rdB) ?_); clear M; (try clear wx); rintro _ wx rfl _ M))
      go_ret
      exact ⟨rfl, M.up⟩

end Go.Proofs.Ytmbhaoiahlbglaa

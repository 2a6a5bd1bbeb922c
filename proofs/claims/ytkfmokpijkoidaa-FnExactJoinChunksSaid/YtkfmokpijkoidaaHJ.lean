/- Walks: JoinChunks. -/
import Derived.Test.YtkfmokpijkoidaaHN
namespace Go.Proofs.Ytkfmokpijkoidaa
open Go.RowKit
set_option linter.unusedVariables false
set_option linter.unusedSimpArgs false

/-- The code for chunks that are too many or too long. -/
def chC (ls : List (List UInt8)) : Int := if 4096 < ls.flatten.length ∨ 4096 < ls.length then 3 else 0
theorem RdS.shape {w : World} {v : Value} {ls : List (List UInt8)} (h : RdS w v ls) : ∃ b cap, v = .slice b ls.length cap := by
  obtain ⟨xs, h1, _⟩ := h
  exact h1.shape

set_option maxHeartbeats 1000000 in
set_option maxRecDepth 100000 in
theorem l02All_c (v : Value) (ls : List (List UInt8)) (w : World) (hv : RdS w v ls) (hl : ls.flatten.length ≤ 1000000000) (hn : ls.length ≤ 1000000000) :
    Ret Try.prog 97 #[v] w fun r _ => r = .int .i64 (chC ls) := by
  obtain ⟨b, cap, rfl⟩ := hv.shape
  have HV := Lib.hid hv
  refine ret_start fun wx M => ?_
  clear hv
  by_cases hbig : 4096 < ls.length
  · have HE := Lib.hid (show chC ls = 3 by unfold chC; rw [if_pos (.inr hbig)])
    go_enter Try.func97, Try.ntmps97
    go_wp2_with fail
    go_ret
    exact ⟨_, rfl, by rw [HE.out]; rfl, M.up⟩
  · have HE := Lib.hid (show chC ls = if 4096 < ls.flatten.length then 3 else 0 by simp [chC, hbig])
    go_enter Try.func97, Try.ntmps97
    go_wp2_with fail
    go_loopg [3, 4] ls.length (fun q x i wr => ∃ (j : Nat), j + q = ls.length ∧ x = .int .i64 (((ls.take j).flatten.length : Nat) : Int) ∧ i = .int .i64 (j : Int) ∧ Mem w wr [])
    case atStart => exact ⟨0, by omega, rfl, rfl, M⟩
    case round =>
      obtain ⟨j, hj, rfl, rfl, M⟩ := hrel
      by_cases hlt : j < ls.length
      · obtain ⟨g, o, b', cap', rfl, hc, hr⟩ := HV.out.at_ j hlt
        have C1 := Lib.hid hc
        have hle := flat_le ls (j + 1)
        have HF := Lib.hid (show (ls.take (j + 1)).flatten.length = (ls.take j).flatten.length + (ls[j]).length by rw [flat_take ls j hlt, List.length_append])
        rw [HF.out] at hle
        have HJ := Lib.hid hj
        clear hc hr hj
        generalize (ls.take j).flatten.length = F at *
        generalize (ls[j]).length = m at *
        go_wp2_with (first
          | (with_reducible (show wpList _ _ _ (Oper.mk _ (.load _ _) _ _ _ _ :: _) _ _); (first | (refine wpList_load_one rfl rfl rfl (C1.out _ M.up) ?_) | (refine m_load M rfl rfl rfl (by first | assumption | rfl) ?_) | (refine m_loadR M rfl rfl rfl (by first | rfl | assumption | (simp; done) | (simp; omega)) ?_))))
        have hj := HJ.out
        go_roundg (gk - 1)
        case measure => omega
        case rel => exact ⟨j + 1, by omega, by rw [HF.out]; go_num, by go_num, M⟩
      · obtain rfl : j = ls.length := by omega
        rw [List.take_length]
        clear hj hlt
        by_cases hF : 4096 < ls.flatten.length
        · rw [if_pos hF] at HE
          generalize ls.flatten.length = F at *
          go_wp2_with fail
          go_ret
          exact ⟨_, rfl, by rw [HE.out]; rfl, M.up⟩
        · rw [if_neg hF] at HE
          generalize ls.flatten.length = F at *
          go_wp2_with fail
          go_ret
          exact ⟨_, rfl, by rw [HE.out]; rfl, M.up⟩

set_option maxHeartbeats 1000000 in
set_option maxRecDepth 100000 in
theorem chunksCode_c (v : Value) (ls : List (List UInt8)) (w : World) (hv : RdS w v ls) (hl : ls.flatten.length ≤ 1000000000) (hn : ls.length ≤ 1000000000) :
    Ret Try.prog 98 #[v] w fun r _ => r = .int .i64 (chC ls) := by
  obtain ⟨b, cap, rfl⟩ := hv.shape
  have HV := Lib.hid hv
  refine ret_start fun wx M => ?_
  clear hv
  go_enter Try.func98, Try.ntmps98
  go_wp2_with fail
  go_loopg [3, 8] ls.length (fun q x i wr => ∃ (j : Nat), j + q = ls.length ∧ x = .int .i64 (((ls.take j).flatten.length : Nat) : Int) ∧ i = .int .i64 (j : Int) ∧ Mem w wr [])
  case atStart => exact ⟨0, by omega, rfl, rfl, M⟩
  case round =>
    obtain ⟨j, hj, rfl, rfl, M⟩ := hrel
    by_cases hlt : j < ls.length
    · obtain ⟨g, o, b', cap', rfl, hc, hr⟩ := HV.out.at_ j hlt
      have C1 := Lib.hid hc
      have hle := flat_le ls (j + 1)
      have HF := Lib.hid (show (ls.take (j + 1)).flatten.length = (ls.take j).flatten.length + (ls[j]).length by rw [flat_take ls j hlt, List.length_append])
      rw [HF.out] at hle
      have HJ := Lib.hid hj
      clear hc hr hj
      generalize (ls.take j).flatten.length = F at *
      generalize (ls[j]).length = m at *
      go_wp2_with (first
        | (with_reducible (show wpList _ _ _ (Oper.mk _ (.load _ _) _ _ _ _ :: _) _ _); (first | (refine wpList_load_one rfl rfl rfl (C1.out _ M.up) ?_) | (refine m_load M rfl rfl rfl (by first | assumption | rfl) ?_) | (refine m_loadR M rfl rfl rfl (by first | rfl | assumption | (simp; done) | (simp; omega)) ?_))))
      have hj := HJ.out
      go_roundg (gk - 1)
      case measure => omega
      case rel => exact ⟨j + 1, by omega, by rw [HF.out]; go_num, by go_num, M⟩
    · obtain rfl : j = ls.length := by omega
      rw [List.take_length]
      clear hj hlt
      by_cases hF : 4096 < ls.flatten.length
      · have HE := Lib.hid (show chC ls = 3 by unfold chC; rw [if_pos (.inl hF)])
        generalize ls.flatten.length = F at *
        go_wp2_with fail
        go_ret
        exact ⟨_, rfl, by rw [HE.out]; rfl, M.up⟩
      · by_cases hbig : 4096 < ls.length
        · have HE := Lib.hid (show chC ls = 3 by unfold chC; rw [if_pos (.inr hbig)])
          generalize ls.flatten.length = F at *
          go_wp2_with fail
          go_ret
          exact ⟨_, rfl, by rw [HE.out]; rfl, M.up⟩
        · have HE := Lib.hid (show chC ls = 0 by unfold chC; rw [if_neg (fun h => h.elim hF hbig)])
          generalize ls.flatten.length = F at *
          go_wp2_with fail
          go_ret
          exact ⟨_, rfl, by rw [HE.out]; rfl, M.up⟩

/-- What joining gives. -/
def jnL (ls : List (List UInt8)) : List UInt8 := if chC ls = 0 then ls.flatten else []
theorem chC_cases (ls : List (List UInt8)) : (chC ls = 3 ∧ jnL ls = []) ∨ (chC ls = 0 ∧ jnL ls = ls.flatten ∧ ls.flatten.length ≤ 4096) := by
  by_cases h : 4096 < ls.flatten.length ∨ 4096 < ls.length
  · have : chC ls = 3 := by unfold chC; rw [if_pos h]
    exact .inl ⟨this, by simp [jnL, this]⟩
  · have : chC ls = 0 := by unfold chC; rw [if_neg h]
    exact .inr ⟨this, by simp [jnL, this], by omega⟩

set_option maxHeartbeats 1000000 in
set_option maxRecDepth 100000 in
theorem implJoinChunks_c (v : Value) (ls : List (List UInt8)) (w : World) (hv : RdS w v ls) (hl : ls.flatten.length ≤ 1000000000) (hn : ls.length ≤ 1000000000) :
    Ret Try.prog 63 #[v] w fun r w' => OwnR2 w w' 5 1 r (jnL ls).length (bL (jnL ls)) (.int .i64 (chC ls)) := by
  have HV := Lib.hid hv
  refine ret_start fun wx M => ?_
  clear hv
  rcases chC_cases ls with ⟨hc, hj⟩ | ⟨hc, hj, hf⟩
  · have HC := Lib.hid (And.intro hc hj)
    clear hc hj
    go_enter Try.func63, Try.ntmps63
    go_wp2_with (first
      | (go_at_call 98; (with_reducible refine mem_call M (chunksCode_c _ ls _ (HV.out.up M.up) hl hn) ?_); clear M; (try clear wx); rintro _ wx rfl _ M; rw [HC.out.1]))
    go_ret2
    refine ⟨_, rfl, ?_, M.up⟩
    rw [HC.out.1, HC.out.2]
    exact ⟨_, _, rfl, (M.nil_own 5 1).out_own (p := 0) rfl⟩
  · obtain ⟨q, hq⟩ : ∃ q, q = ls.flatten := ⟨_, rfl⟩
    have HCat : Hid (∀ v w, RdS w v ls → Ret Try.prog 99 #[v] w fun r w' => OwnR w w' 5 1 r q.length (bL q)) := Lib.hid (by rw [hq]; exact fun v w hv => concat_c v ls w hv (by omega) (by omega))
    rw [← hq] at hj
    have HC := Lib.hid (And.intro hc hj)
    clear hc hj hq
    go_enter Try.func63, Try.ntmps63
    go_wp2_with (first
      | (go_at_call 98; (with_reducible refine mem_call M (chunksCode_c _ ls _ (HV.out.up M.up) hl hn) ?_); clear M; (try clear wx); rintro _ wx rfl _ M; rw [HC.out.1])
      | (go_at_call 99; (with_reducible refine mem_callO M (HCat.out _ _ (HV.out.up M.up)) ?_); clear M; (try clear wx); intro b_ cap_ wx M))
    go_ret2
    refine ⟨_, rfl, ?_, M.up⟩
    rw [HC.out.1, HC.out.2]
    exact ⟨_, _, rfl, M.out_own (p := 0) rfl⟩

set_option maxHeartbeats 1000000 in
set_option maxRecDepth 100000 in
theorem specJoinChunks_c (v : Value) (ls : List (List UInt8)) (w : World) (hv : RdS w v ls) (hl : ls.flatten.length ≤ 1000000000) (hn : ls.length ≤ 1000000000) :
    Ret Try.prog 61 #[v] w fun r w' => OwnR2 w w' 5 1 r (jnL ls).length (bL (jnL ls)) (.int .i64 (chC ls)) := by
  obtain ⟨b0, cap0, rfl⟩ := hv.shape
  have HV := Lib.hid hv
  refine ret_start fun wx M => ?_
  clear hv
  rcases chC_cases ls with ⟨hc, hj⟩ | ⟨hc, hj, hf⟩
  · have HC := Lib.hid (And.intro hc hj)
    clear hc hj
    go_enter Try.func61, Try.ntmps61
    go_wp2_with (first
      | (go_at_call 97; (with_reducible refine mem_call M (l02All_c _ ls _ (HV.out.up M.up) hl hn) ?_); clear M; (try clear wx); rintro _ wx rfl _ M; rw [HC.out.1])
      | (with_reducible (show wpList _ _ _ (Oper.mk (some 11) (.buildSlice _ _ _) _ _ _ _ :: _) _ _); refine m_lit0 M rfl rfl ?_; clear M; (try clear wx); intro g11 wx M)
      | (with_reducible (show wpList _ _ _ (Oper.mk (some 13) (.buildSlice _ _ _) _ _ _ _ :: _) _ _); refine m_lit0 M rfl rfl ?_; clear M; (try clear wx); intro g13 wx M)
      | (with_reducible (show wpList _ _ _ (Oper.mk _ (.load _ _) _ _ _ _ :: _) _ _); (first | (refine m_load M rfl rfl rfl (by first | assumption | rfl) ?_) | (refine m_loadR M rfl rfl rfl (by first | rfl | assumption | (simp; done) | (simp; omega)) ?_)))
      | (with_reducible (show wpList _ _ _ (Oper.mk _ (.call (Call.mk (.builtin .append) _ _)) _ _ _ _ :: _) _ _); (first | (refine m_append1 M rfl rfl rfl (by first | rfl | omega | (simp; done)) rfl (by first | rfl | assumption | (simp; done) | (simp; omega)) (by first | exact bA_one _ | exact wA_one _ | assumption | (simp [Value.oneCell']; done)) (by first | assumption | (simp only [maxLen]; omega)) (by omega) ?_)); clear M; (try clear wx); intro _ _ wx M; simp only [List.set_cons_zero, List.set_cons_succ, Nat.zero_add, List.nil_append] at M))
    go_ret2
    refine ⟨_, rfl, ?_, M.up⟩
    rw [HC.out.1, HC.out.2]
    exact ⟨_, _, rfl, M.out_own (p := 0) rfl⟩
  · have HC := Lib.hid (And.intro hc hj)
    clear hc hj
    go_enter Try.func61, Try.ntmps61
    go_wp2_with (first
      | (go_at_call 97; (with_reducible refine mem_call M (l02All_c _ ls _ (HV.out.up M.up) hl hn) ?_); clear M; (try clear wx); rintro _ wx rfl _ M; rw [HC.out.1])
      | (with_reducible (show wpList _ _ _ (Oper.mk (some 11) (.buildSlice _ _ _) _ _ _ _ :: _) _ _); refine m_lit0 M rfl rfl ?_; clear M; (try clear wx); intro g11 wx M)
      | (with_reducible (show wpList _ _ _ (Oper.mk (some 13) (.buildSlice _ _ _) _ _ _ _ :: _) _ _); refine m_lit0 M rfl rfl ?_; clear M; (try clear wx); intro g13 wx M)
      | (with_reducible (show wpList _ _ _ (Oper.mk _ (.load _ _) _ _ _ _ :: _) _ _); (first | (refine m_load M rfl rfl rfl (by first | assumption | rfl) ?_) | (refine m_loadR M rfl rfl rfl (by first | rfl | assumption | (simp; done) | (simp; omega)) ?_)))
      | (with_reducible (show wpList _ _ _ (Oper.mk _ (.call (Call.mk (.builtin .append) _ _)) _ _ _ _ :: _) _ _); (first | (refine m_append1 M rfl rfl rfl (by first | rfl | omega | (simp; done)) rfl (by first | rfl | assumption | (simp; done) | (simp; omega)) (by first | exact bA_one _ | exact wA_one _ | assumption | (simp [Value.oneCell']; done)) (by first | assumption | (simp only [maxLen]; omega)) (by omega) ?_)); clear M; (try clear wx); intro _ _ wx M; simp only [List.set_cons_zero, List.set_cons_succ, Nat.zero_add, List.nil_append] at M))
    go_loopg [5, 6] ls.length (fun q x i wq => ∃ (j : Nat) (b : Option Addr) (cap : Nat), j + q = ls.length ∧ x = .slice b (ls.take j).flatten.length cap ∧ i = .int .i64 (j : Int) ∧ Mem w wq [.own b cap 5 1 (ls.take j).flatten.length (bL (ls.take j).flatten)])
    case atStart => exact ⟨0, _, _, by omega, rfl, rfl, M⟩
    case round =>
      obtain ⟨j, b2, cap2, hj, rfl, rfl, M⟩ := hrel
      by_cases hlt : j < ls.length
      · obtain ⟨g, o, b', cap', rfl, hc, hr⟩ := HV.out.at_ j hlt
        have C1 := Lib.hid hc
        have R1 := Lib.hid hr
        have hle := flat_le ls (j + 1)
        have HE := Lib.hid (show (ls.take (j + 1)).flatten.length = (ls.take j).flatten.length + (ls[j]).length by rw [flat_take ls j hlt, List.length_append])
        have HB := Lib.hid (show bL (ls.take (j + 1)).flatten = bL (ls.take j).flatten ++ bL ls[j] by rw [flat_take ls j hlt, bL_append])
        rw [HE.out] at hle
        have HJ := Lib.hid hj
        clear hc hr hj
        generalize (ls.take j).flatten.length = F1 at *
        generalize (ls[j]).length = m at *
        go_wp2_with (first
          | (with_reducible (show wpList _ _ _ (Oper.mk (some 11) (.buildSlice _ _ _) _ _ _ _ :: _) _ _); refine m_lit0 M rfl rfl ?_; clear M; (try clear wx); intro g11 wx M)
          | (with_reducible (show wpList _ _ _ (Oper.mk (some 13) (.buildSlice _ _ _) _ _ _ _ :: _) _ _); refine m_lit0 M rfl rfl ?_; clear M; (try clear wx); intro g13 wx M)
          | (with_reducible (show wpList _ _ _ (Oper.mk _ (.load _ _) _ _ _ _ :: _) _ _); (first | (refine wpList_load_one rfl rfl rfl (C1.out _ M.up) ?_) | (refine m_load M rfl rfl rfl (by first | assumption | rfl) ?_) | (refine m_loadR M rfl rfl rfl (by first | rfl | assumption | (simp; done) | (simp; omega)) ?_)))
          | (with_reducible (show wpList _ _ _ (Oper.mk _ (.call (Call.mk (.builtin .append) _ _)) _ _ _ _ :: _) _ _); (first | (refine m_append M rfl rfl rfl (by first | rfl | omega | (simp; done)) rfl (R1.out.up M.up) (by first | assumption | (simp only [maxLen]; omega)) (by omega) ?_) | (refine m_append1 M rfl rfl rfl (by first | rfl | omega | (simp; done)) rfl (by first | rfl | assumption | (simp; done) | (simp; omega)) (by first | exact bA_one _ | exact wA_one _ | assumption | (simp [Value.oneCell']; done)) (by first | assumption | (simp only [maxLen]; omega)) (by omega) ?_)); clear M; (try clear wx); intro _ _ wx M; simp only [List.set_cons_zero, List.set_cons_succ, Nat.zero_add, List.nil_append] at M))
        have hj := HJ.out
        go_roundg (gk - 1)
        case measure => omega
        case rel => exact ⟨j + 1, _, _, by omega, by rw [HE.out], by go_num, by rw [HE.out, HB.out]; exact M⟩
      · obtain rfl : j = ls.length := by omega
        rw [List.take_length] at M ⊢
        have HQ := HC.out.2
        generalize ls.flatten = q at *
        have HC := Lib.hid (And.intro HC.out.1 HQ)
        clear hj hlt HQ
        go_wp2_with fail
        go_ret2
        refine ⟨_, rfl, ?_, M.up⟩
        rw [HC.out.1, HC.out.2]
        exact ⟨_, _, rfl, M.out_own (p := 0) rfl⟩

theorem Mem.rdS {w0 w : World} {L : List It} (M : Mem w0 w L) (ls : List (List UInt8)) {b : Option Addr} {cap p q : Nat} {e ei : TypeId} {us : List Value} [hO : AtO L b cap ls.length p e 1 us] [hI : AtI L us q ei (ls.map bL)] : RdS w (.slice b ls.length cap) ls := by
  have hi := M.innI us
  have key : ∀ (i : Nat) l, ls[i]? = some l → ∃ u, us[i]? = some u ∧ Rd w 1 u l.length (bL l) := fun i l hl => by
    have hi' : i < us.length := by
      rw [hi.len, List.length_map]
      exact (List.getElem?_eq_some_iff.1 hl).1
    obtain ⟨b, c, hu, ho⟩ := hi.own i _ (bL l) (List.getElem?_eq_getElem hi') (by rw [List.getElem?_map, hl]; rfl)
    refine ⟨_, List.getElem?_eq_getElem hi', ?_⟩
    rw [hu, bL_length] at ho ⊢
    exact own_rd ho (bL_one l)
  refine ⟨us, M.rd hO.out (fun u hu => ?_), key⟩
  obtain ⟨i, hi'⟩ := List.mem_iff_getElem?.1 hu
  have hlt : i < ls.length := by
    have := (List.getElem?_eq_some_iff.1 hi').1
    rw [hi.len, List.length_map] at this
    exact this
  obtain ⟨u', h1, h2⟩ := key i _ (List.getElem?_eq_getElem hlt)
  rw [hi'] at h1
  obtain rfl := Option.some.inj h1
  obtain ⟨b, c, rfl⟩ := h2.shape
  rfl
theorem map_flat (ls : List (List UInt8)) : (ls.map bL).flatten.length = ls.flatten.length := by
  induction ls with
  | nil => rfl
  | cons l ls ih => simp only [List.map_cons, List.flatten_cons, List.length_append, ih, bL_length]
theorem markByteSS_1 (b : Option Addr) (cap n B m : Nat) (us : List Value) (ls : List (List Value)) (w : World) (hm : m = ls.flatten.length) (hk : m ≤ 100000000000) (hn : n ≤ 1000000000000) (ho : w.ownsRow B 30 1 (.slice b n cap) n us) (hi : Inn B w 5 us ls)
    (hap : ∀ u k, u ∈ us → u.ownBlock = some k → (Value.slice b n cap).ownBlock = some k → False) :
    Calls Try.prog 65 #[.slice b n cap, .int .i64 1] w fun e' w' => e' = .returned (.int .i64 (1 + (m : Int))) ∧ Inn B w' 5 us (markSS 1 ls) ∧ Chg w w' (fun k => ∃ u ∈ us, u.ownBlock = some k) := by
  subst hm
  have := markByteSS_c b cap n 1 B us ls w (by omega) hn ho hi hap
  rw [Int.natCast_add] at this
  exact this

set_option maxHeartbeats 2000000 in
set_option maxRecDepth 100000 in
theorem lawJoinChunks_c (v : Value) (ls : List (List UInt8)) (w : World) (hv : RdSA w v ls) : Calls Try.prog 13 #[v] w fun e w' => e = .returned (.bool true) ∧ Up w w' := by
  have HV := Lib.hid hv
  clear hv
  have M := Mem.start w
  go_enter Try.func13, Try.ntmps13
  go_wp2_with fail
  refine mem_call M (szByteSS_c _ ls 1048576 _ (by omega) (by omega) HV.out) ?_
  clear M
  rintro _ wx ⟨x, rfl, hx⟩ _ M
  rcases hx with rfl | ⟨h0, hs⟩
  · go_wp2_with fail
    go_ret
    exact ⟨rfl, M.up⟩
  · have hl : ls.length + ls.flatten.length ≤ 1048576 := by omega
    have hl1 : ls.flatten.length ≤ 1000000000 := by omega
    have hl2 : ls.length ≤ 1000000000 := by omega
    have hj : (jnL ls).length ≤ 4096 := by
      rcases chC_cases ls with ⟨_, h⟩ | ⟨_, h, hf⟩
      · rw [h]; simp
      · rw [h]; exact hf
    obtain ⟨m, hm⟩ : ∃ m, m = (ls.map bL).flatten.length := ⟨_, rfl⟩
    have hmm : m ≤ 100000000000 := by rw [hm, map_flat]; omega
    have HM := Lib.hid hm
    have HL := Lib.hid (And.intro hl hl1)
    clear hs hl hl1 hm
    go_wp2_with (first
      | (go_at_call 62; (with_reducible refine mem_callS M (toByteSS_c _ ls _ (HV.out.up M.up) HL.out.1) ?_); clear M; (try clear wx); intro _ _ _ wx M)
      | (go_at_call 61; (with_reducible refine mem_callO2 M (specJoinChunks_c _ ls _ (M.rdS ls) HL.out.2 hl2) ?_); clear M; (try clear wx); intro b_ cap_ wx M)
      | (go_at_call 63; (with_reducible refine mem_callO2 M (implJoinChunks_c _ ls _ (M.rdS ls) HL.out.2 hl2) ?_); clear M; (try clear wx); intro b_ cap_ wx M)
      | (go_at_call 49; (with_reducible refine mem_call M (eqByteS_r _ _ (jnL ls) _ M.rdB' M.rdB') ?_); clear M; (try clear wx); rintro _ wx rfl _ M)
      | (go_at_call 64; (with_reducible refine mem_call M (eqByteSS_same _ _ _ ls rfl _ (by omega) (M.rdS ls) (M.rdS ls)) ?_); clear M; (try clear wx); rintro _ wx rfl _ M)
      | (go_at_call 65; (with_reducible refine mem_callN M (fun ho hi hap => markByteSS_1 _ _ _ _ m _ _ _ HM.out hmm (by omega) ho hi hap) ?_); clear M; (try clear wx); intro wx M; simp only [List.set_cons_zero, List.set_cons_succ, Nat.zero_add, List.nil_append] at M)
      | (go_at_call 58; (with_reducible refine mem_callW M (fun h => markByteS_1 _ _ _ _ _ _ (by omega) h) ?_); clear M; (try clear wx); intro wx M; simp only [List.set_cons_zero, List.set_cons_succ, Nat.zero_add, List.nil_append] at M)
      | (go_at_call 59; (with_reducible refine mem_call M (heldByteS_1 _ _ _ (by omega) M.rdB) ?_); clear M; (try clear wx); rintro _ wx rfl _ M))
    go_ret
    exact ⟨rfl, M.up⟩

end Go.Proofs.Ytkfmokpijkoidaa

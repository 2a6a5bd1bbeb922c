/- Walks: JoinChunks. -/
import Derived.Test.YtmbhaoiahlbglaaHN
namespace Go.Proofs.Ytmbhaoiahlbglaa
open Go.RowKit
set_option linter.unusedVariables false
set_option linter.unusedSimpArgs false

/-- The code for chunks that are too many or too long. -/
def chC (ls : List (List UInt8)) : Int := if 4096 < ls.flatten.length ∨ 4096 < ls.length then 3 else 0
theorem RdS.shape {w : World} {v : Value} {ls : List (List UInt8)} (h : RdS w v ls) : ∃ b cap, v = .slice b ls.length cap := by
  obtain ⟨xs, h1, _⟩ := h
  exact h1.shape

set_option maxHeartbeats 1000000 in
set_option maxRecDepth 100000 in
theorem l02All_c (v : Value) (ls : List (List UInt8)) (w : World) (hv : RdS w v ls) (hl : ls.flatten.length ≤ 1000000000) (hn : ls.length ≤ 1000000000) :
    Ret Try.prog 128 #[v] w fun r _ => r = .int .i64 (chC ls) := by
  obtain ⟨b, cap, rfl⟩ := hv.shape
  have HV := Lib.hid hv
  refine ret_start fun wx M => ?_
  clear hv
  by_cases hbig : 4096 < ls.length
  · have HE := Lib.hid (show chC ls = 3 by unfold chC; rw [if_pos (.inr hbig)])
    go_enter Try.func128, Try.ntmps128
    go_wp2_with fail
    go_ret
    exact ⟨_, rfl, by rw [HE.out]; rfl, M.up⟩
  · have HE := Lib.hid (show chC ls = if 4096 < ls.flatten.length then 3 else 0 by simp [chC, hbig])
    go_enter Try.func128, Try.ntmps128
    go_wp2_with fail
    go_loopg [3, 4] ls.length (fun q x i wr => ∃ (j : Nat), j + q = ls.length ∧ x = .int .i64 (((ls.take j).flatten.length : Nat) : Int) ∧ i = .int .i64 (j : Int) ∧ Mem w wr [])
    case atStart => exact ⟨0, by omega, rfl, rfl, M⟩
    case round =>
      obtain ⟨j, hj, rfl, rfl, M⟩ := hrel
      by_cases hlt : j < ls.length
      · obtain ⟨g, o, b', cap', rfl, hc, hr⟩ := HV.out.at_ j hlt
        have C1 := Lib.hid hc
        have hle := flat_le ls (j + 1)
        have HF := Lib.hid (show (ls.take (j + 1)).flatten.length = (ls.take j).flatten.length + (ls[j]).length by rw [flat_take ls j hlt, List.length_append])
        rw [HF.out] at hle
        have HJ := Lib.hid hj
        clear hc hr hj
        generalize (ls.take j).flatten.length = F at *
        generalize (ls[j]).length = m at *
        go_wp2_with (first
          | (with_reducible (show wpList _ _ _ (Oper.mk _ (.load _ _) _ _ _ _ :: _) _ _); (first | (refine wpList_load_one rfl rfl rfl (C1.out _ M.up) ?_) | (refine m_load M rfl rfl rfl (by first | assumption | rfl) ?_) | (refine m_loadR M rfl rfl rfl (by first | rfl | assumption | (simp; done) | (simp; omega)) ?_))))
        have hj := HJ.out
        go_roundg (gk - 1)
        case measure => omega
        case rel => exact ⟨j + 1, by omega, by rw [HF.out]; go_num, by go_num, M⟩
      · obtain rfl : j = ls.length := by omega
        rw [List.take_length]
        clear hj hlt
        by_cases hF : 4096 < ls.flatten.length
        · rw [if_pos hF] at HE
          generalize ls.flatten.length = F at *
          go_wp2_with fail
          go_ret
          exact ⟨_, rfl, by rw [HE.out]; rfl, M.up⟩
        · rw [if_neg hF] at HE
          generalize ls.flatten.length = F at *
          go_wp2_with fail
          go_ret
          exact ⟨_, rfl, by rw [HE.out]; rfl, M.up⟩

set_option maxHeartbeats 1000000 in
set_option maxRecDepth 100000 in
theorem chunksCode_c (v : Value) (ls : List (List UInt8)) (w : World) (hv : RdS w v ls) (hl : ls.flatten.length ≤ 1000000000) (hn : ls.length ≤ 1000000000) :
    Ret Try.prog 129 #[v] w fun r _ => r = .int .i64 (chC ls) := by
  obtain ⟨b, cap, rfl⟩ := hv.shape
  have HV := Lib.hid hv
  refine ret_start fun wx M => ?_
  clear hv
  go_enter Try.func129, Try.ntmps129
  go_wp2_with fail
  go_loopg [3, 8] ls.length (fun q x i wr => ∃ (j : Nat), j + q = ls.length ∧ x = .int .i64 (((ls.take j).flatten.length : Nat) : Int) ∧ i = .int .i64 (j : Int) ∧ Mem w wr [])
  case atStart => exact ⟨0, by omega, rfl, rfl, M⟩
  case round =>
    obtain ⟨j, hj, rfl, rfl, M⟩ := hrel
    by_cases hlt : j < ls.length
    · obtain ⟨g, o, b', cap', rfl, hc, hr⟩ := HV.out.at_ j hlt
      have C1 := Lib.hid hc
      have hle := flat_le ls (j + 1)
      have HF := Lib.hid (show (ls.take (j + 1)).flatten.length = (ls.take j).flatten.length + (ls[j]).length by rw [flat_take ls j hlt, List.length_append])
      rw [HF.out] at hle
      have HJ := Lib.hid hj
      clear hc hr hj
      generalize (ls.take j).flatten.length = F at *
      generalize (ls[j]).length = m at *
      go_wp2_with (first
        | (with_reducible (show wpList _ _ _ (Oper.mk _ (.load _ _) _ _ _ _ :: _) _ _); (first | (refine wpList_load_one rfl rfl rfl (C1.out _ M.up) ?_) | (refine m_load M rfl rfl rfl (by first | assumption | rfl) ?_) | (refine m_loadR M rfl rfl rfl (by first | rfl | assumption | (simp; done) | (simp; omega)) ?_))))
      have hj := HJ.out
      go_roundg (gk - 1)
      case measure => omega
      case rel => exact ⟨j + 1, by omega, by rw [HF.out]; go_num, by go_num, M⟩
    · obtain rfl : j = ls.length := by omega
      rw [List.take_length]
      clear hj hlt
      by_cases hF : 4096 < ls.flatten.length
      · have HE := Lib.hid (show chC ls = 3 by unfold chC; rw [if_pos (.inl hF)])
        generalize ls.flatten.length = F at *
        go_wp2_with fail
        go_ret
        exact ⟨_, rfl, by rw [HE.out]; rfl, M.up⟩
      · by_cases hbig : 4096 < ls.length
        · have HE := Lib.hid (show chC ls = 3 by unfold chC; rw [if_pos (.inr hbig)])
          generalize ls.flatten.length = F at *
          go_wp2_with fail
          go_ret
          exact ⟨_, rfl, by rw [HE.out]; rfl, M.up⟩
        · have HE := Lib.hid (show chC ls = 0 by unfold chC; rw [if_neg (fun h => h.elim hF hbig)])
          generalize ls.flatten.length = F at *
          go_wp2_with fail
          go_ret
          exact ⟨_, rfl, by rw [HE.out]; rfl, M.up⟩

/-- What joining gives. -/
def jnL (ls : List (List UInt8)) : List UInt8 := if chC ls = 0 then ls.flatten else []
theorem chC_cases (ls : List (List UInt8)) : (chC ls = 3 ∧ jnL ls = []) ∨ (chC ls = 0 ∧ jnL ls = ls.flatten ∧ ls.flatten.length ≤ 4096) := by
  by_cases h : 4096 < ls.flatten.length ∨ 4096 < ls.length
  · have : chC ls = 3 := by unfold chC; rw [if_pos h]
    exact .inl ⟨this, by simp [jnL, this]⟩
  · have : chC ls = 0 := by unfold chC; rw [if_neg h]
    exact .inr ⟨this, by simp [jnL, this], by omega⟩

theorem Mem.rdS {w0 w : World} {L : List It} (M : Mem w0 w L) (ls : List (List UInt8)) {b : Option Addr} {cap p q : Nat} {e ei : TypeId} {us : List Value} [hO : AtO L b cap ls.length p e 1 us] [hI : AtI L us q ei (ls.map bL)] : RdS w (.slice b ls.length cap) ls := by
  have hi := M.innI us
  have key : ∀ (i : Nat) l, ls[i]? = some l → ∃ u, us[i]? = some u ∧ Rd w 1 u l.length (bL l) := fun i l hl => by
    have hi' : i < us.length := by
      rw [hi.len, List.length_map]
      exact (List.getElem?_eq_some_iff.1 hl).1
    obtain ⟨b, c, hu, ho⟩ := hi.own i _ (bL l) (List.getElem?_eq_getElem hi') (by rw [List.getElem?_map, hl]; rfl)
    refine ⟨_, List.getElem?_eq_getElem hi', ?_⟩
    rw [hu, bL_length] at ho ⊢
    exact own_rd ho (bL_one l)
  refine ⟨us, M.rd hO.out (fun u hu => ?_), key⟩
  obtain ⟨i, hi'⟩ := List.mem_iff_getElem?.1 hu
  have hlt : i < ls.length := by
    have := (List.getElem?_eq_some_iff.1 hi').1
    rw [hi.len, List.length_map] at this
    exact this
  obtain ⟨u', h1, h2⟩ := key i _ (List.getElem?_eq_getElem hlt)
  rw [hi'] at h1
  obtain rfl := Option.some.inj h1
  obtain ⟨b, c, rfl⟩ := h2.shape
  rfl
theorem map_flat (ls : List (List UInt8)) : (ls.map bL).flatten.length = ls.flatten.length := by
  induction ls with
  | nil => rfl
  | cons l ls ih => simp only [List.map_cons, List.flatten_cons, List.length_append, ih, bL_length]
theorem markByteSS_1 (b : Option Addr) (cap n B m : Nat) (us : List Value) (ls : List (List Value)) (w : World) (hm : m = ls.flatten.length) (hk : m ≤ 100000000000) (hn : n ≤ 1000000000000) (ho : w.ownsRow B 66 1 (.slice b n cap) n us) (hi : Inn B w 5 us ls)
    (hap : ∀ u k, u ∈ us → u.ownBlock = some k → (Value.slice b n cap).ownBlock = some k → False) :
    Calls Try.prog 46 #[.slice b n cap, .int .i64 1] w fun e' w' => e' = .returned (.int .i64 (1 + (m : Int))) ∧ Inn B w' 5 us (markSS 1 ls) ∧ Chg w w' (fun k => ∃ u ∈ us, u.ownBlock = some k) := by
  subst hm
  have := markByteSS_c b cap n 1 B us ls w (by omega) hn ho hi hap
  rw [Int.natCast_add] at this
  exact this

end Go.Proofs.Ytmbhaoiahlbglaa

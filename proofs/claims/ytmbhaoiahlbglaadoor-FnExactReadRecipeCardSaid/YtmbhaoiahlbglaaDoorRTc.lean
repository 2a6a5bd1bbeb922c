/- Walks: are the lengths of a recipe's pieces in their bounds. -/
import Derived.Test.YtmbhaoiahlbglaaDoorRTb
namespace Go.Proofs.YtmbhaoiahlbglaaDoor
open Go.RowKit
set_option linter.unusedVariables false
set_option linter.unusedSimpArgs false

set_option maxHeartbeats 1000000 in
set_option maxRecDepth 100000 in
theorem lenBad_c (k : Ky) (l : Int) (w : World) : Ret Tryd.prog 40 #[.agg (pieC k.1 l)] w fun r _ => r = .bool (!lenOk (k, l)) := by
  have hz := pie_size k.1 k.2 l
  have H32 : (pieC k.1 l)[32]? = some (.int .i64 l) := by simp [pieC, bL_length, k.2]
  have HI := Lib.hid (within_is l 0 4096 (lenOk (k, l)) rfl)
  generalize lenOk (k, l) = c at *
  refine ret_start fun wx M => ?_
  go_enter Tryd.func40, Tryd.ntmps40
  go_wp2_with (first
    | (with_reducible (show wpList _ _ _ (Oper.mk _ (.load _ _) _ _ _ _ :: _) _ _); refine m_load (v := .int .i64 l) M rfl rfl rfl H32 ?_)
    | (go_at_call 41; (with_reducible refine mem_call M (HI.out _) ?_); clear M; (try clear wx); rintro _ wx rfl _ M)
    | (with_reducible (show wpList _ _ _ (Oper.mk (some 1) (.box _ _) _ _ _ _ :: _) _ _); (first | (refine m_boxA M rfl rfl rfl ?_) | (refine m_box1 (v := Value.int _ _) M rfl rfl rfl rfl ?_) | (refine m_box1 (v := Value.slice _ _ _) M rfl rfl rfl rfl ?_) | (refine m_box1 (v := Value.bool _) M rfl rfl rfl rfl ?_) | (refine m_box1 (v := Value.string _) M rfl rfl rfl rfl ?_) | (refine m_box1 (v := Value.pointer _) M rfl rfl rfl rfl ?_)); clear M; (try clear wx); intro g1 wx M)
    | (with_reducible (show wpList _ _ _ (Oper.mk _ (.load _ _) _ _ _ _ :: _) _ _); (first | (refine m_load M rfl rfl rfl (by first | assumption | rfl) ?_) | (refine m_loadR M rfl rfl rfl (by first | exact hz | (simp; done)) ?_))))
  go_ret
  exact ⟨_, rfl, rfl, M.up⟩

/-- The first place where the length is out of its bounds, or -1. -/
def fiP (ps : List Pc) : Int := if ps.findIdx (fun p => !lenOk p) < ps.length then (ps.findIdx (fun p => !lenOk p) : Int) else -1
theorem fiP_all (ps : List Pc) : decide (fiP ps ≥ 0) = !ps.all lenOk := by
  unfold fiP
  by_cases h : ps.findIdx (fun p => !lenOk p) < ps.length
  · rw [if_pos h, decide_eq_true (by omega)]
    have h3 := List.findIdx_getElem (p := fun p => !lenOk p) (xs := ps) (w := h)
    have : ps.all lenOk = false := by
      rw [← Bool.not_eq_true, List.all_eq_true]
      intro h4
      rw [h4 _ (List.getElem_mem h)] at h3
      cases h3
    rw [this]
    rfl
  · rw [if_neg h]
    have : ps.all lenOk = true := by
      rw [List.all_eq_true]
      intro a ha
      obtain ⟨t, ht, rfl⟩ := List.getElem_of_mem ha
      have h3 := List.not_of_lt_findIdx (p := fun p => !lenOk p) (xs := ps) (i := t) (by omega)
      simpa using h3
    rw [this]
    rfl
set_option maxHeartbeats 2000000 in
set_option maxRecDepth 100000 in
theorem indexFuncP_c (v : Value) (n : Nat) (ps : List Pc) (hks : ps.length = n) (w : World) (hv : Rd w 33 v n (piL ps)) :
    Ret Tryd.prog 57 #[v, .func (.func 40) #[] #[]] w fun r _ => r = .int .i64 (fiP ps) := by
  obtain ⟨b, cap, rfl⟩ := hv.shape
  have hml : n ≤ maxLen := by have := hv.len_; omega
  have hmm : maxLen ≤ 9223372036854775807 := by decide
  have hml' : n ≤ 9223372036854775807 := by omega
  have HV := Lib.hid hv
  have HK := Lib.hid hks
  refine ret_start fun wx M => ?_
  clear hv hks hmm
  go_enter Tryd.func57, Tryd.ntmps57
  go_wp2_with (first
    | (with_reducible (show wpList _ _ _ (Oper.mk _ (.load _ _) _ _ _ _ :: _) _ _); (first | (refine m_load M rfl rfl rfl (by first | assumption | rfl) ?_) | (refine m_loadR M rfl rfl rfl (by first | rfl | assumption | (simp; done) | (simp; omega)) ?_))))
  go_loopg [8] n (fun r i wr => ∃ j : Nat, j + r = n ∧ i = .int .i64 (j : Int) ∧ Hid (j ≤ ps.findIdx (fun p => !lenOk p)) ∧ Mem w wr [])
  case atStart => exact ⟨0, by omega, rfl, Lib.hid (Nat.zero_le _), M⟩
  case round =>
    clear M
    obtain ⟨j, hj, rfl, HF, M⟩ := hrel
    by_cases hlt : j < n
    · obtain ⟨g, o, rfl, hc⟩ := HV.out.open_ (by omega)
      have hjl : j < ps.length := by rw [HK.out]; exact hlt
      have C1 := Lib.hid (fun wx (hb : Up w wx) => piL_range (hc wx hb) j hjl)
      obtain ⟨x, hx⟩ : ∃ x, ps[j]'hjl = x := ⟨_, rfl⟩
      have HN : Hid (lenOk x = true → j + 1 ≤ ps.findIdx (fun p => !lenOk p)) := Lib.hid (fun h => by
        rcases Nat.lt_or_ge j (ps.findIdx (fun p => !lenOk p)) with h1 | h1
        · exact h1
        · have h2 : ps.findIdx (fun p => !lenOk p) = j := Nat.le_antisymm h1 HF.out
          have h3 := List.findIdx_getElem (p := fun p => !lenOk p) (xs := ps) (w := by rw [h2]; exact hjl)
          simp only [h2, hx, h] at h3
          cases h3)
      have HY : Hid (lenOk x = false → fiP ps = (j : Int)) := Lib.hid (fun h => by
        have h1 : ps.findIdx (fun p => !lenOk p) ≤ j := by
          rcases Nat.lt_or_ge j (ps.findIdx (fun p => !lenOk p)) with h1 | h1
          · have h3 := List.not_of_lt_findIdx h1
            simp only [hx, h] at h3
            cases h3
          · exact h1
        have h2 : ps.findIdx (fun p => !lenOk p) = j := Nat.le_antisymm h1 HF.out
        rw [fiP, h2, if_pos hjl])
      rw [hx] at C1
      have HJ := Lib.hid hj
      obtain ⟨k, l⟩ := x
      have HP := Lib.hid (lenBad_c k l)
      obtain ⟨c, hcc⟩ : ∃ c, lenOk (k, l) = c := ⟨_, rfl⟩
      rw [hcc] at HN HY HP
      clear hc hx HF hj hcc
      cases c with
      | true =>
        have HN2 := Lib.hid (HN.out rfl)
        clear HN HY
        go_wp2_with (first
          | (go_at_call 40; (with_reducible refine mem_call M (HP.out _) ?_); clear M; (try clear wx); rintro _ wx rfl _ M)
          | (with_reducible (show wpList _ _ _ (Oper.mk _ (.load _ _) _ _ _ _ :: _) _ _); (first | (refine rd_loadPi rfl rfl rfl (C1.out _ M.up) ?_) | (refine m_load M rfl rfl rfl (by first | assumption | rfl) ?_) | (refine m_loadR M rfl rfl rfl (by first | rfl | assumption | (simp; done) | (simp; omega)) ?_))))
        have hj := HJ.out
        go_roundg (gk - 1)
        case measure => omega
        case rel => exact ⟨j + 1, by omega, by go_num, HN2, M⟩
      | false =>
        have HY2 := Lib.hid (HY.out rfl)
        clear HN HY
        go_wp2_with (first
          | (go_at_call 40; (with_reducible refine mem_call M (HP.out _) ?_); clear M; (try clear wx); rintro _ wx rfl _ M)
          | (with_reducible (show wpList _ _ _ (Oper.mk _ (.load _ _) _ _ _ _ :: _) _ _); (first | (refine rd_loadPi rfl rfl rfl (C1.out _ M.up) ?_) | (refine m_load M rfl rfl rfl (by first | assumption | rfl) ?_) | (refine m_loadR M rfl rfl rfl (by first | rfl | assumption | (simp; done) | (simp; omega)) ?_))))
        go_ret
        exact ⟨_, rfl, by rw [HY2.out]; rfl, M.up⟩
    · have MM := Lib.hid M
      have HE := Lib.hid (show fiP ps = -1 by
        rw [fiP, if_neg]
        have := HF.out
        rw [HK.out]
        omega)
      clear HF
      go_wp2_with fail
      go_ret
      exact ⟨_, rfl, by rw [HE.out]; rfl, MM.out.up⟩

set_option maxHeartbeats 1000000 in
set_option maxRecDepth 100000 in
theorem containsFuncP_c (v : Value) (n : Nat) (ps : List Pc) (hks : ps.length = n) (w : World) (hv : Rd w 33 v n (piL ps)) :
    Ret Tryd.prog 39 #[v, .func (.func 40) #[] #[]] w fun r _ => r = .bool (!ps.all lenOk) := by
  obtain ⟨b, cap, rfl⟩ := hv.shape
  have HV := Lib.hid hv
  have HI := Lib.hid (fun (w : World) (h : Rd w 33 (.slice b n cap) n (piL ps)) => indexFuncP_c _ n ps hks w h)
  have HE := Lib.hid (fiP_all ps)
  generalize fiP ps = z at *
  clear hv hks
  refine ret_start fun wx M => ?_
  go_enter Tryd.func39, Tryd.ntmps39
  go_wp2_with (first
    | (go_at_call 57; (with_reducible refine mem_call M (HI.out _ (HV.out.up M.up)) ?_); clear M; (try clear wx); rintro _ wx rfl _ M))
  go_ret
  exact ⟨_, rfl, by rw [← HE.out]; rfl, M.up⟩
set_option maxHeartbeats 1000000 in
set_option maxRecDepth 100000 in
theorem areLengths_c (v : Value) (n : Nat) (ps : List Pc) (hks : ps.length = n) (w : World) (hv : Rd w 33 v n (piL ps)) :
    Ret Tryd.prog 22 #[v] w fun r _ => r = .bool (ps.all lenOk) := by
  obtain ⟨b, cap, rfl⟩ := hv.shape
  have HV := Lib.hid hv
  have HI := Lib.hid (fun (w : World) (h : Rd w 33 (.slice b n cap) n (piL ps)) => containsFuncP_c _ n ps hks w h)
  generalize ps.all lenOk = c at *
  clear hv hks
  refine ret_start fun wx M => ?_
  go_enter Tryd.func22, Tryd.ntmps22
  go_wp2_with (first
    | (go_at_call 39; (with_reducible refine mem_call M (HI.out _ (HV.out.up M.up)) ?_); clear M; (try clear wx); rintro _ wx rfl _ M))
  go_ret
  exact ⟨_, rfl, by cases c <;> rfl, M.up⟩

end Go.Proofs.YtmbhaoiahlbglaaDoor

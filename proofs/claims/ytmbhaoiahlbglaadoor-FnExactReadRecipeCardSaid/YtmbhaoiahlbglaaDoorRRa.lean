/- Walks: a number read (under way). -/
import Derived.Test.YtmbhaoiahlbglaaDoorRTd
import Derived.Test.YtmbhaoiahlbglaaDoorKR3
namespace Go.Proofs.YtmbhaoiahlbglaaDoor
open Go.RowKit
set_option linter.unusedVariables false
set_option linter.unusedSimpArgs false

def digB (b : UInt8) : Bool := decide (48 ≤ b.toNat) && decide (b.toNat ≤ 57)
def numV (l : List UInt8) : Nat := l.foldl (fun a b => a * 10 + (b.toNat - 48)) 0
theorem numV_snoc (l : List UInt8) (b : UInt8) : numV (l ++ [b]) = numV l * 10 + (b.toNat - 48) := by simp [numV]
theorem numV_lt (l : List UInt8) (h : ∀ b ∈ l, digB b = true) : numV l < 10 ^ l.length := by
  have key : ∀ (l : List UInt8) (a k : Nat), a < 10 ^ k → (∀ b ∈ l, digB b = true) → l.foldl (fun a b => a * 10 + (b.toNat - 48)) a < 10 ^ (k + l.length) := by
    intro l
    induction l with
    | nil => intro a k h _; simpa using h
    | cons b l ih =>
      intro a k h hb
      have h1 := hb b (by simp)
      simp only [digB, Bool.and_eq_true, decide_eq_true_eq] at h1
      have := ih (a * 10 + (b.toNat - 48)) (k + 1) (by rw [Nat.pow_succ]; omega) (fun c hc => hb c (by simp [hc]))
      simp only [List.foldl_cons, List.length_cons]
      rw [show k + (l.length + 1) = k + 1 + l.length by omega]
      exact this
  have := key l 0 0 (by decide) h
  simpa [numV] using this
def numOk (l : List UInt8) : Bool := decide (1 ≤ l.length) && decide (l.length ≤ 9) && !(decide (bt l 0 = 48) && decide (1 < l.length)) && l.all digB
/-- What the reader of numbers tells. -/
def numT (l : List UInt8) : Int × Bool := if numOk l then ((numV l : Int), true) else (0, false)

set_option maxHeartbeats 2000000 in
set_option maxRecDepth 100000 in
theorem l01Number_c (s : ByteArray) (hs : s.size ≤ 1048576) (w : World) : Ret Tryd.prog 16 #[.string s] w fun r _ => r = .tuple #[.int .i64 (numT s.data.toList).1, .bool (numT s.data.toList).2] := by
  have hsl : s.data.toList.length = s.size := rfl
  refine ret_start fun wx M => ?_
  by_cases h0 : s.size < 1
  · have HE := Lib.hid (show numT s.data.toList = (0, false) by rw [numT, if_neg]; simp [numOk]; omega)
    have g1 : (decide ((s.size : Int) < 1)) = true := by simp; omega
    clear hsl
    go_enter Tryd.func16, Tryd.ntmps16
    go_wp2_with fail
    go_ret2
    exact ⟨_, rfl, by rw [HE.out]; rfl, M.up⟩
  by_cases h9 : 9 < s.size
  · have HE := Lib.hid (show numT s.data.toList = (0, false) by rw [numT, if_neg]; simp [numOk]; omega)
    have g1 : (decide ((s.size : Int) < 1)) = false := by simp; omega
    have g2 : (decide (9 < (s.size : Int))) = true := by simp; omega
    clear hsl
    go_enter Tryd.func16, Tryd.ntmps16
    go_wp2_with fail
    go_ret2
    exact ⟨_, rfl, by rw [HE.out]; rfl, M.up⟩
  have g1 : (decide ((s.size : Int) < 1)) = false := by simp; omega
  have g2 : (decide (9 < (s.size : Int))) = false := by simp; omega
  have ix0 := fun w => str_ix s 0 0 rfl (by omega) w
  by_cases hz : bt s.data.toList 0 = 48 ∧ 1 < s.size
  · have HE := Lib.hid (show numT s.data.toList = (0, false) by rw [numT, if_neg]; simp [numOk, hz.1]; omega)
    have g3 : (((bt s.data.toList 0).toNat : Int) == 48) = true := by rw [hz.1]; rfl
    have g4 : (decide (1 < (s.size : Int))) = true := by simp; omega
    clear hsl hz
    go_enter Tryd.func16, Tryd.ntmps16
    go_wp2_with (first
      | rw [ix0])
    go_ret2
    exact ⟨_, rfl, by rw [HE.out]; rfl, M.up⟩
  have hq : (((bt s.data.toList 0).toNat : Int) == 48) = false ∨ ((((bt s.data.toList 0).toNat : Int) == 48) = true ∧ (decide (1 < (s.size : Int))) = false) := by
    by_cases hb : bt s.data.toList 0 = 48
    · have h1 : ¬ 1 < s.size := fun h => hz ⟨hb, h⟩
      exact .inr ⟨by rw [hb]; rfl, decide_eq_false (by omega)⟩
    · refine .inl ?_
      rw [beq_eq_false_iff_ne]
      intro e
      have e' : (bt s.data.toList 0).toNat = 48 := by omega
      exact hb (UInt8.toNat_inj.1 (e'.trans rfl))
  have HY := Lib.hid (show (∀ b ∈ s.data.toList, digB b = true) → numT s.data.toList = ((numV s.data.toList : Int), true) from fun h => by
    rw [numT, if_pos]
    simp only [numOk, Bool.and_eq_true, decide_eq_true_eq, Bool.not_eq_true', List.all_eq_true]
    refine ⟨⟨⟨by omega, by omega⟩, ?_⟩, h⟩
    rw [Bool.and_eq_false_iff]
    simp only [decide_eq_false_iff_not]
    rcases Classical.em (bt s.data.toList 0 = 48) with e | e
    · exact .inr (fun h' => hz ⟨e, by omega⟩)
    · exact .inl e)
  have HX := Lib.hid (show ∀ k, k < s.size → digB (bt s.data.toList k) = false → numT s.data.toList = (0, false) from fun k hk h => by
    rw [numT, if_neg]
    intro h'
    simp only [numOk, Bool.and_eq_true, List.all_eq_true] at h'
    have := h'.2 (bt s.data.toList k) (by rw [bt_eq _ _ (show k < s.data.toList.length from hk)]; exact List.getElem_mem _)
    rw [h] at this
    cases this)
  have hsz9 : s.size ≤ 9 := by omega
  clear hz
  rcases hq with g3 | ⟨g3, g4⟩ <;>
  · go_enter Tryd.func16, Tryd.ntmps16
    go_wp2_with (first
      | rw [ix0])
    clear ix0 g3 g1 g2
    go_loopg [4, 5] s.size (fun q x i wr => ∃ k : Nat, k + q = s.size ∧ x = .int .i64 (numV (s.data.toList.take k) : Int) ∧ i = .int .i64 (k : Int) ∧ Hid (∀ b ∈ s.data.toList.take k, digB b = true) ∧ Mem w wr [])
    case atStart => exact ⟨0, by omega, rfl, rfl, Lib.hid (fun b hb => by simp at hb), M⟩
    case round =>
      obtain ⟨k, hk, rfl, rfl, HD, M⟩ := hrel
      by_cases hlt : k < s.size
      · have hkl : k < s.data.toList.length := hlt
        have ix := fun w => str_ix s k k rfl hlt w
        have HX := Lib.hid (HX.out k hlt)
        have hv := numV_lt _ HD.out
        have hv9 : numV (s.data.toList.take k) < 1000000000 := Nat.lt_of_lt_of_le hv (Nat.le_trans (Nat.pow_le_pow_right (by decide) (show (s.data.toList.take k).length ≤ 9 by rw [List.length_take]; omega)) (by decide))
        have HN := Lib.hid (show numV (s.data.toList.take (k + 1)) = numV (s.data.toList.take k) * 10 + ((bt s.data.toList k).toNat - 48) by rw [List.take_succ_eq_append_getElem hkl, numV_snoc, bt_eq _ _ hkl])
        have HD2 := Lib.hid (show digB (bt s.data.toList k) = true → ∀ b ∈ s.data.toList.take (k + 1), digB b = true from fun h b hb => by
          rw [List.take_succ_eq_append_getElem hkl, List.mem_append] at hb
          rcases hb with hb | hb
          · exact HD.out b hb
          · simp only [List.mem_singleton] at hb
            rw [hb, ← bt_eq _ _ hkl]
            exact h)
        have hbb := byte_bd (bt s.data.toList k)
        have HK := Lib.hid hk
        clear hv HD hk hkl
        generalize numV (s.data.toList.take k) = V at *
        by_cases c1 : (bt s.data.toList k).toNat < 48
        · have HE := Lib.hid (HX.out (by simp [digB]; omega))
          clear HX HN HD2
          generalize bt s.data.toList k = b at *
          go_wp2_with (first
            | rw [ix])
          go_ret2
          exact ⟨_, rfl, by rw [HE.out]; rfl, M.up⟩
        · by_cases c2 : 57 < (bt s.data.toList k).toNat
          · have HE := Lib.hid (HX.out (by simp [digB]; omega))
            clear HX HN HD2
            generalize bt s.data.toList k = b at *
            go_wp2_with (first
              | rw [ix])
            go_ret2
            exact ⟨_, rfl, by rw [HE.out]; rfl, M.up⟩
          · have HD3 := Lib.hid (HD2.out (by simp [digB]; omega))
            have e1 : IntKind.u8.wrap (((bt s.data.toList k).toNat : Int) - 48) = ((bt s.data.toList k).toNat : Int) - 48 := by
              simp only [IntKind.wrap, IntKind.signed, IntKind.bits]
              simp
              omega
            clear HX HD2
            generalize bt s.data.toList k = b at *
            go_wp2_with (first
              | rw [ix])
            have hk := HK.out
            have hn := HN.out
            go_roundg (gk - 1)
            case measure => omega
            case rel => exact ⟨k + 1, by omega, by first | (refine congrArg (Value.int .i64) ?_; omega) | (simp; omega), by go_num, HD3, M⟩
      · obtain rfl : k = s.size := by omega
        have ht : s.data.toList.take s.size = s.data.toList := List.take_of_length_le (Nat.le_refl _)
        rw [ht] at HD
        have HE := Lib.hid (HY.out HD.out)
        rw [ht]
        go_wp2_with fail
        go_ret2
        exact ⟨_, rfl, by rw [HE.out]; rfl, M.up⟩

end Go.Proofs.YtmbhaoiahlbglaaDoor

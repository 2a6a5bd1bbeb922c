/- Walks: keys read from their texts. -/
import Derived.Test.YtmbhaoiahlbglaaDoorRows
import Derived.Test.YtmbhaoiahlbglaaDoorSl
import Derived.Test.YtmbhaoiahlbglaaDoorK1
import Derived.Test.YtmbhaoiahlbglaaDoorReg2
import Derived.Test.YtmbhaoiahlbglaaDoorShelf
import Derived.StillTailTactics
namespace Go.Proofs.YtmbhaoiahlbglaaDoor
open Go.RowKit
set_option linter.unusedVariables false
set_option linter.unusedSimpArgs false

/-- The value of a digit, or -1. -/
def hv (b : UInt8) : Int := if 48 ≤ b.toNat ∧ b.toNat ≤ 57 then (b.toNat : Int) - 48 else if 97 ≤ b.toNat ∧ b.toNat ≤ 102 then (b.toNat : Int) - 87 else -1
theorem hv_index (b : UInt8) : Lib.indexByte [48, 49, 50, 51, 52, 53, 54, 55, 56, 57, 97, 98, 99, 100, 101, 102] b = hv b := by
  have h : ∀ n, n < 256 → Lib.indexByte [48, 49, 50, 51, 52, 53, 54, 55, 56, 57, 97, 98, 99, 100, 101, 102] (UInt8.ofNat n) = hv (UInt8.ofNat n) := by decide +kernel
  have := h b.toNat b.toNat_lt
  rwa [UInt8.ofNat_toNat] at this
theorem hv_bd (b : UInt8) : -1 ≤ hv b ∧ hv b ≤ 15 := by
  unfold hv
  have := b.toNat_lt
  split
  · omega
  · split <;> omega
/-- Are these bytes digits, all of them? -/
def allHex (l : List UInt8) : Bool := l.all fun b => decide (0 ≤ hv b)

set_option maxHeartbeats 400000 in
theorem l01Hex_yes (b : UInt8) (h : 0 ≤ hv b) (w : World) : Calls Tryd.prog 29 #[.int .u8 (b.toNat : Int)] w fun e w' => e = .returned (.tuple #[.int .u8 (hv b), .bool true]) ∧ w' = w := by
  have hb := byte_bd b
  by_cases h1 : 48 ≤ b.toNat ∧ b.toNat ≤ 57
  · have HE := Lib.hid (show hv b = (b.toNat : Int) - 48 by unfold hv; rw [if_pos h1])
    have g1 : 48 ≤ (b.toNat : Int) := by omega
    have g2 : (b.toNat : Int) ≤ 57 := by omega
    clear h1 h
    go_enter Tryd.func29, Tryd.ntmps29
    go_wp2
    go_ret2
    exact ⟨by rw [HE.out]; rfl, rfl⟩
  · have h2 : 97 ≤ b.toNat ∧ b.toNat ≤ 102 := by
      unfold hv at h
      rw [if_neg h1] at h
      by_cases h2 : 97 ≤ b.toNat ∧ b.toNat ≤ 102
      · exact h2
      · rw [if_neg h2] at h
        omega
    have HE := Lib.hid (show hv b = (b.toNat : Int) - 97 + 10 by unfold hv; rw [if_neg h1, if_pos h2]; omega)
    have g1 : 97 ≤ (b.toNat : Int) := by omega
    have g2 : (b.toNat : Int) ≤ 102 := by omega
    clear h1 h2 h
    go_enter Tryd.func29, Tryd.ntmps29
    go_wp2
    go_ret2
    exact ⟨by rw [HE.out]; rfl, rfl⟩
set_option maxHeartbeats 400000 in
theorem l01Hex_no (b : UInt8) (h : hv b < 0) (w : World) : Calls Tryd.prog 29 #[.int .u8 (b.toNat : Int)] w fun e w' => e = .returned (.tuple #[.int .u8 0, .bool false]) ∧ w' = w := by
  have hb := byte_bd b
  have h1 : ¬ (48 ≤ b.toNat ∧ b.toNat ≤ 57) := fun h1 => by
    unfold hv at h
    rw [if_pos h1] at h
    omega
  have h2 : ¬ (97 ≤ b.toNat ∧ b.toNat ≤ 102) := fun h2 => by
    unfold hv at h
    rw [if_neg h1, if_pos h2] at h
    omega
  go_enter Tryd.func29, Tryd.ntmps29
  go_wp2
  all_goals
    first
    | (exfalso; simp only [decide_eq_true_eq, decide_eq_false_iff_not] at *; omega)
    | (go_ret2
       exact ⟨rfl, rfl⟩)

theorem hexIndex_c (b : UInt8) (w : World) : Calls Tryd.prog 36 #[.string ⟨#[48, 49, 50, 51, 52, 53, 54, 55, 56, 57, 97, 98, 99, 100, 101, 102]⟩, .int .u8 (b.toNat : Int)] w fun e w' => e = .returned (.int .i64 (hv b)) ∧ w' = w := by
  have h := Tryd.strings_IndexByte ⟨#[48, 49, 50, 51, 52, 53, 54, 55, 56, 57, 97, 98, 99, 100, 101, 102]⟩ (b.toNat : Int) w
  have e : ((b.toNat : Int)).toNat.toUInt8 = b := by simp
  rw [e] at h
  have e2 : Lib.indexByte (ByteArray.mk #[48, 49, 50, 51, 52, 53, 54, 55, 56, 57, 97, 98, 99, 100, 101, 102]).data.toList b = hv b := hv_index b
  rw [e2] at h
  exact h

set_option maxHeartbeats 400000 in
theorem isDigits_c (s : ByteArray) (hs : s.size ≤ 1048576) (w : World) : Calls Tryd.prog 35 #[.string s] w fun e w' => e = .returned (.bool (allHex s.data.toList)) ∧ w' = w := by
  have hsz : s.data.toList.length = s.size := rfl
  go_enter Tryd.func35, Tryd.ntmps35
  go_wp2_with fail
  go_loopg [6] s.size (fun n i wr => ∃ k : Nat, k + n = s.size ∧ i = .int .i64 k ∧ Hid (allHex s.data.toList = allHex (s.data.toList.drop k)) ∧ wr = w)
  case atStart => exact ⟨0, by omega, rfl, rfl, rfl⟩
  case round =>
    obtain ⟨k, hk, rfl, he, rfl⟩ := hrel
    by_cases hlt : k < s.size
    · have hd : allHex (s.data.toList.drop k) = (decide (0 ≤ hv s[k]) && allHex (s.data.toList.drop (k + 1))) := by
        rw [List.drop_eq_getElem_cons (show k < s.data.toList.length from hlt)]
        rfl
      have HD := Lib.hid hd
      have HK := Lib.hid hk
      clear hd hk
      by_cases hx : 0 ≤ hv s[k]
      · have g1 : decide (hv s[k] < 0) = false := by simp; omega
        have HX := Lib.hid hx
        clear hx
        go_wp2_with (go_at_call 36; (with_reducible refine (hexIndex_c s[k] _).mono ?_); rintro e w' ⟨rfl, rfl⟩)
        have hk := HK.out
        go_roundg (gk - 1)
        case measure => omega
        case rel => exact ⟨k + 1, by omega, by go_num, Lib.hid (by rw [he.out, HD.out, decide_eq_true HX.out, Bool.true_and]), rfl⟩
      · have g1 : decide (hv s[k] < 0) = true := by simp; omega
        have HC := Lib.hid (show allHex s.data.toList = false by rw [he.out, HD.out, decide_eq_false hx, Bool.false_and])
        clear hx
        go_wp2_with (go_at_call 36; (with_reducible refine (hexIndex_c s[k] _).mono ?_); rintro e w' ⟨rfl, rfl⟩)
        go_ret
        exact ⟨by rw [HC.out]; rfl, rfl⟩
    · obtain rfl : k = s.size := by omega
      have HC := Lib.hid (show allHex s.data.toList = true by rw [he.out, List.drop_of_length_le (by omega)]; rfl)
      clear hk he
      go_wp2
      go_ret
      exact ⟨by rw [HC.out]; rfl, rfl⟩

theorem mixedOrders : Tryd.prog.follows .mixedOrders = true := by kernel_rfl
/-- The key that 64 digits tell. -/
def fullB (l : List UInt8) (j : Nat) : UInt8 := UInt8.ofNat (16 * (hv (bt l (2 * j))).toNat + (hv (bt l (2 * j + 1))).toNat)
def readL (l : List UInt8) : List UInt8 := (List.range 32).map (fullB l)
theorem readL_length (l : List UInt8) : (readL l).length = 32 := by simp [readL]
theorem fullB_int (l : List UInt8) (j : Nat) (h0 : 0 ≤ hv (bt l (2 * j))) (h1 : 0 ≤ hv (bt l (2 * j + 1))) : ((fullB l j).toNat : Int) = 16 * hv (bt l (2 * j)) + hv (bt l (2 * j + 1)) := by
  have b0 := hv_bd (bt l (2 * j))
  have b1 := hv_bd (bt l (2 * j + 1))
  simp only [fullB, UInt8.toNat_ofNat']
  omega
theorem allHex_at (l : List UInt8) (h : allHex l = true) (i : Nat) (hi : i < l.length) : 0 ≤ hv (bt l i) := by
  have := List.all_eq_true.1 h (bt l i) (by rw [bt_eq l i hi]; exact List.getElem_mem hi)
  simpa using this
theorem bt_str (s : ByteArray) (i : Nat) (h : i < s.size) : s[i] = bt s.data.toList i := by
  rw [bt_eq _ _ (show i < s.data.toList.length from h)]
  rfl

end Go.Proofs.YtmbhaoiahlbglaaDoor

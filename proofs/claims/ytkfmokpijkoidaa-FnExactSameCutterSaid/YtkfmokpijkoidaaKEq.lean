/- Walks: two slices of bytes compared. -/
import Derived.Test.YtkfmokpijkoidaaKH
namespace Go.Proofs.Ytkfmokpijkoidaa
open Go.RowKit
set_option linter.unusedVariables false
set_option linter.unusedSimpArgs false

theorem eq_of_take {a b : List UInt8} (k : Nat) (ha : a.length = k) (hb : b.length = k) (h : a.take k = b.take k) : a = b := by
  rw [List.take_of_length_le (by omega), List.take_of_length_le (by omega)] at h
  exact h

set_option maxHeartbeats 800000 in
set_option maxRecDepth 100000 in
theorem l01Bytes_c (va vb : Value) (x y : List UInt8) (w : World) (ha : RdB w va x) (hb : RdB w vb y) :
    Calls Try.prog 85 #[va, vb] w fun e w' => e = .returned (.bool (decide (x = y))) ∧ ∃ m, w' = w.drewN m := by
  obtain ⟨a, ca, rfl, hm, ha⟩ := ha
  obtain ⟨b, cb, rfl, hm2, hb⟩ := hb
  have HA := Lib.hid ha
  have HB := Lib.hid hb
  have hmm : maxLen ≤ 9223372036854775807 := by decide
  clear ha hb
  by_cases hl : x.length = y.length
  · have g1 : ((x.length : Int) != (y.length : Int)) = false := by simp; omega
    have HL := Lib.hid hl
    clear hl
    go_enter Try.func85, Try.ntmps85
    go_wp2_with fail
    go_loopg [5] x.length (fun n i wr => ∃ k : Nat, k + n = x.length ∧ i = .int .i64 k ∧ Hid (x.take k = y.take k) ∧ ∃ m, wr = w.drewN m)
    case atStart => exact ⟨0, by omega, rfl, rfl, 0, rfl⟩
    case round =>
      obtain ⟨k, hk, rfl, he, m, rfl⟩ := hrel
      by_cases hlt : k < x.length
      · have hly := HL.out
        obtain ⟨p, hp, hpb, c1⟩ := HA.out k hlt
        obtain ⟨q, hq, hqb, c2⟩ := HB.out k (by omega)
        have hb1 := byte_bd (bt x k)
        have hb2 := byte_bd (bt y k)
        have hlt2 : k < y.length := by omega
        have HK := Lib.hid hk
        subst hp
        subst hq
        clear hk hpb hqb hly
        by_cases hx : bt x k = bt y k
        · have HE := Lib.hid (show x.take (k + 1) = y.take (k + 1) from take_bt x y k hlt hlt2 he.out hx)
          have g2 : (((bt x k).toNat : Int) != ((bt y k).toNat : Int)) = false := by simp [hx]
          clear hx he
          go_wp2_with fail
          go_quiet (fail)
          go_wp2_with fail
          have hk := HK.out
          go_roundg (gk - 1)
          case measure => omega
          case rel => exact ⟨k + 1, by omega, by go_num, HE, _, rfl⟩
        · have HE := Lib.hid (show decide (x = y) = false from decide_eq_false fun h => hx (by rw [h]))
          have g2 : (((bt x k).toNat : Int) != ((bt y k).toNat : Int)) = true := by
            simp
            exact fun h => hx (UInt8.toNat_inj.1 (by omega))
          clear hx he
          go_wp2_with fail
          go_quiet (fail)
          go_wp2_with fail
          go_ret
          exact ⟨by rw [HE.out]; rfl, _, World.drewN_drewN ..⟩
      · obtain rfl : k = x.length := by omega
        have HE := Lib.hid (show decide (x = y) = true from decide_eq_true (eq_of_take _ rfl HL.out.symm he.out))
        clear hk he
        go_wp2_with fail
        go_ret
        exact ⟨by rw [HE.out]; rfl, _, rfl⟩
  · have g1 : ((x.length : Int) != (y.length : Int)) = true := by simp; omega
    have HE := Lib.hid (show decide (x = y) = false from decide_eq_false fun h => hl (by rw [h]))
    clear hl
    go_enter Try.func85, Try.ntmps85
    go_wp2_with fail
    go_ret
    exact ⟨by rw [HE.out]; rfl, 0, rfl⟩

set_option maxHeartbeats 800000 in
set_option maxRecDepth 100000 in
theorem slEqual_c (va vb : Value) (x y : List UInt8) (w : World) (ha : RdB w va x) (hb : RdB w vb y) :
    Calls Try.prog 92 #[va, vb] w fun e w' => e = .returned (.bool (decide (x = y))) ∧ ∃ m, w' = w.drewN m := by
  obtain ⟨a, ca, rfl, hm, ha⟩ := ha
  obtain ⟨b, cb, rfl, hm2, hb⟩ := hb
  have HA := Lib.hid ha
  have HB := Lib.hid hb
  have hmm : maxLen ≤ 9223372036854775807 := by decide
  clear ha hb
  by_cases hl : x.length = y.length
  · have g1 : ((x.length : Int) != (y.length : Int)) = false := by simp; omega
    have HL := Lib.hid hl
    clear hl
    go_enter Try.func92, Try.ntmps92
    go_wp2_with fail
    go_loopg [13] x.length (fun n i wr => ∃ k : Nat, k + n = x.length ∧ i = .int .i64 k ∧ Hid (x.take k = y.take k) ∧ ∃ m, wr = w.drewN m)
    case atStart => exact ⟨0, by omega, rfl, rfl, 0, rfl⟩
    case round =>
      obtain ⟨k, hk, rfl, he, m, rfl⟩ := hrel
      by_cases hlt : k < x.length
      · have hly := HL.out
        obtain ⟨p, hp, hpb, c1⟩ := HA.out k hlt
        obtain ⟨q, hq, hqb, c2⟩ := HB.out k (by omega)
        have hb1 := byte_bd (bt x k)
        have hb2 := byte_bd (bt y k)
        have hlt2 : k < y.length := by omega
        have HK := Lib.hid hk
        subst hp
        subst hq
        clear hk hpb hqb hly
        by_cases hx : bt x k = bt y k
        · have HE := Lib.hid (show x.take (k + 1) = y.take (k + 1) from take_bt x y k hlt hlt2 he.out hx)
          have g2 : (((bt x k).toNat : Int) != ((bt y k).toNat : Int)) = false := by simp [hx]
          clear hx he
          go_wp2_with fail
          go_quiet (fail)
          go_wp2_with fail
          have hk := HK.out
          go_roundg (gk - 1)
          case measure => omega
          case rel => exact ⟨k + 1, by omega, by go_num, HE, _, rfl⟩
        · have HE := Lib.hid (show decide (x = y) = false from decide_eq_false fun h => hx (by rw [h]))
          have g2 : (((bt x k).toNat : Int) != ((bt y k).toNat : Int)) = true := by
            simp
            exact fun h => hx (UInt8.toNat_inj.1 (by omega))
          clear hx he
          go_wp2_with fail
          go_quiet (fail)
          go_wp2_with fail
          go_ret
          exact ⟨by rw [HE.out]; rfl, _, World.drewN_drewN ..⟩
      · obtain rfl : k = x.length := by omega
        have HE := Lib.hid (show decide (x = y) = true from decide_eq_true (eq_of_take _ rfl HL.out.symm he.out))
        clear hk he
        go_wp2_with fail
        go_ret
        exact ⟨by rw [HE.out]; rfl, _, rfl⟩
  · have g1 : ((x.length : Int) != (y.length : Int)) = true := by simp; omega
    have HE := Lib.hid (show decide (x = y) = false from decide_eq_false fun h => hl (by rw [h]))
    clear hl
    go_enter Try.func92, Try.ntmps92
    go_wp2_with fail
    go_ret
    exact ⟨by rw [HE.out]; rfl, 0, rfl⟩

end Go.Proofs.Ytkfmokpijkoidaa

/- Walks: keys compared, and their common bits. -/
import Derived.Test.YtmbhaoiahlbglaaRows
import Derived.Test.YtmbhaoiahlbglaaK1
import Derived.Test.YtmbhaoiahlbglaaReg
namespace Go.Proofs.Ytmbhaoiahlbglaa
open Go.RowKit
set_option linter.unusedVariables false
set_option linter.unusedSimpArgs false

/-- The order of two bytes: -1, 0 or 1. -/
def cmp3 (x y : UInt8) : Int := if x = y then 0 else if x < y then -1 else 1
/-- The order of two lists of bytes: -1, 0 or 1. -/
def cmpL : List UInt8 → List UInt8 → Int
  | [], [] => 0
  | [], _ :: _ => -1
  | _ :: _, [] => 1
  | x :: xs, y :: ys => if x = y then cmpL xs ys else if x < y then -1 else 1
theorem cmpL_drop (a b : List UInt8) (k : Nat) (ha : k < a.length) (hb : k < b.length) : cmpL (a.drop k) (b.drop k) = if bt a k = bt b k then cmpL (a.drop (k + 1)) (b.drop (k + 1)) else if bt a k < bt b k then -1 else 1 := by
  rw [List.drop_eq_getElem_cons ha, List.drop_eq_getElem_cons hb, cmpL, bt_eq a k ha, bt_eq b k hb]

theorem isNaN_c (x : UInt8) (w : World) : Calls Try.prog 166 #[.int .u8 (x.toNat : Int)] w fun e w' => e = .returned (.bool false) ∧ w' = w := by
  have h : ((x.toNat : Int) != (x.toNat : Int)) = false := by simp
  go_enter Try.func166, Try.ntmps166
  go_wp2
  go_ret
  exact ⟨rfl, rfl⟩

set_option maxHeartbeats 400000 in
theorem cmpCompare_c (x y : UInt8) (w : World) : Calls Try.prog 153 #[.int .u8 (x.toNat : Int), .int .u8 (y.toNat : Int)] w fun e w' => e = .returned (.int .i64 (cmp3 x y)) ∧ w' = w := by
  by_cases h : x = y
  · have g1 : decide (x.toNat < y.toNat) = false := by simp [h]
    have g2 : decide (y.toNat < x.toNat) = false := by simp [h]
    have HE := Lib.hid (show cmp3 x y = 0 by simp [cmp3, h])
    clear h
    go_enter Try.func153, Try.ntmps153
    go_wp2_with (first
      | (go_at_call 166; (with_reducible refine (isNaN_c x _).mono ?_); rintro e w' ⟨rfl, rfl⟩)
      | (go_at_call 166; (with_reducible refine (isNaN_c y _).mono ?_); rintro e w' ⟨rfl, rfl⟩))
    go_ret
    exact ⟨by rw [HE.out]; rfl, rfl⟩
  · by_cases h2 : x < y
    · have g1 : decide (x.toNat < y.toNat) = true := by simpa [UInt8.lt_iff_toNat_lt] using h2
      have HE := Lib.hid (show cmp3 x y = -1 by simp [cmp3, h, h2])
      clear h h2
      go_enter Try.func153, Try.ntmps153
      go_wp2_with (first
        | (go_at_call 166; (with_reducible refine (isNaN_c x _).mono ?_); rintro e w' ⟨rfl, rfl⟩)
        | (go_at_call 166; (with_reducible refine (isNaN_c y _).mono ?_); rintro e w' ⟨rfl, rfl⟩))
      go_ret
      exact ⟨by rw [HE.out]; rfl, rfl⟩
    · have g1 : decide (x.toNat < y.toNat) = false := by simpa [UInt8.lt_iff_toNat_lt] using h2
      have g2 : decide (y.toNat < x.toNat) = true := by
        simp only [UInt8.lt_iff_toNat_lt] at h2
        have : x.toNat ≠ y.toNat := fun e => h (UInt8.toNat_inj.1 e)
        simp
        omega
      have HE := Lib.hid (show cmp3 x y = 1 by simp [cmp3, h, h2])
      clear h h2
      go_enter Try.func153, Try.ntmps153
      go_wp2_with (first
        | (go_at_call 166; (with_reducible refine (isNaN_c x _).mono ?_); rintro e w' ⟨rfl, rfl⟩)
        | (go_at_call 166; (with_reducible refine (isNaN_c y _).mono ?_); rintro e w' ⟨rfl, rfl⟩))
      go_ret
      exact ⟨by rw [HE.out]; rfl, rfl⟩

set_option maxHeartbeats 1000000 in
set_option maxRecDepth 100000 in
theorem slicesCompare_c (g h tg th ca cb : Nat) (a b : List UInt8) (ha : a.length = 32) (hb : b.length = 32) (w : World) (bg : Blk w g tg (bA a)) (bh : Blk w h th (bA b)) :
    Calls Try.prog 126 #[.slice (some ⟨g, 0, none⟩) 32 ca, .slice (some ⟨h, 0, none⟩) 32 cb] w fun e w' => e = .returned (.int .i64 (cmpL a b)) ∧ w' = w := by
  have HL := Lib.hid (And.intro ha hb)
  have BG := Lib.hid (And.intro bg bh)
  clear ha hb bg bh
  go_enter Try.func126, Try.ntmps126
  go_wp2_with fail
  go_loopg [11] 32 (fun n i wr => ∃ k : Nat, k + n = 32 ∧ i = .int .i64 k ∧ Hid (cmpL a b = cmpL (a.drop k) (b.drop k)) ∧ wr = w)
  case atStart => exact ⟨0, by omega, rfl, rfl, rfl⟩
  case round =>
    obtain ⟨k, hk, rfl, he, rfl⟩ := hrel
    obtain ⟨ha, hb⟩ := HL.out
    by_cases hlt : k < 32
    · have c0 := BG.out.1.cell_ (bA_at a k (by omega))
      have c1 := BG.out.2.cell_ (bA_at b k (by omega))
      have hd := Lib.hid (cmpL_drop a b k (by omega) (by omega))
      have HK := Lib.hid hk
      clear ha hb hk
      by_cases hx : bt a k = bt b k
      · have HX := Lib.hid hx
        have HE := Lib.hid (show cmp3 (bt a k) (bt b k) = 0 by simp [cmp3, hx])
        clear hx
        go_wp2_with (go_at_call 153; (with_reducible refine (cmpCompare_c (bt a k) (bt b k) _).mono ?_); rintro e w' ⟨rfl, rfl⟩; rw [HE.out])
        have hk := HK.out
        go_roundg (gk - 1)
        case measure => omega
        case rel => exact ⟨k + 1, by omega, by go_num, Lib.hid (by rw [he.out, hd.out, if_pos HX.out]), rfl⟩
      · have HX := Lib.hid hx
        have HC := Lib.hid (show cmpL a b = if bt a k < bt b k then -1 else 1 by rw [he.out, hd.out, if_neg hx])
        by_cases hy : bt a k < bt b k
        · have HE := Lib.hid (show cmp3 (bt a k) (bt b k) = -1 by simp [cmp3, hx, hy])
          have HC2 := Lib.hid (show cmpL a b = -1 by rw [HC.out, if_pos hy])
          clear hx hy
          go_wp2_with (go_at_call 153; (with_reducible refine (cmpCompare_c (bt a k) (bt b k) _).mono ?_); rintro e w' ⟨rfl, rfl⟩; rw [HE.out])
          go_ret
          exact ⟨by rw [HC2.out]; rfl, rfl⟩
        · have HE := Lib.hid (show cmp3 (bt a k) (bt b k) = 1 by simp [cmp3, hx, hy])
          have HC2 := Lib.hid (show cmpL a b = 1 by rw [HC.out, if_neg hy])
          clear hx hy
          go_wp2_with (go_at_call 153; (with_reducible refine (cmpCompare_c (bt a k) (bt b k) _).mono ?_); rintro e w' ⟨rfl, rfl⟩; rw [HE.out])
          go_ret
          exact ⟨by rw [HC2.out]; rfl, rfl⟩
    · obtain rfl : k = 32 := by omega
      have HC := Lib.hid (show cmpL a b = 0 by rw [he.out, List.drop_of_length_le (by omega), List.drop_of_length_le (by omega)]; rfl)
      clear hk ha hb he
      go_wp2_with fail
      go_ret
      exact ⟨by rw [HC.out]; rfl, rfl⟩

set_option maxHeartbeats 400000 in
theorem compareKeys_c (a b : List UInt8) (ha : a.length = 32) (hb : b.length = 32) (w : World) :
    Calls Try.prog 87 #[.agg (bA a), .agg (bA b)] w fun e w' => e = .returned (.int .i64 (cmpL a b)) ∧ Up w w' := by
  have B := Lib.hid (show Blk ((w.alloc (.cells (bA a) 25)).alloc (.cells (bA b) 25)) w.heap.size 25 (bA a) ∧ Blk ((w.alloc (.cells (bA a) 25)).alloc (.cells (bA b) 25)) (w.heap.size + 1) 25 (bA b) from ⟨(Blk.top rfl).alloc _, Blk.top (by simp)⟩)
  go_enter Try.func87, Try.ntmps87
  go_wp2_with fail
  go_quiet ((go_at_call 126; with_reducible exact Calls.quiet_of_same (slicesCompare_c _ _ _ _ _ _ a b ha hb _ (B.out.1.drewN _) (B.out.2.drewN _))))
  go_wp2_with fail
  go_ret
  exact ⟨rfl, (((Up.refl _).alloc _).alloc _).drewN _⟩

set_option maxHeartbeats 1000000 in
set_option maxRecDepth 100000 in
theorem l01Compare_c (a b : List UInt8) (ha : a.length = 32) (hb : b.length = 32) (w : World) :
    Calls Try.prog 121 #[.agg (bA a), .agg (bA b)] w fun e w' => e = .returned (.int .i64 (cmpL a b)) ∧ Up w w' := by
  have HL := Lib.hid (And.intro ha hb)
  clear ha hb
  go_enter Try.func121, Try.ntmps121
  go_wp2
  go_loopg [5] 32 (fun n i wr => ∃ k : Nat, k + n = 32 ∧ i = .int .i64 k ∧ Hid (cmpL a b = cmpL (a.drop k) (b.drop k)) ∧ Blk wr w.heap.size 25 (bA a) ∧ Blk wr (w.heap.size + 1) 25 (bA b) ∧ Up w wr)
  case atStart => exact ⟨0, by omega, rfl, rfl, (Blk.top rfl).alloc _, Blk.top (by simp), (((Up.refl _).alloc _).alloc _)⟩
  case round =>
    obtain ⟨k, hk, rfl, he, b0, b1, hbel⟩ := hrel
    obtain ⟨ha, hb⟩ := HL.out
    by_cases hlt : k < 32
    · have c0 := b0.cell_ (bA_at a k (by omega))
      have c1 := b1.cell_ (bA_at b k (by omega))
      have BA := Lib.hid (And.intro b0 (And.intro b1 hbel))
      have hd := Lib.hid (cmpL_drop a b k (by omega) (by omega))
      have HK := Lib.hid hk
      clear b0 b1 hbel ha hb hk
      by_cases hx : bt a k = bt b k
      · have hx1 : (((bt a k).toNat : Int) != ((bt b k).toNat : Int)) = false := by simp [hx]
        have HX := Lib.hid hx
        clear hx
        go_wp2
        go_quiet (fail)
        go_wp2
        obtain ⟨b0, b1, hbel⟩ := BA.out
        have hk := HK.out
        go_roundg (gk - 1)
        case measure => omega
        case rel => exact ⟨k + 1, by omega, by go_num, Lib.hid (by rw [he.out, hd.out, if_pos HX.out]), b0.drewN _, b1.drewN _, hbel.drewN _⟩
      · have hx1 : (((bt a k).toNat : Int) != ((bt b k).toNat : Int)) = true := by
          simp only [bne_iff_ne, ne_eq, Int.natCast_inj, UInt8.toNat_inj]
          exact hx
        have HC := Lib.hid (show cmpL a b = if bt a k < bt b k then -1 else 1 by rw [he.out, hd.out, if_neg hx])
        by_cases hy : bt a k < bt b k
        · have hy1 : decide ((bt a k).toNat < (bt b k).toNat) = true := by simpa [UInt8.lt_iff_toNat_lt] using hy
          have HC2 := Lib.hid (show cmpL a b = -1 by rw [HC.out, if_pos hy])
          clear hx hy
          go_wp2
          go_quiet (fail)
          go_wp2
          go_quiet (fail)
          go_wp2
          go_ret
          obtain ⟨b0, b1, hbel⟩ := BA.out
          exact ⟨by rw [HC2.out]; rfl, (hbel.drewN _).drewN _⟩
        · have hy1 : decide ((bt a k).toNat < (bt b k).toNat) = false := by simpa [UInt8.lt_iff_toNat_lt] using hy
          have HC2 := Lib.hid (show cmpL a b = 1 by rw [HC.out, if_neg hy])
          clear hx hy
          go_wp2
          go_quiet (fail)
          go_wp2
          go_quiet (fail)
          go_wp2
          go_ret
          obtain ⟨b0, b1, hbel⟩ := BA.out
          exact ⟨by rw [HC2.out]; rfl, (hbel.drewN _).drewN _⟩
    · obtain rfl : k = 32 := by omega
      have HC := Lib.hid (show cmpL a b = 0 by rw [he.out, List.drop_of_length_le (by omega), List.drop_of_length_le (by omega)]; rfl)
      clear hk ha hb he
      go_wp2
      go_ret
      exact ⟨by rw [HC.out]; rfl, hbel⟩

end Go.Proofs.Ytmbhaoiahlbglaa

/- Walks: keys compared, and their common bits. -/
import Derived.Test.YtmganlabhkogcaaRows
import Derived.Test.YtmganlabhkogcaaK1
import Derived.Test.YtmganlabhkogcaaReg
namespace Go.Proofs.Ytmganlabhkogcaa
open Go.RowKit
set_option linter.unusedVariables false
set_option linter.unusedSimpArgs false

/-- The order of two bytes: -1, 0 or 1. -/
def cmp3 (x y : UInt8) : Int := if x = y then 0 else if x < y then -1 else 1
/-- The order of two lists of bytes: -1, 0 or 1. -/
def cmpL : List UInt8 → List UInt8 → Int
  | [], [] => 0
  | [], _ :: _ => -1
  | _ :: _, [] => 1
  | x :: xs, y :: ys => if x = y then cmpL xs ys else if x < y then -1 else 1
theorem cmpL_drop (a b : List UInt8) (k : Nat) (ha : k < a.length) (hb : k < b.length) : cmpL (a.drop k) (b.drop k) = if bt a k = bt b k then cmpL (a.drop (k + 1)) (b.drop (k + 1)) else if bt a k < bt b k then -1 else 1 := by
  rw [List.drop_eq_getElem_cons ha, List.drop_eq_getElem_cons hb, cmpL, bt_eq a k ha, bt_eq b k hb]

theorem isNaN_c (x : UInt8) (w : World) : Calls Try.prog 82 #[.int .u8 (x.toNat : Int)] w fun e w' => e = .returned (.bool false) ∧ w' = w := by
  have h : ((x.toNat : Int) != (x.toNat : Int)) = false := by simp
  go_enter Try.func82, Try.ntmps82
  go_wp2
  go_ret
  exact ⟨rfl, rfl⟩

set_option maxHeartbeats 400000 in
theorem cmpCompare_c (x y : UInt8) (w : World) : Calls Try.prog 80 #[.int .u8 (x.toNat : Int), .int .u8 (y.toNat : Int)] w fun e w' => e = .returned (.int .i64 (cmp3 x y)) ∧ w' = w := by
  by_cases h : x = y
  · have g1 : decide (x.toNat < y.toNat) = false := by simp [h]
    have g2 : decide (y.toNat < x.toNat) = false := by simp [h]
    have HE := Lib.hid (show cmp3 x y = 0 by simp [cmp3, h])
    clear h
    go_enter Try.func80, Try.ntmps80
    go_wp2_with (first
      | (go_at_call 82; (with_reducible refine (isNaN_c x _).mono ?_); rintro e w' ⟨rfl, rfl⟩)
      | (go_at_call 82; (with_reducible refine (isNaN_c y _).mono ?_); rintro e w' ⟨rfl, rfl⟩))
    go_ret
    exact ⟨by rw [HE.out]; rfl, rfl⟩
  · by_cases h2 : x < y
    · have g1 : decide (x.toNat < y.toNat) = true := by simpa [UInt8.lt_iff_toNat_lt] using h2
      have HE := Lib.hid (show cmp3 x y = -1 by simp [cmp3, h, h2])
      clear h h2
      go_enter Try.func80, Try.ntmps80
      go_wp2_with (first
        | (go_at_call 82; (with_reducible refine (isNaN_c x _).mono ?_); rintro e w' ⟨rfl, rfl⟩)
        | (go_at_call 82; (with_reducible refine (isNaN_c y _).mono ?_); rintro e w' ⟨rfl, rfl⟩))
      go_ret
      exact ⟨by rw [HE.out]; rfl, rfl⟩
    · have g1 : decide (x.toNat < y.toNat) = false := by simpa [UInt8.lt_iff_toNat_lt] using h2
      have g2 : decide (y.toNat < x.toNat) = true := by
        simp only [UInt8.lt_iff_toNat_lt] at h2
        have : x.toNat ≠ y.toNat := fun e => h (UInt8.toNat_inj.1 e)
        simp
        omega
      have HE := Lib.hid (show cmp3 x y = 1 by simp [cmp3, h, h2])
      clear h h2
      go_enter Try.func80, Try.ntmps80
      go_wp2_with (first
        | (go_at_call 82; (with_reducible refine (isNaN_c x _).mono ?_); rintro e w' ⟨rfl, rfl⟩)
        | (go_at_call 82; (with_reducible refine (isNaN_c y _).mono ?_); rintro e w' ⟨rfl, rfl⟩))
      go_ret
      exact ⟨by rw [HE.out]; rfl, rfl⟩

set_option maxHeartbeats 1000000 in
set_option maxRecDepth 100000 in
theorem slicesCompare_c (g h tg th ca cb : Nat) (a b : List UInt8) (ha : a.length = 32) (hb : b.length = 32) (w : World) (bg : Blk w g tg (bA a)) (bh : Blk w h th (bA b)) :
    Calls Try.prog 75 #[.slice (some ⟨g, 0, none⟩) 32 ca, .slice (some ⟨h, 0, none⟩) 32 cb] w fun e w' => e = .returned (.int .i64 (cmpL a b)) ∧ w' = w := by
  have HL := Lib.hid (And.intro ha hb)
  have BG := Lib.hid (And.intro bg bh)
  clear ha hb bg bh
  go_enter Try.func75, Try.ntmps75
  go_wp2_with fail
  go_loopg [11] 32 (fun n i wr => ∃ k : Nat, k + n = 32 ∧ i = .int .i64 k ∧ Hid (cmpL a b = cmpL (a.drop k) (b.drop k)) ∧ wr = w)
  case atStart => exact ⟨0, by omega, rfl, rfl, rfl⟩
  case round =>
    obtain ⟨k, hk, rfl, he, rfl⟩ := hrel
    obtain ⟨ha, hb⟩ := HL.out
    by_cases hlt : k < 32
    · have c0 := BG.out.1.cell_ (bA_at a k (by omega))
      have c1 := BG.out.2.cell_ (bA_at b k (by omega))
      have hd := Lib.hid (cmpL_drop a b k (by omega) (by omega))
      have HK := Lib.hid hk
      clear ha hb hk
      by_cases hx : bt a k = bt b k
      · have HX := Lib.hid hx
        have HE := Lib.hid (show cmp3 (bt a k) (bt b k) = 0 by simp [cmp3, hx])
        clear hx
        go_wp2_with (go_at_call 80; (with_reducible refine (cmpCompare_c (bt a k) (bt b k) _).mono ?_); rintro e w' ⟨rfl, rfl⟩; rw [HE.out])
        have hk := HK.out
        go_roundg (gk - 1)
        case measure => omega
        case rel => exact ⟨k + 1, by omega, by go_num, Lib.hid (by rw [he.out, hd.out, if_pos HX.out]), rfl⟩
      · have HX := Lib.hid hx
        have HC := Lib.hid (show cmpL a b = if bt a k < bt b k then -1 else 1 by rw [he.out, hd.out, if_neg hx])
        by_cases hy : bt a k < bt b k
        · have HE := Lib.hid (show cmp3 (bt a k) (bt b k) = -1 by simp [cmp3, hx, hy])
          have HC2 := Lib.hid (show cmpL a b = -1 by rw [HC.out, if_pos hy])
          clear hx hy
          go_wp2_with (go_at_call 80; (with_reducible refine (cmpCompare_c (bt a k) (bt b k) _).mono ?_); rintro e w' ⟨rfl, rfl⟩; rw [HE.out])
          go_ret
          exact ⟨by rw [HC2.out]; rfl, rfl⟩
        · have HE := Lib.hid (show cmp3 (bt a k) (bt b k) = 1 by simp [cmp3, hx, hy])
          have HC2 := Lib.hid (show cmpL a b = 1 by rw [HC.out, if_neg hy])
          clear hx hy
          go_wp2_with (go_at_call 80; (with_reducible refine (cmpCompare_c (bt a k) (bt b k) _).mono ?_); rintro e w' ⟨rfl, rfl⟩; rw [HE.out])
          go_ret
          exact ⟨by rw [HC2.out]; rfl, rfl⟩
    · obtain rfl : k = 32 := by omega
      have HC := Lib.hid (show cmpL a b = 0 by rw [he.out, List.drop_of_length_le (by omega), List.drop_of_length_le (by omega)]; rfl)
      clear hk ha hb he
      go_wp2_with fail
      go_ret
      exact ⟨by rw [HC.out]; rfl, rfl⟩

set_option maxHeartbeats 400000 in
theorem compareKeys_c (a b : List UInt8) (ha : a.length = 32) (hb : b.length = 32) (w : World) :
    Calls Try.prog 59 #[.agg (bA a), .agg (bA b)] w fun e w' => e = .returned (.int .i64 (cmpL a b)) ∧ Up w w' := by
  have B := Lib.hid (show Blk ((w.alloc (.cells (bA a) 38)).alloc (.cells (bA b) 38)) w.heap.size 38 (bA a) ∧ Blk ((w.alloc (.cells (bA a) 38)).alloc (.cells (bA b) 38)) (w.heap.size + 1) 38 (bA b) from ⟨(Blk.top rfl).alloc _, Blk.top (by simp)⟩)
  go_enter Try.func59, Try.ntmps59
  go_wp2_with fail
  go_quiet ((go_at_call 75; with_reducible exact Calls.quiet_of_same (slicesCompare_c _ _ _ _ _ _ a b ha hb _ (B.out.1.drewN _) (B.out.2.drewN _))))
  go_wp2_with fail
  go_ret
  exact ⟨rfl, (((Up.refl _).alloc _).alloc _).drewN _⟩

set_option maxHeartbeats 1000000 in
set_option maxRecDepth 100000 in
theorem l01Compare_c (a b : List UInt8) (ha : a.length = 32) (hb : b.length = 32) (w : World) :
    Calls Try.prog 58 #[.agg (bA a), .agg (bA b)] w fun e w' => e = .returned (.int .i64 (cmpL a b)) ∧ Up w w' := by
  have HL := Lib.hid (And.intro ha hb)
  clear ha hb
  go_enter Try.func58, Try.ntmps58
  go_wp2
  go_loopg [5] 32 (fun n i wr => ∃ k : Nat, k + n = 32 ∧ i = .int .i64 k ∧ Hid (cmpL a b = cmpL (a.drop k) (b.drop k)) ∧ Blk wr w.heap.size 38 (bA a) ∧ Blk wr (w.heap.size + 1) 38 (bA b) ∧ Up w wr)
  case atStart => exact ⟨0, by omega, rfl, rfl, (Blk.top rfl).alloc _, Blk.top (by simp), (((Up.refl _).alloc _).alloc _)⟩
  case round =>
    obtain ⟨k, hk, rfl, he, b0, b1, hbel⟩ := hrel
    obtain ⟨ha, hb⟩ := HL.out
    by_cases hlt : k < 32
    · have c0 := b0.cell_ (bA_at a k (by omega))
      have c1 := b1.cell_ (bA_at b k (by omega))
      have BA := Lib.hid (And.intro b0 (And.intro b1 hbel))
      have hd := Lib.hid (cmpL_drop a b k (by omega) (by omega))
      have HK := Lib.hid hk
      clear b0 b1 hbel ha hb hk
      by_cases hx : bt a k = bt b k
      · have hx1 : (((bt a k).toNat : Int) != ((bt b k).toNat : Int)) = false := by simp [hx]
        have HX := Lib.hid hx
        clear hx
        go_wp2
        go_quiet (fail)
        go_wp2
        obtain ⟨b0, b1, hbel⟩ := BA.out
        have hk := HK.out
        go_roundg (gk - 1)
        case measure => omega
        case rel => exact ⟨k + 1, by omega, by go_num, Lib.hid (by rw [he.out, hd.out, if_pos HX.out]), b0.drewN _, b1.drewN _, hbel.drewN _⟩
      · have hx1 : (((bt a k).toNat : Int) != ((bt b k).toNat : Int)) = true := by
          simp only [bne_iff_ne, ne_eq, Int.natCast_inj, UInt8.toNat_inj]
          exact hx
        have HC := Lib.hid (show cmpL a b = if bt a k < bt b k then -1 else 1 by rw [he.out, hd.out, if_neg hx])
        by_cases hy : bt a k < bt b k
        · have hy1 : decide ((bt a k).toNat < (bt b k).toNat) = true := by simpa [UInt8.lt_iff_toNat_lt] using hy
          have HC2 := Lib.hid (show cmpL a b = -1 by rw [HC.out, if_pos hy])
          clear hx hy
          go_wp2
          go_quiet (fail)
          go_wp2
          go_quiet (fail)
          go_wp2
          go_ret
          obtain ⟨b0, b1, hbel⟩ := BA.out
          exact ⟨by rw [HC2.out]; rfl, (hbel.drewN _).drewN _⟩
        · have hy1 : decide ((bt a k).toNat < (bt b k).toNat) = false := by simpa [UInt8.lt_iff_toNat_lt] using hy
          have HC2 := Lib.hid (show cmpL a b = 1 by rw [HC.out, if_neg hy])
          clear hx hy
          go_wp2
          go_quiet (fail)
          go_wp2
          go_quiet (fail)
          go_wp2
          go_ret
          obtain ⟨b0, b1, hbel⟩ := BA.out
          exact ⟨by rw [HC2.out]; rfl, (hbel.drewN _).drewN _⟩
    · obtain rfl : k = 32 := by omega
      have HC := Lib.hid (show cmpL a b = 0 by rw [he.out, List.drop_of_length_le (by omega), List.drop_of_length_le (by omega)]; rfl)
      clear hk ha hb he
      go_wp2
      go_ret
      exact ⟨by rw [HC.out]; rfl, hbel⟩

set_option maxHeartbeats 400000 in
theorem specCompareKeys_c (a b : List UInt8) (ha : a.length = 32) (hb : b.length = 32) (w : World) :
    Calls Try.prog 37 #[.agg (bA a), .agg (bA b)] w fun e w' => e = .returned (.int .i64 (cmpL a b)) ∧ Up w w' := by
  have HSa := Lib.hid (show (Try.prog.info? 38).map (·.size) = some (bA a).size by rw [bA_size, ha]; exact info_key)
  have HSb := Lib.hid (show (Try.prog.info? 38).map (·.size) = some (bA b).size by rw [bA_size, hb]; exact info_key)
  go_enter Try.func37, Try.ntmps37
  go_wp2_with (first
    | (refine wpList_load_row rfl 38 (.tmp 2) rfl _ rfl 38 (bA a) (0, 0) _ ((Blk.top rfl).alloc _) Try.underlying38 rfl (HSa.out) ?_)
    | (refine wpList_load_row rfl 38 (.tmp 3) rfl _ rfl 38 (bA b) (0, 0) _ ((Blk.top (by simp) : Blk _ (w.heap.size + 1) _ _)) Try.underlying38 rfl (HSb.out) ?_)
    | (go_at_call 58; (with_reducible refine (l01Compare_c a b ha hb _).mono ?_); rintro e w' ⟨rfl, hb1⟩))
  go_ret
  exact ⟨rfl, (((Up.refl _).alloc _).alloc _).trans hb1⟩

set_option maxHeartbeats 400000 in
theorem implCompareKeys_c (a b : List UInt8) (ha : a.length = 32) (hb : b.length = 32) (w : World) :
    Calls Try.prog 38 #[.agg (bA a), .agg (bA b)] w fun e w' => e = .returned (.int .i64 (cmpL a b)) ∧ Up w w' := by
  have HSa := Lib.hid (show (Try.prog.info? 38).map (·.size) = some (bA a).size by rw [bA_size, ha]; exact info_key)
  have HSb := Lib.hid (show (Try.prog.info? 38).map (·.size) = some (bA b).size by rw [bA_size, hb]; exact info_key)
  go_enter Try.func38, Try.ntmps38
  go_wp2_with (first
    | (refine wpList_load_row rfl 38 (.tmp 2) rfl _ rfl 38 (bA a) (0, 0) _ ((Blk.top rfl).alloc _) Try.underlying38 rfl (HSa.out) ?_)
    | (refine wpList_load_row rfl 38 (.tmp 3) rfl _ rfl 38 (bA b) (0, 0) _ ((Blk.top (by simp) : Blk _ (w.heap.size + 1) _ _)) Try.underlying38 rfl (HSb.out) ?_)
    | (go_at_call 59; (with_reducible refine (compareKeys_c a b ha hb _).mono ?_); rintro e w' ⟨rfl, hb1⟩))
  go_ret
  exact ⟨rfl, (((Up.refl _).alloc _).alloc _).trans hb1⟩

theorem info_arr32 : (Try.prog.info? 36).map (·.size) = some 32 := by kernel_rfl
theorem mixedOrders : Try.prog.follows .mixedOrders = true := by kernel_rfl
set_option maxHeartbeats 800000 in
set_option maxRecDepth 100000 in
theorem lawCompareKeys_c (a b : List UInt8) (ha : a.length = 32) (hb : b.length = 32) (w : World) :
    Calls Try.prog 12 #[.agg (bA a), .agg (bA b)] w fun e w' => e = .returned (.bool true) ∧ Up w w' := by
  have HSa := Lib.hid (show (Try.prog.info? 36).map (·.size) = some (bA a).size by rw [bA_size, ha]; exact info_arr32)
  have HSb := Lib.hid (show (Try.prog.info? 36).map (·.size) = some (bA b).size by rw [bA_size, hb]; exact info_arr32)
  have HL := Lib.hid (And.intro ha hb)
  clear ha hb
  go_enter Try.func12, Try.ntmps12
  go_upto_region 1 with fail
  go_cut [5] (fun s5 wx => s5 = .int .i64 (cmpL a b) ∧ Blk wx w.heap.size 36 (bA a) ∧ Blk wx (w.heap.size + 1) 36 (bA b) ∧ Up w wx)
  case first =>
    refine region_mono (m := 5) mixedOrders (by kernel_rfl) (by kernel_rfl)
      (fun | 0 => fun v _ => v = .agg (bA a) | 1 => fun v _ => v = .agg (bA a) | 2 => fun v _ => v = .agg (bA b) | 3 => fun v _ => v = .agg (bA b) | 4 => fun v _ => v = .int .i64 (cmpL a b) | _ => fun _ _ => True)
      (fun wx => Blk wx w.heap.size 36 (bA a) ∧ Blk wx (w.heap.size + 1) 36 (bA b) ∧ Up w wx) ?_ ?_ ?_ ?_ ?_
    · intro j hj v w1 w2 hb h
      match j, hj with
      | 0, _ => exact h
      | 1, _ => exact h
      | 2, _ => exact h
      | 3, _ => exact h
      | 4, _ => exact h
    · rintro w1 w2 hb ⟨g1, g2, g3⟩
      exact ⟨g1.up hb, g2.up hb, g3.up hb⟩
    · exact ⟨((Blk.top rfl).alloc _).drew, (Blk.top (by simp)).drew, (((Up.refl _).alloc _).alloc _).drew⟩
    · rintro i o hi ho av wv fr ⟨g1, g2, g3⟩ dep
      match i, hi with
      | 0, _ =>
        obtain rfl := Option.some.inj ho
        exact st_load_row rfl (fr.eval rfl) g1 Try.underlying36 rfl HSa.out rfl
      | 1, _ =>
        obtain rfl := Option.some.inj ho
        have d0 := dep ⟨0, .data⟩ (by simp) rfl
        exact st_call1 rfl (fun _ _ => by kernel_rfl) d0 (toKey_c a HL.out.1 _) (fun e w' ⟨he, hb⟩ => ⟨_, he, hb, rfl⟩)
      | 2, _ =>
        obtain rfl := Option.some.inj ho
        exact st_load_row rfl (fr.eval rfl) g2 Try.underlying36 rfl HSb.out rfl
      | 3, _ =>
        obtain rfl := Option.some.inj ho
        have d0 := dep ⟨2, .data⟩ (by simp) rfl
        exact st_call1 rfl (fun _ _ => by kernel_rfl) d0 (toKey_c b HL.out.2 _) (fun e w' ⟨he, hb⟩ => ⟨_, he, hb, rfl⟩)
      | 4, _ =>
        obtain rfl := Option.some.inj ho
        have d0 := dep ⟨1, .data⟩ (by simp) rfl
        have d1 := dep ⟨3, .data⟩ (by simp) rfl
        exact st_call2 rfl (fun _ _ => by kernel_rfl) d0 d1 (specCompareKeys_c a b HL.out.1 HL.out.2 _) (fun e w' ⟨he, hb⟩ => ⟨_, he, hb, rfl⟩)
    · rintro vs wv ⟨g1, g2, g3⟩ hf
      have f0 : vs 0 = .agg (bA a) := hf 0 (by omega)
      have f1 : vs 1 = .agg (bA a) := hf 1 (by omega)
      have f2 : vs 2 = .agg (bA b) := hf 2 (by omega)
      have f3 : vs 3 = .agg (bA b) := hf 3 (by omega)
      have f4 : vs 4 = .int .i64 (cmpL a b) := hf 4 (by omega)
      simp only [putAll, Act.put, List.getElem?_toArray, List.getElem?_cons_zero, List.getElem?_cons_succ, Option.bind_some, List.setIfInBounds_toArray, List.set_cons_zero, List.set_cons_succ, f4]
      go_wp2_with fail
      go_meet
      exact ⟨rfl, g1, g2, g3⟩
  case rest =>
    obtain ⟨rfl, b0, b1, hbel⟩ := hcut
    have BB := Lib.hid (And.intro b0 (And.intro b1 hbel))
    clear b0 b1 hbel
    go_upto_region 2 with fail
    go_cut [6] (fun s6 wx => s6 = .int .i64 (cmpL a b) ∧ Up w wx)
    case first =>
      obtain ⟨b0, b1, hbel⟩ := BB.out
      refine region_mono (m := 5) mixedOrders (by kernel_rfl) (by kernel_rfl)
        (fun | 0 => fun v _ => v = .agg (bA a) | 1 => fun v _ => v = .agg (bA a) | 2 => fun v _ => v = .agg (bA b) | 3 => fun v _ => v = .agg (bA b) | 4 => fun v _ => v = .int .i64 (cmpL a b) | _ => fun _ _ => True)
        (fun wx => Blk wx w.heap.size 36 (bA a) ∧ Blk wx (w.heap.size + 1) 36 (bA b) ∧ Up w wx) ?_ ?_ ?_ ?_ ?_
      · intro j hj v w1 w2 hb h
        match j, hj with
        | 0, _ => exact h
        | 1, _ => exact h
        | 2, _ => exact h
        | 3, _ => exact h
        | 4, _ => exact h
      · rintro w1 w2 hb ⟨g1, g2, g3⟩
        exact ⟨g1.up hb, g2.up hb, g3.up hb⟩
      · exact ⟨b0.drew, b1.drew, hbel.drew⟩
      · rintro i o hi ho av wv fr ⟨g1, g2, g3⟩ dep
        match i, hi with
        | 0, _ =>
          obtain rfl := Option.some.inj ho
          exact st_load_row rfl (fr.eval rfl) g1 Try.underlying36 rfl HSa.out rfl
        | 1, _ =>
          obtain rfl := Option.some.inj ho
          have d0 := dep ⟨0, .data⟩ (by simp) rfl
          exact st_call1 rfl (fun _ _ => by kernel_rfl) d0 (toKey_c a HL.out.1 _) (fun e w' ⟨he, hb⟩ => ⟨_, he, hb, rfl⟩)
        | 2, _ =>
          obtain rfl := Option.some.inj ho
          exact st_load_row rfl (fr.eval rfl) g2 Try.underlying36 rfl HSb.out rfl
        | 3, _ =>
          obtain rfl := Option.some.inj ho
          have d0 := dep ⟨2, .data⟩ (by simp) rfl
          exact st_call1 rfl (fun _ _ => by kernel_rfl) d0 (toKey_c b HL.out.2 _) (fun e w' ⟨he, hb⟩ => ⟨_, he, hb, rfl⟩)
        | 4, _ =>
          obtain rfl := Option.some.inj ho
          have d0 := dep ⟨1, .data⟩ (by simp) rfl
          have d1 := dep ⟨3, .data⟩ (by simp) rfl
          exact st_call2 rfl (fun _ _ => by kernel_rfl) d0 d1 (implCompareKeys_c a b HL.out.1 HL.out.2 _) (fun e w' ⟨he, hb⟩ => ⟨_, he, hb, rfl⟩)
      · rintro vs wv ⟨g1, g2, g3⟩ hf
        have f0 : vs 0 = .agg (bA a) := hf 0 (by omega)
        have f1 : vs 1 = .agg (bA a) := hf 1 (by omega)
        have f2 : vs 2 = .agg (bA b) := hf 2 (by omega)
        have f3 : vs 3 = .agg (bA b) := hf 3 (by omega)
        have f4 : vs 4 = .int .i64 (cmpL a b) := hf 4 (by omega)
        simp only [putAll, Act.put, List.getElem?_toArray, List.getElem?_cons_zero, List.getElem?_cons_succ, Option.bind_some, List.setIfInBounds_toArray, List.set_cons_zero, List.set_cons_succ, f4]
        go_wp2_with fail
        go_meet
        exact ⟨rfl, g3⟩
    case rest =>
      obtain ⟨rfl, hbel⟩ := hcut
      go_wp2
      go_ret
      exact ⟨rfl, hbel⟩

end Go.Proofs.Ytmganlabhkogcaa

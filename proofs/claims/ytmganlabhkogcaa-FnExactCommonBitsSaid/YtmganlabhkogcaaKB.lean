/- Walks: the bits that two keys have in common. -/
import Derived.Test.YtmganlabhkogcaaKC
import Derived.Test.YtmganlabhkogcaaShelf
namespace Go.Proofs.Ytmganlabhkogcaa
open Go.RowKit
set_option linter.unusedVariables false
set_option linter.unusedSimpArgs false

theorem ret_int {k : IntKind} {a b : Int} (h : a = b) : Ending.returned (.int k a) = .returned (.int k b) := by rw [h]
/-- The i-th bit of some bytes, the highest one of each byte first. -/
def bitAt (x : List UInt8) (i : Nat) : Bool := (bt x (i / 8)).toNat / 2 ^ (7 - i % 8) % 2 == 1
theorem and_1 (m : Nat) (h : m < 256) : bits .and .u8 (m : Int) 1 = ((m % 2 : Nat) : Int) := by
  show IntKind.u8.wrap ((BitVec.ofInt 8 (m : Int) &&& BitVec.ofInt 8 1).toNat : Int) = _
  rw [BitVec.ofInt_natCast, BitVec.toNat_and, BitVec.toNat_ofNat, Nat.mod_eq_of_lt h]
  have e : (BitVec.ofInt 8 1).toNat = 2 ^ 1 - 1 := by decide
  rw [e, Nat.and_two_pow_sub_one_eq_mod]
  simp only [IntKind.wrap, IntKind.signed, IntKind.bits]
  simp
  omega
theorem bitAt_int (x : List UInt8) (k : Nat) : (bits .and .u8 (((bt x (k / 8)).toNat : Int) / 2 ^ (7 - k % 8)) 1 == 1) = bitAt x k := by
  have h : (((bt x (k / 8)).toNat : Int) / 2 ^ (7 - k % 8)) = (((bt x (k / 8)).toNat / 2 ^ (7 - k % 8) : Nat) : Int) := by simp
  have h2 : (bt x (k / 8)).toNat / 2 ^ (7 - k % 8) < 256 := Nat.lt_of_le_of_lt (Nat.div_le_self _ _) (bt x (k / 8)).toNat_lt
  rw [h, and_1 _ h2]
  unfold bitAt
  generalize (bt x (k / 8)).toNat / 2 ^ (7 - k % 8) = m
  rw [Bool.eq_iff_iff]
  simp only [beq_iff_eq]
  omega
/-- The first of n bits from i on that is 1, or the end. -/
def leadFrom (x : List UInt8) : Nat → Nat → Nat
  | 0, i => i
  | n + 1, i => if bitAt x i then i else leadFrom x n (i + 1)
theorem leadFrom_hit (x : List UInt8) (n i : Nat) (h : bitAt x i = true) : leadFrom x (n + 1) i = i := by simp [leadFrom, h]
theorem leadFrom_next (x : List UInt8) (n i : Nat) (h : bitAt x i = false) : leadFrom x (n + 1) i = leadFrom x n (i + 1) := by simp [leadFrom, h]
theorem leadFrom_skip (x : List UInt8) : ∀ (m n i : Nat), (∀ j, j < m → bitAt x (i + j) = false) → leadFrom x (n + m) i = leadFrom x n (i + m)
  | 0, n, i, _ => rfl
  | m + 1, n, i, h => by
    rw [← Nat.add_assoc, leadFrom_next x _ i (by simpa using h 0 (by omega)), leadFrom_skip x m n (i + 1) (fun j hj => by rw [show i + 1 + j = i + (j + 1) by omega]; exact h (j + 1) (by omega))]
    congr 1
    omega
theorem lz_bits : ∀ c, c < 256 → c ≠ 0 → (8 - Lib.bitLen c < 8 ∧ 8 - Lib.bitLen c + Lib.bitLen c = 8 ∧ c / 2 ^ (7 - (8 - Lib.bitLen c)) % 2 = 1 ∧ ∀ j, j < 8 - Lib.bitLen c → c / 2 ^ (7 - j) % 2 = 0) := by decide +kernel
/-- What a byte tells that is not 0, all bits ahead of it being 0. -/
theorem leadFrom_byte (x : List UInt8) (k n : Nat) (hc : (bt x k).toNat ≠ 0) : leadFrom x (n + 8) (8 * k) = 8 * k + (8 - Lib.bitLen (bt x k).toNat) := by
  obtain ⟨h1, h2, h3, h4⟩ := lz_bits (bt x k).toNat (bt x k).toNat_lt hc
  generalize 8 - Lib.bitLen (bt x k).toNat = z at h1 h3 h4 ⊢
  have e : n + 8 = (n + (8 - z)) + z := by omega
  rw [e, leadFrom_skip x z _ _ (fun j hj => by
    unfold bitAt
    rw [show (8 * k + j) / 8 = k by omega, show (8 * k + j) % 8 = j by omega, h4 j hj]
    rfl), show n + (8 - z) = (n + (7 - z)) + 1 by omega]
  refine leadFrom_hit x _ _ ?_
  unfold bitAt
  rw [show (8 * k + z) / 8 = k by omega, show (8 * k + z) % 8 = z by omega, h3]
  rfl
theorem leadFrom_zero (x : List UInt8) (k n : Nat) (hc : (bt x k).toNat = 0) : leadFrom x (n + 8) (8 * k) = leadFrom x n (8 * (k + 1)) := by
  rw [leadFrom_skip x 8 n (8 * k) (fun j hj => by
    unfold bitAt
    rw [show (8 * k + j) / 8 = k by omega, hc]
    simp), show 8 * (k + 1) = 8 * k + 8 by omega]

set_option maxHeartbeats 1000000 in
set_option maxRecDepth 100000 in
theorem implCommonBits_c (a b : List UInt8) (ha : a.length = 32) (hb : b.length = 32) (w : World) :
    Calls Try.prog 34 #[.agg (bA a), .agg (bA b)] w fun e w' => e = .returned (.int .i64 (leadFrom (xorL a b) 256 0)) ∧ Up w w' := by
  have HSa := Lib.hid (show (Try.prog.info? 38).map (·.size) = some (bA a).size by rw [bA_size, ha]; exact info_key)
  have HSb := Lib.hid (show (Try.prog.info? 38).map (·.size) = some (bA b).size by rw [bA_size, hb]; exact info_key)
  have HLx := Lib.hid (show (xorL a b).length = 32 by rw [xorL_length a b (by omega), ha])
  go_enter Try.func34, Try.ntmps34
  go_wp2_with (first
    | (refine wpList_load_row rfl 38 (.tmp 2) rfl _ rfl 38 (bA a) (0, 0) _ ((Blk.top rfl).alloc _) Try.underlying38 rfl (HSa.out) ?_)
    | (refine wpList_load_row rfl 38 (.tmp 3) rfl _ rfl 38 (bA b) (0, 0) _ ((Blk.top (by simp) : Blk _ (w.heap.size + 1) _ _)) Try.underlying38 rfl (HSb.out) ?_)
    | (go_at_call 27; (with_reducible refine (implXorKeys_c a b ha hb _).mono ?_); rintro e w' ⟨rfl, hb1⟩))
  clear ha hb
  have hu := (((Up.refl w).alloc (.cells (bA a) 38)).alloc (.cells (bA b) 38)).trans hb1
  clear hb1
  go_loopg [10] 32 (fun n i wr => ∃ k : Nat, k + n = 32 ∧ i = .int .i64 k ∧ Hid (leadFrom (xorL a b) 256 0 = leadFrom (xorL a b) (8 * n) (8 * k)) ∧ Up w wr)
  case atStart => exact ⟨0, by omega, rfl, rfl, hu⟩
  case round =>
    clear hu
    obtain ⟨k, hk, rfl, he, hbel⟩ := hrel
    by_cases hlt : k < 32
    · have hx := HLx.out
      have c1 := run_index_arr (P := Try.prog) Try.underlying38 Try.underlying5 info_u8 hlt (bA_at (xorL a b) k (by omega))
      clear hx
      obtain ⟨n, rfl⟩ : ∃ n, gk = n + 1 := ⟨gk - 1, by omega⟩
      have HK := Lib.hid hk
      clear hk
      by_cases hz : (bt (xorL a b) k).toNat = 0
      · have g1 : (((bt (xorL a b) k).toNat : Int) != 0) = false := by simp [hz]
        have HZ := Lib.hid (leadFrom_zero (xorL a b) k (8 * n) hz)
        clear hz
        go_wp2
        have hk := HK.out
        go_roundg n
        case measure => omega
        case rel => exact ⟨k + 1, by omega, by go_num, Lib.hid (by rw [he.out, show 8 * (n + 1) = 8 * n + 8 by omega, HZ.out]), hbel⟩
      · have g1 : (((bt (xorL a b) k).toNat : Int) != 0) = true := by simp [hz]
        have h2 := lz_bits (bt (xorL a b) k).toNat (bt (xorL a b) k).toNat_lt hz
        have HZ := Lib.hid (leadFrom_byte (xorL a b) k (8 * n) hz)
        have H2 := Lib.hid h2
        have hb := byte_bd (bt (xorL a b) k)
        clear hz h2
        go_wp2_with (go_at_call 54; (with_reducible refine (Try.bits_LeadingZeros8 _ _ hb.1 hb.2).mono ?_); rintro e w' ⟨rfl, rfl⟩)
        go_ret
        refine ⟨?_, hbel⟩
        have e1 : leadFrom (xorL a b) 256 0 = 8 * k + (8 - Lib.bitLen (bt (xorL a b) k).toNat) := by rw [he.out, show 8 * (n + 1) = 8 * n + 8 by omega, HZ.out]
        have e2 := H2.out.2.1
        have hk := HK.out
        rw [e1]
        refine ret_int ?_
        unfold wrap64
        omega
    · obtain rfl : k = 32 := by omega
      obtain rfl : gk = 0 := by omega
      have HE := Lib.hid (show leadFrom (xorL a b) 256 0 = 256 from he.out)
      clear hk he
      go_wp2
      go_ret
      exact ⟨by rw [HE.out]; rfl, hbel⟩

set_option maxHeartbeats 1000000 in
set_option maxRecDepth 100000 in
theorem specCommonBits_c (a b : List UInt8) (ha : a.length = 32) (hb : b.length = 32) (w : World) :
    Calls Try.prog 33 #[.agg (bA a), .agg (bA b)] w fun e w' => e = .returned (.int .i64 (leadFrom (xorL a b) 256 0)) ∧ Up w w' := by
  have HSa := Lib.hid (show (Try.prog.info? 38).map (·.size) = some (bA a).size by rw [bA_size, ha]; exact info_key)
  have HSb := Lib.hid (show (Try.prog.info? 38).map (·.size) = some (bA b).size by rw [bA_size, hb]; exact info_key)
  have HSx := Lib.hid (show (Try.prog.info? 38).map (·.size) = some (bA (xorL a b)).size by rw [bA_size, xorL_length _ _ (by omega), ha]; exact info_key)
  have HZ := Lib.hid (show (bA zero32).size = (bA (xorL a b)).size by rw [bA_size, bA_size, xorL_length _ _ (by omega), ha]; rfl)
  have HLx := Lib.hid (show (xorL a b).length = 32 by rw [xorL_length a b (by omega), ha])
  go_enter Try.func33, Try.ntmps33
  go_wp2_with (first
    | (refine wpList_load_row rfl 38 (.tmp 2) rfl _ rfl 38 (bA a) (0, 0) _ ((Blk.top rfl).alloc _) Try.underlying38 rfl (HSa.out) ?_)
    | (refine wpList_load_row rfl 38 (.tmp 3) rfl _ rfl 38 (bA b) (0, 0) _ ((Blk.top (by simp) : Blk _ (w.heap.size + 1) _ _)) Try.underlying38 rfl (HSb.out) ?_)
    | (go_at_call 51; (with_reducible refine (specl01Xor_c a b ha hb _).mono ?_); rintro e w' ⟨rfl, hb1⟩)
    | (refine wpList_store_row rfl 38 (.tmp 5) (.tmp 9) rfl _ (bA (xorL a b)) rfl rfl 38 (bA zero32) (Blk.top rfl) (HSx.out) (HZ.out) (bA_one _) ?_; rw [World.setRow_alloc_new]))
  clear ha hb
  have hu := ((((Up.refl w).alloc (.cells (bA a) 38)).alloc (.cells (bA b) 38)).trans hb1).alloc (.cells (bA (xorL a b)) 38)
  clear hb1
  have bx : Blk (w'.alloc (.cells (bA (xorL a b)) 38)) w'.heap.size 38 (bA (xorL a b)) := Blk.top rfl
  generalize hg : w'.heap.size = g at *
  clear hg
  go_loopg [6] 256 (fun n i wr => ∃ k : Nat, k + n = 256 ∧ i = .int .i64 k ∧ Hid (leadFrom (xorL a b) 256 0 = leadFrom (xorL a b) n k) ∧ Blk wr g 38 (bA (xorL a b)) ∧ Up w wr)
  case atStart => exact ⟨0, by omega, rfl, rfl, bx, hu⟩
  case round =>
    clear hu bx
    obtain ⟨k, hk, rfl, he, bx, hbel⟩ := hrel
    by_cases hlt : k < 256
    · have hx := HLx.out
      have c1 := bx.cell_ (bA_at (xorL a b) (k / 8) (by omega))
      have hb := byte_bd (bt (xorL a b) (k / 8))
      clear hx
      obtain ⟨n, rfl⟩ : ∃ n, gk = n + 1 := ⟨gk - 1, by omega⟩
      have BX := Lib.hid bx
      have HK := Lib.hid hk
      have BL := Lib.hid hbel
      have h7 : 0 ≤ 7 - (k : Int) % 8 := by omega
      have h8 : 7 - (k : Int) % 8 ≤ 7 := by omega
      clear hk bx hbel
      by_cases hbit : bitAt (xorL a b) k = true
      · have g1 := (bitAt_int (xorL a b) k).trans hbit
        have HE := Lib.hid (show leadFrom (xorL a b) 256 0 = k by rw [he.out, leadFrom_hit _ _ _ hbit])
        clear hbit
        go_wp2
        go_ret
        exact ⟨by rw [HE.out]; rfl, BL.out⟩
      · have hbit' : bitAt (xorL a b) k = false := by simpa using hbit
        have g1 := (bitAt_int (xorL a b) k).trans hbit'
        have HE := Lib.hid (show leadFrom (xorL a b) 256 0 = leadFrom (xorL a b) n (k + 1) by rw [he.out, leadFrom_next _ _ _ hbit'])
        clear hbit hbit'
        go_wp2
        have hk := HK.out
        go_roundg n
        case measure => omega
        case rel => exact ⟨k + 1, by omega, by go_num, HE, BX.out, BL.out⟩
    · obtain rfl : k = 256 := by omega
      obtain rfl : gk = 0 := by omega
      have HE := Lib.hid (show leadFrom (xorL a b) 256 0 = 256 from he.out)
      clear hk he
      go_wp2
      go_ret
      exact ⟨by rw [HE.out]; rfl, hbel⟩

set_option maxHeartbeats 800000 in
set_option maxRecDepth 100000 in
theorem lawCommonBits_c (a b : List UInt8) (ha : a.length = 32) (hb : b.length = 32) (w : World) :
    Calls Try.prog 10 #[.agg (bA a), .agg (bA b)] w fun e w' => e = .returned (.bool true) ∧ Up w w' := by
  have HSa := Lib.hid (show (Try.prog.info? 36).map (·.size) = some (bA a).size by rw [bA_size, ha]; exact info_arr32)
  have HSb := Lib.hid (show (Try.prog.info? 36).map (·.size) = some (bA b).size by rw [bA_size, hb]; exact info_arr32)
  have HL := Lib.hid (And.intro ha hb)
  clear ha hb
  go_enter Try.func10, Try.ntmps10
  go_upto_region 1 with fail
  go_cut [5] (fun s5 wx => s5 = .int .i64 (leadFrom (xorL a b) 256 0) ∧ Blk wx w.heap.size 36 (bA a) ∧ Blk wx (w.heap.size + 1) 36 (bA b) ∧ Up w wx)
  case first =>
    refine region_mono (m := 5) mixedOrders (by kernel_rfl) (by kernel_rfl)
      (fun | 0 => fun v _ => v = .agg (bA a) | 1 => fun v _ => v = .agg (bA a) | 2 => fun v _ => v = .agg (bA b) | 3 => fun v _ => v = .agg (bA b) | 4 => fun v _ => v = .int .i64 (leadFrom (xorL a b) 256 0) | _ => fun _ _ => True)
      (fun wx => Blk wx w.heap.size 36 (bA a) ∧ Blk wx (w.heap.size + 1) 36 (bA b) ∧ Up w wx) ?_ ?_ ?_ ?_ ?_
    · intro j hj v w1 w2 hb h
      match j, hj with
      | 0, _ => exact h
      | 1, _ => exact h
      | 2, _ => exact h
      | 3, _ => exact h
      | 4, _ => exact h
    · rintro w1 w2 hb ⟨g1, g2, g3⟩
      exact ⟨g1.up hb, g2.up hb, g3.up hb⟩
    · exact ⟨((Blk.top rfl).alloc _).drew, (Blk.top (by simp)).drew, (((Up.refl _).alloc _).alloc _).drew⟩
    · rintro i o hi ho av wv fr ⟨g1, g2, g3⟩ dep
      match i, hi with
      | 0, _ =>
        obtain rfl := Option.some.inj ho
        exact st_load_row rfl (fr.eval rfl) g1 Try.underlying36 rfl HSa.out rfl
      | 1, _ =>
        obtain rfl := Option.some.inj ho
        have d0 := dep ⟨0, .data⟩ (by simp) rfl
        exact st_call1 rfl (fun _ _ => by kernel_rfl) d0 (toKey_c a HL.out.1 _) (fun e w' ⟨he, hb⟩ => ⟨_, he, hb, rfl⟩)
      | 2, _ =>
        obtain rfl := Option.some.inj ho
        exact st_load_row rfl (fr.eval rfl) g2 Try.underlying36 rfl HSb.out rfl
      | 3, _ =>
        obtain rfl := Option.some.inj ho
        have d0 := dep ⟨2, .data⟩ (by simp) rfl
        exact st_call1 rfl (fun _ _ => by kernel_rfl) d0 (toKey_c b HL.out.2 _) (fun e w' ⟨he, hb⟩ => ⟨_, he, hb, rfl⟩)
      | 4, _ =>
        obtain rfl := Option.some.inj ho
        have d0 := dep ⟨1, .data⟩ (by simp) rfl
        have d1 := dep ⟨3, .data⟩ (by simp) rfl
        exact st_call2 rfl (fun _ _ => by kernel_rfl) d0 d1 (specCommonBits_c a b HL.out.1 HL.out.2 _) (fun e w' ⟨he, hb⟩ => ⟨_, he, hb, rfl⟩)
    · rintro vs wv ⟨g1, g2, g3⟩ hf
      have f0 : vs 0 = .agg (bA a) := hf 0 (by omega)
      have f1 : vs 1 = .agg (bA a) := hf 1 (by omega)
      have f2 : vs 2 = .agg (bA b) := hf 2 (by omega)
      have f3 : vs 3 = .agg (bA b) := hf 3 (by omega)
      have f4 : vs 4 = .int .i64 (leadFrom (xorL a b) 256 0) := hf 4 (by omega)
      simp only [putAll, Act.put, List.getElem?_toArray, List.getElem?_cons_zero, List.getElem?_cons_succ, Option.bind_some, List.setIfInBounds_toArray, List.set_cons_zero, List.set_cons_succ, f4]
      go_wp2_with fail
      go_meet
      exact ⟨rfl, g1, g2, g3⟩
  case rest =>
    obtain ⟨rfl, b0, b1, hbel⟩ := hcut
    have BB := Lib.hid (And.intro b0 (And.intro b1 hbel))
    clear b0 b1 hbel
    go_upto_region 2 with fail
    go_cut [6] (fun s6 wx => s6 = .int .i64 (leadFrom (xorL a b) 256 0) ∧ Up w wx)
    case first =>
      obtain ⟨b0, b1, hbel⟩ := BB.out
      refine region_mono (m := 5) mixedOrders (by kernel_rfl) (by kernel_rfl)
        (fun | 0 => fun v _ => v = .agg (bA a) | 1 => fun v _ => v = .agg (bA a) | 2 => fun v _ => v = .agg (bA b) | 3 => fun v _ => v = .agg (bA b) | 4 => fun v _ => v = .int .i64 (leadFrom (xorL a b) 256 0) | _ => fun _ _ => True)
        (fun wx => Blk wx w.heap.size 36 (bA a) ∧ Blk wx (w.heap.size + 1) 36 (bA b) ∧ Up w wx) ?_ ?_ ?_ ?_ ?_
      · intro j hj v w1 w2 hb h
        match j, hj with
        | 0, _ => exact h
        | 1, _ => exact h
        | 2, _ => exact h
        | 3, _ => exact h
        | 4, _ => exact h
      · rintro w1 w2 hb ⟨g1, g2, g3⟩
        exact ⟨g1.up hb, g2.up hb, g3.up hb⟩
      · exact ⟨b0.drew, b1.drew, hbel.drew⟩
      · rintro i o hi ho av wv fr ⟨g1, g2, g3⟩ dep
        match i, hi with
        | 0, _ =>
          obtain rfl := Option.some.inj ho
          exact st_load_row rfl (fr.eval rfl) g1 Try.underlying36 rfl HSa.out rfl
        | 1, _ =>
          obtain rfl := Option.some.inj ho
          have d0 := dep ⟨0, .data⟩ (by simp) rfl
          exact st_call1 rfl (fun _ _ => by kernel_rfl) d0 (toKey_c a HL.out.1 _) (fun e w' ⟨he, hb⟩ => ⟨_, he, hb, rfl⟩)
        | 2, _ =>
          obtain rfl := Option.some.inj ho
          exact st_load_row rfl (fr.eval rfl) g2 Try.underlying36 rfl HSb.out rfl
        | 3, _ =>
          obtain rfl := Option.some.inj ho
          have d0 := dep ⟨2, .data⟩ (by simp) rfl
          exact st_call1 rfl (fun _ _ => by kernel_rfl) d0 (toKey_c b HL.out.2 _) (fun e w' ⟨he, hb⟩ => ⟨_, he, hb, rfl⟩)
        | 4, _ =>
          obtain rfl := Option.some.inj ho
          have d0 := dep ⟨1, .data⟩ (by simp) rfl
          have d1 := dep ⟨3, .data⟩ (by simp) rfl
          exact st_call2 rfl (fun _ _ => by kernel_rfl) d0 d1 (implCommonBits_c a b HL.out.1 HL.out.2 _) (fun e w' ⟨he, hb⟩ => ⟨_, he, hb, rfl⟩)
      · rintro vs wv ⟨g1, g2, g3⟩ hf
        have f0 : vs 0 = .agg (bA a) := hf 0 (by omega)
        have f1 : vs 1 = .agg (bA a) := hf 1 (by omega)
        have f2 : vs 2 = .agg (bA b) := hf 2 (by omega)
        have f3 : vs 3 = .agg (bA b) := hf 3 (by omega)
        have f4 : vs 4 = .int .i64 (leadFrom (xorL a b) 256 0) := hf 4 (by omega)
        simp only [putAll, Act.put, List.getElem?_toArray, List.getElem?_cons_zero, List.getElem?_cons_succ, Option.bind_some, List.setIfInBounds_toArray, List.set_cons_zero, List.set_cons_succ, f4]
        go_wp2_with fail
        go_meet
        exact ⟨rfl, g3⟩
    case rest =>
      obtain ⟨rfl, hbel⟩ := hcut
      go_wp2
      go_ret
      exact ⟨rfl, hbel⟩

end Go.Proofs.Ytmganlabhkogcaa

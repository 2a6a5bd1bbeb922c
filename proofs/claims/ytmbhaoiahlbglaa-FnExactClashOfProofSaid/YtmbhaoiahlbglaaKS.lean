/- Slices of bytes that are read: as arguments, as fields. -/
import Derived.Test.YtmbhaoiahlbglaaRows
import Derived.Test.YtmbhaoiahlbglaaBase
import Derived.Test.YtmbhaoiahlbglaaReg
namespace Go.Proofs.Ytmbhaoiahlbglaa
open Go.RowKit
set_option linter.unusedVariables false
set_option linter.unusedSimpArgs false

theorem below_cell {B : Nat} {w w' : World} (h : Below B w w') (p : Addr) (hp : p.block < B) : w'.cell? p = w.cell? p := by
  unfold World.cell?
  rw [h.block p.block hp]
/-- The value v is a slice that reads as the bytes l. -/
def RdB (w : World) (v : Value) (l : List UInt8) : Prop := ∃ (a : Option Addr) (cap : Nat), v = .slice a l.length cap ∧ l.length ≤ maxLen ∧ ∀ i, i < l.length → ∃ p, a = some p ∧ p.block < w.heap.size ∧ w.cell? (p.add i) = some (.int .u8 ((bt l i).toNat : Int))
theorem add_block (p : Addr) (i : Nat) : (p.add i).block = p.block := by
  unfold Addr.add
  split <;> rfl
theorem RdB.up {w w' : World} {v : Value} {l : List UInt8} (h : RdB w v l) (hb : Up w w') : RdB w' v l := by
  obtain ⟨a, cap, hv, hm, hc⟩ := h
  refine ⟨a, cap, hv, hm, fun i hi => ?_⟩
  obtain ⟨p, h1, h2, h3⟩ := hc i hi
  exact ⟨p, h1, Nat.lt_of_lt_of_le h2 (Below.size hb), by rw [below_cell hb _ (by rw [add_block]; exact h2)]; exact h3⟩

theorem RdB.alloc {w : World} {v : Value} {l : List UInt8} (h : RdB w v l) (x : Obj) : RdB (w.alloc x) v l := h.up ((Up.refl _).alloc _)
theorem RdB.one {w : World} {v : Value} {l : List UInt8} (h : RdB w v l) : v.oneCell' = true := by
  obtain ⟨a, cap, rfl, -, -⟩ := h
  rfl
theorem RdB.nil (w : World) : RdB w (.slice none 0 0) [] := ⟨none, 0, rfl, Nat.zero_le _, fun i hi => absurd hi (by simp)⟩
theorem RdB.of_blk {w : World} {g : Nat} {t : TypeId} {l : List UInt8} (h : Blk w g t (bA l)) (hl : l.length ≤ maxLen) (cap : Nat) : RdB w (.slice (some ⟨g, 0, .none⟩) l.length cap) l := by
  refine ⟨some ⟨g, 0, .none⟩, cap, rfl, hl, fun i hi => ⟨_, rfl, h.lt, ?_⟩⟩
  have := h.cell_ (bA_at l i hi)
  have e : (⟨g, 0, .none⟩ : Addr).add i = ⟨g, i, .none⟩ := by unfold Addr.add; split <;> simp_all
  rw [e]
  exact this

set_option maxHeartbeats 400000 in
set_option maxRecDepth 100000 in
theorem eqByteS_same (va vb : Value) (l : List UInt8) (w : World) (ha : RdB w va l) (hb : RdB w vb l) :
    Calls Try.prog 49 #[va, vb] w fun e w' => e = .returned (.bool true) ∧ Up w w' := by
  obtain ⟨a, ca, rfl, hm, ha⟩ := ha
  obtain ⟨b, cb, rfl, -, hb⟩ := hb
  have HA := Lib.hid ha
  have HB := Lib.hid hb
  have hmm : maxLen ≤ 9223372036854775807 := by decide
  clear ha hb
  go_enter Try.func49, Try.ntmps49
  go_wp2_with fail
  go_loopg [5] l.length (fun n i wr => ∃ k : Nat, k + n = l.length ∧ i = .int .i64 k ∧ ∃ m, wr = w.drewN m)
  case atStart => exact ⟨0, by omega, rfl, 0, rfl⟩
  case round =>
    obtain ⟨k, hk, rfl, m, rfl⟩ := hrel
    by_cases hlt : k < l.length
    · obtain ⟨p, hp, hpb, c1⟩ := HA.out k hlt
      obtain ⟨q, hq, hqb, c2⟩ := HB.out k hlt
      have hb := byte_bd (bt l k)
      have HK := Lib.hid hk
      subst hp
      subst hq
      clear hk hpb hqb
      go_wp2_with fail
      go_quiet (fail)
      go_wp2_with fail
      have hk := HK.out
      go_roundg (gk - 1)
      case measure => omega
      case rel => exact ⟨k + 1, by omega, by go_num, _, rfl⟩
    · obtain rfl : k = l.length := by omega
      clear hk
      go_wp2_with fail
      go_ret
      exact ⟨rfl, (Up.refl _).drewN _⟩

set_option maxHeartbeats 400000 in
theorem szByteS_c (a : Option Addr) (n cap : Nat) (left : Int) (h0 : 0 ≤ left) (h1 : left ≤ 1048576) (hn : n ≤ maxLen) (w : World) :
    Calls Try.prog 94 #[.slice a n cap, .int .i64 left] w fun e w' => e = .returned (.int .i64 (if left - n < 0 then -1 else left - n)) ∧ w' = w := by
  have hm : (n : Int) ≤ 9223372036854775807 := by
    have : maxLen ≤ 9223372036854775807 := by decide
    omega
  clear hn
  by_cases c1 : left - n < 0
  · rw [if_pos c1]
    go_enter Try.func94, Try.ntmps94
    go_wp2
    go_ret
    exact ⟨rfl, rfl⟩
  · rw [if_neg c1]
    go_enter Try.func94, Try.ntmps94
    go_wp2
    go_ret
    exact ⟨rfl, rfl⟩

theorem madeBytes (n : Nat) : madeCells (Value.int .u8 0).cells (n * 1) = bA (List.replicate n 0) := by
  apply Array.ext_getElem?
  intro i
  simp [madeCells, bA, bV, Value.cells]
  by_cases h : i < n
  · rw [Array.getElem?_eq_getElem (by simpa using h), Array.getElem?_eq_getElem (by simpa using h)]
    simp [Nat.mod_one]
  · rw [Array.getElem?_eq_none (by simpa using h), Array.getElem?_eq_none (by simpa using h)]
    rfl
set_option maxRecDepth 100000 in
theorem mk_bytes (n : Nat) (hn : n ≤ 16777216) (w : World) : (Instr.makeSlice 66 (.int .i64 (n : Int)) (.int .i64 (n : Int))).run Try.prog w = .ok (.slice (some ⟨w.heap.size, 0, none⟩) n n) (w.alloc (.cells (bA (List.replicate n 0)) 5)) := by
  have h0 : (Try.prog.info? 5).map (fun i => (i.zero, i.size, i.bytes)) = some (some (.int .u8 0), 1, 1) := by kernel_rfl
  obtain ⟨i, hi, h1⟩ := Option.map_eq_some_iff.1 h0
  injection h1 with hz h1
  injection h1 with hs hb
  have := run_makeSlice (P := Try.prog) w 66 5 i (.int .u8 0) Try.underlying66 hi hz .i64 .i64 n n (by omega) (Int.le_refl _) (by rw [hs]; omega) (by rw [hb]; omega) (by omega)
  rw [hs, Int.toNat_natCast, madeBytes] at this
  exact this

set_option maxHeartbeats 400000 in
set_option maxRecDepth 100000 in
theorem toByteS_c (v : Value) (l : List UInt8) (w : World) (hv : RdB w v l) (hl : l.length ≤ 1048576) :
    Calls Try.prog 98 #[v] w fun e w' => (∃ g, e = .returned (.slice (some ⟨g, 0, none⟩) l.length l.length) ∧ w.heap.size ≤ g ∧ Blk w' g 5 (bA l)) ∧ Up w w' := by
  obtain ⟨a, ca, rfl, hm, ha⟩ := hv
  have HA := Lib.hid ha
  clear ha hm
  go_enter Try.func98, Try.ntmps98
  have hmk := fun w => mk_bytes l.length (by omega) w
  go_wp2_with fail
  clear hmk
  go_loopg [4] l.length (fun n i wr => ∃ k : Nat, k + n = l.length ∧ i = .int .i64 k ∧ Blk wr w.heap.size 5 (bA (fillTo (bt l) k l.length 0)) ∧ Up w wr)
  case atStart => exact ⟨0, by omega, rfl, by rw [fill_zero]; exact Blk.top rfl, (Up.refl _).alloc _⟩
  case round =>
    obtain ⟨k, hk, rfl, b0, hbel⟩ := hrel
    by_cases hlt : k < l.length
    · obtain ⟨p, hp, hpb, c1⟩ := HA.out k hlt
      rw [← below_cell hbel _ (by rw [add_block]; exact hpb)] at c1
      have c0 := b0.cell_ (bA_at (fillTo (bt l) k l.length 0) k (by rw [fill_length]; omega))
      have f0 := b0.free k
      have BB := Lib.hid (And.intro b0 hbel)
      have hb := byte_bd (bt l k)
      have HK := Lib.hid hk
      subst hp
      clear hk hpb b0 hbel
      go_wp2_with fail
      obtain ⟨b0, hbel⟩ := BB.out
      have hk := HK.out
      go_roundg (gk - 1)
      case measure => omega
      case rel =>
        refine ⟨k + 1, by omega, by go_num, ?_, hbel.setCell (by dsimp only; omega) _⟩
        rw [← fill_set (bt l) k l.length 0, ← bA_set]
        exact b0.set_ k _
    · obtain rfl : k = l.length := by omega
      clear hk
      rw [fill_full, map_bt l _ rfl] at b0
      have BB := Lib.hid (And.intro b0 hbel)
      clear b0 hbel
      go_wp2_with fail
      go_ret
      exact ⟨⟨_, rfl, Nat.le_refl _, BB.out.1⟩, BB.out.2⟩

end Go.Proofs.Ytmbhaoiahlbglaa

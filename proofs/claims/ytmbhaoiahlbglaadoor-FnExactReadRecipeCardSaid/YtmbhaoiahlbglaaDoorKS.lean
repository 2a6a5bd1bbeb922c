/- Slices of bytes that are read: as arguments, as fields. -/
import Derived.Test.YtmbhaoiahlbglaaDoorRows
import Derived.Test.YtmbhaoiahlbglaaDoorBase
import Derived.Test.YtmbhaoiahlbglaaDoorReg
namespace Go.Proofs.YtmbhaoiahlbglaaDoor
open Go.RowKit
set_option linter.unusedVariables false
set_option linter.unusedSimpArgs false

theorem below_cell {B : Nat} {w w' : World} (h : Below B w w') (p : Addr) (hp : p.block < B) : w'.cell? p = w.cell? p := by
  unfold World.cell?
  rw [h.block p.block hp]
/-- The value v is a slice that reads as the bytes l. -/
def RdB (w : World) (v : Value) (l : List UInt8) : Prop := ∃ (a : Option Addr) (cap : Nat), v = .slice a l.length cap ∧ l.length ≤ maxLen ∧ ∀ i, i < l.length → ∃ p, a = some p ∧ p.block < w.heap.size ∧ w.cell? (p.add i) = some (.int .u8 ((bt l i).toNat : Int))
theorem add_block (p : Addr) (i : Nat) : (p.add i).block = p.block := by
  unfold Addr.add
  split <;> rfl
theorem RdB.up {w w' : World} {v : Value} {l : List UInt8} (h : RdB w v l) (hb : Up w w') : RdB w' v l := by
  obtain ⟨a, cap, hv, hm, hc⟩ := h
  refine ⟨a, cap, hv, hm, fun i hi => ?_⟩
  obtain ⟨p, h1, h2, h3⟩ := hc i hi
  exact ⟨p, h1, Nat.lt_of_lt_of_le h2 (Below.size hb), by rw [below_cell hb _ (by rw [add_block]; exact h2)]; exact h3⟩

theorem RdB.alloc {w : World} {v : Value} {l : List UInt8} (h : RdB w v l) (x : Obj) : RdB (w.alloc x) v l := h.up ((Up.refl _).alloc _)
theorem RdB.one {w : World} {v : Value} {l : List UInt8} (h : RdB w v l) : v.oneCell' = true := by
  obtain ⟨a, cap, rfl, -, -⟩ := h
  rfl
theorem RdB.nil (w : World) : RdB w (.slice none 0 0) [] := ⟨none, 0, rfl, Nat.zero_le _, fun i hi => absurd hi (by simp)⟩
theorem RdB.of_blk {w : World} {g : Nat} {t : TypeId} {l : List UInt8} (h : Blk w g t (bA l)) (hl : l.length ≤ maxLen) (cap : Nat) : RdB w (.slice (some ⟨g, 0, .none⟩) l.length cap) l := by
  refine ⟨some ⟨g, 0, .none⟩, cap, rfl, hl, fun i hi => ⟨_, rfl, h.lt, ?_⟩⟩
  have := h.cell_ (bA_at l i hi)
  have e : (⟨g, 0, .none⟩ : Addr).add i = ⟨g, i, .none⟩ := by unfold Addr.add; split <;> simp_all
  rw [e]
  exact this

theorem madeBytes (n : Nat) : madeCells (Value.int .u8 0).cells (n * 1) = bA (List.replicate n 0) := by
  apply Array.ext_getElem?
  intro i
  simp [madeCells, bA, bV, Value.cells]
  by_cases h : i < n
  · rw [Array.getElem?_eq_getElem (by simpa using h), Array.getElem?_eq_getElem (by simpa using h)]
    simp [Nat.mod_one]
  · rw [Array.getElem?_eq_none (by simpa using h), Array.getElem?_eq_none (by simpa using h)]
    rfl
set_option maxRecDepth 100000 in
theorem mk_bytes (n : Nat) (hn : n ≤ 16777216) (w : World) : (Instr.makeSlice 72 (.int .i64 (n : Int)) (.int .i64 (n : Int))).run Tryd.prog w = .ok (.slice (some ⟨w.heap.size, 0, none⟩) n n) (w.alloc (.cells (bA (List.replicate n 0)) 5)) := by
  have h0 : (Tryd.prog.info? 5).map (fun i => (i.zero, i.size, i.bytes)) = some (some (.int .u8 0), 1, 1) := by kernel_rfl
  obtain ⟨i, hi, h1⟩ := Option.map_eq_some_iff.1 h0
  injection h1 with hz h1
  injection h1 with hs hb
  have := run_makeSlice (P := Tryd.prog) w 72 5 i (.int .u8 0) Tryd.underlying72 hi hz .i64 .i64 n n (by omega) (Int.le_refl _) (by rw [hs]; omega) (by rw [hb]; omega) (by omega)
  rw [hs, Int.toNat_natCast, madeBytes] at this
  exact this

end Go.Proofs.YtmbhaoiahlbglaaDoor

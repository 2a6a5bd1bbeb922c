/- More on memory as a list of things: make, slices of slices handed on. No conditions beyond those each lemma states. -/
import Derived.Test.YtkfmokpijkoidaaTy
import Derived.Laws.MakeOwn
namespace Go.Proofs.Ytkfmokpijkoidaa
open Go.RowKit
set_option linter.unusedVariables false
set_option linter.unusedSimpArgs false
section
variable {P : Program} {ops : Array Oper} {rest : List Oper} {o : Oper} {a : Act} {w0 w : World} {Q : Exit → Act → World → Prop} {L : List It}
theorem m_make (M : Mem w0 w L) (hgd : o.guard = none) {t : TypeId} {x y : Operand} (ho : o.op = .makeSlice t x y) {e : TypeId} [ht : SliceT P t e] {size bytes : Nat} {z : Value} [he : ElT P e size bytes z]
    {n : Nat} (hx : a.eval x = .int .i64 (n : Int)) (hy : a.eval y = .int .i64 (n : Int)) (hn : n * size ≤ 16777216) (hb : bytes * n ≤ 281474976710656) (h63 : n ≤ 9223372036854775807)
    (h : ∀ g w', Mem w0 w' (.blk g e (madeCells z.cells (n * size)) :: L) → wpList P ops Q rest (a.put o.dst (.slice (some ⟨g, 0, none⟩) n n)) w') : wpList P ops Q (o :: rest) a w :=
  wpList_plain hgd fun _ hK => by
    obtain ⟨h1, h2, h3⟩ := he.out
    obtain ⟨i0, hi0, hz0, hz1, hz2⟩ := info_parts h1
    have hbz : (bytes : Int) * (n : Int) ≤ 281474976710656 := by
      have : ((bytes * n : Nat) : Int) ≤ 281474976710656 := by omega
      rwa [Int.natCast_mul] at this
    have hrun := run_makeSlice (P := P) w t e i0 z ht.out hi0 hz0 .i64 .i64 n n (by omega) (Int.le_refl _) (by rw [Int.toNat_natCast, hz1]; exact hn) (by rw [hz2]; exact hbz) (by omega)
    rw [Int.toNat_natCast, hz1] at hrun
    unfold Oper.wp execOp
    simp only [ho, hx, hy, Sem.run_bind, hrun, Result.andThen_ok, Sem.run_pure]
    exact hK _ _ (h _ _ (M.alloc_ e _))
theorem made_one (v : Value) (hv : v.oneCell' = true) (n : Nat) : madeCells v.cells (n * 1) = (List.replicate n v).toArray := by
  rw [cells_one hv]
  apply Array.ext_getElem?
  intro i
  by_cases h : i < n
  · simp [madeCells, h, Nat.mod_one]
  · rw [Array.getElem?_eq_none (by simp [madeCells]; omega), Array.getElem?_eq_none (by simp; omega)]
theorem made_keys (n : Nat) : madeCells (Value.agg (bA zero32)).cells (n * 32) = (List.replicate (n * 32) (Value.int .u8 0)).toArray := by
  apply Array.ext_getElem?
  intro i
  by_cases h : i < n * 32
  · have hm : i % 32 < 32 := Nat.mod_lt _ (by omega)
    have hz : (Value.agg (bA zero32)).cells.size = 32 := by show (bA zero32).size = 32; simp
    have : (Value.agg (bA zero32)).cells[i % (Value.agg (bA zero32)).cells.size]! = Value.int .u8 0 := by
      rw [hz]
      show (bA zero32)[i % 32]! = _
      rw [getElem!_pos (bA zero32) (i % 32) (by simpa using hm)]
      have h2 := bA_at zero32 (i % 32) (by simpa using hm)
      rw [Array.getElem?_eq_getElem (by simpa using hm)] at h2
      injection h2 with h2
      rw [h2]
      have : bt zero32 (i % 32) = 0 := by
        rw [bt_eq _ _ (by simpa using hm)]
        exact List.getElem_replicate (by simpa using hm)
      rw [this]
      rfl
    simp [madeCells, h, this]
  · rw [Array.getElem?_eq_none (by simp [madeCells]; omega), Array.getElem?_eq_none (by simp; omega)]
/-- Slices of slices are handed on. -/
theorem Mem.toOwnS {b : Option Addr} {cap n : Nat} {e ei : TypeId} {us : List Value} {ls : List (List Value)} (M : Mem w0 w (.own b cap e 1 n us :: .inn ei us ls :: L)) (hn : n = ls.length) : OwnS w0 w e ei (.slice b n cap) n ls :=
  ⟨b, cap, us, rfl, hn, M.at_ (p := 0) rfl, M.at_ (p := 1) rfl, fun u k hu hk hb => M.apart (i := 0) (j := 1) rfl rfl (by omega) k hb ⟨u, hu, hk⟩⟩
end

end Go.Proofs.Ytkfmokpijkoidaa

/- More on memory as a list of things: make, slices of slices handed on. No conditions beyond those each lemma states. -/
import Derived.Test.YtmbhaoiahlbglaaDoorTy
import Derived.Laws.MakeOwn
namespace Go.Proofs.YtmbhaoiahlbglaaDoor
open Go.RowKit
set_option linter.unusedVariables false
set_option linter.unusedSimpArgs false
section
variable {P : Program} {ops : Array Oper} {rest : List Oper} {o : Oper} {a : Act} {w0 w : World} {Q : Exit → Act → World → Prop} {L : List It}
theorem m_make (M : Mem w0 w L) (hgd : o.guard = none) {t : TypeId} {x y : Operand} (ho : o.op = .makeSlice t x y) {e : TypeId} [ht : SliceT P t e] {size bytes : Nat} {z : Value} [he : ElT P e size bytes z]
    {n : Nat} (hx : a.eval x = .int .i64 (n : Int)) (hy : a.eval y = .int .i64 (n : Int)) (hn : n * size ≤ 16777216) (hb : bytes * n ≤ 281474976710656) (h63 : n ≤ 9223372036854775807)
    (h : ∀ g w', Mem w0 w' (.blk g e (madeCells z.cells (n * size)) :: L) → wpList P ops Q rest (a.put o.dst (.slice (some ⟨g, 0, none⟩) n n)) w') : wpList P ops Q (o :: rest) a w :=
  wpList_plain hgd fun _ hK => by
    obtain ⟨h1, h2, h3⟩ := he.out
    obtain ⟨i0, hi0, hz0, hz1, hz2⟩ := info_parts h1
    have hbz : (bytes : Int) * (n : Int) ≤ 281474976710656 := by
      have : ((bytes * n : Nat) : Int) ≤ 281474976710656 := by omega
      rwa [Int.natCast_mul] at this
    have hrun := run_makeSlice (P := P) w t e i0 z ht.out hi0 hz0 .i64 .i64 n n (by omega) (Int.le_refl _) (by rw [Int.toNat_natCast, hz1]; exact hn) (by rw [hz2]; exact hbz) (by omega)
    rw [Int.toNat_natCast, hz1] at hrun
    unfold Oper.wp execOp
    simp only [ho, hx, hy, Sem.run_bind, hrun, Result.andThen_ok, Sem.run_pure]
    exact hK _ _ (h _ _ (M.alloc_ e _))
theorem made_one (v : Value) (hv : v.oneCell' = true) (n : Nat) : madeCells v.cells (n * 1) = (List.replicate n v).toArray := by
  rw [cells_one hv]
  apply Array.ext_getElem?
  intro i
  by_cases h : i < n
  · simp [madeCells, h, Nat.mod_one]
  · rw [Array.getElem?_eq_none (by simp [madeCells]; omega), Array.getElem?_eq_none (by simp; omega)]
theorem made_keys (n : Nat) : madeCells (Value.agg (bA zero32)).cells (n * 32) = (List.replicate (n * 32) (Value.int .u8 0)).toArray := by
  apply Array.ext_getElem?
  intro i
  by_cases h : i < n * 32
  · have hm : i % 32 < 32 := Nat.mod_lt _ (by omega)
    have hz : (Value.agg (bA zero32)).cells.size = 32 := by show (bA zero32).size = 32; simp
    have : (Value.agg (bA zero32)).cells[i % (Value.agg (bA zero32)).cells.size]! = Value.int .u8 0 := by
      rw [hz]
      show (bA zero32)[i % 32]! = _
      rw [getElem!_pos (bA zero32) (i % 32) (by simpa using hm)]
      have h2 := bA_at zero32 (i % 32) (by simpa using hm)
      rw [Array.getElem?_eq_getElem (by simpa using hm)] at h2
      injection h2 with h2
      rw [h2]
      have : bt zero32 (i % 32) = 0 := by
        rw [bt_eq _ _ (by simpa using hm)]
        exact List.getElem_replicate (by simpa using hm)
      rw [this]
      rfl
    simp [madeCells, h, this]
  · rw [Array.getElem?_eq_none (by simp [madeCells]; omega), Array.getElem?_eq_none (by simp; omega)]
/-- Slices of slices are handed on. -/
theorem Mem.toOwnS {b : Option Addr} {cap n : Nat} {e ei : TypeId} {us : List Value} {ls : List (List Value)} (M : Mem w0 w (.own b cap e 1 n us :: .inn ei us ls :: L)) (hn : n = ls.length) : OwnS w0 w e ei (.slice b n cap) n ls :=
  ⟨b, cap, us, rfl, hn, M.at_ (p := 0) rfl, M.at_ (p := 1) rfl, fun u k hu hk hb => M.apart (i := 0) (j := 1) rfl rfl (by omega) k hb ⟨u, hu, hk⟩⟩
end
section
variable {P : Program} {ops : Array Oper} {rest : List Oper} {o : Oper} {a : Act} {w0 w : World} {Q : Exit → Act → World → Prop} {L : List It}
/-- copy into a part of a block of the call's own. -/
theorem m_copy (M : Mem w0 w L) (hgd : o.guard = none) {d s : Operand} {dt st : TypeId} (ho : o.op = .call { callee := .builtin .copy, args := #[d, s], argTypes := #[dt, st] }) {e : TypeId} [ht : SliceT P dt e] {bytes : Nat} {z : Value} [he : ElT P e 1 bytes z]
    {g i n c : Nat} (hd : a.eval d = .slice (some ⟨g, i, none⟩) n c) {p : Nat} {t : TypeId} {cs : Array Value} [hL : AtG L g p t cs] {v : Value} (hs : a.eval s = v) {m : Nat} {xs : List Value} (hr : Rd w 1 v m xs) (hm : m ≤ n) (hi : i + m ≤ cs.size)
    (h : ∀ w', Mem w0 w' (L.set p (.blk g t (putC xs i cs))) → wpList P ops Q rest (a.put o.dst (.int .i64 (m : Int))) w') : wpList P ops Q (o :: rest) a w :=
  wpList_plain hgd fun _ hK => by
    obtain ⟨b, cap, rfl, _, _, hlen, hone, hc⟩ := hr
    rw [Nat.mul_one] at hlen
    have hsz := run_sizeOf he w
    have hf : (Builtin.firstCells 1 m (.slice b m cap)).run P w = .ok xs.toArray w := by
      cases b with
      | none =>
        have hm0 : m = 0 := by
          rcases hc with hc | ⟨g', o', hb, _⟩
          · exact hc
          · cases hb
        have : xs = [] := List.eq_nil_of_length_eq_zero (by omega)
        subst this
        simp [Builtin.firstCells]
      | some q =>
        refine run_firstCells_some w 1 m q m cap xs (by omega) (fun j u hj => ?_)
        rcases hc with hc | ⟨g', o', hb, hg', hrng⟩
        · have := (List.getElem?_eq_some_iff.1 hj).1
          omega
        · injection hb with hb
          subst hb
          rw [Addr.add_mid]
          exact hrng j u hj
    have hst := run_storeCells_cells (P := P) g i xs 0 w (fun j hj => by rw [Nat.add_zero, Blk.cell_ (M.blkG g) (i := i + j) (v := cs[i + j]'(by omega)) (Array.getElem?_eq_getElem (by omega))]; rfl) (fun j hj => M.freeG g _) hone
    rw [Nat.add_zero] at hst
    have hmin : Nat.min m n = m := Nat.min_eq_left hm
    have hr : (Builtin.copy_ #[dt, st] o.type #[.slice (some ⟨g, i, none⟩) n c, .slice b m cap]).run P w = .ok (.int .i64 (m : Int)) (w.setCells g i xs) := by
      simp [Builtin.copy_, run_underlying ht.out, Builtin.lenOf, hmin, hsz, hf, hst, goInt]
    unfold Oper.wp execOp
    simp only [ho, resolve, invoke, builtin, Sem.run_bind, Sem.run_pure, Result.andThen_ok, List.map_toArray, List.map_cons, List.map_nil, hd, hs, hr]
    exact hK _ _ (h _ (M.setCells_ hL.out i xs))
/-- An array's slice from l on. -/
theorem slice_arr {t e : TypeId} {n : Nat} (ht : P.underlying t = some (.array n e)) {size bytes : Nat} {z : Value} (he : ElT P e size bytes z) (g l : Nat) (hl : l < n) (w : World) :
    (Instr.sliceAt t (.pointer (some ⟨g, 0, none⟩)) (some (.int .i64 (l : Int))) none none).run P w = .ok (.slice (some ⟨g, l * size, none⟩) (n - l) (n - l)) w := by
  have h1 := run_sizeOf he w
  have hb : (Instr.sliceBounds false n n (some (.int .i64 (l : Int))) none none).run P w = .ok (l, n, n) w := by
    have : (0 : Int) ≤ (l : Int) ∧ (l : Int) ≤ (n : Int) := by omega
    simp [Instr.sliceBounds, Instr.sliceBound, asIntOf, this]
    omega
  have hne : n ≠ l := by omega
  simp [Instr.sliceAt, run_underlying ht, Instr.sureAddr, hb, h1, hne, Addr.add_mid]
theorem slice_arr0 {t e : TypeId} {n : Nat} (ht : P.underlying t = some (.array n e)) {size bytes : Nat} {z : Value} (he : ElT P e size bytes z) (g : Nat) (w : World) :
    (Instr.sliceAt t (.pointer (some ⟨g, 0, none⟩)) none none none).run P w = .ok (.slice (some ⟨g, 0, none⟩) n n) w := by
  have h1 := run_sizeOf he w
  have hb : (Instr.sliceBounds false n n none none none).run P w = .ok (0, n, n) w := by simp [Instr.sliceBounds]
  simp [Instr.sliceAt, run_underlying ht, Instr.sureAddr, hb, h1, Addr.add_mid]
end

end Go.Proofs.YtmbhaoiahlbglaaDoor

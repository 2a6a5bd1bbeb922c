/- Walks: slices.Concat of bytes; blocks. -/
import Derived.Test.YtmbhaoiahlbglaaDoorHB
namespace Go.Proofs.YtmbhaoiahlbglaaDoor
open Go.RowKit
set_option linter.unusedVariables false
set_option linter.unusedSimpArgs false

/-- A slice that reads as slices of bytes. -/
def RdS (w : World) (v : Value) (ls : List (List UInt8)) : Prop := ∃ xs, Rd w 1 v ls.length xs ∧ ∀ (i : Nat) l, ls[i]? = some l → ∃ u, xs[i]? = some u ∧ Rd w 1 u l.length (bL l)
theorem RdS.up {w w' : World} {v : Value} {ls : List (List UInt8)} (h : RdS w v ls) (hb : Up w w') : RdS w' v ls := by
  obtain ⟨xs, h1, h2⟩ := h
  refine ⟨xs, h1.up hb, fun i l hl => ?_⟩
  obtain ⟨u, hu, hr⟩ := h2 i l hl
  exact ⟨u, hu, hr.up hb⟩
theorem flat_take (ls : List (List UInt8)) (k : Nat) (h : k < ls.length) : (ls.take (k + 1)).flatten = (ls.take k).flatten ++ ls[k] := by
  rw [List.take_succ_eq_append_getElem h, List.flatten_append]
  simp
theorem flat_le (ls : List (List UInt8)) (k : Nat) : (ls.take k).flatten.length ≤ ls.flatten.length := by
  have h := congrArg (fun x => (List.flatten x).length) (List.take_append_drop k ls)
  simp only [List.flatten_append, List.length_append] at h
  omega
/-- What a round needs of the k-th slice. -/
theorem RdS.at_ {w : World} {b : Option Addr} {cap : Nat} {ls : List (List UInt8)} (h : RdS w (.slice b ls.length cap) ls) (k : Nat) (hk : k < ls.length) :
    ∃ g o b' cap', b = some ⟨g, o, none⟩ ∧ (∀ wx, Up w wx → wx.cell? ⟨g, o + k, none⟩ = some (.slice b' (ls[k]).length cap')) ∧ Rd w 1 (.slice b' (ls[k]).length cap') (ls[k]).length (bL ls[k]) := by
  obtain ⟨xs, h1, h2⟩ := h
  obtain ⟨g, o, rfl, hr⟩ := h1.open_ (by omega)
  obtain ⟨u, hu, hru⟩ := h2 k _ (List.getElem?_eq_getElem hk)
  obtain ⟨b', cap', rfl⟩ := hru.shape
  exact ⟨g, o, b', cap', rfl, fun wx hb => hr wx hb _ _ hu, hru⟩

theorem RdS.two {w0 w : World} {L : List It} {g : Nat} {e : TypeId} {b1 b2 : Option Addr} {c1 c2 : Nat} {x y : List UInt8} (M : Mem w0 w (.blk g e #[.slice b1 x.length c1, .slice b2 y.length c2] :: L))
    (h1 : Rd w 1 (.slice b1 x.length c1) x.length (bL x)) (h2 : Rd w 1 (.slice b2 y.length c2) y.length (bL y)) : RdS w (.slice (some ⟨g, 0, none⟩) 2 2) [x, y] := by
  refine ⟨[.slice b1 x.length c1, .slice b2 y.length c2], M.rd_blk (p := 0) rfl 1 0 2 2 _ (fun j v hj => by simpa using hj) rfl (Nat.le_refl _) (by simp only [maxLen]; omega) (by simp [Value.oneCell']), fun i l hl => ?_⟩
  match i, hl with
  | 0, hl => obtain rfl := Option.some.inj hl; exact ⟨_, rfl, h1⟩
  | 1, hl => obtain rfl := Option.some.inj hl; exact ⟨_, rfl, h2⟩

/-- Keys as cells in a row. -/
def kyL (ks : List Ky) : List Value := ks.flatMap fun k => bL k.1
@[simp] theorem kyL_len (ks : List Ky) : (kyL ks).length = ks.length * 32 := by
  induction ks with
  | nil => rfl
  | cons k ks ih => simp only [kyL, List.flatMap_cons, List.length_append, List.length_cons, bL_length] at ih ⊢; rw [ih, k.2]; omega
theorem kyL_append (a b : List Ky) : kyL (a ++ b) = kyL a ++ kyL b := by simp [kyL]
theorem kyL_one (ks : List Ky) : ∀ u ∈ kyL ks, u.oneCell' = true := by
  intro u hu
  simp only [kyL, List.mem_flatMap] at hu
  obtain ⟨k, _, hk⟩ := hu
  exact bL_one _ u hk
theorem kyL_snoc (ks : List Ky) (k : Ky) : kyL ks ++ bL k.1 = kyL (ks ++ [k]) := by simp [kyL]
theorem kyL_get (ks : List Ky) (i : Nat) (hi : i < ks.length) (j : Nat) (v : Value) (hv : (bL ks[i].1)[j]? = some v) : (kyL ks)[i * 32 + j]? = some v := by
  induction ks generalizing i with
  | nil => simp at hi
  | cons k ks ih =>
    have hk : (bL k.1).length = 32 := by rw [bL_length, k.2]
    simp only [kyL, List.flatMap_cons]
    cases i with
    | zero =>
      have hj : j < (bL k.1).length := (List.getElem?_eq_some_iff.1 (by simpa using hv)).1
      rw [Nat.zero_mul, Nat.zero_add, List.getElem?_append_left hj]
      simpa using hv
    | succ i =>
      rw [List.getElem?_append_right (by omega), hk]
      have := ih i (by simpa using hi) (by simpa using hv)
      rw [show (i + 1) * 32 + j - 32 = i * 32 + j by omega]
      exact this
theorem kyL_range {w : World} {g o : Nat} {ks : List Ky} (h : w.rangeAt g o (kyL ks)) (k : Nat) (hk : k < ks.length) : w.rangeAt g (o + k * 32) (bL ks[k].1) := fun j v hv => by
  have := h _ _ (kyL_get ks k hk j v hv)
  rw [← Nat.add_assoc] at this
  exact this
theorem bA_toList (l : List UInt8) : (bA l).toList = bL l := rfl
/-- The block of a list that begins at o. -/
def cutK (l : List UInt8) (o : Nat) : Ky := if h : o + 32 ≤ l.length then ⟨cutL l o 32, cutL_len l o 32 h⟩ else zeroKy
theorem cutK_eq (l : List UInt8) (o : Nat) (h : o + 32 ≤ l.length) : (cutK l o).1 = cutL l o 32 := by simp [cutK, h]
/-- The first n blocks. -/
def blkK (l : List UInt8) (n : Nat) : List Ky := (List.range n).map fun i => cutK l (32 * i)
@[simp] theorem blkK_len (l : List UInt8) (n : Nat) : (blkK l n).length = n := by simp [blkK]
theorem blkK_succ (l : List UInt8) (n : Nat) : blkK l (n + 1) = blkK l n ++ [cutK l (32 * n)] := by simp [blkK, List.range_succ]
theorem rd_loadA {P : Program} {ops : Array Oper} {rest : List Oper} {o : Oper} {a : Act} {w : World} {Q : Exit → Act → World → Prop} (hgd : o.guard = none) {ty : TypeId} {x : Operand} (ho : o.op = .load ty x) {g i : Nat} (hx : a.eval x = .pointer (some ⟨g, i, none⟩)) {n : Nat} [hT : RowT P ty n]
    {l : List UInt8} (hc : w.rangeAt g i (bL l)) (hn : l.length = n) (h : wpList P ops Q rest (a.put o.dst (.agg (bA l))) w) : wpList P ops Q (o :: rest) a w :=
  rd_loadR hgd ho hx hc (by rw [bL_length, hn]) h

end Go.Proofs.YtmbhaoiahlbglaaDoor

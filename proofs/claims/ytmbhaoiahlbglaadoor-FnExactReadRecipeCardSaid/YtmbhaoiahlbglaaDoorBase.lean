/- Small lemmas on blocks of memory, byte rows and worlds, used by the walks of this seat. No conditions beyond those each lemma states. -/
import Derived.WalkKit
import Derived.WalkSpells
import Derived.WalkLawsBesides
import Derived.Deep.LoopGhost
import Derived.Deep.MidRow
import Derived.Deep.WholeRow
import Derived.Deep.QuietTactic
import Derived.BigQuiet
import Derived.Deep.Draws
import Derived.Deep.DeepCutAuto
import Derived.Lib.Hide
import Derived.Laws.OwnMore
import Derived.Deep.AppendLies
namespace Go.Proofs.YtmbhaoiahlbglaaDoor
open Go.RowKit
set_option linter.unusedVariables false
set_option linter.unusedSimpArgs false

/-- block g is just the cells cs of element type t, none of them frozen. -/
def Blk (w : World) (g : Nat) (t : TypeId) (cs : Array Value) : Prop := w.heap[g]? = some (.cells cs t (0, 0))

section
variable {w w' : World} {g : Nat} {t : TypeId} {cs : Array Value}
theorem Blk.lt (h : Blk w g t cs) : g < w.heap.size := by
  rcases Nat.lt_or_ge g w.heap.size with hlt | hge
  · exact hlt
  · unfold Blk at h
    rw [Array.getElem?_eq_none hge] at h
    cases h
theorem Blk.cell (h : Blk w g t cs) (i : Nat) : w.cell? ⟨g, i, none⟩ = cs[i]? := cell_of_row w g i cs t (0, 0) h
theorem Blk.cell_ (h : Blk w g t cs) {i : Nat} {v : Value} (hv : cs[i]? = some v) : w.cell? ⟨g, i, none⟩ = some v := (h.cell i).trans hv
theorem Blk.free (h : Blk w g t cs) (i : Nat) : w.frozen? ⟨g, i, none⟩ = false := by
  unfold Blk at h
  simp [World.frozen?, h]
theorem Blk.new (w : World) (t : TypeId) (cs : Array Value) : Blk (w.alloc (.cells cs t)) w.heap.size t cs := heap_alloc_new w _
theorem Blk.top {w : World} {g : Nat} {t : TypeId} {cs : Array Value} (h : g = w.heap.size) : Blk (w.alloc (.cells cs t)) g t cs := by
  subst h
  exact Blk.new w t cs
theorem Blk.drew (h : Blk w g t cs) : Blk w.drew g t cs := h
theorem Blk.drewN (h : Blk w g t cs) (n : Nat) : Blk (w.drewN n) g t cs := h
theorem Blk.alloc (h : Blk w g t cs) (o : Obj) : Blk (w.alloc o) g t cs := (Below.heap_alloc w o g h.lt).trans h
theorem Blk.set_ (h : Blk w g t cs) (i : Nat) (u : Value) : Blk (w.setCell ⟨g, i, none⟩ u) g t (cs.setIfInBounds i u) := by
  unfold Blk at h ⊢
  simp [World.setCell, Array.getElem?_modify, h]
theorem Blk.far (h : Blk w g t cs) {p : Addr} (hp : g ≠ p.block) (u : Value) : Blk (w.setCell p u) g t cs := (Below.heap_setCell w p u g hp).trans h
theorem Blk.below {B : Nat} (h : Blk w g t cs) (hb : Below B w w') (hg : g < B) : Blk w' g t cs := (hb.block g hg).trans h
theorem Blk.row (h : Blk w g t cs) (cs' : Array Value) : Blk (w.setRow g cs') g t cs' := setRow_heap w g cs cs' t (0, 0) h
theorem Blk.rowFar (h : Blk w g t cs) {k : Nat} (hk : g ≠ k) (cs' : Array Value) : Blk (w.setRow k cs') g t cs := (setRow_other w k g cs' hk).trans h
end

theorem Blk.up {w w' : World} {g : Nat} {t : TypeId} {cs : Array Value} (h : Blk w g t cs) (hb : Below w.heap.size w w') : Blk w' g t cs := h.below hb h.lt
/-- Below the first world's own size: the form that is carried along. -/
def Up (a w : World) : Prop := Below a.heap.size a w
theorem Up.up {a w w' : World} (h : Up a w) (hb : Below w.heap.size w w') : Up a w' := Below.trans h (hb.mono (Below.size h))
theorem Up.refl (w : World) : Up w w := Below.refl _ _
theorem Up.out {a w : World} (h : Up a w) : Below a.heap.size a w := h
theorem Up.le {a w : World} (h : Up a w) : a.heap.size ≤ w.heap.size := Below.size h
theorem Up.drew {a w : World} (h : Up a w) : Up a w.drew := Below.drew h
theorem Up.drewN {a w : World} (h : Up a w) (n : Nat) : Up a (w.drewN n) := by
  have k : Below a.heap.size a w := h
  exact ⟨k.os, k.tape, k.output, k.size, k.block⟩
theorem Up.alloc {a w : World} (h : Up a w) (o : Obj) : Up a (w.alloc o) := Below.alloc h (Below.size h) o
theorem Up.setCell {a w : World} (h : Up a w) {p : Addr} (hp : a.heap.size ≤ p.block) (u : Value) : Up a (w.setCell p u) := Below.setCell h hp u
theorem Up.trans {a b c : World} (h : Up a b) (k : Up b c) : Up a c := Below.trans h (Below.mono k (Below.size h))
theorem below_setRow {B : Nat} {a w : World} (h : Below B a w) {g : Nat} (hg : B ≤ g) (cs : Array Value) : Below B a (w.setRow g cs) :=
  h.trans ⟨rfl, rfl, rfl, by simp, fun k hk => setRow_other w g k cs (by omega)⟩
theorem Up.setRow {a w : World} (h : Up a w) {g : Nat} (hg : a.heap.size ≤ g) (cs : Array Value) : Up a (w.setRow g cs) := below_setRow h hg cs
theorem below_drewN {B : Nat} {a w : World} (h : Below B a w) (n : Nat) : Below B a (w.drewN n) := ⟨h.os, h.tape, h.output, h.size, h.block⟩

/-- A byte as a value. -/
def bV (b : UInt8) : Value := .int .u8 (b.toNat : Int)
/-- Bytes as cells. -/
def bA (l : List UInt8) : Array Value := (l.map bV).toArray
@[simp] theorem bA_size (l : List UInt8) : (bA l).size = l.length := by simp [bA]
theorem bA_get (l : List UInt8) (i : Nat) : (bA l)[i]? = l[i]?.map bV := by simp [bA]
/-- The i-th byte (0 behind the end). -/
def bt (l : List UInt8) (i : Nat) : UInt8 := l.getD i 0
theorem bt_eq (l : List UInt8) (i : Nat) (h : i < l.length) : bt l i = l[i] := by simp [bt, List.getD, h]
theorem bt_get (l : List UInt8) (i : Nat) (h : i < l.length) : l[i]? = some (bt l i) := by rw [bt_eq l i h, List.getElem?_eq_getElem h]
theorem bA_at (l : List UInt8) (i : Nat) (h : i < l.length) : (bA l)[i]? = some (.int .u8 ((bt l i).toNat : Int)) := by
  rw [bA_get, bt_get l i h]
  rfl
theorem bA_set (l : List UInt8) (i : Nat) (b : UInt8) : (bA l).setIfInBounds i (.int .u8 (b.toNat : Int)) = bA (l.set i b) := by
  simp only [bA, List.setIfInBounds_toArray, List.map_set, bV]
theorem bA_one (l : List UInt8) : (bA l).all (·.oneCell') = true := by
  simp [bA, bV, Value.oneCell']
theorem byte_bd (b : UInt8) : 0 ≤ (b.toNat : Int) ∧ (b.toNat : Int) ≤ 255 := by
  have := b.toNat_lt
  omega

theorem xor_u8 (a b : UInt8) : bits .xor .u8 (a.toNat : Int) (b.toNat : Int) = ((a ^^^ b).toNat : Int) := by
  have hx : a.toNat ^^^ b.toNat < 2 ^ 8 := Nat.xor_lt_two_pow a.toNat_lt b.toNat_lt
  show IntKind.u8.wrap ((BitVec.ofInt 8 (a.toNat : Int) ^^^ BitVec.ofInt 8 (b.toNat : Int)).toNat : Int) = _
  rw [BitVec.ofInt_natCast, BitVec.ofInt_natCast, BitVec.toNat_xor, BitVec.toNat_ofNat, BitVec.toNat_ofNat, Nat.mod_eq_of_lt a.toNat_lt, Nat.mod_eq_of_lt b.toNat_lt, UInt8.toNat_xor]
  simp only [IntKind.wrap, IntKind.signed, IntKind.bits]
  simp
  omega
/-- Two lists' bytes, exclusive-or each other. -/
def xorL (a b : List UInt8) : List UInt8 := List.zipWith (· ^^^ ·) a b
theorem step_xor (a b : List UInt8) (k : Nat) (h : a.length = b.length) (hk : k < a.length) :
    (xorL (a.take k) (b.take k) ++ a.drop k).set k (bt a k ^^^ bt b k) = xorL (a.take (k + 1)) (b.take (k + 1)) ++ a.drop (k + 1) := by
  have hb : k < b.length := by omega
  have e1 : a.take (k + 1) = a.take k ++ [a[k]] := by rw [List.take_succ_eq_append_getElem hk]
  have e2 : b.take (k + 1) = b.take k ++ [b[k]] := by rw [List.take_succ_eq_append_getElem hb]
  have e3 : a.drop k = a[k] :: a.drop (k + 1) := List.drop_eq_getElem_cons hk
  have hl : (xorL (a.take k) (b.take k)).length = k := by simp [xorL]; omega
  rw [List.set_append_right _ _ (by omega), hl, Nat.sub_self, e3, List.set_cons_zero, e1, e2]
  unfold xorL
  rw [List.zipWith_append (by simp; omega)]
  simp [bt_eq, hk, hb]
theorem xorL_full (a b : List UInt8) (h : a.length = b.length) : xorL (a.take a.length) (b.take a.length) ++ a.drop a.length = xorL a b := by
  rw [List.take_length, List.drop_length, List.append_nil, h, List.take_length]
theorem xorL_length (a b : List UInt8) (h : a.length = b.length) : (xorL a b).length = a.length := by simp [xorL, h]
/-- An array of one-cell numbers by value, read at an index. -/
theorem run_index_arr {P : Program} {t e : TypeId} {n : Nat} {kd : IntKind} {cs : Array Value} {i : Nat} {v : Value} (ht : P.underlying t = some (.array n e)) (he : P.underlying e = some (.int kd))
    (hs : (P.info? e).map (·.size) = some 1) (hn : i < n) (hv : cs[i]? = some v) (w : World) : (Instr.index t (.agg cs) (.int .i64 (i : Int))).run P w = .ok v w := by
  cases hq : P.info? e with
  | none => simp [hq] at hs
  | some j =>
    have h1 : j.size = 1 := by simpa [hq] using hs
    simp [Instr.index, asIntOf, Sem.run_bind, run_underlying ht, run_underlying he, sizeOf, typeInfo, hq, h1, part, isAgg, hv]
    intro hni
    omega
theorem bt_xor_mid (a b : List UInt8) (k : Nat) (h : a.length = b.length) (hk : k < a.length) : bt (xorL (a.take k) (b.take k) ++ a.drop k) k = bt a k := by
  have hl : (xorL (a.take k) (b.take k)).length = k := by simp [xorL]; omega
  unfold bt
  simp only [List.getD, List.getElem?_append_right (Nat.le_of_eq hl), hl, Nat.sub_self, List.getElem?_drop, Nat.add_zero]
theorem take_bt (a b : List UInt8) (k : Nat) (ha : k < a.length) (hb : k < b.length) (h : a.take k = b.take k) (hx : bt a k = bt b k) : a.take (k + 1) = b.take (k + 1) := by
  rw [List.take_succ_eq_append_getElem ha, List.take_succ_eq_append_getElem hb, h, ← bt_eq a k ha, ← bt_eq b k hb, hx]
theorem ne_bt {a b : List UInt8} {k : Nat} (hx : ¬ bt a k = bt b k) : a ≠ b := fun e => hx (by rw [e])

/-- A 32-bit word as a value. -/
def wV (b : UInt32) : Value := .int .u32 (b.toNat : Int)
/-- Words as cells. -/
def wA (l : List UInt32) : Array Value := (l.map wV).toArray
@[simp] theorem wA_size (l : List UInt32) : (wA l).size = l.length := by simp [wA]
theorem wA_get (l : List UInt32) (i : Nat) : (wA l)[i]? = l[i]?.map wV := by simp [wA]
/-- The i-th word (0 behind the end). -/
def wt (l : List UInt32) (i : Nat) : UInt32 := l.getD i 0
theorem wt_eq (l : List UInt32) (i : Nat) (h : i < l.length) : wt l i = l[i] := by simp [wt, List.getD, h]
theorem wt_get (l : List UInt32) (i : Nat) (h : i < l.length) : l[i]? = some (wt l i) := by rw [wt_eq l i h, List.getElem?_eq_getElem h]
theorem wA_at (l : List UInt32) (i : Nat) (h : i < l.length) : (wA l)[i]? = some (.int .u32 ((wt l i).toNat : Int)) := by
  rw [wA_get, wt_get l i h]
  rfl
theorem wA_set (l : List UInt32) (i : Nat) (b : UInt32) : (wA l).setIfInBounds i (.int .u32 (b.toNat : Int)) = wA (l.set i b) := by
  simp only [wA, List.setIfInBounds_toArray, List.map_set, wV]
theorem wA_one (l : List UInt32) : (wA l).all (·.oneCell') = true := by
  simp [wA, wV, Value.oneCell']
theorem take_wt (a b : List UInt32) (k : Nat) (ha : k < a.length) (hb : k < b.length) (h : a.take k = b.take k) (hx : wt a k = wt b k) : a.take (k + 1) = b.take (k + 1) := by
  rw [List.take_succ_eq_append_getElem ha, List.take_succ_eq_append_getElem hb, h, ← wt_eq a k ha, ← wt_eq b k hb, hx]
theorem ne_wt {a b : List UInt32} {k : Nat} (hx : ¬ wt a k = wt b k) : a ≠ b := fun e => hx (by rw [e])
theorem u32_wrap (n : Nat) : IntKind.u32.wrap (n : Int) = ((UInt32.ofNat n).toNat : Int) := by
  simp only [IntKind.wrap, IntKind.signed, IntKind.bits, UInt32.toNat_ofNat']
  simp
theorem u8_wrap (n : Nat) : IntKind.u8.wrap (n : Int) = ((UInt8.ofNat n).toNat : Int) := by
  simp only [IntKind.wrap, IntKind.signed, IntKind.bits, UInt8.toNat_ofNat']
  simp
theorem word_bd (b : UInt32) : 0 ≤ (b.toNat : Int) ∧ (b.toNat : Int) ≤ 4294967295 := by
  have := b.toNat_lt
  omega

/-- n elements, of which the first k are filled. -/
def fillTo {α : Type} (f : Nat → α) (k n : Nat) (z : α) : List α := (List.range n).map fun i => if i < k then f i else z
theorem fill_length {α : Type} (f : Nat → α) (k n : Nat) (z : α) : (fillTo f k n z).length = n := by simp [fillTo]
theorem fill_zero {α : Type} (f : Nat → α) (n : Nat) (z : α) : fillTo f 0 n z = List.replicate n z := by
  apply List.ext_getElem?
  intro i
  simp only [fillTo, Nat.not_lt_zero, if_false, List.getElem?_map, List.getElem?_range', List.getElem?_replicate]
  by_cases h : i < n
  · simp [h]
  · simp [h]
theorem fill_set {α : Type} (f : Nat → α) (k n : Nat) (z : α) : (fillTo f k n z).set k (f k) = fillTo f (k + 1) n z := by
  apply List.ext_getElem?
  intro i
  simp only [fillTo, List.getElem?_set, List.length_map, List.length_range, List.getElem?_map]
  by_cases h : k = i
  · subst h
    by_cases hn : k < n
    · simp [hn]
    · simp [hn]
  · simp only [h, if_false]
    by_cases hn : i < n
    · simp only [List.getElem?_range, hn, Option.map_some]
      by_cases h2 : i < k
      · simp [h2, show i < k + 1 by omega]
      · simp [h2, show ¬ i < k + 1 by omega]
    · simp [hn]
theorem fill_full {α : Type} (f : Nat → α) (n : Nat) (z : α) : fillTo f n n z = (List.range n).map f := by
  unfold fillTo
  apply List.map_congr_left
  intro i hi
  simp at hi
  simp [hi]
theorem map_bt (l : List UInt8) (n : Nat) (h : l.length = n) : (List.range n).map (bt l) = l := by
  subst h
  apply List.ext_getElem
  · simp
  · intro i h1 h2
    simp [bt_eq l i h2]
theorem map_wt (l : List UInt32) (n : Nat) (h : l.length = n) : (List.range n).map (wt l) = l := by
  subst h
  apply List.ext_getElem
  · simp
  · intro i h1 h2
    simp [wt_eq l i h2]

end Go.Proofs.YtmbhaoiahlbglaaDoor

/- Walks: nodes of maps as bytes. -/
import Derived.Test.YtcldkllllojgpaaHVe
import Derived.Lib.SmallJoins
namespace Go.Proofs.Ytcldkllllojgpaa
open Go.RowKit
set_option linter.unusedVariables false
set_option linter.unusedSimpArgs false

theorem bLk_take (k : List UInt8) (hk : k.length = 32) (n : Nat) (h : 32 ≤ n) : List.take n (bL k) = bL k := List.take_of_length_le (by simp [bL_length, hk]; exact h)
theorem bLk_drop (k : List UInt8) (hk : k.length = 32) (n : Nat) (h : 32 ≤ n) : List.drop n (bL k) = [] := List.drop_of_length_le (by simp [bL_length, hk]; exact h)
theorem nod_size (l r : List UInt8) (hl : l.length = 32) (hr : r.length = 32) (n v : ByteArray) : (nodC l r n v).size = 66 := by simp [nodC, bL_length, hl, hr]
theorem nod_set0 (l r : List UInt8) (hl : l.length = 32) (hr : r.length = 32) (n v : ByteArray) (x : List UInt8) (hx : x.length = 32) : putC (bL x) 0 (nodC l r n v) = nodC x r n v := by
  unfold nodC
  rw [putC_list _ _ _ (by simp [bL_length, hl, hx])]
  simp [bL_length, hl, hx, List.append_assoc, List.drop_append, bLk_drop _ hl]
theorem nod_set1 (l r : List UInt8) (hl : l.length = 32) (hr : r.length = 32) (n v : ByteArray) (x : List UInt8) (hx : x.length = 32) : putC (bL x) 32 (nodC l r n v) = nodC l x n v := by
  unfold nodC
  rw [putC_list _ _ _ (by simp [bL_length, hl, hr, hx])]
  simp [bL_length, hl, hr, hx, List.append_assoc, List.take_append, List.drop_append, bLk_take _ hl, bLk_drop _ hl, bLk_drop _ hr]
theorem nod_setE (l r : List UInt8) (hl : l.length = 32) (hr : r.length = 32) (n v : ByteArray) (n' v' : ByteArray) : putC [.string n', .string v'] 64 (nodC l r n v) = nodC l r n' v' := by
  unfold nodC
  rw [putC_list _ _ _ (by simp [bL_length, hl, hr])]
  simp [bL_length, hl, hr, List.append_assoc, List.take_append, List.drop_append, bLk_take _ hl, bLk_take _ hr, bLk_drop _ hl, bLk_drop _ hr]
theorem nod_64 (l r : List UInt8) (hl : l.length = 32) (hr : r.length = 32) (n v : ByteArray) : (nodC l r n v)[64]? = some (.string n) := by
  simp only [nodC, List.getElem?_toArray, List.append_assoc]
  rw [List.getElem?_append_right (by simp [bL_length, hl]), List.getElem?_append_right (by simp [bL_length, hl, hr])]
  simp [bL_length, hl, hr]
theorem nod_65 (l r : List UInt8) (hl : l.length = 32) (hr : r.length = 32) (n v : ByteArray) : (nodC l r n v)[65]? = some (.string v) := by
  simp only [nodC, List.getElem?_toArray, List.append_assoc]
  rw [List.getElem?_append_right (by simp [bL_length, hl]), List.getElem?_append_right (by simp [bL_length, hl, hr])]
  simp [bL_length, hl, hr]
theorem nod_get0 (l r : List UInt8) (hl : l.length = 32) (hr : r.length = 32) (n v : ByteArray) : ∀ (j : Nat) (u : Value), (bL l)[j]? = some u → (nodC l r n v)[0 + j]? = some u := by
  intro j u h
  have hj := (List.getElem?_eq_some_iff.1 h).1
  rw [bL_length, hl] at hj
  simp only [nodC, List.getElem?_toArray, List.append_assoc, Nat.zero_add]
  rw [List.getElem?_append_left (by simp [bL_length, hl]; omega)]
  exact h
theorem nod_get1 (l r : List UInt8) (hl : l.length = 32) (hr : r.length = 32) (n v : ByteArray) : ∀ (j : Nat) (u : Value), (bL r)[j]? = some u → (nodC l r n v)[32 + j]? = some u := by
  intro j u h
  have hj := (List.getElem?_eq_some_iff.1 h).1
  rw [bL_length, hr] at hj
  simp only [nodC, List.getElem?_toArray, List.append_assoc]
  rw [List.getElem?_append_right (by simp [bL_length, hl]), List.getElem?_append_left (by simp [bL_length, hl, hr]; omega)]
  simpa [bL_length, hl] using h
theorem nod_getE (l r : List UInt8) (hl : l.length = 32) (hr : r.length = 32) (n v : ByteArray) : ∀ (j : Nat) (u : Value), (bE (n, v))[j]? = some u → (nodC l r n v)[64 + j]? = some u := by
  intro j u h
  have hj := (List.getElem?_eq_some_iff.1 h).1
  have hj2 : j < 2 := hj
  simp only [nodC, List.getElem?_toArray, List.append_assoc]
  rw [List.getElem?_append_right (by simp [bL_length, hl]; omega), List.getElem?_append_right (by simp [bL_length, hl, hr]; omega)]
  simpa [bL_length, hl, hr, bE, show 64 + j - 32 - 32 = j by omega] using h
theorem nod_one (l r : List UInt8) (hl : l.length = 32) (hr : r.length = 32) (n v : ByteArray) : (nodC l r n v).all (·.oneCell') = true := by simp [nodC, bL, bV, Value.oneCell']
theorem nodZ_size : (nodC zero32 zero32 ByteArray.empty ByteArray.empty).size = 66 := nod_size _ _ rfl rfl _ _
theorem nod_seti0 (l r : List UInt8) (hl : l.length = 32) (n v : ByteArray) (k : Nat) (hk : k < 32) (x : UInt8) : (nodC l r n v).setIfInBounds k (.int .u8 (x.toNat : Int)) = nodC (l.set k x) r n v := by
  show (nodC l r n v).setIfInBounds k (bV x) = _
  unfold nodC
  rw [List.setIfInBounds_toArray, List.append_assoc, List.set_append_left _ _ (by rw [bL_length, hl]; exact hk)]
  simp [bL, List.map_set]
theorem nod_seti1 (l r : List UInt8) (hl : l.length = 32) (hr : r.length = 32) (n v : ByteArray) (k : Nat) (hk : k < 32) (x : UInt8) : (nodC l r n v).setIfInBounds (32 + k) (.int .u8 (x.toNat : Int)) = nodC l (r.set k x) n v := by
  show (nodC l r n v).setIfInBounds (32 + k) (bV x) = _
  unfold nodC
  rw [List.setIfInBounds_toArray, List.append_assoc, List.set_append_right _ _ (by rw [bL_length, hl]; omega), bL_length, hl, Nat.add_sub_cancel_left, List.set_append_left _ _ (by rw [bL_length, hr]; exact hk)]
  simp [bL, List.map_set]
/-- A node: two keys, a name, a value. -/
abbrev Nd := Ky × Ky × ByteArray × ByteArray
def nodV (x : Nd) : Array Value := nodC x.1.1 x.2.1.1 x.2.2.1 x.2.2.2
def zeroNd : Nd := (zeroKy, zeroKy, ByteArray.empty, ByteArray.empty)
theorem nodV_size (x : Nd) : (nodV x).size = 66 := nod_size _ _ x.1.2 x.2.1.2 _ _
theorem nodV_one (x : Nd) : (nodV x).all (·.oneCell') = true := nod_one _ _ x.1.2 x.2.1.2 _ _
/-- Bytes as a text. -/
def txt (l : List UInt8) : ByteArray := ⟨l.toArray⟩
theorem txt_size (l : List UInt8) : (txt l).size = l.length := by simp [txt, ByteArray.size]
section
variable {P : Program} {ops : Array Oper} {rest : List Oper} {o : Oper} {a : Act} {w0 w : World} {Q : Exit → Act → World → Prop} {L : List It} {F : Value → World → Prop}
theorem rd_text {src dst e : TypeId} {v : Value} {n : Nat} {l : List UInt8} (hn : l.length = n) (hs : P.underlying src = some (.slice e)) (he : P.underlying e = some (.int .u8)) (hd : P.underlying dst = some .string) (h : Rd w 1 v n (bL l)) : (convert src dst v).run P w = .ok (.string (txt l)) w := by
  subst hn
  obtain ⟨a, cap, rfl, hm, hc⟩ := h.rdb
  cases a with
  | none =>
    have : l = [] := by
      rcases l with _ | ⟨b, l⟩
      · rfl
      · obtain ⟨p, hp, -⟩ := hc 0 (by simp)
        cases hp
    subst this
    exact Lib.run_convert_nil_bytes w src dst e cap hs he hd
  | some p =>
    refine run_convert_bytes_back w src dst e p cap l hs he hd (fun j hj => ?_)
    obtain ⟨q, hq, -, h3⟩ := hc j hj
    obtain rfl := Option.some.inj hq
    rw [h3, bt_eq l j hj]
theorem st_text {src dst e : TypeId} {x : Operand} (ho : o.op = .convert src dst x) {v : Value} (hx : a.eval x = v) {n : Nat} {l : List UInt8} (hn : l.length = n) (hs : P.underlying src = some (.slice e)) (he : P.underlying e = some (.int .u8)) (hd : P.underlying dst = some .string) (h : Rd w 1 v n (bL l)) (hF : F (.string (txt l)) w) : St P o a w Q F := by
  refine st_run (v := .string (txt l)) ?_ hF
  unfold execOp
  simp only [ho, hx, Sem.run_bind, rd_text hn hs he hd h, Result.andThen_ok, Sem.run_pure]
theorem st_arr {t : TypeId} {x : Operand} (ho : o.op = .sliceToArrayPointer t x) {n : Nat} {e : TypeId} (ht : P.underlying t = some (.array n e)) {b : Option Addr} {m cap : Nat} (hx : a.eval x = .slice b m cap) (hm : n ≤ m) (hF : F (.pointer b) w) : St P o a w Q F := by
  refine st_run (v := .pointer b) ?_ hF
  have hr : (Instr.arrayAt t (.slice b m cap)).run P w = .ok (.pointer b) w := by simp [Instr.arrayAt, run_underlying ht, Nat.not_lt.2 hm]
  unfold execOp
  simp only [ho, hx, Sem.run_bind, hr, Result.andThen_ok, Sem.run_pure]
theorem st_slLH {t : TypeId} {x y u : Operand} (ho : o.op = .slice t x (some y) (some u) none) {e : TypeId} [ht : SliceT P t e] {size bytes : Nat} {z : Value} [he : ElT P e size bytes z] {b : Option Addr} {cap n : Nat} (l h : Nat) {xs : List Value}
    (hx : a.eval x = .slice b n cap) (hy : a.eval y = .int .i64 (l : Int)) (hu : a.eval u = .int .i64 (h : Int)) (hr : Rd w size (.slice b n cap) n xs) (hl : l ≤ h) (hh : h ≤ n) (hF : ∀ v, Rd w size v (h - l) ((xs.drop (l * size)).take ((h - l) * size)) → F v w) : St P o a w Q F := by
  have hc := hr.len_
  have hrun := run_slice_ (P := P) ht he b n cap l h hl (by omega) (some (.int .i64 (l : Int))) (some (.int .i64 (h : Int))) rfl rfl w
  refine st_run (v := _) ?_ (hF _ (hr.slice_ l h hl hh))
  unfold execOp
  rw [ho]
  simp only [hx, hy, hu, Option.map_some, Option.map_none]
  rw [Sem.run_bind, hrun]
  rfl
theorem st_slL' {t : TypeId} {x y : Operand} (ho : o.op = .slice t x (some y) none none) {e : TypeId} [ht : SliceT P t e] {size bytes : Nat} {z : Value} [he : ElT P e size bytes z] {b : Option Addr} {cap n : Nat} (l : Nat) {xs : List Value}
    (hx : a.eval x = .slice b n cap) (hy : a.eval y = .int .i64 (l : Int)) (hr : Rd w size (.slice b n cap) n xs) (hl : l ≤ n) (hF : ∀ v, Rd w size v (n - l) (xs.drop (l * size)) → F v w) : St P o a w Q F := by
  have hc := hr.len_
  have hrun := run_slice_ (P := P) ht he b n cap l n hl (by omega) (some (.int .i64 (l : Int))) none rfl rfl w
  have hR := hr.slice_ l n hl (Nat.le_refl _)
  rw [List.take_of_length_le (by rw [List.length_drop, hc.2.2, ← Nat.sub_mul]; exact Nat.le_refl _)] at hR
  refine st_run (v := _) ?_ (hF _ hR)
  unfold execOp
  rw [ho]
  simp only [hx, hy, Option.map_some, Option.map_none]
  rw [Sem.run_bind, hrun]
  rfl
theorem st_buildN {t : TypeId} {parts : Array (Nat × Operand)} (ho : o.op = .build t parts) {cells : Array Value} (hf : P.built t (parts.map fun p => (p.1, a.eval p.2)).toList = some cells) (hF : F (.agg cells) w) : St P o a w Q F := by
  refine st_run (v := .agg cells) ?_ hF
  unfold execOp
  rw [ho]
  simp only
  rw [Sem.run_bind, run_build w t _ _ hf]
  rfl
theorem st_build2 {t : TypeId} {x0 x1 : Operand} (ho : o.op = .build t #[(0, x0), (1, x1)]) {v0 v1 : Value} (h0 : a.eval x0 = v0) (h1 : a.eval x1 = v1) {cells : Array Value} (hb : P.built t [(0, v0), (1, v1)] = some cells) (hF : F (.agg cells) w) : St P o a w Q F :=
  st_buildN ho (by simpa [h0, h1] using hb) hF
theorem st_build3 {t : TypeId} {x0 x1 x2 : Operand} (ho : o.op = .build t #[(0, x0), (1, x1), (2, x2)]) {v0 v1 v2 : Value} (h0 : a.eval x0 = v0) (h1 : a.eval x1 = v1) (h2 : a.eval x2 = v2) {cells : Array Value} (hb : P.built t [(0, v0), (1, v1), (2, v2)] = some cells) (hF : F (.agg cells) w) : St P o a w Q F :=
  st_buildN ho (by simpa [h0, h1, h2] using hb) hF
theorem wpList_wantN (hw : Region.wanted o (yielded ops a.tmps) = true) (h : o.wp P a w (wpList P ops Q rest) Q) : wpList P ops Q (o :: rest) a w := by
  unfold wpList
  rw [if_pos hw]
  exact .inl h
theorem m_load1w (hgd : Region.wanted o (yielded ops a.tmps) = true) {ty : TypeId} {x : Operand} (ho : o.op = .load ty x) {g i : Nat} (hx : a.eval x = .pointer (some ⟨g, i, none⟩)) [hT : OneT P ty] {v : Value} (hc : w.cell? ⟨g, i, none⟩ = some v)
    (h : wpList P ops Q rest (a.put o.dst v) w) : wpList P ops Q (o :: rest) a w := by
  obtain ⟨d, h1, h2, _⟩ := hT.out
  refine wpList_wantN hgd ?_
  unfold Oper.wp execOp
  simp only [ho, hx, Sem.run_bind, run_loadAt_one h1 h2 hc, Result.andThen_ok, Sem.run_pure]
  exact h
/-- Bytes out of the middle of a block. -/
theorem m_loadB (M : Mem w0 w L) (hgd : o.guard = none) {ty : TypeId} {x : Operand} (ho : o.op = .load ty x) {g i : Nat} (hx : a.eval x = .pointer (some ⟨g, i, none⟩)) {n : Nat} [hT : RowT P ty n]
    {p : Nat} {t : TypeId} {cs : Array Value} [hL : AtG L g p t cs] {l : List UInt8} (hc : ∀ (j : Nat) (v : Value), (bL l)[j]? = some v → cs[i + j]? = some v) (hn : l.length = n)
    (h : wpList P ops Q rest (a.put o.dst (.agg (bA l))) w) : wpList P ops Q (o :: rest) a w := m_loadP M hgd ho hx hc (by rw [bL_length, hn]) h
/-- An entry out of the middle of a block. -/
theorem m_loadE (M : Mem w0 w L) (hgd : o.guard = none) {ty : TypeId} {x : Operand} (ho : o.op = .load ty x) {g i : Nat} (hx : a.eval x = .pointer (some ⟨g, i, none⟩)) [hT : RowT P ty 2]
    {p : Nat} {t : TypeId} {cs : Array Value} [hL : AtG L g p t cs] {e : En} (hc : ∀ (j : Nat) (v : Value), (bE e)[j]? = some v → cs[i + j]? = some v)
    (h : wpList P ops Q rest (a.put o.dst (.agg (entC e.1 e.2))) w) : wpList P ops Q (o :: rest) a w := m_loadP M hgd ho hx hc rfl h
end
/-- A part written by a literal. -/
theorem fill_cons (place : Nat → Option (Nat × Nat)) (cs : Array Value) (i : Nat) (v : Value) (rest : List (Nat × Value)) (off size : Nat) (hp : place i = some (off, size)) (hs : v.cells.size = size) (hb : off + size ≤ cs.size) :
    Instr.fill place cs ((i, v) :: rest) = Instr.fill place (putC v.cells.toList off cs) rest := by
  have key : ∀ (l : List Value) (k : Nat) (c : Array Value), (l.zipIdx k).foldl (fun cs (x : Value × Nat) => cs.setIfInBounds (off + x.2) x.1) c = putC l (off + k) c := by
    intro l
    induction l with
    | nil => intro k c; rfl
    | cons u l ih => intro k c; simp only [List.zipIdx_cons, List.foldl_cons]; rw [ih, putC, Nat.add_assoc]
  conv => lhs; unfold Instr.fill
  simp only [hp]
  rw [if_neg (by simp [hs]; exact hb)]
  rw [← Array.foldl_toList, Array.toList_zipIdx, key, Nat.add_zero]
theorem built_ent (n v : ByteArray) : Try.prog.built 37 [(0, .string n), (1, .string v)] = some (entC n v) := by kernel_rfl
theorem built_nodP (parts : List (Nat × Value)) : Try.prog.built 39 parts = Instr.fill (#[(0, 32), (32, 32), (64, 2)][·]?) (nodC zeroKy.1 zeroKy.1 ByteArray.empty ByteArray.empty) parts := by kernel_rfl
theorem built_nod (l r : List UInt8) (hl : l.length = 32) (hr : r.length = 32) (n v : ByteArray) : Try.prog.built 39 [(0, .agg (bA l)), (1, .agg (bA r)), (2, .agg (entC n v))] = some (nodC l r n v) := by
  have hc : ∀ k : List UInt8, (Value.agg (bA k)).cells.toList = bL k := fun _ => rfl
  have hs : ∀ k : List UInt8, k.length = 32 → (Value.agg (bA k)).cells.size = 32 := fun k h => by show (bA k).size = 32; simp [h]
  have hz : (nodC zeroKy.1 zeroKy.1 ByteArray.empty ByteArray.empty).size = 66 := nod_size _ _ rfl rfl _ _
  rw [built_nodP, fill_cons _ _ _ _ _ 0 32 rfl (hs l hl) (by rw [hz]; omega), fill_cons _ _ _ _ _ 32 32 rfl (hs r hr) (by rw [putC_size, hz]; omega), fill_cons _ _ _ _ _ 64 2 rfl rfl (by rw [putC_size, putC_size, hz]; omega), hc, hc,
    nod_set0 _ _ rfl rfl _ _ l hl, nod_set1 _ _ hl rfl _ _ r hr, show (Value.agg (entC n v)).cells.toList = [.string n, .string v] from rfl, nod_setE _ _ hl hr]
  rfl
theorem fill_cut (l : List UInt8) (at_ : Nat) (hat : at_ + 32 ≤ l.length) : fillTo (fun i => bt l (at_ + i)) 32 32 0 = cutL l at_ 32 := by
  rw [fill_full, ← map_bt (cutL l at_ 32) 32 (cutL_len l _ _ hat)]
  exact List.map_congr_left fun i hi => (cutL_bt l _ _ _ (by simpa using hi)).symm
theorem bin_addI (x y z : Int) (h : IntKind.wrap .i64 (x + y) = z) (a b : Operand) (w : World) : Sem.run Try.prog (do eqGuard .add 3 a b (.int .i64 x) (.int .i64 y); binOp .add 3 (.int .i64 x) (.int .i64 y)) w = .ok (.int .i64 z) w := by
  go_simp
  try rw [h]
theorem sl_cut {d : List UInt8} {v : Value} {wx : World} {q : Nat} (h : Rd wx 1 v (65 + q - 65) (((bL d).drop (65 * 1)).take ((65 + q - 65) * 1))) : Rd wx 1 v q (bL (cutL d 65 q)) := by
  rw [Nat.add_sub_cancel_left, Nat.mul_one, Nat.mul_one] at h
  rwa [show bL (cutL d 65 q) = List.take q (List.drop 65 (bL d)) by simp [bL, cutL, List.map_take, List.map_drop]]
theorem sl_drop {d : List UInt8} {v : Value} {wx : World} {q m : Nat} (h : Rd wx 1 v m ((bL d).drop (q * 1))) : Rd wx 1 v m (bL (d.drop q)) := by
  rw [Nat.mul_one] at h
  rwa [show bL (d.drop q) = List.drop q (bL d) by simp [bL, List.map_drop]]

end Go.Proofs.Ytcldkllllojgpaa

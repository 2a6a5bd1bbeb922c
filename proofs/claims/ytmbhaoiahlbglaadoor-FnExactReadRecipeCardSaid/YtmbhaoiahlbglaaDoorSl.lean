/- Small lemmas on slices of bytes that a call made itself. No conditions beyond those each lemma states. -/
import Derived.Test.YtmbhaoiahlbglaaDoorBase
import Derived.Laws.IdiomStrings
import Derived.Lib.BufferRead
import Derived.OwnWalk
namespace Go.Proofs.YtmbhaoiahlbglaaDoor
open Go.RowKit
set_option linter.unusedVariables false
set_option linter.unusedSimpArgs false

/-- Bytes as a list of cells. -/
def bL (l : List UInt8) : List Value := l.map bV
theorem bL_length (l : List UInt8) : (bL l).length = l.length := by simp [bL]
theorem bL_append (a b : List UInt8) : bL a ++ bL b = bL (a ++ b) := by simp [bL]
theorem bL_one (l : List UInt8) : ∀ u ∈ bL l, u.oneCell' = true := by
  intro u hu
  simp only [bL, List.mem_map] at hu
  obtain ⟨b, _, rfl⟩ := hu
  rfl
theorem bL_get (l : List UInt8) (i : Nat) (h : i < l.length) : (bL l)[i]? = some (.int .u8 ((bt l i).toNat : Int)) := by
  simp only [bL, List.getElem?_map, bt_get l i h, Option.map_some]
  rfl

section
variable {P : Program} {w w' : World} {base : Nat} {e : TypeId} {v : Value} {n : Nat}
/-- string(b) of a slice of the call's own. -/
theorem own_string {src dst : TypeId} {l : List UInt8} (hs : P.underlying src = some (.slice e)) (he : P.underlying e = some (.int .u8)) (hd : P.underlying dst = some .string)
    (h : w.ownsRow base e 1 v n (bL l)) : (convert src dst v).run P w = .ok (.string ⟨l.toArray⟩) w := by
  obtain ⟨h1, h2⟩ := h
  rw [bL_length, Nat.mul_one] at h1
  rcases h2 with ⟨rfl, rfl⟩ | ⟨g, cap, cur, rfl, hg, hb, hn, hm, hsz, htk⟩
  · have : l = [] := List.eq_nil_of_length_eq_zero h1
    subst this
    exact Lib.run_convert_nil_bytes w src dst e 0 hs he hd
  · subst h1
    refine run_convert_bytes_back w src dst e ⟨g, 0, none⟩ cap l hs he hd (fun j hj => ?_)
    have hadd : (⟨g, 0, none⟩ : Addr).add j = ⟨g, j, none⟩ := by unfold Addr.add; split <;> simp_all
    rw [hadd, cell_of_row w g j cur e (0, 0) hb]
    have : (cur.toList.take (l.length * 1))[j]? = some (bV l[j]) := by
      rw [htk]
      simp [bL, hj]
    rw [List.getElem?_take] at this
    rw [if_pos (by omega)] at this
    simpa [bV] using this
/-- A row of the call's own is kept where the world has grown above. -/
theorem own_up {xs : List Value} {size : Nat} (h : w.ownsRow base e size v n xs) (hb : Below w.heap.size w w') : w'.ownsRow base e size v n xs := by
  obtain ⟨h1, h2⟩ := h
  refine ⟨h1, ?_⟩
  rcases h2 with h2 | ⟨g, cap, cur, hv, hg, hh, r⟩
  · exact .inl h2
  · have hlt : g < w.heap.size := by
      rcases Nat.lt_or_ge g w.heap.size with h' | h'
      · exact h'
      · rw [Array.getElem?_eq_none h'] at hh
        cases hh
    exact .inr ⟨g, cap, cur, hv, hg, (hb.block g hlt).trans hh, r⟩
theorem Up.grown {a : World} {row : Option Nat} (h : Up a w) (hg : w.grownBy w' row) (hr : ∀ k, row = some k → a.heap.size ≤ k) : Up a w' := Below.grown h hg (Below.size h) hr
theorem Blk.grown {g : Nat} {t : TypeId} {cs : Array Value} {row : Option Nat} (h : Blk w g t cs) (hg : w.grownBy w' row) (hr : some g ≠ row) : Blk w' g t cs := (hg.block g h.lt hr).trans h
theorem own_block_ge {xs : List Value} {size : Nat} (h : w.ownsRow base e size v n xs) : ∀ k, v.ownBlock = some k → base ≤ k := fun k hk => (h.lt k hk).1
end

section
variable {P : Program} {w : World}
theorem ne_own {base g : Nat} {e : TypeId} {v : Value} {n size : Nat} {xs : List Value} (h : w.ownsRow base e size v n xs) (hg : g < base) : some g ≠ v.ownBlock := fun he => by
  have := own_block_ge h g he.symm
  omega
theorem own_start {base g : Nat} {e : TypeId} {size : Nat} (hg : base ≤ g) (hb : Blk w g e #[]) : w.ownsRow base e size (.slice (some ⟨g, 0, none⟩) 0 0) 0 [] :=
  ⟨by simp, .inr ⟨g, 0, #[], rfl, hg, hb, Nat.le_refl _, by simp [maxLen], by simp, by simp⟩⟩
/-- append of bytes that lie in a block of their own to a row of the call's own. -/
theorem app_bytes {ops : Array Oper} {rest : List Oper} {o : Oper} {a : Act} {Q : Exit → Act → World → Prop} (hgd : o.guard = none) (s x : Operand) (t : TypeId)
    (ho : o.op = .call { callee := .builtin .append, args := #[s, x], argTypes := #[t, t] }) (base : Nat) {e : TypeId} (ht : P.underlying t = some (.slice e))
    (hI : (P.info? e).map (fun i => (i.zero, i.size, i.bytes)) = some (some (.int .u8 0), 1, 1)) {v : Value} {n : Nat} {l : List UInt8} (hown : w.ownsRow base e 1 v n (bL l)) (hs : a.eval s = v)
    {g m c : Nat} {cs : Array Value} {news : List UInt8} (hx : a.eval x = .slice (some ⟨g, 0, none⟩) m c) (hb : Blk w g e cs) (hcs : cs = bA news) (hm : m = news.length) (hn : n + m ≤ 1000000000) (hbase : base ≤ w.heap.size)
    (h : ∀ v' w', w'.ownsRow base e 1 v' (n + m) (bL (l ++ news)) → w.grownBy w' v.ownBlock → wpList P ops Q rest (a.put o.dst v') w') : wpList P ops Q (o :: rest) a w := by
  obtain ⟨i0, hi0, hz0, hz1, hz2⟩ := info_parts hI
  subst hcs
  subst hm
  refine wpList_append_own w hgd s x t ho base e i0 (.int .u8 0) 1 1 ht hi0 hz0 hz1 hz2 rfl (by decide) v n (bL l) hs hown ⟨g, 0, none⟩ news.length c (bL news) hx (by simp [bL]) ?_ (bL_one _) (by simp only [maxLen]; omega) (by omega) hbase ?_
  · intro j u hj
    have hadd : (⟨g, 0, none⟩ : Addr).add j = ⟨g, j, none⟩ := by unfold Addr.add; split <;> simp_all
    rw [hadd, hb.cell j, ← hj]
    simp [bA, bL]
  · intro v' w' h1 h2 _
    rw [bL_append] at h1
    exact h v' w' h1 h2
/-- The same, as an operation of a region that draws its order. -/
theorem step_app_bytes {ops : Array Oper} {o : Oper} {a : Act} {K : Act → World → Prop} {Q : Exit → Act → World → Prop} {E : Prop} (hgd : o.guard = none) (s x : Operand) (t : TypeId)
    (ho : o.op = .call { callee := .builtin .append, args := #[s, x], argTypes := #[t, t] }) (base : Nat) {e : TypeId} (ht : P.underlying t = some (.slice e))
    (hI : (P.info? e).map (fun i => (i.zero, i.size, i.bytes)) = some (some (.int .u8 0), 1, 1)) {v : Value} {n : Nat} {l : List UInt8} (hown : w.ownsRow base e 1 v n (bL l)) (hs : a.eval s = v)
    {g m c : Nat} {cs : Array Value} {news : List UInt8} (hx : a.eval x = .slice (some ⟨g, 0, none⟩) m c) (hb : Blk w g e cs) (hcs : cs = bA news) (hm : m = news.length) (hn : n + m ≤ 1000000000) (hbase : base ≤ w.heap.size)
    (h : ∀ v' w', w'.ownsRow base e 1 v' (n + m) (bL (l ++ news)) → w.grownBy w' v.ownBlock → K (a.put o.dst v') w') : if Region.wanted o (yielded ops a.tmps) = true then Oper.wp P o a w K Q else E := by
  rw [if_pos (by simp [Region.wanted, hgd])]
  obtain ⟨i0, hi0, hz0, hz1, hz2⟩ := info_parts hI
  subst hcs
  subst hm
  refine wp_append_own w s x t ho base e i0 (.int .u8 0) 1 1 ht hi0 hz0 hz1 hz2 rfl (by decide) v n (bL l) hs hown ⟨g, 0, none⟩ news.length c (bL news) hx (by simp [bL]) ?_ (bL_one _) (by simp only [maxLen]; omega) (by omega) hbase ?_
  · intro j u hj
    have hadd : (⟨g, 0, none⟩ : Addr).add j = ⟨g, j, none⟩ := by unfold Addr.add; split <;> simp_all
    rw [hadd, hb.cell j, ← hj]
    simp [bA, bL]
  · intro v' w' h1 h2 _
    rw [bL_append] at h1
    exact h v' w' h1 h2
end

/-- The digit of a number below 16, in small letters. -/
def hexD (n : Nat) : UInt8 := if n < 10 then UInt8.ofNat (48 + n) else UInt8.ofNat (87 + n)
/-- The i-th digit of a key. -/
def dig (l : List UInt8) (i : Nat) : Nat := if i % 2 = 0 then (bt l (i / 2)).toNat / 16 else (bt l (i / 2)).toNat % 16
theorem dig_lt (l : List UInt8) (i : Nat) : dig l i < 16 := by
  have := (bt l (i / 2)).toNat_lt
  unfold dig
  split <;> omega
/-- The first n digits of a key. -/
def hexL (l : List UInt8) (n : Nat) : List UInt8 := (List.range n).map fun i => hexD (dig l i)
theorem hexL_length (l : List UInt8) (n : Nat) : (hexL l n).length = n := by simp [hexL]
theorem hexL_succ (l : List UInt8) (n : Nat) : hexL l n ++ [hexD (dig l n)] = hexL l (n + 1) := by simp [hexL, List.range_succ]
/-- The text of a key. -/
def keyTx (l : List UInt8) : ByteArray := ⟨(hexL l 64).toArray⟩

end Go.Proofs.YtmbhaoiahlbglaaDoor

/- Walks: slices of bytes copied, compared, marked; blocks and padding. -/
import Derived.Test.YtmbhaoiahlbglaaDoorTy
import Derived.Test.YtmbhaoiahlbglaaDoorKS
namespace Go.Proofs.YtmbhaoiahlbglaaDoor
open Go.RowKit
set_option linter.unusedVariables false
set_option linter.unusedSimpArgs false

theorem Rd.rdb {w : World} {v : Value} {l : List UInt8} (h : Rd w 1 v l.length (bL l)) : RdB w v l := by
  obtain ⟨a, cap, h1, h2, h3, h4, h6, h5⟩ := h
  refine ⟨a, cap, h1, by omega, fun i hi => ?_⟩
  rcases h5 with h5 | ⟨g, o, ha, hg, hr⟩
  · omega
  · exact ⟨_, ha, hg, by rw [Addr.add_mid]; exact hr i _ (bL_get l i hi)⟩
theorem u8_mod (n : Nat) : ((UInt8.ofNat n).toNat : Int) = (n : Int) % 256 := by
  simp only [UInt8.toNat_ofNat']
  omega
/-- The bytes that a marking leaves. -/
def markB (k n : Nat) : List UInt8 := (List.range n).map fun i => UInt8.ofNat (k + i)
@[simp] theorem markB_len (k n : Nat) : (markB k n).length = n := by simp [markB]
theorem bt_markB (k n i : Nat) (h : i < n) : bt (markB k n) i = UInt8.ofNat (k + i) := by
  rw [bt_eq _ _ (by simpa using h)]
  simp [markB]
theorem Mem.rdB {w0 w : World} {L : List It} (M : Mem w0 w L) {b : Option Addr} {cap n p : Nat} {e : TypeId} {l : List UInt8} [hL : AtO L b cap n p e 1 (bL l)] : Rd w 1 (.slice b n cap) n (bL l) := M.rdO (bL_one l)
theorem Mem.rdB' {w0 w : World} {L : List It} (M : Mem w0 w L) {b : Option Addr} {cap p : Nat} {e : TypeId} {l : List UInt8} [hL : AtO L b cap l.length p e 1 (bL l)] : RdB w (.slice b l.length cap) l := Rd.rdb (M.rdO (bL_one l))

/-- n elements, of which the first k are new. -/
def midL (f g : Nat → Value) (k n : Nat) : List Value := (List.range n).map fun i => if i < k then f i else g i
theorem midL_len (f g : Nat → Value) (k n : Nat) : (midL f g k n).length = n := by simp [midL]
theorem midL_zero (f : Nat → Value) (xs : List Value) : midL f (fun i => xs.getD i undef) 0 xs.length = xs := by
  apply List.ext_getElem
  · simp [midL]
  · intro i h1 h2
    simp [midL, h2]
theorem midL_set (f g : Nat → Value) (k n : Nat) : (midL f g k n).set k (f k) = midL f g (k + 1) n := by
  apply List.ext_getElem?
  intro i
  simp only [midL, List.getElem?_set, List.length_map, List.length_range, List.getElem?_map]
  by_cases h : k = i
  · subst h
    by_cases hn : k < n
    · simp [hn]
    · simp [hn]
  · simp only [h, if_false]
    by_cases hn : i < n
    · simp only [List.getElem?_range, hn, Option.map_some]
      by_cases h2 : i < k
      · simp [h2, show i < k + 1 by omega]
      · simp [h2, show ¬ i < k + 1 by omega]
    · simp [hn]
theorem midL_full (f g : Nat → Value) (n : Nat) : midL f g n n = (List.range n).map f := by
  unfold midL
  apply List.map_congr_left
  intro i hi
  simp at hi
  simp [hi]
theorem midL_get (f g : Nat → Value) (k n i : Nat) (h : i < n) : (midL f g k n)[i]? = some (if i < k then f i else g i) := by simp [midL, h]

/-- The bytes of a number, the lowest first. -/
def leB (n k : Nat) : List UInt8 := (List.range k).map fun i => UInt8.ofNat (n / 256 ^ i)
@[simp] theorem leB_len (n k : Nat) : (leB n k).length = k := by simp [leB]
theorem leB_succ (n k : Nat) : leB n k ++ [UInt8.ofNat (n / 256 ^ k)] = leB n (k + 1) := by simp [leB, List.range_succ]
/-- How many zeros fill up. -/
def padZ (n : Nat) : Nat := (55 - n % 32) % 32
/-- What is laid behind n bytes, of c in all. -/
def padB (n c : Nat) : List UInt8 := 128 :: (List.replicate (padZ n) 0 ++ leB c 8)
theorem padB_len (n c : Nat) : (padB n c).length = 1 + padZ n + 8 := by simp [padB]; omega
theorem padZ_lt (n : Nat) : padZ n < 32 := by unfold padZ; omega
/-- Bytes and what is laid behind them. -/
def padded (l : List UInt8) (c : Nat) : List UInt8 := l ++ padB l.length c
theorem padded_len (l : List UInt8) (c : Nat) : (padded l c).length = l.length + 1 + padZ l.length + 8 := by rw [padded, List.length_append, padB_len]; omega
theorem padded_mod (l : List UInt8) (c : Nat) : (padded l c).length = 32 * ((padded l c).length / 32) := by rw [padded_len]; unfold padZ; omega
theorem bL_snoc (l : List UInt8) (b : UInt8) : bL l ++ #[Value.int .u8 (b.toNat : Int)].toList = bL (l ++ [b]) := by simp [bL, bV]
theorem rep_snoc (l : List UInt8) (n : Nat) : l ++ List.replicate n 0 ++ [0] = l ++ List.replicate (n + 1) 0 := by rw [List.append_assoc, ← List.replicate_succ']

/-- A piece of a list. -/
def cutL (l : List UInt8) (o n : Nat) : List UInt8 := (l.drop o).take n
theorem cutL_len (l : List UInt8) (o n : Nat) (h : o + n ≤ l.length) : (cutL l o n).length = n := by simp [cutL]; omega
theorem cutL_bt (l : List UInt8) (o n i : Nat) (h : i < n) : bt (cutL l o n) i = bt l (o + i) := by
  simp only [bt, cutL, List.getD, List.getElem?_take, List.getElem?_drop, if_pos h]

end Go.Proofs.YtmbhaoiahlbglaaDoor

/- Walks: words turned about. -/
import Derived.Test.YtmbhaoiahlbglaaRows
import Derived.Test.YtmbhaoiahlbglaaK2
import Derived.Test.YtmbhaoiahlbglaaReg2
namespace Go.Proofs.Ytmbhaoiahlbglaa
open Go.RowKit
set_option linter.unusedVariables false
set_option linter.unusedSimpArgs false

/-- A word turned about by 7 bits, by 13 bits. -/
def rot7 (x : UInt32) : UInt32 := UInt32.ofNat (x.toNat * 128 % 4294967296) ||| UInt32.ofNat (x.toNat / 33554432)
def rot13 (x : UInt32) : UInt32 := UInt32.ofNat (x.toNat * 8192 % 4294967296) ||| UInt32.ofNat (x.toNat / 524288)
theorem or_u32 (a b : UInt32) : bits .or .u32 (a.toNat : Int) (b.toNat : Int) = ((a ||| b).toNat : Int) := by
  have hx : a.toNat ||| b.toNat < 2 ^ 32 := Nat.or_lt_two_pow a.toNat_lt b.toNat_lt
  show IntKind.u32.wrap ((BitVec.ofInt 32 (a.toNat : Int) ||| BitVec.ofInt 32 (b.toNat : Int)).toNat : Int) = _
  rw [BitVec.ofInt_natCast, BitVec.ofInt_natCast, BitVec.toNat_or, BitVec.toNat_ofNat, BitVec.toNat_ofNat, Nat.mod_eq_of_lt a.toNat_lt, Nat.mod_eq_of_lt b.toNat_lt, UInt32.toNat_or]
  simp only [IntKind.wrap, IntKind.signed, IntKind.bits]
  simp
  omega
theorem xor_u32 (a b : UInt32) : bits .xor .u32 (a.toNat : Int) (b.toNat : Int) = ((a ^^^ b).toNat : Int) := by
  have hx : a.toNat ^^^ b.toNat < 2 ^ 32 := Nat.xor_lt_two_pow a.toNat_lt b.toNat_lt
  show IntKind.u32.wrap ((BitVec.ofInt 32 (a.toNat : Int) ^^^ BitVec.ofInt 32 (b.toNat : Int)).toNat : Int) = _
  rw [BitVec.ofInt_natCast, BitVec.ofInt_natCast, BitVec.toNat_xor, BitVec.toNat_ofNat, BitVec.toNat_ofNat, Nat.mod_eq_of_lt a.toNat_lt, Nat.mod_eq_of_lt b.toNat_lt, UInt32.toNat_xor]
  simp only [IntKind.wrap, IntKind.signed, IntKind.bits]
  simp
  omega
theorem rot7_int (x : UInt32) : bits .or .u32 ((x.toNat : Int) * 128 % 4294967296) ((x.toNat : Int) / 33554432) = ((rot7 x).toNat : Int) := by
  have hx := x.toNat_lt
  rw [rot7, ← or_u32]
  simp only [UInt32.toNat_ofNat']
  congr 1
  · omega
  · omega
theorem rot13_int (x : UInt32) : bits .or .u32 ((x.toNat : Int) * 8192 % 4294967296) ((x.toNat : Int) / 524288) = ((rot13 x).toNat : Int) := by
  have hx := x.toNat_lt
  rw [rot13, ← or_u32]
  simp only [UInt32.toNat_ofNat']
  congr 1
  · omega
  · omega
theorem add_u32 (a b : UInt32) : IntKind.u32.wrap ((a.toNat : Int) + (b.toNat : Int)) = ((a + b).toNat : Int) := by
  rw [show (a.toNat : Int) + (b.toNat : Int) = ((a.toNat + b.toNat : Nat) : Int) by simp, u32_wrap]
  simp

theorem rotL7_c (x : UInt32) (v : Int) (h : v = (x.toNat : Int)) (w : World) : Calls Try.prog 169 #[.int .u32 v, .int .i64 7] w fun e w' => e = .returned (.int .u32 ((rot7 x).toNat : Int)) ∧ w' = w := by
  subst h
  have hb := word_bd x
  have e7 : bits .and .u64 7 31 = 7 := by decide +kernel
  go_enter Try.func169, Try.ntmps169
  go_wp2
  go_ret
  exact ⟨by rw [← rot7_int]; rfl, rfl⟩
theorem rotL13_c (x : UInt32) (v : Int) (h : v = (x.toNat : Int)) (w : World) : Calls Try.prog 169 #[.int .u32 v, .int .i64 13] w fun e w' => e = .returned (.int .u32 ((rot13 x).toNat : Int)) ∧ w' = w := by
  subst h
  have hb := word_bd x
  have e7 : bits .and .u64 13 31 = 13 := by decide +kernel
  go_enter Try.func169, Try.ntmps169
  go_wp2
  go_ret
  exact ⟨by rw [← rot13_int]; rfl, rfl⟩

theorem turn7_c (x : UInt32) (v : Int) (h : v = (x.toNat : Int)) (w : World) : Calls Try.prog 167 #[.int .u32 v, .int .u64 7] w fun e w' => e = .returned (.int .u32 ((rot7 x).toNat : Int)) ∧ w' = w := by
  subst h
  have hb := word_bd x
  go_enter Try.func167, Try.ntmps167
  go_wp2
  go_ret
  exact ⟨by rw [← rot7_int]; rfl, rfl⟩
theorem turn13_c (x : UInt32) (v : Int) (h : v = (x.toNat : Int)) (w : World) : Calls Try.prog 167 #[.int .u32 v, .int .u64 13] w fun e w' => e = .returned (.int .u32 ((rot13 x).toNat : Int)) ∧ w' = w := by
  subst h
  have hb := word_bd x
  go_enter Try.func167, Try.ntmps167
  go_wp2
  go_ret
  exact ⟨by rw [← rot13_int]; rfl, rfl⟩

/-- The word that four bytes make, the lowest first; of these the upper ones alone. -/
def upN (l : List UInt8) (i : Nat) : Nat → Nat
  | 0 => 0
  | n + 1 => (bt l (4 * i + (3 - n))).toNat + 256 * upN l i n
def mW (l : List UInt8) (i : Nat) : UInt32 := UInt32.ofNat (upN l i 4)
theorem upN_lt (l : List UInt8) (i : Nat) : ∀ n, upN l i n < 256 ^ n
  | 0 => by simp [upN]
  | n + 1 => by
    have := upN_lt l i n
    have hb := (bt l (4 * i + (3 - n))).toNat_lt
    simp only [upN, Nat.pow_succ]
    omega
theorem or_low (a : Nat) (b : UInt8) (ha : a < 16777216) : bits .or .u32 ((a : Int) * 256) (b.toNat : Int) = ((a * 256 + b.toNat : Nat) : Int) := by
  have hb := b.toNat_lt
  have e : (a : Int) * 256 = ((UInt32.ofNat (a * 256)).toNat : Int) := by simp only [UInt32.toNat_ofNat']; omega
  have e2 : (b.toNat : Int) = ((UInt32.ofNat b.toNat).toNat : Int) := by simp only [UInt32.toNat_ofNat']; omega
  rw [e, e2, or_u32, UInt32.toNat_or]
  simp only [UInt32.toNat_ofNat']
  rw [Nat.mod_eq_of_lt (by omega), Nat.mod_eq_of_lt (by omega)]
  have := Nat.two_pow_add_eq_or_of_lt (i := 8) (b := b.toNat) (by omega) a
  rw [show a * 256 = 2 ^ 8 * a by omega, ← this]
/-- One step of the mixing, and n of them. -/
def mixT (m s : List UInt32) (r i : Nat) : UInt32 := wt s i + wt m ((i + 3 * r) % 8) + UInt32.ofNat (2654435769 * (8 * r + i + 1))
def mixU (m s : List UInt32) (r i : Nat) : UInt32 := (rot7 (mixT m s r i) ^^^ wt s ((i + 1) % 8)) + rot13 (wt s ((i + 5) % 8))
def mixS (m s : List UInt32) : Nat → List UInt32
  | 0 => s
  | n + 1 => (mixS m s n).set (n % 8) (mixU m (mixS m s n) (n / 8) (n % 8))
theorem mixS_length (m s : List UInt32) : ∀ n, (mixS m s n).length = s.length
  | 0 => rfl
  | n + 1 => by rw [mixS, List.length_set, mixS_length m s n]
/-- The state behind a block. -/
def mixM (l : List UInt8) : List UInt32 := (List.range 8).map (mW l)
def mixL (s : List UInt32) (l : List UInt8) : List UInt32 := (List.range 8).map fun i => wt (mixS (mixM l) s 96) i ^^^ wt s i
theorem mixM_length (l : List UInt8) : (mixM l).length = 8 := by simp [mixM]
theorem mixL_length (s : List UInt32) (l : List UInt8) : (mixL s l).length = 8 := by simp [mixL]
/-- A list that is turned into another one from its front. -/
def midW (f g : Nat → UInt32) (k : Nat) : List UInt32 := (List.range 8).map fun i => if i < k then f i else g i
theorem midW_length (f g : Nat → UInt32) (k : Nat) : (midW f g k).length = 8 := by simp [midW]
theorem midW_at (f g : Nat → UInt32) (k i : Nat) (h : i < 8) : wt (midW f g k) i = if i < k then f i else g i := by
  rw [wt_eq _ _ (by rw [midW_length]; exact h)]
  simp [midW]
theorem midW_set (f g : Nat → UInt32) (k : Nat) : (midW f g k).set k (f k) = midW f g (k + 1) := by
  apply List.ext_getElem?
  intro i
  simp only [midW, List.getElem?_set, List.length_map, List.length_range, List.getElem?_map]
  by_cases h : k = i
  · subst h
    by_cases hk : k < 8
    · simp [hk]
    · rw [if_pos rfl, if_neg hk, List.getElem?_eq_none (by simp; omega)]
      rfl
  · rw [if_neg h]
    by_cases hi : i < 8
    · rw [List.getElem?_range hi]
      simp only [Option.map_some]
      congr 1
      by_cases h1 : i < k
      · rw [if_pos h1, if_pos (by omega)]
      · rw [if_neg h1, if_neg (by omega)]
    · rw [List.getElem?_eq_none (by simp; omega)]
      rfl
theorem midW_full (f g : Nat → UInt32) : midW f g 8 = (List.range 8).map f := by
  unfold midW
  apply List.map_congr_left
  intro i hi
  simp at hi
  rw [if_pos hi]
theorem midW_zero (f : Nat → UInt32) (s : List UInt32) (h : s.length = 8) : midW f (wt s) 0 = s := by
  unfold midW
  simp only [Nat.not_lt_zero, if_false]
  exact map_wt s 8 h
theorem mixT_int (m s : List UInt32) (r i : Nat) : ((((wt s i).toNat : Int) + ((wt m ((i + 3 * r) % 8)).toNat : Int)) % 4294967296 + 2654435769 * (8 * (r : Int) + (i : Int) + 1) % 4294967296) % 4294967296 = ((mixT m s r i).toNat : Int) := by
  simp only [mixT, UInt32.toNat_add, UInt32.toNat_ofNat']
  omega
theorem mixU_int (a b : UInt32) : (((a.toNat : Int)) + ((b.toNat : Int))) % 4294967296 = ((a + b).toNat : Int) := by
  simp only [UInt32.toNat_add]
  omega
theorem quiet_same2 {P : Program} {f : FuncId} {args : Array Value} {w : World} {m n : Nat} {v : Value}
    (h : Calls P f args (w.drewN (m + n)) fun e w' => e = .returned v ∧ w' = w.drewN (m + n)) : Calls P f args (w.drewN (m + n)) fun e w'' => e = .returned v ∧ ∃ k, w'' = w.drewN (m + k) :=
  h.mono fun _ _ ⟨he, hm⟩ => ⟨he, n, hm⟩
theorem mixU_int2 (a b c : UInt32) : (((a.toNat ^^^ b.toNat : Nat) : Int) + (c.toNat : Int)) % 4294967296 = (((a ^^^ b) + c).toNat : Int) := by
  rw [← UInt32.toNat_xor, mixU_int]
theorem xor_nat (a b : UInt32) : ((a.toNat ^^^ b.toNat : Nat) : Int) = ((a ^^^ b).toNat : Int) := by rw [UInt32.toNat_xor]

end Go.Proofs.Ytmbhaoiahlbglaa

/- Walks: slices of keys measured, copied, compared, marked. -/
import Derived.Test.YtmbhaoiahlbglaaDoorHC
import Derived.Test.YtmbhaoiahlbglaaDoorRegM
import Derived.Test.YtmbhaoiahlbglaaDoorMem2
namespace Go.Proofs.YtmbhaoiahlbglaaDoor
open Go.RowKit
set_option linter.unusedVariables false
set_option linter.unusedSimpArgs false

section
variable {P : Program} {ops : Array Oper} {rest : List Oper} {o : Oper} {a : Act} {w0 w : World} {Q : Exit → Act → World → Prop} {L : List It}
/-- make, however long. -/
theorem m_mk (M : Mem w0 w L) (hgd : o.guard = none) {t : TypeId} {x y : Operand} (ho : o.op = .makeSlice t x y) {e : TypeId} [ht : SliceT P t e] {size bytes : Nat} {z : Value} [he : ElT P e size bytes z]
    {n : Nat} (hx : a.eval x = .int .i64 (n : Int)) (hy : a.eval y = .int .i64 (n : Int)) (hb : bytes * n ≤ 281474976710656) (h63 : n ≤ 9223372036854775807)
    (h : ∀ g w', Mem w0 w' (.blk g e (madeCells z.cells (n * size)) :: L) → wpList P ops Q rest (a.put o.dst (.slice (some ⟨g, 0, none⟩) n n)) w') : wpList P ops Q (o :: rest) a w :=
  wpList_plain hgd fun _ hK => by
    obtain ⟨h1, h2, h3⟩ := he.out
    obtain ⟨i0, hi0, hz0, hz1, hz2⟩ := info_parts h1
    have hbz : (bytes : Int) * (n : Int) ≤ 281474976710656 := by
      have : ((bytes * n : Nat) : Int) ≤ 281474976710656 := by omega
      rwa [Int.natCast_mul] at this
    have hrun := run_make (P := P) w t e i0 z ht.out hi0 hz0 .i64 .i64 n n (by omega) (Int.le_refl _) (by rw [hz2]; exact hbz) (by omega)
    rw [Int.toNat_natCast, hz1] at hrun
    unfold Oper.wp execOp
    simp only [ho, hx, hy, Sem.run_bind, hrun, Result.andThen_ok, Sem.run_pure]
    exact hK _ _ (h _ _ (M.alloc_ e _))
end

theorem toKey_r' (k : List UInt8) (hk : k.length = 32) (w : World) : Ret Tryd.prog 48 #[.agg (bA k)] w fun r _ => r = .agg (bA k) := Ret.of (toKey_c k hk w)
/-- The keys that a marking leaves. -/
def markK (k n : Nat) : List Ky := (List.range n).map fun i => ⟨markB (k + 32 * i) 32, markB_len _ _⟩
@[simp] theorem markK_len (k n : Nat) : (markK k n).length = n := by simp [markK]
theorem markK_succ (k n : Nat) : markK k (n + 1) = markK k n ++ [⟨markB (k + 32 * n) 32, markB_len _ _⟩] := by simp [markK, List.range_succ]
theorem markB_add (k a b : Nat) : markB k a ++ markB (k + a) b = markB k (a + b) := by
  simp only [markB, List.range_add, List.map_append, List.map_map]
  congr 1
  apply List.map_congr_left
  intro i _
  simp only [Function.comp]
  congr 1
  omega
theorem kyL_mark (k n : Nat) : kyL (markK k n) = bL (markB k (32 * n)) := by
  induction n with
  | zero => rfl
  | succ n ih => rw [markK_succ, kyL_append, ih, show kyL [(⟨markB (k + 32 * n) 32, markB_len _ _⟩ : Ky)] = bL (markB (k + 32 * n) 32) by simp [kyL], bL_append, markB_add, Nat.mul_succ]

end Go.Proofs.YtmbhaoiahlbglaaDoor

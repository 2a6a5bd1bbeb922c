/- Arrays of numbers compared by value. -/
import Derived.Test.YtkfmokpijkoidaaRows
import Derived.Test.YtkfmokpijkoidaaBase
import Derived.ChangeKeysEq
import Derived.Laws.StructEq
namespace Go.Proofs.Ytkfmokpijkoidaa
open Go.RowKit
set_option linter.unusedVariables false
set_option linter.unusedSimpArgs false

section
variable {P : Program}
theorem part_int {e : TypeId} {k : IntKind} (he : P.underlying e = some (.int k)) {xs : Array Value} {i : Nat} {v : Value} (hx : xs[i]? = some v) (w : World) : (part e xs i).run P w = .ok v w := by
  have hagg : (isAgg e).run P w = .ok false w := by
    unfold isAgg
    rw [Sem.run_bind, run_underlying he w]
    rfl
  simp [part, Sem.run_bind, hagg, hx]
theorem eqItems_int (d : Nat) {e : TypeId} {k : IntKind} (he : P.underlying e = some (.int k)) (f g : Nat → Int) (xs ys : Array Value) (w : World) : ∀ (is : List Nat), (∀ i, i ∈ is → xs[i]? = some (.int k (f i))) → (∀ i, i ∈ is → ys[i]? = some (.int k (g i))) →
    (Op.eqItems (d + 1) e 1 xs ys is).run P w = .ok (decide (∀ i, i ∈ is → f i = g i)) w
  | [], _, _ => by simp [Op.eqItems]
  | i :: is, hx, hy => by
    have ih := eqItems_int d he f g xs ys w is (fun j hj => hx j (List.mem_cons_of_mem _ hj)) (fun j hj => hy j (List.mem_cons_of_mem _ hj))
    simp only [Op.eqItems, Nat.mul_one, Sem.run_bind, part_int he (hx i (List.mem_cons_self ..)), part_int he (hy i (List.mem_cons_self ..)), Result.andThen_ok, run_equalIn_int w d e k k (f i) (g i) he]
    by_cases h : f i = g i
    · simp [h, ih]
    · simp [h]
theorem eq_words (d : Nat) {t e : TypeId} {n : Nat} {i : TypeInfo} (hu : P.underlying t = some (.array n e)) (hi : P.info? e = some i) (he : P.underlying e = some (.int .u32)) (hc : P.cellsOf e = 1) (a b : List UInt32) (ha : a.length = n) (hb : b.length = n) (w : World) :
    (Op.equalIn (d + 1 + 1) t (.agg (wA a)) (.agg (wA b))).run P w = .ok (decide (a = b)) w := by
  rw [run_equalIn_array w (d + 1) _ _ hu hi, hc, eqItems_int d he (fun i => ((wt a i).toNat : Int)) (fun i => ((wt b i).toNat : Int)) _ _ w _ (fun i hi => wA_at a i (by simp at hi; omega)) (fun i hi => wA_at b i (by simp at hi; omega))]
  congr 1
  rw [decide_eq_decide]
  constructor
  · intro h
    apply List.ext_getElem (by omega)
    intro i h1 h2
    have := h i (by simp; omega)
    rw [← wt_eq a i h1, ← wt_eq b i h2]
    exact UInt32.toNat_inj.1 (by omega)
  · intro h i _
    rw [h]
theorem eq_bytes (d : Nat) {t e : TypeId} {n : Nat} {i : TypeInfo} (hu : P.underlying t = some (.array n e)) (hi : P.info? e = some i) (he : P.underlying e = some (.int .u8)) (hc : P.cellsOf e = 1) (a b : List UInt8) (ha : a.length = n) (hb : b.length = n) (w : World) :
    (Op.equalIn (d + 1 + 1) t (.agg (bA a)) (.agg (bA b))).run P w = .ok (decide (a = b)) w := by
  rw [run_equalIn_array w (d + 1) _ _ hu hi, hc, eqItems_int d he (fun i => ((bt a i).toNat : Int)) (fun i => ((bt b i).toNat : Int)) _ _ w _ (fun i hi => bA_at a i (by simp at hi; omega)) (fun i hi => bA_at b i (by simp at hi; omega))]
  congr 1
  rw [decide_eq_decide]
  constructor
  · intro h
    apply List.ext_getElem (by omega)
    intro i h1 h2
    have := h i (by simp; omega)
    rw [← bt_eq a i h1, ← bt_eq b i h2]
    exact UInt8.toNat_inj.1 (by omega)
  · intro h i _
    rw [h]
end

end Go.Proofs.Ytkfmokpijkoidaa

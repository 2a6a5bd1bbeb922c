/- The order of keys by their distance to a key. -/
import Derived.Test.YtmbhaoiahlbglaaHSk
namespace Go.Proofs.Ytmbhaoiahlbglaa
open Go.RowKit Go.Sort
set_option linter.unusedVariables false
set_option linter.unusedSimpArgs false

theorem xorL_inj : ∀ (a b p : List UInt8), a.length = p.length → b.length = p.length → xorL a p = xorL b p → a = b
  | [], [], _, _, _, _ => rfl
  | [], _ :: _, [], _, h, _ => by simp at h
  | [], _ :: _, _ :: _, h, _, _ => by simp at h
  | _ :: _, [], [], h, _, _ => by simp at h
  | _ :: _, [], _ :: _, _, h, _ => by simp at h
  | _ :: _, _ :: _, [], h, _, _ => by simp at h
  | x :: a, y :: b, z :: p, ha, hb, h => by
    simp only [xorL, List.zipWith_cons_cons, List.cons.injEq] at h
    obtain ⟨h1, h2⟩ := h
    have hxy : x = y := by
      have := congrArg (fun u => u ^^^ z) h1
      simpa [UInt8.xor_assoc] using this
    rw [hxy, xorL_inj a b p (by simpa using ha) (by simpa using hb) h2]
/-- The order by distance to p. -/
def cfP (p : Ky) (x y : Ky) : Int := cmpL (xorL x.1 p.1) (xorL y.1 p.1)
theorem ltP_tot (p x y : Ky) (h1 : ltOf (cfP p) x y = false) (h2 : ltOf (cfP p) y x = false) : x = y := by
  have e1 := of_decide_eq_false h1
  have e2 := of_decide_eq_false h2
  have := cmpL_neg (xorL x.1 p.1) (xorL y.1 p.1)
  unfold cfP at e1 e2
  exact Subtype.ext (xorL_inj _ _ p.1 (by rw [x.2, p.2]) (by rw [y.2, p.2]) (cmpL_eq _ _ (by omega)))
theorem swoP (p : Ky) : SWO (ltOf (cfP p)) where
  irrefl x := by unfold ltOf cfP; rw [cmpL_self]; decide
  trans x y z h1 h2 := decide_eq_true (cmpL_trans _ _ _ (of_decide_eq_true h1) (of_decide_eq_true h2))
  ntrans x y z h1 h2 := by
    cases h : ltOf (cfP p) x z with
    | false => rfl
    | true =>
      exfalso
      have e1 := of_decide_eq_false h1
      have e2 := of_decide_eq_false h2
      have e := of_decide_eq_true h
      unfold cfP at e1 e2 e
      have n1 := cmpL_neg (xorL x.1 p.1) (xorL y.1 p.1)
      have n2 := cmpL_neg (xorL y.1 p.1) (xorL z.1 p.1)
      by_cases c1 : cmpL (xorL y.1 p.1) (xorL x.1 p.1) < 0
      · have := cmpL_trans _ _ _ c1 e
        omega
      · have := cmpL_eq (xorL x.1 p.1) (xorL y.1 p.1) (by omega)
        rw [this] at e
        omega
theorem xorL_zero : ∀ (a : List UInt8) (n : Nat), a.length = n → xorL a (List.replicate n 0) = a
  | [], _, _ => by simp [xorL]
  | x :: a, 0, h => by simp at h
  | x :: a, n + 1, h => by
    have := xorL_zero a n (by simpa using h)
    simp only [xorL, List.replicate_succ, List.zipWith_cons_cons] at this ⊢
    rw [this]
    simp
theorem cfP_zero : cfP zeroKy = cfK := by
  funext x y
  unfold cfP cfK
  rw [show zeroKy.1 = List.replicate 32 0 from rfl, xorL_zero _ _ x.2, xorL_zero _ _ y.2]

end Go.Proofs.Ytmbhaoiahlbglaa

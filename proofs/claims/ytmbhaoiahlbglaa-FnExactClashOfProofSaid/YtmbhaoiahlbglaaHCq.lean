/- The clash that a proof of another leaf shows: found from the leaf up, and from the root down. -/
import Derived.Test.YtmbhaoiahlbglaaHCm
import Derived.Test.YtmbhaoiahlbglaaHW
import Derived.Test.YtmbhaoiahlbglaaRegG
import Derived.Test.YtmbhaoiahlbglaaRegS
namespace Go.Proofs.Ytmbhaoiahlbglaa
open Go.RowKit
set_option linter.unusedVariables false
set_option linter.unusedSimpArgs false

abbrev Cl := Ky × Ky × Ky × Ky
/-- Two pairs, at one node. -/
def mkC (r : Bool) (own o lf p : Ky) : Cl := (if r then o else own, if r then own else o, if r then p else lf, if r then lf else p)
/-- Is it a clash? -/
def vcB (c : Cl) : Bool := decide ((c.1 ≠ c.2.2.1 ∨ c.2.1 ≠ c.2.2.2) ∧ nodeK c.1 c.2.1 = nodeK c.2.2.1 c.2.2.2)
/-- The first clash, from the leaf up. -/
def clF : Ky → Ky → List Bool → List Ky → List Ky → Option Cl
  | own, lf, r :: rs, o :: os, p :: ps => if vcB (mkC r own o lf p) = true then some (mkC r own o lf p) else clF (if r then nodeK o own else nodeK own o) (if r then nodeK p lf else nodeK lf p) rs os ps
  | _, _, _, _, _ => none
theorem clF_snoc (r : Bool) (o p : Ky) : ∀ (bs : List Bool) (os ps : List Ky) (own lf : Ky), os.length = bs.length → ps.length = bs.length →
    clF own lf (bs ++ [r]) (os ++ [o]) (ps ++ [p]) = (clF own lf bs os ps).or (if vcB (mkC r (leadF own bs os) o (leadF lf bs ps) p) = true then some (mkC r (leadF own bs os) o (leadF lf bs ps) p) else none)
  | [], os, ps, own, lf, h1, h2 => by
    obtain rfl := List.eq_nil_of_length_eq_zero h1
    obtain rfl := List.eq_nil_of_length_eq_zero h2
    simp [clF, leadF]
    try rfl
  | b :: bs, [], _, _, _, h1, _ => by simp at h1
  | b :: bs, _ :: _, [], _, _, _, h2 => by simp at h2
  | b :: bs, x :: os, y :: ps, own, lf, h1, h2 => by
    have ih := clF_snoc r o p bs os ps (if b then nodeK x own else nodeK own x) (if b then nodeK y lf else nodeK lf y) (by simpa using h1) (by simpa using h2)
    simp only [List.cons_append, clF, leadF]
    by_cases hv : vcB (mkC b own x lf y) = true
    · rw [if_pos hv, if_pos hv]
      rfl
    · rw [if_neg hv, if_neg hv]
      exact ih
theorem clF_ex : ∀ (bs : List Bool) (os ps : List Ky) (own lf : Ky), os.length = bs.length → ps.length = bs.length → own ≠ lf → leadF own bs os = leadF lf bs ps → ∃ c, clF own lf bs os ps = some c
  | [], os, ps, own, lf, h1, h2, hne, he => by
    obtain rfl := List.eq_nil_of_length_eq_zero h1
    obtain rfl := List.eq_nil_of_length_eq_zero h2
    exact absurd he hne
  | b :: bs, [], _, _, _, h1, _, _, _ => by simp at h1
  | b :: bs, _ :: _, [], _, _, _, h2, _, _ => by simp at h2
  | b :: bs, x :: os, y :: ps, own, lf, h1, h2, hne, he => by
    simp only [clF]
    by_cases hv : vcB (mkC b own x lf y) = true
    · exact ⟨_, by rw [if_pos hv]⟩
    · rw [if_neg hv]
      refine clF_ex bs os ps _ _ (by simpa using h1) (by simpa using h2) (fun e => hv ?_) he
      cases b with
      | true => exact decide_eq_true ⟨.inr hne, e⟩
      | false => exact decide_eq_true ⟨.inl hne, e⟩
theorem prfL_side (n : Nat) : ∀ (ks : List Ky) (i : Nat), ks.length = n → 1 ≤ n → i < n → (prfL ks i).length = (sideR n i).length := by
  induction n using Nat.strongRecOn with
  | ind n ih =>
    intro ks i hk h1 hi
    by_cases h2 : 2 ≤ n
    · have hlt := halfN_lt n h2
      have hpos := halfN_pos n
      by_cases hc : i < halfN n
      · rw [prfL_lt ks i n hk h2 hc, sideR_lt n i h2 hc, List.length_append, ih (halfN n) hlt (ks.take (halfN n)) i (by rw [List.length_take]; omega) (by omega) hc]
        rfl
      · rw [prfL_ge ks i n hk h2 (by omega), sideR_ge n i h2 (by omega), List.length_append, ih (n - halfN n) (by omega) (ks.drop (halfN n)) (i - halfN n) (by rw [List.length_drop]; omega) (by omega) (by omega)]
        rfl
    · obtain rfl : n = 1 := by omega
      rw [prfL_1 ks i (by omega), sideR_one]
      rfl
theorem lead_own (n : Nat) : ∀ (ks : List Ky) (i : Nat) (hk : ks.length = n) (h1 : 1 ≤ n) (hi : i < n), leadF (ks[i]'(by omega)) (sideR n i).reverse (prfL ks i) = listK ks := by
  induction n using Nat.strongRecOn with
  | ind n ih =>
    intro ks i hk h1 hi
    by_cases h2 : 2 ≤ n
    · have hlt := halfN_lt n h2
      have hpos := halfN_pos n
      rw [listK_2 ks n hk h2]
      by_cases hc : i < halfN n
      · have hl : (ks.take (halfN n)).length = halfN n := by rw [List.length_take]; omega
        have e := ih (halfN n) hlt (ks.take (halfN n)) i hl (by omega) hc
        rw [List.getElem_take] at e
        rw [prfL_lt ks i n hk h2 hc, sideR_lt n i h2 hc, List.reverse_cons, leadF_snoc _ _ _ _ _ (by rw [List.length_reverse, prfL_side _ _ _ hl (by omega) hc]), e]
        rfl
      · have hl : (ks.drop (halfN n)).length = n - halfN n := by rw [List.length_drop]; omega
        have e := ih (n - halfN n) (by omega) (ks.drop (halfN n)) (i - halfN n) hl (by omega) (by omega)
        rw [List.getElem_drop] at e
        simp only [show halfN n + (i - halfN n) = i by omega] at e
        rw [prfL_ge ks i n hk h2 (by omega), sideR_ge n i h2 (by omega), List.reverse_cons, leadF_snoc _ _ _ _ _ (by rw [List.length_reverse, prfL_side _ _ _ hl (by omega) (by omega)]), e]
        rfl
    · obtain rfl : n = 1 := by omega
      match ks, hk with
      | [k], _ =>
        obtain rfl : i = 0 := by omega
        rw [prfL_1 _ _ (by simp), sideR_one, listK_1]
        rfl
/-- What ClashOfProof gives. -/
def zeroCl : Cl := (zeroKy, zeroKy, zeroKy, zeroKy)
def cqT (ks : List Ky) (i : Int) (lf : Ky) (ps : List Ky) : Cl × Int :=
  if 256 < ks.length ∨ 256 < ps.length then (zeroCl, 3)
  else if 0 ≤ i ∧ i ≤ (ks.length : Int) - 1 then
    (if ps.length = (sideR ks.length i.toNat).length ∧ leadF lf (sideR ks.length i.toNat).reverse ps = listK ks then
      (if lf = ks.getD i.toNat zeroKy then (zeroCl, 6) else ((clF (ks.getD i.toNat zeroKy) lf (sideR ks.length i.toNat).reverse (prfL ks i.toNat) ps).getD zeroCl, 0))
     else (zeroCl, 4))
  else (zeroCl, 2)

end Go.Proofs.Ytmbhaoiahlbglaa

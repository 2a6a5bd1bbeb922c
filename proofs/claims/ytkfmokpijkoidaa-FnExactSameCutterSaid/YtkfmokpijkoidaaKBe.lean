/- Walk: bytes.Equal; a slice of bytes as a text. -/
import Derived.Test.YtkfmokpijkoidaaKS
import Derived.Test.YtkfmokpijkoidaaSl
import Derived.Lib.SmallJoins
namespace Go.Proofs.Ytkfmokpijkoidaa
open Go.RowKit
set_option linter.unusedVariables false
set_option linter.unusedSimpArgs false

theorem rd_string {P : Program} {w : World} {src dst e : TypeId} {v : Value} {l : List UInt8} (hs : P.underlying src = some (.slice e)) (he : P.underlying e = some (.int .u8)) (hd : P.underlying dst = some .string)
    (h : RdB w v l) : (convert src dst v).run P w = .ok (.string ⟨l.toArray⟩) w := by
  obtain ⟨a, cap, rfl, hm, hc⟩ := h
  cases a with
  | none =>
    have : l = [] := by
      rcases l with _ | ⟨b, l⟩
      · rfl
      · obtain ⟨p, hp, -⟩ := hc 0 (by simp)
        cases hp
    subst this
    exact Lib.run_convert_nil_bytes w src dst e cap hs he hd
  | some p =>
    refine run_convert_bytes_back w src dst e p cap l hs he hd (fun j hj => ?_)
    obtain ⟨q, hq, -, h3⟩ := hc j hj
    obtain rfl := Option.some.inj hq
    rw [h3, bt_eq l j hj]

set_option maxHeartbeats 400000 in
set_option maxRecDepth 100000 in
theorem bytesEqual_c (va vb : Value) (x y : List UInt8) (w : World) (ha : RdB w va x) (hb : RdB w vb y) :
    Calls Try.prog 86 #[va, vb] w fun e w' => e = .returned (.bool (decide (x = y))) ∧ w' = w := by
  have h1 := rd_string (P := Try.prog) (src := 30) (dst := 9) Try.underlying30 Try.underlying5 Try.underlying9 ha
  have h2 := rd_string (P := Try.prog) (src := 30) (dst := 9) Try.underlying30 Try.underlying5 Try.underlying9 hb
  have HQ := Lib.hid (show (x == y) = decide (x = y) by
    by_cases h : x = y
    · subst h
      simp
    · rw [decide_eq_false h]
      exact beq_eq_false_iff_ne.2 h)
  clear ha hb
  go_enter Try.func86, Try.ntmps86
  go_wp2
  go_ret
  exact ⟨by rw [← HQ.out]; rfl, rfl⟩

end Go.Proofs.Ytkfmokpijkoidaa

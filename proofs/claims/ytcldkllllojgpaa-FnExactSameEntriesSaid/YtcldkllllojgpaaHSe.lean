/- The law SameEntries. -/
import Derived.Test.YtcldkllllojgpaaHEn
namespace Go.Proofs.Ytcldkllllojgpaa
open Go.RowKit
set_option linter.unusedVariables false
set_option linter.unusedSimpArgs false

theorem specSameEntries_c (n m : Nat) (a b : List En) (ha : a.length = n) (hb : b.length = m) (va vb : Value) (w : World) (hl : n ≤ 1048576) (hm : m ≤ 1048576) (hva : Rd w 2 va n (enL a)) (hvb : Rd w 2 vb m (enL b)) : Ret Try.prog 11 #[va, vb] w fun r _ => r = .bool (decide (a = b)) := by
  have HA := Lib.hid hva
  have HB := Lib.hid hvb
  have HC := Lib.hid (fun w => l04Same_c n m a b ha hb va vb w hl hm)
  refine ret_start fun wx M => ?_
  clear hva hvb ha hb
  go_enter Try.func11, Try.ntmps11
  go_wp2_with (first
    | (go_at_call 35; (with_reducible refine mem_call M (HC.out _ (HA.out.up M.up) (HB.out.up M.up)) ?_); clear M; (try clear wx); rintro _ wx rfl _ M))
  go_ret
  exact ⟨_, rfl, rfl, M.up⟩
theorem implSameEntries_c (n m : Nat) (a b : List En) (ha : a.length = n) (hb : b.length = m) (va vb : Value) (w : World) (hl : n ≤ 1048576) (hm : m ≤ 1048576) (hva : Rd w 2 va n (enL a)) (hvb : Rd w 2 vb m (enL b)) : Ret Try.prog 13 #[va, vb] w fun r _ => r = .bool (decide (a = b)) := by
  have HA := Lib.hid hva
  have HB := Lib.hid hvb
  have HC := Lib.hid (fun w => equalE_c n m a b ha hb va vb w hl hm)
  refine ret_start fun wx M => ?_
  clear hva hvb ha hb
  go_enter Try.func13, Try.ntmps13
  go_wp2_with (first
    | (go_at_call 37; (with_reducible refine mem_call M (HC.out _ (HA.out.up M.up) (HB.out.up M.up)) ?_); clear M; (try clear wx); rintro _ wx rfl _ M))
  go_ret
  exact ⟨_, rfl, rfl, M.up⟩

theorem szT_cases (es : List En) (left : Int) (h0 : 0 ≤ left) (h1 : left ≤ 1048576) : szT es left < 0 ∨ (0 ≤ szT es left ∧ szT es left ≤ left ∧ (es.length : Int) ≤ left) := by
  unfold szT
  split
  · exact .inl (by omega)
  · have := szF_le es (left - es.length) (by omega)
    omega
set_option maxHeartbeats 4000000 in
set_option maxRecDepth 100000 in
theorem lawSameEntries_c (va vb : Value) (a b : List En) (hsa : smallE a) (hsb : smallE b) (w : World) (hva : Rd w 2 va a.length (enL a)) (hvb : Rd w 2 vb b.length (enL b)) : Calls Try.prog 4 #[va, vb] w fun e w' => e = .returned (.bool true) ∧ Up w w' := by
  obtain ⟨n, hn⟩ : ∃ n, a.length = n := ⟨_, rfl⟩
  obtain ⟨m, hm⟩ : ∃ m, b.length = m := ⟨_, rfl⟩
  rw [hn] at hva
  rw [hm] at hvb
  obtain ⟨b1, cap1, rfl⟩ := hva.shape
  obtain ⟨b2, cap2, rfl⟩ := hvb.shape
  have hnl : n ≤ maxLen := by have := hva.len_; omega
  have hml : m ≤ maxLen := by have := hvb.len_; omega
  have HVA := Lib.hid hva
  have HVB := Lib.hid hvb
  have HN := Lib.hid (And.intro hn hm)
  have c1 := szT_cases a 1048576 (by omega) (by omega)
  have HZ1 := Lib.hid (fun w h => szEntryS_c (.slice b1 n cap1) n a hn hsa 1048576 (by omega) (by omega) hnl w h)
  have HZ2 := Lib.hid (fun left h0 h1 w h => szEntryS_c (.slice b2 m cap2) m b hm hsb left h0 h1 hml w h)
  have HC2 := Lib.hid (szT_cases b)
  rw [hn] at c1
  generalize szT a 1048576 = l1 at *
  have M := Mem.start w
  clear hva hvb hn
  rcases c1 with c1 | ⟨c1, c1', hl⟩
  · clear HZ2 HC2
    go_enter Try.func4, Try.ntmps4
    go_wp2_with (first
      | (go_at_call 10; (with_reducible refine mem_call M (HZ1.out _ (HVA.out.up M.up)) ?_); clear M; (try clear wx); rintro _ wx rfl _ M))
    go_ret
    exact ⟨rfl, M.up⟩
  have HZ2 := Lib.hid (HZ2.out l1 c1 c1')
  have c2 := HC2.out l1 c1 c1'
  rw [hm] at c2
  generalize szT b l1 = l2 at *
  clear HC2 hm
  rcases c2 with c2 | ⟨c2, c2', hl2⟩
  · go_enter Try.func4, Try.ntmps4
    go_wp2_with (first
      | (go_at_call 10; (with_reducible refine mem_call M (HZ1.out _ (HVA.out.up M.up)) ?_); clear M; (try clear wx); rintro _ wx rfl _ M)
      | (go_at_call 10; (with_reducible refine mem_call M (HZ2.out _ (HVB.out.up M.up)) ?_); clear M; (try clear wx); rintro _ wx rfl _ M))
    go_ret
    exact ⟨rfl, M.up⟩
  have hln : n ≤ 1048576 := by omega
  have hlm : m ≤ 1048576 := by omega
  have HS : Hid (∀ va vb w, Rd w 2 va n (enL a) → Rd w 2 vb m (enL b) → Ret Try.prog 11 #[va, vb] w fun r _ => r = .bool (decide (a = b))) := Lib.hid (fun va vb w h h' => specSameEntries_c n m a b HN.out.1 HN.out.2 va vb w hln hlm h h')
  have HI : Hid (∀ va vb w, Rd w 2 va n (enL a) → Rd w 2 vb m (enL b) → Ret Try.prog 13 #[va, vb] w fun r _ => r = .bool (decide (a = b))) := Lib.hid (fun va vb w h h' => implSameEntries_c n m a b HN.out.1 HN.out.2 va vb w hln hlm h h')
  generalize decide (a = b) = c at *
  go_enter Try.func4, Try.ntmps4
  go_wp2_with (first
    | (go_at_call 10; (with_reducible refine mem_call M (HZ1.out _ (HVA.out.up M.up)) ?_); clear M; (try clear wx); rintro _ wx rfl _ M)
    | (go_at_call 10; (with_reducible refine mem_call M (HZ2.out _ (HVB.out.up M.up)) ?_); clear M; (try clear wx); rintro _ wx rfl _ M)
    | (go_at_call 12; (first | (with_reducible refine mem_callO M (toEntryS_c _ n a HN.out.1 _ (HVA.out.up M.up) hln) ?_) | (with_reducible refine mem_callO M (toEntryS_c _ m b HN.out.2 _ (HVB.out.up M.up) hlm) ?_)); clear M; (try clear wx); intro _ _ wx M)
    | (go_at_call 11; (with_reducible refine mem_call M (HS.out _ _ _ (M.rdE a) (M.rdE b)) ?_); clear M; (try clear wx); rintro _ wx rfl _ M)
    | (go_at_call 13; (with_reducible refine mem_call M (HI.out _ _ _ (M.rdE a) (M.rdE b)) ?_); clear M; (try clear wx); rintro _ wx rfl _ M)
    | (go_at_call 14; (first | (with_reducible refine mem_call M (eqEntryS_same _ _ n a HN.out.1 _ (by omega) (M.rdE a) (M.rdE a)) ?_) | (with_reducible refine mem_call M (eqEntryS_same _ _ m b HN.out.2 _ (by omega) (M.rdE b) (M.rdE b)) ?_)); clear M; (try clear wx); rintro _ wx rfl _ M))
  go_ret
  exact ⟨rfl, M.up⟩

end Go.Proofs.Ytcldkllllojgpaa

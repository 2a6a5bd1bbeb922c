/- The law of MissingFor, walked. -/
import Derived.Test.YtmbhaoiahlbglaaHMf
namespace Go.Proofs.Ytmbhaoiahlbglaa
open Go.RowKit
set_option linter.unusedVariables false
set_option linter.unusedSimpArgs false

theorem markPieceS_1 (b : Option Addr) (cap n B : Nat) (xs : List Value) (w : World) (hn : n ≤ 1000000000000) (h : w.ownsRow B 103 33 (.slice b n cap) n xs) :
    Writes Try.prog 45 #[.slice b n cap, .int .i64 1] w B 103 33 b cap n (mkPL 1 n) (.int .i64 ((1 + 33 * n : Nat) : Int)) :=
  markPieceS_c b cap n 1 B xs w (by decide) hn h
theorem markByteSS_k (k : Nat) (b : Option Addr) (cap n B m : Nat) (us : List Value) (ls : List (List Value)) (w : World) (hm : m = ls.flatten.length) (hk : m ≤ 100000000000) (hkk : k ≤ 100000000000) (hn : n ≤ 1000000000000) (ho : w.ownsRow B 66 1 (.slice b n cap) n us) (hi : Inn B w 5 us ls)
    (hap : ∀ u k, u ∈ us → u.ownBlock = some k → (Value.slice b n cap).ownBlock = some k → False) :
    Calls Try.prog 46 #[.slice b n cap, .int .i64 (k : Int)] w fun e' w' => e' = .returned (.int .i64 ((k + m : Nat) : Int)) ∧ Inn B w' 5 us (markSS k ls) ∧ Chg w w' (fun k => ∃ u ∈ us, u.ownBlock = some k) := by
  subst hm
  exact markByteSS_c b cap n k B us ls w (by omega) hn ho hi hap

set_option maxHeartbeats 8000000 in
set_option maxRecDepth 100000 in
theorem lawMissingFor_c (va vb : Value) (ps : List Pc) (hpw : ∀ p ∈ ps, Pw p) (ls : List (List UInt8)) (w : World) (hva : Rd w 33 va ps.length (piL ps)) (hvb : RdSA w vb ls) : Calls Try.prog 11 #[va, vb] w fun e w' => e = .returned (.bool true) ∧ Up w w' := by
  obtain ⟨n, hps⟩ : ∃ n, ps.length = n := ⟨_, rfl⟩
  rw [hps] at hva
  obtain ⟨b, cap, rfl⟩ := hva.shape
  have hml : n ≤ maxLen := by have := hva.len_; omega
  have HA := Lib.hid hva
  have HB := Lib.hid hvb
  have HK := Lib.hid hps
  clear hva hvb hps
  have M := Mem.start w
  by_cases hbig : (1048576 : Int) - n < 0
  · go_enter Try.func11, Try.ntmps11
    go_wp2_with (first
      | (go_at_call 37; (with_reducible refine mem_call M (szPieceS_r _ n _ 1048576 (by omega) (by omega) hml _) ?_); clear M; (try clear wx); rintro _ wx rfl _ M; rw [if_pos hbig]))
    go_ret
    exact ⟨rfl, M.up⟩
  · have hn : n ≤ 1048576 := by omega
    have hh : (0 : Int) ≤ 1048576 - (n : Int) ∧ (1048576 : Int) - (n : Int) ≤ 1048576 := by omega
    have HSZ := Lib.hid (fun (w : World) (h : RdSA w vb ls) => szByteSS_c vb ls (1048576 - (n : Int)) w hh.1 hh.2 h)
    have hz : ¬ ((1048576 : Int) - (n : Int) < 0) := hbig
    go_enter Try.func11, Try.ntmps11
    go_wp2_with (first
      | (go_at_call 37; (with_reducible refine mem_call M (szPieceS_r _ n _ 1048576 (by omega) (by omega) hml _) ?_); clear M; (try clear wx); rintro _ wx rfl _ M; rw [if_neg hbig]))
    refine mem_call M (HSZ.out _ (HB.out.up M.up)) ?_
    clear M
    rintro _ wx ⟨x, rfl, hx⟩ _ M
    rcases hx with rfl | ⟨h0, hs⟩
    · go_wp2_with fail
      go_ret
      exact ⟨rfl, M.up⟩
    · have hl : ls.length + ls.flatten.length ≤ 1048576 := by omega
      have hl1 : ls.flatten.length ≤ 100000000 := by omega
      have hl2 : ls.length ≤ 1000000000 := by omega
      have hpl := mfT_len ps ls
      have HS : Hid (∀ va vb w, Rd w 33 va n (piL ps) → RdS w vb ls → Ret Try.prog 39 #[va, vb] w fun r w' => OwnR2 w w' 25 32 r (mfT ps ls).1.length (kyL (mfT ps ls).1) (.int .i64 (mfT ps ls).2)) := Lib.hid (fun va vb w h1 h2 => specMissingFor_c va vb n ps HK.out ls w h1 h2 hl1 hl2)
      have HI : Hid (∀ va vb w, Rd w 33 va n (piL ps) → RdS w vb ls → Ret Try.prog 42 #[va, vb] w fun r w' => OwnR2 w w' 25 32 r (mfT ps ls).1.length (kyL (mfT ps ls).1) (.int .i64 (mfT ps ls).2)) := Lib.hid (fun va vb w h1 h2 => implMissingFor_c va vb n ps HK.out hpw ls w h1 h2 hl1 hl2)
      generalize (mfT ps ls).2 = c at *
      generalize (mfT ps ls).1 = q at *
      obtain ⟨d, hd⟩ : ∃ d, q.length = d := ⟨_, rfl⟩
      rw [hd] at HS HI hpl
      have HD := Lib.hid hd
      obtain ⟨m, hm⟩ : ∃ m, m = (ls.map bL).flatten.length := ⟨_, rfl⟩
      have hmm : m ≤ 100000000000 := by rw [hm, map_flat]; omega
      have HM := Lib.hid hm
      have HL := Lib.hid (And.intro hl hl1)
      have hk33 : 1 + 33 * n ≤ 100000000000 := by omega
      clear hd hs hl hl1 hm
      go_wp2_with (first
        | (go_at_call 40; (with_reducible refine mem_callO M (toPieceS_c _ n ps HK.out _ (HA.out.up M.up) hn) ?_); clear M; (try clear wx); intro b_ cap_ wx M)
        | (go_at_call 41; (with_reducible refine mem_callS M (toByteSS_c _ ls _ (HB.out.up M.up) HL.out.1) ?_); clear M; (try clear wx); intro _ _ _ wx M)
        | (go_at_call 39; (with_reducible refine mem_callO2 M (HS.out _ _ _ (M.rdP ps) (M.rdS ls)) ?_); clear M; (try clear wx); intro b_ cap_ wx M)
        | (go_at_call 42; (with_reducible refine mem_callO2 M (HI.out _ _ _ (M.rdP ps) (M.rdS ls)) ?_); clear M; (try clear wx); intro b_ cap_ wx M)
        | (go_at_call 18; (with_reducible refine mem_call M (eqKeyS_same _ _ d q HD.out _ (by omega) (M.rdK q) (M.rdK q)) ?_); clear M; (try clear wx); rintro _ wx rfl _ M)
        | (go_at_call 43; (with_reducible refine mem_call M (eqPieceS_same _ _ n ps HK.out _ (by omega) (M.rdP ps) (M.rdP ps)) ?_); clear M; (try clear wx); rintro _ wx rfl _ M)
        | (go_at_call 44; (with_reducible refine mem_call M (eqByteSS_same _ _ _ ls rfl _ (by omega) (M.rdS ls) (M.rdS ls)) ?_); clear M; (try clear wx); rintro _ wx rfl _ M)
        | (go_at_call 45; (with_reducible refine mem_callW M (fun h => markPieceS_1 _ _ _ _ _ _ (by omega) h) ?_); clear M; (try clear wx); intro wx M; simp only [List.set_cons_zero, List.set_cons_succ, Nat.zero_add, List.nil_append] at M)
        | (go_at_call 46; (with_reducible refine mem_callN M (fun ho hi hap => markByteSS_k (1 + 33 * n) _ _ _ _ m _ _ _ HM.out hmm hk33 (by omega) ho hi hap) ?_); clear M; (try clear wx); intro wx M; simp only [List.set_cons_zero, List.set_cons_succ, Nat.zero_add, List.nil_append] at M)
        | (go_at_call 24; (with_reducible refine mem_callW M (fun h => markKeyS_1 _ _ _ _ _ _ (by omega) h) ?_); clear M; (try clear wx); intro wx M; simp only [List.set_cons_zero, List.set_cons_succ, Nat.zero_add, List.nil_append] at M)
        | (go_at_call 25; (with_reducible refine mem_call M (heldKeyS_1 _ _ _ (by omega) (M.rdK (markK 1 d))) ?_); clear M; (try clear wx); rintro _ wx rfl _ M))
      go_ret
      exact ⟨rfl, M.up⟩

end Go.Proofs.Ytmbhaoiahlbglaa

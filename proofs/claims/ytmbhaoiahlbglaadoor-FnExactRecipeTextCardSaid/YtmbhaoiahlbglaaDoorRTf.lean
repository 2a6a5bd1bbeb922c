/- The law RecipeText. -/
import Derived.Test.YtmbhaoiahlbglaaDoorRTe
namespace Go.Proofs.YtmbhaoiahlbglaaDoor
open Go.RowKit
set_option linter.unusedVariables false
set_option linter.unusedSimpArgs false

set_option maxHeartbeats 4000000 in
set_option maxRecDepth 100000 in
theorem lawRT_c (va : Value) (ps : List Pc) (w : World) (hva : Rd w 33 va ps.length (piL ps)) (ht : TabHas w) : Calls Tryd.prog 4 #[va] w fun e w' => e = .returned (.bool true) ∧ Up w w' := by
  obtain ⟨n, hps⟩ : ∃ n, ps.length = n := ⟨_, rfl⟩
  rw [hps] at hva
  obtain ⟨b, cap, rfl⟩ := hva.shape
  have hml : n ≤ maxLen := by have := hva.len_; omega
  have HA := Lib.hid hva
  have HK := Lib.hid hps
  have HT := Lib.hid ht
  clear hva hps ht
  have M := Mem.start w
  by_cases hbig : (1048576 : Int) - n < 0
  · go_enter Tryd.func4, Tryd.ntmps4
    go_wp2_with (first
      | (go_at_call 10; (with_reducible refine mem_call M (szPieceS_r _ n _ 1048576 (by omega) (by omega) hml _) ?_); clear M; (try clear wx); rintro _ wx rfl _ M; rw [if_pos hbig]))
    go_ret
    exact ⟨rfl, M.up⟩
  · have hn : n ≤ 1048576 := by omega
    have HS : Hid (∀ va w, Rd w 33 va n (piL ps) → Ret Tryd.prog 11 #[va] w fun r _ => r = .tuple #[.string (rtT ps).1, .int .i64 (rtT ps).2]) := Lib.hid (fun va w h => specRT_c va n ps HK.out w h)
    have HI : Hid (∀ va wx, Up w wx → Rd wx 33 va n (piL ps) → Ret Tryd.prog 13 #[va] wx fun r _ => r = .tuple #[.string (rtT ps).1, .int .i64 (rtT ps).2]) := Lib.hid (fun va wx hb h => implRT_c va n ps HK.out wx h (fun w' h' => HT.out w' (hb.trans h')))
    generalize rtT ps = c at *
    obtain ⟨T, q⟩ := c
    clear HT
    go_enter Tryd.func4, Tryd.ntmps4
    go_wp2_with (first
      | (go_at_call 10; (with_reducible refine mem_call M (szPieceS_r _ n _ 1048576 (by omega) (by omega) hml _) ?_); clear M; (try clear wx); rintro _ wx rfl _ M; rw [if_neg hbig])
      | (go_at_call 12; (with_reducible refine mem_callO M (toPieceS_c _ n ps HK.out _ (HA.out.up M.up) hn) ?_); clear M; (try clear wx); intro b_ cap_ wx M)
      | (go_at_call 11; (with_reducible refine mem_call M (HS.out _ _ (M.rdO (piL_one ps))) ?_); clear M; (try clear wx); rintro _ wx rfl _ M)
      | (go_at_call 13; (with_reducible refine mem_call M (HI.out _ _ M.up (M.rdO (piL_one ps))) ?_); clear M; (try clear wx); rintro _ wx rfl _ M)
      | (go_at_call 7; (with_reducible refine mem_call M (eqPieceS_same _ _ n ps HK.out _ (by omega) (M.rdO (piL_one ps)) (M.rdO (piL_one ps))) ?_); clear M; (try clear wx); rintro _ wx rfl _ M))
    go_ret
    exact ⟨rfl, M.up⟩

end Go.Proofs.YtmbhaoiahlbglaaDoor

/- Walks: the depth of a leaf; its law. -/
import Derived.Test.YtcldkllllojgpaaHS
namespace Go.Proofs.Ytcldkllllojgpaa
open Go.RowKit
set_option linter.unusedVariables false
set_option linter.unusedSimpArgs false

/-- What TreeDepth gives. -/
def tdT (n i : Int) : Int × Int := if 1 ≤ n ∧ n ≤ 256 ∧ 0 ≤ i ∧ i ≤ n - 1 then ((((sideR n.toNat i.toNat).length : Nat) : Int), 0) else (0, 2)

theorem l00In_is (x lo hi : Int) (b : Bool) (h : (decide (lo ≤ x) && decide (x ≤ hi)) = b) (w : World) : Ret Try.prog 28 #[.int .i64 x, .int .i64 lo, .int .i64 hi] w fun r _ => r = .bool b := h ▸ l00In_c x lo hi w
set_option maxHeartbeats 1000000 in
set_option maxRecDepth 100000 in
theorem specTreeDepth_c (n i : Int) (w : World) : Ret Try.prog 8 #[.int .i64 n, .int .i64 i] w fun r _ => r = .tuple #[.int .i64 (tdT n i).1, .int .i64 (tdT n i).2] := by
  refine ret_start fun wx M => ?_
  by_cases hn : 1 ≤ n ∧ n ≤ 256
  · have HI1 := Lib.hid (l00In_is n 1 256 true (by simp [hn]))
    obtain ⟨n, rfl⟩ : ∃ k : Nat, n = (k : Int) := ⟨n.toNat, by omega⟩
    obtain ⟨hn1, hn2⟩ := hn
    by_cases hi : 0 ≤ i ∧ i ≤ (n : Int) - 1
    · have HI2 := Lib.hid (l00In_is i 0 ((n : Int) - 1) true (by simp [hi]))
      obtain ⟨i, rfl⟩ : ∃ k : Nat, i = (k : Int) := ⟨i.toNat, by omega⟩
      have HD := Lib.hid (l03Depth_c n i (by omega) (by omega) (by omega))
      have HE := Lib.hid (show tdT n i = ((((sideR n i).length : Nat) : Int), 0) by rw [tdT, if_pos (by omega)]; rfl)
      clear hi
      generalize (sideR n i).length = d at *
      go_enter Try.func8, Try.ntmps8
      go_wp2_with (first
        | (go_at_call 28; (with_reducible refine mem_call M (HI1.out _) ?_); clear M; (try clear wx); rintro _ wx rfl _ M)
        | (go_at_call 28; (with_reducible refine mem_call M (HI2.out _) ?_); clear M; (try clear wx); rintro _ wx rfl _ M)
        | (go_at_call 29; (with_reducible refine mem_call M (HD.out _) ?_); clear M; (try clear wx); rintro _ wx rfl _ M))
      go_ret2
      exact ⟨_, rfl, by rw [HE.out]; rfl, M.up⟩
    · have HI2 := Lib.hid (l00In_is i 0 ((n : Int) - 1) false (by simp; omega))
      have HE := Lib.hid (show tdT n i = (0, 2) by rw [tdT, if_neg (by omega)])
      clear hi
      go_enter Try.func8, Try.ntmps8
      go_wp2_with (first
        | (go_at_call 28; (with_reducible refine mem_call M (HI1.out _) ?_); clear M; (try clear wx); rintro _ wx rfl _ M)
        | (go_at_call 28; (with_reducible refine mem_call M (HI2.out _) ?_); clear M; (try clear wx); rintro _ wx rfl _ M))
      go_ret2
      exact ⟨_, rfl, by rw [HE.out]; rfl, M.up⟩
  · have HI1 := Lib.hid (l00In_is n 1 256 false (by simp; omega))
    have HE := Lib.hid (show tdT n i = (0, 2) by rw [tdT, if_neg (by omega)])
    clear hn
    go_enter Try.func8, Try.ntmps8
    go_wp2_with (first
      | (go_at_call 28; (with_reducible refine mem_call M (HI1.out _) ?_); clear M; (try clear wx); rintro _ wx rfl _ M))
    go_ret2
    exact ⟨_, rfl, by rw [HE.out]; rfl, M.up⟩

theorem within_is (x lo hi : Int) (b : Bool) (h : (decide (lo ≤ x) && decide (x ≤ hi)) = b) (w : World) : Ret Try.prog 31 #[.int .i64 x, .int .i64 lo, .int .i64 hi] w fun r _ => r = .bool b := h ▸ within_c x lo hi w
set_option maxRecDepth 100000 in
theorem isLeaves_is (x : Int) (b : Bool) (h : (decide (1 ≤ x) && decide (x ≤ 256)) = b) (w : World) : Ret Try.prog 30 #[.int .i64 x] w fun r _ => r = .bool b := by
  have HW := Lib.hid (within_is x 1 256 b h)
  refine ret_start fun wx M => ?_
  clear h
  go_enter Try.func30, Try.ntmps30
  go_wp2_with (first
    | (go_at_call 31; (with_reducible refine mem_call M (HW.out _) ?_); clear M; (try clear wx); rintro _ wx rfl _ M))
  go_ret
  exact ⟨_, rfl, rfl, M.up⟩
theorem sizeBool_c (b : Option Addr) (n cap : Nat) (w : World) : Ret Try.prog 32 #[.slice b n cap] w fun r _ => r = .int .i64 (n : Int) := by
  refine ret_start fun wx M => ?_
  go_enter Try.func32, Try.ntmps32
  go_wp2_with fail
  go_ret
  exact ⟨_, rfl, rfl, M.up⟩
set_option maxHeartbeats 1000000 in
set_option maxRecDepth 100000 in
theorem implTreeDepth_c (n i : Int) (w : World) : Ret Try.prog 9 #[.int .i64 n, .int .i64 i] w fun r _ => r = .tuple #[.int .i64 (tdT n i).1, .int .i64 (tdT n i).2] := by
  refine ret_start fun wx M => ?_
  by_cases hn : 1 ≤ n ∧ n ≤ 256
  · have HI1 := Lib.hid (isLeaves_is n true (by simp [hn]))
    obtain ⟨n, rfl⟩ : ∃ k : Nat, n = (k : Int) := ⟨n.toNat, by omega⟩
    obtain ⟨hn1, hn2⟩ := hn
    by_cases hi : 0 ≤ i ∧ i ≤ (n : Int) - 1
    · have HI2 := Lib.hid (within_is i 0 ((n : Int) - 1) true (by simp [hi]))
      obtain ⟨i, rfl⟩ : ∃ k : Nat, i = (k : Int) := ⟨i.toNat, by omega⟩
      have HD := Lib.hid (sides_c n i (by omega) (by omega) (by omega))
      have HE := Lib.hid (show tdT n i = ((((sideR n i).length : Nat) : Int), 0) by rw [tdT, if_pos (by omega)]; rfl)
      clear hi
      generalize (sideR n i).length = d at *
      go_enter Try.func9, Try.ntmps9
      go_wp2_with (first
        | (go_at_call 30; (with_reducible refine mem_call M (HI1.out _) ?_); clear M; (try clear wx); rintro _ wx rfl _ M)
        | (go_at_call 31; (with_reducible refine mem_call M (HI2.out _) ?_); clear M; (try clear wx); rintro _ wx rfl _ M)
        | (go_at_call 33; (with_reducible refine mem_callO M (HD.out _) ?_); clear M; (try clear wx); intro b_ cap_ wx M)
        | (go_at_call 32; (with_reducible refine mem_call M (sizeBool_c _ _ _ _) ?_); clear M; (try clear wx); rintro _ wx rfl _ M))
      go_ret2
      exact ⟨_, rfl, by rw [HE.out]; rfl, M.up⟩
    · have HI2 := Lib.hid (within_is i 0 ((n : Int) - 1) false (by simp; omega))
      have HE := Lib.hid (show tdT n i = (0, 2) by rw [tdT, if_neg (by omega)])
      clear hi
      go_enter Try.func9, Try.ntmps9
      go_wp2_with (first
        | (go_at_call 30; (with_reducible refine mem_call M (HI1.out _) ?_); clear M; (try clear wx); rintro _ wx rfl _ M)
        | (go_at_call 31; (with_reducible refine mem_call M (HI2.out _) ?_); clear M; (try clear wx); rintro _ wx rfl _ M))
      go_ret2
      exact ⟨_, rfl, by rw [HE.out]; rfl, M.up⟩
  · have HI1 := Lib.hid (isLeaves_is n false (by simp; omega))
    have HE := Lib.hid (show tdT n i = (0, 2) by rw [tdT, if_neg (by omega)])
    clear hn
    go_enter Try.func9, Try.ntmps9
    go_wp2_with (first
      | (go_at_call 30; (with_reducible refine mem_call M (HI1.out _) ?_); clear M; (try clear wx); rintro _ wx rfl _ M))
    go_ret2
    exact ⟨_, rfl, by rw [HE.out]; rfl, M.up⟩

set_option maxHeartbeats 1000000 in
set_option maxRecDepth 100000 in
theorem lawTreeDepth_c (n i : Int) (w : World) : Calls Try.prog 3 #[.int .i64 n, .int .i64 i] w fun e w' => e = .returned (.bool true) ∧ Up w w' := by
  have M := Mem.start w
  have HS := Lib.hid (specTreeDepth_c n i)
  have HI := Lib.hid (implTreeDepth_c n i)
  generalize tdT n i = c at *
  go_enter Try.func3, Try.ntmps3
  go_wp2_with (first
    | (go_at_call 8; (with_reducible refine mem_call M (HS.out _) ?_); clear M; (try clear wx); rintro _ wx rfl _ M)
    | (go_at_call 9; (with_reducible refine mem_call M (HI.out _) ?_); clear M; (try clear wx); rintro _ wx rfl _ M))
  go_ret
  exact ⟨rfl, M.up⟩

end Go.Proofs.Ytcldkllllojgpaa

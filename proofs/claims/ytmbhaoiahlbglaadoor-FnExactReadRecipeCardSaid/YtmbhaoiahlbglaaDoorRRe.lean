/- Walks: marks of pieces looked at; the law ReadRecipe. -/
import Derived.Test.YtmbhaoiahlbglaaDoorRRd
namespace Go.Proofs.YtmbhaoiahlbglaaDoor
open Go.RowKit
set_option linter.unusedVariables false
set_option linter.unusedSimpArgs false

theorem mkPL_get (k n i : Nat) (h : i < 33 * n) : (mkPL k n)[i]? = some (mkV k i) := by
  simp [mkPL, h]
theorem mkV_b (k j q : Nat) (h : q < 32) : mkV k (33 * j + q) = .int .u8 (((k : Int) + (33 * (j : Int) + (q : Int))) % 256) := by
  unfold mkV
  rw [if_neg (by omega), bV, u8_mod, Int.natCast_add, Int.natCast_add, Int.natCast_mul]
  rfl
theorem mkV_n (k j : Nat) : mkV k (33 * j + 32) = .int .i64 ((k + (33 * j + 32) : Nat) : Int) := by
  unfold mkV
  rw [if_pos (by omega)]

set_option maxHeartbeats 1000000 in
set_option maxRecDepth 100000 in
theorem heldPieceS_c (v : Value) (n k : Nat) (w : World) (hk : k ≤ 1000000000000) (hn : n ≤ 1000000000000) (h : Rd w 33 v n (mkPL k n)) :
    Ret Tryd.prog 9 #[v, .int .i64 (k : Int)] w fun r _ => r = .int .i64 ((k + 33 * n : Nat) : Int) := by
  obtain ⟨b, cap, rfl⟩ := h.shape
  have H := Lib.hid h
  clear h
  refine ret_start fun wx M => ?_
  go_enter Tryd.func9, Tryd.ntmps9
  go_wp2_with fail
  go_loopg [1, 5] n (fun m x i wr => ∃ j : Nat, j + m = n ∧ x = .int .i64 ((k + 33 * j : Nat) : Int) ∧ i = .int .i64 (j : Int) ∧ Mem w wr [])
  case atStart => exact ⟨0, by omega, rfl, rfl, M⟩
  case round =>
    obtain ⟨j, hj, rfl, rfl, M⟩ := hrel
    by_cases hlt : j < n
    · have HJ := Lib.hid hj
      obtain ⟨g, o, rfl, hr⟩ := H.out.open_ (by omega)
      have CB := Lib.hid (show ∀ q, q < 32 → ∀ wx, Up w wx → wx.cell? ⟨g, o + j * 33 + q, none⟩ = some (.int .u8 (((k : Int) + (33 * (j : Int) + (q : Int))) % 256)) from fun q hq wx hb => by
        have h := hr wx hb (j * 33 + q) _ (mkPL_get k n _ (by omega))
        rw [Nat.mul_comm j 33, mkV_b k j q hq, ← Nat.add_assoc, Nat.mul_comm 33 j] at h
        exact h)
      have CN := Lib.hid (show ∀ wx, Up w wx → wx.cell? ⟨g, o + j * 33 + 32, none⟩ = some (.int .i64 ((k + (33 * j + 32) : Nat) : Int)) from fun wx hb => by
        have h := hr wx hb (j * 33 + 32) _ (mkPL_get k n _ (by omega))
        rw [Nat.mul_comm j 33, mkV_n k j, ← Nat.add_assoc, Nat.mul_comm 33 j] at h
        rw [Nat.mul_comm 33 j]
        exact h)
      clear hj hr
      go_wp2_with fail
      have hd : decide ((j : Int) < (n : Int)) = true := by simp; omega
      try rw [hd]
      clear hd
      go_loopg [1, 6] 32 (fun m x i wq => ∃ q : Nat, q + m = 32 ∧ x = .int .i64 ((k + (33 * j + q) : Nat) : Int) ∧ i = .int .i64 (q : Int) ∧ Mem w wq [])
      case atStart => exact ⟨0, by omega, by go_num, rfl, M⟩
      case round =>
        obtain ⟨q, hq, rfl, rfl, M⟩ := hrel
        by_cases hql : q < 32
        · have C1 := Lib.hid (CB.out q hql)
          have HQ := Lib.hid hq
          clear hq
          go_wp2_with (first
            | (with_reducible (show wpList _ _ _ (Oper.mk _ (.load _ _) _ _ _ _ :: _) _ _); (first | (refine wpList_load_one rfl rfl rfl (C1.out _ M.up) ?_) | (refine m_load M rfl rfl rfl (by first | assumption | rfl) ?_) | (refine m_loadR M rfl rfl rfl (by first | rfl | assumption | (simp; done) | (simp; omega)) ?_))))
          have hq := HQ.out
          go_roundg (32 - q - 1)
          case measure => omega
          case rel => exact ⟨q + 1, by omega, by go_num, by go_num, M⟩
        · obtain rfl : q = 32 := by omega
          clear hq
          go_wp2_with (first
            | (with_reducible (show wpList _ _ _ (Oper.mk _ (.load _ _) _ _ _ _ :: _) _ _); (first | (refine wpList_load_one rfl rfl rfl (CN.out _ M.up) ?_) | (refine m_load M rfl rfl rfl (by first | assumption | rfl) ?_) | (refine m_loadR M rfl rfl rfl (by first | rfl | assumption | (simp; done) | (simp; omega)) ?_))))
          have hj := HJ.out
          go_roundg (n - j - 1)
          case measure => omega
          case rel => exact ⟨j + 1, by omega, by go_num, by go_num, M⟩
    · obtain rfl : j = n := by omega
      clear hj
      go_wp2_with fail
      go_ret
      exact ⟨_, rfl, rfl, M.up⟩
theorem markPieceS_1 (b : Option Addr) (cap n B : Nat) (xs : List Value) (w : World) (hn : n ≤ 1000000000000) (h : w.ownsRow B 43 33 (.slice b n cap) n xs) :
    Writes Tryd.prog 8 #[.slice b n cap, .int .i64 1] w B 43 33 b cap n (mkPL 1 n) (.int .i64 (1 + 33 * (n : Int))) := by
  have := markPieceS_c b cap n 1 B xs w (by decide) hn h
  rw [Int.natCast_add, Int.natCast_mul] at this
  exact this
theorem heldPieceS_1 (v : Value) (n : Nat) (w : World) (hn : n ≤ 1000000000000) (h : Rd w 33 v n (mkPL 1 n)) :
    Ret Tryd.prog 9 #[v, .int .i64 1] w fun r _ => r = .int .i64 (1 + 33 * (n : Int)) := by
  have := heldPieceS_c v n 1 w (by decide) hn h
  rw [Int.natCast_add, Int.natCast_mul] at this
  exact this

theorem rrS_len (l : List UInt8) : (rrS l).1.length ≤ 256 := by
  unfold rrS
  split
  · exact Nat.zero_le _
  · rename_i h
    split
    · rename_i ps hp
      split
      · have := rdL_len hp
        have h2 := sp_len 10 l
        rw [List.length_dropLast] at this
        show ps.length ≤ 256
        omega
      · exact Nat.zero_le _
    · exact Nat.zero_le _
set_option maxHeartbeats 4000000 in
set_option maxRecDepth 100000 in
theorem lawRR_c (s : ByteArray) (w : World) (hE : LibHas w) : Calls Tryd.prog 3 #[.string s] w fun e w' => e = .returned (.bool true) ∧ Up w w' := by
  have M := Mem.start w
  by_cases hbig : 1048576 < s.size
  · go_enter Tryd.func3, Tryd.ntmps3
    go_wp2_with fail
    go_ret
    exact ⟨rfl, M.up⟩
  · have hs : s.size ≤ 1048576 := by omega
    have hpl := rrS_len s.data.toList
    have HS : Hid (∀ w, Ret Tryd.prog 5 #[.string s] w fun r w' => OwnR2 w w' 43 33 r (rrS s.data.toList).1.length (piL (rrS s.data.toList).1) (.int .i64 (rrS s.data.toList).2)) := Lib.hid (fun w => specRR_c s hs w)
    have HI : Hid (∀ wx, Up w wx → Ret Tryd.prog 6 #[.string s] wx fun r w' => OwnR2 wx w' 43 33 r (rrS s.data.toList).1.length (piL (rrS s.data.toList).1) (.int .i64 (rrS s.data.toList).2)) := Lib.hid (fun wx hb => by
      have := implRR_c s hs wx (hE.up hb)
      rwa [rr_eq (fun n h => dec4 n h)] at this)
    generalize (rrS s.data.toList).2 = c at *
    generalize (rrS s.data.toList).1 = q at *
    obtain ⟨d, hd⟩ : ∃ d, q.length = d := ⟨_, rfl⟩
    rw [hd] at HS HI hpl
    have HD := Lib.hid hd
    clear hd hE
    go_enter Tryd.func3, Tryd.ntmps3
    go_wp2_with (first
      | (go_at_call 5; (with_reducible refine mem_callO2 M (HS.out _) ?_); clear M; (try clear wx); intro b_ cap_ wx M)
      | (go_at_call 6; (with_reducible refine mem_callO2 M (HI.out _ M.up) ?_); clear M; (try clear wx); intro b_ cap_ wx M)
      | (go_at_call 7; (with_reducible refine mem_call M (eqPieceS_same _ _ d q HD.out _ (by omega) (M.rdP q) (M.rdP q)) ?_); clear M; (try clear wx); rintro _ wx rfl _ M)
      | (go_at_call 8; (with_reducible refine mem_callW M (fun h => markPieceS_1 _ _ _ _ _ _ (by omega) h) ?_); clear M; (try clear wx); intro wx M; simp only [List.set_cons_zero, List.set_cons_succ, Nat.zero_add, List.nil_append] at M)
      | (go_at_call 9; (with_reducible refine mem_call M (heldPieceS_1 _ _ _ (by omega) (M.rdO (mkPL_one 1 d))) ?_); clear M; (try clear wx); rintro _ wx rfl _ M))
    go_ret
    exact ⟨rfl, M.up⟩

end Go.Proofs.YtmbhaoiahlbglaaDoor

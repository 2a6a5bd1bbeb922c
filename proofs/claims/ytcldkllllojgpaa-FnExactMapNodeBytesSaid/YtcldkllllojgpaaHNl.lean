/- Walks: the law MapNodeBytes. -/
import Derived.Test.YtcldkllllojgpaaHNb
import Derived.Test.YtcldkllllojgpaaHL
namespace Go.Proofs.Ytcldkllllojgpaa
open Go.RowKit
set_option linter.unusedVariables false
set_option linter.unusedSimpArgs false

theorem mnB_len (k0 k1 : Ky) (n v : ByteArray) (hn : n.size ≤ 1048576) (hv : v.size ≤ 1048576) : (mnB k0 k1 n v).length ≤ 1000000000 := by
  cases h : entB n v with
  | true => rw [mnB_yes h, nodB_len]; omega
  | false => rw [mnB_no h]; simp
theorem szE_or (n v : ByteArray) : szE n v 1048576 = -1 ∨ (n.size ≤ 1048576 ∧ v.size ≤ 1048576 ∧ 0 ≤ szE n v 1048576) := by
  unfold szE
  split
  · exact .inl rfl
  · split
    · exact .inl rfl
    · exact .inr ⟨by omega, by omega, by omega⟩

set_option maxHeartbeats 1000000 in
set_option maxRecDepth 100000 in
theorem szMapNode_c (k0 k1 : Ky) (n v : ByteArray) (hn : n.size ≤ maxLen) (hv : v.size ≤ maxLen) (w : World) :
    Ret Try.prog 22 #[.agg (nodC k0.1 k1.1 n v), .int .i64 1048576] w fun r _ => r = .int .i64 (szE n v 1048576) := by
  have h0 := k0.2
  have h1 := k1.2
  refine ret_start fun wx M => ?_
  have HZ := Lib.hid (fun w => Ret.of (szEntry_c n v hn hv 1048576 (by omega) (by omega) w))
  have hc := szE_or n v
  generalize szE n v 1048576 = l1 at *
  clear hn hv
  rcases hc with hc | ⟨-, -, hc⟩
  · subst hc
    go_enter Try.func22, Try.ntmps22
    go_wp2_with (first
      | (go_at_call 34; (with_reducible refine mem_call M (HZ.out _) ?_); clear M; (try clear wx); rintro _ wx rfl _ M)
      | (with_reducible (show wpList _ _ _ (Oper.mk (some 2) (.box _ _) _ _ _ _ :: _) _ _); (first | (refine m_boxA M rfl rfl rfl ?_) | (refine m_box1 (v := Value.int _ _) M rfl rfl rfl rfl ?_) | (refine m_box1 (v := Value.slice _ _ _) M rfl rfl rfl rfl ?_) | (refine m_box1 (v := Value.bool _) M rfl rfl rfl rfl ?_) | (refine m_box1 (v := Value.string _) M rfl rfl rfl rfl ?_) | (refine m_box1 (v := Value.pointer _) M rfl rfl rfl rfl ?_)); clear M; (try clear wx); intro g2 wx M)
      | (with_reducible (show wpList _ _ _ (Oper.mk _ (.load _ _) _ _ _ _ :: _) _ _); (first | (refine m_loadE M rfl rfl rfl (nod_getE _ _ h0 h1 _ _) ?_) | (refine m_load M rfl rfl rfl (by first | assumption | rfl) ?_) | (refine m_loadR M rfl rfl rfl (nod_size _ _ h0 h1 _ _) ?_))))
    go_ret
    exact ⟨_, rfl, rfl, M.up⟩
  · go_enter Try.func22, Try.ntmps22
    go_wp2_with (first
      | (go_at_call 34; (with_reducible refine mem_call M (HZ.out _) ?_); clear M; (try clear wx); rintro _ wx rfl _ M)
      | (with_reducible (show wpList _ _ _ (Oper.mk (some 2) (.box _ _) _ _ _ _ :: _) _ _); (first | (refine m_boxA M rfl rfl rfl ?_) | (refine m_box1 (v := Value.int _ _) M rfl rfl rfl rfl ?_) | (refine m_box1 (v := Value.slice _ _ _) M rfl rfl rfl rfl ?_) | (refine m_box1 (v := Value.bool _) M rfl rfl rfl rfl ?_) | (refine m_box1 (v := Value.string _) M rfl rfl rfl rfl ?_) | (refine m_box1 (v := Value.pointer _) M rfl rfl rfl rfl ?_)); clear M; (try clear wx); intro g2 wx M)
      | (with_reducible (show wpList _ _ _ (Oper.mk _ (.load _ _) _ _ _ _ :: _) _ _); (first | (refine m_loadE M rfl rfl rfl (nod_getE _ _ h0 h1 _ _) ?_) | (refine m_load M rfl rfl rfl (by first | assumption | rfl) ?_) | (refine m_loadR M rfl rfl rfl (nod_size _ _ h0 h1 _ _) ?_))))
    go_ret
    exact ⟨_, rfl, rfl, M.up⟩

theorem toKeyN (k : List UInt8) (hk : k.length = 32) (w : World) : Ret Try.prog 45 #[.agg (bA k)] w fun r _ => r = .agg (bA k) := Ret.of (toKey_c k hk w)
theorem bA_all (l : List UInt8) : (bA l).all (·.oneCell') = true := by simp [bA, bV, Value.oneCell']
set_option maxHeartbeats 2000000 in
set_option maxRecDepth 100000 in
theorem toMapNode_c (k0 k1 : Ky) (n v : ByteArray) (w : World) :
    Ret Try.prog 24 #[.agg (nodC k0.1 k1.1 n v)] w fun r _ => r = .agg (nodC k0.1 k1.1 n v) := by
  have h0 := k0.2
  have h1 := k1.2
  have hb0 : (bA k0.1).size = 32 := by simp [h0]
  have hb1 : (bA k1.1).size = 32 := by simp [h1]
  refine ret_start fun wx M => ?_
  go_enter Try.func24, Try.ntmps24
  go_wp2_with (first
    | (go_at_call 36; (with_reducible refine mem_call M (toEntry_r (n, v) _) ?_); clear M; (try clear wx); rintro _ wx rfl _ M)
    | (go_at_call 45; (first | (with_reducible refine mem_call M (toKeyN k0.1 h0 _) ?_) | (with_reducible refine mem_call M (toKeyN k1.1 h1 _) ?_)); clear M; (try clear wx); rintro _ wx rfl _ M)
    | (with_reducible (show wpList _ _ _ (Oper.mk _ (.store _ (.tmp 7) (.tmp 6)) _ _ _ _ :: _) _ _); refine m_storeP M rfl rfl rfl rfl hb0 (Nat.le_trans (by decide : 0 + 32 ≤ 66) (Nat.le_of_eq nodZ_size.symm)) (bA_all _) ?_; clear M; (try clear wx); intro wx M; simp only [List.set_cons_zero, List.set_cons_succ, Nat.zero_add, List.nil_append] at M; rw [show (bA k0.1).toList = bL k0.1 from rfl, nod_set0 _ _ rfl rfl _ _ _ h0] at M)
    | (with_reducible (show wpList _ _ _ (Oper.mk _ (.store _ (.tmp 11) (.tmp 10)) _ _ _ _ :: _) _ _); refine m_storeP M rfl rfl rfl rfl hb1 (Nat.le_trans (by decide : 32 + 32 ≤ 66) (Nat.le_of_eq (nod_size _ _ h0 rfl _ _).symm)) (bA_all _) ?_; clear M; (try clear wx); intro wx M; simp only [List.set_cons_zero, List.set_cons_succ, Nat.zero_add, List.nil_append] at M; rw [show (bA k1.1).toList = bL k1.1 from rfl, nod_set1 _ _ h0 rfl _ _ _ h1] at M)
    | (with_reducible (show wpList _ _ _ (Oper.mk _ (.store _ (.tmp 15) (.tmp 14)) _ _ _ _ :: _) _ _); refine m_storeP M rfl rfl rfl rfl rfl (Nat.le_of_eq (nod_size _ _ h0 h1 _ _).symm) (entC_one (n, v)) ?_; clear M; (try clear wx); intro wx M; simp only [List.set_cons_zero, List.set_cons_succ, Nat.zero_add, List.nil_append] at M; rw [nod_setE _ _ h0 h1] at M)
    | (with_reducible (show wpList _ _ _ (Oper.mk (some 1) (.box _ _) _ _ _ _ :: _) _ _); (first | (refine m_boxA M rfl rfl rfl ?_) | (refine m_box1 (v := Value.int _ _) M rfl rfl rfl rfl ?_) | (refine m_box1 (v := Value.slice _ _ _) M rfl rfl rfl rfl ?_) | (refine m_box1 (v := Value.bool _) M rfl rfl rfl rfl ?_) | (refine m_box1 (v := Value.string _) M rfl rfl rfl rfl ?_) | (refine m_box1 (v := Value.pointer _) M rfl rfl rfl rfl ?_)); clear M; (try clear wx); intro g1 wx M)
    | (with_reducible (show wpList _ _ _ (Oper.mk (some 2) (.alloc _) _ _ _ _ :: _) _ _); refine mem_new M rfl rfl ?_; clear M; (try clear wx); intro g2 wx M)
    | (with_reducible (show wpList _ _ _ (Oper.mk (some 3) (.alloc _) _ _ _ _ :: _) _ _); refine mem_new M rfl rfl ?_; clear M; (try clear wx); intro g3 wx M)
    | (with_reducible (show wpList _ _ _ (Oper.mk _ (.load _ _) _ _ _ _ :: _) _ _); (first | (refine m_loadB M rfl rfl rfl (nod_get0 _ _ h0 h1 _ _) h0 ?_) | (refine m_loadB M rfl rfl rfl (nod_get1 _ _ h0 h1 _ _) h1 ?_) | (refine m_loadE M rfl rfl rfl (nod_getE _ _ h0 h1 _ _) ?_) | (refine m_load M rfl rfl rfl (by first | assumption | rfl) ?_) | (refine m_loadR M rfl rfl rfl (by first | exact nod_size _ _ h0 h1 _ _ | exact nodZ_size) ?_)))
    | (with_reducible (show wpList _ _ _ (Oper.mk _ (.store _ _ _) _ _ _ _ :: _) _ _); (first | (refine m_storeR M rfl rfl rfl rfl (by first | exact nod_size _ _ h0 h1 _ _ | exact nodZ_size) (by first | exact nod_size _ _ h0 h1 _ _ | exact nodZ_size) (nod_one _ _ h0 h1 _ _) ?_) | (refine m_store (v := Value.int _ _) M rfl rfl rfl rfl rfl (by first | assumption | (simp; done) | (simp; omega)) ?_) | (refine m_store (v := Value.slice _ _ _) M rfl rfl rfl rfl rfl (by first | assumption | (simp; done) | (simp; omega)) ?_) | (refine m_store (v := Value.bool _) M rfl rfl rfl rfl rfl (by first | assumption | (simp; done) | (simp; omega)) ?_) | (refine m_store (v := Value.string _) M rfl rfl rfl rfl rfl (by first | assumption | (simp; done) | (simp; omega)) ?_) | (refine m_store (v := Value.pointer _) M rfl rfl rfl rfl rfl (by first | assumption | (simp; done) | (simp; omega)) ?_)); clear M; (try clear wx); intro wx M; simp only [List.set_cons_zero, List.set_cons_succ, Nat.zero_add, List.nil_append] at M))
  exact m_ret M rfl rfl rfl (nod_size _ _ h0 h1 _ _) rfl

theorem eqByteS_n (va vb : Value) (l : List UInt8) (m : Nat) (hm : l.length = m) (w : World) (ha : Rd w 1 va m (bL l)) (hb : Rd w 1 vb m (bL l)) : Ret Try.prog 21 #[va, vb] w fun r _ => r = .bool true := by
  subst hm
  exact eqByteS_r va vb l w ha.rdb hb.rdb

set_option maxHeartbeats 4000000 in
set_option maxRecDepth 100000 in
theorem lawMapNodeBytes_c (k0 k1 : Ky) (n v : ByteArray) (hn : n.size ≤ maxLen) (hv : v.size ≤ maxLen) (w : World) : Calls Try.prog 7 #[.agg (nodC k0.1 k1.1 n v)] w fun e w' => e = .returned (.bool true) ∧ Up w w' := by
  have h0 := k0.2
  have h1 := k1.2
  have HZ := Lib.hid (fun w => szMapNode_c k0 k1 n v hn hv w)
  have HT := Lib.hid (fun w => toMapNode_c k0 k1 n v w)
  have hc := szE_or n v
  have M := Mem.start w
  clear hn hv
  generalize szE n v 1048576 = l1 at *
  rcases hc with rfl | ⟨hn, hv, hc⟩
  · go_enter Try.func7, Try.ntmps7
    go_wp2_with (first
      | (go_at_call 22; (with_reducible refine mem_call M (HZ.out _) ?_); clear M; (try clear wx); rintro _ wx rfl _ M)
      | (with_reducible (show wpList _ _ _ (Oper.mk (some 1) (.box _ _) _ _ _ _ :: _) _ _); (first | (refine m_boxA M rfl rfl rfl ?_) | (refine m_box1 (v := Value.int _ _) M rfl rfl rfl rfl ?_) | (refine m_box1 (v := Value.slice _ _ _) M rfl rfl rfl rfl ?_) | (refine m_box1 (v := Value.bool _) M rfl rfl rfl rfl ?_) | (refine m_box1 (v := Value.string _) M rfl rfl rfl rfl ?_) | (refine m_box1 (v := Value.pointer _) M rfl rfl rfl rfl ?_)); clear M; (try clear wx); intro g1 wx M)
      | (with_reducible (show wpList _ _ _ (Oper.mk _ (.load _ _) _ _ _ _ :: _) _ _); (first | (refine m_load M rfl rfl rfl (by first | assumption | rfl) ?_) | (refine m_loadR M rfl rfl rfl (nod_size _ _ h0 h1 _ _) ?_))))
    go_ret
    exact ⟨rfl, M.up⟩
  · have HS := Lib.hid (fun w => specMapNodeBytes_c k0 k1 n v w hn hv)
    have HI := Lib.hid (fun w => implMapNodeBytes_c k0 k1 n v w hn hv)
    have hlen := mnB_len k0 k1 n v hn hv
    generalize mnB k0 k1 n v = l at *
    generalize mnC n v = c at *
    obtain ⟨m, hm⟩ : ∃ m, l.length = m := ⟨_, rfl⟩
    rw [hm] at HS HI hlen
    have HM := Lib.hid hm
    clear hn hv hm
    go_enter Try.func7, Try.ntmps7
    go_wp2_with (first
      | (go_at_call 22; (with_reducible refine mem_call M (HZ.out _) ?_); clear M; (try clear wx); rintro _ wx rfl _ M)
      | (go_at_call 24; (with_reducible refine mem_call M (HT.out _) ?_); clear M; (try clear wx); rintro _ wx rfl _ M)
      | (go_at_call 23; (with_reducible refine mem_callO2 M (HS.out _) ?_); clear M; (try clear wx); intro b_ cap_ wx M)
      | (go_at_call 25; (with_reducible refine mem_callO2 M (HI.out _) ?_); clear M; (try clear wx); intro b_ cap_ wx M)
      | (go_at_call 21; (with_reducible refine mem_call M (eqByteS_n _ _ l m HM.out _ M.rdB M.rdB) ?_); clear M; (try clear wx); rintro _ wx rfl _ M)
      | (go_at_call 26; (with_reducible refine mem_callW M (fun h => markByteS_1 _ _ m _ _ _ (by omega) h) ?_); clear M; (try clear wx); intro wx M; simp only [List.set_cons_zero, List.set_cons_succ, Nat.zero_add, List.nil_append] at M)
      | (go_at_call 27; (with_reducible refine mem_call M (heldByteS_1 _ m _ (by omega) M.rdB) ?_); clear M; (try clear wx); rintro _ wx rfl _ M)
      | (with_reducible (show wpList _ _ _ (Oper.mk (some 1) (.box _ _) _ _ _ _ :: _) _ _); (first | (refine m_boxA M rfl rfl rfl ?_) | (refine m_box1 (v := Value.int _ _) M rfl rfl rfl rfl ?_) | (refine m_box1 (v := Value.slice _ _ _) M rfl rfl rfl rfl ?_) | (refine m_box1 (v := Value.bool _) M rfl rfl rfl rfl ?_) | (refine m_box1 (v := Value.string _) M rfl rfl rfl rfl ?_) | (refine m_box1 (v := Value.pointer _) M rfl rfl rfl rfl ?_)); clear M; (try clear wx); intro g1 wx M)
      | (with_reducible (show wpList _ _ _ (Oper.mk _ (.load _ _) _ _ _ _ :: _) _ _); (first | (refine m_load M rfl rfl rfl (by first | assumption | rfl) ?_) | (refine m_loadR M rfl rfl rfl (nod_size _ _ h0 h1 _ _) ?_))))
    go_ret
    exact ⟨rfl, M.up⟩

end Go.Proofs.Ytcldkllllojgpaa

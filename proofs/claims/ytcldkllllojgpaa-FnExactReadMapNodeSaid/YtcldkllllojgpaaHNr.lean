/- Walks: nodes of maps read; the law ReadMapNode. -/
import Derived.Test.YtcldkllllojgpaaHNd
namespace Go.Proofs.Ytcldkllllojgpaa
open Go.RowKit
set_option linter.unusedVariables false
set_option linter.unusedSimpArgs false

/-- What ReadMapNode gives. -/
def rmT (d : List UInt8) : Nd × Int :=
  if 65 ≤ d.length ∧ 65 + (bt d 64).toNat ≤ d.length ∧ entB (txt (cutL d 65 (bt d 64).toNat)) (txt (d.drop (65 + (bt d 64).toNat))) = true then ((cutK d 0, cutK d 32, txt (cutL d 65 (bt d 64).toNat), txt (d.drop (65 + (bt d 64).toNat))), 0) else (zeroNd, 5)
theorem entB_bd (n v : ByteArray) (h : entB n v = true) : 1 ≤ n.size ∧ n.size ≤ 24 ∧ v.size ≤ 64 := by
  simp only [entB, inB, Bool.and_eq_true, decide_eq_true_eq] at h
  omega

/-- What l04Read gives. -/
def LrP (d : List UInt8) (r : Value) : Prop := ∃ (x : Nd) (b : Bool), r = .tuple #[.agg (nodV x), .bool b] ∧ (b = true → rmT d = (x, 0)) ∧ (b = false → rmT d = (zeroNd, 5))
theorem LrP.no {d : List UInt8} (h : rmT d = (zeroNd, 5)) : LrP d (.tuple #[.agg (nodC zero32 zero32 ByteArray.empty ByteArray.empty), .bool false]) := ⟨zeroNd, false, rfl, fun h => (by cases h), fun _ => h⟩

theorem LrP.yes {d : List UInt8} {k0 k1 : Ky} {n v : ByteArray} (h : rmT d = ((k0, k1, n, v), 0)) : LrP d (.tuple #[.agg (nodC k0.1 k1.1 n v), .bool true]) := ⟨(k0, k1, n, v), true, rfl, fun _ => h, fun h => (by cases h)⟩
theorem LrP.not {d : List UInt8} {x : Nd} (h : rmT d = (zeroNd, 5)) : LrP d (.tuple #[.agg (nodC x.1.1 x.2.1.1 x.2.2.1 x.2.2.2), .bool false]) := ⟨x, false, rfl, fun h => (by cases h), fun _ => h⟩

set_option maxHeartbeats 8000000 in
set_option maxRecDepth 100000 in
theorem l04Read_c (v : Value) (d : List UInt8) (n : Nat) (hd : d.length = n) (w : World) (hn : n ≤ 1048576) (hv : Rd w 1 v n (bL d)) :
    Ret Try.prog 41 #[v] w fun r _ => LrP d r := by
  obtain ⟨b, cap, rfl⟩ := hv.shape
  have HV := Lib.hid hv
  refine ret_start fun wx M => ?_
  clear hv
  by_cases hshort : n < 66 ∨ 153 < n
  · have HE := Lib.hid (show rmT d = (zeroNd, 5) by
      rw [rmT, if_neg]
      rintro ⟨h1, h2, h3⟩
      have := entB_bd _ _ h3
      rw [txt_size, txt_size, cutL_len _ _ _ h2, List.length_drop] at this
      omega)
    clear hd
    rcases hshort with hs | hs
    · go_enter Try.func41, Try.ntmps41
      go_wp2_with (first
        | (with_reducible (show wpList _ _ _ (Oper.mk (some 2) (.alloc _) _ _ _ _ :: _) _ _); refine mem_new M rfl rfl ?_; clear M; (try clear wx); intro g2 wx M)
        | (with_reducible (show wpList _ _ _ (Oper.mk (some 4) (.alloc _) _ _ _ _ :: _) _ _); refine mem_new M rfl rfl ?_; clear M; (try clear wx); intro g4 wx M)
        | (with_reducible (show wpList _ _ _ (Oper.mk _ (.load _ _) _ _ _ _ :: _) _ _); (first | (refine m_load M rfl rfl rfl (by first | assumption | rfl) ?_) | (refine m_loadR M rfl rfl rfl (by first | exact nod_size _ _ rfl rfl _ _ | exact nodV_size _ | assumption | rfl | (simp; done)) ?_)))
        | (with_reducible (show wpList _ _ _ (Oper.mk _ (.store _ _ _) _ _ _ _ :: _) _ _); (first | (refine m_storeR M rfl rfl rfl rfl (by first | exact nod_size _ _ rfl rfl _ _ | exact nodV_size _ | assumption | rfl | (simp; done)) (by first | exact nod_size _ _ rfl rfl _ _ | exact nodV_size _ | assumption | rfl | (simp; done)) (by first | exact nod_one _ _ rfl rfl _ _ | exact nodV_one _ | exact entC_one _ | exact bA_one _) ?_) | (refine m_store (v := Value.int _ _) M rfl rfl rfl rfl rfl (by first | assumption | (simp; done) | (simp; omega)) ?_) | (refine m_store (v := Value.slice _ _ _) M rfl rfl rfl rfl rfl (by first | assumption | (simp; done) | (simp; omega)) ?_) | (refine m_store (v := Value.bool _) M rfl rfl rfl rfl rfl (by first | assumption | (simp; done) | (simp; omega)) ?_) | (refine m_store (v := Value.string _) M rfl rfl rfl rfl rfl (by first | assumption | (simp; done) | (simp; omega)) ?_) | (refine m_store (v := Value.pointer _) M rfl rfl rfl rfl rfl (by first | assumption | (simp; done) | (simp; omega)) ?_)); clear M; (try clear wx); intro wx M; simp only [List.set_cons_zero, List.set_cons_succ, Nat.zero_add, List.nil_append] at M)
        | (with_reducible (show wpList _ _ _ (Oper.mk _ (.build _ _) _ _ _ _ :: _) _ _); refine m_buildZ rfl rfl ?_))
      refine m_ret2 M rfl rfl rfl nodZ_size ?_
      exact LrP.no HE.out
    · have hs' : ¬ n < 66 := by omega
      go_enter Try.func41, Try.ntmps41
      go_wp2_with (first
        | (with_reducible (show wpList _ _ _ (Oper.mk (some 2) (.alloc _) _ _ _ _ :: _) _ _); refine mem_new M rfl rfl ?_; clear M; (try clear wx); intro g2 wx M)
        | (with_reducible (show wpList _ _ _ (Oper.mk (some 4) (.alloc _) _ _ _ _ :: _) _ _); refine mem_new M rfl rfl ?_; clear M; (try clear wx); intro g4 wx M)
        | (with_reducible (show wpList _ _ _ (Oper.mk _ (.load _ _) _ _ _ _ :: _) _ _); (first | (refine m_load M rfl rfl rfl (by first | assumption | rfl) ?_) | (refine m_loadR M rfl rfl rfl (by first | exact nod_size _ _ rfl rfl _ _ | exact nodV_size _ | assumption | rfl | (simp; done)) ?_)))
        | (with_reducible (show wpList _ _ _ (Oper.mk _ (.store _ _ _) _ _ _ _ :: _) _ _); (first | (refine m_storeR M rfl rfl rfl rfl (by first | exact nod_size _ _ rfl rfl _ _ | exact nodV_size _ | assumption | rfl | (simp; done)) (by first | exact nod_size _ _ rfl rfl _ _ | exact nodV_size _ | assumption | rfl | (simp; done)) (by first | exact nod_one _ _ rfl rfl _ _ | exact nodV_one _ | exact entC_one _ | exact bA_one _) ?_) | (refine m_store (v := Value.int _ _) M rfl rfl rfl rfl rfl (by first | assumption | (simp; done) | (simp; omega)) ?_) | (refine m_store (v := Value.slice _ _ _) M rfl rfl rfl rfl rfl (by first | assumption | (simp; done) | (simp; omega)) ?_) | (refine m_store (v := Value.bool _) M rfl rfl rfl rfl rfl (by first | assumption | (simp; done) | (simp; omega)) ?_) | (refine m_store (v := Value.string _) M rfl rfl rfl rfl rfl (by first | assumption | (simp; done) | (simp; omega)) ?_) | (refine m_store (v := Value.pointer _) M rfl rfl rfl rfl rfl (by first | assumption | (simp; done) | (simp; omega)) ?_)); clear M; (try clear wx); intro wx M; simp only [List.set_cons_zero, List.set_cons_succ, Nat.zero_add, List.nil_append] at M)
        | (with_reducible (show wpList _ _ _ (Oper.mk _ (.build _ _) _ _ _ _ :: _) _ _); refine m_buildZ rfl rfl ?_))
      refine m_ret2 M rfl rfl rfl nodZ_size ?_
      exact LrP.no HE.out
  have hs1 : ¬ n < 66 := by omega
  have hs2 : ¬ 153 < n := by omega
  obtain ⟨g, o, rfl, hc⟩ := HV.out.open_ (by omega)
  have CJ := Lib.hid (show ∀ wx, Up w wx → ∀ j, j < n → wx.cell? ⟨g, o + j, none⟩ = some (.int .u8 ((bt d j).toNat : Int)) from fun wx hb j hj => hc wx hb _ _ (bL_get d j (by omega)))
  have C64 := Lib.hid (fun wx hb => CJ.out wx hb 64 (by omega))
  obtain ⟨q, hq⟩ : ∃ q, (bt d 64).toNat = q := ⟨_, rfl⟩
  have hqb : q < 256 := by rw [← hq]; exact (bt d 64).toNat_lt
  rw [hq] at C64
  clear hshort hc
  by_cases hlong : n < 65 + q
  · have HE := Lib.hid (show rmT d = (zeroNd, 5) by rw [rmT, if_neg]; rw [hq]; omega)
    clear hd hq
    go_enter Try.func41, Try.ntmps41
    go_wp2_with (first
      | (with_reducible (show wpList _ _ _ (Oper.mk (some 2) (.alloc _) _ _ _ _ :: _) _ _); refine mem_new M rfl rfl ?_; clear M; (try clear wx); intro g2 wx M)
      | (with_reducible (show wpList _ _ _ (Oper.mk (some 4) (.alloc _) _ _ _ _ :: _) _ _); refine mem_new M rfl rfl ?_; clear M; (try clear wx); intro g4 wx M)
      | (with_reducible (show wpList _ _ _ (Oper.mk _ (.load _ _) _ _ _ _ :: _) _ _); (first | (refine wpList_load_one rfl rfl rfl (C64.out _ M.up) ?_) | (refine m_load M rfl rfl rfl (by first | assumption | rfl) ?_) | (refine m_loadR M rfl rfl rfl (by first | exact nod_size _ _ rfl rfl _ _ | exact nodV_size _ | assumption | rfl | (simp; done)) ?_)))
      | (with_reducible (show wpList _ _ _ (Oper.mk _ (.store _ _ _) _ _ _ _ :: _) _ _); (first | (refine m_storeR M rfl rfl rfl rfl (by first | exact nod_size _ _ rfl rfl _ _ | exact nodV_size _ | assumption | rfl | (simp; done)) (by first | exact nod_size _ _ rfl rfl _ _ | exact nodV_size _ | assumption | rfl | (simp; done)) (by first | exact nod_one _ _ rfl rfl _ _ | exact nodV_one _ | exact entC_one _ | exact bA_one _) ?_) | (refine m_store (v := Value.int _ _) M rfl rfl rfl rfl rfl (by first | assumption | (simp; done) | (simp; omega)) ?_) | (refine m_store (v := Value.slice _ _ _) M rfl rfl rfl rfl rfl (by first | assumption | (simp; done) | (simp; omega)) ?_) | (refine m_store (v := Value.bool _) M rfl rfl rfl rfl rfl (by first | assumption | (simp; done) | (simp; omega)) ?_) | (refine m_store (v := Value.string _) M rfl rfl rfl rfl rfl (by first | assumption | (simp; done) | (simp; omega)) ?_) | (refine m_store (v := Value.pointer _) M rfl rfl rfl rfl rfl (by first | assumption | (simp; done) | (simp; omega)) ?_)); clear M; (try clear wx); intro wx M; simp only [List.set_cons_zero, List.set_cons_succ, Nat.zero_add, List.nil_append] at M)
      | (with_reducible (show wpList _ _ _ (Oper.mk _ (.build _ _) _ _ _ _ :: _) _ _); refine m_buildZ rfl rfl ?_))
    refine m_ret2 M rfl rfl rfl nodZ_size ?_
    exact LrP.no HE.out
  have hq2 : 65 + q ≤ n := by omega
  have HE1 := Lib.hid (show entB (txt (cutL d 65 q)) (txt (d.drop (65 + q))) = true → rmT d = ((cutK d 0, cutK d 32, txt (cutL d 65 q), txt (d.drop (65 + q))), 0) from fun h => by rw [rmT, if_pos]; rw [hq]; rw [hq]; exact ⟨by omega, by omega, h⟩)
  have HE2 := Lib.hid (show entB (txt (cutL d 65 q)) (txt (d.drop (65 + q))) = false → rmT d = (zeroNd, 5) from fun h => by rw [rmT, if_neg]; rw [hq]; rintro ⟨-, -, h'⟩; rw [h] at h'; cases h')
  have K0 := Lib.hid (show fillTo (fun i => bt d i) 32 32 0 = (cutK d 0).1 by rw [cutK_eq d 0 (by omega), ← fill_cut d 0 (by omega)]; simp)
  have K1 := Lib.hid (show fillTo (fun i => bt d (32 + i)) 32 32 0 = (cutK d 32).1 by rw [cutK_eq d 32 (by omega), ← fill_cut d 32 (by omega)])
  have HS1 := Lib.hid (show (cutL d 65 q).length = q from cutL_len d 65 q (by omega))
  have HS2 := Lib.hid (show (d.drop (65 + q)).length = n - (65 + q) by rw [List.length_drop, hd])
  have HSL := Lib.hid (fun (v : Value) (wx : World) (h : Rd wx 1 v (65 + q - 65) (((bL d).drop (65 * 1)).take ((65 + q - 65) * 1))) => sl_cut h)
  have HSD := Lib.hid (fun (v : Value) (wx : World) (h : Rd wx 1 v (n - (65 + q)) ((bL d).drop ((65 + q) * 1))) => sl_drop h)
  clear hd hq hlong
  generalize cutK d 0 = k0 at *
  generalize cutK d 32 = k1 at *
  generalize cutL d 65 q = n1 at *
  generalize d.drop (65 + q) = n2 at *
  go_enter Try.func41, Try.ntmps41
  go_wp2_with (first
    | (with_reducible (show wpList _ _ _ (Oper.mk (some 2) (.alloc _) _ _ _ _ :: _) _ _); refine mem_new M rfl rfl ?_; clear M; (try clear wx); intro g2 wx M)
    | (with_reducible (show wpList _ _ _ (Oper.mk (some 4) (.alloc _) _ _ _ _ :: _) _ _); refine mem_new M rfl rfl ?_; clear M; (try clear wx); intro g4 wx M)
    | (with_reducible (show wpList _ _ _ (Oper.mk _ (.load _ _) _ _ _ _ :: _) _ _); (first | (refine wpList_load_one rfl rfl rfl (C64.out _ M.up) ?_) | (refine m_load M rfl rfl rfl (by first | assumption | rfl) ?_) | (refine m_loadR M rfl rfl rfl (by first | exact nod_size _ _ rfl rfl _ _ | exact nodV_size _ | assumption | rfl | (simp; done)) ?_)))
    | (with_reducible (show wpList _ _ _ (Oper.mk _ (.store _ _ _) _ _ _ _ :: _) _ _); (first | (refine m_storeR M rfl rfl rfl rfl (by first | exact nod_size _ _ rfl rfl _ _ | exact nodV_size _ | assumption | rfl | (simp; done)) (by first | exact nod_size _ _ rfl rfl _ _ | exact nodV_size _ | assumption | rfl | (simp; done)) (by first | exact nod_one _ _ rfl rfl _ _ | exact nodV_one _ | exact entC_one _ | exact bA_one _) ?_) | (refine m_store (v := Value.int _ _) M rfl rfl rfl rfl rfl (by first | assumption | (simp; done) | (simp; omega)) ?_) | (refine m_store (v := Value.slice _ _ _) M rfl rfl rfl rfl rfl (by first | assumption | (simp; done) | (simp; omega)) ?_) | (refine m_store (v := Value.bool _) M rfl rfl rfl rfl rfl (by first | assumption | (simp; done) | (simp; omega)) ?_) | (refine m_store (v := Value.string _) M rfl rfl rfl rfl rfl (by first | assumption | (simp; done) | (simp; omega)) ?_) | (refine m_store (v := Value.pointer _) M rfl rfl rfl rfl rfl (by first | assumption | (simp; done) | (simp; omega)) ?_)); clear M; (try clear wx); intro wx M; simp only [List.set_cons_zero, List.set_cons_succ, Nat.zero_add, List.nil_append] at M)
    | (with_reducible (show wpList _ _ _ (Oper.mk _ (.build _ _) _ _ _ _ :: _) _ _); refine m_buildZ rfl rfl ?_))
  go_loopg [6] 32 (fun r i wr => ∃ k : Nat, k + r = 32 ∧ i = .int .i64 (k : Int) ∧ Mem w wr [.blk g4 39 (nodC (fillTo (fun i => bt d i) k 32 0) (fillTo (fun i => bt d (32 + i)) k 32 0) ByteArray.empty ByteArray.empty), .blk g2 39 (nodC zero32 zero32 ByteArray.empty ByteArray.empty)])
  case atStart => exact ⟨0, by omega, rfl, by rw [fill_zero, fill_zero]; exact M⟩
  case round =>
    obtain ⟨k, hk, rfl, M⟩ := hrel
    by_cases hlt : k < 32
    · have C1 := Lib.hid (fun wx hb => CJ.out wx hb k (by omega))
      have C2 := Lib.hid (fun wx hb => CJ.out wx hb (32 + k) (by omega))
      have h32 : 32 + k < n := by omega
      have hkn : k < n := by omega
      have HK := Lib.hid hk
      have hf1 : (fillTo (fun i => bt d i) k 32 0).length = 32 := fill_length _ _ _ _
      have hf2 : (fillTo (fun i => bt d (32 + i)) k 32 0).length = 32 := fill_length _ _ _ _
      have hf3 : ((fillTo (fun i => bt d i) k 32 0).set k (bt d k)).length = 32 := by rw [List.length_set]; exact hf1
      clear hk
      go_wp2_with (first
        | (with_reducible (show wpList _ _ _ (Oper.mk (some 42) (.indexAddr _ _ _) _ _ _ _ :: _) _ _); refine m_ixE rfl rfl rfl (32 + k) h32 (by refine congrArg (Value.int .i64) ?_; omega) ?_)
        | (with_reducible (show wpList _ _ _ (Oper.mk _ (.store _ (.tmp 37) (.tmp 35)) _ _ _ _ :: _) _ _); refine m_store (v := .int _ _) M rfl rfl rfl rfl rfl (by rw [nod_size _ _ hf1 hf2]; omega) ?_; clear M; (try clear wx); intro wx M; simp only [List.set_cons_zero, List.set_cons_succ, Nat.zero_add, List.nil_append] at M; rw [nod_seti0 _ _ hf1 _ _ _ hlt] at M)
        | (with_reducible (show wpList _ _ _ (Oper.mk _ (.store _ (.tmp 45) (.tmp 43)) _ _ _ _ :: _) _ _); refine m_store (v := .int _ _) M rfl rfl rfl rfl rfl (by rw [nod_size _ _ hf3 hf2]; omega) ?_; clear M; (try clear wx); intro wx M; simp only [List.set_cons_zero, List.set_cons_succ, Nat.zero_add, List.nil_append] at M; rw [nod_seti1 _ _ hf3 hf2 _ _ _ hlt] at M)
        | (with_reducible (show wpList _ _ _ (Oper.mk (some 2) (.alloc _) _ _ _ _ :: _) _ _); refine mem_new M rfl rfl ?_; clear M; (try clear wx); intro g2 wx M)
        | (with_reducible (show wpList _ _ _ (Oper.mk (some 4) (.alloc _) _ _ _ _ :: _) _ _); refine mem_new M rfl rfl ?_; clear M; (try clear wx); intro g4 wx M)
        | (with_reducible (show wpList _ _ _ (Oper.mk _ (.load _ _) _ _ _ _ :: _) _ _); (first | (refine wpList_load_one rfl rfl rfl (C1.out _ M.up) ?_) | (refine wpList_load_one rfl rfl rfl (C2.out _ M.up) ?_) | (refine m_load M rfl rfl rfl (by first | assumption | rfl) ?_) | (refine m_loadR M rfl rfl rfl (by first | rfl | assumption | (simp; done) | (simp; omega)) ?_)))
        | (with_reducible (show wpList _ _ _ (Oper.mk _ (.store _ _ _) _ _ _ _ :: _) _ _); (first | (refine m_storeR M rfl rfl rfl rfl (by first | rfl | assumption | (simp; done) | (simp; omega)) (by first | rfl | assumption | (simp; done) | (simp; omega)) (by first | exact bA_one _ | exact wA_one _ | assumption | (simp [Value.oneCell']; done)) ?_) | (refine m_store (v := Value.int _ _) M rfl rfl rfl rfl rfl (by first | assumption | (simp; done) | (simp; omega)) ?_) | (refine m_store (v := Value.slice _ _ _) M rfl rfl rfl rfl rfl (by first | assumption | (simp; done) | (simp; omega)) ?_) | (refine m_store (v := Value.bool _) M rfl rfl rfl rfl rfl (by first | assumption | (simp; done) | (simp; omega)) ?_) | (refine m_store (v := Value.string _) M rfl rfl rfl rfl rfl (by first | assumption | (simp; done) | (simp; omega)) ?_) | (refine m_store (v := Value.pointer _) M rfl rfl rfl rfl rfl (by first | assumption | (simp; done) | (simp; omega)) ?_)); clear M; (try clear wx); intro wx M; simp only [List.set_cons_zero, List.set_cons_succ, Nat.zero_add, List.nil_append] at M)
        | (with_reducible (show wpList _ _ _ (Oper.mk _ (.build _ _) _ _ _ _ :: _) _ _); refine m_buildZ rfl rfl ?_))
      rw [fill_set (fun i => bt d i), fill_set (fun i => bt d (32 + i))] at M
      have hk := HK.out
      go_roundg (gk - 1)
      case measure => omega
      case rel => exact ⟨k + 1, by omega, by go_num, M⟩
    · obtain rfl : k = 32 := by omega
      rw [K0.out, K1.out] at M
      have h0 := k0.2
      have h1 := k1.2
      clear hk hlt
      go_wp2_with fail
      refine region_mono (m := 12) mixedOrders_ (by kernel_rfl) (by kernel_rfl)
        (fun | 0 => fun vq _ => vq = .slice (some ⟨g, o, none⟩) n cap | 1 => fun vq _ => vq = .int .i64 (q : Int) | 2 => fun vq _ => vq = .int .i64 ((65 + q : Nat) : Int) | 3 => fun v wx => Rd wx 1 v q (bL n1) | 4 => fun vq _ => vq = .string (txt n1) | 5 => fun vq _ => vq = .slice (some ⟨g, o, none⟩) n cap | 6 => fun vq _ => vq = .int .i64 (q : Int) | 7 => fun vq _ => vq = .int .i64 ((65 + q : Nat) : Int) | 8 => fun v wx => Rd wx 1 v (n - (65 + q)) (bL n2) | 9 => fun vq _ => vq = .string (txt n2) | 10 => fun vq _ => vq = .agg (entC (txt n1) (txt n2)) | 11 => fun vq _ => vq = .pointer (some ⟨g4, 64, none⟩) | _ => fun _ _ => True)
        (fun wx => Mem w wx [.blk g4 39 (nodC k0.1 k1.1 ByteArray.empty ByteArray.empty), .blk g2 39 (nodC zero32 zero32 ByteArray.empty ByteArray.empty)]) ?_ ?_ ?_ ?_ ?_
      · intro j hj v w1 w2 hb h
        match j, hj with
        | 0, _ => exact h
        | 1, _ => exact h
        | 2, _ => exact h
        | 3, _ => exact h.up hb
        | 4, _ => exact h
        | 5, _ => exact h
        | 6, _ => exact h
        | 7, _ => exact h
        | 8, _ => exact h.up hb
        | 9, _ => exact h
        | 10, _ => exact h
        | 11, _ => exact h
      · intro w1 w2 hb h
        exact h.grow hb
      · exact M.grow ((Up.refl _).drew)
      · rintro i o hi ho av wv fr gM dep
        match i, hi with
        | 0, _ =>
          obtain rfl := Option.some.inj ho
          exact st_mov rfl (fr.eval rfl) rfl
        | 1, _ =>
          obtain rfl := Option.some.inj ho
          exact st_mov rfl (fr.eval rfl) rfl
        | 2, _ =>
          obtain rfl := Option.some.inj ho
          exact st_bin rfl (rfl) (dep ⟨1, .data⟩ (by simp) rfl) (bin_addI _ _ _ (by have := i64_in_ ((65 : Int) + q) (by omega); rw [this]; omega) _ _ _) rfl
        | 3, _ =>
          obtain rfl := Option.some.inj ho
          exact st_slLH rfl 65 (65 + q) (dep ⟨0, .data⟩ (by simp) rfl) rfl (dep ⟨2, .data⟩ (by simp) rfl) (HV.out.up gM.up) (by omega) hq2 (fun v h => HSL.out _ _ h)
        | 4, _ =>
          obtain rfl := Option.some.inj ho
          have D := dep ⟨3, .data⟩ (by simp) rfl
          exact st_text rfl rfl HS1.out Try.underlying33 Try.underlying5 Try.underlying9 D rfl
        | 5, _ =>
          obtain rfl := Option.some.inj ho
          exact st_mov rfl (fr.eval rfl) rfl
        | 6, _ =>
          obtain rfl := Option.some.inj ho
          exact st_mov rfl (fr.eval rfl) rfl
        | 7, _ =>
          obtain rfl := Option.some.inj ho
          exact st_bin rfl (rfl) (dep ⟨6, .data⟩ (by simp) rfl) (bin_addI _ _ _ (by have := i64_in_ ((65 : Int) + q) (by omega); rw [this]; omega) _ _ _) rfl
        | 8, _ =>
          obtain rfl := Option.some.inj ho
          exact st_slL' rfl (65 + q) (dep ⟨5, .data⟩ (by simp) rfl) (dep ⟨7, .data⟩ (by simp) rfl) (HV.out.up gM.up) hq2 (fun v h => HSD.out _ _ h)
        | 9, _ =>
          obtain rfl := Option.some.inj ho
          have D := dep ⟨8, .data⟩ (by simp) rfl
          exact st_text rfl rfl HS2.out Try.underlying33 Try.underlying5 Try.underlying9 D rfl
        | 10, _ =>
          obtain rfl := Option.some.inj ho
          exact st_build2 rfl (dep ⟨4, .data⟩ (by simp) rfl) (dep ⟨9, .data⟩ (by simp) rfl) (built_ent _ _) rfl
        | 11, _ =>
          obtain rfl := Option.some.inj ho
          exact st_fld rfl Try.underlying39 rfl (fr.eval rfl) 64 rfl (by kernel_rfl) rfl
      · rintro vs wv gM hf
        have f0 : vs 0 = .slice (some ⟨g, o, none⟩) n cap := hf 0 (by omega)
        have f1 : vs 1 = .int .i64 (q : Int) := hf 1 (by omega)
        have f2 : vs 2 = .int .i64 ((65 + q : Nat) : Int) := hf 2 (by omega)
        have f3 := hf 3 (by omega)
        have f4 : vs 4 = .string (txt n1) := hf 4 (by omega)
        have f5 : vs 5 = .slice (some ⟨g, o, none⟩) n cap := hf 5 (by omega)
        have f6 : vs 6 = .int .i64 (q : Int) := hf 6 (by omega)
        have f7 : vs 7 = .int .i64 ((65 + q : Nat) : Int) := hf 7 (by omega)
        have f8 := hf 8 (by omega)
        have f9 : vs 9 = .string (txt n2) := hf 9 (by omega)
        have f10 : vs 10 = .agg (entC (txt n1) (txt n2)) := hf 10 (by omega)
        have f11 : vs 11 = .pointer (some ⟨g4, 64, none⟩) := hf 11 (by omega)
        simp only [putAll, Act.put, List.getElem?_toArray, List.getElem?_cons_zero, List.getElem?_cons_succ, Option.bind_some, List.setIfInBounds_toArray, List.set_cons_zero, List.set_cons_succ, List.drop_succ_cons, List.drop_zero, List.drop_nil, f10, f11]
        clear f0 f1 f2 f3 f4 f5 f6 f7 f8 f9 f10 f11 hf
        have M := gM
        clear gM
        go_wp2_with (first
          | (with_reducible (show wpList _ _ _ (Oper.mk _ (.store _ (.tmp 57) (.tmp 56)) _ _ _ _ :: _) _ _); refine m_storeP M rfl rfl rfl rfl rfl (Nat.le_of_eq (nod_size _ _ h0 h1 _ _).symm) (entC_one (txt n1, txt n2)) ?_; clear M; (try clear wx); intro wx M; simp only [List.set_cons_zero, List.set_cons_succ, Nat.zero_add, List.nil_append] at M; rw [nod_setE _ _ h0 h1] at M)
          | (with_reducible (show wpList _ _ _ (Oper.mk (some 2) (.alloc _) _ _ _ _ :: _) _ _); refine mem_new M rfl rfl ?_; clear M; (try clear wx); intro g2 wx M)
          | (with_reducible (show wpList _ _ _ (Oper.mk (some 4) (.alloc _) _ _ _ _ :: _) _ _); refine mem_new M rfl rfl ?_; clear M; (try clear wx); intro g4 wx M)
          | (with_reducible (show wpList _ _ _ (Oper.mk _ (.load _ _) _ _ _ _ :: _) _ _); (first | (refine m_load M rfl rfl rfl (by first | assumption | rfl) ?_) | (refine m_loadR M rfl rfl rfl (by first | rfl | assumption | (simp; done) | (simp; omega)) ?_)))
          | (with_reducible (show wpList _ _ _ (Oper.mk _ (.store _ _ _) _ _ _ _ :: _) _ _); (first | (refine m_storeR M rfl rfl rfl rfl (by first | rfl | assumption | (simp; done) | (simp; omega)) (by first | rfl | assumption | (simp; done) | (simp; omega)) (by first | exact bA_one _ | exact wA_one _ | assumption | (simp [Value.oneCell']; done)) ?_) | (refine m_store (v := Value.int _ _) M rfl rfl rfl rfl rfl (by first | assumption | (simp; done) | (simp; omega)) ?_) | (refine m_store (v := Value.slice _ _ _) M rfl rfl rfl rfl rfl (by first | assumption | (simp; done) | (simp; omega)) ?_) | (refine m_store (v := Value.bool _) M rfl rfl rfl rfl rfl (by first | assumption | (simp; done) | (simp; omega)) ?_) | (refine m_store (v := Value.string _) M rfl rfl rfl rfl rfl (by first | assumption | (simp; done) | (simp; omega)) ?_) | (refine m_store (v := Value.pointer _) M rfl rfl rfl rfl rfl (by first | assumption | (simp; done) | (simp; omega)) ?_)); clear M; (try clear wx); intro wx M; simp only [List.set_cons_zero, List.set_cons_succ, Nat.zero_add, List.nil_append] at M)
          | (with_reducible (show wpList _ _ _ (Oper.mk _ (.build _ _) _ _ _ _ :: _) _ _); refine m_buildZ rfl rfl ?_))
        refine region_mono (m := 3) mixedOrders_ (by kernel_rfl) (by kernel_rfl)
          (fun | 0 => fun vq _ => vq = .agg (nodC k0.1 k1.1 (txt n1) (txt n2)) | 1 => fun vq _ => vq = .pointer (some ⟨g4, 64, none⟩) | 2 => fun vq _ => vq = .bool (entB (txt n1) (txt n2)) | _ => fun _ _ => True)
          (fun wx => Mem w wx [.blk g4 39 (nodC k0.1 k1.1 (txt n1) (txt n2)), .blk g2 39 (nodC zero32 zero32 ByteArray.empty ByteArray.empty)]) ?_ ?_ ?_ ?_ ?_
        · intro j hj v w1 w2 hb h
          match j, hj with
          | 0, _ => exact h
          | 1, _ => exact h
          | 2, _ => exact h
        · intro w1 w2 hb h
          exact h.grow hb
        · exact M.grow ((Up.refl _).drew)
        · rintro i o hi ho av wv fr gM dep
          match i, hi with
          | 0, _ =>
            obtain rfl := Option.some.inj ho
            exact st_loadG gM rfl (fr.eval rfl) (nod_size _ _ h0 h1 _ _) rfl
          | 1, _ =>
            obtain rfl := Option.some.inj ho
            exact st_fld rfl Try.underlying39 rfl (fr.eval rfl) 64 rfl (by kernel_rfl) rfl
          | 2, _ =>
            obtain rfl := Option.some.inj ho
            have d0 := dep ⟨1, .data⟩ (by simp) rfl
            exact st_ret1 rfl (fun _ _ => by kernel_rfl) d0 (Ret.same (l04Entry_c g4 0 64 (txt n1) (txt n2) _ ((gM.blkG g4).cell_ (nod_64 _ _ h0 h1 _ _)) ((gM.blkG g4).cell_ (nod_65 _ _ h0 h1 _ _)))) (fun r w' h _ => h)
        · rintro vs wv gM hf
          have f0 : vs 0 = .agg (nodC k0.1 k1.1 (txt n1) (txt n2)) := hf 0 (by omega)
          have f1 : vs 1 = .pointer (some ⟨g4, 64, none⟩) := hf 1 (by omega)
          have f2 : vs 2 = .bool (entB (txt n1) (txt n2)) := hf 2 (by omega)
          have M := gM
          clear gM
          cases hb : entB (txt n1) (txt n2) with
          | true =>
            rw [hb] at f2
            have HE := Lib.hid (HE1.out hb)
            clear hb HE1 HE2
            simp only [putAll, Act.put, List.getElem?_toArray, List.getElem?_cons_zero, List.getElem?_cons_succ, Option.bind_some, List.setIfInBounds_toArray, List.set_cons_zero, List.set_cons_succ, List.drop_succ_cons, List.drop_zero, List.drop_nil, f0, f2]
            clear f0 f1 f2 hf
            go_wp2_with (first
              | (with_reducible (show wpList _ _ _ (Oper.mk (some 2) (.alloc _) _ _ _ _ :: _) _ _); refine mem_new M rfl rfl ?_; clear M; (try clear wx); intro g2 wx M)
              | (with_reducible (show wpList _ _ _ (Oper.mk (some 4) (.alloc _) _ _ _ _ :: _) _ _); refine mem_new M rfl rfl ?_; clear M; (try clear wx); intro g4 wx M)
              | (with_reducible (show wpList _ _ _ (Oper.mk _ (.load _ _) _ _ _ _ :: _) _ _); (first | (refine m_load M rfl rfl rfl (by first | assumption | rfl) ?_) | (refine m_loadR M rfl rfl rfl (by first | exact nod_size _ _ h0 h1 _ _ | exact nodZ_size) ?_)))
              | (with_reducible (show wpList _ _ _ (Oper.mk _ (.store _ _ _) _ _ _ _ :: _) _ _); (first | (refine m_storeR M rfl rfl rfl rfl (by first | exact nod_size _ _ h0 h1 _ _ | exact nodZ_size) (by first | exact nod_size _ _ h0 h1 _ _ | exact nodZ_size) (nod_one _ _ h0 h1 _ _) ?_) | (refine m_store (v := Value.int _ _) M rfl rfl rfl rfl rfl (by first | assumption | (simp; done) | (simp; omega)) ?_) | (refine m_store (v := Value.slice _ _ _) M rfl rfl rfl rfl rfl (by first | assumption | (simp; done) | (simp; omega)) ?_) | (refine m_store (v := Value.bool _) M rfl rfl rfl rfl rfl (by first | assumption | (simp; done) | (simp; omega)) ?_) | (refine m_store (v := Value.string _) M rfl rfl rfl rfl rfl (by first | assumption | (simp; done) | (simp; omega)) ?_) | (refine m_store (v := Value.pointer _) M rfl rfl rfl rfl rfl (by first | assumption | (simp; done) | (simp; omega)) ?_)); clear M; (try clear wx); intro wx M; simp only [List.set_cons_zero, List.set_cons_succ, Nat.zero_add, List.nil_append] at M)
              | (with_reducible (show wpList _ _ _ (Oper.mk _ (.build _ _) _ _ _ _ :: _) _ _); refine m_buildZ rfl rfl ?_))
            exact m_ret2 M rfl rfl rfl (nod_size _ _ h0 h1 _ _) (LrP.yes HE.out)
          | false =>
            rw [hb] at f2
            have HE := Lib.hid (HE2.out hb)
            clear hb HE1 HE2
            simp only [putAll, Act.put, List.getElem?_toArray, List.getElem?_cons_zero, List.getElem?_cons_succ, Option.bind_some, List.setIfInBounds_toArray, List.set_cons_zero, List.set_cons_succ, List.drop_succ_cons, List.drop_zero, List.drop_nil, f0, f2]
            clear f0 f1 f2 hf
            go_wp2_with (first
              | (with_reducible (show wpList _ _ _ (Oper.mk (some 2) (.alloc _) _ _ _ _ :: _) _ _); refine mem_new M rfl rfl ?_; clear M; (try clear wx); intro g2 wx M)
              | (with_reducible (show wpList _ _ _ (Oper.mk (some 4) (.alloc _) _ _ _ _ :: _) _ _); refine mem_new M rfl rfl ?_; clear M; (try clear wx); intro g4 wx M)
              | (with_reducible (show wpList _ _ _ (Oper.mk _ (.load _ _) _ _ _ _ :: _) _ _); (first | (refine m_load M rfl rfl rfl (by first | assumption | rfl) ?_) | (refine m_loadR M rfl rfl rfl (by first | exact nod_size _ _ h0 h1 _ _ | exact nodZ_size) ?_)))
              | (with_reducible (show wpList _ _ _ (Oper.mk _ (.store _ _ _) _ _ _ _ :: _) _ _); (first | (refine m_storeR M rfl rfl rfl rfl (by first | exact nod_size _ _ h0 h1 _ _ | exact nodZ_size) (by first | exact nod_size _ _ h0 h1 _ _ | exact nodZ_size) (nod_one _ _ h0 h1 _ _) ?_) | (refine m_store (v := Value.int _ _) M rfl rfl rfl rfl rfl (by first | assumption | (simp; done) | (simp; omega)) ?_) | (refine m_store (v := Value.slice _ _ _) M rfl rfl rfl rfl rfl (by first | assumption | (simp; done) | (simp; omega)) ?_) | (refine m_store (v := Value.bool _) M rfl rfl rfl rfl rfl (by first | assumption | (simp; done) | (simp; omega)) ?_) | (refine m_store (v := Value.string _) M rfl rfl rfl rfl rfl (by first | assumption | (simp; done) | (simp; omega)) ?_) | (refine m_store (v := Value.pointer _) M rfl rfl rfl rfl rfl (by first | assumption | (simp; done) | (simp; omega)) ?_)); clear M; (try clear wx); intro wx M; simp only [List.set_cons_zero, List.set_cons_succ, Nat.zero_add, List.nil_append] at M)
              | (with_reducible (show wpList _ _ _ (Oper.mk _ (.build _ _) _ _ _ _ :: _) _ _); refine m_buildZ rfl rfl ?_))
            exact m_ret2 M rfl rfl rfl (nod_size _ _ h0 h1 _ _) (LrP.not (x := (k0, k1, txt n1, txt n2)) HE.out)

theorem LrP.or {d : List UInt8} {r : Value} (h : LrP d r) : (∃ x : Nd, r = .tuple #[.agg (nodV x), .bool true] ∧ rmT d = (x, 0)) ∨ (∃ x : Nd, r = .tuple #[.agg (nodV x), .bool false] ∧ rmT d = (zeroNd, 5)) := by
  obtain ⟨x, b, rfl, h1, h2⟩ := h
  cases b with
  | true => exact .inl ⟨x, rfl, h1 rfl⟩
  | false => exact .inr ⟨x, rfl, h2 rfl⟩
set_option maxHeartbeats 2000000 in
set_option maxRecDepth 100000 in
theorem specReadMapNode_c (v : Value) (d : List UInt8) (n : Nat) (hd : d.length = n) (w : World) (hn : n ≤ 1048576) (hv : Rd w 1 v n (bL d)) :
    Ret Try.prog 17 #[v] w fun r _ => r = .tuple #[.agg (nodV (rmT d).1), .int .i64 (rmT d).2] := by
  have HV := Lib.hid hv
  have HA := Lib.hid (fun w h => (l04Read_c v d n hd w hn h).mono (fun r w' _ h => h.or))
  refine ret_start fun wx M => ?_
  clear hv hd
  go_enter Try.func17, Try.ntmps17
  go_wp2_with (first
    | (go_at_call 41; (with_reducible refine mem_call M (HA.out _ (HV.out.up M.up)) ?_); clear M; (try clear wx); rintro _ wx (⟨x, rfl, hx⟩ | ⟨x, rfl, hx⟩) _ M <;> (have HX := Lib.hid hx; clear hx))
    | (with_reducible (show wpList _ _ _ (Oper.mk (some 2) (.alloc _) _ _ _ _ :: _) _ _); refine mem_new M rfl rfl ?_; clear M; (try clear wx); intro g2 wx M)
    | (with_reducible (show wpList _ _ _ (Oper.mk (some 4) (.alloc _) _ _ _ _ :: _) _ _); refine mem_new M rfl rfl ?_; clear M; (try clear wx); intro g4 wx M)
    | (with_reducible (show wpList _ _ _ (Oper.mk _ (.load _ _) _ _ _ _ :: _) _ _); (first | (refine m_load M rfl rfl rfl (by first | assumption | rfl) ?_) | (refine m_loadR M rfl rfl rfl (by first | exact nod_size _ _ rfl rfl _ _ | exact nodV_size _ | assumption | rfl | (simp; done)) ?_)))
    | (with_reducible (show wpList _ _ _ (Oper.mk _ (.store _ _ _) _ _ _ _ :: _) _ _); (first | (refine m_storeR M rfl rfl rfl rfl (by first | exact nod_size _ _ rfl rfl _ _ | exact nodV_size _ | assumption | rfl | (simp; done)) (by first | exact nod_size _ _ rfl rfl _ _ | exact nodV_size _ | assumption | rfl | (simp; done)) (by first | exact nod_one _ _ rfl rfl _ _ | exact nodV_one _ | exact entC_one _ | exact bA_one _) ?_) | (refine m_store (v := Value.int _ _) M rfl rfl rfl rfl rfl (by first | assumption | (simp; done) | (simp; omega)) ?_) | (refine m_store (v := Value.slice _ _ _) M rfl rfl rfl rfl rfl (by first | assumption | (simp; done) | (simp; omega)) ?_) | (refine m_store (v := Value.bool _) M rfl rfl rfl rfl rfl (by first | assumption | (simp; done) | (simp; omega)) ?_) | (refine m_store (v := Value.string _) M rfl rfl rfl rfl rfl (by first | assumption | (simp; done) | (simp; omega)) ?_) | (refine m_store (v := Value.pointer _) M rfl rfl rfl rfl rfl (by first | assumption | (simp; done) | (simp; omega)) ?_)); clear M; (try clear wx); intro wx M; simp only [List.set_cons_zero, List.set_cons_succ, Nat.zero_add, List.nil_append] at M)
    | (with_reducible (show wpList _ _ _ (Oper.mk _ (.build _ _) _ _ _ _ :: _) _ _); refine m_buildZ rfl rfl ?_))
  · exact m_ret2 M rfl rfl rfl (nodV_size x) (by rw [HX.out]; rfl)
  · exact m_ret2 M rfl rfl rfl nodZ_size (by rw [HX.out]; rfl)

section
variable {P : Program} {ops : Array Oper} {rest : List Oper} {o : Oper} {a : Act} {w0 w : World} {Q : Exit → Act → World → Prop} {L : List It} {F : Value → World → Prop}
theorem st_slC {t : TypeId} {x y : Operand} (ho : o.op = .slice t x (some y) none none) {e : TypeId} [ht : SliceT P t e] {size bytes : Nat} {z : Value} [he : ElT P e size bytes z] {g off cap n : Nat} (l : Nat)
    (hx : a.eval x = .slice (some ⟨g, off, none⟩) n cap) (hy : a.eval y = .int .i64 (l : Int)) (hl : l < n) (hc : n ≤ cap) (hF : F (.slice (some ⟨g, off + l * size, none⟩) (n - l) (cap - l)) w) : St P o a w Q F := by
  have hrun := run_slice_ (P := P) ht he (some ⟨g, off, none⟩) n cap l n (by omega) hc (some (.int .i64 (l : Int))) none rfl rfl w
  rw [if_neg (by omega)] at hrun
  refine st_run (v := .slice (some ⟨g, off + l * size, none⟩) (n - l) (cap - l)) ?_ hF
  unfold execOp
  rw [ho]
  simp only [hx, hy, Option.map_some, Option.map_none]
  rw [Sem.run_bind, hrun]
  simp [Addr.add_mid]
end
theorem rng_cut {w : World} {g o : Nat} {d : List UInt8} (h : w.rangeAt g o (bL d)) (i : Nat) (hi : i + 32 ≤ d.length) : w.rangeAt g (o + i * 1) (bL (cutK d i).1) := by
  rw [cutK_eq d i hi, Nat.mul_one]
  intro j v hv
  have hj : j < 32 := by
    have := (List.getElem?_eq_some_iff.1 hv).1
    rwa [bL_length, cutL_len d i 32 hi] at this
  rw [Nat.add_assoc]
  refine h (i + j) v ?_
  simp only [bL, cutL, List.getElem?_map, List.getElem?_take, if_pos hj, List.getElem?_drop] at hv ⊢
  exact hv
set_option maxHeartbeats 8000000 in
set_option maxRecDepth 100000 in
theorem implReadMapNode_c (v : Value) (d : List UInt8) (n : Nat) (hd : d.length = n) (w : World) (hn : n ≤ 1048576) (hv : Rd w 1 v n (bL d)) :
    Ret Try.prog 19 #[v] w fun r _ => r = .tuple #[.agg (nodV (rmT d).1), .int .i64 (rmT d).2] := by
  obtain ⟨b, cap, rfl⟩ := hv.shape
  have HV := Lib.hid hv
  have hcap := hv.len_.1
  refine ret_start fun wx M => ?_
  clear hv
  by_cases hs1 : n < 65
  · have HE := Lib.hid (show rmT d = (zeroNd, 5) by rw [rmT, if_neg]; omega)
    clear hd
    go_enter Try.func19, Try.ntmps19
    go_wp2_with (first
      | (with_reducible (show wpList _ _ _ (Oper.mk (some 2) (.alloc _) _ _ _ _ :: _) _ _); refine mem_new M rfl rfl ?_; clear M; (try clear wx); intro g2 wx M)
      | (with_reducible (show wpList _ _ _ (Oper.mk (some 5) (.alloc _) _ _ _ _ :: _) _ _); refine mem_new M rfl rfl ?_; clear M; (try clear wx); intro g5 wx M)
      | (with_reducible (show wpList _ _ _ (Oper.mk _ (.load _ _) _ _ _ _ :: _) _ _); (first | (refine m_load M rfl rfl rfl (by first | assumption | rfl) ?_) | (refine m_loadR M rfl rfl rfl (by first | exact nod_size _ _ rfl rfl _ _ | exact nodV_size _ | assumption | rfl | (simp; done)) ?_)))
      | (with_reducible (show wpList _ _ _ (Oper.mk _ (.store _ _ _) _ _ _ _ :: _) _ _); (first | (refine m_storeR M rfl rfl rfl rfl (by first | exact nod_size _ _ rfl rfl _ _ | exact nodV_size _ | assumption | rfl | (simp; done)) (by first | exact nod_size _ _ rfl rfl _ _ | exact nodV_size _ | assumption | rfl | (simp; done)) (by first | exact nod_one _ _ rfl rfl _ _ | exact nodV_one _ | exact entC_one _ | exact bA_one _) ?_) | (refine m_store (v := Value.int _ _) M rfl rfl rfl rfl rfl (by first | assumption | (simp; done) | (simp; omega)) ?_) | (refine m_store (v := Value.slice _ _ _) M rfl rfl rfl rfl rfl (by first | assumption | (simp; done) | (simp; omega)) ?_) | (refine m_store (v := Value.bool _) M rfl rfl rfl rfl rfl (by first | assumption | (simp; done) | (simp; omega)) ?_) | (refine m_store (v := Value.string _) M rfl rfl rfl rfl rfl (by first | assumption | (simp; done) | (simp; omega)) ?_) | (refine m_store (v := Value.pointer _) M rfl rfl rfl rfl rfl (by first | assumption | (simp; done) | (simp; omega)) ?_)); clear M; (try clear wx); intro wx M; simp only [List.set_cons_zero, List.set_cons_succ, Nat.zero_add, List.nil_append] at M)
      | (with_reducible (show wpList _ _ _ (Oper.mk _ (.build _ _) _ _ _ _ :: _) _ _); refine m_buildZ rfl rfl ?_))
    exact m_ret2 M rfl rfl rfl nodZ_size (by rw [HE.out]; rfl)
  obtain ⟨g, o, rfl, hc⟩ := HV.out.open_ (by omega)
  have C64 := Lib.hid (show ∀ wx, Up w wx → wx.cell? ⟨g, o + 64, none⟩ = some (.int .u8 ((bt d 64).toNat : Int)) from fun wx hb => hc wx hb _ _ (bL_get d 64 (by omega)))
  obtain ⟨q, hq⟩ : ∃ q, (bt d 64).toNat = q := ⟨_, rfl⟩
  have hqb : q < 256 := by rw [← hq]; exact (bt d 64).toNat_lt
  have hd1 : decide ((n : Int) < 65) = false := decide_eq_false (by omega)
  rw [hq] at C64
  by_cases hlong : n < 65 + q
  · have HE := Lib.hid (show rmT d = (zeroNd, 5) by rw [rmT, if_neg]; rw [hq]; omega)
    clear hd hq hc
    go_enter Try.func19, Try.ntmps19
    go_wp2_with (first
      | (with_reducible (show wpList _ _ _ (Oper.mk (some 2) (.alloc _) _ _ _ _ :: _) _ _); refine mem_new M rfl rfl ?_; clear M; (try clear wx); intro g2 wx M)
      | (with_reducible (show wpList _ _ _ (Oper.mk (some 5) (.alloc _) _ _ _ _ :: _) _ _); refine mem_new M rfl rfl ?_; clear M; (try clear wx); intro g5 wx M)
      | (with_reducible (show wpList _ _ _ (Oper.mk _ (.load _ _) _ _ _ _ :: _) _ _); (first | (refine m_load1w rfl rfl rfl (C64.out _ M.up) ?_) | (refine m_load M rfl rfl rfl (by first | assumption | rfl) ?_) | (refine m_loadR M rfl rfl rfl (by first | exact nod_size _ _ rfl rfl _ _ | exact nodV_size _ | assumption | rfl | (simp; done)) ?_)))
      | (with_reducible (show wpList _ _ _ (Oper.mk _ (.store _ _ _) _ _ _ _ :: _) _ _); (first | (refine m_storeR M rfl rfl rfl rfl (by first | exact nod_size _ _ rfl rfl _ _ | exact nodV_size _ | assumption | rfl | (simp; done)) (by first | exact nod_size _ _ rfl rfl _ _ | exact nodV_size _ | assumption | rfl | (simp; done)) (by first | exact nod_one _ _ rfl rfl _ _ | exact nodV_one _ | exact entC_one _ | exact bA_one _) ?_) | (refine m_store (v := Value.int _ _) M rfl rfl rfl rfl rfl (by first | assumption | (simp; done) | (simp; omega)) ?_) | (refine m_store (v := Value.slice _ _ _) M rfl rfl rfl rfl rfl (by first | assumption | (simp; done) | (simp; omega)) ?_) | (refine m_store (v := Value.bool _) M rfl rfl rfl rfl rfl (by first | assumption | (simp; done) | (simp; omega)) ?_) | (refine m_store (v := Value.string _) M rfl rfl rfl rfl rfl (by first | assumption | (simp; done) | (simp; omega)) ?_) | (refine m_store (v := Value.pointer _) M rfl rfl rfl rfl rfl (by first | assumption | (simp; done) | (simp; omega)) ?_)); clear M; (try clear wx); intro wx M; simp only [List.set_cons_zero, List.set_cons_succ, Nat.zero_add, List.nil_append] at M)
      | (with_reducible (show wpList _ _ _ (Oper.mk _ (.build _ _) _ _ _ _ :: _) _ _); refine m_buildZ rfl rfl ?_))
    exact m_ret2 M rfl rfl rfl nodZ_size (by rw [HE.out]; rfl)
  have hq2 : 65 + q ≤ n := by omega
  have HE1 := Lib.hid (show entB (txt (cutL d 65 q)) (txt (d.drop (65 + q))) = true → rmT d = ((cutK d 0, cutK d 32, txt (cutL d 65 q), txt (d.drop (65 + q))), 0) from fun h => by rw [rmT, if_pos]; rw [hq]; rw [hq]; exact ⟨by omega, by omega, h⟩)
  have HE2 := Lib.hid (show entB (txt (cutL d 65 q)) (txt (d.drop (65 + q))) = false → rmT d = (zeroNd, 5) from fun h => by rw [rmT, if_neg]; rw [hq]; rintro ⟨-, -, h'⟩; rw [h] at h'; cases h')
  have C0 := Lib.hid (fun wx hb => rng_cut (hc wx hb) 0 (by omega))
  have C1 := Lib.hid (fun wx hb => rng_cut (hc wx hb) 32 (by omega))
  have HS1 := Lib.hid (show (cutL d 65 q).length = q from cutL_len d 65 q (by omega))
  have HS2 := Lib.hid (show (d.drop (65 + q)).length = n - (65 + q) by rw [List.length_drop, hd])
  have HSL := Lib.hid (fun (v : Value) (wx : World) (h : Rd wx 1 v (65 + q - 65) (((bL d).drop (65 * 1)).take ((65 + q - 65) * 1))) => sl_cut h)
  have HSD := Lib.hid (fun (v : Value) (wx : World) (h : Rd wx 1 v (n - (65 + q)) ((bL d).drop ((65 + q) * 1))) => sl_drop h)
  clear hd hq hlong hc
  generalize cutK d 0 = k0 at *
  generalize cutK d 32 = k1 at *
  generalize cutL d 65 q = n1 at *
  generalize d.drop (65 + q) = n2 at *
  have h0 := k0.2
  have h1 := k1.2
  have h32 : 32 ≤ n := by omega
  have h32' : 32 < n := by omega
  have h33 : 32 ≤ n - 32 := by omega
  go_enter Try.func19, Try.ntmps19
  go_wp2_with (first
    | (with_reducible (show wpList _ _ _ (Oper.mk (some 2) (.alloc _) _ _ _ _ :: _) _ _); refine mem_new M rfl rfl ?_; clear M; (try clear wx); intro g2 wx M)
    | (with_reducible (show wpList _ _ _ (Oper.mk (some 5) (.alloc _) _ _ _ _ :: _) _ _); refine mem_new M rfl rfl ?_; clear M; (try clear wx); intro g5 wx M)
    | (with_reducible (show wpList _ _ _ (Oper.mk _ (.load _ _) _ _ _ _ :: _) _ _); (first | (refine m_load1w rfl rfl rfl (C64.out _ M.up) ?_) | (refine wpList_load_one rfl rfl rfl (C64.out _ M.up) ?_) | (refine m_load M rfl rfl rfl (by first | assumption | rfl) ?_) | (refine m_loadR M rfl rfl rfl (by first | exact nod_size _ _ rfl rfl _ _ | exact nodV_size _ | assumption | rfl | (simp; done)) ?_)))
    | (with_reducible (show wpList _ _ _ (Oper.mk _ (.store _ _ _) _ _ _ _ :: _) _ _); (first | (refine m_storeR M rfl rfl rfl rfl (by first | exact nod_size _ _ rfl rfl _ _ | exact nodV_size _ | assumption | rfl | (simp; done)) (by first | exact nod_size _ _ rfl rfl _ _ | exact nodV_size _ | assumption | rfl | (simp; done)) (by first | exact nod_one _ _ rfl rfl _ _ | exact nodV_one _ | exact entC_one _ | exact bA_one _) ?_) | (refine m_store (v := Value.int _ _) M rfl rfl rfl rfl rfl (by first | assumption | (simp; done) | (simp; omega)) ?_) | (refine m_store (v := Value.slice _ _ _) M rfl rfl rfl rfl rfl (by first | assumption | (simp; done) | (simp; omega)) ?_) | (refine m_store (v := Value.bool _) M rfl rfl rfl rfl rfl (by first | assumption | (simp; done) | (simp; omega)) ?_) | (refine m_store (v := Value.string _) M rfl rfl rfl rfl rfl (by first | assumption | (simp; done) | (simp; omega)) ?_) | (refine m_store (v := Value.pointer _) M rfl rfl rfl rfl rfl (by first | assumption | (simp; done) | (simp; omega)) ?_)); clear M; (try clear wx); intro wx M; simp only [List.set_cons_zero, List.set_cons_succ, Nat.zero_add, List.nil_append] at M)
    | (with_reducible (show wpList _ _ _ (Oper.mk _ (.build _ _) _ _ _ _ :: _) _ _); refine m_buildZ rfl rfl ?_))
  refine region_mono (m := 18) mixedOrders_ (by kernel_rfl) (by kernel_rfl)
    (fun | 0 => fun vq _ => vq = .slice (some ⟨g, o, none⟩) n cap | 1 => fun vq _ => vq = .pointer (some ⟨g, o, none⟩) | 2 => fun vq _ => vq = .agg (bA k0.1) | 3 => fun vq _ => vq = .slice (some ⟨g, o, none⟩) n cap | 4 => fun vq _ => vq = .slice (some ⟨g, o + 32 * 1, none⟩) (n - 32) (cap - 32) | 5 => fun vq _ => vq = .pointer (some ⟨g, o + 32 * 1, none⟩) | 6 => fun vq _ => vq = .agg (bA k1.1) | 7 => fun vq _ => vq = .slice (some ⟨g, o, none⟩) n cap | 8 => fun vq _ => vq = .int .i64 ((65 + q : Nat) : Int) | 9 => fun v wx => Rd wx 1 v q (bL n1) | 10 => fun vq _ => vq = .string (txt n1) | 11 => fun vq _ => vq = .slice (some ⟨g, o, none⟩) n cap | 12 => fun vq _ => vq = .int .i64 ((65 + q : Nat) : Int) | 13 => fun v wx => Rd wx 1 v (n - (65 + q)) (bL n2) | 14 => fun vq _ => vq = .string (txt n2) | 15 => fun vq _ => vq = .agg (entC (txt n1) (txt n2)) | 16 => fun vq _ => vq = .agg (nodC k0.1 k1.1 (txt n1) (txt n2)) | 17 => fun v wx => Fresh w [.blk g2 39 (nodC zero32 zero32 ByteArray.empty ByteArray.empty)] 39 (nodC zero32 zero32 ByteArray.empty ByteArray.empty) v wx | _ => fun _ _ => True)
    (fun wx => Mem w wx [.blk g2 39 (nodC zero32 zero32 ByteArray.empty ByteArray.empty)]) ?_ ?_ ?_ ?_ ?_
  · intro j hj v w1 w2 hb h
    match j, hj with
    | 0, _ => exact h
    | 1, _ => exact h
    | 2, _ => exact h
    | 3, _ => exact h
    | 4, _ => exact h
    | 5, _ => exact h
    | 6, _ => exact h
    | 7, _ => exact h
    | 8, _ => exact h
    | 9, _ => exact h.up hb
    | 10, _ => exact h
    | 11, _ => exact h
    | 12, _ => exact h
    | 13, _ => exact h.up hb
    | 14, _ => exact h
    | 15, _ => exact h
    | 16, _ => exact h
    | 17, _ => exact h.up hb
    | n + 18, h' => exact absurd h' (by omega)
  · intro w1 w2 hb h
    exact h.grow hb
  · exact M.grow ((Up.refl _).drew)
  · rintro i o hi ho av wv fr gM dep
    match i, hi with
    | 0, _ =>
      obtain rfl := Option.some.inj ho
      exact st_mov rfl (fr.eval rfl) rfl
    | 1, _ =>
      obtain rfl := Option.some.inj ho
      exact st_arr rfl Try.underlying35 (dep ⟨0, .data⟩ (by simp) rfl) h32 rfl
    | 2, _ =>
      obtain rfl := Option.some.inj ho
      have D := dep ⟨1, .data⟩ (by simp) rfl
      exact st_loadA rfl D (by have := C0.out _ gM.up; rwa [Nat.zero_mul, Nat.add_zero] at this) h0 rfl
    | 3, _ =>
      obtain rfl := Option.some.inj ho
      exact st_mov rfl (fr.eval rfl) rfl
    | 4, _ =>
      obtain rfl := Option.some.inj ho
      exact st_slC rfl 32 (dep ⟨3, .data⟩ (by simp) rfl) rfl h32' hcap rfl
    | 5, _ =>
      obtain rfl := Option.some.inj ho
      exact st_arr rfl Try.underlying35 (dep ⟨4, .data⟩ (by simp) rfl) h33 rfl
    | 6, _ =>
      obtain rfl := Option.some.inj ho
      exact st_loadA rfl (dep ⟨5, .data⟩ (by simp) rfl) (C1.out _ gM.up) h1 rfl
    | 7, _ =>
      obtain rfl := Option.some.inj ho
      exact st_mov rfl (fr.eval rfl) rfl
    | 8, _ =>
      obtain rfl := Option.some.inj ho
      exact st_mov rfl (by rw [fr.eval rfl]; exact congrArg (Value.int .i64) (by omega)) rfl
    | 9, _ =>
      obtain rfl := Option.some.inj ho
      exact st_slLH rfl 65 (65 + q) (dep ⟨7, .data⟩ (by simp) rfl) rfl (dep ⟨8, .data⟩ (by simp) rfl) (HV.out.up gM.up) (by omega) hq2 (fun v h => HSL.out _ _ h)
    | 10, _ =>
      obtain rfl := Option.some.inj ho
      have D := dep ⟨9, .data⟩ (by simp) rfl
      exact st_text rfl rfl HS1.out Try.underlying33 Try.underlying5 Try.underlying9 D rfl
    | 11, _ =>
      obtain rfl := Option.some.inj ho
      exact st_mov rfl (fr.eval rfl) rfl
    | 12, _ =>
      obtain rfl := Option.some.inj ho
      exact st_mov rfl (by rw [fr.eval rfl]; exact congrArg (Value.int .i64) (by omega)) rfl
    | 13, _ =>
      obtain rfl := Option.some.inj ho
      exact st_slL' rfl (65 + q) (dep ⟨11, .data⟩ (by simp) rfl) (dep ⟨12, .data⟩ (by simp) rfl) (HV.out.up gM.up) hq2 (fun v h => HSD.out _ _ h)
    | 14, _ =>
      obtain rfl := Option.some.inj ho
      have D := dep ⟨13, .data⟩ (by simp) rfl
      exact st_text rfl rfl HS2.out Try.underlying33 Try.underlying5 Try.underlying9 D rfl
    | 15, _ =>
      obtain rfl := Option.some.inj ho
      exact st_build2 rfl (dep ⟨10, .data⟩ (by simp) rfl) (dep ⟨14, .data⟩ (by simp) rfl) (built_ent _ _) rfl
    | 16, _ =>
      obtain rfl := Option.some.inj ho
      exact st_build3 rfl (dep ⟨2, .data⟩ (by simp) rfl) (dep ⟨6, .data⟩ (by simp) rfl) (dep ⟨15, .data⟩ (by simp) rfl) (built_nod _ _ h0 h1 _ _) rfl
    | 17, _ =>
      obtain rfl := Option.some.inj ho
      exact st_new gM rfl
    | n + 18, h' => exact absurd h' (by omega)
  · rintro vs wv gM hf
    have f0 : vs 0 = .slice (some ⟨g, o, none⟩) n cap := hf 0 (by omega)
    have f1 : vs 1 = .pointer (some ⟨g, o, none⟩) := hf 1 (by omega)
    have f2 : vs 2 = .agg (bA k0.1) := hf 2 (by omega)
    have f3 : vs 3 = .slice (some ⟨g, o, none⟩) n cap := hf 3 (by omega)
    have f4 : vs 4 = .slice (some ⟨g, o + 32 * 1, none⟩) (n - 32) (cap - 32) := hf 4 (by omega)
    have f5 : vs 5 = .pointer (some ⟨g, o + 32 * 1, none⟩) := hf 5 (by omega)
    have f6 : vs 6 = .agg (bA k1.1) := hf 6 (by omega)
    have f7 : vs 7 = .slice (some ⟨g, o, none⟩) n cap := hf 7 (by omega)
    have f8 : vs 8 = .int .i64 ((65 + q : Nat) : Int) := hf 8 (by omega)
    have f9 := hf 9 (by omega)
    have f10 : vs 10 = .string (txt n1) := hf 10 (by omega)
    have f11 : vs 11 = .slice (some ⟨g, o, none⟩) n cap := hf 11 (by omega)
    have f12 : vs 12 = .int .i64 ((65 + q : Nat) : Int) := hf 12 (by omega)
    have f13 := hf 13 (by omega)
    have f14 : vs 14 = .string (txt n2) := hf 14 (by omega)
    have f15 : vs 15 = .agg (entC (txt n1) (txt n2)) := hf 15 (by omega)
    have f16 : vs 16 = .agg (nodC k0.1 k1.1 (txt n1) (txt n2)) := hf 16 (by omega)
    have f17 := hf 17 (by omega)
    obtain ⟨g5, e5, M⟩ := gM.fresh f17
    simp only [putAll, Act.put, List.getElem?_toArray, List.getElem?_cons_zero, List.getElem?_cons_succ, Option.bind_some, List.setIfInBounds_toArray, List.set_cons_zero, List.set_cons_succ, List.drop_succ_cons, List.drop_zero, List.drop_nil, f16, e5]
    clear f0 f1 f2 f3 f4 f5 f6 f7 f8 f9 f10 f11 f12 f13 f14 f15 f16 f17 e5 hf gM
    cases hb : entB (txt n1) (txt n2) with
    | true =>
      have HE := Lib.hid (HE1.out hb)
      have HB : Hid (∀ w, Ret Try.prog 40 #[.agg (entC (txt n1) (txt n2))] w fun r _ => r = .bool true) := Lib.hid (fun w => by have := validEntry_r (txt n1, txt n2) w; rw [hb] at this; exact this)
      clear hb HE1 HE2
      go_wp2_with (first
        | (go_at_call 40; (with_reducible refine mem_call M (HB.out _) ?_); clear M; (try clear wx); rintro _ wx rfl _ M)
        | (with_reducible (show wpList _ _ _ (Oper.mk (some 2) (.alloc _) _ _ _ _ :: _) _ _); refine mem_new M rfl rfl ?_; clear M; (try clear wx); intro g2 wx M)
        | (with_reducible (show wpList _ _ _ (Oper.mk (some 5) (.alloc _) _ _ _ _ :: _) _ _); refine mem_new M rfl rfl ?_; clear M; (try clear wx); intro g5 wx M)
        | (with_reducible (show wpList _ _ _ (Oper.mk _ (.load _ _) _ _ _ _ :: _) _ _); (first | (refine m_loadE M rfl rfl rfl (nod_getE _ _ h0 h1 _ _) ?_) | (refine m_load M rfl rfl rfl (by first | assumption | rfl) ?_) | (refine m_loadR M rfl rfl rfl (by first | exact nod_size _ _ h0 h1 _ _ | exact nodZ_size) ?_)))
        | (with_reducible (show wpList _ _ _ (Oper.mk _ (.store _ _ _) _ _ _ _ :: _) _ _); (first | (refine m_storeR M rfl rfl rfl rfl (by first | exact nod_size _ _ h0 h1 _ _ | exact nodZ_size) (by first | exact nod_size _ _ h0 h1 _ _ | exact nodZ_size) (nod_one _ _ h0 h1 _ _) ?_) | (refine m_store (v := Value.int _ _) M rfl rfl rfl rfl rfl (by first | assumption | (simp; done) | (simp; omega)) ?_) | (refine m_store (v := Value.slice _ _ _) M rfl rfl rfl rfl rfl (by first | assumption | (simp; done) | (simp; omega)) ?_) | (refine m_store (v := Value.bool _) M rfl rfl rfl rfl rfl (by first | assumption | (simp; done) | (simp; omega)) ?_) | (refine m_store (v := Value.string _) M rfl rfl rfl rfl rfl (by first | assumption | (simp; done) | (simp; omega)) ?_) | (refine m_store (v := Value.pointer _) M rfl rfl rfl rfl rfl (by first | assumption | (simp; done) | (simp; omega)) ?_)); clear M; (try clear wx); intro wx M; simp only [List.set_cons_zero, List.set_cons_succ, Nat.zero_add, List.nil_append] at M)
        | (with_reducible (show wpList _ _ _ (Oper.mk _ (.build _ _) _ _ _ _ :: _) _ _); refine m_buildZ rfl rfl ?_))
      exact m_ret2 M rfl rfl rfl (nod_size _ _ h0 h1 _ _) (by rw [HE.out]; rfl)
    | false =>
      have HE := Lib.hid (HE2.out hb)
      have HB : Hid (∀ w, Ret Try.prog 40 #[.agg (entC (txt n1) (txt n2))] w fun r _ => r = .bool false) := Lib.hid (fun w => by have := validEntry_r (txt n1, txt n2) w; rw [hb] at this; exact this)
      clear hb HE1 HE2
      go_wp2_with (first
        | (go_at_call 40; (with_reducible refine mem_call M (HB.out _) ?_); clear M; (try clear wx); rintro _ wx rfl _ M)
        | (with_reducible (show wpList _ _ _ (Oper.mk (some 2) (.alloc _) _ _ _ _ :: _) _ _); refine mem_new M rfl rfl ?_; clear M; (try clear wx); intro g2 wx M)
        | (with_reducible (show wpList _ _ _ (Oper.mk (some 5) (.alloc _) _ _ _ _ :: _) _ _); refine mem_new M rfl rfl ?_; clear M; (try clear wx); intro g5 wx M)
        | (with_reducible (show wpList _ _ _ (Oper.mk _ (.load _ _) _ _ _ _ :: _) _ _); (first | (refine m_loadE M rfl rfl rfl (nod_getE _ _ h0 h1 _ _) ?_) | (refine m_load M rfl rfl rfl (by first | assumption | rfl) ?_) | (refine m_loadR M rfl rfl rfl (by first | exact nod_size _ _ h0 h1 _ _ | exact nodZ_size) ?_)))
        | (with_reducible (show wpList _ _ _ (Oper.mk _ (.store _ _ _) _ _ _ _ :: _) _ _); (first | (refine m_storeR M rfl rfl rfl rfl (by first | exact nod_size _ _ h0 h1 _ _ | exact nodZ_size) (by first | exact nod_size _ _ h0 h1 _ _ | exact nodZ_size) (by first | exact nod_one _ _ h0 h1 _ _ | exact nod_one _ _ rfl rfl _ _) ?_) | (refine m_store (v := Value.int _ _) M rfl rfl rfl rfl rfl (by first | assumption | (simp; done) | (simp; omega)) ?_) | (refine m_store (v := Value.slice _ _ _) M rfl rfl rfl rfl rfl (by first | assumption | (simp; done) | (simp; omega)) ?_) | (refine m_store (v := Value.bool _) M rfl rfl rfl rfl rfl (by first | assumption | (simp; done) | (simp; omega)) ?_) | (refine m_store (v := Value.string _) M rfl rfl rfl rfl rfl (by first | assumption | (simp; done) | (simp; omega)) ?_) | (refine m_store (v := Value.pointer _) M rfl rfl rfl rfl rfl (by first | assumption | (simp; done) | (simp; omega)) ?_)); clear M; (try clear wx); intro wx M; simp only [List.set_cons_zero, List.set_cons_succ, Nat.zero_add, List.nil_append] at M)
        | (with_reducible (show wpList _ _ _ (Oper.mk _ (.build _ _) _ _ _ _ :: _) _ _); refine m_buildZ rfl rfl ?_))
      exact m_ret2 M rfl rfl rfl nodZ_size (by rw [HE.out]; rfl)

theorem eqKey_r (k : Ky) (w : World) : Ret Try.prog 42 #[.agg (bA k.1), .agg (bA k.1)] w fun r _ => r = .bool true := Ret.of (eqKey_same k.1 k.2 w)
set_option maxHeartbeats 1000000 in
set_option maxRecDepth 100000 in
theorem eqMapNode_r (x : Nd) (w : World) : Ret Try.prog 20 #[.agg (nodV x), .agg (nodV x)] w fun r _ => r = .bool true := by
  obtain ⟨k0, k1, n, v⟩ := x
  have h0 := k0.2
  have h1 := k1.2
  show Ret Try.prog 20 #[.agg (nodC k0.1 k1.1 n v), .agg (nodC k0.1 k1.1 n v)] w fun r _ => r = .bool true
  refine ret_start fun wx M => ?_
  go_enter Try.func20, Try.ntmps20
  go_wp2_with (first
    | (go_at_call 42; (with_reducible refine mem_call M (eqKey_r _ _) ?_); clear M; (try clear wx); rintro _ wx rfl _ M)
    | (go_at_call 38; (with_reducible refine mem_call M (eqEntry_r (n, v) _) ?_); clear M; (try clear wx); rintro _ wx rfl _ M)
    | (with_reducible (show wpList _ _ _ (Oper.mk (some 2) (.box _ _) _ _ _ _ :: _) _ _); (first | (refine m_boxA M rfl rfl rfl ?_) | (refine m_box1 (v := Value.int _ _) M rfl rfl rfl rfl ?_) | (refine m_box1 (v := Value.slice _ _ _) M rfl rfl rfl rfl ?_) | (refine m_box1 (v := Value.bool _) M rfl rfl rfl rfl ?_) | (refine m_box1 (v := Value.string _) M rfl rfl rfl rfl ?_) | (refine m_box1 (v := Value.pointer _) M rfl rfl rfl rfl ?_)); clear M; (try clear wx); intro g2 wx M)
    | (with_reducible (show wpList _ _ _ (Oper.mk (some 3) (.box _ _) _ _ _ _ :: _) _ _); (first | (refine m_boxA M rfl rfl rfl ?_) | (refine m_box1 (v := Value.int _ _) M rfl rfl rfl rfl ?_) | (refine m_box1 (v := Value.slice _ _ _) M rfl rfl rfl rfl ?_) | (refine m_box1 (v := Value.bool _) M rfl rfl rfl rfl ?_) | (refine m_box1 (v := Value.string _) M rfl rfl rfl rfl ?_) | (refine m_box1 (v := Value.pointer _) M rfl rfl rfl rfl ?_)); clear M; (try clear wx); intro g3 wx M)
    | (with_reducible (show wpList _ _ _ (Oper.mk _ (.load _ _) _ _ _ _ :: _) _ _); (first | (refine m_loadB M rfl rfl rfl (nod_get0 _ _ h0 h1 _ _) (Ky.len _) ?_) | (refine m_loadB M rfl rfl rfl (nod_get1 _ _ h0 h1 _ _) (Ky.len _) ?_) | (refine m_loadE M rfl rfl rfl (nod_getE _ _ h0 h1 _ _) ?_) | (refine m_load M rfl rfl rfl (by first | assumption | rfl) ?_) | (refine m_loadR M rfl rfl rfl (by first | rfl | assumption | (simp; done) | (simp; omega)) ?_))))
  go_ret
  exact ⟨_, rfl, rfl, M.up⟩

set_option maxHeartbeats 2000000 in
set_option maxRecDepth 100000 in
theorem lawReadMapNode_c (v : Value) (l : List UInt8) (w : World) (hv : RdB w v l) : Calls Try.prog 6 #[v] w fun e w' => e = .returned (.bool true) ∧ Up w w' := by
  have HV := Lib.hid hv
  obtain ⟨a, cap, rfl, hm, -⟩ := hv
  have hmm : maxLen ≤ 9223372036854775807 := by decide
  have hml : l.length ≤ 9223372036854775807 := by omega
  clear hm hmm
  by_cases hbig : 1048576 < l.length
  · go_enter Try.func6, Try.ntmps6
    go_wp2_with fail
    go_ret
    exact ⟨rfl, Up.refl _⟩
  · have hl : l.length ≤ 1048576 := by omega
    have HS := Lib.hid (fun v w h => specReadMapNode_c v l _ rfl w hl h)
    have HI := Lib.hid (fun v w h => implReadMapNode_c v l _ rfl w hl h)
    generalize rmT l = c at *
    have M := Mem.start w
    go_enter Try.func6, Try.ntmps6
    go_wp2_with (first
      | (go_at_call 18; (with_reducible refine mem_callO M (toByteS_r _ l _ (HV.out.up M.up) hl) ?_); clear M; (try clear wx); intro b_ cap_ wx M)
      | (go_at_call 17; (with_reducible refine mem_call M (HS.out _ _ M.rdB) ?_); clear M; (try clear wx); rintro _ wx rfl _ M)
      | (go_at_call 19; (with_reducible refine mem_call M (HI.out _ _ M.rdB) ?_); clear M; (try clear wx); rintro _ wx rfl _ M)
      | (go_at_call 20; (with_reducible refine mem_call M (eqMapNode_r _ _) ?_); clear M; (try clear wx); rintro _ wx rfl _ M)
      | (go_at_call 21; (with_reducible refine mem_call M (eqByteS_r _ _ l _ M.rdB' M.rdB') ?_); clear M; (try clear wx); rintro _ wx rfl _ M)
      | (with_reducible (show wpList _ _ _ (Oper.mk (some 3) (.alloc _) _ _ _ _ :: _) _ _); refine mem_new M rfl rfl ?_; clear M; (try clear wx); intro g3 wx M)
      | (with_reducible (show wpList _ _ _ (Oper.mk (some 6) (.alloc _) _ _ _ _ :: _) _ _); refine mem_new M rfl rfl ?_; clear M; (try clear wx); intro g6 wx M)
      | (with_reducible (show wpList _ _ _ (Oper.mk _ (.load _ _) _ _ _ _ :: _) _ _); (first | (refine m_load M rfl rfl rfl (by first | assumption | rfl) ?_) | (refine m_loadR M rfl rfl rfl (by first | exact nod_size _ _ rfl rfl _ _ | exact nodV_size _ | assumption | rfl | (simp; done)) ?_)))
      | (with_reducible (show wpList _ _ _ (Oper.mk _ (.store _ _ _) _ _ _ _ :: _) _ _); (first | (refine m_storeR M rfl rfl rfl rfl (by first | exact nod_size _ _ rfl rfl _ _ | exact nodV_size _ | assumption | rfl | (simp; done)) (by first | exact nod_size _ _ rfl rfl _ _ | exact nodV_size _ | assumption | rfl | (simp; done)) (by first | exact nod_one _ _ rfl rfl _ _ | exact nodV_one _ | exact entC_one _ | exact bA_one _) ?_) | (refine m_store (v := Value.int _ _) M rfl rfl rfl rfl rfl (by first | assumption | (simp; done) | (simp; omega)) ?_) | (refine m_store (v := Value.slice _ _ _) M rfl rfl rfl rfl rfl (by first | assumption | (simp; done) | (simp; omega)) ?_) | (refine m_store (v := Value.bool _) M rfl rfl rfl rfl rfl (by first | assumption | (simp; done) | (simp; omega)) ?_) | (refine m_store (v := Value.string _) M rfl rfl rfl rfl rfl (by first | assumption | (simp; done) | (simp; omega)) ?_) | (refine m_store (v := Value.pointer _) M rfl rfl rfl rfl rfl (by first | assumption | (simp; done) | (simp; omega)) ?_)); clear M; (try clear wx); intro wx M; simp only [List.set_cons_zero, List.set_cons_succ, Nat.zero_add, List.nil_append] at M))
    go_ret
    exact ⟨rfl, M.up⟩

end Go.Proofs.Ytcldkllllojgpaa

/- Walks: slices of keys measured, copied, compared, marked. -/
import Derived.Test.YtmbhaoiahlbglaaHC
import Derived.Test.YtmbhaoiahlbglaaRegM
import Derived.Test.YtmbhaoiahlbglaaMem2
namespace Go.Proofs.Ytmbhaoiahlbglaa
open Go.RowKit
set_option linter.unusedVariables false
set_option linter.unusedSimpArgs false

section
variable {P : Program} {ops : Array Oper} {rest : List Oper} {o : Oper} {a : Act} {w0 w : World} {Q : Exit → Act → World → Prop} {L : List It}
/-- make, however long. -/
theorem m_mk (M : Mem w0 w L) (hgd : o.guard = none) {t : TypeId} {x y : Operand} (ho : o.op = .makeSlice t x y) {e : TypeId} [ht : SliceT P t e] {size bytes : Nat} {z : Value} [he : ElT P e size bytes z]
    {n : Nat} (hx : a.eval x = .int .i64 (n : Int)) (hy : a.eval y = .int .i64 (n : Int)) (hb : bytes * n ≤ 281474976710656) (h63 : n ≤ 9223372036854775807)
    (h : ∀ g w', Mem w0 w' (.blk g e (madeCells z.cells (n * size)) :: L) → wpList P ops Q rest (a.put o.dst (.slice (some ⟨g, 0, none⟩) n n)) w') : wpList P ops Q (o :: rest) a w :=
  wpList_plain hgd fun _ hK => by
    obtain ⟨h1, h2, h3⟩ := he.out
    obtain ⟨i0, hi0, hz0, hz1, hz2⟩ := info_parts h1
    have hbz : (bytes : Int) * (n : Int) ≤ 281474976710656 := by
      have : ((bytes * n : Nat) : Int) ≤ 281474976710656 := by omega
      rwa [Int.natCast_mul] at this
    have hrun := run_make (P := P) w t e i0 z ht.out hi0 hz0 .i64 .i64 n n (by omega) (Int.le_refl _) (by rw [hz2]; exact hbz) (by omega)
    rw [Int.toNat_natCast, hz1] at hrun
    unfold Oper.wp execOp
    simp only [ho, hx, hy, Sem.run_bind, hrun, Result.andThen_ok, Sem.run_pure]
    exact hK _ _ (h _ _ (M.alloc_ e _))
end

set_option maxHeartbeats 400000 in
theorem szKeyS_c (a : Option Addr) (n cap : Nat) (left : Int) (h0 : 0 ≤ left) (h1 : left ≤ 1048576) (hn : n ≤ maxLen) (w : World) :
    Calls Try.prog 13 #[.slice a n cap, .int .i64 left] w fun e w' => e = .returned (.int .i64 (if left - n < 0 then -1 else left - n)) ∧ w' = w := by
  have hm : (n : Int) ≤ 9223372036854775807 := by
    have : maxLen ≤ 9223372036854775807 := by decide
    omega
  clear hn
  by_cases c1 : left - n < 0
  · rw [if_pos c1]
    go_enter Try.func13, Try.ntmps13
    go_wp2
    go_ret
    exact ⟨rfl, rfl⟩
  · rw [if_neg c1]
    go_enter Try.func13, Try.ntmps13
    go_wp2
    go_ret
    exact ⟨rfl, rfl⟩

theorem toKey_r' (k : List UInt8) (hk : k.length = 32) (w : World) : Ret Try.prog 27 #[.agg (bA k)] w fun r _ => r = .agg (bA k) := Ret.of (toKey_c k hk w)
theorem put_keys (ks : List Ky) (j q : Nat) (hj : j < ks.length) : putC (bA ks[j].1).toList (j * 32) (kyL (ks.take j) ++ List.replicate ((q + 1) * 32) (Value.int .u8 0)).toArray = (kyL (ks.take (j + 1)) ++ List.replicate (q * 32) (Value.int .u8 0)).toArray := by
  have h1 : (kyL (ks.take j)).length = j * 32 := by rw [kyL_len, List.length_take]; omega
  have h2 : (bL ks[j].1).length = 32 := by simp [bL_length]
  rw [bA_toList, putC_list _ _ _ (by rw [h2, List.length_append, h1, List.length_replicate]; omega)]
  rw [List.take_left' h1, List.take_succ_eq_append_getElem hj, kyL_append, h2]
  rw [show List.drop (j * 32 + 32) (kyL (ks.take j) ++ List.replicate ((q + 1) * 32) (Value.int .u8 0)) = List.replicate (q * 32) (Value.int .u8 0) by
    rw [List.drop_append, List.drop_of_length_le (by omega), h1, List.nil_append, List.drop_replicate]; congr 1; omega]
  simp [kyL]
set_option maxHeartbeats 1000000 in
set_option maxRecDepth 100000 in
theorem toKeyS_c (v : Value) (n : Nat) (ks : List Ky) (hks : ks.length = n) (w : World) (hv : Rd w 32 v n (kyL ks)) (hl : n ≤ 1048576) :
    Ret Try.prog 15 #[v] w fun r w' => OwnR w w' 25 32 r n (kyL ks) := by
  obtain ⟨b, cap, rfl⟩ := hv.shape
  have HV := Lib.hid hv
  have HK := Lib.hid hks
  clear hv hks
  refine ret_start fun wx M => ?_
  go_enter Try.func15, Try.ntmps15
  go_wp2_with (with_reducible (show wpList _ _ _ (Oper.mk _ (.makeSlice _ _ _) _ _ _ _ :: _) _ _); refine m_mk M rfl rfl rfl rfl (by omega) (by omega) ?_; clear M; (try clear wx); intro g7 wx M)
  rw [made_keys] at M
  go_loopg [4] n (fun q i wr => ∃ (j : Nat), j + q = n ∧ i = .int .i64 (j : Int) ∧ Mem w wr [.blk g7 25 (kyL (ks.take j) ++ List.replicate (q * 32) (Value.int .u8 0)).toArray])
  case atStart => exact ⟨0, by omega, rfl, by simpa [kyL] using M⟩
  case round =>
    obtain ⟨j, hj, rfl, M⟩ := hrel
    by_cases hlt : j < n
    · obtain ⟨q, rfl⟩ : ∃ q, gk = q + 1 := ⟨gk - 1, by omega⟩
      obtain ⟨g, o, rfl, h1⟩ := HV.out.open_ (by omega)
      have hkl : j < ks.length := by have := HK.out; omega
      have C1 := Lib.hid (fun wx (hb : Up w wx) => kyL_range (h1 wx hb) j hkl)
      have HP := Lib.hid (put_keys ks j q hkl)
      have HJ := Lib.hid hj
      have HX := (ks[j]'hkl).2
      have hsz : j * 32 + 32 ≤ (kyL (ks.take j) ++ List.replicate ((q + 1) * 32) (Value.int .u8 0)).toArray.size := by
        simp only [List.size_toArray, List.length_append, kyL_len, List.length_take, List.length_replicate]
        omega
      clear h1 hj
      generalize (ks[j]'hkl).1 = k at *
      generalize (kyL (ks.take j) ++ List.replicate ((q + 1) * 32) (Value.int .u8 0)).toArray = cs at *
      go_wp2_with (first
        | (go_at_call 27; (with_reducible refine mem_call M (toKey_r' k HX _) ?_); clear M; (try clear wx); rintro _ wx rfl _ M)
        | (with_reducible (show wpList _ _ _ (Oper.mk _ (.store _ _ _) _ _ _ _ :: _) _ _); refine m_storeP M rfl rfl rfl rfl (by simpa using HX) hsz (bA_one _) ?_; clear M; (try clear wx); intro wx M; simp only [List.set_cons_zero, List.set_cons_succ, Nat.zero_add, List.nil_append] at M)
        | (with_reducible (show wpList _ _ _ (Oper.mk _ (.load _ _) _ _ _ _ :: _) _ _); (first | (refine rd_loadA rfl rfl rfl (C1.out _ M.up) HX ?_) | (refine m_load M rfl rfl rfl (by first | assumption | rfl) ?_) | (refine m_loadR M rfl rfl rfl (by first | rfl | assumption | (simp; done) | (simp; omega)) ?_)))
        | (with_reducible (show wpList _ _ _ (Oper.mk _ (.store _ _ _) _ _ _ _ :: _) _ _); (first | (refine m_storeR M rfl rfl rfl rfl (by first | rfl | assumption | (simp; done) | (simp; omega)) (by first | rfl | assumption | (simp; done) | (simp; omega)) (by first | exact bA_one _ | exact wA_one _ | assumption | (simp [Value.oneCell']; done)) ?_) | (refine m_store (v := Value.int _ _) M rfl rfl rfl rfl rfl (by first | assumption | (simp; done) | (simp; omega)) ?_) | (refine m_store (v := Value.slice _ _ _) M rfl rfl rfl rfl rfl (by first | assumption | (simp; done) | (simp; omega)) ?_) | (refine m_store (v := Value.bool _) M rfl rfl rfl rfl rfl (by first | assumption | (simp; done) | (simp; omega)) ?_) | (refine m_store (v := Value.string _) M rfl rfl rfl rfl rfl (by first | assumption | (simp; done) | (simp; omega)) ?_) | (refine m_store (v := Value.pointer _) M rfl rfl rfl rfl rfl (by first | assumption | (simp; done) | (simp; omega)) ?_)); clear M; (try clear wx); intro wx M; simp only [List.set_cons_zero, List.set_cons_succ, Nat.zero_add, List.nil_append] at M))
      rw [HP.out] at M
      have hj := HJ.out
      go_roundg q
      case measure => omega
      case rel => exact ⟨j + 1, by omega, by go_num, M⟩
    · obtain rfl : j = n := by omega
      obtain rfl : gk = 0 := by omega
      have hml : j ≤ maxLen := by simp only [maxLen]; omega
      rw [List.take_of_length_le (by have := HK.out; omega), Nat.zero_mul, List.replicate_zero, List.append_nil] at M
      have M := M.blk_own (p := 0) rfl 32 j j (Nat.le_refl _) hml (by simp [HK.out]) (xs := kyL ks) (by show List.take _ (kyL ks) = kyL ks; exact List.take_of_length_le (by simp [HK.out]))
      clear hj
      go_wp2_with fail
      go_ret
      exact ⟨_, rfl, ⟨_, _, rfl, M.out_own (p := 0) rfl⟩, M.up⟩

set_option maxHeartbeats 1000000 in
set_option maxRecDepth 100000 in
theorem eqKeyS_same (va vb : Value) (n : Nat) (ks : List Ky) (hks : ks.length = n) (w : World) (hn : n ≤ 1000000000000) (ha : Rd w 32 va n (kyL ks)) (hb : Rd w 32 vb n (kyL ks)) :
    Ret Try.prog 18 #[va, vb] w fun r _ => r = .bool true := by
  obtain ⟨b1, cap1, rfl⟩ := ha.shape
  obtain ⟨b2, cap2, rfl⟩ := hb.shape
  have HA := Lib.hid ha
  have HB := Lib.hid hb
  have HK := Lib.hid hks
  refine ret_start fun wx M => ?_
  clear ha hb hks
  go_enter Try.func18, Try.ntmps18
  go_wp2_with fail
  go_loopg [5] n (fun q i wr => ∃ j : Nat, j + q = n ∧ i = .int .i64 (j : Int) ∧ Mem w wr [])
  case atStart => exact ⟨0, by omega, rfl, M⟩
  case round =>
    obtain ⟨j, hj, rfl, M⟩ := hrel
    by_cases hlt : j < n
    · have hks := HK.out
      obtain ⟨g1, o1, rfl, h1⟩ := HA.out.open_ (by omega)
      obtain ⟨g2, o2, rfl, h2⟩ := HB.out.open_ (by omega)
      have C1 := Lib.hid (fun wx (hb : Up w wx) => kyL_range (h1 wx hb) j (by omega))
      have C2 := Lib.hid (fun wx (hb : Up w wx) => kyL_range (h2 wx hb) j (by omega))
      have HJ := Lib.hid hj
      have hkl : j < ks.length := by omega
      have HX := Lib.hid (ks[j]'hkl).2
      generalize (ks[j]'hkl).1 = k at *
      clear h1 h2 hj hks hkl
      go_wp2_with fail
      refine region_mono (m := 10) mixedOrders_ (by kernel_rfl) (by kernel_rfl)
        (fun | 0 => fun vq _ => vq = .slice (some ⟨g1, o1, none⟩) n cap1 | 1 => fun vq _ => vq = .int .i64 (j : Int) | 2 => fun vq _ => vq = .pointer (some ⟨g1, o1 + j * 32, none⟩) | 3 => fun vq _ => vq = .agg (bA (k)) | 4 => fun vq _ => vq = .slice (some ⟨g2, o2, none⟩) n cap2 | 5 => fun vq _ => vq = .int .i64 (j : Int) | 6 => fun vq _ => vq = .pointer (some ⟨g2, o2 + j * 32, none⟩) | 7 => fun vq _ => vq = .agg (bA (k)) | 8 => fun vq _ => vq = .bool true | 9 => fun vq _ => vq = .bool (!true) | _ => fun _ _ => True)
        (fun wx => Mem w wx []) ?_ ?_ ?_ ?_ ?_
      · intro j hj v w1 w2 hb h
        match j, hj with
        | 0, _ => exact h
        | 1, _ => exact h
        | 2, _ => exact h
        | 3, _ => exact h
        | 4, _ => exact h
        | 5, _ => exact h
        | 6, _ => exact h
        | 7, _ => exact h
        | 8, _ => exact h
        | 9, _ => exact h
      · intro w1 w2 hb h
        exact h.grow hb
      · exact M.grow ((Up.refl _).drew)
      · rintro i o hi ho av wv fr gM dep
        match i, hi with
        | 0, _ =>
          obtain rfl := Option.some.inj ho
          exact st_mov rfl (fr.eval rfl) rfl
        | 1, _ =>
          obtain rfl := Option.some.inj ho
          exact st_mov rfl (fr.eval rfl) rfl
        | 2, _ =>
          obtain rfl := Option.some.inj ho
          exact st_indexAddr rfl (dep ⟨0, .data⟩ (by simp) rfl) (dep ⟨1, .data⟩ (by simp) rfl) (ix_slice _ _ _ _ _ hlt _) rfl
        | 3, _ =>
          obtain rfl := Option.some.inj ho
          exact st_loadA rfl (dep ⟨2, .data⟩ (by simp) rfl) (C1.out _ gM.up) HX.out rfl
        | 4, _ =>
          obtain rfl := Option.some.inj ho
          exact st_mov rfl (fr.eval rfl) rfl
        | 5, _ =>
          obtain rfl := Option.some.inj ho
          exact st_mov rfl (fr.eval rfl) rfl
        | 6, _ =>
          obtain rfl := Option.some.inj ho
          exact st_indexAddr rfl (dep ⟨4, .data⟩ (by simp) rfl) (dep ⟨5, .data⟩ (by simp) rfl) (ix_slice _ _ _ _ _ hlt _) rfl
        | 7, _ =>
          obtain rfl := Option.some.inj ho
          exact st_loadA rfl (dep ⟨6, .data⟩ (by simp) rfl) (C2.out _ gM.up) HX.out rfl
        | 8, _ =>
          obtain rfl := Option.some.inj ho
          have d0 := dep ⟨3, .data⟩ (by simp) rfl
          have d1 := dep ⟨7, .data⟩ (by simp) rfl
          exact st_ret2 rfl (fun _ _ => by kernel_rfl) d0 d1 (Ret.of (eqKey_c k k HX.out HX.out _)) (fun r w' h _ => by rw [h]; simp)
        | 9, _ =>
          obtain rfl := Option.some.inj ho
          exact st_not rfl (dep ⟨8, .data⟩ (by simp) rfl) rfl
      · rintro vs wv gM hf
        have f0 : vs 0 = .slice (some ⟨g1, o1, none⟩) n cap1 := hf 0 (by omega)
        have f1 : vs 1 = .int .i64 (j : Int) := hf 1 (by omega)
        have f2 : vs 2 = .pointer (some ⟨g1, o1 + j * 32, none⟩) := hf 2 (by omega)
        have f3 : vs 3 = .agg (bA (k)) := hf 3 (by omega)
        have f4 : vs 4 = .slice (some ⟨g2, o2, none⟩) n cap2 := hf 4 (by omega)
        have f5 : vs 5 = .int .i64 (j : Int) := hf 5 (by omega)
        have f6 : vs 6 = .pointer (some ⟨g2, o2 + j * 32, none⟩) := hf 6 (by omega)
        have f7 : vs 7 = .agg (bA (k)) := hf 7 (by omega)
        have f8 : vs 8 = .bool true := hf 8 (by omega)
        have f9 : vs 9 = .bool (!true) := hf 9 (by omega)
        simp only [putAll, Act.put, List.getElem?_toArray, List.getElem?_cons_zero, List.getElem?_cons_succ, Option.bind_some, List.setIfInBounds_toArray, List.set_cons_zero, List.set_cons_succ, List.drop_succ_cons, List.drop_zero, List.drop_nil, f9]
        clear f0 f1 f2 f3 f4 f5 f6 f7 f8 f9 hf
        go_wp2_with fail
        have hj := HJ.out
        go_roundg (gk - 1)
        case measure => omega
        case rel => exact ⟨j + 1, by omega, by go_num, gM⟩
    · obtain rfl : j = n := by omega
      clear hj hlt
      go_wp2_with fail
      go_ret
      exact ⟨_, rfl, rfl, M.up⟩

/-- The keys that a marking leaves. -/
def markK (k n : Nat) : List Ky := (List.range n).map fun i => ⟨markB (k + 32 * i) 32, markB_len _ _⟩
@[simp] theorem markK_len (k n : Nat) : (markK k n).length = n := by simp [markK]
theorem markK_succ (k n : Nat) : markK k (n + 1) = markK k n ++ [⟨markB (k + 32 * n) 32, markB_len _ _⟩] := by simp [markK, List.range_succ]
theorem markB_add (k a b : Nat) : markB k a ++ markB (k + a) b = markB k (a + b) := by
  simp only [markB, List.range_add, List.map_append, List.map_map]
  congr 1
  apply List.map_congr_left
  intro i _
  simp only [Function.comp]
  congr 1
  omega
theorem kyL_mark (k n : Nat) : kyL (markK k n) = bL (markB k (32 * n)) := by
  induction n with
  | zero => rfl
  | succ n ih => rw [markK_succ, kyL_append, ih, show kyL [(⟨markB (k + 32 * n) 32, markB_len _ _⟩ : Ky)] = bL (markB (k + 32 * n) 32) by simp [kyL], bL_append, markB_add, Nat.mul_succ]

set_option maxHeartbeats 1000000 in
set_option maxRecDepth 100000 in
theorem markKeyS_c (b : Option Addr) (cap n k B : Nat) (xs : List Value) (w : World) (hk : k ≤ 1000000000000) (hn : n ≤ 1000000000000) (h : w.ownsRow B 25 32 (.slice b n cap) n xs) :
    Writes Try.prog 24 #[.slice b n cap, .int .i64 (k : Int)] w B 25 32 b cap n (kyL (markK k n)) (.int .i64 ((k + 32 * n : Nat) : Int)) := by
  have hx1 := h.1
  rcases own_cases h with rfl | ⟨g, tl, rfl, hg, hnc, hcm, hlen, hblk⟩
  · have hx : xs = [] := List.eq_nil_of_length_eq_zero (by simpa using hx1)
    subst hx
    have H := Lib.hid h
    clear h hx1
    unfold Writes
    go_enter Try.func24, Try.ntmps24
    go_wp2_with fail
    go_loopg [1, 5] 0 (fun n x i wr => x = .int .i64 k ∧ i = .int .i64 0 ∧ wr = w)
    case atStart => exact ⟨rfl, rfl, rfl⟩
    case round =>
      obtain ⟨rfl, rfl, rfl⟩ := hrel
      go_wp2_with fail
      go_ret
      exact ⟨rfl, H.out, grown_refl _ _⟩
  · have hxn : xs.length = 32 * n := by omega
    have HX := Lib.hid (And.intro hxn (And.intro hg (And.intro hnc (And.intro hcm hlen))))
    have h0 : Blk w g 25 (midL (fun i => bV (UInt8.ofNat (k + i))) (fun i => xs.getD i undef) 0 (32 * n) ++ tl).toArray := by rw [← hxn, midL_zero]; exact hblk
    have H0 := Lib.hid h0
    clear h hx1 hblk hg hnc hcm hlen hxn h0
    unfold Writes
    go_enter Try.func24, Try.ntmps24
    go_wp2_with fail
    go_loopg [1, 5] n (fun m x i wr => ∃ j : Nat, j + m = n ∧ x = .int .i64 ((k + 32 * j : Nat) : Int) ∧ i = .int .i64 (j : Int) ∧ Blk wr g 25 (midL (fun i => bV (UInt8.ofNat (k + i))) (fun i => xs.getD i undef) (32 * j) (32 * n) ++ tl).toArray ∧ w.grownBy wr (some g))
    case atStart => exact ⟨0, by omega, rfl, rfl, H0.out, grown_refl _ _⟩
    case round =>
      obtain ⟨j, hj, rfl, rfl, b0, hgr⟩ := hrel
      have HB := Lib.hid (And.intro b0 hgr)
      by_cases hlt : j < n
      · have HJ := Lib.hid hj
        clear b0 hgr hj
        go_wp2_with fail
        have hd : decide ((j : Int) < (n : Int)) = true := by simp; omega
        try rw [hd]
        clear hd
        go_loopg [1, 6] 32 (fun m x i wq => ∃ q : Nat, q + m = 32 ∧ x = .int .i64 ((k + (32 * j + q) : Nat) : Int) ∧ i = .int .i64 (q : Int) ∧ Blk wq g 25 (midL (fun i => bV (UInt8.ofNat (k + i))) (fun i => xs.getD i undef) (32 * j + q) (32 * n) ++ tl).toArray ∧ w.grownBy wq (some g))
        case atStart => exact ⟨0, by omega, by go_num, rfl, HB.out.1, HB.out.2⟩
        case round =>
          obtain ⟨q, hq, rfl, rfl, b0, hgr⟩ := hrel
          by_cases hql : q < 32
          · have hin : 32 * j + q < 32 * n := by have := HJ.out; omega
            have c0 := b0.cell_ (i := 32 * j + q) (by rw [List.getElem?_toArray, List.getElem?_append_left (by rw [midL_len]; exact hin)]; exact midL_get _ _ _ _ _ hin)
            rw [if_neg (by omega), Nat.mul_comm 32 j] at c0
            have f0 := b0.free (j * 32 + q)
            have HC := Lib.hid (And.intro b0 hgr)
            have HQ := Lib.hid hq
            clear b0 hgr hq
            go_wp2_with fail
            obtain ⟨b0, hgr⟩ := HC.out
            have hq := HQ.out
            go_roundg (32 - q - 1)
            case measure => omega
            case rel =>
              refine ⟨q + 1, by omega, by go_num, by go_num, ?_, grown_trans hgr (grown_set g _ _)⟩
              have := b0.set_ (32 * j + q) (bV (UInt8.ofNat (k + (32 * j + q))))
              rw [List.setIfInBounds_toArray, List.set_append_left _ _ (by rw [midL_len]; exact hin), midL_set] at this
              simp only [bV] at this ⊢
              rw [u8_mod (k + (32 * j + q)), Int.natCast_add, Int.natCast_add, Int.natCast_mul, Nat.mul_comm 32 j] at this
              rw [Nat.mul_comm 32 j]
              exact this
          · obtain rfl : q = 32 := by omega
            have HC := Lib.hid (And.intro b0 hgr)
            clear b0 hgr hq
            go_wp2_with fail
            obtain ⟨b0, hgr⟩ := HC.out
            have hj := HJ.out
            go_roundg (n - j - 1)
            case measure => omega
            case rel => exact ⟨j + 1, by omega, by go_num, by go_num, by rw [Nat.mul_succ]; exact b0, hgr⟩
      · obtain rfl : j = n := by omega
        clear b0 hgr hj
        go_wp2_with fail
        go_ret
        obtain ⟨hxn, hg, hnc, hcm, hlen⟩ := HX.out
        obtain ⟨b0, hgr⟩ := HB.out
        rw [midL_full] at b0
        refine ⟨rfl, own_back (xs := kyL (markK k j)) (tl := tl) hg ?_ (by simp) hnc hcm (by simp at hlen ⊢; omega), hgr⟩
        have e : kyL (markK k j) = (List.range (32 * j)).map fun i => bV (UInt8.ofNat (k + i)) := by rw [kyL_mark]; simp [bL, markB]
        rw [e]
        exact b0

set_option maxHeartbeats 1000000 in
set_option maxRecDepth 100000 in
theorem heldKeyS_c (v : Value) (n k : Nat) (w : World) (hk : k ≤ 1000000000000) (hn : n ≤ 1000000000000) (h : Rd w 32 v n (kyL (markK k n))) :
    Ret Try.prog 25 #[v, .int .i64 (k : Int)] w fun r _ => r = .int .i64 ((k + 32 * n : Nat) : Int) := by
  obtain ⟨b, cap, rfl⟩ := h.shape
  have H := Lib.hid h
  clear h
  refine ret_start fun wx M => ?_
  go_enter Try.func25, Try.ntmps25
  go_wp2_with fail
  go_loopg [1, 5] n (fun m x i wr => ∃ j : Nat, j + m = n ∧ x = .int .i64 ((k + 32 * j : Nat) : Int) ∧ i = .int .i64 (j : Int) ∧ Mem w wr [])
  case atStart => exact ⟨0, by omega, rfl, rfl, M⟩
  case round =>
    obtain ⟨j, hj, rfl, rfl, M⟩ := hrel
    by_cases hlt : j < n
    · have HJ := Lib.hid hj
      clear hj
      go_wp2_with fail
      have hd : decide ((j : Int) < (n : Int)) = true := by simp; omega
      try rw [hd]
      clear hd
      go_loopg [1, 6] 32 (fun m x i wq => ∃ q : Nat, q + m = 32 ∧ x = .int .i64 ((k + (32 * j + q) : Nat) : Int) ∧ i = .int .i64 (q : Int) ∧ Mem w wq [])
      case atStart => exact ⟨0, by omega, by go_num, rfl, M⟩
      case round =>
        obtain ⟨q, hq, rfl, rfl, M⟩ := hrel
        by_cases hql : q < 32
        · have hin : 32 * j + q < 32 * n := by have := HJ.out; omega
          obtain ⟨g, o, rfl, hr⟩ := H.out.open_ (by omega)
          have C1 := Lib.hid (show ∀ wx, Up w wx → wx.cell? ⟨g, o + j * 32 + q, none⟩ = some (.int .u8 (((k : Int) + (32 * (j : Int) + (q : Int))) % 256)) from fun wx hb => by
            have h := hr wx hb (j * 32 + q) _ (by rw [kyL_mark, Nat.mul_comm j 32]; exact bL_get (markB k (32 * n)) _ (by simpa using hin))
            rw [bt_markB k _ _ hin, u8_mod, Int.natCast_add, Int.natCast_add, Int.natCast_mul, ← Nat.add_assoc] at h
            exact h)
          have HQ := Lib.hid hq
          clear hr hq
          go_wp2_with (first
            | (with_reducible (show wpList _ _ _ (Oper.mk _ (.load _ _) _ _ _ _ :: _) _ _); (first | (refine wpList_load_one rfl rfl rfl (C1.out _ M.up) ?_) | (refine m_load M rfl rfl rfl (by first | assumption | rfl) ?_) | (refine m_loadR M rfl rfl rfl (by first | rfl | assumption | (simp; done) | (simp; omega)) ?_))))
          have hq := HQ.out
          go_roundg (32 - q - 1)
          case measure => omega
          case rel => exact ⟨q + 1, by omega, by go_num, by go_num, M⟩
        · obtain rfl : q = 32 := by omega
          clear hq
          go_wp2_with fail
          have hj := HJ.out
          go_roundg (n - j - 1)
          case measure => omega
          case rel => exact ⟨j + 1, by omega, by go_num, by go_num, M⟩
    · obtain rfl : j = n := by omega
      clear hj
      go_wp2_with fail
      go_ret
      exact ⟨_, rfl, rfl, M.up⟩

theorem markKeyS_1 (b : Option Addr) (cap n B : Nat) (xs : List Value) (w : World) (hn : n ≤ 1000000000000) (h : w.ownsRow B 25 32 (.slice b n cap) n xs) :
    Writes Try.prog 24 #[.slice b n cap, .int .i64 1] w B 25 32 b cap n (kyL (markK 1 n)) (.int .i64 (1 + 32 * (n : Int))) := by
  have := markKeyS_c b cap n 1 B xs w (by decide) hn h
  rw [Int.natCast_add, Int.natCast_mul] at this
  exact this
theorem heldKeyS_1 (v : Value) (n : Nat) (w : World) (hn : n ≤ 1000000000000) (h : Rd w 32 v n (kyL (markK 1 n))) :
    Ret Try.prog 25 #[v, .int .i64 1] w fun r _ => r = .int .i64 (1 + 32 * (n : Int)) := by
  have := heldKeyS_c v n 1 w (by decide) hn h
  rw [Int.natCast_add, Int.natCast_mul] at this
  exact this

end Go.Proofs.Ytmbhaoiahlbglaa

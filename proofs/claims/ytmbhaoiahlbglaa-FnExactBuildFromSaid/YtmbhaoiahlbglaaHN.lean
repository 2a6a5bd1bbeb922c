/- Walks: slices of slices of bytes copied, compared, marked, joined. -/
import Derived.Test.YtmbhaoiahlbglaaHP
import Derived.Test.YtmbhaoiahlbglaaMem2
namespace Go.Proofs.Ytmbhaoiahlbglaa
open Go.RowKit
set_option linter.unusedVariables false
set_option linter.unusedSimpArgs false

/-- An argument that reads as slices of bytes. -/
def RdSA (w : World) (v : Value) (ls : List (List UInt8)) : Prop := ∃ (a : Option Addr) (cap : Nat), v = .slice a ls.length cap ∧ ls.length ≤ maxLen ∧
  ∀ (i : Nat) l, ls[i]? = some l → ∃ p b c, a = some p ∧ p.block < w.heap.size ∧ w.cell? (p.add i) = some (.slice b l.length c) ∧ RdB w (.slice b l.length c) l
theorem RdSA.up {w w' : World} {v : Value} {ls : List (List UInt8)} (h : RdSA w v ls) (hb : Up w w') : RdSA w' v ls := by
  obtain ⟨a, cap, hv, hm, hc⟩ := h
  refine ⟨a, cap, hv, hm, fun i l hl => ?_⟩
  obtain ⟨p, b, c, h1, h2, h3, h4⟩ := hc i l hl
  exact ⟨p, b, c, h1, Nat.lt_of_lt_of_le h2 (Below.size hb), by rw [below_cell hb _ (by rw [add_block]; exact h2)]; exact h3, h4.up hb⟩
theorem RdSA.at_ {w : World} {a : Option Addr} {cap n : Nat} {ls : List (List UInt8)} (h : RdSA w (.slice a n cap) ls) (j : Nat) (hj : j < ls.length) :
    ∃ p b c, a = some p ∧ (∀ wx, Up w wx → wx.cell? (p.add j) = some (.slice b (ls[j]).length c)) ∧ RdB w (.slice b (ls[j]).length c) ls[j] := by
  obtain ⟨a', cap', hv, hm, hc⟩ := h
  injection hv with e1 _ _
  subst e1
  obtain ⟨p, b, c, h1, h2, h3, h4⟩ := hc j _ (List.getElem?_eq_getElem hj)
  exact ⟨p, b, c, h1, fun wx hb => by rw [below_cell hb _ (by rw [add_block]; exact h2)]; exact h3, h4⟩

/-- What a measure of bytes leaves: less than nothing, or what is left. -/
def LeftS (ls : List (List UInt8)) (left r : Int) : Prop := r = -1 ∨ (0 ≤ r ∧ r + (ls.length : Int) + (ls.flatten.length : Int) = left)
set_option maxHeartbeats 1000000 in
set_option maxRecDepth 100000 in
theorem szByteSS_c (v : Value) (ls : List (List UInt8)) (left : Int) (w : World) (h0 : 0 ≤ left) (h1 : left ≤ 1048576) (hv : RdSA w v ls) :
    Ret Try.prog 38 #[v, .int .i64 left] w fun r _ => ∃ x : Int, r = .int .i64 x ∧ LeftS ls left x := by
  have HV := Lib.hid hv
  obtain ⟨a, cap, rfl, hm, -⟩ := hv
  have hmm : maxLen ≤ 9223372036854775807 := by decide
  have hml : ls.length ≤ 9223372036854775807 := by omega
  clear hm hmm
  refine ret_start fun wx M => ?_
  by_cases hbig : left - (ls.length : Int) < 0
  · go_enter Try.func38, Try.ntmps38
    go_wp2_with fail
    go_ret
    exact ⟨_, rfl, ⟨_, rfl, .inl rfl⟩, M.up⟩
  · go_enter Try.func38, Try.ntmps38
    go_wp2_with fail
    go_loopg [1, 5] ls.length (fun q x i wr => ∃ (j : Nat) (y : Int), j + q = ls.length ∧ i = .int .i64 (j : Int) ∧ x = .int .i64 y ∧ 0 ≤ y ∧ y + ((ls.take j).flatten.length : Int) = left - (ls.length : Int) ∧ Mem w wr [])
    case atStart => exact ⟨0, left - (ls.length : Int), by omega, rfl, rfl, by omega, by simp, M⟩
    case round =>
      obtain ⟨j, y, hj, rfl, rfl, hy, hys, M⟩ := hrel
      by_cases hlt : j < ls.length
      · obtain ⟨p, b, c, rfl, hc, hrd⟩ := HV.out.at_ j hlt
        have C1 := Lib.hid hc
        have HE := Lib.hid (show (ls.take (j + 1)).flatten.length = (ls.take j).flatten.length + (ls[j]).length by rw [flat_take ls j hlt, List.length_append])
        have hll : (ls[j]).length ≤ maxLen := by
          obtain ⟨_, _, e, h, _⟩ := hrd
          exact h
        have HJ := Lib.hid (And.intro hj hys)
        clear hc hrd hj hys
        generalize (ls.take j).flatten.length = F at *
        generalize (ls[j]).length = m at *
        have hyl : y ≤ 1048576 := by have := HJ.out.2; omega
        by_cases hym : y - (m : Int) < 0
        · go_wp2_with (first
            | (go_at_call 94; (with_reducible refine mem_call M (Ret.same (szByteS_c _ m _ y hy hyl hll _)) ?_); clear M; (try clear wx); rintro _ wx rfl _ M; rw [if_pos hym])
            | (with_reducible (show wpList _ _ _ (Oper.mk _ (.load _ _) _ _ _ _ :: _) _ _); (first | (refine wpList_loadP rfl rfl rfl (C1.out _ M.up) ?_) | (refine m_load M rfl rfl rfl (by first | assumption | rfl) ?_) | (refine m_loadR M rfl rfl rfl (by first | rfl | assumption | (simp; done) | (simp; omega)) ?_))))
          go_ret
          exact ⟨_, rfl, ⟨_, rfl, .inl rfl⟩, M.up⟩
        · go_wp2_with (first
            | (go_at_call 94; (with_reducible refine mem_call M (Ret.same (szByteS_c _ m _ y hy hyl hll _)) ?_); clear M; (try clear wx); rintro _ wx rfl _ M; rw [if_neg hym])
            | (with_reducible (show wpList _ _ _ (Oper.mk _ (.load _ _) _ _ _ _ :: _) _ _); (first | (refine wpList_loadP rfl rfl rfl (C1.out _ M.up) ?_) | (refine m_load M rfl rfl rfl (by first | assumption | rfl) ?_) | (refine m_loadR M rfl rfl rfl (by first | rfl | assumption | (simp; done) | (simp; omega)) ?_))))
          obtain ⟨hj, hys⟩ := HJ.out
          go_roundg (gk - 1)
          case measure => omega
          case rel => exact ⟨j + 1, y - (m : Int), by omega, by go_num, rfl, by omega, by rw [HE.out]; omega, M⟩
      · obtain rfl : j = ls.length := by omega
        rw [List.take_length] at hys
        have HJ := Lib.hid hys
        clear hj hys
        go_wp2_with fail
        go_ret
        exact ⟨_, rfl, ⟨y, rfl, .inr ⟨hy, by have := HJ.out; omega⟩⟩, M.up⟩

theorem set_mid (us : List Value) (j m : Nat) (hj : us.length = j) (x v : Value) : (us ++ List.replicate (m + 1) x).toArray.setIfInBounds j v = (us ++ [v] ++ List.replicate m x).toArray := by
  subst hj
  rw [List.setIfInBounds_toArray, List.set_append_right _ _ (Nat.le_refl _), Nat.sub_self, List.replicate_succ, List.set_cons_zero, List.append_assoc]
  rfl
set_option maxHeartbeats 1000000 in
set_option maxRecDepth 100000 in
theorem toByteSS_c (v : Value) (ls : List (List UInt8)) (w : World) (hv : RdSA w v ls) (hl : ls.length + ls.flatten.length ≤ 1048576) :
    Ret Try.prog 41 #[v] w fun r w' => OwnS w w' 66 5 r ls.length (ls.map bL) := by
  have HV := Lib.hid hv
  obtain ⟨a, cap, rfl, hm, -⟩ := hv
  clear hm
  refine ret_start fun wx M => ?_
  go_enter Try.func41, Try.ntmps41
  go_wp2_with (with_reducible (show wpList _ _ _ (Oper.mk _ (.makeSlice _ _ _) _ _ _ _ :: _) _ _); refine m_make M rfl rfl rfl rfl (by omega) (by omega) (by omega) ?_; clear M; (try clear wx); intro g7 wx M)
  rw [made_one _ rfl] at M
  go_loopg [4] ls.length (fun q i wr => ∃ (j : Nat) (us : List Value), j + q = ls.length ∧ i = .int .i64 (j : Int) ∧ us.length = j ∧ Mem w wr [.blk g7 66 (us ++ List.replicate q (Value.slice none 0 0)).toArray, .inn 5 us ((ls.take j).map bL)])
  case atStart => exact ⟨0, [], by omega, rfl, rfl, by simpa using (M.nil_inn 5).pick [1, 0] (by decide)⟩
  case round =>
    obtain ⟨j, us, hj, rfl, hus, M⟩ := hrel
    by_cases hlt : j < ls.length
    · obtain ⟨q, rfl⟩ : ∃ q, gk = q + 1 := ⟨gk - 1, by omega⟩
      obtain ⟨p, b, c, rfl, hc, hrd⟩ := HV.out.at_ j hlt
      have C1 := Lib.hid hc
      have R1 := Lib.hid hrd
      have hle := flat_le ls (j + 1)
      rw [flat_take ls j hlt, List.length_append] at hle
      have HE := Lib.hid (show (ls.take (j + 1)).map bL = (ls.take j).map bL ++ [bL ls[j]] by rw [List.take_succ_eq_append_getElem hlt, List.map_append]; rfl)
      have HU := Lib.hid hus
      have HJ := Lib.hid hj
      have hll : (ls[j]).length ≤ 1048576 := by omega
      have hjj : j < (us ++ List.replicate (q + 1) (Value.slice none 0 0)).toArray.size := by simp; omega
      clear hc hrd hj hle hus
      generalize (ls[j]'hlt) = l at *
      go_wp2_with (first
        | (go_at_call 98; (with_reducible refine mem_callO M (toByteS_r _ l _ (R1.out.up M.up) hll) ?_); clear M; (try clear wx); intro b20 cap20 wx M)
        | (with_reducible (show wpList _ _ _ (Oper.mk _ (.load _ _) _ _ _ _ :: _) _ _); (first | (refine wpList_loadP rfl rfl rfl (C1.out _ M.up) ?_) | (refine m_load M rfl rfl rfl (by first | assumption | rfl) ?_) | (refine m_loadR M rfl rfl rfl (by first | rfl | assumption | (simp; done) | (simp; omega)) ?_)))
        | (with_reducible (show wpList _ _ _ (Oper.mk _ (.store _ _ _) _ _ _ _ :: _) _ _); (first | (refine m_storeR M rfl rfl rfl rfl (by first | rfl | assumption | (simp; done) | (simp; omega)) (by first | rfl | assumption | (simp; done) | (simp; omega)) (by first | exact bA_one _ | exact wA_one _ | assumption | (simp [Value.oneCell']; done)) ?_) | (refine m_store (v := Value.int _ _) M rfl rfl rfl rfl rfl (by first | assumption | (simp; done) | (simp; omega)) ?_) | (refine m_store (v := Value.slice _ _ _) M rfl rfl rfl rfl rfl (by first | assumption | (simp; done) | (simp; omega)) ?_) | (refine m_store (v := Value.bool _) M rfl rfl rfl rfl rfl (by first | assumption | (simp; done) | (simp; omega)) ?_) | (refine m_store (v := Value.string _) M rfl rfl rfl rfl rfl (by first | assumption | (simp; done) | (simp; omega)) ?_) | (refine m_store (v := Value.pointer _) M rfl rfl rfl rfl rfl (by first | assumption | (simp; done) | (simp; omega)) ?_)); clear M; (try clear wx); intro wx M; simp only [List.set_cons_zero, List.set_cons_succ, Nat.zero_add, List.nil_append] at M))
      rw [set_mid us j q HU.out] at M
      have M := (M.pick [0, 2, 1] (by decide))
      have M := (Mem.push_inn M (bL_length l).symm).pick [1, 0] (by decide)
      have hj := HJ.out
      have hus := HU.out
      go_roundg q
      case measure => omega
      case rel => exact ⟨j + 1, us ++ [.slice b20 l.length cap20], by omega, by go_num, by simp [hus], by rw [HE.out]; exact M⟩
    · obtain rfl : j = ls.length := by omega
      obtain rfl : gk = 0 := by omega
      rw [List.take_length, List.replicate_zero, List.append_nil] at M
      have hml : ls.length ≤ maxLen := by simp only [maxLen]; omega
      have M := M.blk_own (p := 0) rfl 1 ls.length ls.length (Nat.le_refl _) hml (by simp [hus]) (xs := us) (by show List.take _ us = us; exact List.take_of_length_le (by omega))
      clear hj
      go_wp2_with fail
      go_ret
      exact ⟨_, rfl, Mem.toOwnS M (by simp), M.up⟩

set_option maxHeartbeats 1000000 in
set_option maxRecDepth 100000 in
theorem eqByteSS_same (va vb : Value) (n : Nat) (ls : List (List UInt8)) (hls : ls.length = n) (w : World) (hn : n ≤ 1000000000000) (ha : RdS w va ls) (hb : RdS w vb ls) :
    Ret Try.prog 44 #[va, vb] w fun r _ => r = .bool true := by
  subst hls
  obtain ⟨b1, cap1, rfl⟩ : ∃ b cap, va = .slice b ls.length cap := by
    obtain ⟨xs, h1, _⟩ := ha
    exact h1.shape
  obtain ⟨b2, cap2, rfl⟩ : ∃ b cap, vb = .slice b ls.length cap := by
    obtain ⟨xs, h1, _⟩ := hb
    exact h1.shape
  have HA := Lib.hid ha
  have HB := Lib.hid hb
  refine ret_start fun wx M => ?_
  clear ha hb
  go_enter Try.func44, Try.ntmps44
  go_wp2_with fail
  go_loopg [5] ls.length (fun q i wr => ∃ j : Nat, j + q = ls.length ∧ i = .int .i64 (j : Int) ∧ Mem w wr [])
  case atStart => exact ⟨0, by omega, rfl, M⟩
  case round =>
    obtain ⟨j, hj, rfl, M⟩ := hrel
    by_cases hlt : j < ls.length
    · obtain ⟨g1, o1, x1, y1, rfl, h1, r1⟩ := HA.out.at_ j hlt
      obtain ⟨g2, o2, x2, y2, rfl, h2, r2⟩ := HB.out.at_ j hlt
      have C1 := Lib.hid h1
      have C2 := Lib.hid h2
      have R1 := Lib.hid r1
      have R2 := Lib.hid r2
      have HJ := Lib.hid hj
      clear h1 h2 hj r1 r2
      generalize (ls[j]'hlt) = l at *
      go_wp2_with fail
      refine region_mono (m := 10) mixedOrders_ (by kernel_rfl) (by kernel_rfl)
        (fun | 0 => fun vq _ => vq = .slice (some ⟨g1, o1, none⟩) ls.length cap1 | 1 => fun vq _ => vq = .int .i64 (j : Int) | 2 => fun vq _ => vq = .pointer (some ⟨g1, o1 + j * 1, none⟩) | 3 => fun vq _ => vq = .slice x1 l.length y1 | 4 => fun vq _ => vq = .slice (some ⟨g2, o2, none⟩) ls.length cap2 | 5 => fun vq _ => vq = .int .i64 (j : Int) | 6 => fun vq _ => vq = .pointer (some ⟨g2, o2 + j * 1, none⟩) | 7 => fun vq _ => vq = .slice x2 l.length y2 | 8 => fun vq _ => vq = .bool true | 9 => fun vq _ => vq = .bool (!true) | _ => fun _ _ => True)
        (fun wx => Mem w wx []) ?_ ?_ ?_ ?_ ?_
      · intro j hj v w1 w2 hb h
        match j, hj with
        | 0, _ => exact h
        | 1, _ => exact h
        | 2, _ => exact h
        | 3, _ => exact h
        | 4, _ => exact h
        | 5, _ => exact h
        | 6, _ => exact h
        | 7, _ => exact h
        | 8, _ => exact h
        | 9, _ => exact h
      · intro w1 w2 hb h
        exact h.grow hb
      · exact M.grow ((Up.refl _).drew)
      · rintro i o hi ho av wv fr gM dep
        match i, hi with
        | 0, _ =>
          obtain rfl := Option.some.inj ho
          exact st_mov rfl (fr.eval rfl) rfl
        | 1, _ =>
          obtain rfl := Option.some.inj ho
          exact st_mov rfl (fr.eval rfl) rfl
        | 2, _ =>
          obtain rfl := Option.some.inj ho
          exact st_indexAddr rfl (dep ⟨0, .data⟩ (by simp) rfl) (dep ⟨1, .data⟩ (by simp) rfl) (ix_slice _ _ _ _ _ hlt _) rfl
        | 3, _ =>
          obtain rfl := Option.some.inj ho
          exact st_load1 rfl (dep ⟨2, .data⟩ (by simp) rfl) (by rw [Nat.mul_one]; exact C1.out _ gM.up) rfl
        | 4, _ =>
          obtain rfl := Option.some.inj ho
          exact st_mov rfl (fr.eval rfl) rfl
        | 5, _ =>
          obtain rfl := Option.some.inj ho
          exact st_mov rfl (fr.eval rfl) rfl
        | 6, _ =>
          obtain rfl := Option.some.inj ho
          exact st_indexAddr rfl (dep ⟨4, .data⟩ (by simp) rfl) (dep ⟨5, .data⟩ (by simp) rfl) (ix_slice _ _ _ _ _ hlt _) rfl
        | 7, _ =>
          obtain rfl := Option.some.inj ho
          exact st_load1 rfl (dep ⟨6, .data⟩ (by simp) rfl) (by rw [Nat.mul_one]; exact C2.out _ gM.up) rfl
        | 8, _ =>
          obtain rfl := Option.some.inj ho
          have d0 := dep ⟨3, .data⟩ (by simp) rfl
          have d1 := dep ⟨7, .data⟩ (by simp) rfl
          exact st_ret2 rfl (fun _ _ => by kernel_rfl) d0 d1 (eqByteS_r _ _ l _ (R1.out.up gM.up).rdb (R2.out.up gM.up).rdb) (fun r w' h _ => h)
        | 9, _ =>
          obtain rfl := Option.some.inj ho
          exact st_not rfl (dep ⟨8, .data⟩ (by simp) rfl) rfl
      · rintro vs wv gM hf
        have f0 : vs 0 = .slice (some ⟨g1, o1, none⟩) ls.length cap1 := hf 0 (by omega)
        have f1 : vs 1 = .int .i64 (j : Int) := hf 1 (by omega)
        have f2 : vs 2 = .pointer (some ⟨g1, o1 + j * 1, none⟩) := hf 2 (by omega)
        have f3 : vs 3 = .slice x1 l.length y1 := hf 3 (by omega)
        have f4 : vs 4 = .slice (some ⟨g2, o2, none⟩) ls.length cap2 := hf 4 (by omega)
        have f5 : vs 5 = .int .i64 (j : Int) := hf 5 (by omega)
        have f6 : vs 6 = .pointer (some ⟨g2, o2 + j * 1, none⟩) := hf 6 (by omega)
        have f7 : vs 7 = .slice x2 l.length y2 := hf 7 (by omega)
        have f8 : vs 8 = .bool true := hf 8 (by omega)
        have f9 : vs 9 = .bool (!true) := hf 9 (by omega)
        simp only [putAll, Act.put, List.getElem?_toArray, List.getElem?_cons_zero, List.getElem?_cons_succ, Option.bind_some, List.setIfInBounds_toArray, List.set_cons_zero, List.set_cons_succ, List.drop_succ_cons, List.drop_zero, List.drop_nil, f9]
        clear f0 f1 f2 f3 f4 f5 f6 f7 f8 f9 hf
        go_wp2_with fail
        have hj := HJ.out
        go_roundg (gk - 1)
        case measure => omega
        case rel => exact ⟨j + 1, by omega, by go_num, gM⟩
    · obtain rfl : j = ls.length := by omega
      clear hj hlt
      go_wp2_with fail
      go_ret
      exact ⟨_, rfl, rfl, M.up⟩

theorem Writes.calls {P : Program} {f : FuncId} {args : Array Value} {w : World} {B : Nat} {e : TypeId} {size : Nat} {b : Option Addr} {cap n : Nat} {xs : List Value} {v : Value} (h : Writes P f args w B e size b cap n xs v) : Calls P f args w fun e' w' => e' = .returned v ∧ w'.ownsRow B e size (.slice b n cap) n xs ∧ w.grownBy w' (Value.slice b n cap).ownBlock := h
theorem Inn.set_ {B : Nat} {w w' : World} {e : TypeId} {us : List Value} {ls : List (List Value)} (h : Inn B w e us ls) (j : Nat) {b : Option Addr} {c n : Nat} {l l' : List Value} (hu : us[j]? = some (.slice b n c)) (hl : ls[j]? = some l) (hn : n = l.length) (hl' : l'.length = l.length)
    (ho : w'.ownsRow B e 1 (.slice b n c) n l') (hg : w.grownBy w' (Value.slice b n c).ownBlock) : Inn B w' e us (ls.set j l') := by
  refine ⟨by rw [List.length_set]; exact h.len, fun i u m hi hm => ?_, h.apart⟩
  by_cases hij : j = i
  · subst hij
    rw [List.getElem?_set_self (List.getElem?_eq_some_iff.1 hl).1] at hm
    obtain rfl := Option.some.inj hm
    rw [hu] at hi
    obtain rfl := Option.some.inj hi
    subst hn
    exact ⟨b, c, by rw [hl'], by rw [hl']; exact ho⟩
  · rw [List.getElem?_set_ne hij] at hm
    obtain ⟨b', c', h1, h2⟩ := h.own i u m hi hm
    exact ⟨b', c', h1, own_kept h2 (Chg.of_grown hg) (fun k hk hk' => h.apart i j u _ k hi hu (fun e => hij e.symm) hk hk')⟩
/-- What a marking leaves in slices of slices. -/
def markSS : Nat → List (List Value) → List (List Value)
  | _, [] => []
  | k, l :: r => bL (markB k l.length) :: markSS (k + l.length) r
theorem markSS_append (a b : List (List Value)) : ∀ k, markSS k (a ++ b) = markSS k a ++ markSS (k + a.flatten.length) b := by
  induction a with
  | nil => intro k; simp [markSS]
  | cons l a ih => intro k; simp only [List.cons_append, markSS, ih, List.flatten_cons, List.length_append, Nat.add_assoc]
theorem markSS_len (a : List (List Value)) : ∀ k, (markSS k a).length = a.length := by
  induction a with
  | nil => intro k; rfl
  | cons l a ih => intro k; simp [markSS, ih]
theorem vflat_take (ls : List (List Value)) (k : Nat) (h : k < ls.length) : (ls.take (k + 1)).flatten.length = (ls.take k).flatten.length + (ls[k]).length := by
  rw [List.take_succ_eq_append_getElem h, List.flatten_append]
  simp
theorem vflat_le (ls : List (List Value)) (k : Nat) : (ls.take k).flatten.length ≤ ls.flatten.length := by
  have h := congrArg (fun x => (List.flatten x).length) (List.take_append_drop k ls)
  simp only [List.flatten_append, List.length_append] at h
  omega
theorem markSS_step (ls : List (List Value)) (k j : Nat) (h : j < ls.length) : (markSS k (ls.take j) ++ ls.drop j).set j (bL (markB (k + (ls.take j).flatten.length) (ls[j]).length)) = markSS k (ls.take (j + 1)) ++ ls.drop (j + 1) := by
  have hl : (markSS k (ls.take j)).length = j := by rw [markSS_len]; simp; omega
  rw [List.set_append_right _ _ (by omega), hl, Nat.sub_self, List.drop_eq_getElem_cons h, List.set_cons_zero, List.take_succ_eq_append_getElem h, markSS_append]
  simp [markSS]

set_option maxHeartbeats 1000000 in
set_option maxRecDepth 100000 in
theorem markByteSS_c (b : Option Addr) (cap n k B : Nat) (us : List Value) (ls : List (List Value)) (w : World) (hk : k + ls.flatten.length ≤ 1000000000000) (hn : n ≤ 1000000000000) (ho : w.ownsRow B 66 1 (.slice b n cap) n us) (hi : Inn B w 5 us ls)
    (hap : ∀ u k, u ∈ us → u.ownBlock = some k → (Value.slice b n cap).ownBlock = some k → False) :
    Calls Try.prog 46 #[.slice b n cap, .int .i64 (k : Int)] w fun e' w' => e' = .returned (.int .i64 ((k + ls.flatten.length : Nat) : Int)) ∧ Inn B w' 5 us (markSS k ls) ∧ Chg w w' (fun k => ∃ u ∈ us, u.ownBlock = some k) := by
  have hun : us.length = n := by have := ho.1; omega
  have hln : ls.length = n := by rw [← hi.len]; exact hun
  have H := Lib.hid (And.intro ho (And.intro hi (And.intro hap (And.intro hun hln))))
  clear ho hi hap hun hln
  go_enter Try.func46, Try.ntmps46
  go_wp2_with fail
  go_loopg [1, 5] n (fun q x i wr => ∃ (j kk : Nat), j + q = n ∧ kk = k + (ls.take j).flatten.length ∧ x = .int .i64 (kk : Int) ∧ i = .int .i64 (j : Int) ∧ Inn B wr 5 us (markSS k (ls.take j) ++ ls.drop j) ∧ Chg w wr (fun k => ∃ u ∈ us, u.ownBlock = some k))
  case atStart => exact ⟨0, k, by omega, by simp, rfl, rfl, by simpa [markSS] using H.out.2.1, Chg.refl _ _⟩
  case round =>
    obtain ⟨j, kk, hj, hkk, rfl, rfl, I, C⟩ := hrel
    by_cases hlt : j < n
    · obtain ⟨ho, hi, hap, hun, hln⟩ := H.out
      have ho' := own_kept ho C (fun q hq ⟨u, hu, hk'⟩ => hap u q hu hk' hq)
      rcases own_cases ho' with h0 | ⟨g, tl, rfl, hg, hnc, hcm, hlen, hblk⟩
      · omega
      have hjl : j < ls.length := by omega
      have hlj : (markSS k (ls.take j) ++ ls.drop j)[j]? = some ls[j] := by
        have h1 : (markSS k (ls.take j)).length = j := by rw [markSS_len, List.length_take]; omega
        rw [List.getElem?_append_right (by omega), h1, Nat.sub_self, List.getElem?_drop, Nat.add_zero]
        exact List.getElem?_eq_getElem hjl
      obtain ⟨bj, cj, huj, hoj⟩ := I.own j _ _ (List.getElem?_eq_getElem (by omega)) hlj
      rw [huj] at hoj
      have hU : us[j]? = some (.slice bj (ls[j]).length cj) := (List.getElem?_eq_getElem (by omega)).trans (congrArg some huj)
      have c0 := hblk.cell_ (i := j) (by rw [List.getElem?_toArray, List.getElem?_append_left (by omega)]; exact hU)
      have hF := vflat_take ls j hjl
      have hle := vflat_le ls (j + 1)
      have hst := markSS_step ls k j hjl
      rw [← hkk] at hst
      have HI := Lib.hid (And.intro I (And.intro C (And.intro hoj (And.intro hst (And.intro hlj (And.intro hU (And.intro hkk hF)))))))
      have HJ := Lib.hid hj
      have hkb : kk ≤ 1000000000000 := by omega
      have hmb : (ls[j]).length ≤ 1000000000000 := by omega
      clear I C hoj hst hlj huj hU hkk hF hle hj ho hi hap hun hln ho' hblk hlen hg hcm hnc
      generalize hm : (ls[j]).length = m at *
      have HM := Lib.hid hm
      clear hm
      go_wp2_with (go_at_call 50; (with_reducible refine Calls.mono (Writes.calls (markByteS_c bj cj m kk B _ _ hkb hmb HI.out.2.2.1)) ?_); rintro e w' ⟨rfl, ho2, hg2⟩)
      obtain ⟨I, C, hoj, hst, hlj, hU, hkk, hF⟩ := HI.out
      have hj := HJ.out
      have I2 := I.set_ j (l' := bL (markB kk m)) hU hlj HM.out.symm (by rw [bL_length, markB_len, HM.out]) ho2 hg2
      rw [hst] at I2
      have C2 := C.trans ((Chg.of_grown hg2).mono (fun q hq => ⟨_, List.mem_of_getElem? hU, hq⟩))
      go_roundg (gk - 1)
      case measure => omega
      case rel => exact ⟨j + 1, kk + m, by omega, by rw [hF, ← Nat.add_assoc, ← hkk], by go_num, by go_num, I2, C2⟩
    · obtain rfl : j = n := by omega
      have hln := H.out.2.2.2.2
      rw [List.take_of_length_le (by omega), List.drop_of_length_le (by omega), List.append_nil] at I
      rw [List.take_of_length_le (by omega)] at hkk
      have HI := Lib.hid (And.intro I (And.intro C hkk))
      clear I C hkk hj hln
      go_wp2_with fail
      go_ret
      obtain ⟨I, C, hkk⟩ := HI.out
      exact ⟨by rw [← hkk]; rfl, I, C⟩

end Go.Proofs.Ytmbhaoiahlbglaa

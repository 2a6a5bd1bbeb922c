/- Walks: the text of a recipe, as the reference writes it. -/
import Derived.Test.YtmbhaoiahlbglaaDoorRTa
namespace Go.Proofs.YtmbhaoiahlbglaaDoor
open Go.RowKit
set_option linter.unusedVariables false
set_option linter.unusedSimpArgs false

section
variable {P : Program} {Q : Exit → Act → World → Prop} {o : Oper} {a : Act} {w : World} {F : Value → World → Prop}
theorem st_fldC {t : TypeId} {x : Operand} {i : Nat} (ho : o.op = .fieldAddr t x i) {fs : Array Field} (hu : P.underlying t = some (.struct fs)) {f : Field} (hf : fs[i]? = some f) {g off : Nat} (hx : a.eval x = .pointer (some ⟨g, off, none⟩)) (k : Nat) (hk : f.offset = k) (hs : (P.info? f.type).map (fun i => decide (i.size = 0)) = some false)
    (hF : F (.pointer (some ⟨g, off + k, none⟩)) w) : St P o a w Q F := by
  refine st_run (v := .pointer (some ⟨g, off + k, none⟩)) ?_ hF
  unfold execOp
  subst hk
  obtain ⟨i0, hi, hs⟩ := Option.map_eq_some_iff.1 hs
  have hs' : i0.size ≠ 0 := of_decide_eq_false hs
  simp [ho, hx, Instr.fieldAt, Instr.sureAddr, run_underlying hu, hf, Sem.run_bind, fieldPlace, Addr.add_mid, sizeOf, typeInfo, hi, hs']
end

set_option maxHeartbeats 400000 in
set_option maxRecDepth 100000 in
theorem within_c (x lo hi : Int) (w : World) : Ret Tryd.prog 41 #[.int .i64 x, .int .i64 lo, .int .i64 hi] w fun r _ => r = .bool (decide (lo ≤ x) && decide (x ≤ hi)) := by
  refine ret_start fun wx M => ?_
  by_cases h1 : lo ≤ x
  · go_enter Tryd.func41, Tryd.ntmps41
    go_wp2_with fail
    go_ret
    exact ⟨_, rfl, by first | (simp [h1]; done) | (simp [h1]; intro; omega), M.up⟩
  · go_enter Tryd.func41, Tryd.ntmps41
    go_wp2_with fail
    go_ret
    exact ⟨_, rfl, by first | (simp [h1]; done) | (simp [h1]; intro; omega), M.up⟩
theorem within_is (x lo hi : Int) (b : Bool) (h : (decide (lo ≤ x) && decide (x ≤ hi)) = b) (w : World) : Ret Tryd.prog 41 #[.int .i64 x, .int .i64 lo, .int .i64 hi] w fun r _ => r = .bool b := h ▸ within_c x lo hi w
set_option maxHeartbeats 400000 in
set_option maxRecDepth 100000 in
theorem l00In_c (x lo hi : Int) (w : World) : Ret Tryd.prog 25 #[.int .i64 x, .int .i64 lo, .int .i64 hi] w fun r _ => r = .bool (decide (lo ≤ x) && decide (x ≤ hi)) := by
  refine ret_start fun wx M => ?_
  by_cases h1 : lo ≤ x
  · go_enter Tryd.func25, Tryd.ntmps25
    go_wp2_with fail
    go_ret
    exact ⟨_, rfl, by first | (simp [h1]; done) | (simp [h1]; intro; omega), M.up⟩
  · go_enter Tryd.func25, Tryd.ntmps25
    go_wp2_with fail
    go_ret
    exact ⟨_, rfl, by first | (simp [h1]; done) | (simp [h1]; intro; omega), M.up⟩
theorem l00In_is (x lo hi : Int) (b : Bool) (h : (decide (lo ≤ x) && decide (x ≤ hi)) = b) (w : World) : Ret Tryd.prog 25 #[.int .i64 x, .int .i64 lo, .int .i64 hi] w fun r _ => r = .bool b := h ▸ l00In_c x lo hi w

def lenOk (p : Pc) : Bool := decide (0 ≤ p.2) && decide (p.2 ≤ 4096)
def lnP (p : Pc) : List UInt8 := hexL p.1.1 64 ++ [32] ++ Lib.decDigits p.2.toNat ++ [10]
def recL (ps : List Pc) : List UInt8 := ps.flatMap lnP
theorem recL_succ (ps : List Pc) (j : Nat) (h : j < ps.length) : recL (ps.take (j + 1)) = recL (ps.take j) ++ lnP (ps[j]'h) := by
  rw [List.take_succ_eq_append_getElem h]
  simp only [recL, List.flatMap_append, List.flatMap_cons, List.flatMap_nil, List.append_nil]
theorem dec4 (n : Nat) (h : n ≤ 4096) : (Lib.decDigits n).length ≤ 4 := by
  rw [Lib.decDigits]
  split
  · simp
  · rw [Lib.decDigits]
    split
    · simp
    · rw [Lib.decDigits]
      split
      · simp
      · rw [Lib.decDigits]
        split
        · simp
        · omega
theorem lnP_len (p : Pc) (h : lenOk p = true) : (lnP p).length ≤ 70 := by
  simp only [lenOk, Bool.and_eq_true, decide_eq_true_eq] at h
  have := dec4 p.2.toNat (by omega)
  simp only [lnP, List.length_append, hexL_length, List.length_cons, List.length_nil]
  omega
theorem recL_len (ps : List Pc) (h : ps.all lenOk = true) : (recL ps).length ≤ 70 * ps.length := by
  induction ps with
  | nil => simp [recL]
  | cons p ps ih =>
    simp only [List.all_cons, Bool.and_eq_true] at h
    have h1 := lnP_len p h.1
    have h2 := ih h.2
    simp only [recL, List.flatMap_cons, List.length_append, List.length_cons] at h2 ⊢
    omega
/-- What RecipeText gives. -/
def rtT (ps : List Pc) : ByteArray × Int := if 256 < ps.length then (tx [], 3) else if ps.all lenOk = true then (tx (recL ps), 0) else (tx [], 2)

set_option maxHeartbeats 4000000 in
set_option maxRecDepth 100000 in
theorem specRT_c (v : Value) (n : Nat) (ps : List Pc) (hps : ps.length = n) (w : World) (hv : Rd w 33 v n (piL ps)) : Ret Tryd.prog 11 #[v] w fun r _ => r = .tuple #[.string (rtT ps).1, .int .i64 (rtT ps).2] := by
  obtain ⟨b, cap, rfl⟩ := hv.shape
  have hml : n ≤ maxLen := by have := hv.len_; omega
  have hmm : maxLen ≤ 9223372036854775807 := by decide
  have hml' : n ≤ 9223372036854775807 := by omega
  have HV := Lib.hid hv
  have HK := Lib.hid hps
  clear hv hmm
  refine ret_start fun wx M => ?_
  by_cases hbig : 256 < n
  · have HE := Lib.hid (show rtT ps = (tx [], 3) by rw [rtT, if_pos (by omega)])
    clear hps
    go_enter Tryd.func11, Tryd.ntmps11
    go_wp2_with (first
      | (with_reducible (show wpList _ _ _ (Oper.mk _ (.load _ _) _ _ _ _ :: _) _ _); (first | (refine m_load M rfl rfl rfl (by first | assumption | rfl) ?_) | (refine m_loadR M rfl rfl rfl (by first | rfl | assumption | (simp; done) | (simp; omega)) ?_))))
    go_ret2
    exact ⟨_, rfl, by rw [HE.out]; rfl, M.up⟩
  have HE1 := Lib.hid (show ps.all lenOk = true → rtT ps = (tx (recL ps), 0) from fun h => by rw [rtT, if_neg (by omega), if_pos h])
  have HE0 := Lib.hid (show ∀ j (h : j < ps.length), lenOk (ps[j]'h) = false → rtT ps = (tx [], 2) from fun j h hj => by
    rw [rtT, if_neg (by omega), if_neg]
    intro h'
    rw [List.all_eq_true.1 h' _ (List.getElem_mem h)] at hj
    cases hj)
  clear hps
  go_enter Tryd.func11, Tryd.ntmps11
  go_wp2_with (first
    | (with_reducible (show wpList _ _ _ (Oper.mk _ (.load _ _) _ _ _ _ :: _) _ _); (first | (refine m_load M rfl rfl rfl (by first | assumption | rfl) ?_) | (refine m_loadR M rfl rfl rfl (by first | rfl | assumption | (simp; done) | (simp; omega)) ?_))))
  go_loopg [4, 5] n (fun q t i wr => ∃ j : Nat, j + q = n ∧ t = .string (tx (recL (ps.take j))) ∧ i = .int .i64 (j : Int) ∧ Hid ((ps.take j).all lenOk = true) ∧ Mem w wr [])
  case atStart => exact ⟨0, by omega, rfl, rfl, Lib.hid rfl, M⟩
  case round =>
    obtain ⟨j, hj, rfl, rfl, HA, M⟩ := hrel
    by_cases hlt : j < n
    · obtain ⟨g, o, rfl, hr⟩ := HV.out.open_ (by omega)
      have hjl : j < ps.length := by rw [HK.out]; exact hlt
      have CR := Lib.hid (fun wx (hb : Up w wx) => piL_range (hr wx hb) j hjl)
      have HSU := Lib.hid (recL_succ ps j hjl)
      have hln := recL_len _ HA.out
      rw [List.length_take] at hln
      have HN := Lib.hid (show lenOk (ps[j]'hjl) = true → (ps.take (j + 1)).all lenOk = true from fun h => by
        rw [List.take_succ_eq_append_getElem hjl, List.all_append, HA.out]
        simpa using h)
      have HE0 := Lib.hid (HE0.out j hjl)
      have HJ := Lib.hid hj
      generalize (ps[j]'hjl) = p at *
      obtain ⟨k, l⟩ := p
      have CK := Lib.hid (fun wx (hb : Up w wx) => show wx.rangeAt g (o + j * 33) (bL k.1) from fun i u hu => CR.out wx hb i u (by
        rw [bP, List.getElem?_append_left (List.getElem?_eq_some_iff.1 hu).1]; exact hu))
      have CL := Lib.hid (fun wx (hb : Up w wx) => show wx.cell? ⟨g, o + j * 33 + 32, none⟩ = some (.int .i64 l) from CR.out wx hb 32 _ (by rw [bP, List.getElem?_append_right (by simp [bL_length])]; simp [bL_length]))
      clear hr hj HA CR
      obtain ⟨T, hT⟩ : ∃ T, recL (ps.take j) = T := ⟨_, rfl⟩
      have hTl : T.length ≤ 70 * j := by rw [← hT]; omega
      rw [hT] at HSU
      clear hln
      rw [hT]
      clear hT
      obtain ⟨c, hc⟩ : ∃ c, (decide (0 ≤ l) && decide (l ≤ 4096)) = c := ⟨_, rfl⟩
      have HI := Lib.hid (l00In_is l 0 4096 c hc)
      cases c with
      | false =>
        have HE := Lib.hid (HE0.out hc)
        clear hc HE0 HN HSU
        go_wp2_with (first
          | (with_reducible (show wpList _ _ _ (Oper.mk _ (.indexAddr _ _ _) _ _ _ _ :: _) _ _); refine m_ix rfl rfl rfl j (by first | rfl | (refine congrArg (Value.int .i64) ?_; omega)) hlt ?_)
          | (with_reducible (show wpList _ _ _ (Oper.mk _ (.load _ _) _ _ _ _ :: _) _ _); refine m_st rfl (st_load1 rfl rfl (CL.out _ M.up) ⟨rfl, rfl⟩) ?_)
          | (go_at_call 25; (with_reducible refine mem_call M (HI.out _) ?_); clear M; (try clear wx); rintro _ wx rfl _ M)
          | (with_reducible (show wpList _ _ _ (Oper.mk _ (.load _ _) _ _ _ _ :: _) _ _); (first | (refine m_load M rfl rfl rfl (by first | assumption | rfl) ?_) | (refine m_loadR M rfl rfl rfl (by first | rfl | assumption | (simp; done) | (simp; omega)) ?_))))
        go_ret2
        exact ⟨_, rfl, by rw [HE.out]; rfl, M.up⟩
      | true =>
        have HN2 := Lib.hid (HN.out hc)
        rw [Bool.and_eq_true, decide_eq_true_eq, decide_eq_true_eq] at hc
        obtain ⟨l, rfl⟩ : ∃ m : Nat, l = (m : Int) := ⟨l.toNat, by omega⟩
        have hl4 : l ≤ 4096 := by omega
        have HD := Lib.hid (decimal_c l (by omega))
        have hd4 := dec4 l hl4
        have HSU2 := Lib.hid (show recL (ps.take (j + 1)) = T ++ (hexL k.1 64 ++ [32] ++ Lib.decDigits l ++ [10]) by rw [HSU.out]; rfl)
        have hx4 := hexL_length k.1 64
        have HKT := Lib.hid (show ∀ w, Ret Tryd.prog 26 #[.agg (bA k.1)] w fun r _ => r = .string (tx (hexL k.1 64)) from fun w => Ret.of (l01Text_c k.1 k.2 w))
        clear hc HE0 HN HSU
        have hk32 := k.2
        generalize hexL k.1 64 = H at *
        generalize Lib.decDigits l = D at *
        go_wp2_with (first
          | (with_reducible (show wpList _ _ _ (Oper.mk _ (.indexAddr _ _ _) _ _ _ _ :: _) _ _); refine m_ix rfl rfl rfl j (by first | rfl | (refine congrArg (Value.int .i64) ?_; omega)) hlt ?_)
          | (with_reducible (show wpList _ _ _ (Oper.mk _ (.load _ _) _ _ _ _ :: _) _ _); refine m_st rfl (st_load1 rfl rfl (CL.out _ M.up) ⟨rfl, rfl⟩) ?_)
          | (go_at_call 25; (with_reducible refine mem_call M (HI.out _) ?_); clear M; (try clear wx); rintro _ wx rfl _ M)
          | (with_reducible (show wpList _ _ _ (Oper.mk _ (.load _ _) _ _ _ _ :: _) _ _); (first | (refine m_load M rfl rfl rfl (by first | assumption | rfl) ?_) | (refine m_loadR M rfl rfl rfl (by first | rfl | assumption | (simp; done) | (simp; omega)) ?_))))
        refine region_mono (m := 17) mixedOrders_ (by kernel_rfl) (by kernel_rfl)
          (fun | 0 => fun vq _ => vq = .string (tx T) | 1 => fun vq _ => vq = .slice (some ⟨g, o, none⟩) n cap | 2 => fun vq _ => vq = .int .i64 (j : Int) | 3 => fun vq _ => vq = .pointer (some ⟨g, o + j * 33, none⟩) | 4 => fun vq _ => vq = .pointer (some ⟨g, o + j * 33, none⟩) | 5 => fun vq _ => vq = .agg (bA (k.1)) | 6 => fun vq _ => vq = .string (tx H) | 7 => fun vq _ => vq = .string (tx (H ++ [32])) | 8 => fun vq _ => vq = .slice (some ⟨g, o, none⟩) n cap | 9 => fun vq _ => vq = .int .i64 (j : Int) | 10 => fun vq _ => vq = .pointer (some ⟨g, o + j * 33, none⟩) | 11 => fun vq _ => vq = .pointer (some ⟨g, o + j * 33 + 32, none⟩) | 12 => fun vq _ => vq = .int .i64 (l : Int) | 13 => fun vq _ => vq = .string (tx D) | 14 => fun vq _ => vq = .string (tx (H ++ [32] ++ D)) | 15 => fun vq _ => vq = .string (tx (H ++ [32] ++ D ++ [10])) | 16 => fun vq _ => vq = .string (tx (T ++ (H ++ [32] ++ D ++ [10]))) | _ => fun _ _ => True)
          (fun wx => Mem w wx []) ?_ ?_ ?_ ?_ ?_
        · intro j hj v w1 w2 hb h
          match j, hj with
          | 0, _ => exact h
          | 1, _ => exact h
          | 2, _ => exact h
          | 3, _ => exact h
          | 4, _ => exact h
          | 5, _ => exact h
          | 6, _ => exact h
          | 7, _ => exact h
          | 8, _ => exact h
          | 9, _ => exact h
          | 10, _ => exact h
          | 11, _ => exact h
          | 12, _ => exact h
          | 13, _ => exact h
          | 14, _ => exact h
          | 15, _ => exact h
          | 16, _ => exact h
          | n + 17, h' => exact absurd h' (by omega)
        · intro w1 w2 hb h
          exact h.grow hb
        · exact M.grow ((Up.refl _).drew)
        · rintro i o hi ho av wv fr gM dep
          match i, hi with
          | 0, _ =>
            obtain rfl := Option.some.inj ho
            exact st_mov rfl (fr.eval rfl) rfl
          | 1, _ =>
            obtain rfl := Option.some.inj ho
            exact st_mov rfl (fr.eval rfl) rfl
          | 2, _ =>
            obtain rfl := Option.some.inj ho
            exact st_mov rfl (fr.eval rfl) rfl
          | 3, _ =>
            obtain rfl := Option.some.inj ho
            exact st_indexAddr rfl (dep ⟨1, .data⟩ (by simp) rfl) (dep ⟨2, .data⟩ (by simp) rfl) (ix_slice _ _ _ _ _ hlt _) rfl
          | 4, _ =>
            obtain rfl := Option.some.inj ho
            exact st_fldC rfl Tryd.underlying43 rfl (dep ⟨3, .data⟩ (by simp) rfl) 0 rfl (by kernel_rfl) rfl
          | 5, _ =>
            obtain rfl := Option.some.inj ho
            exact st_loadA rfl (dep ⟨4, .data⟩ (by simp) rfl) (CK.out _ gM.up) hk32 rfl
          | 6, _ =>
            obtain rfl := Option.some.inj ho
            have d0 := dep ⟨5, .data⟩ (by simp) rfl
            exact st_ret1 rfl (fun _ _ => by kernel_rfl) d0 (HKT.out _) (fun r w' h _ => h)
          | 7, _ =>
            obtain rfl := Option.some.inj ho
            exact st_bin rfl (dep ⟨6, .data⟩ (by simp) rfl) (rfl) (bin_addS _ _ _ (tx_app H [32]) (by rw [tx_size]; have : (tx [32]).size = 1 := rfl; omega) _ _ _) rfl
          | 8, _ =>
            obtain rfl := Option.some.inj ho
            exact st_mov rfl (fr.eval rfl) rfl
          | 9, _ =>
            obtain rfl := Option.some.inj ho
            exact st_mov rfl (fr.eval rfl) rfl
          | 10, _ =>
            obtain rfl := Option.some.inj ho
            exact st_indexAddr rfl (dep ⟨8, .data⟩ (by simp) rfl) (dep ⟨9, .data⟩ (by simp) rfl) (ix_slice _ _ _ _ _ hlt _) rfl
          | 11, _ =>
            obtain rfl := Option.some.inj ho
            exact st_fldC rfl Tryd.underlying43 rfl (dep ⟨10, .data⟩ (by simp) rfl) 32 rfl (by kernel_rfl) rfl
          | 12, _ =>
            obtain rfl := Option.some.inj ho
            exact st_load1 rfl (dep ⟨11, .data⟩ (by simp) rfl) (CL.out _ gM.up) rfl
          | 13, _ =>
            obtain rfl := Option.some.inj ho
            have d0 := dep ⟨12, .data⟩ (by simp) rfl
            exact st_ret1 rfl (fun _ _ => by kernel_rfl) d0 (HD.out _) (fun r w' h _ => h)
          | 14, _ =>
            obtain rfl := Option.some.inj ho
            exact st_bin rfl (dep ⟨7, .data⟩ (by simp) rfl) (dep ⟨13, .data⟩ (by simp) rfl) (bin_addS _ _ _ (tx_app _ D) (by rw [tx_size, tx_size]; simp; omega) _ _ _) rfl
          | 15, _ =>
            obtain rfl := Option.some.inj ho
            exact st_bin rfl (dep ⟨14, .data⟩ (by simp) rfl) (rfl) (bin_addS _ _ _ (tx_app _ [10]) (by rw [tx_size]; have : (tx [10]).size = 1 := rfl; simp; omega) _ _ _) rfl
          | 16, _ =>
            obtain rfl := Option.some.inj ho
            exact st_bin rfl (dep ⟨0, .data⟩ (by simp) rfl) (dep ⟨15, .data⟩ (by simp) rfl) (bin_addS _ _ _ (tx_app T _) (by rw [tx_size, tx_size]; simp; omega) _ _ _) rfl
          | n + 17, h' => exact absurd h' (by omega)
        · rintro vs wv gM hf
          have f0 : vs 0 = .string (tx T) := hf 0 (by omega)
          have f1 : vs 1 = .slice (some ⟨g, o, none⟩) n cap := hf 1 (by omega)
          have f2 : vs 2 = .int .i64 (j : Int) := hf 2 (by omega)
          have f3 : vs 3 = .pointer (some ⟨g, o + j * 33, none⟩) := hf 3 (by omega)
          have f4 : vs 4 = .pointer (some ⟨g, o + j * 33, none⟩) := hf 4 (by omega)
          have f5 : vs 5 = .agg (bA (k.1)) := hf 5 (by omega)
          have f6 : vs 6 = .string (tx H) := hf 6 (by omega)
          have f7 : vs 7 = .string (tx (H ++ [32])) := hf 7 (by omega)
          have f8 : vs 8 = .slice (some ⟨g, o, none⟩) n cap := hf 8 (by omega)
          have f9 : vs 9 = .int .i64 (j : Int) := hf 9 (by omega)
          have f10 : vs 10 = .pointer (some ⟨g, o + j * 33, none⟩) := hf 10 (by omega)
          have f11 : vs 11 = .pointer (some ⟨g, o + j * 33 + 32, none⟩) := hf 11 (by omega)
          have f12 : vs 12 = .int .i64 (l : Int) := hf 12 (by omega)
          have f13 : vs 13 = .string (tx D) := hf 13 (by omega)
          have f14 : vs 14 = .string (tx (H ++ [32] ++ D)) := hf 14 (by omega)
          have f15 : vs 15 = .string (tx (H ++ [32] ++ D ++ [10])) := hf 15 (by omega)
          have f16 : vs 16 = .string (tx (T ++ (H ++ [32] ++ D ++ [10]))) := hf 16 (by omega)
          simp only [putAll, Act.put, List.getElem?_toArray, List.getElem?_cons_zero, List.getElem?_cons_succ, Option.bind_some, List.setIfInBounds_toArray, List.set_cons_zero, List.set_cons_succ, List.drop_succ_cons, List.drop_zero, List.drop_nil, f16]
          clear f0 f1 f2 f3 f4 f5 f6 f7 f8 f9 f10 f11 f12 f13 f14 f15 f16 hf
          have M := gM
          clear gM
          go_wp2_with (first
            | (with_reducible (show wpList _ _ _ (Oper.mk _ (.load _ _) _ _ _ _ :: _) _ _); (first | (refine m_load M rfl rfl rfl (by first | assumption | rfl) ?_) | (refine m_loadR M rfl rfl rfl (by first | rfl | assumption | (simp; done) | (simp; omega)) ?_))))
          have hj := HJ.out
          go_roundg (gk - 1)
          case measure => omega
          case rel => exact ⟨j + 1, by omega, by rw [HSU2.out], by go_num, HN2, M⟩
    · obtain rfl : j = n := by omega
      have hall : ps.take j = ps := List.take_of_length_le (by rw [HK.out]; exact Nat.le_refl _)
      rw [hall] at HA ⊢
      have HE := Lib.hid (HE1.out HA.out)
      have hln := recL_len _ HA.out
      rw [HK.out] at hln
      have hsz : (tx (recL ps)).size ≤ 40000 := by rw [tx_size]; omega
      clear HA HE0 HE1 hj
      generalize tx (recL ps) = T at *
      have hsz' : ((T.size : Nat) : Int) ≤ 40000 := by omega
      have hsz2 : T.data.size ≤ 40000 := hsz
      go_wp2_with (first
        | (with_reducible (show wpList _ _ _ (Oper.mk _ (.load _ _) _ _ _ _ :: _) _ _); (first | (refine m_load M rfl rfl rfl (by first | assumption | rfl) ?_) | (refine m_loadR M rfl rfl rfl (by first | rfl | assumption | (simp; done) | (simp; omega)) ?_))))
      go_ret2
      exact ⟨_, rfl, by rw [HE.out]; rfl, M.up⟩

end Go.Proofs.YtmbhaoiahlbglaaDoor

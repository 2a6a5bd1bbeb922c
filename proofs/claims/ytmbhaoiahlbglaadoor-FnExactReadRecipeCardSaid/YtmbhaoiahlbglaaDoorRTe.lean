/- Walks: the text of a recipe, as the program writes it. -/
import Derived.Test.YtmbhaoiahlbglaaDoorRTd
namespace Go.Proofs.YtmbhaoiahlbglaaDoor
open Go.RowKit
set_option linter.unusedVariables false
set_option linter.unusedSimpArgs false

instance : RowT Tryd.prog 74 2 := ⟨⟨_, Tryd.underlying74, rfl, by kernel_rfl⟩⟩
instance : ZeroT Tryd.prog 74 #[.pointer none, .slice none 0 0] := ⟨⟨.agg #[.pointer none, .slice none 0 0], fun w => by kernel_rfl, rfl⟩⟩
instance : ZeroB Tryd.prog 74 #[.pointer none, .slice none 0 0] := ⟨by kernel_rfl⟩
theorem builder_new {w0 w : World} {L : List It} {g T e : Nat} (M : Mem w0 w (.blk g T #[.pointer none, .slice none 0 0] :: L)) : Lib.IsBuilder T e w0.heap.size g (Lib.byteCells []) w :=
  .inl ⟨(M.at_ (p := 0) rfl).1, .slice none 0 0, (M.at_ (p := 0) rfl).2, ⟨rfl, .inl ⟨rfl, rfl⟩⟩, by simp [Value.ownBlock]⟩
theorem byteCells_app (a b : List UInt8) : Lib.byteCells a ++ Lib.byteCells b = Lib.byteCells (a ++ b) := by simp [Lib.byteCells]

set_option maxHeartbeats 4000000 in
set_option maxRecDepth 100000 in
theorem recipeText_c (v : Value) (n : Nat) (ps : List Pc) (hps : ps.length = n) (hn : n ≤ 256) (hall : ps.all lenOk = true) (w : World) (hv : Rd w 33 v n (piL ps)) (ht : TabHas w) : Ret Tryd.prog 23 #[v] w fun r _ => r = .string (tx (recL ps)) := by
  obtain ⟨b, cap, rfl⟩ := hv.shape
  have HV := Lib.hid hv
  have HK := Lib.hid hps
  have HT := Lib.hid ht
  have HALL := Lib.hid hall
  refine ret_start fun wx M => ?_
  clear hv hps ht hall
  go_enter Tryd.func23, Tryd.ntmps23
  go_wp2_with (first
    | (with_reducible (show wpList _ _ _ (Oper.mk (some 3) (.alloc _) _ _ _ _ :: _) _ _); refine mem_new M rfl rfl ?_; clear M; (try clear wx); intro g3 wx M)
    | (with_reducible (show wpList _ _ _ (Oper.mk (some 5) (.alloc _) _ _ _ _ :: _) _ _); refine mem_new M rfl rfl ?_; clear M; (try clear wx); intro g5 wx M)
    | (with_reducible (show wpList _ _ _ (Oper.mk _ (.load _ _) _ _ _ _ :: _) _ _); (first | (refine m_load M rfl rfl rfl (by first | assumption | rfl) ?_) | (refine m_loadR M rfl rfl rfl (by first | rfl | assumption | (simp; done) | (simp; omega)) ?_)))
    | (with_reducible (show wpList _ _ _ (Oper.mk _ (.store _ _ _) _ _ _ _ :: _) _ _); (first | (refine m_storeR M rfl rfl rfl rfl (by first | rfl | assumption | (simp; done) | (simp; omega)) (by first | rfl | assumption | (simp; done) | (simp; omega)) (by simp [Value.oneCell']) ?_) | (refine m_store (v := Value.int _ _) M rfl rfl rfl rfl rfl (by first | assumption | (simp; done) | (simp; omega)) ?_) | (refine m_store (v := Value.slice _ _ _) M rfl rfl rfl rfl rfl (by first | assumption | (simp; done) | (simp; omega)) ?_) | (refine m_store (v := Value.bool _) M rfl rfl rfl rfl rfl (by first | assumption | (simp; done) | (simp; omega)) ?_) | (refine m_store (v := Value.string _) M rfl rfl rfl rfl rfl (by first | assumption | (simp; done) | (simp; omega)) ?_) | (refine m_store (v := Value.pointer _) M rfl rfl rfl rfl rfl (by first | assumption | (simp; done) | (simp; omega)) ?_)); clear M; (try clear wx); intro wx M; simp only [List.set_cons_zero, List.set_cons_succ, Nat.zero_add, List.nil_append] at M)
    | (with_reducible (show wpList _ _ _ (Oper.mk _ (.build _ _) _ _ _ _ :: _) _ _); refine m_buildZ rfl rfl ?_))
  have HB0 := Lib.hid (builder_new (e := 5) M)
  have HU0 := Lib.hid M.up
  go_loopg [9] n (fun q i wr => ∃ j : Nat, j + q = n ∧ i = .int .i64 (j : Int) ∧ Hid (Up w wr ∧ Lib.IsBuilder 74 5 w.heap.size g3 (Lib.byteCells (recL (ps.take j))) wr))
  case atStart => exact ⟨0, by omega, rfl, Lib.hid ⟨HU0.out, HB0.out⟩⟩
  case round =>
    obtain ⟨j, hj, rfl, HI⟩ := hrel
    clear HB0 HU0 M
    have HU := Lib.hid HI.out.1
    have HB := Lib.hid HI.out.2
    clear HI
    by_cases hlt : j < n
    · obtain ⟨g, o, rfl, hr⟩ := HV.out.open_ (by omega)
      have hjl : j < ps.length := by rw [HK.out]; exact hlt
      have CR := Lib.hid (fun wx (hb : Up wr wx) => piL_range (hr wx (HU.out.trans hb)) j hjl)
      have HSU := Lib.hid (recL_succ ps j hjl)
      have hok := List.all_eq_true.1 HALL.out _ (List.getElem_mem hjl)
      have hln := recL_len (ps.take j) (by
        rw [List.all_eq_true]
        intro a ha
        exact List.all_eq_true.1 HALL.out _ (List.mem_of_mem_take ha))
      rw [List.length_take] at hln
      have HJ := Lib.hid hj
      generalize (ps[j]'hjl) = p at *
      obtain ⟨k, l⟩ := p
      simp only [lenOk, Bool.and_eq_true, decide_eq_true_eq] at hok
      obtain ⟨l, rfl⟩ : ∃ m : Nat, l = (m : Int) := ⟨l.toNat, by omega⟩
      have hl4 : l ≤ 4096 := by omega
      have hd4 := dec4 l hl4
      have HF := Lib.hid (fun w' (h : Up w w') => formatInt_c l (by omega) w w' HT.out h)
      have hx4 := hexL_length k.1 64
      have HKT := Lib.hid (show ∀ w, Ret Tryd.prog 43 #[.agg (bA k.1)] w fun r _ => r = .string (tx (hexL k.1 64)) from fun w => Ret.of (implKeyText_c k.1 k.2 w))
      have HSU2 := Lib.hid (show recL (ps.take (j + 1)) = recL (ps.take j) ++ (hexL k.1 64 ++ [32] ++ Lib.decDigits l ++ [10]) by rw [HSU.out]; rfl)
      have hpz := pie_size k.1 k.2 (l : Int)
      have HPO := Lib.hid (pie_one (k, (l : Int)))
      have H32 : (pieC k.1 (l : Int))[32]? = some (.int .i64 (l : Int)) := by simp [pieC, bL_length, k.2]
      have hk32 := k.2
      have hTl : (recL (ps.take j)).length ≤ 17920 := by omega
      clear hr hj hok hln HSU
      generalize hexL k.1 64 = H at *
      generalize Lib.decDigits l = D at *
      generalize recL (ps.take j) = T at *
      have M := Mem.start wr
      go_wp2_with (first
        | (with_reducible (show wpList _ _ _ (Oper.mk _ (.indexAddr _ _ _) _ _ _ _ :: _) _ _); refine m_ix rfl rfl rfl j (by first | rfl | (refine congrArg (Value.int .i64) ?_; omega)) hlt ?_)
        | (with_reducible (show wpList _ _ _ (Oper.mk (some 3) (.alloc _) _ _ _ _ :: _) _ _); refine mem_new M rfl rfl ?_; clear M; (try clear wx); intro g3 wx M)
        | (with_reducible (show wpList _ _ _ (Oper.mk (some 5) (.alloc _) _ _ _ _ :: _) _ _); refine mem_new M rfl rfl ?_; clear M; (try clear wx); intro g5 wx M)
        | (with_reducible (show wpList _ _ _ (Oper.mk _ (.load _ _) _ _ _ _ :: _) _ _); (first | (refine rd_loadPi rfl rfl rfl (CR.out _ M.up) ?_) | (refine m_load M rfl rfl rfl (by first | assumption | rfl) ?_) | (refine m_loadR M rfl rfl rfl (by first | exact hpz | exact pie_size _ rfl _ | (simp; done)) ?_)))
        | (with_reducible (show wpList _ _ _ (Oper.mk _ (.store _ _ _) _ _ _ _ :: _) _ _); (first | (refine m_storeR M rfl rfl rfl rfl (by first | exact hpz | exact pie_size _ rfl _ | (simp; done)) (by first | exact hpz | exact pie_size _ rfl _ | (simp; done)) HPO.out ?_) | (refine m_store (v := Value.int _ _) M rfl rfl rfl rfl rfl (by first | assumption | (simp; done) | (simp; omega)) ?_) | (refine m_store (v := Value.slice _ _ _) M rfl rfl rfl rfl rfl (by first | assumption | (simp; done) | (simp; omega)) ?_) | (refine m_store (v := Value.bool _) M rfl rfl rfl rfl rfl (by first | assumption | (simp; done) | (simp; omega)) ?_) | (refine m_store (v := Value.string _) M rfl rfl rfl rfl rfl (by first | assumption | (simp; done) | (simp; omega)) ?_) | (refine m_store (v := Value.pointer _) M rfl rfl rfl rfl rfl (by first | assumption | (simp; done) | (simp; omega)) ?_)); clear M; (try clear wx); intro wx M; simp only [List.set_cons_zero, List.set_cons_succ, Nat.zero_add, List.nil_append] at M)
        | (with_reducible (show wpList _ _ _ (Oper.mk _ (.build _ _) _ _ _ _ :: _) _ _); refine m_buildZ rfl rfl ?_))
      refine region_mono (m := 9) mixedOrders_ (by kernel_rfl) (by kernel_rfl)
        (fun | 0 => fun vq _ => vq = .pointer (some ⟨g5, 0, none⟩) | 1 => fun vq _ => vq = .agg (bA k.1) | 2 => fun vq _ => vq = .string (tx H) | 3 => fun vq _ => vq = .string (tx (H ++ [32])) | 4 => fun vq _ => vq = .pointer (some ⟨g5, 32, none⟩) | 5 => fun vq _ => vq = .int .i64 (l : Int) | 6 => fun vq _ => vq = .string (tx D) | 7 => fun vq _ => vq = .string (tx (H ++ [32] ++ D)) | 8 => fun vq _ => vq = .string (tx (H ++ [32] ++ D ++ [10])) | _ => fun _ _ => True)
        (fun wx => Mem wr wx [.blk g5 43 (pieC k.1 (l : Int))]) ?_ ?_ ?_ ?_ ?_
      · intro j hj v w1 w2 hb h
        match j, hj with
        | 0, _ => exact h
        | 1, _ => exact h
        | 2, _ => exact h
        | 3, _ => exact h
        | 4, _ => exact h
        | 5, _ => exact h
        | 6, _ => exact h
        | 7, _ => exact h
        | 8, _ => exact h
      · intro w1 w2 hb h
        exact h.grow hb
      · exact M.grow ((Up.refl _).drew)
      · rintro i o hi ho av wv fr gM dep
        match i, hi with
        | 0, _ =>
          obtain rfl := Option.some.inj ho
          exact st_fldC rfl Tryd.underlying43 rfl (fr.eval rfl) 0 rfl (by kernel_rfl) rfl
        | 1, _ =>
          obtain rfl := Option.some.inj ho
          exact st_loadPG gM rfl (dep ⟨0, .data⟩ (by simp) rfl) (xs := bL k.1) (pie_get0 k.1 l) (by rw [bL_length, hk32]) rfl
        | 2, _ =>
          obtain rfl := Option.some.inj ho
          have d0 := dep ⟨1, .data⟩ (by simp) rfl
          exact st_ret1 rfl (fun _ _ => by kernel_rfl) d0 (HKT.out _) (fun r w' h _ => h)
        | 3, _ =>
          obtain rfl := Option.some.inj ho
          exact st_bin rfl (dep ⟨2, .data⟩ (by simp) rfl) (rfl) (bin_addS _ _ _ (tx_app H [32]) (by rw [tx_size]; have : (tx [32]).size = 1 := rfl; omega) _ _ _) rfl
        | 4, _ =>
          obtain rfl := Option.some.inj ho
          exact st_fldC rfl Tryd.underlying43 rfl (fr.eval rfl) 32 rfl (by kernel_rfl) rfl
        | 5, _ =>
          obtain rfl := Option.some.inj ho
          exact st_load1G gM rfl (dep ⟨4, .data⟩ (by simp) rfl) (H32) rfl
        | 6, _ =>
          obtain rfl := Option.some.inj ho
          have d0 := dep ⟨5, .data⟩ (by simp) rfl
          exact st_ret2 rfl (fun _ _ => by kernel_rfl) d0 (rfl) (HF.out _ (HU.out.trans gM.up)) (fun r w' h _ => h)
        | 7, _ =>
          obtain rfl := Option.some.inj ho
          exact st_bin rfl (dep ⟨3, .data⟩ (by simp) rfl) (dep ⟨6, .data⟩ (by simp) rfl) (bin_addS _ _ _ (tx_app _ D) (by rw [tx_size, tx_size]; simp; omega) _ _ _) rfl
        | 8, _ =>
          obtain rfl := Option.some.inj ho
          exact st_bin rfl (dep ⟨7, .data⟩ (by simp) rfl) (rfl) (bin_addS _ _ _ (tx_app _ [10]) (by rw [tx_size]; have : (tx [10]).size = 1 := rfl; simp; omega) _ _ _) rfl
      · rintro vs wv gM hf
        have f0 : vs 0 = .pointer (some ⟨g5, 0, none⟩) := hf 0 (by omega)
        have f1 : vs 1 = .agg (bA k.1) := hf 1 (by omega)
        have f2 : vs 2 = .string (tx H) := hf 2 (by omega)
        have f3 : vs 3 = .string (tx (H ++ [32])) := hf 3 (by omega)
        have f4 : vs 4 = .pointer (some ⟨g5, 32, none⟩) := hf 4 (by omega)
        have f5 : vs 5 = .int .i64 (l : Int) := hf 5 (by omega)
        have f6 : vs 6 = .string (tx D) := hf 6 (by omega)
        have f7 : vs 7 = .string (tx (H ++ [32] ++ D)) := hf 7 (by omega)
        have f8 : vs 8 = .string (tx (H ++ [32] ++ D ++ [10])) := hf 8 (by omega)
        simp only [putAll, Act.put, List.getElem?_toArray, List.getElem?_cons_zero, List.getElem?_cons_succ, Option.bind_some, List.setIfInBounds_toArray, List.set_cons_zero, List.set_cons_succ, List.drop_succ_cons, List.drop_zero, List.drop_nil, f8]
        clear f0 f1 f2 f3 f4 f5 f6 f7 f8 hf
        have HW : Hid (∀ wv, Up wr wv → Calls Tryd.prog 42 #[.pointer (some ⟨g3, 0, none⟩), .string (tx (H ++ [32] ++ D ++ [10]))] wv fun e w' => e = .returned (.tuple #[.int .i64 (tx (H ++ [32] ++ D ++ [10])).size, .nilIface]) ∧ Lib.IsBuilder 74 5 w.heap.size g3 (Lib.byteCells (T ++ (H ++ [32] ++ D ++ [10]))) w' ∧ Below w.heap.size wv w') := Lib.hid (fun wv hu => by
          have h := writeString_c w.heap.size g3 _ (tx (H ++ [32] ++ D ++ [10])) wv (builder_up HB.out hu) (by rw [Lib.byteCells_length, tx_size]; simp; omega) (Below.size (HU.out.trans hu))
          rwa [strCells_tx, byteCells_app] at h)
        have hu := Lib.hid gM.up
        clear gM
        generalize H ++ [32] ++ D ++ [10] = X at *
        go_wp2_with (first
          | (go_at_call 42; (with_reducible refine (HW.out _ hu.out).mono ?_); rintro e w3 ⟨rfl, HB3, HU3⟩)
          | (with_reducible (show wpList _ _ _ (Oper.mk (some 3) (.alloc _) _ _ _ _ :: _) _ _); refine mem_new M rfl rfl ?_; clear M; (try clear wx); intro g3 wx M)
          | (with_reducible (show wpList _ _ _ (Oper.mk (some 5) (.alloc _) _ _ _ _ :: _) _ _); refine mem_new M rfl rfl ?_; clear M; (try clear wx); intro g5 wx M)
          | (with_reducible (show wpList _ _ _ (Oper.mk _ (.load _ _) _ _ _ _ :: _) _ _); (first | (refine m_load M rfl rfl rfl (by first | assumption | rfl) ?_) | (refine m_loadR M rfl rfl rfl (by first | rfl | assumption | (simp; done) | (simp; omega)) ?_)))
          | (with_reducible (show wpList _ _ _ (Oper.mk _ (.store _ _ _) _ _ _ _ :: _) _ _); (first | (refine m_storeR M rfl rfl rfl rfl (by first | rfl | assumption | (simp; done) | (simp; omega)) (by first | rfl | assumption | (simp; done) | (simp; omega)) (by first | exact bA_one _ | exact wA_one _ | assumption | (simp [Value.oneCell']; done)) ?_) | (refine m_store (v := Value.int _ _) M rfl rfl rfl rfl rfl (by first | assumption | (simp; done) | (simp; omega)) ?_) | (refine m_store (v := Value.slice _ _ _) M rfl rfl rfl rfl rfl (by first | assumption | (simp; done) | (simp; omega)) ?_) | (refine m_store (v := Value.bool _) M rfl rfl rfl rfl rfl (by first | assumption | (simp; done) | (simp; omega)) ?_) | (refine m_store (v := Value.string _) M rfl rfl rfl rfl rfl (by first | assumption | (simp; done) | (simp; omega)) ?_) | (refine m_store (v := Value.pointer _) M rfl rfl rfl rfl rfl (by first | assumption | (simp; done) | (simp; omega)) ?_)); clear M; (try clear wx); intro wx M; simp only [List.set_cons_zero, List.set_cons_succ, Nat.zero_add, List.nil_append] at M)
          | (with_reducible (show wpList _ _ _ (Oper.mk _ (.build _ _) _ _ _ _ :: _) _ _); refine m_buildZ rfl rfl ?_))
        have hj := HJ.out
        go_roundg (gk - 1)
        case measure => omega
        case rel => exact ⟨j + 1, by omega, by go_num, Lib.hid ⟨(HU.out.trans hu.out).trans' HU3, by rw [HSU2.out]; exact HB3⟩⟩
    · obtain rfl : j = n := by omega
      have hall : ps.take j = ps := List.take_of_length_le (by rw [HK.out]; exact Nat.le_refl _)
      rw [hall] at HB
      obtain ⟨T, hT⟩ : ∃ T, recL ps = T := ⟨_, rfl⟩
      rw [hT] at HB
      have HTT := Lib.hid hT
      clear hT
      have HS := Lib.hid (Tryd.Builder_String_any w.heap.size g3 T wr HB.out (Below.size HU.out))
      clear HB
      go_wp2_with (first
        | (go_at_call 45; (with_reducible refine HS.out.mono ?_); rintro e w3 ⟨rfl, HU3⟩)
        | (with_reducible (show wpList _ _ _ (Oper.mk (some 3) (.alloc _) _ _ _ _ :: _) _ _); refine mem_new M rfl rfl ?_; clear M; (try clear wx); intro g3 wx M)
        | (with_reducible (show wpList _ _ _ (Oper.mk (some 5) (.alloc _) _ _ _ _ :: _) _ _); refine mem_new M rfl rfl ?_; clear M; (try clear wx); intro g5 wx M)
        | (with_reducible (show wpList _ _ _ (Oper.mk _ (.load _ _) _ _ _ _ :: _) _ _); (first | (refine m_load M rfl rfl rfl (by first | assumption | rfl) ?_) | (refine m_loadR M rfl rfl rfl (by first | rfl | assumption | (simp; done) | (simp; omega)) ?_)))
        | (with_reducible (show wpList _ _ _ (Oper.mk _ (.store _ _ _) _ _ _ _ :: _) _ _); (first | (refine m_storeR M rfl rfl rfl rfl (by first | rfl | assumption | (simp; done) | (simp; omega)) (by first | rfl | assumption | (simp; done) | (simp; omega)) (by first | exact bA_one _ | exact wA_one _ | assumption | (simp [Value.oneCell']; done)) ?_) | (refine m_store (v := Value.int _ _) M rfl rfl rfl rfl rfl (by first | assumption | (simp; done) | (simp; omega)) ?_) | (refine m_store (v := Value.slice _ _ _) M rfl rfl rfl rfl rfl (by first | assumption | (simp; done) | (simp; omega)) ?_) | (refine m_store (v := Value.bool _) M rfl rfl rfl rfl rfl (by first | assumption | (simp; done) | (simp; omega)) ?_) | (refine m_store (v := Value.string _) M rfl rfl rfl rfl rfl (by first | assumption | (simp; done) | (simp; omega)) ?_) | (refine m_store (v := Value.pointer _) M rfl rfl rfl rfl rfl (by first | assumption | (simp; done) | (simp; omega)) ?_)); clear M; (try clear wx); intro wx M; simp only [List.set_cons_zero, List.set_cons_succ, Nat.zero_add, List.nil_append] at M)
        | (with_reducible (show wpList _ _ _ (Oper.mk _ (.build _ _) _ _ _ _ :: _) _ _); refine m_buildZ rfl rfl ?_))
      go_ret
      exact ⟨_, rfl, by rw [HTT.out]; rfl, HU.out.trans' HU3⟩

set_option maxHeartbeats 1000000 in
set_option maxRecDepth 100000 in
theorem implRT_c (v : Value) (n : Nat) (ps : List Pc) (hps : ps.length = n) (w : World) (hv : Rd w 33 v n (piL ps)) (ht : TabHas w) : Ret Tryd.prog 13 #[v] w fun r _ => r = .tuple #[.string (rtT ps).1, .int .i64 (rtT ps).2] := by
  obtain ⟨b, cap, rfl⟩ := hv.shape
  have hml : n ≤ maxLen := by have := hv.len_; omega
  have hmm : maxLen ≤ 9223372036854775807 := by decide
  have hml' : n ≤ 9223372036854775807 := by omega
  have HV := Lib.hid hv
  have HT := Lib.hid ht
  have HA := Lib.hid (fun (w : World) (h : Rd w 33 (.slice b n cap) n (piL ps)) => areLengths_c _ n ps hps w h)
  clear hv hmm ht
  refine ret_start fun wx M => ?_
  by_cases hbig : 256 < n
  · have HE := Lib.hid (show rtT ps = (tx [], 3) by rw [rtT, if_pos (by omega)])
    clear hps
    go_enter Tryd.func13, Tryd.ntmps13
    go_wp2_with fail
    go_ret2
    exact ⟨_, rfl, by rw [HE.out]; rfl, M.up⟩
  · cases hall : ps.all lenOk with
    | false =>
      rw [hall] at HA
      have HE := Lib.hid (show rtT ps = (tx [], 2) by rw [rtT, if_neg (by omega), if_neg (by rw [hall]; decide)])
      clear hps hall
      go_enter Tryd.func13, Tryd.ntmps13
      go_wp2_with (first
        | (go_at_call 22; (with_reducible refine mem_call M (HA.out _ (HV.out.up M.up)) ?_); clear M; (try clear wx); rintro _ wx rfl _ M))
      go_ret2
      exact ⟨_, rfl, by rw [HE.out]; rfl, M.up⟩
    | true =>
      have HR := Lib.hid (fun (wx : World) (h : Up w wx) => recipeText_c (.slice b n cap) n ps hps (by omega) hall wx (HV.out.up h) (fun w' h' => HT.out w' (h.trans h')))
      rw [hall] at HA
      have HE := Lib.hid (show rtT ps = (tx (recL ps), 0) by rw [rtT, if_neg (by omega), if_pos hall])
      clear hps hall
      generalize tx (recL ps) = T at *
      go_enter Tryd.func13, Tryd.ntmps13
      go_wp2_with (first
        | (go_at_call 22; (with_reducible refine mem_call M (HA.out _ (HV.out.up M.up)) ?_); clear M; (try clear wx); rintro _ wx rfl _ M)
        | (go_at_call 23; (with_reducible refine mem_call M (HR.out _ M.up) ?_); clear M; (try clear wx); rintro _ wx rfl _ M))
      go_ret2
      exact ⟨_, rfl, by rw [HE.out]; rfl, M.up⟩

end Go.Proofs.YtmbhaoiahlbglaaDoor

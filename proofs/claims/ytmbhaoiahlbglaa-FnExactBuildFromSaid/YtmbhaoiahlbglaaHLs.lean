/- Walks: the reference's sort of keys by distance, each once. -/
import Derived.Test.YtmbhaoiahlbglaaHXo
namespace Go.Proofs.Ytmbhaoiahlbglaa
open Go.RowKit Go.Sort
set_option linter.unusedVariables false
set_option linter.unusedSimpArgs false

theorem take_keys (xs : List Ky) (tl : List Value) (n : Nat) (h : xs.length = n) : (kyL xs ++ tl).toArray.toList.take (n * 32) = kyL xs := by
  have : (kyL xs).length = n * 32 := by rw [kyL_len, h]
  rw [← this]
  simp
theorem bin_lss64 (x y : Int) (c : Bool) (h : decide (x < y) = c) (a b : Operand) (w : World) : Sem.run Try.prog (do eqGuard .lss 2 a b (.int .i64 x) (.int .i64 y); binOp .lss 2 (.int .i64 x) (.int .i64 y)) w = .ok (.bool c) w := by
  subst h
  go_simp
/-- What l01Sort gives. -/
def LsP (p : Ky) (ks : List Ky) (w w' : World) (r : Value) : Prop := ∃ out : List Ky, SetOf (ltOf (cfP p)) ks out ∧ OwnR w w' 25 32 r out.length (kyL out)
set_option maxHeartbeats 8000000 in
set_option maxRecDepth 100000 in
theorem l01Sort_c (v : Value) (n : Nat) (ks : List Ky) (hks : ks.length = n) (p : Ky) (w : World) (hv : Rd w 32 v n (kyL ks)) (hn : n ≤ 1048576) :
    Ret Try.prog 82 #[v, .agg (bA p.1)] w fun r w' => LsP p ks w w' r := by
  obtain ⟨b, cap, rfl⟩ := hv.shape
  have HV := Lib.hid hv
  have HK := Lib.hid hks
  have hp32 := p.2
  refine ret_start fun wx M => ?_
  clear hv hks
  go_enter Try.func82, Try.ntmps82
  go_wp2_with (first
    | (with_reducible (show wpList _ _ _ (Oper.mk (some 3) (.box _ _) _ _ _ _ :: _) _ _); (first | (refine m_boxA M rfl rfl rfl ?_) | (refine m_box1 (v := Value.int _ _) M rfl rfl rfl rfl ?_) | (refine m_box1 (v := Value.slice _ _ _) M rfl rfl rfl rfl ?_) | (refine m_box1 (v := Value.bool _) M rfl rfl rfl rfl ?_) | (refine m_box1 (v := Value.string _) M rfl rfl rfl rfl ?_) | (refine m_box1 (v := Value.pointer _) M rfl rfl rfl rfl ?_)); clear M; (try clear wx); intro g3 wx M)
    | (with_reducible (show wpList _ _ _ (Oper.mk (some 9) (.buildSlice _ _ _) _ _ _ _ :: _) _ _); refine m_lit0 M rfl rfl ?_; clear M; (try clear wx); intro g9 wx M)
    | (with_reducible (show wpList _ _ _ (Oper.mk (some 27) (.buildSlice _ _ _) _ _ _ _ :: _) _ _); (first | (refine m_lit1A M rfl rfl rfl (by first | rfl | assumption | (simp; done) | (simp; omega)) (by decide) ?_) | (refine m_lit11 (v := Value.int _ _) M rfl rfl rfl rfl ?_) | (refine m_lit11 (v := Value.slice _ _ _) M rfl rfl rfl rfl ?_) | (refine m_lit11 (v := Value.bool _) M rfl rfl rfl rfl ?_) | (refine m_lit11 (v := Value.string _) M rfl rfl rfl rfl ?_) | (refine m_lit11 (v := Value.pointer _) M rfl rfl rfl rfl ?_)); clear M; (try clear wx); intro g27 wx M)
    | (with_reducible (show wpList _ _ _ (Oper.mk (some 8) (.alloc _) _ _ _ _ :: _) _ _); refine mem_new M rfl rfl ?_; clear M; (try clear wx); intro g8 wx M)
    | (with_reducible (show wpList _ _ _ (Oper.mk _ (.load _ _) _ _ _ _ :: _) _ _); (first | (refine m_load M rfl rfl rfl (by first | assumption | rfl) ?_) | (refine m_loadR M rfl rfl rfl (by first | rfl | assumption | (simp; done) | (simp; omega)) ?_)))
    | (with_reducible (show wpList _ _ _ (Oper.mk _ (.store _ _ _) _ _ _ _ :: _) _ _); (first | (refine m_storeR M rfl rfl rfl rfl (by first | rfl | assumption | (simp; done) | (simp; omega)) (by first | rfl | assumption | (simp; done) | (simp; omega)) (by first | exact bA_one _ | exact wA_one _ | assumption | (simp [Value.oneCell']; done)) ?_) | (refine m_store (v := Value.int _ _) M rfl rfl rfl rfl rfl (by first | assumption | (simp; done) | (simp; omega)) ?_) | (refine m_store (v := Value.slice _ _ _) M rfl rfl rfl rfl rfl (by first | assumption | (simp; done) | (simp; omega)) ?_) | (refine m_store (v := Value.bool _) M rfl rfl rfl rfl rfl (by first | assumption | (simp; done) | (simp; omega)) ?_) | (refine m_store (v := Value.string _) M rfl rfl rfl rfl rfl (by first | assumption | (simp; done) | (simp; omega)) ?_) | (refine m_store (v := Value.pointer _) M rfl rfl rfl rfl rfl (by first | assumption | (simp; done) | (simp; omega)) ?_)); clear M; (try clear wx); intro wx M; simp only [List.set_cons_zero, List.set_cons_succ, Nat.zero_add, List.nil_append] at M)
    | (with_reducible (show wpList _ _ _ (Oper.mk _ (.call (Call.mk (.builtin .append) _ _)) _ _ _ _ :: _) _ _); (first | (refine m_append1 M rfl rfl rfl (by first | rfl | omega | (simp; done)) rfl (by first | rfl | assumption | (simp; done) | (simp; omega)) (by first | exact bA_one _ | exact wA_one _ | assumption | (simp [Value.oneCell']; done)) (by first | assumption | (simp only [maxLen]; omega)) (by omega) ?_)); clear M; (try clear wx); intro _ _ wx M; simp only [List.set_cons_zero, List.set_cons_succ, Nat.zero_add, List.nil_append] at M))
  go_loopg [5, 6] n (fun r s i wr => ∃ (j m : Nat) (out : List Ky) (b : Option Addr) (cap : Nat), j + r = n ∧ s = .slice b m cap ∧ i = .int .i64 (j : Int) ∧ m ≤ j ∧ Hid (out.length = m ∧ SetOf (ltOf (cfP p)) (ks.take j) out) ∧ Mem w wr [.own b cap 25 32 m (kyL out), .blk g3 25 (bA p.1)])
  case atStart => exact ⟨0, 0, [], _, _, by omega, rfl, rfl, by omega, Lib.hid ⟨rfl, by rw [List.take_zero]; exact SetOf.nil⟩, M⟩
  case round =>
    clear M
    obtain ⟨j, m, out, b, cap, hj, rfl, rfl, hm, HO, M⟩ := hrel
    by_cases hlt : j < n
    · obtain ⟨g, o, rfl, hc⟩ := HV.out.open_ (by omega)
      have hjl : j < ks.length := by rw [HK.out]; exact hlt
      obtain ⟨x, hx⟩ : ∃ x, ks[j]'hjl = x := ⟨_, rfl⟩
      have C1 := Lib.hid (show ∀ wx, Up w wx → wx.rangeAt g (o + j * 32) (bL x.1) from fun wx hb i u hu => by
        rw [Nat.add_assoc]
        exact hc wx hb _ _ (kyL_get ks j hjl i u (by rw [hx]; exact hu)))
      have HTS := Lib.hid (show ks.take (j + 1) = ks.take j ++ [x] by rw [List.take_succ_eq_append_getElem hjl, hx])
      have hx32 := x.2
      have HJ := Lib.hid hj
      clear hc hx hj
      by_cases hxo : x ∈ out
      · have HH := Lib.hid (fun (v : Value) (w : World) (h : Rd w 32 v m (kyL out)) => by have := l01Has_c v m out HO.out.1 x w h (by omega); rw [decide_eq_true hxo] at this; exact this)
        have HA := Lib.hid (HO.out.2.again hxo)
        have HM := Lib.hid HO.out.1
        clear HO hxo
        go_wp2_with (first
          | (go_at_call 89; (with_reducible refine mem_call M (HH.out _ _ (M.rdO (kyL_one _))) ?_); clear M; (try clear wx); rintro _ wx rfl _ M)
          | (with_reducible (show wpList _ _ _ (Oper.mk (some 3) (.box _ _) _ _ _ _ :: _) _ _); (first | (refine m_boxA M rfl rfl rfl ?_) | (refine m_box1 (v := Value.int _ _) M rfl rfl rfl rfl ?_) | (refine m_box1 (v := Value.slice _ _ _) M rfl rfl rfl rfl ?_) | (refine m_box1 (v := Value.bool _) M rfl rfl rfl rfl ?_) | (refine m_box1 (v := Value.string _) M rfl rfl rfl rfl ?_) | (refine m_box1 (v := Value.pointer _) M rfl rfl rfl rfl ?_)); clear M; (try clear wx); intro g3 wx M)
          | (with_reducible (show wpList _ _ _ (Oper.mk (some 9) (.buildSlice _ _ _) _ _ _ _ :: _) _ _); refine m_lit0 M rfl rfl ?_; clear M; (try clear wx); intro g9 wx M)
          | (with_reducible (show wpList _ _ _ (Oper.mk (some 27) (.buildSlice _ _ _) _ _ _ _ :: _) _ _); (first | (refine m_lit1A M rfl rfl rfl (by first | rfl | assumption | (simp; done) | (simp; omega)) (by decide) ?_) | (refine m_lit11 (v := Value.int _ _) M rfl rfl rfl rfl ?_) | (refine m_lit11 (v := Value.slice _ _ _) M rfl rfl rfl rfl ?_) | (refine m_lit11 (v := Value.bool _) M rfl rfl rfl rfl ?_) | (refine m_lit11 (v := Value.string _) M rfl rfl rfl rfl ?_) | (refine m_lit11 (v := Value.pointer _) M rfl rfl rfl rfl ?_)); clear M; (try clear wx); intro g27 wx M)
          | (with_reducible (show wpList _ _ _ (Oper.mk (some 8) (.alloc _) _ _ _ _ :: _) _ _); refine mem_new M rfl rfl ?_; clear M; (try clear wx); intro g8 wx M)
          | (with_reducible (show wpList _ _ _ (Oper.mk _ (.load _ _) _ _ _ _ :: _) _ _); (first | (refine rd_loadA rfl rfl rfl (C1.out _ M.up) hx32 ?_) | (refine m_load M rfl rfl rfl (by first | assumption | rfl) ?_) | (refine m_loadR M rfl rfl rfl (by first | rfl | assumption | (simp; done) | (simp; omega)) ?_)))
          | (with_reducible (show wpList _ _ _ (Oper.mk _ (.store _ _ _) _ _ _ _ :: _) _ _); (first | (refine m_storeR M rfl rfl rfl rfl (by first | rfl | assumption | (simp; done) | (simp; omega)) (by first | rfl | assumption | (simp; done) | (simp; omega)) (by first | exact bA_one _ | exact wA_one _ | assumption | (simp [Value.oneCell']; done)) ?_) | (refine m_store (v := Value.int _ _) M rfl rfl rfl rfl rfl (by first | assumption | (simp; done) | (simp; omega)) ?_) | (refine m_store (v := Value.slice _ _ _) M rfl rfl rfl rfl rfl (by first | assumption | (simp; done) | (simp; omega)) ?_) | (refine m_store (v := Value.bool _) M rfl rfl rfl rfl rfl (by first | assumption | (simp; done) | (simp; omega)) ?_) | (refine m_store (v := Value.string _) M rfl rfl rfl rfl rfl (by first | assumption | (simp; done) | (simp; omega)) ?_) | (refine m_store (v := Value.pointer _) M rfl rfl rfl rfl rfl (by first | assumption | (simp; done) | (simp; omega)) ?_)); clear M; (try clear wx); intro wx M; simp only [List.set_cons_zero, List.set_cons_succ, Nat.zero_add, List.nil_append] at M)
          | (with_reducible (show wpList _ _ _ (Oper.mk _ (.call (Call.mk (.builtin .append) _ _)) _ _ _ _ :: _) _ _); (first | (refine m_append1 M rfl rfl rfl (by first | rfl | omega | (simp; done)) rfl (by first | rfl | assumption | (simp; done) | (simp; omega)) (by first | exact bA_one _ | exact wA_one _ | assumption | (simp [Value.oneCell']; done)) (by first | assumption | (simp only [maxLen]; omega)) (by omega) ?_)); clear M; (try clear wx); intro _ _ wx M; simp only [List.set_cons_zero, List.set_cons_succ, Nat.zero_add, List.nil_append] at M))
        have hj := HJ.out
        go_roundg (gk - 1)
        case measure => omega
        case rel => exact ⟨j + 1, m, out, _, _, by omega, rfl, by go_num, by omega, Lib.hid ⟨HM.out, by rw [HTS.out]; exact HA.out⟩, M⟩
      · have HH := Lib.hid (fun (v : Value) (w : World) (h : Rd w 32 v m (kyL out)) => by have := l01Has_c v m out HO.out.1 x w h (by omega); rw [decide_eq_false hxo] at this; exact this)
        have HI := Lib.hid (Ins.start HO.out.2 hxo)
        have HM := Lib.hid HO.out.1
        clear HO hxo
        go_wp2_with (first
          | (go_at_call 89; (with_reducible refine mem_call M (HH.out _ _ (M.rdO (kyL_one _))) ?_); clear M; (try clear wx); rintro _ wx rfl _ M)
          | (with_reducible (show wpList _ _ _ (Oper.mk _ (.call (Call.mk (.builtin .append) _ _)) _ _ _ _ :: _) _ _); refine m_append1 M rfl rfl rfl (by first | rfl | omega | (simp; done)) rfl (by rw [bA_size, hx32]) (bA_allC _) (by first | assumption | (simp only [maxLen]; omega)) (by omega) ?_; clear M; (try clear wx); intro bz cz wx M; simp only [List.set_cons_zero, List.set_cons_succ, Nat.zero_add, List.nil_append] at M)
          | (with_reducible (show wpList _ _ _ (Oper.mk (some 3) (.box _ _) _ _ _ _ :: _) _ _); (first | (refine m_boxA M rfl rfl rfl ?_) | (refine m_box1 (v := Value.int _ _) M rfl rfl rfl rfl ?_) | (refine m_box1 (v := Value.slice _ _ _) M rfl rfl rfl rfl ?_) | (refine m_box1 (v := Value.bool _) M rfl rfl rfl rfl ?_) | (refine m_box1 (v := Value.string _) M rfl rfl rfl rfl ?_) | (refine m_box1 (v := Value.pointer _) M rfl rfl rfl rfl ?_)); clear M; (try clear wx); intro g3 wx M)
          | (with_reducible (show wpList _ _ _ (Oper.mk (some 9) (.buildSlice _ _ _) _ _ _ _ :: _) _ _); refine m_lit0 M rfl rfl ?_; clear M; (try clear wx); intro g9 wx M)
          | (with_reducible (show wpList _ _ _ (Oper.mk (some 27) (.buildSlice _ _ _) _ _ _ _ :: _) _ _); (first | (refine m_lit1A M rfl rfl rfl (by first | exact hx32 | (rw [bA_size, hx32]) | (simp; done)) (by decide) ?_) | (refine m_lit11 (v := Value.int _ _) M rfl rfl rfl rfl ?_) | (refine m_lit11 (v := Value.slice _ _ _) M rfl rfl rfl rfl ?_) | (refine m_lit11 (v := Value.bool _) M rfl rfl rfl rfl ?_) | (refine m_lit11 (v := Value.string _) M rfl rfl rfl rfl ?_) | (refine m_lit11 (v := Value.pointer _) M rfl rfl rfl rfl ?_)); clear M; (try clear wx); intro g27 wx M)
          | (with_reducible (show wpList _ _ _ (Oper.mk (some 8) (.alloc _) _ _ _ _ :: _) _ _); refine mem_new M rfl rfl ?_; clear M; (try clear wx); intro g8 wx M)
          | (with_reducible (show wpList _ _ _ (Oper.mk _ (.load _ _) _ _ _ _ :: _) _ _); (first | (refine rd_loadA rfl rfl rfl (C1.out _ M.up) hx32 ?_) | (refine m_load M rfl rfl rfl (by first | assumption | rfl) ?_) | (refine m_loadR M rfl rfl rfl (by first | exact hx32 | (rw [bA_size, hx32]) | (simp; done)) ?_)))
          | (with_reducible (show wpList _ _ _ (Oper.mk _ (.store _ _ _) _ _ _ _ :: _) _ _); (first | (refine m_storeR M rfl rfl rfl rfl (by first | exact hx32 | (rw [bA_size, hx32]) | (simp; done)) (by first | exact hx32 | (rw [bA_size, hx32]) | (simp; done)) (bA_allC _) ?_) | (refine m_store (v := Value.int _ _) M rfl rfl rfl rfl rfl (by first | assumption | (simp; done) | (simp; omega)) ?_) | (refine m_store (v := Value.slice _ _ _) M rfl rfl rfl rfl rfl (by first | assumption | (simp; done) | (simp; omega)) ?_) | (refine m_store (v := Value.bool _) M rfl rfl rfl rfl rfl (by first | assumption | (simp; done) | (simp; omega)) ?_) | (refine m_store (v := Value.string _) M rfl rfl rfl rfl rfl (by first | assumption | (simp; done) | (simp; omega)) ?_) | (refine m_store (v := Value.pointer _) M rfl rfl rfl rfl rfl (by first | assumption | (simp; done) | (simp; omega)) ?_)); clear M; (try clear wx); intro wx M; simp only [List.set_cons_zero, List.set_cons_succ, Nat.zero_add, List.nil_append] at M)
          | (with_reducible (show wpList _ _ _ (Oper.mk _ (.call (Call.mk (.builtin .append) _ _)) _ _ _ _ :: _) _ _); (first | (refine m_append1 M rfl rfl rfl (by first | rfl | omega | (simp; done)) rfl (by first | exact hx32 | (rw [bA_size, hx32]) | (simp; done)) (bA_allC _) (by first | assumption | (simp only [maxLen]; omega)) (by omega) ?_)); clear M; (try clear wx); intro _ _ wx M; simp only [List.set_cons_zero, List.set_cons_succ, Nat.zero_add, List.nil_append] at M))
        obtain ⟨g5, tl, rfl, q1, q2, q3, M⟩ := M.own_blk (p := 0) rfl (by omega)
        have M := fun (h : (kyL out ++ (bA x.1).toList ++ tl).toArray = (kyL (out ++ [x]) ++ tl).toArray) => (show Mem w _ [.blk g5 25 (kyL (out ++ [x]) ++ tl).toArray, .blk g3 25 (bA p.1)] from h ▸ M)
        replace M := M (by rw [← kyL_snoc]; rfl)
        have QQ := Lib.hid (And.intro q1 (And.intro q2 q3))
        clear q1 q2 q3
        go_loopg [7] m (fun r i wr => ∃ (a bb : List Ky), a.length = r ∧ i = .int .i64 (r : Int) ∧ Hid (a.length + bb.length = m ∧ Ins (ltOf (cfP p)) (ks.take j) x a bb) ∧ Mem w wr [.blk g5 25 (kyL (a ++ x :: bb) ++ tl).toArray, .blk g3 25 (bA p.1)])
        case atStart => exact ⟨out, [], HM.out, rfl, Lib.hid ⟨by simp [HM.out], HI.out⟩, M⟩
        case round =>
          clear M
          obtain ⟨a, bb, ha, rfl, HIn, M⟩ := hrel
          rcases List.eq_nil_or_concat a with rfl | ⟨a', y, hcat⟩
          · have HD := Lib.hid (HIn.out.2.done (swoP p) (ltP_tot p) (.inl rfl))
            have HLn := Lib.hid (show bb.length = m by have := HIn.out.1; simpa using this)
            obtain rfl : gk = 0 := by simpa using ha.symm
            clear HIn ha
            go_wp2_with fail
            refine region_monoG (m := 19) mixedOrders_ (by kernel_rfl) (by kernel_rfl)
              (fun | 0 => fun vq _ => vq = .int .i64 ((0 : Nat) : Int) | 1 => fun vq _ => vq = .bool false | 2 => fun vq _ => vq = .bool false | 3 => fun vq _ => vq = undef | 4 => fun vq _ => vq = undef | 5 => fun vq _ => vq = undef | 6 => fun vq _ => vq = undef | 7 => fun vq _ => vq = undef | 8 => fun vq _ => vq = undef | 9 => fun vq _ => vq = undef | 10 => fun vq _ => vq = undef | 11 => fun vq _ => vq = undef | 12 => fun vq _ => vq = undef | 13 => fun vq _ => vq = undef | 14 => fun vq _ => vq = undef | 15 => fun vq _ => vq = undef | 16 => fun vq _ => vq = undef | 17 => fun vq _ => vq = undef | 18 => fun vq _ => vq = .bool false | _ => fun _ _ => True)
              (fun wx => Mem w wx [.blk g5 25 (kyL ([] ++ x :: bb) ++ tl).toArray, .blk g3 25 (bA p.1)]) ?_ ?_ ?_ ?_ ?_
            · intro j hj v w1 w2 hb h
              match j, hj with
              | 0, _ => exact h
              | 1, _ => exact h
              | 2, _ => exact h
              | 3, _ => exact h
              | 4, _ => exact h
              | 5, _ => exact h
              | 6, _ => exact h
              | 7, _ => exact h
              | 8, _ => exact h
              | 9, _ => exact h
              | 10, _ => exact h
              | 11, _ => exact h
              | 12, _ => exact h
              | 13, _ => exact h
              | 14, _ => exact h
              | 15, _ => exact h
              | 16, _ => exact h
              | 17, _ => exact h
              | 18, _ => exact h
              | n + 19, h' => exact absurd h' (by omega)
            · intro w1 w2 hb h
              exact h.grow hb
            · exact M.grow ((Up.refl _).drew)
            · rintro i o hi ho av wv fr gM dep
              match i, hi with
              | 0, _ =>
                obtain rfl := Option.some.inj ho
                refine g_none rfl rfl ?_
                exact st_mov rfl (fr.eval rfl) rfl
              | 1, _ =>
                obtain rfl := Option.some.inj ho
                refine g_none rfl rfl ?_
                exact st_bin rfl (dep ⟨0, .data⟩ (by simp) rfl) (rfl) (by go_simp) rfl
              | 2, _ =>
                obtain rfl := Option.some.inj ho
                refine g_none rfl rfl ?_
                exact st_mov rfl (dep ⟨1, .data⟩ (by simp) rfl) rfl
              | 3, _ =>
                obtain rfl := Option.some.inj ho
                exact g_no rfl rfl (dep ⟨2, .guard⟩ (by simp) rfl) (by decide) rfl
              | 4, _ =>
                obtain rfl := Option.some.inj ho
                exact g_no rfl rfl (dep ⟨2, .guard⟩ (by simp) rfl) (by decide) rfl
              | 5, _ =>
                obtain rfl := Option.some.inj ho
                exact g_no rfl rfl (dep ⟨2, .guard⟩ (by simp) rfl) (by decide) rfl
              | 6, _ =>
                obtain rfl := Option.some.inj ho
                exact g_no rfl rfl (dep ⟨2, .guard⟩ (by simp) rfl) (by decide) rfl
              | 7, _ =>
                obtain rfl := Option.some.inj ho
                exact g_no rfl rfl (dep ⟨2, .guard⟩ (by simp) rfl) (by decide) rfl
              | 8, _ =>
                obtain rfl := Option.some.inj ho
                exact g_no rfl rfl (dep ⟨2, .guard⟩ (by simp) rfl) (by decide) rfl
              | 9, _ =>
                obtain rfl := Option.some.inj ho
                exact g_no rfl rfl (dep ⟨2, .guard⟩ (by simp) rfl) (by decide) rfl
              | 10, _ =>
                obtain rfl := Option.some.inj ho
                exact g_no rfl rfl (dep ⟨2, .guard⟩ (by simp) rfl) (by decide) rfl
              | 11, _ =>
                obtain rfl := Option.some.inj ho
                exact g_no rfl rfl (dep ⟨2, .guard⟩ (by simp) rfl) (by decide) rfl
              | 12, _ =>
                obtain rfl := Option.some.inj ho
                exact g_no rfl rfl (dep ⟨2, .guard⟩ (by simp) rfl) (by decide) rfl
              | 13, _ =>
                obtain rfl := Option.some.inj ho
                exact g_no rfl rfl (dep ⟨2, .guard⟩ (by simp) rfl) (by decide) rfl
              | 14, _ =>
                obtain rfl := Option.some.inj ho
                exact g_no rfl rfl (dep ⟨2, .guard⟩ (by simp) rfl) (by decide) rfl
              | 15, _ =>
                obtain rfl := Option.some.inj ho
                exact g_no rfl rfl (dep ⟨2, .guard⟩ (by simp) rfl) (by decide) rfl
              | 16, _ =>
                obtain rfl := Option.some.inj ho
                exact g_no rfl rfl (dep ⟨2, .guard⟩ (by simp) rfl) (by decide) rfl
              | 17, _ =>
                obtain rfl := Option.some.inj ho
                exact g_no rfl rfl (dep ⟨2, .guard⟩ (by simp) rfl) (by decide) rfl
              | 18, _ =>
                obtain rfl := Option.some.inj ho
                refine g_none rfl rfl ?_
                exact st_pick rfl (dep ⟨2, .data⟩ (by simp) rfl) (dep ⟨17, .data⟩ (by simp) rfl) (rfl) rfl
              | n + 19, h' => exact absurd h' (by omega)
            · rintro vs wv gM hf
              have f0 : vs 0 = .int .i64 ((0 : Nat) : Int) := hf 0 (by omega)
              have f1 : vs 1 = .bool false := hf 1 (by omega)
              have f2 : vs 2 = .bool false := hf 2 (by omega)
              have f3 : vs 3 = undef := hf 3 (by omega)
              have f4 : vs 4 = undef := hf 4 (by omega)
              have f5 : vs 5 = undef := hf 5 (by omega)
              have f6 : vs 6 = undef := hf 6 (by omega)
              have f7 : vs 7 = undef := hf 7 (by omega)
              have f8 : vs 8 = undef := hf 8 (by omega)
              have f9 : vs 9 = undef := hf 9 (by omega)
              have f10 : vs 10 = undef := hf 10 (by omega)
              have f11 : vs 11 = undef := hf 11 (by omega)
              have f12 : vs 12 = undef := hf 12 (by omega)
              have f13 : vs 13 = undef := hf 13 (by omega)
              have f14 : vs 14 = undef := hf 14 (by omega)
              have f15 : vs 15 = undef := hf 15 (by omega)
              have f16 : vs 16 = undef := hf 16 (by omega)
              have f17 : vs 17 = undef := hf 17 (by omega)
              have f18 : vs 18 = .bool false := hf 18 (by omega)
              simp only [putAll, Act.put, List.getElem?_toArray, List.getElem?_cons_zero, List.getElem?_cons_succ, Option.bind_some, List.setIfInBounds_toArray, List.set_cons_zero, List.set_cons_succ, List.drop_succ_cons, List.drop_zero, List.drop_nil, f18]
              clear f0 f1 f2 f3 f4 f5 f6 f7 f8 f9 f10 f11 f12 f13 f14 f15 f16 f17 f18 hf
              have M := gM
              go_wp2_with fail
              have hj := HJ.out
              go_roundg (n - j - 1)
              case measure => omega
              case rel => exact ⟨j + 1, m + 1, x :: bb, _, _, by omega, rfl, by go_num, by omega, Lib.hid ⟨by simp [HLn.out], by rw [HTS.out]; exact HD.out⟩, M.blk_own (p := 0) rfl 32 (m + 1) _ QQ.out.1 QQ.out.2.1 (by have h1 := QQ.out.2.2; have h2 := HLn.out; have h3 := HM.out; rw [List.length_append, List.length_append, kyL_len, h3, Array.length_toList, bA_size, hx32] at h1; rw [List.size_toArray, List.length_append, kyL_len, List.nil_append, List.length_cons, h2]; omega) (take_keys (x :: bb) tl (m + 1) (by simp [HLn.out]))⟩
          · rw [List.concat_eq_append] at hcat
            subst hcat
            obtain ⟨q, hq⟩ : ∃ q, a'.length = q := ⟨_, rfl⟩
            obtain rfl : gk = q + 1 := by rw [← ha]; simp [hq]
            have hqm : q + 1 ≤ m := by have := HIn.out.1; simp [hq] at this; omega
            have G1 := Lib.hid (kyT_at (a' ++ [y] ++ x :: bb) tl (q + 1) x (by rw [List.getElem?_append_right (by simp [hq])]; simp [hq]) (0 + (q + 1) * 32) (by omega))
            have G2 := Lib.hid (kyT_at (a' ++ [y] ++ x :: bb) tl q y (by rw [List.append_assoc, List.getElem?_append_right (by omega)]; simp [hq]) (0 + q * 32) (by omega))
            have HT := Lib.hid (fun (h : ltOf (cfP p) x y = true) => Ins.step HIn.out.2 h)
            have HF := Lib.hid (fun (h : ltOf (cfP p) x y = false) => HIn.out.2.done (swoP p) (ltP_tot p) (.inr ⟨a', y, rfl, h⟩))
            have HBL := Lib.hid (show q + 1 + bb.length = m by have := HIn.out.1; simp [hq] at this; omega)
            have hy32 := y.2
            have HP1 := Lib.hid (show putC (bL y.1) ((q + 1) * 32) (kyL (a' ++ [y] ++ x :: bb) ++ tl).toArray = (kyL (a' ++ y :: y :: bb) ++ tl).toArray by
              rw [putC_ky _ tl (q + 1) y (by simp [hq])]
              rw [show (a' ++ [y] ++ x :: bb).set (q + 1) y = a' ++ y :: y :: bb by rw [List.append_assoc, List.set_append_right _ _ (by omega), hq]; simp])
            have HP2 := Lib.hid (show putC (bL x.1) (q * 32) (kyL (a' ++ y :: y :: bb) ++ tl).toArray = (kyL (a' ++ x :: y :: bb) ++ tl).toArray by
              rw [putC_ky _ tl q x (by simp [hq])]
              rw [show (a' ++ y :: y :: bb).set q x = a' ++ x :: y :: bb by rw [List.set_append_right _ _ (by omega), hq]; simp])
            have HS1 := Lib.hid (show (q + 1) * 32 + 32 ≤ (kyL (a' ++ [y] ++ x :: bb) ++ tl).toArray.size by simp [hq]; omega)
            have HS2 := Lib.hid (show q * 32 + 32 ≤ (kyL (a' ++ y :: y :: bb) ++ tl).toArray.size by simp [hq]; omega)
            have HQ := Lib.hid hq
            have G1' := Lib.hid (kyT_at (a' ++ [y] ++ x :: bb) tl (q + 1) x (by rw [List.getElem?_append_right (by simp [hq])]; simp [hq]) ((q + 1) * 32) (by omega))
            have G2' := Lib.hid (kyT_at (a' ++ [y] ++ x :: bb) tl q y (by rw [List.append_assoc, List.getElem?_append_right (by omega)]; simp [hq]) (q * 32) (by omega))
            have hq1 : q < m + 1 := by omega
            have hq2 : q + 1 < m + 1 := by omega
            obtain ⟨c, hc⟩ : ∃ c, ltOf (cfP p) x y = c := ⟨_, rfl⟩
            have HC := Lib.hid (show decide (cmpL (xorL x.1 p.1) (xorL y.1 p.1) < 0) = c from hc)
            rw [hc] at HT HF
            have hx1 : (xorL x.1 p.1).length = 32 := by rw [xorL_length _ _ (by rw [hx32, hp32]), hx32]
            have hy1 : (xorL y.1 p.1).length = 32 := by rw [xorL_length _ _ (by rw [hy32, hp32]), hy32]
            clear HIn ha hq hc
            generalize hc0 : (kyL (a' ++ [y] ++ x :: bb) ++ tl).toArray = cs0 at *
            generalize hc1 : (kyL (a' ++ y :: y :: bb) ++ tl).toArray = cs1 at *
            generalize hc2 : (kyL (a' ++ x :: y :: bb) ++ tl).toArray = cs2 at *
            have H0 := Lib.hid hc0
            have H2 := Lib.hid hc2
            clear hc0 hc1 hc2
            go_wp2_with fail
            refine region_monoG (m := 19) mixedOrders_ (by kernel_rfl) (by kernel_rfl)
              (fun | 0 => fun vq _ => vq = .int .i64 ((q + 1 : Nat) : Int) | 1 => fun vq _ => vq = .bool true | 2 => fun vq _ => vq = .bool true | 3 => fun vq _ => vq = .slice (some ⟨g5, 0, none⟩) (m + 1) cz | 4 => fun vq _ => vq = .int .i64 ((q + 1 : Nat) : Int) | 5 => fun vq _ => vq = .pointer (some ⟨g5, 0 + (q + 1) * 32, none⟩) | 6 => fun vq _ => vq = .agg (bA x.1) | 7 => fun vq _ => vq = .agg (bA p.1) | 8 => fun vq _ => vq = .agg (bA (xorL x.1 p.1)) | 9 => fun vq _ => vq = .slice (some ⟨g5, 0, none⟩) (m + 1) cz | 10 => fun vq _ => vq = .int .i64 ((q + 1 : Nat) : Int) | 11 => fun vq _ => vq = .int .i64 (q : Int) | 12 => fun vq _ => vq = .pointer (some ⟨g5, 0 + q * 32, none⟩) | 13 => fun vq _ => vq = .agg (bA y.1) | 14 => fun vq _ => vq = .agg (bA p.1) | 15 => fun vq _ => vq = .agg (bA (xorL y.1 p.1)) | 16 => fun vq _ => vq = .int .i64 (cmpL (xorL x.1 p.1) (xorL y.1 p.1)) | 17 => fun vq _ => vq = .bool c | 18 => fun vq _ => vq = .bool c | _ => fun _ _ => True)
              (fun wx => Mem w wx [.blk g5 25 cs0, .blk g3 25 (bA p.1)]) ?_ ?_ ?_ ?_ ?_
            · intro j hj v w1 w2 hb h
              match j, hj with
              | 0, _ => exact h
              | 1, _ => exact h
              | 2, _ => exact h
              | 3, _ => exact h
              | 4, _ => exact h
              | 5, _ => exact h
              | 6, _ => exact h
              | 7, _ => exact h
              | 8, _ => exact h
              | 9, _ => exact h
              | 10, _ => exact h
              | 11, _ => exact h
              | 12, _ => exact h
              | 13, _ => exact h
              | 14, _ => exact h
              | 15, _ => exact h
              | 16, _ => exact h
              | 17, _ => exact h
              | 18, _ => exact h
              | n + 19, h' => exact absurd h' (by omega)
            · intro w1 w2 hb h
              exact h.grow hb
            · exact M.grow ((Up.refl _).drew)
            · rintro i o hi ho av wv fr gM dep
              match i, hi with
              | 0, _ =>
                obtain rfl := Option.some.inj ho
                refine g_none rfl rfl ?_
                exact st_mov rfl (fr.eval rfl) rfl
              | 1, _ =>
                obtain rfl := Option.some.inj ho
                refine g_none rfl rfl ?_
                exact st_bin rfl (dep ⟨0, .data⟩ (by simp) rfl) (rfl) (by go_simp) rfl
              | 2, _ =>
                obtain rfl := Option.some.inj ho
                refine g_none rfl rfl ?_
                exact st_mov rfl (dep ⟨1, .data⟩ (by simp) rfl) rfl
              | 3, _ =>
                obtain rfl := Option.some.inj ho
                refine g_yes rfl rfl (dep ⟨2, .guard⟩ (by simp) rfl) ?_
                exact st_mov rfl (fr.eval rfl) rfl
              | 4, _ =>
                obtain rfl := Option.some.inj ho
                refine g_yes rfl rfl (dep ⟨2, .guard⟩ (by simp) rfl) ?_
                exact st_mov rfl (fr.eval rfl) rfl
              | 5, _ =>
                obtain rfl := Option.some.inj ho
                refine g_yes rfl rfl (dep ⟨2, .guard⟩ (by simp) rfl) ?_
                exact st_indexAddr rfl (dep ⟨3, .data⟩ (by simp) rfl) (dep ⟨4, .data⟩ (by simp) rfl) (ix_slice _ _ _ _ _ hq2 _) rfl
              | 6, _ =>
                obtain rfl := Option.some.inj ho
                refine g_yes rfl rfl (dep ⟨2, .guard⟩ (by simp) rfl) ?_
                exact st_loadPG gM rfl (dep ⟨5, .data⟩ (by simp) rfl) (xs := bL x.1) G1.out (by rw [bL_length, hx32]) rfl
              | 7, _ =>
                obtain rfl := Option.some.inj ho
                refine g_yes rfl rfl (dep ⟨2, .guard⟩ (by simp) rfl) ?_
                exact st_loadG gM rfl (fr.eval rfl) (by first | rfl | (simp; done)) rfl
              | 8, _ =>
                obtain rfl := Option.some.inj ho
                refine g_yes rfl rfl (dep ⟨2, .guard⟩ (by simp) rfl) ?_
                have d0 := dep ⟨6, .data⟩ (by simp) rfl
                have d1 := dep ⟨7, .data⟩ (by simp) rfl
                exact st_ret2 rfl (fun _ _ => by kernel_rfl) d0 d1 (Ret.of (specl01Xor_c x.1 p.1 hx32 hp32 _)) (fun r w' h _ => h)
              | 9, _ =>
                obtain rfl := Option.some.inj ho
                refine g_yes rfl rfl (dep ⟨2, .guard⟩ (by simp) rfl) ?_
                exact st_mov rfl (fr.eval rfl) rfl
              | 10, _ =>
                obtain rfl := Option.some.inj ho
                refine g_yes rfl rfl (dep ⟨2, .guard⟩ (by simp) rfl) ?_
                exact st_mov rfl (fr.eval rfl) rfl
              | 11, _ =>
                obtain rfl := Option.some.inj ho
                refine g_yes rfl rfl (dep ⟨2, .guard⟩ (by simp) rfl) ?_
                exact st_bin rfl (dep ⟨10, .data⟩ (by simp) rfl) (rfl) (bin_subI _ _ _ (by have := i64_in_ (((q + 1 : Nat) : Int) - 1) (by omega); rw [this]; omega) _ _ _) rfl
              | 12, _ =>
                obtain rfl := Option.some.inj ho
                refine g_yes rfl rfl (dep ⟨2, .guard⟩ (by simp) rfl) ?_
                exact st_indexAddr rfl (dep ⟨9, .data⟩ (by simp) rfl) (dep ⟨11, .data⟩ (by simp) rfl) (ix_slice _ _ _ _ _ hq1 _) rfl
              | 13, _ =>
                obtain rfl := Option.some.inj ho
                refine g_yes rfl rfl (dep ⟨2, .guard⟩ (by simp) rfl) ?_
                exact st_loadPG gM rfl (dep ⟨12, .data⟩ (by simp) rfl) (xs := bL y.1) G2.out (by rw [bL_length, hy32]) rfl
              | 14, _ =>
                obtain rfl := Option.some.inj ho
                refine g_yes rfl rfl (dep ⟨2, .guard⟩ (by simp) rfl) ?_
                exact st_loadG gM rfl (fr.eval rfl) (by first | rfl | (simp; done)) rfl
              | 15, _ =>
                obtain rfl := Option.some.inj ho
                refine g_yes rfl rfl (dep ⟨2, .guard⟩ (by simp) rfl) ?_
                have d0 := dep ⟨13, .data⟩ (by simp) rfl
                have d1 := dep ⟨14, .data⟩ (by simp) rfl
                exact st_ret2 rfl (fun _ _ => by kernel_rfl) d0 d1 (Ret.of (specl01Xor_c y.1 p.1 hy32 hp32 _)) (fun r w' h _ => h)
              | 16, _ =>
                obtain rfl := Option.some.inj ho
                refine g_yes rfl rfl (dep ⟨2, .guard⟩ (by simp) rfl) ?_
                have d0 := dep ⟨8, .data⟩ (by simp) rfl
                have d1 := dep ⟨15, .data⟩ (by simp) rfl
                exact st_ret2 rfl (fun _ _ => by kernel_rfl) d0 d1 (Ret.of (l01Compare_c _ _ hx1 hy1 _)) (fun r w' h _ => h)
              | 17, _ =>
                obtain rfl := Option.some.inj ho
                refine g_yes rfl rfl (dep ⟨2, .guard⟩ (by simp) rfl) ?_
                exact st_bin rfl (dep ⟨16, .data⟩ (by simp) rfl) (rfl) (bin_lss64 _ _ _ HC.out _ _ _) rfl
              | 18, _ =>
                obtain rfl := Option.some.inj ho
                refine g_none rfl rfl ?_
                exact st_pick rfl (dep ⟨2, .data⟩ (by simp) rfl) (dep ⟨17, .data⟩ (by simp) rfl) (rfl) rfl
              | n + 19, h' => exact absurd h' (by omega)
            · rintro vs wv gM hf
              have f0 : vs 0 = .int .i64 ((q + 1 : Nat) : Int) := hf 0 (by omega)
              have f1 : vs 1 = .bool true := hf 1 (by omega)
              have f2 : vs 2 = .bool true := hf 2 (by omega)
              have f3 : vs 3 = .slice (some ⟨g5, 0, none⟩) (m + 1) cz := hf 3 (by omega)
              have f4 : vs 4 = .int .i64 ((q + 1 : Nat) : Int) := hf 4 (by omega)
              have f5 : vs 5 = .pointer (some ⟨g5, 0 + (q + 1) * 32, none⟩) := hf 5 (by omega)
              have f6 : vs 6 = .agg (bA x.1) := hf 6 (by omega)
              have f7 : vs 7 = .agg (bA p.1) := hf 7 (by omega)
              have f8 : vs 8 = .agg (bA (xorL x.1 p.1)) := hf 8 (by omega)
              have f9 : vs 9 = .slice (some ⟨g5, 0, none⟩) (m + 1) cz := hf 9 (by omega)
              have f10 : vs 10 = .int .i64 ((q + 1 : Nat) : Int) := hf 10 (by omega)
              have f11 : vs 11 = .int .i64 (q : Int) := hf 11 (by omega)
              have f12 : vs 12 = .pointer (some ⟨g5, 0 + q * 32, none⟩) := hf 12 (by omega)
              have f13 : vs 13 = .agg (bA y.1) := hf 13 (by omega)
              have f14 : vs 14 = .agg (bA p.1) := hf 14 (by omega)
              have f15 : vs 15 = .agg (bA (xorL y.1 p.1)) := hf 15 (by omega)
              have f16 : vs 16 = .int .i64 (cmpL (xorL x.1 p.1) (xorL y.1 p.1)) := hf 16 (by omega)
              have f17 : vs 17 = .bool c := hf 17 (by omega)
              have f18 : vs 18 = .bool c := hf 18 (by omega)
              simp only [putAll, Act.put, List.getElem?_toArray, List.getElem?_cons_zero, List.getElem?_cons_succ, Option.bind_some, List.setIfInBounds_toArray, List.set_cons_zero, List.set_cons_succ, List.drop_succ_cons, List.drop_zero, List.drop_nil, f18]
              clear f0 f1 f2 f3 f4 f5 f6 f7 f8 f9 f10 f11 f12 f13 f14 f15 f16 f17 f18 hf
              have M := gM
              cases c with
              | true =>
                have HT2 := Lib.hid (HT.out rfl)
                clear HT HF HC
                go_wp2_with (first
                  | (with_reducible (show wpList _ _ _ (Oper.mk (some 64) (.indexAddr _ _ _) _ _ _ _ :: _) _ _); refine m_ix rfl rfl rfl (q + 1) (by first | rfl | (refine congrArg (Value.int .i64) ?_; omega)) hq2 ?_)
                  | (with_reducible (show wpList _ _ _ (Oper.mk (some 55) (.indexAddr _ _ _) _ _ _ _ :: _) _ _); refine m_ix rfl rfl rfl (q + 1) (by first | rfl | (refine congrArg (Value.int .i64) ?_; omega)) hq2 ?_)
                  | (with_reducible (show wpList _ _ _ (Oper.mk _ (.indexAddr _ _ _) _ _ _ _ :: _) _ _); refine m_ix rfl rfl rfl q (by first | rfl | (refine congrArg (Value.int .i64) ?_; omega)) hq1 ?_)
                  | (with_reducible (show wpList _ _ _ (Oper.mk _ (.store _ _ _) _ _ _ _ :: _) _ _); refine m_storeP M rfl rfl rfl rfl (by rw [bA_size, hy32]) HS1.out (bA_allC _) ?_; clear M; (try clear wx); intro wx M; simp only [List.set_cons_zero, List.set_cons_succ, Nat.zero_add, List.nil_append] at M; rw [show (bA y.1).toList = bL y.1 from rfl, HP1.out] at M)
                  | (with_reducible (show wpList _ _ _ (Oper.mk _ (.store _ _ _) _ _ _ _ :: _) _ _); refine m_storeP M rfl rfl rfl rfl (by rw [bA_size, hx32]) HS2.out (bA_allC _) ?_; clear M; (try clear wx); intro wx M; simp only [List.set_cons_zero, List.set_cons_succ, Nat.zero_add, List.nil_append] at M; rw [show (bA x.1).toList = bL x.1 from rfl, HP2.out] at M)
                  | (with_reducible (show wpList _ _ _ (Oper.mk (some 3) (.box _ _) _ _ _ _ :: _) _ _); (first | (refine m_boxA M rfl rfl rfl ?_) | (refine m_box1 (v := Value.int _ _) M rfl rfl rfl rfl ?_) | (refine m_box1 (v := Value.slice _ _ _) M rfl rfl rfl rfl ?_) | (refine m_box1 (v := Value.bool _) M rfl rfl rfl rfl ?_) | (refine m_box1 (v := Value.string _) M rfl rfl rfl rfl ?_) | (refine m_box1 (v := Value.pointer _) M rfl rfl rfl rfl ?_)); clear M; (try clear wx); intro g3 wx M)
                  | (with_reducible (show wpList _ _ _ (Oper.mk (some 9) (.buildSlice _ _ _) _ _ _ _ :: _) _ _); refine m_lit0 M rfl rfl ?_; clear M; (try clear wx); intro g9 wx M)
                  | (with_reducible (show wpList _ _ _ (Oper.mk (some 27) (.buildSlice _ _ _) _ _ _ _ :: _) _ _); (first | (refine m_lit1A M rfl rfl rfl (by first | exact hx32 | (rw [bA_size, hx32]; done) | rfl | (simp; done)) (by decide) ?_) | (refine m_lit11 (v := Value.int _ _) M rfl rfl rfl rfl ?_) | (refine m_lit11 (v := Value.slice _ _ _) M rfl rfl rfl rfl ?_) | (refine m_lit11 (v := Value.bool _) M rfl rfl rfl rfl ?_) | (refine m_lit11 (v := Value.string _) M rfl rfl rfl rfl ?_) | (refine m_lit11 (v := Value.pointer _) M rfl rfl rfl rfl ?_)); clear M; (try clear wx); intro g27 wx M)
                  | (with_reducible (show wpList _ _ _ (Oper.mk (some 8) (.alloc _) _ _ _ _ :: _) _ _); refine mem_new M rfl rfl ?_; clear M; (try clear wx); intro g8 wx M)
                  | (with_reducible (show wpList _ _ _ (Oper.mk _ (.load _ _) _ _ _ _ :: _) _ _); (first | (refine m_loadB M rfl rfl rfl G1'.out hx32 ?_) | (refine m_loadB M rfl rfl rfl G2'.out hy32 ?_) | (refine m_load M rfl rfl rfl (by first | assumption | rfl) ?_) | (refine m_loadR M rfl rfl rfl (by first | exact hx32 | (rw [bA_size, hx32]; done) | rfl | (simp; done)) ?_)))
                  | (with_reducible (show wpList _ _ _ (Oper.mk _ (.store _ _ _) _ _ _ _ :: _) _ _); (first | (refine m_storeR M rfl rfl rfl rfl (by first | exact hx32 | (rw [bA_size, hx32]; done) | rfl | (simp; done)) (by first | exact hx32 | (rw [bA_size, hx32]; done) | rfl | (simp; done)) (bA_allC _) ?_) | (refine m_store (v := Value.int _ _) M rfl rfl rfl rfl rfl (by first | assumption | (simp; done) | (simp; omega)) ?_) | (refine m_store (v := Value.slice _ _ _) M rfl rfl rfl rfl rfl (by first | assumption | (simp; done) | (simp; omega)) ?_) | (refine m_store (v := Value.bool _) M rfl rfl rfl rfl rfl (by first | assumption | (simp; done) | (simp; omega)) ?_) | (refine m_store (v := Value.string _) M rfl rfl rfl rfl rfl (by first | assumption | (simp; done) | (simp; omega)) ?_) | (refine m_store (v := Value.pointer _) M rfl rfl rfl rfl rfl (by first | assumption | (simp; done) | (simp; omega)) ?_)); clear M; (try clear wx); intro wx M; simp only [List.set_cons_zero, List.set_cons_succ, Nat.zero_add, List.nil_append] at M)
                  | (with_reducible (show wpList _ _ _ (Oper.mk _ (.call (Call.mk (.builtin .append) _ _)) _ _ _ _ :: _) _ _); (first | (refine m_append1 M rfl rfl rfl (by first | rfl | omega | (simp; done)) rfl (by first | exact hx32 | (rw [bA_size, hx32]; done) | rfl | (simp; done)) (bA_allC _) (by first | assumption | (simp only [maxLen]; omega)) (by omega) ?_)); clear M; (try clear wx); intro _ _ wx M; simp only [List.set_cons_zero, List.set_cons_succ, Nat.zero_add, List.nil_append] at M))
                have M := M.tail
                go_roundg q
                case measure => omega
                case rel => exact ⟨a', y :: bb, HQ.out, by go_num, Lib.hid ⟨by have := HBL.out; have := HQ.out; simp; omega, HT2.out⟩, by rw [H2.out]; exact M⟩
              | false =>
                have HF2 := Lib.hid (HF.out rfl)
                clear HT HF HC
                rw [← H0.out] at M
                go_wp2_with fail
                have hj := HJ.out
                go_roundg (n - j - 1)
                case measure => omega
                case rel => exact ⟨j + 1, m + 1, a' ++ [y] ++ x :: bb, _, _, by omega, rfl, by go_num, by omega, Lib.hid ⟨by have := HBL.out; have := HQ.out; simp; omega, by rw [HTS.out]; exact HF2.out⟩, M.blk_own (p := 0) rfl 32 (m + 1) _ QQ.out.1 QQ.out.2.1 (by have h1 := QQ.out.2.2; have h2 := HBL.out; have h3 := HM.out; have h4 := HQ.out; rw [List.length_append, List.length_append, kyL_len, h3, Array.length_toList, bA_size, hx32] at h1; rw [List.size_toArray, List.length_append, kyL_len]; simp; omega) (take_keys (a' ++ [y] ++ x :: bb) tl (m + 1) (by have := HBL.out; have := HQ.out; simp; omega))⟩
    · have MM := Lib.hid M
      have HS := Lib.hid (show SetOf (ltOf (cfP p)) ks out by
        have := HO.out.2
        rwa [List.take_of_length_le (by rw [HK.out]; omega)] at this)
      have HM := Lib.hid HO.out.1
      clear HO
      go_wp2_with fail
      go_ret
      exact ⟨_, rfl, ⟨out, HS.out, by rw [HM.out]; exact ⟨_, _, rfl, MM.out.out_own (p := 0) rfl⟩⟩, MM.out.up⟩

end Go.Proofs.Ytmbhaoiahlbglaa

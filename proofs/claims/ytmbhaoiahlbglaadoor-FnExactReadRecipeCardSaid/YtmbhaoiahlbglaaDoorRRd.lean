/- Walks: a recipe read from its text, as the program reads it. -/
import Derived.Test.YtmbhaoiahlbglaaDoorRRc
import Derived.Test.YtmbhaoiahlbglaaDoorRTe
namespace Go.Proofs.YtmbhaoiahlbglaaDoor
open Go.RowKit
set_option linter.unusedVariables false
set_option linter.unusedSimpArgs false

/-- What the library's variables hold, now and later. -/
def LibHas (w : World) : Prop := TabHas w ∧ (∃ m, w.cell? ⟨0, 0, none⟩ = some (.int .i64 m)) ∧ (∃ te pe, w.cell? ⟨1, 0, none⟩ = some (.iface te pe)) ∧ (∃ te pe, w.cell? ⟨2, 0, none⟩ = some (.iface te pe))
theorem cell_up {w w' : World} {g : Nat} {v : Value} (h : w.cell? ⟨g, 0, none⟩ = some v) (hb : Up w w') : w'.cell? ⟨g, 0, none⟩ = some v :=
  (Below.cell hb (p := ⟨g, 0, none⟩) (Lib.lt_of_cell h)).trans h
theorem LibHas.up {w w' : World} (h : LibHas w) (hb : Up w w') : LibHas w' := by
  obtain ⟨h1, ⟨m, h2⟩, ⟨t1, p1, h3⟩, ⟨t2, p2, h4⟩⟩ := h
  exact ⟨fun w2 h' => h1 w2 (hb.trans h'), ⟨m, cell_up h2 hb⟩, ⟨t1, p1, cell_up h3 hb⟩, ⟨t2, p2, cell_up h4 hb⟩⟩
theorem count_c (s : ByteArray) (w : World) : Ret Tryd.prog 17 #[.string s, .string ⟨#[10]⟩] w fun r _ => r = .int .i64 ((s.data.toList.count 10 : Nat) : Int) := Ret.same (Tryd.strings_Count_one s 10 w)
theorem split_c (s : ByteArray) (hs : s.size ≤ 1048576) (w : World) (hE : LibHas w) : Ret Tryd.prog 18 #[.string s, .string ⟨#[10]⟩] w fun r w' => OwnR w w' 9 1 r ((sp 10 s.data.toList).map tx).length (stL ((sp 10 s.data.toList).map tx)) := by
  obtain ⟨-, ⟨m, hm⟩, -, -⟩ := hE
  refine (Tryd.strings_Split s ⟨#[10]⟩ m w (by omega) hm (by decide)).mono fun e w' ⟨h1, h2⟩ => ?_
  have e1 : Lib.countB s ⟨#[10]⟩ = s.data.toList.count 10 := Lib.count_one 10 s.data.toList
  rw [e1] at h1 h2
  rw [splitB_sp] at h2
  have hl := sp_len 10 s.data.toList
  have hc := List.count_le_length (a := (10 : UInt8)) (l := s.data.toList)
  have hsl : s.data.toList.length = s.size := rfl
  have M := (Mem.start w).alloc_ 9 (stL ((sp 10 s.data.toList).map tx)).toArray
  have M := M.blk_own (p := 0) rfl 1 ((sp 10 s.data.toList).map tx).length ((sp 10 s.data.toList).map tx).length (Nat.le_refl _) (by rw [List.length_map, hl]; simp only [maxLen]; omega) (by simp [stL]) (xs := stL ((sp 10 s.data.toList).map tx)) (by rw [Nat.mul_one]; exact List.take_of_length_le (by simp [stL]))
  subst h2
  refine ⟨_, h1, ⟨some ⟨w.heap.size, 0, none⟩, s.data.toList.count 10 + 1, by rw [List.length_map, hl], ?_⟩, (Up.refl w).alloc _⟩
  have := M.out_own (p := 0) rfl
  rw [List.length_map, hl] at this ⊢
  exact this
theorem cut_c (x : List UInt8) (hs : x.length ≤ 1048576) (w : World) (hE : LibHas w) : Ret Tryd.prog 19 #[.string (tx x), .string ⟨#[32]⟩] w fun r _ => r = .tuple #[.string (tx (Lib.cut x [32]).1), .string (tx (Lib.cut x [32]).2.1), .bool (Lib.cut x [32]).2.2] := by
  obtain ⟨-, ⟨m, hm⟩, -, -⟩ := hE
  have h := Tryd.strings_Cut (tx x) ⟨#[32]⟩ m w (by rw [tx_size]; omega) hm
  rw [tx_data] at h
  exact Ret.drew h
theorem bytesWorld_up (w : World) (e : TypeId) (s : ByteArray) : Up w (Lib.bytesWorld w e s) := Lib.bytesWorld_below w e s
theorem parse_ok (l : List UInt8) (hs : l.length ≤ 1048576) (v : Int) (h : Lib.parseIntB 64 l = .ok v) (w : World) : Ret Tryd.prog 21 #[.string (tx l), .int .i64 10, .int .i64 64] w fun r _ => r = .tuple #[.int .i64 v, .nilIface] :=
  (Tryd.strconv_ParseInt_10_at64_ok (tx l) (by rw [tx_size]; omega) v (by rw [tx_data]; exact h) w).mono fun e w' ⟨h1, h2⟩ => ⟨_, h1, rfl, by
    rcases h2 with rfl | ⟨t, rfl⟩
    · exact Up.refl _
    · exact bytesWorld_up _ _ _⟩
theorem parse_no (l : List UInt8) (hs : l.length ≤ 1048576) (h : ∀ v, Lib.parseIntB 64 l ≠ .ok v) (w : World) (hE : LibHas w) : Ret Tryd.prog 21 #[.string (tx l), .int .i64 10, .int .i64 64] w fun r _ => ∃ (v : Int) (T : TypeId) (N : Nat), r = .tuple #[.int .i64 v, .iface T (.pointer (some ⟨N, 0, none⟩))] := by
  obtain ⟨-, -, ⟨t1, p1, h3⟩, ⟨t2, p2, h4⟩⟩ := hE
  rcases hp : Lib.parseIntB 64 l with v | _ | _
  · exact absurd hp (h v)
  · have hc : Calls Tryd.prog 21 #[.string (tx l), .int .i64 10, .int .i64 64] w fun e w' => ∃ N, e = .returned (.tuple #[.int .i64 (0), .iface 88 (.pointer (some ⟨N, 0, none⟩))]) ∧ w.heap.size ≤ N ∧ w'.heap[N]? = some (.cells #[.string ⟨#[80, 97, 114, 115, 101, 73, 110, 116]⟩, .string (tx l), .iface t1 p1] 99 (0, 0)) ∧ Below w.heap.size w w' :=
      Any.strconv_ParseInt_10_at64_syntax Tryd.laysC174 (tx l) (by rw [tx_size]; omega) (by rw [tx_data]; exact hp) _ w h3 (.inr ⟨t1, p1, rfl⟩)
    exact hc.mono fun e w' ⟨N, h1, _, _, h2⟩ => ⟨_, h1, ⟨_, _, _, rfl⟩, h2⟩
  · exact (Tryd.strconv_ParseInt_10_at64_range (tx l) (by rw [tx_size]; omega) (by rw [tx_data]; exact hp) _ w h4 (.inr ⟨t2, p2, rfl⟩)).mono fun e w' ⟨N, h1, _, _, h2⟩ => ⟨_, h1, ⟨_, _, _, rfl⟩, h2⟩
theorem readKey_r (l : List UInt8) (hs : l.length ≤ 1048576) (w : World) : Ret Tryd.prog 20 #[.string (tx l)] w fun r _ => r = .tuple #[.agg (bA (rdK l).1.1), .int .i64 (if (rdK l).2 = true then 0 else 5)] := by
  by_cases h : l.length = 64 ∧ allHex l = true
  · have := implReadKey_yes (tx l) (by rw [tx_size]; exact h.1) (by rw [tx_data]; exact h.2) w
    rw [tx_data] at this
    rw [rdK, if_pos h]
    exact Ret.of this
  · have := implReadKey_no (tx l) (by rw [tx_size]; exact hs) (by
      rw [tx_size, tx_data]
      intro h64
      cases ha : allHex l
      · rfl
      · exact absurd ⟨h64, ha⟩ h) w
    rw [rdK, if_neg h]
    exact Ret.of this
theorem cut_len (x : List UInt8) : (Lib.cut x [32]).1.length ≤ x.length ∧ (Lib.cut x [32]).2.1.length ≤ x.length := by
  rcases sp_cases 32 x with h | ⟨a, r, rfl, h⟩
  · rw [cut_none h]; simp
  · rw [cut_app h]; simp; omega
theorem iLine_ok {x : List UInt8} {v : Int} (h1 : (rdK (Lib.cut x [32]).1).2 = true) (h2 : Lib.parseIntB 64 (Lib.cut x [32]).2.1 = .ok v) : iLine x = some ((rdK (Lib.cut x [32]).1).1, v) := by
  unfold iLine iPair
  rw [h2]
  unfold rdK at h1 ⊢
  by_cases h : (Lib.cut x [32]).1.length = 64 ∧ allHex (Lib.cut x [32]).1 = true
  · rw [if_pos h, if_pos h]
  · rw [if_neg h] at h1
    cases h1
theorem iLine_key {x : List UInt8} (h1 : (rdK (Lib.cut x [32]).1).2 = false) : iLine x = none := by
  unfold iLine iPair
  unfold rdK at h1
  by_cases h : (Lib.cut x [32]).1.length = 64 ∧ allHex (Lib.cut x [32]).1 = true
  · rw [if_pos h] at h1
    cases h1
  · rw [if_neg h]
theorem iLine_num {x : List UInt8} (h : ∀ v, Lib.parseIntB 64 (Lib.cut x [32]).2.1 ≠ .ok v) : iLine x = none := by
  unfold iLine iPair
  split
  · split
    · rename_i v hv
      exact absurd hv (h v)
    · rfl
  · rfl

set_option maxHeartbeats 4000000 in
set_option maxRecDepth 100000 in
theorem implRR_c (s : ByteArray) (hs : s.size ≤ 1048576) (w : World) (hE : LibHas w) : Ret Tryd.prog 6 #[.string s] w fun r w' => OwnR2 w w' 43 33 r (rrI s.data.toList).1.length (piL (rrI s.data.toList).1) (.int .i64 (rrI s.data.toList).2) := by
  have hsl : s.data.toList.length = s.size := rfl
  have hlen := sp_len 10 s.data.toList
  have hmem := sp_mem 10 s.data.toList
  obtain ⟨xs, y, hL, -⟩ := sp_join 10 s.data.toList
  have HSP := Lib.hid (fun (wx : World) (h : Up w wx) => split_c s hs wx (hE.up h))
  have HCT := Lib.hid (fun (wx : World) => count_c s wx)
  have HEV := Lib.hid hE
  clear hE
  rw [hL] at HSP
  rw [hL] at hlen hmem
  obtain ⟨n, hn⟩ : ∃ n, ((xs ++ [y]).map tx).length = n := ⟨_, rfl⟩
  rw [hn] at HSP
  obtain ⟨m, hm⟩ : ∃ m, xs.length = m := ⟨_, rfl⟩
  have hnm : n = m + 1 := by rw [← hn, List.length_map, List.length_append, hm]; rfl
  have hct : m = s.data.toList.count 10 := by rw [← hn, List.length_map, hlen] at hnm; omega
  rw [← hct] at HCT
  refine ret_start fun wx M => ?_
  have HM := Lib.hid hm
  by_cases h0 : 40000 < s.size
  · have HE := Lib.hid (show rrI s.data.toList = ([], 3) by rw [rrI, if_pos (.inl (by rw [hsl]; exact h0))])
    clear hsl hlen hmem hL hn hm hnm hct
    go_enter Tryd.func6, Tryd.ntmps6
    go_wp2_with (first
      | (go_at_call 17; (with_reducible refine mem_call M (HCT.out _) ?_); clear M; (try clear wx); rintro _ wx rfl _ M)
      | (with_reducible (show wpList _ _ _ (Oper.mk (some 23) (.buildSlice _ _ _) _ _ _ _ :: _) _ _); refine m_lit0 M rfl rfl ?_; clear M; (try clear wx); intro g23 wx M)
      | (with_reducible (show wpList _ _ _ (Oper.mk (some 11) (.alloc _) _ _ _ _ :: _) _ _); refine mem_new M rfl rfl ?_; clear M; (try clear wx); intro g11 wx M)
      | (with_reducible (show wpList _ _ _ (Oper.mk (some 62) (.buildSlice _ _ _) _ _ _ _ :: _) _ _); (first | (refine m_lit1A M rfl rfl rfl (by first | rfl | assumption | (simp; done) | (simp; omega)) (by decide) ?_) | (refine m_lit11 (v := Value.int _ _) M rfl rfl rfl rfl ?_) | (refine m_lit11 (v := Value.slice _ _ _) M rfl rfl rfl rfl ?_) | (refine m_lit11 (v := Value.bool _) M rfl rfl rfl rfl ?_) | (refine m_lit11 (v := Value.string _) M rfl rfl rfl rfl ?_) | (refine m_lit11 (v := Value.pointer _) M rfl rfl rfl rfl ?_)); clear M; (try clear wx); intro g62 wx M)
      | (with_reducible (show wpList _ _ _ (Oper.mk _ (.load _ _) _ _ _ _ :: _) _ _); (first | (refine m_load M rfl rfl rfl (by first | assumption | rfl) ?_) | (refine m_loadR M rfl rfl rfl (by first | rfl | assumption | (simp; done) | (simp; omega)) ?_)))
      | (with_reducible (show wpList _ _ _ (Oper.mk _ (.store _ _ _) _ _ _ _ :: _) _ _); (first | (refine m_storeR M rfl rfl rfl rfl (by first | rfl | assumption | (simp; done) | (simp; omega)) (by first | rfl | assumption | (simp; done) | (simp; omega)) (by first | exact bA_one _ | exact wA_one _ | assumption | (simp [Value.oneCell']; done)) ?_) | (refine m_store (v := Value.int _ _) M rfl rfl rfl rfl rfl (by first | assumption | (simp; done) | (simp; omega)) ?_) | (refine m_store (v := Value.slice _ _ _) M rfl rfl rfl rfl rfl (by first | assumption | (simp; done) | (simp; omega)) ?_) | (refine m_store (v := Value.bool _) M rfl rfl rfl rfl rfl (by first | assumption | (simp; done) | (simp; omega)) ?_) | (refine m_store (v := Value.string _) M rfl rfl rfl rfl rfl (by first | assumption | (simp; done) | (simp; omega)) ?_) | (refine m_store (v := Value.pointer _) M rfl rfl rfl rfl rfl (by first | assumption | (simp; done) | (simp; omega)) ?_)); clear M; (try clear wx); intro wx M; simp only [List.set_cons_zero, List.set_cons_succ, Nat.zero_add, List.nil_append] at M)
      | (with_reducible (show wpList _ _ _ (Oper.mk _ (.build _ _) _ _ _ _ :: _) _ _); refine m_buildZ rfl rfl ?_)
      | (with_reducible (show wpList _ _ _ (Oper.mk _ (.call (Call.mk (.builtin .append) _ _)) _ _ _ _ :: _) _ _); (first | (refine m_append1 M rfl rfl rfl (by first | rfl | omega | (simp; done)) rfl (by first | rfl | assumption | (simp; done) | (simp; omega)) (by first | exact bA_one _ | exact wA_one _ | assumption | (simp [Value.oneCell']; done)) (by first | assumption | (simp only [maxLen]; omega)) (by omega) ?_)); clear M; (try clear wx); intro _ _ wx M; simp only [List.set_cons_zero, List.set_cons_succ, Nat.zero_add, List.nil_append] at M))
    go_ret2
    exact ⟨_, rfl, by rw [HE.out]; exact ⟨_, _, rfl, (M.nil_own 43 33).out_own (p := 0) rfl⟩, M.up⟩
  by_cases h1 : 256 < m
  · have HE := Lib.hid (show rrI s.data.toList = ([], 3) by rw [rrI, if_pos (.inr (by omega))])
    clear hsl hlen hmem hL hn hm hnm hct
    go_enter Tryd.func6, Tryd.ntmps6
    go_wp2_with (first
      | (go_at_call 17; (with_reducible refine mem_call M (HCT.out _) ?_); clear M; (try clear wx); rintro _ wx rfl _ M)
      | (with_reducible (show wpList _ _ _ (Oper.mk (some 23) (.buildSlice _ _ _) _ _ _ _ :: _) _ _); refine m_lit0 M rfl rfl ?_; clear M; (try clear wx); intro g23 wx M)
      | (with_reducible (show wpList _ _ _ (Oper.mk (some 11) (.alloc _) _ _ _ _ :: _) _ _); refine mem_new M rfl rfl ?_; clear M; (try clear wx); intro g11 wx M)
      | (with_reducible (show wpList _ _ _ (Oper.mk (some 62) (.buildSlice _ _ _) _ _ _ _ :: _) _ _); (first | (refine m_lit1A M rfl rfl rfl (by first | rfl | assumption | (simp; done) | (simp; omega)) (by decide) ?_) | (refine m_lit11 (v := Value.int _ _) M rfl rfl rfl rfl ?_) | (refine m_lit11 (v := Value.slice _ _ _) M rfl rfl rfl rfl ?_) | (refine m_lit11 (v := Value.bool _) M rfl rfl rfl rfl ?_) | (refine m_lit11 (v := Value.string _) M rfl rfl rfl rfl ?_) | (refine m_lit11 (v := Value.pointer _) M rfl rfl rfl rfl ?_)); clear M; (try clear wx); intro g62 wx M)
      | (with_reducible (show wpList _ _ _ (Oper.mk _ (.load _ _) _ _ _ _ :: _) _ _); (first | (refine m_load M rfl rfl rfl (by first | assumption | rfl) ?_) | (refine m_loadR M rfl rfl rfl (by first | rfl | assumption | (simp; done) | (simp; omega)) ?_)))
      | (with_reducible (show wpList _ _ _ (Oper.mk _ (.store _ _ _) _ _ _ _ :: _) _ _); (first | (refine m_storeR M rfl rfl rfl rfl (by first | rfl | assumption | (simp; done) | (simp; omega)) (by first | rfl | assumption | (simp; done) | (simp; omega)) (by first | exact bA_one _ | exact wA_one _ | assumption | (simp [Value.oneCell']; done)) ?_) | (refine m_store (v := Value.int _ _) M rfl rfl rfl rfl rfl (by first | assumption | (simp; done) | (simp; omega)) ?_) | (refine m_store (v := Value.slice _ _ _) M rfl rfl rfl rfl rfl (by first | assumption | (simp; done) | (simp; omega)) ?_) | (refine m_store (v := Value.bool _) M rfl rfl rfl rfl rfl (by first | assumption | (simp; done) | (simp; omega)) ?_) | (refine m_store (v := Value.string _) M rfl rfl rfl rfl rfl (by first | assumption | (simp; done) | (simp; omega)) ?_) | (refine m_store (v := Value.pointer _) M rfl rfl rfl rfl rfl (by first | assumption | (simp; done) | (simp; omega)) ?_)); clear M; (try clear wx); intro wx M; simp only [List.set_cons_zero, List.set_cons_succ, Nat.zero_add, List.nil_append] at M)
      | (with_reducible (show wpList _ _ _ (Oper.mk _ (.build _ _) _ _ _ _ :: _) _ _); refine m_buildZ rfl rfl ?_)
      | (with_reducible (show wpList _ _ _ (Oper.mk _ (.call (Call.mk (.builtin .append) _ _)) _ _ _ _ :: _) _ _); (first | (refine m_append1 M rfl rfl rfl (by first | rfl | omega | (simp; done)) rfl (by first | rfl | assumption | (simp; done) | (simp; omega)) (by first | exact bA_one _ | exact wA_one _ | assumption | (simp [Value.oneCell']; done)) (by first | assumption | (simp only [maxLen]; omega)) (by omega) ?_)); clear M; (try clear wx); intro _ _ wx M; simp only [List.set_cons_zero, List.set_cons_succ, Nat.zero_add, List.nil_append] at M))
    go_ret2
    exact ⟨_, rfl, by rw [HE.out]; exact ⟨_, _, rfl, (M.nil_own 43 33).out_own (p := 0) rfl⟩, M.up⟩
  have hdl : (sp 10 s.data.toList).dropLast = xs := by rw [hL, List.dropLast_concat]
  have HEN := Lib.hid (show ∀ j (h : j < xs.length), iLine (xs[j]'h) = none → rrI s.data.toList = ([], 5) from fun j h hj => by rw [rrI, if_neg (by omega), hdl, rdL_none hj (List.getElem_mem h)])
  have HEY := Lib.hid (show ∀ ps, rdL iLine xs = some ps → rrI s.data.toList = if ps.all lenOk = true ∧ recL ps = s.data.toList then (ps, 0) else ([], 5) from fun ps h => by
    rw [rrI, if_neg (by omega), hdl, h])
  have HLL := Lib.hid (show (stL ((xs ++ [y]).map tx)) = stL (xs.map tx) ++ [.string (tx y)] by simp [stL])
  have HXS := Lib.hid (show ∀ j (h : j < xs.length) (tl : List Value), (stL ((xs ++ [y]).map tx) ++ tl).toArray[j]? = some (.string (tx (xs[j]'h))) from fun j h tl => by
    rw [HLL.out, List.getElem?_toArray, List.append_assoc, List.getElem?_append_left (by simp [stL]; exact h)]
    simp [stL, h])
  have HME := Lib.hid (show ∀ j (h : j < xs.length), (xs[j]'h).length ≤ 1048576 from fun j h => by have := hmem _ (List.mem_append_left _ (List.getElem_mem h)); omega)
  have hm256 : m ≤ 256 := by omega
  clear hsl hlen hmem hL hn hm hct hdl HLL
  generalize stL ((xs ++ [y]).map tx) = LL at *
  go_enter Tryd.func6, Tryd.ntmps6
  go_wp2_with (first
    | (go_at_call 17; (with_reducible refine mem_call M (HCT.out _) ?_); clear M; (try clear wx); rintro _ wx rfl _ M)
    | (go_at_call 18; (with_reducible refine mem_callO M (HSP.out _ M.up) ?_); clear M; (try clear wx); intro bl cl wx M; obtain ⟨gl, tl, rfl, hcl, -, -, M⟩ := M.own_blk (p := 0) rfl (by omega); simp only [List.set_cons_zero, List.set_cons_succ, Nat.zero_add, List.nil_append] at M)
    | (with_reducible (show wpList _ _ _ (Oper.mk _ (.slice _ _ none (some _) none) _ _ _ _ :: _) _ _); refine m_sliceHi rfl rfl rfl (.inr ⟨_, rfl⟩) (h := m) (by first | rfl | (refine congrArg (Value.int .i64) ?_; omega)) (by omega) ?_)
    | (with_reducible (show wpList _ _ _ (Oper.mk (some 23) (.buildSlice _ _ _) _ _ _ _ :: _) _ _); refine m_lit0 M rfl rfl ?_; clear M; (try clear wx); intro g23 wx M)
    | (with_reducible (show wpList _ _ _ (Oper.mk (some 11) (.alloc _) _ _ _ _ :: _) _ _); refine mem_new M rfl rfl ?_; clear M; (try clear wx); intro g11 wx M)
    | (with_reducible (show wpList _ _ _ (Oper.mk (some 62) (.buildSlice _ _ _) _ _ _ _ :: _) _ _); (first | (refine m_lit1A M rfl rfl rfl (by first | rfl | assumption | (simp; done) | (simp; omega)) (by decide) ?_) | (refine m_lit11 (v := Value.int _ _) M rfl rfl rfl rfl ?_) | (refine m_lit11 (v := Value.slice _ _ _) M rfl rfl rfl rfl ?_) | (refine m_lit11 (v := Value.bool _) M rfl rfl rfl rfl ?_) | (refine m_lit11 (v := Value.string _) M rfl rfl rfl rfl ?_) | (refine m_lit11 (v := Value.pointer _) M rfl rfl rfl rfl ?_)); clear M; (try clear wx); intro g62 wx M)
    | (with_reducible (show wpList _ _ _ (Oper.mk _ (.load _ _) _ _ _ _ :: _) _ _); (first | (refine m_load M rfl rfl rfl (by first | assumption | rfl) ?_) | (refine m_loadR M rfl rfl rfl (by first | rfl | assumption | (simp; done) | (simp; omega)) ?_)))
    | (with_reducible (show wpList _ _ _ (Oper.mk _ (.store _ _ _) _ _ _ _ :: _) _ _); (first | (refine m_storeR M rfl rfl rfl rfl (by first | rfl | assumption | (simp; done) | (simp; omega)) (by first | rfl | assumption | (simp; done) | (simp; omega)) (by first | exact bA_one _ | exact wA_one _ | assumption | (simp [Value.oneCell']; done)) ?_) | (refine m_store (v := Value.int _ _) M rfl rfl rfl rfl rfl (by first | assumption | (simp; done) | (simp; omega)) ?_) | (refine m_store (v := Value.slice _ _ _) M rfl rfl rfl rfl rfl (by first | assumption | (simp; done) | (simp; omega)) ?_) | (refine m_store (v := Value.bool _) M rfl rfl rfl rfl rfl (by first | assumption | (simp; done) | (simp; omega)) ?_) | (refine m_store (v := Value.string _) M rfl rfl rfl rfl rfl (by first | assumption | (simp; done) | (simp; omega)) ?_) | (refine m_store (v := Value.pointer _) M rfl rfl rfl rfl rfl (by first | assumption | (simp; done) | (simp; omega)) ?_)); clear M; (try clear wx); intro wx M; simp only [List.set_cons_zero, List.set_cons_succ, Nat.zero_add, List.nil_append] at M)
    | (with_reducible (show wpList _ _ _ (Oper.mk _ (.build _ _) _ _ _ _ :: _) _ _); refine m_buildZ rfl rfl ?_)
    | (with_reducible (show wpList _ _ _ (Oper.mk _ (.call (Call.mk (.builtin .append) _ _)) _ _ _ _ :: _) _ _); (first | (refine m_append1 M rfl rfl rfl (by first | rfl | omega | (simp; done)) rfl (by first | rfl | assumption | (simp; done) | (simp; omega)) (by first | exact bA_one _ | exact wA_one _ | assumption | (simp [Value.oneCell']; done)) (by first | assumption | (simp only [maxLen]; omega)) (by omega) ?_)); clear M; (try clear wx); intro _ _ wx M; simp only [List.set_cons_zero, List.set_cons_succ, Nat.zero_add, List.nil_append] at M))
  go_loopg [4, 32] m (fun q o i wr => ∃ (j : Nat) (ps : List Pc) (b : Option Addr) (cap : Nat), j + q = m ∧ o = .slice b j cap ∧ i = .int .i64 (j : Int) ∧ Hid (ps.length = j ∧ rdL iLine (xs.take j) = some ps) ∧ Mem w wr [.own b cap 43 33 j (piL ps), .blk gl 9 (LL ++ tl).toArray])
  case atStart => exact ⟨0, [], _, _, by omega, rfl, rfl, Lib.hid ⟨rfl, rfl⟩, M.pick [1, 0] (by decide)⟩
  case round =>
    clear M
    obtain ⟨j, ps, b, cap, hj, rfl, rfl, HP, M⟩ := hrel
    by_cases hlt : j < m
    · have hjx : j < xs.length := by rw [HM.out]; exact hlt
      have HC := Lib.hid (HXS.out j hjx tl)
      have HN := Lib.hid (HEN.out j hjx)
      have hxl := HME.out j hjx
      have HT := Lib.hid (show xs.take (j + 1) = xs.take j ++ [xs[j]'hjx] from List.take_succ_eq_append_getElem hjx)
      have HJ := Lib.hid hj
      clear hj HXS HME
      generalize (xs[j]'hjx) = x at *
      have hcl2 := cut_len x
      have HCUT := Lib.hid (fun (wx : World) (h : Up w wx) => cut_c x hxl wx (HEV.out.up h))
      have I1 := @iLine_ok x
      have I2 := @iLine_key x
      have I3 := @iLine_num x
      generalize Lib.cut x [32] = ct at *
      obtain ⟨a, b', f⟩ := ct
      simp only at hcl2 HCUT I1 I2 I3
      have HR := Lib.hid (fun (wx : World) => readKey_r a (by omega) wx)
      by_cases hp : ∃ z, Lib.parseIntB 64 b' = .ok z
      · obtain ⟨z, hz⟩ := hp
        have HPI := Lib.hid (fun (wx : World) (_ : Up w wx) => parse_ok b' (by omega) z hz wx)
        generalize rdK a = kc at *
        obtain ⟨K, c1⟩ := kc
        have hk32 := K.2
        cases c1 with
        | true =>
          have HX := Lib.hid (show rdL iLine (xs.take (j + 1)) = some (ps ++ [(K, z)]) by
            rw [HT.out]
            exact rdL_snoc HP.out.2 (I1 rfl hz))
          have HZ := Lib.hid (pie_size K.1 K.2 z)
          have HPO := Lib.hid (pie_one (K, z))
          have HBT := Lib.hid (built_pie (K, z))
          have HK0 := Lib.hid (bA_one K.1)
          have HP2 := Lib.hid (show piL ps ++ (pieC K.1 z).toList = piL (ps ++ [(K, z)]) from piL_snoc ps (K, z))
          simp only [if_true] at HR
          clear I1 I2 I3 hz hcl2 HN
          go_wp2_with (first
            | (with_reducible (show wpList _ _ _ (Oper.mk _ (.indexAddr _ _ _) _ _ _ _ :: _) _ _); refine m_ix rfl rfl rfl j (by first | rfl | (refine congrArg (Value.int .i64) ?_; omega)) (by omega) ?_)
            | (go_at_call 19; (with_reducible refine mem_call M (HCUT.out _ M.up) ?_); clear M; (try clear wx); rintro _ wx rfl _ M)
            | (go_at_call 20; (with_reducible refine mem_call M (HR.out _) ?_); clear M; (try clear wx); rintro _ wx rfl _ M)
            | (go_at_call 21; (with_reducible refine mem_call M (HPI.out _ M.up) ?_); clear M; (try clear wx); rintro _ wx rfl _ M)
            | (with_reducible (show wpList _ _ _ (Oper.mk _ (.build _ _) _ _ _ _ :: _) _ _); refine m_build01 (v0 := .agg (bA K.1)) (v1 := .int .i64 z) rfl rfl rfl rfl HBT.out ?_)
            | (with_reducible (show wpList _ _ _ (Oper.mk (some 23) (.buildSlice _ _ _) _ _ _ _ :: _) _ _); refine m_lit0 M rfl rfl ?_; clear M; (try clear wx); intro g23 wx M)
            | (with_reducible (show wpList _ _ _ (Oper.mk (some 11) (.alloc _) _ _ _ _ :: _) _ _); refine mem_new M rfl rfl ?_; clear M; (try clear wx); intro g11 wx M)
            | (with_reducible (show wpList _ _ _ (Oper.mk (some 62) (.buildSlice _ _ _) _ _ _ _ :: _) _ _); (first | (refine m_lit1A M rfl rfl rfl (by first | exact HZ.out | exact pie_size _ rfl _ | (rw [bA_size]; exact hk32) | exact hk32 | (simp; done) | (simp; omega)) (by decide) ?_) | (refine m_lit11 (v := Value.int _ _) M rfl rfl rfl rfl ?_) | (refine m_lit11 (v := Value.slice _ _ _) M rfl rfl rfl rfl ?_) | (refine m_lit11 (v := Value.bool _) M rfl rfl rfl rfl ?_) | (refine m_lit11 (v := Value.string _) M rfl rfl rfl rfl ?_) | (refine m_lit11 (v := Value.pointer _) M rfl rfl rfl rfl ?_)); clear M; (try clear wx); intro g62 wx M)
            | (with_reducible (show wpList _ _ _ (Oper.mk _ (.load _ _) _ _ _ _ :: _) _ _); (first | (refine m_load (v := .string (tx x)) M rfl rfl rfl HC.out ?_) | (refine m_load M rfl rfl rfl (by first | assumption | rfl) ?_) | (refine m_loadR M rfl rfl rfl (by first | exact HZ.out | exact pie_size _ rfl _ | (rw [bA_size]; exact hk32) | exact hk32 | (simp; done) | (simp; omega)) ?_)))
            | (with_reducible (show wpList _ _ _ (Oper.mk _ (.store _ _ _) _ _ _ _ :: _) _ _); (first | (refine m_storeR M rfl rfl rfl rfl (by first | exact HZ.out | exact pie_size _ rfl _ | (rw [bA_size]; exact hk32) | exact hk32 | (simp; done) | (simp; omega)) (by first | exact HZ.out | exact pie_size _ rfl _ | (rw [bA_size]; exact hk32) | exact hk32 | (simp; done) | (simp; omega)) (by first | exact HPO.out | exact HK0.out | exact bA_one _) ?_) | (refine m_store (v := Value.int _ _) M rfl rfl rfl rfl rfl (by first | assumption | (simp; done) | (simp; omega)) ?_) | (refine m_store (v := Value.slice _ _ _) M rfl rfl rfl rfl rfl (by first | assumption | (simp; done) | (simp; omega)) ?_) | (refine m_store (v := Value.bool _) M rfl rfl rfl rfl rfl (by first | assumption | (simp; done) | (simp; omega)) ?_) | (refine m_store (v := Value.string _) M rfl rfl rfl rfl rfl (by first | assumption | (simp; done) | (simp; omega)) ?_) | (refine m_store (v := Value.pointer _) M rfl rfl rfl rfl rfl (by first | assumption | (simp; done) | (simp; omega)) ?_)); clear M; (try clear wx); intro wx M; simp only [List.set_cons_zero, List.set_cons_succ, Nat.zero_add, List.nil_append] at M)
            | (with_reducible (show wpList _ _ _ (Oper.mk _ (.build _ _) _ _ _ _ :: _) _ _); refine m_buildZ rfl rfl ?_)
            | (with_reducible (show wpList _ _ _ (Oper.mk _ (.call (Call.mk (.builtin .append) _ _)) _ _ _ _ :: _) _ _); (first | (refine m_append1 M rfl rfl rfl (by first | rfl | omega | (simp; done)) rfl (by first | exact HZ.out | exact pie_size _ rfl _ | (rw [bA_size]; exact hk32) | exact hk32 | (simp; done) | (simp; omega)) (by first | exact HPO.out | exact HK0.out | exact bA_one _) (by first | assumption | (simp only [maxLen]; omega)) (by omega) ?_)); clear M; (try clear wx); intro _ _ wx M; simp only [List.set_cons_zero, List.set_cons_succ, Nat.zero_add, List.nil_append] at M))
          have M := M.tail
          have M := fun (h : piL ps ++ (pieC K.1 z).toList = piL (ps ++ [(K, z)])) => (show Mem w _ [.own _ _ 43 33 (j + 1) (piL (ps ++ [(K, z)])), .blk gl 9 (LL ++ tl).toArray] from h ▸ M)
          replace M := M HP2.out
          have hj := HJ.out
          go_roundg (gk - 1)
          case measure => omega
          case rel => exact ⟨j + 1, ps ++ [(K, z)], _, _, by omega, rfl, by go_num, Lib.hid ⟨by rw [List.length_append, HP.out.1]; rfl, HX.out⟩, M⟩
        | false =>
          have HE := Lib.hid (HN.out (I2 rfl))
          simp only [Bool.false_eq_true, if_false] at HR
          clear I1 I2 I3 hz hcl2 HN
          go_wp2_with (first
            | (with_reducible (show wpList _ _ _ (Oper.mk _ (.indexAddr _ _ _) _ _ _ _ :: _) _ _); refine m_ix rfl rfl rfl j (by first | rfl | (refine congrArg (Value.int .i64) ?_; omega)) (by omega) ?_)
            | (go_at_call 19; (with_reducible refine mem_call M (HCUT.out _ M.up) ?_); clear M; (try clear wx); rintro _ wx rfl _ M)
            | (go_at_call 20; (with_reducible refine mem_call M (HR.out _) ?_); clear M; (try clear wx); rintro _ wx rfl _ M)
            | (go_at_call 21; (with_reducible refine mem_call M (HPI.out _ M.up) ?_); clear M; (try clear wx); rintro _ wx rfl _ M)
            | (with_reducible (show wpList _ _ _ (Oper.mk _ (.build _ _) _ _ _ _ :: _) _ _); refine m_build01 (v0 := .agg (bA K.1)) (v1 := .int .i64 z) rfl rfl rfl rfl HBT.out ?_)
            | (with_reducible (show wpList _ _ _ (Oper.mk (some 23) (.buildSlice _ _ _) _ _ _ _ :: _) _ _); refine m_lit0 M rfl rfl ?_; clear M; (try clear wx); intro g23 wx M)
            | (with_reducible (show wpList _ _ _ (Oper.mk (some 11) (.alloc _) _ _ _ _ :: _) _ _); refine mem_new M rfl rfl ?_; clear M; (try clear wx); intro g11 wx M)
            | (with_reducible (show wpList _ _ _ (Oper.mk (some 62) (.buildSlice _ _ _) _ _ _ _ :: _) _ _); (first | (refine m_lit1A M rfl rfl rfl (by first | exact HZ.out | exact pie_size _ rfl _ | (rw [bA_size]; exact hk32) | exact hk32 | (simp; done) | (simp; omega)) (by decide) ?_) | (refine m_lit11 (v := Value.int _ _) M rfl rfl rfl rfl ?_) | (refine m_lit11 (v := Value.slice _ _ _) M rfl rfl rfl rfl ?_) | (refine m_lit11 (v := Value.bool _) M rfl rfl rfl rfl ?_) | (refine m_lit11 (v := Value.string _) M rfl rfl rfl rfl ?_) | (refine m_lit11 (v := Value.pointer _) M rfl rfl rfl rfl ?_)); clear M; (try clear wx); intro g62 wx M)
            | (with_reducible (show wpList _ _ _ (Oper.mk _ (.load _ _) _ _ _ _ :: _) _ _); (first | (refine m_load (v := .string (tx x)) M rfl rfl rfl HC.out ?_) | (refine m_load M rfl rfl rfl (by first | assumption | rfl) ?_) | (refine m_loadR M rfl rfl rfl (by first | exact HZ.out | exact pie_size _ rfl _ | (rw [bA_size]; exact hk32) | exact hk32 | (simp; done) | (simp; omega)) ?_)))
            | (with_reducible (show wpList _ _ _ (Oper.mk _ (.store _ _ _) _ _ _ _ :: _) _ _); (first | (refine m_storeR M rfl rfl rfl rfl (by first | exact HZ.out | exact pie_size _ rfl _ | (rw [bA_size]; exact hk32) | exact hk32 | (simp; done) | (simp; omega)) (by first | exact HZ.out | exact pie_size _ rfl _ | (rw [bA_size]; exact hk32) | exact hk32 | (simp; done) | (simp; omega)) (by first | exact HPO.out | exact HK0.out | exact bA_one _) ?_) | (refine m_store (v := Value.int _ _) M rfl rfl rfl rfl rfl (by first | assumption | (simp; done) | (simp; omega)) ?_) | (refine m_store (v := Value.slice _ _ _) M rfl rfl rfl rfl rfl (by first | assumption | (simp; done) | (simp; omega)) ?_) | (refine m_store (v := Value.bool _) M rfl rfl rfl rfl rfl (by first | assumption | (simp; done) | (simp; omega)) ?_) | (refine m_store (v := Value.string _) M rfl rfl rfl rfl rfl (by first | assumption | (simp; done) | (simp; omega)) ?_) | (refine m_store (v := Value.pointer _) M rfl rfl rfl rfl rfl (by first | assumption | (simp; done) | (simp; omega)) ?_)); clear M; (try clear wx); intro wx M; simp only [List.set_cons_zero, List.set_cons_succ, Nat.zero_add, List.nil_append] at M)
            | (with_reducible (show wpList _ _ _ (Oper.mk _ (.build _ _) _ _ _ _ :: _) _ _); refine m_buildZ rfl rfl ?_)
            | (with_reducible (show wpList _ _ _ (Oper.mk _ (.call (Call.mk (.builtin .append) _ _)) _ _ _ _ :: _) _ _); (first | (refine m_append1 M rfl rfl rfl (by first | rfl | omega | (simp; done)) rfl (by first | exact HZ.out | exact pie_size _ rfl _ | (rw [bA_size]; exact hk32) | exact hk32 | (simp; done) | (simp; omega)) (by first | exact HPO.out | exact HK0.out | exact bA_one _) (by first | assumption | (simp only [maxLen]; omega)) (by omega) ?_)); clear M; (try clear wx); intro _ _ wx M; simp only [List.set_cons_zero, List.set_cons_succ, Nat.zero_add, List.nil_append] at M))
          go_ret2
          exact ⟨_, rfl, by rw [HE.out]; exact ⟨_, _, rfl, (M.nil_own 43 33).out_own (p := 0) rfl⟩, M.up⟩
      · have hpn : ∀ v, Lib.parseIntB 64 b' ≠ .ok v := fun v e => hp ⟨v, e⟩
        have HPI := Lib.hid (fun (wx : World) (h : Up w wx) => parse_no b' (by omega) hpn wx (HEV.out.up h))
        have HE := Lib.hid (HN.out (I3 hpn))
        generalize rdK a = kc at *
        obtain ⟨K, c1⟩ := kc
        have hk32 := K.2
        clear I1 I2 I3 hp hpn hcl2 HN
        cases c1 with
        | true =>
          simp only [if_true] at HR
          go_wp2_with (first
            | (with_reducible (show wpList _ _ _ (Oper.mk _ (.indexAddr _ _ _) _ _ _ _ :: _) _ _); refine m_ix rfl rfl rfl j (by first | rfl | (refine congrArg (Value.int .i64) ?_; omega)) (by omega) ?_)
            | (go_at_call 19; (with_reducible refine mem_call M (HCUT.out _ M.up) ?_); clear M; (try clear wx); rintro _ wx rfl _ M)
            | (go_at_call 20; (with_reducible refine mem_call M (HR.out _) ?_); clear M; (try clear wx); rintro _ wx rfl _ M)
            | (go_at_call 21; (with_reducible refine mem_call M (HPI.out _ M.up) ?_); clear M; (try clear wx); rintro _ wx ⟨z, T9, N9, rfl⟩ _ M)
            | (with_reducible (show wpList _ _ _ (Oper.mk _ (.build _ _) _ _ _ _ :: _) _ _); refine m_build01 (v0 := .agg (bA K.1)) (v1 := .int .i64 z) rfl rfl rfl rfl HBT.out ?_)
            | (with_reducible (show wpList _ _ _ (Oper.mk (some 23) (.buildSlice _ _ _) _ _ _ _ :: _) _ _); refine m_lit0 M rfl rfl ?_; clear M; (try clear wx); intro g23 wx M)
            | (with_reducible (show wpList _ _ _ (Oper.mk (some 11) (.alloc _) _ _ _ _ :: _) _ _); refine mem_new M rfl rfl ?_; clear M; (try clear wx); intro g11 wx M)
            | (with_reducible (show wpList _ _ _ (Oper.mk (some 62) (.buildSlice _ _ _) _ _ _ _ :: _) _ _); (first | (refine m_lit1A M rfl rfl rfl (by first | exact HZ.out | exact pie_size _ rfl _ | (rw [bA_size]; exact hk32) | exact hk32 | (simp; done) | (simp; omega)) (by decide) ?_) | (refine m_lit11 (v := Value.int _ _) M rfl rfl rfl rfl ?_) | (refine m_lit11 (v := Value.slice _ _ _) M rfl rfl rfl rfl ?_) | (refine m_lit11 (v := Value.bool _) M rfl rfl rfl rfl ?_) | (refine m_lit11 (v := Value.string _) M rfl rfl rfl rfl ?_) | (refine m_lit11 (v := Value.pointer _) M rfl rfl rfl rfl ?_)); clear M; (try clear wx); intro g62 wx M)
            | (with_reducible (show wpList _ _ _ (Oper.mk _ (.load _ _) _ _ _ _ :: _) _ _); (first | (refine m_load (v := .string (tx x)) M rfl rfl rfl HC.out ?_) | (refine m_load M rfl rfl rfl (by first | assumption | rfl) ?_) | (refine m_loadR M rfl rfl rfl (by first | exact HZ.out | exact pie_size _ rfl _ | (rw [bA_size]; exact hk32) | exact hk32 | (simp; done) | (simp; omega)) ?_)))
            | (with_reducible (show wpList _ _ _ (Oper.mk _ (.store _ _ _) _ _ _ _ :: _) _ _); (first | (refine m_storeR M rfl rfl rfl rfl (by first | exact HZ.out | exact pie_size _ rfl _ | (rw [bA_size]; exact hk32) | exact hk32 | (simp; done) | (simp; omega)) (by first | exact HZ.out | exact pie_size _ rfl _ | (rw [bA_size]; exact hk32) | exact hk32 | (simp; done) | (simp; omega)) (by first | exact HPO.out | exact HK0.out | exact bA_one _) ?_) | (refine m_store (v := Value.int _ _) M rfl rfl rfl rfl rfl (by first | assumption | (simp; done) | (simp; omega)) ?_) | (refine m_store (v := Value.slice _ _ _) M rfl rfl rfl rfl rfl (by first | assumption | (simp; done) | (simp; omega)) ?_) | (refine m_store (v := Value.bool _) M rfl rfl rfl rfl rfl (by first | assumption | (simp; done) | (simp; omega)) ?_) | (refine m_store (v := Value.string _) M rfl rfl rfl rfl rfl (by first | assumption | (simp; done) | (simp; omega)) ?_) | (refine m_store (v := Value.pointer _) M rfl rfl rfl rfl rfl (by first | assumption | (simp; done) | (simp; omega)) ?_)); clear M; (try clear wx); intro wx M; simp only [List.set_cons_zero, List.set_cons_succ, Nat.zero_add, List.nil_append] at M)
            | (with_reducible (show wpList _ _ _ (Oper.mk _ (.build _ _) _ _ _ _ :: _) _ _); refine m_buildZ rfl rfl ?_)
            | (with_reducible (show wpList _ _ _ (Oper.mk _ (.call (Call.mk (.builtin .append) _ _)) _ _ _ _ :: _) _ _); (first | (refine m_append1 M rfl rfl rfl (by first | rfl | omega | (simp; done)) rfl (by first | exact HZ.out | exact pie_size _ rfl _ | (rw [bA_size]; exact hk32) | exact hk32 | (simp; done) | (simp; omega)) (by first | exact HPO.out | exact HK0.out | exact bA_one _) (by first | assumption | (simp only [maxLen]; omega)) (by omega) ?_)); clear M; (try clear wx); intro _ _ wx M; simp only [List.set_cons_zero, List.set_cons_succ, Nat.zero_add, List.nil_append] at M))
          go_ret2
          exact ⟨_, rfl, by rw [HE.out]; exact ⟨_, _, rfl, (M.nil_own 43 33).out_own (p := 0) rfl⟩, M.up⟩
        | false =>
          simp only [Bool.false_eq_true, if_false] at HR
          go_wp2_with (first
            | (with_reducible (show wpList _ _ _ (Oper.mk _ (.indexAddr _ _ _) _ _ _ _ :: _) _ _); refine m_ix rfl rfl rfl j (by first | rfl | (refine congrArg (Value.int .i64) ?_; omega)) (by omega) ?_)
            | (go_at_call 19; (with_reducible refine mem_call M (HCUT.out _ M.up) ?_); clear M; (try clear wx); rintro _ wx rfl _ M)
            | (go_at_call 20; (with_reducible refine mem_call M (HR.out _) ?_); clear M; (try clear wx); rintro _ wx rfl _ M)
            | (go_at_call 21; (with_reducible refine mem_call M (HPI.out _ M.up) ?_); clear M; (try clear wx); rintro _ wx ⟨z, T9, N9, rfl⟩ _ M)
            | (with_reducible (show wpList _ _ _ (Oper.mk _ (.build _ _) _ _ _ _ :: _) _ _); refine m_build01 (v0 := .agg (bA K.1)) (v1 := .int .i64 z) rfl rfl rfl rfl HBT.out ?_)
            | (with_reducible (show wpList _ _ _ (Oper.mk (some 23) (.buildSlice _ _ _) _ _ _ _ :: _) _ _); refine m_lit0 M rfl rfl ?_; clear M; (try clear wx); intro g23 wx M)
            | (with_reducible (show wpList _ _ _ (Oper.mk (some 11) (.alloc _) _ _ _ _ :: _) _ _); refine mem_new M rfl rfl ?_; clear M; (try clear wx); intro g11 wx M)
            | (with_reducible (show wpList _ _ _ (Oper.mk (some 62) (.buildSlice _ _ _) _ _ _ _ :: _) _ _); (first | (refine m_lit1A M rfl rfl rfl (by first | exact HZ.out | exact pie_size _ rfl _ | (rw [bA_size]; exact hk32) | exact hk32 | (simp; done) | (simp; omega)) (by decide) ?_) | (refine m_lit11 (v := Value.int _ _) M rfl rfl rfl rfl ?_) | (refine m_lit11 (v := Value.slice _ _ _) M rfl rfl rfl rfl ?_) | (refine m_lit11 (v := Value.bool _) M rfl rfl rfl rfl ?_) | (refine m_lit11 (v := Value.string _) M rfl rfl rfl rfl ?_) | (refine m_lit11 (v := Value.pointer _) M rfl rfl rfl rfl ?_)); clear M; (try clear wx); intro g62 wx M)
            | (with_reducible (show wpList _ _ _ (Oper.mk _ (.load _ _) _ _ _ _ :: _) _ _); (first | (refine m_load (v := .string (tx x)) M rfl rfl rfl HC.out ?_) | (refine m_load M rfl rfl rfl (by first | assumption | rfl) ?_) | (refine m_loadR M rfl rfl rfl (by first | exact HZ.out | exact pie_size _ rfl _ | (rw [bA_size]; exact hk32) | exact hk32 | (simp; done) | (simp; omega)) ?_)))
            | (with_reducible (show wpList _ _ _ (Oper.mk _ (.store _ _ _) _ _ _ _ :: _) _ _); (first | (refine m_storeR M rfl rfl rfl rfl (by first | exact HZ.out | exact pie_size _ rfl _ | (rw [bA_size]; exact hk32) | exact hk32 | (simp; done) | (simp; omega)) (by first | exact HZ.out | exact pie_size _ rfl _ | (rw [bA_size]; exact hk32) | exact hk32 | (simp; done) | (simp; omega)) (by first | exact HPO.out | exact HK0.out | exact bA_one _) ?_) | (refine m_store (v := Value.int _ _) M rfl rfl rfl rfl rfl (by first | assumption | (simp; done) | (simp; omega)) ?_) | (refine m_store (v := Value.slice _ _ _) M rfl rfl rfl rfl rfl (by first | assumption | (simp; done) | (simp; omega)) ?_) | (refine m_store (v := Value.bool _) M rfl rfl rfl rfl rfl (by first | assumption | (simp; done) | (simp; omega)) ?_) | (refine m_store (v := Value.string _) M rfl rfl rfl rfl rfl (by first | assumption | (simp; done) | (simp; omega)) ?_) | (refine m_store (v := Value.pointer _) M rfl rfl rfl rfl rfl (by first | assumption | (simp; done) | (simp; omega)) ?_)); clear M; (try clear wx); intro wx M; simp only [List.set_cons_zero, List.set_cons_succ, Nat.zero_add, List.nil_append] at M)
            | (with_reducible (show wpList _ _ _ (Oper.mk _ (.build _ _) _ _ _ _ :: _) _ _); refine m_buildZ rfl rfl ?_)
            | (with_reducible (show wpList _ _ _ (Oper.mk _ (.call (Call.mk (.builtin .append) _ _)) _ _ _ _ :: _) _ _); (first | (refine m_append1 M rfl rfl rfl (by first | rfl | omega | (simp; done)) rfl (by first | exact HZ.out | exact pie_size _ rfl _ | (rw [bA_size]; exact hk32) | exact hk32 | (simp; done) | (simp; omega)) (by first | exact HPO.out | exact HK0.out | exact bA_one _) (by first | assumption | (simp only [maxLen]; omega)) (by omega) ?_)); clear M; (try clear wx); intro _ _ wx M; simp only [List.set_cons_zero, List.set_cons_succ, Nat.zero_add, List.nil_append] at M))
          go_ret2
          exact ⟨_, rfl, by rw [HE.out]; exact ⟨_, _, rfl, (M.nil_own 43 33).out_own (p := 0) rfl⟩, M.up⟩
    · obtain rfl : j = m := by omega
      have HR := Lib.hid (HEY.out ps (by
        have := HP.out.2
        rwa [List.take_of_length_le (by rw [HM.out]; exact Nat.le_refl _)] at this))
      have HPL := Lib.hid HP.out.1
      have HA := Lib.hid (fun (v : Value) (wx : World) (h : Rd wx 33 v j (piL ps)) => areLengths_c v j ps HPL.out wx h)
      clear HXS HME HEN HEY HP hj hlt
      cases hall : ps.all lenOk with
      | false =>
        have HE := Lib.hid (show rrI s.data.toList = ([], 5) by rw [HR.out, if_neg (fun h => by rw [hall] at h; cases h.1)])
        rw [hall] at HA
        clear HR hall
        go_wp2_with (first
          | (go_at_call 22; (with_reducible refine mem_call M (HA.out _ _ (M.rdP ps)) ?_); clear M; (try clear wx); rintro _ wx rfl _ M)
          | (with_reducible (show wpList _ _ _ (Oper.mk (some 23) (.buildSlice _ _ _) _ _ _ _ :: _) _ _); refine m_lit0 M rfl rfl ?_; clear M; (try clear wx); intro g23 wx M)
          | (with_reducible (show wpList _ _ _ (Oper.mk (some 11) (.alloc _) _ _ _ _ :: _) _ _); refine mem_new M rfl rfl ?_; clear M; (try clear wx); intro g11 wx M)
          | (with_reducible (show wpList _ _ _ (Oper.mk (some 62) (.buildSlice _ _ _) _ _ _ _ :: _) _ _); (first | (refine m_lit1A M rfl rfl rfl (by first | rfl | assumption | (simp; done) | (simp; omega)) (by decide) ?_) | (refine m_lit11 (v := Value.int _ _) M rfl rfl rfl rfl ?_) | (refine m_lit11 (v := Value.slice _ _ _) M rfl rfl rfl rfl ?_) | (refine m_lit11 (v := Value.bool _) M rfl rfl rfl rfl ?_) | (refine m_lit11 (v := Value.string _) M rfl rfl rfl rfl ?_) | (refine m_lit11 (v := Value.pointer _) M rfl rfl rfl rfl ?_)); clear M; (try clear wx); intro g62 wx M)
          | (with_reducible (show wpList _ _ _ (Oper.mk _ (.load _ _) _ _ _ _ :: _) _ _); (first | (refine m_load M rfl rfl rfl (by first | assumption | rfl) ?_) | (refine m_loadR M rfl rfl rfl (by first | rfl | assumption | (simp; done) | (simp; omega)) ?_)))
          | (with_reducible (show wpList _ _ _ (Oper.mk _ (.store _ _ _) _ _ _ _ :: _) _ _); (first | (refine m_storeR M rfl rfl rfl rfl (by first | rfl | assumption | (simp; done) | (simp; omega)) (by first | rfl | assumption | (simp; done) | (simp; omega)) (by first | exact bA_one _ | exact wA_one _ | assumption | (simp [Value.oneCell']; done)) ?_) | (refine m_store (v := Value.int _ _) M rfl rfl rfl rfl rfl (by first | assumption | (simp; done) | (simp; omega)) ?_) | (refine m_store (v := Value.slice _ _ _) M rfl rfl rfl rfl rfl (by first | assumption | (simp; done) | (simp; omega)) ?_) | (refine m_store (v := Value.bool _) M rfl rfl rfl rfl rfl (by first | assumption | (simp; done) | (simp; omega)) ?_) | (refine m_store (v := Value.string _) M rfl rfl rfl rfl rfl (by first | assumption | (simp; done) | (simp; omega)) ?_) | (refine m_store (v := Value.pointer _) M rfl rfl rfl rfl rfl (by first | assumption | (simp; done) | (simp; omega)) ?_)); clear M; (try clear wx); intro wx M; simp only [List.set_cons_zero, List.set_cons_succ, Nat.zero_add, List.nil_append] at M)
          | (with_reducible (show wpList _ _ _ (Oper.mk _ (.build _ _) _ _ _ _ :: _) _ _); refine m_buildZ rfl rfl ?_)
          | (with_reducible (show wpList _ _ _ (Oper.mk _ (.call (Call.mk (.builtin .append) _ _)) _ _ _ _ :: _) _ _); (first | (refine m_append1 M rfl rfl rfl (by first | rfl | omega | (simp; done)) rfl (by first | rfl | assumption | (simp; done) | (simp; omega)) (by first | exact bA_one _ | exact wA_one _ | assumption | (simp [Value.oneCell']; done)) (by first | assumption | (simp only [maxLen]; omega)) (by omega) ?_)); clear M; (try clear wx); intro _ _ wx M; simp only [List.set_cons_zero, List.set_cons_succ, Nat.zero_add, List.nil_append] at M))
        go_ret2
        exact ⟨_, rfl, by rw [HE.out]; exact ⟨_, _, rfl, (M.nil_own 43 33).out_own (p := 0) rfl⟩, M.up⟩
      | true =>
        have HRT := Lib.hid (fun (v : Value) (wx : World) (h : Rd wx 33 v j (piL ps)) (hb : Up w wx) => recipeText_c v j ps HPL.out hm256 hall wx h (HEV.out.up hb).1)
        rw [hall] at HA
        by_cases hq : recL ps = s.data.toList
        · have HE := Lib.hid (show rrI s.data.toList = (ps, 0) by rw [HR.out, if_pos ⟨hall, hq⟩])
          have hb : (tx (recL ps)).toList == s.toList := by rw [Lib.toList_data, Lib.toList_data, tx_data, hq]; simp
          clear HR hall hq
          generalize tx (recL ps) = T at *
          go_wp2_with (first
            | (go_at_call 22; (with_reducible refine mem_call M (HA.out _ _ (M.rdP ps)) ?_); clear M; (try clear wx); rintro _ wx rfl _ M)
            | (go_at_call 23; (with_reducible refine mem_call M (HRT.out _ _ (M.rdP ps) M.up) ?_); clear M; (try clear wx); rintro _ wx rfl _ M)
            | (with_reducible (show wpList _ _ _ (Oper.mk (some 23) (.buildSlice _ _ _) _ _ _ _ :: _) _ _); refine m_lit0 M rfl rfl ?_; clear M; (try clear wx); intro g23 wx M)
            | (with_reducible (show wpList _ _ _ (Oper.mk (some 11) (.alloc _) _ _ _ _ :: _) _ _); refine mem_new M rfl rfl ?_; clear M; (try clear wx); intro g11 wx M)
            | (with_reducible (show wpList _ _ _ (Oper.mk (some 62) (.buildSlice _ _ _) _ _ _ _ :: _) _ _); (first | (refine m_lit1A M rfl rfl rfl (by first | rfl | assumption | (simp; done) | (simp; omega)) (by decide) ?_) | (refine m_lit11 (v := Value.int _ _) M rfl rfl rfl rfl ?_) | (refine m_lit11 (v := Value.slice _ _ _) M rfl rfl rfl rfl ?_) | (refine m_lit11 (v := Value.bool _) M rfl rfl rfl rfl ?_) | (refine m_lit11 (v := Value.string _) M rfl rfl rfl rfl ?_) | (refine m_lit11 (v := Value.pointer _) M rfl rfl rfl rfl ?_)); clear M; (try clear wx); intro g62 wx M)
            | (with_reducible (show wpList _ _ _ (Oper.mk _ (.load _ _) _ _ _ _ :: _) _ _); (first | (refine m_load M rfl rfl rfl (by first | assumption | rfl) ?_) | (refine m_loadR M rfl rfl rfl (by first | rfl | assumption | (simp; done) | (simp; omega)) ?_)))
            | (with_reducible (show wpList _ _ _ (Oper.mk _ (.store _ _ _) _ _ _ _ :: _) _ _); (first | (refine m_storeR M rfl rfl rfl rfl (by first | rfl | assumption | (simp; done) | (simp; omega)) (by first | rfl | assumption | (simp; done) | (simp; omega)) (by first | exact bA_one _ | exact wA_one _ | assumption | (simp [Value.oneCell']; done)) ?_) | (refine m_store (v := Value.int _ _) M rfl rfl rfl rfl rfl (by first | assumption | (simp; done) | (simp; omega)) ?_) | (refine m_store (v := Value.slice _ _ _) M rfl rfl rfl rfl rfl (by first | assumption | (simp; done) | (simp; omega)) ?_) | (refine m_store (v := Value.bool _) M rfl rfl rfl rfl rfl (by first | assumption | (simp; done) | (simp; omega)) ?_) | (refine m_store (v := Value.string _) M rfl rfl rfl rfl rfl (by first | assumption | (simp; done) | (simp; omega)) ?_) | (refine m_store (v := Value.pointer _) M rfl rfl rfl rfl rfl (by first | assumption | (simp; done) | (simp; omega)) ?_)); clear M; (try clear wx); intro wx M; simp only [List.set_cons_zero, List.set_cons_succ, Nat.zero_add, List.nil_append] at M)
            | (with_reducible (show wpList _ _ _ (Oper.mk _ (.build _ _) _ _ _ _ :: _) _ _); refine m_buildZ rfl rfl ?_)
            | (with_reducible (show wpList _ _ _ (Oper.mk _ (.call (Call.mk (.builtin .append) _ _)) _ _ _ _ :: _) _ _); (first | (refine m_append1 M rfl rfl rfl (by first | rfl | omega | (simp; done)) rfl (by first | rfl | assumption | (simp; done) | (simp; omega)) (by first | exact bA_one _ | exact wA_one _ | assumption | (simp [Value.oneCell']; done)) (by first | assumption | (simp only [maxLen]; omega)) (by omega) ?_)); clear M; (try clear wx); intro _ _ wx M; simp only [List.set_cons_zero, List.set_cons_succ, Nat.zero_add, List.nil_append] at M))
          go_ret2
          exact ⟨_, rfl, by rw [HE.out]; show OwnR2 w _ 43 33 _ ps.length (piL ps) (.int .i64 0); rw [HPL.out]; exact ⟨_, _, rfl, M.out_own (p := 0) rfl⟩, M.up⟩
        · have HE := Lib.hid (show rrI s.data.toList = ([], 5) by rw [HR.out, if_neg (fun h => hq h.2)])
          have hb : ((tx (recL ps)).toList == s.toList) = false := by
            rw [Lib.toList_data, Lib.toList_data, tx_data, beq_eq_false_iff_ne]
            exact hq
          clear HR hall hq
          generalize tx (recL ps) = T at *
          go_wp2_with (first
            | (go_at_call 22; (with_reducible refine mem_call M (HA.out _ _ (M.rdP ps)) ?_); clear M; (try clear wx); rintro _ wx rfl _ M)
            | (go_at_call 23; (with_reducible refine mem_call M (HRT.out _ _ (M.rdP ps) M.up) ?_); clear M; (try clear wx); rintro _ wx rfl _ M)
            | (with_reducible (show wpList _ _ _ (Oper.mk (some 23) (.buildSlice _ _ _) _ _ _ _ :: _) _ _); refine m_lit0 M rfl rfl ?_; clear M; (try clear wx); intro g23 wx M)
            | (with_reducible (show wpList _ _ _ (Oper.mk (some 11) (.alloc _) _ _ _ _ :: _) _ _); refine mem_new M rfl rfl ?_; clear M; (try clear wx); intro g11 wx M)
            | (with_reducible (show wpList _ _ _ (Oper.mk (some 62) (.buildSlice _ _ _) _ _ _ _ :: _) _ _); (first | (refine m_lit1A M rfl rfl rfl (by first | rfl | assumption | (simp; done) | (simp; omega)) (by decide) ?_) | (refine m_lit11 (v := Value.int _ _) M rfl rfl rfl rfl ?_) | (refine m_lit11 (v := Value.slice _ _ _) M rfl rfl rfl rfl ?_) | (refine m_lit11 (v := Value.bool _) M rfl rfl rfl rfl ?_) | (refine m_lit11 (v := Value.string _) M rfl rfl rfl rfl ?_) | (refine m_lit11 (v := Value.pointer _) M rfl rfl rfl rfl ?_)); clear M; (try clear wx); intro g62 wx M)
            | (with_reducible (show wpList _ _ _ (Oper.mk _ (.load _ _) _ _ _ _ :: _) _ _); (first | (refine m_load M rfl rfl rfl (by first | assumption | rfl) ?_) | (refine m_loadR M rfl rfl rfl (by first | rfl | assumption | (simp; done) | (simp; omega)) ?_)))
            | (with_reducible (show wpList _ _ _ (Oper.mk _ (.store _ _ _) _ _ _ _ :: _) _ _); (first | (refine m_storeR M rfl rfl rfl rfl (by first | rfl | assumption | (simp; done) | (simp; omega)) (by first | rfl | assumption | (simp; done) | (simp; omega)) (by first | exact bA_one _ | exact wA_one _ | assumption | (simp [Value.oneCell']; done)) ?_) | (refine m_store (v := Value.int _ _) M rfl rfl rfl rfl rfl (by first | assumption | (simp; done) | (simp; omega)) ?_) | (refine m_store (v := Value.slice _ _ _) M rfl rfl rfl rfl rfl (by first | assumption | (simp; done) | (simp; omega)) ?_) | (refine m_store (v := Value.bool _) M rfl rfl rfl rfl rfl (by first | assumption | (simp; done) | (simp; omega)) ?_) | (refine m_store (v := Value.string _) M rfl rfl rfl rfl rfl (by first | assumption | (simp; done) | (simp; omega)) ?_) | (refine m_store (v := Value.pointer _) M rfl rfl rfl rfl rfl (by first | assumption | (simp; done) | (simp; omega)) ?_)); clear M; (try clear wx); intro wx M; simp only [List.set_cons_zero, List.set_cons_succ, Nat.zero_add, List.nil_append] at M)
            | (with_reducible (show wpList _ _ _ (Oper.mk _ (.build _ _) _ _ _ _ :: _) _ _); refine m_buildZ rfl rfl ?_)
            | (with_reducible (show wpList _ _ _ (Oper.mk _ (.call (Call.mk (.builtin .append) _ _)) _ _ _ _ :: _) _ _); (first | (refine m_append1 M rfl rfl rfl (by first | rfl | omega | (simp; done)) rfl (by first | rfl | assumption | (simp; done) | (simp; omega)) (by first | exact bA_one _ | exact wA_one _ | assumption | (simp [Value.oneCell']; done)) (by first | assumption | (simp only [maxLen]; omega)) (by omega) ?_)); clear M; (try clear wx); intro _ _ wx M; simp only [List.set_cons_zero, List.set_cons_succ, Nat.zero_add, List.nil_append] at M))
          go_ret2
          exact ⟨_, rfl, by rw [HE.out]; exact ⟨_, _, rfl, (M.nil_own 43 33).out_own (p := 0) rfl⟩, M.up⟩

end Go.Proofs.YtmbhaoiahlbglaaDoor

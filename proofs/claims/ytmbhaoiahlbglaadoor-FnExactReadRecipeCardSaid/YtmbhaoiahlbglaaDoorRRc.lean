/- Walks: a recipe read from its text, as the reference reads it. -/
import Derived.Test.YtmbhaoiahlbglaaDoorRRp
namespace Go.Proofs.YtmbhaoiahlbglaaDoor
open Go.RowKit
set_option linter.unusedVariables false
set_option linter.unusedSimpArgs false

section
variable {P : Program} {ops : Array Oper} {rest : List Oper} {o : Oper} {a : Act} {w : World} {Q : Exit → Act → World → Prop}
theorem m_build01 (hgd : o.guard = none) {t : TypeId} {x0 x1 : Operand} (ho : o.op = .build t #[(0, x0), (1, x1)]) {v0 v1 : Value} (h0 : a.eval x0 = v0) (h1 : a.eval x1 = v1) {cells : Array Value} (hb : P.built t [(0, v0), (1, v1)] = some cells)
    (h : wpList P ops Q rest (a.put o.dst (.agg cells)) w) : wpList P ops Q (o :: rest) a w :=
  wpList_buildTo hgd t _ ho o.dst rfl cells (by simpa [h0, h1] using hb) h
end
/-- A part written by a literal. -/
theorem fill_cons (place : Nat → Option (Nat × Nat)) (cs : Array Value) (i : Nat) (v : Value) (rest : List (Nat × Value)) (off size : Nat) (hp : place i = some (off, size)) (hs : v.cells.size = size) (hb : off + size ≤ cs.size) :
    Instr.fill place cs ((i, v) :: rest) = Instr.fill place (putC v.cells.toList off cs) rest := by
  have key : ∀ (l : List Value) (k : Nat) (c : Array Value), (l.zipIdx k).foldl (fun cs (x : Value × Nat) => cs.setIfInBounds (off + x.2) x.1) c = putC l (off + k) c := by
    intro l
    induction l with
    | nil => intro k c; rfl
    | cons u l ih => intro k c; simp only [List.zipIdx_cons, List.foldl_cons]; rw [ih, putC, Nat.add_assoc]
  conv => lhs; unfold Instr.fill
  simp only [hp]
  rw [if_neg (by simp [hs]; exact hb)]
  rw [← Array.foldl_toList, Array.toList_zipIdx, key, Nat.add_zero]
theorem built_pieP (parts : List (Nat × Value)) : Tryd.prog.built 43 parts = Instr.fill (#[(0, 32), (32, 1)][·]?) (pieC zero32 0) parts := by kernel_rfl
theorem built_pie (p : Pc) : Tryd.prog.built 43 [(0, .agg (bA p.1.1)), (1, .int .i64 p.2)] = some (pieC p.1.1 p.2) := by
  have hz : (pieC zero32 0).size = 33 := pie_size _ rfl _
  rw [built_pieP, fill_cons _ _ _ _ _ 0 32 rfl (by show (bA p.1.1).size = 32; rw [bA_size, p.1.2]) (by rw [hz]; omega), fill_cons _ _ _ _ _ 32 1 rfl rfl (by rw [putC_size, hz]; omega)]
  rw [show (Value.agg (bA p.1.1)).cells.toList = bL p.1.1 from rfl, pie_set0 _ _ rfl p.1.2, show (Value.int .i64 p.2).cells.toList = [.int .i64 p.2] from rfl]
  show some ((pieC p.1.1 0).setIfInBounds 32 _) = _
  rw [pie_set32 _ p.1.2]
theorem piL_snoc (ps : List Pc) (p : Pc) : piL ps ++ (pieC p.1.1 p.2).toList = piL (ps ++ [p]) := by rw [piL_append]; simp [piL, pieC, bP]
theorem tx_data (l : List UInt8) : (tx l).data.toList = l := by simp [tx]
theorem sp_mem (c : UInt8) (l : List UInt8) : ∀ x ∈ sp c l, x.length ≤ l.length := by
  induction hn : l.length using Nat.strongRecOn generalizing l with
  | ind n ih =>
    subst hn
    rcases sp_cases c l with h | ⟨a, r, rfl, h⟩
    · rw [sp_none h]
      intro x hx
      simp at hx
      subst hx
      exact Nat.le_refl _
    · rw [sp_app h]
      intro x hx
      rcases List.mem_cons.1 hx with rfl | hx
      · simp
      · have := ih r.length (by simp; omega) r rfl x hx
        simp
        omega
/-- What the reader of keys tells. -/
def rdK (l : List UInt8) : Ky × Bool := if l.length = 64 ∧ allHex l = true then (kyR l, true) else (zeroKy, false)

theorem l01Read_r (l : List UInt8) (hs : l.length ≤ 1048576) (w : World) : Ret Tryd.prog 15 #[.string (tx l)] w fun r _ => r = .tuple #[.agg (bA (rdK l).1.1), .bool (rdK l).2] := by
  by_cases h64 : l.length = 64
  · refine Ret.of ((l01Read_c (tx l) (by rw [tx_size]; exact h64) w).mono fun e w' h => ⟨h.1.trans ?_, h.2⟩)
    rw [tx_data, readV, rdK]
    by_cases h : allHex l = true
    · rw [if_pos h, if_pos ⟨h64, h⟩]; rfl
    · rw [if_neg h, if_neg (fun h' => h h'.2)]; rfl
  · refine Ret.of ((l01Read_short (tx l) (by rw [tx_size]; exact h64) (by rw [tx_size]; exact hs) w).mono fun e w' h => ⟨h.1.trans ?_, h.2⟩)
    rw [rdK, if_neg (fun h' => h64 h'.1)]
    rfl
theorem sLine_other {x : List UInt8} (h : (sp 32 x).length ≠ 2) : sLine x = none := by
  unfold sLine
  rcases hL : sp 32 x with _ | ⟨a, _ | ⟨b, _ | ⟨c, r⟩⟩⟩
  · rfl
  · rfl
  · rw [hL] at h; exact absurd rfl h
  · rfl
theorem sLine_two {x a b : List UInt8} (h : sp 32 x = [a, b]) : sLine x = if (rdK a).2 = true ∧ (numT b).2 = true ∧ (numT b).1 ≤ 4096 then some ((rdK a).1, (numT b).1) else none := by
  rw [sLine, h]
  show sPair a b = _
  unfold sPair
  by_cases h1 : a.length = 64 ∧ allHex a = true
  · have e1 : rdK a = (kyR a, true) := by rw [rdK, if_pos h1]
    rw [e1]
    by_cases h2 : numOk b = true
    · have e2 : numT b = ((numV b : Int), true) := by rw [numT, if_pos h2]
      rw [e2]
      by_cases h3 : numV b ≤ 4096
      · rw [if_pos ⟨h1.1, h1.2, h2, h3⟩, if_pos ⟨rfl, rfl, by show (numV b : Int) ≤ 4096; omega⟩]
      · rw [if_neg (fun h => h3 h.2.2.2), if_neg (fun h => h3 (by have h4 : (numV b : Int) ≤ 4096 := h.2.2; omega))]
    · have e2 : numT b = (0, false) := by rw [numT, if_neg h2]
      rw [e2, if_neg (fun h => h2 h.2.2.1), if_neg (fun h => by cases h.2.1)]
  · have e1 : rdK a = (zeroKy, false) := by rw [rdK, if_neg h1]
    rw [e1, if_neg (fun h => h1 ⟨h.1, h.2.1⟩), if_neg (fun h => by cases h.1)]
theorem numT_bd (l : List UInt8) : 0 ≤ (numT l).1 ∧ (numT l).1 ≤ 1000000000 := by
  unfold numT
  split
  · rename_i h
    obtain ⟨h1, h2, -, h4⟩ := numOk_parts h
    have hlt := numV_lt l h4
    have : numV l < 1000000000 := Nat.lt_of_lt_of_le hlt (Nat.le_trans (Nat.pow_le_pow_right (by decide) h2) (by decide))
    exact ⟨by show (0 : Int) ≤ (numV l : Int); omega, by show (numV l : Int) ≤ 1000000000; omega⟩
  · exact ⟨by decide, by decide⟩

set_option maxHeartbeats 4000000 in
set_option maxRecDepth 100000 in
theorem specRR_c (s : ByteArray) (hs : s.size ≤ 1048576) (w : World) : Ret Tryd.prog 5 #[.string s] w fun r w' => OwnR2 w w' 43 33 r (rrS s.data.toList).1.length (piL (rrS s.data.toList).1) (.int .i64 (rrS s.data.toList).2) := by
  have hsl : s.data.toList.length = s.size := rfl
  have hlen := sp_len 10 s.data.toList
  have hmem := sp_mem 10 s.data.toList
  obtain ⟨xs, y, hL, -⟩ := sp_join 10 s.data.toList
  have HSP := Lib.hid (show ∀ w, Ret Tryd.prog 14 #[.string s, .int .u8 10] w fun r w' => OwnR w w' 9 1 r (spL s 10).length (stL (spL s 10)) from fun w => l01Split_c s 10 hs w)
  rw [spL_sp, hL] at HSP
  rw [hL] at hlen hmem
  obtain ⟨n, hn⟩ : ∃ n, ((xs ++ [y]).map tx).length = n := ⟨_, rfl⟩
  rw [hn] at HSP
  obtain ⟨m, hm⟩ : ∃ m, xs.length = m := ⟨_, rfl⟩
  have hnm : n = m + 1 := by rw [← hn, List.length_map, List.length_append, hm]; rfl
  have hct : n = s.data.toList.count 10 + 1 := by rw [← hlen, ← hn, List.length_map]
  refine ret_start fun wx M => ?_
  have HM := Lib.hid hm
  by_cases h0 : 40000 < s.size
  · have HE := Lib.hid (show rrS s.data.toList = ([], 3) by rw [rrS, if_pos (.inl (by rw [hsl]; exact h0))])
    clear hsl hlen hmem hL hn hm hnm hct
    go_enter Tryd.func5, Tryd.ntmps5
    go_wp2_with (first
      | (go_at_call 14; (with_reducible refine mem_callO M (HSP.out _) ?_); clear M; (try clear wx); intro bl cl wx M)
      | (with_reducible (show wpList _ _ _ (Oper.mk (some 23) (.buildSlice _ _ _) _ _ _ _ :: _) _ _); refine m_lit0 M rfl rfl ?_; clear M; (try clear wx); intro g23 wx M)
      | (with_reducible (show wpList _ _ _ (Oper.mk (some 24) (.buildSlice _ _ _) _ _ _ _ :: _) _ _); refine m_lit0 M rfl rfl ?_; clear M; (try clear wx); intro g24 wx M)
      | (with_reducible (show wpList _ _ _ (Oper.mk (some 40) (.buildSlice _ _ _) _ _ _ _ :: _) _ _); refine m_lit0 M rfl rfl ?_; clear M; (try clear wx); intro g40 wx M)
      | (with_reducible (show wpList _ _ _ (Oper.mk (some 8) (.alloc _) _ _ _ _ :: _) _ _); refine mem_new M rfl rfl ?_; clear M; (try clear wx); intro g8 wx M)
      | (with_reducible (show wpList _ _ _ (Oper.mk (some 65) (.buildSlice _ _ _) _ _ _ _ :: _) _ _); refine m_lit0 M rfl rfl ?_; clear M; (try clear wx); intro g65 wx M)
      | (with_reducible (show wpList _ _ _ (Oper.mk (some 70) (.buildSlice _ _ _) _ _ _ _ :: _) _ _); (first | (refine m_lit1A M rfl rfl rfl (by first | rfl | assumption | (simp; done) | (simp; omega)) (by decide) ?_) | (refine m_lit11 (v := Value.int _ _) M rfl rfl rfl rfl ?_) | (refine m_lit11 (v := Value.slice _ _ _) M rfl rfl rfl rfl ?_) | (refine m_lit11 (v := Value.bool _) M rfl rfl rfl rfl ?_) | (refine m_lit11 (v := Value.string _) M rfl rfl rfl rfl ?_) | (refine m_lit11 (v := Value.pointer _) M rfl rfl rfl rfl ?_)); clear M; (try clear wx); intro g70 wx M)
      | (with_reducible (show wpList _ _ _ (Oper.mk (some 79) (.buildSlice _ _ _) _ _ _ _ :: _) _ _); refine m_lit0 M rfl rfl ?_; clear M; (try clear wx); intro g79 wx M)
      | (with_reducible (show wpList _ _ _ (Oper.mk _ (.load _ _) _ _ _ _ :: _) _ _); (first | (refine m_load M rfl rfl rfl (by first | assumption | rfl) ?_) | (refine m_loadR M rfl rfl rfl (by first | rfl | assumption | (simp; done) | (simp; omega)) ?_)))
      | (with_reducible (show wpList _ _ _ (Oper.mk _ (.store _ _ _) _ _ _ _ :: _) _ _); (first | (refine m_storeR M rfl rfl rfl rfl (by first | rfl | assumption | (simp; done) | (simp; omega)) (by first | rfl | assumption | (simp; done) | (simp; omega)) (by simp [Value.oneCell']) ?_) | (refine m_store (v := Value.int _ _) M rfl rfl rfl rfl rfl (by first | assumption | (simp; done) | (simp; omega)) ?_) | (refine m_store (v := Value.slice _ _ _) M rfl rfl rfl rfl rfl (by first | assumption | (simp; done) | (simp; omega)) ?_) | (refine m_store (v := Value.bool _) M rfl rfl rfl rfl rfl (by first | assumption | (simp; done) | (simp; omega)) ?_) | (refine m_store (v := Value.string _) M rfl rfl rfl rfl rfl (by first | assumption | (simp; done) | (simp; omega)) ?_) | (refine m_store (v := Value.pointer _) M rfl rfl rfl rfl rfl (by first | assumption | (simp; done) | (simp; omega)) ?_)); clear M; (try clear wx); intro wx M; simp only [List.set_cons_zero, List.set_cons_succ, Nat.zero_add, List.nil_append] at M)
      | (with_reducible (show wpList _ _ _ (Oper.mk _ (.build _ _) _ _ _ _ :: _) _ _); refine m_buildZ rfl rfl ?_)
      | (with_reducible (show wpList _ _ _ (Oper.mk _ (.call (Call.mk (.builtin .append) _ _)) _ _ _ _ :: _) _ _); (first | (refine m_append1 M rfl rfl rfl (by first | rfl | omega | (simp; done)) rfl (by first | rfl | assumption | (simp; done) | (simp; omega)) (by simp [Value.oneCell']) (by first | assumption | (simp only [maxLen]; omega)) (by omega) ?_)); clear M; (try clear wx); intro _ _ wx M; simp only [List.set_cons_zero, List.set_cons_succ, Nat.zero_add, List.nil_append] at M))
    go_ret2
    exact ⟨_, rfl, by rw [HE.out]; exact ⟨_, _, rfl, M.out_own (p := 0) rfl⟩, M.up⟩
  by_cases h1 : 257 < n
  · have HE := Lib.hid (show rrS s.data.toList = ([], 3) by rw [rrS, if_pos (.inr (by omega))])
    have hn63 : n ≤ 9223372036854775807 := by have := List.count_le_length (a := (10 : UInt8)) (l := s.data.toList); omega
    clear hsl hlen hmem hL hn hm hnm hct
    have g1 : decide (256 < (n : Int) - 1) = true := by simp; omega
    go_enter Tryd.func5, Tryd.ntmps5
    go_wp2_with (first
      | (go_at_call 14; (with_reducible refine mem_callO M (HSP.out _) ?_); clear M; (try clear wx); intro bl cl wx M)
      | (with_reducible (show wpList _ _ _ (Oper.mk (some 23) (.buildSlice _ _ _) _ _ _ _ :: _) _ _); refine m_lit0 M rfl rfl ?_; clear M; (try clear wx); intro g23 wx M)
      | (with_reducible (show wpList _ _ _ (Oper.mk (some 24) (.buildSlice _ _ _) _ _ _ _ :: _) _ _); refine m_lit0 M rfl rfl ?_; clear M; (try clear wx); intro g24 wx M)
      | (with_reducible (show wpList _ _ _ (Oper.mk (some 40) (.buildSlice _ _ _) _ _ _ _ :: _) _ _); refine m_lit0 M rfl rfl ?_; clear M; (try clear wx); intro g40 wx M)
      | (with_reducible (show wpList _ _ _ (Oper.mk (some 8) (.alloc _) _ _ _ _ :: _) _ _); refine mem_new M rfl rfl ?_; clear M; (try clear wx); intro g8 wx M)
      | (with_reducible (show wpList _ _ _ (Oper.mk (some 65) (.buildSlice _ _ _) _ _ _ _ :: _) _ _); refine m_lit0 M rfl rfl ?_; clear M; (try clear wx); intro g65 wx M)
      | (with_reducible (show wpList _ _ _ (Oper.mk (some 70) (.buildSlice _ _ _) _ _ _ _ :: _) _ _); (first | (refine m_lit1A M rfl rfl rfl (by first | rfl | assumption | (simp; done) | (simp; omega)) (by decide) ?_) | (refine m_lit11 (v := Value.int _ _) M rfl rfl rfl rfl ?_) | (refine m_lit11 (v := Value.slice _ _ _) M rfl rfl rfl rfl ?_) | (refine m_lit11 (v := Value.bool _) M rfl rfl rfl rfl ?_) | (refine m_lit11 (v := Value.string _) M rfl rfl rfl rfl ?_) | (refine m_lit11 (v := Value.pointer _) M rfl rfl rfl rfl ?_)); clear M; (try clear wx); intro g70 wx M)
      | (with_reducible (show wpList _ _ _ (Oper.mk (some 79) (.buildSlice _ _ _) _ _ _ _ :: _) _ _); refine m_lit0 M rfl rfl ?_; clear M; (try clear wx); intro g79 wx M)
      | (with_reducible (show wpList _ _ _ (Oper.mk _ (.load _ _) _ _ _ _ :: _) _ _); (first | (refine m_load M rfl rfl rfl (by first | assumption | rfl) ?_) | (refine m_loadR M rfl rfl rfl (by first | rfl | assumption | (simp; done) | (simp; omega)) ?_)))
      | (with_reducible (show wpList _ _ _ (Oper.mk _ (.store _ _ _) _ _ _ _ :: _) _ _); (first | (refine m_storeR M rfl rfl rfl rfl (by first | rfl | assumption | (simp; done) | (simp; omega)) (by first | rfl | assumption | (simp; done) | (simp; omega)) (by simp [Value.oneCell']) ?_) | (refine m_store (v := Value.int _ _) M rfl rfl rfl rfl rfl (by first | assumption | (simp; done) | (simp; omega)) ?_) | (refine m_store (v := Value.slice _ _ _) M rfl rfl rfl rfl rfl (by first | assumption | (simp; done) | (simp; omega)) ?_) | (refine m_store (v := Value.bool _) M rfl rfl rfl rfl rfl (by first | assumption | (simp; done) | (simp; omega)) ?_) | (refine m_store (v := Value.string _) M rfl rfl rfl rfl rfl (by first | assumption | (simp; done) | (simp; omega)) ?_) | (refine m_store (v := Value.pointer _) M rfl rfl rfl rfl rfl (by first | assumption | (simp; done) | (simp; omega)) ?_)); clear M; (try clear wx); intro wx M; simp only [List.set_cons_zero, List.set_cons_succ, Nat.zero_add, List.nil_append] at M)
      | (with_reducible (show wpList _ _ _ (Oper.mk _ (.build _ _) _ _ _ _ :: _) _ _); refine m_buildZ rfl rfl ?_)
      | (with_reducible (show wpList _ _ _ (Oper.mk _ (.call (Call.mk (.builtin .append) _ _)) _ _ _ _ :: _) _ _); (first | (refine m_append1 M rfl rfl rfl (by first | rfl | omega | (simp; done)) rfl (by first | rfl | assumption | (simp; done) | (simp; omega)) (by simp [Value.oneCell']) (by first | assumption | (simp only [maxLen]; omega)) (by omega) ?_)); clear M; (try clear wx); intro _ _ wx M; simp only [List.set_cons_zero, List.set_cons_succ, Nat.zero_add, List.nil_append] at M))
    go_ret2
    exact ⟨_, rfl, by rw [HE.out]; exact ⟨_, _, rfl, M.out_own (p := 0) rfl⟩, M.up⟩
  have h257 : n ≤ 257 := by omega
  have hdl : (sp 10 s.data.toList).dropLast = xs := by rw [hL, List.dropLast_concat]
  have hgl : (sp 10 s.data.toList).getLast? = some y := by rw [hL, List.getLast?_concat]
  have HEN := Lib.hid (show ∀ j (h : j < xs.length), sLine (xs[j]'h) = none → rrS s.data.toList = ([], 5) from fun j h hj => by rw [rrS, if_neg (by omega), hdl, rdL_none hj (List.getElem_mem h)])
  have HEY := Lib.hid (show ∀ ps, rdL sLine xs = some ps → rrS s.data.toList = if y = [] then (ps, 0) else ([], 5) from fun ps h => by
    rw [rrS, if_neg (by omega), hdl, hgl, h]
    by_cases hy : y = []
    · simp [hy]
    · simp [hy])
  have HLL := Lib.hid (show (stL ((xs ++ [y]).map tx)) = stL (xs.map tx) ++ [.string (tx y)] by simp [stL])
  have HXS := Lib.hid (show ∀ j (h : j < xs.length) (tl : List Value), (stL ((xs ++ [y]).map tx) ++ tl).toArray[j]? = some (.string (tx (xs[j]'h))) from fun j h tl => by
    rw [HLL.out, List.getElem?_toArray, List.append_assoc, List.getElem?_append_left (by simp [stL]; exact h)]
    simp [stL, h])
  have HXY := Lib.hid (show ∀ (tl : List Value), (stL ((xs ++ [y]).map tx) ++ tl).toArray[m]? = some (.string (tx y)) from fun tl => by
    rw [HLL.out, List.getElem?_toArray, List.append_assoc, List.getElem?_append_right (by simp [stL]; omega)]
    simp [stL, hm])
  have HME := Lib.hid (show ∀ j (h : j < xs.length), (xs[j]'h).length ≤ 1048576 from fun j h => by have := hmem _ (List.mem_append_left _ (List.getElem_mem h)); omega)
  clear hsl hlen hmem hL hn hm hct hdl hgl HLL
  generalize stL ((xs ++ [y]).map tx) = LL at *
  go_enter Tryd.func5, Tryd.ntmps5
  go_wp2_with (first
    | (go_at_call 14; (with_reducible refine mem_callO M (HSP.out _) ?_); clear M; (try clear wx); intro bl cl wx M)
    | (with_reducible (show wpList _ _ _ (Oper.mk (some 23) (.buildSlice _ _ _) _ _ _ _ :: _) _ _); refine m_lit0 M rfl rfl ?_; clear M; (try clear wx); intro g23 wx M)
    | (with_reducible (show wpList _ _ _ (Oper.mk (some 24) (.buildSlice _ _ _) _ _ _ _ :: _) _ _); refine m_lit0 M rfl rfl ?_; clear M; (try clear wx); intro g24 wx M)
    | (with_reducible (show wpList _ _ _ (Oper.mk (some 40) (.buildSlice _ _ _) _ _ _ _ :: _) _ _); refine m_lit0 M rfl rfl ?_; clear M; (try clear wx); intro g40 wx M)
    | (with_reducible (show wpList _ _ _ (Oper.mk (some 8) (.alloc _) _ _ _ _ :: _) _ _); refine mem_new M rfl rfl ?_; clear M; (try clear wx); intro g8 wx M)
    | (with_reducible (show wpList _ _ _ (Oper.mk (some 65) (.buildSlice _ _ _) _ _ _ _ :: _) _ _); refine m_lit0 M rfl rfl ?_; clear M; (try clear wx); intro g65 wx M)
    | (with_reducible (show wpList _ _ _ (Oper.mk (some 70) (.buildSlice _ _ _) _ _ _ _ :: _) _ _); (first | (refine m_lit1A M rfl rfl rfl (by first | rfl | assumption | (simp; done) | (simp; omega)) (by decide) ?_) | (refine m_lit11 (v := Value.int _ _) M rfl rfl rfl rfl ?_) | (refine m_lit11 (v := Value.slice _ _ _) M rfl rfl rfl rfl ?_) | (refine m_lit11 (v := Value.bool _) M rfl rfl rfl rfl ?_) | (refine m_lit11 (v := Value.string _) M rfl rfl rfl rfl ?_) | (refine m_lit11 (v := Value.pointer _) M rfl rfl rfl rfl ?_)); clear M; (try clear wx); intro g70 wx M)
    | (with_reducible (show wpList _ _ _ (Oper.mk (some 79) (.buildSlice _ _ _) _ _ _ _ :: _) _ _); refine m_lit0 M rfl rfl ?_; clear M; (try clear wx); intro g79 wx M)
    | (with_reducible (show wpList _ _ _ (Oper.mk _ (.load _ _) _ _ _ _ :: _) _ _); (first | (refine m_load M rfl rfl rfl (by first | assumption | rfl) ?_) | (refine m_loadR M rfl rfl rfl (by first | rfl | assumption | (simp; done) | (simp; omega)) ?_)))
    | (with_reducible (show wpList _ _ _ (Oper.mk _ (.store _ _ _) _ _ _ _ :: _) _ _); (first | (refine m_storeR M rfl rfl rfl rfl (by first | rfl | assumption | (simp; done) | (simp; omega)) (by first | rfl | assumption | (simp; done) | (simp; omega)) (by simp [Value.oneCell']) ?_) | (refine m_store (v := Value.int _ _) M rfl rfl rfl rfl rfl (by first | assumption | (simp; done) | (simp; omega)) ?_) | (refine m_store (v := Value.slice _ _ _) M rfl rfl rfl rfl rfl (by first | assumption | (simp; done) | (simp; omega)) ?_) | (refine m_store (v := Value.bool _) M rfl rfl rfl rfl rfl (by first | assumption | (simp; done) | (simp; omega)) ?_) | (refine m_store (v := Value.string _) M rfl rfl rfl rfl rfl (by first | assumption | (simp; done) | (simp; omega)) ?_) | (refine m_store (v := Value.pointer _) M rfl rfl rfl rfl rfl (by first | assumption | (simp; done) | (simp; omega)) ?_)); clear M; (try clear wx); intro wx M; simp only [List.set_cons_zero, List.set_cons_succ, Nat.zero_add, List.nil_append] at M)
    | (with_reducible (show wpList _ _ _ (Oper.mk _ (.build _ _) _ _ _ _ :: _) _ _); refine m_buildZ rfl rfl ?_)
    | (with_reducible (show wpList _ _ _ (Oper.mk _ (.call (Call.mk (.builtin .append) _ _)) _ _ _ _ :: _) _ _); (first | (refine m_append1 M rfl rfl rfl (by first | rfl | omega | (simp; done)) rfl (by first | rfl | assumption | (simp; done) | (simp; omega)) (by simp [Value.oneCell']) (by first | assumption | (simp only [maxLen]; omega)) (by omega) ?_)); clear M; (try clear wx); intro _ _ wx M; simp only [List.set_cons_zero, List.set_cons_succ, Nat.zero_add, List.nil_append] at M))
  obtain ⟨gl, tl, rfl, -, -, -, M⟩ := M.own_blk (p := 1) rfl (by omega)
  simp only [List.set_cons_zero, List.set_cons_succ] at M
  go_loopg [5, 6] m (fun q o i wr => ∃ (j : Nat) (ps : List Pc) (b : Option Addr) (cap : Nat), j + q = m ∧ o = .slice b j cap ∧ i = .int .i64 (j : Int) ∧ Hid (ps.length = j ∧ rdL sLine (xs.take j) = some ps) ∧ Mem w wr [.own b cap 43 33 j (piL ps), .blk gl 9 (LL ++ tl).toArray])
  case atStart => exact ⟨0, [], _, _, by omega, rfl, rfl, Lib.hid ⟨rfl, rfl⟩, M⟩
  case round =>
    clear M
    obtain ⟨j, ps, b, cap, hj, rfl, rfl, HP, M⟩ := hrel
    by_cases hlt : j < m
    · have hjx : j < xs.length := by rw [HM.out]; exact hlt
      have HC := Lib.hid (HXS.out j hjx tl)
      have HN := Lib.hid (HEN.out j hjx)
      have hxl := HME.out j hjx
      have HT := Lib.hid (show xs.take (j + 1) = xs.take j ++ [xs[j]'hjx] from List.take_succ_eq_append_getElem hjx)
      have HJ := Lib.hid hj
      clear hj HXS HXY HME
      generalize (xs[j]'hjx) = x at *
      have HW := Lib.hid (show ∀ w, Ret Tryd.prog 14 #[.string (tx x), .int .u8 32] w fun r w' => OwnR w w' 9 1 r (spL (tx x) 32).length (stL (spL (tx x) 32)) from fun w => l01Split_c (tx x) 32 (by rw [tx_size]; exact hxl) w)
      rw [spL_sp, tx_data, List.length_map] at HW
      by_cases h2 : (sp 32 x).length = 2
      · obtain ⟨a, b', hab⟩ : ∃ a b', sp 32 x = [a, b'] := by
          rcases hL : sp 32 x with _ | ⟨a, _ | ⟨b', _ | ⟨c, r⟩⟩⟩
          · rw [hL] at h2; cases h2
          · rw [hL] at h2; cases h2
          · exact ⟨a, b', rfl⟩
          · rw [hL] at h2; simp at h2
        have hm2 := sp_mem 32 x
        have hst := sLine_two hab
        rw [hab] at HW hm2
        have ha := hm2 a (by simp)
        have hb := hm2 b' (by simp)
        have HR := Lib.hid (fun w => l01Read_r a (by omega) w)
        have HU := Lib.hid (show ∀ w, Ret Tryd.prog 16 #[.string (tx b')] w fun r _ => r = .tuple #[.int .i64 (numT b').1, .bool (numT b').2] from fun w => by
          have := l01Number_c (tx b') (by rw [tx_size]; omega) w
          rw [tx_data] at this
          exact this)
        have hzb := numT_bd b'
        generalize rdK a = kc at *
        generalize numT b' = zc at *
        obtain ⟨K, c1⟩ := kc
        obtain ⟨z, c2⟩ := zc
        have hk32 := K.2
        clear hm2 ha hb hab h2
        simp only at hst hzb HR HU
        have HZ := Lib.hid (pie_size K.1 K.2 z)
        have HPO := Lib.hid (pie_one (K, z))
        have HBT := Lib.hid (built_pie (K, z))
        have HK0 := Lib.hid (bA_one K.1)
        have HP2 := Lib.hid (show piL ps ++ (pieC K.1 z).toList = piL (ps ++ [(K, z)]) from piL_snoc ps (K, z))
        have HX1 : Hid (c1 = true → c2 = true → z ≤ 4096 → rdL sLine (xs.take (j + 1)) = some (ps ++ [(K, z)])) := Lib.hid (fun e1 e2 e3 => by
          rw [HT.out]
          exact rdL_snoc HP.out.2 (by rw [hst, if_pos ⟨e1, e2, e3⟩]))
        have HX0 : Hid (¬ (c1 = true ∧ c2 = true ∧ z ≤ 4096) → rrS s.data.toList = ([], 5)) := Lib.hid (fun e => HN.out (by rw [hst, if_neg e]))
        clear hst HN
        by_cases hz : 4096 < z
        · have HE := Lib.hid (HX0.out (fun h => by omega))
          clear HX0 HX1
          cases c1 <;> cases c2 <;>
          · go_wp2_with (first
              | (with_reducible (show wpList _ _ _ (Oper.mk _ (.indexAddr _ _ _) _ _ _ _ :: _) _ _); refine m_ix rfl rfl rfl j (by first | rfl | (refine congrArg (Value.int .i64) ?_; omega)) (by omega) ?_)
              | (go_at_call 14; (with_reducible refine mem_callO M (HW.out _) ?_); clear M; (try clear wx); intro bw cw wx M; obtain ⟨gw, tw, rfl, -, -, -, M⟩ := M.own_blk (p := 0) rfl (by simp); simp only [List.set_cons_zero, List.set_cons_succ, Nat.zero_add, List.nil_append] at M)
              | (go_at_call 15; (with_reducible refine mem_call M (HR.out _) ?_); clear M; (try clear wx); rintro _ wx rfl _ M)
              | (go_at_call 16; (with_reducible refine mem_call M (HU.out _) ?_); clear M; (try clear wx); rintro _ wx rfl _ M)
              | (with_reducible (show wpList _ _ _ (Oper.mk _ (.build _ _) _ _ _ _ :: _) _ _); refine m_build01 (v0 := .agg (bA K.1)) (v1 := .int .i64 z) rfl rfl rfl rfl HBT.out ?_)
              | (with_reducible (show wpList _ _ _ (Oper.mk (some 23) (.buildSlice _ _ _) _ _ _ _ :: _) _ _); refine m_lit0 M rfl rfl ?_; clear M; (try clear wx); intro g23 wx M)
              | (with_reducible (show wpList _ _ _ (Oper.mk (some 24) (.buildSlice _ _ _) _ _ _ _ :: _) _ _); refine m_lit0 M rfl rfl ?_; clear M; (try clear wx); intro g24 wx M)
              | (with_reducible (show wpList _ _ _ (Oper.mk (some 40) (.buildSlice _ _ _) _ _ _ _ :: _) _ _); refine m_lit0 M rfl rfl ?_; clear M; (try clear wx); intro g40 wx M)
              | (with_reducible (show wpList _ _ _ (Oper.mk (some 8) (.alloc _) _ _ _ _ :: _) _ _); refine mem_new M rfl rfl ?_; clear M; (try clear wx); intro g8 wx M)
              | (with_reducible (show wpList _ _ _ (Oper.mk (some 65) (.buildSlice _ _ _) _ _ _ _ :: _) _ _); refine m_lit0 M rfl rfl ?_; clear M; (try clear wx); intro g65 wx M)
              | (with_reducible (show wpList _ _ _ (Oper.mk (some 70) (.buildSlice _ _ _) _ _ _ _ :: _) _ _); (first | (refine m_lit1A M rfl rfl rfl (by first | exact HZ.out | exact pie_size _ rfl _ | (rw [bA_size]; exact hk32) | exact hk32 | (simp; done) | (simp; omega)) (by decide) ?_) | (refine m_lit11 (v := Value.int _ _) M rfl rfl rfl rfl ?_) | (refine m_lit11 (v := Value.slice _ _ _) M rfl rfl rfl rfl ?_) | (refine m_lit11 (v := Value.bool _) M rfl rfl rfl rfl ?_) | (refine m_lit11 (v := Value.string _) M rfl rfl rfl rfl ?_) | (refine m_lit11 (v := Value.pointer _) M rfl rfl rfl rfl ?_)); clear M; (try clear wx); intro g70 wx M)
              | (with_reducible (show wpList _ _ _ (Oper.mk (some 79) (.buildSlice _ _ _) _ _ _ _ :: _) _ _); refine m_lit0 M rfl rfl ?_; clear M; (try clear wx); intro g79 wx M)
              | (with_reducible (show wpList _ _ _ (Oper.mk _ (.load _ _) _ _ _ _ :: _) _ _); (first | (refine m_load (v := .string (tx x)) M rfl rfl rfl HC.out ?_) | (refine m_load (v := .string (tx a)) M rfl rfl rfl rfl ?_) | (refine m_load (v := .string (tx b')) M rfl rfl rfl rfl ?_) | (refine m_load M rfl rfl rfl (by first | assumption | rfl) ?_) | (refine m_loadR M rfl rfl rfl (by first | exact HZ.out | exact pie_size _ rfl _ | (rw [bA_size]; exact hk32) | exact hk32 | (simp; done) | (simp; omega)) ?_)))
              | (with_reducible (show wpList _ _ _ (Oper.mk _ (.store _ _ _) _ _ _ _ :: _) _ _); (first | (refine m_storeR M rfl rfl rfl rfl (by first | exact HZ.out | exact pie_size _ rfl _ | (rw [bA_size]; exact hk32) | exact hk32 | (simp; done) | (simp; omega)) (by first | exact HZ.out | exact pie_size _ rfl _ | (rw [bA_size]; exact hk32) | exact hk32 | (simp; done) | (simp; omega)) (by first | exact HPO.out | exact HK0.out | exact bA_one _) ?_) | (refine m_store (v := Value.int _ _) M rfl rfl rfl rfl rfl (by first | assumption | (simp; done) | (simp; omega)) ?_) | (refine m_store (v := Value.slice _ _ _) M rfl rfl rfl rfl rfl (by first | assumption | (simp; done) | (simp; omega)) ?_) | (refine m_store (v := Value.bool _) M rfl rfl rfl rfl rfl (by first | assumption | (simp; done) | (simp; omega)) ?_) | (refine m_store (v := Value.string _) M rfl rfl rfl rfl rfl (by first | assumption | (simp; done) | (simp; omega)) ?_) | (refine m_store (v := Value.pointer _) M rfl rfl rfl rfl rfl (by first | assumption | (simp; done) | (simp; omega)) ?_)); clear M; (try clear wx); intro wx M; simp only [List.set_cons_zero, List.set_cons_succ, Nat.zero_add, List.nil_append] at M)
              | (with_reducible (show wpList _ _ _ (Oper.mk _ (.build _ _) _ _ _ _ :: _) _ _); refine m_buildZ rfl rfl ?_)
              | (with_reducible (show wpList _ _ _ (Oper.mk _ (.call (Call.mk (.builtin .append) _ _)) _ _ _ _ :: _) _ _); (first | (refine m_append1 M rfl rfl rfl (by first | rfl | omega | (simp; done)) rfl (by first | exact HZ.out | exact pie_size _ rfl _ | (rw [bA_size]; exact hk32) | exact hk32 | (simp; done) | (simp; omega)) (by first | exact HPO.out | exact HK0.out | exact bA_one _) (by first | assumption | (simp only [maxLen]; omega)) (by omega) ?_)); clear M; (try clear wx); intro _ _ wx M; simp only [List.set_cons_zero, List.set_cons_succ, Nat.zero_add, List.nil_append] at M))
            go_ret2
            exact ⟨_, rfl, by rw [HE.out]; exact ⟨_, _, rfl, M.out_own (p := 0) rfl⟩, M.up⟩
        · cases c1 with
          | false =>
            have HE := Lib.hid (HX0.out (fun h => by cases h.1))
            clear HX0 HX1
            cases c2 <;>
            · go_wp2_with (first
                | (with_reducible (show wpList _ _ _ (Oper.mk _ (.indexAddr _ _ _) _ _ _ _ :: _) _ _); refine m_ix rfl rfl rfl j (by first | rfl | (refine congrArg (Value.int .i64) ?_; omega)) (by omega) ?_)
                | (go_at_call 14; (with_reducible refine mem_callO M (HW.out _) ?_); clear M; (try clear wx); intro bw cw wx M; obtain ⟨gw, tw, rfl, -, -, -, M⟩ := M.own_blk (p := 0) rfl (by simp); simp only [List.set_cons_zero, List.set_cons_succ, Nat.zero_add, List.nil_append] at M)
                | (go_at_call 15; (with_reducible refine mem_call M (HR.out _) ?_); clear M; (try clear wx); rintro _ wx rfl _ M)
                | (go_at_call 16; (with_reducible refine mem_call M (HU.out _) ?_); clear M; (try clear wx); rintro _ wx rfl _ M)
                | (with_reducible (show wpList _ _ _ (Oper.mk _ (.build _ _) _ _ _ _ :: _) _ _); refine m_build01 (v0 := .agg (bA K.1)) (v1 := .int .i64 z) rfl rfl rfl rfl HBT.out ?_)
                | (with_reducible (show wpList _ _ _ (Oper.mk (some 23) (.buildSlice _ _ _) _ _ _ _ :: _) _ _); refine m_lit0 M rfl rfl ?_; clear M; (try clear wx); intro g23 wx M)
                | (with_reducible (show wpList _ _ _ (Oper.mk (some 24) (.buildSlice _ _ _) _ _ _ _ :: _) _ _); refine m_lit0 M rfl rfl ?_; clear M; (try clear wx); intro g24 wx M)
                | (with_reducible (show wpList _ _ _ (Oper.mk (some 40) (.buildSlice _ _ _) _ _ _ _ :: _) _ _); refine m_lit0 M rfl rfl ?_; clear M; (try clear wx); intro g40 wx M)
                | (with_reducible (show wpList _ _ _ (Oper.mk (some 8) (.alloc _) _ _ _ _ :: _) _ _); refine mem_new M rfl rfl ?_; clear M; (try clear wx); intro g8 wx M)
                | (with_reducible (show wpList _ _ _ (Oper.mk (some 65) (.buildSlice _ _ _) _ _ _ _ :: _) _ _); refine m_lit0 M rfl rfl ?_; clear M; (try clear wx); intro g65 wx M)
                | (with_reducible (show wpList _ _ _ (Oper.mk (some 70) (.buildSlice _ _ _) _ _ _ _ :: _) _ _); (first | (refine m_lit1A M rfl rfl rfl (by first | exact HZ.out | exact pie_size _ rfl _ | (rw [bA_size]; exact hk32) | exact hk32 | (simp; done) | (simp; omega)) (by decide) ?_) | (refine m_lit11 (v := Value.int _ _) M rfl rfl rfl rfl ?_) | (refine m_lit11 (v := Value.slice _ _ _) M rfl rfl rfl rfl ?_) | (refine m_lit11 (v := Value.bool _) M rfl rfl rfl rfl ?_) | (refine m_lit11 (v := Value.string _) M rfl rfl rfl rfl ?_) | (refine m_lit11 (v := Value.pointer _) M rfl rfl rfl rfl ?_)); clear M; (try clear wx); intro g70 wx M)
                | (with_reducible (show wpList _ _ _ (Oper.mk (some 79) (.buildSlice _ _ _) _ _ _ _ :: _) _ _); refine m_lit0 M rfl rfl ?_; clear M; (try clear wx); intro g79 wx M)
                | (with_reducible (show wpList _ _ _ (Oper.mk _ (.load _ _) _ _ _ _ :: _) _ _); (first | (refine m_load (v := .string (tx x)) M rfl rfl rfl HC.out ?_) | (refine m_load (v := .string (tx a)) M rfl rfl rfl rfl ?_) | (refine m_load (v := .string (tx b')) M rfl rfl rfl rfl ?_) | (refine m_load M rfl rfl rfl (by first | assumption | rfl) ?_) | (refine m_loadR M rfl rfl rfl (by first | exact HZ.out | exact pie_size _ rfl _ | (rw [bA_size]; exact hk32) | exact hk32 | (simp; done) | (simp; omega)) ?_)))
                | (with_reducible (show wpList _ _ _ (Oper.mk _ (.store _ _ _) _ _ _ _ :: _) _ _); (first | (refine m_storeR M rfl rfl rfl rfl (by first | exact HZ.out | exact pie_size _ rfl _ | (rw [bA_size]; exact hk32) | exact hk32 | (simp; done) | (simp; omega)) (by first | exact HZ.out | exact pie_size _ rfl _ | (rw [bA_size]; exact hk32) | exact hk32 | (simp; done) | (simp; omega)) (by first | exact HPO.out | exact HK0.out | exact bA_one _) ?_) | (refine m_store (v := Value.int _ _) M rfl rfl rfl rfl rfl (by first | assumption | (simp; done) | (simp; omega)) ?_) | (refine m_store (v := Value.slice _ _ _) M rfl rfl rfl rfl rfl (by first | assumption | (simp; done) | (simp; omega)) ?_) | (refine m_store (v := Value.bool _) M rfl rfl rfl rfl rfl (by first | assumption | (simp; done) | (simp; omega)) ?_) | (refine m_store (v := Value.string _) M rfl rfl rfl rfl rfl (by first | assumption | (simp; done) | (simp; omega)) ?_) | (refine m_store (v := Value.pointer _) M rfl rfl rfl rfl rfl (by first | assumption | (simp; done) | (simp; omega)) ?_)); clear M; (try clear wx); intro wx M; simp only [List.set_cons_zero, List.set_cons_succ, Nat.zero_add, List.nil_append] at M)
                | (with_reducible (show wpList _ _ _ (Oper.mk _ (.build _ _) _ _ _ _ :: _) _ _); refine m_buildZ rfl rfl ?_)
                | (with_reducible (show wpList _ _ _ (Oper.mk _ (.call (Call.mk (.builtin .append) _ _)) _ _ _ _ :: _) _ _); (first | (refine m_append1 M rfl rfl rfl (by first | rfl | omega | (simp; done)) rfl (by first | exact HZ.out | exact pie_size _ rfl _ | (rw [bA_size]; exact hk32) | exact hk32 | (simp; done) | (simp; omega)) (by first | exact HPO.out | exact HK0.out | exact bA_one _) (by first | assumption | (simp only [maxLen]; omega)) (by omega) ?_)); clear M; (try clear wx); intro _ _ wx M; simp only [List.set_cons_zero, List.set_cons_succ, Nat.zero_add, List.nil_append] at M))
              go_ret2
              exact ⟨_, rfl, by rw [HE.out]; exact ⟨_, _, rfl, M.out_own (p := 0) rfl⟩, M.up⟩
          | true =>
            cases c2 with
            | false =>
              have HE := Lib.hid (HX0.out (fun h => by cases h.2.1))
              clear HX0 HX1
              go_wp2_with (first
                | (with_reducible (show wpList _ _ _ (Oper.mk _ (.indexAddr _ _ _) _ _ _ _ :: _) _ _); refine m_ix rfl rfl rfl j (by first | rfl | (refine congrArg (Value.int .i64) ?_; omega)) (by omega) ?_)
                | (go_at_call 14; (with_reducible refine mem_callO M (HW.out _) ?_); clear M; (try clear wx); intro bw cw wx M; obtain ⟨gw, tw, rfl, -, -, -, M⟩ := M.own_blk (p := 0) rfl (by simp); simp only [List.set_cons_zero, List.set_cons_succ, Nat.zero_add, List.nil_append] at M)
                | (go_at_call 15; (with_reducible refine mem_call M (HR.out _) ?_); clear M; (try clear wx); rintro _ wx rfl _ M)
                | (go_at_call 16; (with_reducible refine mem_call M (HU.out _) ?_); clear M; (try clear wx); rintro _ wx rfl _ M)
                | (with_reducible (show wpList _ _ _ (Oper.mk _ (.build _ _) _ _ _ _ :: _) _ _); refine m_build01 (v0 := .agg (bA K.1)) (v1 := .int .i64 z) rfl rfl rfl rfl HBT.out ?_)
                | (with_reducible (show wpList _ _ _ (Oper.mk (some 23) (.buildSlice _ _ _) _ _ _ _ :: _) _ _); refine m_lit0 M rfl rfl ?_; clear M; (try clear wx); intro g23 wx M)
                | (with_reducible (show wpList _ _ _ (Oper.mk (some 24) (.buildSlice _ _ _) _ _ _ _ :: _) _ _); refine m_lit0 M rfl rfl ?_; clear M; (try clear wx); intro g24 wx M)
                | (with_reducible (show wpList _ _ _ (Oper.mk (some 40) (.buildSlice _ _ _) _ _ _ _ :: _) _ _); refine m_lit0 M rfl rfl ?_; clear M; (try clear wx); intro g40 wx M)
                | (with_reducible (show wpList _ _ _ (Oper.mk (some 8) (.alloc _) _ _ _ _ :: _) _ _); refine mem_new M rfl rfl ?_; clear M; (try clear wx); intro g8 wx M)
                | (with_reducible (show wpList _ _ _ (Oper.mk (some 65) (.buildSlice _ _ _) _ _ _ _ :: _) _ _); refine m_lit0 M rfl rfl ?_; clear M; (try clear wx); intro g65 wx M)
                | (with_reducible (show wpList _ _ _ (Oper.mk (some 70) (.buildSlice _ _ _) _ _ _ _ :: _) _ _); (first | (refine m_lit1A M rfl rfl rfl (by first | exact HZ.out | exact pie_size _ rfl _ | (rw [bA_size]; exact hk32) | exact hk32 | (simp; done) | (simp; omega)) (by decide) ?_) | (refine m_lit11 (v := Value.int _ _) M rfl rfl rfl rfl ?_) | (refine m_lit11 (v := Value.slice _ _ _) M rfl rfl rfl rfl ?_) | (refine m_lit11 (v := Value.bool _) M rfl rfl rfl rfl ?_) | (refine m_lit11 (v := Value.string _) M rfl rfl rfl rfl ?_) | (refine m_lit11 (v := Value.pointer _) M rfl rfl rfl rfl ?_)); clear M; (try clear wx); intro g70 wx M)
                | (with_reducible (show wpList _ _ _ (Oper.mk (some 79) (.buildSlice _ _ _) _ _ _ _ :: _) _ _); refine m_lit0 M rfl rfl ?_; clear M; (try clear wx); intro g79 wx M)
                | (with_reducible (show wpList _ _ _ (Oper.mk _ (.load _ _) _ _ _ _ :: _) _ _); (first | (refine m_load (v := .string (tx x)) M rfl rfl rfl HC.out ?_) | (refine m_load (v := .string (tx a)) M rfl rfl rfl rfl ?_) | (refine m_load (v := .string (tx b')) M rfl rfl rfl rfl ?_) | (refine m_load M rfl rfl rfl (by first | assumption | rfl) ?_) | (refine m_loadR M rfl rfl rfl (by first | exact HZ.out | exact pie_size _ rfl _ | (rw [bA_size]; exact hk32) | exact hk32 | (simp; done) | (simp; omega)) ?_)))
                | (with_reducible (show wpList _ _ _ (Oper.mk _ (.store _ _ _) _ _ _ _ :: _) _ _); (first | (refine m_storeR M rfl rfl rfl rfl (by first | exact HZ.out | exact pie_size _ rfl _ | (rw [bA_size]; exact hk32) | exact hk32 | (simp; done) | (simp; omega)) (by first | exact HZ.out | exact pie_size _ rfl _ | (rw [bA_size]; exact hk32) | exact hk32 | (simp; done) | (simp; omega)) (by first | exact HPO.out | exact HK0.out | exact bA_one _) ?_) | (refine m_store (v := Value.int _ _) M rfl rfl rfl rfl rfl (by first | assumption | (simp; done) | (simp; omega)) ?_) | (refine m_store (v := Value.slice _ _ _) M rfl rfl rfl rfl rfl (by first | assumption | (simp; done) | (simp; omega)) ?_) | (refine m_store (v := Value.bool _) M rfl rfl rfl rfl rfl (by first | assumption | (simp; done) | (simp; omega)) ?_) | (refine m_store (v := Value.string _) M rfl rfl rfl rfl rfl (by first | assumption | (simp; done) | (simp; omega)) ?_) | (refine m_store (v := Value.pointer _) M rfl rfl rfl rfl rfl (by first | assumption | (simp; done) | (simp; omega)) ?_)); clear M; (try clear wx); intro wx M; simp only [List.set_cons_zero, List.set_cons_succ, Nat.zero_add, List.nil_append] at M)
                | (with_reducible (show wpList _ _ _ (Oper.mk _ (.build _ _) _ _ _ _ :: _) _ _); refine m_buildZ rfl rfl ?_)
                | (with_reducible (show wpList _ _ _ (Oper.mk _ (.call (Call.mk (.builtin .append) _ _)) _ _ _ _ :: _) _ _); (first | (refine m_append1 M rfl rfl rfl (by first | rfl | omega | (simp; done)) rfl (by first | exact HZ.out | exact pie_size _ rfl _ | (rw [bA_size]; exact hk32) | exact hk32 | (simp; done) | (simp; omega)) (by first | exact HPO.out | exact HK0.out | exact bA_one _) (by first | assumption | (simp only [maxLen]; omega)) (by omega) ?_)); clear M; (try clear wx); intro _ _ wx M; simp only [List.set_cons_zero, List.set_cons_succ, Nat.zero_add, List.nil_append] at M))
              go_ret2
              exact ⟨_, rfl, by rw [HE.out]; exact ⟨_, _, rfl, M.out_own (p := 0) rfl⟩, M.up⟩
            | true =>
              have HX := Lib.hid (HX1.out rfl rfl (by omega))
              clear HX0 HX1
              go_wp2_with (first
                | (with_reducible (show wpList _ _ _ (Oper.mk _ (.indexAddr _ _ _) _ _ _ _ :: _) _ _); refine m_ix rfl rfl rfl j (by first | rfl | (refine congrArg (Value.int .i64) ?_; omega)) (by omega) ?_)
                | (go_at_call 14; (with_reducible refine mem_callO M (HW.out _) ?_); clear M; (try clear wx); intro bw cw wx M; obtain ⟨gw, tw, rfl, -, -, -, M⟩ := M.own_blk (p := 0) rfl (by simp); simp only [List.set_cons_zero, List.set_cons_succ, Nat.zero_add, List.nil_append] at M)
                | (go_at_call 15; (with_reducible refine mem_call M (HR.out _) ?_); clear M; (try clear wx); rintro _ wx rfl _ M)
                | (go_at_call 16; (with_reducible refine mem_call M (HU.out _) ?_); clear M; (try clear wx); rintro _ wx rfl _ M)
                | (with_reducible (show wpList _ _ _ (Oper.mk _ (.build _ _) _ _ _ _ :: _) _ _); refine m_build01 (v0 := .agg (bA K.1)) (v1 := .int .i64 z) rfl rfl rfl rfl HBT.out ?_)
                | (with_reducible (show wpList _ _ _ (Oper.mk (some 23) (.buildSlice _ _ _) _ _ _ _ :: _) _ _); refine m_lit0 M rfl rfl ?_; clear M; (try clear wx); intro g23 wx M)
                | (with_reducible (show wpList _ _ _ (Oper.mk (some 24) (.buildSlice _ _ _) _ _ _ _ :: _) _ _); refine m_lit0 M rfl rfl ?_; clear M; (try clear wx); intro g24 wx M)
                | (with_reducible (show wpList _ _ _ (Oper.mk (some 40) (.buildSlice _ _ _) _ _ _ _ :: _) _ _); refine m_lit0 M rfl rfl ?_; clear M; (try clear wx); intro g40 wx M)
                | (with_reducible (show wpList _ _ _ (Oper.mk (some 8) (.alloc _) _ _ _ _ :: _) _ _); refine mem_new M rfl rfl ?_; clear M; (try clear wx); intro g8 wx M)
                | (with_reducible (show wpList _ _ _ (Oper.mk (some 65) (.buildSlice _ _ _) _ _ _ _ :: _) _ _); refine m_lit0 M rfl rfl ?_; clear M; (try clear wx); intro g65 wx M)
                | (with_reducible (show wpList _ _ _ (Oper.mk (some 70) (.buildSlice _ _ _) _ _ _ _ :: _) _ _); (first | (refine m_lit1A M rfl rfl rfl (by first | exact HZ.out | exact pie_size _ rfl _ | (rw [bA_size]; exact hk32) | exact hk32 | (simp; done) | (simp; omega)) (by decide) ?_) | (refine m_lit11 (v := Value.int _ _) M rfl rfl rfl rfl ?_) | (refine m_lit11 (v := Value.slice _ _ _) M rfl rfl rfl rfl ?_) | (refine m_lit11 (v := Value.bool _) M rfl rfl rfl rfl ?_) | (refine m_lit11 (v := Value.string _) M rfl rfl rfl rfl ?_) | (refine m_lit11 (v := Value.pointer _) M rfl rfl rfl rfl ?_)); clear M; (try clear wx); intro g70 wx M)
                | (with_reducible (show wpList _ _ _ (Oper.mk (some 79) (.buildSlice _ _ _) _ _ _ _ :: _) _ _); refine m_lit0 M rfl rfl ?_; clear M; (try clear wx); intro g79 wx M)
                | (with_reducible (show wpList _ _ _ (Oper.mk _ (.load _ _) _ _ _ _ :: _) _ _); (first | (refine m_load (v := .string (tx x)) M rfl rfl rfl HC.out ?_) | (refine m_load (v := .string (tx a)) M rfl rfl rfl rfl ?_) | (refine m_load (v := .string (tx b')) M rfl rfl rfl rfl ?_) | (refine m_load M rfl rfl rfl (by first | assumption | rfl) ?_) | (refine m_loadR M rfl rfl rfl (by first | exact HZ.out | exact pie_size _ rfl _ | (rw [bA_size]; exact hk32) | exact hk32 | (simp; done) | (simp; omega)) ?_)))
                | (with_reducible (show wpList _ _ _ (Oper.mk _ (.store _ _ _) _ _ _ _ :: _) _ _); (first | (refine m_storeR M rfl rfl rfl rfl (by first | exact HZ.out | exact pie_size _ rfl _ | (rw [bA_size]; exact hk32) | exact hk32 | (simp; done) | (simp; omega)) (by first | exact HZ.out | exact pie_size _ rfl _ | (rw [bA_size]; exact hk32) | exact hk32 | (simp; done) | (simp; omega)) (by first | exact HPO.out | exact HK0.out | exact bA_one _) ?_) | (refine m_store (v := Value.int _ _) M rfl rfl rfl rfl rfl (by first | assumption | (simp; done) | (simp; omega)) ?_) | (refine m_store (v := Value.slice _ _ _) M rfl rfl rfl rfl rfl (by first | assumption | (simp; done) | (simp; omega)) ?_) | (refine m_store (v := Value.bool _) M rfl rfl rfl rfl rfl (by first | assumption | (simp; done) | (simp; omega)) ?_) | (refine m_store (v := Value.string _) M rfl rfl rfl rfl rfl (by first | assumption | (simp; done) | (simp; omega)) ?_) | (refine m_store (v := Value.pointer _) M rfl rfl rfl rfl rfl (by first | assumption | (simp; done) | (simp; omega)) ?_)); clear M; (try clear wx); intro wx M; simp only [List.set_cons_zero, List.set_cons_succ, Nat.zero_add, List.nil_append] at M)
                | (with_reducible (show wpList _ _ _ (Oper.mk _ (.build _ _) _ _ _ _ :: _) _ _); refine m_buildZ rfl rfl ?_)
                | (with_reducible (show wpList _ _ _ (Oper.mk _ (.call (Call.mk (.builtin .append) _ _)) _ _ _ _ :: _) _ _); (first | (refine m_append1 M rfl rfl rfl (by first | rfl | omega | (simp; done)) rfl (by first | exact HZ.out | exact pie_size _ rfl _ | (rw [bA_size]; exact hk32) | exact hk32 | (simp; done) | (simp; omega)) (by first | exact HPO.out | exact HK0.out | exact bA_one _) (by first | assumption | (simp only [maxLen]; omega)) (by omega) ?_)); clear M; (try clear wx); intro _ _ wx M; simp only [List.set_cons_zero, List.set_cons_succ, Nat.zero_add, List.nil_append] at M))
              have M := M.pick [2, 3] (by decide)
              have M := fun (h : piL ps ++ (pieC K.1 z).toList = piL (ps ++ [(K, z)])) => (show Mem w _ [.own _ _ 43 33 (j + 1) (piL (ps ++ [(K, z)])), .blk gl 9 (LL ++ tl).toArray] from h ▸ M)
              replace M := M HP2.out
              have hj := HJ.out
              go_roundg (gk - 1)
              case measure => omega
              case rel => exact ⟨j + 1, ps ++ [(K, z)], _, _, by omega, rfl, by go_num, Lib.hid ⟨by rw [List.length_append, HP.out.1]; rfl, HX.out⟩, M⟩
      · have HE := Lib.hid (HN.out (sLine_other h2))
        have g2 : (((sp 32 x).length : Int) != 2) = true := by simp; omega
        clear HN h2
        generalize stL ((sp 32 x).map tx) = LW at *
        generalize (sp 32 x).length = nw at *
        go_wp2_with (first
          | (with_reducible (show wpList _ _ _ (Oper.mk _ (.indexAddr _ _ _) _ _ _ _ :: _) _ _); refine m_ix rfl rfl rfl j (by first | rfl | (refine congrArg (Value.int .i64) ?_; omega)) (by omega) ?_)
          | (go_at_call 14; (with_reducible refine mem_callO M (HW.out _) ?_); clear M; (try clear wx); intro bw cw wx M)
          | (with_reducible (show wpList _ _ _ (Oper.mk (some 23) (.buildSlice _ _ _) _ _ _ _ :: _) _ _); refine m_lit0 M rfl rfl ?_; clear M; (try clear wx); intro g23 wx M)
          | (with_reducible (show wpList _ _ _ (Oper.mk (some 24) (.buildSlice _ _ _) _ _ _ _ :: _) _ _); refine m_lit0 M rfl rfl ?_; clear M; (try clear wx); intro g24 wx M)
          | (with_reducible (show wpList _ _ _ (Oper.mk (some 40) (.buildSlice _ _ _) _ _ _ _ :: _) _ _); refine m_lit0 M rfl rfl ?_; clear M; (try clear wx); intro g40 wx M)
          | (with_reducible (show wpList _ _ _ (Oper.mk (some 8) (.alloc _) _ _ _ _ :: _) _ _); refine mem_new M rfl rfl ?_; clear M; (try clear wx); intro g8 wx M)
          | (with_reducible (show wpList _ _ _ (Oper.mk (some 65) (.buildSlice _ _ _) _ _ _ _ :: _) _ _); refine m_lit0 M rfl rfl ?_; clear M; (try clear wx); intro g65 wx M)
          | (with_reducible (show wpList _ _ _ (Oper.mk (some 70) (.buildSlice _ _ _) _ _ _ _ :: _) _ _); (first | (refine m_lit1A M rfl rfl rfl (by first | rfl | assumption | (simp; done) | (simp; omega)) (by decide) ?_) | (refine m_lit11 (v := Value.int _ _) M rfl rfl rfl rfl ?_) | (refine m_lit11 (v := Value.slice _ _ _) M rfl rfl rfl rfl ?_) | (refine m_lit11 (v := Value.bool _) M rfl rfl rfl rfl ?_) | (refine m_lit11 (v := Value.string _) M rfl rfl rfl rfl ?_) | (refine m_lit11 (v := Value.pointer _) M rfl rfl rfl rfl ?_)); clear M; (try clear wx); intro g70 wx M)
          | (with_reducible (show wpList _ _ _ (Oper.mk (some 79) (.buildSlice _ _ _) _ _ _ _ :: _) _ _); refine m_lit0 M rfl rfl ?_; clear M; (try clear wx); intro g79 wx M)
          | (with_reducible (show wpList _ _ _ (Oper.mk _ (.load _ _) _ _ _ _ :: _) _ _); (first | (refine m_load (v := .string (tx x)) M rfl rfl rfl HC.out ?_) | (refine m_load M rfl rfl rfl (by first | assumption | rfl) ?_) | (refine m_loadR M rfl rfl rfl (by first | rfl | assumption | (simp; done) | (simp; omega)) ?_)))
          | (with_reducible (show wpList _ _ _ (Oper.mk _ (.store _ _ _) _ _ _ _ :: _) _ _); (first | (refine m_storeR M rfl rfl rfl rfl (by first | rfl | assumption | (simp; done) | (simp; omega)) (by first | rfl | assumption | (simp; done) | (simp; omega)) (by simp [Value.oneCell']) ?_) | (refine m_store (v := Value.int _ _) M rfl rfl rfl rfl rfl (by first | assumption | (simp; done) | (simp; omega)) ?_) | (refine m_store (v := Value.slice _ _ _) M rfl rfl rfl rfl rfl (by first | assumption | (simp; done) | (simp; omega)) ?_) | (refine m_store (v := Value.bool _) M rfl rfl rfl rfl rfl (by first | assumption | (simp; done) | (simp; omega)) ?_) | (refine m_store (v := Value.string _) M rfl rfl rfl rfl rfl (by first | assumption | (simp; done) | (simp; omega)) ?_) | (refine m_store (v := Value.pointer _) M rfl rfl rfl rfl rfl (by first | assumption | (simp; done) | (simp; omega)) ?_)); clear M; (try clear wx); intro wx M; simp only [List.set_cons_zero, List.set_cons_succ, Nat.zero_add, List.nil_append] at M)
          | (with_reducible (show wpList _ _ _ (Oper.mk _ (.build _ _) _ _ _ _ :: _) _ _); refine m_buildZ rfl rfl ?_)
          | (with_reducible (show wpList _ _ _ (Oper.mk _ (.call (Call.mk (.builtin .append) _ _)) _ _ _ _ :: _) _ _); (first | (refine m_append1 M rfl rfl rfl (by first | rfl | omega | (simp; done)) rfl (by first | rfl | assumption | (simp; done) | (simp; omega)) (by simp [Value.oneCell']) (by first | assumption | (simp only [maxLen]; omega)) (by omega) ?_)); clear M; (try clear wx); intro _ _ wx M; simp only [List.set_cons_zero, List.set_cons_succ, Nat.zero_add, List.nil_append] at M))
        go_ret2
        exact ⟨_, rfl, by rw [HE.out]; exact ⟨_, _, rfl, M.out_own (p := 0) rfl⟩, M.up⟩
    · obtain rfl : j = m := by omega
      have HY := Lib.hid (HXY.out tl)
      have HR := Lib.hid (HEY.out ps (by
        have := HP.out.2
        rwa [List.take_of_length_le (by rw [HM.out]; exact Nat.le_refl _)] at this))
      have HPL := Lib.hid HP.out.1
      clear HXS HXY HME HEN HEY HP hj
      by_cases hy : y = []
      · subst hy
        have HE := Lib.hid (show rrS s.data.toList = (ps, 0) by rw [HR.out, if_pos rfl])
        have hb : (!(tx []).toList.isEmpty) = false := by rw [Lib.toList_data, tx_data]; rfl
        clear HR
        go_wp2_with (first
          | (with_reducible (show wpList _ _ _ (Oper.mk _ (.indexAddr _ _ _) _ _ _ _ :: _) _ _); refine m_ix rfl rfl rfl rfl (show j < j + 1 by omega) ?_)
          | (with_reducible (show wpList _ _ _ (Oper.mk (some 23) (.buildSlice _ _ _) _ _ _ _ :: _) _ _); refine m_lit0 M rfl rfl ?_; clear M; (try clear wx); intro g23 wx M)
          | (with_reducible (show wpList _ _ _ (Oper.mk (some 24) (.buildSlice _ _ _) _ _ _ _ :: _) _ _); refine m_lit0 M rfl rfl ?_; clear M; (try clear wx); intro g24 wx M)
          | (with_reducible (show wpList _ _ _ (Oper.mk (some 40) (.buildSlice _ _ _) _ _ _ _ :: _) _ _); refine m_lit0 M rfl rfl ?_; clear M; (try clear wx); intro g40 wx M)
          | (with_reducible (show wpList _ _ _ (Oper.mk (some 8) (.alloc _) _ _ _ _ :: _) _ _); refine mem_new M rfl rfl ?_; clear M; (try clear wx); intro g8 wx M)
          | (with_reducible (show wpList _ _ _ (Oper.mk (some 65) (.buildSlice _ _ _) _ _ _ _ :: _) _ _); refine m_lit0 M rfl rfl ?_; clear M; (try clear wx); intro g65 wx M)
          | (with_reducible (show wpList _ _ _ (Oper.mk (some 70) (.buildSlice _ _ _) _ _ _ _ :: _) _ _); (first | (refine m_lit1A M rfl rfl rfl (by first | rfl | assumption | (simp; done) | (simp; omega)) (by decide) ?_) | (refine m_lit11 (v := Value.int _ _) M rfl rfl rfl rfl ?_) | (refine m_lit11 (v := Value.slice _ _ _) M rfl rfl rfl rfl ?_) | (refine m_lit11 (v := Value.bool _) M rfl rfl rfl rfl ?_) | (refine m_lit11 (v := Value.string _) M rfl rfl rfl rfl ?_) | (refine m_lit11 (v := Value.pointer _) M rfl rfl rfl rfl ?_)); clear M; (try clear wx); intro g70 wx M)
          | (with_reducible (show wpList _ _ _ (Oper.mk (some 79) (.buildSlice _ _ _) _ _ _ _ :: _) _ _); refine m_lit0 M rfl rfl ?_; clear M; (try clear wx); intro g79 wx M)
          | (with_reducible (show wpList _ _ _ (Oper.mk _ (.load _ _) _ _ _ _ :: _) _ _); (first | (refine m_load (v := .string (tx [])) M rfl rfl rfl HY.out ?_) | (refine m_load M rfl rfl rfl (by first | assumption | rfl) ?_) | (refine m_loadR M rfl rfl rfl (by first | rfl | assumption | (simp; done) | (simp; omega)) ?_)))
          | (with_reducible (show wpList _ _ _ (Oper.mk _ (.store _ _ _) _ _ _ _ :: _) _ _); (first | (refine m_storeR M rfl rfl rfl rfl (by first | rfl | assumption | (simp; done) | (simp; omega)) (by first | rfl | assumption | (simp; done) | (simp; omega)) (by simp [Value.oneCell']) ?_) | (refine m_store (v := Value.int _ _) M rfl rfl rfl rfl rfl (by first | assumption | (simp; done) | (simp; omega)) ?_) | (refine m_store (v := Value.slice _ _ _) M rfl rfl rfl rfl rfl (by first | assumption | (simp; done) | (simp; omega)) ?_) | (refine m_store (v := Value.bool _) M rfl rfl rfl rfl rfl (by first | assumption | (simp; done) | (simp; omega)) ?_) | (refine m_store (v := Value.string _) M rfl rfl rfl rfl rfl (by first | assumption | (simp; done) | (simp; omega)) ?_) | (refine m_store (v := Value.pointer _) M rfl rfl rfl rfl rfl (by first | assumption | (simp; done) | (simp; omega)) ?_)); clear M; (try clear wx); intro wx M; simp only [List.set_cons_zero, List.set_cons_succ, Nat.zero_add, List.nil_append] at M)
          | (with_reducible (show wpList _ _ _ (Oper.mk _ (.build _ _) _ _ _ _ :: _) _ _); refine m_buildZ rfl rfl ?_)
          | (with_reducible (show wpList _ _ _ (Oper.mk _ (.call (Call.mk (.builtin .append) _ _)) _ _ _ _ :: _) _ _); (first | (refine m_append1 M rfl rfl rfl (by first | rfl | omega | (simp; done)) rfl (by first | rfl | assumption | (simp; done) | (simp; omega)) (by simp [Value.oneCell']) (by first | assumption | (simp only [maxLen]; omega)) (by omega) ?_)); clear M; (try clear wx); intro _ _ wx M; simp only [List.set_cons_zero, List.set_cons_succ, Nat.zero_add, List.nil_append] at M))
        go_ret2
        exact ⟨_, rfl, by rw [HE.out]; show OwnR2 w _ 43 33 _ ps.length (piL ps) (.int .i64 0); rw [HPL.out]; exact ⟨_, _, rfl, M.out_own (p := 0) rfl⟩, M.up⟩
      · have HE := Lib.hid (show rrS s.data.toList = ([], 5) by rw [HR.out, if_neg hy])
        have hb : (!(tx y).toList.isEmpty) = true := by
          rw [Lib.toList_data, tx_data]
          cases y with
          | nil => exact absurd rfl hy
          | cons a l => rfl
        clear HR hy
        generalize tx y = ty at *
        go_wp2_with (first
          | (with_reducible (show wpList _ _ _ (Oper.mk _ (.indexAddr _ _ _) _ _ _ _ :: _) _ _); refine m_ix rfl rfl rfl rfl (show j < j + 1 by omega) ?_)
          | (with_reducible (show wpList _ _ _ (Oper.mk (some 23) (.buildSlice _ _ _) _ _ _ _ :: _) _ _); refine m_lit0 M rfl rfl ?_; clear M; (try clear wx); intro g23 wx M)
          | (with_reducible (show wpList _ _ _ (Oper.mk (some 24) (.buildSlice _ _ _) _ _ _ _ :: _) _ _); refine m_lit0 M rfl rfl ?_; clear M; (try clear wx); intro g24 wx M)
          | (with_reducible (show wpList _ _ _ (Oper.mk (some 40) (.buildSlice _ _ _) _ _ _ _ :: _) _ _); refine m_lit0 M rfl rfl ?_; clear M; (try clear wx); intro g40 wx M)
          | (with_reducible (show wpList _ _ _ (Oper.mk (some 8) (.alloc _) _ _ _ _ :: _) _ _); refine mem_new M rfl rfl ?_; clear M; (try clear wx); intro g8 wx M)
          | (with_reducible (show wpList _ _ _ (Oper.mk (some 65) (.buildSlice _ _ _) _ _ _ _ :: _) _ _); refine m_lit0 M rfl rfl ?_; clear M; (try clear wx); intro g65 wx M)
          | (with_reducible (show wpList _ _ _ (Oper.mk (some 70) (.buildSlice _ _ _) _ _ _ _ :: _) _ _); (first | (refine m_lit1A M rfl rfl rfl (by first | rfl | assumption | (simp; done) | (simp; omega)) (by decide) ?_) | (refine m_lit11 (v := Value.int _ _) M rfl rfl rfl rfl ?_) | (refine m_lit11 (v := Value.slice _ _ _) M rfl rfl rfl rfl ?_) | (refine m_lit11 (v := Value.bool _) M rfl rfl rfl rfl ?_) | (refine m_lit11 (v := Value.string _) M rfl rfl rfl rfl ?_) | (refine m_lit11 (v := Value.pointer _) M rfl rfl rfl rfl ?_)); clear M; (try clear wx); intro g70 wx M)
          | (with_reducible (show wpList _ _ _ (Oper.mk (some 79) (.buildSlice _ _ _) _ _ _ _ :: _) _ _); refine m_lit0 M rfl rfl ?_; clear M; (try clear wx); intro g79 wx M)
          | (with_reducible (show wpList _ _ _ (Oper.mk _ (.load _ _) _ _ _ _ :: _) _ _); (first | (refine m_load (v := .string ty) M rfl rfl rfl HY.out ?_) | (refine m_load M rfl rfl rfl (by first | assumption | rfl) ?_) | (refine m_loadR M rfl rfl rfl (by first | rfl | assumption | (simp; done) | (simp; omega)) ?_)))
          | (with_reducible (show wpList _ _ _ (Oper.mk _ (.store _ _ _) _ _ _ _ :: _) _ _); (first | (refine m_storeR M rfl rfl rfl rfl (by first | rfl | assumption | (simp; done) | (simp; omega)) (by first | rfl | assumption | (simp; done) | (simp; omega)) (by simp [Value.oneCell']) ?_) | (refine m_store (v := Value.int _ _) M rfl rfl rfl rfl rfl (by first | assumption | (simp; done) | (simp; omega)) ?_) | (refine m_store (v := Value.slice _ _ _) M rfl rfl rfl rfl rfl (by first | assumption | (simp; done) | (simp; omega)) ?_) | (refine m_store (v := Value.bool _) M rfl rfl rfl rfl rfl (by first | assumption | (simp; done) | (simp; omega)) ?_) | (refine m_store (v := Value.string _) M rfl rfl rfl rfl rfl (by first | assumption | (simp; done) | (simp; omega)) ?_) | (refine m_store (v := Value.pointer _) M rfl rfl rfl rfl rfl (by first | assumption | (simp; done) | (simp; omega)) ?_)); clear M; (try clear wx); intro wx M; simp only [List.set_cons_zero, List.set_cons_succ, Nat.zero_add, List.nil_append] at M)
          | (with_reducible (show wpList _ _ _ (Oper.mk _ (.build _ _) _ _ _ _ :: _) _ _); refine m_buildZ rfl rfl ?_)
          | (with_reducible (show wpList _ _ _ (Oper.mk _ (.call (Call.mk (.builtin .append) _ _)) _ _ _ _ :: _) _ _); (first | (refine m_append1 M rfl rfl rfl (by first | rfl | omega | (simp; done)) rfl (by first | rfl | assumption | (simp; done) | (simp; omega)) (by simp [Value.oneCell']) (by first | assumption | (simp only [maxLen]; omega)) (by omega) ?_)); clear M; (try clear wx); intro _ _ wx M; simp only [List.set_cons_zero, List.set_cons_succ, Nat.zero_add, List.nil_append] at M))
        go_ret2
        exact ⟨_, rfl, by rw [HE.out]; exact ⟨_, _, rfl, M.out_own (p := 0) rfl⟩, M.up⟩

end Go.Proofs.YtmbhaoiahlbglaaDoor

/- Walks: pieces of a recipe copied, compared, marked. -/
import Derived.Test.YtmbhaoiahlbglaaDoorHL
namespace Go.Proofs.YtmbhaoiahlbglaaDoor
open Go.RowKit
set_option linter.unusedVariables false
set_option linter.unusedSimpArgs false

/-- A piece: a key and a length. -/
abbrev Pc := Ky × Int
def bP (p : Pc) : List Value := bL p.1.1 ++ [.int .i64 p.2]
def piL (ps : List Pc) : List Value := ps.flatMap bP
@[simp] theorem bP_len (p : Pc) : (bP p).length = 33 := by simp [bP, bL_length]
theorem pieC_eq (p : Pc) : pieC p.1.1 p.2 = (bP p).toArray := rfl
@[simp] theorem piL_len (ps : List Pc) : (piL ps).length = ps.length * 33 := by
  induction ps with
  | nil => rfl
  | cons p ps ih => simp only [piL, List.flatMap_cons, List.length_append, bP_len, List.length_cons] at ih ⊢; rw [ih]; omega
theorem piL_append (a b : List Pc) : piL (a ++ b) = piL a ++ piL b := by simp [piL]
theorem bP_one (p : Pc) : ∀ u ∈ bP p, u.oneCell' = true := by
  intro u hu
  rcases List.mem_append.1 hu with h | h
  · exact bL_one _ u h
  · simp at h
    subst h
    rfl
theorem piL_one (ps : List Pc) : ∀ u ∈ piL ps, u.oneCell' = true := by
  intro u hu
  simp only [piL, List.mem_flatMap] at hu
  obtain ⟨e, _, he⟩ := hu
  exact bP_one e u he
theorem piL_get (ps : List Pc) (i : Nat) (hi : i < ps.length) (j : Nat) (v : Value) (hv : (bP ps[i])[j]? = some v) : (piL ps)[i * 33 + j]? = some v := by
  induction ps generalizing i with
  | nil => simp at hi
  | cons e es ih =>
    have hk : (bP e).length = 33 := bP_len e
    simp only [piL, List.flatMap_cons]
    cases i with
    | zero =>
      have hj : j < (bP e).length := (List.getElem?_eq_some_iff.1 (by simpa using hv)).1
      rw [Nat.zero_mul, Nat.zero_add, List.getElem?_append_left hj]
      simpa using hv
    | succ i =>
      rw [List.getElem?_append_right (by omega), hk]
      have := ih i (by simpa using hi) (by simpa using hv)
      rw [show (i + 1) * 33 + j - 33 = i * 33 + j by omega]
      exact this
theorem piL_range {w : World} {g o : Nat} {ps : List Pc} (h : w.rangeAt g o (piL ps)) (k : Nat) (hk : k < ps.length) : w.rangeAt g (o + k * 33) (bP ps[k]) := fun j v hv => by
  have := h _ _ (piL_get ps k hk j v hv)
  rw [← Nat.add_assoc] at this
  exact this
theorem Mem.rdP {w0 w : World} {L : List It} (M : Mem w0 w L) (ps : List Pc) {b : Option Addr} {cap n p : Nat} {e : TypeId} [hL : AtO L b cap n p e 33 (piL ps)] : Rd w 33 (.slice b n cap) n (piL ps) := M.rd hL.out (piL_one ps)
theorem pie_one (p : Pc) : (pieC p.1.1 p.2).all (·.oneCell') = true := by simp [pieC, bL, bV, Value.oneCell']
theorem pieZ_one : (pieC zero32 0).all (·.oneCell') = true := pie_one (zeroKy, 0)
theorem pie_size (l : List UInt8) (hl : l.length = 32) (n : Int) : (pieC l n).size = 33 := by simp [pieC, bL_length, hl]
theorem pie_get0 (l : List UInt8) (n : Int) : ∀ (j : Nat) (u : Value), (bL l)[j]? = some u → (pieC l n)[0 + j]? = some u := by
  intro j u h
  have hj := (List.getElem?_eq_some_iff.1 h).1
  simp only [pieC, List.getElem?_toArray, Nat.zero_add]
  rw [List.getElem?_append_left hj]
  exact h
theorem pie_32 (l : List UInt8) (hl : l.length = 32) (n : Int) : (pieC l n)[32]? = some (.int .i64 n) := by
  simp only [pieC, List.getElem?_toArray]
  rw [List.getElem?_append_right (by simp [bL_length, hl])]
  simp [bL_length, hl]
theorem pie_set0 (l x : List UInt8) (hl : l.length = 32) (hx : x.length = 32) (n : Int) : putC (bL x) 0 (pieC l n) = pieC x n := by
  unfold pieC
  rw [putC_list _ _ _ (by simp [bL_length, hl, hx])]
  simp [bL_length, hl, hx, List.drop_append]
theorem pie_set32 (l : List UInt8) (hl : l.length = 32) (n m : Int) : (pieC l n).setIfInBounds 32 (.int .i64 m) = pieC l m := by
  unfold pieC
  rw [List.setIfInBounds_toArray, List.set_append_right _ _ (by simp [bL_length, hl])]
  simp [bL_length, hl]
section
variable {P : Program} {ops : Array Oper} {rest : List Oper} {o : Oper} {a : Act} {w0 w : World} {Q : Exit → Act → World → Prop} {L : List It} {F : Value → World → Prop}
theorem st_loadPi {ty : TypeId} {x : Operand} (ho : o.op = .load ty x) {g i : Nat} (hx : a.eval x = .pointer (some ⟨g, i, none⟩)) [hT : RowT P ty 33] {p : Pc} (hc : w.rangeAt g i (bP p)) (hF : F (.agg (pieC p.1.1 p.2)) w) : St P o a w Q F :=
  st_loadP ho hx hc (bP_len p) hF
theorem m_loadBp (M : Mem w0 w L) (hgd : o.guard = none) {ty : TypeId} {x : Operand} (ho : o.op = .load ty x) {g i : Nat} (hx : a.eval x = .pointer (some ⟨g, i, none⟩)) {n : Nat} [hT : RowT P ty n]
    {p : Nat} {t : TypeId} {cs : Array Value} [hL : AtG L g p t cs] {l : List UInt8} (hc : ∀ (j : Nat) (v : Value), (bL l)[j]? = some v → cs[i + j]? = some v) (hn : l.length = n)
    (h : wpList P ops Q rest (a.put o.dst (.agg (bA l))) w) : wpList P ops Q (o :: rest) a w := m_loadP M hgd ho hx hc (by rw [bL_length, hn]) h
theorem rd_loadPi {w : World} (hgd : o.guard = none) {ty : TypeId} {x : Operand} (ho : o.op = .load ty x) {g i : Nat} (hx : a.eval x = .pointer (some ⟨g, i, none⟩)) [hT : RowT P ty 33] {p : Pc} (hc : w.rangeAt g i (bP p)) (h : wpList P ops Q rest (a.put o.dst (.agg (pieC p.1.1 p.2))) w) : wpList P ops Q (o :: rest) a w :=
  rd_loadR hgd ho hx hc (bP_len p) h
end

set_option maxHeartbeats 400000 in
theorem szPieceS_r (b : Option Addr) (n cap : Nat) (left : Int) (h0 : 0 ≤ left) (h1 : left ≤ 1048576) (hn : n ≤ maxLen) (w : World) :
    Ret Tryd.prog 10 #[.slice b n cap, .int .i64 left] w fun r _ => r = .int .i64 (if left - (n : Int) < 0 then -1 else left - (n : Int)) := by
  have hmm : maxLen ≤ 9223372036854775807 := by decide
  have hml : n ≤ 9223372036854775807 := by omega
  refine ret_start fun wx M => ?_
  clear hmm hn
  by_cases hbig : left - (n : Int) < 0
  · rw [if_pos hbig]
    go_enter Tryd.func10, Tryd.ntmps10
    go_wp2_with fail
    go_ret
    exact ⟨_, rfl, rfl, M.up⟩
  · rw [if_neg hbig]
    go_enter Tryd.func10, Tryd.ntmps10
    go_wp2_with fail
    go_ret
    exact ⟨_, rfl, rfl, M.up⟩

set_option maxHeartbeats 1000000 in
set_option maxRecDepth 100000 in
theorem toPiece_r (p : Pc) (w : World) : Ret Tryd.prog 28 #[.agg (pieC p.1.1 p.2)] w fun r _ => r = .agg (pieC p.1.1 p.2) := by
  obtain ⟨⟨k, hk⟩, n⟩ := p
  have HS0 := Lib.hid (pie_set0 zero32 k rfl hk 0)
  have HS1 := Lib.hid (pie_set32 k hk 0 n)
  have H32 := Lib.hid (pie_32 k hk n)
  have HZ := Lib.hid (pie_size k hk n)
  have HZ0 := Lib.hid (pie_size k hk 0)
  have HO := Lib.hid (pie_one (⟨k, hk⟩, n))
  refine ret_start fun wx M => ?_
  go_enter Tryd.func28, Tryd.ntmps28
  go_wp2_with (first
    | (go_at_call 48; (with_reducible refine mem_call M (toKey_r' k hk _) ?_); clear M; (try clear wx); rintro _ wx rfl _ M)
    | (with_reducible (show wpList _ _ _ (Oper.mk _ (.store _ _ _) _ _ _ _ :: _) _ _); refine m_storeP M rfl rfl rfl rfl (by rw [bA_size, hk]) (by rw [pie_size _ rfl]; omega) (bA_one _) ?_; clear M; (try clear wx); intro wx M; simp only [List.set_cons_zero, List.set_cons_succ, Nat.zero_add, List.nil_append] at M; rw [bA_toList, HS0.out] at M)
    | (with_reducible (show wpList _ _ _ (Oper.mk _ (.store _ _ _) _ _ _ _ :: _) _ _); refine m_store (v := .int .i64 n) M rfl rfl rfl rfl rfl (by rw [HZ0.out]; omega) ?_; clear M; (try clear wx); intro wx M; simp only [List.set_cons_zero, List.set_cons_succ, Nat.zero_add, List.nil_append] at M; rw [HS1.out] at M)
    | (with_reducible (show wpList _ _ _ (Oper.mk (some 1) (.box _ _) _ _ _ _ :: _) _ _); (first | (refine m_boxA M rfl rfl rfl ?_) | (refine m_box1 (v := Value.int _ _) M rfl rfl rfl rfl ?_) | (refine m_box1 (v := Value.slice _ _ _) M rfl rfl rfl rfl ?_) | (refine m_box1 (v := Value.bool _) M rfl rfl rfl rfl ?_) | (refine m_box1 (v := Value.string _) M rfl rfl rfl rfl ?_) | (refine m_box1 (v := Value.pointer _) M rfl rfl rfl rfl ?_)); clear M; (try clear wx); intro g1 wx M)
    | (with_reducible (show wpList _ _ _ (Oper.mk (some 2) (.alloc _) _ _ _ _ :: _) _ _); refine mem_new M rfl rfl ?_; clear M; (try clear wx); intro g2 wx M)
    | (with_reducible (show wpList _ _ _ (Oper.mk (some 3) (.alloc _) _ _ _ _ :: _) _ _); refine mem_new M rfl rfl ?_; clear M; (try clear wx); intro g3 wx M)
    | (with_reducible (show wpList _ _ _ (Oper.mk _ (.load _ _) _ _ _ _ :: _) _ _); (first | (refine m_loadBp M rfl rfl rfl (pie_get0 k n) hk ?_) | (refine m_load (v := .int .i64 n) M rfl rfl rfl H32.out ?_) | (refine m_load M rfl rfl rfl (by first | assumption | rfl) ?_) | (refine m_loadR M rfl rfl rfl (by first | exact HZ.out | exact pie_size _ rfl _ | (simp; done)) ?_)))
    | (with_reducible (show wpList _ _ _ (Oper.mk _ (.store _ _ _) _ _ _ _ :: _) _ _); (first | (refine m_storeR M rfl rfl rfl rfl (by first | exact HZ.out | exact pie_size _ rfl _ | (simp; done)) (by first | exact HZ.out | exact pie_size _ rfl _ | (simp; done)) HO.out ?_) | (refine m_store (v := Value.int _ _) M rfl rfl rfl rfl rfl (by first | assumption | (simp; done) | (simp; omega)) ?_) | (refine m_store (v := Value.slice _ _ _) M rfl rfl rfl rfl rfl (by first | assumption | (simp; done) | (simp; omega)) ?_) | (refine m_store (v := Value.bool _) M rfl rfl rfl rfl rfl (by first | assumption | (simp; done) | (simp; omega)) ?_) | (refine m_store (v := Value.string _) M rfl rfl rfl rfl rfl (by first | assumption | (simp; done) | (simp; omega)) ?_) | (refine m_store (v := Value.pointer _) M rfl rfl rfl rfl rfl (by first | assumption | (simp; done) | (simp; omega)) ?_)); clear M; (try clear wx); intro wx M; simp only [List.set_cons_zero, List.set_cons_succ, Nat.zero_add, List.nil_append] at M))
  exact m_ret M rfl rfl rfl HZ.out rfl

theorem made_pies (n : Nat) : madeCells (Value.agg (pieC zero32 0)).cells (n * 33) = (List.replicate n (bP (zeroKy, 0))).flatten.toArray := by
  apply Array.ext_getElem?
  intro i
  by_cases h : i < n * 33
  · have hl : (List.replicate n (bP (zeroKy, 0))).flatten.length = n * 33 := by simp [bP_len]
    have e : ∀ (n i : Nat), i < n * 33 → (List.replicate n (bP (zeroKy, 0))).flatten[i]? = (bP (zeroKy, 0))[i % 33]? := by
      intro n
      induction n with
      | zero => intro i h; omega
      | succ n ih =>
        intro i h
        rw [List.replicate_succ, List.flatten_cons]
        by_cases h2 : i < 33
        · rw [List.getElem?_append_left (by rw [bP_len]; exact h2), Nat.mod_eq_of_lt h2]
        · rw [List.getElem?_append_right (by rw [bP_len]; omega), bP_len, ih (i - 33) (by omega)]
          congr 1
          omega
    rw [show (List.replicate n (bP (zeroKy, 0))).flatten.toArray[i]? = _ from List.getElem?_toArray.trans (e n i h)]
    have hm : i % 33 < 33 := Nat.mod_lt _ (by omega)
    have hz : (Value.agg (pieC zero32 0)).cells = (bP (zeroKy, 0)).toArray := rfl
    simp only [madeCells, hz]
    simp [h, bP_len]
    rw [List.getElem?_eq_getElem (by rw [bP_len]; exact hm)]
    rfl
  · rw [Array.getElem?_eq_none (by simp [madeCells]; omega), Array.getElem?_eq_none (by simp [bP_len]; omega)]
theorem put_pies (ps : List Pc) (j q : Nat) (hj : j < ps.length) : putC (pieC ps[j].1.1 ps[j].2).toList (j * 33) (piL (ps.take j) ++ (List.replicate (q + 1) (bP (zeroKy, 0))).flatten).toArray = (piL (ps.take (j + 1)) ++ (List.replicate q (bP (zeroKy, 0))).flatten).toArray := by
  have h1 : (piL (ps.take j)).length = j * 33 := by rw [piL_len, List.length_take]; omega
  have h2 : (pieC ps[j].1.1 ps[j].2).toList.length = 33 := bP_len ps[j]
  rw [List.replicate_succ, List.flatten_cons, putC_list _ _ _ (by rw [h2, List.length_append, h1, List.length_append, bP_len]; omega)]
  rw [List.take_left' h1, List.take_succ_eq_append_getElem hj, piL_append, h2]
  rw [List.drop_append, List.drop_of_length_le (by omega), h1, List.nil_append, show j * 33 + 33 - j * 33 = 33 by omega, List.drop_append, bP_len, Nat.sub_self, List.drop_zero, List.drop_of_length_le (by rw [bP_len]; exact Nat.le_refl _), List.nil_append]
  simp [piL, pieC, bP]
set_option maxHeartbeats 1000000 in
set_option maxRecDepth 100000 in
theorem toPieceS_c (v : Value) (n : Nat) (ps : List Pc) (hps : ps.length = n) (w : World) (hv : Rd w 33 v n (piL ps)) (hl : n ≤ 1048576) :
    Ret Tryd.prog 12 #[v] w fun r w' => OwnR w w' 43 33 r n (piL ps) := by
  obtain ⟨b, cap, rfl⟩ := hv.shape
  have HV := Lib.hid hv
  have HK := Lib.hid hps
  clear hv hps
  refine ret_start fun wx M => ?_
  go_enter Tryd.func12, Tryd.ntmps12
  go_wp2_with (with_reducible (show wpList _ _ _ (Oper.mk _ (.makeSlice _ _ _) _ _ _ _ :: _) _ _); refine m_mk M rfl rfl rfl rfl (by omega) (by omega) ?_; clear M; (try clear wx); intro g7 wx M)
  rw [made_pies] at M
  go_loopg [4] n (fun q i wr => ∃ (j : Nat), j + q = n ∧ i = .int .i64 (j : Int) ∧ Mem w wr [.blk g7 43 (piL (ps.take j) ++ (List.replicate q (bP (zeroKy, 0))).flatten).toArray])
  case atStart => exact ⟨0, by omega, rfl, by simpa [piL] using M⟩
  case round =>
    obtain ⟨j, hj, rfl, M⟩ := hrel
    by_cases hlt : j < n
    · obtain ⟨q, rfl⟩ : ∃ q, gk = q + 1 := ⟨gk - 1, by omega⟩
      obtain ⟨g, o, rfl, h1⟩ := HV.out.open_ (by omega)
      have hkl : j < ps.length := by have := HK.out; omega
      have C1 := Lib.hid (fun wx (hb : Up w wx) => piL_range (h1 wx hb) j hkl)
      have HP := Lib.hid (put_pies ps j q hkl)
      have HJ := Lib.hid hj
      have hsz : j * 33 + 33 ≤ (piL (ps.take j) ++ (List.replicate (q + 1) (bP (zeroKy, 0))).flatten).toArray.size := by
        rw [List.size_toArray, List.length_append, piL_len, List.length_take, List.replicate_succ, List.flatten_cons, List.length_append, bP_len]
        omega
      clear h1 hj
      generalize (ps[j]'hkl) = x at *
      generalize (piL (ps.take j) ++ (List.replicate (q + 1) (bP (zeroKy, 0))).flatten).toArray = cs at *
      go_wp2_with (first
        | (go_at_call 28; (with_reducible refine mem_call M (toPiece_r x _) ?_); clear M; (try clear wx); rintro _ wx rfl _ M)
        | (with_reducible (show wpList _ _ _ (Oper.mk _ (.store _ _ _) _ _ _ _ :: _) _ _); refine m_storeP M rfl rfl rfl rfl (pie_size _ x.1.2 _) hsz (pie_one x) ?_; clear M; (try clear wx); intro wx M; simp only [List.set_cons_zero, List.set_cons_succ, Nat.zero_add, List.nil_append] at M)
        | (with_reducible (show wpList _ _ _ (Oper.mk _ (.load _ _) _ _ _ _ :: _) _ _); (first | (refine rd_loadPi rfl rfl rfl (C1.out _ M.up) ?_) | (refine m_load M rfl rfl rfl (by first | assumption | rfl) ?_) | (refine m_loadR M rfl rfl rfl (by first | rfl | assumption | (simp; done) | (simp; omega)) ?_)))
        | (with_reducible (show wpList _ _ _ (Oper.mk _ (.store _ _ _) _ _ _ _ :: _) _ _); (first | (refine m_storeR M rfl rfl rfl rfl (by first | rfl | assumption | (simp; done) | (simp; omega)) (by first | rfl | assumption | (simp; done) | (simp; omega)) (by first | exact bA_one _ | exact wA_one _ | assumption | (simp [Value.oneCell']; done)) ?_) | (refine m_store (v := Value.int _ _) M rfl rfl rfl rfl rfl (by first | assumption | (simp; done) | (simp; omega)) ?_) | (refine m_store (v := Value.slice _ _ _) M rfl rfl rfl rfl rfl (by first | assumption | (simp; done) | (simp; omega)) ?_) | (refine m_store (v := Value.bool _) M rfl rfl rfl rfl rfl (by first | assumption | (simp; done) | (simp; omega)) ?_) | (refine m_store (v := Value.string _) M rfl rfl rfl rfl rfl (by first | assumption | (simp; done) | (simp; omega)) ?_) | (refine m_store (v := Value.pointer _) M rfl rfl rfl rfl rfl (by first | assumption | (simp; done) | (simp; omega)) ?_)); clear M; (try clear wx); intro wx M; simp only [List.set_cons_zero, List.set_cons_succ, Nat.zero_add, List.nil_append] at M))
      rw [HP.out] at M
      have hj := HJ.out
      go_roundg q
      case measure => omega
      case rel => exact ⟨j + 1, by omega, by go_num, M⟩
    · obtain rfl : j = n := by omega
      obtain rfl : gk = 0 := by omega
      have hml : j ≤ maxLen := by simp only [maxLen]; omega
      rw [List.take_of_length_le (by have := HK.out; omega), List.replicate_zero, List.flatten_nil, List.append_nil] at M
      have M := M.blk_own (p := 0) rfl 33 j j (Nat.le_refl _) hml (by simp [HK.out]) (xs := piL ps) (by show List.take _ (piL ps) = piL ps; exact List.take_of_length_le (by simp [HK.out]))
      clear hj
      go_wp2_with fail
      go_ret
      exact ⟨_, rfl, ⟨_, _, rfl, M.out_own (p := 0) rfl⟩, M.up⟩

theorem eqKey_r' (k : List UInt8) (hk : k.length = 32) (w : World) : Ret Tryd.prog 46 #[.agg (bA k), .agg (bA k)] w fun r _ => r = .bool true :=
  (Ret.of (eqKey_c k k hk hk w)).mono fun r _ _ h => by rw [h, decide_eq_true rfl]
set_option maxHeartbeats 1000000 in
set_option maxRecDepth 100000 in
theorem eqPiece_r (p : Pc) (w : World) : Ret Tryd.prog 24 #[.agg (pieC p.1.1 p.2), .agg (pieC p.1.1 p.2)] w fun r _ => r = .bool true := by
  obtain ⟨⟨k, hk⟩, n⟩ := p
  have H32 := Lib.hid (pie_32 k hk n)
  refine ret_start fun wx M => ?_
  go_enter Tryd.func24, Tryd.ntmps24
  go_wp2_with (first
    | (go_at_call 46; (with_reducible refine mem_call M (eqKey_r' k hk _) ?_); clear M; (try clear wx); rintro _ wx rfl _ M)
    | (with_reducible (show wpList _ _ _ (Oper.mk (some 2) (.box _ _) _ _ _ _ :: _) _ _); (first | (refine m_boxA M rfl rfl rfl ?_) | (refine m_box1 (v := Value.int _ _) M rfl rfl rfl rfl ?_) | (refine m_box1 (v := Value.slice _ _ _) M rfl rfl rfl rfl ?_) | (refine m_box1 (v := Value.bool _) M rfl rfl rfl rfl ?_) | (refine m_box1 (v := Value.string _) M rfl rfl rfl rfl ?_) | (refine m_box1 (v := Value.pointer _) M rfl rfl rfl rfl ?_)); clear M; (try clear wx); intro g2 wx M)
    | (with_reducible (show wpList _ _ _ (Oper.mk (some 3) (.box _ _) _ _ _ _ :: _) _ _); (first | (refine m_boxA M rfl rfl rfl ?_) | (refine m_box1 (v := Value.int _ _) M rfl rfl rfl rfl ?_) | (refine m_box1 (v := Value.slice _ _ _) M rfl rfl rfl rfl ?_) | (refine m_box1 (v := Value.bool _) M rfl rfl rfl rfl ?_) | (refine m_box1 (v := Value.string _) M rfl rfl rfl rfl ?_) | (refine m_box1 (v := Value.pointer _) M rfl rfl rfl rfl ?_)); clear M; (try clear wx); intro g3 wx M)
    | (with_reducible (show wpList _ _ _ (Oper.mk _ (.load _ _) _ _ _ _ :: _) _ _); (first | (refine m_loadBp M rfl rfl rfl (pie_get0 k n) hk ?_) | (refine m_load (v := .int .i64 n) M rfl rfl rfl H32.out ?_) | (refine m_load M rfl rfl rfl (by first | assumption | rfl) ?_) | (refine m_loadR M rfl rfl rfl (by first | rfl | assumption | (simp; done) | (simp; omega)) ?_))))
  go_ret
  exact ⟨_, rfl, rfl, M.up⟩
set_option maxHeartbeats 2000000 in
set_option maxRecDepth 100000 in
theorem eqPieceS_same (va vb : Value) (n : Nat) (ps : List Pc) (hps : ps.length = n) (w : World) (hn : n ≤ 1000000000000) (ha : Rd w 33 va n (piL ps)) (hb : Rd w 33 vb n (piL ps)) :
    Ret Tryd.prog 7 #[va, vb] w fun r _ => r = .bool true := by
  obtain ⟨b1, cap1, rfl⟩ := ha.shape
  obtain ⟨b2, cap2, rfl⟩ := hb.shape
  have HA := Lib.hid ha
  have HB := Lib.hid hb
  have HK := Lib.hid hps
  refine ret_start fun wx M => ?_
  clear ha hb hps
  go_enter Tryd.func7, Tryd.ntmps7
  go_wp2_with fail
  go_loopg [5] n (fun q i wr => ∃ j : Nat, j + q = n ∧ i = .int .i64 (j : Int) ∧ Mem w wr [])
  case atStart => exact ⟨0, by omega, rfl, M⟩
  case round =>
    obtain ⟨j, hj, rfl, M⟩ := hrel
    by_cases hlt : j < n
    · have hkl : j < ps.length := by rw [HK.out]; exact hlt
      obtain ⟨g1, o1, rfl, h1⟩ := HA.out.open_ (by omega)
      obtain ⟨g2, o2, rfl, h2⟩ := HB.out.open_ (by omega)
      have C1 := Lib.hid (fun wx (hb : Up w wx) => piL_range (h1 wx hb) j hkl)
      have C2 := Lib.hid (fun wx (hb : Up w wx) => piL_range (h2 wx hb) j hkl)
      have HJ := Lib.hid hj
      generalize (ps[j]'hkl) = x at *
      clear h1 h2 hj hkl
      go_wp2_with fail
      refine region_mono (m := 10) mixedOrders_ (by kernel_rfl) (by kernel_rfl)
        (fun | 0 => fun vq _ => vq = .slice (some ⟨g1, o1, none⟩) n cap1 | 1 => fun vq _ => vq = .int .i64 (j : Int) | 2 => fun vq _ => vq = .pointer (some ⟨g1, o1 + j * 33, none⟩) | 3 => fun vq _ => vq = .agg (pieC x.1.1 x.2) | 4 => fun vq _ => vq = .slice (some ⟨g2, o2, none⟩) n cap2 | 5 => fun vq _ => vq = .int .i64 (j : Int) | 6 => fun vq _ => vq = .pointer (some ⟨g2, o2 + j * 33, none⟩) | 7 => fun vq _ => vq = .agg (pieC x.1.1 x.2) | 8 => fun vq _ => vq = .bool true | 9 => fun vq _ => vq = .bool (!true) | _ => fun _ _ => True)
        (fun wx => Mem w wx []) ?_ ?_ ?_ ?_ ?_
      · intro j hj v w1 w2 hb h
        match j, hj with
        | 0, _ => exact h
        | 1, _ => exact h
        | 2, _ => exact h
        | 3, _ => exact h
        | 4, _ => exact h
        | 5, _ => exact h
        | 6, _ => exact h
        | 7, _ => exact h
        | 8, _ => exact h
        | 9, _ => exact h
      · intro w1 w2 hb h
        exact h.grow hb
      · exact M.grow ((Up.refl _).drew)
      · rintro i o hi ho av wv fr gM dep
        match i, hi with
        | 0, _ =>
          obtain rfl := Option.some.inj ho
          exact st_mov rfl (fr.eval rfl) rfl
        | 1, _ =>
          obtain rfl := Option.some.inj ho
          exact st_mov rfl (fr.eval rfl) rfl
        | 2, _ =>
          obtain rfl := Option.some.inj ho
          exact st_indexAddr rfl (dep ⟨0, .data⟩ (by simp) rfl) (dep ⟨1, .data⟩ (by simp) rfl) (ix_slice _ _ _ _ _ hlt _) rfl
        | 3, _ =>
          obtain rfl := Option.some.inj ho
          exact st_loadPi rfl (dep ⟨2, .data⟩ (by simp) rfl) (C1.out _ gM.up) rfl
        | 4, _ =>
          obtain rfl := Option.some.inj ho
          exact st_mov rfl (fr.eval rfl) rfl
        | 5, _ =>
          obtain rfl := Option.some.inj ho
          exact st_mov rfl (fr.eval rfl) rfl
        | 6, _ =>
          obtain rfl := Option.some.inj ho
          exact st_indexAddr rfl (dep ⟨4, .data⟩ (by simp) rfl) (dep ⟨5, .data⟩ (by simp) rfl) (ix_slice _ _ _ _ _ hlt _) rfl
        | 7, _ =>
          obtain rfl := Option.some.inj ho
          exact st_loadPi rfl (dep ⟨6, .data⟩ (by simp) rfl) (C2.out _ gM.up) rfl
        | 8, _ =>
          obtain rfl := Option.some.inj ho
          have d0 := dep ⟨3, .data⟩ (by simp) rfl
          have d1 := dep ⟨7, .data⟩ (by simp) rfl
          exact st_ret2 rfl (fun _ _ => by kernel_rfl) d0 d1 (eqPiece_r x _) (fun r w' h _ => h)
        | 9, _ =>
          obtain rfl := Option.some.inj ho
          exact st_not rfl (dep ⟨8, .data⟩ (by simp) rfl) rfl
      · rintro vs wv gM hf
        have f0 : vs 0 = .slice (some ⟨g1, o1, none⟩) n cap1 := hf 0 (by omega)
        have f1 : vs 1 = .int .i64 (j : Int) := hf 1 (by omega)
        have f2 : vs 2 = .pointer (some ⟨g1, o1 + j * 33, none⟩) := hf 2 (by omega)
        have f3 : vs 3 = .agg (pieC x.1.1 x.2) := hf 3 (by omega)
        have f4 : vs 4 = .slice (some ⟨g2, o2, none⟩) n cap2 := hf 4 (by omega)
        have f5 : vs 5 = .int .i64 (j : Int) := hf 5 (by omega)
        have f6 : vs 6 = .pointer (some ⟨g2, o2 + j * 33, none⟩) := hf 6 (by omega)
        have f7 : vs 7 = .agg (pieC x.1.1 x.2) := hf 7 (by omega)
        have f8 : vs 8 = .bool true := hf 8 (by omega)
        have f9 : vs 9 = .bool (!true) := hf 9 (by omega)
        simp only [putAll, Act.put, List.getElem?_toArray, List.getElem?_cons_zero, List.getElem?_cons_succ, Option.bind_some, List.setIfInBounds_toArray, List.set_cons_zero, List.set_cons_succ, List.drop_succ_cons, List.drop_zero, List.drop_nil, f9]
        clear f0 f1 f2 f3 f4 f5 f6 f7 f8 f9 hf
        go_wp2_with fail
        have hj := HJ.out
        go_roundg (gk - 1)
        case measure => omega
        case rel => exact ⟨j + 1, by omega, by go_num, gM⟩
    · obtain rfl : j = n := by omega
      clear hj hlt
      go_wp2_with fail
      go_ret
      exact ⟨_, rfl, rfl, M.up⟩

/-- What a marking leaves at a place. -/
def mkV (k i : Nat) : Value := if i % 33 = 32 then .int .i64 ((k + i : Nat) : Int) else bV (UInt8.ofNat (k + i))
def mkPL (k n : Nat) : List Value := (List.range (33 * n)).map (mkV k)
theorem mkPL_len (k n : Nat) : (mkPL k n).length = 33 * n := by simp [mkPL]
theorem mkV_one (k i : Nat) : (mkV k i).oneCell' = true := by
  unfold mkV
  split <;> rfl
theorem mkPL_one (k n : Nat) : ∀ u ∈ mkPL k n, u.oneCell' = true := by
  intro u hu
  obtain ⟨i, _, rfl⟩ := List.mem_map.1 hu
  exact mkV_one k i
set_option maxHeartbeats 1000000 in
set_option maxRecDepth 100000 in
theorem markPieceS_c (b : Option Addr) (cap n k B : Nat) (xs : List Value) (w : World) (hk : k ≤ 1000000000000) (hn : n ≤ 1000000000000) (h : w.ownsRow B 43 33 (.slice b n cap) n xs) :
    Writes Tryd.prog 8 #[.slice b n cap, .int .i64 (k : Int)] w B 43 33 b cap n (mkPL k n) (.int .i64 ((k + 33 * n : Nat) : Int)) := by
  have hx1 := h.1
  rcases own_cases h with rfl | ⟨g, tl, rfl, hg, hnc, hcm, hlen, hblk⟩
  · have hx : xs = [] := List.eq_nil_of_length_eq_zero (by simpa using hx1)
    subst hx
    have H := Lib.hid h
    clear h hx1
    unfold Writes
    go_enter Tryd.func8, Tryd.ntmps8
    go_wp2_with fail
    go_loopg [1, 5] 0 (fun n x i wr => x = .int .i64 k ∧ i = .int .i64 0 ∧ wr = w)
    case atStart => exact ⟨rfl, rfl, rfl⟩
    case round =>
      obtain ⟨rfl, rfl, rfl⟩ := hrel
      go_wp2_with fail
      go_ret
      exact ⟨rfl, H.out, grown_refl _ _⟩
  · have hxn : xs.length = 33 * n := by omega
    have HX := Lib.hid (And.intro hxn (And.intro hg (And.intro hnc (And.intro hcm hlen))))
    have h0 : Blk w g 43 (midL (mkV k) (fun i => xs.getD i undef) 0 (33 * n) ++ tl).toArray := by rw [← hxn, midL_zero]; exact hblk
    have H0 := Lib.hid h0
    clear h hx1 hblk hg hnc hcm hlen hxn h0
    unfold Writes
    go_enter Tryd.func8, Tryd.ntmps8
    go_wp2_with fail
    go_loopg [1, 5] n (fun m x i wr => ∃ j : Nat, j + m = n ∧ x = .int .i64 ((k + 33 * j : Nat) : Int) ∧ i = .int .i64 (j : Int) ∧ Blk wr g 43 (midL (mkV k) (fun i => xs.getD i undef) (33 * j) (33 * n) ++ tl).toArray ∧ w.grownBy wr (some g))
    case atStart => exact ⟨0, by omega, rfl, rfl, H0.out, grown_refl _ _⟩
    case round =>
      obtain ⟨j, hj, rfl, rfl, b0, hgr⟩ := hrel
      have HB := Lib.hid (And.intro b0 hgr)
      by_cases hlt : j < n
      · have HJ := Lib.hid hj
        clear b0 hgr hj
        go_wp2_with fail
        have hd : decide ((j : Int) < (n : Int)) = true := by simp; omega
        try rw [hd]
        clear hd
        go_loopg [1, 6] 32 (fun m x i wq => ∃ q : Nat, q + m = 32 ∧ x = .int .i64 ((k + (33 * j + q) : Nat) : Int) ∧ i = .int .i64 (q : Int) ∧ Blk wq g 43 (midL (mkV k) (fun i => xs.getD i undef) (33 * j + q) (33 * n) ++ tl).toArray ∧ w.grownBy wq (some g))
        case atStart => exact ⟨0, by omega, by go_num, rfl, HB.out.1, HB.out.2⟩
        case round =>
          obtain ⟨q, hq, rfl, rfl, b0, hgr⟩ := hrel
          have hin : 33 * j + q < 33 * n := by have := HJ.out; omega
          have c0 := b0.cell_ (i := 33 * j + q) (by rw [List.getElem?_toArray, List.getElem?_append_left (by rw [midL_len]; exact hin)]; exact midL_get _ _ _ _ _ hin)
          rw [if_neg (by omega), Nat.mul_comm 33 j] at c0
          have f0 := b0.free (j * 33 + q)
          have HC := Lib.hid (And.intro b0 hgr)
          have HQ := Lib.hid hq
          by_cases hql : q < 32
          · clear b0 hgr hq
            go_wp2_with fail
            obtain ⟨b0, hgr⟩ := HC.out
            have hq := HQ.out
            go_roundg (32 - q - 1)
            case measure => omega
            case rel =>
              refine ⟨q + 1, by omega, by go_num, by go_num, ?_, grown_trans hgr (grown_set g _ _)⟩
              have := b0.set_ (33 * j + q) (mkV k (33 * j + q))
              rw [List.setIfInBounds_toArray, List.set_append_left _ _ (by rw [midL_len]; exact hin), midL_set] at this
              rw [show mkV k (33 * j + q) = bV (UInt8.ofNat (k + (33 * j + q))) by unfold mkV; rw [if_neg (by omega)]] at this
              simp only [bV] at this ⊢
              rw [u8_mod (k + (33 * j + q)), Int.natCast_add, Int.natCast_add, Int.natCast_mul, Nat.mul_comm 33 j] at this
              rw [Nat.mul_comm 33 j]
              exact this
          · obtain rfl : q = 32 := by omega
            clear b0 hgr hq
            go_wp2_with fail
            obtain ⟨b0, hgr⟩ := HC.out
            have hj := HJ.out
            go_roundg (n - j - 1)
            case measure => omega
            case rel =>
              refine ⟨j + 1, by omega, by go_num, by go_num, ?_, grown_trans hgr (grown_set g _ _)⟩
              have := b0.set_ (33 * j + 32) (mkV k (33 * j + 32))
              rw [List.setIfInBounds_toArray, List.set_append_left _ _ (by rw [midL_len]; exact hin), midL_set] at this
              rw [show mkV k (33 * j + 32) = .int .i64 ((k + (33 * j + 32) : Nat) : Int) by unfold mkV; rw [if_pos (by omega)]] at this
              rw [show 33 * (j + 1) = 33 * j + 32 + 1 by omega]
              rw [Int.natCast_add, Int.natCast_add, Int.natCast_mul, Nat.mul_comm 33 j] at this
              rw [Nat.mul_comm 33 j]
              exact this
      · obtain rfl : j = n := by omega
        clear b0 hgr hj
        go_wp2_with fail
        go_ret
        obtain ⟨hxn, hg, hnc, hcm, hlen⟩ := HX.out
        obtain ⟨b0, hgr⟩ := HB.out
        rw [midL_full] at b0
        exact ⟨rfl, own_back (xs := mkPL k j) (tl := tl) hg b0 (by rw [mkPL_len]; omega) hnc hcm (by simp [mkPL_len] at hlen ⊢; omega), hgr⟩

end Go.Proofs.YtmbhaoiahlbglaaDoor

/- Walks: slices.Concat of bytes; blocks. -/
import Derived.Test.YtmbhaoiahlbglaaHB
namespace Go.Proofs.Ytmbhaoiahlbglaa
open Go.RowKit
set_option linter.unusedVariables false
set_option linter.unusedSimpArgs false

/-- A slice that reads as slices of bytes. -/
def RdS (w : World) (v : Value) (ls : List (List UInt8)) : Prop := ∃ xs, Rd w 1 v ls.length xs ∧ ∀ (i : Nat) l, ls[i]? = some l → ∃ u, xs[i]? = some u ∧ Rd w 1 u l.length (bL l)
theorem RdS.up {w w' : World} {v : Value} {ls : List (List UInt8)} (h : RdS w v ls) (hb : Up w w') : RdS w' v ls := by
  obtain ⟨xs, h1, h2⟩ := h
  refine ⟨xs, h1.up hb, fun i l hl => ?_⟩
  obtain ⟨u, hu, hr⟩ := h2 i l hl
  exact ⟨u, hu, hr.up hb⟩
theorem flat_take (ls : List (List UInt8)) (k : Nat) (h : k < ls.length) : (ls.take (k + 1)).flatten = (ls.take k).flatten ++ ls[k] := by
  rw [List.take_succ_eq_append_getElem h, List.flatten_append]
  simp
theorem flat_le (ls : List (List UInt8)) (k : Nat) : (ls.take k).flatten.length ≤ ls.flatten.length := by
  have h := congrArg (fun x => (List.flatten x).length) (List.take_append_drop k ls)
  simp only [List.flatten_append, List.length_append] at h
  omega
/-- What a round needs of the k-th slice. -/
theorem RdS.at_ {w : World} {b : Option Addr} {cap : Nat} {ls : List (List UInt8)} (h : RdS w (.slice b ls.length cap) ls) (k : Nat) (hk : k < ls.length) :
    ∃ g o b' cap', b = some ⟨g, o, none⟩ ∧ (∀ wx, Up w wx → wx.cell? ⟨g, o + k, none⟩ = some (.slice b' (ls[k]).length cap')) ∧ Rd w 1 (.slice b' (ls[k]).length cap') (ls[k]).length (bL ls[k]) := by
  obtain ⟨xs, h1, h2⟩ := h
  obtain ⟨g, o, rfl, hr⟩ := h1.open_ (by omega)
  obtain ⟨u, hu, hru⟩ := h2 k _ (List.getElem?_eq_getElem hk)
  obtain ⟨b', cap', rfl⟩ := hru.shape
  exact ⟨g, o, b', cap', rfl, fun wx hb => hr wx hb _ _ hu, hru⟩

set_option maxHeartbeats 1000000 in
set_option maxRecDepth 100000 in
theorem concat_c (v : Value) (ls : List (List UInt8)) (w : World) (hv : RdS w v ls) (hl : ls.flatten.length ≤ 1000000000000) (hn : ls.length ≤ 1000000000000) :
    Ret Try.prog 135 #[v] w fun r w' => OwnR w w' 5 1 r ls.flatten.length (bL ls.flatten) := by
  obtain ⟨b, cap, rfl⟩ : ∃ b cap, v = .slice b ls.length cap := by
    obtain ⟨xs, h1, _⟩ := hv
    exact h1.shape
  have HV := Lib.hid hv
  refine ret_start fun wx M => ?_
  clear hv
  go_enter Try.func135, Try.ntmps135
  go_wp2_with fail
  go_loopg [3, 11] ls.length (fun q x i wr => ∃ (j : Nat), j + q = ls.length ∧ x = .int .i64 (((ls.take j).flatten.length : Nat) : Int) ∧ i = .int .i64 (j : Int) ∧ Mem w wr [])
  case atStart => exact ⟨0, by omega, rfl, rfl, M⟩
  case round =>
    obtain ⟨j, hj, rfl, rfl, M⟩ := hrel
    by_cases hlt : j < ls.length
    · obtain ⟨g, o, b', cap', rfl, hc, hr⟩ := HV.out.at_ j hlt
      have C1 := Lib.hid hc
      have hle := flat_le ls (j + 1)
      have HE := Lib.hid (show (ls.take (j + 1)).flatten.length = (ls.take j).flatten.length + (ls[j]).length by rw [flat_take ls j hlt, List.length_append])
      rw [HE.out] at hle
      have HJ := Lib.hid hj
      clear hc hr hj
      generalize hF : (ls.take j).flatten.length = F at *
      generalize (ls[j]).length = m at *
      clear hF
      go_wp2_with (first
        | (with_reducible (show wpList _ _ _ (Oper.mk _ (.load _ _) _ _ _ _ :: _) _ _); (first | (refine wpList_load_one rfl rfl rfl (C1.out _ M.up) ?_) | (refine m_load M rfl rfl rfl (by first | assumption | rfl) ?_) | (refine m_loadR M rfl rfl rfl (by first | rfl | assumption | (simp; done) | (simp; omega)) ?_)))
        | (with_reducible (show wpList _ _ _ (Oper.mk _ (.call (Call.mk (.builtin .append) _ _)) _ _ _ _ :: _) _ _); (first | (refine m_append1 M rfl rfl rfl (by first | rfl | omega | (simp; done)) rfl (by first | rfl | assumption | (simp; done) | (simp; omega)) (by first | exact bA_one _ | exact wA_one _ | assumption | (simp [Value.oneCell']; done)) (by first | assumption | (simp only [maxLen]; omega)) (by omega) ?_)); clear M; (try clear wx); intro _ _ wx M; simp only [List.set_cons_zero, List.set_cons_succ, Nat.zero_add, List.nil_append] at M))
      have hj := HJ.out
      go_roundg (gk - 1)
      case measure => omega
      case rel => exact ⟨j + 1, by omega, by rw [HE.out]; go_num, by go_num, M⟩
    · obtain rfl : j = ls.length := by omega
      rw [List.take_length]
      have HL := Lib.hid hl
      generalize hF : ls.flatten.length = F at *
      clear hj hlt
      go_wp2_with (first
        | (go_at_call 157; (with_reducible refine mem_callO M (growByte_c _ _ hl) ?_); clear M; (try clear wx); intro b24 cap24 wx M)
        | (with_reducible (show wpList _ _ _ (Oper.mk _ (.load _ _) _ _ _ _ :: _) _ _); (first | (refine m_load M rfl rfl rfl (by first | assumption | rfl) ?_) | (refine m_loadR M rfl rfl rfl (by first | rfl | assumption | (simp; done) | (simp; omega)) ?_)))
        | (with_reducible (show wpList _ _ _ (Oper.mk _ (.call (Call.mk (.builtin .append) _ _)) _ _ _ _ :: _) _ _); (first | (refine m_append1 M rfl rfl rfl (by first | rfl | omega | (simp; done)) rfl (by first | rfl | assumption | (simp; done) | (simp; omega)) (by first | exact bA_one _ | exact wA_one _ | assumption | (simp [Value.oneCell']; done)) (by first | assumption | (simp only [maxLen]; omega)) (by omega) ?_)); clear M; (try clear wx); intro _ _ wx M; simp only [List.set_cons_zero, List.set_cons_succ, Nat.zero_add, List.nil_append] at M))
      have HFF := Lib.hid hF
      clear hF
      go_loopg [6, 27] ls.length (fun q x i wq => ∃ (j : Nat) (b : Option Addr) (cap : Nat), j + q = ls.length ∧ x = .slice b (ls.take j).flatten.length cap ∧ i = .int .i64 (j : Int) ∧ Mem w wq [.own b cap 5 1 (ls.take j).flatten.length (bL (ls.take j).flatten)])
      case atStart => exact ⟨0, _, _, by omega, rfl, rfl, M⟩
      case round =>
        obtain ⟨j, b2, cap2, hj, rfl, rfl, M⟩ := hrel
        by_cases hlt : j < ls.length
        · obtain ⟨g, o, b', cap', rfl, hc, hr⟩ := HV.out.at_ j hlt
          have C1 := Lib.hid hc
          have R1 := Lib.hid hr
          have hle := flat_le ls (j + 1)
          have HE := Lib.hid (show (ls.take (j + 1)).flatten.length = (ls.take j).flatten.length + (ls[j]).length by rw [flat_take ls j hlt, List.length_append])
          have HB := Lib.hid (show bL (ls.take (j + 1)).flatten = bL (ls.take j).flatten ++ bL ls[j] by rw [flat_take ls j hlt, bL_append])
          rw [HE.out] at hle
          have hl := HL.out
          have HJ := Lib.hid hj
          rw [HFF.out] at hle
          clear hc hr hj
          generalize (ls.take j).flatten.length = F1 at *
          generalize (ls[j]).length = m at *
          go_wp2_with (first
            | (with_reducible (show wpList _ _ _ (Oper.mk _ (.load _ _) _ _ _ _ :: _) _ _); (first | (refine wpList_load_one rfl rfl rfl (C1.out _ M.up) ?_) | (refine m_load M rfl rfl rfl (by first | assumption | rfl) ?_) | (refine m_loadR M rfl rfl rfl (by first | rfl | assumption | (simp; done) | (simp; omega)) ?_)))
            | (with_reducible (show wpList _ _ _ (Oper.mk _ (.call (Call.mk (.builtin .append) _ _)) _ _ _ _ :: _) _ _); (first | (refine m_append M rfl rfl rfl (by first | rfl | omega | (simp; done)) rfl (R1.out.up M.up) (by first | assumption | (simp only [maxLen]; omega)) (by omega) ?_) | (refine m_append1 M rfl rfl rfl (by first | rfl | omega | (simp; done)) rfl (by first | rfl | assumption | (simp; done) | (simp; omega)) (by first | exact bA_one _ | exact wA_one _ | assumption | (simp [Value.oneCell']; done)) (by first | assumption | (simp only [maxLen]; omega)) (by omega) ?_)); clear M; (try clear wx); intro _ _ wx M; simp only [List.set_cons_zero, List.set_cons_succ, Nat.zero_add, List.nil_append] at M))
          have hj := HJ.out
          go_roundg (gk - 1)
          case measure => omega
          case rel => exact ⟨j + 1, _, _, by omega, by rw [HE.out], by go_num, by rw [HE.out, HB.out]; exact M⟩
        · obtain rfl : j = ls.length := by omega
          rw [List.take_length, HFF.out] at M ⊢
          clear hj hlt
          go_wp2_with (first
            | (with_reducible (show wpList _ _ _ (Oper.mk _ (.load _ _) _ _ _ _ :: _) _ _); (first | (refine m_load M rfl rfl rfl (by first | assumption | rfl) ?_) | (refine m_loadR M rfl rfl rfl (by first | rfl | assumption | (simp; done) | (simp; omega)) ?_)))
            | (with_reducible (show wpList _ _ _ (Oper.mk _ (.call (Call.mk (.builtin .append) _ _)) _ _ _ _ :: _) _ _); (first | (refine m_append1 M rfl rfl rfl (by first | rfl | omega | (simp; done)) rfl (by first | rfl | assumption | (simp; done) | (simp; omega)) (by first | exact bA_one _ | exact wA_one _ | assumption | (simp [Value.oneCell']; done)) (by first | assumption | (simp only [maxLen]; omega)) (by omega) ?_)); clear M; (try clear wx); intro _ _ wx M; simp only [List.set_cons_zero, List.set_cons_succ, Nat.zero_add, List.nil_append] at M))
          go_ret
          refine ⟨_, rfl, ?_, M.up⟩
          rw [HFF.out]
          exact ⟨_, _, rfl, M.out_own (p := 0) rfl⟩

theorem RdS.two {w0 w : World} {L : List It} {g : Nat} {e : TypeId} {b1 b2 : Option Addr} {c1 c2 : Nat} {x y : List UInt8} (M : Mem w0 w (.blk g e #[.slice b1 x.length c1, .slice b2 y.length c2] :: L))
    (h1 : Rd w 1 (.slice b1 x.length c1) x.length (bL x)) (h2 : Rd w 1 (.slice b2 y.length c2) y.length (bL y)) : RdS w (.slice (some ⟨g, 0, none⟩) 2 2) [x, y] := by
  refine ⟨[.slice b1 x.length c1, .slice b2 y.length c2], M.rd_blk (p := 0) rfl 1 0 2 2 _ (fun j v hj => by simpa using hj) rfl (Nat.le_refl _) (by simp only [maxLen]; omega) (by simp [Value.oneCell']), fun i l hl => ?_⟩
  match i, hl with
  | 0, hl => obtain rfl := Option.some.inj hl; exact ⟨_, rfl, h1⟩
  | 1, hl => obtain rfl := Option.some.inj hl; exact ⟨_, rfl, h2⟩

theorem concat2_c {w0 w : World} {L : List It} {g : Nat} {e : TypeId} {b1 b2 : Option Addr} {c1 c2 n1 n2 : Nat} (x y : List UInt8) (M : Mem w0 w (.blk g e #[.slice b1 n1 c1, .slice b2 n2 c2] :: L)) (hn1 : n1 = x.length) (hn2 : n2 = y.length)
    (h1 : Rd w 1 (.slice b1 n1 c1) n1 (bL x)) (h2 : Rd w 1 (.slice b2 n2 c2) n2 (bL y)) (hl : x.length + y.length ≤ 1000000000000) :
    Ret Try.prog 135 #[.slice (some ⟨g, 0, none⟩) 2 2] w fun r w' => OwnR w w' 5 1 r (x ++ y).length (bL (x ++ y)) := by
  subst hn1 hn2
  have := concat_c _ [x, y] w (RdS.two M h1 h2) (by simpa using hl) (by simp)
  simpa using this

/-- Keys as cells in a row. -/
def kyL (ks : List Ky) : List Value := ks.flatMap fun k => bL k.1
@[simp] theorem kyL_len (ks : List Ky) : (kyL ks).length = ks.length * 32 := by
  induction ks with
  | nil => rfl
  | cons k ks ih => simp only [kyL, List.flatMap_cons, List.length_append, List.length_cons, bL_length] at ih ⊢; rw [ih, k.2]; omega
theorem kyL_append (a b : List Ky) : kyL (a ++ b) = kyL a ++ kyL b := by simp [kyL]
theorem kyL_one (ks : List Ky) : ∀ u ∈ kyL ks, u.oneCell' = true := by
  intro u hu
  simp only [kyL, List.mem_flatMap] at hu
  obtain ⟨k, _, hk⟩ := hu
  exact bL_one _ u hk
theorem kyL_snoc (ks : List Ky) (k : Ky) : kyL ks ++ bL k.1 = kyL (ks ++ [k]) := by simp [kyL]
theorem kyL_get (ks : List Ky) (i : Nat) (hi : i < ks.length) (j : Nat) (v : Value) (hv : (bL ks[i].1)[j]? = some v) : (kyL ks)[i * 32 + j]? = some v := by
  induction ks generalizing i with
  | nil => simp at hi
  | cons k ks ih =>
    have hk : (bL k.1).length = 32 := by rw [bL_length, k.2]
    simp only [kyL, List.flatMap_cons]
    cases i with
    | zero =>
      have hj : j < (bL k.1).length := (List.getElem?_eq_some_iff.1 (by simpa using hv)).1
      rw [Nat.zero_mul, Nat.zero_add, List.getElem?_append_left hj]
      simpa using hv
    | succ i =>
      rw [List.getElem?_append_right (by omega), hk]
      have := ih i (by simpa using hi) (by simpa using hv)
      rw [show (i + 1) * 32 + j - 32 = i * 32 + j by omega]
      exact this
theorem kyL_range {w : World} {g o : Nat} {ks : List Ky} (h : w.rangeAt g o (kyL ks)) (k : Nat) (hk : k < ks.length) : w.rangeAt g (o + k * 32) (bL ks[k].1) := fun j v hv => by
  have := h _ _ (kyL_get ks k hk j v hv)
  rw [← Nat.add_assoc] at this
  exact this
theorem bA_toList (l : List UInt8) : (bA l).toList = bL l := rfl
/-- The block of a list that begins at o. -/
def cutK (l : List UInt8) (o : Nat) : Ky := if h : o + 32 ≤ l.length then ⟨cutL l o 32, cutL_len l o 32 h⟩ else zeroKy
theorem cutK_eq (l : List UInt8) (o : Nat) (h : o + 32 ≤ l.length) : (cutK l o).1 = cutL l o 32 := by simp [cutK, h]
/-- The first n blocks. -/
def blkK (l : List UInt8) (n : Nat) : List Ky := (List.range n).map fun i => cutK l (32 * i)
@[simp] theorem blkK_len (l : List UInt8) (n : Nat) : (blkK l n).length = n := by simp [blkK]
theorem blkK_succ (l : List UInt8) (n : Nat) : blkK l (n + 1) = blkK l n ++ [cutK l (32 * n)] := by simp [blkK, List.range_succ]
theorem rd_loadA {P : Program} {ops : Array Oper} {rest : List Oper} {o : Oper} {a : Act} {w : World} {Q : Exit → Act → World → Prop} (hgd : o.guard = none) {ty : TypeId} {x : Operand} (ho : o.op = .load ty x) {g i : Nat} (hx : a.eval x = .pointer (some ⟨g, i, none⟩)) {n : Nat} [hT : RowT P ty n]
    {l : List UInt8} (hc : w.rangeAt g i (bL l)) (hn : l.length = n) (h : wpList P ops Q rest (a.put o.dst (.agg (bA l))) w) : wpList P ops Q (o :: rest) a w :=
  rd_loadR hgd ho hx hc (by rw [bL_length, hn]) h

set_option maxHeartbeats 1000000 in
set_option maxRecDepth 100000 in
theorem blocks_c (v : Value) (l : List UInt8) (w : World) (hv : Rd w 1 v l.length (bL l)) (hl : l.length ≤ 1000000000) :
    Ret Try.prog 134 #[v] w fun r w' => ∃ b cap b' cap', r = .tuple #[.slice b (l.length / 32) cap, .slice b' (l.length - 32 * (l.length / 32)) cap'] ∧ w'.ownsRow w.heap.size 24 32 (.slice b (l.length / 32) cap) (l.length / 32) (kyL (blkK l (l.length / 32))) ∧
      Rd w 1 (.slice b' (l.length - 32 * (l.length / 32)) cap') (l.length - 32 * (l.length / 32)) (bL (l.drop (32 * (l.length / 32)))) := by
  obtain ⟨b0, cap0, rfl⟩ := hv.shape
  have HV := Lib.hid hv
  refine ret_start fun wx M => ?_
  clear hv
  go_enter Try.func134, Try.ntmps134
  go_wp2_with (first
    | (with_reducible (show wpList _ _ _ (Oper.mk (some 5) (.buildSlice _ _ _) _ _ _ _ :: _) _ _); refine m_lit0 M rfl rfl ?_; clear M; (try clear wx); intro g5 wx M)
    | (with_reducible (show wpList _ _ _ (Oper.mk (some 13) (.buildSlice _ _ _) _ _ _ _ :: _) _ _); (first | (refine m_lit1A M rfl rfl rfl (by first | rfl | assumption | (simp; done) | (simp; omega)) (by decide) ?_) | (refine m_lit11 (v := Value.int _ _) M rfl rfl rfl rfl ?_) | (refine m_lit11 (v := Value.slice _ _ _) M rfl rfl rfl rfl ?_) | (refine m_lit11 (v := Value.bool _) M rfl rfl rfl rfl ?_) | (refine m_lit11 (v := Value.string _) M rfl rfl rfl rfl ?_) | (refine m_lit11 (v := Value.pointer _) M rfl rfl rfl rfl ?_)); clear M; (try clear wx); intro g13 wx M)
    | (with_reducible (show wpList _ _ _ (Oper.mk _ (.load _ _) _ _ _ _ :: _) _ _); (first | (refine m_load M rfl rfl rfl (by first | assumption | rfl) ?_) | (refine m_loadR M rfl rfl rfl (by first | rfl | assumption | (simp; done) | (simp; omega)) ?_)))
    | (with_reducible (show wpList _ _ _ (Oper.mk _ (.call (Call.mk (.builtin .append) _ _)) _ _ _ _ :: _) _ _); (first | (refine m_append1 M rfl rfl rfl (by first | rfl | omega | (simp; done)) rfl (by first | rfl | assumption | (simp; done) | (simp; omega)) (by first | exact bA_one _ | exact wA_one _ | assumption | (simp [Value.oneCell']; done)) (by first | assumption | (simp only [maxLen]; omega)) (by omega) ?_)); clear M; (try clear wx); intro _ _ wx M; simp only [List.set_cons_zero, List.set_cons_succ, Nat.zero_add, List.nil_append] at M))
  go_loopg [0, 4] (l.length / 32) (fun q x y wr => ∃ (j r : Nat) (b : Option Addr) (cap : Nat) (b1 : Option Addr) (cap1 : Nat), j + q = l.length / 32 ∧ r = l.length - 32 * j ∧ x = .slice b1 r cap1 ∧ y = .slice b j cap ∧ Rd w 1 (.slice b1 r cap1) r (bL (l.drop (32 * j))) ∧ Mem w wr [.own b cap 24 32 j (kyL (blkK l j))])
  case atStart => exact ⟨0, l.length, _, _, _, _, by omega, by omega, rfl, rfl, by simpa using HV.out, by simpa [blkK, kyL] using M⟩
  case round =>
    obtain ⟨j, r, b, cap, b1, cap1, hj, hr, rfl, rfl, R, M⟩ := hrel
    by_cases hlt : j < l.length / 32
    · have h32 : 32 ≤ r := by omega
      have hrl : r ≤ 1000000000 := by omega
      obtain ⟨g, o, rfl, hc⟩ := R.open_ (by omega)
      have C1 := Lib.hid (show ∀ wx, Up w wx → wx.rangeAt g o (bL (cutK l (32 * j)).1) from fun wx hb i u hu => by
        rw [cutK_eq l _ (by omega)] at hu
        refine hc wx hb i u ?_
        have hi : i < 32 := by
          have := (List.getElem?_eq_some_iff.1 hu).1
          rw [bL_length, cutL_len l _ _ (by omega)] at this
          exact this
        simp only [bL, cutL, List.getElem?_map, List.getElem?_take, if_pos hi] at hu ⊢
        exact hu)
      have HR := Lib.hid R
      have HJ := Lib.hid (And.intro hj hr)
      clear hj hr hc R
      go_wp2_with (first
        | (with_reducible (show wpList _ _ _ (Oper.mk _ (.sliceToArrayPointer _ _) _ _ _ _ :: _) _ _); refine m_arrP rfl rfl Try.underlying24 rfl h32 ?_)
        | (with_reducible (show wpList _ _ _ (Oper.mk _ (.slice _ _ _ _ _) _ _ _ _ :: _) _ _); refine m_slL rfl rfl rfl HR.out 32 h32 rfl ?_; intro b16 cap16 R16; have HR16 := Lib.hid R16; clear R16)
        | (with_reducible (show wpList _ _ _ (Oper.mk (some 5) (.buildSlice _ _ _) _ _ _ _ :: _) _ _); refine m_lit0 M rfl rfl ?_; clear M; (try clear wx); intro g5 wx M)
        | (with_reducible (show wpList _ _ _ (Oper.mk (some 13) (.buildSlice _ _ _) _ _ _ _ :: _) _ _); (first | (refine m_lit1A M rfl rfl rfl (by first | rfl | assumption | (simp; done) | (simp; omega)) (by decide) ?_) | (refine m_lit11 (v := Value.int _ _) M rfl rfl rfl rfl ?_) | (refine m_lit11 (v := Value.slice _ _ _) M rfl rfl rfl rfl ?_) | (refine m_lit11 (v := Value.bool _) M rfl rfl rfl rfl ?_) | (refine m_lit11 (v := Value.string _) M rfl rfl rfl rfl ?_) | (refine m_lit11 (v := Value.pointer _) M rfl rfl rfl rfl ?_)); clear M; (try clear wx); intro g13 wx M)
        | (with_reducible (show wpList _ _ _ (Oper.mk _ (.load _ _) _ _ _ _ :: _) _ _); (first | (refine rd_loadA rfl rfl rfl (C1.out _ M.up) (Ky.len _) ?_) | (refine m_load M rfl rfl rfl (by first | assumption | rfl) ?_) | (refine m_loadR M rfl rfl rfl (by first | rfl | assumption | (simp; done) | (simp; omega)) ?_)))
        | (with_reducible (show wpList _ _ _ (Oper.mk _ (.call (Call.mk (.builtin .append) _ _)) _ _ _ _ :: _) _ _); (first | (refine m_append1 M rfl rfl rfl (by first | rfl | omega | (simp; done)) rfl (by first | rfl | assumption | (simp; done) | (simp; omega)) (by first | exact bA_one _ | exact wA_one _ | assumption | (simp [Value.oneCell']; done)) (by first | assumption | (simp only [maxLen]; omega)) (by omega) ?_)); clear M; (try clear wx); intro _ _ wx M; simp only [List.set_cons_zero, List.set_cons_succ, Nat.zero_add, List.nil_append] at M))
      obtain ⟨hj, hr⟩ := HJ.out
      go_roundg (gk - 1)
      case measure => omega
      case rel =>
        refine ⟨j + 1, r - 32, _, _, _, _, by omega, by omega, rfl, rfl, ?_, ?_⟩
        · rw [show bL (l.drop (32 * (j + 1))) = List.drop (32 * 1) (bL (l.drop (32 * j))) by simp only [bL, ← List.map_drop, List.drop_drop]; congr 2]
          exact HR16.out
        · rw [blkK_succ, ← kyL_snoc]
          exact M
    · obtain rfl : j = l.length / 32 := by omega
      have h32 : ¬ 32 ≤ r := by omega
      have HR := Lib.hid R
      have HJ := Lib.hid hr
      clear hj hr R hlt
      go_wp2_with (first
        | (with_reducible (show wpList _ _ _ (Oper.mk (some 5) (.buildSlice _ _ _) _ _ _ _ :: _) _ _); refine m_lit0 M rfl rfl ?_; clear M; (try clear wx); intro g5 wx M)
        | (with_reducible (show wpList _ _ _ (Oper.mk (some 13) (.buildSlice _ _ _) _ _ _ _ :: _) _ _); (first | (refine m_lit1A M rfl rfl rfl (by first | rfl | assumption | (simp; done) | (simp; omega)) (by decide) ?_) | (refine m_lit11 (v := Value.int _ _) M rfl rfl rfl rfl ?_) | (refine m_lit11 (v := Value.slice _ _ _) M rfl rfl rfl rfl ?_) | (refine m_lit11 (v := Value.bool _) M rfl rfl rfl rfl ?_) | (refine m_lit11 (v := Value.string _) M rfl rfl rfl rfl ?_) | (refine m_lit11 (v := Value.pointer _) M rfl rfl rfl rfl ?_)); clear M; (try clear wx); intro g13 wx M)
        | (with_reducible (show wpList _ _ _ (Oper.mk _ (.load _ _) _ _ _ _ :: _) _ _); (first | (refine m_load M rfl rfl rfl (by first | assumption | rfl) ?_) | (refine m_loadR M rfl rfl rfl (by first | rfl | assumption | (simp; done) | (simp; omega)) ?_)))
        | (with_reducible (show wpList _ _ _ (Oper.mk _ (.call (Call.mk (.builtin .append) _ _)) _ _ _ _ :: _) _ _); (first | (refine m_append1 M rfl rfl rfl (by first | rfl | omega | (simp; done)) rfl (by first | rfl | assumption | (simp; done) | (simp; omega)) (by first | exact bA_one _ | exact wA_one _ | assumption | (simp [Value.oneCell']; done)) (by first | assumption | (simp only [maxLen]; omega)) (by omega) ?_)); clear M; (try clear wx); intro _ _ wx M; simp only [List.set_cons_zero, List.set_cons_succ, Nat.zero_add, List.nil_append] at M))
      have hr := HJ.out
      subst hr
      go_ret2
      exact ⟨_, rfl, ⟨_, _, _, _, rfl, M.out_own (p := 0) rfl, HR.out⟩, M.up⟩

end Go.Proofs.Ytmbhaoiahlbglaa

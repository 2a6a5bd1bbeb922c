/- Walks: slices of bytes copied, compared, marked; blocks and padding. -/
import Derived.Test.YtmbhaoiahlbglaaTy
import Derived.Test.YtmbhaoiahlbglaaKS
namespace Go.Proofs.Ytmbhaoiahlbglaa
open Go.RowKit
set_option linter.unusedVariables false
set_option linter.unusedSimpArgs false

theorem Rd.rdb {w : World} {v : Value} {l : List UInt8} (h : Rd w 1 v l.length (bL l)) : RdB w v l := by
  obtain ⟨a, cap, h1, h2, h3, h4, h6, h5⟩ := h
  refine ⟨a, cap, h1, by omega, fun i hi => ?_⟩
  rcases h5 with h5 | ⟨g, o, ha, hg, hr⟩
  · omega
  · exact ⟨_, ha, hg, by rw [Addr.add_mid]; exact hr i _ (bL_get l i hi)⟩
theorem u8_mod (n : Nat) : ((UInt8.ofNat n).toNat : Int) = (n : Int) % 256 := by
  simp only [UInt8.toNat_ofNat']
  omega
/-- The bytes that a marking leaves. -/
def markB (k n : Nat) : List UInt8 := (List.range n).map fun i => UInt8.ofNat (k + i)
@[simp] theorem markB_len (k n : Nat) : (markB k n).length = n := by simp [markB]
theorem bt_markB (k n i : Nat) (h : i < n) : bt (markB k n) i = UInt8.ofNat (k + i) := by
  rw [bt_eq _ _ (by simpa using h)]
  simp [markB]
theorem Mem.rdB {w0 w : World} {L : List It} (M : Mem w0 w L) {b : Option Addr} {cap n p : Nat} {e : TypeId} {l : List UInt8} [hL : AtO L b cap n p e 1 (bL l)] : Rd w 1 (.slice b n cap) n (bL l) := M.rdO (bL_one l)
theorem Mem.rdB' {w0 w : World} {L : List It} (M : Mem w0 w L) {b : Option Addr} {cap p : Nat} {e : TypeId} {l : List UInt8} [hL : AtO L b cap l.length p e 1 (bL l)] : RdB w (.slice b l.length cap) l := Rd.rdb (M.rdO (bL_one l))

theorem toByteS_r (v : Value) (l : List UInt8) (w : World) (hv : RdB w v l) (hl : l.length ≤ 1048576) : Ret Try.prog 98 #[v] w fun r w' => OwnR w w' 5 1 r l.length (bL l) :=
  Calls.mono (toByteS_c v l w hv hl) fun e w' ⟨⟨g, he, hg, hb⟩, hu⟩ => ⟨_, he, ⟨_, _, rfl, own_back (xs := bL l) (tl := []) hg (by rw [List.append_nil]; exact hb) (by simp [bL]) (Nat.le_refl _) (by simp only [maxLen]; omega) (by simp [bL])⟩, hu⟩

theorem eqByteS_r (va vb : Value) (l : List UInt8) (w : World) (ha : RdB w va l) (hb : RdB w vb l) : Ret Try.prog 49 #[va, vb] w fun r _ => r = .bool true :=
  Ret.of (eqByteS_same va vb l w ha hb)

/-- n elements, of which the first k are new. -/
def midL (f g : Nat → Value) (k n : Nat) : List Value := (List.range n).map fun i => if i < k then f i else g i
theorem midL_len (f g : Nat → Value) (k n : Nat) : (midL f g k n).length = n := by simp [midL]
theorem midL_zero (f : Nat → Value) (xs : List Value) : midL f (fun i => xs.getD i undef) 0 xs.length = xs := by
  apply List.ext_getElem
  · simp [midL]
  · intro i h1 h2
    simp [midL, h2]
theorem midL_set (f g : Nat → Value) (k n : Nat) : (midL f g k n).set k (f k) = midL f g (k + 1) n := by
  apply List.ext_getElem?
  intro i
  simp only [midL, List.getElem?_set, List.length_map, List.length_range, List.getElem?_map]
  by_cases h : k = i
  · subst h
    by_cases hn : k < n
    · simp [hn]
    · simp [hn]
  · simp only [h, if_false]
    by_cases hn : i < n
    · simp only [List.getElem?_range, hn, Option.map_some]
      by_cases h2 : i < k
      · simp [h2, show i < k + 1 by omega]
      · simp [h2, show ¬ i < k + 1 by omega]
    · simp [hn]
theorem midL_full (f g : Nat → Value) (n : Nat) : midL f g n n = (List.range n).map f := by
  unfold midL
  apply List.map_congr_left
  intro i hi
  simp at hi
  simp [hi]
theorem midL_get (f g : Nat → Value) (k n i : Nat) (h : i < n) : (midL f g k n)[i]? = some (if i < k then f i else g i) := by simp [midL, h]

set_option maxHeartbeats 400000 in
set_option maxRecDepth 100000 in
theorem markByteS_c (b : Option Addr) (cap n k B : Nat) (xs : List Value) (w : World) (hk : k ≤ 1000000000000) (hn : n ≤ 1000000000000) (h : w.ownsRow B 5 1 (.slice b n cap) n xs) :
    Writes Try.prog 50 #[.slice b n cap, .int .i64 (k : Int)] w B 5 1 b cap n (bL (markB k n)) (.int .i64 ((k + n : Nat) : Int)) := by
  have hx1 := h.1
  rcases own_cases h with rfl | ⟨g, tl, rfl, hg, hnc, hcm, hlen, hblk⟩
  · have hx : xs = [] := List.eq_nil_of_length_eq_zero (by simpa using hx1)
    subst hx
    have H := Lib.hid h
    clear h hx1
    unfold Writes
    go_enter Try.func50, Try.ntmps50
    go_wp2_with fail
    go_loopg [1, 5] 0 (fun n x i wr => x = .int .i64 k ∧ i = .int .i64 0 ∧ wr = w)
    case atStart => exact ⟨rfl, rfl, rfl⟩
    case round =>
      obtain ⟨rfl, rfl, rfl⟩ := hrel
      go_wp2_with fail
      go_ret
      exact ⟨rfl, H.out, ⟨rfl, rfl, rfl, Nat.le_refl _, fun _ _ _ => rfl⟩⟩
  · have hxn : xs.length = n := by omega
    have HX := Lib.hid (And.intro hxn (And.intro hg (And.intro hnc (And.intro hcm hlen))))
    have h0 : Blk w g 5 (midL (fun i => bV (UInt8.ofNat (k + i))) (fun i => xs.getD i undef) 0 n ++ tl).toArray := by rw [← hxn, midL_zero]; exact hblk
    have H0 := Lib.hid h0
    clear h hx1 hblk hg hnc hcm hlen hxn h0
    unfold Writes
    go_enter Try.func50, Try.ntmps50
    go_wp2_with fail
    go_loopg [1, 5] n (fun m x i wr => ∃ j : Nat, j + m = n ∧ x = .int .i64 ((k + j : Nat) : Int) ∧ i = .int .i64 (j : Int) ∧ Blk wr g 5 (midL (fun i => bV (UInt8.ofNat (k + i))) (fun i => xs.getD i undef) j n ++ tl).toArray ∧ w.grownBy wr (some g))
    case atStart => exact ⟨0, by omega, rfl, rfl, H0.out, ⟨rfl, rfl, rfl, Nat.le_refl _, fun _ _ _ => rfl⟩⟩
    case round =>
      obtain ⟨j, hj, rfl, rfl, b0, hgr⟩ := hrel
      by_cases hlt : j < n
      · have c0 := b0.cell_ (i := j) (by rw [List.getElem?_toArray, List.getElem?_append_left (by rw [midL_len]; exact hlt)]; exact midL_get _ _ _ _ _ hlt)
        rw [if_neg (by omega)] at c0
        have f0 := b0.free j
        have HB := Lib.hid (And.intro b0 hgr)
        have HJ := Lib.hid hj
        clear b0 hgr hj
        go_wp2_with fail
        obtain ⟨b0, hgr⟩ := HB.out
        have hj := HJ.out
        go_roundg (gk - 1)
        case measure => omega
        case rel =>
          refine ⟨j + 1, by omega, by go_num, by go_num, ?_, grown_trans hgr (grown_set g j _)⟩
          have := b0.set_ j (bV (UInt8.ofNat (k + j)))
          rw [List.setIfInBounds_toArray, List.set_append_left _ _ (by rw [midL_len]; exact hlt), midL_set] at this
          simp only [bV] at this ⊢
          rw [u8_mod (k + j), Int.natCast_add] at this
          exact this
      · obtain rfl : j = n := by omega
        rw [midL_full] at b0
        have HB := Lib.hid (And.intro b0 hgr)
        clear b0 hgr hj
        go_wp2_with fail
        go_ret
        obtain ⟨hxn, hg, hnc, hcm, hlen⟩ := HX.out
        refine ⟨rfl, own_back (xs := bL (markB k j)) (tl := tl) hg ?_ (by simp [bL]) hnc hcm (by simp [bL]; simp at hlen; omega), HB.out.2⟩
        have e : bL (markB k j) = (List.range j).map fun i => bV (UInt8.ofNat (k + i)) := by simp [bL, markB]
        rw [e]
        exact HB.out.1

set_option maxHeartbeats 400000 in
set_option maxRecDepth 100000 in
theorem heldByteS_c (v : Value) (n k : Nat) (w : World) (hk : k ≤ 1000000000000) (hn : n ≤ 1000000000000) (h : Rd w 1 v n (bL (markB k n))) :
    Ret Try.prog 51 #[v, .int .i64 (k : Int)] w fun r _ => r = .int .i64 ((k + n : Nat) : Int) := by
  obtain ⟨b, cap, rfl⟩ := h.shape
  have hm := h.len_
  have H := Lib.hid h
  clear h
  refine ret_start fun wx M => ?_
  clear hm
  go_enter Try.func51, Try.ntmps51
  go_wp2_with fail
  go_loopg [1, 5] n (fun m x i wr => ∃ j : Nat, j + m = n ∧ x = .int .i64 ((k + j : Nat) : Int) ∧ i = .int .i64 (j : Int) ∧ Mem w wr [])
  case atStart => exact ⟨0, by omega, rfl, rfl, M⟩
  case round =>
    obtain ⟨j, hj, rfl, rfl, M⟩ := hrel
    by_cases hlt : j < n
    · have hb0 : 0 < n := by omega
      obtain ⟨g, o, rfl, hr⟩ := H.out.open_ hb0
      have C1 := Lib.hid (fun wx (hb : Up w wx) => hr wx hb _ _ (bL_get (markB k n) j (by simpa using hlt)))
      have HE : ((bt (markB k n) j).toNat : Int) = ((k : Int) + (j : Int)) % 256 := by rw [bt_markB k n j hlt, u8_mod, Int.natCast_add]
      have HE := Lib.hid HE
      have HJ := Lib.hid hj
      clear hr hb0 hj
      go_wp2_with (first
        | (with_reducible (show wpList _ _ _ (Oper.mk _ (.load _ _) _ _ _ _ :: _) _ _); (first | (refine wpList_load_one rfl rfl rfl (C1.out _ M.up) ?_; rw [HE.out]) | (refine m_load M rfl rfl rfl (by first | assumption | rfl) ?_) | (refine m_loadR M rfl rfl rfl (by first | rfl | assumption | (simp; done) | (simp; omega)) ?_))))
      have hj := HJ.out
      go_roundg (gk - 1)
      case measure => omega
      case rel => exact ⟨j + 1, by omega, by go_num, by go_num, M⟩
    · obtain rfl : j = n := by omega
      clear hj
      go_wp2_with fail
      go_ret
      exact ⟨_, rfl, rfl, M.up⟩

theorem markByteS_1 (b : Option Addr) (cap n B : Nat) (xs : List Value) (w : World) (hn : n ≤ 1000000000000) (h : w.ownsRow B 5 1 (.slice b n cap) n xs) :
    Writes Try.prog 50 #[.slice b n cap, .int .i64 1] w B 5 1 b cap n (bL (markB 1 n)) (.int .i64 (1 + (n : Int))) := by
  have := markByteS_c b cap n 1 B xs w (by decide) hn h
  rw [Int.natCast_add] at this
  exact this
theorem heldByteS_1 (v : Value) (n : Nat) (w : World) (hn : n ≤ 1000000000000) (h : Rd w 1 v n (bL (markB 1 n))) :
    Ret Try.prog 51 #[v, .int .i64 1] w fun r _ => r = .int .i64 (1 + (n : Int)) := by
  have := heldByteS_c v n 1 w (by decide) hn h
  rw [Int.natCast_add] at this
  exact this

/-- The bytes of a number, the lowest first. -/
def leB (n k : Nat) : List UInt8 := (List.range k).map fun i => UInt8.ofNat (n / 256 ^ i)
@[simp] theorem leB_len (n k : Nat) : (leB n k).length = k := by simp [leB]
theorem leB_succ (n k : Nat) : leB n k ++ [UInt8.ofNat (n / 256 ^ k)] = leB n (k + 1) := by simp [leB, List.range_succ]
/-- How many zeros fill up. -/
def padZ (n : Nat) : Nat := (55 - n % 32) % 32
/-- What is laid behind n bytes, of c in all. -/
def padB (n c : Nat) : List UInt8 := 128 :: (List.replicate (padZ n) 0 ++ leB c 8)
theorem padB_len (n c : Nat) : (padB n c).length = 1 + padZ n + 8 := by simp [padB]; omega
theorem padZ_lt (n : Nat) : padZ n < 32 := by unfold padZ; omega
/-- Bytes and what is laid behind them. -/
def padded (l : List UInt8) (c : Nat) : List UInt8 := l ++ padB l.length c
theorem padded_len (l : List UInt8) (c : Nat) : (padded l c).length = l.length + 1 + padZ l.length + 8 := by rw [padded, List.length_append, padB_len]; omega
theorem padded_mod (l : List UInt8) (c : Nat) : (padded l c).length = 32 * ((padded l c).length / 32) := by rw [padded_len]; unfold padZ; omega
theorem bL_snoc (l : List UInt8) (b : UInt8) : bL l ++ #[Value.int .u8 (b.toNat : Int)].toList = bL (l ++ [b]) := by simp [bL, bV]
theorem rep_snoc (l : List UInt8) (n : Nat) : l ++ List.replicate n 0 ++ [0] = l ++ List.replicate (n + 1) 0 := by rw [List.append_assoc, ← List.replicate_succ']

set_option maxHeartbeats 400000 in
theorem sizeByte_c (b : Option Addr) (n cap : Nat) (w : World) : Ret Try.prog 130 #[.slice b n cap] w fun r _ => r = .int .i64 (n : Int) := by
  refine ret_start fun wx M => ?_
  go_enter Try.func130, Try.ntmps130
  go_wp2_with fail
  go_ret
  exact ⟨_, rfl, rfl, M.up⟩

set_option maxHeartbeats 400000 in
set_option maxRecDepth 100000 in
theorem l01Padded_c (v : Value) (l : List UInt8) (n : Nat) (w : World) (hv : Rd w 1 v l.length (bL l)) (hl : l.length ≤ 1000000000) (hn : n ≤ 1000000000000) :
    Ret Try.prog 154 #[v, .int .i64 (n : Int)] w fun r w' => OwnR w w' 5 1 r (padded l n).length (bL (padded l n)) := by
  have HV := Lib.hid hv
  refine ret_start fun wx M => ?_
  clear hv
  go_enter Try.func154, Try.ntmps154
  go_wp2_with (first
    | (with_reducible (show wpList _ _ _ (Oper.mk (some 7) (.buildSlice _ _ _) _ _ _ _ :: _) _ _); refine m_lit0 M rfl rfl ?_; clear M; (try clear wx); intro g7 wx M)
    | (with_reducible (show wpList _ _ _ (Oper.mk (some 10) (.buildSlice _ _ _) _ _ _ _ :: _) _ _); (first | (refine m_lit1A M rfl rfl rfl (by first | rfl | assumption | (simp; done) | (simp; omega)) (by decide) ?_) | (refine m_lit11 (v := Value.int _ _) M rfl rfl rfl rfl ?_) | (refine m_lit11 (v := Value.slice _ _ _) M rfl rfl rfl rfl ?_) | (refine m_lit11 (v := Value.bool _) M rfl rfl rfl rfl ?_) | (refine m_lit11 (v := Value.string _) M rfl rfl rfl rfl ?_) | (refine m_lit11 (v := Value.pointer _) M rfl rfl rfl rfl ?_)); clear M; (try clear wx); intro g10 wx M)
    | (with_reducible (show wpList _ _ _ (Oper.mk (some 17) (.buildSlice _ _ _) _ _ _ _ :: _) _ _); (first | (refine m_lit1A M rfl rfl rfl (by first | rfl | assumption | (simp; done) | (simp; omega)) (by decide) ?_) | (refine m_lit11 (v := Value.int _ _) M rfl rfl rfl rfl ?_) | (refine m_lit11 (v := Value.slice _ _ _) M rfl rfl rfl rfl ?_) | (refine m_lit11 (v := Value.bool _) M rfl rfl rfl rfl ?_) | (refine m_lit11 (v := Value.string _) M rfl rfl rfl rfl ?_) | (refine m_lit11 (v := Value.pointer _) M rfl rfl rfl rfl ?_)); clear M; (try clear wx); intro g17 wx M)
    | (with_reducible (show wpList _ _ _ (Oper.mk (some 27) (.buildSlice _ _ _) _ _ _ _ :: _) _ _); (first | (refine m_lit1A M rfl rfl rfl (by first | rfl | assumption | (simp; done) | (simp; omega)) (by decide) ?_) | (refine m_lit11 (v := Value.int _ _) M rfl rfl rfl rfl ?_) | (refine m_lit11 (v := Value.slice _ _ _) M rfl rfl rfl rfl ?_) | (refine m_lit11 (v := Value.bool _) M rfl rfl rfl rfl ?_) | (refine m_lit11 (v := Value.string _) M rfl rfl rfl rfl ?_) | (refine m_lit11 (v := Value.pointer _) M rfl rfl rfl rfl ?_)); clear M; (try clear wx); intro g27 wx M)
    | (with_reducible (show wpList _ _ _ (Oper.mk _ (.call (Call.mk (.builtin .append) _ _)) _ _ _ _ :: _) _ _); (first | (refine m_append M rfl rfl rfl (by first | rfl | omega | (simp; done)) rfl (HV.out.up M.up) (by first | assumption | (simp only [maxLen]; omega)) (by omega) ?_) | (refine m_append1 M rfl rfl rfl (by first | rfl | omega | (simp; done)) rfl (by first | rfl | assumption | (simp; done) | (simp; omega)) (by first | exact bA_one _ | exact wA_one _ | assumption | (simp [Value.oneCell']; done)) (by first | assumption | (simp only [maxLen]; omega)) (by omega) ?_)); clear M; (try clear wx); intro _ _ wx M; simp only [List.set_cons_zero, List.set_cons_succ, Nat.zero_add, List.nil_append] at M))
  go_loopg [5] (padZ l.length) (fun m x wr => ∃ (j : Nat) (b : Option Addr) (cap : Nat), j + m = padZ l.length ∧ x = .slice b (l.length + 1 + j) cap ∧ Mem w wr [.own b cap 5 1 (l.length + 1 + j) (bL (l ++ [128] ++ List.replicate j 0))])
  case atStart => exact ⟨0, _, _, by omega, rfl, by simpa [bL, bV] using M⟩
  case round =>
    obtain ⟨j, b, cap, hj, rfl, M⟩ := hrel
    have hz := padZ_lt l.length
    by_cases hlt : j < padZ l.length
    · have hc : (((l.length : Int) + 1 + (j : Int)) % 32 != 24) = true := by
        rw [bne_iff_ne]
        unfold padZ at hlt
        omega
      have HJ := Lib.hid hj
      clear hj
      go_wp2_with (first
        | (with_reducible (show wpList _ _ _ (Oper.mk (some 7) (.buildSlice _ _ _) _ _ _ _ :: _) _ _); refine m_lit0 M rfl rfl ?_; clear M; (try clear wx); intro g7 wx M)
        | (with_reducible (show wpList _ _ _ (Oper.mk (some 10) (.buildSlice _ _ _) _ _ _ _ :: _) _ _); (first | (refine m_lit1A M rfl rfl rfl (by first | rfl | assumption | (simp; done) | (simp; omega)) (by decide) ?_) | (refine m_lit11 (v := Value.int _ _) M rfl rfl rfl rfl ?_) | (refine m_lit11 (v := Value.slice _ _ _) M rfl rfl rfl rfl ?_) | (refine m_lit11 (v := Value.bool _) M rfl rfl rfl rfl ?_) | (refine m_lit11 (v := Value.string _) M rfl rfl rfl rfl ?_) | (refine m_lit11 (v := Value.pointer _) M rfl rfl rfl rfl ?_)); clear M; (try clear wx); intro g10 wx M)
        | (with_reducible (show wpList _ _ _ (Oper.mk (some 17) (.buildSlice _ _ _) _ _ _ _ :: _) _ _); (first | (refine m_lit1A M rfl rfl rfl (by first | rfl | assumption | (simp; done) | (simp; omega)) (by decide) ?_) | (refine m_lit11 (v := Value.int _ _) M rfl rfl rfl rfl ?_) | (refine m_lit11 (v := Value.slice _ _ _) M rfl rfl rfl rfl ?_) | (refine m_lit11 (v := Value.bool _) M rfl rfl rfl rfl ?_) | (refine m_lit11 (v := Value.string _) M rfl rfl rfl rfl ?_) | (refine m_lit11 (v := Value.pointer _) M rfl rfl rfl rfl ?_)); clear M; (try clear wx); intro g17 wx M)
        | (with_reducible (show wpList _ _ _ (Oper.mk (some 27) (.buildSlice _ _ _) _ _ _ _ :: _) _ _); (first | (refine m_lit1A M rfl rfl rfl (by first | rfl | assumption | (simp; done) | (simp; omega)) (by decide) ?_) | (refine m_lit11 (v := Value.int _ _) M rfl rfl rfl rfl ?_) | (refine m_lit11 (v := Value.slice _ _ _) M rfl rfl rfl rfl ?_) | (refine m_lit11 (v := Value.bool _) M rfl rfl rfl rfl ?_) | (refine m_lit11 (v := Value.string _) M rfl rfl rfl rfl ?_) | (refine m_lit11 (v := Value.pointer _) M rfl rfl rfl rfl ?_)); clear M; (try clear wx); intro g27 wx M)
        | (with_reducible (show wpList _ _ _ (Oper.mk _ (.call (Call.mk (.builtin .append) _ _)) _ _ _ _ :: _) _ _); (first | (refine m_append1 M rfl rfl rfl (by first | rfl | omega | (simp; done)) rfl (by first | rfl | assumption | (simp; done) | (simp; omega)) (by first | exact bA_one _ | exact wA_one _ | assumption | (simp [Value.oneCell']; done)) (by first | assumption | (simp only [maxLen]; omega)) (by omega) ?_)); clear M; (try clear wx); intro _ _ wx M; simp only [List.set_cons_zero, List.set_cons_succ, Nat.zero_add, List.nil_append] at M))
      have hj := HJ.out
      go_roundg (gk - 1)
      case measure => omega
      case rel => exact ⟨j + 1, _, _, by omega, by go_num, by rw [← rep_snoc, ← bL_append]; exact M⟩
    · obtain rfl : j = padZ l.length := by omega
      have hc : (((l.length : Int) + 1 + ((padZ l.length : Nat) : Int)) % 32 != 24) = false := by
        rw [bne_eq_false_iff_eq]
        unfold padZ
        omega
      have HF := Lib.hid (show padded l n = l ++ [128] ++ List.replicate (padZ l.length) 0 ++ leB n 8 by simp [padded, padB])
      have HN := Lib.hid (padded_len l n)
      generalize padZ l.length = z at *
      clear hj hlt
      go_wp2_with (first
        | (with_reducible (show wpList _ _ _ (Oper.mk (some 7) (.buildSlice _ _ _) _ _ _ _ :: _) _ _); refine m_lit0 M rfl rfl ?_; clear M; (try clear wx); intro g7 wx M)
        | (with_reducible (show wpList _ _ _ (Oper.mk (some 10) (.buildSlice _ _ _) _ _ _ _ :: _) _ _); (first | (refine m_lit1A M rfl rfl rfl (by first | rfl | assumption | (simp; done) | (simp; omega)) (by decide) ?_) | (refine m_lit11 (v := Value.int _ _) M rfl rfl rfl rfl ?_) | (refine m_lit11 (v := Value.slice _ _ _) M rfl rfl rfl rfl ?_) | (refine m_lit11 (v := Value.bool _) M rfl rfl rfl rfl ?_) | (refine m_lit11 (v := Value.string _) M rfl rfl rfl rfl ?_) | (refine m_lit11 (v := Value.pointer _) M rfl rfl rfl rfl ?_)); clear M; (try clear wx); intro g10 wx M)
        | (with_reducible (show wpList _ _ _ (Oper.mk (some 17) (.buildSlice _ _ _) _ _ _ _ :: _) _ _); (first | (refine m_lit1A M rfl rfl rfl (by first | rfl | assumption | (simp; done) | (simp; omega)) (by decide) ?_) | (refine m_lit11 (v := Value.int _ _) M rfl rfl rfl rfl ?_) | (refine m_lit11 (v := Value.slice _ _ _) M rfl rfl rfl rfl ?_) | (refine m_lit11 (v := Value.bool _) M rfl rfl rfl rfl ?_) | (refine m_lit11 (v := Value.string _) M rfl rfl rfl rfl ?_) | (refine m_lit11 (v := Value.pointer _) M rfl rfl rfl rfl ?_)); clear M; (try clear wx); intro g17 wx M)
        | (with_reducible (show wpList _ _ _ (Oper.mk (some 27) (.buildSlice _ _ _) _ _ _ _ :: _) _ _); (first | (refine m_lit1A M rfl rfl rfl (by first | rfl | assumption | (simp; done) | (simp; omega)) (by decide) ?_) | (refine m_lit11 (v := Value.int _ _) M rfl rfl rfl rfl ?_) | (refine m_lit11 (v := Value.slice _ _ _) M rfl rfl rfl rfl ?_) | (refine m_lit11 (v := Value.bool _) M rfl rfl rfl rfl ?_) | (refine m_lit11 (v := Value.string _) M rfl rfl rfl rfl ?_) | (refine m_lit11 (v := Value.pointer _) M rfl rfl rfl rfl ?_)); clear M; (try clear wx); intro g27 wx M)
        | (with_reducible (show wpList _ _ _ (Oper.mk _ (.call (Call.mk (.builtin .append) _ _)) _ _ _ _ :: _) _ _); (first | (refine m_append1 M rfl rfl rfl (by first | rfl | omega | (simp; done)) rfl (by first | rfl | assumption | (simp; done) | (simp; omega)) (by first | exact bA_one _ | exact wA_one _ | assumption | (simp [Value.oneCell']; done)) (by first | assumption | (simp only [maxLen]; omega)) (by omega) ?_)); clear M; (try clear wx); intro _ _ wx M; simp only [List.set_cons_zero, List.set_cons_succ, Nat.zero_add, List.nil_append] at M))
      clear hc
      go_loopg [1, 5, 6] 8 (fun m x y i wq => ∃ (k : Nat) (b : Option Addr) (cap : Nat), k + m = 8 ∧ x = .int .i64 ((n / 256 ^ k : Nat) : Int) ∧ i = .int .i64 (k : Int) ∧ y = .slice b (l.length + 1 + z + k) cap ∧ Mem w wq [.own b cap 5 1 (l.length + 1 + z + k) (bL (l ++ [128] ++ List.replicate z 0 ++ leB n k))])
      case atStart => exact ⟨0, _, _, by omega, by simp, rfl, rfl, by simpa [leB] using M⟩
      case round =>
        obtain ⟨k, b, cap, hk, rfl, rfl, rfl, M⟩ := hrel
        by_cases hlt : k < 8
        · have HD := Lib.hid (show n / 256 ^ (k + 1) = n / 256 ^ k / 256 by rw [Nat.pow_succ, Nat.div_div_eq_div_mul])
          have HB := Lib.hid (show bL (l ++ [128] ++ List.replicate z 0 ++ leB n (k + 1)) = bL (l ++ [128] ++ List.replicate z 0 ++ leB n k) ++ [Value.int .u8 (((n / 256 ^ k : Nat) : Int) % 256)] by
            rw [← leB_succ, ← List.append_assoc, ← bL_append, ← u8_mod]
            rfl)
          have hq : n / 256 ^ k ≤ 1000000000000 := Nat.le_trans (Nat.div_le_self _ _) hn
          generalize n / 256 ^ k = q at *
          have HJ := Lib.hid hk
          clear hk
          go_wp2_with (first
            | (with_reducible (show wpList _ _ _ (Oper.mk (some 7) (.buildSlice _ _ _) _ _ _ _ :: _) _ _); refine m_lit0 M rfl rfl ?_; clear M; (try clear wx); intro g7 wx M)
            | (with_reducible (show wpList _ _ _ (Oper.mk (some 10) (.buildSlice _ _ _) _ _ _ _ :: _) _ _); (first | (refine m_lit1A M rfl rfl rfl (by first | rfl | assumption | (simp; done) | (simp; omega)) (by decide) ?_) | (refine m_lit11 (v := Value.int _ _) M rfl rfl rfl rfl ?_) | (refine m_lit11 (v := Value.slice _ _ _) M rfl rfl rfl rfl ?_) | (refine m_lit11 (v := Value.bool _) M rfl rfl rfl rfl ?_) | (refine m_lit11 (v := Value.string _) M rfl rfl rfl rfl ?_) | (refine m_lit11 (v := Value.pointer _) M rfl rfl rfl rfl ?_)); clear M; (try clear wx); intro g10 wx M)
            | (with_reducible (show wpList _ _ _ (Oper.mk (some 17) (.buildSlice _ _ _) _ _ _ _ :: _) _ _); (first | (refine m_lit1A M rfl rfl rfl (by first | rfl | assumption | (simp; done) | (simp; omega)) (by decide) ?_) | (refine m_lit11 (v := Value.int _ _) M rfl rfl rfl rfl ?_) | (refine m_lit11 (v := Value.slice _ _ _) M rfl rfl rfl rfl ?_) | (refine m_lit11 (v := Value.bool _) M rfl rfl rfl rfl ?_) | (refine m_lit11 (v := Value.string _) M rfl rfl rfl rfl ?_) | (refine m_lit11 (v := Value.pointer _) M rfl rfl rfl rfl ?_)); clear M; (try clear wx); intro g17 wx M)
            | (with_reducible (show wpList _ _ _ (Oper.mk (some 27) (.buildSlice _ _ _) _ _ _ _ :: _) _ _); (first | (refine m_lit1A M rfl rfl rfl (by first | rfl | assumption | (simp; done) | (simp; omega)) (by decide) ?_) | (refine m_lit11 (v := Value.int _ _) M rfl rfl rfl rfl ?_) | (refine m_lit11 (v := Value.slice _ _ _) M rfl rfl rfl rfl ?_) | (refine m_lit11 (v := Value.bool _) M rfl rfl rfl rfl ?_) | (refine m_lit11 (v := Value.string _) M rfl rfl rfl rfl ?_) | (refine m_lit11 (v := Value.pointer _) M rfl rfl rfl rfl ?_)); clear M; (try clear wx); intro g27 wx M)
            | (with_reducible (show wpList _ _ _ (Oper.mk _ (.call (Call.mk (.builtin .append) _ _)) _ _ _ _ :: _) _ _); (first | (refine m_append1 M rfl rfl rfl (by first | rfl | omega | (simp; done)) rfl (by first | rfl | assumption | (simp; done) | (simp; omega)) (by first | exact bA_one _ | exact wA_one _ | assumption | (simp [Value.oneCell']; done)) (by first | assumption | (simp only [maxLen]; omega)) (by omega) ?_)); clear M; (try clear wx); intro _ _ wx M; simp only [List.set_cons_zero, List.set_cons_succ, Nat.zero_add, List.nil_append] at M))
          have hk := HJ.out
          go_roundg (gk - 1)
          case measure => omega
          case rel => exact ⟨k + 1, _, _, by omega, by rw [HD.out]; go_num, by go_num, rfl, by rw [HB.out]; exact M⟩
        · obtain rfl : k = 8 := by omega
          clear hk
          go_wp2_with (first
            | (with_reducible (show wpList _ _ _ (Oper.mk (some 7) (.buildSlice _ _ _) _ _ _ _ :: _) _ _); refine m_lit0 M rfl rfl ?_; clear M; (try clear wx); intro g7 wx M)
            | (with_reducible (show wpList _ _ _ (Oper.mk (some 10) (.buildSlice _ _ _) _ _ _ _ :: _) _ _); (first | (refine m_lit1A M rfl rfl rfl (by first | rfl | assumption | (simp; done) | (simp; omega)) (by decide) ?_) | (refine m_lit11 (v := Value.int _ _) M rfl rfl rfl rfl ?_) | (refine m_lit11 (v := Value.slice _ _ _) M rfl rfl rfl rfl ?_) | (refine m_lit11 (v := Value.bool _) M rfl rfl rfl rfl ?_) | (refine m_lit11 (v := Value.string _) M rfl rfl rfl rfl ?_) | (refine m_lit11 (v := Value.pointer _) M rfl rfl rfl rfl ?_)); clear M; (try clear wx); intro g10 wx M)
            | (with_reducible (show wpList _ _ _ (Oper.mk (some 17) (.buildSlice _ _ _) _ _ _ _ :: _) _ _); (first | (refine m_lit1A M rfl rfl rfl (by first | rfl | assumption | (simp; done) | (simp; omega)) (by decide) ?_) | (refine m_lit11 (v := Value.int _ _) M rfl rfl rfl rfl ?_) | (refine m_lit11 (v := Value.slice _ _ _) M rfl rfl rfl rfl ?_) | (refine m_lit11 (v := Value.bool _) M rfl rfl rfl rfl ?_) | (refine m_lit11 (v := Value.string _) M rfl rfl rfl rfl ?_) | (refine m_lit11 (v := Value.pointer _) M rfl rfl rfl rfl ?_)); clear M; (try clear wx); intro g17 wx M)
            | (with_reducible (show wpList _ _ _ (Oper.mk (some 27) (.buildSlice _ _ _) _ _ _ _ :: _) _ _); (first | (refine m_lit1A M rfl rfl rfl (by first | rfl | assumption | (simp; done) | (simp; omega)) (by decide) ?_) | (refine m_lit11 (v := Value.int _ _) M rfl rfl rfl rfl ?_) | (refine m_lit11 (v := Value.slice _ _ _) M rfl rfl rfl rfl ?_) | (refine m_lit11 (v := Value.bool _) M rfl rfl rfl rfl ?_) | (refine m_lit11 (v := Value.string _) M rfl rfl rfl rfl ?_) | (refine m_lit11 (v := Value.pointer _) M rfl rfl rfl rfl ?_)); clear M; (try clear wx); intro g27 wx M)
            | (with_reducible (show wpList _ _ _ (Oper.mk _ (.call (Call.mk (.builtin .append) _ _)) _ _ _ _ :: _) _ _); (first | (refine m_append1 M rfl rfl rfl (by first | rfl | omega | (simp; done)) rfl (by first | rfl | assumption | (simp; done) | (simp; omega)) (by first | exact bA_one _ | exact wA_one _ | assumption | (simp [Value.oneCell']; done)) (by first | assumption | (simp only [maxLen]; omega)) (by omega) ?_)); clear M; (try clear wx); intro _ _ wx M; simp only [List.set_cons_zero, List.set_cons_succ, Nat.zero_add, List.nil_append] at M))
          go_ret
          refine ⟨_, rfl, ?_, M.up⟩
          rw [HN.out, HF.out]
          exact ⟨_, _, rfl, M.out_own (p := 0) rfl⟩

theorem shr_u64 (n k : Nat) (hn : n < 2 ^ 64) : ((n / 256 ^ k : Nat) : Int) = (n : Int) / 2 ^ (8 * k) := by
  rw [Int.natCast_ediv, show (256 : Nat) ^ k = 2 ^ (8 * k) by rw [Nat.pow_mul]]
  simp
set_option maxHeartbeats 800000 in
set_option maxRecDepth 100000 in
theorem appendLittle_c (b0 : Option Addr) (cap0 m n kk : Nat) (xs : List UInt8) (w0 w : World) (L : List It) (M : Mem w0 w (.own b0 cap0 5 1 m (bL xs) :: L)) (hm : m ≤ 1000000000000) (hn : n < 2 ^ 64) (hkk : kk ≤ 8) :
    Calls Try.prog 158 #[.slice b0 m cap0, .int .u64 (n : Int), .int .i64 (kk : Int)] w fun e w' => ∃ b cap, e = .returned (.slice b (m + kk) cap) ∧ Mem w0 w' (.own b cap 5 1 (m + kk) (bL (xs ++ leB n kk)) :: L) := by
  have hn' : (n : Int) ≤ 18446744073709551615 := by omega
  have HN := Lib.hid hn
  clear hn
  go_enter Try.func158, Try.ntmps158
  go_wp2_with fail
  go_loopg [0, 9] kk (fun q x i wr => ∃ (j : Nat) (b : Option Addr) (cap : Nat), j + q = kk ∧ x = .slice b (m + j) cap ∧ i = .int .i64 (j : Int) ∧ Mem w0 wr (.own b cap 5 1 (m + j) (bL (xs ++ leB n j)) :: L))
  case atStart => exact ⟨0, _, _, by omega, rfl, rfl, by simpa [leB] using M⟩
  case round =>
    obtain ⟨j, b, cap, hj, rfl, rfl, M⟩ := hrel
    by_cases hlt : j < kk
    · have HJ := Lib.hid hj
      clear hj
      go_wp2_with (first
        | (with_reducible (show wpList _ _ _ (Oper.mk (some 18) (.buildSlice _ _ _) _ _ _ _ :: _) _ _); (first | (refine m_lit1A M rfl rfl rfl (by first | rfl | assumption | (simp; done) | (simp; omega)) (by decide) ?_) | (refine m_lit11 (v := Value.int _ _) M rfl rfl rfl rfl ?_) | (refine m_lit11 (v := Value.slice _ _ _) M rfl rfl rfl rfl ?_) | (refine m_lit11 (v := Value.bool _) M rfl rfl rfl rfl ?_) | (refine m_lit11 (v := Value.string _) M rfl rfl rfl rfl ?_) | (refine m_lit11 (v := Value.pointer _) M rfl rfl rfl rfl ?_)); clear M; (try clear wx); intro g18 wx M)
        | (with_reducible (show wpList _ _ _ (Oper.mk _ (.call (Call.mk (.builtin .append) _ _)) _ _ _ _ :: _) _ _); (first | (refine m_append1 M rfl rfl rfl (by first | rfl | omega | (simp; done)) rfl (by first | rfl | assumption | (simp; done) | (simp; omega)) (by first | exact bA_one _ | exact wA_one _ | assumption | (simp [Value.oneCell']; done)) (by first | assumption | (simp only [maxLen]; omega)) (by omega) ?_)); clear M; (try clear wx); intro _ _ wx M; simp only [List.set_cons_zero, List.set_cons_succ, Nat.zero_add, List.nil_append] at M))
      have hj := HJ.out
      go_roundg (gk - 1)
      case measure => omega
      case rel =>
        refine ⟨j + 1, _, _, by omega, rfl, by go_num, ?_⟩
        rw [← leB_succ, ← List.append_assoc, ← bL_append, show bL [UInt8.ofNat (n / 256 ^ j)] = [Value.int .u8 ((n : Int) / 2 ^ (8 * j) % 256)] by
          show [Value.int .u8 ((UInt8.ofNat (n / 256 ^ j)).toNat : Int)] = _
          rw [u8_mod, shr_u64 n j HN.out]]
        exact M
    · obtain rfl : j = kk := by omega
      clear hj
      go_wp2_with (first
        | (with_reducible (show wpList _ _ _ (Oper.mk (some 18) (.buildSlice _ _ _) _ _ _ _ :: _) _ _); (first | (refine m_lit1A M rfl rfl rfl (by first | rfl | assumption | (simp; done) | (simp; omega)) (by decide) ?_) | (refine m_lit11 (v := Value.int _ _) M rfl rfl rfl rfl ?_) | (refine m_lit11 (v := Value.slice _ _ _) M rfl rfl rfl rfl ?_) | (refine m_lit11 (v := Value.bool _) M rfl rfl rfl rfl ?_) | (refine m_lit11 (v := Value.string _) M rfl rfl rfl rfl ?_) | (refine m_lit11 (v := Value.pointer _) M rfl rfl rfl rfl ?_)); clear M; (try clear wx); intro g18 wx M)
        | (with_reducible (show wpList _ _ _ (Oper.mk _ (.call (Call.mk (.builtin .append) _ _)) _ _ _ _ :: _) _ _); (first | (refine m_append1 M rfl rfl rfl (by first | rfl | omega | (simp; done)) rfl (by first | rfl | assumption | (simp; done) | (simp; omega)) (by first | exact bA_one _ | exact wA_one _ | assumption | (simp [Value.oneCell']; done)) (by first | assumption | (simp only [maxLen]; omega)) (by omega) ?_)); clear M; (try clear wx); intro _ _ wx M; simp only [List.set_cons_zero, List.set_cons_succ, Nat.zero_add, List.nil_append] at M))
      go_ret
      exact ⟨_, _, rfl, M⟩
theorem appendLittle8_c (b0 : Option Addr) (cap0 m n : Nat) (xs : List UInt8) (w0 w : World) (L : List It) (M : Mem w0 w (.own b0 cap0 5 1 m (bL xs) :: L)) (hm : m ≤ 1000000000000) (hn : n < 2 ^ 64) :
    Calls Try.prog 158 #[.slice b0 m cap0, .int .u64 (n : Int), .int .i64 8] w fun e w' => ∃ b cap, e = .returned (.slice b (m + 8) cap) ∧ Mem w0 w' (.own b cap 5 1 (m + 8) (bL (xs ++ leB n 8)) :: L) := appendLittle_c b0 cap0 m n 8 xs w0 w L M hm hn (Nat.le_refl _)

set_option maxHeartbeats 800000 in
set_option maxRecDepth 100000 in
theorem padding_c (n : Nat) (w : World) (hn : n ≤ 1000000000000) : Ret Try.prog 136 #[.int .i64 (n : Int)] w fun r w' => OwnR w w' 5 1 r (padB n n).length (bL (padB n n)) := by
  refine ret_start fun wx M => ?_
  go_enter Try.func136, Try.ntmps136
  go_wp2_with (first
    | (with_reducible (show wpList _ _ _ (Oper.mk (some 4) (.buildSlice _ _ _) _ _ _ _ :: _) _ _); (first | (refine m_lit1A M rfl rfl rfl (by first | rfl | assumption | (simp; done) | (simp; omega)) (by decide) ?_) | (refine m_lit11 (v := Value.int _ _) M rfl rfl rfl rfl ?_) | (refine m_lit11 (v := Value.slice _ _ _) M rfl rfl rfl rfl ?_) | (refine m_lit11 (v := Value.bool _) M rfl rfl rfl rfl ?_) | (refine m_lit11 (v := Value.string _) M rfl rfl rfl rfl ?_) | (refine m_lit11 (v := Value.pointer _) M rfl rfl rfl rfl ?_)); clear M; (try clear wx); intro g4 wx M)
    | (with_reducible (show wpList _ _ _ (Oper.mk (some 12) (.buildSlice _ _ _) _ _ _ _ :: _) _ _); (first | (refine m_lit1A M rfl rfl rfl (by first | rfl | assumption | (simp; done) | (simp; omega)) (by decide) ?_) | (refine m_lit11 (v := Value.int _ _) M rfl rfl rfl rfl ?_) | (refine m_lit11 (v := Value.slice _ _ _) M rfl rfl rfl rfl ?_) | (refine m_lit11 (v := Value.bool _) M rfl rfl rfl rfl ?_) | (refine m_lit11 (v := Value.string _) M rfl rfl rfl rfl ?_) | (refine m_lit11 (v := Value.pointer _) M rfl rfl rfl rfl ?_)); clear M; (try clear wx); intro g12 wx M)
    | (with_reducible (show wpList _ _ _ (Oper.mk _ (.call (Call.mk (.builtin .append) _ _)) _ _ _ _ :: _) _ _); (first | (refine m_append1 M rfl rfl rfl (by first | rfl | omega | (simp; done)) rfl (by first | rfl | assumption | (simp; done) | (simp; omega)) (by first | exact bA_one _ | exact wA_one _ | assumption | (simp [Value.oneCell']; done)) (by first | assumption | (simp only [maxLen]; omega)) (by omega) ?_)); clear M; (try clear wx); intro _ _ wx M; simp only [List.set_cons_zero, List.set_cons_succ, Nat.zero_add, List.nil_append] at M))
  have M := M.blk_own (p := 0) rfl 1 1 1 (Nat.le_refl _) (by simp only [maxLen]; omega) rfl (xs := bL [128]) rfl
  go_loopg [3] (padZ n) (fun m x wr => ∃ (j : Nat) (b : Option Addr) (cap : Nat), j + m = padZ n ∧ x = .slice b (1 + j) cap ∧ Mem w wr [.own b cap 5 1 (1 + j) (bL ([128] ++ List.replicate j 0))])
  case atStart => exact ⟨0, _, _, by omega, rfl, by simpa using M⟩
  case round =>
    obtain ⟨j, b, cap, hj, rfl, M⟩ := hrel
    have hz := padZ_lt n
    by_cases hlt : j < padZ n
    · have hc : (((n : Int) + (1 + (j : Int))) % 32 != 24) = true := by
        rw [bne_iff_ne]
        unfold padZ at hlt
        omega
      have HJ := Lib.hid hj
      clear hj
      go_wp2_with (first
        | (go_at_call 130; (with_reducible refine mem_call M (sizeByte_c _ _ _ _) ?_); clear M; (try clear wx); rintro _ wx rfl _ M)
        | (with_reducible (show wpList _ _ _ (Oper.mk (some 4) (.buildSlice _ _ _) _ _ _ _ :: _) _ _); (first | (refine m_lit1A M rfl rfl rfl (by first | rfl | assumption | (simp; done) | (simp; omega)) (by decide) ?_) | (refine m_lit11 (v := Value.int _ _) M rfl rfl rfl rfl ?_) | (refine m_lit11 (v := Value.slice _ _ _) M rfl rfl rfl rfl ?_) | (refine m_lit11 (v := Value.bool _) M rfl rfl rfl rfl ?_) | (refine m_lit11 (v := Value.string _) M rfl rfl rfl rfl ?_) | (refine m_lit11 (v := Value.pointer _) M rfl rfl rfl rfl ?_)); clear M; (try clear wx); intro g4 wx M)
        | (with_reducible (show wpList _ _ _ (Oper.mk (some 12) (.buildSlice _ _ _) _ _ _ _ :: _) _ _); (first | (refine m_lit1A M rfl rfl rfl (by first | rfl | assumption | (simp; done) | (simp; omega)) (by decide) ?_) | (refine m_lit11 (v := Value.int _ _) M rfl rfl rfl rfl ?_) | (refine m_lit11 (v := Value.slice _ _ _) M rfl rfl rfl rfl ?_) | (refine m_lit11 (v := Value.bool _) M rfl rfl rfl rfl ?_) | (refine m_lit11 (v := Value.string _) M rfl rfl rfl rfl ?_) | (refine m_lit11 (v := Value.pointer _) M rfl rfl rfl rfl ?_)); clear M; (try clear wx); intro g12 wx M)
        | (with_reducible (show wpList _ _ _ (Oper.mk _ (.call (Call.mk (.builtin .append) _ _)) _ _ _ _ :: _) _ _); (first | (refine m_append1 M rfl rfl rfl (by first | rfl | omega | (simp; done)) rfl (by first | rfl | assumption | (simp; done) | (simp; omega)) (by first | exact bA_one _ | exact wA_one _ | assumption | (simp [Value.oneCell']; done)) (by first | assumption | (simp only [maxLen]; omega)) (by omega) ?_)); clear M; (try clear wx); intro _ _ wx M; simp only [List.set_cons_zero, List.set_cons_succ, Nat.zero_add, List.nil_append] at M))
      have hj := HJ.out
      go_roundg (gk - 1)
      case measure => omega
      case rel => exact ⟨j + 1, _, _, by omega, by go_num, by rw [← rep_snoc, ← bL_append]; exact M⟩
    · obtain rfl : j = padZ n := by omega
      have hc : (((n : Int) + (1 + ((padZ n : Nat) : Int))) % 32 != 24) = false := by
        rw [bne_eq_false_iff_eq]
        unfold padZ
        omega
      have HF := Lib.hid (show padB n n = [128] ++ List.replicate (padZ n) 0 ++ leB n 8 by simp [padB])
      have HN := Lib.hid (show (padB n n).length = 1 + padZ n + 8 by rw [padB_len])
      generalize padZ n = z at *
      clear hj hlt
      go_wp2_with (first
        | (go_at_call 130; (with_reducible refine mem_call M (sizeByte_c _ _ _ _) ?_); clear M; (try clear wx); rintro _ wx rfl _ M)
        | (with_reducible (show wpList _ _ _ (Oper.mk (some 4) (.buildSlice _ _ _) _ _ _ _ :: _) _ _); (first | (refine m_lit1A M rfl rfl rfl (by first | rfl | assumption | (simp; done) | (simp; omega)) (by decide) ?_) | (refine m_lit11 (v := Value.int _ _) M rfl rfl rfl rfl ?_) | (refine m_lit11 (v := Value.slice _ _ _) M rfl rfl rfl rfl ?_) | (refine m_lit11 (v := Value.bool _) M rfl rfl rfl rfl ?_) | (refine m_lit11 (v := Value.string _) M rfl rfl rfl rfl ?_) | (refine m_lit11 (v := Value.pointer _) M rfl rfl rfl rfl ?_)); clear M; (try clear wx); intro g4 wx M)
        | (with_reducible (show wpList _ _ _ (Oper.mk (some 12) (.buildSlice _ _ _) _ _ _ _ :: _) _ _); (first | (refine m_lit1A M rfl rfl rfl (by first | rfl | assumption | (simp; done) | (simp; omega)) (by decide) ?_) | (refine m_lit11 (v := Value.int _ _) M rfl rfl rfl rfl ?_) | (refine m_lit11 (v := Value.slice _ _ _) M rfl rfl rfl rfl ?_) | (refine m_lit11 (v := Value.bool _) M rfl rfl rfl rfl ?_) | (refine m_lit11 (v := Value.string _) M rfl rfl rfl rfl ?_) | (refine m_lit11 (v := Value.pointer _) M rfl rfl rfl rfl ?_)); clear M; (try clear wx); intro g12 wx M)
        | (with_reducible (show wpList _ _ _ (Oper.mk _ (.call (Call.mk (.builtin .append) _ _)) _ _ _ _ :: _) _ _); (first | (refine m_append1 M rfl rfl rfl (by first | rfl | omega | (simp; done)) rfl (by first | rfl | assumption | (simp; done) | (simp; omega)) (by first | exact bA_one _ | exact wA_one _ | assumption | (simp [Value.oneCell']; done)) (by first | assumption | (simp only [maxLen]; omega)) (by omega) ?_)); clear M; (try clear wx); intro _ _ wx M; simp only [List.set_cons_zero, List.set_cons_succ, Nat.zero_add, List.nil_append] at M))
      refine Calls.mono (appendLittle8_c _ _ _ n _ _ _ _ M (by omega) (by omega)) ?_
      clear M
      rintro e wy ⟨b', cap', rfl, M⟩
      go_wp2_with fail
      go_ret
      refine ⟨_, rfl, ?_, M.up⟩
      rw [HN.out, HF.out]
      exact ⟨_, _, rfl, M.out_own (p := 0) rfl⟩

set_option maxHeartbeats 800000 in
set_option maxRecDepth 100000 in
theorem growByte_c (n : Nat) (w : World) (hn : n ≤ 1000000000000) : Ret Try.prog 157 #[.slice none 0 0, .int .i64 (n : Int)] w fun r w' => OwnR w w' 5 1 r 0 [] := by
  refine ret_start fun wx M => ?_
  rcases Nat.eq_zero_or_pos n with rfl | h0
  · go_enter Try.func157, Try.ntmps157
    go_wp2_with fail
    go_ret
    exact ⟨_, rfl, ⟨_, _, rfl, (M.nil_own 5 1).out_own (p := 0) rfl⟩, M.up⟩
  · have h00 : ((n : Int) > 0) = True := by simp; omega
    go_enter Try.func157, Try.ntmps157
    go_wp2_with (first
      | (with_reducible (show wpList _ _ _ (Oper.mk _ (.call (Call.mk (.builtin .append) _ _)) _ _ _ _ :: _) _ _); refine m_growNil M rfl rfl Try.underlying3 rfl rfl h0 (by simp only [maxLen]; omega) (by omega) ?_; clear M; (try clear wx); intro g22 cap22 xs22 wx hcap M)
      | (with_reducible (show wpList _ _ _ (Oper.mk (some 25) (.slice _ _ _ _ _) _ _ _ _ :: _) _ _); refine m_sliceHi rfl rfl rfl (.inr ⟨_, rfl⟩) (h := 0) rfl (Nat.zero_le _) ?_))
    go_ret
    refine ⟨_, rfl, ⟨_, _, rfl, ?_⟩, M.up⟩
    have M' := M.own_less (p := 0) rfl 0 (Nat.zero_le _)
    simpa using M'.out_own (p := 0) rfl

/-- A piece of a list. -/
def cutL (l : List UInt8) (o n : Nat) : List UInt8 := (l.drop o).take n
theorem cutL_len (l : List UInt8) (o n : Nat) (h : o + n ≤ l.length) : (cutL l o n).length = n := by simp [cutL]; omega
theorem cutL_bt (l : List UInt8) (o n i : Nat) (h : i < n) : bt (cutL l o n) i = bt l (o + i) := by
  simp only [bt, cutL, List.getD, List.getElem?_take, List.getElem?_drop, if_pos h]

set_option maxHeartbeats 400000 in
set_option maxRecDepth 100000 in
theorem l01Block_c (v : Value) (l : List UInt8) (at_ : Nat) (w : World) (hv : Rd w 1 v l.length (bL l)) (hat : at_ + 32 ≤ l.length) :
    Ret Try.prog 156 #[v, .int .i64 (at_ : Int)] w fun r _ => r = .agg (bA (cutL l at_ 32)) := by
  obtain ⟨b, cap, rfl⟩ := hv.shape
  obtain ⟨g, o, rfl, hr⟩ := hv.open_ (by omega)
  have hm := hv.len_
  simp only [maxLen] at hm
  have HR := Lib.hid hr
  refine ret_start fun wx M => ?_
  clear hr hv
  go_enter Try.func156, Try.ntmps156
  go_wp2_with (first
    | (with_reducible (show wpList _ _ _ (Oper.mk (some 4) (.alloc _) _ _ _ _ :: _) _ _); refine mem_new M rfl rfl ?_; clear M; (try clear wx); intro g4 wx M)
    | (with_reducible (show wpList _ _ _ (Oper.mk (some 5) (.alloc _) _ _ _ _ :: _) _ _); refine mem_new M rfl rfl ?_; clear M; (try clear wx); intro g5 wx M)
    | (with_reducible (show wpList _ _ _ (Oper.mk _ (.load _ _) _ _ _ _ :: _) _ _); (first | (refine m_load M rfl rfl rfl (by first | assumption | rfl) ?_) | (refine m_loadR M rfl rfl rfl (by first | rfl | assumption | (simp; done) | (simp; omega)) ?_)))
    | (with_reducible (show wpList _ _ _ (Oper.mk _ (.store _ _ _) _ _ _ _ :: _) _ _); (first | (refine m_storeR M rfl rfl rfl rfl (by first | rfl | assumption | (simp; done) | (simp; omega)) (by first | rfl | assumption | (simp; done) | (simp; omega)) (by first | exact bA_one _ | exact wA_one _ | assumption | (simp [Value.oneCell']; done)) ?_) | (refine m_store (v := Value.int _ _) M rfl rfl rfl rfl rfl (by first | assumption | (simp; done) | (simp; omega)) ?_) | (refine m_store (v := Value.slice _ _ _) M rfl rfl rfl rfl rfl (by first | assumption | (simp; done) | (simp; omega)) ?_) | (refine m_store (v := Value.bool _) M rfl rfl rfl rfl rfl (by first | assumption | (simp; done) | (simp; omega)) ?_) | (refine m_store (v := Value.string _) M rfl rfl rfl rfl rfl (by first | assumption | (simp; done) | (simp; omega)) ?_) | (refine m_store (v := Value.pointer _) M rfl rfl rfl rfl rfl (by first | assumption | (simp; done) | (simp; omega)) ?_)); clear M; (try clear wx); intro wx M; simp only [List.set_cons_zero, List.set_cons_succ, Nat.zero_add, List.nil_append] at M)
    | (with_reducible (show wpList _ _ _ (Oper.mk _ (.build _ _) _ _ _ _ :: _) _ _); refine m_buildZ rfl rfl ?_))
  go_loopg [6] 32 (fun n i wr => ∃ k : Nat, k + n = 32 ∧ i = .int .i64 k ∧ Mem w wr [.blk g5 24 (bA (fillTo (fun i => bt l (at_ + i)) k 32 0)), .blk g4 24 (bA zero32)])
  case atStart => exact ⟨0, by omega, rfl, by rw [fill_zero]; exact M⟩
  case round =>
    obtain ⟨k, hk, rfl, M⟩ := hrel
    by_cases hlt : k < 32
    · have c1 : ∀ wx, Up w wx → wx.cell? ⟨g, o + (at_ + k), none⟩ = some (.int .u8 ((bt l (at_ + k)).toNat : Int)) := fun wx hb => HR.out wx hb _ _ (bL_get l _ (by omega))
      have C1 := Lib.hid c1
      have HK := Lib.hid hk
      clear c1 hk
      go_wp2_with (first
        | (with_reducible (show wpList _ _ _ (Oper.mk (some 4) (.alloc _) _ _ _ _ :: _) _ _); refine mem_new M rfl rfl ?_; clear M; (try clear wx); intro g4 wx M)
        | (with_reducible (show wpList _ _ _ (Oper.mk (some 5) (.alloc _) _ _ _ _ :: _) _ _); refine mem_new M rfl rfl ?_; clear M; (try clear wx); intro g5 wx M)
        | (with_reducible (show wpList _ _ _ (Oper.mk _ (.load _ _) _ _ _ _ :: _) _ _); (first | (refine wpList_load_one rfl rfl rfl (C1.out _ M.up) ?_) | (refine m_load M rfl rfl rfl (by first | assumption | rfl) ?_) | (refine m_loadR M rfl rfl rfl (by first | rfl | assumption | (simp; done) | (simp; omega)) ?_)))
        | (with_reducible (show wpList _ _ _ (Oper.mk _ (.store _ _ _) _ _ _ _ :: _) _ _); (first | (refine m_storeR M rfl rfl rfl rfl (by first | rfl | assumption | (simp; done) | (simp; omega)) (by first | rfl | assumption | (simp; done) | (simp; omega)) (by first | exact bA_one _ | exact wA_one _ | assumption | (simp [Value.oneCell']; done)) ?_) | (refine m_store (v := Value.int _ _) M rfl rfl rfl rfl rfl (by first | assumption | (simp; done) | (simp; omega)) ?_) | (refine m_store (v := Value.slice _ _ _) M rfl rfl rfl rfl rfl (by first | assumption | (simp; done) | (simp; omega)) ?_) | (refine m_store (v := Value.bool _) M rfl rfl rfl rfl rfl (by first | assumption | (simp; done) | (simp; omega)) ?_) | (refine m_store (v := Value.string _) M rfl rfl rfl rfl rfl (by first | assumption | (simp; done) | (simp; omega)) ?_) | (refine m_store (v := Value.pointer _) M rfl rfl rfl rfl rfl (by first | assumption | (simp; done) | (simp; omega)) ?_)); clear M; (try clear wx); intro wx M; simp only [List.set_cons_zero, List.set_cons_succ, Nat.zero_add, List.nil_append] at M)
        | (with_reducible (show wpList _ _ _ (Oper.mk _ (.build _ _) _ _ _ _ :: _) _ _); refine m_buildZ rfl rfl ?_))
      have hk := HK.out
      rw [bA_set, fill_set (fun i => bt l (at_ + i))] at M
      go_roundg (gk - 1)
      case measure => omega
      case rel => exact ⟨k + 1, by omega, by go_num, M⟩
    · obtain rfl : k = 32 := by omega
      have HE := Lib.hid (show fillTo (fun i => bt l (at_ + i)) 32 32 0 = cutL l at_ 32 by
        rw [fill_full, ← map_bt (cutL l at_ 32) 32 (cutL_len l _ _ hat)]
        exact List.map_congr_left fun i hi => (cutL_bt l _ _ _ (by simpa using hi)).symm)
      rw [HE.out] at M
      have hcl := cutL_len l _ _ hat
      clear hk
      go_wp2_with (first
        | (with_reducible (show wpList _ _ _ (Oper.mk (some 4) (.alloc _) _ _ _ _ :: _) _ _); refine mem_new M rfl rfl ?_; clear M; (try clear wx); intro g4 wx M)
        | (with_reducible (show wpList _ _ _ (Oper.mk (some 5) (.alloc _) _ _ _ _ :: _) _ _); refine mem_new M rfl rfl ?_; clear M; (try clear wx); intro g5 wx M)
        | (with_reducible (show wpList _ _ _ (Oper.mk _ (.load _ _) _ _ _ _ :: _) _ _); (first | (refine m_load M rfl rfl rfl (by first | assumption | rfl) ?_) | (refine m_loadR M rfl rfl rfl (by first | rfl | assumption | (simp; done) | (simp; omega)) ?_)))
        | (with_reducible (show wpList _ _ _ (Oper.mk _ (.store _ _ _) _ _ _ _ :: _) _ _); (first | (refine m_storeR M rfl rfl rfl rfl (by first | rfl | assumption | (simp; done) | (simp; omega)) (by first | rfl | assumption | (simp; done) | (simp; omega)) (by first | exact bA_one _ | exact wA_one _ | assumption | (simp [Value.oneCell']; done)) ?_) | (refine m_store (v := Value.int _ _) M rfl rfl rfl rfl rfl (by first | assumption | (simp; done) | (simp; omega)) ?_) | (refine m_store (v := Value.slice _ _ _) M rfl rfl rfl rfl rfl (by first | assumption | (simp; done) | (simp; omega)) ?_) | (refine m_store (v := Value.bool _) M rfl rfl rfl rfl rfl (by first | assumption | (simp; done) | (simp; omega)) ?_) | (refine m_store (v := Value.string _) M rfl rfl rfl rfl rfl (by first | assumption | (simp; done) | (simp; omega)) ?_) | (refine m_store (v := Value.pointer _) M rfl rfl rfl rfl rfl (by first | assumption | (simp; done) | (simp; omega)) ?_)); clear M; (try clear wx); intro wx M; simp only [List.set_cons_zero, List.set_cons_succ, Nat.zero_add, List.nil_append] at M)
        | (with_reducible (show wpList _ _ _ (Oper.mk _ (.build _ _) _ _ _ _ :: _) _ _); refine m_buildZ rfl rfl ?_))
      exact m_ret M rfl rfl rfl (by rw [bA_size, hcl]) rfl

end Go.Proofs.Ytmbhaoiahlbglaa

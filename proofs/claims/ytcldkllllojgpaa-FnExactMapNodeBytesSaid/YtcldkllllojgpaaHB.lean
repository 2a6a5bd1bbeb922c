/- Walks: slices of bytes copied, compared, marked; blocks and padding. -/
import Derived.Test.YtcldkllllojgpaaTy
import Derived.Test.YtcldkllllojgpaaKS
namespace Go.Proofs.Ytcldkllllojgpaa
open Go.RowKit
set_option linter.unusedVariables false
set_option linter.unusedSimpArgs false

theorem Rd.rdb {w : World} {v : Value} {l : List UInt8} (h : Rd w 1 v l.length (bL l)) : RdB w v l := by
  obtain ⟨a, cap, h1, h2, h3, h4, h6, h5⟩ := h
  refine ⟨a, cap, h1, by omega, fun i hi => ?_⟩
  rcases h5 with h5 | ⟨g, o, ha, hg, hr⟩
  · omega
  · exact ⟨_, ha, hg, by rw [Addr.add_mid]; exact hr i _ (bL_get l i hi)⟩
theorem u8_mod (n : Nat) : ((UInt8.ofNat n).toNat : Int) = (n : Int) % 256 := by
  simp only [UInt8.toNat_ofNat']
  omega
/-- The bytes that a marking leaves. -/
def markB (k n : Nat) : List UInt8 := (List.range n).map fun i => UInt8.ofNat (k + i)
@[simp] theorem markB_len (k n : Nat) : (markB k n).length = n := by simp [markB]
theorem bt_markB (k n i : Nat) (h : i < n) : bt (markB k n) i = UInt8.ofNat (k + i) := by
  rw [bt_eq _ _ (by simpa using h)]
  simp [markB]
theorem Mem.rdB {w0 w : World} {L : List It} (M : Mem w0 w L) {b : Option Addr} {cap n p : Nat} {e : TypeId} {l : List UInt8} [hL : AtO L b cap n p e 1 (bL l)] : Rd w 1 (.slice b n cap) n (bL l) := M.rdO (bL_one l)
theorem Mem.rdB' {w0 w : World} {L : List It} (M : Mem w0 w L) {b : Option Addr} {cap p : Nat} {e : TypeId} {l : List UInt8} [hL : AtO L b cap l.length p e 1 (bL l)] : RdB w (.slice b l.length cap) l := Rd.rdb (M.rdO (bL_one l))

theorem toByteS_r (v : Value) (l : List UInt8) (w : World) (hv : RdB w v l) (hl : l.length ≤ 1048576) : Ret Try.prog 18 #[v] w fun r w' => OwnR w w' 5 1 r l.length (bL l) :=
  Calls.mono (toByteS_c v l w hv hl) fun e w' ⟨⟨g, he, hg, hb⟩, hu⟩ => ⟨_, he, ⟨_, _, rfl, own_back (xs := bL l) (tl := []) hg (by rw [List.append_nil]; exact hb) (by simp [bL]) (Nat.le_refl _) (by simp only [maxLen]; omega) (by simp [bL])⟩, hu⟩

theorem eqByteS_r (va vb : Value) (l : List UInt8) (w : World) (ha : RdB w va l) (hb : RdB w vb l) : Ret Try.prog 21 #[va, vb] w fun r _ => r = .bool true :=
  Ret.of (eqByteS_same va vb l w ha hb)

/-- n elements, of which the first k are new. -/
def midL (f g : Nat → Value) (k n : Nat) : List Value := (List.range n).map fun i => if i < k then f i else g i
theorem midL_len (f g : Nat → Value) (k n : Nat) : (midL f g k n).length = n := by simp [midL]
theorem midL_zero (f : Nat → Value) (xs : List Value) : midL f (fun i => xs.getD i undef) 0 xs.length = xs := by
  apply List.ext_getElem
  · simp [midL]
  · intro i h1 h2
    simp [midL, h2]
theorem midL_set (f g : Nat → Value) (k n : Nat) : (midL f g k n).set k (f k) = midL f g (k + 1) n := by
  apply List.ext_getElem?
  intro i
  simp only [midL, List.getElem?_set, List.length_map, List.length_range, List.getElem?_map]
  by_cases h : k = i
  · subst h
    by_cases hn : k < n
    · simp [hn]
    · simp [hn]
  · simp only [h, if_false]
    by_cases hn : i < n
    · simp only [List.getElem?_range, hn, Option.map_some]
      by_cases h2 : i < k
      · simp [h2, show i < k + 1 by omega]
      · simp [h2, show ¬ i < k + 1 by omega]
    · simp [hn]
theorem midL_full (f g : Nat → Value) (n : Nat) : midL f g n n = (List.range n).map f := by
  unfold midL
  apply List.map_congr_left
  intro i hi
  simp at hi
  simp [hi]
theorem midL_get (f g : Nat → Value) (k n i : Nat) (h : i < n) : (midL f g k n)[i]? = some (if i < k then f i else g i) := by simp [midL, h]

set_option maxHeartbeats 400000 in
set_option maxRecDepth 100000 in
theorem markByteS_c (b : Option Addr) (cap n k B : Nat) (xs : List Value) (w : World) (hk : k ≤ 1000000000000) (hn : n ≤ 1000000000000) (h : w.ownsRow B 5 1 (.slice b n cap) n xs) :
    Writes Try.prog 26 #[.slice b n cap, .int .i64 (k : Int)] w B 5 1 b cap n (bL (markB k n)) (.int .i64 ((k + n : Nat) : Int)) := by
  have hx1 := h.1
  rcases own_cases h with rfl | ⟨g, tl, rfl, hg, hnc, hcm, hlen, hblk⟩
  · have hx : xs = [] := List.eq_nil_of_length_eq_zero (by simpa using hx1)
    subst hx
    have H := Lib.hid h
    clear h hx1
    unfold Writes
    go_enter Try.func26, Try.ntmps26
    go_wp2_with fail
    go_loopg [1, 5] 0 (fun n x i wr => x = .int .i64 k ∧ i = .int .i64 0 ∧ wr = w)
    case atStart => exact ⟨rfl, rfl, rfl⟩
    case round =>
      obtain ⟨rfl, rfl, rfl⟩ := hrel
      go_wp2_with fail
      go_ret
      exact ⟨rfl, H.out, ⟨rfl, rfl, rfl, Nat.le_refl _, fun _ _ _ => rfl⟩⟩
  · have hxn : xs.length = n := by omega
    have HX := Lib.hid (And.intro hxn (And.intro hg (And.intro hnc (And.intro hcm hlen))))
    have h0 : Blk w g 5 (midL (fun i => bV (UInt8.ofNat (k + i))) (fun i => xs.getD i undef) 0 n ++ tl).toArray := by rw [← hxn, midL_zero]; exact hblk
    have H0 := Lib.hid h0
    clear h hx1 hblk hg hnc hcm hlen hxn h0
    unfold Writes
    go_enter Try.func26, Try.ntmps26
    go_wp2_with fail
    go_loopg [1, 5] n (fun m x i wr => ∃ j : Nat, j + m = n ∧ x = .int .i64 ((k + j : Nat) : Int) ∧ i = .int .i64 (j : Int) ∧ Blk wr g 5 (midL (fun i => bV (UInt8.ofNat (k + i))) (fun i => xs.getD i undef) j n ++ tl).toArray ∧ w.grownBy wr (some g))
    case atStart => exact ⟨0, by omega, rfl, rfl, H0.out, ⟨rfl, rfl, rfl, Nat.le_refl _, fun _ _ _ => rfl⟩⟩
    case round =>
      obtain ⟨j, hj, rfl, rfl, b0, hgr⟩ := hrel
      by_cases hlt : j < n
      · have c0 := b0.cell_ (i := j) (by rw [List.getElem?_toArray, List.getElem?_append_left (by rw [midL_len]; exact hlt)]; exact midL_get _ _ _ _ _ hlt)
        rw [if_neg (by omega)] at c0
        have f0 := b0.free j
        have HB := Lib.hid (And.intro b0 hgr)
        have HJ := Lib.hid hj
        clear b0 hgr hj
        go_wp2_with fail
        obtain ⟨b0, hgr⟩ := HB.out
        have hj := HJ.out
        go_roundg (gk - 1)
        case measure => omega
        case rel =>
          refine ⟨j + 1, by omega, by go_num, by go_num, ?_, grown_trans hgr (grown_set g j _)⟩
          have := b0.set_ j (bV (UInt8.ofNat (k + j)))
          rw [List.setIfInBounds_toArray, List.set_append_left _ _ (by rw [midL_len]; exact hlt), midL_set] at this
          simp only [bV] at this ⊢
          rw [u8_mod (k + j), Int.natCast_add] at this
          exact this
      · obtain rfl : j = n := by omega
        rw [midL_full] at b0
        have HB := Lib.hid (And.intro b0 hgr)
        clear b0 hgr hj
        go_wp2_with fail
        go_ret
        obtain ⟨hxn, hg, hnc, hcm, hlen⟩ := HX.out
        refine ⟨rfl, own_back (xs := bL (markB k j)) (tl := tl) hg ?_ (by simp [bL]) hnc hcm (by simp [bL]; simp at hlen; omega), HB.out.2⟩
        have e : bL (markB k j) = (List.range j).map fun i => bV (UInt8.ofNat (k + i)) := by simp [bL, markB]
        rw [e]
        exact HB.out.1

set_option maxHeartbeats 400000 in
set_option maxRecDepth 100000 in
theorem heldByteS_c (v : Value) (n k : Nat) (w : World) (hk : k ≤ 1000000000000) (hn : n ≤ 1000000000000) (h : Rd w 1 v n (bL (markB k n))) :
    Ret Try.prog 27 #[v, .int .i64 (k : Int)] w fun r _ => r = .int .i64 ((k + n : Nat) : Int) := by
  obtain ⟨b, cap, rfl⟩ := h.shape
  have hm := h.len_
  have H := Lib.hid h
  clear h
  refine ret_start fun wx M => ?_
  clear hm
  go_enter Try.func27, Try.ntmps27
  go_wp2_with fail
  go_loopg [1, 5] n (fun m x i wr => ∃ j : Nat, j + m = n ∧ x = .int .i64 ((k + j : Nat) : Int) ∧ i = .int .i64 (j : Int) ∧ Mem w wr [])
  case atStart => exact ⟨0, by omega, rfl, rfl, M⟩
  case round =>
    obtain ⟨j, hj, rfl, rfl, M⟩ := hrel
    by_cases hlt : j < n
    · have hb0 : 0 < n := by omega
      obtain ⟨g, o, rfl, hr⟩ := H.out.open_ hb0
      have C1 := Lib.hid (fun wx (hb : Up w wx) => hr wx hb _ _ (bL_get (markB k n) j (by simpa using hlt)))
      have HE : ((bt (markB k n) j).toNat : Int) = ((k : Int) + (j : Int)) % 256 := by rw [bt_markB k n j hlt, u8_mod, Int.natCast_add]
      have HE := Lib.hid HE
      have HJ := Lib.hid hj
      clear hr hb0 hj
      go_wp2_with (first
        | (with_reducible (show wpList _ _ _ (Oper.mk _ (.load _ _) _ _ _ _ :: _) _ _); (first | (refine wpList_load_one rfl rfl rfl (C1.out _ M.up) ?_; rw [HE.out]) | (refine m_load M rfl rfl rfl (by first | assumption | rfl) ?_) | (refine m_loadR M rfl rfl rfl (by first | rfl | assumption | (simp; done) | (simp; omega)) ?_))))
      have hj := HJ.out
      go_roundg (gk - 1)
      case measure => omega
      case rel => exact ⟨j + 1, by omega, by go_num, by go_num, M⟩
    · obtain rfl : j = n := by omega
      clear hj
      go_wp2_with fail
      go_ret
      exact ⟨_, rfl, rfl, M.up⟩

theorem markByteS_1 (b : Option Addr) (cap n B : Nat) (xs : List Value) (w : World) (hn : n ≤ 1000000000000) (h : w.ownsRow B 5 1 (.slice b n cap) n xs) :
    Writes Try.prog 26 #[.slice b n cap, .int .i64 1] w B 5 1 b cap n (bL (markB 1 n)) (.int .i64 (1 + (n : Int))) := by
  have := markByteS_c b cap n 1 B xs w (by decide) hn h
  rw [Int.natCast_add] at this
  exact this
theorem heldByteS_1 (v : Value) (n : Nat) (w : World) (hn : n ≤ 1000000000000) (h : Rd w 1 v n (bL (markB 1 n))) :
    Ret Try.prog 27 #[v, .int .i64 1] w fun r _ => r = .int .i64 (1 + (n : Int)) := by
  have := heldByteS_c v n 1 w (by decide) hn h
  rw [Int.natCast_add] at this
  exact this

/-- The bytes of a number, the lowest first. -/
def leB (n k : Nat) : List UInt8 := (List.range k).map fun i => UInt8.ofNat (n / 256 ^ i)
@[simp] theorem leB_len (n k : Nat) : (leB n k).length = k := by simp [leB]
theorem leB_succ (n k : Nat) : leB n k ++ [UInt8.ofNat (n / 256 ^ k)] = leB n (k + 1) := by simp [leB, List.range_succ]
/-- How many zeros fill up. -/
def padZ (n : Nat) : Nat := (55 - n % 32) % 32
/-- What is laid behind n bytes, of c in all. -/
def padB (n c : Nat) : List UInt8 := 128 :: (List.replicate (padZ n) 0 ++ leB c 8)
theorem padB_len (n c : Nat) : (padB n c).length = 1 + padZ n + 8 := by simp [padB]; omega
theorem padZ_lt (n : Nat) : padZ n < 32 := by unfold padZ; omega
/-- Bytes and what is laid behind them. -/
def padded (l : List UInt8) (c : Nat) : List UInt8 := l ++ padB l.length c
theorem padded_len (l : List UInt8) (c : Nat) : (padded l c).length = l.length + 1 + padZ l.length + 8 := by rw [padded, List.length_append, padB_len]; omega
theorem padded_mod (l : List UInt8) (c : Nat) : (padded l c).length = 32 * ((padded l c).length / 32) := by rw [padded_len]; unfold padZ; omega
theorem bL_snoc (l : List UInt8) (b : UInt8) : bL l ++ #[Value.int .u8 (b.toNat : Int)].toList = bL (l ++ [b]) := by simp [bL, bV]
theorem rep_snoc (l : List UInt8) (n : Nat) : l ++ List.replicate n 0 ++ [0] = l ++ List.replicate (n + 1) 0 := by rw [List.append_assoc, ← List.replicate_succ']

set_option maxHeartbeats 800000 in
set_option maxRecDepth 100000 in
theorem growByte_c (n : Nat) (w : World) (hn : n ≤ 1000000000000) : Ret Try.prog 54 #[.slice none 0 0, .int .i64 (n : Int)] w fun r w' => OwnR w w' 5 1 r 0 [] := by
  refine ret_start fun wx M => ?_
  rcases Nat.eq_zero_or_pos n with rfl | h0
  · go_enter Try.func54, Try.ntmps54
    go_wp2_with fail
    go_ret
    exact ⟨_, rfl, ⟨_, _, rfl, (M.nil_own 5 1).out_own (p := 0) rfl⟩, M.up⟩
  · have h00 : ((n : Int) > 0) = True := by simp; omega
    go_enter Try.func54, Try.ntmps54
    go_wp2_with (first
      | (with_reducible (show wpList _ _ _ (Oper.mk _ (.call (Call.mk (.builtin .append) _ _)) _ _ _ _ :: _) _ _); refine m_growNil M rfl rfl Try.underlying3 rfl rfl h0 (by simp only [maxLen]; omega) (by omega) ?_; clear M; (try clear wx); intro g22 cap22 xs22 wx hcap M)
      | (with_reducible (show wpList _ _ _ (Oper.mk (some 25) (.slice _ _ _ _ _) _ _ _ _ :: _) _ _); refine m_sliceHi rfl rfl rfl (.inr ⟨_, rfl⟩) (h := 0) rfl (Nat.zero_le _) ?_))
    go_ret
    refine ⟨_, rfl, ⟨_, _, rfl, ?_⟩, M.up⟩
    have M' := M.own_less (p := 0) rfl 0 (Nat.zero_le _)
    simpa using M'.out_own (p := 0) rfl

/-- A piece of a list. -/
def cutL (l : List UInt8) (o n : Nat) : List UInt8 := (l.drop o).take n
theorem cutL_len (l : List UInt8) (o n : Nat) (h : o + n ≤ l.length) : (cutL l o n).length = n := by simp [cutL]; omega
theorem cutL_bt (l : List UInt8) (o n i : Nat) (h : i < n) : bt (cutL l o n) i = bt l (o + i) := by
  simp only [bt, cutL, List.getD, List.getElem?_take, List.getElem?_drop, if_pos h]

end Go.Proofs.Ytcldkllllojgpaa

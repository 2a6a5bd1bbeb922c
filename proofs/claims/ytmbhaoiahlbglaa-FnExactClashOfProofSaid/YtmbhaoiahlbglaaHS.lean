/- Walks: which nodes above a leaf have it in their right parts. -/
import Derived.Test.YtmbhaoiahlbglaaHM
import Derived.Shelf.RegionOpenPlain
namespace Go.Proofs.Ytmbhaoiahlbglaa
open Go.RowKit
set_option linter.unusedVariables false
set_option linter.unusedSimpArgs false

set_option maxHeartbeats 400000 in
set_option maxRecDepth 100000 in
theorem within_c (x lo hi : Int) (w : World) : Ret Try.prog 65 #[.int .i64 x, .int .i64 lo, .int .i64 hi] w fun r _ => r = .bool (decide (lo ≤ x) && decide (x ≤ hi)) := by
  refine ret_start fun wx M => ?_
  by_cases h1 : lo ≤ x
  · go_enter Try.func65, Try.ntmps65
    go_wp2_with fail
    go_ret
    exact ⟨_, rfl, by first | (simp [h1]; done) | (simp [h1]; intro; omega), M.up⟩
  · go_enter Try.func65, Try.ntmps65
    go_wp2_with fail
    go_ret
    exact ⟨_, rfl, by first | (simp [h1]; done) | (simp [h1]; intro; omega), M.up⟩

set_option maxHeartbeats 400000 in
set_option maxRecDepth 100000 in
theorem l00In_c (x lo hi : Int) (w : World) : Ret Try.prog 62 #[.int .i64 x, .int .i64 lo, .int .i64 hi] w fun r _ => r = .bool (decide (lo ≤ x) && decide (x ≤ hi)) := by
  refine ret_start fun wx M => ?_
  by_cases h1 : lo ≤ x
  · go_enter Try.func62, Try.ntmps62
    go_wp2_with fail
    go_ret
    exact ⟨_, rfl, by first | (simp [h1]; done) | (simp [h1]; intro; omega), M.up⟩
  · go_enter Try.func62, Try.ntmps62
    go_wp2_with fail
    go_ret
    exact ⟨_, rfl, by first | (simp [h1]; done) | (simp [h1]; intro; omega), M.up⟩

/-- From the root down: which nodes above leaf i of n have it in their right parts. -/
def sideR (n i : Nat) : List Bool :=
  if h : n ≤ 1 then [] else if halfN n ≤ i then true :: sideR (n - halfN n) (i - halfN n) else false :: sideR (halfN n) i
termination_by n
decreasing_by
  · have := halfN_pos n; omega
  · exact halfN_lt n (by omega)
theorem sideR_one (i : Nat) : sideR 1 i = [] := by rw [sideR]; rfl
theorem sideR_lt (n i : Nat) (h : 2 ≤ n) (hi : i < halfN n) : sideR n i = false :: sideR (halfN n) i := by rw [sideR, dif_neg (by omega), if_neg (by omega)]
theorem sideR_ge (n i : Nat) (h : 2 ≤ n) (hi : halfN n ≤ i) : sideR n i = true :: sideR (n - halfN n) (i - halfN n) := by rw [sideR, dif_neg (by omega), if_pos hi]
theorem sideR_len (n : Nat) : ∀ i, 1 ≤ n → (sideR n i).length < n := by
  induction n using Nat.strongRecOn with
  | ind n ih =>
  intro i h1
  have h2 := halfN_pos n
  by_cases h : n = 1
  · subst h; rw [sideR_one]; exact Nat.one_pos
  · have h3 := halfN_lt n (by omega)
    by_cases hi : i < halfN n
    · rw [sideR_lt n i (by omega) hi, List.length_cons]
      have := ih _ h3 i h2
      omega
    · rw [sideR_ge n i (by omega) (by omega), List.length_cons]
      have := ih (n - halfN n) (by omega) (i - halfN n) (by omega)
      omega

set_option maxHeartbeats 1000000 in
set_option maxRecDepth 100000 in
theorem l03Depth_c (n : Nat) : ∀ (i : Nat), 1 ≤ n → n ≤ 256 → i ≤ 256 → ∀ w, Ret Try.prog 69 #[.int .i64 (n : Int), .int .i64 (i : Int)] w fun r _ => r = .int .i64 ((sideR n i).length : Int) := by
  induction n using Nat.strongRecOn with
  | ind n ih =>
  intro i h1 hn hi w
  have IH := Lib.hid ih
  clear ih
  refine ret_start fun wx M => ?_
  by_cases hn1 : n = 1
  · subst hn1
    rw [sideR_one]
    go_enter Try.func69, Try.ntmps69
    go_wp2_with fail
    go_ret
    exact ⟨_, rfl, rfl, M.up⟩
  · have h2 : 2 ≤ n := by omega
    have hm1 := halfN_lt n h2
    have hm2 := halfN_pos n
    have HH := Lib.hid (l03Half_c n (by omega))
    by_cases hlt : i < halfN n
    · have HE := Lib.hid (show (sideR n i).length = (sideR (halfN n) i).length + 1 by rw [sideR_lt n i h2 hlt]; rfl)
      have HA := Lib.hid (IH.out (halfN n) hm1 i hm2 (by omega) hi)
      have hl := sideR_len (halfN n) i hm2
      generalize (sideR (halfN n) i).length = d at *
      generalize halfN n = m at *
      go_enter Try.func69, Try.ntmps69
      go_wp2_with (first
        | (go_at_call 103; (with_reducible refine mem_call M (HH.out _) ?_); clear M; (try clear wx); rintro _ wx rfl _ M)
        | (go_at_call 69; (with_reducible refine mem_call M (HA.out _) ?_); clear M; (try clear wx); rintro _ wx rfl _ M))
      go_ret
      exact ⟨_, rfl, by rw [HE.out]; go_num, M.up⟩
    · have HE := Lib.hid (show (sideR n i).length = (sideR (n - halfN n) (i - halfN n)).length + 1 by rw [sideR_ge n i h2 (by omega)]; rfl)
      have HA := Lib.hid (IH.out (n - halfN n) (by omega) (i - halfN n) (by omega) (by omega) (by omega))
      rw [Int.natCast_sub (by omega), Int.natCast_sub (by omega)] at HA
      have hl := sideR_len (n - halfN n) (i - halfN n) (by omega)
      generalize (sideR (n - halfN n) (i - halfN n)).length = d at *
      generalize halfN n = m at *
      go_enter Try.func69, Try.ntmps69
      go_wp2_with (first
        | (go_at_call 103; (with_reducible refine mem_call M (HH.out _) ?_); clear M; (try clear wx); rintro _ wx rfl _ M)
        | (go_at_call 69; (with_reducible refine mem_call M (HA.out _) ?_); clear M; (try clear wx); rintro _ wx rfl _ M))
      go_ret
      exact ⟨_, rfl, by rw [HE.out]; go_num, M.up⟩

def boL (l : List Bool) : List Value := l.map Value.bool
@[simp] theorem boL_length (l : List Bool) : (boL l).length = l.length := by simp [boL]
theorem boL_one (l : List Bool) : ∀ u ∈ boL l, u.oneCell' = true := by
  intro u hu
  obtain ⟨b, _, rfl⟩ := List.mem_map.1 hu
  rfl
theorem boL_snoc (l : List Bool) (b : Bool) : boL l ++ [.bool b] = boL (l ++ [b]) := by simp [boL]
/-- Half turned round. -/
def rvL (bs : List Bool) (k : Nat) : List Bool := (List.range bs.length).map fun i => if i < k ∨ bs.length ≤ i + k then bs.getD (bs.length - 1 - i) false else bs.getD i false
@[simp] theorem rvL_len (bs : List Bool) (k : Nat) : (rvL bs k).length = bs.length := by simp [rvL]
theorem rvL_get (bs : List Bool) (k i : Nat) (h : i < bs.length) : (rvL bs k)[i]? = some (if i < k ∨ bs.length ≤ i + k then bs.getD (bs.length - 1 - i) false else bs.getD i false) := by simp [rvL, h]
theorem rvL_zero (bs : List Bool) : rvL bs 0 = bs := by
  apply List.ext_getElem?
  intro i
  by_cases h : i < bs.length
  · rw [rvL_get bs 0 i h, if_neg (by omega)]
    simp [h]
  · rw [List.getElem?_eq_none (by simp; omega), List.getElem?_eq_none (by omega)]
theorem rvL_end (bs : List Bool) (k : Nat) (h : bs.length ≤ 2 * k + 1) : rvL bs k = bs.reverse := by
  apply List.ext_getElem?
  intro i
  by_cases hi : i < bs.length
  · rw [rvL_get bs k i hi, List.getElem?_reverse hi]
    by_cases c : i < k ∨ bs.length ≤ i + k
    · rw [if_pos c]
      simp [show bs.length - 1 - i < bs.length by omega]
    · rw [if_neg c, show bs.length - 1 - i = i by omega]
      simp [hi]
  · rw [List.getElem?_eq_none (by simp; omega), List.getElem?_eq_none (by simp; omega)]
theorem rvL_set (bs : List Bool) (k : Nat) (h : 2 * k + 1 < bs.length) : ((rvL bs k).set k (bs.getD (bs.length - 1 - k) false)).set (bs.length - 1 - k) (bs.getD k false) = rvL bs (k + 1) := by
  apply List.ext_getElem?
  intro i
  by_cases hi : i < bs.length
  · rw [rvL_get bs (k + 1) i hi]
    by_cases c1 : i = bs.length - 1 - k
    · subst c1
      rw [List.getElem?_set_self (by simp; omega), if_pos (by omega), show bs.length - 1 - (bs.length - 1 - k) = k by omega]
    · rw [List.getElem?_set_ne (by omega)]
      by_cases c2 : i = k
      · subst c2
        rw [List.getElem?_set_self (by simp; omega), if_pos (by omega)]
      · rw [List.getElem?_set_ne (by omega), rvL_get bs k i hi]
        by_cases c : i < k ∨ bs.length ≤ i + k
        · rw [if_pos c, if_pos (by omega)]
        · rw [if_neg c, if_neg (by omega)]
  · rw [List.getElem?_eq_none (by simp; omega), List.getElem?_eq_none (by simp; omega)]
theorem boL_set (l : List Bool) (k : Nat) (b : Bool) (tl : List Value) (h : k < l.length) : ((boL l ++ tl).toArray).setIfInBounds k (.bool b) = (boL (l.set k b) ++ tl).toArray := by
  rw [List.setIfInBounds_toArray, List.set_append_left _ _ (by simpa using h)]
  simp [boL, List.map_set]

set_option maxHeartbeats 1000000 in
set_option maxRecDepth 100000 in
theorem reverse_c (b : Option Addr) (cap n : Nat) (bs : List Bool) (hbs : bs.length = n) (w0 w : World) (L : List It) (M : Mem w0 w (.own b cap 4 1 n (boL bs) :: L)) :
    Calls Try.prog 114 #[.slice b n cap] w fun e w' => e = .returned (.tuple #[]) ∧ Mem w0 w' (.own b cap 4 1 n (boL bs.reverse) :: L) := by
  by_cases h0 : n = 0
  · subst h0
    obtain rfl := List.eq_nil_of_length_eq_zero hbs
    go_enter Try.func114, Try.ntmps114
    go_wp2_with fail
    go_loopg [2, 3] 0 (fun q x y wr => x = .int .i64 0 ∧ y = .int .i64 (-1) ∧ Mem w0 wr (.own b cap 4 1 0 (boL []) :: L))
    case atStart => exact ⟨rfl, rfl, M⟩
    case round =>
      obtain ⟨rfl, rfl, M⟩ := hrel
      go_wp2_with fail
      go_end0
      exact ⟨rfl, M⟩
  · obtain ⟨g, tl, rfl, hnc, hcm, hlen, M⟩ := M.own_blk (p := 0) rfl (by omega)
    rw [List.set_cons_zero] at M
    have HX := Lib.hid (And.intro hbs (And.intro hnc (And.intro hcm hlen)))
    have hmm : n ≤ 9223372036854775807 := by have : maxLen ≤ 9223372036854775807 := by decide
                                             omega
    rw [← rvL_zero bs] at M
    clear hnc hcm hlen hbs
    go_enter Try.func114, Try.ntmps114
    go_wp2_with fail
    go_loopg [2, 3] n (fun q x y wr => ∃ (k : Nat), k + q = n ∧ x = .int .i64 (k : Int) ∧ y = .int .i64 ((n : Int) - 1 - (k : Int)) ∧ k ≤ n ∧ Mem w0 wr (.blk g 4 (boL (rvL bs k) ++ tl).toArray :: L))
    case atStart => exact ⟨0, by omega, rfl, by simp, by omega, M⟩
    case round =>
      obtain ⟨k, hk, rfl, rfl, hkn, M⟩ := hrel
      by_cases hlt : 2 * k + 1 < n
      · have HK := Lib.hid hk
        clear hk
        have hbs := HX.out.1
        have M1 := M.grow ((Up.refl _).drew)
        have c0 := M.cellG (g := g) (i := k) (v := .bool (bs.getD k false)) (by rw [List.getElem?_toArray, List.getElem?_append_left (by simp; omega), boL, List.getElem?_map, rvL_get bs k k (by omega), if_neg (by omega)]; rfl)
        have c1 := M.cellG (g := g) (i := n - 1 - k) (v := .bool (bs.getD (n - 1 - k) false)) (by rw [List.getElem?_toArray, List.getElem?_append_left (by simp; omega), boL, List.getElem?_map, rvL_get bs k (n - 1 - k) (by omega), if_neg (by omega)]; rfl)
        have f0 := M.freeG g k
        have f1 := M.freeG g (n - 1 - k)
        obtain ⟨j, hj⟩ : ∃ j, j = n - 1 - k := ⟨_, rfl⟩
        rw [← hj] at c1 f1
        rw [show (n : Int) - 1 - (k : Int) = (j : Int) by omega]
        have HM := Lib.hid (And.intro M (And.intro hj hbs))
        have hjn : j < n := by omega
        have hkj : k < j := by omega
        clear M M1 hj hbs
        go_wp2_with fail
        go_region
        obtain ⟨M, hj, hbs⟩ := HM.out
        have M := M.setG g k (.bool (bs[j]?.getD false))
        rw [List.set_cons_zero] at M
        have M := (M.setG g j (.bool (bs[k]?.getD false))).grow ((Up.refl _).drew)
        rw [List.set_cons_zero, boL_set _ _ _ _ (by simp; omega), boL_set _ _ _ _ (by simp; omega)] at M
        have hset := rvL_set bs k (by omega)
        rw [← hbs] at hj
        rw [← hj, List.getD_eq_getElem?_getD, List.getD_eq_getElem?_getD] at hset
        rw [hset] at M
        have HM := Lib.hid (And.intro hj hbs)
        clear hj hbs hset
        go_wp2_with fail
        obtain ⟨hj, hbs⟩ := HM.out
        have hk := HK.out
        go_roundg (gk - 1)
        case measure => omega
        case rel => exact ⟨k + 1, by omega, by go_num, by (try simp only [Value.int.injEq, true_and]); omega, by omega, M⟩
      · clear hk
        go_wp2_with fail
        go_end0
        obtain ⟨hbs, hnc, hcm, hlen⟩ := HX.out
        rw [rvL_end bs k (by omega)] at M
        have M := M.blk_own (p := 0) rfl 1 n cap hnc hcm (by simp at hlen ⊢; omega) (xs := boL bs.reverse) (by show List.take _ (boL bs.reverse ++ tl) = _; exact List.take_left' (by simp [hbs]))
        exact ⟨rfl, M⟩

set_option maxHeartbeats 1000000 in
set_option maxRecDepth 100000 in
theorem sides_c (n i : Nat) (h1 : 1 ≤ n) (hn : n ≤ 256) (hi : i < n) (w : World) : Ret Try.prog 74 #[.int .i64 (n : Int), .int .i64 (i : Int)] w fun r w' => OwnR w w' 4 1 r (sideR n i).length (boL (sideR n i).reverse) := by
  have HS := Lib.hid (And.intro hi hn)
  have hlen := sideR_len n i h1
  obtain ⟨S, hS⟩ : ∃ S, S = sideR n i := ⟨_, rfl⟩
  rw [← hS] at hlen ⊢
  have HSS := Lib.hid hS
  clear hS
  refine ret_start fun wx M => ?_
  go_enter Try.func74, Try.ntmps74
  go_wp2_with (first
    | (with_reducible (show wpList _ _ _ (Oper.mk (some 8) (.buildSlice _ _ _) _ _ _ _ :: _) _ _); refine m_lit0 M rfl rfl ?_; clear M; (try clear wx); intro g8 wx M)
    | (with_reducible (show wpList _ _ _ (Oper.mk (some 26) (.buildSlice _ _ _) _ _ _ _ :: _) _ _); (first | (refine m_lit1A M rfl rfl rfl (by first | rfl | assumption | (simp; done) | (simp; omega)) (by decide) ?_) | (refine m_lit11 (v := Value.int _ _) M rfl rfl rfl rfl ?_) | (refine m_lit11 (v := Value.slice _ _ _) M rfl rfl rfl rfl ?_) | (refine m_lit11 (v := Value.bool _) M rfl rfl rfl rfl ?_) | (refine m_lit11 (v := Value.string _) M rfl rfl rfl rfl ?_) | (refine m_lit11 (v := Value.pointer _) M rfl rfl rfl rfl ?_)); clear M; (try clear wx); intro g26 wx M)
    | (with_reducible (show wpList _ _ _ (Oper.mk _ (.call (Call.mk (.builtin .append) _ _)) _ _ _ _ :: _) _ _); (first | (refine m_append1 M rfl rfl rfl (by first | rfl | omega | (simp; done)) rfl (by first | rfl | assumption | (simp; done) | (simp; omega)) (by first | exact bA_one _ | exact wA_one _ | assumption | (simp [Value.oneCell']; done)) (by first | assumption | (simp only [maxLen]; omega)) (by omega) ?_)); clear M; (try clear wx); intro _ _ wx M; simp only [List.set_cons_zero, List.set_cons_succ, Nat.zero_add, List.nil_append] at M))
  go_loopg [0, 1, 5] n (fun q x y z wr => ∃ (n' i' k : Nat) (b : Option Addr) (cap : Nat) (bs : List Bool), q = n' ∧ x = .int .i64 (n' : Int) ∧ y = .int .i64 (i' : Int) ∧ z = .slice b k cap ∧ 1 ≤ n' ∧ n' ≤ 256 ∧ i' < n' ∧ k ≤ 256 ∧ Hid (bs.length = k ∧ bs ++ sideR n' i' = S) ∧ Mem w wr [.own b cap 4 1 k (boL bs)])
  case atStart => exact ⟨n, i, 0, _, _, [], rfl, rfl, rfl, rfl, h1, hn, hi, by omega, Lib.hid ⟨rfl, HSS.out.symm⟩, M⟩
  case round =>
    obtain ⟨n', i', k, b, cap, bs, hq, rfl, rfl, rfl, h1', hn', hi', hk, HB, M⟩ := hrel
    have hkS : k < 256 := by
      have e := congrArg List.length HB.out.2
      rw [List.length_append, HB.out.1] at e
      omega
    have HQ := Lib.hid hq
    clear hq
    by_cases hlt : 2 ≤ n'
    · have hm1 := halfN_lt n' hlt
      have hm2 := halfN_pos n'
      have HH := Lib.hid (leftOf_c n' hlt (by omega))
      by_cases hil : i' < halfN n'
      · have HE := Lib.hid (sideR_lt n' i' hlt hil)
        generalize hm : halfN n' = m at *
        clear hm
        go_wp2_with (first
          | (go_at_call 106; (with_reducible refine mem_call M (HH.out _) ?_); clear M; (try clear wx); rintro _ wx rfl _ M)
          | (with_reducible (show wpList _ _ _ (Oper.mk (some 8) (.buildSlice _ _ _) _ _ _ _ :: _) _ _); refine m_lit0 M rfl rfl ?_; clear M; (try clear wx); intro g8 wx M)
          | (with_reducible (show wpList _ _ _ (Oper.mk (some 26) (.buildSlice _ _ _) _ _ _ _ :: _) _ _); (first | (refine m_lit1A M rfl rfl rfl (by first | rfl | assumption | (simp; done) | (simp; omega)) (by decide) ?_) | (refine m_lit11 (v := Value.int _ _) M rfl rfl rfl rfl ?_) | (refine m_lit11 (v := Value.slice _ _ _) M rfl rfl rfl rfl ?_) | (refine m_lit11 (v := Value.bool _) M rfl rfl rfl rfl ?_) | (refine m_lit11 (v := Value.string _) M rfl rfl rfl rfl ?_) | (refine m_lit11 (v := Value.pointer _) M rfl rfl rfl rfl ?_)); clear M; (try clear wx); intro g26 wx M)
          | (with_reducible (show wpList _ _ _ (Oper.mk _ (.call (Call.mk (.builtin .append) _ _)) _ _ _ _ :: _) _ _); (first | (refine m_append1 M rfl rfl rfl (by first | rfl | omega | (simp; done)) rfl (by first | rfl | assumption | (simp; done) | (simp; omega)) (by first | exact bA_one _ | exact wA_one _ | assumption | (simp [Value.oneCell']; done)) (by first | assumption | (simp only [maxLen]; omega)) (by omega) ?_)); clear M; (try clear wx); intro _ _ wx M; simp only [List.set_cons_zero, List.set_cons_succ, Nat.zero_add, List.nil_append] at M))
        have hq := HQ.out
        go_roundg m
        case measure => omega
        case rel => exact ⟨m, i', k + 1, _, _, bs ++ [false], rfl, rfl, rfl, rfl, by omega, by omega, hil, by omega, Lib.hid ⟨by rw [List.length_append, HB.out.1]; rfl, by rw [List.append_assoc]; rw [HE.out] at HB; exact HB.out.2⟩, by rw [show decide (m ≤ i') = false by simp; omega] at M; rw [← boL_snoc]; exact M⟩
      · have HE := Lib.hid (sideR_ge n' i' hlt (by omega))
        generalize hm : halfN n' = m at *
        clear hm
        go_wp2_with (first
          | (go_at_call 106; (with_reducible refine mem_call M (HH.out _) ?_); clear M; (try clear wx); rintro _ wx rfl _ M)
          | (with_reducible (show wpList _ _ _ (Oper.mk (some 8) (.buildSlice _ _ _) _ _ _ _ :: _) _ _); refine m_lit0 M rfl rfl ?_; clear M; (try clear wx); intro g8 wx M)
          | (with_reducible (show wpList _ _ _ (Oper.mk (some 26) (.buildSlice _ _ _) _ _ _ _ :: _) _ _); (first | (refine m_lit1A M rfl rfl rfl (by first | rfl | assumption | (simp; done) | (simp; omega)) (by decide) ?_) | (refine m_lit11 (v := Value.int _ _) M rfl rfl rfl rfl ?_) | (refine m_lit11 (v := Value.slice _ _ _) M rfl rfl rfl rfl ?_) | (refine m_lit11 (v := Value.bool _) M rfl rfl rfl rfl ?_) | (refine m_lit11 (v := Value.string _) M rfl rfl rfl rfl ?_) | (refine m_lit11 (v := Value.pointer _) M rfl rfl rfl rfl ?_)); clear M; (try clear wx); intro g26 wx M)
          | (with_reducible (show wpList _ _ _ (Oper.mk _ (.call (Call.mk (.builtin .append) _ _)) _ _ _ _ :: _) _ _); (first | (refine m_append1 M rfl rfl rfl (by first | rfl | omega | (simp; done)) rfl (by first | rfl | assumption | (simp; done) | (simp; omega)) (by first | exact bA_one _ | exact wA_one _ | assumption | (simp [Value.oneCell']; done)) (by first | assumption | (simp only [maxLen]; omega)) (by omega) ?_)); clear M; (try clear wx); intro _ _ wx M; simp only [List.set_cons_zero, List.set_cons_succ, Nat.zero_add, List.nil_append] at M))
        have hq := HQ.out
        go_roundg (n' - m)
        case measure => omega
        case rel => exact ⟨n' - m, i' - m, k + 1, _, _, bs ++ [true], rfl, by go_num, by go_num, rfl, by omega, by omega, by omega, by omega, Lib.hid ⟨by rw [List.length_append, HB.out.1]; rfl, by rw [List.append_assoc]; rw [HE.out] at HB; exact HB.out.2⟩, by rw [show decide (m ≤ i') = true by simp; omega] at M; rw [← boL_snoc]; exact M⟩
    · obtain rfl : n' = 1 := by omega
      obtain ⟨hb1, hb2⟩ := HB.out
      rw [sideR_one, List.append_nil] at hb2
      subst hb2
      have HB := Lib.hid hb1
      clear hb1
      go_wp2_with (first
        | (go_at_call 114; refine Calls.mono (reverse_c b cap k bs HB.out _ _ _ M) ?_; clear M; rintro _ wx ⟨rfl, M⟩)
        | (with_reducible (show wpList _ _ _ (Oper.mk (some 8) (.buildSlice _ _ _) _ _ _ _ :: _) _ _); refine m_lit0 M rfl rfl ?_; clear M; (try clear wx); intro g8 wx M)
        | (with_reducible (show wpList _ _ _ (Oper.mk (some 26) (.buildSlice _ _ _) _ _ _ _ :: _) _ _); (first | (refine m_lit1A M rfl rfl rfl (by first | rfl | assumption | (simp; done) | (simp; omega)) (by decide) ?_) | (refine m_lit11 (v := Value.int _ _) M rfl rfl rfl rfl ?_) | (refine m_lit11 (v := Value.slice _ _ _) M rfl rfl rfl rfl ?_) | (refine m_lit11 (v := Value.bool _) M rfl rfl rfl rfl ?_) | (refine m_lit11 (v := Value.string _) M rfl rfl rfl rfl ?_) | (refine m_lit11 (v := Value.pointer _) M rfl rfl rfl rfl ?_)); clear M; (try clear wx); intro g26 wx M)
        | (with_reducible (show wpList _ _ _ (Oper.mk _ (.call (Call.mk (.builtin .append) _ _)) _ _ _ _ :: _) _ _); (first | (refine m_append1 M rfl rfl rfl (by first | rfl | omega | (simp; done)) rfl (by first | rfl | assumption | (simp; done) | (simp; omega)) (by first | exact bA_one _ | exact wA_one _ | assumption | (simp [Value.oneCell']; done)) (by first | assumption | (simp only [maxLen]; omega)) (by omega) ?_)); clear M; (try clear wx); intro _ _ wx M; simp only [List.set_cons_zero, List.set_cons_succ, Nat.zero_add, List.nil_append] at M))
      go_ret
      refine ⟨_, rfl, ?_, M.up⟩
      rw [HB.out]
      exact ⟨_, _, rfl, M.out_own (p := 0) rfl⟩

end Go.Proofs.Ytmbhaoiahlbglaa

/- Walks: slices.IndexFunc and slices.DeleteFunc of keys that do not begin with given digits. -/
import Derived.Test.YtmbhaoiahlbglaaHDg
namespace Go.Proofs.Ytmbhaoiahlbglaa
open Go.RowKit
set_option linter.unusedVariables false
set_option linter.unusedSimpArgs false

/-- The first place where p holds, or -1. -/
def fiK (p : Ky → Bool) (ks : List Ky) : Int := if ks.findIdx p < ks.length then (ks.findIdx p : Int) else -1
set_option maxHeartbeats 2000000 in
set_option maxRecDepth 100000 in
theorem indexFunc_c (g0 : Nat) (s : ByteArray) (v : Value) (n : Nat) (ks : List Ky) (hks : ks.length = n) (w : World) (hv : Rd w 32 v n (kyL ks)) (hp : Blk w g0 9 #[.string s]) :
    Ret Try.prog 143 #[v, .func (.func 119) #[] #[.pointer (some ⟨g0, 0, none⟩)]] w fun r _ => r = .int .i64 (fiK (fun k => !(pk s.data.toList k)) ks) := by
  obtain ⟨b, cap, rfl⟩ := hv.shape
  have hml : n ≤ maxLen := by have := hv.len_; omega
  have hmm : maxLen ≤ 9223372036854775807 := by decide
  have hml' : n ≤ 9223372036854775807 := by omega
  have HV := Lib.hid hv
  have HK := Lib.hid hks
  have HP := Lib.hid (fun wx (h : Up w wx) => hp.up h)
  refine ret_start fun wx M => ?_
  clear hv hks hp hmm
  go_enter Try.func143, Try.ntmps143
  go_wp2_with (first
    | (with_reducible (show wpList _ _ _ (Oper.mk _ (.load _ _) _ _ _ _ :: _) _ _); (first | (refine m_load M rfl rfl rfl (by first | assumption | rfl) ?_) | (refine m_loadR M rfl rfl rfl (by first | rfl | assumption | (simp; done) | (simp; omega)) ?_))))
  go_loopg [8] n (fun r i wr => ∃ j : Nat, j + r = n ∧ i = .int .i64 (j : Int) ∧ Hid (j ≤ ks.findIdx (fun k => !(pk s.data.toList k))) ∧ Mem w wr [])
  case atStart => exact ⟨0, by omega, rfl, Lib.hid (Nat.zero_le _), M⟩
  case round =>
    clear M
    obtain ⟨j, hj, rfl, HF, M⟩ := hrel
    by_cases hlt : j < n
    · obtain ⟨g, o, rfl, hc⟩ := HV.out.open_ (by omega)
      have hjl : j < ks.length := by rw [HK.out]; exact hlt
      obtain ⟨x, hx⟩ : ∃ x, ks[j]'hjl = x := ⟨_, rfl⟩
      have C1 := Lib.hid (show ∀ wx, Up w wx → wx.rangeAt g (o + j * 32) (bL x.1) from fun wx hb i u hu => by
        rw [Nat.add_assoc]
        exact hc wx hb _ _ (kyL_get ks j hjl i u (by rw [hx]; exact hu)))
      have HN : Hid (pk s.data.toList x = true → j + 1 ≤ ks.findIdx (fun k => !(pk s.data.toList k))) := Lib.hid (fun h => by
        rcases Nat.lt_or_ge j (ks.findIdx (fun k => !(pk s.data.toList k))) with h1 | h1
        · exact h1
        · have h2 : ks.findIdx (fun k => !(pk s.data.toList k)) = j := Nat.le_antisymm h1 HF.out
          have h3 := List.findIdx_getElem (p := fun k => !(pk s.data.toList k)) (xs := ks) (w := by rw [h2]; exact hjl)
          simp only [h2, hx, h] at h3
          cases h3)
      have HY : Hid (pk s.data.toList x = false → fiK (fun k => !(pk s.data.toList k)) ks = (j : Int)) := Lib.hid (fun h => by
        have h1 : ks.findIdx (fun k => !(pk s.data.toList k)) ≤ j := by
          rcases Nat.lt_or_ge j (ks.findIdx (fun k => !(pk s.data.toList k))) with h1 | h1
          · have h3 := List.not_of_lt_findIdx h1
            simp only [hx, h] at h3
            cases h3
          · exact h1
        have h2 : ks.findIdx (fun k => !(pk s.data.toList k)) = j := Nat.le_antisymm h1 HF.out
        rw [fiK, h2, if_pos hjl])
      have hx32 := x.2
      have HJ := Lib.hid hj
      obtain ⟨c, hcc⟩ : ∃ c, pk s.data.toList x = c := ⟨_, rfl⟩
      have HPN := Lib.hid (fun (w : World) (h : Blk w g0 9 #[.string s]) => preNot_c g0 s x w h)
      rw [hcc] at HN HY HPN
      clear hc hx HF hj hcc
      cases c with
      | true =>
        have HN2 := Lib.hid (HN.out rfl)
        clear HN HY
        go_wp2_with (first
          | (go_at_call 119; (with_reducible refine mem_call M (HPN.out _ (HP.out _ M.up)) ?_); clear M; (try clear wx); rintro _ wx rfl _ M)
          | (with_reducible (show wpList _ _ _ (Oper.mk _ (.load _ _) _ _ _ _ :: _) _ _); (first | (refine rd_loadA rfl rfl rfl (C1.out _ M.up) hx32 ?_) | (refine m_load M rfl rfl rfl (by first | assumption | rfl) ?_) | (refine m_loadR M rfl rfl rfl (by first | rfl | assumption | (simp; done) | (simp; omega)) ?_))))
        have hj := HJ.out
        go_roundg (gk - 1)
        case measure => omega
        case rel => exact ⟨j + 1, by omega, by go_num, HN2, M⟩
      | false =>
        have HY2 := Lib.hid (HY.out rfl)
        clear HN HY
        go_wp2_with (first
          | (go_at_call 119; (with_reducible refine mem_call M (HPN.out _ (HP.out _ M.up)) ?_); clear M; (try clear wx); rintro _ wx rfl _ M)
          | (with_reducible (show wpList _ _ _ (Oper.mk _ (.load _ _) _ _ _ _ :: _) _ _); (first | (refine rd_loadA rfl rfl rfl (C1.out _ M.up) hx32 ?_) | (refine m_load M rfl rfl rfl (by first | assumption | rfl) ?_) | (refine m_loadR M rfl rfl rfl (by first | rfl | assumption | (simp; done) | (simp; omega)) ?_))))
        go_ret
        exact ⟨_, rfl, by rw [HY2.out]; rfl, M.up⟩
    · have MM := Lib.hid M
      have HE := Lib.hid (show fiK (fun k => !(pk s.data.toList k)) ks = -1 by
        rw [fiK, if_neg]
        have := HF.out
        rw [HK.out]
        omega)
      clear HF
      go_wp2_with fail
      go_ret
      exact ⟨_, rfl, by rw [HE.out]; rfl, MM.out.up⟩

/-- slices.DeleteFunc under way: i places are written, place j is looked at next. -/
def D1 (q : Ky → Bool) (ks xs : List Ky) (i j : Nat) : Prop := xs.length = ks.length ∧ i < j ∧ j ≤ ks.length ∧ xs.take i = (ks.take j).filter q ∧ ∀ t, j ≤ t → xs[t]? = ks[t]?
theorem D1.start (q : Ky → Bool) (ks : List Ky) (f : Nat) (h : ks.findIdx (fun k => !(q k)) = f) (hf : f < ks.length) : D1 q ks ks f (f + 1) := by
  refine ⟨rfl, Nat.lt_succ_self _, hf, ?_, fun _ _ => rfl⟩
  have h1 : q ks[f] = false := by
    have h3 := List.findIdx_getElem (p := fun k => !(q k)) (xs := ks) (w := by rw [h]; exact hf)
    simp only [h] at h3
    simpa using h3
  have h2 : (ks.take f).filter q = ks.take f := by
    rw [List.filter_eq_self]
    intro a ha
    obtain ⟨t, ht, rfl⟩ := List.getElem_of_mem ha
    rw [List.length_take] at ht
    rw [List.getElem_take]
    have h3 := List.not_of_lt_findIdx (p := fun k => !(q k)) (xs := ks) (i := t) (by omega)
    simpa using h3
  rw [List.take_succ_eq_append_getElem hf, List.filter_append, h2]
  simp [h1]
theorem D1.skip {q : Ky → Bool} {ks xs : List Ky} {i j : Nat} (h : D1 q ks xs i j) (hj : j < ks.length) (hq : q ks[j] = false) : D1 q ks xs i (j + 1) := by
  obtain ⟨h1, h2, h3, h4, h5⟩ := h
  refine ⟨h1, by omega, hj, ?_, fun t ht => h5 t (by omega)⟩
  rw [List.take_succ_eq_append_getElem hj, List.filter_append, h4]
  simp [hq]
theorem D1.keep {q : Ky → Bool} {ks xs : List Ky} {i j : Nat} (h : D1 q ks xs i j) (hj : j < ks.length) (hq : q ks[j] = true) : D1 q ks (xs.set i ks[j]) (i + 1) (j + 1) := by
  obtain ⟨h1, h2, h3, h4, h5⟩ := h
  refine ⟨by rw [List.length_set, h1], by omega, hj, ?_, fun t ht => by rw [List.getElem?_set_ne (by omega)]; exact h5 t (by omega)⟩
  rw [List.take_succ_eq_append_getElem hj, List.filter_append, ← h4, List.take_succ_eq_append_getElem (by rw [List.length_set]; omega), List.getElem_set_self, List.take_set_of_le (Nat.le_refl _)]
  simp [hq]
theorem D1.done {q : Ky → Bool} {ks xs : List Ky} {i : Nat} (h : D1 q ks xs i ks.length) : xs.take i = ks.filter q := by
  have := h.2.2.2.1
  rwa [List.take_of_length_le (Nat.le_refl _)] at this
theorem fiK_none (p : Ky → Bool) (ks : List Ky) (h : ¬ ks.findIdx (fun k => !(p k)) < ks.length) : ks.filter p = ks := by
  rw [List.filter_eq_self]
  intro a ha
  obtain ⟨t, ht, rfl⟩ := List.getElem_of_mem ha
  have h3 := List.not_of_lt_findIdx (p := fun k => !(p k)) (xs := ks) (i := t) (by omega)
  simpa using h3

set_option maxHeartbeats 4000000 in
set_option maxRecDepth 100000 in
theorem deleteKey_c (g0 : Nat) (s : ByteArray) (b : Option Addr) (cap n : Nat) (ks : List Ky) (hks : ks.length = n) (hn : n ≤ 1048576) (w0 w : World) (L : List It) (M : Mem w0 w (.own b cap 25 32 n (kyL ks) :: L)) (HP : Hid (∀ w', Mem w0 w' L → Blk w' g0 9 #[.string s])) :
    Calls Try.prog 118 #[.slice b n cap, .func (.func 119) #[] #[.pointer (some ⟨g0, 0, none⟩)]] w fun e w' => e = .returned (.slice b (ks.filter (pk s.data.toList)).length cap) ∧ Mem w0 w' (.own b cap 25 32 (ks.filter (pk s.data.toList)).length (kyL (ks.filter (pk s.data.toList))) :: L) := by
  have HKS := Lib.hid hks
  obtain ⟨f, hf⟩ : ∃ f, ks.findIdx (fun k => !(pk s.data.toList k)) = f := ⟨_, rfl⟩
  by_cases hfn : f < n
  · have HI := Lib.hid (fun (v : Value) (w : World) (h : Rd w 32 v n (kyL ks)) (hp : Blk w g0 9 #[.string s]) => by
      have := indexFunc_c g0 s v n ks hks w h hp
      rw [fiK, hf, if_pos (by omega)] at this
      exact this)
    have HS := Lib.hid (D1.start (pk s.data.toList) ks f hf (by omega))
    clear hks hf
    go_enter Try.func118, Try.ntmps118
    go_wp2_with (first
      | (go_at_call 143; (with_reducible refine mem_call M (HI.out _ _ (M.rdK ks) (HP.out _ M.tail)) ?_); clear M; (try clear wx); rintro _ wx rfl _ M)
      | (with_reducible (show wpList _ _ _ (Oper.mk (some 7) (.alloc _) _ _ _ _ :: _) _ _); refine mem_new M rfl rfl ?_; clear M; (try clear wx); intro g7 wx M)
      | (with_reducible (show wpList _ _ _ (Oper.mk _ (.load _ _) _ _ _ _ :: _) _ _); (first | (refine m_load M rfl rfl rfl (by first | assumption | rfl) ?_) | (refine m_loadR M rfl rfl rfl (by first | rfl | assumption | (simp; done) | (simp; omega)) ?_)))
      | (with_reducible (show wpList _ _ _ (Oper.mk _ (.store _ _ _) _ _ _ _ :: _) _ _); (first | (refine m_storeR M rfl rfl rfl rfl (by first | rfl | assumption | (simp; done) | (simp; omega)) (by first | rfl | assumption | (simp; done) | (simp; omega)) (by first | exact bA_one _ | exact wA_one _ | assumption | (simp [Value.oneCell']; done)) ?_) | (refine m_store (v := Value.int _ _) M rfl rfl rfl rfl rfl (by first | assumption | (simp; done) | (simp; omega)) ?_) | (refine m_store (v := Value.slice _ _ _) M rfl rfl rfl rfl rfl (by first | assumption | (simp; done) | (simp; omega)) ?_) | (refine m_store (v := Value.bool _) M rfl rfl rfl rfl rfl (by first | assumption | (simp; done) | (simp; omega)) ?_) | (refine m_store (v := Value.string _) M rfl rfl rfl rfl rfl (by first | assumption | (simp; done) | (simp; omega)) ?_) | (refine m_store (v := Value.pointer _) M rfl rfl rfl rfl rfl (by first | assumption | (simp; done) | (simp; omega)) ?_)); clear M; (try clear wx); intro wx M; simp only [List.set_cons_zero, List.set_cons_succ, Nat.zero_add, List.nil_append] at M))
    obtain ⟨g, tl, rfl, hcap, hmax, hlen, M⟩ := M.own_blk (p := 0) rfl (by omega)
    have HH := Lib.hid (And.intro hcap (And.intro hmax hlen))
    have M : Mem w0 _ (.blk g 25 (kyL ks ++ tl).toArray :: L) := M
    clear hmax hlen
    go_loopg [5, 6] n (fun r x i wr => ∃ (a j : Nat) (xs : List Ky), j + r = n + f + 1 ∧ x = .int .i64 (a : Int) ∧ i = .int .i64 (j : Int) ∧ Hid (D1 (pk s.data.toList) ks xs a j) ∧ Mem w0 wr (.blk g 25 (kyL xs ++ tl).toArray :: L))
    case atStart => exact ⟨f, f + 1, ks, by omega, rfl, by go_num, HS, M⟩
    case round =>
      clear M
      obtain ⟨a, j, xs, hj, rfl, rfl, HD, M⟩ := hrel
      have haj := HD.out.2.1
      have hjn := HD.out.2.2.1
      have hxl := HD.out.1
      rw [HKS.out] at hjn hxl
      have han : a < n := by omega
      by_cases hlt : j < n
      · have hjl : j < ks.length := by rw [HKS.out]; exact hlt
        obtain ⟨x, hx⟩ : ∃ x, ks[j]'hjl = x := ⟨_, rfl⟩
        have hxa : xs[j]? = some x := by rw [HD.out.2.2.2.2 j (Nat.le_refl _), List.getElem?_eq_getElem hjl, hx]
        have G1 := Lib.hid (kyT_at xs tl j x hxa (j * 32) rfl)
        have HP1 := Lib.hid (putC_ky xs tl a x (by omega))
        have HSZ := Lib.hid (show a * 32 + 32 ≤ (kyL xs ++ tl).toArray.size by simp; omega)
        have HK1 : Hid (pk s.data.toList x = true → D1 (pk s.data.toList) ks (xs.set a x) (a + 1) (j + 1)) := Lib.hid (fun h => by have := HD.out.keep hjl (by rw [hx]; exact h); rwa [hx] at this)
        have HK2 : Hid (pk s.data.toList x = false → D1 (pk s.data.toList) ks xs a (j + 1)) := Lib.hid (fun h => HD.out.skip hjl (by rw [hx]; exact h))
        have hx32 := x.2
        have HJ := Lib.hid hj
        obtain ⟨c, hcc⟩ : ∃ c, pk s.data.toList x = c := ⟨_, rfl⟩
        have HPN := Lib.hid (fun (w : World) (h : Blk w g0 9 #[.string s]) => preNot_c g0 s x w h)
        rw [hcc] at HK1 HK2 HPN
        clear HD hx hxa hj hcc hjn hxl
        generalize hcs : (kyL xs ++ tl).toArray = cs at *
        have HCS := Lib.hid hcs
        clear hcs
        cases c with
        | true =>
          have HK := Lib.hid (HK1.out rfl)
          clear HK1 HK2
          go_wp2_with (first
            | (with_reducible (show wpList _ _ _ (Oper.mk (some 24) (.indexAddr _ _ _) _ _ _ _ :: _) _ _); refine m_ix rfl rfl rfl j (by first | rfl | (refine congrArg (Value.int .i64) ?_; omega)) hlt ?_)
            | (with_reducible (show wpList _ _ _ (Oper.mk (some 33) (.indexAddr _ _ _) _ _ _ _ :: _) _ _); refine m_ix rfl rfl rfl a (by first | rfl | (refine congrArg (Value.int .i64) ?_; omega)) han ?_)
            | (go_at_call 119; (with_reducible refine mem_call M (HPN.out _ (HP.out _ M.tail.tail)) ?_); clear M; (try clear wx); rintro _ wx rfl _ M)
            | (with_reducible (show wpList _ _ _ (Oper.mk _ (.store _ _ _) _ _ _ _ :: _) _ _); refine m_storeP M rfl rfl rfl rfl (by rw [bA_size, hx32]) HSZ.out (bA_allC _) ?_; clear M; (try clear wx); intro wx M; simp only [List.set_cons_zero, List.set_cons_succ, Nat.zero_add, List.nil_append] at M; rw [show (bA x.1).toList = bL x.1 from rfl, HP1.out] at M)
            | (with_reducible (show wpList _ _ _ (Oper.mk (some 7) (.alloc _) _ _ _ _ :: _) _ _); refine mem_new M rfl rfl ?_; clear M; (try clear wx); intro g7 wx M)
            | (with_reducible (show wpList _ _ _ (Oper.mk _ (.load _ _) _ _ _ _ :: _) _ _); (first | (refine m_loadB M rfl rfl rfl G1.out hx32 ?_) | (refine m_load M rfl rfl rfl (by first | assumption | rfl) ?_) | (refine m_loadR M rfl rfl rfl (by first | exact hx32 | (rw [bA_size, hx32]; done) | rfl | (simp; done)) ?_)))
            | (with_reducible (show wpList _ _ _ (Oper.mk _ (.store _ _ _) _ _ _ _ :: _) _ _); (first | (refine m_storeR M rfl rfl rfl rfl (by first | exact hx32 | (rw [bA_size, hx32]; done) | rfl | (simp; done)) (by first | exact hx32 | (rw [bA_size, hx32]; done) | rfl | (simp; done)) (bA_allC _) ?_) | (refine m_store (v := Value.int _ _) M rfl rfl rfl rfl rfl (by first | assumption | (simp; done) | (simp; omega)) ?_) | (refine m_store (v := Value.slice _ _ _) M rfl rfl rfl rfl rfl (by first | assumption | (simp; done) | (simp; omega)) ?_) | (refine m_store (v := Value.bool _) M rfl rfl rfl rfl rfl (by first | assumption | (simp; done) | (simp; omega)) ?_) | (refine m_store (v := Value.string _) M rfl rfl rfl rfl rfl (by first | assumption | (simp; done) | (simp; omega)) ?_) | (refine m_store (v := Value.pointer _) M rfl rfl rfl rfl rfl (by first | assumption | (simp; done) | (simp; omega)) ?_)); clear M; (try clear wx); intro wx M; simp only [List.set_cons_zero, List.set_cons_succ, Nat.zero_add, List.nil_append] at M))
          have M := M.tail
          have hj := HJ.out
          go_roundg (gk - 1)
          case measure => omega
          case rel => exact ⟨a + 1, j + 1, xs.set a x, by omega, by go_num, by go_num, HK, M⟩
        | false =>
          have HK := Lib.hid (HK2.out rfl)
          clear HK1 HK2
          go_wp2_with (first
            | (with_reducible (show wpList _ _ _ (Oper.mk (some 24) (.indexAddr _ _ _) _ _ _ _ :: _) _ _); refine m_ix rfl rfl rfl j (by first | rfl | (refine congrArg (Value.int .i64) ?_; omega)) hlt ?_)
            | (go_at_call 119; (with_reducible refine mem_call M (HPN.out _ (HP.out _ M.tail.tail)) ?_); clear M; (try clear wx); rintro _ wx rfl _ M)
            | (with_reducible (show wpList _ _ _ (Oper.mk (some 7) (.alloc _) _ _ _ _ :: _) _ _); refine mem_new M rfl rfl ?_; clear M; (try clear wx); intro g7 wx M)
            | (with_reducible (show wpList _ _ _ (Oper.mk _ (.load _ _) _ _ _ _ :: _) _ _); (first | (refine m_loadB M rfl rfl rfl G1.out hx32 ?_) | (refine m_load M rfl rfl rfl (by first | assumption | rfl) ?_) | (refine m_loadR M rfl rfl rfl (by first | exact hx32 | (rw [bA_size, hx32]; done) | rfl | (simp; done)) ?_)))
            | (with_reducible (show wpList _ _ _ (Oper.mk _ (.store _ _ _) _ _ _ _ :: _) _ _); (first | (refine m_storeR M rfl rfl rfl rfl (by first | exact hx32 | (rw [bA_size, hx32]; done) | rfl | (simp; done)) (by first | exact hx32 | (rw [bA_size, hx32]; done) | rfl | (simp; done)) (bA_allC _) ?_) | (refine m_store (v := Value.int _ _) M rfl rfl rfl rfl rfl (by first | assumption | (simp; done) | (simp; omega)) ?_) | (refine m_store (v := Value.slice _ _ _) M rfl rfl rfl rfl rfl (by first | assumption | (simp; done) | (simp; omega)) ?_) | (refine m_store (v := Value.bool _) M rfl rfl rfl rfl rfl (by first | assumption | (simp; done) | (simp; omega)) ?_) | (refine m_store (v := Value.string _) M rfl rfl rfl rfl rfl (by first | assumption | (simp; done) | (simp; omega)) ?_) | (refine m_store (v := Value.pointer _) M rfl rfl rfl rfl rfl (by first | assumption | (simp; done) | (simp; omega)) ?_)); clear M; (try clear wx); intro wx M; simp only [List.set_cons_zero, List.set_cons_succ, Nat.zero_add, List.nil_append] at M))
          have M := M.tail
          have hj := HJ.out
          go_roundg (gk - 1)
          case measure => omega
          case rel => exact ⟨a, j + 1, xs, by omega, rfl, by go_num, HK, by rw [HCS.out]; exact M⟩
      · obtain rfl : n = j := by omega
        have hD := D1.done (by rw [HKS.out]; exact HD.out : D1 (pk s.data.toList) ks xs a ks.length)
        have HDN := Lib.hid hD
        have hax : a ≤ xs.length := by omega
        obtain ⟨q1, q2, q3⟩ := HH.out
        have hbig : a * 32 + (n - a) * 32 ≤ (kyL xs ++ tl).toArray.size := by
          have : (kyL xs ++ tl).toArray.size = n * 32 + tl.length := by simp [hxl]
          omega
        have HX := Lib.hid (And.intro hbig (And.intro hxl hax))
        have HT := Lib.hid (take_clear xs tl a hax)
        clear HD hbig hxl hjn haj hj q1 q2 q3 hD
        go_wp2_with (first
          | (with_reducible (show wpList _ _ _ (Oper.mk _ (.call (Call.mk (.builtin .clear) _ _)) _ _ _ _ :: _) _ _); refine m_clear M rfl rfl Try.zeroValue25 (by decide) rfl (by omega) HX.out.1 ?_; clear M; (try clear wx); intro wx zs hzs M; simp only [List.set_cons_zero, List.set_cons_succ, Nat.zero_add, List.nil_append] at M)
          | (with_reducible (show wpList _ _ _ (Oper.mk (some 7) (.alloc _) _ _ _ _ :: _) _ _); refine mem_new M rfl rfl ?_; clear M; (try clear wx); intro g7 wx M)
          | (with_reducible (show wpList _ _ _ (Oper.mk _ (.load _ _) _ _ _ _ :: _) _ _); (first | (refine m_load M rfl rfl rfl (by first | assumption | rfl) ?_) | (refine m_loadR M rfl rfl rfl (by first | rfl | assumption | (simp; done) | (simp; omega)) ?_)))
          | (with_reducible (show wpList _ _ _ (Oper.mk _ (.store _ _ _) _ _ _ _ :: _) _ _); (first | (refine m_storeR M rfl rfl rfl rfl (by first | rfl | assumption | (simp; done) | (simp; omega)) (by first | rfl | assumption | (simp; done) | (simp; omega)) (by first | exact bA_one _ | exact wA_one _ | assumption | (simp [Value.oneCell']; done)) ?_) | (refine m_store (v := Value.int _ _) M rfl rfl rfl rfl rfl (by first | assumption | (simp; done) | (simp; omega)) ?_) | (refine m_store (v := Value.slice _ _ _) M rfl rfl rfl rfl rfl (by first | assumption | (simp; done) | (simp; omega)) ?_) | (refine m_store (v := Value.bool _) M rfl rfl rfl rfl rfl (by first | assumption | (simp; done) | (simp; omega)) ?_) | (refine m_store (v := Value.string _) M rfl rfl rfl rfl rfl (by first | assumption | (simp; done) | (simp; omega)) ?_) | (refine m_store (v := Value.pointer _) M rfl rfl rfl rfl rfl (by first | assumption | (simp; done) | (simp; omega)) ?_)); clear M; (try clear wx); intro wx M; simp only [List.set_cons_zero, List.set_cons_succ, Nat.zero_add, List.nil_append] at M))
        go_ret
        rw [← HDN.out, show (xs.take a).length = a by rw [List.length_take, Nat.min_eq_left HX.out.2.2]]
        refine ⟨rfl, ?_⟩
        obtain ⟨q1, q2, q3⟩ := HH.out
        have hsz : (putC zs (a * 32) (kyL xs ++ tl).toArray).size = cap * 32 := by
          rw [putC_size, ← q3]
          simp [HX.out.2.1, HKS.out]
        have hzz : a * 32 + zs.length ≤ (kyL xs ++ tl).length := by rw [hzs]; exact Nat.le_trans HX.out.1 (Nat.le_of_eq (by simp))
        exact M.blk_own (p := 0) rfl 32 a cap (by omega) q2 hsz (HT.out zs hzz)
  · have HI := Lib.hid (fun (v : Value) (w : World) (h : Rd w 32 v n (kyL ks)) (hp : Blk w g0 9 #[.string s]) => by
      have := indexFunc_c g0 s v n ks hks w h hp
      rw [fiK, hf, if_neg (by omega)] at this
      exact this)
    have HE := Lib.hid (fiK_none (pk s.data.toList) ks (by rw [hf]; omega))
    clear hks hf
    go_enter Try.func118, Try.ntmps118
    go_wp2_with (first
      | (go_at_call 143; (with_reducible refine mem_call M (HI.out _ _ (M.rdK ks) (HP.out _ M.tail)) ?_); clear M; (try clear wx); rintro _ wx rfl _ M)
      | (with_reducible (show wpList _ _ _ (Oper.mk (some 7) (.alloc _) _ _ _ _ :: _) _ _); refine mem_new M rfl rfl ?_; clear M; (try clear wx); intro g7 wx M)
      | (with_reducible (show wpList _ _ _ (Oper.mk _ (.load _ _) _ _ _ _ :: _) _ _); (first | (refine m_load M rfl rfl rfl (by first | assumption | rfl) ?_) | (refine m_loadR M rfl rfl rfl (by first | rfl | assumption | (simp; done) | (simp; omega)) ?_)))
      | (with_reducible (show wpList _ _ _ (Oper.mk _ (.store _ _ _) _ _ _ _ :: _) _ _); (first | (refine m_storeR M rfl rfl rfl rfl (by first | rfl | assumption | (simp; done) | (simp; omega)) (by first | rfl | assumption | (simp; done) | (simp; omega)) (by first | exact bA_one _ | exact wA_one _ | assumption | (simp [Value.oneCell']; done)) ?_) | (refine m_store (v := Value.int _ _) M rfl rfl rfl rfl rfl (by first | assumption | (simp; done) | (simp; omega)) ?_) | (refine m_store (v := Value.slice _ _ _) M rfl rfl rfl rfl rfl (by first | assumption | (simp; done) | (simp; omega)) ?_) | (refine m_store (v := Value.bool _) M rfl rfl rfl rfl rfl (by first | assumption | (simp; done) | (simp; omega)) ?_) | (refine m_store (v := Value.string _) M rfl rfl rfl rfl rfl (by first | assumption | (simp; done) | (simp; omega)) ?_) | (refine m_store (v := Value.pointer _) M rfl rfl rfl rfl rfl (by first | assumption | (simp; done) | (simp; omega)) ?_)); clear M; (try clear wx); intro wx M; simp only [List.set_cons_zero, List.set_cons_succ, Nat.zero_add, List.nil_append] at M))
    go_ret
    rw [HE.out, HKS.out]
    exact ⟨rfl, M⟩

end Go.Proofs.Ytmbhaoiahlbglaa

/- Plain law of the reader of recipes: what the reference reads in a text and what the program reads are one. No program in sight. -/
import Derived.Test.YtmbhaoiahlbglaaDoorRRb
import Derived.Lib.CutLaws
import Derived.Lib.SplitLaws
import Derived.Lib.ParseIntBTie
namespace Go.Proofs.YtmbhaoiahlbglaaDoor
open Go.RowKit
set_option linter.unusedVariables false
set_option linter.unusedSimpArgs false

/-- A text cut at a byte: acc is the piece under way. -/
def spA (c : UInt8) : List UInt8 → List UInt8 → List (List UInt8)
  | acc, [] => [acc]
  | acc, b :: l => if b = c then acc :: spA c [] l else spA c (acc ++ [b]) l
def sp (c : UInt8) (l : List UInt8) : List (List UInt8) := spA c [] l
theorem spA_none (c : UInt8) : ∀ (l acc : List UInt8), c ∉ l → spA c acc l = [acc ++ l]
  | [], acc, _ => by simp [spA]
  | b :: l, acc, h => by
    rw [spA, if_neg (fun e => h (by simp [e])), spA_none c l _ (fun e => h (by simp [e]))]
    simp
theorem spA_app (c : UInt8) (r : List UInt8) : ∀ (a acc : List UInt8), c ∉ a → spA c acc (a ++ c :: r) = (acc ++ a) :: sp c r
  | [], acc, _ => by simp [spA, sp]
  | b :: l, acc, h => by
    rw [List.cons_append, spA, if_neg (fun e => h (by simp [e])), spA_app c r l _ (fun e => h (by simp [e]))]
    simp
theorem sp_none {c : UInt8} {l : List UInt8} (h : c ∉ l) : sp c l = [l] := spA_none c l [] h
theorem sp_app {c : UInt8} {a : List UInt8} (h : c ∉ a) (r : List UInt8) : sp c (a ++ c :: r) = a :: sp c r := spA_app c r a [] h
theorem sp_cases (c : UInt8) : ∀ l : List UInt8, c ∉ l ∨ ∃ a r, l = a ++ c :: r ∧ c ∉ a
  | [] => .inl (by simp)
  | b :: l => by
    by_cases hb : b = c
    · exact .inr ⟨[], l, by simp [hb], by simp⟩
    · rcases sp_cases c l with h | ⟨a, r, rfl, h⟩
      · exact .inl (by simp [h]; exact fun e => hb e.symm)
      · exact .inr ⟨b :: a, r, by simp, by simp [h]; exact fun e => hb e.symm⟩
theorem sp_len (c : UInt8) (l : List UInt8) : (sp c l).length = l.count c + 1 := by
  induction hn : l.length using Nat.strongRecOn generalizing l with
  | ind n ih =>
    rcases sp_cases c l with h | ⟨a, r, rfl, h⟩
    · rw [sp_none h, List.count_eq_zero.2 h]; rfl
    · rw [sp_app h, List.length_cons, ih r.length (by subst hn; simp; omega) r rfl, List.count_append, List.count_eq_zero.2 h]; simp
theorem sp_join (c : UInt8) (l : List UInt8) : ∃ xs y, sp c l = xs ++ [y] ∧ l = xs.flatMap (· ++ [c]) ++ y := by
  induction hn : l.length using Nat.strongRecOn generalizing l with
  | ind n ih =>
    rcases sp_cases c l with h | ⟨a, r, rfl, h⟩
    · exact ⟨[], l, by rw [sp_none h]; rfl, by simp⟩
    · obtain ⟨xs, y, h1, h2⟩ := ih r.length (by subst hn; simp; omega) r rfl
      exact ⟨a :: xs, y, by rw [sp_app h, h1]; rfl, by rw [List.flatMap_cons, List.append_assoc, ← h2]; simp⟩

theorem spSt_sp (s : ByteArray) (c : UInt8) : ∀ k, k ≤ s.size → sp c s.data.toList = (spSt s c k).1.map (·.data.toList) ++ spA c ((s.data.toList.take k).drop (spSt s c k).2) (s.data.toList.drop k)
  | 0, _ => by simp [spSt, sp]
  | k + 1, hk => by
    have hl : k < s.data.toList.length := hk
    have hle := spSt_le s c k
    rw [spSt_sp s c k (by omega), List.drop_eq_getElem_cons hl, spA]
    have hb := bt_eq _ _ hl
    have hst : spSt s c (k + 1) = if bt s.data.toList k = c then ((spSt s c k).1 ++ [s.extract (spSt s c k).2 k], k + 1) else spSt s c k := rfl
    rw [hst]
    by_cases h : bt s.data.toList k = c
    · rw [if_pos (by rw [← hb]; exact h), if_pos h]
      simp only [List.map_append, List.map_cons, List.map_nil, List.append_assoc, List.singleton_append]
      have e1 : (s.extract (spSt s c k).2 k).data.toList = (s.data.toList.take k).drop (spSt s c k).2 := by
        rw [ByteArray.data_extract, Array.toList_extract, List.extract, List.drop_take]
      rw [e1, List.drop_of_length_le (l := List.take (k + 1) _) (by rw [List.length_take]; omega)]
    · rw [if_neg (by rw [← hb]; exact h), if_neg h]
      congr 2
      rw [List.take_succ_eq_append_getElem hl, List.drop_append_of_le_length (by rw [List.length_take]; omega)]
theorem ba_tx (s : ByteArray) : tx s.data.toList = s := by
  obtain ⟨⟨l⟩⟩ := s
  rfl
theorem spL_sp (s : ByteArray) (c : UInt8) : spL s c = (sp c s.data.toList).map tx := by
  have h := spSt_sp s c s.size (Nat.le_refl _)
  rw [show s.data.toList.drop s.size = [] from List.drop_of_length_le (Nat.le_refl _), show s.data.toList.take s.size = s.data.toList from List.take_of_length_le (Nat.le_refl _)] at h
  rw [h, List.map_append, List.map_map]
  have e0 : ∀ xs : List ByteArray, xs.map (tx ∘ fun x => x.data.toList) = xs := fun xs => by
    conv => rhs; rw [← List.map_id xs]
    exact List.map_congr_left fun x _ => ba_tx x
  have e1 : (s.extract (spSt s c s.size).2 s.size) = tx (s.data.toList.drop (spSt s c s.size).2) := by
    rw [← ba_tx (s.extract _ _), ByteArray.data_extract, Array.toList_extract, List.extract]
    congr 1
    exact List.take_of_length_le (by rw [List.length_drop]; exact Nat.le_refl _)
  rw [spL, e0, e1]
  rfl
theorem ix_none {c : UInt8} : ∀ {l : List UInt8}, c ∉ l → Lib.index l [c] = -1
  | [], _ => rfl
  | b :: l, h => by
    have := ix_none (c := c) (l := l) (fun e => h (by simp [e]))
    rw [Lib.index_one] at this ⊢
    unfold Lib.indexByte
    rw [this, if_neg (by simpa using fun e => h (by simp [e]))]
    rfl
theorem ix_app {c : UInt8} (r : List UInt8) : ∀ {a : List UInt8}, c ∉ a → Lib.index (a ++ c :: r) [c] = a.length
  | [], _ => by
    rw [Lib.index_one]
    simp [Lib.indexByte]
  | b :: l, h => by
    have := ix_app (c := c) r (a := l) (fun e => h (by simp [e]))
    rw [Lib.index_one] at this ⊢
    rw [List.cons_append]
    unfold Lib.indexByte
    rw [this, if_neg (by simpa using fun e => h (by simp [e])), if_neg (by simp)]
    simp
theorem cut_none {c : UInt8} {l : List UInt8} (h : c ∉ l) : Lib.cut l [c] = (l, [], false) := by
  rw [Lib.cut, ix_none h, if_neg (by decide)]
theorem cut_app {c : UInt8} {a : List UInt8} (h : c ∉ a) (r : List UInt8) : Lib.cut (a ++ c :: r) [c] = (a, r, true) := by
  rw [Lib.cut, ix_app r h, if_pos (by omega)]
  simp
theorem splitK_sp (c : UInt8) (l : List UInt8) : Lib.splitK [c] 0 (l.count c) l = sp c l := by
  induction hn : l.length using Nat.strongRecOn generalizing l with
  | ind n ih =>
    rcases sp_cases c l with h | ⟨a, r, rfl, h⟩
    · rw [sp_none h, List.count_eq_zero.2 h]; rfl
    · rw [sp_app h, List.count_append, List.count_eq_zero.2 h, Nat.zero_add, List.count_cons_self, Lib.splitK, ix_app r h, if_neg (by simp)]
      rw [← ih r.length (by subst hn; simp; omega) r rfl]
      simp
theorem splitB_sp (s : ByteArray) (c : UInt8) : Lib.splitB ⟨#[c]⟩ 0 (s.data.toList.count c) s = (sp c s.data.toList).map tx := by
  have h := Lib.splitB_data ⟨#[c]⟩ 0 (s.data.toList.count c) s
  rw [show (ByteArray.mk #[c]).data.toList = [c] from rfl, splitK_sp] at h
  rw [← h, List.map_map]
  conv => lhs; rw [← List.map_id (Lib.splitB _ _ _ _)]
  exact List.map_congr_left fun x _ => (ba_tx x).symm

/-! Numbers. -/
theorem hv_hexD : ∀ n, n < 16 → hv (hexD n) = n := by decide +kernel
theorem hexD_hv (b : UInt8) (h : 0 ≤ hv b) : hexD (hv b).toNat = b := by
  have key : ∀ n, n < 256 → 0 ≤ hv (UInt8.ofNat n) → hexD (hv (UInt8.ofNat n)).toNat = UInt8.ofNat n := by decide +kernel
  have := key b.toNat b.toNat_lt
  rw [UInt8.ofNat_toNat] at this
  exact this h
theorem hexL_hex (l : List UInt8) (n : Nat) : allHex (hexL l n) = true := by
  refine List.all_eq_true.2 fun x hx => ?_
  simp only [hexL, List.mem_map, List.mem_range] at hx
  obtain ⟨i, -, rfl⟩ := hx
  rw [hv_hexD _ (dig_lt l i)]
  simp
theorem hexL_no (l : List UInt8) (n : Nat) (c : UInt8) (hc : hv c < 0) : c ∉ hexL l n := fun h => by
  have := List.all_eq_true.1 (hexL_hex l n) c h
  simp at this
  omega
theorem readL_at (a : List UInt8) (j : Nat) (hj : j < 32) : bt (readL a) j = fullB a j := by
  rw [bt_eq _ _ (by rw [readL_length]; exact hj)]
  simp [readL]
theorem hex_read (a : List UInt8) (h : a.length = 64) (hx : allHex a = true) : hexL (readL a) 64 = a := by
  apply List.ext_getElem
  · rw [hexL_length, h]
  · intro i h1 h2
    rw [hexL_length] at h1
    have x0 := allHex_at a hx (2 * (i / 2)) (by omega)
    have x1 := allHex_at a hx (2 * (i / 2) + 1) (by omega)
    have hb := fullB_int a (i / 2) x0 x1
    have y0 := hv_bd (bt a (2 * (i / 2)))
    have y1 := hv_bd (bt a (2 * (i / 2) + 1))
    have e : dig (readL a) i = (hv (bt a i)).toNat := by
      unfold dig
      rw [readL_at a _ (by omega)]
      by_cases he : i % 2 = 0
      · rw [if_pos he]
        have : 2 * (i / 2) = i := by omega
        rw [this] at hb y0 y1 x0 x1
        omega
      · rw [if_neg he]
        have : 2 * (i / 2) + 1 = i := by omega
        rw [this] at hb y1 x1
        omega
    have hi := allHex_at a hx i h2
    simp only [hexL, List.getElem_map, List.getElem_range, e]
    rw [hexD_hv _ hi, bt_eq a i h2]
theorem dec_dig (n : Nat) : ∀ b ∈ Lib.decDigits n, digB b = true := by
  induction n using Nat.strongRecOn with
  | ind n ih =>
    have key : ∀ d, d < 10 → digB (UInt8.ofNat (48 + d)) = true := by decide +kernel
    intro b hb
    rw [Lib.decDigits] at hb
    split at hb
    · simp only [List.mem_singleton] at hb
      rw [hb]
      exact key n (by assumption)
    · rw [List.mem_append, List.mem_singleton] at hb
      rcases hb with hb | hb
      · exact ih (n / 10) (by omega) b hb
      · rw [hb]
        exact key (n % 10) (by omega)
theorem dec_ne (n : Nat) : Lib.decDigits n ≠ [] := by
  rw [Lib.decDigits]
  split <;> simp
theorem dig_val : ∀ d, d < 10 → (UInt8.ofNat (48 + d)).toNat - 48 = d := by decide +kernel
theorem dec_val (n : Nat) : numV (Lib.decDigits n) = n := by
  induction n using Nat.strongRecOn with
  | ind n ih =>
    rw [Lib.decDigits]
    split
    · rename_i h
      show 0 * 10 + _ = n
      rw [dig_val n h]
      omega
    · rw [numV_snoc, ih (n / 10) (by omega), dig_val _ (by omega)]
      omega
theorem bt_app0 (a b : List UInt8) (h : a ≠ []) : bt (a ++ b) 0 = bt a 0 := by
  cases a with
  | nil => exact absurd rfl h
  | cons x a => rfl
theorem dec_lead (n : Nat) (h : 1 ≤ n) : bt (Lib.decDigits n) 0 ≠ 48 := by
  induction n using Nat.strongRecOn with
  | ind n ih =>
    have key : ∀ d, d < 10 → 1 ≤ d → UInt8.ofNat (48 + d) ≠ 48 := by decide +kernel
    rw [Lib.decDigits]
    split
    · rename_i h10
      exact key n h10 h
    · rw [bt_app0 _ _ (dec_ne _)]
      exact ih (n / 10) (by omega) (by omega)
theorem dec_ok (n : Nat) (h4 : (Lib.decDigits n).length ≤ 4) : numOk (Lib.decDigits n) = true := by
  have h1 : 1 ≤ (Lib.decDigits n).length := List.length_pos_iff.2 (dec_ne n)
  simp only [numOk, Bool.and_eq_true, decide_eq_true_eq, Bool.not_eq_true', List.all_eq_true]
  refine ⟨⟨⟨h1, by omega⟩, ?_⟩, dec_dig n⟩
  rw [Bool.and_eq_false_iff]
  simp only [decide_eq_false_iff_not]
  by_cases hn : 1 ≤ n
  · exact .inl (dec_lead n hn)
  · obtain rfl : n = 0 := by omega
    exact .inr (by rw [Lib.decDigits]; simp)
theorem snoc_ind {P : List UInt8 → Prop} (h0 : P []) (h1 : ∀ l b, P l → P (l ++ [b])) (l : List UInt8) : P l := by
  have : P l.reverse.reverse := by
    induction l.reverse with
    | nil => exact h0
    | cons b l ih => rw [List.reverse_cons]; exact h1 _ _ ih
  rwa [List.reverse_reverse] at this
theorem numV_pos (l : List UInt8) : l ≠ [] → (∀ b ∈ l, digB b = true) → bt l 0 ≠ 48 → 1 ≤ numV l := by
  refine snoc_ind (P := fun l => l ≠ [] → (∀ b ∈ l, digB b = true) → bt l 0 ≠ 48 → 1 ≤ numV l) (fun h => absurd rfl h) (fun l b ih _ hd hb => ?_) l
  rw [numV_snoc]
  by_cases hl : l = []
  · subst hl
    have h1 := hd b (by simp)
    simp only [digB, Bool.and_eq_true, decide_eq_true_eq] at h1
    have h2 : b ≠ 48 := hb
    have h3 : b.toNat ≠ 48 := fun e => h2 (UInt8.toNat_inj.1 (e.trans rfl))
    omega
  · rw [bt_app0 _ _ hl] at hb
    have := ih hl (fun c hc => hd c (by simp [hc])) hb
    omega
theorem dec_num (l : List UInt8) : l ≠ [] → (∀ b ∈ l, digB b = true) → (bt l 0 = 48 → l.length = 1) → Lib.decDigits (numV l) = l := by
  refine snoc_ind (P := fun l => l ≠ [] → (∀ b ∈ l, digB b = true) → (bt l 0 = 48 → l.length = 1) → Lib.decDigits (numV l) = l) (fun h => absurd rfl h) (fun l b ih _ hd hb => ?_) l
  have hv : UInt8.ofNat (48 + (b.toNat - 48)) = b := by
    have h1 := hd b (by simp)
    simp only [digB, Bool.and_eq_true, decide_eq_true_eq] at h1
    rw [show 48 + (b.toNat - 48) = b.toNat by omega, UInt8.ofNat_toNat]
  have h1 := hd b (by simp)
  simp only [digB, Bool.and_eq_true, decide_eq_true_eq] at h1
  rw [numV_snoc]
  by_cases hl : l = []
  · subst hl
    rw [show numV [] = 0 from rfl, Nat.zero_mul, Nat.zero_add, Lib.decDigits, dif_pos (by omega), hv]
    rfl
  · rw [bt_app0 _ _ hl, List.length_append] at hb
    have hlp : 1 ≤ l.length := List.length_pos_iff.2 hl
    have hne : bt l 0 ≠ 48 := fun e => by have := hb e; rw [List.length_singleton] at this; omega
    have hp := numV_pos l hl (fun c hc => hd c (by simp [hc])) hne
    have := ih hl (fun c hc => hd c (by simp [hc])) (fun e => absurd e hne)
    rw [Lib.decDigits, dif_neg (by omega), show (numV l * 10 + (b.toNat - 48)) / 10 = numV l by omega, show (numV l * 10 + (b.toNat - 48)) % 10 = b.toNat - 48 by omega, this, hv]
theorem numOk_parts {l : List UInt8} (h : numOk l = true) : 1 ≤ l.length ∧ l.length ≤ 9 ∧ (bt l 0 = 48 → l.length = 1) ∧ ∀ b ∈ l, digB b = true := by
  simp only [numOk, Bool.and_eq_true, decide_eq_true_eq, Bool.not_eq_true', List.all_eq_true] at h
  obtain ⟨⟨⟨h1, h2⟩, h3⟩, h4⟩ := h
  refine ⟨h1, h2, fun e => ?_, h4⟩
  rw [Bool.and_eq_false_iff] at h3
  simp only [decide_eq_false_iff_not] at h3
  rcases h3 with h3 | h3
  · exact absurd e h3
  · omega
theorem ok_dec {l : List UInt8} (h : numOk l = true) : Lib.decDigits (numV l) = l := by
  obtain ⟨h1, -, h3, h4⟩ := numOk_parts h
  exact dec_num l (List.length_pos_iff.1 h1) h4 h3
theorem fold_ge (l : List UInt8) (a : Nat) : a ≤ l.foldl (fun a b => a * 10 + (b.toNat - 48)) a := by
  induction l generalizing a with
  | nil => exact Nat.le_refl _
  | cons b l ih =>
    have := ih (a * 10 + (b.toNat - 48))
    simp only [List.foldl_cons]
    omega
theorem parse_fold (M : Nat) (hM : 1000000000 ≤ M) (l : List UInt8) : ∀ a, (∀ b ∈ l, digB b = true) → l.foldl (fun a b => a * 10 + (b.toNat - 48)) a < 1000000000 → Lib.parseUintM M a l = .ok (l.foldl (fun a b => a * 10 + (b.toNat - 48)) a) := by
  induction l with
  | nil => intro a _ _; rfl
  | cons b l ih =>
    intro a hd hv
    have h1 := hd b (by simp)
    simp only [digB, Bool.and_eq_true, decide_eq_true_eq] at h1
    simp only [List.foldl_cons] at hv ⊢
    have hg := fold_ge l (a * 10 + (b.toNat - 48))
    rw [Lib.parseUintM, if_pos h1, if_neg (by omega), if_neg (by omega)]
    exact ih _ (fun c hc => hd c (by simp [hc])) hv
theorem ok_parse {l : List UInt8} (h : numOk l = true) : Lib.parseIntB 64 l = .ok (numV l : Int) := by
  obtain ⟨h1, h2, h3, h4⟩ := numOk_parts h
  have hlt := numV_lt l h4
  have hlt9 : numV l < 1000000000 := Nat.lt_of_lt_of_le hlt (Nat.le_trans (Nat.pow_le_pow_right (by decide) h2) (by decide))
  cases l with
  | nil => simp at h1
  | cons c r =>
    have hc := h4 c (by simp)
    simp only [digB, Bool.and_eq_true, decide_eq_true_eq] at hc
    rw [Lib.parseIntB_plain 64 c r (by omega) (by omega), Lib.parseUintB, if_neg (by simp), parse_fold _ (by decide) _ 0 h4 hlt9]
    have e : (2 : Nat) ^ (64 - 1) = 9223372036854775808 := by decide
    show Lib.signlessC _ (.ok (numV (c :: r))) = _
    rw [Lib.signlessC, e, if_neg (by omega)]

/-! Lines. -/
def lnQ (p : Pc) : List UInt8 := hexL p.1.1 64 ++ [32] ++ Lib.decDigits p.2.toNat
theorem lnP_Q (p : Pc) : lnP p = lnQ p ++ [10] := rfl
def kyR (a : List UInt8) : Ky := ⟨readL a, readL_length a⟩
/-- What the reference reads in a line. -/
def sPair (a b : List UInt8) : Option Pc := if a.length = 64 ∧ allHex a = true ∧ numOk b = true ∧ numV b ≤ 4096 then some (kyR a, (numV b : Int)) else none
def sLine (x : List UInt8) : Option Pc := match sp 32 x with | [a, b] => sPair a b | _ => none
/-- What the program reads in a line. -/
def iPair (a b : List UInt8) : Option Pc := if a.length = 64 ∧ allHex a = true then (match Lib.parseIntB 64 b with | .ok v => some (kyR a, v) | _ => none) else none
def iLine (x : List UInt8) : Option Pc := iPair (Lib.cut x [32]).1 (Lib.cut x [32]).2.1
def rdL (f : List UInt8 → Option Pc) : List (List UInt8) → Option (List Pc)
  | [] => some []
  | x :: xs => match f x, rdL f xs with | some p, some ps => some (p :: ps) | _, _ => none
theorem rdL_snoc {f : List UInt8 → Option Pc} {x : List UInt8} : ∀ {xs : List (List UInt8)} {ps : List Pc} {p : Pc}, rdL f xs = some ps → f x = some p → rdL f (xs ++ [x]) = some (ps ++ [p])
  | [], ps, p, h, hx => by
    simp only [rdL] at h
    cases h
    simp [rdL, hx]
  | y :: xs, ps, p, h, hx => by
    rw [rdL] at h
    cases hy : f y with
    | none => rw [hy] at h; cases h
    | some q =>
      cases hr : rdL f xs with
      | none => rw [hy, hr] at h; cases h
      | some qs =>
        rw [hy, hr] at h
        cases h
        rw [List.cons_append, rdL, hy, rdL_snoc hr hx]
        rfl
theorem rdL_none {f : List UInt8 → Option Pc} {x : List UInt8} (hx : f x = none) : ∀ {xs : List (List UInt8)}, x ∈ xs → rdL f xs = none
  | [], h => by cases h
  | y :: xs, h => by
    rw [rdL]
    rcases List.mem_cons.1 h with rfl | h
    · rw [hx]
    · rw [rdL_none hx h]
      cases f y <;> rfl
theorem rdL_len {f : List UInt8 → Option Pc} : ∀ {xs : List (List UInt8)} {ps : List Pc}, rdL f xs = some ps → ps.length = xs.length
  | [], ps, h => by simp only [rdL] at h; cases h; rfl
  | y :: xs, ps, h => by
    rw [rdL] at h
    cases hy : f y with
    | none => rw [hy] at h; cases h
    | some q =>
      cases hr : rdL f xs with
      | none => rw [hy, hr] at h; cases h
      | some qs =>
        rw [hy, hr] at h
        cases h
        rw [List.length_cons, List.length_cons, rdL_len hr]
theorem sLine_i {x : List UInt8} {p : Pc} (h : sLine x = some p) : iLine x = some p ∧ lnQ p = x ∧ lenOk p = true := by
  unfold sLine at h
  rcases sp_cases 32 x with hx | ⟨a, r, rfl, ha⟩
  · rw [sp_none hx] at h
    cases h
  · rw [sp_app ha] at h
    rcases sp_cases 32 r with hr | ⟨b, q, rfl, hb⟩
    · rw [sp_none hr] at h
      simp only [sPair] at h
      split at h
      · rename_i hc
        obtain ⟨h1, h2, h3, h4⟩ := hc
        cases h
        refine ⟨?_, ?_, ?_⟩
        · rw [iLine, cut_app ha]
          simp only [iPair]
          rw [if_pos ⟨h1, h2⟩, ok_parse h3]
        · simp only [lnQ, kyR, Int.toNat_natCast]
          rw [hex_read a h1 h2, ok_dec h3]
          simp
        · simp only [lenOk]
          simp
          omega
      · cases h
    · rw [sp_app hb] at h
      cases hq : sp 32 q with
      | nil => have := sp_len 32 q; rw [hq] at this; simp at this
      | cons z zs => rw [hq] at h; cases h
theorem dec_no (n : Nat) (c : UInt8) (h : digB c = false) : c ∉ Lib.decDigits n := fun hc => by rw [dec_dig n c hc] at h; cases h
theorem iLine_s {p : Pc} (h : iLine (lnQ p) = some p) (hl : lenOk p = true) (h4 : (Lib.decDigits p.2.toNat).length ≤ 4) : sLine (lnQ p) = some p := by
  simp only [lenOk, Bool.and_eq_true, decide_eq_true_eq] at hl
  have hh : (32 : UInt8) ∉ hexL p.1.1 64 := hexL_no _ _ _ (by decide)
  have hd : (32 : UInt8) ∉ Lib.decDigits p.2.toNat := dec_no _ _ (by decide)
  have e : lnQ p = hexL p.1.1 64 ++ 32 :: Lib.decDigits p.2.toNat := by simp [lnQ]
  have hc : iLine (lnQ p) = iPair (hexL p.1.1 64) (Lib.decDigits p.2.toNat) := by rw [iLine, e, cut_app hh]
  have hs : sLine (lnQ p) = sPair (hexL p.1.1 64) (Lib.decDigits p.2.toNat) := by rw [sLine, e, sp_app hh, sp_none hd]
  have ho := dec_ok p.2.toNat h4
  have hv := dec_val p.2.toNat
  rw [hs, sPair, if_pos ⟨hexL_length _ _, hexL_hex _ _, ho, by omega⟩]
  rw [hc, iPair, if_pos ⟨hexL_length _ _, hexL_hex _ _⟩, ok_parse ho] at h
  exact h
theorem rdL_i : ∀ {xs : List (List UInt8)} {ps : List Pc}, rdL sLine xs = some ps → rdL iLine xs = some ps ∧ recL ps = xs.flatMap (· ++ [10]) ∧ ps.all lenOk = true
  | [], ps, h => by simp only [rdL] at h; cases h; exact ⟨rfl, rfl, rfl⟩
  | y :: xs, ps, h => by
    rw [rdL] at h
    cases hy : sLine y with
    | none => rw [hy] at h; cases h
    | some q =>
      cases hr : rdL sLine xs with
      | none => rw [hy, hr] at h; cases h
      | some qs =>
        rw [hy, hr] at h
        cases h
        obtain ⟨h1, h2, h3⟩ := rdL_i hr
        obtain ⟨k1, k2, k3⟩ := sLine_i hy
        refine ⟨by rw [rdL, k1, h1], ?_, by rw [List.all_cons, k3, h3]; rfl⟩
        show lnP q ++ recL qs = _
        rw [lnP_Q, k2, h2, List.flatMap_cons]
theorem sp_recL : ∀ ps : List Pc, sp 10 (recL ps) = ps.map lnQ ++ [[]]
  | [] => rfl
  | p :: ps => by
    have hn : (10 : UInt8) ∉ lnQ p := by
      simp only [lnQ, List.mem_append, List.mem_singleton, not_or]
      exact ⟨⟨hexL_no _ _ _ (by decide), by decide⟩, dec_no _ _ (by decide)⟩
    have e : recL (p :: ps) = lnQ p ++ 10 :: recL ps := by
      show lnP p ++ recL ps = _
      rw [lnP_Q]
      simp
    rw [e, sp_app hn, sp_recL ps]
    rfl
theorem rdL_s (h4 : ∀ n, n ≤ 4096 → (Lib.decDigits n).length ≤ 4) : ∀ {ps : List Pc}, rdL iLine (ps.map lnQ) = some ps → ps.all lenOk = true → rdL sLine (ps.map lnQ) = some ps
  | [], _, _ => rfl
  | p :: ps, h, hl => by
    rw [List.all_cons, Bool.and_eq_true] at hl
    rw [List.map_cons, rdL] at h ⊢
    cases hy : iLine (lnQ p) with
    | none => rw [hy] at h; cases h
    | some q =>
      cases hr : rdL iLine (ps.map lnQ) with
      | none => rw [hy, hr] at h; cases h
      | some qs =>
        rw [hy, hr] at h
        have h : some (q :: qs) = some (p :: ps) := h
        injection h with h
        injection h with e1 e2
        subst e1 e2
        have hl1 := hl.1
        simp only [lenOk, Bool.and_eq_true, decide_eq_true_eq] at hl1
        rw [iLine_s hy hl.1 (h4 _ (by omega)), rdL_s h4 hr hl.2]
/-- What the reference's reader of recipes gives. -/
def rrS (l : List UInt8) : List Pc × Int := if 40000 < l.length ∨ 256 < l.count 10 then ([], 3) else match rdL sLine (sp 10 l).dropLast with | some ps => if (sp 10 l).getLast? = some [] then (ps, 0) else ([], 5) | none => ([], 5)
/-- What the program's reader gives. -/
def rrI (l : List UInt8) : List Pc × Int := if 40000 < l.length ∨ 256 < l.count 10 then ([], 3) else match rdL iLine (sp 10 l).dropLast with | some ps => if ps.all lenOk = true ∧ recL ps = l then (ps, 0) else ([], 5) | none => ([], 5)
theorem rr_eq (h4 : ∀ n, n ≤ 4096 → (Lib.decDigits n).length ≤ 4) (l : List UInt8) : rrI l = rrS l := by
  unfold rrI rrS
  split
  · rfl
  · obtain ⟨xs, y, h1, h2⟩ := sp_join 10 l
    have e1 : (sp 10 l).dropLast = xs := by rw [h1, List.dropLast_concat]
    have e2 : (sp 10 l).getLast? = some y := by rw [h1, List.getLast?_concat]
    rw [e1, e2]
    cases hs : rdL sLine xs with
    | some ps =>
      obtain ⟨k1, k2, k3⟩ := rdL_i hs
      rw [k1]
      simp only
      by_cases hy : y = []
      · subst hy
        rw [if_pos ⟨k3, by rw [k2]; simpa using h2.symm⟩, if_pos rfl]
      · rw [if_neg, if_neg (by simpa using hy)]
        rintro ⟨-, h⟩
        rw [k2] at h
        have : (xs.flatMap (· ++ [10])).length = l.length := by rw [h]
        have h3 : l.length = (xs.flatMap (· ++ [10])).length + y.length := by rw [← List.length_append, ← h2]
        have : y.length = 0 := by omega
        exact hy (List.length_eq_zero_iff.1 this)
    | none =>
      cases hi : rdL iLine xs with
      | none => rfl
      | some ps =>
        simp only
        rw [if_neg]
        rintro ⟨ha, hr⟩
        have hx : xs = ps.map lnQ := by
          rw [← hr, sp_recL] at h1
          exact (List.append_inj_left' h1 rfl).symm
        rw [hx] at hi hs
        rw [rdL_s h4 hi ha] at hs
        cases hs

end Go.Proofs.YtmbhaoiahlbglaaDoor

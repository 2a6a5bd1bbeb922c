/- Walks: ShortestPrefix and its law. -/
import Derived.Test.YtmbhaoiahlbglaaHFk
import Derived.Test.YtmbhaoiahlbglaaKB
namespace Go.Proofs.Ytmbhaoiahlbglaa
open Go.RowKit
set_option linter.unusedVariables false
set_option linter.unusedSimpArgs false

/-! Digits and bits that two keys have in common. -/
theorem nib_bits : ∀ c, c < 256 → ((c / 16 = 0 ↔ ∀ t, t < 4 → c / 2 ^ (7 - t) % 2 = 0) ∧ (c % 16 = 0 ↔ ∀ t, t < 4 → c / 2 ^ (7 - (4 + t)) % 2 = 0)) := by decide +kernel
theorem hexD_inj : ∀ a, a < 16 → ∀ b, b < 16 → hexD a = hexD b → a = b := by decide +kernel
theorem bt_xorL (a b : List UInt8) (i : Nat) (ha : i < a.length) (hb : i < b.length) : bt (xorL a b) i = bt a i ^^^ bt b i := by
  have h : i < (xorL a b).length := by simp [xorL]; omega
  rw [bt_eq _ i h, bt_eq _ i ha, bt_eq _ i hb]
  simp [xorL]
theorem xor_nib (x y : Nat) (hx : x < 256) (hy : y < 256) : ((x ^^^ y) / 16 = 0 ↔ x / 16 = y / 16) ∧ ((x ^^^ y) % 16 = 0 ↔ x % 16 = y % 16) := by
  have h1 : (x ^^^ y) / 16 = (x / 16) ^^^ (y / 16) := by
    have := Nat.shiftRight_xor_distrib (a := x) (b := y) (i := 4)
    simpa [Nat.shiftRight_eq_div_pow] using this
  have h2 : (x ^^^ y) % 16 = (x % 16) ^^^ (y % 16) := Nat.xor_mod_two_pow (n := 4)
  rw [h1, h2]
  have key : ∀ a b : Nat, a ^^^ b = 0 ↔ a = b := fun a b => by
    constructor
    · intro h
      have : a ^^^ b ^^^ b = 0 ^^^ b := by rw [h]
      rw [Nat.xor_assoc, Nat.xor_self, Nat.xor_zero, Nat.zero_xor] at this
      exact this
    · rintro rfl
      exact Nat.xor_self _
  exact ⟨key _ _, key _ _⟩
theorem dig_bits (a b : List UInt8) (i : Nat) (hi : i < 64) (ha : a.length = 32) (hb : b.length = 32) : dig a i = dig b i ↔ ∀ t, t < 4 → bitAt (xorL a b) (4 * i + t) = false := by
  have hx := bt_xorL a b (i / 2) (by omega) (by omega)
  have hlx := (bt a (i / 2)).toNat_lt
  have hly := (bt b (i / 2)).toNat_lt
  have hn := xor_nib _ _ hlx hly
  have hc : (bt (xorL a b) (i / 2)).toNat = (bt a (i / 2)).toNat ^^^ (bt b (i / 2)).toNat := by rw [hx]; exact UInt8.toNat_xor _ _
  have hb8 := nib_bits (bt (xorL a b) (i / 2)).toNat (bt (xorL a b) (i / 2)).toNat_lt
  rw [← hc] at hn
  have hbit : ∀ t, t < 4 → (bitAt (xorL a b) (4 * i + t) = false ↔ (bt (xorL a b) (i / 2)).toNat / 2 ^ (7 - (4 * (i % 2) + t)) % 2 = 0) := fun t ht => by
    unfold bitAt
    rw [show (4 * i + t) / 8 = i / 2 by omega, show (4 * i + t) % 8 = 4 * (i % 2) + t by omega]
    generalize (bt (xorL a b) (i / 2)).toNat / 2 ^ (7 - (4 * (i % 2) + t)) = m
    rw [beq_eq_false_iff_ne]
    omega
  rcases Nat.mod_two_eq_zero_or_one i with h | h
  · have e : dig a i = dig b i ↔ (bt a (i / 2)).toNat / 16 = (bt b (i / 2)).toNat / 16 := by unfold dig; rw [if_pos h, if_pos h]
    rw [e, ← hn.1, hb8.1]
    constructor
    · intro h2 t ht
      rw [hbit t ht, h]
      simpa using h2 t ht
    · intro h2 t ht
      have := (hbit t ht).1 (h2 t ht)
      rw [h] at this
      simpa using this
  · have e : dig a i = dig b i ↔ (bt a (i / 2)).toNat % 16 = (bt b (i / 2)).toNat % 16 := by unfold dig; rw [if_neg (by omega), if_neg (by omega)]
    rw [e, ← hn.2, hb8.2]
    constructor
    · intro h2 t ht
      rw [hbit t ht, h]
      exact h2 t ht
    · intro h2 t ht
      have := (hbit t ht).1 (h2 t ht)
      rw [h] at this
      exact this
theorem leadFrom_ge (x : List UInt8) (m : Nat) : ∀ (n i : Nat), m ≤ i + n → (m ≤ leadFrom x n i ↔ ∀ t, i ≤ t → t < m → bitAt x t = false)
  | 0, i, h => ⟨fun _ t h1 h2 => by omega, fun _ => h⟩
  | n + 1, i, h => by
    cases hb : bitAt x i with
    | true =>
      rw [leadFrom_hit _ _ _ hb]
      constructor
      · intro h1 t h2 h3
        omega
      · intro h1
        rcases Nat.lt_or_ge i m with h2 | h2
        · have := h1 i (Nat.le_refl _) h2
          rw [hb] at this
          cases this
        · exact h2
    | false =>
      rw [leadFrom_next _ _ _ hb, leadFrom_ge x m n (i + 1) (by omega)]
      constructor
      · intro h1 t h2 h3
        rcases Nat.eq_or_lt_of_le h2 with e | e
        · rw [← e]
          exact hb
        · exact h1 t e h3
      · intro h1 t h2 h3
        exact h1 t (by omega) h3
theorem leadFrom_le (x : List UInt8) : ∀ (n i : Nat), leadFrom x n i ≤ i + n
  | 0, i => Nat.le_refl _
  | n + 1, i => by
    unfold leadFrom
    split
    · omega
    · have := leadFrom_le x n (i + 1)
      omega
/-- The bits that two keys have in common. -/
def cbK (x k : Ky) : Nat := leadFrom (xorL x.1 k.1) 256 0
theorem cbK_dig (x k : Ky) (m : Nat) (hm : m ≤ 64) : 4 * m ≤ cbK x k ↔ ∀ i, i < m → dig x.1 i = dig k.1 i := by
  unfold cbK
  rw [leadFrom_ge _ _ _ _ (by omega)]
  constructor
  · intro h i hi
    rw [dig_bits _ _ i (by omega) x.2 k.2]
    exact fun t ht => h _ (Nat.zero_le _) (by omega)
  · intro h t _ ht
    have := (dig_bits _ _ (t / 4) (by omega) x.2 k.2).1 (h (t / 4) (by omega)) (t % 4) (by omega)
    rwa [show 4 * (t / 4) + t % 4 = t by omega] at this
theorem hexL_take_eq (x k : Ky) (m : Nat) (hm : m ≤ 64) : (hexL x.1 64).take m = (hexL k.1 64).take m ↔ ∀ i, i < m → dig x.1 i = dig k.1 i := by
  constructor
  · intro h i hi
    have h2 : ((hexL x.1 64).take m)[i]? = ((hexL k.1 64).take m)[i]? := by rw [h]
    rw [List.getElem?_take_of_lt hi, List.getElem?_take_of_lt hi] at h2
    simp only [hexL, List.getElem?_map, List.getElem?_range (show i < 64 by omega), Option.map_some, Option.some.injEq] at h2
    exact hexD_inj _ (dig_lt _ _) _ (dig_lt _ _) h2
  · intro h
    apply List.ext_getElem?
    intro i
    by_cases hi : i < m
    · rw [List.getElem?_take_of_lt hi, List.getElem?_take_of_lt hi]
      simp only [hexL, List.getElem?_map, List.getElem?_range (show i < 64 by omega), Option.map_some, h i hi]
    · rw [List.getElem?_take_eq_none (by omega), List.getElem?_take_eq_none (by omega)]
theorem pk_cb (x k : Ky) (m : Nat) (hm : m ≤ 64) : pk ((hexL k.1 64).take m) x = decide (4 * m ≤ cbK x k) := by
  rw [pk_take, List.length_take, hexL_len, Nat.min_eq_left hm]
  exact decide_eq_decide.2 ((hexL_take_eq x k m hm).trans (cbK_dig x k m hm).symm)
theorem cbK_full (x k : Ky) (h : 256 ≤ cbK x k) : x = k := by
  have h1 := (cbK_dig x k 64 (Nat.le_refl _)).1 (by omega)
  refine Subtype.ext (List.ext_getElem? fun i => ?_)
  by_cases hi : i < 32
  · have e0 := h1 (2 * i) (by omega)
    have e1 := h1 (2 * i + 1) (by omega)
    unfold dig at e0 e1
    rw [if_pos (by omega), if_pos (by omega), show 2 * i / 2 = i by omega] at e0
    rw [if_neg (by omega), if_neg (by omega), show (2 * i + 1) / 2 = i by omega] at e1
    have hbt : bt x.1 i = bt k.1 i := UInt8.toNat_inj.1 (by omega)
    rw [bt_eq _ i (by rw [x.2]; exact hi), bt_eq _ i (by rw [k.2]; exact hi)] at hbt
    rw [List.getElem?_eq_getElem (by rw [x.2]; exact hi), List.getElem?_eq_getElem (by rw [k.2]; exact hi), hbt]
  · rw [List.getElem?_eq_none (by rw [x.2]; omega), List.getElem?_eq_none (by rw [k.2]; omega)]

/-! The least number of digits. -/
/-- What one key asks. -/
def spS (k : Ky) (m : Nat) (x : Ky) : Nat := if x = k then m else max m (cbK x k / 4 + 1)
def spN (k : Ky) (ks : List Ky) : Nat := ks.foldl (spS k) 1
theorem sp_bd (k : Ky) (m : Nat) (x : Ky) : m ≤ spS k m x ∧ (m ≤ 64 → spS k m x ≤ 64) := by
  unfold spS
  split
  · exact ⟨Nat.le_refl _, id⟩
  · rename_i h
    have h1 : cbK x k < 256 := by
      rcases Nat.lt_or_ge (cbK x k) 256 with c | c
      · exact c
      · exact absurd (cbK_full x k c) h
    omega
theorem sp_fold (k : Ky) : ∀ (ks : List Ky) (m : Nat), m ≤ ks.foldl (spS k) m ∧ (m ≤ 64 → ks.foldl (spS k) m ≤ 64) ∧ (∀ x ∈ ks, x ≠ k → cbK x k / 4 + 1 ≤ ks.foldl (spS k) m) ∧ (ks.foldl (spS k) m = m ∨ ∃ x ∈ ks, x ≠ k ∧ cbK x k / 4 + 1 = ks.foldl (spS k) m)
  | [], m => ⟨Nat.le_refl _, id, fun x h => by simp at h, .inl rfl⟩
  | x :: ks, m => by
    obtain ⟨h1, h2, h3, h4⟩ := sp_fold k ks (spS k m x)
    obtain ⟨b1, b2⟩ := sp_bd k m x
    rw [List.foldl_cons]
    refine ⟨Nat.le_trans b1 h1, fun h => h2 (b2 h), fun y hy hne => ?_, ?_⟩
    · rcases List.mem_cons.1 hy with rfl | hy
      · refine Nat.le_trans ?_ h1
        unfold spS
        rw [if_neg hne]
        omega
      · exact h3 y hy hne
    · rcases h4 with h4 | ⟨y, hy, hne, he⟩
      · rw [h4]
        by_cases hx : x = k
        · unfold spS
          rw [if_pos hx]
          exact .inl rfl
        · by_cases hm : cbK x k / 4 + 1 ≤ m
          · unfold spS
            rw [if_neg hx]
            exact .inl (by omega)
          · refine .inr ⟨x, by simp, hx, ?_⟩
            unfold spS
            rw [if_neg hx]
            omega
      · exact .inr ⟨y, by simp [hy], hne, he⟩
theorem spN_bd (k : Ky) (ks : List Ky) : 1 ≤ spN k ks ∧ spN k ks ≤ 64 := ⟨(sp_fold k ks 1).1, (sp_fold k ks 1).2.1 (by omega)⟩
/-- When the program goes on. -/
theorem spN_more (k : Ky) (ks : List Ky) (hk : k ∈ ks) (n : Nat) (h1 : 1 ≤ n) (h64 : n ≤ 64) : 1 < (wpK ((hexL k.1 64).take n) ks).length ↔ n < spN k ks := by
  have hmem : ∀ x, x ∈ wpK ((hexL k.1 64).take n) ks ↔ x ∈ ks ∧ 4 * n ≤ cbK x k := fun x => by
    rw [wpK_mem, List.mem_filter, pk_cb _ _ _ h64, decide_eq_true_eq]
  have hkk : k ∈ wpK ((hexL k.1 64).take n) ks := (hmem k).2 ⟨hk, (cbK_dig k k n h64).2 fun _ _ => rfl⟩
  have hnd := wpK_nodup ((hexL k.1 64).take n) ks
  have e1 : 1 < (wpK ((hexL k.1 64).take n) ks).length ↔ ∃ x ∈ wpK ((hexL k.1 64).take n) ks, x ≠ k := by
    generalize wpK ((hexL k.1 64).take n) ks = q at *
    match q, hkk, hnd with
    | [], h, _ => simp at h
    | [a], h, _ =>
      simp at h
      subst h
      simp
    | a :: b :: q, h, hnd =>
      refine ⟨fun _ => ?_, fun _ => by simp⟩
      by_cases ha : a = k
      · refine ⟨b, by simp, fun hb => ?_⟩
        rw [ha, hb] at hnd
        simp at hnd
      · exact ⟨a, by simp, ha⟩
  rw [e1]
  constructor
  · rintro ⟨x, hx, hne⟩
    obtain ⟨hx1, hx2⟩ := (hmem x).1 hx
    have := (sp_fold k ks 1).2.2.1 x hx1 hne
    show n < ks.foldl (spS k) 1
    omega
  · intro h
    rcases (sp_fold k ks 1).2.2.2 with h2 | ⟨x, hx, hne, he⟩
    · have : spN k ks = 1 := h2
      omega
    · have he : cbK x k / 4 + 1 = spN k ks := he
      exact ⟨x, (hmem x).2 ⟨hx, by omega⟩, hne⟩
/-- What ShortestPrefix gives. -/
def spT (ks : List Ky) (k : Ky) : Int × Int := if 256 < ks.length then (0, 3) else if k ∈ ks then ((spN k ks : Int), 0) else (0, 6)

/-- The first place of a key, or -1. -/
def ixK (k : Ky) (ks : List Ky) : Int := if k ∈ ks then (ks.findIdx (fun x => decide (k = x)) : Int) else -1
set_option maxHeartbeats 2000000 in
set_option maxRecDepth 100000 in
theorem indexKey_c (k : Ky) (v : Value) (n : Nat) (ks : List Ky) (hks : ks.length = n) (w : World) (hv : Rd w 32 v n (kyL ks)) :
    Ret Try.prog 127 #[v, .agg (bA k.1)] w fun r _ => r = .int .i64 (ixK k ks) := by
  obtain ⟨b, cap, rfl⟩ := hv.shape
  have hml : n ≤ maxLen := by have := hv.len_; omega
  have hmm : maxLen ≤ 9223372036854775807 := by decide
  have hml' : n ≤ 9223372036854775807 := by omega
  have HV := Lib.hid hv
  have HK := Lib.hid hks
  have hk32 := k.2
  refine ret_start fun wx M => ?_
  clear hv hks hmm
  go_enter Try.func127, Try.ntmps127
  go_wp2_with (first
    | (with_reducible (show wpList _ _ _ (Oper.mk (some 3) (.box _ _) _ _ _ _ :: _) _ _); (first | (refine m_boxA M rfl rfl rfl ?_) | (refine m_box1 (v := Value.int _ _) M rfl rfl rfl rfl ?_) | (refine m_box1 (v := Value.slice _ _ _) M rfl rfl rfl rfl ?_) | (refine m_box1 (v := Value.bool _) M rfl rfl rfl rfl ?_) | (refine m_box1 (v := Value.string _) M rfl rfl rfl rfl ?_) | (refine m_box1 (v := Value.pointer _) M rfl rfl rfl rfl ?_)); clear M; (try clear wx); intro g3 wx M)
    | (with_reducible (show wpList _ _ _ (Oper.mk _ (.load _ _) _ _ _ _ :: _) _ _); (first | (refine m_load M rfl rfl rfl (by first | assumption | rfl) ?_) | (refine m_loadR M rfl rfl rfl (by first | rfl | assumption | (simp; done) | (simp; omega)) ?_))))
  go_loopg [8] n (fun r i wr => ∃ j : Nat, j + r = n ∧ i = .int .i64 (j : Int) ∧ Hid (j ≤ ks.findIdx (fun x => decide (k = x))) ∧ Mem w wr [.blk g3 25 (bA k.1)])
  case atStart => exact ⟨0, by omega, rfl, Lib.hid (Nat.zero_le _), M⟩
  case round =>
    clear M
    obtain ⟨j, hj, rfl, HF, M⟩ := hrel
    by_cases hlt : j < n
    · obtain ⟨g, o, rfl, hc⟩ := HV.out.open_ (by omega)
      have hjl : j < ks.length := by rw [HK.out]; exact hlt
      obtain ⟨x, hx⟩ : ∃ x, ks[j]'hjl = x := ⟨_, rfl⟩
      have C1 := Lib.hid (show ∀ wx, Up w wx → wx.rangeAt g (o + j * 32) (bL x.1) from fun wx hb i u hu => by
        rw [Nat.add_assoc]
        exact hc wx hb _ _ (kyL_get ks j hjl i u (by rw [hx]; exact hu)))
      have HN : Hid (k ≠ x → j + 1 ≤ ks.findIdx (fun x => decide (k = x))) := Lib.hid (fun h => by
        rcases Nat.lt_or_ge j (ks.findIdx (fun x => decide (k = x))) with h1 | h1
        · exact h1
        · have h2 : ks.findIdx (fun x => decide (k = x)) = j := Nat.le_antisymm h1 HF.out
          have h3 := List.findIdx_getElem (p := fun x => decide (k = x)) (xs := ks) (w := by rw [h2]; exact hjl)
          simp only [h2, hx] at h3
          exact absurd (of_decide_eq_true h3) h)
      have HY : Hid (k = x → ixK k ks = (j : Int)) := Lib.hid (fun h => by
        have h1 : ks.findIdx (fun x => decide (k = x)) ≤ j := by
          rcases Nat.lt_or_ge j (ks.findIdx (fun x => decide (k = x))) with h1 | h1
          · have h3 := List.not_of_lt_findIdx h1
            simp only [hx] at h3
            simp [h] at h3
          · exact h1
        have h2 : ks.findIdx (fun x => decide (k = x)) = j := Nat.le_antisymm h1 HF.out
        rw [ixK, h2, if_pos (by rw [h, ← hx]; exact List.getElem_mem hjl)])
      have hx32 := x.2
      have HJ := Lib.hid hj
      clear hc hx HF hj
      go_wp2_with fail
      refine region_mono (m := 6) mixedOrders_ (by kernel_rfl) (by kernel_rfl)
        (fun | 0 => fun vq _ => vq = .agg (bA k.1) | 1 => fun vq _ => vq = .slice (some ⟨g, o, none⟩) n cap | 2 => fun vq _ => vq = .int .i64 (j : Int) | 3 => fun vq _ => vq = .pointer (some ⟨g, o + j * 32, none⟩) | 4 => fun vq _ => vq = .agg (bA (x.1)) | 5 => fun vq _ => vq = .bool (decide (k = x)) | _ => fun _ _ => True)
        (fun wx => Mem w wx [.blk g3 25 (bA k.1)]) ?_ ?_ ?_ ?_ ?_
      · intro j hj v w1 w2 hb h
        match j, hj with
        | 0, _ => exact h
        | 1, _ => exact h
        | 2, _ => exact h
        | 3, _ => exact h
        | 4, _ => exact h
        | 5, _ => exact h
      · intro w1 w2 hb h
        exact h.grow hb
      · exact M.grow ((Up.refl _).drew)
      · rintro i o hi ho av wv fr gM dep
        match i, hi with
        | 0, _ =>
          obtain rfl := Option.some.inj ho
          exact st_loadG gM rfl (fr.eval rfl) (by rw [bA_size, hk32]) rfl
        | 1, _ =>
          obtain rfl := Option.some.inj ho
          exact st_mov rfl (fr.eval rfl) rfl
        | 2, _ =>
          obtain rfl := Option.some.inj ho
          exact st_mov rfl (fr.eval rfl) rfl
        | 3, _ =>
          obtain rfl := Option.some.inj ho
          exact st_indexAddr rfl (dep ⟨1, .data⟩ (by simp) rfl) (dep ⟨2, .data⟩ (by simp) rfl) (ix_slice _ _ _ _ _ hlt _) rfl
        | 4, _ =>
          obtain rfl := Option.some.inj ho
          exact st_loadA rfl (dep ⟨3, .data⟩ (by simp) rfl) (C1.out _ gM.up) x.2 rfl
        | 5, _ =>
          obtain rfl := Option.some.inj ho
          exact st_bin rfl (dep ⟨0, .data⟩ (by simp) rfl) (dep ⟨4, .data⟩ (by simp) rfl) (key_eqlG _ _ _ _ _) rfl
      · rintro vs wv gM hf
        have f0 : vs 0 = .agg (bA k.1) := hf 0 (by omega)
        have f1 : vs 1 = .slice (some ⟨g, o, none⟩) n cap := hf 1 (by omega)
        have f2 : vs 2 = .int .i64 (j : Int) := hf 2 (by omega)
        have f3 : vs 3 = .pointer (some ⟨g, o + j * 32, none⟩) := hf 3 (by omega)
        have f4 : vs 4 = .agg (bA (x.1)) := hf 4 (by omega)
        have f5 : vs 5 = .bool (decide (k = x)) := hf 5 (by omega)
        by_cases hxy : k = x
        · rw [decide_eq_true hxy] at f5
          have HF2 := Lib.hid (HY.out hxy)
          clear HY HN hxy
          simp only [putAll, Act.put, List.getElem?_toArray, List.getElem?_cons_zero, List.getElem?_cons_succ, Option.bind_some, List.setIfInBounds_toArray, List.set_cons_zero, List.set_cons_succ, List.drop_succ_cons, List.drop_zero, List.drop_nil, f5]
          clear f0 f1 f2 f3 f4 f5 hf
          have M := gM
          go_wp2_with fail
          go_ret
          exact ⟨_, rfl, by rw [HF2.out]; rfl, M.up⟩
        · rw [decide_eq_false hxy] at f5
          have HS2 := Lib.hid (HN.out hxy)
          clear HY HN hxy
          simp only [putAll, Act.put, List.getElem?_toArray, List.getElem?_cons_zero, List.getElem?_cons_succ, Option.bind_some, List.setIfInBounds_toArray, List.set_cons_zero, List.set_cons_succ, List.drop_succ_cons, List.drop_zero, List.drop_nil, f5]
          clear f0 f1 f2 f3 f4 f5 hf
          have M := gM
          go_wp2_with fail
          have hj := HJ.out
          go_roundg (gk - 1)
          case measure => omega
          case rel => exact ⟨j + 1, by omega, by go_num, HS2, M⟩
    · have MM := Lib.hid M
      have HE := Lib.hid (show ixK k ks = -1 by
        rw [ixK, if_neg]
        intro hk
        have h1 := List.findIdx_lt_length_of_exists (p := fun x => decide (k = x)) (xs := ks) ⟨k, hk, by simp⟩
        have := HF.out
        rw [HK.out] at h1
        omega)
      clear HF
      go_wp2_with fail
      go_ret
      exact ⟨_, rfl, by rw [HE.out]; rfl, MM.out.up⟩

set_option maxHeartbeats 1000000 in
set_option maxRecDepth 100000 in
theorem containsKey_c (k : Ky) (v : Value) (n : Nat) (ks : List Ky) (hks : ks.length = n) (w : World) (hv : Rd w 32 v n (kyL ks)) :
    Ret Try.prog 92 #[v, .agg (bA k.1)] w fun r _ => r = .bool (decide (k ∈ ks)) := by
  obtain ⟨b, cap, rfl⟩ := hv.shape
  have HV := Lib.hid hv
  have hk32 := k.2
  refine ret_start fun wx M => ?_
  have HI := Lib.hid (fun (v : Value) (w : World) (h : Rd w 32 v n (kyL ks)) => indexKey_c k v n ks hks w h)
  clear hv hks
  by_cases hk : k ∈ ks
  · rw [decide_eq_true hk]
    rw [show ixK k ks = (ks.findIdx (fun x => decide (k = x)) : Int) by rw [ixK, if_pos hk]] at HI
    clear hk
    generalize ks.findIdx (fun x => decide (k = x)) = q at *
    go_enter Try.func92, Try.ntmps92
    go_wp2_with (first
      | (go_at_call 127; (with_reducible refine mem_call M (HI.out _ _ (HV.out.up M.up)) ?_); clear M; (try clear wx); rintro _ wx rfl _ M)
      | (with_reducible (show wpList _ _ _ (Oper.mk (some 3) (.box _ _) _ _ _ _ :: _) _ _); (first | (refine m_boxA M rfl rfl rfl ?_) | (refine m_box1 (v := Value.int _ _) M rfl rfl rfl rfl ?_) | (refine m_box1 (v := Value.slice _ _ _) M rfl rfl rfl rfl ?_) | (refine m_box1 (v := Value.bool _) M rfl rfl rfl rfl ?_) | (refine m_box1 (v := Value.string _) M rfl rfl rfl rfl ?_) | (refine m_box1 (v := Value.pointer _) M rfl rfl rfl rfl ?_)); clear M; (try clear wx); intro g3 wx M)
      | (with_reducible (show wpList _ _ _ (Oper.mk _ (.load _ _) _ _ _ _ :: _) _ _); (first | (refine m_load M rfl rfl rfl (by first | assumption | rfl) ?_) | (refine m_loadR M rfl rfl rfl (by first | rfl | assumption | (simp; done) | (simp; omega)) ?_))))
    go_ret
    exact ⟨_, rfl, by simp, M.up⟩
  · rw [decide_eq_false hk]
    rw [show ixK k ks = -1 by rw [ixK, if_neg hk]] at HI
    clear hk
    go_enter Try.func92, Try.ntmps92
    go_wp2_with (first
      | (go_at_call 127; (with_reducible refine mem_call M (HI.out _ _ (HV.out.up M.up)) ?_); clear M; (try clear wx); rintro _ wx rfl _ M)
      | (with_reducible (show wpList _ _ _ (Oper.mk (some 3) (.box _ _) _ _ _ _ :: _) _ _); (first | (refine m_boxA M rfl rfl rfl ?_) | (refine m_box1 (v := Value.int _ _) M rfl rfl rfl rfl ?_) | (refine m_box1 (v := Value.slice _ _ _) M rfl rfl rfl rfl ?_) | (refine m_box1 (v := Value.bool _) M rfl rfl rfl rfl ?_) | (refine m_box1 (v := Value.string _) M rfl rfl rfl rfl ?_) | (refine m_box1 (v := Value.pointer _) M rfl rfl rfl rfl ?_)); clear M; (try clear wx); intro g3 wx M)
      | (with_reducible (show wpList _ _ _ (Oper.mk _ (.load _ _) _ _ _ _ :: _) _ _); (first | (refine m_load M rfl rfl rfl (by first | assumption | rfl) ?_) | (refine m_loadR M rfl rfl rfl (by first | rfl | assumption | (simp; done) | (simp; omega)) ?_))))
    go_ret
    exact ⟨_, rfl, rfl, M.up⟩

set_option maxHeartbeats 4000000 in
set_option maxRecDepth 100000 in
theorem implShortestPrefix_c (k : Ky) (v : Value) (n : Nat) (ks : List Ky) (hks : ks.length = n) (w : World) (hv : Rd w 32 v n (kyL ks)) (hn : n ≤ 1048576) :
    Ret Try.prog 36 #[v, .agg (bA k.1)] w fun r _ => r = .tuple #[.int .i64 (spT ks k).1, .int .i64 (spT ks k).2] := by
  obtain ⟨b, cap, rfl⟩ := hv.shape
  have HV := Lib.hid hv
  have HK := Lib.hid hks
  have hk32 := k.2
  refine ret_start fun wx M => ?_
  clear hv
  by_cases hbig : 256 < n
  · have HE := Lib.hid (show spT ks k = (0, 3) by rw [spT, if_pos (by omega)])
    clear hks
    go_enter Try.func36, Try.ntmps36
    go_wp2_with (first
      | (with_reducible (show wpList _ _ _ (Oper.mk (some 3) (.box _ _) _ _ _ _ :: _) _ _); (first | (refine m_boxA M rfl rfl rfl ?_) | (refine m_box1 (v := Value.int _ _) M rfl rfl rfl rfl ?_) | (refine m_box1 (v := Value.slice _ _ _) M rfl rfl rfl rfl ?_) | (refine m_box1 (v := Value.bool _) M rfl rfl rfl rfl ?_) | (refine m_box1 (v := Value.string _) M rfl rfl rfl rfl ?_) | (refine m_box1 (v := Value.pointer _) M rfl rfl rfl rfl ?_)); clear M; (try clear wx); intro g3 wx M)
      | (with_reducible (show wpList _ _ _ (Oper.mk _ (.load _ _) _ _ _ _ :: _) _ _); (first | (refine m_load M rfl rfl rfl (by first | assumption | rfl) ?_) | (refine m_loadR M rfl rfl rfl (by first | rfl | assumption | (simp; done) | (simp; omega)) ?_))))
    go_ret2
    exact ⟨_, rfl, by rw [HE.out]; rfl, M.up⟩
  · have HC := Lib.hid (fun (v : Value) (w : World) (h : Rd w 32 v n (kyL ks)) => containsKey_c k v n ks hks w h)
    by_cases hk : k ∈ ks
    · rw [decide_eq_true hk] at HC
      have HE := Lib.hid (show spT ks k = ((spN k ks : Int), 0) by rw [spT, if_neg (by omega), if_pos hk])
      have HMORE := Lib.hid (fun m (h1 : 1 ≤ m) (h2 : m ≤ 64) => spN_more k ks hk m h1 h2)
      have HB := spN_bd k ks
      obtain ⟨N, hN⟩ : ∃ N, spN k ks = N := ⟨_, rfl⟩
      rw [hN] at HE HB HMORE
      have HTX := Lib.hid (fun w => implKeyText_c k.1 hk32 w)
      have hts := keyTx_size k.1
      clear hks hk hN
      go_enter Try.func36, Try.ntmps36
      go_wp2_with (first
        | (go_at_call 92; (with_reducible refine mem_call M (HC.out _ _ (HV.out.up M.up)) ?_); clear M; (try clear wx); rintro _ wx rfl _ M)
        | (with_reducible (show wpList _ _ _ (Oper.mk (some 3) (.box _ _) _ _ _ _ :: _) _ _); (first | (refine m_boxA M rfl rfl rfl ?_) | (refine m_box1 (v := Value.int _ _) M rfl rfl rfl rfl ?_) | (refine m_box1 (v := Value.slice _ _ _) M rfl rfl rfl rfl ?_) | (refine m_box1 (v := Value.bool _) M rfl rfl rfl rfl ?_) | (refine m_box1 (v := Value.string _) M rfl rfl rfl rfl ?_) | (refine m_box1 (v := Value.pointer _) M rfl rfl rfl rfl ?_)); clear M; (try clear wx); intro g3 wx M)
        | (with_reducible (show wpList _ _ _ (Oper.mk _ (.load _ _) _ _ _ _ :: _) _ _); (first | (refine m_load M rfl rfl rfl (by first | assumption | rfl) ?_) | (refine m_loadR M rfl rfl rfl (by first | exact hk32 | (rw [bA_size, hk32]; done) | rfl | (simp; done)) ?_))))
      go_loopg [6] (N - 1) (fun r i wr => ∃ m : Nat, m + r = N ∧ 1 ≤ m ∧ i = .int .i64 (m : Int) ∧ Mem w wr [.blk g3 25 (bA k.1)])
      case atStart => exact ⟨1, by omega, Nat.le_refl _, rfl, M⟩
      case round =>
        clear M
        obtain ⟨m, hm, hm1, rfl, M⟩ := hrel
        have hm64 : m ≤ 64 := by omega
        have HWP := Lib.hid (fun (v : Value) (w : World) (h : Rd w 32 v n (kyL ks)) => withPrefix_c ((keyTx k.1).extract 0 m) v n ks HK.out w h hn)
        have hpre : ((keyTx k.1).extract 0 m).data.toList = (hexL k.1 64).take m := by
          rw [ByteArray.data_extract, Array.toList_extract, keyTx_list]
          simp [List.extract]
        rw [hpre] at HWP
        have HMO := HMORE.out m hm1 hm64
        clear hpre
        generalize wpK ((hexL k.1 64).take m) ks = q at *
        obtain ⟨d, hd⟩ : ∃ d, q.length = d := ⟨_, rfl⟩
        rw [hd] at HWP HMO
        clear hd
        have HM := Lib.hid hm
        by_cases hlt : m < N
        · have hd1 : (1 : Int) < (d : Int) := by have := HMO.2 hlt; omega
          clear HMO hm
          go_wp2_with (first
            | (go_at_call 93; (with_reducible refine mem_call M (Ret.of (HTX.out _)) ?_); clear M; (try clear wx); rintro _ wx rfl _ M)
            | (go_at_call 81; (with_reducible refine mem_callO M (HWP.out _ _ (HV.out.up M.up)) ?_); clear M; (try clear wx); intro bz cz wx M)
            | (with_reducible (show wpList _ _ _ (Oper.mk (some 3) (.box _ _) _ _ _ _ :: _) _ _); (first | (refine m_boxA M rfl rfl rfl ?_) | (refine m_box1 (v := Value.int _ _) M rfl rfl rfl rfl ?_) | (refine m_box1 (v := Value.slice _ _ _) M rfl rfl rfl rfl ?_) | (refine m_box1 (v := Value.bool _) M rfl rfl rfl rfl ?_) | (refine m_box1 (v := Value.string _) M rfl rfl rfl rfl ?_) | (refine m_box1 (v := Value.pointer _) M rfl rfl rfl rfl ?_)); clear M; (try clear wx); intro g3 wx M)
            | (with_reducible (show wpList _ _ _ (Oper.mk _ (.load _ _) _ _ _ _ :: _) _ _); (first | (refine m_load M rfl rfl rfl (by first | assumption | rfl) ?_) | (refine m_loadR M rfl rfl rfl (by first | exact hk32 | (rw [bA_size, hk32]; done) | rfl | (simp; done)) ?_))))
          have M := M.tail
          have hm := HM.out
          go_roundg (gk - 1)
          case measure => omega
          case rel => exact ⟨m + 1, by omega, by omega, by go_num, M⟩
        · have hd1 : ¬ (1 : Int) < (d : Int) := by
            have := fun h => hlt (HMO.1 h)
            omega
          obtain rfl : m = N := by omega
          clear HMO hm
          go_wp2_with (first
            | (go_at_call 93; (with_reducible refine mem_call M (Ret.of (HTX.out _)) ?_); clear M; (try clear wx); rintro _ wx rfl _ M)
            | (go_at_call 81; (with_reducible refine mem_callO M (HWP.out _ _ (HV.out.up M.up)) ?_); clear M; (try clear wx); intro bz cz wx M)
            | (with_reducible (show wpList _ _ _ (Oper.mk (some 3) (.box _ _) _ _ _ _ :: _) _ _); (first | (refine m_boxA M rfl rfl rfl ?_) | (refine m_box1 (v := Value.int _ _) M rfl rfl rfl rfl ?_) | (refine m_box1 (v := Value.slice _ _ _) M rfl rfl rfl rfl ?_) | (refine m_box1 (v := Value.bool _) M rfl rfl rfl rfl ?_) | (refine m_box1 (v := Value.string _) M rfl rfl rfl rfl ?_) | (refine m_box1 (v := Value.pointer _) M rfl rfl rfl rfl ?_)); clear M; (try clear wx); intro g3 wx M)
            | (with_reducible (show wpList _ _ _ (Oper.mk _ (.load _ _) _ _ _ _ :: _) _ _); (first | (refine m_load M rfl rfl rfl (by first | assumption | rfl) ?_) | (refine m_loadR M rfl rfl rfl (by first | exact hk32 | (rw [bA_size, hk32]; done) | rfl | (simp; done)) ?_))))
          go_ret2
          exact ⟨_, rfl, by rw [HE.out]; rfl, M.up⟩
    · rw [decide_eq_false hk] at HC
      have HE := Lib.hid (show spT ks k = (0, 6) by rw [spT, if_neg (by omega), if_neg hk])
      clear hks hk
      go_enter Try.func36, Try.ntmps36
      go_wp2_with (first
        | (go_at_call 92; (with_reducible refine mem_call M (HC.out _ _ (HV.out.up M.up)) ?_); clear M; (try clear wx); rintro _ wx rfl _ M)
        | (with_reducible (show wpList _ _ _ (Oper.mk (some 3) (.box _ _) _ _ _ _ :: _) _ _); (first | (refine m_boxA M rfl rfl rfl ?_) | (refine m_box1 (v := Value.int _ _) M rfl rfl rfl rfl ?_) | (refine m_box1 (v := Value.slice _ _ _) M rfl rfl rfl rfl ?_) | (refine m_box1 (v := Value.bool _) M rfl rfl rfl rfl ?_) | (refine m_box1 (v := Value.string _) M rfl rfl rfl rfl ?_) | (refine m_box1 (v := Value.pointer _) M rfl rfl rfl rfl ?_)); clear M; (try clear wx); intro g3 wx M)
        | (with_reducible (show wpList _ _ _ (Oper.mk _ (.load _ _) _ _ _ _ :: _) _ _); (first | (refine m_load M rfl rfl rfl (by first | assumption | rfl) ?_) | (refine m_loadR M rfl rfl rfl (by first | exact hk32 | (rw [bA_size, hk32]; done) | rfl | (simp; done)) ?_))))
      go_ret2
      exact ⟨_, rfl, by rw [HE.out]; rfl, M.up⟩

set_option maxHeartbeats 400000 in
theorem l00Max_c (a b : Nat) (w : World) : Ret Try.prog 90 #[.int .i64 (a : Int), .int .i64 (b : Int)] w fun r _ => r = .int .i64 ((max a b : Nat) : Int) := by
  refine ret_start fun wx M => ?_
  by_cases h : b < a
  · have hc : (b : Int) < (a : Int) := by omega
    have HE := Lib.hid (show max a b = a by omega)
    clear h
    go_enter Try.func90, Try.ntmps90
    go_wp2_with fail
    go_ret
    exact ⟨_, rfl, by rw [HE.out]; rfl, M.up⟩
  · have hc : ¬ (b : Int) < (a : Int) := by omega
    have HE := Lib.hid (show max a b = b by omega)
    clear h
    go_enter Try.func90, Try.ntmps90
    go_wp2_with fail
    go_ret
    exact ⟨_, rfl, by rw [HE.out]; rfl, M.up⟩
theorem bin_quo4 (a q : Nat) (h : a / 4 = q) (hb : a ≤ 256) (x y : Operand) (w : World) : Sem.run Try.prog (do eqGuard .quo 2 x y (.int .i64 (a : Int)) (.int .i64 4); binOp .quo 2 (.int .i64 (a : Int)) (.int .i64 4)) w = .ok (.int .i64 (q : Int)) w := by
  subst h
  go_simp
  try (refine congrArg (fun z => Result.ok (Value.int IntKind.i64 z) w) ?_)
  try (simp only [Int.tdiv_eq_ediv_of_nonneg (show (0 : Int) ≤ (a : Int) by omega)])
  try rw [i64_in_ _ (by omega)]
  try omega
theorem bin_add1 (q : Nat) (hb : q ≤ 256) (x y : Operand) (w : World) : Sem.run Try.prog (do eqGuard .add 2 x y (.int .i64 (q : Int)) (.int .i64 1); binOp .add 2 (.int .i64 (q : Int)) (.int .i64 1)) w = .ok (.int .i64 ((q + 1 : Nat) : Int)) w := by
  go_simp
  try (refine congrArg (fun z => Result.ok (Value.int IntKind.i64 z) w) ?_)
  try rw [i64_in_ _ (by omega)]
  try omega

theorem sp_snoc (k : Ky) (l : List Ky) (x : Ky) : spN k (l ++ [x]) = spS k (spN k l) x := by simp [spN, List.foldl_append]
set_option maxHeartbeats 4000000 in
set_option maxRecDepth 100000 in
theorem specShortestPrefix_c (k : Ky) (v : Value) (n : Nat) (ks : List Ky) (hks : ks.length = n) (w : World) (hv : Rd w 32 v n (kyL ks)) (hn : n ≤ 1048576) :
    Ret Try.prog 35 #[v, .agg (bA k.1)] w fun r _ => r = .tuple #[.int .i64 (spT ks k).1, .int .i64 (spT ks k).2] := by
  obtain ⟨b, cap, rfl⟩ := hv.shape
  have HV := Lib.hid hv
  have HK := Lib.hid hks
  have hk32 := k.2
  refine ret_start fun wx M => ?_
  clear hv
  by_cases hbig : 256 < n
  · have HE := Lib.hid (show spT ks k = (0, 3) by rw [spT, if_pos (by omega)])
    clear hks
    go_enter Try.func35, Try.ntmps35
    go_wp2_with (first
      | (with_reducible (show wpList _ _ _ (Oper.mk (some 3) (.box _ _) _ _ _ _ :: _) _ _); (first | (refine m_boxA M rfl rfl rfl ?_) | (refine m_box1 (v := Value.int _ _) M rfl rfl rfl rfl ?_) | (refine m_box1 (v := Value.slice _ _ _) M rfl rfl rfl rfl ?_) | (refine m_box1 (v := Value.bool _) M rfl rfl rfl rfl ?_) | (refine m_box1 (v := Value.string _) M rfl rfl rfl rfl ?_) | (refine m_box1 (v := Value.pointer _) M rfl rfl rfl rfl ?_)); clear M; (try clear wx); intro g3 wx M)
      | (with_reducible (show wpList _ _ _ (Oper.mk _ (.load _ _) _ _ _ _ :: _) _ _); (first | (refine m_load M rfl rfl rfl (by first | assumption | rfl) ?_) | (refine m_loadR M rfl rfl rfl (by first | rfl | assumption | (simp; done) | (simp; omega)) ?_))))
    go_ret2
    exact ⟨_, rfl, by rw [HE.out]; rfl, M.up⟩
  · have HC := Lib.hid (fun (v : Value) (w : World) (h : Rd w 32 v n (kyL ks)) => l01Has_c v n ks hks k w h hn)
    by_cases hk : k ∈ ks
    · rw [decide_eq_true hk] at HC
      have HE := Lib.hid (show spT ks k = ((spN k ks : Int), 0) by rw [spT, if_neg (by omega), if_pos hk])
      clear hks hk
      go_enter Try.func35, Try.ntmps35
      go_wp2_with (first
        | (go_at_call 89; (with_reducible refine mem_call M (HC.out _ _ (HV.out.up M.up)) ?_); clear M; (try clear wx); rintro _ wx rfl _ M)
        | (with_reducible (show wpList _ _ _ (Oper.mk (some 3) (.box _ _) _ _ _ _ :: _) _ _); (first | (refine m_boxA M rfl rfl rfl ?_) | (refine m_box1 (v := Value.int _ _) M rfl rfl rfl rfl ?_) | (refine m_box1 (v := Value.slice _ _ _) M rfl rfl rfl rfl ?_) | (refine m_box1 (v := Value.bool _) M rfl rfl rfl rfl ?_) | (refine m_box1 (v := Value.string _) M rfl rfl rfl rfl ?_) | (refine m_box1 (v := Value.pointer _) M rfl rfl rfl rfl ?_)); clear M; (try clear wx); intro g3 wx M)
        | (with_reducible (show wpList _ _ _ (Oper.mk _ (.load _ _) _ _ _ _ :: _) _ _); (first | (refine m_load M rfl rfl rfl (by first | assumption | rfl) ?_) | (refine m_loadR M rfl rfl rfl (by first | exact hk32 | (rw [bA_size, hk32]; done) | rfl | (simp; done)) ?_))))
      go_loopg [6, 7] n (fun r m i wr => ∃ j q : Nat, j + r = n ∧ m = .int .i64 (q : Int) ∧ i = .int .i64 (j : Int) ∧ Hid (spN k (ks.take j) = q) ∧ Mem w wr [.blk g3 25 (bA k.1)])
      case atStart => exact ⟨0, 1, by omega, rfl, rfl, Lib.hid rfl, M⟩
      case round =>
        clear M
        obtain ⟨j, q, hj, rfl, rfl, HQ, M⟩ := hrel
        by_cases hlt : j < n
        · obtain ⟨g, o, rfl, hc⟩ := HV.out.open_ (by omega)
          have hjl : j < ks.length := by rw [HK.out]; exact hlt
          obtain ⟨x, hx⟩ : ∃ x, ks[j]'hjl = x := ⟨_, rfl⟩
          have C1 := Lib.hid (show ∀ wx, Up w wx → wx.rangeAt g (o + j * 32) (bL x.1) from fun wx hb i u hu => by
            rw [Nat.add_assoc]
            exact hc wx hb _ _ (kyL_get ks j hjl i u (by rw [hx]; exact hu)))
          have HTS := Lib.hid (show spN k (ks.take (j + 1)) = spS k q x by rw [List.take_succ_eq_append_getElem hjl, hx, sp_snoc, HQ.out])
          have hx32 := x.2
          have HJ := Lib.hid hj
          clear hc hx hj
          obtain ⟨c, hcc⟩ : ∃ c, (!decide (x = k)) = c := ⟨_, rfl⟩
          have HCC := Lib.hid hcc
          clear hcc
          go_wp2_with fail
          refine region_mono (m := 6) mixedOrders_ (by kernel_rfl) (by kernel_rfl)
            (fun | 0 => fun vq _ => vq = .slice (some ⟨g, o, none⟩) n cap | 1 => fun vq _ => vq = .int .i64 (j : Int) | 2 => fun vq _ => vq = .pointer (some ⟨g, o + j * 32, none⟩) | 3 => fun vq _ => vq = .agg (bA (x.1)) | 4 => fun vq _ => vq = .agg (bA k.1) | 5 => fun vq _ => vq = .bool c | _ => fun _ _ => True)
            (fun wx => Mem w wx [.blk g3 25 (bA k.1)]) ?_ ?_ ?_ ?_ ?_
          · intro j hj v w1 w2 hb h
            match j, hj with
            | 0, _ => exact h
            | 1, _ => exact h
            | 2, _ => exact h
            | 3, _ => exact h
            | 4, _ => exact h
            | 5, _ => exact h
          · intro w1 w2 hb h
            exact h.grow hb
          · exact M.grow ((Up.refl _).drew)
          · rintro i o hi ho av wv fr gM dep
            match i, hi with
            | 0, _ =>
              obtain rfl := Option.some.inj ho
              exact st_mov rfl (fr.eval rfl) rfl
            | 1, _ =>
              obtain rfl := Option.some.inj ho
              exact st_mov rfl (fr.eval rfl) rfl
            | 2, _ =>
              obtain rfl := Option.some.inj ho
              exact st_indexAddr rfl (dep ⟨0, .data⟩ (by simp) rfl) (dep ⟨1, .data⟩ (by simp) rfl) (ix_slice _ _ _ _ _ hlt _) rfl
            | 3, _ =>
              obtain rfl := Option.some.inj ho
              exact st_loadA rfl (dep ⟨2, .data⟩ (by simp) rfl) (C1.out _ gM.up) x.2 rfl
            | 4, _ =>
              obtain rfl := Option.some.inj ho
              exact st_loadG gM rfl (fr.eval rfl) (by rw [bA_size, hk32]) rfl
            | 5, _ =>
              obtain rfl := Option.some.inj ho
              exact st_bin rfl (dep ⟨3, .data⟩ (by simp) rfl) (dep ⟨4, .data⟩ (by simp) rfl) (key_neqG x k c HCC.out _ _ _) rfl
          · rintro vs wv gM hf
            have f0 : vs 0 = .slice (some ⟨g, o, none⟩) n cap := hf 0 (by omega)
            have f1 : vs 1 = .int .i64 (j : Int) := hf 1 (by omega)
            have f2 : vs 2 = .pointer (some ⟨g, o + j * 32, none⟩) := hf 2 (by omega)
            have f3 : vs 3 = .agg (bA (x.1)) := hf 3 (by omega)
            have f4 : vs 4 = .agg (bA k.1) := hf 4 (by omega)
            have f5 : vs 5 = .bool c := hf 5 (by omega)
            simp only [putAll, Act.put, List.getElem?_toArray, List.getElem?_cons_zero, List.getElem?_cons_succ, Option.bind_some, List.setIfInBounds_toArray, List.set_cons_zero, List.set_cons_succ, List.drop_succ_cons, List.drop_zero, List.drop_nil, f5]
            clear f0 f1 f2 f3 f4 f5 hf
            have M := gM
            cases c with
            | false =>
              have HN := Lib.hid (show spS k q x = q by have h : x = k := (by simpa using HCC.out); unfold spS; rw [if_pos h])
              go_wp2_with fail
              have hj := HJ.out
              go_roundg (n - j - 1)
              case measure => omega
              case rel => exact ⟨j + 1, q, by omega, rfl, by go_num, Lib.hid (by rw [HTS.out, HN.out]), M⟩
            | true =>
              have HN := Lib.hid (show spS k q x = max q (cbK x k / 4 + 1) by have h : x ≠ k := (by simpa using HCC.out); unfold spS; rw [if_neg h])
              have hcb : cbK x k ≤ 256 := by have := leadFrom_le (xorL x.1 k.1) 256 0; show leadFrom _ _ _ ≤ 256; omega
              have HCB := Lib.hid (fun w => specCommonBits_c x.1 k.1 hx32 hk32 w)
              rw [show leadFrom (xorL x.1 k.1) 256 0 = cbK x k from rfl] at HCB
              generalize cbK x k = z at *
              obtain ⟨y, hy⟩ : ∃ y, z / 4 = y := ⟨_, rfl⟩
              have hy64 : y ≤ 256 := by omega
              rw [hy] at HN
              go_wp2_with fail
              refine region_mono (m := 10) mixedOrders_ (by kernel_rfl) (by kernel_rfl)
                (fun | 0 => fun vq _ => vq = .int .i64 (q : Int) | 1 => fun vq _ => vq = .slice (some ⟨g, o, none⟩) n cap | 2 => fun vq _ => vq = .int .i64 (j : Int) | 3 => fun vq _ => vq = .pointer (some ⟨g, o + j * 32, none⟩) | 4 => fun vq _ => vq = .agg (bA (x.1)) | 5 => fun vq _ => vq = .agg (bA k.1) | 6 => fun vq _ => vq = .int .i64 (z : Int) | 7 => fun vq _ => vq = .int .i64 (y : Int) | 8 => fun vq _ => vq = .int .i64 ((y + 1 : Nat) : Int) | 9 => fun vq _ => vq = .int .i64 ((max q (y + 1) : Nat) : Int) | _ => fun _ _ => True)
                (fun wx => Mem w wx [.blk g3 25 (bA k.1)]) ?_ ?_ ?_ ?_ ?_
              · intro j hj v w1 w2 hb h
                match j, hj with
                | 0, _ => exact h
                | 1, _ => exact h
                | 2, _ => exact h
                | 3, _ => exact h
                | 4, _ => exact h
                | 5, _ => exact h
                | 6, _ => exact h
                | 7, _ => exact h
                | 8, _ => exact h
                | 9, _ => exact h
              · intro w1 w2 hb h
                exact h.grow hb
              · exact M.grow ((Up.refl _).drew)
              · rintro i o hi ho av wv fr gM dep
                match i, hi with
                | 0, _ =>
                  obtain rfl := Option.some.inj ho
                  exact st_mov rfl (fr.eval rfl) rfl
                | 1, _ =>
                  obtain rfl := Option.some.inj ho
                  exact st_mov rfl (fr.eval rfl) rfl
                | 2, _ =>
                  obtain rfl := Option.some.inj ho
                  exact st_mov rfl (fr.eval rfl) rfl
                | 3, _ =>
                  obtain rfl := Option.some.inj ho
                  exact st_indexAddr rfl (dep ⟨1, .data⟩ (by simp) rfl) (dep ⟨2, .data⟩ (by simp) rfl) (ix_slice _ _ _ _ _ hlt _) rfl
                | 4, _ =>
                  obtain rfl := Option.some.inj ho
                  exact st_loadA rfl (dep ⟨3, .data⟩ (by simp) rfl) (C1.out _ gM.up) x.2 rfl
                | 5, _ =>
                  obtain rfl := Option.some.inj ho
                  exact st_loadG gM rfl (fr.eval rfl) (by rw [bA_size, hk32]) rfl
                | 6, _ =>
                  obtain rfl := Option.some.inj ho
                  have d0 := dep ⟨4, .data⟩ (by simp) rfl
                  have d1 := dep ⟨5, .data⟩ (by simp) rfl
                  exact st_ret2 rfl (fun _ _ => by kernel_rfl) d0 d1 (Ret.of (HCB.out _)) (fun r w' h _ => h)
                | 7, _ =>
                  obtain rfl := Option.some.inj ho
                  exact st_bin rfl (dep ⟨6, .data⟩ (by simp) rfl) (rfl) (bin_quo4 z y hy hcb _ _ _) rfl
                | 8, _ =>
                  obtain rfl := Option.some.inj ho
                  exact st_bin rfl (dep ⟨7, .data⟩ (by simp) rfl) (rfl) (bin_add1 y hy64 _ _ _) rfl
                | 9, _ =>
                  obtain rfl := Option.some.inj ho
                  have d0 := dep ⟨0, .data⟩ (by simp) rfl
                  have d1 := dep ⟨8, .data⟩ (by simp) rfl
                  exact st_ret2 rfl (fun _ _ => by kernel_rfl) d0 d1 (l00Max_c q (y + 1) _) (fun r w' h _ => h)
              · rintro vs wv gM hf
                have f0 : vs 0 = .int .i64 (q : Int) := hf 0 (by omega)
                have f1 : vs 1 = .slice (some ⟨g, o, none⟩) n cap := hf 1 (by omega)
                have f2 : vs 2 = .int .i64 (j : Int) := hf 2 (by omega)
                have f3 : vs 3 = .pointer (some ⟨g, o + j * 32, none⟩) := hf 3 (by omega)
                have f4 : vs 4 = .agg (bA (x.1)) := hf 4 (by omega)
                have f5 : vs 5 = .agg (bA k.1) := hf 5 (by omega)
                have f6 : vs 6 = .int .i64 (z : Int) := hf 6 (by omega)
                have f7 : vs 7 = .int .i64 (y : Int) := hf 7 (by omega)
                have f8 : vs 8 = .int .i64 ((y + 1 : Nat) : Int) := hf 8 (by omega)
                have f9 : vs 9 = .int .i64 ((max q (y + 1) : Nat) : Int) := hf 9 (by omega)
                simp only [putAll, Act.put, List.getElem?_toArray, List.getElem?_cons_zero, List.getElem?_cons_succ, Option.bind_some, List.setIfInBounds_toArray, List.set_cons_zero, List.set_cons_succ, List.drop_succ_cons, List.drop_zero, List.drop_nil, f9]
                clear f0 f1 f2 f3 f4 f5 f6 f7 f8 f9 hf
                have M := gM
                go_wp2_with fail
                have hj := HJ.out
                go_roundg (n - j - 1)
                case measure => omega
                case rel => exact ⟨j + 1, max q (y + 1), by omega, by go_num, by go_num, Lib.hid (by rw [HTS.out, HN.out]), M⟩
        · have HE2 := Lib.hid (show spN k ks = q by have := HQ.out; rwa [List.take_of_length_le (by rw [HK.out]; omega)] at this)
          clear HQ hj
          go_wp2_with fail
          go_ret2
          exact ⟨_, rfl, by rw [HE.out, HE2.out]; rfl, M.up⟩
    · rw [decide_eq_false hk] at HC
      have HE := Lib.hid (show spT ks k = (0, 6) by rw [spT, if_neg (by omega), if_neg hk])
      clear hks hk
      go_enter Try.func35, Try.ntmps35
      go_wp2_with (first
        | (go_at_call 89; (with_reducible refine mem_call M (HC.out _ _ (HV.out.up M.up)) ?_); clear M; (try clear wx); rintro _ wx rfl _ M)
        | (with_reducible (show wpList _ _ _ (Oper.mk (some 3) (.box _ _) _ _ _ _ :: _) _ _); (first | (refine m_boxA M rfl rfl rfl ?_) | (refine m_box1 (v := Value.int _ _) M rfl rfl rfl rfl ?_) | (refine m_box1 (v := Value.slice _ _ _) M rfl rfl rfl rfl ?_) | (refine m_box1 (v := Value.bool _) M rfl rfl rfl rfl ?_) | (refine m_box1 (v := Value.string _) M rfl rfl rfl rfl ?_) | (refine m_box1 (v := Value.pointer _) M rfl rfl rfl rfl ?_)); clear M; (try clear wx); intro g3 wx M)
        | (with_reducible (show wpList _ _ _ (Oper.mk _ (.load _ _) _ _ _ _ :: _) _ _); (first | (refine m_load M rfl rfl rfl (by first | assumption | rfl) ?_) | (refine m_loadR M rfl rfl rfl (by first | exact hk32 | (rw [bA_size, hk32]; done) | rfl | (simp; done)) ?_))))
      go_ret2
      exact ⟨_, rfl, by rw [HE.out]; rfl, M.up⟩

set_option maxHeartbeats 4000000 in
set_option maxRecDepth 100000 in
theorem lawShortestPrefix_c (v : Value) (leaf : Ky) (ks : List Ky) (w : World) (hv : Rd w 32 v ks.length (kyL ks)) : Calls Try.prog 10 #[v, .agg (bA leaf.1)] w fun e w' => e = .returned (.bool true) ∧ Up w w' := by
  obtain ⟨m, hm⟩ : ∃ m, ks.length = m := ⟨_, rfl⟩
  rw [hm] at hv
  obtain ⟨b, cap, rfl⟩ := hv.shape
  have hml : m ≤ maxLen := by have := hv.len_; omega
  have HV := Lib.hid hv
  have HN := Lib.hid hm
  have hmm : maxLen ≤ 9223372036854775807 := by decide
  have hml' : m ≤ 9223372036854775807 := by omega
  clear hv hm hmm
  have M := Mem.start w
  by_cases hbig : (1048576 : Int) - m < 0
  · go_enter Try.func10, Try.ntmps10
    go_wp2_with (first
      | (go_at_call 13; (with_reducible refine mem_call M (szKeyS_r _ m _ hml _) ?_); clear M; (try clear wx); rintro _ wx rfl _ M; rw [if_pos hbig])
      | (with_reducible (show wpList _ _ _ (Oper.mk (some 3) (.box _ _) _ _ _ _ :: _) _ _); (first | (refine m_boxA M rfl rfl rfl ?_) | (refine m_box1 (v := Value.int _ _) M rfl rfl rfl rfl ?_) | (refine m_box1 (v := Value.slice _ _ _) M rfl rfl rfl rfl ?_) | (refine m_box1 (v := Value.bool _) M rfl rfl rfl rfl ?_) | (refine m_box1 (v := Value.string _) M rfl rfl rfl rfl ?_) | (refine m_box1 (v := Value.pointer _) M rfl rfl rfl rfl ?_)); clear M; (try clear wx); intro g3 wx M)
      | (with_reducible (show wpList _ _ _ (Oper.mk _ (.load _ _) _ _ _ _ :: _) _ _); (first | (refine m_load M rfl rfl rfl (by first | assumption | rfl) ?_) | (refine m_loadR M rfl rfl rfl (by first | rfl | assumption | (simp; done) | (simp; omega)) ?_))))
    go_ret
    exact ⟨rfl, M.up⟩
  · have hl : m ≤ 1048576 := by omega
    have HS : Hid (∀ v w, Rd w 32 v m (kyL ks) → Ret Try.prog 35 #[v, .agg (bA leaf.1)] w fun r _ => r = .tuple #[.int .i64 (spT ks leaf).1, .int .i64 (spT ks leaf).2]) := Lib.hid (fun v w h => specShortestPrefix_c leaf v m ks HN.out w h hl)
    have HI : Hid (∀ v w, Rd w 32 v m (kyL ks) → Ret Try.prog 36 #[v, .agg (bA leaf.1)] w fun r _ => r = .tuple #[.int .i64 (spT ks leaf).1, .int .i64 (spT ks leaf).2]) := Lib.hid (fun v w h => implShortestPrefix_c leaf v m ks HN.out w h hl)
    have HT : Hid (∀ w, Rd w 32 (.slice b m cap) m (kyL ks) → Ret Try.prog 15 #[.slice b m cap] w fun r w' => Rd w' 32 r m (kyL ks)) := Lib.hid (fun w h => (toKeyS_c _ m ks HN.out w h hl).mono fun r w' _ h => by obtain ⟨b, cap, rfl, ho⟩ := h; exact own_rd ho (kyL_one ks))
    generalize (spT ks leaf).2 = c at *
    generalize (spT ks leaf).1 = z at *
    go_enter Try.func10, Try.ntmps10
    go_wp2_with (first
      | (go_at_call 13; (with_reducible refine mem_call M (szKeyS_r _ m _ hml _) ?_); clear M; (try clear wx); rintro _ wx rfl _ M; rw [if_neg hbig])
      | (with_reducible (show wpList _ _ _ (Oper.mk (some 3) (.box _ _) _ _ _ _ :: _) _ _); (first | (refine m_boxA M rfl rfl rfl ?_) | (refine m_box1 (v := Value.int _ _) M rfl rfl rfl rfl ?_) | (refine m_box1 (v := Value.slice _ _ _) M rfl rfl rfl rfl ?_) | (refine m_box1 (v := Value.bool _) M rfl rfl rfl rfl ?_) | (refine m_box1 (v := Value.string _) M rfl rfl rfl rfl ?_) | (refine m_box1 (v := Value.pointer _) M rfl rfl rfl rfl ?_)); clear M; (try clear wx); intro g3 wx M)
      | (with_reducible (show wpList _ _ _ (Oper.mk _ (.load _ _) _ _ _ _ :: _) _ _); (first | (refine m_load M rfl rfl rfl (by first | assumption | rfl) ?_) | (refine m_loadR M rfl rfl rfl (by first | rfl | assumption | (simp; done) | (simp; omega)) ?_))))
    refine region_mono (m := 9) mixedOrders_ (by kernel_rfl) (by kernel_rfl)
      (fun | 0 => fun vq _ => vq = .slice b m cap | 1 => fun v wx => Rd wx 32 v m (kyL ks) | 2 => fun vq _ => vq = .agg (bA leaf.1) | 3 => fun vq _ => vq = .agg (bA leaf.1) | 4 => fun vq _ => vq = .tuple #[.int .i64 z, .int .i64 c] | 5 => fun vq _ => vq = .tuple #[.int .i64 z, .int .i64 c] | 6 => fun vq _ => vq = .int .i64 z | 7 => fun vq _ => vq = .int .i64 c | 8 => fun vq _ => vq = .int .i64 z | _ => fun _ _ => True)
      (fun wx => Mem w wx [.blk g3 24 (bA leaf.1)]) ?_ ?_ ?_ ?_ ?_
    · intro j hj v w1 w2 hb h
      match j, hj with
      | 0, _ => exact h
      | 1, _ => exact h.up hb
      | 2, _ => exact h
      | 3, _ => exact h
      | 4, _ => exact h
      | 5, _ => exact h
      | 6, _ => exact h
      | 7, _ => exact h
      | 8, _ => exact h
    · intro w1 w2 hb h
      exact h.grow hb
    · exact M.grow ((Up.refl _).drew)
    · rintro i o hi ho av wv fr gM dep
      match i, hi with
      | 0, _ =>
        obtain rfl := Option.some.inj ho
        exact st_mov rfl (fr.eval rfl) rfl
      | 1, _ =>
        obtain rfl := Option.some.inj ho
        have d0 := dep ⟨0, .data⟩ (by simp) rfl
        exact st_ret1 rfl (fun _ _ => by kernel_rfl) d0 (HT.out _ (HV.out.up gM.up)) (fun r w' h _ => h)
      | 2, _ =>
        obtain rfl := Option.some.inj ho
        exact st_loadG gM rfl (fr.eval rfl) (by first | rfl | (simp; done)) rfl
      | 3, _ =>
        obtain rfl := Option.some.inj ho
        have d0 := dep ⟨2, .data⟩ (by simp) rfl
        exact st_ret1 rfl (fun _ _ => by kernel_rfl) d0 (toKey_r leaf _) (fun r w' h _ => h)
      | 4, _ =>
        obtain rfl := Option.some.inj ho
        have D1 := dep ⟨1, .data⟩ (by simp) rfl
        exact st_ret2 rfl (fun _ _ => by kernel_rfl) rfl (dep ⟨3, .data⟩ (by simp) rfl) (HS.out _ _ D1) (fun r w' h _ => h)
      | 5, _ =>
        obtain rfl := Option.some.inj ho
        exact st_mov rfl (dep ⟨4, .data⟩ (by simp) rfl) rfl
      | 6, _ =>
        obtain rfl := Option.some.inj ho
        exact st_ext0 rfl (dep ⟨5, .data⟩ (by simp) rfl) rfl
      | 7, _ =>
        obtain rfl := Option.some.inj ho
        exact st_ext1 rfl (dep ⟨5, .data⟩ (by simp) rfl) rfl
      | 8, _ =>
        obtain rfl := Option.some.inj ho
        exact st_move (.inr rfl) (dep ⟨6, .data⟩ (by simp) rfl) rfl
    · rintro vs wv gM hf
      have f0 : vs 0 = .slice b m cap := hf 0 (by omega)
      have f1 := hf 1 (by omega)
      have f2 : vs 2 = .agg (bA leaf.1) := hf 2 (by omega)
      have f3 : vs 3 = .agg (bA leaf.1) := hf 3 (by omega)
      have f4 : vs 4 = .tuple #[.int .i64 z, .int .i64 c] := hf 4 (by omega)
      have f5 : vs 5 = .tuple #[.int .i64 z, .int .i64 c] := hf 5 (by omega)
      have f6 : vs 6 = .int .i64 z := hf 6 (by omega)
      have f7 : vs 7 = .int .i64 c := hf 7 (by omega)
      have f8 : vs 8 = .int .i64 z := hf 8 (by omega)
      simp only [putAll, Act.put, List.getElem?_toArray, List.getElem?_cons_zero, List.getElem?_cons_succ, Option.bind_some, List.setIfInBounds_toArray, List.set_cons_zero, List.set_cons_succ, List.drop_succ_cons, List.drop_zero, List.drop_nil, f8, f7]
      clear f0 f1 f2 f3 f4 f5 f6 f7 f8 hf
      have M := gM
      clear gM
      go_wp2_with (first
        | (go_at_call 15; (with_reducible refine mem_callO M (toKeyS_c _ m ks HN.out _ (HV.out.up M.up) hl) ?_); clear M; (try clear wx); intro bx capx wx M)
        | (go_at_call 27; (with_reducible refine mem_call M (toKey_r leaf _) ?_); clear M; (try clear wx); rintro _ wx rfl _ M)
        | (go_at_call 36; (with_reducible refine mem_call M (HI.out _ _ (M.rdK ks)) ?_); clear M; (try clear wx); rintro _ wx rfl _ M)
        | (go_at_call 18; (with_reducible refine mem_call M (eqKeyS_same _ _ m ks HN.out _ (by omega) (M.rdK ks) (M.rdK ks)) ?_); clear M; (try clear wx); rintro _ wx rfl _ M)
        | (with_reducible (show wpList _ _ _ (Oper.mk (some 3) (.box _ _) _ _ _ _ :: _) _ _); (first | (refine m_boxA M rfl rfl rfl ?_) | (refine m_box1 (v := Value.int _ _) M rfl rfl rfl rfl ?_) | (refine m_box1 (v := Value.slice _ _ _) M rfl rfl rfl rfl ?_) | (refine m_box1 (v := Value.bool _) M rfl rfl rfl rfl ?_) | (refine m_box1 (v := Value.string _) M rfl rfl rfl rfl ?_) | (refine m_box1 (v := Value.pointer _) M rfl rfl rfl rfl ?_)); clear M; (try clear wx); intro g3 wx M)
        | (with_reducible (show wpList _ _ _ (Oper.mk _ (.load _ _) _ _ _ _ :: _) _ _); (first | (refine m_load M rfl rfl rfl (by first | assumption | rfl) ?_) | (refine m_loadR M rfl rfl rfl (by first | rfl | assumption | (simp; done) | (simp; omega)) ?_))))
      go_ret
      exact ⟨rfl, M.up⟩

end Go.Proofs.Ytmbhaoiahlbglaa

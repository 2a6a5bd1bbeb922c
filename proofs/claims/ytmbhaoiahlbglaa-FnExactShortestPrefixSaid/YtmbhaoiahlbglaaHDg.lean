/- Walks: digits of keys' texts; which keys begin with given digits. -/
import Derived.Test.YtmbhaoiahlbglaaKT
import Derived.Test.YtmbhaoiahlbglaaHNe
import Derived.Test.YtmbhaoiahlbglaaShelf
namespace Go.Proofs.Ytmbhaoiahlbglaa
open Go.RowKit
set_option linter.unusedVariables false
set_option linter.unusedSimpArgs false

/-- The value of a digit, or -1. -/
def hv (b : UInt8) : Int := if 48 ≤ b.toNat ∧ b.toNat ≤ 57 then (b.toNat : Int) - 48 else if 97 ≤ b.toNat ∧ b.toNat ≤ 102 then (b.toNat : Int) - 87 else -1
theorem hv_index (b : UInt8) : Lib.indexByte [48, 49, 50, 51, 52, 53, 54, 55, 56, 57, 97, 98, 99, 100, 101, 102] b = hv b := by
  have h : ∀ n, n < 256 → Lib.indexByte [48, 49, 50, 51, 52, 53, 54, 55, 56, 57, 97, 98, 99, 100, 101, 102] (UInt8.ofNat n) = hv (UInt8.ofNat n) := by decide +kernel
  have := h b.toNat b.toNat_lt
  rwa [UInt8.ofNat_toNat] at this
theorem hv_bd (b : UInt8) : -1 ≤ hv b ∧ hv b ≤ 15 := by
  unfold hv
  have := b.toNat_lt
  split
  · omega
  · split <;> omega
/-- Are these bytes digits, all of them? -/
def allHex (l : List UInt8) : Bool := l.all fun b => decide (0 ≤ hv b)

set_option maxHeartbeats 400000 in
theorem l01Hex_yes (b : UInt8) (h : 0 ≤ hv b) (w : World) : Calls Try.prog 78 #[.int .u8 (b.toNat : Int)] w fun e w' => e = .returned (.tuple #[.int .u8 (hv b), .bool true]) ∧ w' = w := by
  have hb := byte_bd b
  by_cases h1 : 48 ≤ b.toNat ∧ b.toNat ≤ 57
  · have HE := Lib.hid (show hv b = (b.toNat : Int) - 48 by unfold hv; rw [if_pos h1])
    have g1 : 48 ≤ (b.toNat : Int) := by omega
    have g2 : (b.toNat : Int) ≤ 57 := by omega
    clear h1 h
    go_enter Try.func78, Try.ntmps78
    go_wp2
    go_ret2
    exact ⟨by rw [HE.out]; rfl, rfl⟩
  · have h2 : 97 ≤ b.toNat ∧ b.toNat ≤ 102 := by
      unfold hv at h
      rw [if_neg h1] at h
      by_cases h2 : 97 ≤ b.toNat ∧ b.toNat ≤ 102
      · exact h2
      · rw [if_neg h2] at h
        omega
    have HE := Lib.hid (show hv b = (b.toNat : Int) - 97 + 10 by unfold hv; rw [if_neg h1, if_pos h2]; omega)
    have g1 : 97 ≤ (b.toNat : Int) := by omega
    have g2 : (b.toNat : Int) ≤ 102 := by omega
    clear h1 h2 h
    go_enter Try.func78, Try.ntmps78
    go_wp2
    go_ret2
    exact ⟨by rw [HE.out]; rfl, rfl⟩
set_option maxHeartbeats 400000 in
theorem l01Hex_no (b : UInt8) (h : hv b < 0) (w : World) : Calls Try.prog 78 #[.int .u8 (b.toNat : Int)] w fun e w' => e = .returned (.tuple #[.int .u8 0, .bool false]) ∧ w' = w := by
  have hb := byte_bd b
  have h1 : ¬ (48 ≤ b.toNat ∧ b.toNat ≤ 57) := fun h1 => by
    unfold hv at h
    rw [if_pos h1] at h
    omega
  have h2 : ¬ (97 ≤ b.toNat ∧ b.toNat ≤ 102) := fun h2 => by
    unfold hv at h
    rw [if_neg h1, if_pos h2] at h
    omega
  go_enter Try.func78, Try.ntmps78
  go_wp2
  all_goals
    first
    | (exfalso; simp only [decide_eq_true_eq, decide_eq_false_iff_not] at *; omega)
    | (go_ret2
       exact ⟨rfl, rfl⟩)

theorem hexIndex_c (b : UInt8) (w : World) : Calls Try.prog 117 #[.string ⟨#[48, 49, 50, 51, 52, 53, 54, 55, 56, 57, 97, 98, 99, 100, 101, 102]⟩, .int .u8 (b.toNat : Int)] w fun e w' => e = .returned (.int .i64 (hv b)) ∧ w' = w := by
  have h := Try.strings_IndexByte ⟨#[48, 49, 50, 51, 52, 53, 54, 55, 56, 57, 97, 98, 99, 100, 101, 102]⟩ (b.toNat : Int) w
  have e : ((b.toNat : Int)).toNat.toUInt8 = b := by simp
  rw [e] at h
  have e2 : Lib.indexByte (ByteArray.mk #[48, 49, 50, 51, 52, 53, 54, 55, 56, 57, 97, 98, 99, 100, 101, 102]).data.toList b = hv b := hv_index b
  rw [e2] at h
  exact h

set_option maxHeartbeats 400000 in
theorem isDigits_c (s : ByteArray) (hs : s.size ≤ 1048576) (w : World) : Calls Try.prog 80 #[.string s] w fun e w' => e = .returned (.bool (allHex s.data.toList)) ∧ w' = w := by
  have hsz : s.data.toList.length = s.size := rfl
  go_enter Try.func80, Try.ntmps80
  go_wp2_with fail
  go_loopg [6] s.size (fun n i wr => ∃ k : Nat, k + n = s.size ∧ i = .int .i64 k ∧ Hid (allHex s.data.toList = allHex (s.data.toList.drop k)) ∧ wr = w)
  case atStart => exact ⟨0, by omega, rfl, rfl, rfl⟩
  case round =>
    obtain ⟨k, hk, rfl, he, rfl⟩ := hrel
    by_cases hlt : k < s.size
    · have hd : allHex (s.data.toList.drop k) = (decide (0 ≤ hv s[k]) && allHex (s.data.toList.drop (k + 1))) := by
        rw [List.drop_eq_getElem_cons (show k < s.data.toList.length from hlt)]
        rfl
      have HD := Lib.hid hd
      have HK := Lib.hid hk
      clear hd hk
      by_cases hx : 0 ≤ hv s[k]
      · have g1 : decide (hv s[k] < 0) = false := by simp; omega
        have HX := Lib.hid hx
        clear hx
        go_wp2_with (go_at_call 117; (with_reducible refine (hexIndex_c s[k] _).mono ?_); rintro e w' ⟨rfl, rfl⟩)
        have hk := HK.out
        go_roundg (gk - 1)
        case measure => omega
        case rel => exact ⟨k + 1, by omega, by go_num, Lib.hid (by rw [he.out, HD.out, decide_eq_true HX.out, Bool.true_and]), rfl⟩
      · have g1 : decide (hv s[k] < 0) = true := by simp; omega
        have HC := Lib.hid (show allHex s.data.toList = false by rw [he.out, HD.out, decide_eq_false hx, Bool.false_and])
        clear hx
        go_wp2_with (go_at_call 117; (with_reducible refine (hexIndex_c s[k] _).mono ?_); rintro e w' ⟨rfl, rfl⟩)
        go_ret
        exact ⟨by rw [HC.out]; rfl, rfl⟩
    · obtain rfl : k = s.size := by omega
      have HC := Lib.hid (show allHex s.data.toList = true by rw [he.out, List.drop_of_length_le (by omega)]; rfl)
      clear hk he
      go_wp2
      go_ret
      exact ⟨by rw [HC.out]; rfl, rfl⟩

/-- Does a key's text begin so? -/
def pk (pre : List UInt8) (k : Ky) : Bool := pre.isPrefixOf (hexL k.1 64)
theorem hexL_len (l : List UInt8) (n : Nat) : (hexL l n).length = n := by simp [hexL]
theorem pk_take (pre : List UInt8) (k : Ky) : pk pre k = decide ((hexL k.1 64).take pre.length = pre) := by
  unfold pk
  cases h : pre.isPrefixOf (hexL k.1 64) with
  | true =>
    rw [List.isPrefixOf_iff_prefix, List.prefix_iff_eq_take] at h
    exact (decide_eq_true h.symm).symm
  | false =>
    refine (decide_eq_false fun e => ?_).symm
    have : pre.isPrefixOf (hexL k.1 64) = true := by rw [List.isPrefixOf_iff_prefix, List.prefix_iff_eq_take]; exact e.symm
    rw [h] at this
    cases this
theorem keyTx_size (l : List UInt8) : (keyTx l).size = 64 := by
  show ((hexL l 64).toArray).size = 64
  rw [List.size_toArray, hexL_len]
theorem keyTx_list (l : List UInt8) : (keyTx l).data.toList = hexL l 64 := rfl
theorem bytes_eq (a b : ByteArray) : (a == b) = decide (a = b) := by
  by_cases h : a = b
  · rw [decide_eq_true h]
    exact (MapKept.bytes_beq a b).2 h
  · rw [decide_eq_false h]
    cases hc : a == b with
    | false => rfl
    | true => exact absurd ((MapKept.bytes_beq a b).1 hc) h
theorem keyTx_take (l : List UInt8) (s : ByteArray) : ((keyTx l).extract 0 s.size = s) ↔ ((hexL l 64).take s.data.toList.length = s.data.toList) := by
  have e1 : ((keyTx l).extract 0 s.size).data.toList = (hexL l 64).take s.data.toList.length := by
    rw [ByteArray.data_extract, Array.toList_extract, keyTx_list]
    simp [List.extract]
  constructor
  · intro h
    rw [← e1, h]
  · intro h
    rw [← e1] at h
    have := Array.toList_inj.1 h
    cases s
    cases hk : (keyTx l).extract 0 _
    rw [hk] at this
    exact congrArg _ this
theorem keyTx_pk (s : ByteArray) (k : Ky) : ((keyTx k.1).extract 0 s.size == s) = pk s.data.toList k := by
  rw [bytes_eq, pk_take]
  exact decide_eq_decide.2 (keyTx_take k.1 s)
theorem keyTx_pkL (s : ByteArray) (k : Ky) : (((keyTx k.1).extract 0 s.size).toList == s.toList) = pk s.data.toList k := by
  rw [← keyTx_pk, bytes_eq]
  by_cases h : (keyTx k.1).extract 0 s.size = s
  · rw [h, decide_eq_true rfl]
    simp
  · rw [decide_eq_false h]
    refine beq_eq_false_iff_ne.2 fun e => h ?_
    rw [ByteArray.toList_eq, ByteArray.toList_eq] at e
    have := Array.toList_inj.1 e
    cases s
    cases hk : (keyTx k.1).extract 0 _
    rw [hk] at this
    exact congrArg _ this

set_option maxHeartbeats 1000000 in
set_option maxRecDepth 100000 in
theorem preNot_c (g0 : Nat) (s : ByteArray) (k : Ky) (w : World) (hk : Blk w g0 9 #[.string s]) :
    Ret Try.prog 119 #[.agg (bA k.1), .pointer (some ⟨g0, 0, none⟩)] w fun r _ => r = .bool (!(pk s.data.toList k)) := by
  have HB := Lib.hid hk
  have hk32 := k.2
  refine ret_start fun wx M => ?_
  clear hk
  go_enter Try.func119, Try.ntmps119
  go_wp2_with (first
    | (with_reducible (show wpList _ _ _ (Oper.mk (some 2) (.box _ _) _ _ _ _ :: _) _ _); (first | (refine m_boxA M rfl rfl rfl ?_) | (refine m_box1 (v := Value.int _ _) M rfl rfl rfl rfl ?_) | (refine m_box1 (v := Value.slice _ _ _) M rfl rfl rfl rfl ?_) | (refine m_box1 (v := Value.bool _) M rfl rfl rfl rfl ?_) | (refine m_box1 (v := Value.string _) M rfl rfl rfl rfl ?_) | (refine m_box1 (v := Value.pointer _) M rfl rfl rfl rfl ?_)); clear M; (try clear wx); intro g2 wx M)
    | (with_reducible (show wpList _ _ _ (Oper.mk _ (.load _ _) _ _ _ _ :: _) _ _); (first | (refine m_load M rfl rfl rfl (by first | assumption | rfl) ?_) | (refine m_loadR M rfl rfl rfl (by first | exact hk32 | (rw [bA_size, hk32]) | (simp; done)) ?_))))
  refine region_mono (m := 5) mixedOrders_ (by kernel_rfl) (by kernel_rfl)
    (fun | 0 => fun vq _ => vq = .agg (bA k.1) | 1 => fun vq _ => vq = .string (keyTx k.1) | 2 => fun vq _ => vq = .string s | 3 => fun vq _ => vq = .bool (pk s.data.toList k) | 4 => fun vq _ => vq = .bool (!pk s.data.toList k) | _ => fun _ _ => True)
    (fun wx => Mem w wx [.blk g2 25 (bA k.1)]) ?_ ?_ ?_ ?_ ?_
  · intro j hj v w1 w2 hb h
    match j, hj with
    | 0, _ => exact h
    | 1, _ => exact h
    | 2, _ => exact h
    | 3, _ => exact h
    | 4, _ => exact h
  · intro w1 w2 hb h
    exact h.grow hb
  · exact M.grow ((Up.refl _).drew)
  · rintro i o hi ho av wv fr gM dep
    match i, hi with
    | 0, _ =>
      obtain rfl := Option.some.inj ho
      exact st_loadG gM rfl (fr.eval rfl) (by rw [bA_size, hk32]) rfl
    | 1, _ =>
      obtain rfl := Option.some.inj ho
      have d0 := dep ⟨0, .data⟩ (by simp) rfl
      exact st_ret1 rfl (fun _ _ => by kernel_rfl) d0 (Ret.of (implKeyText_c k.1 hk32 _)) (fun r w' h _ => h)
    | 2, _ =>
      obtain rfl := Option.some.inj ho
      exact st_load1 rfl (fr.eval rfl) ((HB.out.up gM.up).cell_ (by rfl)) rfl
    | 3, _ =>
      obtain rfl := Option.some.inj ho
      have d0 := dep ⟨1, .data⟩ (by simp) rfl
      have d1 := dep ⟨2, .data⟩ (by simp) rfl
      exact st_ret2 rfl (fun _ _ => by kernel_rfl) d0 d1 (Ret.same (Try.strings_HasPrefix (keyTx k.1) s _)) (fun r w' h _ => h.trans rfl)
    | 4, _ =>
      obtain rfl := Option.some.inj ho
      exact st_not rfl (dep ⟨3, .data⟩ (by simp) rfl) rfl
  · rintro vs wv gM hf
    have f0 : vs 0 = .agg (bA k.1) := hf 0 (by omega)
    have f1 : vs 1 = .string (keyTx k.1) := hf 1 (by omega)
    have f2 : vs 2 = .string s := hf 2 (by omega)
    have f3 : vs 3 = .bool (pk s.data.toList k) := hf 3 (by omega)
    have f4 : vs 4 = .bool (!pk s.data.toList k) := hf 4 (by omega)
    simp only [putAll, Act.put, List.getElem?_toArray, List.getElem?_cons_zero, List.getElem?_cons_succ, Option.bind_some, List.setIfInBounds_toArray, List.set_cons_zero, List.set_cons_succ, List.drop_succ_cons, List.drop_zero, List.drop_nil, f4]
    clear f0 f1 f2 f3 f4 hf
    go_wp2_with fail
    go_ret
    exact ⟨_, rfl, rfl, gM.up⟩

end Go.Proofs.Ytmbhaoiahlbglaa

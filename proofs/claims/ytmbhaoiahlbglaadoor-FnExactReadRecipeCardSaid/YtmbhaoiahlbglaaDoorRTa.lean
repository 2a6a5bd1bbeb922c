/- Walks: the text of a recipe: a number's digits. -/
import Derived.Test.YtmbhaoiahlbglaaDoorHPi
import Derived.Test.YtmbhaoiahlbglaaDoorKT
import Derived.Test.YtmbhaoiahlbglaaDoorRegG
import Derived.Lib.ItoaNum
namespace Go.Proofs.YtmbhaoiahlbglaaDoor
open Go.RowKit
set_option linter.unusedVariables false
set_option linter.unusedSimpArgs false

def tx (l : List UInt8) : ByteArray := ⟨l.toArray⟩
theorem tx_app (a b : List UInt8) : tx a ++ tx b = tx (a ++ b) := by
  apply ByteArray.ext
  simp [tx, ByteArray.data_append]
theorem tx_size (a : List UInt8) : (tx a).size = a.length := by simp [tx, ByteArray.size]
theorem bin_addS (x y z : ByteArray) (h : x ++ y = z) (hs : x.size + y.size ≤ 9223372036854775807) (a b : Operand) (w : World) : Sem.run Tryd.prog (do eqGuard .add 9 a b (.string x) (.string y); binOp .add 9 (.string x) (.string y)) w = .ok (.string z) w := by
  subst h
  go_simp
theorem bin_quo10 (n : Nat) (h : n ≤ 1000000) (a b : Operand) (w : World) : Sem.run Tryd.prog (do eqGuard .quo 2 a b (.int .i64 (n : Int)) (.int .i64 10); binOp .quo 2 (.int .i64 (n : Int)) (.int .i64 10)) w = .ok (.int .i64 ((n / 10 : Nat) : Int)) w := by
  go_simp
  exact i64_in_ _ (by omega)
theorem bin_rem10 (n : Nat) (a b : Operand) (w : World) : Sem.run Tryd.prog (do eqGuard .rem 2 a b (.int .i64 (n : Int)) (.int .i64 10); binOp .rem 2 (.int .i64 (n : Int)) (.int .i64 10)) w = .ok (.int .i64 ((n % 10 : Nat) : Int)) w := by
  go_simp
  exact Int.tmod_eq_emod_of_nonneg (by omega)
theorem conv64_u8 (n : Nat) (h : n < 256) (w : World) : (convert 2 5 (.int .i64 (n : Int))).run Tryd.prog w = .ok (.int .u8 ((UInt8.ofNat n).toNat : Int)) w := by
  have e : (UInt8.ofNat n).toNat = n := by simp; omega
  rw [e]
  go_simp
  simp only [IntKind.wrap, IntKind.signed, IntKind.bits]
  simp
  omega

theorem bin_add64 (x y z : Int) (h : IntKind.wrap .i64 (x + y) = z) (a b : Operand) (w : World) : Sem.run Tryd.prog (do eqGuard .add 2 a b (.int .i64 x) (.int .i64 y); binOp .add 2 (.int .i64 x) (.int .i64 y)) w = .ok (.int .i64 z) w := by
  go_simp
  try rw [h]

section
variable {P : Program} {Q : Exit → Act → World → Prop} {o : Oper} {a : Act} {w : World} {F : Value → World → Prop}
theorem rd_text {src dst e : TypeId} {v : Value} {n : Nat} {l : List UInt8} (hn : l.length = n) (hs : P.underlying src = some (.slice e)) (he : P.underlying e = some (.int .u8)) (hd : P.underlying dst = some .string) (h : Rd w 1 v n (bL l)) : (convert src dst v).run P w = .ok (.string (tx l)) w := by
  subst hn
  obtain ⟨a, cap, rfl, hm, hc⟩ := h.rdb
  cases a with
  | none =>
    have : l = [] := by
      rcases l with _ | ⟨b, l⟩
      · rfl
      · obtain ⟨p, hp, -⟩ := hc 0 (by simp)
        cases hp
    subst this
    exact Lib.run_convert_nil_bytes w src dst e cap hs he hd
  | some p =>
    refine run_convert_bytes_back w src dst e p cap l hs he hd (fun j hj => ?_)
    obtain ⟨q, hq, -, h3⟩ := hc j hj
    obtain rfl := Option.some.inj hq
    rw [h3, bt_eq l j hj]
theorem st_text {src dst e : TypeId} {x : Operand} (ho : o.op = .convert src dst x) {v : Value} (hx : a.eval x = v) {n : Nat} {l : List UInt8} (hn : l.length = n) (hs : P.underlying src = some (.slice e)) (he : P.underlying e = some (.int .u8)) (hd : P.underlying dst = some .string) (h : Rd w 1 v n (bL l)) (hF : F (.string (tx l)) w) : St P o a w Q F := by
  refine st_run (v := .string (tx l)) ?_ hF
  unfold execOp
  simp only [ho, hx, Sem.run_bind, rd_text hn hs he hd h, Result.andThen_ok, Sem.run_pure]
theorem m_st {ops : Array Oper} {rest : List Oper} {v0 : Value} (hgd : o.guard = none) (h : St P o a w (Q) (fun v w' => v = v0 ∧ w' = w)) (k : wpList P ops Q rest (a.put o.dst v0) w) : wpList P ops Q (o :: rest) a w :=
  wpList_plain hgd fun _ hK => Oper.wp_mono (fun a' w' h' => by
    obtain ⟨v, rfl, h2, rfl, rfl⟩ := h'
    exact hK _ _ k) h
theorem st_lit1B {t : TypeId} {x : Operand} (ho : o.op = .buildSlice t 1 #[(0, x)]) {e : TypeId} [ht : SliceT P t e] {bytes : Nat} {z : Value} [he : ElT P e 1 bytes z]
    {b : UInt8} (hx : a.eval x = .int .u8 (b.toNat : Int)) (hF : ∀ v w', Rd w' 1 v 1 (bL [b]) → F v w') : St P o a w Q F := by
  obtain ⟨g1, g2, g3⟩ := he.out
  obtain ⟨i0, hi0, hz0, hz1, hz2⟩ := info_parts g1
  refine wp_buildSlice t e 1 _ ho #[.int .u8 (b.toNat : Int)] i0 z ht.out hi0 hz0 (by rw [hz1]; omega) (by rw [hz1]; omega) ?_ ⟨_, rfl, (Below.refl _ _).alloc (Nat.le_refl _) _, hF _ _ ?_⟩
  · rw [hz1]
    have hp : (((#[(0, x)] : Array (Nat × Operand)).map fun (i, x) => (i, a.eval x)).toList) = [(0, .int .u8 (b.toNat : Int))] := by simp [hx]
    rw [hp]
    exact fill_one 1 _ (.int .u8 (b.toNat : Int)) (by simp) rfl
  · have M := (Mem.start w).alloc_ e #[.int .u8 (b.toNat : Int)]
    exact M.rd_blk (p := 0) rfl 1 0 1 1 (bL [b]) (fun j v hj => by simpa [bL, bV] using hj) rfl (Nat.le_refl _) (by simp only [maxLen]; omega) (bL_one _)
end

theorem decDigits_len (n : Nat) : (Lib.decDigits n).length ≤ n + 1 := by
  induction n using Nat.strongRecOn with
  | ind n ih =>
    rw [Lib.decDigits]
    split
    · simp
    · have := ih (n / 10) (by omega)
      simp
      omega
set_option maxHeartbeats 4000000 in
set_option maxRecDepth 100000 in
theorem decimal_c (n : Nat) : n ≤ 100000 → ∀ w, Ret Tryd.prog 27 #[.int .i64 (n : Int)] w fun r _ => r = .string (tx (Lib.decDigits n)) := by
  induction n using Nat.strongRecOn with
  | ind n ih =>
  intro hn w
  have IH := Lib.hid ih
  clear ih
  refine ret_start fun wx M => ?_
  by_cases h : n < 10
  · have HE := Lib.hid (show Lib.decDigits n = [UInt8.ofNat (48 + n)] by rw [Lib.decDigits, dif_pos h])
    have HB := Lib.hid (show [Value.int .u8 (48 + (n : Int))] = bL [UInt8.ofNat (48 + n)] by
      have e : (UInt8.ofNat (48 + n)).toNat = 48 + n := by simp; omega
      simp only [bL, bV, List.map_cons, List.map_nil]
      rw [e]
      rfl)
    have HT : Hid (∀ wx g, Mem w wx [.blk g 5 #[Value.int .u8 (48 + (n : Int))]] → Rd wx 1 (.slice (some ⟨g, 0, none⟩) 1 1) 1 (bL [UInt8.ofNat (48 + n)])) := Lib.hid (fun wx g M => by
      rw [← HB.out]
      exact M.rd_blk (p := 0) rfl 1 0 1 1 _ (fun j v hj => by simpa using hj) rfl (Nat.le_refl _) (by simp only [maxLen]; omega) (by simp [Value.oneCell']))
    clear HB
    generalize UInt8.ofNat (48 + n) = b at *
    go_enter Tryd.func27, Tryd.ntmps27
    go_wp2_with (first
      | (with_reducible (show wpList _ _ _ (Oper.mk _ (.convert _ _ _) _ _ _ _ :: _) _ _); refine m_st rfl (st_text (v := .slice (some ⟨g18, 0, none⟩) 1 1) (l := [b]) (n := 1) rfl rfl rfl Tryd.underlying72 Tryd.underlying5 Tryd.underlying9 (HT.out _ _ M) ⟨rfl, rfl⟩) ?_)
      | (with_reducible (show wpList _ _ _ (Oper.mk (some 12) (.buildSlice _ _ _) _ _ _ _ :: _) _ _); (first | (refine m_lit1A M rfl rfl rfl (by first | rfl | assumption | (simp; done) | (simp; omega)) (by decide) ?_) | (refine m_lit11 (v := Value.int _ _) M rfl rfl rfl rfl ?_) | (refine m_lit11 (v := Value.slice _ _ _) M rfl rfl rfl rfl ?_) | (refine m_lit11 (v := Value.bool _) M rfl rfl rfl rfl ?_) | (refine m_lit11 (v := Value.string _) M rfl rfl rfl rfl ?_) | (refine m_lit11 (v := Value.pointer _) M rfl rfl rfl rfl ?_)); clear M; (try clear wx); intro g12 wx M)
      | (with_reducible (show wpList _ _ _ (Oper.mk (some 18) (.buildSlice _ _ _) _ _ _ _ :: _) _ _); (first | (refine m_lit1A M rfl rfl rfl (by first | rfl | assumption | (simp; done) | (simp; omega)) (by decide) ?_) | (refine m_lit11 (v := Value.int _ _) M rfl rfl rfl rfl ?_) | (refine m_lit11 (v := Value.slice _ _ _) M rfl rfl rfl rfl ?_) | (refine m_lit11 (v := Value.bool _) M rfl rfl rfl rfl ?_) | (refine m_lit11 (v := Value.string _) M rfl rfl rfl rfl ?_) | (refine m_lit11 (v := Value.pointer _) M rfl rfl rfl rfl ?_)); clear M; (try clear wx); intro g18 wx M))
    go_ret
    exact ⟨_, rfl, by rw [HE.out]; rfl, M.up⟩
  · have HE := Lib.hid (show Lib.decDigits n = Lib.decDigits (n / 10) ++ [UInt8.ofNat (48 + n % 10)] by rw [Lib.decDigits, dif_neg h])
    have HR := Lib.hid (IH.out (n / 10) (by omega) (by omega))
    have HB := Lib.hid (conv64_u8 (48 + n % 10) (by omega))
    have hln := decDigits_len (n / 10)
    generalize UInt8.ofNat (48 + n % 10) = b at *
    generalize Lib.decDigits (n / 10) = D at *
    go_enter Tryd.func27, Tryd.ntmps27
    go_wp2_with (first
      | (with_reducible (show wpList _ _ _ (Oper.mk (some 12) (.buildSlice _ _ _) _ _ _ _ :: _) _ _); (first | (refine m_lit1A M rfl rfl rfl (by first | rfl | assumption | (simp; done) | (simp; omega)) (by decide) ?_) | (refine m_lit11 (v := Value.int _ _) M rfl rfl rfl rfl ?_) | (refine m_lit11 (v := Value.slice _ _ _) M rfl rfl rfl rfl ?_) | (refine m_lit11 (v := Value.bool _) M rfl rfl rfl rfl ?_) | (refine m_lit11 (v := Value.string _) M rfl rfl rfl rfl ?_) | (refine m_lit11 (v := Value.pointer _) M rfl rfl rfl rfl ?_)); clear M; (try clear wx); intro g12 wx M)
      | (with_reducible (show wpList _ _ _ (Oper.mk (some 18) (.buildSlice _ _ _) _ _ _ _ :: _) _ _); (first | (refine m_lit1A M rfl rfl rfl (by first | rfl | assumption | (simp; done) | (simp; omega)) (by decide) ?_) | (refine m_lit11 (v := Value.int _ _) M rfl rfl rfl rfl ?_) | (refine m_lit11 (v := Value.slice _ _ _) M rfl rfl rfl rfl ?_) | (refine m_lit11 (v := Value.bool _) M rfl rfl rfl rfl ?_) | (refine m_lit11 (v := Value.string _) M rfl rfl rfl rfl ?_) | (refine m_lit11 (v := Value.pointer _) M rfl rfl rfl rfl ?_)); clear M; (try clear wx); intro g18 wx M))
    refine region_mono (m := 10) mixedOrders_ (by kernel_rfl) (by kernel_rfl)
      (fun | 0 => fun vq _ => vq = .int .i64 (n : Int) | 1 => fun vq _ => vq = .int .i64 ((n / 10 : Nat) : Int) | 2 => fun vq _ => vq = .string (tx D) | 3 => fun vq _ => vq = .int .i64 (n : Int) | 4 => fun vq _ => vq = .int .i64 ((n % 10 : Nat) : Int) | 5 => fun vq _ => vq = .int .i64 ((48 + n % 10 : Nat) : Int) | 6 => fun vq _ => vq = .int .u8 (b.toNat : Int) | 7 => fun v wx => Rd wx 1 v 1 (bL [b]) | 8 => fun v _ => v = .string (tx [b]) | 9 => fun vq _ => vq = .string (tx (D ++ [b])) | _ => fun _ _ => True)
      (fun wx => Mem w wx []) ?_ ?_ ?_ ?_ ?_
    · intro j hj v w1 w2 hb h
      match j, hj with
      | 0, _ => exact h
      | 1, _ => exact h
      | 2, _ => exact h
      | 3, _ => exact h
      | 4, _ => exact h
      | 5, _ => exact h
      | 6, _ => exact h
      | 7, _ => exact h.up hb
      | 8, _ => exact h
      | 9, _ => exact h
    · intro w1 w2 hb h
      exact h.grow hb
    · exact M.grow ((Up.refl _).drew)
    · rintro i o hi ho av wv fr gM dep
      match i, hi with
      | 0, _ =>
        obtain rfl := Option.some.inj ho
        exact st_mov rfl (fr.eval rfl) rfl
      | 1, _ =>
        obtain rfl := Option.some.inj ho
        exact st_bin rfl (dep ⟨0, .data⟩ (by simp) rfl) (rfl) (bin_quo10 n (by omega) _ _ _) rfl
      | 2, _ =>
        obtain rfl := Option.some.inj ho
        have d0 := dep ⟨1, .data⟩ (by simp) rfl
        exact st_ret1 rfl (fun _ _ => by kernel_rfl) d0 (HR.out _) (fun r w' h _ => h)
      | 3, _ =>
        obtain rfl := Option.some.inj ho
        exact st_mov rfl (fr.eval rfl) rfl
      | 4, _ =>
        obtain rfl := Option.some.inj ho
        exact st_bin rfl (dep ⟨3, .data⟩ (by simp) rfl) (rfl) (bin_rem10 n _ _ _) rfl
      | 5, _ =>
        obtain rfl := Option.some.inj ho
        exact st_bin rfl (rfl) (dep ⟨4, .data⟩ (by simp) rfl) (bin_add64 _ _ _ (by rw [i64_in_ _ (by omega)]; omega) _ _ _) rfl
      | 6, _ =>
        obtain rfl := Option.some.inj ho
        exact st_convert rfl (dep ⟨5, .data⟩ (by simp) rfl) (HB.out _) rfl
      | 7, _ =>
        obtain rfl := Option.some.inj ho
        exact st_lit1B rfl (dep ⟨6, .data⟩ (by simp) rfl) (fun v w' h => h)
      | 8, _ =>
        obtain rfl := Option.some.inj ho
        have D7 : Rd wv 1 _ 1 (bL [b]) := dep ⟨7, .data⟩ (by simp) rfl
        exact st_text (l := [b]) (n := 1) rfl rfl rfl Tryd.underlying72 Tryd.underlying5 Tryd.underlying9 D7 rfl
      | 9, _ =>
        obtain rfl := Option.some.inj ho
        exact st_bin rfl (dep ⟨2, .data⟩ (by simp) rfl) (dep ⟨8, .data⟩ (by simp) rfl) (bin_addS _ _ _ (tx_app D [b]) (by rw [tx_size, tx_size]; simp; omega) _ _ _) rfl
    · rintro vs wv gM hf
      have f0 : vs 0 = .int .i64 (n : Int) := hf 0 (by omega)
      have f1 : vs 1 = .int .i64 ((n / 10 : Nat) : Int) := hf 1 (by omega)
      have f2 : vs 2 = .string (tx D) := hf 2 (by omega)
      have f3 : vs 3 = .int .i64 (n : Int) := hf 3 (by omega)
      have f4 : vs 4 = .int .i64 ((n % 10 : Nat) : Int) := hf 4 (by omega)
      have f5 : vs 5 = .int .i64 ((48 + n % 10 : Nat) : Int) := hf 5 (by omega)
      have f6 : vs 6 = .int .u8 (b.toNat : Int) := hf 6 (by omega)
      have f7 := hf 7 (by omega)
      have f8 := hf 8 (by omega)
      have f9 : vs 9 = .string (tx (D ++ [b])) := hf 9 (by omega)
      simp only [putAll, Act.put, List.getElem?_toArray, List.getElem?_cons_zero, List.getElem?_cons_succ, Option.bind_some, List.setIfInBounds_toArray, List.set_cons_zero, List.set_cons_succ, List.drop_succ_cons, List.drop_zero, List.drop_nil, f9]
      clear f0 f1 f2 f3 f4 f5 f6 f7 f8 f9 hf
      have M := gM
      go_wp2_with (first
        | (with_reducible (show wpList _ _ _ (Oper.mk (some 12) (.buildSlice _ _ _) _ _ _ _ :: _) _ _); (first | (refine m_lit1A M rfl rfl rfl (by first | rfl | assumption | (simp; done) | (simp; omega)) (by decide) ?_) | (refine m_lit11 (v := Value.int _ _) M rfl rfl rfl rfl ?_) | (refine m_lit11 (v := Value.slice _ _ _) M rfl rfl rfl rfl ?_) | (refine m_lit11 (v := Value.bool _) M rfl rfl rfl rfl ?_) | (refine m_lit11 (v := Value.string _) M rfl rfl rfl rfl ?_) | (refine m_lit11 (v := Value.pointer _) M rfl rfl rfl rfl ?_)); clear M; (try clear wx); intro g12 wx M)
        | (with_reducible (show wpList _ _ _ (Oper.mk (some 18) (.buildSlice _ _ _) _ _ _ _ :: _) _ _); (first | (refine m_lit1A M rfl rfl rfl (by first | rfl | assumption | (simp; done) | (simp; omega)) (by decide) ?_) | (refine m_lit11 (v := Value.int _ _) M rfl rfl rfl rfl ?_) | (refine m_lit11 (v := Value.slice _ _ _) M rfl rfl rfl rfl ?_) | (refine m_lit11 (v := Value.bool _) M rfl rfl rfl rfl ?_) | (refine m_lit11 (v := Value.string _) M rfl rfl rfl rfl ?_) | (refine m_lit11 (v := Value.pointer _) M rfl rfl rfl rfl ?_)); clear M; (try clear wx); intro g18 wx M))
      go_ret
      exact ⟨_, rfl, by rw [HE.out]; rfl, M.up⟩

end Go.Proofs.YtmbhaoiahlbglaaDoor

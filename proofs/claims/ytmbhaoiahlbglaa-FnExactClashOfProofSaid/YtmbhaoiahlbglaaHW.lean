/- Walks: proofs out of a list. -/
import Derived.Test.YtmbhaoiahlbglaaHV
namespace Go.Proofs.Ytmbhaoiahlbglaa
open Go.RowKit
set_option linter.unusedVariables false
set_option linter.unusedSimpArgs false

/-- The proof of leaf i. -/
def prfL (ks : List Ky) (i : Nat) : List Ky :=
  if h : ks.length ≤ 1 then [] else
    if i < halfN ks.length then prfL (ks.take (halfN ks.length)) i ++ [listK (ks.drop (halfN ks.length))]
    else prfL (ks.drop (halfN ks.length)) (i - halfN ks.length) ++ [listK (ks.take (halfN ks.length))]
termination_by ks.length
decreasing_by
  · rw [List.length_take]; have := halfN_lt ks.length (by omega); omega
  · rw [List.length_drop]; have := halfN_pos ks.length; omega
theorem prfL_1 (ks : List Ky) (i : Nat) (h : ks.length ≤ 1) : prfL ks i = [] := by rw [prfL, dif_pos h]
theorem prfL_lt (ks : List Ky) (i n : Nat) (hn : ks.length = n) (h : 2 ≤ n) (hi : i < halfN n) : prfL ks i = prfL (ks.take (halfN n)) i ++ [listK (ks.drop (halfN n))] := by
  subst hn
  rw [prfL, dif_neg (by omega), if_pos hi]
theorem prfL_ge (ks : List Ky) (i n : Nat) (hn : ks.length = n) (h : 2 ≤ n) (hi : halfN n ≤ i) : prfL ks i = prfL (ks.drop (halfN n)) (i - halfN n) ++ [listK (ks.take (halfN n))] := by
  subst hn
  rw [prfL, dif_neg (by omega), if_neg (by omega)]
theorem prfL_len (n : Nat) : ∀ (ks : List Ky) (i : Nat), ks.length = n → 1 ≤ n → (prfL ks i).length < n := by
  induction n using Nat.strongRecOn with
  | ind n ih =>
  intro ks i hn h1
  have h2 := halfN_pos n
  by_cases h : n = 1
  · rw [prfL_1 ks i (by omega)]; exact h1
  · have h3 := halfN_lt n (by omega)
    by_cases hi : i < halfN n
    · rw [prfL_lt ks i n hn (by omega) hi, List.length_append, List.length_singleton]
      have := ih _ h3 (ks.take (halfN n)) i (by rw [List.length_take]; omega) h2
      omega
    · rw [prfL_ge ks i n hn (by omega) (by omega), List.length_append, List.length_singleton]
      have := ih (n - halfN n) (by omega) (ks.drop (halfN n)) (i - halfN n) (by rw [List.length_drop]; omega) (by omega)
      omega
/-- A slice made somewhere in a region. -/
def OwnFr (w0 : World) (L : List It) (e : TypeId) (size n : Nat) (xs : List Value) (v : Value) (w : World) : Prop := ∃ b cap, v = .slice b n cap ∧ w.ownsRow w0.heap.size e size (.slice b n cap) n xs ∧ ∀ x ∈ L, ∀ k, (Value.slice b n cap).ownBlock = some k → ¬ x.foot k
theorem OwnFr.up {w0 w w' : World} {L : List It} {e : TypeId} {size n : Nat} {xs : List Value} {v : Value} (h : OwnFr w0 L e size n xs v w) (hb : Up w w') : OwnFr w0 L e size n xs v w' := by
  obtain ⟨b, cap, h1, h2, h3⟩ := h
  exact ⟨b, cap, h1, own_kept h2 (Chg.of_up hb (fun _ => False)) (fun _ _ h => h), h3⟩
theorem OwnFr.of {w0 w w' : World} {L : List It} {e : TypeId} {size n : Nat} {xs : List Value} {v : Value} (M : Mem w0 w L) (h : OwnR w w' e size v n xs) : OwnFr w0 L e size n xs v w' := by
  obtain ⟨b, cap, rfl, ho⟩ := h
  refine ⟨b, cap, rfl, ⟨ho.1, ?_⟩, fun x hx k hk hf => ?_⟩
  · rcases ho.2 with h2 | ⟨g, cap', cur, hv, hg, r⟩
    · exact .inl h2
    · exact .inr ⟨g, cap', cur, hv, Nat.le_trans M.le hg, r⟩
  · have := (World.ownsRow.lt ho k hk).1
    have := ((M.ok x hx).foot_lt hf).2
    omega
theorem Mem.ownFr {w0 w : World} {L : List It} (M : Mem w0 w L) {e : TypeId} {size n : Nat} {xs : List Value} {v : Value} (h : OwnFr w0 L e size n xs v w) : ∃ b cap, v = .slice b n cap ∧ Mem w0 w (.own b cap e size n xs :: L) := by
  obtain ⟨b, cap, rfl, ho, hap⟩ := h
  refine ⟨b, cap, rfl, M.up, fun y hy => ?_, List.pairwise_cons.2 ⟨fun y hy k h1 h2 => hap y hy k h1 h2, M.sep⟩⟩
  rcases List.mem_cons.1 hy with rfl | hy
  · exact ho
  · exact M.ok y hy
theorem st_lit1R {P : Program} {Q : Exit → Act → World → Prop} {o : Oper} {a : Act} {w : World} {F : Value → World → Prop} {t : TypeId} {x : Operand} (ho : o.op = .buildSlice t 1 #[(0, x)]) {e : TypeId} [ht : SliceT P t e] {size bytes : Nat} {z : Value} [he : ElT P e size bytes z]
    {cs : Array Value} (hx : a.eval x = .agg cs) (hs : cs.size = size) (hsm : size ≤ 16777216) (h1 : ∀ u ∈ cs.toList, u.oneCell' = true) (hF : ∀ v w', Rd w' size v 1 cs.toList → F v w') : St P o a w Q F := by
  obtain ⟨g1, g2, g3⟩ := he.out
  obtain ⟨i0, hi0, hz0, hz1, hz2⟩ := info_parts g1
  refine wp_buildSlice t e 1 _ ho cs i0 z ht.out hi0 hz0 (by rw [hz1]; omega) (by rw [hz1]; omega) ?_ ⟨_, rfl, (Below.refl _ _).alloc (Nat.le_refl _) _, hF _ _ ?_⟩
  · rw [hz1]
    have hp : (((#[(0, x)] : Array (Nat × Operand)).map fun (i, x) => (i, a.eval x)).toList) = [(0, .agg cs)] := by simp [hx]
    rw [hp]
    exact fill_one size _ (.agg cs) (by simp [madeCells]) hs
  · have M := (Mem.start w).alloc_ e cs
    exact M.rd_blk (p := 0) rfl size 0 1 1 cs.toList (fun j v hj => by simpa using hj) (by simpa using hs) (Nat.le_refl _) (by simp only [maxLen]; omega) h1

set_option maxHeartbeats 2000000 in
set_option maxRecDepth 100000 in
theorem proof_c (n : Nat) : ∀ (ks : List Ky) (i : Nat), ks.length = n → 1 ≤ n → n ≤ 256 → i ≤ 256 → ∀ v w, Rd w 32 v n (kyL ks) →
    Ret Try.prog 113 #[v, .int .i64 (i : Int)] w fun r w' => OwnR w w' 25 32 r (prfL ks i).length (kyL (prfL ks i)) := by
  induction n using Nat.strongRecOn with
  | ind n ih =>
  intro ks i hks h1 hn hi v w hv
  obtain ⟨b, cap, rfl⟩ := hv.shape
  have HV := Lib.hid hv
  have IH := Lib.hid ih
  clear ih hv
  refine ret_start fun wx M => ?_
  by_cases hn1 : n = 1
  · subst hn1
    rw [prfL_1 ks i (by omega)]
    go_enter Try.func113, Try.ntmps113
    go_wp2_with (first
      | (go_at_call 66; (with_reducible refine mem_call M (sizeKey_c _ _ _ _) ?_); clear M; (try clear wx); rintro _ wx rfl _ M)
      | (with_reducible (show wpList _ _ _ (Oper.mk (some 25) (.buildSlice _ _ _) _ _ _ _ :: _) _ _); (first | (refine m_lit1A M rfl rfl rfl (by first | rfl | assumption | (simp; done) | (simp; omega)) (by decide) ?_) | (refine m_lit11 (v := Value.int _ _) M rfl rfl rfl rfl ?_) | (refine m_lit11 (v := Value.slice _ _ _) M rfl rfl rfl rfl ?_) | (refine m_lit11 (v := Value.bool _) M rfl rfl rfl rfl ?_) | (refine m_lit11 (v := Value.string _) M rfl rfl rfl rfl ?_) | (refine m_lit11 (v := Value.pointer _) M rfl rfl rfl rfl ?_)); clear M; (try clear wx); intro g25 wx M)
      | (with_reducible (show wpList _ _ _ (Oper.mk (some 38) (.buildSlice _ _ _) _ _ _ _ :: _) _ _); (first | (refine m_lit1A M rfl rfl rfl (by first | rfl | assumption | (simp; done) | (simp; omega)) (by decide) ?_) | (refine m_lit11 (v := Value.int _ _) M rfl rfl rfl rfl ?_) | (refine m_lit11 (v := Value.slice _ _ _) M rfl rfl rfl rfl ?_) | (refine m_lit11 (v := Value.bool _) M rfl rfl rfl rfl ?_) | (refine m_lit11 (v := Value.string _) M rfl rfl rfl rfl ?_) | (refine m_lit11 (v := Value.pointer _) M rfl rfl rfl rfl ?_)); clear M; (try clear wx); intro g38 wx M)
      | (with_reducible (show wpList _ _ _ (Oper.mk _ (.call (Call.mk (.builtin .append) _ _)) _ _ _ _ :: _) _ _); (first | (refine m_append1 M rfl rfl rfl (by first | rfl | omega | (simp; done)) rfl (by first | rfl | assumption | (simp; done) | (simp; omega)) (by first | exact bA_one _ | exact wA_one _ | assumption | (simp [Value.oneCell']; done)) (by first | assumption | (simp only [maxLen]; omega)) (by omega) ?_)); clear M; (try clear wx); intro _ _ wx M; simp only [List.set_cons_zero, List.set_cons_succ, Nat.zero_add, List.nil_append] at M))
    go_ret
    exact ⟨_, rfl, ⟨_, _, rfl, (M.nil_own 25 32).out_own (p := 0) rfl⟩, M.up⟩
  · have h2 : 2 ≤ n := by omega
    have hm1 := halfN_lt n h2
    have hm2 := halfN_pos n
    have HH := Lib.hid (leftOf_c n h2 (by omega))
    by_cases hlt : i < halfN n
    · obtain ⟨d, hd⟩ : ∃ d, d = (prfL (ks.take (halfN n)) i).length := ⟨_, rfl⟩
      have hd256 : d < 256 := by have := prfL_len _ (ks.take (halfN n)) i (by rw [List.length_take, hks]; omega) hm2 ; omega
      have HE := Lib.hid (show (prfL ks i).length = d + 1 ∧ kyL (prfL ks i) = kyL (prfL (ks.take (halfN n)) i) ++ bL (listK (ks.drop (halfN n))).1 by rw [prfL_lt ks i n hks h2 hlt, kyL_snoc, List.length_append, hd]; exact ⟨rfl, rfl⟩)
      have HA : Hid (∀ v w, Rd w 32 v (halfN n) ((kyL ks).take (halfN n * 32)) → Ret Try.prog 113 #[v, .int .i64 (i : Int)] w fun r w' => OwnR w w' 25 32 r d (kyL (prfL (ks.take (halfN n)) i))) := Lib.hid (fun v w h => by rw [hd]; exact IH.out _ hm1 _ i (by rw [List.length_take]; omega) hm2 (by omega) hi v w (by rw [kyL_take] at h; exact h))
      have HB : Hid (∀ v w, Rd w 32 v (n - halfN n) ((kyL ks).drop (halfN n * 32)) → Ret Try.prog 55 #[v] w fun r _ => r = .agg (bA (listK (ks.drop (halfN n))).1)) := Lib.hid (fun v w h => listKey_c (n - halfN n) _ (by rw [List.length_drop, hks]) (by omega) v w (by rw [kyL_drop] at h; exact h))
      clear hks hd
      generalize kyL (prfL (ks.take (halfN n)) i) = xs at *
      generalize listK (ks.drop (halfN n)) = y at *
      generalize halfN n = m at *
      go_enter Try.func113, Try.ntmps113
      go_wp2_with (first
        | (go_at_call 66; (with_reducible refine mem_call M (sizeKey_c _ _ _ _) ?_); clear M; (try clear wx); rintro _ wx rfl _ M)
        | (go_at_call 106; (with_reducible refine mem_call M (HH.out _) ?_); clear M; (try clear wx); rintro _ wx rfl _ M)
        | (with_reducible (show wpList _ _ _ (Oper.mk (some 25) (.buildSlice _ _ _) _ _ _ _ :: _) _ _); (first | (refine m_lit1A M rfl rfl rfl (by first | rfl | assumption | (simp; done) | (simp; omega)) (by decide) ?_) | (refine m_lit11 (v := Value.int _ _) M rfl rfl rfl rfl ?_) | (refine m_lit11 (v := Value.slice _ _ _) M rfl rfl rfl rfl ?_) | (refine m_lit11 (v := Value.bool _) M rfl rfl rfl rfl ?_) | (refine m_lit11 (v := Value.string _) M rfl rfl rfl rfl ?_) | (refine m_lit11 (v := Value.pointer _) M rfl rfl rfl rfl ?_)); clear M; (try clear wx); intro g25 wx M)
        | (with_reducible (show wpList _ _ _ (Oper.mk (some 38) (.buildSlice _ _ _) _ _ _ _ :: _) _ _); (first | (refine m_lit1A M rfl rfl rfl (by first | rfl | assumption | (simp; done) | (simp; omega)) (by decide) ?_) | (refine m_lit11 (v := Value.int _ _) M rfl rfl rfl rfl ?_) | (refine m_lit11 (v := Value.slice _ _ _) M rfl rfl rfl rfl ?_) | (refine m_lit11 (v := Value.bool _) M rfl rfl rfl rfl ?_) | (refine m_lit11 (v := Value.string _) M rfl rfl rfl rfl ?_) | (refine m_lit11 (v := Value.pointer _) M rfl rfl rfl rfl ?_)); clear M; (try clear wx); intro g38 wx M)
        | (with_reducible (show wpList _ _ _ (Oper.mk _ (.call (Call.mk (.builtin .append) _ _)) _ _ _ _ :: _) _ _); (first | (refine m_append1 M rfl rfl rfl (by first | rfl | omega | (simp; done)) rfl (by first | rfl | assumption | (simp; done) | (simp; omega)) (by first | exact bA_one _ | exact wA_one _ | assumption | (simp [Value.oneCell']; done)) (by first | assumption | (simp only [maxLen]; omega)) (by omega) ?_)); clear M; (try clear wx); intro _ _ wx M; simp only [List.set_cons_zero, List.set_cons_succ, Nat.zero_add, List.nil_append] at M))
      refine region_mono (m := 10) mixedOrders_ (by kernel_rfl) (by kernel_rfl)
        (fun | 0 => fun vq _ => vq = .slice b n cap | 1 => fun vq _ => vq = .int .i64 (m : Int) | 2 => fun v wx => Rd wx 32 v m ((kyL ks).take (m * 32)) | 3 => fun vq _ => vq = .int .i64 (i : Int) | 4 => fun v wx => OwnFr w [] 25 32 d xs v wx | 5 => fun vq _ => vq = .slice b n cap | 6 => fun vq _ => vq = .int .i64 (m : Int) | 7 => fun v wx => Rd wx 32 v (n - m) ((kyL ks).drop (m * 32)) | 8 => fun vq _ => vq = .agg (bA y.1) | 9 => fun v wx => Rd wx 32 v 1 (bL y.1) | _ => fun _ _ => True)
        (fun wx => Mem w wx []) ?_ ?_ ?_ ?_ ?_
      · intro j hj v w1 w2 hb h
        match j, hj with
        | 0, _ => exact h
        | 1, _ => exact h
        | 2, _ => exact h.up hb
        | 3, _ => exact h
        | 4, _ => exact h.up hb
        | 5, _ => exact h
        | 6, _ => exact h
        | 7, _ => exact h.up hb
        | 8, _ => exact h
        | 9, _ => exact h.up hb
      · intro w1 w2 hb h
        exact h.grow hb
      · exact M.grow ((Up.refl _).drew)
      · rintro i o hi ho av wv fr gM dep
        match i, hi with
        | 0, _ =>
          obtain rfl := Option.some.inj ho
          exact st_mov rfl (fr.eval rfl) rfl
        | 1, _ =>
          obtain rfl := Option.some.inj ho
          exact st_mov rfl (fr.eval rfl) rfl
        | 2, _ =>
          obtain rfl := Option.some.inj ho
          exact st_slH rfl (dep ⟨0, .data⟩ (by simp) rfl) (dep ⟨1, .data⟩ (by simp) rfl) (HV.out.up gM.up) (Nat.le_of_lt hm1) (fun v h => h)
        | 3, _ =>
          obtain rfl := Option.some.inj ho
          exact st_mov rfl (fr.eval rfl) rfl
        | 4, _ =>
          obtain rfl := Option.some.inj ho
          have d1 := dep ⟨3, .data⟩ (by simp) rfl
          have D2 := dep ⟨2, .data⟩ (by simp) rfl
          exact st_ret2 rfl (fun _ _ => by kernel_rfl) (rfl) d1 (HA.out _ _ D2) (fun r w' h _ => OwnFr.of gM h)
        | 5, _ =>
          obtain rfl := Option.some.inj ho
          exact st_mov rfl (fr.eval rfl) rfl
        | 6, _ =>
          obtain rfl := Option.some.inj ho
          exact st_mov rfl (fr.eval rfl) rfl
        | 7, _ =>
          obtain rfl := Option.some.inj ho
          exact st_slL rfl (dep ⟨5, .data⟩ (by simp) rfl) (dep ⟨6, .data⟩ (by simp) rfl) (HV.out.up gM.up) (Nat.le_of_lt hm1) (fun v h => h)
        | 8, _ =>
          obtain rfl := Option.some.inj ho
          have D7 := dep ⟨7, .data⟩ (by simp) rfl
          exact st_ret1 rfl (fun _ _ => by kernel_rfl) (rfl) (HB.out _ _ D7) (fun r w' h _ => h)
        | 9, _ =>
          obtain rfl := Option.some.inj ho
          exact st_lit1R rfl (dep ⟨8, .data⟩ (by simp) rfl) (by simp) (by decide) (bL_one _) (fun v w' h => h)
      · rintro vs wv gM hf
        have f0 : vs 0 = .slice b n cap := hf 0 (by omega)
        have f1 : vs 1 = .int .i64 (m : Int) := hf 1 (by omega)
        have f2 := hf 2 (by omega)
        have f3 : vs 3 = .int .i64 (i : Int) := hf 3 (by omega)
        have f4 := hf 4 (by omega)
        have f5 : vs 5 = .slice b n cap := hf 5 (by omega)
        have f6 : vs 6 = .int .i64 (m : Int) := hf 6 (by omega)
        have f7 := hf 7 (by omega)
        have f8 : vs 8 = .agg (bA y.1) := hf 8 (by omega)
        have f9 := hf 9 (by omega)
        obtain ⟨b4, cap4, e4, M⟩ := gM.ownFr f4
        generalize hv9 : vs 9 = v9
        rw [hv9] at f9
        simp only [putAll, Act.put, List.getElem?_toArray, List.getElem?_cons_zero, List.getElem?_cons_succ, Option.bind_some, List.setIfInBounds_toArray, List.set_cons_zero, List.set_cons_succ, List.drop_succ_cons, List.drop_zero, List.drop_nil, e4, hv9]
        have R9 := Lib.hid f9
        clear f0 f1 f2 f3 f4 f5 f6 f7 f8 f9 hf e4 hv9 gM
        go_wp2_with (first
          | (go_at_call 66; (with_reducible refine mem_call M (sizeKey_c _ _ _ _) ?_); clear M; (try clear wx); rintro _ wx rfl _ M)
          | (with_reducible (show wpList _ _ _ (Oper.mk (some 25) (.buildSlice _ _ _) _ _ _ _ :: _) _ _); (first | (refine m_lit1A M rfl rfl rfl (by first | rfl | assumption | (simp; done) | (simp; omega)) (by decide) ?_) | (refine m_lit11 (v := Value.int _ _) M rfl rfl rfl rfl ?_) | (refine m_lit11 (v := Value.slice _ _ _) M rfl rfl rfl rfl ?_) | (refine m_lit11 (v := Value.bool _) M rfl rfl rfl rfl ?_) | (refine m_lit11 (v := Value.string _) M rfl rfl rfl rfl ?_) | (refine m_lit11 (v := Value.pointer _) M rfl rfl rfl rfl ?_)); clear M; (try clear wx); intro g25 wx M)
          | (with_reducible (show wpList _ _ _ (Oper.mk (some 38) (.buildSlice _ _ _) _ _ _ _ :: _) _ _); (first | (refine m_lit1A M rfl rfl rfl (by first | rfl | assumption | (simp; done) | (simp; omega)) (by decide) ?_) | (refine m_lit11 (v := Value.int _ _) M rfl rfl rfl rfl ?_) | (refine m_lit11 (v := Value.slice _ _ _) M rfl rfl rfl rfl ?_) | (refine m_lit11 (v := Value.bool _) M rfl rfl rfl rfl ?_) | (refine m_lit11 (v := Value.string _) M rfl rfl rfl rfl ?_) | (refine m_lit11 (v := Value.pointer _) M rfl rfl rfl rfl ?_)); clear M; (try clear wx); intro g38 wx M)
          | (with_reducible (show wpList _ _ _ (Oper.mk _ (.call (Call.mk (.builtin .append) _ _)) _ _ _ _ :: _) _ _); (first | (refine m_append M rfl rfl rfl (by first | rfl | omega | (simp; done)) rfl (R9.out) (by first | assumption | (simp only [maxLen]; omega)) (by omega) ?_) | (refine m_append1 M rfl rfl rfl (by first | rfl | omega | (simp; done)) rfl (by first | rfl | assumption | (simp; done) | (simp; omega)) (by first | exact bA_one _ | exact wA_one _ | assumption | (simp [Value.oneCell']; done)) (by first | assumption | (simp only [maxLen]; omega)) (by omega) ?_)); clear M; (try clear wx); intro _ _ wx M; simp only [List.set_cons_zero, List.set_cons_succ, Nat.zero_add, List.nil_append] at M))
        go_ret
        exact ⟨_, rfl, by rw [HE.out.1, HE.out.2]; exact ⟨_, _, rfl, M.out_own (p := 0) rfl⟩, M.up⟩
    · obtain ⟨d, hd⟩ : ∃ d, d = (prfL (ks.drop (halfN n)) (i - halfN n)).length := ⟨_, rfl⟩
      have hd256 : d < 256 := by have := prfL_len (n - halfN n) (ks.drop (halfN n)) (i - halfN n) (by rw [List.length_drop, hks]) (by omega) ; omega
      have HE := Lib.hid (show (prfL ks i).length = d + 1 ∧ kyL (prfL ks i) = kyL (prfL (ks.drop (halfN n)) (i - halfN n)) ++ bL (listK (ks.take (halfN n))).1 by rw [prfL_ge ks i n hks h2 (by omega), kyL_snoc, List.length_append, hd]; exact ⟨rfl, rfl⟩)
      have HA : Hid (∀ v w, Rd w 32 v (n - halfN n) ((kyL ks).drop (halfN n * 32)) → Ret Try.prog 113 #[v, .int .i64 ((i : Int) - (halfN n : Int))] w fun r w' => OwnR w w' 25 32 r d (kyL (prfL (ks.drop (halfN n)) (i - halfN n)))) := Lib.hid (fun v w h => by rw [hd, ← Int.natCast_sub (by omega)]; exact IH.out (n - halfN n) (by omega) _ (i - halfN n) (by rw [List.length_drop, hks]) (by omega) (by omega) (by omega) v w (by rw [kyL_drop] at h; exact h))
      have HB : Hid (∀ v w, Rd w 32 v (halfN n) ((kyL ks).take (halfN n * 32)) → Ret Try.prog 55 #[v] w fun r _ => r = .agg (bA (listK (ks.take (halfN n))).1)) := Lib.hid (fun v w h => listKey_c (halfN n) _ (by rw [List.length_take]; omega) (by omega) v w (by rw [kyL_take] at h; exact h))
      clear hks hd
      generalize kyL (prfL (ks.drop (halfN n)) (i - halfN n)) = xs at *
      generalize listK (ks.take (halfN n)) = y at *
      generalize halfN n = m at *
      go_enter Try.func113, Try.ntmps113
      go_wp2_with (first
        | (go_at_call 66; (with_reducible refine mem_call M (sizeKey_c _ _ _ _) ?_); clear M; (try clear wx); rintro _ wx rfl _ M)
        | (go_at_call 106; (with_reducible refine mem_call M (HH.out _) ?_); clear M; (try clear wx); rintro _ wx rfl _ M)
        | (with_reducible (show wpList _ _ _ (Oper.mk (some 25) (.buildSlice _ _ _) _ _ _ _ :: _) _ _); (first | (refine m_lit1A M rfl rfl rfl (by first | rfl | assumption | (simp; done) | (simp; omega)) (by decide) ?_) | (refine m_lit11 (v := Value.int _ _) M rfl rfl rfl rfl ?_) | (refine m_lit11 (v := Value.slice _ _ _) M rfl rfl rfl rfl ?_) | (refine m_lit11 (v := Value.bool _) M rfl rfl rfl rfl ?_) | (refine m_lit11 (v := Value.string _) M rfl rfl rfl rfl ?_) | (refine m_lit11 (v := Value.pointer _) M rfl rfl rfl rfl ?_)); clear M; (try clear wx); intro g25 wx M)
        | (with_reducible (show wpList _ _ _ (Oper.mk (some 38) (.buildSlice _ _ _) _ _ _ _ :: _) _ _); (first | (refine m_lit1A M rfl rfl rfl (by first | rfl | assumption | (simp; done) | (simp; omega)) (by decide) ?_) | (refine m_lit11 (v := Value.int _ _) M rfl rfl rfl rfl ?_) | (refine m_lit11 (v := Value.slice _ _ _) M rfl rfl rfl rfl ?_) | (refine m_lit11 (v := Value.bool _) M rfl rfl rfl rfl ?_) | (refine m_lit11 (v := Value.string _) M rfl rfl rfl rfl ?_) | (refine m_lit11 (v := Value.pointer _) M rfl rfl rfl rfl ?_)); clear M; (try clear wx); intro g38 wx M)
        | (with_reducible (show wpList _ _ _ (Oper.mk _ (.call (Call.mk (.builtin .append) _ _)) _ _ _ _ :: _) _ _); (first | (refine m_append1 M rfl rfl rfl (by first | rfl | omega | (simp; done)) rfl (by first | rfl | assumption | (simp; done) | (simp; omega)) (by first | exact bA_one _ | exact wA_one _ | assumption | (simp [Value.oneCell']; done)) (by first | assumption | (simp only [maxLen]; omega)) (by omega) ?_)); clear M; (try clear wx); intro _ _ wx M; simp only [List.set_cons_zero, List.set_cons_succ, Nat.zero_add, List.nil_append] at M))
      refine region_mono (m := 12) mixedOrders_ (by kernel_rfl) (by kernel_rfl)
        (fun | 0 => fun vq _ => vq = .slice b n cap | 1 => fun vq _ => vq = .int .i64 (m : Int) | 2 => fun v wx => Rd wx 32 v (n - m) ((kyL ks).drop (m * 32)) | 3 => fun vq _ => vq = .int .i64 (i : Int) | 4 => fun vq _ => vq = .int .i64 (m : Int) | 5 => fun vq _ => vq = .int .i64 ((i : Int) - (m : Int)) | 6 => fun v wx => OwnFr w [] 25 32 d xs v wx | 7 => fun vq _ => vq = .slice b n cap | 8 => fun vq _ => vq = .int .i64 (m : Int) | 9 => fun v wx => Rd wx 32 v m ((kyL ks).take (m * 32)) | 10 => fun vq _ => vq = .agg (bA y.1) | 11 => fun v wx => Rd wx 32 v 1 (bL y.1) | _ => fun _ _ => True)
        (fun wx => Mem w wx []) ?_ ?_ ?_ ?_ ?_
      · intro j hj v w1 w2 hb h
        match j, hj with
        | 0, _ => exact h
        | 1, _ => exact h
        | 2, _ => exact h.up hb
        | 3, _ => exact h
        | 4, _ => exact h
        | 5, _ => exact h
        | 6, _ => exact h.up hb
        | 7, _ => exact h
        | 8, _ => exact h
        | 9, _ => exact h.up hb
        | 10, _ => exact h
        | 11, _ => exact h.up hb
      · intro w1 w2 hb h
        exact h.grow hb
      · exact M.grow ((Up.refl _).drew)
      · rintro i o hi ho av wv fr gM dep
        match i, hi with
        | 0, _ =>
          obtain rfl := Option.some.inj ho
          exact st_mov rfl (fr.eval rfl) rfl
        | 1, _ =>
          obtain rfl := Option.some.inj ho
          exact st_mov rfl (fr.eval rfl) rfl
        | 2, _ =>
          obtain rfl := Option.some.inj ho
          exact st_slL rfl (dep ⟨0, .data⟩ (by simp) rfl) (dep ⟨1, .data⟩ (by simp) rfl) (HV.out.up gM.up) (Nat.le_of_lt hm1) (fun v h => h)
        | 3, _ =>
          obtain rfl := Option.some.inj ho
          exact st_mov rfl (fr.eval rfl) rfl
        | 4, _ =>
          obtain rfl := Option.some.inj ho
          exact st_mov rfl (fr.eval rfl) rfl
        | 5, _ =>
          obtain rfl := Option.some.inj ho
          exact st_bin rfl (dep ⟨3, .data⟩ (by simp) rfl) (dep ⟨4, .data⟩ (by simp) rfl) (bin_sub64 _ _ _ (i64_in_ _ (by omega)) _ _ _) rfl
        | 6, _ =>
          obtain rfl := Option.some.inj ho
          have d1 := dep ⟨5, .data⟩ (by simp) rfl
          have D2 := dep ⟨2, .data⟩ (by simp) rfl
          exact st_ret2 rfl (fun _ _ => by kernel_rfl) (rfl) d1 (HA.out _ _ D2) (fun r w' h _ => OwnFr.of gM h)
        | 7, _ =>
          obtain rfl := Option.some.inj ho
          exact st_mov rfl (fr.eval rfl) rfl
        | 8, _ =>
          obtain rfl := Option.some.inj ho
          exact st_mov rfl (fr.eval rfl) rfl
        | 9, _ =>
          obtain rfl := Option.some.inj ho
          exact st_slH rfl (dep ⟨7, .data⟩ (by simp) rfl) (dep ⟨8, .data⟩ (by simp) rfl) (HV.out.up gM.up) (Nat.le_of_lt hm1) (fun v h => h)
        | 10, _ =>
          obtain rfl := Option.some.inj ho
          have D9 := dep ⟨9, .data⟩ (by simp) rfl
          exact st_ret1 rfl (fun _ _ => by kernel_rfl) (rfl) (HB.out _ _ D9) (fun r w' h _ => h)
        | 11, _ =>
          obtain rfl := Option.some.inj ho
          exact st_lit1R rfl (dep ⟨10, .data⟩ (by simp) rfl) (by simp) (by decide) (bL_one _) (fun v w' h => h)
      · rintro vs wv gM hf
        have f0 : vs 0 = .slice b n cap := hf 0 (by omega)
        have f1 : vs 1 = .int .i64 (m : Int) := hf 1 (by omega)
        have f2 := hf 2 (by omega)
        have f3 : vs 3 = .int .i64 (i : Int) := hf 3 (by omega)
        have f4 : vs 4 = .int .i64 (m : Int) := hf 4 (by omega)
        have f5 : vs 5 = .int .i64 ((i : Int) - (m : Int)) := hf 5 (by omega)
        have f6 := hf 6 (by omega)
        have f7 : vs 7 = .slice b n cap := hf 7 (by omega)
        have f8 : vs 8 = .int .i64 (m : Int) := hf 8 (by omega)
        have f9 := hf 9 (by omega)
        have f10 : vs 10 = .agg (bA y.1) := hf 10 (by omega)
        have f11 := hf 11 (by omega)
        obtain ⟨b4, cap4, e4, M⟩ := gM.ownFr f6
        generalize hv9 : vs 11 = v9
        rw [hv9] at f11
        simp only [putAll, Act.put, List.getElem?_toArray, List.getElem?_cons_zero, List.getElem?_cons_succ, Option.bind_some, List.setIfInBounds_toArray, List.set_cons_zero, List.set_cons_succ, List.drop_succ_cons, List.drop_zero, List.drop_nil, e4, hv9]
        have R9 := Lib.hid f11
        clear f0 f1 f2 f3 f4 f5 f6 f7 f8 f9 f10 f11 hf e4 hv9 gM
        go_wp2_with (first
          | (go_at_call 66; (with_reducible refine mem_call M (sizeKey_c _ _ _ _) ?_); clear M; (try clear wx); rintro _ wx rfl _ M)
          | (with_reducible (show wpList _ _ _ (Oper.mk (some 25) (.buildSlice _ _ _) _ _ _ _ :: _) _ _); (first | (refine m_lit1A M rfl rfl rfl (by first | rfl | assumption | (simp; done) | (simp; omega)) (by decide) ?_) | (refine m_lit11 (v := Value.int _ _) M rfl rfl rfl rfl ?_) | (refine m_lit11 (v := Value.slice _ _ _) M rfl rfl rfl rfl ?_) | (refine m_lit11 (v := Value.bool _) M rfl rfl rfl rfl ?_) | (refine m_lit11 (v := Value.string _) M rfl rfl rfl rfl ?_) | (refine m_lit11 (v := Value.pointer _) M rfl rfl rfl rfl ?_)); clear M; (try clear wx); intro g25 wx M)
          | (with_reducible (show wpList _ _ _ (Oper.mk (some 38) (.buildSlice _ _ _) _ _ _ _ :: _) _ _); (first | (refine m_lit1A M rfl rfl rfl (by first | rfl | assumption | (simp; done) | (simp; omega)) (by decide) ?_) | (refine m_lit11 (v := Value.int _ _) M rfl rfl rfl rfl ?_) | (refine m_lit11 (v := Value.slice _ _ _) M rfl rfl rfl rfl ?_) | (refine m_lit11 (v := Value.bool _) M rfl rfl rfl rfl ?_) | (refine m_lit11 (v := Value.string _) M rfl rfl rfl rfl ?_) | (refine m_lit11 (v := Value.pointer _) M rfl rfl rfl rfl ?_)); clear M; (try clear wx); intro g38 wx M)
          | (with_reducible (show wpList _ _ _ (Oper.mk _ (.call (Call.mk (.builtin .append) _ _)) _ _ _ _ :: _) _ _); (first | (refine m_append M rfl rfl rfl (by first | rfl | omega | (simp; done)) rfl (R9.out) (by first | assumption | (simp only [maxLen]; omega)) (by omega) ?_) | (refine m_append1 M rfl rfl rfl (by first | rfl | omega | (simp; done)) rfl (by first | rfl | assumption | (simp; done) | (simp; omega)) (by first | exact bA_one _ | exact wA_one _ | assumption | (simp [Value.oneCell']; done)) (by first | assumption | (simp only [maxLen]; omega)) (by omega) ?_)); clear M; (try clear wx); intro _ _ wx M; simp only [List.set_cons_zero, List.set_cons_succ, Nat.zero_add, List.nil_append] at M))
        go_ret
        exact ⟨_, rfl, by rw [HE.out.1, HE.out.2]; exact ⟨_, _, rfl, M.out_own (p := 0) rfl⟩, M.up⟩

def poT (ks : List Ky) (i : Int) : List Ky × Int := if 256 < ks.length then ([], 3) else if 0 ≤ i ∧ i ≤ (ks.length : Int) - 1 then (prfL ks i.toNat, 0) else ([], 2)
theorem poT_len (ks : List Ky) (i : Int) : (poT ks i).1.length ≤ 256 := by
  unfold poT
  split
  · exact Nat.zero_le _
  · split
    · have := prfL_len ks.length ks i.toNat rfl (by omega)
      show (prfL ks i.toNat).length ≤ 256
      omega
    · exact Nat.zero_le _

end Go.Proofs.Ytmbhaoiahlbglaa

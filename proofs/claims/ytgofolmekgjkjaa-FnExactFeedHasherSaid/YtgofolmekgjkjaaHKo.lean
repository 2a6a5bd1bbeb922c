/- Walks: hashers: the key of all data. -/
import Derived.Test.YtgofolmekgjkjaaHHq
import Derived.Test.YtgofolmekgjkjaaKH2
namespace Go.Proofs.Ytgofolmekgjkjaa
open Go.RowKit
set_option linter.unusedVariables false
set_option linter.unusedSimpArgs false

instance : RowT Try.prog 43 10 := ⟨⟨_, Try.underlying43, rfl, by kernel_rfl⟩⟩
instance : ZeroT Try.prog 43 (hasC zero8 (.slice none 0 0) 0) := ⟨⟨.agg (hasC zero8 (.slice none 0 0) 0), fun w => by kernel_rfl, rfl⟩⟩
instance : ZeroB Try.prog 43 (hasC zero8 (.slice none 0 0) 0) := ⟨by kernel_rfl⟩
section
variable {P : Program} {ops : Array Oper} {rest : List Oper} {o : Oper} {a : Act} {w0 w : World} {Q : Exit → Act → World → Prop} {L : List It} {F : Value → World → Prop}
theorem st_fld {t : TypeId} {x : Operand} {i : Nat} (ho : o.op = .fieldAddr t x i) {fs : Array Field} (hu : P.underlying t = some (.struct fs)) {f : Field} (hf : fs[i]? = some f) {g off : Nat} (hx : a.eval x = .pointer (some ⟨g, off, none⟩)) (k : Nat) (hk : f.offset = k) (hs : (P.info? f.type).map (fun i => decide (i.size = 0)) = some false)
    (hF : F (.pointer (some ⟨g, off + k, none⟩)) w) : St P o a w Q F := by
  refine st_run (v := .pointer (some ⟨g, off + k, none⟩)) ?_ hF
  unfold execOp
  subst hk
  obtain ⟨i0, hi, hs⟩ := Option.map_eq_some_iff.1 hs
  have hs' : i0.size ≠ 0 := of_decide_eq_false hs
  simp [ho, hx, Instr.fieldAt, Instr.sureAddr, run_underlying hu, hf, Sem.run_bind, fieldPlace, Addr.add_mid, sizeOf, typeInfo, hi, hs']
theorem st_x0 {x : Operand} (ho : o.op = .extract x 0) {v0 v1 : Value} (hx : a.eval x = .tuple #[v0, v1]) (hF : F v0 w) : St P o a w Q F := by
  refine st_run (v := v0) ?_ hF
  unfold execOp
  simp only [ho, hx]
  rfl
theorem st_x1 {x : Operand} (ho : o.op = .extract x 1) {v0 v1 : Value} (hx : a.eval x = .tuple #[v0, v1]) (hF : F v1 w) : St P o a w Q F := by
  refine st_run (v := v1) ?_ hF
  unfold execOp
  simp only [ho, hx]
  rfl
/-- Words out of a block. -/
theorem m_loadW (M : Mem w0 w L) (hgd : o.guard = none) {ty : TypeId} {x : Operand} (ho : o.op = .load ty x) {g i : Nat} (hx : a.eval x = .pointer (some ⟨g, i, none⟩)) {n : Nat} [hT : RowT P ty n]
    {p : Nat} {t : TypeId} {cs : Array Value} [hL : AtG L g p t cs] {s : List UInt32} (hc : ∀ (j : Nat) (v : Value), (s.map wV)[j]? = some v → cs[i + j]? = some v) (hn : s.length = n)
    (h : wpList P ops Q rest (a.put o.dst (.agg (wA s))) w) : wpList P ops Q (o :: rest) a w := m_loadP M hgd ho hx hc (by rw [List.length_map, hn]) h
/-- A result that is a hasher with bytes of its own. -/
def HasR (w w' : World) (e : TypeId) (r : Value) (s : List UInt32) (n : Nat) (c : Int) (xs : List Value) : Prop := ∃ b cap, r = .agg (hasC s (.slice b n cap) c) ∧ w'.ownsRow w.heap.size e 1 (.slice b n cap) n xs
theorem mem_callH {f : FuncId} {args : Array Value} {e : TypeId} {n : Nat} {xs : List Value} {s : List UInt32} {c : Int} (M : Mem w0 w L) {K : Ending → World → Prop} (h : Ret P f args w fun r w' => HasR w w' e r s n c xs)
    (k : ∀ b cap w', Mem w0 w' (.own b cap e 1 n xs :: L) → K (.returned (.agg (hasC s (.slice b n cap) c))) w') : Calls P f args w K :=
  Calls.mono h fun e' w' ⟨r, he, ⟨b, cap, hr, ho⟩, hb⟩ => by
    subst he hr
    exact k b cap w' (M.addO hb ho)
/-- The same with a code. -/
def HasR2 (w w' : World) (e : TypeId) (r : Value) (s : List UInt32) (n : Nat) (c : Int) (xs : List Value) (y : Value) : Prop := ∃ b cap, r = .tuple #[.agg (hasC s (.slice b n cap) c), y] ∧ w'.ownsRow w.heap.size e 1 (.slice b n cap) n xs
theorem mem_callH2 {f : FuncId} {args : Array Value} {e : TypeId} {n : Nat} {xs : List Value} {s : List UInt32} {c : Int} {y : Value} (M : Mem w0 w L) {K : Ending → World → Prop} (h : Ret P f args w fun r w' => HasR2 w w' e r s n c xs y)
    (k : ∀ b cap w', Mem w0 w' (.own b cap e 1 n xs :: L) → K (.returned (.tuple #[.agg (hasC s (.slice b n cap) c), y])) w') : Calls P f args w K :=
  Calls.mono h fun e' w' ⟨r, he, ⟨b, cap, hr, ho⟩, hb⟩ => by
    subst he hr
    exact k b cap w' (M.addO hb ho)
end
theorem hasC_pre (s : List UInt32) (h : Value) (n : Int) : ∀ (j : Nat) (v : Value), (s.map wV)[j]? = some v → (hasC s h n)[0 + j]? = some v := by
  intro j v hv
  have hj : j < (s.map wV).length := (List.getElem?_eq_some_iff.1 hv).1
  simp only [Nat.zero_add, hasC, hasL, List.getElem?_toArray, List.getElem?_append_left hj]
  exact hv

theorem RdS.two2 {w : World} {e : TypeId} {b1 b2 : Option Addr} {c1 c2 m : Nat} {x y : List UInt8} (hm : x.length = m) (h1 : Rd w 1 (.slice b1 m c1) m (bL x)) (h2 : Rd w 1 (.slice b2 y.length c2) y.length (bL y)) :
    RdS (w.alloc (.cells #[.slice b1 m c1, .slice b2 y.length c2] e)) (.slice (some ⟨w.heap.size, 0, none⟩) 2 2) [x, y] := by
  subst hm
  have M := (Mem.start w).alloc_ e #[.slice b1 x.length c1, .slice b2 y.length c2]
  exact RdS.two M (h1.up ((Up.refl _).alloc _)) (h2.up ((Up.refl _).alloc _))

theorem toHasher_r (s : List UInt32) (hs : s.length = 8) (v : Value) (l : List UInt8) (m : Nat) (hm : l.length = m) (n : Int) (w : World) (hv : RdB w v l) (hl : m ≤ 1048576) :
    Ret Try.prog 29 #[.agg (hasC s v n)] w fun r w' => HasR w w' 5 r s m n (bL l) := by
  subst hm
  exact Calls.mono (toHasher_c s hs v l n w hv hl) fun e w' ⟨⟨g, he, hg, hb⟩, hu⟩ => ⟨_, he, ⟨_, _, rfl, own_back (xs := bL l) (tl := []) hg (by rw [List.append_nil]; exact hb) (by simp [bL]) (Nat.le_refl _) (by simp only [maxLen]; omega) (by simp [bL])⟩, hu⟩

theorem l01Ok_r (s : List UInt32) (hs : s.length = 8) (b : Option Addr) (m cap : Nat) (n : Int) (g t : Nat) (w : World) (hb : Blk w g t (hasC s (.slice b m cap) n)) : Ret Try.prog 60 #[.pointer (some ⟨g, 0, none⟩)] w fun r _ => r = .bool (okHas n m) :=
  Ret.drew (l01Ok_c g t _ b m cap n w hb (hasC_8 s _ n hs) (hasC_9 s _ n hs))

theorem validHasher_r (s : List UInt32) (hs : s.length = 8) (b : Option Addr) (m cap : Nat) (n : Int) (w : World) : Ret Try.prog 64 #[.agg (hasC s (.slice b m cap) n)] w fun r _ => r = .bool (okHas n m) :=
  Ret.of (implValidHasher_c s hs b m cap n w)

theorem okHas_true (n : Int) (m : Nat) (h : okHas n m = true) : ∃ k : Nat, n = (k : Int) ∧ k ≤ 1000000000 ∧ m = k % 32 := by
  simp only [okHas, inB, Bool.and_eq_true, decide_eq_true_eq, beq_iff_eq] at h
  exact ⟨n.toNat, by omega, by omega, by omega⟩
/-- What KeyOf gives. -/
def koT (s : List UInt32) (l : List UInt8) (n : Int) : Ky × Int := if okHas n l.length then (endK s l n.toNat, 0) else (zeroKy, 1)
theorem padB_mod (l : List UInt8) (k : Nat) (h : l.length = k % 32) : padB k k = padB l.length k := by
  have : padZ k = padZ l.length := by unfold padZ; rw [h, Nat.mod_mod]
  unfold padB
  rw [this]

set_option maxHeartbeats 2000000 in
set_option maxRecDepth 100000 in
theorem specKeyOf_c (s : List UInt32) (hs : s.length = 8) (v : Value) (l : List UInt8) (m : Nat) (hm : l.length = m) (n : Int) (w : World) (hv : Rd w 1 v m (bL l)) (hl : m ≤ 1048576) :
    Ret Try.prog 35 #[.agg (hasC s v n)] w fun r _ => r = .tuple #[.agg (bA (koT s l n).1.1), .int .i64 (koT s l n).2] := by
  obtain ⟨b, cap, rfl⟩ := hv.shape
  have HV := Lib.hid hv
  have HL := Lib.hid hs
  have HO := Lib.hid (l01Ok_r s hs b m cap n)
  refine ret_start fun wx M => ?_
  clear hv hs
  by_cases hok : okHas n m = true
  · have HE := Lib.hid (show koT s l n = (endK s l n.toNat, 0) by rw [koT, hm, if_pos hok])
    rw [hok] at HO
    obtain ⟨k, rfl, hk, hmk⟩ := okHas_true n m hok
    have HA : Hid (∀ v w, Rd w 1 v m (bL l) → Ret Try.prog 71 #[.agg (wA s), v, .int .i64 (k : Int)] w fun r _ => r = .agg (bA (endK s l k).1)) := Lib.hid (fun v w h => l01End_c s HL.out v l k w (by rw [hm]; exact h) (by omega) (by omega))
    rw [Int.toNat_natCast] at HE
    clear hok hm hmk
    generalize endK s l k = z at *
    go_enter Try.func35, Try.ntmps35
    go_wp2_with (first
      | (go_at_call 60; (with_reducible refine mem_call M (HO.out _ _ _ (M.blkG g1)) ?_); clear M; (try clear wx); rintro _ wx rfl _ M)
      | (go_at_call 71; (with_reducible refine mem_call M (HA.out _ _ (HV.out.up M.up)) ?_); clear M; (try clear wx); rintro _ wx rfl _ M)
      | (with_reducible (show wpList _ _ _ (Oper.mk (some 1) (.box _ _) _ _ _ _ :: _) _ _); (first | (refine m_boxA M rfl rfl rfl ?_) | (refine m_box1 (v := Value.int _ _) M rfl rfl rfl rfl ?_) | (refine m_box1 (v := Value.slice _ _ _) M rfl rfl rfl rfl ?_) | (refine m_box1 (v := Value.bool _) M rfl rfl rfl rfl ?_) | (refine m_box1 (v := Value.string _) M rfl rfl rfl rfl ?_) | (refine m_box1 (v := Value.pointer _) M rfl rfl rfl rfl ?_)); clear M; (try clear wx); intro g1 wx M)
      | (with_reducible (show wpList _ _ _ (Oper.mk (some 2) (.alloc _) _ _ _ _ :: _) _ _); refine mem_new M rfl rfl ?_; clear M; (try clear wx); intro g2 wx M)
      | (with_reducible (show wpList _ _ _ (Oper.mk _ (.load _ _) _ _ _ _ :: _) _ _); (first | (refine m_loadW M rfl rfl rfl (hasC_pre _ _ _) HL.out ?_) | (refine m_load M rfl rfl rfl (hasC_8 _ _ _ HL.out) ?_) | (refine m_load M rfl rfl rfl (hasC_9 _ _ _ HL.out) ?_) | (refine m_load M rfl rfl rfl (by first | assumption | rfl) ?_) | (refine m_loadR M rfl rfl rfl (by first | rfl | assumption | (simp; done) | (simp; omega)) ?_)))
      | (with_reducible (show wpList _ _ _ (Oper.mk _ (.store _ _ _) _ _ _ _ :: _) _ _); (first | (refine m_storeR M rfl rfl rfl rfl (by first | rfl | assumption | (simp; done) | (simp; omega)) (by first | rfl | assumption | (simp; done) | (simp; omega)) (by first | exact bA_one _ | exact wA_one _ | assumption | (simp [Value.oneCell']; done)) ?_) | (refine m_store (v := Value.int _ _) M rfl rfl rfl rfl rfl (by first | assumption | (simp; done) | (simp; omega)) ?_) | (refine m_store (v := Value.slice _ _ _) M rfl rfl rfl rfl rfl (by first | assumption | (simp; done) | (simp; omega)) ?_) | (refine m_store (v := Value.bool _) M rfl rfl rfl rfl rfl (by first | assumption | (simp; done) | (simp; omega)) ?_) | (refine m_store (v := Value.string _) M rfl rfl rfl rfl rfl (by first | assumption | (simp; done) | (simp; omega)) ?_) | (refine m_store (v := Value.pointer _) M rfl rfl rfl rfl rfl (by first | assumption | (simp; done) | (simp; omega)) ?_)); clear M; (try clear wx); intro wx M; simp only [List.set_cons_zero, List.set_cons_succ, Nat.zero_add, List.nil_append] at M)
      | (with_reducible (show wpList _ _ _ (Oper.mk _ (.build _ _) _ _ _ _ :: _) _ _); refine m_buildZ rfl rfl ?_))
    exact m_ret2 M rfl rfl rfl (by simp) (by rw [HE.out]; rfl)
  · have HE := Lib.hid (show koT s l n = (zeroKy, 1) by rw [koT, hm, if_neg hok])
    rw [Bool.not_eq_true] at hok
    rw [hok] at HO
    clear hok hm
    go_enter Try.func35, Try.ntmps35
    go_wp2_with (first
      | (go_at_call 60; (with_reducible refine mem_call M (HO.out _ _ _ (M.blkG g1)) ?_); clear M; (try clear wx); rintro _ wx rfl _ M)
      | (with_reducible (show wpList _ _ _ (Oper.mk (some 1) (.box _ _) _ _ _ _ :: _) _ _); (first | (refine m_boxA M rfl rfl rfl ?_) | (refine m_box1 (v := Value.int _ _) M rfl rfl rfl rfl ?_) | (refine m_box1 (v := Value.slice _ _ _) M rfl rfl rfl rfl ?_) | (refine m_box1 (v := Value.bool _) M rfl rfl rfl rfl ?_) | (refine m_box1 (v := Value.string _) M rfl rfl rfl rfl ?_) | (refine m_box1 (v := Value.pointer _) M rfl rfl rfl rfl ?_)); clear M; (try clear wx); intro g1 wx M)
      | (with_reducible (show wpList _ _ _ (Oper.mk (some 2) (.alloc _) _ _ _ _ :: _) _ _); refine mem_new M rfl rfl ?_; clear M; (try clear wx); intro g2 wx M)
      | (with_reducible (show wpList _ _ _ (Oper.mk _ (.load _ _) _ _ _ _ :: _) _ _); (first | (refine m_load M rfl rfl rfl (by first | assumption | rfl) ?_) | (refine m_loadR M rfl rfl rfl (by first | rfl | assumption | (simp; done) | (simp; omega)) ?_)))
      | (with_reducible (show wpList _ _ _ (Oper.mk _ (.store _ _ _) _ _ _ _ :: _) _ _); (first | (refine m_storeR M rfl rfl rfl rfl (by first | rfl | assumption | (simp; done) | (simp; omega)) (by first | rfl | assumption | (simp; done) | (simp; omega)) (by first | exact bA_one _ | exact wA_one _ | assumption | (simp [Value.oneCell']; done)) ?_) | (refine m_store (v := Value.int _ _) M rfl rfl rfl rfl rfl (by first | assumption | (simp; done) | (simp; omega)) ?_) | (refine m_store (v := Value.slice _ _ _) M rfl rfl rfl rfl rfl (by first | assumption | (simp; done) | (simp; omega)) ?_) | (refine m_store (v := Value.bool _) M rfl rfl rfl rfl rfl (by first | assumption | (simp; done) | (simp; omega)) ?_) | (refine m_store (v := Value.string _) M rfl rfl rfl rfl rfl (by first | assumption | (simp; done) | (simp; omega)) ?_) | (refine m_store (v := Value.pointer _) M rfl rfl rfl rfl rfl (by first | assumption | (simp; done) | (simp; omega)) ?_)); clear M; (try clear wx); intro wx M; simp only [List.set_cons_zero, List.set_cons_succ, Nat.zero_add, List.nil_append] at M)
      | (with_reducible (show wpList _ _ _ (Oper.mk _ (.build _ _) _ _ _ _ :: _) _ _); refine m_buildZ rfl rfl ?_))
    exact m_ret2 M rfl rfl rfl (by simp) (by rw [HE.out]; rfl)

set_option maxHeartbeats 4000000 in
set_option maxRecDepth 100000 in
theorem implKeyOf_c (s : List UInt32) (hs : s.length = 8) (v : Value) (l : List UInt8) (m : Nat) (hm : l.length = m) (n : Int) (w : World) (hv : Rd w 1 v m (bL l)) (hl : m ≤ 1048576) :
    Ret Try.prog 36 #[.agg (hasC s v n)] w fun r _ => r = .tuple #[.agg (bA (koT s l n).1.1), .int .i64 (koT s l n).2] := by
  obtain ⟨b, cap, rfl⟩ := hv.shape
  have HV := Lib.hid hv
  have HL := Lib.hid hs
  have HO := Lib.hid (validHasher_r s hs b m cap n)
  have HSZ := Lib.hid (hasC_size s (.slice b m cap) n hs)
  refine ret_start fun wx M => ?_
  clear hv hs
  by_cases hok : okHas n m = true
  · have HE := Lib.hid (show koT s l n = (endK s l n.toNat, 0) by rw [koT, hm, if_pos hok])
    rw [hok] at HO
    obtain ⟨k, rfl, hk, hmk⟩ := okHas_true n m hok
    rw [Int.toNat_natCast] at HE
    have HP : Hid (∀ w, Ret Try.prog 72 #[.int .i64 (k : Int)] w fun r w' => OwnR w w' 5 1 r (padB m k).length (bL (padB m k))) := Lib.hid (fun w => by have := padding_c k w (by omega); rwa [padB_mod l k (by omega), hm] at this)
    have HQ := Lib.hid (show endK s l k = stB (mixKs s (blkK (l ++ padB m k) ((l ++ padB m k).length / 32))) by rw [endK, padKs', padded, hm])
    have hpl : (padB m k).length ≤ 100 := by have := padZ_lt m; rw [padB_len]; omega
    obtain ⟨q, hq⟩ : ∃ q, padB m k = q := ⟨_, rfl⟩
    rw [hq] at HP HQ hpl
    have HLQ := Lib.hid hm
    have hll : l.length ≤ 1048576 := by omega
    clear hok hmk hq hm
    go_enter Try.func36, Try.ntmps36
    go_wp2_with (first
      | (go_at_call 64; (with_reducible refine mem_call M (HO.out _) ?_); clear M; (try clear wx); rintro _ wx rfl _ M)
      | (with_reducible (show wpList _ _ _ (Oper.mk (some 1) (.box _ _) _ _ _ _ :: _) _ _); (first | (refine m_boxA M rfl rfl rfl ?_) | (refine m_box1 (v := Value.int _ _) M rfl rfl rfl rfl ?_) | (refine m_box1 (v := Value.slice _ _ _) M rfl rfl rfl rfl ?_) | (refine m_box1 (v := Value.bool _) M rfl rfl rfl rfl ?_) | (refine m_box1 (v := Value.string _) M rfl rfl rfl rfl ?_) | (refine m_box1 (v := Value.pointer _) M rfl rfl rfl rfl ?_)); clear M; (try clear wx); intro g1 wx M)
      | (with_reducible (show wpList _ _ _ (Oper.mk (some 2) (.alloc _) _ _ _ _ :: _) _ _); refine mem_new M rfl rfl ?_; clear M; (try clear wx); intro g2 wx M)
      | (with_reducible (show wpList _ _ _ (Oper.mk _ (.load _ _) _ _ _ _ :: _) _ _); (first | (refine m_load M rfl rfl rfl (by first | assumption | rfl) ?_) | (refine m_loadR M rfl rfl rfl (by first | exact HSZ.out | rfl | assumption | (simp; done)) ?_)))
      | (with_reducible (show wpList _ _ _ (Oper.mk _ (.store _ _ _) _ _ _ _ :: _) _ _); (first | (refine m_storeR M rfl rfl rfl rfl (by first | exact HSZ.out | rfl | assumption | (simp; done)) (by first | exact HSZ.out | rfl | assumption | (simp; done)) (by first | exact bA_one _ | exact wA_one _ | assumption | (simp [Value.oneCell']; done)) ?_) | (refine m_store (v := Value.int _ _) M rfl rfl rfl rfl rfl (by first | assumption | (simp; done) | (simp; omega)) ?_) | (refine m_store (v := Value.slice _ _ _) M rfl rfl rfl rfl rfl (by first | assumption | (simp; done) | (simp; omega)) ?_) | (refine m_store (v := Value.bool _) M rfl rfl rfl rfl rfl (by first | assumption | (simp; done) | (simp; omega)) ?_) | (refine m_store (v := Value.string _) M rfl rfl rfl rfl rfl (by first | assumption | (simp; done) | (simp; omega)) ?_) | (refine m_store (v := Value.pointer _) M rfl rfl rfl rfl rfl (by first | assumption | (simp; done) | (simp; omega)) ?_)); clear M; (try clear wx); intro wx M; simp only [List.set_cons_zero, List.set_cons_succ, Nat.zero_add, List.nil_append] at M)
      | (with_reducible (show wpList _ _ _ (Oper.mk _ (.build _ _) _ _ _ _ :: _) _ _); refine m_buildZ rfl rfl ?_))
    refine region_mono (m := 12) mixedOrders_ (by kernel_rfl) (by kernel_rfl)
      (fun | 0 => fun vq _ => vq = .pointer (some ⟨g1, 8, none⟩) | 1 => fun vq _ => vq = .slice b m cap | 2 => fun vq _ => vq = .pointer (some ⟨g1, 9, none⟩) | 3 => fun vq _ => vq = .int .i64 (k : Int) | 4 => fun v wx => ∃ b2 c2, v = .slice b2 q.length c2 ∧ Rd wx 1 v q.length (bL q) | 5 => fun v wx => RdS wx v [l, q] | 6 => fun v wx => Rd wx 1 v (l ++ q).length (bL (l ++ q)) | 7 => fun v wx => ∃ b1 c1 v2, v = .tuple #[.slice b1 ((l ++ q).length / 32) c1, v2] ∧ Rd wx 32 (.slice b1 ((l ++ q).length / 32) c1) ((l ++ q).length / 32) (kyL (blkK (l ++ q) ((l ++ q).length / 32))) | 8 => fun v wx => ∃ b1 c1 v2, v = .tuple #[.slice b1 ((l ++ q).length / 32) c1, v2] ∧ Rd wx 32 (.slice b1 ((l ++ q).length / 32) c1) ((l ++ q).length / 32) (kyL (blkK (l ++ q) ((l ++ q).length / 32))) | 9 => fun v wx => Rd wx 32 v ((l ++ q).length / 32) (kyL (blkK (l ++ q) ((l ++ q).length / 32))) | 10 => fun v wx => True | 11 => fun v wx => Rd wx 32 v ((l ++ q).length / 32) (kyL (blkK (l ++ q) ((l ++ q).length / 32))) | _ => fun _ _ => True)
      (fun wx => Mem w wx [.blk g2 23 (bA zero32), .blk g1 43 (hasC s (.slice b m cap) (k : Int))]) ?_ ?_ ?_ ?_ ?_
    · intro j hj v w1 w2 hb h
      match j, hj with
      | 0, _ => exact h
      | 1, _ => exact h
      | 2, _ => exact h
      | 3, _ => exact h
      | 4, _ => exact (let ⟨b2, c2, e, r⟩ := h; ⟨b2, c2, e, r.up hb⟩)
      | 5, _ => exact h.up hb
      | 6, _ => exact h.up hb
      | 7, _ => exact (let ⟨b1, c1, v2, e, r⟩ := h; ⟨b1, c1, v2, e, r.up hb⟩)
      | 8, _ => exact (let ⟨b1, c1, v2, e, r⟩ := h; ⟨b1, c1, v2, e, r.up hb⟩)
      | 9, _ => exact h.up hb
      | 10, _ => exact trivial
      | 11, _ => exact h.up hb
    · intro w1 w2 hb h
      exact h.grow hb
    · exact M.grow ((Up.refl _).drew)
    · rintro i o hi ho av wv fr gM dep
      match i, hi with
      | 0, _ =>
        obtain rfl := Option.some.inj ho
        exact st_fld rfl Try.underlying43 rfl (fr.eval rfl) 8 rfl (by kernel_rfl) rfl
      | 1, _ =>
        obtain rfl := Option.some.inj ho
        exact st_load1G gM rfl (dep ⟨0, .data⟩ (by simp) rfl) (hasC_8 _ _ _ HL.out) rfl
      | 2, _ =>
        obtain rfl := Option.some.inj ho
        exact st_fld rfl Try.underlying43 rfl (fr.eval rfl) 9 rfl (by kernel_rfl) rfl
      | 3, _ =>
        obtain rfl := Option.some.inj ho
        exact st_load1G gM rfl (dep ⟨2, .data⟩ (by simp) rfl) (hasC_9 _ _ _ HL.out) rfl
      | 4, _ =>
        obtain rfl := Option.some.inj ho
        have d0 := dep ⟨3, .data⟩ (by simp) rfl
        exact st_ret1 rfl (fun _ _ => by kernel_rfl) d0 (HP.out _) (fun r w' h _ => by obtain ⟨b2, c2, e, _⟩ := id h; exact ⟨b2, c2, e, h.rd (bL_one _)⟩)
      | 5, _ =>
        obtain rfl := Option.some.inj ho
        obtain ⟨b2, c2, e, r⟩ := dep ⟨4, .data⟩ (by simp) rfl
        rw [e] at r
        exact st_lit2 rfl (dep ⟨1, .data⟩ (by simp) rfl) e rfl rfl (RdS.two2 (e := 30) HLQ.out (HV.out.up gM.up) r)
      | 6, _ =>
        obtain rfl := Option.some.inj ho
        have D := dep ⟨5, .data⟩ (by simp) rfl
        exact st_ret1 rfl (fun _ _ => by kernel_rfl) rfl (concat_c _ [l, q] _ D (by simp; omega) (by simp)) (fun r w' h _ => by have h2 := h.rd (bL_one _); simpa using h2)
      | 7, _ =>
        obtain rfl := Option.some.inj ho
        have D := dep ⟨6, .data⟩ (by simp) rfl
        exact st_ret1 rfl (fun _ _ => by kernel_rfl) rfl (blocks_c _ (l ++ q) _ D (by simp; omega)) (fun r w' h _ => by obtain ⟨b1, c1, b2, c2, e, ho, _⟩ := h; exact ⟨b1, c1, _, e, own_rd ho (kyL_one _)⟩)
      | 8, _ =>
        obtain rfl := Option.some.inj ho
        exact st_mov rfl rfl (dep ⟨7, .data⟩ (by simp) rfl)
      | 9, _ =>
        obtain rfl := Option.some.inj ho
        obtain ⟨b1, c1, v2, e, r⟩ := dep ⟨8, .data⟩ (by simp) rfl
        exact st_x0 rfl e r
      | 10, _ =>
        obtain rfl := Option.some.inj ho
        obtain ⟨b1, c1, v2, e, r⟩ := dep ⟨8, .data⟩ (by simp) rfl
        exact st_x1 rfl e trivial
      | 11, _ =>
        obtain rfl := Option.some.inj ho
        exact st_move (.inr rfl) rfl (dep ⟨9, .data⟩ (by simp) rfl)
    · rintro vs wv gM hf
      have f0 : vs 0 = .pointer (some ⟨g1, 8, none⟩) := hf 0 (by omega)
      have f1 : vs 1 = .slice b m cap := hf 1 (by omega)
      have f2 : vs 2 = .pointer (some ⟨g1, 9, none⟩) := hf 2 (by omega)
      have f3 : vs 3 = .int .i64 (k : Int) := hf 3 (by omega)
      have f4 := hf 4 (by omega)
      have f5 := hf 5 (by omega)
      have f6 := hf 6 (by omega)
      have f7 := hf 7 (by omega)
      have f8 := hf 8 (by omega)
      have f9 := hf 9 (by omega)
      have f10 := hf 10 (by omega)
      have f11 := hf 11 (by omega)
      generalize hv11 : vs 11 = v11
      rw [hv11] at f11
      simp only [putAll, Act.put, List.getElem?_toArray, List.getElem?_cons_zero, List.getElem?_cons_succ, Option.bind_some, List.setIfInBounds_toArray, List.set_cons_zero, List.set_cons_succ, List.drop_succ_cons, List.drop_zero, List.drop_nil, hv11]
      clear f0 f1 f2 f3 f4 f5 f6 f7 f8 f9 f10 hv11 hf
      have M := gM
      have hql : (l ++ q).length / 32 ≤ 1000000000 := by simp; omega
      have HZ := Lib.hid (mixed_c s HL.out v11 _ (blkK (l ++ q) ((l ++ q).length / 32)) (blkK_len _ _) wv hql f11)
      have h8 := mixKs_len s HL.out (blkK (l ++ q) ((l ++ q).length / 32))
      clear f11 gM
      generalize mixKs s (blkK (l ++ q) ((l ++ q).length / 32)) = S at *
      go_wp2_with (first
        | (go_at_call 67; (with_reducible refine mem_call M (HZ.out) ?_); clear M; (try clear wx); rintro _ wx rfl _ M)
        | (go_at_call 73; (with_reducible refine mem_call M (keyOf_c S h8 _) ?_); clear M; (try clear wx); rintro _ wx rfl _ M)
        | (with_reducible (show wpList _ _ _ (Oper.mk (some 1) (.box _ _) _ _ _ _ :: _) _ _); (first | (refine m_boxA M rfl rfl rfl ?_) | (refine m_box1 (v := Value.int _ _) M rfl rfl rfl rfl ?_) | (refine m_box1 (v := Value.slice _ _ _) M rfl rfl rfl rfl ?_) | (refine m_box1 (v := Value.bool _) M rfl rfl rfl rfl ?_) | (refine m_box1 (v := Value.string _) M rfl rfl rfl rfl ?_) | (refine m_box1 (v := Value.pointer _) M rfl rfl rfl rfl ?_)); clear M; (try clear wx); intro g1 wx M)
        | (with_reducible (show wpList _ _ _ (Oper.mk (some 2) (.alloc _) _ _ _ _ :: _) _ _); refine mem_new M rfl rfl ?_; clear M; (try clear wx); intro g2 wx M)
        | (with_reducible (show wpList _ _ _ (Oper.mk _ (.load _ _) _ _ _ _ :: _) _ _); (first | (refine m_loadW M rfl rfl rfl (hasC_pre _ _ _) HL.out ?_) | (refine m_load M rfl rfl rfl (by first | assumption | rfl) ?_) | (refine m_loadR M rfl rfl rfl (by first | rfl | assumption | (simp; done) | (simp; omega)) ?_)))
        | (with_reducible (show wpList _ _ _ (Oper.mk _ (.store _ _ _) _ _ _ _ :: _) _ _); (first | (refine m_storeR M rfl rfl rfl rfl (by first | rfl | assumption | (simp; done) | (simp; omega)) (by first | rfl | assumption | (simp; done) | (simp; omega)) (by first | exact bA_one _ | exact wA_one _ | assumption | (simp [Value.oneCell']; done)) ?_) | (refine m_store (v := Value.int _ _) M rfl rfl rfl rfl rfl (by first | assumption | (simp; done) | (simp; omega)) ?_) | (refine m_store (v := Value.slice _ _ _) M rfl rfl rfl rfl rfl (by first | assumption | (simp; done) | (simp; omega)) ?_) | (refine m_store (v := Value.bool _) M rfl rfl rfl rfl rfl (by first | assumption | (simp; done) | (simp; omega)) ?_) | (refine m_store (v := Value.string _) M rfl rfl rfl rfl rfl (by first | assumption | (simp; done) | (simp; omega)) ?_) | (refine m_store (v := Value.pointer _) M rfl rfl rfl rfl rfl (by first | assumption | (simp; done) | (simp; omega)) ?_)); clear M; (try clear wx); intro wx M; simp only [List.set_cons_zero, List.set_cons_succ, Nat.zero_add, List.nil_append] at M)
        | (with_reducible (show wpList _ _ _ (Oper.mk _ (.build _ _) _ _ _ _ :: _) _ _); refine m_buildZ rfl rfl ?_))
      exact m_ret2 M rfl rfl rfl (by simp) (by rw [HE.out, HQ.out]; rfl)
  · have HE := Lib.hid (show koT s l n = (zeroKy, 1) by rw [koT, hm, if_neg hok])
    rw [Bool.not_eq_true] at hok
    rw [hok] at HO
    clear hok hm
    go_enter Try.func36, Try.ntmps36
    go_wp2_with (first
      | (go_at_call 64; (with_reducible refine mem_call M (HO.out _) ?_); clear M; (try clear wx); rintro _ wx rfl _ M)
      | (with_reducible (show wpList _ _ _ (Oper.mk (some 1) (.box _ _) _ _ _ _ :: _) _ _); (first | (refine m_boxA M rfl rfl rfl ?_) | (refine m_box1 (v := Value.int _ _) M rfl rfl rfl rfl ?_) | (refine m_box1 (v := Value.slice _ _ _) M rfl rfl rfl rfl ?_) | (refine m_box1 (v := Value.bool _) M rfl rfl rfl rfl ?_) | (refine m_box1 (v := Value.string _) M rfl rfl rfl rfl ?_) | (refine m_box1 (v := Value.pointer _) M rfl rfl rfl rfl ?_)); clear M; (try clear wx); intro g1 wx M)
      | (with_reducible (show wpList _ _ _ (Oper.mk (some 2) (.alloc _) _ _ _ _ :: _) _ _); refine mem_new M rfl rfl ?_; clear M; (try clear wx); intro g2 wx M)
      | (with_reducible (show wpList _ _ _ (Oper.mk _ (.load _ _) _ _ _ _ :: _) _ _); (first | (refine m_load M rfl rfl rfl (by first | assumption | rfl) ?_) | (refine m_loadR M rfl rfl rfl (by first | exact HSZ.out | rfl | assumption | (simp; done)) ?_)))
      | (with_reducible (show wpList _ _ _ (Oper.mk _ (.store _ _ _) _ _ _ _ :: _) _ _); (first | (refine m_storeR M rfl rfl rfl rfl (by first | exact HSZ.out | rfl | assumption | (simp; done)) (by first | exact HSZ.out | rfl | assumption | (simp; done)) (by first | exact bA_one _ | exact wA_one _ | assumption | (simp [Value.oneCell']; done)) ?_) | (refine m_store (v := Value.int _ _) M rfl rfl rfl rfl rfl (by first | assumption | (simp; done) | (simp; omega)) ?_) | (refine m_store (v := Value.slice _ _ _) M rfl rfl rfl rfl rfl (by first | assumption | (simp; done) | (simp; omega)) ?_) | (refine m_store (v := Value.bool _) M rfl rfl rfl rfl rfl (by first | assumption | (simp; done) | (simp; omega)) ?_) | (refine m_store (v := Value.string _) M rfl rfl rfl rfl rfl (by first | assumption | (simp; done) | (simp; omega)) ?_) | (refine m_store (v := Value.pointer _) M rfl rfl rfl rfl rfl (by first | assumption | (simp; done) | (simp; omega)) ?_)); clear M; (try clear wx); intro wx M; simp only [List.set_cons_zero, List.set_cons_succ, Nat.zero_add, List.nil_append] at M)
      | (with_reducible (show wpList _ _ _ (Oper.mk _ (.build _ _) _ _ _ _ :: _) _ _); refine m_buildZ rfl rfl ?_))
    exact m_ret2 M rfl rfl rfl (by simp) (by rw [HE.out]; rfl)

theorem szHasher_r (s : List UInt32) (hs : s.length = 8) (b : Option Addr) (m cap : Nat) (n : Int) (hl : m ≤ maxLen) (w : World) : Ret Try.prog 27 #[.agg (hasC s (.slice b m cap) n), .int .i64 1048576] w fun r _ => r = .int .i64 (if (1048576 : Int) - m < 0 then -1 else 1048576 - m) :=
  Ret.of (szHasher_c s hs b m cap n hl w)
theorem eqHasher_r (s : List UInt32) (hs : s.length = 8) (va vb : Value) (l : List UInt8) (n : Int) (w : World) (ha : RdB w va l) (hb : RdB w vb l) : Ret Try.prog 31 #[.agg (hasC s va n), .agg (hasC s vb n)] w fun r _ => r = .bool true :=
  Ret.of (eqHasher_same s hs va vb l n w ha hb)
theorem Rd.rdb' {w : World} {v : Value} {l : List UInt8} {m : Nat} (hm : l.length = m) (h : Rd w 1 v m (bL l)) : RdB w v l := Rd.rdb (by rw [hm]; exact h)

set_option maxHeartbeats 4000000 in
set_option maxRecDepth 100000 in
theorem lawKeyOf_c (s : List UInt32) (hs : s.length = 8) (v : Value) (l : List UInt8) (n : Int) (w : World) (hv : RdB w v l) : Calls Try.prog 8 #[.agg (hasC s v n)] w fun e w' => e = .returned (.bool true) ∧ Up w w' := by
  obtain ⟨b, cap, rfl, hmax, -⟩ := id hv
  obtain ⟨m, hm⟩ : ∃ m, l.length = m := ⟨_, rfl⟩
  rw [hm] at hv hmax
  have HV := Lib.hid hv
  have HL := Lib.hid hs
  have HM := Lib.hid hm
  have HSZ := Lib.hid (fun v => hasC_size s v n hs)
  have HZ := Lib.hid (szHasher_r s hs b m cap n hmax)
  rw [hm]
  have M := Mem.start w
  clear hv hs hm hmax
  by_cases hbig : (1048576 : Int) - m < 0
  · rw [if_pos hbig] at HZ
    go_enter Try.func8, Try.ntmps8
    go_wp2_with (first
      | (go_at_call 27; (with_reducible refine mem_call M (HZ.out _) ?_); clear M; (try clear wx); rintro _ wx rfl _ M)
      | (with_reducible (show wpList _ _ _ (Oper.mk (some 1) (.box _ _) _ _ _ _ :: _) _ _); (first | (refine m_boxA M rfl rfl rfl ?_) | (refine m_box1 (v := Value.int _ _) M rfl rfl rfl rfl ?_) | (refine m_box1 (v := Value.slice _ _ _) M rfl rfl rfl rfl ?_) | (refine m_box1 (v := Value.bool _) M rfl rfl rfl rfl ?_) | (refine m_box1 (v := Value.string _) M rfl rfl rfl rfl ?_) | (refine m_box1 (v := Value.pointer _) M rfl rfl rfl rfl ?_)); clear M; (try clear wx); intro g1 wx M)
      | (with_reducible (show wpList _ _ _ (Oper.mk (some 4) (.alloc _) _ _ _ _ :: _) _ _); refine mem_new M rfl rfl ?_; clear M; (try clear wx); intro g4 wx M)
      | (with_reducible (show wpList _ _ _ (Oper.mk (some 6) (.alloc _) _ _ _ _ :: _) _ _); refine mem_new M rfl rfl ?_; clear M; (try clear wx); intro g6 wx M)
      | (with_reducible (show wpList _ _ _ (Oper.mk (some 7) (.alloc _) _ _ _ _ :: _) _ _); refine mem_new M rfl rfl ?_; clear M; (try clear wx); intro g7 wx M)
      | (with_reducible (show wpList _ _ _ (Oper.mk _ (.load _ _) _ _ _ _ :: _) _ _); (first | (refine m_load M rfl rfl rfl (by first | assumption | rfl) ?_) | (refine m_loadR M rfl rfl rfl (by first | exact HSZ.out _ | exact hasC_size _ _ _ rfl | rfl | assumption | (simp; done)) ?_)))
      | (with_reducible (show wpList _ _ _ (Oper.mk _ (.store _ _ _) _ _ _ _ :: _) _ _); (first | (refine m_storeR M rfl rfl rfl rfl (by first | exact HSZ.out _ | exact hasC_size _ _ _ rfl | rfl | assumption | (simp; done)) (by first | exact HSZ.out _ | exact hasC_size _ _ _ rfl | rfl | assumption | (simp; done)) (by first | exact bA_one _ | exact wA_one _ | assumption | (simp [Value.oneCell']; done)) ?_) | (refine m_store (v := Value.int _ _) M rfl rfl rfl rfl rfl (by first | assumption | (simp; done) | (simp; omega)) ?_) | (refine m_store (v := Value.slice _ _ _) M rfl rfl rfl rfl rfl (by first | assumption | (simp; done) | (simp; omega)) ?_) | (refine m_store (v := Value.bool _) M rfl rfl rfl rfl rfl (by first | assumption | (simp; done) | (simp; omega)) ?_) | (refine m_store (v := Value.string _) M rfl rfl rfl rfl rfl (by first | assumption | (simp; done) | (simp; omega)) ?_) | (refine m_store (v := Value.pointer _) M rfl rfl rfl rfl rfl (by first | assumption | (simp; done) | (simp; omega)) ?_)); clear M; (try clear wx); intro wx M; simp only [List.set_cons_zero, List.set_cons_succ, Nat.zero_add, List.nil_append] at M))
    go_ret
    exact ⟨rfl, M.up⟩
  · rw [if_neg hbig] at HZ
    have hl : m ≤ 1048576 := by omega
    have HT : Hid (∀ w, RdB w (.slice b m cap) l → Ret Try.prog 29 #[.agg (hasC s (.slice b m cap) n)] w fun r w' => HasR w w' 5 r s m n (bL l)) := Lib.hid (fun w h => toHasher_r s HL.out _ l m HM.out n w h hl)
    have HS : Hid (∀ v w, Rd w 1 v m (bL l) → Ret Try.prog 35 #[.agg (hasC s v n)] w fun r _ => r = .tuple #[.agg (bA (koT s l n).1.1), .int .i64 (koT s l n).2]) := Lib.hid (fun v w h => specKeyOf_c s HL.out v l m HM.out n w h hl)
    have HI : Hid (∀ v w, Rd w 1 v m (bL l) → Ret Try.prog 36 #[.agg (hasC s v n)] w fun r _ => r = .tuple #[.agg (bA (koT s l n).1.1), .int .i64 (koT s l n).2]) := Lib.hid (fun v w h => implKeyOf_c s HL.out v l m HM.out n w h hl)
    have HE : Hid (∀ va vb w, Rd w 1 va m (bL l) → Rd w 1 vb m (bL l) → Ret Try.prog 31 #[.agg (hasC s va n), .agg (hasC s vb n)] w fun r _ => r = .bool true) := Lib.hid (fun va vb w h h' => eqHasher_r s HL.out va vb l n w (h.rdb' HM.out) (h'.rdb' HM.out))
    have HONE := Lib.hid (fun (b : Option Addr) (cap : Nat) => hasC_one s (.slice b m cap) n rfl)
    generalize koT s l n = c at *
    go_enter Try.func8, Try.ntmps8
    go_wp2_with (first
      | (go_at_call 27; (with_reducible refine mem_call M (HZ.out _) ?_); clear M; (try clear wx); rintro _ wx rfl _ M)
      | (go_at_call 29; (with_reducible refine mem_callH M (HT.out _ (HV.out.up M.up)) ?_); clear M; (try clear wx); intro b6 cap6 wx M)
      | (go_at_call 35; (with_reducible refine mem_call M (HS.out _ _ M.rdB) ?_); clear M; (try clear wx); rintro _ wx rfl _ M)
      | (go_at_call 36; (with_reducible refine mem_call M (HI.out _ _ M.rdB) ?_); clear M; (try clear wx); rintro _ wx rfl _ M)
      | (go_at_call 18; (with_reducible refine mem_call M (eqKey_r _ _) ?_); clear M; (try clear wx); rintro _ wx rfl _ M)
      | (with_reducible (show wpList _ _ _ (Oper.mk (some 1) (.box _ _) _ _ _ _ :: _) _ _); (first | (refine m_boxA M rfl rfl rfl ?_) | (refine m_box1 (v := Value.int _ _) M rfl rfl rfl rfl ?_) | (refine m_box1 (v := Value.slice _ _ _) M rfl rfl rfl rfl ?_) | (refine m_box1 (v := Value.bool _) M rfl rfl rfl rfl ?_) | (refine m_box1 (v := Value.string _) M rfl rfl rfl rfl ?_) | (refine m_box1 (v := Value.pointer _) M rfl rfl rfl rfl ?_)); clear M; (try clear wx); intro g1 wx M)
      | (with_reducible (show wpList _ _ _ (Oper.mk (some 4) (.alloc _) _ _ _ _ :: _) _ _); refine mem_new M rfl rfl ?_; clear M; (try clear wx); intro g4 wx M)
      | (with_reducible (show wpList _ _ _ (Oper.mk (some 6) (.alloc _) _ _ _ _ :: _) _ _); refine mem_new M rfl rfl ?_; clear M; (try clear wx); intro g6 wx M)
      | (with_reducible (show wpList _ _ _ (Oper.mk (some 7) (.alloc _) _ _ _ _ :: _) _ _); refine mem_new M rfl rfl ?_; clear M; (try clear wx); intro g7 wx M)
      | (with_reducible (show wpList _ _ _ (Oper.mk _ (.load _ _) _ _ _ _ :: _) _ _); (first | (refine m_load M rfl rfl rfl (by first | assumption | rfl) ?_) | (refine m_loadR M rfl rfl rfl (by first | exact HSZ.out _ | exact hasC_size _ _ _ rfl | rfl | assumption | (simp; done)) ?_)))
      | (with_reducible (show wpList _ _ _ (Oper.mk _ (.store _ _ _) _ _ _ _ :: _) _ _); (first | (refine m_storeR M rfl rfl rfl rfl (by first | exact HSZ.out _ | exact hasC_size _ _ _ rfl | rfl | assumption | (simp; done)) (by first | exact HSZ.out _ | exact hasC_size _ _ _ rfl | rfl | assumption | (simp; done)) (by first | exact HONE.out _ _ | exact bA_one _) ?_) | (refine m_store (v := Value.int _ _) M rfl rfl rfl rfl rfl (by first | assumption | (simp; done) | (simp; omega)) ?_) | (refine m_store (v := Value.slice _ _ _) M rfl rfl rfl rfl rfl (by first | assumption | (simp; done) | (simp; omega)) ?_) | (refine m_store (v := Value.bool _) M rfl rfl rfl rfl rfl (by first | assumption | (simp; done) | (simp; omega)) ?_) | (refine m_store (v := Value.string _) M rfl rfl rfl rfl rfl (by first | assumption | (simp; done) | (simp; omega)) ?_) | (refine m_store (v := Value.pointer _) M rfl rfl rfl rfl rfl (by first | assumption | (simp; done) | (simp; omega)) ?_)); clear M; (try clear wx); intro wx M; simp only [List.set_cons_zero, List.set_cons_succ, Nat.zero_add, List.nil_append] at M))
    have M := M.pick [1, 2, 5] (by decide)
    simp only [List.filterMap_cons, List.filterMap_nil, List.getElem?_cons_zero, List.getElem?_cons_succ] at M
    refine region_mono (m := 5) mixedOrders_ (by kernel_rfl) (by kernel_rfl)
      (fun | 0 => fun vq _ => vq = .agg (hasC s (.slice b6 m cap6) n) | 1 => fun vq _ => vq = .agg (hasC s (.slice b m cap) n) | 2 => fun v wx => ∃ b7 c7, v = .agg (hasC s (.slice b7 m c7) n) ∧ Rd wx 1 (.slice b7 m c7) m (bL l) | 3 => fun vq _ => vq = .bool true | 4 => fun vq _ => vq = .bool (!true) | _ => fun _ _ => True)
      (fun wx => Mem w wx [.blk g6 43 (hasC s (.slice b6 m cap6) n), .own b6 cap6 5 1 m (bL l), .blk g1 41 (hasC s (.slice b m cap) n)]) ?_ ?_ ?_ ?_ ?_
    · intro j hj v w1 w2 hb h
      match j, hj with
      | 0, _ => exact h
      | 1, _ => exact h
      | 2, _ => exact (let ⟨b7, c7, e, r⟩ := h; ⟨b7, c7, e, r.up hb⟩)
      | 3, _ => exact h
      | 4, _ => exact h
    · intro w1 w2 hb h
      exact h.grow hb
    · exact M.grow ((Up.refl _).drew)
    · rintro i o hi ho av wv fr gM dep
      match i, hi with
      | 0, _ =>
        obtain rfl := Option.some.inj ho
        exact st_loadG gM rfl (fr.eval rfl) (HSZ.out _) rfl
      | 1, _ =>
        obtain rfl := Option.some.inj ho
        exact st_loadG gM rfl (fr.eval rfl) (HSZ.out _) rfl
      | 2, _ =>
        obtain rfl := Option.some.inj ho
        exact st_ret1 rfl (fun _ _ => by kernel_rfl) (dep ⟨1, .data⟩ (by simp) rfl) (HT.out _ (HV.out.up gM.up)) (fun r w' h _ => by obtain ⟨b7, c7, e, ho⟩ := h; exact ⟨b7, c7, e, own_rd ho (bL_one _)⟩)
      | 3, _ =>
        obtain rfl := Option.some.inj ho
        obtain ⟨b7, c7, e, r⟩ := dep ⟨2, .data⟩ (by simp) rfl
        exact st_ret2 rfl (fun _ _ => by kernel_rfl) (dep ⟨0, .data⟩ (by simp) rfl) e (HE.out _ _ _ gM.rdB r) (fun r w' h _ => h)
      | 4, _ =>
        obtain rfl := Option.some.inj ho
        exact st_not rfl (dep ⟨3, .data⟩ (by simp) rfl) rfl
    · rintro vs wv gM hf
      have f0 : vs 0 = .agg (hasC s (.slice b6 m cap6) n) := hf 0 (by omega)
      have f1 : vs 1 = .agg (hasC s (.slice b m cap) n) := hf 1 (by omega)
      have f2 := hf 2 (by omega)
      have f3 : vs 3 = .bool true := hf 3 (by omega)
      have f4 : vs 4 = .bool (!true) := hf 4 (by omega)
      simp only [putAll, Act.put, List.getElem?_toArray, List.getElem?_cons_zero, List.getElem?_cons_succ, Option.bind_some, List.setIfInBounds_toArray, List.set_cons_zero, List.set_cons_succ, List.drop_succ_cons, List.drop_zero, List.drop_nil, f4]
      clear f0 f1 f2 f3 f4 hf
      have M := gM
      go_wp2_with (first
        | (with_reducible (show wpList _ _ _ (Oper.mk (some 1) (.box _ _) _ _ _ _ :: _) _ _); (first | (refine m_boxA M rfl rfl rfl ?_) | (refine m_box1 (v := Value.int _ _) M rfl rfl rfl rfl ?_) | (refine m_box1 (v := Value.slice _ _ _) M rfl rfl rfl rfl ?_) | (refine m_box1 (v := Value.bool _) M rfl rfl rfl rfl ?_) | (refine m_box1 (v := Value.string _) M rfl rfl rfl rfl ?_) | (refine m_box1 (v := Value.pointer _) M rfl rfl rfl rfl ?_)); clear M; (try clear wx); intro g1 wx M)
        | (with_reducible (show wpList _ _ _ (Oper.mk (some 4) (.alloc _) _ _ _ _ :: _) _ _); refine mem_new M rfl rfl ?_; clear M; (try clear wx); intro g4 wx M)
        | (with_reducible (show wpList _ _ _ (Oper.mk (some 6) (.alloc _) _ _ _ _ :: _) _ _); refine mem_new M rfl rfl ?_; clear M; (try clear wx); intro g6 wx M)
        | (with_reducible (show wpList _ _ _ (Oper.mk (some 7) (.alloc _) _ _ _ _ :: _) _ _); refine mem_new M rfl rfl ?_; clear M; (try clear wx); intro g7 wx M)
        | (with_reducible (show wpList _ _ _ (Oper.mk _ (.load _ _) _ _ _ _ :: _) _ _); (first | (refine m_load M rfl rfl rfl (by first | assumption | rfl) ?_) | (refine m_loadR M rfl rfl rfl (by first | rfl | assumption | (simp; done) | (simp; omega)) ?_)))
        | (with_reducible (show wpList _ _ _ (Oper.mk _ (.store _ _ _) _ _ _ _ :: _) _ _); (first | (refine m_storeR M rfl rfl rfl rfl (by first | rfl | assumption | (simp; done) | (simp; omega)) (by first | rfl | assumption | (simp; done) | (simp; omega)) (by first | exact bA_one _ | exact wA_one _ | assumption | (simp [Value.oneCell']; done)) ?_) | (refine m_store (v := Value.int _ _) M rfl rfl rfl rfl rfl (by first | assumption | (simp; done) | (simp; omega)) ?_) | (refine m_store (v := Value.slice _ _ _) M rfl rfl rfl rfl rfl (by first | assumption | (simp; done) | (simp; omega)) ?_) | (refine m_store (v := Value.bool _) M rfl rfl rfl rfl rfl (by first | assumption | (simp; done) | (simp; omega)) ?_) | (refine m_store (v := Value.string _) M rfl rfl rfl rfl rfl (by first | assumption | (simp; done) | (simp; omega)) ?_) | (refine m_store (v := Value.pointer _) M rfl rfl rfl rfl rfl (by first | assumption | (simp; done) | (simp; omega)) ?_)); clear M; (try clear wx); intro wx M; simp only [List.set_cons_zero, List.set_cons_succ, Nat.zero_add, List.nil_append] at M))
      go_ret
      exact ⟨rfl, M.up⟩

end Go.Proofs.Ytgofolmekgjkjaa

/- Walks: hashers fed with data. -/
import Derived.Test.YtgofolmekgjkjaaHKo
import Derived.Test.YtgofolmekgjkjaaRegG
namespace Go.Proofs.Ytgofolmekgjkjaa
open Go.RowKit
set_option linter.unusedVariables false
set_option linter.unusedSimpArgs false

section
variable {P : Program} {ops : Array Oper} {rest : List Oper} {o : Oper} {a : Act} {w0 w : World} {Q : Exit → Act → World → Prop} {L : List It} {F : Value → World → Prop}
theorem wpList_wantF (hw : Region.wanted o (yielded ops a.tmps) = true) (h : o.wp P a w (wpList P ops Q rest) Q) : wpList P ops Q (o :: rest) a w := by
  unfold wpList
  rw [if_pos hw]
  exact .inl h
/-- A cell where a guard lets the load by. -/
theorem m_loadw (M : Mem w0 w L) (hgd : Region.wanted o (yielded ops a.tmps) = true) {ty : TypeId} {x : Operand} (ho : o.op = .load ty x) {g i : Nat} (hx : a.eval x = .pointer (some ⟨g, i, none⟩)) [hT : OneT P ty]
    {p : Nat} {t : TypeId} {cs : Array Value} [hL : AtG L g p t cs] {v : Value} (hc : cs[i]? = some v)
    (h : wpList P ops Q rest (a.put o.dst v) w) : wpList P ops Q (o :: rest) a w := by
  obtain ⟨d, h1, h2, _⟩ := hT.out
  have hcell : w.cell? ⟨g, i, none⟩ = some v := M.cellG hc
  refine wpList_wantF hgd ?_
  unfold Oper.wp execOp
  simp only [ho, hx, Sem.run_bind, run_loadAt_one h1 h2 hcell, Result.andThen_ok, Sem.run_pure]
  exact h
theorem st_buildF {t : TypeId} {parts : Array (Nat × Operand)} (ho : o.op = .build t parts) {cells : Array Value} (hf : P.built t (parts.map fun p => (p.1, a.eval p.2)).toList = some cells) (hF : F (.agg cells) w) : St P o a w Q F := by
  refine st_run (v := .agg cells) ?_ hF
  unfold execOp
  rw [ho]
  simp only
  rw [Sem.run_bind, run_build w t _ _ hf]
  rfl
theorem st_build3 {t : TypeId} {x0 x1 x2 : Operand} (ho : o.op = .build t #[(0, x0), (1, x1), (2, x2)]) {v0 v1 v2 : Value} (h0 : a.eval x0 = v0) (h1 : a.eval x1 = v1) (h2 : a.eval x2 = v2) {cells : Array Value} (hb : P.built t [(0, v0), (1, v1), (2, v2)] = some cells) (hF : F (.agg cells) w) : St P o a w Q F :=
  st_buildF ho (by simpa [h0, h1, h2] using hb) hF
theorem m_build02 (hgd : o.guard = none) {t : TypeId} {x0 x2 : Operand} (ho : o.op = .build t #[(0, x0), (2, x2)]) {v0 v2 : Value} (h0 : a.eval x0 = v0) (h2 : a.eval x2 = v2) {cells : Array Value} (hb : P.built t [(0, v0), (2, v2)] = some cells)
    (h : wpList P ops Q rest (a.put o.dst (.agg cells)) w) : wpList P ops Q (o :: rest) a w :=
  wpList_buildTo hgd t _ ho o.dst rfl cells (by simpa [h0, h2] using hb) h
end
/-- A slice made somewhere in a region. -/
def OwnFr (w0 : World) (L : List It) (e : TypeId) (size n : Nat) (xs : List Value) (v : Value) (w : World) : Prop := ∃ b cap, v = .slice b n cap ∧ w.ownsRow w0.heap.size e size (.slice b n cap) n xs ∧ ∀ x ∈ L, ∀ k, (Value.slice b n cap).ownBlock = some k → ¬ x.foot k
theorem OwnFr.up {w0 w w' : World} {L : List It} {e : TypeId} {size n : Nat} {xs : List Value} {v : Value} (h : OwnFr w0 L e size n xs v w) (hb : Up w w') : OwnFr w0 L e size n xs v w' := by
  obtain ⟨b, cap, h1, h2, h3⟩ := h
  exact ⟨b, cap, h1, own_kept h2 (Chg.of_up hb (fun _ => False)) (fun _ _ h => h), h3⟩
theorem OwnFr.of {w0 w w' : World} {L : List It} {e : TypeId} {size n : Nat} {xs : List Value} {v : Value} (M : Mem w0 w L) (h : OwnR w w' e size v n xs) : OwnFr w0 L e size n xs v w' := by
  obtain ⟨b, cap, rfl, ho⟩ := h
  refine ⟨b, cap, rfl, ⟨ho.1, ?_⟩, fun x hx k hk hf => ?_⟩
  · rcases ho.2 with h2 | ⟨g, cap', cur, hv, hg, r⟩
    · exact .inl h2
    · exact .inr ⟨g, cap', cur, hv, Nat.le_trans M.le hg, r⟩
  · have := (World.ownsRow.lt ho k hk).1
    have := ((M.ok x hx).foot_lt hf).2
    omega
theorem Mem.ownFr {w0 w : World} {L : List It} (M : Mem w0 w L) {e : TypeId} {size n : Nat} {xs : List Value} {v : Value} (h : OwnFr w0 L e size n xs v w) : ∃ b cap, v = .slice b n cap ∧ Mem w0 w (.own b cap e size n xs :: L) := by
  obtain ⟨b, cap, rfl, ho, hap⟩ := h
  refine ⟨b, cap, rfl, M.up, fun y hy => ?_, List.pairwise_cons.2 ⟨fun y hy k h1 h2 => hap y hy k h1 h2, M.sep⟩⟩
  rcases List.mem_cons.1 hy with rfl | hy
  · exact ho
  · exact M.ok y hy
theorem putC_putL (vs : List Value) : ∀ (o : Nat) (cs : Array Value), putC vs o cs = putL vs o cs := by
  induction vs with
  | nil => intro o cs; rfl
  | cons v vs ih => intro o cs; rw [putC, putL, ih]
theorem put_wordsC (s z : List UInt32) (hs : s.length = 8) (hz : z.length = 8) (h : Value) (n : Int) : putC (wA s).toList 0 (hasC z h n) = hasC s h n := by
  rw [putC_putL]
  exact put_words s z hs hz h n
theorem built02_8 (a b c d e f g h : UInt32) (n : Int) : Try.prog.built 43 [(0, .agg (wA [a, b, c, d, e, f, g, h])), (2, .int .i64 n)] = some (hasC [a, b, c, d, e, f, g, h] (.slice none 0 0) n) := by kernel_rfl
theorem built02 (s : List UInt32) (hs : s.length = 8) (n : Int) : Try.prog.built 43 [(0, .agg (wA s)), (2, .int .i64 n)] = some (hasC s (.slice none 0 0) n) := by
  match s, hs with
  | [a, b, c, d, e, f, g, h], _ => exact built02_8 a b c d e f g h n
theorem built012_8 (a b c d e f g h : UInt32) (v : Option Addr) (k cap : Nat) (n : Int) : Try.prog.built 43 [(0, .agg (wA [a, b, c, d, e, f, g, h])), (1, .slice v k cap), (2, .int .i64 n)] = some (hasC [a, b, c, d, e, f, g, h] (.slice v k cap) n) := by kernel_rfl
theorem built012 (s : List UInt32) (hs : s.length = 8) (v : Option Addr) (k cap : Nat) (n : Int) : Try.prog.built 43 [(0, .agg (wA s)), (1, .slice v k cap), (2, .int .i64 n)] = some (hasC s (.slice v k cap) n) := by
  match s, hs with
  | [a, b, c, d, e, f, g, h], _ => exact built012_8 a b c d e f g h v k cap n
theorem bin_add64 (x y z : Int) (h : IntKind.wrap .i64 (x + y) = z) (a b : Operand) (w : World) : Sem.run Try.prog (do eqGuard .add 2 a b (.int .i64 x) (.int .i64 y); binOp .add 2 (.int .i64 x) (.int .i64 y)) w = .ok (.int .i64 z) w := by
  go_simp
  try rw [h]
theorem bin_gtr64 (x y : Int) (c : Bool) (h : decide (x > y) = c) (a b : Operand) (w : World) : Sem.run Try.prog (do eqGuard .gtr 2 a b (.int .i64 x) (.int .i64 y); binOp .gtr 2 (.int .i64 x) (.int .i64 y)) w = .ok (.bool c) w := by
  subst h
  go_simp
theorem bin_gtrI (x y : Int) (c : Bool) (h : decide (x > y) = c) (a b : Operand) (w : World) : Sem.run Try.prog (do eqGuard .gtr 3 a b (.int .i64 x) (.int .i64 y); binOp .gtr 3 (.int .i64 x) (.int .i64 y)) w = .ok (.bool c) w := by
  subst h
  go_simp

theorem nil_eqlB (b : Option Addr) (n cap : Nat) (w : World) : (binOp .eql 30 (.slice b n cap) (.slice none 0 0)).run Try.prog w = .ok (.bool b.isNone) w := by
  have h : ∀ d, (Op.equalIn (d + 1) 30 (.slice b n cap) (.slice none 0 0)).run Try.prog w = .ok b.isNone w := fun d => by
    cases b <;> simp [Op.equalIn, run_underlying Try.underlying30]
  have h := h 9999
  simp only [binOp, Op.equal]
  rw [Sem.run_bind, show Op.maxDepth = 9999 + 1 from rfl, h]
  rfl
set_option maxHeartbeats 1000000 in
set_option maxRecDepth 100000 in
theorem cloneB_c (v : Value) (n : Nat) (l : List UInt8) (hl : l.length = n) (w : World) (hv : Rd w 1 v n (bL l)) (hn : n ≤ 1000000000) : Ret Try.prog 68 #[v] w fun r w' => OwnR w w' 5 1 r n (bL l) := by
  obtain ⟨b, cap, rfl⟩ := hv.shape
  have HV := Lib.hid hv
  refine ret_start fun wx M => ?_
  cases b with
  | none =>
    have hn0 : n = 0 := by
      rcases Nat.eq_zero_or_pos n with h | h
      · exact h
      · obtain ⟨_, _, h2, _⟩ := hv.open_ h
        cases h2
    subst hn0
    obtain rfl := List.eq_nil_of_length_eq_zero hl
    clear hv
    have ce := nil_eqlB none 0 cap
    rw [Option.isNone_none] at ce
    go_enter Try.func68, Try.ntmps68
    go_wp2_with (first
      | (with_reducible (show wpList _ _ _ (Oper.mk (some 5) (.buildSlice _ _ _) _ _ _ _ :: _) _ _); refine m_lit0 M rfl rfl ?_; clear M; (try clear wx); intro g5 wx M)
      | (with_reducible (show wpList _ _ _ (Oper.mk _ (.call (Call.mk (.builtin .append) _ _)) _ _ _ _ :: _) _ _); (first | (refine m_append1 M rfl rfl rfl (by first | rfl | omega | (simp; done)) rfl (by first | rfl | assumption | (simp; done) | (simp; omega)) (by first | exact bA_one _ | exact wA_one _ | assumption | (simp [Value.oneCell']; done)) (by first | assumption | (simp only [maxLen]; omega)) (by omega) ?_)); clear M; (try clear wx); intro _ _ wx M; simp only [List.set_cons_zero, List.set_cons_succ, Nat.zero_add, List.nil_append] at M))
    go_ret
    exact ⟨_, rfl, ⟨_, _, rfl, (M.nil_own 5 1).out_own (p := 0) rfl⟩, M.up⟩
  | some q =>
    clear hv hl
    have ce := nil_eqlB (some q) n cap
    rw [Option.isNone_some] at ce
    go_enter Try.func68, Try.ntmps68
    go_wp2_with (first
      | (with_reducible (show wpList _ _ _ (Oper.mk (some 5) (.buildSlice _ _ _) _ _ _ _ :: _) _ _); refine m_lit0 M rfl rfl ?_; clear M; (try clear wx); intro g5 wx M)
      | (with_reducible (show wpList _ _ _ (Oper.mk _ (.call (Call.mk (.builtin .append) _ _)) _ _ _ _ :: _) _ _); (first | (refine m_append M rfl rfl rfl (by first | rfl | omega | (simp; done)) rfl (HV.out.up M.up) (by first | assumption | (simp only [maxLen]; omega)) (by omega) ?_) | (refine m_append1 M rfl rfl rfl (by first | rfl | omega | (simp; done)) rfl (by first | rfl | assumption | (simp; done) | (simp; omega)) (by first | exact bA_one _ | exact wA_one _ | assumption | (simp [Value.oneCell']; done)) (by first | assumption | (simp only [maxLen]; omega)) (by omega) ?_)); clear M; (try clear wx); intro _ _ wx M; simp only [List.set_cons_zero, List.set_cons_succ, Nat.zero_add, List.nil_append] at M))
    go_ret
    refine ⟨_, rfl, ?_, M.up⟩
    exact ⟨_, _, rfl, M.out_own (p := 0) rfl⟩

/-- What FeedHasher gives: the state, the count, the bytes held, the code. -/
structure Fed where
  s : List UInt32
  n : Int
  l : List UInt8
  c : Int
def fdT (s : List UInt32) (l : List UInt8) (n : Int) (d : List UInt8) : Fed :=
  if okHas n l.length = false then ⟨zero8, 0, [], 1⟩ else if 4096 < d.length ∨ 1000000000 < n + d.length then ⟨zero8, 0, [], 3⟩ else
    ⟨mixKs s (blkK (l ++ d) ((l ++ d).length / 32)), n + d.length, (l ++ d).drop (32 * ((l ++ d).length / 32)), 0⟩
theorem fdT_s (s : List UInt32) (hs : s.length = 8) (l : List UInt8) (n : Int) (d : List UInt8) : (fdT s l n d).s.length = 8 := by
  unfold fdT
  split
  · rfl
  · split
    · rfl
    · exact mixKs_len s hs _
theorem fdT_l (s : List UInt32) (l : List UInt8) (n : Int) (d : List UInt8) : (fdT s l n d).l.length < 32 := by
  unfold fdT
  split
  · exact Nat.zero_lt_succ _
  · split
    · exact Nat.zero_lt_succ _
    · show ((l ++ d).drop (32 * ((l ++ d).length / 32))).length < 32
      rw [List.length_drop]
      omega

set_option maxHeartbeats 8000000 in
set_option maxRecDepth 100000 in
theorem specFeedHasher_c (s : List UInt32) (hs : s.length = 8) (v : Value) (l : List UInt8) (m : Nat) (hm : l.length = m) (n : Int) (vd : Value) (d : List UInt8) (k : Nat) (hk : d.length = k) (w : World) (hv : Rd w 1 v m (bL l)) (hvd : Rd w 1 vd k (bL d)) (hl : m ≤ 1048576) (hkl : k ≤ 1048576) :
    Ret Try.prog 28 #[.agg (hasC s v n), vd] w fun r w' => HasR2 w w' 5 r (fdT s l n d).s (fdT s l n d).l.length (fdT s l n d).n (bL (fdT s l n d).l) (.int .i64 (fdT s l n d).c) := by
  obtain ⟨b, cap, rfl⟩ := hv.shape
  obtain ⟨bd, capd, rfl⟩ := hvd.shape
  have HV := Lib.hid hv
  have HVD := Lib.hid hvd
  have HL := Lib.hid hs
  have HO := Lib.hid (l01Ok_r s hs b m cap n)
  have HSZ := Lib.hid (fun (s : List UInt32) (hs : s.length = 8) (v : Value) (n : Int) => hasC_size s v n hs)
  refine ret_start fun wx M => ?_
  clear hv hvd hs
  by_cases hok : okHas n m = true
  · rw [hok] at HO
    obtain ⟨q, rfl, hq, hmq⟩ := okHas_true n m hok
    by_cases hbig : 4096 < k
    · have HE := Lib.hid (show fdT s l q d = ⟨zero8, 0, [], 3⟩ by rw [fdT, hm, hok, if_neg (by decide), if_pos (by omega)])
      clear hok hm hk hmq
      go_enter Try.func28, Try.ntmps28
      go_wp2_with (first
        | (go_at_call 60; (with_reducible refine mem_call M (HO.out _ _ _ (M.blkG g2)) ?_); clear M; (try clear wx); rintro _ wx rfl _ M)
        | (with_reducible (show wpList _ _ _ (Oper.mk (some 2) (.box _ _) _ _ _ _ :: _) _ _); (first | (refine m_boxA M rfl rfl rfl ?_) | (refine m_box1 (v := Value.int _ _) M rfl rfl rfl rfl ?_) | (refine m_box1 (v := Value.slice _ _ _) M rfl rfl rfl rfl ?_) | (refine m_box1 (v := Value.bool _) M rfl rfl rfl rfl ?_) | (refine m_box1 (v := Value.string _) M rfl rfl rfl rfl ?_) | (refine m_box1 (v := Value.pointer _) M rfl rfl rfl rfl ?_)); clear M; (try clear wx); intro g2 wx M)
        | (with_reducible (show wpList _ _ _ (Oper.mk (some 4) (.alloc _) _ _ _ _ :: _) _ _); refine mem_new M rfl rfl ?_; clear M; (try clear wx); intro g4 wx M)
        | (with_reducible (show wpList _ _ _ (Oper.mk (some 6) (.alloc _) _ _ _ _ :: _) _ _); refine mem_new M rfl rfl ?_; clear M; (try clear wx); intro g6 wx M)
        | (with_reducible (show wpList _ _ _ (Oper.mk (some 32) (.buildSlice _ _ _) _ _ _ _ :: _) _ _); refine m_lit0 M rfl rfl ?_; clear M; (try clear wx); intro g32 wx M)
        | (with_reducible (show wpList _ _ _ (Oper.mk (some 52) (.buildSlice _ _ _) _ _ _ _ :: _) _ _); refine m_lit0 M rfl rfl ?_; clear M; (try clear wx); intro g52 wx M)
        | (with_reducible (show wpList _ _ _ (Oper.mk _ (.load _ _) _ _ _ _ :: _) _ _); (first | (refine m_load M rfl rfl rfl (by first | assumption | rfl) ?_) | (refine m_loadR M rfl rfl rfl (by first | exact HSZ.out _ HL.out _ _ | exact hasC_size _ _ _ rfl | rfl | assumption | (simp; done) | (simp; omega)) ?_)))
        | (with_reducible (show wpList _ _ _ (Oper.mk _ (.store _ _ _) _ _ _ _ :: _) _ _); (first | (refine m_storeR M rfl rfl rfl rfl (by first | exact HSZ.out _ HL.out _ _ | exact hasC_size _ _ _ rfl | rfl | assumption | (simp; done) | (simp; omega)) (by first | exact HSZ.out _ HL.out _ _ | exact hasC_size _ _ _ rfl | rfl | assumption | (simp; done) | (simp; omega)) (by first | exact hasC_one _ _ _ rfl | exact bA_one _ | exact wA_one _ | assumption) ?_) | (refine m_store (v := Value.int _ _) M rfl rfl rfl rfl rfl (by first | assumption | (simp; done) | (simp; omega)) ?_) | (refine m_store (v := Value.slice _ _ _) M rfl rfl rfl rfl rfl (by first | assumption | (simp; done) | (simp; omega)) ?_) | (refine m_store (v := Value.bool _) M rfl rfl rfl rfl rfl (by first | assumption | (simp; done) | (simp; omega)) ?_) | (refine m_store (v := Value.string _) M rfl rfl rfl rfl rfl (by first | assumption | (simp; done) | (simp; omega)) ?_) | (refine m_store (v := Value.pointer _) M rfl rfl rfl rfl rfl (by first | assumption | (simp; done) | (simp; omega)) ?_)); clear M; (try clear wx); intro wx M; simp only [List.set_cons_zero, List.set_cons_succ, Nat.zero_add, List.nil_append] at M)
        | (with_reducible (show wpList _ _ _ (Oper.mk _ (.build _ _) _ _ _ _ :: _) _ _); refine m_buildZ rfl rfl ?_)
        | (with_reducible (show wpList _ _ _ (Oper.mk _ (.call (Call.mk (.builtin .append) _ _)) _ _ _ _ :: _) _ _); (first | (refine m_append1 M rfl rfl rfl (by first | rfl | omega | (simp; done)) rfl (by first | exact HSZ.out _ HL.out _ _ | exact hasC_size _ _ _ rfl | rfl | assumption | (simp; done) | (simp; omega)) (by first | exact hasC_one _ _ _ rfl | exact bA_one _ | exact wA_one _ | assumption) (by first | assumption | (simp only [maxLen]; omega)) (by omega) ?_)); clear M; (try clear wx); intro _ _ wx M; simp only [List.set_cons_zero, List.set_cons_succ, Nat.zero_add, List.nil_append] at M))
      exact m_ret2 M rfl rfl rfl (hasC_size _ _ _ rfl) (by rw [HE.out]; exact ⟨_, _, rfl, (M.nil_own 5 1).out_own (p := 0) rfl⟩)
    · have hd1 : decide ((4096 : Int) < (k : Int)) = false := decide_eq_false (by omega)
      by_cases hbig2 : (1000000000 : Int) < q + k
      · have HE := Lib.hid (show fdT s l q d = ⟨zero8, 0, [], 3⟩ by rw [fdT, hm, hok, if_neg (by decide), if_pos (by omega)])
        clear hok hm hk hmq
        go_enter Try.func28, Try.ntmps28
        go_wp2_with (first
          | (go_at_call 60; (with_reducible refine mem_call M (HO.out _ _ _ (M.blkG g2)) ?_); clear M; (try clear wx); rintro _ wx rfl _ M)
          | (with_reducible (show wpList _ _ _ (Oper.mk (some 2) (.box _ _) _ _ _ _ :: _) _ _); (first | (refine m_boxA M rfl rfl rfl ?_) | (refine m_box1 (v := Value.int _ _) M rfl rfl rfl rfl ?_) | (refine m_box1 (v := Value.slice _ _ _) M rfl rfl rfl rfl ?_) | (refine m_box1 (v := Value.bool _) M rfl rfl rfl rfl ?_) | (refine m_box1 (v := Value.string _) M rfl rfl rfl rfl ?_) | (refine m_box1 (v := Value.pointer _) M rfl rfl rfl rfl ?_)); clear M; (try clear wx); intro g2 wx M)
          | (with_reducible (show wpList _ _ _ (Oper.mk (some 4) (.alloc _) _ _ _ _ :: _) _ _); refine mem_new M rfl rfl ?_; clear M; (try clear wx); intro g4 wx M)
          | (with_reducible (show wpList _ _ _ (Oper.mk (some 6) (.alloc _) _ _ _ _ :: _) _ _); refine mem_new M rfl rfl ?_; clear M; (try clear wx); intro g6 wx M)
          | (with_reducible (show wpList _ _ _ (Oper.mk (some 32) (.buildSlice _ _ _) _ _ _ _ :: _) _ _); refine m_lit0 M rfl rfl ?_; clear M; (try clear wx); intro g32 wx M)
          | (with_reducible (show wpList _ _ _ (Oper.mk (some 52) (.buildSlice _ _ _) _ _ _ _ :: _) _ _); refine m_lit0 M rfl rfl ?_; clear M; (try clear wx); intro g52 wx M)
          | (with_reducible (show wpList _ _ _ (Oper.mk _ (.load _ _) _ _ _ _ :: _) _ _); (first | (refine m_loadw M rfl rfl rfl (hasC_9 _ _ _ HL.out) ?_) | (refine m_load M rfl rfl rfl (by first | assumption | rfl) ?_) | (refine m_loadR M rfl rfl rfl (by first | exact HSZ.out _ HL.out _ _ | exact hasC_size _ _ _ rfl | rfl | assumption | (simp; done) | (simp; omega)) ?_)))
          | (with_reducible (show wpList _ _ _ (Oper.mk _ (.store _ _ _) _ _ _ _ :: _) _ _); (first | (refine m_storeR M rfl rfl rfl rfl (by first | exact HSZ.out _ HL.out _ _ | exact hasC_size _ _ _ rfl | rfl | assumption | (simp; done) | (simp; omega)) (by first | exact HSZ.out _ HL.out _ _ | exact hasC_size _ _ _ rfl | rfl | assumption | (simp; done) | (simp; omega)) (by first | exact hasC_one _ _ _ rfl | exact bA_one _ | exact wA_one _ | assumption) ?_) | (refine m_store (v := Value.int _ _) M rfl rfl rfl rfl rfl (by first | assumption | (simp; done) | (simp; omega)) ?_) | (refine m_store (v := Value.slice _ _ _) M rfl rfl rfl rfl rfl (by first | assumption | (simp; done) | (simp; omega)) ?_) | (refine m_store (v := Value.bool _) M rfl rfl rfl rfl rfl (by first | assumption | (simp; done) | (simp; omega)) ?_) | (refine m_store (v := Value.string _) M rfl rfl rfl rfl rfl (by first | assumption | (simp; done) | (simp; omega)) ?_) | (refine m_store (v := Value.pointer _) M rfl rfl rfl rfl rfl (by first | assumption | (simp; done) | (simp; omega)) ?_)); clear M; (try clear wx); intro wx M; simp only [List.set_cons_zero, List.set_cons_succ, Nat.zero_add, List.nil_append] at M)
          | (with_reducible (show wpList _ _ _ (Oper.mk _ (.build _ _) _ _ _ _ :: _) _ _); refine m_buildZ rfl rfl ?_)
          | (with_reducible (show wpList _ _ _ (Oper.mk _ (.call (Call.mk (.builtin .append) _ _)) _ _ _ _ :: _) _ _); (first | (refine m_append1 M rfl rfl rfl (by first | rfl | omega | (simp; done)) rfl (by first | exact HSZ.out _ HL.out _ _ | exact hasC_size _ _ _ rfl | rfl | assumption | (simp; done) | (simp; omega)) (by first | exact hasC_one _ _ _ rfl | exact bA_one _ | exact wA_one _ | assumption) (by first | assumption | (simp only [maxLen]; omega)) (by omega) ?_)); clear M; (try clear wx); intro _ _ wx M; simp only [List.set_cons_zero, List.set_cons_succ, Nat.zero_add, List.nil_append] at M))
        exact m_ret2 M rfl rfl rfl (hasC_size _ _ _ rfl) (by rw [HE.out]; exact ⟨_, _, rfl, (M.nil_own 5 1).out_own (p := 0) rfl⟩)
      · have HE := Lib.hid (show fdT s l q d = ⟨mixKs s (blkK (l ++ d) ((l ++ d).length / 32)), q + k, (l ++ d).drop (32 * ((l ++ d).length / 32)), 0⟩ by rw [fdT, hm, hok, if_neg (by decide), if_neg (by omega), hk])
        obtain ⟨e, he⟩ : ∃ e, l ++ d = e := ⟨_, rfl⟩
        have hel : e.length = m + k := by rw [← he, List.length_append, hm, hk]
        have HB := Lib.hid (show bL l ++ bL d = bL e by rw [← he, bL_append])
        rw [he, hel] at HE
        have HEL := Lib.hid hel
        clear hok hm hk hmq he hel
        go_enter Try.func28, Try.ntmps28
        go_wp2_with (first
          | (go_at_call 60; (with_reducible refine mem_call M (HO.out _ _ _ (M.blkG g2)) ?_); clear M; (try clear wx); rintro _ wx rfl _ M)
          | (with_reducible (show wpList _ _ _ (Oper.mk (some 31) (.build _ _) _ _ _ _ :: _) _ _); refine m_build02 (v0 := .agg (wA s)) (v2 := .int .i64 ((q : Int) + (k : Int))) rfl rfl rfl rfl (built02 s HL.out _) ?_)
          | (with_reducible (show wpList _ _ _ (Oper.mk (some 2) (.box _ _) _ _ _ _ :: _) _ _); (first | (refine m_boxA M rfl rfl rfl ?_) | (refine m_box1 (v := Value.int _ _) M rfl rfl rfl rfl ?_) | (refine m_box1 (v := Value.slice _ _ _) M rfl rfl rfl rfl ?_) | (refine m_box1 (v := Value.bool _) M rfl rfl rfl rfl ?_) | (refine m_box1 (v := Value.string _) M rfl rfl rfl rfl ?_) | (refine m_box1 (v := Value.pointer _) M rfl rfl rfl rfl ?_)); clear M; (try clear wx); intro g2 wx M)
          | (with_reducible (show wpList _ _ _ (Oper.mk (some 4) (.alloc _) _ _ _ _ :: _) _ _); refine mem_new M rfl rfl ?_; clear M; (try clear wx); intro g4 wx M)
          | (with_reducible (show wpList _ _ _ (Oper.mk (some 6) (.alloc _) _ _ _ _ :: _) _ _); refine mem_new M rfl rfl ?_; clear M; (try clear wx); intro g6 wx M)
          | (with_reducible (show wpList _ _ _ (Oper.mk (some 32) (.buildSlice _ _ _) _ _ _ _ :: _) _ _); refine m_lit0 M rfl rfl ?_; clear M; (try clear wx); intro g32 wx M)
          | (with_reducible (show wpList _ _ _ (Oper.mk (some 52) (.buildSlice _ _ _) _ _ _ _ :: _) _ _); refine m_lit0 M rfl rfl ?_; clear M; (try clear wx); intro g52 wx M)
          | (with_reducible (show wpList _ _ _ (Oper.mk _ (.load _ _) _ _ _ _ :: _) _ _); (first | (refine m_loadw M rfl rfl rfl (hasC_9 _ _ _ HL.out) ?_) | (refine m_loadW M rfl rfl rfl (hasC_pre _ _ _) HL.out ?_) | (refine m_load M rfl rfl rfl (hasC_8 _ _ _ HL.out) ?_) | (refine m_load M rfl rfl rfl (hasC_9 _ _ _ HL.out) ?_) | (refine m_load M rfl rfl rfl (by first | assumption | rfl) ?_) | (refine m_loadR M rfl rfl rfl (by first | exact HSZ.out _ HL.out _ _ | exact hasC_size _ _ _ rfl | rfl | assumption | (simp; done) | (simp; omega)) ?_)))
          | (with_reducible (show wpList _ _ _ (Oper.mk _ (.store _ _ _) _ _ _ _ :: _) _ _); (first | (refine m_storeR M rfl rfl rfl rfl (by first | exact HSZ.out _ HL.out _ _ | exact hasC_size _ _ _ rfl | rfl | assumption | (simp; done) | (simp; omega)) (by first | exact HSZ.out _ HL.out _ _ | exact hasC_size _ _ _ rfl | rfl | assumption | (simp; done) | (simp; omega)) (by first | exact hasC_one _ _ _ rfl | exact bA_one _ | exact wA_one _ | assumption) ?_) | (refine m_store (v := Value.int _ _) M rfl rfl rfl rfl rfl (by first | assumption | (simp; done) | (simp; omega)) ?_) | (refine m_store (v := Value.slice _ _ _) M rfl rfl rfl rfl rfl (by first | assumption | (simp; done) | (simp; omega)) ?_) | (refine m_store (v := Value.bool _) M rfl rfl rfl rfl rfl (by first | assumption | (simp; done) | (simp; omega)) ?_) | (refine m_store (v := Value.string _) M rfl rfl rfl rfl rfl (by first | assumption | (simp; done) | (simp; omega)) ?_) | (refine m_store (v := Value.pointer _) M rfl rfl rfl rfl rfl (by first | assumption | (simp; done) | (simp; omega)) ?_)); clear M; (try clear wx); intro wx M; simp only [List.set_cons_zero, List.set_cons_succ, Nat.zero_add, List.nil_append] at M)
          | (with_reducible (show wpList _ _ _ (Oper.mk _ (.build _ _) _ _ _ _ :: _) _ _); refine m_buildZ rfl rfl ?_)
          | (with_reducible (show wpList _ _ _ (Oper.mk _ (.call (Call.mk (.builtin .append) _ _)) _ _ _ _ :: _) _ _); (first | (refine m_append M rfl rfl rfl (by first | rfl | omega | (simp; done)) rfl (HV.out.up M.up) (by first | assumption | (simp only [maxLen]; omega)) (by omega) ?_) | (refine m_append M rfl rfl rfl (by first | rfl | omega | (simp; done)) rfl (HVD.out.up M.up) (by first | assumption | (simp only [maxLen]; omega)) (by omega) ?_) | (refine m_append1 M rfl rfl rfl (by first | rfl | omega | (simp; done)) rfl (by first | exact HSZ.out _ HL.out _ _ | exact hasC_size _ _ _ rfl | rfl | assumption | (simp; done) | (simp; omega)) (by first | exact hasC_one _ _ _ rfl | exact bA_one _ | exact wA_one _ | assumption) (by first | assumption | (simp only [maxLen]; omega)) (by omega) ?_)); clear M; (try clear wx); intro _ _ wx M; simp only [List.set_cons_zero, List.set_cons_succ, Nat.zero_add, List.nil_append] at M))
        rename_i b7 cap7 kk aa
        rw [HB.out] at M
        have hmk : m + k ≤ 2100000 := by omega
        go_loopg [8] ((m + k) / 32) (fun r i wr => ∃ (j : Nat), j + r = (m + k) / 32 ∧ i = .int .i64 ((32 * j : Nat) : Int) ∧ Mem w wr [.own b7 cap7 5 1 (m + k) (bL e), .blk g6 43 (hasC (mixKs s (blkK e j)) (.slice none 0 0) ((q : Int) + (k : Int))), .blk g4 43 (hasC zero8 (.slice none 0 0) 0), .blk g2 43 (hasC s (.slice b m cap) (q : Int))])
        case atStart => exact ⟨0, by omega, rfl, M⟩
        case round =>
          obtain ⟨j, hj, rfl, M⟩ := hrel
          have hS := mixKs_len s HL.out (blkK e j)
          by_cases hlt : j < (m + k) / 32
          · have hat : 32 * j + 32 ≤ m + k := by omega
            have HX := Lib.hid (show mixKs s (blkK e (j + 1)) = mixL (mixKs s (blkK e j)) (cutK e (32 * j)).1 by rw [blkK_succ, mixKs_snoc])
            have HBk : Hid (∀ v w, Rd w 1 v (m + k) (bL e) → Ret Try.prog 62 #[v, .int .i64 ((32 * j : Nat) : Int)] w fun r _ => r = .agg (bA (cutK e (32 * j)).1)) := Lib.hid (fun v w h => by rw [cutK_eq e _ (by rw [HEL.out]; exact hat)]; exact l01Block_c v e (32 * j) w (by rw [HEL.out]; exact h) (by rw [HEL.out]; exact hat))
            have HJ := Lib.hid hj
            clear hj
            generalize mixKs s (blkK e j) = S at *
            have hml := mixL_length S (cutK e (32 * j)).1
            go_wp2_with fail
            refine region_mono (m := 7) mixedOrders_ (by kernel_rfl) (by kernel_rfl)
              (fun | 0 => fun vq _ => vq = .pointer (some ⟨g6, 0, none⟩) | 1 => fun vq _ => vq = .agg (wA S) | 2 => fun vq _ => vq = .slice b7 (m + k) cap7 | 3 => fun vq _ => vq = .int .i64 ((32 * j : Nat) : Int) | 4 => fun vq _ => vq = .agg (bA (cutK e (32 * j)).1) | 5 => fun vq _ => vq = .agg (wA (mixL S (cutK e (32 * j)).1)) | 6 => fun vq _ => vq = .pointer (some ⟨g6, 0, none⟩) | _ => fun _ _ => True)
              (fun wx => Mem w wx [.own b7 cap7 5 1 (m + k) (bL e), .blk g6 43 (hasC S (.slice none 0 0) ((q : Int) + (k : Int))), .blk g4 43 (hasC zero8 (.slice none 0 0) 0), .blk g2 43 (hasC s (.slice b m cap) (q : Int))]) ?_ ?_ ?_ ?_ ?_
            · intro j hj v w1 w2 hb h
              match j, hj with
              | 0, _ => exact h
              | 1, _ => exact h
              | 2, _ => exact h
              | 3, _ => exact h
              | 4, _ => exact h
              | 5, _ => exact h
              | 6, _ => exact h
            · intro w1 w2 hb h
              exact h.grow hb
            · exact M.grow ((Up.refl _).drew)
            · rintro i o hi ho av wv fr gM dep
              match i, hi with
              | 0, _ =>
                obtain rfl := Option.some.inj ho
                exact st_fld rfl Try.underlying43 rfl (fr.eval rfl) 0 rfl (by kernel_rfl) rfl
              | 1, _ =>
                obtain rfl := Option.some.inj ho
                exact st_loadPG gM rfl (dep ⟨0, .data⟩ (by simp) rfl) (hasC_pre _ _ _) (by rw [List.length_map]; exact hS) rfl
              | 2, _ =>
                obtain rfl := Option.some.inj ho
                exact st_mov rfl (fr.eval rfl) rfl
              | 3, _ =>
                obtain rfl := Option.some.inj ho
                exact st_mov rfl (fr.eval rfl) rfl
              | 4, _ =>
                obtain rfl := Option.some.inj ho
                have d0 := dep ⟨2, .data⟩ (by simp) rfl
                have d1 := dep ⟨3, .data⟩ (by simp) rfl
                exact st_ret2 rfl (fun _ _ => by kernel_rfl) d0 d1 (HBk.out _ _ gM.rdB) (fun r w' h _ => h)
              | 5, _ =>
                obtain rfl := Option.some.inj ho
                have d0 := dep ⟨1, .data⟩ (by simp) rfl
                have d1 := dep ⟨4, .data⟩ (by simp) rfl
                exact st_ret2 rfl (fun _ _ => by kernel_rfl) d0 d1 (Ret.of (specl01Mix_c S _ hS (Ky.len _) _)) (fun r w' h _ => h)
              | 6, _ =>
                obtain rfl := Option.some.inj ho
                exact st_fld rfl Try.underlying43 rfl (fr.eval rfl) 0 rfl (by kernel_rfl) rfl
            · rintro vs wv gM hf
              have f0 : vs 0 = .pointer (some ⟨g6, 0, none⟩) := hf 0 (by omega)
              have f1 : vs 1 = .agg (wA S) := hf 1 (by omega)
              have f2 : vs 2 = .slice b7 (m + k) cap7 := hf 2 (by omega)
              have f3 : vs 3 = .int .i64 ((32 * j : Nat) : Int) := hf 3 (by omega)
              have f4 : vs 4 = .agg (bA (cutK e (32 * j)).1) := hf 4 (by omega)
              have f5 : vs 5 = .agg (wA (mixL S (cutK e (32 * j)).1)) := hf 5 (by omega)
              have f6 : vs 6 = .pointer (some ⟨g6, 0, none⟩) := hf 6 (by omega)
              simp only [putAll, Act.put, List.getElem?_toArray, List.getElem?_cons_zero, List.getElem?_cons_succ, Option.bind_some, List.setIfInBounds_toArray, List.set_cons_zero, List.set_cons_succ, List.drop_succ_cons, List.drop_zero, List.drop_nil, f5, f6]
              clear f0 f1 f2 f3 f4 f5 f6 hf
              have M := gM
              go_wp2_with (first
                | (with_reducible (show wpList _ _ _ (Oper.mk _ (.store _ _ _) _ _ _ _ :: _) _ _); refine m_storeP M rfl rfl rfl rfl (by rw [wA_size]; exact hml) (by rw [hasC_size _ _ _ hS]; decide) (wA_one _) ?_; clear M; (try clear wx); intro wx M; simp only [List.set_cons_zero, List.set_cons_succ, Nat.zero_add, List.nil_append] at M; rw [put_wordsC _ _ hml hS] at M)
                | (with_reducible (show wpList _ _ _ (Oper.mk (some 2) (.box _ _) _ _ _ _ :: _) _ _); (first | (refine m_boxA M rfl rfl rfl ?_) | (refine m_box1 (v := Value.int _ _) M rfl rfl rfl rfl ?_) | (refine m_box1 (v := Value.slice _ _ _) M rfl rfl rfl rfl ?_) | (refine m_box1 (v := Value.bool _) M rfl rfl rfl rfl ?_) | (refine m_box1 (v := Value.string _) M rfl rfl rfl rfl ?_) | (refine m_box1 (v := Value.pointer _) M rfl rfl rfl rfl ?_)); clear M; (try clear wx); intro g2 wx M)
                | (with_reducible (show wpList _ _ _ (Oper.mk (some 4) (.alloc _) _ _ _ _ :: _) _ _); refine mem_new M rfl rfl ?_; clear M; (try clear wx); intro g4 wx M)
                | (with_reducible (show wpList _ _ _ (Oper.mk (some 6) (.alloc _) _ _ _ _ :: _) _ _); refine mem_new M rfl rfl ?_; clear M; (try clear wx); intro g6 wx M)
                | (with_reducible (show wpList _ _ _ (Oper.mk (some 32) (.buildSlice _ _ _) _ _ _ _ :: _) _ _); refine m_lit0 M rfl rfl ?_; clear M; (try clear wx); intro g32 wx M)
                | (with_reducible (show wpList _ _ _ (Oper.mk (some 52) (.buildSlice _ _ _) _ _ _ _ :: _) _ _); refine m_lit0 M rfl rfl ?_; clear M; (try clear wx); intro g52 wx M)
                | (with_reducible (show wpList _ _ _ (Oper.mk _ (.load _ _) _ _ _ _ :: _) _ _); (first | (refine m_load M rfl rfl rfl (by first | assumption | rfl) ?_) | (refine m_loadR M rfl rfl rfl (by first | rfl | assumption | (simp; done) | (simp; omega)) ?_)))
                | (with_reducible (show wpList _ _ _ (Oper.mk _ (.store _ _ _) _ _ _ _ :: _) _ _); (first | (refine m_storeR M rfl rfl rfl rfl (by first | rfl | assumption | (simp; done) | (simp; omega)) (by first | rfl | assumption | (simp; done) | (simp; omega)) (by first | exact bA_one _ | exact wA_one _ | assumption | (simp [Value.oneCell']; done)) ?_) | (refine m_store (v := Value.int _ _) M rfl rfl rfl rfl rfl (by first | assumption | (simp; done) | (simp; omega)) ?_) | (refine m_store (v := Value.slice _ _ _) M rfl rfl rfl rfl rfl (by first | assumption | (simp; done) | (simp; omega)) ?_) | (refine m_store (v := Value.bool _) M rfl rfl rfl rfl rfl (by first | assumption | (simp; done) | (simp; omega)) ?_) | (refine m_store (v := Value.string _) M rfl rfl rfl rfl rfl (by first | assumption | (simp; done) | (simp; omega)) ?_) | (refine m_store (v := Value.pointer _) M rfl rfl rfl rfl rfl (by first | assumption | (simp; done) | (simp; omega)) ?_)); clear M; (try clear wx); intro wx M; simp only [List.set_cons_zero, List.set_cons_succ, Nat.zero_add, List.nil_append] at M)
                | (with_reducible (show wpList _ _ _ (Oper.mk _ (.build _ _) _ _ _ _ :: _) _ _); refine m_buildZ rfl rfl ?_)
                | (with_reducible (show wpList _ _ _ (Oper.mk _ (.call (Call.mk (.builtin .append) _ _)) _ _ _ _ :: _) _ _); (first | (refine m_append1 M rfl rfl rfl (by first | rfl | omega | (simp; done)) rfl (by first | rfl | assumption | (simp; done) | (simp; omega)) (by first | exact bA_one _ | exact wA_one _ | assumption | (simp [Value.oneCell']; done)) (by first | assumption | (simp only [maxLen]; omega)) (by omega) ?_)); clear M; (try clear wx); intro _ _ wx M; simp only [List.set_cons_zero, List.set_cons_succ, Nat.zero_add, List.nil_append] at M))
              have hj := HJ.out
              go_roundg (gk - 1)
              case measure => omega
              case rel => exact ⟨j + 1, by omega, by go_num, by rw [HX.out]; exact M⟩
          · obtain rfl : j = (m + k) / 32 := by omega
            have hle : 32 * ((m + k) / 32) ≤ m + k := by omega
            have HD := Lib.hid (show (e.drop (32 * ((m + k) / 32))).length = m + k - 32 * ((m + k) / 32) ∧ bL (e.drop (32 * ((m + k) / 32))) = List.drop (32 * ((m + k) / 32) * 1) (bL e) by
              refine ⟨by rw [List.length_drop, HEL.out], ?_⟩
              simp [bL, List.map_drop])
            clear hj hlt
            generalize mixKs s (blkK e ((m + k) / 32)) = S at *
            generalize e.drop (32 * ((m + k) / 32)) = l2 at *
            go_wp2_with (first
              | (with_reducible (show wpList _ _ _ (Oper.mk _ (.slice _ _ (some _) none none) _ _ _ _ :: _) _ _); refine m_slL rfl rfl rfl M.rdB (32 * ((m + k) / 32)) hle rfl ?_; intro _ _ R55; have HR55 := Lib.hid R55; clear R55)
              | (with_reducible (show wpList _ _ _ (Oper.mk _ (.store _ _ _) _ _ _ _ :: _) _ _); refine m_store (v := .slice _ _ _) M rfl rfl rfl rfl rfl (by rw [hasC_size _ _ _ hS]; decide) ?_; clear M; (try clear wx); intro wx M; simp only [List.set_cons_zero, List.set_cons_succ, Nat.zero_add, List.nil_append] at M; rw [set_held S hS] at M)
              | (with_reducible (show wpList _ _ _ (Oper.mk (some 2) (.box _ _) _ _ _ _ :: _) _ _); (first | (refine m_boxA M rfl rfl rfl ?_) | (refine m_box1 (v := Value.int _ _) M rfl rfl rfl rfl ?_) | (refine m_box1 (v := Value.slice _ _ _) M rfl rfl rfl rfl ?_) | (refine m_box1 (v := Value.bool _) M rfl rfl rfl rfl ?_) | (refine m_box1 (v := Value.string _) M rfl rfl rfl rfl ?_) | (refine m_box1 (v := Value.pointer _) M rfl rfl rfl rfl ?_)); clear M; (try clear wx); intro g2 wx M)
              | (with_reducible (show wpList _ _ _ (Oper.mk (some 4) (.alloc _) _ _ _ _ :: _) _ _); refine mem_new M rfl rfl ?_; clear M; (try clear wx); intro g4 wx M)
              | (with_reducible (show wpList _ _ _ (Oper.mk (some 6) (.alloc _) _ _ _ _ :: _) _ _); refine mem_new M rfl rfl ?_; clear M; (try clear wx); intro g6 wx M)
              | (with_reducible (show wpList _ _ _ (Oper.mk (some 32) (.buildSlice _ _ _) _ _ _ _ :: _) _ _); refine m_lit0 M rfl rfl ?_; clear M; (try clear wx); intro g32 wx M)
              | (with_reducible (show wpList _ _ _ (Oper.mk (some 52) (.buildSlice _ _ _) _ _ _ _ :: _) _ _); refine m_lit0 M rfl rfl ?_; clear M; (try clear wx); intro g52 wx M)
              | (with_reducible (show wpList _ _ _ (Oper.mk _ (.load _ _) _ _ _ _ :: _) _ _); (first | (refine m_load M rfl rfl rfl (by first | assumption | rfl) ?_) | (refine m_loadR M rfl rfl rfl (by first | exact hasC_size _ _ _ hS | exact hasC_size _ _ _ rfl | rfl | assumption | (simp; done) | (simp; omega)) ?_)))
              | (with_reducible (show wpList _ _ _ (Oper.mk _ (.store _ _ _) _ _ _ _ :: _) _ _); (first | (refine m_storeR M rfl rfl rfl rfl (by first | exact hasC_size _ _ _ hS | exact hasC_size _ _ _ rfl | rfl | assumption | (simp; done) | (simp; omega)) (by first | exact hasC_size _ _ _ hS | exact hasC_size _ _ _ rfl | rfl | assumption | (simp; done) | (simp; omega)) (by first | exact hasC_one _ _ _ rfl | exact bA_one _ | exact wA_one _ | assumption) ?_) | (refine m_store (v := Value.int _ _) M rfl rfl rfl rfl rfl (by first | assumption | (simp; done) | (simp; omega)) ?_) | (refine m_store (v := Value.slice _ _ _) M rfl rfl rfl rfl rfl (by first | assumption | (simp; done) | (simp; omega)) ?_) | (refine m_store (v := Value.bool _) M rfl rfl rfl rfl rfl (by first | assumption | (simp; done) | (simp; omega)) ?_) | (refine m_store (v := Value.string _) M rfl rfl rfl rfl rfl (by first | assumption | (simp; done) | (simp; omega)) ?_) | (refine m_store (v := Value.pointer _) M rfl rfl rfl rfl rfl (by first | assumption | (simp; done) | (simp; omega)) ?_)); clear M; (try clear wx); intro wx M; simp only [List.set_cons_zero, List.set_cons_succ, Nat.zero_add, List.nil_append] at M)
              | (with_reducible (show wpList _ _ _ (Oper.mk _ (.build _ _) _ _ _ _ :: _) _ _); refine m_buildZ rfl rfl ?_)
              | (with_reducible (show wpList _ _ _ (Oper.mk _ (.call (Call.mk (.builtin .append) _ _)) _ _ _ _ :: _) _ _); (first | (refine m_append M rfl rfl rfl (by first | rfl | omega | (simp; done)) rfl (HR55.out) (by first | assumption | (simp only [maxLen]; omega)) (by omega) ?_) | (refine m_append1 M rfl rfl rfl (by first | rfl | omega | (simp; done)) rfl (by first | exact hasC_size _ _ _ hS | exact hasC_size _ _ _ rfl | rfl | assumption | (simp; done) | (simp; omega)) (by first | exact hasC_one _ _ _ rfl | exact bA_one _ | exact wA_one _ | assumption) (by first | assumption | (simp only [maxLen]; omega)) (by omega) ?_)); clear M; (try clear wx); intro _ _ wx M; simp only [List.set_cons_zero, List.set_cons_succ, Nat.zero_add, List.nil_append] at M))
            exact m_ret2 M rfl rfl rfl (hasC_size _ _ _ hS) (by rw [HE.out]; show HasR2 _ _ _ _ S l2.length _ (bL l2) _; rw [HD.out.1, HD.out.2]; exact ⟨_, _, rfl, M.out_own (p := 0) rfl⟩)
  · have HE := Lib.hid (show fdT s l n d = ⟨zero8, 0, [], 1⟩ by rw [fdT, hm, if_pos (by simpa using hok)])
    rw [Bool.not_eq_true] at hok
    rw [hok] at HO
    clear hok hm hk
    go_enter Try.func28, Try.ntmps28
    go_wp2_with (first
      | (go_at_call 60; (with_reducible refine mem_call M (HO.out _ _ _ (M.blkG g2)) ?_); clear M; (try clear wx); rintro _ wx rfl _ M)
      | (with_reducible (show wpList _ _ _ (Oper.mk (some 2) (.box _ _) _ _ _ _ :: _) _ _); (first | (refine m_boxA M rfl rfl rfl ?_) | (refine m_box1 (v := Value.int _ _) M rfl rfl rfl rfl ?_) | (refine m_box1 (v := Value.slice _ _ _) M rfl rfl rfl rfl ?_) | (refine m_box1 (v := Value.bool _) M rfl rfl rfl rfl ?_) | (refine m_box1 (v := Value.string _) M rfl rfl rfl rfl ?_) | (refine m_box1 (v := Value.pointer _) M rfl rfl rfl rfl ?_)); clear M; (try clear wx); intro g2 wx M)
      | (with_reducible (show wpList _ _ _ (Oper.mk (some 4) (.alloc _) _ _ _ _ :: _) _ _); refine mem_new M rfl rfl ?_; clear M; (try clear wx); intro g4 wx M)
      | (with_reducible (show wpList _ _ _ (Oper.mk (some 6) (.alloc _) _ _ _ _ :: _) _ _); refine mem_new M rfl rfl ?_; clear M; (try clear wx); intro g6 wx M)
      | (with_reducible (show wpList _ _ _ (Oper.mk (some 32) (.buildSlice _ _ _) _ _ _ _ :: _) _ _); refine m_lit0 M rfl rfl ?_; clear M; (try clear wx); intro g32 wx M)
      | (with_reducible (show wpList _ _ _ (Oper.mk (some 52) (.buildSlice _ _ _) _ _ _ _ :: _) _ _); refine m_lit0 M rfl rfl ?_; clear M; (try clear wx); intro g52 wx M)
      | (with_reducible (show wpList _ _ _ (Oper.mk _ (.load _ _) _ _ _ _ :: _) _ _); (first | (refine m_load M rfl rfl rfl (by first | assumption | rfl) ?_) | (refine m_loadR M rfl rfl rfl (by first | exact HSZ.out _ HL.out _ _ | exact hasC_size _ _ _ rfl | rfl | assumption | (simp; done) | (simp; omega)) ?_)))
      | (with_reducible (show wpList _ _ _ (Oper.mk _ (.store _ _ _) _ _ _ _ :: _) _ _); (first | (refine m_storeR M rfl rfl rfl rfl (by first | exact HSZ.out _ HL.out _ _ | exact hasC_size _ _ _ rfl | rfl | assumption | (simp; done) | (simp; omega)) (by first | exact HSZ.out _ HL.out _ _ | exact hasC_size _ _ _ rfl | rfl | assumption | (simp; done) | (simp; omega)) (by first | exact hasC_one _ _ _ rfl | exact bA_one _ | exact wA_one _ | assumption) ?_) | (refine m_store (v := Value.int _ _) M rfl rfl rfl rfl rfl (by first | assumption | (simp; done) | (simp; omega)) ?_) | (refine m_store (v := Value.slice _ _ _) M rfl rfl rfl rfl rfl (by first | assumption | (simp; done) | (simp; omega)) ?_) | (refine m_store (v := Value.bool _) M rfl rfl rfl rfl rfl (by first | assumption | (simp; done) | (simp; omega)) ?_) | (refine m_store (v := Value.string _) M rfl rfl rfl rfl rfl (by first | assumption | (simp; done) | (simp; omega)) ?_) | (refine m_store (v := Value.pointer _) M rfl rfl rfl rfl rfl (by first | assumption | (simp; done) | (simp; omega)) ?_)); clear M; (try clear wx); intro wx M; simp only [List.set_cons_zero, List.set_cons_succ, Nat.zero_add, List.nil_append] at M)
      | (with_reducible (show wpList _ _ _ (Oper.mk _ (.build _ _) _ _ _ _ :: _) _ _); refine m_buildZ rfl rfl ?_)
      | (with_reducible (show wpList _ _ _ (Oper.mk _ (.call (Call.mk (.builtin .append) _ _)) _ _ _ _ :: _) _ _); (first | (refine m_append1 M rfl rfl rfl (by first | rfl | omega | (simp; done)) rfl (by first | exact HSZ.out _ HL.out _ _ | exact hasC_size _ _ _ rfl | rfl | assumption | (simp; done) | (simp; omega)) (by first | exact hasC_one _ _ _ rfl | exact bA_one _ | exact wA_one _ | assumption) (by first | assumption | (simp only [maxLen]; omega)) (by omega) ?_)); clear M; (try clear wx); intro _ _ wx M; simp only [List.set_cons_zero, List.set_cons_succ, Nat.zero_add, List.nil_append] at M))
    exact m_ret2 M rfl rfl rfl (hasC_size _ _ _ rfl) (by rw [HE.out]; exact ⟨_, _, rfl, (M.nil_own 5 1).out_own (p := 0) rfl⟩)

set_option maxHeartbeats 8000000 in
set_option maxRecDepth 100000 in
theorem implFeedHasher_c (s : List UInt32) (hs : s.length = 8) (v : Value) (l : List UInt8) (m : Nat) (hm : l.length = m) (n : Int) (vd : Value) (d : List UInt8) (k : Nat) (hk : d.length = k) (w : World) (hv : Rd w 1 v m (bL l)) (hvd : Rd w 1 vd k (bL d)) (hl : m ≤ 1048576) (hkl : k ≤ 1048576) :
    Ret Try.prog 30 #[.agg (hasC s v n), vd] w fun r w' => HasR2 w w' 5 r (fdT s l n d).s (fdT s l n d).l.length (fdT s l n d).n (bL (fdT s l n d).l) (.int .i64 (fdT s l n d).c) := by
  obtain ⟨b, cap, rfl⟩ := hv.shape
  obtain ⟨bd, capd, rfl⟩ := hvd.shape
  have HV := Lib.hid hv
  have HVD := Lib.hid hvd
  have HL := Lib.hid hs
  have HO := Lib.hid (validHasher_r s hs b m cap n)
  have HSZ := Lib.hid (fun (s : List UInt32) (hs : s.length = 8) (v : Value) (n : Int) => hasC_size s v n hs)
  refine ret_start fun wx M => ?_
  clear hv hvd hs
  by_cases hok : okHas n m = true
  · rw [hok] at HO
    obtain ⟨q, rfl, hq, hmq⟩ := okHas_true n m hok
    by_cases hbig : 4096 < k
    · have HE := Lib.hid (show fdT s l q d = ⟨zero8, 0, [], 3⟩ by rw [fdT, hm, hok, if_neg (by decide), if_pos (by omega)])
      clear hok hm hk hmq
      go_enter Try.func30, Try.ntmps30
      go_wp2_with (first
        | (go_at_call 64; (with_reducible refine mem_call M (HO.out _) ?_); clear M; (try clear wx); rintro _ wx rfl _ M)
        | (with_reducible (show wpList _ _ _ (Oper.mk (some 2) (.box _ _) _ _ _ _ :: _) _ _); (first | (refine m_boxA M rfl rfl rfl ?_) | (refine m_box1 (v := Value.int _ _) M rfl rfl rfl rfl ?_) | (refine m_box1 (v := Value.slice _ _ _) M rfl rfl rfl rfl ?_) | (refine m_box1 (v := Value.bool _) M rfl rfl rfl rfl ?_) | (refine m_box1 (v := Value.string _) M rfl rfl rfl rfl ?_) | (refine m_box1 (v := Value.pointer _) M rfl rfl rfl rfl ?_)); clear M; (try clear wx); intro g2 wx M)
        | (with_reducible (show wpList _ _ _ (Oper.mk (some 4) (.alloc _) _ _ _ _ :: _) _ _); refine mem_new M rfl rfl ?_; clear M; (try clear wx); intro g4 wx M)
        | (with_reducible (show wpList _ _ _ (Oper.mk _ (.load _ _) _ _ _ _ :: _) _ _); (first | (refine m_load M rfl rfl rfl (by first | assumption | rfl) ?_) | (refine m_loadR M rfl rfl rfl (by first | exact HSZ.out _ HL.out _ _ | exact hasC_size _ _ _ rfl | rfl | assumption | (simp; done) | (simp; omega)) ?_)))
        | (with_reducible (show wpList _ _ _ (Oper.mk _ (.store _ _ _) _ _ _ _ :: _) _ _); (first | (refine m_storeR M rfl rfl rfl rfl (by first | exact HSZ.out _ HL.out _ _ | exact hasC_size _ _ _ rfl | rfl | assumption | (simp; done) | (simp; omega)) (by first | exact HSZ.out _ HL.out _ _ | exact hasC_size _ _ _ rfl | rfl | assumption | (simp; done) | (simp; omega)) (by first | exact hasC_one _ _ _ rfl | exact bA_one _ | exact wA_one _ | assumption) ?_) | (refine m_store (v := Value.int _ _) M rfl rfl rfl rfl rfl (by first | assumption | (simp; done) | (simp; omega)) ?_) | (refine m_store (v := Value.slice _ _ _) M rfl rfl rfl rfl rfl (by first | assumption | (simp; done) | (simp; omega)) ?_) | (refine m_store (v := Value.bool _) M rfl rfl rfl rfl rfl (by first | assumption | (simp; done) | (simp; omega)) ?_) | (refine m_store (v := Value.string _) M rfl rfl rfl rfl rfl (by first | assumption | (simp; done) | (simp; omega)) ?_) | (refine m_store (v := Value.pointer _) M rfl rfl rfl rfl rfl (by first | assumption | (simp; done) | (simp; omega)) ?_)); clear M; (try clear wx); intro wx M; simp only [List.set_cons_zero, List.set_cons_succ, Nat.zero_add, List.nil_append] at M)
        | (with_reducible (show wpList _ _ _ (Oper.mk _ (.build _ _) _ _ _ _ :: _) _ _); refine m_buildZ rfl rfl ?_))
      refine region_monoG (m := 11) mixedOrders_ (by kernel_rfl) (by kernel_rfl)
        (fun | 0 => fun vq _ => vq = .slice bd k capd | 1 => fun vq _ => vq = .int .i64 (k : Int) | 2 => fun vq _ => vq = .bool true | 3 => fun vq _ => vq = .bool true | 4 => fun vq _ => vq = undef | 5 => fun vq _ => vq = undef | 6 => fun vq _ => vq = undef | 7 => fun vq _ => vq = undef | 8 => fun vq _ => vq = undef | 9 => fun vq _ => vq = undef | 10 => fun vq _ => vq = .bool true | _ => fun _ _ => True)
        (fun wx => Mem w wx [.blk g4 43 (hasC zero8 (.slice none 0 0) 0), .blk g2 43 (hasC s (.slice b m cap) (q : Int))]) ?_ ?_ ?_ ?_ ?_
      · intro j hj v w1 w2 hb h
        match j, hj with
        | 0, _ => exact h
        | 1, _ => exact h
        | 2, _ => exact h
        | 3, _ => exact h
        | 4, _ => exact h
        | 5, _ => exact h
        | 6, _ => exact h
        | 7, _ => exact h
        | 8, _ => exact h
        | 9, _ => exact h
        | 10, _ => exact h
      · intro w1 w2 hb h
        exact h.grow hb
      · exact M.grow ((Up.refl _).drew)
      · rintro i o hi ho av wv fr gM dep
        match i, hi with
        | 0, _ =>
          obtain rfl := Option.some.inj ho
          refine g_none rfl rfl ?_
          exact st_mov rfl (fr.eval rfl) rfl
        | 1, _ =>
          obtain rfl := Option.some.inj ho
          refine g_none rfl rfl ?_
          exact st_len rfl (dep ⟨0, .data⟩ (by simp) rfl) rfl
        | 2, _ =>
          obtain rfl := Option.some.inj ho
          refine g_none rfl rfl ?_
          exact st_bin rfl (dep ⟨1, .data⟩ (by simp) rfl) (rfl) (bin_gtrI _ _ _ (decide_eq_true (by omega)) _ _ _) rfl
        | 3, _ =>
          obtain rfl := Option.some.inj ho
          refine g_none rfl rfl ?_
          exact st_mov rfl (dep ⟨2, .data⟩ (by simp) rfl) rfl
        | 4, _ =>
          obtain rfl := Option.some.inj ho
          exact g_no rfl rfl (dep ⟨3, .guard⟩ (by simp) rfl) (by decide) rfl
        | 5, _ =>
          obtain rfl := Option.some.inj ho
          exact g_no rfl rfl (dep ⟨3, .guard⟩ (by simp) rfl) (by decide) rfl
        | 6, _ =>
          obtain rfl := Option.some.inj ho
          exact g_no rfl rfl (dep ⟨3, .guard⟩ (by simp) rfl) (by decide) rfl
        | 7, _ =>
          obtain rfl := Option.some.inj ho
          exact g_no rfl rfl (dep ⟨3, .guard⟩ (by simp) rfl) (by decide) rfl
        | 8, _ =>
          obtain rfl := Option.some.inj ho
          exact g_no rfl rfl (dep ⟨3, .guard⟩ (by simp) rfl) (by decide) rfl
        | 9, _ =>
          obtain rfl := Option.some.inj ho
          exact g_no rfl rfl (dep ⟨3, .guard⟩ (by simp) rfl) (by decide) rfl
        | 10, _ =>
          obtain rfl := Option.some.inj ho
          refine g_none rfl rfl ?_
          exact st_pick rfl (dep ⟨3, .data⟩ (by simp) rfl) (rfl) (dep ⟨9, .data⟩ (by simp) rfl) rfl
      · rintro vs wv gM hf
        have f0 : vs 0 = .slice bd k capd := hf 0 (by omega)
        have f1 : vs 1 = .int .i64 (k : Int) := hf 1 (by omega)
        have f2 : vs 2 = .bool true := hf 2 (by omega)
        have f3 : vs 3 = .bool true := hf 3 (by omega)
        have f4 : vs 4 = undef := hf 4 (by omega)
        have f5 : vs 5 = undef := hf 5 (by omega)
        have f6 : vs 6 = undef := hf 6 (by omega)
        have f7 : vs 7 = undef := hf 7 (by omega)
        have f8 : vs 8 = undef := hf 8 (by omega)
        have f9 : vs 9 = undef := hf 9 (by omega)
        have f10 : vs 10 = .bool true := hf 10 (by omega)
        simp only [putAll, Act.put, List.getElem?_toArray, List.getElem?_cons_zero, List.getElem?_cons_succ, Option.bind_some, List.setIfInBounds_toArray, List.set_cons_zero, List.set_cons_succ, List.drop_succ_cons, List.drop_zero, List.drop_nil, f10]
        clear f0 f1 f2 f3 f4 f5 f6 f7 f8 f9 f10 hf
        have M := gM
        go_wp2_with (first
          | (with_reducible (show wpList _ _ _ (Oper.mk (some 2) (.box _ _) _ _ _ _ :: _) _ _); (first | (refine m_boxA M rfl rfl rfl ?_) | (refine m_box1 (v := Value.int _ _) M rfl rfl rfl rfl ?_) | (refine m_box1 (v := Value.slice _ _ _) M rfl rfl rfl rfl ?_) | (refine m_box1 (v := Value.bool _) M rfl rfl rfl rfl ?_) | (refine m_box1 (v := Value.string _) M rfl rfl rfl rfl ?_) | (refine m_box1 (v := Value.pointer _) M rfl rfl rfl rfl ?_)); clear M; (try clear wx); intro g2 wx M)
          | (with_reducible (show wpList _ _ _ (Oper.mk (some 4) (.alloc _) _ _ _ _ :: _) _ _); refine mem_new M rfl rfl ?_; clear M; (try clear wx); intro g4 wx M)
          | (with_reducible (show wpList _ _ _ (Oper.mk _ (.load _ _) _ _ _ _ :: _) _ _); (first | (refine m_load M rfl rfl rfl (by first | assumption | rfl) ?_) | (refine m_loadR M rfl rfl rfl (by first | exact HSZ.out _ HL.out _ _ | exact hasC_size _ _ _ rfl | rfl | assumption | (simp; done) | (simp; omega)) ?_)))
          | (with_reducible (show wpList _ _ _ (Oper.mk _ (.store _ _ _) _ _ _ _ :: _) _ _); (first | (refine m_storeR M rfl rfl rfl rfl (by first | exact HSZ.out _ HL.out _ _ | exact hasC_size _ _ _ rfl | rfl | assumption | (simp; done) | (simp; omega)) (by first | exact HSZ.out _ HL.out _ _ | exact hasC_size _ _ _ rfl | rfl | assumption | (simp; done) | (simp; omega)) (by first | exact hasC_one _ _ _ rfl | exact bA_one _ | exact wA_one _ | assumption) ?_) | (refine m_store (v := Value.int _ _) M rfl rfl rfl rfl rfl (by first | assumption | (simp; done) | (simp; omega)) ?_) | (refine m_store (v := Value.slice _ _ _) M rfl rfl rfl rfl rfl (by first | assumption | (simp; done) | (simp; omega)) ?_) | (refine m_store (v := Value.bool _) M rfl rfl rfl rfl rfl (by first | assumption | (simp; done) | (simp; omega)) ?_) | (refine m_store (v := Value.string _) M rfl rfl rfl rfl rfl (by first | assumption | (simp; done) | (simp; omega)) ?_) | (refine m_store (v := Value.pointer _) M rfl rfl rfl rfl rfl (by first | assumption | (simp; done) | (simp; omega)) ?_)); clear M; (try clear wx); intro wx M; simp only [List.set_cons_zero, List.set_cons_succ, Nat.zero_add, List.nil_append] at M)
          | (with_reducible (show wpList _ _ _ (Oper.mk _ (.build _ _) _ _ _ _ :: _) _ _); refine m_buildZ rfl rfl ?_))
        exact m_ret2 M rfl rfl rfl (hasC_size _ _ _ rfl) (by rw [HE.out]; exact ⟨_, _, rfl, (M.nil_own 5 1).out_own (p := 0) rfl⟩)
    · obtain ⟨c, hc⟩ : ∃ c, decide ((q : Int) + (k : Int) > 1000000000) = c := ⟨_, rfl⟩
      have HC := Lib.hid hc
      have hbk : ¬ (4096 : Int) < (k : Int) := by omega
      have HE1 := Lib.hid (show c = true → fdT s l q d = ⟨zero8, 0, [], 3⟩ from fun h => by rw [h] at hc; have := of_decide_eq_true hc; rw [fdT, hm, hok, if_neg (by decide), if_pos (by omega)])
      have HE2 := Lib.hid (show c = false → fdT s l q d = ⟨mixKs s (blkK (l ++ d) ((l ++ d).length / 32)), q + k, (l ++ d).drop (32 * ((l ++ d).length / 32)), 0⟩ from fun h => by rw [h] at hc; have := of_decide_eq_false hc; rw [fdT, hm, hok, if_neg (by decide), if_neg (by omega), hk])
      have HM := Lib.hid (And.intro hm hk)
      clear hok hm hk hmq hc
      go_enter Try.func30, Try.ntmps30
      go_wp2_with (first
        | (go_at_call 64; (with_reducible refine mem_call M (HO.out _) ?_); clear M; (try clear wx); rintro _ wx rfl _ M)
        | (with_reducible (show wpList _ _ _ (Oper.mk (some 2) (.box _ _) _ _ _ _ :: _) _ _); (first | (refine m_boxA M rfl rfl rfl ?_) | (refine m_box1 (v := Value.int _ _) M rfl rfl rfl rfl ?_) | (refine m_box1 (v := Value.slice _ _ _) M rfl rfl rfl rfl ?_) | (refine m_box1 (v := Value.bool _) M rfl rfl rfl rfl ?_) | (refine m_box1 (v := Value.string _) M rfl rfl rfl rfl ?_) | (refine m_box1 (v := Value.pointer _) M rfl rfl rfl rfl ?_)); clear M; (try clear wx); intro g2 wx M)
        | (with_reducible (show wpList _ _ _ (Oper.mk (some 4) (.alloc _) _ _ _ _ :: _) _ _); refine mem_new M rfl rfl ?_; clear M; (try clear wx); intro g4 wx M)
        | (with_reducible (show wpList _ _ _ (Oper.mk _ (.load _ _) _ _ _ _ :: _) _ _); (first | (refine m_load M rfl rfl rfl (by first | assumption | rfl) ?_) | (refine m_loadR M rfl rfl rfl (by first | exact HSZ.out _ HL.out _ _ | exact hasC_size _ _ _ rfl | rfl | assumption | (simp; done) | (simp; omega)) ?_)))
        | (with_reducible (show wpList _ _ _ (Oper.mk _ (.store _ _ _) _ _ _ _ :: _) _ _); (first | (refine m_storeR M rfl rfl rfl rfl (by first | exact HSZ.out _ HL.out _ _ | exact hasC_size _ _ _ rfl | rfl | assumption | (simp; done) | (simp; omega)) (by first | exact HSZ.out _ HL.out _ _ | exact hasC_size _ _ _ rfl | rfl | assumption | (simp; done) | (simp; omega)) (by first | exact hasC_one _ _ _ rfl | exact bA_one _ | exact wA_one _ | assumption) ?_) | (refine m_store (v := Value.int _ _) M rfl rfl rfl rfl rfl (by first | assumption | (simp; done) | (simp; omega)) ?_) | (refine m_store (v := Value.slice _ _ _) M rfl rfl rfl rfl rfl (by first | assumption | (simp; done) | (simp; omega)) ?_) | (refine m_store (v := Value.bool _) M rfl rfl rfl rfl rfl (by first | assumption | (simp; done) | (simp; omega)) ?_) | (refine m_store (v := Value.string _) M rfl rfl rfl rfl rfl (by first | assumption | (simp; done) | (simp; omega)) ?_) | (refine m_store (v := Value.pointer _) M rfl rfl rfl rfl rfl (by first | assumption | (simp; done) | (simp; omega)) ?_)); clear M; (try clear wx); intro wx M; simp only [List.set_cons_zero, List.set_cons_succ, Nat.zero_add, List.nil_append] at M)
        | (with_reducible (show wpList _ _ _ (Oper.mk _ (.build _ _) _ _ _ _ :: _) _ _); refine m_buildZ rfl rfl ?_))
      refine region_monoG (m := 11) mixedOrders_ (by kernel_rfl) (by kernel_rfl)
        (fun | 0 => fun vq _ => vq = .slice bd k capd | 1 => fun vq _ => vq = .int .i64 (k : Int) | 2 => fun vq _ => vq = .bool false | 3 => fun vq _ => vq = .bool false | 4 => fun vq _ => vq = .pointer (some ⟨g2, 9, none⟩) | 5 => fun vq _ => vq = .int .i64 (q : Int) | 6 => fun vq _ => vq = .slice bd k capd | 7 => fun vq _ => vq = .int .i64 (k : Int) | 8 => fun vq _ => vq = .int .i64 ((q : Int) + (k : Int)) | 9 => fun vq _ => vq = .bool c | 10 => fun vq _ => vq = .bool c | _ => fun _ _ => True)
        (fun wx => Mem w wx [.blk g4 43 (hasC zero8 (.slice none 0 0) 0), .blk g2 43 (hasC s (.slice b m cap) (q : Int))]) ?_ ?_ ?_ ?_ ?_
      · intro j hj v w1 w2 hb h
        match j, hj with
        | 0, _ => exact h
        | 1, _ => exact h
        | 2, _ => exact h
        | 3, _ => exact h
        | 4, _ => exact h
        | 5, _ => exact h
        | 6, _ => exact h
        | 7, _ => exact h
        | 8, _ => exact h
        | 9, _ => exact h
        | 10, _ => exact h
      · intro w1 w2 hb h
        exact h.grow hb
      · exact M.grow ((Up.refl _).drew)
      · rintro i o hi ho av wv fr gM dep
        match i, hi with
        | 0, _ =>
          obtain rfl := Option.some.inj ho
          refine g_none rfl rfl ?_
          exact st_mov rfl (fr.eval rfl) rfl
        | 1, _ =>
          obtain rfl := Option.some.inj ho
          refine g_none rfl rfl ?_
          exact st_len rfl (dep ⟨0, .data⟩ (by simp) rfl) rfl
        | 2, _ =>
          obtain rfl := Option.some.inj ho
          refine g_none rfl rfl ?_
          exact st_bin rfl (dep ⟨1, .data⟩ (by simp) rfl) (rfl) (bin_gtrI _ _ _ (decide_eq_false (by omega)) _ _ _) rfl
        | 3, _ =>
          obtain rfl := Option.some.inj ho
          refine g_none rfl rfl ?_
          exact st_mov rfl (dep ⟨2, .data⟩ (by simp) rfl) rfl
        | 4, _ =>
          obtain rfl := Option.some.inj ho
          refine g_yes rfl rfl (dep ⟨3, .guard⟩ (by simp) rfl) ?_
          exact st_fld rfl Try.underlying43 rfl (fr.eval rfl) 9 rfl (by kernel_rfl) rfl
        | 5, _ =>
          obtain rfl := Option.some.inj ho
          refine g_yes rfl rfl (dep ⟨3, .guard⟩ (by simp) rfl) ?_
          exact st_load1G gM rfl (dep ⟨4, .data⟩ (by simp) rfl) (hasC_9 _ _ _ HL.out) rfl
        | 6, _ =>
          obtain rfl := Option.some.inj ho
          refine g_yes rfl rfl (dep ⟨3, .guard⟩ (by simp) rfl) ?_
          exact st_mov rfl (fr.eval rfl) rfl
        | 7, _ =>
          obtain rfl := Option.some.inj ho
          refine g_yes rfl rfl (dep ⟨3, .guard⟩ (by simp) rfl) ?_
          have d0 := dep ⟨6, .data⟩ (by simp) rfl
          exact st_ret1 rfl (fun _ _ => by kernel_rfl) d0 (sizeByte_c _ _ _ _) (fun r w' h _ => h)
        | 8, _ =>
          obtain rfl := Option.some.inj ho
          refine g_yes rfl rfl (dep ⟨3, .guard⟩ (by simp) rfl) ?_
          exact st_bin rfl (dep ⟨5, .data⟩ (by simp) rfl) (dep ⟨7, .data⟩ (by simp) rfl) (bin_add64 _ _ _ (i64_in_ _ (by omega)) _ _ _) rfl
        | 9, _ =>
          obtain rfl := Option.some.inj ho
          refine g_yes rfl rfl (dep ⟨3, .guard⟩ (by simp) rfl) ?_
          exact st_bin rfl (dep ⟨8, .data⟩ (by simp) rfl) (rfl) (bin_gtr64 _ _ _ HC.out _ _ _) rfl
        | 10, _ =>
          obtain rfl := Option.some.inj ho
          refine g_none rfl rfl ?_
          exact st_pick rfl (dep ⟨3, .data⟩ (by simp) rfl) (rfl) (dep ⟨9, .data⟩ (by simp) rfl) rfl
      · rintro vs wv gM hf
        have f0 : vs 0 = .slice bd k capd := hf 0 (by omega)
        have f1 : vs 1 = .int .i64 (k : Int) := hf 1 (by omega)
        have f2 : vs 2 = .bool false := hf 2 (by omega)
        have f3 : vs 3 = .bool false := hf 3 (by omega)
        have f4 : vs 4 = .pointer (some ⟨g2, 9, none⟩) := hf 4 (by omega)
        have f5 : vs 5 = .int .i64 (q : Int) := hf 5 (by omega)
        have f6 : vs 6 = .slice bd k capd := hf 6 (by omega)
        have f7 : vs 7 = .int .i64 (k : Int) := hf 7 (by omega)
        have f8 : vs 8 = .int .i64 ((q : Int) + (k : Int)) := hf 8 (by omega)
        have f9 : vs 9 = .bool c := hf 9 (by omega)
        have f10 : vs 10 = .bool c := hf 10 (by omega)
        simp only [putAll, Act.put, List.getElem?_toArray, List.getElem?_cons_zero, List.getElem?_cons_succ, Option.bind_some, List.setIfInBounds_toArray, List.set_cons_zero, List.set_cons_succ, List.drop_succ_cons, List.drop_zero, List.drop_nil, f10]
        clear f0 f1 f2 f3 f4 f5 f6 f7 f8 f9 f10 hf
        have M := gM
        cases c with
        | true =>
          have HE := Lib.hid (HE1.out rfl)
          go_wp2_with (first
            | (with_reducible (show wpList _ _ _ (Oper.mk (some 2) (.box _ _) _ _ _ _ :: _) _ _); (first | (refine m_boxA M rfl rfl rfl ?_) | (refine m_box1 (v := Value.int _ _) M rfl rfl rfl rfl ?_) | (refine m_box1 (v := Value.slice _ _ _) M rfl rfl rfl rfl ?_) | (refine m_box1 (v := Value.bool _) M rfl rfl rfl rfl ?_) | (refine m_box1 (v := Value.string _) M rfl rfl rfl rfl ?_) | (refine m_box1 (v := Value.pointer _) M rfl rfl rfl rfl ?_)); clear M; (try clear wx); intro g2 wx M)
            | (with_reducible (show wpList _ _ _ (Oper.mk (some 4) (.alloc _) _ _ _ _ :: _) _ _); refine mem_new M rfl rfl ?_; clear M; (try clear wx); intro g4 wx M)
            | (with_reducible (show wpList _ _ _ (Oper.mk _ (.load _ _) _ _ _ _ :: _) _ _); (first | (refine m_load M rfl rfl rfl (by first | assumption | rfl) ?_) | (refine m_loadR M rfl rfl rfl (by first | exact HSZ.out _ HL.out _ _ | exact hasC_size _ _ _ rfl | rfl | assumption | (simp; done) | (simp; omega)) ?_)))
            | (with_reducible (show wpList _ _ _ (Oper.mk _ (.store _ _ _) _ _ _ _ :: _) _ _); (first | (refine m_storeR M rfl rfl rfl rfl (by first | exact HSZ.out _ HL.out _ _ | exact hasC_size _ _ _ rfl | rfl | assumption | (simp; done) | (simp; omega)) (by first | exact HSZ.out _ HL.out _ _ | exact hasC_size _ _ _ rfl | rfl | assumption | (simp; done) | (simp; omega)) (by first | exact hasC_one _ _ _ rfl | exact bA_one _ | exact wA_one _ | assumption) ?_) | (refine m_store (v := Value.int _ _) M rfl rfl rfl rfl rfl (by first | assumption | (simp; done) | (simp; omega)) ?_) | (refine m_store (v := Value.slice _ _ _) M rfl rfl rfl rfl rfl (by first | assumption | (simp; done) | (simp; omega)) ?_) | (refine m_store (v := Value.bool _) M rfl rfl rfl rfl rfl (by first | assumption | (simp; done) | (simp; omega)) ?_) | (refine m_store (v := Value.string _) M rfl rfl rfl rfl rfl (by first | assumption | (simp; done) | (simp; omega)) ?_) | (refine m_store (v := Value.pointer _) M rfl rfl rfl rfl rfl (by first | assumption | (simp; done) | (simp; omega)) ?_)); clear M; (try clear wx); intro wx M; simp only [List.set_cons_zero, List.set_cons_succ, Nat.zero_add, List.nil_append] at M)
            | (with_reducible (show wpList _ _ _ (Oper.mk _ (.build _ _) _ _ _ _ :: _) _ _); refine m_buildZ rfl rfl ?_))
          exact m_ret2 M rfl rfl rfl (hasC_size _ _ _ rfl) (by rw [HE.out]; exact ⟨_, _, rfl, (M.nil_own 5 1).out_own (p := 0) rfl⟩)
        | false =>
          have HE := Lib.hid (HE2.out rfl)
          clear HE1 HE2
          go_wp2_with (first
            | (with_reducible (show wpList _ _ _ (Oper.mk (some 30) (.buildSlice _ _ _) _ _ _ _ :: _) _ _); refine m_lit2 (v0 := Value.slice _ _ _) (v1 := Value.slice _ _ _) M rfl rfl rfl rfl rfl rfl ?_; clear M; (try clear wx); intro gl wx M)
            | (with_reducible (show wpList _ _ _ (Oper.mk (some 2) (.box _ _) _ _ _ _ :: _) _ _); (first | (refine m_boxA M rfl rfl rfl ?_) | (refine m_box1 (v := Value.int _ _) M rfl rfl rfl rfl ?_) | (refine m_box1 (v := Value.slice _ _ _) M rfl rfl rfl rfl ?_) | (refine m_box1 (v := Value.bool _) M rfl rfl rfl rfl ?_) | (refine m_box1 (v := Value.string _) M rfl rfl rfl rfl ?_) | (refine m_box1 (v := Value.pointer _) M rfl rfl rfl rfl ?_)); clear M; (try clear wx); intro g2 wx M)
            | (with_reducible (show wpList _ _ _ (Oper.mk (some 4) (.alloc _) _ _ _ _ :: _) _ _); refine mem_new M rfl rfl ?_; clear M; (try clear wx); intro g4 wx M)
            | (with_reducible (show wpList _ _ _ (Oper.mk _ (.load _ _) _ _ _ _ :: _) _ _); (first | (refine m_load M rfl rfl rfl (hasC_8 _ _ _ HL.out) ?_) | (refine m_load M rfl rfl rfl (by first | assumption | rfl) ?_) | (refine m_loadR M rfl rfl rfl (by first | exact HSZ.out _ HL.out _ _ | exact hasC_size _ _ _ rfl | rfl | assumption | (simp; done) | (simp; omega)) ?_)))
            | (with_reducible (show wpList _ _ _ (Oper.mk _ (.store _ _ _) _ _ _ _ :: _) _ _); (first | (refine m_storeR M rfl rfl rfl rfl (by first | exact HSZ.out _ HL.out _ _ | exact hasC_size _ _ _ rfl | rfl | assumption | (simp; done) | (simp; omega)) (by first | exact HSZ.out _ HL.out _ _ | exact hasC_size _ _ _ rfl | rfl | assumption | (simp; done) | (simp; omega)) (by first | exact hasC_one _ _ _ rfl | exact bA_one _ | exact wA_one _ | assumption) ?_) | (refine m_store (v := Value.int _ _) M rfl rfl rfl rfl rfl (by first | assumption | (simp; done) | (simp; omega)) ?_) | (refine m_store (v := Value.slice _ _ _) M rfl rfl rfl rfl rfl (by first | assumption | (simp; done) | (simp; omega)) ?_) | (refine m_store (v := Value.bool _) M rfl rfl rfl rfl rfl (by first | assumption | (simp; done) | (simp; omega)) ?_) | (refine m_store (v := Value.string _) M rfl rfl rfl rfl rfl (by first | assumption | (simp; done) | (simp; omega)) ?_) | (refine m_store (v := Value.pointer _) M rfl rfl rfl rfl rfl (by first | assumption | (simp; done) | (simp; omega)) ?_)); clear M; (try clear wx); intro wx M; simp only [List.set_cons_zero, List.set_cons_succ, Nat.zero_add, List.nil_append] at M)
            | (with_reducible (show wpList _ _ _ (Oper.mk _ (.build _ _) _ _ _ _ :: _) _ _); refine m_buildZ rfl rfl ?_))
          refine mem_callO M (concat2_c l d M HM.out.1.symm HM.out.2.symm (HV.out.up M.up) (HVD.out.up M.up) (by rw [HM.out.1, HM.out.2]; omega)) ?_
          have hel : (l ++ d).length ≤ 2100000 := by rw [List.length_append, HM.out.1, HM.out.2]; omega
          generalize l ++ d = e at *
          clear M
          intro b13 cap13 wx M
          go_wp2_with fail
          refine Calls.mono (blocks_c _ e _ M.rdB (by omega)) ?_
          rintro e' wy ⟨r, rfl, ⟨bb, cb, bh, ch, rfl, ho, hr⟩, hb⟩
          have M := M.addO hb ho
          have hr := hr.up hb
          clear ho hb
          have HD : Hid ((e.drop (32 * (e.length / 32))).length = e.length - 32 * (e.length / 32)) := Lib.hid (by rw [List.length_drop])
          have hS := mixKs_len s HL.out (blkK e (e.length / 32))
          have HMX : Hid (∀ v w, Rd w 32 v (e.length / 32) (kyL (blkK e (e.length / 32))) → Ret Try.prog 67 #[.agg (wA s), v] w fun r _ => r = .agg (wA (mixKs s (blkK e (e.length / 32))))) := Lib.hid (fun v w h => mixed_c s HL.out v _ (blkK e (e.length / 32)) (blkK_len _ _) w (by omega) h)
          generalize mixKs s (blkK e (e.length / 32)) = S at *
          generalize blkK e (e.length / 32) = K0 at *
          generalize e.drop (32 * (e.length / 32)) = l2 at *
          have hnh : e.length - 32 * (e.length / 32) ≤ 1000000 := by omega
          generalize e.length - 32 * (e.length / 32) = nh at *
          generalize e.length / 32 = nb at *
          go_wp2_with fail
          refine region_mono (m := 12) mixedOrders_ (by kernel_rfl) (by kernel_rfl)
            (fun | 0 => fun vq _ => vq = .pointer (some ⟨g2, 0, none⟩) | 1 => fun vq _ => vq = .agg (wA s) | 2 => fun vq _ => vq = .slice bb nb cb | 3 => fun vq _ => vq = .agg (wA S) | 4 => fun vq _ => vq = .slice bh nh ch | 5 => fun v wx => OwnFr w [.own bb cb 22 32 nb (kyL K0), .own b13 cap13 5 1 e.length (bL e), .blk gl 30 #[.slice b m cap, .slice bd k capd], .blk g4 43 (hasC zero8 (.slice none 0 0) 0), .blk g2 43 (hasC s (.slice b m cap) (q : Int))] 5 1 nh (bL l2) v wx | 6 => fun vq _ => vq = .pointer (some ⟨g2, 9, none⟩) | 7 => fun vq _ => vq = .int .i64 (q : Int) | 8 => fun vq _ => vq = .slice bd k capd | 9 => fun vq _ => vq = .int .i64 (k : Int) | 10 => fun vq _ => vq = .int .i64 ((q : Int) + (k : Int)) | 11 => fun v wx => ∃ b9 c9, v = .agg (hasC S (.slice b9 nh c9) ((q : Int) + (k : Int))) ∧ OwnFr w [.own bb cb 22 32 nb (kyL K0), .own b13 cap13 5 1 e.length (bL e), .blk gl 30 #[.slice b m cap, .slice bd k capd], .blk g4 43 (hasC zero8 (.slice none 0 0) 0), .blk g2 43 (hasC s (.slice b m cap) (q : Int))] 5 1 nh (bL l2) (.slice b9 nh c9) wx | _ => fun _ _ => True)
            (fun wx => Mem w wx [.own bb cb 22 32 nb (kyL K0), .own b13 cap13 5 1 e.length (bL e), .blk gl 30 #[.slice b m cap, .slice bd k capd], .blk g4 43 (hasC zero8 (.slice none 0 0) 0), .blk g2 43 (hasC s (.slice b m cap) (q : Int))] ∧ Rd wx 1 (.slice bh nh ch) nh (bL l2)) ?_ ?_ ?_ ?_ ?_
          · intro j hj v w1 w2 hb h
            match j, hj with
            | 0, _ => exact h
            | 1, _ => exact h
            | 2, _ => exact h
            | 3, _ => exact h
            | 4, _ => exact h
            | 5, _ => exact h.up hb
            | 6, _ => exact h
            | 7, _ => exact h
            | 8, _ => exact h
            | 9, _ => exact h
            | 10, _ => exact h
            | 11, _ => exact (let ⟨b9, c9, e, h⟩ := h; ⟨b9, c9, e, h.up hb⟩)
          · rintro w1 w2 hb ⟨h, gX⟩
            exact ⟨h.grow hb, gX.up hb⟩
          · exact ⟨M.grow ((Up.refl _).drew), hr.up ((Up.refl _).drew)⟩
          · rintro i o hi ho av wv fr ⟨gM, gX⟩ dep
            match i, hi with
            | 0, _ =>
              obtain rfl := Option.some.inj ho
              exact st_fld rfl Try.underlying43 rfl (fr.eval rfl) 0 rfl (by kernel_rfl) rfl
            | 1, _ =>
              obtain rfl := Option.some.inj ho
              exact st_loadPG gM rfl (dep ⟨0, .data⟩ (by simp) rfl) (hasC_pre _ _ _) (by rw [List.length_map]; exact HL.out) rfl
            | 2, _ =>
              obtain rfl := Option.some.inj ho
              exact st_mov rfl (fr.eval rfl) rfl
            | 3, _ =>
              obtain rfl := Option.some.inj ho
              have d0 := dep ⟨1, .data⟩ (by simp) rfl
              have d1 := dep ⟨2, .data⟩ (by simp) rfl
              exact st_ret2 rfl (fun _ _ => by kernel_rfl) d0 d1 (HMX.out _ _ (gM.rdO (kyL_one _))) (fun r w' h _ => h)
            | 4, _ =>
              obtain rfl := Option.some.inj ho
              exact st_mov rfl (fr.eval rfl) rfl
            | 5, _ =>
              obtain rfl := Option.some.inj ho
              exact st_ret1 rfl (fun _ _ => by kernel_rfl) (dep ⟨4, .data⟩ (by simp) rfl) (cloneB_c _ nh l2 HD.out _ gX (by omega)) (fun r w' h _ => OwnFr.of gM h)
            | 6, _ =>
              obtain rfl := Option.some.inj ho
              exact st_fld rfl Try.underlying43 rfl (fr.eval rfl) 9 rfl (by kernel_rfl) rfl
            | 7, _ =>
              obtain rfl := Option.some.inj ho
              exact st_load1G gM rfl (dep ⟨6, .data⟩ (by simp) rfl) (hasC_9 _ _ _ HL.out) rfl
            | 8, _ =>
              obtain rfl := Option.some.inj ho
              exact st_mov rfl (fr.eval rfl) rfl
            | 9, _ =>
              obtain rfl := Option.some.inj ho
              have d0 := dep ⟨8, .data⟩ (by simp) rfl
              exact st_ret1 rfl (fun _ _ => by kernel_rfl) d0 (sizeByte_c _ _ _ _) (fun r w' h _ => h)
            | 10, _ =>
              obtain rfl := Option.some.inj ho
              exact st_bin rfl (dep ⟨7, .data⟩ (by simp) rfl) (dep ⟨9, .data⟩ (by simp) rfl) (bin_add64 _ _ _ (i64_in_ _ (by omega)) _ _ _) rfl
            | 11, _ =>
              obtain rfl := Option.some.inj ho
              obtain ⟨b9, c9, e9, ho, hap⟩ := dep ⟨5, .data⟩ (by simp) rfl
              exact st_build3 rfl (dep ⟨3, .data⟩ (by simp) rfl) e9 (dep ⟨10, .data⟩ (by simp) rfl) (built012 S hS b9 nh c9 _) ⟨b9, c9, rfl, b9, c9, rfl, ho, hap⟩
          · rintro vs wv ⟨gM, gX⟩ hf
            have f0 : vs 0 = .pointer (some ⟨g2, 0, none⟩) := hf 0 (by omega)
            have f1 : vs 1 = .agg (wA s) := hf 1 (by omega)
            have f2 : vs 2 = .slice bb nb cb := hf 2 (by omega)
            have f3 : vs 3 = .agg (wA S) := hf 3 (by omega)
            have f4 : vs 4 = .slice bh nh ch := hf 4 (by omega)
            have f5 := hf 5 (by omega)
            have f6 : vs 6 = .pointer (some ⟨g2, 9, none⟩) := hf 6 (by omega)
            have f7 : vs 7 = .int .i64 (q : Int) := hf 7 (by omega)
            have f8 : vs 8 = .slice bd k capd := hf 8 (by omega)
            have f9 : vs 9 = .int .i64 (k : Int) := hf 9 (by omega)
            have f10 : vs 10 = .int .i64 ((q : Int) + (k : Int)) := hf 10 (by omega)
            have f11 := hf 11 (by omega)
            obtain ⟨b9, c9, e11, hown⟩ := f11
            obtain ⟨b10, c10, e10, M⟩ := gM.ownFr hown
            injection e10 with h1 h2 h3
            subst h1 h3
            simp only [putAll, Act.put, List.getElem?_toArray, List.getElem?_cons_zero, List.getElem?_cons_succ, Option.bind_some, List.setIfInBounds_toArray, List.set_cons_zero, List.set_cons_succ, List.drop_succ_cons, List.drop_zero, List.drop_nil, e11]
            clear f0 f1 f2 f3 f4 f5 f6 f7 f8 f9 f10 e11 hown hf gM gX
            go_wp2_with (first
              | (with_reducible (show wpList _ _ _ (Oper.mk (some 2) (.box _ _) _ _ _ _ :: _) _ _); (first | (refine m_boxA M rfl rfl rfl ?_) | (refine m_box1 (v := Value.int _ _) M rfl rfl rfl rfl ?_) | (refine m_box1 (v := Value.slice _ _ _) M rfl rfl rfl rfl ?_) | (refine m_box1 (v := Value.bool _) M rfl rfl rfl rfl ?_) | (refine m_box1 (v := Value.string _) M rfl rfl rfl rfl ?_) | (refine m_box1 (v := Value.pointer _) M rfl rfl rfl rfl ?_)); clear M; (try clear wx); intro g2 wx M)
              | (with_reducible (show wpList _ _ _ (Oper.mk (some 4) (.alloc _) _ _ _ _ :: _) _ _); refine mem_new M rfl rfl ?_; clear M; (try clear wx); intro g4 wx M)
              | (with_reducible (show wpList _ _ _ (Oper.mk _ (.load _ _) _ _ _ _ :: _) _ _); (first | (refine m_load M rfl rfl rfl (by first | assumption | rfl) ?_) | (refine m_loadR M rfl rfl rfl (by first | exact hasC_size _ _ _ hS | exact hasC_size _ _ _ rfl | rfl | assumption | (simp; done) | (simp; omega)) ?_)))
              | (with_reducible (show wpList _ _ _ (Oper.mk _ (.store _ _ _) _ _ _ _ :: _) _ _); (first | (refine m_storeR M rfl rfl rfl rfl (by first | exact hasC_size _ _ _ hS | exact hasC_size _ _ _ rfl | rfl | assumption | (simp; done) | (simp; omega)) (by first | exact hasC_size _ _ _ hS | exact hasC_size _ _ _ rfl | rfl | assumption | (simp; done) | (simp; omega)) (by first | exact hasC_one _ _ _ rfl | exact bA_one _ | exact wA_one _ | assumption) ?_) | (refine m_store (v := Value.int _ _) M rfl rfl rfl rfl rfl (by first | assumption | (simp; done) | (simp; omega)) ?_) | (refine m_store (v := Value.slice _ _ _) M rfl rfl rfl rfl rfl (by first | assumption | (simp; done) | (simp; omega)) ?_) | (refine m_store (v := Value.bool _) M rfl rfl rfl rfl rfl (by first | assumption | (simp; done) | (simp; omega)) ?_) | (refine m_store (v := Value.string _) M rfl rfl rfl rfl rfl (by first | assumption | (simp; done) | (simp; omega)) ?_) | (refine m_store (v := Value.pointer _) M rfl rfl rfl rfl rfl (by first | assumption | (simp; done) | (simp; omega)) ?_)); clear M; (try clear wx); intro wx M; simp only [List.set_cons_zero, List.set_cons_succ, Nat.zero_add, List.nil_append] at M)
              | (with_reducible (show wpList _ _ _ (Oper.mk _ (.build _ _) _ _ _ _ :: _) _ _); refine m_buildZ rfl rfl ?_))
            exact m_ret2 M rfl rfl rfl (hasC_size _ _ _ hS) (by rw [HE.out]; show HasR2 _ _ _ _ S l2.length _ (bL l2) _; rw [HD.out]; exact ⟨_, _, rfl, M.out_own (p := 0) rfl⟩)
  · have HE := Lib.hid (show fdT s l n d = ⟨zero8, 0, [], 1⟩ by rw [fdT, hm, if_pos (by simpa using hok)])
    rw [Bool.not_eq_true] at hok
    rw [hok] at HO
    clear hok hm hk
    go_enter Try.func30, Try.ntmps30
    go_wp2_with (first
      | (go_at_call 64; (with_reducible refine mem_call M (HO.out _) ?_); clear M; (try clear wx); rintro _ wx rfl _ M)
      | (with_reducible (show wpList _ _ _ (Oper.mk (some 2) (.box _ _) _ _ _ _ :: _) _ _); (first | (refine m_boxA M rfl rfl rfl ?_) | (refine m_box1 (v := Value.int _ _) M rfl rfl rfl rfl ?_) | (refine m_box1 (v := Value.slice _ _ _) M rfl rfl rfl rfl ?_) | (refine m_box1 (v := Value.bool _) M rfl rfl rfl rfl ?_) | (refine m_box1 (v := Value.string _) M rfl rfl rfl rfl ?_) | (refine m_box1 (v := Value.pointer _) M rfl rfl rfl rfl ?_)); clear M; (try clear wx); intro g2 wx M)
      | (with_reducible (show wpList _ _ _ (Oper.mk (some 4) (.alloc _) _ _ _ _ :: _) _ _); refine mem_new M rfl rfl ?_; clear M; (try clear wx); intro g4 wx M)
      | (with_reducible (show wpList _ _ _ (Oper.mk _ (.load _ _) _ _ _ _ :: _) _ _); (first | (refine m_load M rfl rfl rfl (by first | assumption | rfl) ?_) | (refine m_loadR M rfl rfl rfl (by first | exact HSZ.out _ HL.out _ _ | exact hasC_size _ _ _ rfl | rfl | assumption | (simp; done) | (simp; omega)) ?_)))
      | (with_reducible (show wpList _ _ _ (Oper.mk _ (.store _ _ _) _ _ _ _ :: _) _ _); (first | (refine m_storeR M rfl rfl rfl rfl (by first | exact HSZ.out _ HL.out _ _ | exact hasC_size _ _ _ rfl | rfl | assumption | (simp; done) | (simp; omega)) (by first | exact HSZ.out _ HL.out _ _ | exact hasC_size _ _ _ rfl | rfl | assumption | (simp; done) | (simp; omega)) (by first | exact hasC_one _ _ _ rfl | exact bA_one _ | exact wA_one _ | assumption) ?_) | (refine m_store (v := Value.int _ _) M rfl rfl rfl rfl rfl (by first | assumption | (simp; done) | (simp; omega)) ?_) | (refine m_store (v := Value.slice _ _ _) M rfl rfl rfl rfl rfl (by first | assumption | (simp; done) | (simp; omega)) ?_) | (refine m_store (v := Value.bool _) M rfl rfl rfl rfl rfl (by first | assumption | (simp; done) | (simp; omega)) ?_) | (refine m_store (v := Value.string _) M rfl rfl rfl rfl rfl (by first | assumption | (simp; done) | (simp; omega)) ?_) | (refine m_store (v := Value.pointer _) M rfl rfl rfl rfl rfl (by first | assumption | (simp; done) | (simp; omega)) ?_)); clear M; (try clear wx); intro wx M; simp only [List.set_cons_zero, List.set_cons_succ, Nat.zero_add, List.nil_append] at M)
      | (with_reducible (show wpList _ _ _ (Oper.mk _ (.build _ _) _ _ _ _ :: _) _ _); refine m_buildZ rfl rfl ?_))
    exact m_ret2 M rfl rfl rfl (hasC_size _ _ _ rfl) (by rw [HE.out]; exact ⟨_, _, rfl, (M.nil_own 5 1).out_own (p := 0) rfl⟩)

end Go.Proofs.Ytgofolmekgjkjaa

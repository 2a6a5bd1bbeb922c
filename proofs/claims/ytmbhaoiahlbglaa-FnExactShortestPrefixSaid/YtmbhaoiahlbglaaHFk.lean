/- Walks: withPrefix, FindKey and its law. -/
import Derived.Test.YtmbhaoiahlbglaaHDf
namespace Go.Proofs.Ytmbhaoiahlbglaa
open Go.RowKit
set_option linter.unusedVariables false
set_option linter.unusedSimpArgs false

/-- The keys that begin so, each once. -/
def wpK (pre : List UInt8) (ks : List Ky) : List Ky := (setK ks).filter (pk pre)
theorem wpK_len (pre : List UInt8) (ks : List Ky) : (wpK pre ks).length ≤ ks.length := Nat.le_trans (List.length_filter_le _ _) (setK_len ks)
set_option maxHeartbeats 1000000 in
set_option maxRecDepth 100000 in
theorem withPrefix_c (s : ByteArray) (v : Value) (n : Nat) (ks : List Ky) (hks : ks.length = n) (w : World) (hv : Rd w 32 v n (kyL ks)) (hn : n ≤ 1048576) :
    Ret Try.prog 81 #[v, .string s] w fun r w' => OwnR w w' 25 32 r (wpK s.data.toList ks).length (kyL (wpK s.data.toList ks)) := by
  obtain ⟨b, cap, rfl⟩ := hv.shape
  have HV := Lib.hid hv
  have HK := Lib.hid hks
  have hsl := setK_len ks
  rw [hks] at hsl
  unfold wpK
  refine ret_start fun wx M => ?_
  clear hv hks
  have HS : Hid (∀ v w, Rd w 32 v n (kyL ks) → Ret Try.prog 83 #[v] w fun r w' => OwnR w w' 25 32 r (setK ks).length (kyL (setK ks))) := Lib.hid (fun v w h => sorted_c v n ks HK.out w h hn)
  generalize setK ks = q at *
  obtain ⟨d, hd⟩ : ∃ d, q.length = d := ⟨_, rfl⟩
  rw [hd] at HS hsl
  have HD := Lib.hid hd
  clear hd
  go_enter Try.func81, Try.ntmps81
  go_wp2_with (first
    | (go_at_call 83; (with_reducible refine mem_callO M (HS.out _ _ (HV.out.up M.up)) ?_); clear M; (try clear wx); intro bz cz wx M)
    | (go_at_call 118; (with_reducible refine Calls.mono (deleteKey_c g3 s _ _ d q HD.out (by omega) _ _ _ M (Lib.hid (fun w' M => M.blkG g3))) ?_); clear M; (try clear wx); rintro _ wx ⟨rfl, M⟩)
    | (with_reducible (show wpList _ _ _ (Oper.mk (some 3) (.box _ _) _ _ _ _ :: _) _ _); (first | (refine m_boxA M rfl rfl rfl ?_) | (refine m_box1 (v := Value.int _ _) M rfl rfl rfl rfl ?_) | (refine m_box1 (v := Value.slice _ _ _) M rfl rfl rfl rfl ?_) | (refine m_box1 (v := Value.bool _) M rfl rfl rfl rfl ?_) | (refine m_box1 (v := Value.string _) M rfl rfl rfl rfl ?_) | (refine m_box1 (v := Value.pointer _) M rfl rfl rfl rfl ?_)); clear M; (try clear wx); intro g3 wx M))
  go_ret
  exact ⟨_, rfl, ⟨_, _, rfl, M.out_own (p := 0) rfl⟩, M.up⟩

def fkT (ks : List Ky) (pre : List UInt8) : Ky × Int := if 256 < ks.length then (zeroKy, 3) else if 64 < pre.length then (zeroKy, 5) else if allHex pre = false then (zeroKy, 5) else if (wpK pre ks).length = 0 then (zeroKy, 6) else if (wpK pre ks).length = 1 then ((wpK pre ks).headD zeroKy, 0) else (zeroKy, 4)
theorem wpK_mem (pre : List UInt8) (ks : List Ky) (k : Ky) : k ∈ wpK pre ks ↔ k ∈ ks.filter (pk pre) := by
  simp only [wpK, List.mem_filter, (setK_set ks).2 k]
theorem wpK_nodup (pre : List UInt8) (ks : List Ky) : (wpK pre ks).Nodup :=
  List.Pairwise.filter _ ((setK_set ks).1.imp (fun {x y} h e => by subst e; rw [swoK.irrefl] at h; cases h))
/-- The reference's search under way. -/
def FkI (pre : List UInt8) (l : List Ky) (f : Ky) (c : Int) : Prop := (l.filter (pk pre) = [] ∧ f = zeroKy ∧ c = 6) ∨ (f ∈ l.filter (pk pre) ∧ (∀ y ∈ l.filter (pk pre), y = f) ∧ c = 0)
theorem FkI.start (pre : List UInt8) : FkI pre [] zeroKy 6 := .inl ⟨rfl, rfl, rfl⟩
theorem FkI.skip {pre : List UInt8} {l : List Ky} {f x : Ky} {c : Int} (h : FkI pre l f c) (hx : pk pre x = false) : FkI pre (l ++ [x]) f c := by
  unfold FkI
  rw [List.filter_append, show [x].filter (pk pre) = [] by simp [hx], List.append_nil]
  exact h
theorem FkI.first {pre : List UInt8} {l : List Ky} {f x : Ky} (h : FkI pre l f 6) (hx : pk pre x = true) : FkI pre (l ++ [x]) x 0 := by
  rcases h with ⟨h1, h2, h3⟩ | ⟨h1, h2, h3⟩
  · refine .inr ?_
    rw [List.filter_append, h1, show [x].filter (pk pre) = [x] by simp [hx]]
    simp
  · cases h3
theorem FkI.again {pre : List UInt8} {l : List Ky} {x : Ky} (h : FkI pre l x 0) (hx : pk pre x = true) : FkI pre (l ++ [x]) x 0 := by
  rcases h with ⟨h1, h2, h3⟩ | ⟨h1, h2, h3⟩
  · cases h3
  · refine .inr ?_
    rw [List.filter_append, show [x].filter (pk pre) = [x] by simp [hx]]
    refine ⟨by simp, fun y hy => ?_, rfl⟩
    rcases List.mem_append.1 hy with hy | hy
    · exact h2 y hy
    · simpa using hy
theorem FkI.cases {pre : List UInt8} {l : List Ky} {f : Ky} {c : Int} (h : FkI pre l f c) : c = 6 ∨ c = 0 := by
  rcases h with ⟨_, _, h⟩ | ⟨_, _, h⟩
  · exact .inl h
  · exact .inr h
/-- Two keys that are not one. -/
theorem fk_two {pre : List UInt8} {ks : List Ky} {j : Nat} {f x : Ky} (h : FkI pre (ks.take j) f 0) (hj : j < ks.length) (hx : ks[j] = x) (hp : pk pre x = true) (hne : x ≠ f) (hl : ¬ 256 < ks.length) (hm : ¬ 64 < pre.length) (ha : allHex pre = true) : fkT ks pre = (zeroKy, 4) := by
  rcases h with ⟨_, _, h3⟩ | ⟨h1, h2, _⟩
  · cases h3
  · have hf : f ∈ wpK pre ks := by
      rw [wpK_mem]
      exact List.mem_filter.2 ⟨List.mem_of_mem_take (List.mem_filter.1 h1).1, (List.mem_filter.1 h1).2⟩
    have hx' : x ∈ wpK pre ks := by
      rw [wpK_mem]
      exact List.mem_filter.2 ⟨hx ▸ List.getElem_mem hj, hp⟩
    have : 2 ≤ (wpK pre ks).length := by
      generalize wpK pre ks = q at *
      match q, hf, hx' with
      | [], h, _ => simp at h
      | [a], h1, h2 =>
        simp at h1 h2
        exact absurd (h2.trans h1.symm) hne
      | _ :: _ :: _, _, _ => simp
    rw [fkT, if_neg hl, if_neg hm, if_neg (by rw [ha]; decide), if_neg (by omega), if_neg (by omega)]
theorem fk_end {pre : List UInt8} {ks : List Ky} {f : Ky} {c : Int} (h : FkI pre ks f c) (hl : ¬ 256 < ks.length) (hm : ¬ 64 < pre.length) (ha : allHex pre = true) : fkT ks pre = (f, c) := by
  rw [fkT, if_neg hl, if_neg hm, if_neg (by rw [ha]; decide)]
  rcases h with ⟨h1, rfl, rfl⟩ | ⟨h1, h2, rfl⟩
  · have : wpK pre ks = [] := List.eq_nil_iff_forall_not_mem.2 fun k hk => by rw [wpK_mem, h1] at hk; simp at hk
    rw [if_pos (by rw [this]; rfl)]
  · have hf : f ∈ wpK pre ks := by rw [wpK_mem]; exact h1
    have ho : ∀ y ∈ wpK pre ks, y = f := fun y hy => by rw [wpK_mem] at hy; exact h2 y hy
    have hn := wpK_nodup pre ks
    generalize wpK pre ks = q at *
    match q, hf, ho, hn with
    | [], h, _, _ => simp at h
    | [a], h1, h2, _ =>
      have := h2 a (by simp)
      subst this
      rfl
    | a :: b :: _, _, h2, hn =>
      have e1 := h2 a (by simp)
      have e2 := h2 b (by simp)
      rw [e1, e2] at hn
      simp at hn

set_option maxHeartbeats 2000000 in
set_option maxRecDepth 100000 in
theorem implFindKey_c (s : ByteArray) (v : Value) (n : Nat) (ks : List Ky) (hks : ks.length = n) (w : World) (hv : Rd w 32 v n (kyL ks)) (hn : n ≤ 1048576) (hs : s.size ≤ 1048576) :
    Ret Try.prog 30 #[v, .string s] w fun r _ => r = .tuple #[.agg (bA (fkT ks s.data.toList).1.1), .int .i64 (fkT ks s.data.toList).2] := by
  obtain ⟨b, cap, rfl⟩ := hv.shape
  have HV := Lib.hid hv
  have hsz : s.data.toList.length = s.size := rfl
  refine ret_start fun wx M => ?_
  clear hv
  by_cases hbig : 256 < n
  · have HE := Lib.hid (show fkT ks s.data.toList = (zeroKy, 3) by rw [fkT, if_pos (by omega)])
    clear hks
    go_enter Try.func30, Try.ntmps30
    go_wp2_with (first
      | (with_reducible (show wpList _ _ _ (Oper.mk (some 4) (.alloc _) _ _ _ _ :: _) _ _); refine mem_new M rfl rfl ?_; clear M; (try clear wx); intro g4 wx M)
      | (with_reducible (show wpList _ _ _ (Oper.mk _ (.load _ _) _ _ _ _ :: _) _ _); (first | (refine m_load M rfl rfl rfl (by first | assumption | rfl) ?_) | (refine m_loadR M rfl rfl rfl (by first | rfl | assumption | (simp; done) | (simp; omega)) ?_)))
      | (with_reducible (show wpList _ _ _ (Oper.mk _ (.store _ _ _) _ _ _ _ :: _) _ _); (first | (refine m_storeR M rfl rfl rfl rfl (by first | rfl | assumption | (simp; done) | (simp; omega)) (by first | rfl | assumption | (simp; done) | (simp; omega)) (by first | exact bA_one _ | exact wA_one _ | assumption | (simp [Value.oneCell']; done)) ?_) | (refine m_store (v := Value.int _ _) M rfl rfl rfl rfl rfl (by first | assumption | (simp; done) | (simp; omega)) ?_) | (refine m_store (v := Value.slice _ _ _) M rfl rfl rfl rfl rfl (by first | assumption | (simp; done) | (simp; omega)) ?_) | (refine m_store (v := Value.bool _) M rfl rfl rfl rfl rfl (by first | assumption | (simp; done) | (simp; omega)) ?_) | (refine m_store (v := Value.string _) M rfl rfl rfl rfl rfl (by first | assumption | (simp; done) | (simp; omega)) ?_) | (refine m_store (v := Value.pointer _) M rfl rfl rfl rfl rfl (by first | assumption | (simp; done) | (simp; omega)) ?_)); clear M; (try clear wx); intro wx M; simp only [List.set_cons_zero, List.set_cons_succ, Nat.zero_add, List.nil_append] at M)
      | (with_reducible (show wpList _ _ _ (Oper.mk _ (.build _ _) _ _ _ _ :: _) _ _); refine m_buildZ rfl rfl ?_))
    exact m_ret2 M rfl rfl rfl (by simp) (by rw [HE.out]; rfl)
  · by_cases hm : 64 < s.size
    · have HE := Lib.hid (show fkT ks s.data.toList = (zeroKy, 5) by rw [fkT, if_neg (by omega), if_pos (by omega)])
      have g1 : decide ((64 : Int) < (s.size : Int)) = true := by simp; omega
      clear hks
      go_enter Try.func30, Try.ntmps30
      go_wp2_with (first
        | (with_reducible (show wpList _ _ _ (Oper.mk (some 4) (.alloc _) _ _ _ _ :: _) _ _); refine mem_new M rfl rfl ?_; clear M; (try clear wx); intro g4 wx M)
        | (with_reducible (show wpList _ _ _ (Oper.mk _ (.load _ _) _ _ _ _ :: _) _ _); (first | (refine m_load M rfl rfl rfl (by first | assumption | rfl) ?_) | (refine m_loadR M rfl rfl rfl (by first | rfl | assumption | (simp; done) | (simp; omega)) ?_)))
        | (with_reducible (show wpList _ _ _ (Oper.mk _ (.store _ _ _) _ _ _ _ :: _) _ _); (first | (refine m_storeR M rfl rfl rfl rfl (by first | rfl | assumption | (simp; done) | (simp; omega)) (by first | rfl | assumption | (simp; done) | (simp; omega)) (by first | exact bA_one _ | exact wA_one _ | assumption | (simp [Value.oneCell']; done)) ?_) | (refine m_store (v := Value.int _ _) M rfl rfl rfl rfl rfl (by first | assumption | (simp; done) | (simp; omega)) ?_) | (refine m_store (v := Value.slice _ _ _) M rfl rfl rfl rfl rfl (by first | assumption | (simp; done) | (simp; omega)) ?_) | (refine m_store (v := Value.bool _) M rfl rfl rfl rfl rfl (by first | assumption | (simp; done) | (simp; omega)) ?_) | (refine m_store (v := Value.string _) M rfl rfl rfl rfl rfl (by first | assumption | (simp; done) | (simp; omega)) ?_) | (refine m_store (v := Value.pointer _) M rfl rfl rfl rfl rfl (by first | assumption | (simp; done) | (simp; omega)) ?_)); clear M; (try clear wx); intro wx M; simp only [List.set_cons_zero, List.set_cons_succ, Nat.zero_add, List.nil_append] at M)
        | (with_reducible (show wpList _ _ _ (Oper.mk _ (.build _ _) _ _ _ _ :: _) _ _); refine m_buildZ rfl rfl ?_))
      exact m_ret2 M rfl rfl rfl (by simp) (by rw [HE.out]; rfl)
    · have g1 : decide ((64 : Int) < (s.size : Int)) = false := by simp; omega
      cases ha : allHex s.data.toList with
      | false =>
        have HE := Lib.hid (show fkT ks s.data.toList = (zeroKy, 5) by rw [fkT, if_neg (by omega), if_neg (by omega), if_pos ha])
        have HI := Lib.hid (fun w => isDigits_c s hs w)
        rw [ha] at HI
        clear hks ha
        go_enter Try.func30, Try.ntmps30
        go_wp2_with (first
          | (go_at_call 80; (with_reducible refine mem_call M (Ret.same (HI.out _)) ?_); clear M; (try clear wx); rintro _ wx rfl _ M)
          | (with_reducible (show wpList _ _ _ (Oper.mk (some 4) (.alloc _) _ _ _ _ :: _) _ _); refine mem_new M rfl rfl ?_; clear M; (try clear wx); intro g4 wx M)
          | (with_reducible (show wpList _ _ _ (Oper.mk _ (.load _ _) _ _ _ _ :: _) _ _); (first | (refine m_load M rfl rfl rfl (by first | assumption | rfl) ?_) | (refine m_loadR M rfl rfl rfl (by first | rfl | assumption | (simp; done) | (simp; omega)) ?_)))
          | (with_reducible (show wpList _ _ _ (Oper.mk _ (.store _ _ _) _ _ _ _ :: _) _ _); (first | (refine m_storeR M rfl rfl rfl rfl (by first | rfl | assumption | (simp; done) | (simp; omega)) (by first | rfl | assumption | (simp; done) | (simp; omega)) (by first | exact bA_one _ | exact wA_one _ | assumption | (simp [Value.oneCell']; done)) ?_) | (refine m_store (v := Value.int _ _) M rfl rfl rfl rfl rfl (by first | assumption | (simp; done) | (simp; omega)) ?_) | (refine m_store (v := Value.slice _ _ _) M rfl rfl rfl rfl rfl (by first | assumption | (simp; done) | (simp; omega)) ?_) | (refine m_store (v := Value.bool _) M rfl rfl rfl rfl rfl (by first | assumption | (simp; done) | (simp; omega)) ?_) | (refine m_store (v := Value.string _) M rfl rfl rfl rfl rfl (by first | assumption | (simp; done) | (simp; omega)) ?_) | (refine m_store (v := Value.pointer _) M rfl rfl rfl rfl rfl (by first | assumption | (simp; done) | (simp; omega)) ?_)); clear M; (try clear wx); intro wx M; simp only [List.set_cons_zero, List.set_cons_succ, Nat.zero_add, List.nil_append] at M)
          | (with_reducible (show wpList _ _ _ (Oper.mk _ (.build _ _) _ _ _ _ :: _) _ _); refine m_buildZ rfl rfl ?_))
        exact m_ret2 M rfl rfl rfl (by simp) (by rw [HE.out]; rfl)
      | true =>
        have HI := Lib.hid (fun w => isDigits_c s hs w)
        rw [ha] at HI
        have HW : Hid (∀ v w, Rd w 32 v n (kyL ks) → Ret Try.prog 81 #[v, .string s] w fun r w' => OwnR w w' 25 32 r (wpK s.data.toList ks).length (kyL (wpK s.data.toList ks))) := Lib.hid (fun v w h => withPrefix_c s v n ks hks w h hn)
        have HE := Lib.hid (show fkT ks s.data.toList = if (wpK s.data.toList ks).length = 0 then (zeroKy, 6) else if (wpK s.data.toList ks).length = 1 then ((wpK s.data.toList ks).headD zeroKy, 0) else (zeroKy, 4) by rw [fkT, if_neg (by omega), if_neg (by omega), if_neg (by rw [ha]; decide)])
        have hwl := wpK_len s.data.toList ks
        rw [hks] at hwl
        clear hks ha
        generalize wpK s.data.toList ks = q at *
        rcases q with _ | ⟨x, _ | ⟨y, q⟩⟩
        · -- none
          have HE := Lib.hid (show fkT ks s.data.toList = (zeroKy, 6) from HE.out)
          have HW : Hid (∀ v w, Rd w 32 v n (kyL ks) → Ret Try.prog 81 #[v, .string s] w fun r w' => OwnR w w' 25 32 r 0 []) := HW
          go_enter Try.func30, Try.ntmps30
          go_wp2_with (first
            | (go_at_call 80; (with_reducible refine mem_call M (Ret.same (HI.out _)) ?_); clear M; (try clear wx); rintro _ wx rfl _ M)
            | (go_at_call 81; (with_reducible refine mem_callO M (HW.out _ _ (HV.out.up M.up)) ?_); clear M; (try clear wx); intro bz cz wx M)
            | (with_reducible (show wpList _ _ _ (Oper.mk (some 4) (.alloc _) _ _ _ _ :: _) _ _); refine mem_new M rfl rfl ?_; clear M; (try clear wx); intro g4 wx M)
            | (with_reducible (show wpList _ _ _ (Oper.mk _ (.load _ _) _ _ _ _ :: _) _ _); (first | (refine m_load M rfl rfl rfl (by first | assumption | rfl) ?_) | (refine m_loadR M rfl rfl rfl (by first | rfl | assumption | (simp; done) | (simp; omega)) ?_)))
            | (with_reducible (show wpList _ _ _ (Oper.mk _ (.store _ _ _) _ _ _ _ :: _) _ _); (first | (refine m_storeR M rfl rfl rfl rfl (by first | rfl | assumption | (simp; done) | (simp; omega)) (by first | rfl | assumption | (simp; done) | (simp; omega)) (by first | exact bA_one _ | exact wA_one _ | assumption | (simp [Value.oneCell']; done)) ?_) | (refine m_store (v := Value.int _ _) M rfl rfl rfl rfl rfl (by first | assumption | (simp; done) | (simp; omega)) ?_) | (refine m_store (v := Value.slice _ _ _) M rfl rfl rfl rfl rfl (by first | assumption | (simp; done) | (simp; omega)) ?_) | (refine m_store (v := Value.bool _) M rfl rfl rfl rfl rfl (by first | assumption | (simp; done) | (simp; omega)) ?_) | (refine m_store (v := Value.string _) M rfl rfl rfl rfl rfl (by first | assumption | (simp; done) | (simp; omega)) ?_) | (refine m_store (v := Value.pointer _) M rfl rfl rfl rfl rfl (by first | assumption | (simp; done) | (simp; omega)) ?_)); clear M; (try clear wx); intro wx M; simp only [List.set_cons_zero, List.set_cons_succ, Nat.zero_add, List.nil_append] at M)
            | (with_reducible (show wpList _ _ _ (Oper.mk _ (.build _ _) _ _ _ _ :: _) _ _); refine m_buildZ rfl rfl ?_))
          exact m_ret2 M rfl rfl rfl (by simp) (by rw [HE.out]; rfl)
        · -- one
          have HE := Lib.hid (show fkT ks s.data.toList = (x, 0) from HE.out)
          have HW : Hid (∀ v w, Rd w 32 v n (kyL ks) → Ret Try.prog 81 #[v, .string s] w fun r w' => OwnR w w' 25 32 r 1 (kyL [x])) := HW
          have hx32 := x.2
          go_enter Try.func30, Try.ntmps30
          go_upto_region 10 with (first
            | (go_at_call 80; (with_reducible refine mem_call M (Ret.same (HI.out _)) ?_); clear M; (try clear wx); rintro _ wx rfl _ M)
            | (go_at_call 81; (with_reducible refine mem_callO M (HW.out _ _ (HV.out.up M.up)) ?_); clear M; (try clear wx); intro bz cz wx M)
            | (with_reducible (show wpList _ _ _ (Oper.mk (some 4) (.alloc _) _ _ _ _ :: _) _ _); refine mem_new M rfl rfl ?_; clear M; (try clear wx); intro g4 wx M)
            | (with_reducible (show wpList _ _ _ (Oper.mk _ (.load _ _) _ _ _ _ :: _) _ _); (first | (refine m_load M rfl rfl rfl (by first | assumption | rfl) ?_) | (refine m_loadR M rfl rfl rfl (by first | rfl | assumption | (simp; done) | (simp; omega)) ?_)))
            | (with_reducible (show wpList _ _ _ (Oper.mk _ (.store _ _ _) _ _ _ _ :: _) _ _); (first | (refine m_storeR M rfl rfl rfl rfl (by first | rfl | assumption | (simp; done) | (simp; omega)) (by first | rfl | assumption | (simp; done) | (simp; omega)) (by first | exact bA_one _ | exact wA_one _ | assumption | (simp [Value.oneCell']; done)) ?_) | (refine m_store (v := Value.int _ _) M rfl rfl rfl rfl rfl (by first | assumption | (simp; done) | (simp; omega)) ?_) | (refine m_store (v := Value.slice _ _ _) M rfl rfl rfl rfl rfl (by first | assumption | (simp; done) | (simp; omega)) ?_) | (refine m_store (v := Value.bool _) M rfl rfl rfl rfl rfl (by first | assumption | (simp; done) | (simp; omega)) ?_) | (refine m_store (v := Value.string _) M rfl rfl rfl rfl rfl (by first | assumption | (simp; done) | (simp; omega)) ?_) | (refine m_store (v := Value.pointer _) M rfl rfl rfl rfl rfl (by first | assumption | (simp; done) | (simp; omega)) ?_)); clear M; (try clear wx); intro wx M; simp only [List.set_cons_zero, List.set_cons_succ, Nat.zero_add, List.nil_append] at M)
            | (with_reducible (show wpList _ _ _ (Oper.mk _ (.build _ _) _ _ _ _ :: _) _ _); refine m_buildZ rfl rfl ?_))
          obtain ⟨g, tl, rfl, -, -, -, M⟩ := M.own_blk (p := 0) rfl (by omega)
          rw [List.set_cons_zero] at M
          have G1 := Lib.hid (kyT_at [x] tl 0 x rfl 0 rfl)
          go_wp2_with (first
            | (with_reducible (show wpList _ _ _ (Oper.mk _ (.indexAddr _ _ _) _ _ _ _ :: _) _ _); refine m_ix rfl rfl rfl 0 (by first | rfl | (refine congrArg (Value.int .i64) ?_; omega)) (by omega) ?_)
            | (with_reducible (show wpList _ _ _ (Oper.mk (some 4) (.alloc _) _ _ _ _ :: _) _ _); refine mem_new M rfl rfl ?_; clear M; (try clear wx); intro g4 wx M)
            | (with_reducible (show wpList _ _ _ (Oper.mk _ (.load _ _) _ _ _ _ :: _) _ _); (first | (refine m_loadB M rfl rfl rfl G1.out hx32 ?_) | (refine m_load M rfl rfl rfl (by first | assumption | rfl) ?_) | (refine m_loadR M rfl rfl rfl (by first | exact hx32 | (rw [bA_size, hx32]; done) | rfl | (simp; done)) ?_)))
            | (with_reducible (show wpList _ _ _ (Oper.mk _ (.store _ _ _) _ _ _ _ :: _) _ _); (first | (refine m_storeR M rfl rfl rfl rfl (by first | exact hx32 | (rw [bA_size, hx32]; done) | rfl | (simp; done)) (by first | exact hx32 | (rw [bA_size, hx32]; done) | rfl | (simp; done)) (bA_allC _) ?_) | (refine m_store (v := Value.int _ _) M rfl rfl rfl rfl rfl (by first | assumption | (simp; done) | (simp; omega)) ?_) | (refine m_store (v := Value.slice _ _ _) M rfl rfl rfl rfl rfl (by first | assumption | (simp; done) | (simp; omega)) ?_) | (refine m_store (v := Value.bool _) M rfl rfl rfl rfl rfl (by first | assumption | (simp; done) | (simp; omega)) ?_) | (refine m_store (v := Value.string _) M rfl rfl rfl rfl rfl (by first | assumption | (simp; done) | (simp; omega)) ?_) | (refine m_store (v := Value.pointer _) M rfl rfl rfl rfl rfl (by first | assumption | (simp; done) | (simp; omega)) ?_)); clear M; (try clear wx); intro wx M; simp only [List.set_cons_zero, List.set_cons_succ, Nat.zero_add, List.nil_append] at M)
            | (with_reducible (show wpList _ _ _ (Oper.mk _ (.build _ _) _ _ _ _ :: _) _ _); refine m_buildZ rfl rfl ?_))
          exact m_ret2 M rfl rfl rfl (by rw [bA_size, hx32]) (by rw [HE.out]; rfl)
        · -- more
          have HE4 := Lib.hid (show fkT ks s.data.toList = (zeroKy, 4) by rw [HE.out, if_neg (by simp), if_neg (by simp)])
          obtain ⟨d, hd⟩ : ∃ d, (x :: y :: q).length = d := ⟨_, rfl⟩
          have hd2 : 2 ≤ d := by rw [← hd]; simp
          rw [hd] at HW hwl
          have g2 : ((d : Int) == 0) = false := by simp; omega
          have g3 : ((d : Int) == 1) = false := by simp; omega
          generalize x :: y :: q = q2 at *
          clear hd HE
          go_enter Try.func30, Try.ntmps30
          go_wp2_with (first
            | (go_at_call 80; (with_reducible refine mem_call M (Ret.same (HI.out _)) ?_); clear M; (try clear wx); rintro _ wx rfl _ M)
            | (go_at_call 81; (with_reducible refine mem_callO M (HW.out _ _ (HV.out.up M.up)) ?_); clear M; (try clear wx); intro bz cz wx M)
            | (with_reducible (show wpList _ _ _ (Oper.mk (some 4) (.alloc _) _ _ _ _ :: _) _ _); refine mem_new M rfl rfl ?_; clear M; (try clear wx); intro g4 wx M)
            | (with_reducible (show wpList _ _ _ (Oper.mk _ (.load _ _) _ _ _ _ :: _) _ _); (first | (refine m_load M rfl rfl rfl (by first | assumption | rfl) ?_) | (refine m_loadR M rfl rfl rfl (by first | rfl | assumption | (simp; done) | (simp; omega)) ?_)))
            | (with_reducible (show wpList _ _ _ (Oper.mk _ (.store _ _ _) _ _ _ _ :: _) _ _); (first | (refine m_storeR M rfl rfl rfl rfl (by first | rfl | assumption | (simp; done) | (simp; omega)) (by first | rfl | assumption | (simp; done) | (simp; omega)) (by first | exact bA_one _ | exact wA_one _ | assumption | (simp [Value.oneCell']; done)) ?_) | (refine m_store (v := Value.int _ _) M rfl rfl rfl rfl rfl (by first | assumption | (simp; done) | (simp; omega)) ?_) | (refine m_store (v := Value.slice _ _ _) M rfl rfl rfl rfl rfl (by first | assumption | (simp; done) | (simp; omega)) ?_) | (refine m_store (v := Value.bool _) M rfl rfl rfl rfl rfl (by first | assumption | (simp; done) | (simp; omega)) ?_) | (refine m_store (v := Value.string _) M rfl rfl rfl rfl rfl (by first | assumption | (simp; done) | (simp; omega)) ?_) | (refine m_store (v := Value.pointer _) M rfl rfl rfl rfl rfl (by first | assumption | (simp; done) | (simp; omega)) ?_)); clear M; (try clear wx); intro wx M; simp only [List.set_cons_zero, List.set_cons_succ, Nat.zero_add, List.nil_append] at M)
            | (with_reducible (show wpList _ _ _ (Oper.mk _ (.build _ _) _ _ _ _ :: _) _ _); refine m_buildZ rfl rfl ?_))
          exact m_ret2 M rfl rfl rfl (by simp) (by rw [HE4.out]; rfl)

theorem allHex_drop (s : ByteArray) (k : Nat) (hlt : k < s.size) : allHex (s.data.toList.drop k) = (decide (0 ≤ hv s[k]) && allHex (s.data.toList.drop (k + 1))) := by
  rw [List.drop_eq_getElem_cons (show k < s.data.toList.length from hlt)]
  rfl
set_option maxHeartbeats 8000000 in
set_option maxRecDepth 100000 in
theorem specFindKey_c (s : ByteArray) (v : Value) (n : Nat) (ks : List Ky) (hks : ks.length = n) (w : World) (hv : Rd w 32 v n (kyL ks)) (hn : n ≤ 1048576) (hs : s.size ≤ 1048576) :
    Ret Try.prog 29 #[v, .string s] w fun r _ => r = .tuple #[.agg (bA (fkT ks s.data.toList).1.1), .int .i64 (fkT ks s.data.toList).2] := by
  obtain ⟨b, cap, rfl⟩ := hv.shape
  have HV := Lib.hid hv
  have hsz : s.data.toList.length = s.size := rfl
  refine ret_start fun wx M => ?_
  clear hv
  by_cases hbig : 256 < n
  · have HE := Lib.hid (show fkT ks s.data.toList = (zeroKy, 3) by rw [fkT, if_pos (by omega)])
    clear hks
    go_enter Try.func29, Try.ntmps29
    go_wp2_with (first
      | (with_reducible (show wpList _ _ _ (Oper.mk (some 4) (.alloc _) _ _ _ _ :: _) _ _); refine mem_new M rfl rfl ?_; clear M; (try clear wx); intro g4 wx M)
      | (with_reducible (show wpList _ _ _ (Oper.mk (some 9) (.alloc _) _ _ _ _ :: _) _ _); refine mem_new M rfl rfl ?_; clear M; (try clear wx); intro g9 wx M)
      | (with_reducible (show wpList _ _ _ (Oper.mk _ (.load _ _) _ _ _ _ :: _) _ _); (first | (refine m_load M rfl rfl rfl (by first | assumption | rfl) ?_) | (refine m_loadR M rfl rfl rfl (by first | rfl | assumption | (simp; done) | (simp; omega)) ?_)))
      | (with_reducible (show wpList _ _ _ (Oper.mk _ (.store _ _ _) _ _ _ _ :: _) _ _); (first | (refine m_storeR M rfl rfl rfl rfl (by first | rfl | assumption | (simp; done) | (simp; omega)) (by first | rfl | assumption | (simp; done) | (simp; omega)) (by first | exact bA_one _ | exact wA_one _ | assumption | (simp [Value.oneCell']; done)) ?_) | (refine m_store (v := Value.int _ _) M rfl rfl rfl rfl rfl (by first | assumption | (simp; done) | (simp; omega)) ?_) | (refine m_store (v := Value.slice _ _ _) M rfl rfl rfl rfl rfl (by first | assumption | (simp; done) | (simp; omega)) ?_) | (refine m_store (v := Value.bool _) M rfl rfl rfl rfl rfl (by first | assumption | (simp; done) | (simp; omega)) ?_) | (refine m_store (v := Value.string _) M rfl rfl rfl rfl rfl (by first | assumption | (simp; done) | (simp; omega)) ?_) | (refine m_store (v := Value.pointer _) M rfl rfl rfl rfl rfl (by first | assumption | (simp; done) | (simp; omega)) ?_)); clear M; (try clear wx); intro wx M; simp only [List.set_cons_zero, List.set_cons_succ, Nat.zero_add, List.nil_append] at M)
      | (with_reducible (show wpList _ _ _ (Oper.mk _ (.build _ _) _ _ _ _ :: _) _ _); refine m_buildZ rfl rfl ?_))
    exact m_ret2 M rfl rfl rfl (by simp) (by rw [HE.out]; rfl)
  · by_cases hm : 64 < s.size
    · have HE := Lib.hid (show fkT ks s.data.toList = (zeroKy, 5) by rw [fkT, if_neg (by omega), if_pos (by omega)])
      clear hks
      go_enter Try.func29, Try.ntmps29
      go_wp2_with (first
        | (with_reducible (show wpList _ _ _ (Oper.mk (some 4) (.alloc _) _ _ _ _ :: _) _ _); refine mem_new M rfl rfl ?_; clear M; (try clear wx); intro g4 wx M)
        | (with_reducible (show wpList _ _ _ (Oper.mk (some 9) (.alloc _) _ _ _ _ :: _) _ _); refine mem_new M rfl rfl ?_; clear M; (try clear wx); intro g9 wx M)
        | (with_reducible (show wpList _ _ _ (Oper.mk _ (.load _ _) _ _ _ _ :: _) _ _); (first | (refine m_load M rfl rfl rfl (by first | assumption | rfl) ?_) | (refine m_loadR M rfl rfl rfl (by first | rfl | assumption | (simp; done) | (simp; omega)) ?_)))
        | (with_reducible (show wpList _ _ _ (Oper.mk _ (.store _ _ _) _ _ _ _ :: _) _ _); (first | (refine m_storeR M rfl rfl rfl rfl (by first | rfl | assumption | (simp; done) | (simp; omega)) (by first | rfl | assumption | (simp; done) | (simp; omega)) (by first | exact bA_one _ | exact wA_one _ | assumption | (simp [Value.oneCell']; done)) ?_) | (refine m_store (v := Value.int _ _) M rfl rfl rfl rfl rfl (by first | assumption | (simp; done) | (simp; omega)) ?_) | (refine m_store (v := Value.slice _ _ _) M rfl rfl rfl rfl rfl (by first | assumption | (simp; done) | (simp; omega)) ?_) | (refine m_store (v := Value.bool _) M rfl rfl rfl rfl rfl (by first | assumption | (simp; done) | (simp; omega)) ?_) | (refine m_store (v := Value.string _) M rfl rfl rfl rfl rfl (by first | assumption | (simp; done) | (simp; omega)) ?_) | (refine m_store (v := Value.pointer _) M rfl rfl rfl rfl rfl (by first | assumption | (simp; done) | (simp; omega)) ?_)); clear M; (try clear wx); intro wx M; simp only [List.set_cons_zero, List.set_cons_succ, Nat.zero_add, List.nil_append] at M)
        | (with_reducible (show wpList _ _ _ (Oper.mk _ (.build _ _) _ _ _ _ :: _) _ _); refine m_buildZ rfl rfl ?_))
      exact m_ret2 M rfl rfl rfl (by simp) (by rw [HE.out]; rfl)
    · have HK := Lib.hid hks
      have HB := Lib.hid (And.intro (show ¬ 256 < ks.length by omega) (show ¬ 64 < s.data.toList.length by omega))
      clear hks hsz
      go_enter Try.func29, Try.ntmps29
      go_wp2_with (first
        | (with_reducible (show wpList _ _ _ (Oper.mk (some 4) (.alloc _) _ _ _ _ :: _) _ _); refine mem_new M rfl rfl ?_; clear M; (try clear wx); intro g4 wx M)
        | (with_reducible (show wpList _ _ _ (Oper.mk (some 9) (.alloc _) _ _ _ _ :: _) _ _); refine mem_new M rfl rfl ?_; clear M; (try clear wx); intro g9 wx M)
        | (with_reducible (show wpList _ _ _ (Oper.mk _ (.load _ _) _ _ _ _ :: _) _ _); (first | (refine m_load M rfl rfl rfl (by first | assumption | rfl) ?_) | (refine m_loadR M rfl rfl rfl (by first | rfl | assumption | (simp; done) | (simp; omega)) ?_)))
        | (with_reducible (show wpList _ _ _ (Oper.mk _ (.store _ _ _) _ _ _ _ :: _) _ _); (first | (refine m_storeR M rfl rfl rfl rfl (by first | rfl | assumption | (simp; done) | (simp; omega)) (by first | rfl | assumption | (simp; done) | (simp; omega)) (by first | exact bA_one _ | exact wA_one _ | assumption | (simp [Value.oneCell']; done)) ?_) | (refine m_store (v := Value.int _ _) M rfl rfl rfl rfl rfl (by first | assumption | (simp; done) | (simp; omega)) ?_) | (refine m_store (v := Value.slice _ _ _) M rfl rfl rfl rfl rfl (by first | assumption | (simp; done) | (simp; omega)) ?_) | (refine m_store (v := Value.bool _) M rfl rfl rfl rfl rfl (by first | assumption | (simp; done) | (simp; omega)) ?_) | (refine m_store (v := Value.string _) M rfl rfl rfl rfl rfl (by first | assumption | (simp; done) | (simp; omega)) ?_) | (refine m_store (v := Value.pointer _) M rfl rfl rfl rfl rfl (by first | assumption | (simp; done) | (simp; omega)) ?_)); clear M; (try clear wx); intro wx M; simp only [List.set_cons_zero, List.set_cons_succ, Nat.zero_add, List.nil_append] at M)
        | (with_reducible (show wpList _ _ _ (Oper.mk _ (.build _ _) _ _ _ _ :: _) _ _); refine m_buildZ rfl rfl ?_))
      go_loopg [6] s.size (fun r i wr => ∃ j : Nat, j + r = s.size ∧ i = .int .i64 (j : Int) ∧ Hid (allHex s.data.toList = allHex (s.data.toList.drop j)) ∧ Mem w wr [.blk g4 25 (bA zero32)])
      case atStart => exact ⟨0, by omega, rfl, Lib.hid rfl, M⟩
      case round =>
        clear M
        obtain ⟨j, hj, rfl, HA, M⟩ := hrel
        by_cases hlt : j < s.size
        · have HD := Lib.hid (allHex_drop s j hlt)
          have HJ := Lib.hid hj
          clear hj
          by_cases hx : 0 ≤ hv s[j]
          · have HN := Lib.hid (show allHex s.data.toList = allHex (s.data.toList.drop (j + 1)) by rw [HA.out, HD.out, decide_eq_true hx, Bool.true_and])
            have HX := Lib.hid (fun w => l01Hex_yes s[j] hx w)
            clear HA HD hx
            go_wp2_with (first
              | (go_at_call 78; (with_reducible refine mem_call M (Ret.same (HX.out _)) ?_); clear M; (try clear wx); rintro _ wx rfl _ M)
              | (with_reducible (show wpList _ _ _ (Oper.mk (some 4) (.alloc _) _ _ _ _ :: _) _ _); refine mem_new M rfl rfl ?_; clear M; (try clear wx); intro g4 wx M)
              | (with_reducible (show wpList _ _ _ (Oper.mk (some 9) (.alloc _) _ _ _ _ :: _) _ _); refine mem_new M rfl rfl ?_; clear M; (try clear wx); intro g9 wx M)
              | (with_reducible (show wpList _ _ _ (Oper.mk _ (.load _ _) _ _ _ _ :: _) _ _); (first | (refine m_load M rfl rfl rfl (by first | assumption | rfl) ?_) | (refine m_loadR M rfl rfl rfl (by first | rfl | assumption | (simp; done) | (simp; omega)) ?_)))
              | (with_reducible (show wpList _ _ _ (Oper.mk _ (.store _ _ _) _ _ _ _ :: _) _ _); (first | (refine m_storeR M rfl rfl rfl rfl (by first | rfl | assumption | (simp; done) | (simp; omega)) (by first | rfl | assumption | (simp; done) | (simp; omega)) (by first | exact bA_one _ | exact wA_one _ | assumption | (simp [Value.oneCell']; done)) ?_) | (refine m_store (v := Value.int _ _) M rfl rfl rfl rfl rfl (by first | assumption | (simp; done) | (simp; omega)) ?_) | (refine m_store (v := Value.slice _ _ _) M rfl rfl rfl rfl rfl (by first | assumption | (simp; done) | (simp; omega)) ?_) | (refine m_store (v := Value.bool _) M rfl rfl rfl rfl rfl (by first | assumption | (simp; done) | (simp; omega)) ?_) | (refine m_store (v := Value.string _) M rfl rfl rfl rfl rfl (by first | assumption | (simp; done) | (simp; omega)) ?_) | (refine m_store (v := Value.pointer _) M rfl rfl rfl rfl rfl (by first | assumption | (simp; done) | (simp; omega)) ?_)); clear M; (try clear wx); intro wx M; simp only [List.set_cons_zero, List.set_cons_succ, Nat.zero_add, List.nil_append] at M)
              | (with_reducible (show wpList _ _ _ (Oper.mk _ (.build _ _) _ _ _ _ :: _) _ _); refine m_buildZ rfl rfl ?_))
            have hj := HJ.out
            go_roundg (gk - 1)
            case measure => omega
            case rel => exact ⟨j + 1, by omega, by go_num, HN, M⟩
          · have HE := Lib.hid (show fkT ks s.data.toList = (zeroKy, 5) by
              have : allHex s.data.toList = false := by rw [HA.out, HD.out, decide_eq_false hx, Bool.false_and]
              rw [fkT, if_neg HB.out.1, if_neg HB.out.2, if_pos this])
            have HX := Lib.hid (fun w => l01Hex_no s[j] (by omega) w)
            clear HA HD hx
            go_wp2_with (first
              | (go_at_call 78; (with_reducible refine mem_call M (Ret.same (HX.out _)) ?_); clear M; (try clear wx); rintro _ wx rfl _ M)
              | (with_reducible (show wpList _ _ _ (Oper.mk (some 4) (.alloc _) _ _ _ _ :: _) _ _); refine mem_new M rfl rfl ?_; clear M; (try clear wx); intro g4 wx M)
              | (with_reducible (show wpList _ _ _ (Oper.mk (some 9) (.alloc _) _ _ _ _ :: _) _ _); refine mem_new M rfl rfl ?_; clear M; (try clear wx); intro g9 wx M)
              | (with_reducible (show wpList _ _ _ (Oper.mk _ (.load _ _) _ _ _ _ :: _) _ _); (first | (refine m_load M rfl rfl rfl (by first | assumption | rfl) ?_) | (refine m_loadR M rfl rfl rfl (by first | rfl | assumption | (simp; done) | (simp; omega)) ?_)))
              | (with_reducible (show wpList _ _ _ (Oper.mk _ (.store _ _ _) _ _ _ _ :: _) _ _); (first | (refine m_storeR M rfl rfl rfl rfl (by first | rfl | assumption | (simp; done) | (simp; omega)) (by first | rfl | assumption | (simp; done) | (simp; omega)) (by first | exact bA_one _ | exact wA_one _ | assumption | (simp [Value.oneCell']; done)) ?_) | (refine m_store (v := Value.int _ _) M rfl rfl rfl rfl rfl (by first | assumption | (simp; done) | (simp; omega)) ?_) | (refine m_store (v := Value.slice _ _ _) M rfl rfl rfl rfl rfl (by first | assumption | (simp; done) | (simp; omega)) ?_) | (refine m_store (v := Value.bool _) M rfl rfl rfl rfl rfl (by first | assumption | (simp; done) | (simp; omega)) ?_) | (refine m_store (v := Value.string _) M rfl rfl rfl rfl rfl (by first | assumption | (simp; done) | (simp; omega)) ?_) | (refine m_store (v := Value.pointer _) M rfl rfl rfl rfl rfl (by first | assumption | (simp; done) | (simp; omega)) ?_)); clear M; (try clear wx); intro wx M; simp only [List.set_cons_zero, List.set_cons_succ, Nat.zero_add, List.nil_append] at M)
              | (with_reducible (show wpList _ _ _ (Oper.mk _ (.build _ _) _ _ _ _ :: _) _ _); refine m_buildZ rfl rfl ?_))
            exact m_ret2 M rfl rfl rfl (by simp) (by rw [HE.out]; rfl)
        · have HAT := Lib.hid (show allHex s.data.toList = true by rw [HA.out, List.drop_of_length_le (show s.data.toList.length ≤ j by show s.size ≤ j; omega)]; rfl)
          clear HA hj
          go_wp2_with (first
            | (with_reducible (show wpList _ _ _ (Oper.mk (some 4) (.alloc _) _ _ _ _ :: _) _ _); refine mem_new M rfl rfl ?_; clear M; (try clear wx); intro g4 wx M)
            | (with_reducible (show wpList _ _ _ (Oper.mk (some 9) (.alloc _) _ _ _ _ :: _) _ _); refine mem_new M rfl rfl ?_; clear M; (try clear wx); intro g9 wx M)
            | (with_reducible (show wpList _ _ _ (Oper.mk _ (.load _ _) _ _ _ _ :: _) _ _); (first | (refine m_load M rfl rfl rfl (by first | assumption | rfl) ?_) | (refine m_loadR M rfl rfl rfl (by first | rfl | assumption | (simp; done) | (simp; omega)) ?_)))
            | (with_reducible (show wpList _ _ _ (Oper.mk _ (.store _ _ _) _ _ _ _ :: _) _ _); (first | (refine m_storeR M rfl rfl rfl rfl (by first | rfl | assumption | (simp; done) | (simp; omega)) (by first | rfl | assumption | (simp; done) | (simp; omega)) (by first | exact bA_one _ | exact wA_one _ | assumption | (simp [Value.oneCell']; done)) ?_) | (refine m_store (v := Value.int _ _) M rfl rfl rfl rfl rfl (by first | assumption | (simp; done) | (simp; omega)) ?_) | (refine m_store (v := Value.slice _ _ _) M rfl rfl rfl rfl rfl (by first | assumption | (simp; done) | (simp; omega)) ?_) | (refine m_store (v := Value.bool _) M rfl rfl rfl rfl rfl (by first | assumption | (simp; done) | (simp; omega)) ?_) | (refine m_store (v := Value.string _) M rfl rfl rfl rfl rfl (by first | assumption | (simp; done) | (simp; omega)) ?_) | (refine m_store (v := Value.pointer _) M rfl rfl rfl rfl rfl (by first | assumption | (simp; done) | (simp; omega)) ?_)); clear M; (try clear wx); intro wx M; simp only [List.set_cons_zero, List.set_cons_succ, Nat.zero_add, List.nil_append] at M)
            | (with_reducible (show wpList _ _ _ (Oper.mk _ (.build _ _) _ _ _ _ :: _) _ _); refine m_buildZ rfl rfl ?_))
          go_loopg [10, 11] n (fun r c i wr => ∃ (j : Nat) (f : Ky) (cc : Int), j + r = n ∧ c = .int .i64 cc ∧ i = .int .i64 (j : Int) ∧ Hid (FkI s.data.toList (ks.take j) f cc) ∧ Mem w wr [.blk g9 25 (bA f.1), .blk g4 25 (bA zero32)])
          case atStart => exact ⟨0, zeroKy, 6, by omega, rfl, rfl, Lib.hid (by rw [List.take_zero]; exact FkI.start _), M⟩
          case round =>
            clear M
            obtain ⟨i, f, cc, hi, rfl, rfl, HF, M⟩ := hrel
            by_cases hlt2 : i < n
            · obtain ⟨g, o, rfl, hc⟩ := HV.out.open_ (by omega)
              have hil : i < ks.length := by rw [HK.out]; exact hlt2
              obtain ⟨x, hx⟩ : ∃ x, ks[i]'hil = x := ⟨_, rfl⟩
              have C1 := Lib.hid (show ∀ wx, Up w wx → wx.rangeAt g (o + i * 32) (bL x.1) from fun wx hb t u hu => by
                rw [Nat.add_assoc]
                exact hc wx hb _ _ (kyL_get ks i hil t u (by rw [hx]; exact hu)))
              have HTS := Lib.hid (show ks.take (i + 1) = ks.take i ++ [x] by rw [List.take_succ_eq_append_getElem hil, hx])
              have hx32 := x.2
              have hf32 := f.2
              have HI := Lib.hid hi
              have HXI := Lib.hid (show ∃ h : i < ks.length, ks[i]'h = x from ⟨hil, hx⟩)
              have HTX := Lib.hid (fun w => l01Text_c x.1 hx32 w)
              obtain ⟨p, hp⟩ : ∃ p, pk s.data.toList x = p := ⟨_, rfl⟩
              have hpl := keyTx_pkL s x
              rw [hp] at hpl
              have hts := keyTx_size x.1
              clear hc hi hx hil
              cases p with
              | false =>
                have HN := Lib.hid (HF.out.skip hp)
                clear HF hp
                go_wp2_with (first
                  | (go_at_call 79; (with_reducible refine mem_call M (Ret.of (HTX.out _)) ?_); clear M; (try clear wx); rintro _ wx rfl _ M)
                  | (with_reducible (show wpList _ _ _ (Oper.mk (some 4) (.alloc _) _ _ _ _ :: _) _ _); refine mem_new M rfl rfl ?_; clear M; (try clear wx); intro g4 wx M)
                  | (with_reducible (show wpList _ _ _ (Oper.mk (some 9) (.alloc _) _ _ _ _ :: _) _ _); refine mem_new M rfl rfl ?_; clear M; (try clear wx); intro g9 wx M)
                  | (with_reducible (show wpList _ _ _ (Oper.mk _ (.load _ _) _ _ _ _ :: _) _ _); (first | (refine rd_loadA rfl rfl rfl (C1.out _ M.up) hx32 ?_) | (refine m_load M rfl rfl rfl (by first | assumption | rfl) ?_) | (refine m_loadR M rfl rfl rfl (by first | rfl | assumption | (simp; done) | (simp; omega)) ?_)))
                  | (with_reducible (show wpList _ _ _ (Oper.mk _ (.store _ _ _) _ _ _ _ :: _) _ _); (first | (refine m_storeR M rfl rfl rfl rfl (by first | rfl | assumption | (simp; done) | (simp; omega)) (by first | rfl | assumption | (simp; done) | (simp; omega)) (by first | exact bA_one _ | exact wA_one _ | assumption | (simp [Value.oneCell']; done)) ?_) | (refine m_store (v := Value.int _ _) M rfl rfl rfl rfl rfl (by first | assumption | (simp; done) | (simp; omega)) ?_) | (refine m_store (v := Value.slice _ _ _) M rfl rfl rfl rfl rfl (by first | assumption | (simp; done) | (simp; omega)) ?_) | (refine m_store (v := Value.bool _) M rfl rfl rfl rfl rfl (by first | assumption | (simp; done) | (simp; omega)) ?_) | (refine m_store (v := Value.string _) M rfl rfl rfl rfl rfl (by first | assumption | (simp; done) | (simp; omega)) ?_) | (refine m_store (v := Value.pointer _) M rfl rfl rfl rfl rfl (by first | assumption | (simp; done) | (simp; omega)) ?_)); clear M; (try clear wx); intro wx M; simp only [List.set_cons_zero, List.set_cons_succ, Nat.zero_add, List.nil_append] at M)
                  | (with_reducible (show wpList _ _ _ (Oper.mk _ (.build _ _) _ _ _ _ :: _) _ _); refine m_buildZ rfl rfl ?_))
                have hi := HI.out
                go_roundg (gk - 1)
                case measure => omega
                case rel => exact ⟨i + 1, f, cc, by omega, rfl, by go_num, by rw [HTS.out]; exact HN, M⟩
              | true =>
                have HPX := Lib.hid hp
                rcases HF.out.cases with rfl | rfl
                · have HN := Lib.hid (HF.out.first hp)
                  clear HF hp
                  go_wp2_with (first
                    | (go_at_call 79; (with_reducible refine mem_call M (Ret.of (HTX.out _)) ?_); clear M; (try clear wx); rintro _ wx rfl _ M)
                    | (with_reducible (show wpList _ _ _ (Oper.mk (some 4) (.alloc _) _ _ _ _ :: _) _ _); refine mem_new M rfl rfl ?_; clear M; (try clear wx); intro g4 wx M)
                    | (with_reducible (show wpList _ _ _ (Oper.mk (some 9) (.alloc _) _ _ _ _ :: _) _ _); refine mem_new M rfl rfl ?_; clear M; (try clear wx); intro g9 wx M)
                    | (with_reducible (show wpList _ _ _ (Oper.mk _ (.load _ _) _ _ _ _ :: _) _ _); (first | (refine rd_loadA rfl rfl rfl (C1.out _ M.up) hx32 ?_) | (refine m_load M rfl rfl rfl (by first | assumption | rfl) ?_) | (refine m_loadR M rfl rfl rfl (by first | rfl | assumption | (simp; done) | (simp; omega)) ?_)))
                    | (with_reducible (show wpList _ _ _ (Oper.mk _ (.store _ _ _) _ _ _ _ :: _) _ _); (first | (refine m_storeR M rfl rfl rfl rfl (by first | rfl | assumption | (simp; done) | (simp; omega)) (by first | rfl | assumption | (simp; done) | (simp; omega)) (by first | exact bA_one _ | exact wA_one _ | assumption | (simp [Value.oneCell']; done)) ?_) | (refine m_store (v := Value.int _ _) M rfl rfl rfl rfl rfl (by first | assumption | (simp; done) | (simp; omega)) ?_) | (refine m_store (v := Value.slice _ _ _) M rfl rfl rfl rfl rfl (by first | assumption | (simp; done) | (simp; omega)) ?_) | (refine m_store (v := Value.bool _) M rfl rfl rfl rfl rfl (by first | assumption | (simp; done) | (simp; omega)) ?_) | (refine m_store (v := Value.string _) M rfl rfl rfl rfl rfl (by first | assumption | (simp; done) | (simp; omega)) ?_) | (refine m_store (v := Value.pointer _) M rfl rfl rfl rfl rfl (by first | assumption | (simp; done) | (simp; omega)) ?_)); clear M; (try clear wx); intro wx M; simp only [List.set_cons_zero, List.set_cons_succ, Nat.zero_add, List.nil_append] at M)
                    | (with_reducible (show wpList _ _ _ (Oper.mk _ (.build _ _) _ _ _ _ :: _) _ _); refine m_buildZ rfl rfl ?_))
                  refine region_monoG (m := 10) mixedOrders_ (by kernel_rfl) (by kernel_rfl)
                    (fun | 0 => fun vq _ => vq = .int .i64 6 | 1 => fun vq _ => vq = .bool false | 2 => fun vq _ => vq = .bool false | 3 => fun vq _ => vq = undef | 4 => fun vq _ => vq = undef | 5 => fun vq _ => vq = undef | 6 => fun vq _ => vq = undef | 7 => fun vq _ => vq = undef | 8 => fun vq _ => vq = undef | 9 => fun vq _ => vq = .bool false | _ => fun _ _ => True)
                    (fun wx => Mem w wx [.blk g9 25 (bA f.1), .blk g4 25 (bA zero32)]) ?_ ?_ ?_ ?_ ?_
                  · intro j hj v w1 w2 hb h
                    match j, hj with
                    | 0, _ => exact h
                    | 1, _ => exact h
                    | 2, _ => exact h
                    | 3, _ => exact h
                    | 4, _ => exact h
                    | 5, _ => exact h
                    | 6, _ => exact h
                    | 7, _ => exact h
                    | 8, _ => exact h
                    | 9, _ => exact h
                  · intro w1 w2 hb h
                    exact h.grow hb
                  · exact M.grow ((Up.refl _).drew)
                  · rintro i o hi ho av wv fr gM dep
                    match i, hi with
                    | 0, _ =>
                      obtain rfl := Option.some.inj ho
                      refine g_none rfl rfl ?_
                      exact st_mov rfl (fr.eval rfl) rfl
                    | 1, _ =>
                      obtain rfl := Option.some.inj ho
                      refine g_none rfl rfl ?_
                      exact st_bin rfl (dep ⟨0, .data⟩ (by simp) rfl) (rfl) (by go_simp) rfl
                    | 2, _ =>
                      obtain rfl := Option.some.inj ho
                      refine g_none rfl rfl ?_
                      exact st_mov rfl (dep ⟨1, .data⟩ (by simp) rfl) rfl
                    | 3, _ =>
                      obtain rfl := Option.some.inj ho
                      exact g_no rfl rfl (dep ⟨2, .guard⟩ (by simp) rfl) (by decide) rfl
                    | 4, _ =>
                      obtain rfl := Option.some.inj ho
                      exact g_no rfl rfl (dep ⟨2, .guard⟩ (by simp) rfl) (by decide) rfl
                    | 5, _ =>
                      obtain rfl := Option.some.inj ho
                      exact g_no rfl rfl (dep ⟨2, .guard⟩ (by simp) rfl) (by decide) rfl
                    | 6, _ =>
                      obtain rfl := Option.some.inj ho
                      exact g_no rfl rfl (dep ⟨2, .guard⟩ (by simp) rfl) (by decide) rfl
                    | 7, _ =>
                      obtain rfl := Option.some.inj ho
                      exact g_no rfl rfl (dep ⟨2, .guard⟩ (by simp) rfl) (by decide) rfl
                    | 8, _ =>
                      obtain rfl := Option.some.inj ho
                      exact g_no rfl rfl (dep ⟨2, .guard⟩ (by simp) rfl) (by decide) rfl
                    | 9, _ =>
                      obtain rfl := Option.some.inj ho
                      refine g_none rfl rfl ?_
                      exact st_pick rfl (dep ⟨2, .data⟩ (by simp) rfl) (dep ⟨8, .data⟩ (by simp) rfl) (rfl) rfl
                  · rintro vs wv gM hf
                    have f0 : vs 0 = .int .i64 6 := hf 0 (by omega)
                    have f1 : vs 1 = .bool false := hf 1 (by omega)
                    have f2 : vs 2 = .bool false := hf 2 (by omega)
                    have f3 : vs 3 = undef := hf 3 (by omega)
                    have f4 : vs 4 = undef := hf 4 (by omega)
                    have f5 : vs 5 = undef := hf 5 (by omega)
                    have f6 : vs 6 = undef := hf 6 (by omega)
                    have f7 : vs 7 = undef := hf 7 (by omega)
                    have f8 : vs 8 = undef := hf 8 (by omega)
                    have f9 : vs 9 = .bool false := hf 9 (by omega)
                    simp only [putAll, Act.put, List.getElem?_toArray, List.getElem?_cons_zero, List.getElem?_cons_succ, Option.bind_some, List.setIfInBounds_toArray, List.set_cons_zero, List.set_cons_succ, List.drop_succ_cons, List.drop_zero, List.drop_nil, f9]
                    clear f0 f1 f2 f3 f4 f5 f6 f7 f8 f9 hf
                    have M := gM
                    go_wp2_with (first
                      | (with_reducible (show wpList _ _ _ (Oper.mk (some 4) (.alloc _) _ _ _ _ :: _) _ _); refine mem_new M rfl rfl ?_; clear M; (try clear wx); intro g4 wx M)
                      | (with_reducible (show wpList _ _ _ (Oper.mk (some 9) (.alloc _) _ _ _ _ :: _) _ _); refine mem_new M rfl rfl ?_; clear M; (try clear wx); intro g9 wx M)
                      | (with_reducible (show wpList _ _ _ (Oper.mk _ (.load _ _) _ _ _ _ :: _) _ _); (first | (refine rd_loadA rfl rfl rfl (C1.out _ M.up) hx32 ?_) | (refine m_load M rfl rfl rfl (by first | assumption | rfl) ?_) | (refine m_loadR M rfl rfl rfl (by first | exact hx32 | (rw [bA_size, hx32]; done) | (rw [bA_size, hf32]; done) | rfl | (simp; done)) ?_)))
                      | (with_reducible (show wpList _ _ _ (Oper.mk _ (.store _ _ _) _ _ _ _ :: _) _ _); (first | (refine m_storeR M rfl rfl rfl rfl (by first | exact hx32 | (rw [bA_size, hx32]; done) | (rw [bA_size, hf32]; done) | rfl | (simp; done)) (by first | exact hx32 | (rw [bA_size, hx32]; done) | (rw [bA_size, hf32]; done) | rfl | (simp; done)) (bA_allC _) ?_) | (refine m_store (v := Value.int _ _) M rfl rfl rfl rfl rfl (by first | assumption | (simp; done) | (simp; omega)) ?_) | (refine m_store (v := Value.slice _ _ _) M rfl rfl rfl rfl rfl (by first | assumption | (simp; done) | (simp; omega)) ?_) | (refine m_store (v := Value.bool _) M rfl rfl rfl rfl rfl (by first | assumption | (simp; done) | (simp; omega)) ?_) | (refine m_store (v := Value.string _) M rfl rfl rfl rfl rfl (by first | assumption | (simp; done) | (simp; omega)) ?_) | (refine m_store (v := Value.pointer _) M rfl rfl rfl rfl rfl (by first | assumption | (simp; done) | (simp; omega)) ?_)); clear M; (try clear wx); intro wx M; simp only [List.set_cons_zero, List.set_cons_succ, Nat.zero_add, List.nil_append] at M)
                      | (with_reducible (show wpList _ _ _ (Oper.mk _ (.build _ _) _ _ _ _ :: _) _ _); refine m_buildZ rfl rfl ?_))
                    have hi := HI.out
                    go_roundg (n - i - 1)
                    case measure => omega
                    case rel => exact ⟨i + 1, x, 0, by omega, rfl, by go_num, by rw [HTS.out]; exact HN, M⟩
                · have HO : Hid (x ≠ f → fkT ks s.data.toList = (zeroKy, 4)) := Lib.hid (fun hne => by
                    obtain ⟨h1, h2⟩ := HXI.out
                    exact fk_two HF.out h1 h2 hp hne HB.out.1 HB.out.2 HAT.out)
                  have HG : Hid (x = f → FkI s.data.toList (ks.take (i + 1)) x 0) := Lib.hid (fun e => by
                    subst e
                    rw [HTS.out]
                    exact HF.out.again hp)
                  obtain ⟨c, hc⟩ : ∃ c, (!decide (x = f)) = c := ⟨_, rfl⟩
                  have HC := Lib.hid hc
                  clear HF hp hc
                  go_wp2_with (first
                    | (go_at_call 79; (with_reducible refine mem_call M (Ret.of (HTX.out _)) ?_); clear M; (try clear wx); rintro _ wx rfl _ M)
                    | (with_reducible (show wpList _ _ _ (Oper.mk (some 4) (.alloc _) _ _ _ _ :: _) _ _); refine mem_new M rfl rfl ?_; clear M; (try clear wx); intro g4 wx M)
                    | (with_reducible (show wpList _ _ _ (Oper.mk (some 9) (.alloc _) _ _ _ _ :: _) _ _); refine mem_new M rfl rfl ?_; clear M; (try clear wx); intro g9 wx M)
                    | (with_reducible (show wpList _ _ _ (Oper.mk _ (.load _ _) _ _ _ _ :: _) _ _); (first | (refine rd_loadA rfl rfl rfl (C1.out _ M.up) hx32 ?_) | (refine m_load M rfl rfl rfl (by first | assumption | rfl) ?_) | (refine m_loadR M rfl rfl rfl (by first | rfl | assumption | (simp; done) | (simp; omega)) ?_)))
                    | (with_reducible (show wpList _ _ _ (Oper.mk _ (.store _ _ _) _ _ _ _ :: _) _ _); (first | (refine m_storeR M rfl rfl rfl rfl (by first | rfl | assumption | (simp; done) | (simp; omega)) (by first | rfl | assumption | (simp; done) | (simp; omega)) (by first | exact bA_one _ | exact wA_one _ | assumption | (simp [Value.oneCell']; done)) ?_) | (refine m_store (v := Value.int _ _) M rfl rfl rfl rfl rfl (by first | assumption | (simp; done) | (simp; omega)) ?_) | (refine m_store (v := Value.slice _ _ _) M rfl rfl rfl rfl rfl (by first | assumption | (simp; done) | (simp; omega)) ?_) | (refine m_store (v := Value.bool _) M rfl rfl rfl rfl rfl (by first | assumption | (simp; done) | (simp; omega)) ?_) | (refine m_store (v := Value.string _) M rfl rfl rfl rfl rfl (by first | assumption | (simp; done) | (simp; omega)) ?_) | (refine m_store (v := Value.pointer _) M rfl rfl rfl rfl rfl (by first | assumption | (simp; done) | (simp; omega)) ?_)); clear M; (try clear wx); intro wx M; simp only [List.set_cons_zero, List.set_cons_succ, Nat.zero_add, List.nil_append] at M)
                    | (with_reducible (show wpList _ _ _ (Oper.mk _ (.build _ _) _ _ _ _ :: _) _ _); refine m_buildZ rfl rfl ?_))
                  refine region_monoG (m := 10) mixedOrders_ (by kernel_rfl) (by kernel_rfl)
                    (fun | 0 => fun vq _ => vq = .int .i64 0 | 1 => fun vq _ => vq = .bool true | 2 => fun vq _ => vq = .bool true | 3 => fun vq _ => vq = .slice (some ⟨g, o, none⟩) n cap | 4 => fun vq _ => vq = .int .i64 (i : Int) | 5 => fun vq _ => vq = .pointer (some ⟨g, o + i * 32, none⟩) | 6 => fun vq _ => vq = .agg (bA (x.1)) | 7 => fun vq _ => vq = .agg (bA f.1) | 8 => fun vq _ => vq = .bool c | 9 => fun vq _ => vq = .bool c | _ => fun _ _ => True)
                    (fun wx => Mem w wx [.blk g9 25 (bA f.1), .blk g4 25 (bA zero32)]) ?_ ?_ ?_ ?_ ?_
                  · intro j hj v w1 w2 hb h
                    match j, hj with
                    | 0, _ => exact h
                    | 1, _ => exact h
                    | 2, _ => exact h
                    | 3, _ => exact h
                    | 4, _ => exact h
                    | 5, _ => exact h
                    | 6, _ => exact h
                    | 7, _ => exact h
                    | 8, _ => exact h
                    | 9, _ => exact h
                  · intro w1 w2 hb h
                    exact h.grow hb
                  · exact M.grow ((Up.refl _).drew)
                  · rintro i o hi ho av wv fr gM dep
                    match i, hi with
                    | 0, _ =>
                      obtain rfl := Option.some.inj ho
                      refine g_none rfl rfl ?_
                      exact st_mov rfl (fr.eval rfl) rfl
                    | 1, _ =>
                      obtain rfl := Option.some.inj ho
                      refine g_none rfl rfl ?_
                      exact st_bin rfl (dep ⟨0, .data⟩ (by simp) rfl) (rfl) (by go_simp) rfl
                    | 2, _ =>
                      obtain rfl := Option.some.inj ho
                      refine g_none rfl rfl ?_
                      exact st_mov rfl (dep ⟨1, .data⟩ (by simp) rfl) rfl
                    | 3, _ =>
                      obtain rfl := Option.some.inj ho
                      refine g_yes rfl rfl (dep ⟨2, .guard⟩ (by simp) rfl) ?_
                      exact st_mov rfl (fr.eval rfl) rfl
                    | 4, _ =>
                      obtain rfl := Option.some.inj ho
                      refine g_yes rfl rfl (dep ⟨2, .guard⟩ (by simp) rfl) ?_
                      exact st_mov rfl (fr.eval rfl) rfl
                    | 5, _ =>
                      obtain rfl := Option.some.inj ho
                      refine g_yes rfl rfl (dep ⟨2, .guard⟩ (by simp) rfl) ?_
                      exact st_indexAddr rfl (dep ⟨3, .data⟩ (by simp) rfl) (dep ⟨4, .data⟩ (by simp) rfl) (ix_slice _ _ _ _ _ hlt2 _) rfl
                    | 6, _ =>
                      obtain rfl := Option.some.inj ho
                      refine g_yes rfl rfl (dep ⟨2, .guard⟩ (by simp) rfl) ?_
                      exact st_loadA rfl (dep ⟨5, .data⟩ (by simp) rfl) (C1.out _ gM.up) hx32 rfl
                    | 7, _ =>
                      obtain rfl := Option.some.inj ho
                      refine g_yes rfl rfl (dep ⟨2, .guard⟩ (by simp) rfl) ?_
                      exact st_loadG gM rfl (fr.eval rfl) (by rw [bA_size, hf32]) rfl
                    | 8, _ =>
                      obtain rfl := Option.some.inj ho
                      refine g_yes rfl rfl (dep ⟨2, .guard⟩ (by simp) rfl) ?_
                      exact st_bin rfl (dep ⟨6, .data⟩ (by simp) rfl) (dep ⟨7, .data⟩ (by simp) rfl) (key_neqG x f c HC.out _ _ _) rfl
                    | 9, _ =>
                      obtain rfl := Option.some.inj ho
                      refine g_none rfl rfl ?_
                      exact st_pick rfl (dep ⟨2, .data⟩ (by simp) rfl) (dep ⟨8, .data⟩ (by simp) rfl) (rfl) rfl
                  · rintro vs wv gM hf
                    have f0 : vs 0 = .int .i64 0 := hf 0 (by omega)
                    have f1 : vs 1 = .bool true := hf 1 (by omega)
                    have f2 : vs 2 = .bool true := hf 2 (by omega)
                    have f3 : vs 3 = .slice (some ⟨g, o, none⟩) n cap := hf 3 (by omega)
                    have f4 : vs 4 = .int .i64 (i : Int) := hf 4 (by omega)
                    have f5 : vs 5 = .pointer (some ⟨g, o + i * 32, none⟩) := hf 5 (by omega)
                    have f6 : vs 6 = .agg (bA (x.1)) := hf 6 (by omega)
                    have f7 : vs 7 = .agg (bA f.1) := hf 7 (by omega)
                    have f8 : vs 8 = .bool c := hf 8 (by omega)
                    have f9 : vs 9 = .bool c := hf 9 (by omega)
                    simp only [putAll, Act.put, List.getElem?_toArray, List.getElem?_cons_zero, List.getElem?_cons_succ, Option.bind_some, List.setIfInBounds_toArray, List.set_cons_zero, List.set_cons_succ, List.drop_succ_cons, List.drop_zero, List.drop_nil, f9]
                    clear f0 f1 f2 f3 f4 f5 f6 f7 f8 f9 hf
                    have M := gM
                    cases c with
                    | true =>
                      have HE := Lib.hid (HO.out (by simpa using HC.out))
                      clear HO HG
                      go_wp2_with (first
                        | (with_reducible (show wpList _ _ _ (Oper.mk (some 4) (.alloc _) _ _ _ _ :: _) _ _); refine mem_new M rfl rfl ?_; clear M; (try clear wx); intro g4 wx M)
                        | (with_reducible (show wpList _ _ _ (Oper.mk (some 9) (.alloc _) _ _ _ _ :: _) _ _); refine mem_new M rfl rfl ?_; clear M; (try clear wx); intro g9 wx M)
                        | (with_reducible (show wpList _ _ _ (Oper.mk _ (.load _ _) _ _ _ _ :: _) _ _); (first | (refine m_load M rfl rfl rfl (by first | assumption | rfl) ?_) | (refine m_loadR M rfl rfl rfl (by first | rfl | assumption | (simp; done) | (simp; omega)) ?_)))
                        | (with_reducible (show wpList _ _ _ (Oper.mk _ (.store _ _ _) _ _ _ _ :: _) _ _); (first | (refine m_storeR M rfl rfl rfl rfl (by first | rfl | assumption | (simp; done) | (simp; omega)) (by first | rfl | assumption | (simp; done) | (simp; omega)) (by first | exact bA_one _ | exact wA_one _ | assumption | (simp [Value.oneCell']; done)) ?_) | (refine m_store (v := Value.int _ _) M rfl rfl rfl rfl rfl (by first | assumption | (simp; done) | (simp; omega)) ?_) | (refine m_store (v := Value.slice _ _ _) M rfl rfl rfl rfl rfl (by first | assumption | (simp; done) | (simp; omega)) ?_) | (refine m_store (v := Value.bool _) M rfl rfl rfl rfl rfl (by first | assumption | (simp; done) | (simp; omega)) ?_) | (refine m_store (v := Value.string _) M rfl rfl rfl rfl rfl (by first | assumption | (simp; done) | (simp; omega)) ?_) | (refine m_store (v := Value.pointer _) M rfl rfl rfl rfl rfl (by first | assumption | (simp; done) | (simp; omega)) ?_)); clear M; (try clear wx); intro wx M; simp only [List.set_cons_zero, List.set_cons_succ, Nat.zero_add, List.nil_append] at M)
                        | (with_reducible (show wpList _ _ _ (Oper.mk _ (.build _ _) _ _ _ _ :: _) _ _); refine m_buildZ rfl rfl ?_))
                      exact m_ret2 M rfl rfl rfl (by simp) (by rw [HE.out]; rfl)
                    | false =>
                      have HN := Lib.hid (HG.out (by simpa using HC.out))
                      clear HO HG
                      go_wp2_with (first
                        | (with_reducible (show wpList _ _ _ (Oper.mk (some 4) (.alloc _) _ _ _ _ :: _) _ _); refine mem_new M rfl rfl ?_; clear M; (try clear wx); intro g4 wx M)
                        | (with_reducible (show wpList _ _ _ (Oper.mk (some 9) (.alloc _) _ _ _ _ :: _) _ _); refine mem_new M rfl rfl ?_; clear M; (try clear wx); intro g9 wx M)
                        | (with_reducible (show wpList _ _ _ (Oper.mk _ (.load _ _) _ _ _ _ :: _) _ _); (first | (refine rd_loadA rfl rfl rfl (C1.out _ M.up) hx32 ?_) | (refine m_load M rfl rfl rfl (by first | assumption | rfl) ?_) | (refine m_loadR M rfl rfl rfl (by first | exact hx32 | (rw [bA_size, hx32]; done) | (rw [bA_size, hf32]; done) | rfl | (simp; done)) ?_)))
                        | (with_reducible (show wpList _ _ _ (Oper.mk _ (.store _ _ _) _ _ _ _ :: _) _ _); (first | (refine m_storeR M rfl rfl rfl rfl (by first | exact hx32 | (rw [bA_size, hx32]; done) | (rw [bA_size, hf32]; done) | rfl | (simp; done)) (by first | exact hx32 | (rw [bA_size, hx32]; done) | (rw [bA_size, hf32]; done) | rfl | (simp; done)) (bA_allC _) ?_) | (refine m_store (v := Value.int _ _) M rfl rfl rfl rfl rfl (by first | assumption | (simp; done) | (simp; omega)) ?_) | (refine m_store (v := Value.slice _ _ _) M rfl rfl rfl rfl rfl (by first | assumption | (simp; done) | (simp; omega)) ?_) | (refine m_store (v := Value.bool _) M rfl rfl rfl rfl rfl (by first | assumption | (simp; done) | (simp; omega)) ?_) | (refine m_store (v := Value.string _) M rfl rfl rfl rfl rfl (by first | assumption | (simp; done) | (simp; omega)) ?_) | (refine m_store (v := Value.pointer _) M rfl rfl rfl rfl rfl (by first | assumption | (simp; done) | (simp; omega)) ?_)); clear M; (try clear wx); intro wx M; simp only [List.set_cons_zero, List.set_cons_succ, Nat.zero_add, List.nil_append] at M)
                        | (with_reducible (show wpList _ _ _ (Oper.mk _ (.build _ _) _ _ _ _ :: _) _ _); refine m_buildZ rfl rfl ?_))
                      have hi := HI.out
                      go_roundg (n - i - 1)
                      case measure => omega
                      case rel => exact ⟨i + 1, x, 0, by omega, rfl, by go_num, HN, M⟩
            · have HE := Lib.hid (fk_end (by have := HF.out; rwa [List.take_of_length_le (by rw [HK.out]; omega)] at this) HB.out.1 HB.out.2 HAT.out)
              clear HF hi
              go_wp2_with (first
                | (with_reducible (show wpList _ _ _ (Oper.mk (some 4) (.alloc _) _ _ _ _ :: _) _ _); refine mem_new M rfl rfl ?_; clear M; (try clear wx); intro g4 wx M)
                | (with_reducible (show wpList _ _ _ (Oper.mk (some 9) (.alloc _) _ _ _ _ :: _) _ _); refine mem_new M rfl rfl ?_; clear M; (try clear wx); intro g9 wx M)
                | (with_reducible (show wpList _ _ _ (Oper.mk _ (.load _ _) _ _ _ _ :: _) _ _); (first | (refine m_load M rfl rfl rfl (by first | assumption | rfl) ?_) | (refine m_loadR M rfl rfl rfl (by first | exact f.2 | (rw [bA_size, f.2]; done) | rfl | (simp; done)) ?_)))
                | (with_reducible (show wpList _ _ _ (Oper.mk _ (.store _ _ _) _ _ _ _ :: _) _ _); (first | (refine m_storeR M rfl rfl rfl rfl (by first | exact f.2 | (rw [bA_size, f.2]; done) | rfl | (simp; done)) (by first | exact f.2 | (rw [bA_size, f.2]; done) | rfl | (simp; done)) (bA_allC _) ?_) | (refine m_store (v := Value.int _ _) M rfl rfl rfl rfl rfl (by first | assumption | (simp; done) | (simp; omega)) ?_) | (refine m_store (v := Value.slice _ _ _) M rfl rfl rfl rfl rfl (by first | assumption | (simp; done) | (simp; omega)) ?_) | (refine m_store (v := Value.bool _) M rfl rfl rfl rfl rfl (by first | assumption | (simp; done) | (simp; omega)) ?_) | (refine m_store (v := Value.string _) M rfl rfl rfl rfl rfl (by first | assumption | (simp; done) | (simp; omega)) ?_) | (refine m_store (v := Value.pointer _) M rfl rfl rfl rfl rfl (by first | assumption | (simp; done) | (simp; omega)) ?_)); clear M; (try clear wx); intro wx M; simp only [List.set_cons_zero, List.set_cons_succ, Nat.zero_add, List.nil_append] at M)
                | (with_reducible (show wpList _ _ _ (Oper.mk _ (.build _ _) _ _ _ _ :: _) _ _); refine m_buildZ rfl rfl ?_))
              exact m_ret2 M rfl rfl rfl (by rw [bA_size, f.2]) (by rw [HE.out]; rfl)

set_option maxHeartbeats 4000000 in
set_option maxRecDepth 100000 in
theorem lawFindKey_c (v : Value) (s : ByteArray) (hss : s.size ≤ 9223372036854775807) (ks : List Ky) (w : World) (hv : Rd w 32 v ks.length (kyL ks)) : Calls Try.prog 7 #[v, .string s] w fun e w' => e = .returned (.bool true) ∧ Up w w' := by
  obtain ⟨n, hn⟩ : ∃ n, ks.length = n := ⟨_, rfl⟩
  rw [hn] at hv
  obtain ⟨b, cap, rfl⟩ := hv.shape
  have hml : n ≤ maxLen := by have := hv.len_; omega
  have HV := Lib.hid hv
  have HN := Lib.hid hn
  have hmm : maxLen ≤ 9223372036854775807 := by decide
  have hml' : n ≤ 9223372036854775807 := by omega
  clear hv hn hmm
  have M := Mem.start w
  by_cases hs : 1048576 < s.size
  · have g1 : (1048576 : Int) < (s.size : Int) := by omega
    go_enter Try.func7, Try.ntmps7
    go_wp2_with (first
      | (with_reducible (show wpList _ _ _ (Oper.mk (some 6) (.alloc _) _ _ _ _ :: _) _ _); refine mem_new M rfl rfl ?_; clear M; (try clear wx); intro g6 wx M)
      | (with_reducible (show wpList _ _ _ (Oper.mk (some 9) (.alloc _) _ _ _ _ :: _) _ _); refine mem_new M rfl rfl ?_; clear M; (try clear wx); intro g9 wx M)
      | (with_reducible (show wpList _ _ _ (Oper.mk _ (.load _ _) _ _ _ _ :: _) _ _); (first | (refine m_load M rfl rfl rfl (by first | assumption | rfl) ?_) | (refine m_loadR M rfl rfl rfl (by first | rfl | assumption | (simp; done) | (simp; omega)) ?_)))
      | (with_reducible (show wpList _ _ _ (Oper.mk _ (.store _ _ _) _ _ _ _ :: _) _ _); (first | (refine m_storeR M rfl rfl rfl rfl (by first | rfl | assumption | (simp; done) | (simp; omega)) (by first | rfl | assumption | (simp; done) | (simp; omega)) (by first | exact bA_one _ | exact wA_one _ | assumption | (simp [Value.oneCell']; done)) ?_) | (refine m_store (v := Value.int _ _) M rfl rfl rfl rfl rfl (by first | assumption | (simp; done) | (simp; omega)) ?_) | (refine m_store (v := Value.slice _ _ _) M rfl rfl rfl rfl rfl (by first | assumption | (simp; done) | (simp; omega)) ?_) | (refine m_store (v := Value.bool _) M rfl rfl rfl rfl rfl (by first | assumption | (simp; done) | (simp; omega)) ?_) | (refine m_store (v := Value.string _) M rfl rfl rfl rfl rfl (by first | assumption | (simp; done) | (simp; omega)) ?_) | (refine m_store (v := Value.pointer _) M rfl rfl rfl rfl rfl (by first | assumption | (simp; done) | (simp; omega)) ?_)); clear M; (try clear wx); intro wx M; simp only [List.set_cons_zero, List.set_cons_succ, Nat.zero_add, List.nil_append] at M))
    go_ret
    exact ⟨rfl, M.up⟩
  · have g1 : ¬ (1048576 : Int) < (s.size : Int) := by omega
    by_cases hbig : (1048576 : Int) - n < 0
    · go_enter Try.func7, Try.ntmps7
      go_wp2_with (first
        | (go_at_call 13; (with_reducible refine mem_call M (szKeyS_r _ n _ hml _) ?_); clear M; (try clear wx); rintro _ wx rfl _ M; rw [if_pos hbig])
        | (with_reducible (show wpList _ _ _ (Oper.mk (some 6) (.alloc _) _ _ _ _ :: _) _ _); refine mem_new M rfl rfl ?_; clear M; (try clear wx); intro g6 wx M)
        | (with_reducible (show wpList _ _ _ (Oper.mk (some 9) (.alloc _) _ _ _ _ :: _) _ _); refine mem_new M rfl rfl ?_; clear M; (try clear wx); intro g9 wx M)
        | (with_reducible (show wpList _ _ _ (Oper.mk _ (.load _ _) _ _ _ _ :: _) _ _); (first | (refine m_load M rfl rfl rfl (by first | assumption | rfl) ?_) | (refine m_loadR M rfl rfl rfl (by first | rfl | assumption | (simp; done) | (simp; omega)) ?_)))
        | (with_reducible (show wpList _ _ _ (Oper.mk _ (.store _ _ _) _ _ _ _ :: _) _ _); (first | (refine m_storeR M rfl rfl rfl rfl (by first | rfl | assumption | (simp; done) | (simp; omega)) (by first | rfl | assumption | (simp; done) | (simp; omega)) (by first | exact bA_one _ | exact wA_one _ | assumption | (simp [Value.oneCell']; done)) ?_) | (refine m_store (v := Value.int _ _) M rfl rfl rfl rfl rfl (by first | assumption | (simp; done) | (simp; omega)) ?_) | (refine m_store (v := Value.slice _ _ _) M rfl rfl rfl rfl rfl (by first | assumption | (simp; done) | (simp; omega)) ?_) | (refine m_store (v := Value.bool _) M rfl rfl rfl rfl rfl (by first | assumption | (simp; done) | (simp; omega)) ?_) | (refine m_store (v := Value.string _) M rfl rfl rfl rfl rfl (by first | assumption | (simp; done) | (simp; omega)) ?_) | (refine m_store (v := Value.pointer _) M rfl rfl rfl rfl rfl (by first | assumption | (simp; done) | (simp; omega)) ?_)); clear M; (try clear wx); intro wx M; simp only [List.set_cons_zero, List.set_cons_succ, Nat.zero_add, List.nil_append] at M))
      go_ret
      exact ⟨rfl, M.up⟩
    · have hl : n ≤ 1048576 := by omega
      have HS : Hid (∀ v w, Rd w 32 v n (kyL ks) → Ret Try.prog 29 #[v, .string s] w fun r _ => r = .tuple #[.agg (bA (fkT ks s.data.toList).1.1), .int .i64 (fkT ks s.data.toList).2]) := Lib.hid (fun v w h => specFindKey_c s v n ks HN.out w h hl (by omega))
      have HI : Hid (∀ v w, Rd w 32 v n (kyL ks) → Ret Try.prog 30 #[v, .string s] w fun r _ => r = .tuple #[.agg (bA (fkT ks s.data.toList).1.1), .int .i64 (fkT ks s.data.toList).2]) := Lib.hid (fun v w h => implFindKey_c s v n ks HN.out w h hl (by omega))
      generalize (fkT ks s.data.toList).2 = c at *
      generalize (fkT ks s.data.toList).1 = q at *
      have hq32 := q.2
      go_enter Try.func7, Try.ntmps7
      go_wp2_with (first
        | (go_at_call 13; (with_reducible refine mem_call M (szKeyS_r _ n _ hml _) ?_); clear M; (try clear wx); rintro _ wx rfl _ M; rw [if_neg hbig])
        | (go_at_call 15; (with_reducible refine mem_callO M (toKeyS_c _ n ks HN.out _ (HV.out.up M.up) hl) ?_); clear M; (try clear wx); intro b_ cap_ wx M)
        | (go_at_call 29; (with_reducible refine mem_call M (HS.out _ _ (M.rdK ks)) ?_); clear M; (try clear wx); rintro _ wx rfl _ M)
        | (go_at_call 30; (with_reducible refine mem_call M (HI.out _ _ (M.rdK ks)) ?_); clear M; (try clear wx); rintro _ wx rfl _ M)
        | (go_at_call 21; (with_reducible refine mem_call M (eqKey_r _ _) ?_); clear M; (try clear wx); rintro _ wx rfl _ M)
        | (go_at_call 18; (with_reducible refine mem_call M (eqKeyS_same _ _ n ks HN.out _ (by omega) (M.rdK ks) (M.rdK ks)) ?_); clear M; (try clear wx); rintro _ wx rfl _ M)
        | (with_reducible (show wpList _ _ _ (Oper.mk (some 6) (.alloc _) _ _ _ _ :: _) _ _); refine mem_new M rfl rfl ?_; clear M; (try clear wx); intro g6 wx M)
        | (with_reducible (show wpList _ _ _ (Oper.mk (some 9) (.alloc _) _ _ _ _ :: _) _ _); refine mem_new M rfl rfl ?_; clear M; (try clear wx); intro g9 wx M)
        | (with_reducible (show wpList _ _ _ (Oper.mk _ (.load _ _) _ _ _ _ :: _) _ _); (first | (refine m_load M rfl rfl rfl (by first | assumption | rfl) ?_) | (refine m_loadR M rfl rfl rfl (by first | exact hq32 | (rw [bA_size, hq32]; done) | rfl | (simp; done)) ?_)))
        | (with_reducible (show wpList _ _ _ (Oper.mk _ (.store _ _ _) _ _ _ _ :: _) _ _); (first | (refine m_storeR M rfl rfl rfl rfl (by first | exact hq32 | (rw [bA_size, hq32]; done) | rfl | (simp; done)) (by first | exact hq32 | (rw [bA_size, hq32]; done) | rfl | (simp; done)) (bA_allC _) ?_) | (refine m_store (v := Value.int _ _) M rfl rfl rfl rfl rfl (by first | assumption | (simp; done) | (simp; omega)) ?_) | (refine m_store (v := Value.slice _ _ _) M rfl rfl rfl rfl rfl (by first | assumption | (simp; done) | (simp; omega)) ?_) | (refine m_store (v := Value.bool _) M rfl rfl rfl rfl rfl (by first | assumption | (simp; done) | (simp; omega)) ?_) | (refine m_store (v := Value.string _) M rfl rfl rfl rfl rfl (by first | assumption | (simp; done) | (simp; omega)) ?_) | (refine m_store (v := Value.pointer _) M rfl rfl rfl rfl rfl (by first | assumption | (simp; done) | (simp; omega)) ?_)); clear M; (try clear wx); intro wx M; simp only [List.set_cons_zero, List.set_cons_succ, Nat.zero_add, List.nil_append] at M))
      go_ret
      exact ⟨rfl, M.up⟩

end Go.Proofs.Ytmbhaoiahlbglaa

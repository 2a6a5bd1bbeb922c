/- Walks: the first chunk of each piece. -/
import Derived.Test.YtmbhaoiahlbglaaHMp
import Derived.Test.YtmbhaoiahlbglaaHJ
import Derived.Test.YtmbhaoiahlbglaaHCl
import Derived.Test.YtmbhaoiahlbglaaHHp
import Derived.Test.YtmbhaoiahlbglaaHKs
namespace Go.Proofs.Ytmbhaoiahlbglaa
open Go.RowKit
set_option linter.unusedVariables false
set_option linter.unusedSimpArgs false

/-- A chunk's piece. -/
def pcOf (c : List UInt8) : Pc := (hashK 1 c, (c.length : Int))
/-- The first chunk with a piece. -/
def fdC (ls : List (List UInt8)) (p : Pc) : Option (List UInt8) := ls.find? (fun c => decide (pcOf c = p))
/-- The code of a recipe and chunks. -/
def kdC (n : Nat) (ls : List (List UInt8)) : Int := if 256 < n then 3 else chC ls
theorem pcOf_w (c : List UInt8) (h : c.length ≤ 1000000000) : Pw (pcOf c) := by
  unfold Pw pcOf
  dsimp only
  omega
/-- The map knows the first chunk of each piece. -/
def MapSt (o : Obj) (ls : List (List UInt8)) (w : World) : Prop := ∃ es : List (Pc × Value), MapIs o es ∧ (∀ x ∈ es, Pw x.1) ∧ (∀ x ∈ es, ∃ c, fdC ls x.1 = some c ∧ Rd w 1 x.2 c.length (bL c)) ∧ (∀ p c, fdC ls p = some c → ∃ u, (p, u) ∈ es) ∧ (∀ p u u', (p, u) ∈ es → (p, u') ∈ es → u' = u)
section
variable {o : Obj} {ls : List (List UInt8)} {w : World}
theorem MapSt.start (w : World) : MapSt (.map #[] 0) [] w := ⟨[], MapIs.nil, fun x h => by simp at h, fun x h => by simp at h, fun p c h => by simp [fdC] at h, fun p u u' h => by simp at h⟩
theorem MapSt.up (h : MapSt o ls w) {w' : World} (hb : Up w w') : MapSt o ls w' := by
  obtain ⟨es, h1, h2, h3, h4, h5⟩ := h
  exact ⟨es, h1, h2, fun x hx => by obtain ⟨c, hc, hr⟩ := h3 x hx; exact ⟨c, hc, hr.up hb⟩, h4, h5⟩
theorem MapSt.none (h : MapSt o ls w) (p : Pc) (hp : Pw p) (hf : fdC ls p = none) (w' : World) (g : Nat) (hb : w'.heap[g]? = some o) :
    (Instr.lookup 109 (.map (some g)) (.agg (pieC p.1.1 p.2)) true).run Try.prog w' = .ok (.tuple #[.slice none 0 0, .bool false]) w' := by
  obtain ⟨es, h1, h2, h3, h4, h5⟩ := h
  refine h1.look_none h2 p hp (fun x hx e => ?_) w' hb
  obtain ⟨c, hc, _⟩ := h3 x hx
  rw [e, hf] at hc
  cases hc
theorem MapSt.some (h : MapSt o ls w) (p : Pc) (hp : Pw p) {c : List UInt8} (hf : fdC ls p = some c) : ∃ u, Rd w 1 u c.length (bL c) ∧ ∀ (w' : World) (g : Nat), w'.heap[g]? = some o →
    (Instr.lookup 109 (.map (some g)) (.agg (pieC p.1.1 p.2)) true).run Try.prog w' = .ok (.tuple #[u, .bool true]) w' := by
  obtain ⟨es, h1, h2, h3, h4, h5⟩ := h
  obtain ⟨u, hu⟩ := h4 p c hf
  obtain ⟨c', hc', hr⟩ := h3 _ hu
  have : c' = c := by rw [hf] at hc'; exact (Option.some.inj hc').symm
  subst this
  exact ⟨u, hr, fun w' g hb => h1.look_some h2 p hp u hu (fun u' h' => h5 p u u' hu h') w' hb⟩
theorem fdC_snoc (ls : List (List UInt8)) (c : List UInt8) (p : Pc) : fdC (ls ++ [c]) p = (fdC ls p).or (if pcOf c = p then Option.some c else Option.none) := by
  unfold fdC
  rw [List.find?_append]
  congr 1
  by_cases h : pcOf c = p
  · rw [if_pos h]
    simp [h]
  · rw [if_neg h]
    simp [h]
theorem MapSt.known (h : MapSt o ls w) {c c' : List UInt8} (hf : fdC ls (pcOf c) = Option.some c') : MapSt o (ls ++ [c]) w := by
  obtain ⟨es, h1, h2, h3, h4, h5⟩ := h
  have key : ∀ p, fdC (ls ++ [c]) p = fdC ls p := fun p => by
    rw [fdC_snoc]
    by_cases e : pcOf c = p
    · rw [if_pos e, ← e, hf]
      rfl
    · rw [if_neg e]
      simp
  exact ⟨es, h1, h2, fun x hx => by rw [key]; exact h3 x hx, fun p c hp => by rw [key] at hp; exact h4 p c hp, h5⟩
theorem MapSt.push (h : MapSt o ls w) {c : List UInt8} (hf : fdC ls (pcOf c) = Option.none) (hp : Pw (pcOf c)) {u : Value} (hu : Rd w 1 u c.length (bL c)) : ∃ o', MapSt o' (ls ++ [c]) w ∧ ∀ (w' : World) (g : Nat), w'.heap[g]? = Option.some o →
    (Instr.mapUpdate 109 (.map (Option.some g)) (.agg (pieC (pcOf c).1.1 (pcOf c).2)) u).run Try.prog w' = .ok () (ChangeMaps.setBlock w' g o') := by
  obtain ⟨es, h1, h2, h3, h4, h5⟩ := h
  have hne : ∀ x ∈ es, x.1 ≠ pcOf c := fun x hx e => by
    obtain ⟨c', hc, _⟩ := h3 x hx
    rw [e, hf] at hc
    cases hc
  obtain ⟨o', k1, k2⟩ := h1.update h2 (pcOf c) hp hne u
  refine ⟨o', ⟨es ++ [(pcOf c, u)], k1, fun x hx => ?_, fun x hx => ?_, fun p c' h' => ?_, fun p a b ha hb => ?_⟩, k2⟩
  · rcases List.mem_append.1 hx with hx | hx
    · exact h2 x hx
    · simp at hx; subst hx; exact hp
  · rcases List.mem_append.1 hx with hx | hx
    · obtain ⟨c', hc, hr⟩ := h3 x hx
      exact ⟨c', by rw [fdC_snoc, hc]; rfl, hr⟩
    · simp at hx
      subst hx
      exact ⟨c, by rw [fdC_snoc]; dsimp only; rw [hf, if_pos rfl]; rfl, hu⟩
  · rw [fdC_snoc] at h'
    cases hq : fdC ls p with
    | some c'' =>
      obtain ⟨u', hu'⟩ := h4 p c'' hq
      exact ⟨u', by simp [hu']⟩
    | none =>
      rw [hq] at h'
      by_cases e : pcOf c = p
      · exact ⟨u, by simp [e]⟩
      · rw [if_neg e] at h'
        cases h'
  · simp only [List.mem_append, List.mem_singleton, Prod.mk.injEq] at ha hb
    rcases ha with ha | ⟨ha1, ha2⟩ <;> rcases hb with hb | ⟨hb1, hb2⟩
    · exact h5 p a b ha hb
    · exact absurd hb1 (hne _ ha)
    · exact absurd ha1 (hne _ hb)
    · rw [ha2, hb2]
end
section
variable {P : Program} {ops : Array Oper} {rest : List Oper} {o : Oper} {a : Act} {w : World} {Q : Exit → Act → World → Prop}
theorem m_build01 (hgd : o.guard = none) {t : TypeId} {x0 x1 : Operand} (ho : o.op = .build t #[(0, x0), (1, x1)]) {v0 v1 : Value} (h0 : a.eval x0 = v0) (h1 : a.eval x1 = v1) {cells : Array Value} (hb : P.built t [(0, v0), (1, v1)] = some cells)
    (h : wpList P ops Q rest (a.put o.dst (.agg cells)) w) : wpList P ops Q (o :: rest) a w :=
  wpList_buildTo hgd t _ ho o.dst rfl cells (by simpa [h0, h1] using hb) h
end
section
variable {P : Program} {Q : Exit → Act → World → Prop} {o : Oper} {a : Act} {w : World} {F : Value → World → Prop}
theorem st_fld {t : TypeId} {x : Operand} {i : Nat} (ho : o.op = .fieldAddr t x i) {fs : Array Field} (hu : P.underlying t = some (.struct fs)) {f : Field} (hf : fs[i]? = some f) {g off : Nat} (hx : a.eval x = .pointer (some ⟨g, off, none⟩)) (k : Nat) (hk : f.offset = k) (hs : (P.info? f.type).map (fun i => decide (i.size = 0)) = some false)
    (hF : F (.pointer (some ⟨g, off + k, none⟩)) w) : St P o a w Q F := by
  refine st_run (v := .pointer (some ⟨g, off + k, none⟩)) ?_ hF
  unfold execOp
  subst hk
  obtain ⟨i0, hi, hs⟩ := Option.map_eq_some_iff.1 hs
  have hs' : i0.size ≠ 0 := of_decide_eq_false hs
  simp [ho, hx, Instr.fieldAt, Instr.sureAddr, run_underlying hu, hf, Sem.run_bind, fieldPlace, Addr.add_mid, sizeOf, typeInfo, hi, hs']
end
theorem built_pieP (parts : List (Nat × Value)) : Try.prog.built 103 parts = Instr.fill (#[(0, 32), (32, 1)][·]?) (pieC zero32 0) parts := by kernel_rfl
theorem built_pie (p : Pc) : Try.prog.built 103 [(0, .agg (bA p.1.1)), (1, .int .i64 p.2)] = some (pieC p.1.1 p.2) := by
  have hz : (pieC zero32 0).size = 33 := pie_size _ rfl _
  rw [built_pieP, fill_cons _ _ _ _ _ 0 32 rfl (by show (bA p.1.1).size = 32; rw [bA_size, p.1.2]) (by rw [hz]; omega), fill_cons _ _ _ _ _ 32 1 rfl rfl (by rw [putC_size, hz]; omega)]
  rw [show (Value.agg (bA p.1.1)).cells.toList = bL p.1.1 from rfl, pie_set0 _ _ rfl p.1.2, show (Value.int .i64 p.2).cells.toList = [.int .i64 p.2] from rfl]
  show some ((pieC p.1.1 0).setIfInBounds 32 _) = _
  rw [pie_set32 _ p.1.2]

theorem hash1_r (v : Value) (l : List UInt8) (w : World) (hv : Rd w 1 v l.length (bL l)) (hl : l.length ≤ 100000000) : Ret Try.prog 105 #[.int .u8 1, v] w fun r _ => r = .agg (bA (hashK 1 l).1) := hash_c 1 v l w hv hl
set_option maxHeartbeats 2000000 in
set_option maxRecDepth 100000 in
theorem shelf_c (v : Value) (ls : List (List UInt8)) (wa w : World) (hu : Up wa w) (hv : RdS wa v ls) (hl : ls.flatten.length ≤ 100000000) (hn : ls.length ≤ 1000000000) :
    Ret Try.prog 100 #[v] w fun r w' => ∃ g o, r = .map (some g) ∧ w.heap.size ≤ g ∧ w'.heap[g]? = some o ∧ MapSt o ls wa := by
  obtain ⟨b, cap, rfl⟩ := hv.shape
  have HV := Lib.hid hv
  have UB := Lib.hid (fun wx (h : Up w wx) => hu.trans h)
  refine ret_start fun wx M => ?_
  clear hv
  go_enter Try.func100, Try.ntmps100
  go_wp2_with (first
    | (with_reducible (show wpList _ _ _ (Oper.mk (some 9) (.makeMap _ _) _ _ _ _ :: _) _ _); refine m_makeMap M rfl rfl ?_; clear M; (try clear wx); intro g9 wx M)
    | (with_reducible (show wpList _ _ _ (Oper.mk (some 6) (.alloc _) _ _ _ _ :: _) _ _); refine mem_new M rfl rfl ?_; clear M; (try clear wx); intro g6 wx M)
    | (with_reducible (show wpList _ _ _ (Oper.mk _ (.load _ _) _ _ _ _ :: _) _ _); (first | (refine m_load M rfl rfl rfl (by first | assumption | rfl) ?_) | (refine m_loadR M rfl rfl rfl (by first | rfl | assumption | (simp; done) | (simp; omega)) ?_)))
    | (with_reducible (show wpList _ _ _ (Oper.mk _ (.store _ _ _) _ _ _ _ :: _) _ _); (first | (refine m_storeR M rfl rfl rfl rfl (by first | rfl | assumption | (simp; done) | (simp; omega)) (by first | rfl | assumption | (simp; done) | (simp; omega)) (by first | exact bA_one _ | exact wA_one _ | assumption | (simp [Value.oneCell']; done)) ?_) | (refine m_store (v := Value.int _ _) M rfl rfl rfl rfl rfl (by first | assumption | (simp; done) | (simp; omega)) ?_) | (refine m_store (v := Value.slice _ _ _) M rfl rfl rfl rfl rfl (by first | assumption | (simp; done) | (simp; omega)) ?_) | (refine m_store (v := Value.bool _) M rfl rfl rfl rfl rfl (by first | assumption | (simp; done) | (simp; omega)) ?_) | (refine m_store (v := Value.string _) M rfl rfl rfl rfl rfl (by first | assumption | (simp; done) | (simp; omega)) ?_) | (refine m_store (v := Value.pointer _) M rfl rfl rfl rfl rfl (by first | assumption | (simp; done) | (simp; omega)) ?_)); clear M; (try clear wx); intro wx M; simp only [List.set_cons_zero, List.set_cons_succ, Nat.zero_add, List.nil_append] at M)
    | (with_reducible (show wpList _ _ _ (Oper.mk _ (.build _ _) _ _ _ _ :: _) _ _); refine m_buildZ rfl rfl ?_))
  go_loopg [12] ls.length (fun q i wr => ∃ (j : Nat) (ob : Obj), j + q = ls.length ∧ i = .int .i64 (j : Int) ∧ Hid (MapSt ob (ls.take j) wa) ∧ Mem w wr [.obj g9 ob])
  case atStart => exact ⟨0, _, by omega, rfl, Lib.hid (by rw [List.take_zero]; exact MapSt.start wa), M⟩
  case round =>
    clear M
    obtain ⟨j, ob, hj, rfl, HS, M⟩ := hrel
    by_cases hlt : j < ls.length
    · obtain ⟨g, o, b', cap', rfl, hc, hr⟩ := HV.out.at_ j hlt
      have C1 := Lib.hid hc
      have R1 := Lib.hid hr
      have hle := flat_le ls (j + 1)
      rw [flat_take ls j hlt, List.length_append] at hle
      have HTS := Lib.hid (show ls.take (j + 1) = ls.take j ++ [ls[j]] from List.take_succ_eq_append_getElem hlt)
      have HJ := Lib.hid hj
      have hcl : (ls[j]).length ≤ 100000000 := by omega
      clear hc hj hle hr
      generalize (ls[j]'hlt) = c at *
      obtain ⟨k, hk⟩ : ∃ k, hashK 1 c = k := ⟨_, rfl⟩
      have hpc : pcOf c = (k, (c.length : Int)) := by unfold pcOf; rw [hk]
      have hpw := pcOf_w c (by omega)
      have HH := Lib.hid (show ∀ (w : World), Rd w 1 (.slice b' c.length cap') c.length (bL c) → Ret Try.prog 105 #[.int .u8 1, .slice b' c.length cap'] w fun r _ => r = .agg (bA k.1) from fun w h => by
        have := hash1_r _ c w h hcl
        rw [hk] at this
        exact this)
      have HB := Lib.hid (show Try.prog.built 103 [(0, .agg (bA k.1)), (1, .int .i64 (c.length : Int))] = some (pieC k.1 (c.length : Int)) from built_pie (k, (c.length : Int)))
      have hz := pie_size k.1 k.2 (c.length : Int)
      have hone := pie_one (k, (c.length : Int))
      have HKN : Hid (∀ c', fdC (ls.take j) (k, (c.length : Int)) = some c' → MapSt ob (ls.take j ++ [c]) wa) := Lib.hid (fun c' h => HS.out.known (by rw [hpc]; exact h))
      have HKP := Lib.hid (fun (h : fdC (ls.take j) (k, (c.length : Int)) = none) => HS.out.push (c := c) (by rw [hpc]; exact h) hpw R1.out)
      rw [hpc] at hpw HKP
      clear hk hpc
      cases hf : fdC (ls.take j) (k, (c.length : Int)) with
      | some c' =>
        obtain ⟨u, _, hlk⟩ := HS.out.some (k, (c.length : Int)) hpw hf
        have HLK := Lib.hid hlk
        have HN := Lib.hid (HKN.out _ hf)
        clear hlk hf HS hpw HKN HKP
        go_wp2_with (first
          | (go_at_call 105; (with_reducible refine mem_call M (HH.out _ (R1.out.up (UB.out _ M.up))) ?_); clear M; (try clear wx); rintro _ wx rfl _ M)
          | (go_at_call 130; (with_reducible refine mem_call M (sizeByte_c _ _ _ _) ?_); clear M; (try clear wx); rintro _ wx rfl _ M)
          | (with_reducible (show wpList _ _ _ (Oper.mk (some 20) (.build _ _) _ _ _ _ :: _) _ _); refine m_build01 (v0 := .agg (bA k.1)) (v1 := .int .i64 (c.length : Int)) rfl rfl rfl rfl HB.out ?_)
          | (with_reducible (show wpList _ _ _ (Oper.mk _ (.lookup _ _ _ _) _ _ _ _ :: _) _ _); refine m_lookup (k := .agg (pieC k.1 (c.length : Int))) M rfl rfl rfl rfl (fun w h => HLK.out w _ h) ?_)
          | (with_reducible (show wpList _ _ _ (Oper.mk (some 6) (.alloc _) _ _ _ _ :: _) _ _); refine mem_new M rfl rfl ?_; clear M; (try clear wx); intro g6 wx M)
          | (with_reducible (show wpList _ _ _ (Oper.mk _ (.load _ _) _ _ _ _ :: _) _ _); (first | (refine wpList_load_one rfl rfl rfl (C1.out _ (UB.out _ M.up)) ?_) | (refine m_load M rfl rfl rfl (by first | assumption | rfl) ?_) | (refine m_loadR M rfl rfl rfl (by first | exact hz | exact pie_size _ rfl _ | (simp; done)) ?_)))
          | (with_reducible (show wpList _ _ _ (Oper.mk _ (.store _ _ _) _ _ _ _ :: _) _ _); (first | (refine m_storeR M rfl rfl rfl rfl (by first | exact hz | exact pie_size _ rfl _ | (simp; done)) (by first | exact hz | exact pie_size _ rfl _ | (simp; done)) hone ?_) | (refine m_store (v := Value.int _ _) M rfl rfl rfl rfl rfl (by first | assumption | (simp; done) | (simp; omega)) ?_) | (refine m_store (v := Value.slice _ _ _) M rfl rfl rfl rfl rfl (by first | assumption | (simp; done) | (simp; omega)) ?_) | (refine m_store (v := Value.bool _) M rfl rfl rfl rfl rfl (by first | assumption | (simp; done) | (simp; omega)) ?_) | (refine m_store (v := Value.string _) M rfl rfl rfl rfl rfl (by first | assumption | (simp; done) | (simp; omega)) ?_) | (refine m_store (v := Value.pointer _) M rfl rfl rfl rfl rfl (by first | assumption | (simp; done) | (simp; omega)) ?_)); clear M; (try clear wx); intro wx M; simp only [List.set_cons_zero, List.set_cons_succ, Nat.zero_add, List.nil_append] at M)
          | (with_reducible (show wpList _ _ _ (Oper.mk _ (.build _ _) _ _ _ _ :: _) _ _); refine m_buildZ rfl rfl ?_))
        have M := M.tail
        have hj := HJ.out
        go_roundg (gk - 1)
        case measure => omega
        case rel => exact ⟨j + 1, ob, by omega, by go_num, by rw [HTS.out]; exact HN, M⟩
      | none =>
        have HLK := Lib.hid (fun w g h => HS.out.none (k, (c.length : Int)) hpw hf w g h)
        obtain ⟨ob', hs', hup⟩ := HKP.out hf
        have HN := Lib.hid hs'
        have HUP := Lib.hid hup
        clear hs' hup hf HS hpw HKN HKP
        go_wp2_with (first
          | (go_at_call 105; (with_reducible refine mem_call M (HH.out _ (R1.out.up (UB.out _ M.up))) ?_); clear M; (try clear wx); rintro _ wx rfl _ M)
          | (go_at_call 130; (with_reducible refine mem_call M (sizeByte_c _ _ _ _) ?_); clear M; (try clear wx); rintro _ wx rfl _ M)
          | (with_reducible (show wpList _ _ _ (Oper.mk (some 20) (.build _ _) _ _ _ _ :: _) _ _); refine m_build01 (v0 := .agg (bA k.1)) (v1 := .int .i64 (c.length : Int)) rfl rfl rfl rfl HB.out ?_)
          | (with_reducible (show wpList _ _ _ (Oper.mk _ (.lookup _ _ _ _) _ _ _ _ :: _) _ _); refine m_lookup (k := .agg (pieC k.1 (c.length : Int))) M rfl rfl rfl rfl (fun w h => HLK.out w _ h) ?_)
          | (with_reducible (show wpList _ _ _ (Oper.mk _ (.mapUpdate _ _ _ _) _ _ _ _ :: _) _ _); refine m_mapUpdate (k := .agg (pieC k.1 (c.length : Int))) (v := .slice b' c.length cap') M rfl rfl rfl rfl rfl HUP.out ?_; clear M; (try clear wx); intro wx M; simp only [List.set_cons_zero, List.set_cons_succ, Nat.zero_add, List.nil_append] at M)
          | (with_reducible (show wpList _ _ _ (Oper.mk (some 6) (.alloc _) _ _ _ _ :: _) _ _); refine mem_new M rfl rfl ?_; clear M; (try clear wx); intro g6 wx M)
          | (with_reducible (show wpList _ _ _ (Oper.mk _ (.load _ _) _ _ _ _ :: _) _ _); (first | (refine wpList_load_one rfl rfl rfl (C1.out _ (UB.out _ M.up)) ?_) | (refine m_load M rfl rfl rfl (by first | assumption | rfl) ?_) | (refine m_loadR M rfl rfl rfl (by first | exact hz | exact pie_size _ rfl _ | (simp; done)) ?_)))
          | (with_reducible (show wpList _ _ _ (Oper.mk _ (.store _ _ _) _ _ _ _ :: _) _ _); (first | (refine m_storeR M rfl rfl rfl rfl (by first | exact hz | exact pie_size _ rfl _ | (simp; done)) (by first | exact hz | exact pie_size _ rfl _ | (simp; done)) hone ?_) | (refine m_store (v := Value.int _ _) M rfl rfl rfl rfl rfl (by first | assumption | (simp; done) | (simp; omega)) ?_) | (refine m_store (v := Value.slice _ _ _) M rfl rfl rfl rfl rfl (by first | assumption | (simp; done) | (simp; omega)) ?_) | (refine m_store (v := Value.bool _) M rfl rfl rfl rfl rfl (by first | assumption | (simp; done) | (simp; omega)) ?_) | (refine m_store (v := Value.string _) M rfl rfl rfl rfl rfl (by first | assumption | (simp; done) | (simp; omega)) ?_) | (refine m_store (v := Value.pointer _) M rfl rfl rfl rfl rfl (by first | assumption | (simp; done) | (simp; omega)) ?_)); clear M; (try clear wx); intro wx M; simp only [List.set_cons_zero, List.set_cons_succ, Nat.zero_add, List.nil_append] at M)
          | (with_reducible (show wpList _ _ _ (Oper.mk _ (.build _ _) _ _ _ _ :: _) _ _); refine m_buildZ rfl rfl ?_))
        have M := M.tail
        have hj := HJ.out
        go_roundg (gk - 1)
        case measure => omega
        case rel => exact ⟨j + 1, ob', by omega, by go_num, by rw [HTS.out]; exact HN, M⟩
    · have HE := Lib.hid (show MapSt ob ls wa by have := HS.out; rwa [List.take_of_length_le (by omega)] at this)
      have MM := Lib.hid M
      clear HS
      go_wp2_with fail
      go_ret
      exact ⟨_, rfl, ⟨g9, ob, rfl, (MM.out.at_ (p := 0) rfl).1, MM.out.objM g9, HE.out⟩, MM.out.up⟩

theorem mem_callMap {P : Program} {w0 w : World} {L : List It} {f : FuncId} {args : Array Value} {R : Nat → Obj → Prop} (M : Mem w0 w L) {K : Ending → World → Prop} (h : Ret P f args w fun r w' => ∃ g o, r = .map (some g) ∧ w.heap.size ≤ g ∧ w'.heap[g]? = some o ∧ R g o)
    (k : ∀ g o w', R g o → Mem w0 w' (.obj g o :: L) → K (.returned (.map (some g))) w') : Calls P f args w K :=
  Calls.mono h fun e w' ⟨r, he, ⟨g, o, hr, hg, ho, hR⟩, hb⟩ => by
    subst he hr
    exact k g o w' hR (M.addObj hb hg ho)

set_option maxHeartbeats 1000000 in
set_option maxRecDepth 100000 in
theorem buildCode_c (b : Option Addr) (n cap : Nat) (v : Value) (ls : List (List UInt8)) (w : World) (hv : RdS w v ls) (hl : ls.flatten.length ≤ 1000000000) (hn : ls.length ≤ 1000000000) :
    Ret Try.prog 99 #[.slice b n cap, v] w fun r _ => r = .int .i64 (kdC n ls) := by
  have HV := Lib.hid hv
  refine ret_start fun wx M => ?_
  clear hv
  by_cases hbig : 256 < n
  · have HE := Lib.hid (show kdC n ls = 3 by rw [kdC, if_pos hbig])
    go_enter Try.func99, Try.ntmps99
    go_wp2_with fail
    go_ret
    exact ⟨_, rfl, by rw [HE.out]; rfl, M.up⟩
  · have HE := Lib.hid (show kdC n ls = chC ls by rw [kdC, if_neg hbig])
    have HC := Lib.hid (fun (w : World) (h : RdS w v ls) => chunksCode_c v ls w h hl hn)
    generalize chC ls = c at *
    go_enter Try.func99, Try.ntmps99
    go_wp2_with (first
      | (go_at_call 129; (with_reducible refine mem_call M (HC.out _ (HV.out.up M.up)) ?_); clear M; (try clear wx); rintro _ wx rfl _ M))
    go_ret
    exact ⟨_, rfl, by rw [HE.out]; rfl, M.up⟩

def mfL (ps : List Pc) (ls : List (List UInt8)) : List Ky := (ps.filter (fun p => (fdC ls p).isNone)).map (·.1)
def mfT (ps : List Pc) (ls : List (List UInt8)) : List Ky × Int := if kdC ps.length ls = 0 then (setK (mfL ps ls), 0) else ([], kdC ps.length ls)
theorem mfL_snoc (ps : List Pc) (ls : List (List UInt8)) (p : Pc) : mfL (ps ++ [p]) ls = mfL ps ls ++ (if (fdC ls p).isNone then [p.1] else []) := by
  unfold mfL
  rw [List.filter_append, List.map_append]
  by_cases h : (fdC ls p).isNone
  · simp [h]
  · simp [h]
theorem mfL_len (ps : List Pc) (ls : List (List UInt8)) : (mfL ps ls).length ≤ ps.length := by
  unfold mfL
  rw [List.length_map]
  exact List.length_filter_le _ _
theorem kdC_cases (n : Nat) (ls : List (List UInt8)) : kdC n ls = 3 ∨ (kdC n ls = 0 ∧ n ≤ 256 ∧ ls.flatten.length ≤ 4096 ∧ ls.length ≤ 4096) := by
  unfold kdC chC
  split
  · exact .inl rfl
  · split
    · exact .inl rfl
    · rename_i h1 h2
      exact .inr ⟨rfl, by omega, by omega, by omega⟩
theorem mfT_len (ps : List Pc) (ls : List (List UInt8)) : (mfT ps ls).1.length ≤ 256 := by
  unfold mfT
  split
  · rename_i h
    rcases kdC_cases ps.length ls with h2 | ⟨_, h3, _⟩
    · rw [h2] at h; cases h
    · have h4 := mfL_len ps ls
      have h5 := setK_len (mfL ps ls)
      show (setK (mfL ps ls)).length ≤ 256
      omega
  · exact Nat.zero_le _

set_option maxHeartbeats 4000000 in
set_option maxRecDepth 100000 in
theorem implMissingFor_c (va vb : Value) (n : Nat) (ps : List Pc) (hps : ps.length = n) (hpw : ∀ p ∈ ps, Pw p) (ls : List (List UInt8)) (w : World) (ha : Rd w 33 va n (piL ps)) (hb : RdS w vb ls) (hl : ls.flatten.length ≤ 100000000) (hn : ls.length ≤ 1000000000) :
    Ret Try.prog 42 #[va, vb] w fun r w' => OwnR2 w w' 25 32 r (mfT ps ls).1.length (kyL (mfT ps ls).1) (.int .i64 (mfT ps ls).2) := by
  obtain ⟨b, cap, rfl⟩ := ha.shape
  have HA := Lib.hid ha
  have HB := Lib.hid hb
  have HK := Lib.hid hps
  refine ret_start fun wx M => ?_
  have HBC := Lib.hid (fun (w : World) (h : RdS w vb ls) => buildCode_c b n cap vb ls w h (by omega) hn)
  clear ha hb
  rcases kdC_cases n ls with hc | ⟨hc, hn256, hl2, hn2⟩
  · have HE := Lib.hid (show mfT ps ls = ([], 3) by rw [mfT, hps, hc, if_neg (by decide)])
    rw [hc] at HBC
    clear hps
    go_enter Try.func42, Try.ntmps42
    go_wp2_with (first
      | (go_at_call 99; (with_reducible refine mem_call M (HBC.out _ (HB.out.up M.up)) ?_); clear M; (try clear wx); rintro _ wx rfl _ M)
      | (with_reducible (show wpList _ _ _ (Oper.mk (some 21) (.buildSlice _ _ _) _ _ _ _ :: _) _ _); refine m_lit0 M rfl rfl ?_; clear M; (try clear wx); intro g21 wx M)
      | (with_reducible (show wpList _ _ _ (Oper.mk (some 10) (.alloc _) _ _ _ _ :: _) _ _); refine mem_new M rfl rfl ?_; clear M; (try clear wx); intro g10 wx M)
      | (with_reducible (show wpList _ _ _ (Oper.mk (some 39) (.buildSlice _ _ _) _ _ _ _ :: _) _ _); (first | (refine m_lit1A M rfl rfl rfl (by first | rfl | assumption | (simp; done) | (simp; omega)) (by decide) ?_) | (refine m_lit11 (v := Value.int _ _) M rfl rfl rfl rfl ?_) | (refine m_lit11 (v := Value.slice _ _ _) M rfl rfl rfl rfl ?_) | (refine m_lit11 (v := Value.bool _) M rfl rfl rfl rfl ?_) | (refine m_lit11 (v := Value.string _) M rfl rfl rfl rfl ?_) | (refine m_lit11 (v := Value.pointer _) M rfl rfl rfl rfl ?_)); clear M; (try clear wx); intro g39 wx M)
      | (with_reducible (show wpList _ _ _ (Oper.mk _ (.load _ _) _ _ _ _ :: _) _ _); (first | (refine m_load M rfl rfl rfl (by first | assumption | rfl) ?_) | (refine m_loadR M rfl rfl rfl (by first | rfl | assumption | (simp; done) | (simp; omega)) ?_)))
      | (with_reducible (show wpList _ _ _ (Oper.mk _ (.store _ _ _) _ _ _ _ :: _) _ _); (first | (refine m_storeR M rfl rfl rfl rfl (by first | rfl | assumption | (simp; done) | (simp; omega)) (by first | rfl | assumption | (simp; done) | (simp; omega)) (by first | exact bA_one _ | exact wA_one _ | assumption | (simp [Value.oneCell']; done)) ?_) | (refine m_store (v := Value.int _ _) M rfl rfl rfl rfl rfl (by first | assumption | (simp; done) | (simp; omega)) ?_) | (refine m_store (v := Value.slice _ _ _) M rfl rfl rfl rfl rfl (by first | assumption | (simp; done) | (simp; omega)) ?_) | (refine m_store (v := Value.bool _) M rfl rfl rfl rfl rfl (by first | assumption | (simp; done) | (simp; omega)) ?_) | (refine m_store (v := Value.string _) M rfl rfl rfl rfl rfl (by first | assumption | (simp; done) | (simp; omega)) ?_) | (refine m_store (v := Value.pointer _) M rfl rfl rfl rfl rfl (by first | assumption | (simp; done) | (simp; omega)) ?_)); clear M; (try clear wx); intro wx M; simp only [List.set_cons_zero, List.set_cons_succ, Nat.zero_add, List.nil_append] at M)
      | (with_reducible (show wpList _ _ _ (Oper.mk _ (.call (Call.mk (.builtin .append) _ _)) _ _ _ _ :: _) _ _); (first | (refine m_append1 M rfl rfl rfl (by first | rfl | omega | (simp; done)) rfl (by first | rfl | assumption | (simp; done) | (simp; omega)) (by first | exact bA_one _ | exact wA_one _ | assumption | (simp [Value.oneCell']; done)) (by first | assumption | (simp only [maxLen]; omega)) (by omega) ?_)); clear M; (try clear wx); intro _ _ wx M; simp only [List.set_cons_zero, List.set_cons_succ, Nat.zero_add, List.nil_append] at M))
    go_ret2
    exact ⟨_, rfl, by rw [HE.out]; exact ⟨_, _, rfl, (M.nil_own 25 32).out_own (p := 0) rfl⟩, M.up⟩
  · have HE := Lib.hid (show mfT ps ls = (setK (mfL ps ls), 0) by rw [mfT, hps, hc, if_pos rfl])
    rw [hc] at HBC
    clear hps hc
    go_enter Try.func42, Try.ntmps42
    go_wp2_with (first
      | (go_at_call 99; (with_reducible refine mem_call M (HBC.out _ (HB.out.up M.up)) ?_); clear M; (try clear wx); rintro _ wx rfl _ M)
      | (go_at_call 100; (with_reducible refine mem_callMap M (shelf_c vb ls _ _ M.up HB.out hl hn) ?_); clear M; (try clear wx); intro g7 ob wx hms M; have HMS := Lib.hid hms; clear hms)
      | (with_reducible (show wpList _ _ _ (Oper.mk (some 21) (.buildSlice _ _ _) _ _ _ _ :: _) _ _); refine m_lit0 M rfl rfl ?_; clear M; (try clear wx); intro g21 wx M)
      | (with_reducible (show wpList _ _ _ (Oper.mk (some 10) (.alloc _) _ _ _ _ :: _) _ _); refine mem_new M rfl rfl ?_; clear M; (try clear wx); intro g10 wx M)
      | (with_reducible (show wpList _ _ _ (Oper.mk (some 39) (.buildSlice _ _ _) _ _ _ _ :: _) _ _); (first | (refine m_lit1A M rfl rfl rfl (by first | rfl | assumption | (simp; done) | (simp; omega)) (by decide) ?_) | (refine m_lit11 (v := Value.int _ _) M rfl rfl rfl rfl ?_) | (refine m_lit11 (v := Value.slice _ _ _) M rfl rfl rfl rfl ?_) | (refine m_lit11 (v := Value.bool _) M rfl rfl rfl rfl ?_) | (refine m_lit11 (v := Value.string _) M rfl rfl rfl rfl ?_) | (refine m_lit11 (v := Value.pointer _) M rfl rfl rfl rfl ?_)); clear M; (try clear wx); intro g39 wx M)
      | (with_reducible (show wpList _ _ _ (Oper.mk _ (.load _ _) _ _ _ _ :: _) _ _); (first | (refine m_load M rfl rfl rfl (by first | assumption | rfl) ?_) | (refine m_loadR M rfl rfl rfl (by first | rfl | assumption | (simp; done) | (simp; omega)) ?_)))
      | (with_reducible (show wpList _ _ _ (Oper.mk _ (.store _ _ _) _ _ _ _ :: _) _ _); (first | (refine m_storeR M rfl rfl rfl rfl (by first | rfl | assumption | (simp; done) | (simp; omega)) (by first | rfl | assumption | (simp; done) | (simp; omega)) (by first | exact bA_one _ | exact wA_one _ | assumption | (simp [Value.oneCell']; done)) ?_) | (refine m_store (v := Value.int _ _) M rfl rfl rfl rfl rfl (by first | assumption | (simp; done) | (simp; omega)) ?_) | (refine m_store (v := Value.slice _ _ _) M rfl rfl rfl rfl rfl (by first | assumption | (simp; done) | (simp; omega)) ?_) | (refine m_store (v := Value.bool _) M rfl rfl rfl rfl rfl (by first | assumption | (simp; done) | (simp; omega)) ?_) | (refine m_store (v := Value.string _) M rfl rfl rfl rfl rfl (by first | assumption | (simp; done) | (simp; omega)) ?_) | (refine m_store (v := Value.pointer _) M rfl rfl rfl rfl rfl (by first | assumption | (simp; done) | (simp; omega)) ?_)); clear M; (try clear wx); intro wx M; simp only [List.set_cons_zero, List.set_cons_succ, Nat.zero_add, List.nil_append] at M)
      | (with_reducible (show wpList _ _ _ (Oper.mk _ (.call (Call.mk (.builtin .append) _ _)) _ _ _ _ :: _) _ _); (first | (refine m_append1 M rfl rfl rfl (by first | rfl | omega | (simp; done)) rfl (by first | rfl | assumption | (simp; done) | (simp; omega)) (by first | exact bA_one _ | exact wA_one _ | assumption | (simp [Value.oneCell']; done)) (by first | assumption | (simp only [maxLen]; omega)) (by omega) ?_)); clear M; (try clear wx); intro _ _ wx M; simp only [List.set_cons_zero, List.set_cons_succ, Nat.zero_add, List.nil_append] at M))
    go_loopg [8, 24] n (fun q s i wr => ∃ (j m : Nat) (out : List Ky) (b : Option Addr) (cap : Nat), j + q = n ∧ s = .slice b m cap ∧ i = .int .i64 (j : Int) ∧ m ≤ j ∧ Hid (out.length = m ∧ out = mfL (ps.take j) ls) ∧ Mem w wr [.own b cap 25 32 m (kyL out), .obj g7 ob])
    case atStart => exact ⟨0, 0, [], _, _, by omega, rfl, rfl, Nat.le_refl _, Lib.hid ⟨rfl, rfl⟩, M⟩
    case round =>
      clear M
      obtain ⟨j, m, out, b, cap, hj, rfl, rfl, hm, HO, M⟩ := hrel
      by_cases hlt : j < n
      · obtain ⟨g, o, rfl, hc⟩ := HA.out.open_ (by omega)
        have hjl : j < ps.length := by rw [HK.out]; exact hlt
        have C1 := Lib.hid (fun wx (hb : Up w wx) => piL_range (hc wx hb) j hjl)
        have HW := hpw _ (List.getElem_mem hjl)
        have HTS := Lib.hid (show mfL (ps.take (j + 1)) ls = mfL (ps.take j) ls ++ (if (fdC ls ps[j]).isNone then [ps[j].1] else []) by rw [List.take_succ_eq_append_getElem hjl, mfL_snoc])
        have HJ := Lib.hid hj
        clear hc hj
        generalize (ps[j]'hjl) = p at *
        obtain ⟨⟨k, hk32⟩, z⟩ := p
        have hz := pie_size k hk32 z
        have hone := pie_one (⟨k, hk32⟩, z)
        cases hf : fdC ls (⟨k, hk32⟩, z) with
        | some c' =>
          obtain ⟨u, _, hlk⟩ := HMS.out.some _ HW hf
          have HLK := Lib.hid hlk
          have HN := Lib.hid (show mfL (ps.take (j + 1)) ls = mfL (ps.take j) ls by rw [HTS.out, hf]; simp)
          clear hlk hf HW
          go_wp2_with (first
            | (with_reducible (show wpList _ _ _ (Oper.mk _ (.lookup _ _ _ _) _ _ _ _ :: _) _ _); refine m_lookup (k := .agg (pieC k z)) M rfl rfl rfl rfl (fun w h => HLK.out w _ h) ?_)
            | (with_reducible (show wpList _ _ _ (Oper.mk (some 21) (.buildSlice _ _ _) _ _ _ _ :: _) _ _); refine m_lit0 M rfl rfl ?_; clear M; (try clear wx); intro g21 wx M)
            | (with_reducible (show wpList _ _ _ (Oper.mk (some 10) (.alloc _) _ _ _ _ :: _) _ _); refine mem_new M rfl rfl ?_; clear M; (try clear wx); intro g10 wx M)
            | (with_reducible (show wpList _ _ _ (Oper.mk (some 39) (.buildSlice _ _ _) _ _ _ _ :: _) _ _); (first | (refine m_lit1A M rfl rfl rfl (by first | exact hz | exact pie_size _ rfl _ | (simp; done)) (by decide) ?_) | (refine m_lit11 (v := Value.int _ _) M rfl rfl rfl rfl ?_) | (refine m_lit11 (v := Value.slice _ _ _) M rfl rfl rfl rfl ?_) | (refine m_lit11 (v := Value.bool _) M rfl rfl rfl rfl ?_) | (refine m_lit11 (v := Value.string _) M rfl rfl rfl rfl ?_) | (refine m_lit11 (v := Value.pointer _) M rfl rfl rfl rfl ?_)); clear M; (try clear wx); intro g39 wx M)
            | (with_reducible (show wpList _ _ _ (Oper.mk _ (.load _ _) _ _ _ _ :: _) _ _); (first | (refine rd_loadPi (p := (⟨k, hk32⟩, z)) rfl rfl rfl (C1.out _ M.up) ?_) | (refine m_load M rfl rfl rfl (by first | assumption | rfl) ?_) | (refine m_loadR M rfl rfl rfl (by first | exact hz | exact pie_size _ rfl _ | (simp; done)) ?_)))
            | (with_reducible (show wpList _ _ _ (Oper.mk _ (.store _ _ _) _ _ _ _ :: _) _ _); (first | (refine m_storeR M rfl rfl rfl rfl (by first | exact hz | exact pie_size _ rfl _ | (simp; done)) (by first | exact hz | exact pie_size _ rfl _ | (simp; done)) hone ?_) | (refine m_store (v := Value.int _ _) M rfl rfl rfl rfl rfl (by first | assumption | (simp; done) | (simp; omega)) ?_) | (refine m_store (v := Value.slice _ _ _) M rfl rfl rfl rfl rfl (by first | assumption | (simp; done) | (simp; omega)) ?_) | (refine m_store (v := Value.bool _) M rfl rfl rfl rfl rfl (by first | assumption | (simp; done) | (simp; omega)) ?_) | (refine m_store (v := Value.string _) M rfl rfl rfl rfl rfl (by first | assumption | (simp; done) | (simp; omega)) ?_) | (refine m_store (v := Value.pointer _) M rfl rfl rfl rfl rfl (by first | assumption | (simp; done) | (simp; omega)) ?_)); clear M; (try clear wx); intro wx M; simp only [List.set_cons_zero, List.set_cons_succ, Nat.zero_add, List.nil_append] at M)
            | (with_reducible (show wpList _ _ _ (Oper.mk _ (.call (Call.mk (.builtin .append) _ _)) _ _ _ _ :: _) _ _); (first | (refine m_append1 M rfl rfl rfl (by first | rfl | omega | (simp; done)) rfl (by first | exact hz | exact pie_size _ rfl _ | (simp; done)) hone (by first | assumption | (simp only [maxLen]; omega)) (by omega) ?_)); clear M; (try clear wx); intro _ _ wx M; simp only [List.set_cons_zero, List.set_cons_succ, Nat.zero_add, List.nil_append] at M))
          have M := M.tail
          have hj := HJ.out
          go_roundg (gk - 1)
          case measure => omega
          case rel => exact ⟨j + 1, m, out, _, _, by omega, rfl, by go_num, by omega, Lib.hid ⟨HO.out.1, by rw [HN.out]; exact HO.out.2⟩, M⟩
        | none =>
          have HLK := Lib.hid (fun w g h => HMS.out.none (⟨k, hk32⟩, z) HW hf w g h)
          have HN := Lib.hid (show mfL (ps.take (j + 1)) ls = mfL (ps.take j) ls ++ [⟨k, hk32⟩] by rw [HTS.out, hf]; simp)
          clear hf HW
          go_wp2_with (first
            | (with_reducible (show wpList _ _ _ (Oper.mk _ (.lookup _ _ _ _) _ _ _ _ :: _) _ _); refine m_lookup (k := .agg (pieC k z)) M rfl rfl rfl rfl (fun w h => HLK.out w _ h) ?_)
            | (with_reducible (show wpList _ _ _ (Oper.mk (some 21) (.buildSlice _ _ _) _ _ _ _ :: _) _ _); refine m_lit0 M rfl rfl ?_; clear M; (try clear wx); intro g21 wx M)
            | (with_reducible (show wpList _ _ _ (Oper.mk (some 10) (.alloc _) _ _ _ _ :: _) _ _); refine mem_new M rfl rfl ?_; clear M; (try clear wx); intro g10 wx M)
            | (with_reducible (show wpList _ _ _ (Oper.mk (some 39) (.buildSlice _ _ _) _ _ _ _ :: _) _ _); (first | (refine m_lit1A M rfl rfl rfl (by first | exact hz | exact pie_size _ rfl _ | exact hk32 | (rw [bA_size]; exact hk32) | (simp; done)) (by decide) ?_) | (refine m_lit11 (v := Value.int _ _) M rfl rfl rfl rfl ?_) | (refine m_lit11 (v := Value.slice _ _ _) M rfl rfl rfl rfl ?_) | (refine m_lit11 (v := Value.bool _) M rfl rfl rfl rfl ?_) | (refine m_lit11 (v := Value.string _) M rfl rfl rfl rfl ?_) | (refine m_lit11 (v := Value.pointer _) M rfl rfl rfl rfl ?_)); clear M; (try clear wx); intro g39 wx M)
            | (with_reducible (show wpList _ _ _ (Oper.mk _ (.load _ _) _ _ _ _ :: _) _ _); (first | (refine rd_loadPi (p := (⟨k, hk32⟩, z)) rfl rfl rfl (C1.out _ M.up) ?_) | (refine m_loadBp M rfl rfl rfl (pie_get0 k z) hk32 ?_) | (refine m_load M rfl rfl rfl (by first | assumption | rfl) ?_) | (refine m_loadR M rfl rfl rfl (by first | exact hz | exact pie_size _ rfl _ | exact hk32 | (rw [bA_size]; exact hk32) | (simp; done)) ?_)))
            | (with_reducible (show wpList _ _ _ (Oper.mk _ (.store _ _ _) _ _ _ _ :: _) _ _); (first | (refine m_storeR M rfl rfl rfl rfl (by first | exact hz | exact pie_size _ rfl _ | exact hk32 | (rw [bA_size]; exact hk32) | (simp; done)) (by first | exact hz | exact pie_size _ rfl _ | exact hk32 | (rw [bA_size]; exact hk32) | (simp; done)) (by first | exact hone | exact bA_allC _) ?_) | (refine m_store (v := Value.int _ _) M rfl rfl rfl rfl rfl (by first | assumption | (simp; done) | (simp; omega)) ?_) | (refine m_store (v := Value.slice _ _ _) M rfl rfl rfl rfl rfl (by first | assumption | (simp; done) | (simp; omega)) ?_) | (refine m_store (v := Value.bool _) M rfl rfl rfl rfl rfl (by first | assumption | (simp; done) | (simp; omega)) ?_) | (refine m_store (v := Value.string _) M rfl rfl rfl rfl rfl (by first | assumption | (simp; done) | (simp; omega)) ?_) | (refine m_store (v := Value.pointer _) M rfl rfl rfl rfl rfl (by first | assumption | (simp; done) | (simp; omega)) ?_)); clear M; (try clear wx); intro wx M; simp only [List.set_cons_zero, List.set_cons_succ, Nat.zero_add, List.nil_append] at M)
            | (with_reducible (show wpList _ _ _ (Oper.mk _ (.call (Call.mk (.builtin .append) _ _)) _ _ _ _ :: _) _ _); (first | (refine m_append1 M rfl rfl rfl (by first | rfl | omega | (simp; done)) rfl (by first | exact hz | exact pie_size _ rfl _ | exact hk32 | (rw [bA_size]; exact hk32) | (simp; done)) (by first | exact hone | exact bA_allC _) (by first | assumption | (simp only [maxLen]; omega)) (by omega) ?_)); clear M; (try clear wx); intro _ _ wx M; simp only [List.set_cons_zero, List.set_cons_succ, Nat.zero_add, List.nil_append] at M))
          have M := M.tail
          rw [show (kyL out ++ (bA k).toList) = kyL (out ++ [⟨k, hk32⟩]) from kyL_snoc out ⟨k, hk32⟩] at M
          have hj := HJ.out
          go_roundg (gk - 1)
          case measure => omega
          case rel => exact ⟨j + 1, m + 1, out ++ [⟨k, hk32⟩], _, _, by omega, rfl, by go_num, by omega, Lib.hid ⟨by rw [List.length_append, HO.out.1]; rfl, by rw [HN.out, HO.out.2]⟩, M⟩
      · have HE2 := Lib.hid (show out = mfL ps ls by have := HO.out.2; rwa [List.take_of_length_le (by rw [HK.out]; omega)] at this)
        have HM := Lib.hid HO.out.1
        have HSC := Lib.hid (fun (v : Value) (w : World) (h : Rd w 32 v m (kyL out)) => sorted_c v m out HM.out w h (by omega))
        clear HO hj
        go_wp2_with (first
          | (go_at_call 83; (with_reducible refine mem_callO M (HSC.out _ _ (M.rdK out)) ?_); clear M; (try clear wx); intro bz cz wx M)
          | (with_reducible (show wpList _ _ _ (Oper.mk (some 21) (.buildSlice _ _ _) _ _ _ _ :: _) _ _); refine m_lit0 M rfl rfl ?_; clear M; (try clear wx); intro g21 wx M)
          | (with_reducible (show wpList _ _ _ (Oper.mk (some 10) (.alloc _) _ _ _ _ :: _) _ _); refine mem_new M rfl rfl ?_; clear M; (try clear wx); intro g10 wx M)
          | (with_reducible (show wpList _ _ _ (Oper.mk (some 39) (.buildSlice _ _ _) _ _ _ _ :: _) _ _); (first | (refine m_lit1A M rfl rfl rfl (by first | rfl | assumption | (simp; done) | (simp; omega)) (by decide) ?_) | (refine m_lit11 (v := Value.int _ _) M rfl rfl rfl rfl ?_) | (refine m_lit11 (v := Value.slice _ _ _) M rfl rfl rfl rfl ?_) | (refine m_lit11 (v := Value.bool _) M rfl rfl rfl rfl ?_) | (refine m_lit11 (v := Value.string _) M rfl rfl rfl rfl ?_) | (refine m_lit11 (v := Value.pointer _) M rfl rfl rfl rfl ?_)); clear M; (try clear wx); intro g39 wx M)
          | (with_reducible (show wpList _ _ _ (Oper.mk _ (.load _ _) _ _ _ _ :: _) _ _); (first | (refine m_load M rfl rfl rfl (by first | assumption | rfl) ?_) | (refine m_loadR M rfl rfl rfl (by first | rfl | assumption | (simp; done) | (simp; omega)) ?_)))
          | (with_reducible (show wpList _ _ _ (Oper.mk _ (.store _ _ _) _ _ _ _ :: _) _ _); (first | (refine m_storeR M rfl rfl rfl rfl (by first | rfl | assumption | (simp; done) | (simp; omega)) (by first | rfl | assumption | (simp; done) | (simp; omega)) (by first | exact bA_one _ | exact wA_one _ | assumption | (simp [Value.oneCell']; done)) ?_) | (refine m_store (v := Value.int _ _) M rfl rfl rfl rfl rfl (by first | assumption | (simp; done) | (simp; omega)) ?_) | (refine m_store (v := Value.slice _ _ _) M rfl rfl rfl rfl rfl (by first | assumption | (simp; done) | (simp; omega)) ?_) | (refine m_store (v := Value.bool _) M rfl rfl rfl rfl rfl (by first | assumption | (simp; done) | (simp; omega)) ?_) | (refine m_store (v := Value.string _) M rfl rfl rfl rfl rfl (by first | assumption | (simp; done) | (simp; omega)) ?_) | (refine m_store (v := Value.pointer _) M rfl rfl rfl rfl rfl (by first | assumption | (simp; done) | (simp; omega)) ?_)); clear M; (try clear wx); intro wx M; simp only [List.set_cons_zero, List.set_cons_succ, Nat.zero_add, List.nil_append] at M)
          | (with_reducible (show wpList _ _ _ (Oper.mk _ (.call (Call.mk (.builtin .append) _ _)) _ _ _ _ :: _) _ _); (first | (refine m_append1 M rfl rfl rfl (by first | rfl | omega | (simp; done)) rfl (by first | rfl | assumption | (simp; done) | (simp; omega)) (by first | exact bA_one _ | exact wA_one _ | assumption | (simp [Value.oneCell']; done)) (by first | assumption | (simp only [maxLen]; omega)) (by omega) ?_)); clear M; (try clear wx); intro _ _ wx M; simp only [List.set_cons_zero, List.set_cons_succ, Nat.zero_add, List.nil_append] at M))
        go_ret2
        exact ⟨_, rfl, by rw [HE.out, ← HE2.out]; exact ⟨_, _, rfl, M.out_own (p := 0) rfl⟩, M.up⟩

def kysL (ls : List (List UInt8)) : List Ky := ls.map (hashK 1)
def kyT (n : Nat) (ls : List (List UInt8)) : List Ky := if kdC n ls = 0 then kysL ls else []
theorem hash1_s (v : Value) (l : List UInt8) (w : World) (hv : Rd w 1 v l.length (bL l)) (hl : l.length ≤ 100000000) : Ret Try.prog 102 #[.int .u8 1, v] w fun r _ => r = .agg (bA (hashK 1 l).1) := l01Hash_c 1 v l w hv hl
set_option maxHeartbeats 2000000 in
set_option maxRecDepth 100000 in
theorem l02Keyed_c (b0 : Option Addr) (n cap0 : Nat) (v : Value) (ls : List (List UInt8)) (w : World) (hv : RdS w v ls) (hl : ls.flatten.length ≤ 100000000) (hn : ls.length ≤ 1000000000) :
    Ret Try.prog 95 #[.slice b0 n cap0, v] w fun r w' => OwnR2 w w' 25 32 r (kyT n ls).length (kyL (kyT n ls)) (.int .i64 (kdC n ls)) := by
  obtain ⟨b, cap, rfl⟩ := hv.shape
  have HV := Lib.hid hv
  refine ret_start fun wx M => ?_
  have HC := Lib.hid (fun (w : World) (h : RdS w (.slice b ls.length cap) ls) => l02All_c _ ls w h (by omega) hn)
  clear hv
  by_cases hbig : 256 < n
  · have HE := Lib.hid (show kdC n ls = 3 by rw [kdC, if_pos hbig])
    have HT := Lib.hid (show kyT n ls = [] by rw [kyT, HE.out, if_neg (by decide)])
    have hc3 : chC ls = 3 ∨ chC ls = 0 := by unfold chC; split <;> simp
    generalize chC ls = c at *
    go_enter Try.func95, Try.ntmps95
    go_wp2_with (first
      | (go_at_call 128; (with_reducible refine mem_call M (HC.out _ (HV.out.up M.up)) ?_); clear M; (try clear wx); rintro _ wx rfl _ M)
      | (with_reducible (show wpList _ _ _ (Oper.mk (some 16) (.buildSlice _ _ _) _ _ _ _ :: _) _ _); refine m_lit0 M rfl rfl ?_; clear M; (try clear wx); intro g16 wx M)
      | (with_reducible (show wpList _ _ _ (Oper.mk (some 18) (.buildSlice _ _ _) _ _ _ _ :: _) _ _); refine m_lit0 M rfl rfl ?_; clear M; (try clear wx); intro g18 wx M)
      | (with_reducible (show wpList _ _ _ (Oper.mk (some 31) (.buildSlice _ _ _) _ _ _ _ :: _) _ _); (first | (refine m_lit1A M rfl rfl rfl (by first | rfl | assumption | (simp; done) | (simp; omega)) (by decide) ?_) | (refine m_lit11 (v := Value.int _ _) M rfl rfl rfl rfl ?_) | (refine m_lit11 (v := Value.slice _ _ _) M rfl rfl rfl rfl ?_) | (refine m_lit11 (v := Value.bool _) M rfl rfl rfl rfl ?_) | (refine m_lit11 (v := Value.string _) M rfl rfl rfl rfl ?_) | (refine m_lit11 (v := Value.pointer _) M rfl rfl rfl rfl ?_)); clear M; (try clear wx); intro g31 wx M)
      | (with_reducible (show wpList _ _ _ (Oper.mk _ (.load _ _) _ _ _ _ :: _) _ _); (first | (refine m_load M rfl rfl rfl (by first | assumption | rfl) ?_) | (refine m_loadR M rfl rfl rfl (by first | rfl | assumption | (simp; done) | (simp; omega)) ?_)))
      | (with_reducible (show wpList _ _ _ (Oper.mk _ (.call (Call.mk (.builtin .append) _ _)) _ _ _ _ :: _) _ _); (first | (refine m_append1 M rfl rfl rfl (by first | rfl | omega | (simp; done)) rfl (by first | rfl | assumption | (simp; done) | (simp; omega)) (by first | exact bA_one _ | exact wA_one _ | assumption | (simp [Value.oneCell']; done)) (by first | assumption | (simp only [maxLen]; omega)) (by omega) ?_)); clear M; (try clear wx); intro _ _ wx M; simp only [List.set_cons_zero, List.set_cons_succ, Nat.zero_add, List.nil_append] at M))
    go_ret2
    exact ⟨_, rfl, by rw [HT.out, HE.out]; exact ⟨_, _, rfl, M.out_own (p := 0) rfl⟩, M.up⟩
  · have HE := Lib.hid (show kdC n ls = chC ls by rw [kdC, if_neg hbig])
    rcases (show chC ls = 3 ∨ chC ls = 0 by unfold chC; split <;> simp) with hc | hc
    · rw [hc] at HC HE
      have HT := Lib.hid (show kyT n ls = [] by rw [kyT, HE.out, if_neg (by decide)])
      clear hc
      go_enter Try.func95, Try.ntmps95
      go_wp2_with (first
        | (go_at_call 128; (with_reducible refine mem_call M (HC.out _ (HV.out.up M.up)) ?_); clear M; (try clear wx); rintro _ wx rfl _ M)
        | (with_reducible (show wpList _ _ _ (Oper.mk (some 16) (.buildSlice _ _ _) _ _ _ _ :: _) _ _); refine m_lit0 M rfl rfl ?_; clear M; (try clear wx); intro g16 wx M)
        | (with_reducible (show wpList _ _ _ (Oper.mk (some 18) (.buildSlice _ _ _) _ _ _ _ :: _) _ _); refine m_lit0 M rfl rfl ?_; clear M; (try clear wx); intro g18 wx M)
        | (with_reducible (show wpList _ _ _ (Oper.mk (some 31) (.buildSlice _ _ _) _ _ _ _ :: _) _ _); (first | (refine m_lit1A M rfl rfl rfl (by first | rfl | assumption | (simp; done) | (simp; omega)) (by decide) ?_) | (refine m_lit11 (v := Value.int _ _) M rfl rfl rfl rfl ?_) | (refine m_lit11 (v := Value.slice _ _ _) M rfl rfl rfl rfl ?_) | (refine m_lit11 (v := Value.bool _) M rfl rfl rfl rfl ?_) | (refine m_lit11 (v := Value.string _) M rfl rfl rfl rfl ?_) | (refine m_lit11 (v := Value.pointer _) M rfl rfl rfl rfl ?_)); clear M; (try clear wx); intro g31 wx M)
        | (with_reducible (show wpList _ _ _ (Oper.mk _ (.load _ _) _ _ _ _ :: _) _ _); (first | (refine m_load M rfl rfl rfl (by first | assumption | rfl) ?_) | (refine m_loadR M rfl rfl rfl (by first | rfl | assumption | (simp; done) | (simp; omega)) ?_)))
        | (with_reducible (show wpList _ _ _ (Oper.mk _ (.call (Call.mk (.builtin .append) _ _)) _ _ _ _ :: _) _ _); (first | (refine m_append1 M rfl rfl rfl (by first | rfl | omega | (simp; done)) rfl (by first | rfl | assumption | (simp; done) | (simp; omega)) (by first | exact bA_one _ | exact wA_one _ | assumption | (simp [Value.oneCell']; done)) (by first | assumption | (simp only [maxLen]; omega)) (by omega) ?_)); clear M; (try clear wx); intro _ _ wx M; simp only [List.set_cons_zero, List.set_cons_succ, Nat.zero_add, List.nil_append] at M))
      go_ret2
      exact ⟨_, rfl, by rw [HT.out, HE.out]; exact ⟨_, _, rfl, M.out_own (p := 0) rfl⟩, M.up⟩
    · have hl2 : ls.length ≤ 4096 := by
        rcases kdC_cases n ls with h | h
        · rw [HE.out, hc] at h; cases h
        · exact h.2.2.2
      rw [hc] at HC HE
      have HT := Lib.hid (show kyT n ls = kysL ls by rw [kyT, HE.out, if_pos rfl])
      clear hc
      go_enter Try.func95, Try.ntmps95
      go_wp2_with (first
        | (go_at_call 128; (with_reducible refine mem_call M (HC.out _ (HV.out.up M.up)) ?_); clear M; (try clear wx); rintro _ wx rfl _ M)
        | (with_reducible (show wpList _ _ _ (Oper.mk (some 16) (.buildSlice _ _ _) _ _ _ _ :: _) _ _); refine m_lit0 M rfl rfl ?_; clear M; (try clear wx); intro g16 wx M)
        | (with_reducible (show wpList _ _ _ (Oper.mk (some 18) (.buildSlice _ _ _) _ _ _ _ :: _) _ _); refine m_lit0 M rfl rfl ?_; clear M; (try clear wx); intro g18 wx M)
        | (with_reducible (show wpList _ _ _ (Oper.mk (some 31) (.buildSlice _ _ _) _ _ _ _ :: _) _ _); (first | (refine m_lit1A M rfl rfl rfl (by first | rfl | assumption | (simp; done) | (simp; omega)) (by decide) ?_) | (refine m_lit11 (v := Value.int _ _) M rfl rfl rfl rfl ?_) | (refine m_lit11 (v := Value.slice _ _ _) M rfl rfl rfl rfl ?_) | (refine m_lit11 (v := Value.bool _) M rfl rfl rfl rfl ?_) | (refine m_lit11 (v := Value.string _) M rfl rfl rfl rfl ?_) | (refine m_lit11 (v := Value.pointer _) M rfl rfl rfl rfl ?_)); clear M; (try clear wx); intro g31 wx M)
        | (with_reducible (show wpList _ _ _ (Oper.mk _ (.load _ _) _ _ _ _ :: _) _ _); (first | (refine m_load M rfl rfl rfl (by first | assumption | rfl) ?_) | (refine m_loadR M rfl rfl rfl (by first | rfl | assumption | (simp; done) | (simp; omega)) ?_)))
        | (with_reducible (show wpList _ _ _ (Oper.mk _ (.call (Call.mk (.builtin .append) _ _)) _ _ _ _ :: _) _ _); (first | (refine m_append1 M rfl rfl rfl (by first | rfl | omega | (simp; done)) rfl (by first | rfl | assumption | (simp; done) | (simp; omega)) (by first | exact bA_one _ | exact wA_one _ | assumption | (simp [Value.oneCell']; done)) (by first | assumption | (simp only [maxLen]; omega)) (by omega) ?_)); clear M; (try clear wx); intro _ _ wx M; simp only [List.set_cons_zero, List.set_cons_succ, Nat.zero_add, List.nil_append] at M))
      go_loopg [7, 8] ls.length (fun q s i wr => ∃ (j m : Nat) (out : List Ky) (b : Option Addr) (cap : Nat), j + q = ls.length ∧ m = j ∧ s = .slice b m cap ∧ i = .int .i64 (j : Int) ∧ Hid (out.length = m ∧ out = kysL (ls.take j)) ∧ Mem w wr [.own b cap 25 32 m (kyL out)])
      case atStart => exact ⟨0, 0, [], _, _, by omega, rfl, rfl, rfl, Lib.hid ⟨rfl, rfl⟩, M⟩
      case round =>
        clear M
        obtain ⟨j, m, out, bz, cz, hj, rfl, rfl, rfl, HO, M⟩ := hrel
        by_cases hlt : m < ls.length
        · obtain ⟨g, o, b', cap', rfl, hc, hr⟩ := HV.out.at_ m hlt
          have C1 := Lib.hid hc
          have R1 := Lib.hid hr
          have hle := flat_le ls (m + 1)
          rw [flat_take ls m hlt, List.length_append] at hle
          have HTS := Lib.hid (show kysL (ls.take (m + 1)) = kysL (ls.take m) ++ [hashK 1 ls[m]] by rw [List.take_succ_eq_append_getElem hlt]; unfold kysL; rw [List.map_append]; rfl)
          have HJ := Lib.hid hj
          have hcl : (ls[m]).length ≤ 100000000 := by omega
          clear hc hj hle hr
          generalize (ls[m]'hlt) = c at *
          obtain ⟨k, hk⟩ : ∃ k, hashK 1 c = k := ⟨_, rfl⟩
          have HH := Lib.hid (show ∀ (w : World), Rd w 1 (.slice b' c.length cap') c.length (bL c) → Ret Try.prog 102 #[.int .u8 1, .slice b' c.length cap'] w fun r _ => r = .agg (bA k.1) from fun w h => by
            have := hash1_s _ c w h hcl
            rw [hk] at this
            exact this)
          rw [hk] at HTS
          have hk32 := k.2
          clear hk
          go_wp2_with (first
            | (go_at_call 102; (with_reducible refine mem_call M (HH.out _ (R1.out.up M.up)) ?_); clear M; (try clear wx); rintro _ wx rfl _ M)
            | (with_reducible (show wpList _ _ _ (Oper.mk (some 16) (.buildSlice _ _ _) _ _ _ _ :: _) _ _); refine m_lit0 M rfl rfl ?_; clear M; (try clear wx); intro g16 wx M)
            | (with_reducible (show wpList _ _ _ (Oper.mk (some 18) (.buildSlice _ _ _) _ _ _ _ :: _) _ _); refine m_lit0 M rfl rfl ?_; clear M; (try clear wx); intro g18 wx M)
            | (with_reducible (show wpList _ _ _ (Oper.mk (some 31) (.buildSlice _ _ _) _ _ _ _ :: _) _ _); (first | (refine m_lit1A M rfl rfl rfl (by first | exact hk32 | (rw [bA_size]; exact hk32) | (simp; done)) (by decide) ?_) | (refine m_lit11 (v := Value.int _ _) M rfl rfl rfl rfl ?_) | (refine m_lit11 (v := Value.slice _ _ _) M rfl rfl rfl rfl ?_) | (refine m_lit11 (v := Value.bool _) M rfl rfl rfl rfl ?_) | (refine m_lit11 (v := Value.string _) M rfl rfl rfl rfl ?_) | (refine m_lit11 (v := Value.pointer _) M rfl rfl rfl rfl ?_)); clear M; (try clear wx); intro g31 wx M)
            | (with_reducible (show wpList _ _ _ (Oper.mk _ (.load _ _) _ _ _ _ :: _) _ _); (first | (refine wpList_load_one rfl rfl rfl (C1.out _ M.up) ?_) | (refine m_load M rfl rfl rfl (by first | assumption | rfl) ?_) | (refine m_loadR M rfl rfl rfl (by first | exact hk32 | (rw [bA_size]; exact hk32) | (simp; done)) ?_)))
            | (with_reducible (show wpList _ _ _ (Oper.mk _ (.call (Call.mk (.builtin .append) _ _)) _ _ _ _ :: _) _ _); (first | (refine m_append1 M rfl rfl rfl (by first | rfl | omega | (simp; done)) rfl (by first | exact hk32 | (rw [bA_size]; exact hk32) | (simp; done)) (bA_allC _) (by first | assumption | (simp only [maxLen]; omega)) (by omega) ?_)); clear M; (try clear wx); intro _ _ wx M; simp only [List.set_cons_zero, List.set_cons_succ, Nat.zero_add, List.nil_append] at M))
          rw [show (kyL out ++ (bA k.1).toList) = kyL (out ++ [k]) from kyL_snoc out k] at M
          have hj := HJ.out
          go_roundg (gk - 1)
          case measure => omega
          case rel => exact ⟨m + 1, m + 1, out ++ [k], _, _, by omega, rfl, rfl, by go_num, Lib.hid ⟨by rw [List.length_append, HO.out.1]; rfl, by rw [HTS.out, HO.out.2]⟩, M⟩
        · have HE2 := Lib.hid (show out = kysL ls by have := HO.out.2; rwa [List.take_of_length_le (by omega)] at this)
          have HM := Lib.hid HO.out.1
          have MM := Lib.hid M
          clear HO hj
          go_wp2_with fail
          go_ret2
          exact ⟨_, rfl, by rw [HT.out, HE.out, ← HE2.out, HM.out]; exact ⟨_, _, rfl, MM.out.out_own (p := 0) rfl⟩, MM.out.up⟩

theorem bin_eqlC (x y : Int) (c : Bool) (h : (x == y) = c) (a b : Operand) (w : World) : Sem.run Try.prog (do eqGuard .eql 2 a b (.int .i64 x) (.int .i64 y); binOp .eql 2 (.int .i64 x) (.int .i64 y)) w = .ok (.bool c) w := by
  subst h
  go_simp
theorem key_eqlC (a b : Ky) (c : Bool) (hc : decide (a = b) = c) (x y : Operand) (w : World) : Sem.run Try.prog (do eqGuard .eql 25 x y (.agg (bA a.1)) (.agg (bA b.1)); binOp .eql 25 (.agg (bA a.1)) (.agg (bA b.1))) w = .ok (.bool c) w := by
  rw [← hc]
  exact key_eqlG _ _ _ _ _
/-- Where the first chunk with a piece stands, or -1. -/
def fiC (ls : List (List UInt8)) (p : Pc) : Int := if ls.findIdx (fun c => decide (pcOf c = p)) < ls.length then (ls.findIdx (fun c => decide (pcOf c = p)) : Int) else -1
set_option maxHeartbeats 4000000 in
set_option maxRecDepth 100000 in
theorem l02Find_c (p : Pc) (va vb : Value) (ls : List (List UInt8)) (w : World) (hv : RdS w va ls) (hk : Rd w 32 vb ls.length (kyL (kysL ls))) (hn : ls.length ≤ 1000000000) :
    Ret Try.prog 96 #[.agg (pieC p.1.1 p.2), va, vb] w fun r _ => r = .int .i64 (fiC ls p) := by
  obtain ⟨b, cap, rfl⟩ := hv.shape
  obtain ⟨b2, cap2, rfl⟩ := hk.shape
  have HV := Lib.hid hv
  have HK := Lib.hid hk
  obtain ⟨⟨k, hk32⟩, z⟩ := p
  have hz := pie_size k hk32 z
  have h32 := Lib.hid (pie_32 k hk32 z)
  refine ret_start fun wx M => ?_
  clear hv hk
  go_enter Try.func96, Try.ntmps96
  go_wp2_with (first
    | (with_reducible (show wpList _ _ _ (Oper.mk (some 3) (.box _ _) _ _ _ _ :: _) _ _); (first | (refine m_boxA M rfl rfl rfl ?_) | (refine m_box1 (v := Value.int _ _) M rfl rfl rfl rfl ?_) | (refine m_box1 (v := Value.slice _ _ _) M rfl rfl rfl rfl ?_) | (refine m_box1 (v := Value.bool _) M rfl rfl rfl rfl ?_) | (refine m_box1 (v := Value.string _) M rfl rfl rfl rfl ?_) | (refine m_box1 (v := Value.pointer _) M rfl rfl rfl rfl ?_)); clear M; (try clear wx); intro g3 wx M)
    | (with_reducible (show wpList _ _ _ (Oper.mk _ (.load _ _) _ _ _ _ :: _) _ _); (first | (refine m_load M rfl rfl rfl (by first | assumption | rfl) ?_) | (refine m_loadR M rfl rfl rfl (by first | rfl | assumption | (simp; done) | (simp; omega)) ?_))))
  go_loopg [7] ls.length (fun r i wr => ∃ j : Nat, j + r = ls.length ∧ i = .int .i64 (j : Int) ∧ Hid (j ≤ ls.findIdx (fun c => decide (pcOf c = (⟨k, hk32⟩, z)))) ∧ Mem w wr [.blk g3 103 (pieC k z)])
  case atStart => exact ⟨0, by omega, rfl, Lib.hid (Nat.zero_le _), M⟩
  case round =>
    clear M
    obtain ⟨j, hj, rfl, HF, M⟩ := hrel
    by_cases hlt : j < ls.length
    · obtain ⟨g, o, b', cap', rfl, hc, hr⟩ := HV.out.at_ j hlt
      obtain ⟨g2, o2, rfl, hc2⟩ := HK.out.open_ (by omega)
      have C1 := Lib.hid hc
      have hkl : j < (kysL ls).length := by simp [kysL]; exact hlt
      have C2 := Lib.hid (fun wx (hb : Up w wx) => kyL_range (hc2 wx hb) j hkl)
      have hkj : (kysL ls)[j]'hkl = hashK 1 ls[j] := by simp [kysL]
      rw [hkj] at C2
      have HN : Hid (pcOf ls[j] ≠ (⟨k, hk32⟩, z) → j + 1 ≤ ls.findIdx (fun c => decide (pcOf c = (⟨k, hk32⟩, z)))) := Lib.hid (fun h => by
        rcases Nat.lt_or_ge j (ls.findIdx (fun c => decide (pcOf c = (⟨k, hk32⟩, z)))) with h1 | h1
        · exact h1
        · have h2 := Nat.le_antisymm h1 HF.out
          have h3 := List.findIdx_getElem (p := fun c => decide (pcOf c = (⟨k, hk32⟩, z))) (xs := ls) (w := by rw [h2]; exact hlt)
          simp only [h2] at h3
          exact absurd (of_decide_eq_true h3) h)
      have HY : Hid (pcOf ls[j] = (⟨k, hk32⟩, z) → fiC ls (⟨k, hk32⟩, z) = (j : Int)) := Lib.hid (fun h => by
        have h1 : ls.findIdx (fun c => decide (pcOf c = (⟨k, hk32⟩, z))) ≤ j := by
          rcases Nat.lt_or_ge j (ls.findIdx (fun c => decide (pcOf c = (⟨k, hk32⟩, z)))) with h1 | h1
          · have h3 := List.not_of_lt_findIdx h1
            simp [h] at h3
          · exact h1
        have h2 := Nat.le_antisymm h1 HF.out
        rw [fiC, h2, if_pos hlt])
      have hpc : pcOf ls[j] = (hashK 1 ls[j], ((ls[j]).length : Int)) := rfl
      rw [hpc] at HN HY
      have HJ := Lib.hid hj
      clear hc hc2 hr hj hkl hkj hpc HF
      generalize hashK 1 (ls[j]'hlt) = x at *
      generalize (ls[j]'hlt).length = m at *
      have hx32 := x.2
      by_cases hmz : (m : Int) = z
      · obtain ⟨c, hcc⟩ : ∃ c, decide (x = ⟨k, hk32⟩) = c := ⟨_, rfl⟩
        have HCC := Lib.hid hcc
        clear hcc
        have HM := Lib.hid hmz
        go_wp2_with fail
        refine region_monoG (m := 17) mixedOrders_ (by kernel_rfl) (by kernel_rfl)
          (fun | 0 => fun vq _ => vq = .slice (some ⟨g, o, none⟩) ls.length cap | 1 => fun vq _ => vq = .int .i64 (j : Int) | 2 => fun vq _ => vq = .pointer (some ⟨g, o + j * 1, none⟩) | 3 => fun vq _ => vq = .slice b' m cap' | 4 => fun vq _ => vq = .int .i64 (m : Int) | 5 => fun vq _ => vq = .pointer (some ⟨g3, 32, none⟩) | 6 => fun vq _ => vq = .int .i64 z | 7 => fun vq _ => vq = .bool true | 8 => fun vq _ => vq = .bool true | 9 => fun vq _ => vq = .slice (some ⟨g2, o2, none⟩) ls.length cap2 | 10 => fun vq _ => vq = .int .i64 (j : Int) | 11 => fun vq _ => vq = .pointer (some ⟨g2, o2 + j * 32, none⟩) | 12 => fun vq _ => vq = .agg (bA (x.1)) | 13 => fun vq _ => vq = .pointer (some ⟨g3, 0, none⟩) | 14 => fun vq _ => vq = .agg (bA k) | 15 => fun vq _ => vq = .bool c | 16 => fun vq _ => vq = .bool c | _ => fun _ _ => True)
          (fun wx => Mem w wx [.blk g3 103 (pieC k z)]) ?_ ?_ ?_ ?_ ?_
        · intro j hj v w1 w2 hb h
          match j, hj with
          | 0, _ => exact h
          | 1, _ => exact h
          | 2, _ => exact h
          | 3, _ => exact h
          | 4, _ => exact h
          | 5, _ => exact h
          | 6, _ => exact h
          | 7, _ => exact h
          | 8, _ => exact h
          | 9, _ => exact h
          | 10, _ => exact h
          | 11, _ => exact h
          | 12, _ => exact h
          | 13, _ => exact h
          | 14, _ => exact h
          | 15, _ => exact h
          | 16, _ => exact h
          | n + 17, h' => exact absurd h' (by omega)
        · intro w1 w2 hb h
          exact h.grow hb
        · exact M.grow ((Up.refl _).drew)
        · rintro i o hi ho av wv fr gM dep
          match i, hi with
          | 0, _ =>
            obtain rfl := Option.some.inj ho
            refine g_none rfl rfl ?_
            exact st_mov rfl (fr.eval rfl) rfl
          | 1, _ =>
            obtain rfl := Option.some.inj ho
            refine g_none rfl rfl ?_
            exact st_mov rfl (fr.eval rfl) rfl
          | 2, _ =>
            obtain rfl := Option.some.inj ho
            refine g_none rfl rfl ?_
            exact st_indexAddr rfl (dep ⟨0, .data⟩ (by simp) rfl) (dep ⟨1, .data⟩ (by simp) rfl) (ix_slice _ _ _ _ _ hlt _) rfl
          | 3, _ =>
            obtain rfl := Option.some.inj ho
            refine g_none rfl rfl ?_
            exact st_load1 rfl (dep ⟨2, .data⟩ (by simp) rfl) (by rw [Nat.mul_one]; exact C1.out _ gM.up) rfl
          | 4, _ =>
            obtain rfl := Option.some.inj ho
            refine g_none rfl rfl ?_
            exact st_len rfl (dep ⟨3, .data⟩ (by simp) rfl) rfl
          | 5, _ =>
            obtain rfl := Option.some.inj ho
            refine g_none rfl rfl ?_
            exact st_fld rfl Try.underlying103 rfl (fr.eval rfl) 32 rfl (by kernel_rfl) rfl
          | 6, _ =>
            obtain rfl := Option.some.inj ho
            refine g_none rfl rfl ?_
            exact st_load1G gM rfl (dep ⟨5, .data⟩ (by simp) rfl) (h32.out) rfl
          | 7, _ =>
            obtain rfl := Option.some.inj ho
            refine g_none rfl rfl ?_
            exact st_bin rfl (dep ⟨4, .data⟩ (by simp) rfl) (dep ⟨6, .data⟩ (by simp) rfl) (bin_eqlC _ _ _ (by simp [HM.out]) _ _ _) rfl
          | 8, _ =>
            obtain rfl := Option.some.inj ho
            refine g_none rfl rfl ?_
            exact st_mov rfl (dep ⟨7, .data⟩ (by simp) rfl) rfl
          | 9, _ =>
            obtain rfl := Option.some.inj ho
            refine g_yes rfl rfl (dep ⟨8, .guard⟩ (by simp) rfl) ?_
            exact st_mov rfl (fr.eval rfl) rfl
          | 10, _ =>
            obtain rfl := Option.some.inj ho
            refine g_yes rfl rfl (dep ⟨8, .guard⟩ (by simp) rfl) ?_
            exact st_mov rfl (fr.eval rfl) rfl
          | 11, _ =>
            obtain rfl := Option.some.inj ho
            refine g_yes rfl rfl (dep ⟨8, .guard⟩ (by simp) rfl) ?_
            exact st_indexAddr rfl (dep ⟨9, .data⟩ (by simp) rfl) (dep ⟨10, .data⟩ (by simp) rfl) (ix_slice _ _ _ _ _ hlt _) rfl
          | 12, _ =>
            obtain rfl := Option.some.inj ho
            refine g_yes rfl rfl (dep ⟨8, .guard⟩ (by simp) rfl) ?_
            exact st_loadA rfl (dep ⟨11, .data⟩ (by simp) rfl) (C2.out _ gM.up) hx32 rfl
          | 13, _ =>
            obtain rfl := Option.some.inj ho
            refine g_yes rfl rfl (dep ⟨8, .guard⟩ (by simp) rfl) ?_
            exact st_fld rfl Try.underlying103 rfl (fr.eval rfl) 0 rfl (by kernel_rfl) rfl
          | 14, _ =>
            obtain rfl := Option.some.inj ho
            refine g_yes rfl rfl (dep ⟨8, .guard⟩ (by simp) rfl) ?_
            exact st_loadPG gM rfl (dep ⟨13, .data⟩ (by simp) rfl) (xs := bL k) (pie_get0 k z) (by rw [bL_length, hk32]) rfl
          | 15, _ =>
            obtain rfl := Option.some.inj ho
            refine g_yes rfl rfl (dep ⟨8, .guard⟩ (by simp) rfl) ?_
            exact st_bin rfl (dep ⟨12, .data⟩ (by simp) rfl) (dep ⟨14, .data⟩ (by simp) rfl) (key_eqlC x ⟨k, hk32⟩ c HCC.out _ _ _) rfl
          | 16, _ =>
            obtain rfl := Option.some.inj ho
            refine g_none rfl rfl ?_
            exact st_pick rfl (dep ⟨8, .data⟩ (by simp) rfl) (dep ⟨15, .data⟩ (by simp) rfl) (rfl) rfl
          | n + 17, h' => exact absurd h' (by omega)
        · rintro vs wv gM hf
          have f0 : vs 0 = .slice (some ⟨g, o, none⟩) ls.length cap := hf 0 (by omega)
          have f1 : vs 1 = .int .i64 (j : Int) := hf 1 (by omega)
          have f2 : vs 2 = .pointer (some ⟨g, o + j * 1, none⟩) := hf 2 (by omega)
          have f3 : vs 3 = .slice b' m cap' := hf 3 (by omega)
          have f4 : vs 4 = .int .i64 (m : Int) := hf 4 (by omega)
          have f5 : vs 5 = .pointer (some ⟨g3, 32, none⟩) := hf 5 (by omega)
          have f6 : vs 6 = .int .i64 z := hf 6 (by omega)
          have f7 : vs 7 = .bool true := hf 7 (by omega)
          have f8 : vs 8 = .bool true := hf 8 (by omega)
          have f9 : vs 9 = .slice (some ⟨g2, o2, none⟩) ls.length cap2 := hf 9 (by omega)
          have f10 : vs 10 = .int .i64 (j : Int) := hf 10 (by omega)
          have f11 : vs 11 = .pointer (some ⟨g2, o2 + j * 32, none⟩) := hf 11 (by omega)
          have f12 : vs 12 = .agg (bA (x.1)) := hf 12 (by omega)
          have f13 : vs 13 = .pointer (some ⟨g3, 0, none⟩) := hf 13 (by omega)
          have f14 : vs 14 = .agg (bA k) := hf 14 (by omega)
          have f15 : vs 15 = .bool c := hf 15 (by omega)
          have f16 : vs 16 = .bool c := hf 16 (by omega)
          simp only [putAll, Act.put, List.getElem?_toArray, List.getElem?_cons_zero, List.getElem?_cons_succ, Option.bind_some, List.setIfInBounds_toArray, List.set_cons_zero, List.set_cons_succ, List.drop_succ_cons, List.drop_zero, List.drop_nil, f16]
          clear f0 f1 f2 f3 f4 f5 f6 f7 f8 f9 f10 f11 f12 f13 f14 f15 f16 hf
          have M := gM
          clear gM
          cases c with
          | true =>
            have HE := Lib.hid (HY.out (by rw [of_decide_eq_true HCC.out, HM.out]))
            clear HN HY
            go_wp2_with fail
            go_ret
            exact ⟨_, rfl, by rw [HE.out]; rfl, M.up⟩
          | false =>
            have HN2 := Lib.hid (HN.out (fun e => of_decide_eq_false HCC.out (by injection e)))
            clear HN HY
            go_wp2_with fail
            have hj := HJ.out
            go_roundg (gk - 1)
            case measure => omega
            case rel => exact ⟨j + 1, by omega, by go_num, HN2, M⟩
      · have HN2 := Lib.hid (HN.out (fun e => hmz (by injection e)))
        have HM := Lib.hid (show ((m : Int) == z) = false by simp [hmz])
        clear HN HY hmz
        go_wp2_with fail
        refine region_monoG (m := 17) mixedOrders_ (by kernel_rfl) (by kernel_rfl)
          (fun | 0 => fun vq _ => vq = .slice (some ⟨g, o, none⟩) ls.length cap | 1 => fun vq _ => vq = .int .i64 (j : Int) | 2 => fun vq _ => vq = .pointer (some ⟨g, o + j * 1, none⟩) | 3 => fun vq _ => vq = .slice b' m cap' | 4 => fun vq _ => vq = .int .i64 (m : Int) | 5 => fun vq _ => vq = .pointer (some ⟨g3, 32, none⟩) | 6 => fun vq _ => vq = .int .i64 z | 7 => fun vq _ => vq = .bool false | 8 => fun vq _ => vq = .bool false | 9 => fun vq _ => vq = undef | 10 => fun vq _ => vq = undef | 11 => fun vq _ => vq = undef | 12 => fun vq _ => vq = undef | 13 => fun vq _ => vq = undef | 14 => fun vq _ => vq = undef | 15 => fun vq _ => vq = undef | 16 => fun vq _ => vq = .bool false | _ => fun _ _ => True)
          (fun wx => Mem w wx [.blk g3 103 (pieC k z)]) ?_ ?_ ?_ ?_ ?_
        · intro j hj v w1 w2 hb h
          match j, hj with
          | 0, _ => exact h
          | 1, _ => exact h
          | 2, _ => exact h
          | 3, _ => exact h
          | 4, _ => exact h
          | 5, _ => exact h
          | 6, _ => exact h
          | 7, _ => exact h
          | 8, _ => exact h
          | 9, _ => exact h
          | 10, _ => exact h
          | 11, _ => exact h
          | 12, _ => exact h
          | 13, _ => exact h
          | 14, _ => exact h
          | 15, _ => exact h
          | 16, _ => exact h
          | n + 17, h' => exact absurd h' (by omega)
        · intro w1 w2 hb h
          exact h.grow hb
        · exact M.grow ((Up.refl _).drew)
        · rintro i o hi ho av wv fr gM dep
          match i, hi with
          | 0, _ =>
            obtain rfl := Option.some.inj ho
            refine g_none rfl rfl ?_
            exact st_mov rfl (fr.eval rfl) rfl
          | 1, _ =>
            obtain rfl := Option.some.inj ho
            refine g_none rfl rfl ?_
            exact st_mov rfl (fr.eval rfl) rfl
          | 2, _ =>
            obtain rfl := Option.some.inj ho
            refine g_none rfl rfl ?_
            exact st_indexAddr rfl (dep ⟨0, .data⟩ (by simp) rfl) (dep ⟨1, .data⟩ (by simp) rfl) (ix_slice _ _ _ _ _ hlt _) rfl
          | 3, _ =>
            obtain rfl := Option.some.inj ho
            refine g_none rfl rfl ?_
            exact st_load1 rfl (dep ⟨2, .data⟩ (by simp) rfl) (by rw [Nat.mul_one]; exact C1.out _ gM.up) rfl
          | 4, _ =>
            obtain rfl := Option.some.inj ho
            refine g_none rfl rfl ?_
            exact st_len rfl (dep ⟨3, .data⟩ (by simp) rfl) rfl
          | 5, _ =>
            obtain rfl := Option.some.inj ho
            refine g_none rfl rfl ?_
            exact st_fld rfl Try.underlying103 rfl (fr.eval rfl) 32 rfl (by kernel_rfl) rfl
          | 6, _ =>
            obtain rfl := Option.some.inj ho
            refine g_none rfl rfl ?_
            exact st_load1G gM rfl (dep ⟨5, .data⟩ (by simp) rfl) (h32.out) rfl
          | 7, _ =>
            obtain rfl := Option.some.inj ho
            refine g_none rfl rfl ?_
            exact st_bin rfl (dep ⟨4, .data⟩ (by simp) rfl) (dep ⟨6, .data⟩ (by simp) rfl) (bin_eqlC _ _ _ HM.out _ _ _) rfl
          | 8, _ =>
            obtain rfl := Option.some.inj ho
            refine g_none rfl rfl ?_
            exact st_mov rfl (dep ⟨7, .data⟩ (by simp) rfl) rfl
          | 9, _ =>
            obtain rfl := Option.some.inj ho
            exact g_no rfl rfl (dep ⟨8, .guard⟩ (by simp) rfl) (by decide) rfl
          | 10, _ =>
            obtain rfl := Option.some.inj ho
            exact g_no rfl rfl (dep ⟨8, .guard⟩ (by simp) rfl) (by decide) rfl
          | 11, _ =>
            obtain rfl := Option.some.inj ho
            exact g_no rfl rfl (dep ⟨8, .guard⟩ (by simp) rfl) (by decide) rfl
          | 12, _ =>
            obtain rfl := Option.some.inj ho
            exact g_no rfl rfl (dep ⟨8, .guard⟩ (by simp) rfl) (by decide) rfl
          | 13, _ =>
            obtain rfl := Option.some.inj ho
            exact g_no rfl rfl (dep ⟨8, .guard⟩ (by simp) rfl) (by decide) rfl
          | 14, _ =>
            obtain rfl := Option.some.inj ho
            exact g_no rfl rfl (dep ⟨8, .guard⟩ (by simp) rfl) (by decide) rfl
          | 15, _ =>
            obtain rfl := Option.some.inj ho
            exact g_no rfl rfl (dep ⟨8, .guard⟩ (by simp) rfl) (by decide) rfl
          | 16, _ =>
            obtain rfl := Option.some.inj ho
            refine g_none rfl rfl ?_
            exact st_pick rfl (dep ⟨8, .data⟩ (by simp) rfl) (dep ⟨15, .data⟩ (by simp) rfl) (rfl) rfl
          | n + 17, h' => exact absurd h' (by omega)
        · rintro vs wv gM hf
          have f0 : vs 0 = .slice (some ⟨g, o, none⟩) ls.length cap := hf 0 (by omega)
          have f1 : vs 1 = .int .i64 (j : Int) := hf 1 (by omega)
          have f2 : vs 2 = .pointer (some ⟨g, o + j * 1, none⟩) := hf 2 (by omega)
          have f3 : vs 3 = .slice b' m cap' := hf 3 (by omega)
          have f4 : vs 4 = .int .i64 (m : Int) := hf 4 (by omega)
          have f5 : vs 5 = .pointer (some ⟨g3, 32, none⟩) := hf 5 (by omega)
          have f6 : vs 6 = .int .i64 z := hf 6 (by omega)
          have f7 : vs 7 = .bool false := hf 7 (by omega)
          have f8 : vs 8 = .bool false := hf 8 (by omega)
          have f9 : vs 9 = undef := hf 9 (by omega)
          have f10 : vs 10 = undef := hf 10 (by omega)
          have f11 : vs 11 = undef := hf 11 (by omega)
          have f12 : vs 12 = undef := hf 12 (by omega)
          have f13 : vs 13 = undef := hf 13 (by omega)
          have f14 : vs 14 = undef := hf 14 (by omega)
          have f15 : vs 15 = undef := hf 15 (by omega)
          have f16 : vs 16 = .bool false := hf 16 (by omega)
          simp only [putAll, Act.put, List.getElem?_toArray, List.getElem?_cons_zero, List.getElem?_cons_succ, Option.bind_some, List.setIfInBounds_toArray, List.set_cons_zero, List.set_cons_succ, List.drop_succ_cons, List.drop_zero, List.drop_nil, f16]
          clear f0 f1 f2 f3 f4 f5 f6 f7 f8 f9 f10 f11 f12 f13 f14 f15 f16 hf
          have M := gM
          clear gM
          go_wp2_with fail
          have hj := HJ.out
          go_roundg (gk - 1)
          case measure => omega
          case rel => exact ⟨j + 1, by omega, by go_num, HN2, M⟩
    · have HE := Lib.hid (show fiC ls (⟨k, hk32⟩, z) = -1 by
        rw [fiC, if_neg]
        have := HF.out
        omega)
      have MM := Lib.hid M
      clear HF
      go_wp2_with fail
      go_ret
      exact ⟨_, rfl, by rw [HE.out]; rfl, MM.out.up⟩

theorem find_idx {α : Type} (q : α → Bool) : ∀ (l : List α), (l.find? q = none ∧ ¬ l.findIdx q < l.length) ∨ ∃ h : l.findIdx q < l.length, l.find? q = some l[l.findIdx q]
  | [] => .inl ⟨rfl, by simp⟩
  | x :: l => by
    cases hx : q x with
    | true =>
      have e : (x :: l).findIdx q = 0 := by simp [List.findIdx_cons, hx]
      refine .inr ⟨by rw [e]; simp, ?_⟩
      rw [List.find?_cons_of_pos hx]
      simp [e]
    | false =>
      have e : (x :: l).findIdx q = l.findIdx q + 1 := by simp [List.findIdx_cons, hx]
      rw [List.find?_cons_of_neg (by simp [hx])]
      rcases find_idx q l with ⟨h1, h2⟩ | ⟨h1, h2⟩
      · exact .inl ⟨h1, by rw [e]; simpa using h2⟩
      · exact .inr ⟨by rw [e]; simpa using h1, by simp only [e, List.getElem_cons_succ]; exact h2⟩
theorem fiC_none (ls : List (List UInt8)) (p : Pc) (h : fdC ls p = none) : fiC ls p = -1 := by
  rcases find_idx (fun c => decide (pcOf c = p)) ls with ⟨_, h2⟩ | ⟨_, h2⟩
  · rw [fiC, if_neg h2]
  · unfold fdC at h
    rw [h] at h2
    cases h2
theorem fiC_some (ls : List (List UInt8)) (p : Pc) (c : List UInt8) (h : fdC ls p = some c) : ∃ (j : Nat) (hj : j < ls.length), fiC ls p = (j : Int) ∧ ls[j] = c := by
  rcases find_idx (fun c => decide (pcOf c = p)) ls with ⟨h1, _⟩ | ⟨h1, h2⟩
  · unfold fdC at h
    rw [h1] at h
    cases h
  · unfold fdC at h
    rw [h] at h2
    exact ⟨_, h1, by rw [fiC, if_pos h1], (Option.some.inj h2).symm⟩

set_option maxHeartbeats 4000000 in
set_option maxRecDepth 100000 in
theorem specMissingFor_c (va vb : Value) (n : Nat) (ps : List Pc) (hps : ps.length = n) (ls : List (List UInt8)) (w : World) (ha : Rd w 33 va n (piL ps)) (hb : RdS w vb ls) (hl : ls.flatten.length ≤ 100000000) (hn : ls.length ≤ 1000000000) :
    Ret Try.prog 39 #[va, vb] w fun r w' => OwnR2 w w' 25 32 r (mfT ps ls).1.length (kyL (mfT ps ls).1) (.int .i64 (mfT ps ls).2) := by
  obtain ⟨b, cap, rfl⟩ := ha.shape
  have HA := Lib.hid ha
  have HB := Lib.hid hb
  have HK := Lib.hid hps
  refine ret_start fun wx M => ?_
  have HKC := Lib.hid (fun (w : World) (h : RdS w vb ls) => l02Keyed_c b n cap vb ls w h hl hn)
  clear ha hb
  rcases kdC_cases n ls with hc | ⟨hc, hn256, hl2, hn2⟩
  · have HE := Lib.hid (show mfT ps ls = ([], 3) by rw [mfT, hps, hc, if_neg (by decide)])
    rw [show kyT n ls = [] by rw [kyT, hc, if_neg (by decide)], hc] at HKC
    clear hps
    go_enter Try.func39, Try.ntmps39
    go_wp2_with (first
      | (go_at_call 95; (with_reducible refine mem_callO2 M (HKC.out _ (HB.out.up M.up)) ?_); clear M; (try clear wx); intro bk ck wx M)
      | (with_reducible (show wpList _ _ _ (Oper.mk (some 18) (.buildSlice _ _ _) _ _ _ _ :: _) _ _); refine m_lit0 M rfl rfl ?_; clear M; (try clear wx); intro g18 wx M)
      | (with_reducible (show wpList _ _ _ (Oper.mk (some 20) (.buildSlice _ _ _) _ _ _ _ :: _) _ _); refine m_lit0 M rfl rfl ?_; clear M; (try clear wx); intro g20 wx M)
      | (with_reducible (show wpList _ _ _ (Oper.mk (some 41) (.buildSlice _ _ _) _ _ _ _ :: _) _ _); (first | (refine m_lit1A M rfl rfl rfl (by first | rfl | assumption | (simp; done) | (simp; omega)) (by decide) ?_) | (refine m_lit11 (v := Value.int _ _) M rfl rfl rfl rfl ?_) | (refine m_lit11 (v := Value.slice _ _ _) M rfl rfl rfl rfl ?_) | (refine m_lit11 (v := Value.bool _) M rfl rfl rfl rfl ?_) | (refine m_lit11 (v := Value.string _) M rfl rfl rfl rfl ?_) | (refine m_lit11 (v := Value.pointer _) M rfl rfl rfl rfl ?_)); clear M; (try clear wx); intro g41 wx M)
      | (with_reducible (show wpList _ _ _ (Oper.mk _ (.load _ _) _ _ _ _ :: _) _ _); (first | (refine m_load M rfl rfl rfl (by first | assumption | rfl) ?_) | (refine m_loadR M rfl rfl rfl (by first | rfl | assumption | (simp; done) | (simp; omega)) ?_)))
      | (with_reducible (show wpList _ _ _ (Oper.mk _ (.build _ _) _ _ _ _ :: _) _ _); refine m_buildZ rfl rfl ?_)
      | (with_reducible (show wpList _ _ _ (Oper.mk _ (.call (Call.mk (.builtin .append) _ _)) _ _ _ _ :: _) _ _); (first | (refine m_append1 M rfl rfl rfl (by first | rfl | omega | (simp; done)) rfl (by first | rfl | assumption | (simp; done) | (simp; omega)) (by first | exact bA_one _ | exact wA_one _ | assumption | (simp [Value.oneCell']; done)) (by first | assumption | (simp only [maxLen]; omega)) (by omega) ?_)); clear M; (try clear wx); intro _ _ wx M; simp only [List.set_cons_zero, List.set_cons_succ, Nat.zero_add, List.nil_append] at M))
    go_ret2
    exact ⟨_, rfl, by rw [HE.out]; exact ⟨_, _, rfl, M.out_own (p := 0) rfl⟩, M.up⟩
  · have HE := Lib.hid (show mfT ps ls = (setK (mfL ps ls), 0) by rw [mfT, hps, hc, if_pos rfl])
    rw [show kyT n ls = kysL ls by rw [kyT, hc, if_pos rfl], hc] at HKC
    have hkl : (kysL ls).length = ls.length := by simp [kysL]
    rw [hkl] at HKC
    clear hps hc
    go_enter Try.func39, Try.ntmps39
    go_wp2_with (first
      | (go_at_call 95; (with_reducible refine mem_callO2 M (HKC.out _ (HB.out.up M.up)) ?_); clear M; (try clear wx); intro bk ck wx M)
      | (with_reducible (show wpList _ _ _ (Oper.mk (some 18) (.buildSlice _ _ _) _ _ _ _ :: _) _ _); refine m_lit0 M rfl rfl ?_; clear M; (try clear wx); intro g18 wx M)
      | (with_reducible (show wpList _ _ _ (Oper.mk (some 20) (.buildSlice _ _ _) _ _ _ _ :: _) _ _); refine m_lit0 M rfl rfl ?_; clear M; (try clear wx); intro g20 wx M)
      | (with_reducible (show wpList _ _ _ (Oper.mk (some 41) (.buildSlice _ _ _) _ _ _ _ :: _) _ _); (first | (refine m_lit1A M rfl rfl rfl (by first | rfl | assumption | (simp; done) | (simp; omega)) (by decide) ?_) | (refine m_lit11 (v := Value.int _ _) M rfl rfl rfl rfl ?_) | (refine m_lit11 (v := Value.slice _ _ _) M rfl rfl rfl rfl ?_) | (refine m_lit11 (v := Value.bool _) M rfl rfl rfl rfl ?_) | (refine m_lit11 (v := Value.string _) M rfl rfl rfl rfl ?_) | (refine m_lit11 (v := Value.pointer _) M rfl rfl rfl rfl ?_)); clear M; (try clear wx); intro g41 wx M)
      | (with_reducible (show wpList _ _ _ (Oper.mk _ (.load _ _) _ _ _ _ :: _) _ _); (first | (refine m_load M rfl rfl rfl (by first | assumption | rfl) ?_) | (refine m_loadR M rfl rfl rfl (by first | rfl | assumption | (simp; done) | (simp; omega)) ?_)))
      | (with_reducible (show wpList _ _ _ (Oper.mk _ (.build _ _) _ _ _ _ :: _) _ _); refine m_buildZ rfl rfl ?_)
      | (with_reducible (show wpList _ _ _ (Oper.mk _ (.call (Call.mk (.builtin .append) _ _)) _ _ _ _ :: _) _ _); (first | (refine m_append1 M rfl rfl rfl (by first | rfl | omega | (simp; done)) rfl (by first | rfl | assumption | (simp; done) | (simp; omega)) (by first | exact bA_one _ | exact wA_one _ | assumption | (simp [Value.oneCell']; done)) (by first | assumption | (simp only [maxLen]; omega)) (by omega) ?_)); clear M; (try clear wx); intro _ _ wx M; simp only [List.set_cons_zero, List.set_cons_succ, Nat.zero_add, List.nil_append] at M))
    go_loopg [8, 9] n (fun q s i wr => ∃ (j m : Nat) (out : List Ky) (b : Option Addr) (cap : Nat), j + q = n ∧ s = .slice b m cap ∧ i = .int .i64 (j : Int) ∧ m ≤ j ∧ Hid (out.length = m ∧ out = mfL (ps.take j) ls) ∧ Mem w wr [.own b cap 25 32 m (kyL out), .own bk ck 25 32 ls.length (kyL (kysL ls))])
    case atStart => exact ⟨0, 0, [], _, _, by omega, rfl, rfl, Nat.le_refl _, Lib.hid ⟨rfl, rfl⟩, M⟩
    case round =>
      clear M
      obtain ⟨j, m, out, b, cap, hj, rfl, rfl, hm, HO, M⟩ := hrel
      by_cases hlt : j < n
      · obtain ⟨g, o, rfl, hc⟩ := HA.out.open_ (by omega)
        have hjl : j < ps.length := by rw [HK.out]; exact hlt
        have C1 := Lib.hid (fun wx (hb : Up w wx) => piL_range (hc wx hb) j hjl)
        have HTS := Lib.hid (show mfL (ps.take (j + 1)) ls = mfL (ps.take j) ls ++ (if (fdC ls ps[j]).isNone then [ps[j].1] else []) by rw [List.take_succ_eq_append_getElem hjl, mfL_snoc])
        have HJ := Lib.hid hj
        clear hc hj
        generalize (ps[j]'hjl) = p at *
        obtain ⟨⟨k, hk32⟩, z⟩ := p
        have HF := Lib.hid (fun (va vb2 : Value) (w : World) (h1 : RdS w va ls) (h2 : Rd w 32 vb2 ls.length (kyL (kysL ls))) => l02Find_c (⟨k, hk32⟩, z) va vb2 ls w h1 h2 hn)
        have CK := Lib.hid (show ∀ wx, Up w wx → wx.rangeAt g (o + j * 33) (bL k) from fun wx hb t v hv => C1.out wx hb t v (by unfold bP; rw [List.getElem?_append_left (List.getElem?_eq_some_iff.1 hv).1]; exact hv))
        cases hf : fdC ls (⟨k, hk32⟩, z) with
        | some c' =>
          obtain ⟨t, ht, hft, _⟩ := fiC_some _ _ _ hf
          rw [hft] at HF
          have HN := Lib.hid (show mfL (ps.take (j + 1)) ls = mfL (ps.take j) ls by rw [HTS.out, hf]; simp)
          clear hf hft
          go_wp2_with (first
            | (go_at_call 96; (with_reducible refine mem_call M (HF.out _ _ _ (HB.out.up M.up) (M.rdK (kysL ls))) ?_); clear M; (try clear wx); rintro _ wx rfl _ M)
            | (with_reducible (show wpList _ _ _ (Oper.mk (some 18) (.buildSlice _ _ _) _ _ _ _ :: _) _ _); refine m_lit0 M rfl rfl ?_; clear M; (try clear wx); intro g18 wx M)
            | (with_reducible (show wpList _ _ _ (Oper.mk (some 20) (.buildSlice _ _ _) _ _ _ _ :: _) _ _); refine m_lit0 M rfl rfl ?_; clear M; (try clear wx); intro g20 wx M)
            | (with_reducible (show wpList _ _ _ (Oper.mk (some 41) (.buildSlice _ _ _) _ _ _ _ :: _) _ _); (first | (refine m_lit1A M rfl rfl rfl (by first | rfl | assumption | (simp; done) | (simp; omega)) (by decide) ?_) | (refine m_lit11 (v := Value.int _ _) M rfl rfl rfl rfl ?_) | (refine m_lit11 (v := Value.slice _ _ _) M rfl rfl rfl rfl ?_) | (refine m_lit11 (v := Value.bool _) M rfl rfl rfl rfl ?_) | (refine m_lit11 (v := Value.string _) M rfl rfl rfl rfl ?_) | (refine m_lit11 (v := Value.pointer _) M rfl rfl rfl rfl ?_)); clear M; (try clear wx); intro g41 wx M)
            | (with_reducible (show wpList _ _ _ (Oper.mk _ (.load _ _) _ _ _ _ :: _) _ _); (first | (refine rd_loadPi (p := (⟨k, hk32⟩, z)) rfl rfl rfl (C1.out _ M.up) ?_) | (refine m_load M rfl rfl rfl (by first | assumption | rfl) ?_) | (refine m_loadR M rfl rfl rfl (by first | rfl | assumption | (simp; done) | (simp; omega)) ?_)))
            | (with_reducible (show wpList _ _ _ (Oper.mk _ (.build _ _) _ _ _ _ :: _) _ _); refine m_buildZ rfl rfl ?_)
            | (with_reducible (show wpList _ _ _ (Oper.mk _ (.call (Call.mk (.builtin .append) _ _)) _ _ _ _ :: _) _ _); (first | (refine m_append1 M rfl rfl rfl (by first | rfl | omega | (simp; done)) rfl (by first | rfl | assumption | (simp; done) | (simp; omega)) (by first | exact bA_one _ | exact wA_one _ | assumption | (simp [Value.oneCell']; done)) (by first | assumption | (simp only [maxLen]; omega)) (by omega) ?_)); clear M; (try clear wx); intro _ _ wx M; simp only [List.set_cons_zero, List.set_cons_succ, Nat.zero_add, List.nil_append] at M))
          have hj := HJ.out
          go_roundg (gk - 1)
          case measure => omega
          case rel => exact ⟨j + 1, m, out, _, _, by omega, rfl, by go_num, by omega, Lib.hid ⟨HO.out.1, by rw [HN.out]; exact HO.out.2⟩, M⟩
        | none =>
          rw [fiC_none _ _ hf] at HF
          have HN := Lib.hid (show mfL (ps.take (j + 1)) ls = mfL (ps.take j) ls ++ [⟨k, hk32⟩] by rw [HTS.out, hf]; simp)
          clear hf
          go_wp2_with (first
            | (go_at_call 96; (with_reducible refine mem_call M (HF.out _ _ _ (HB.out.up M.up) (M.rdK (kysL ls))) ?_); clear M; (try clear wx); rintro _ wx rfl _ M)
            | (with_reducible (show wpList _ _ _ (Oper.mk (some 18) (.buildSlice _ _ _) _ _ _ _ :: _) _ _); refine m_lit0 M rfl rfl ?_; clear M; (try clear wx); intro g18 wx M)
            | (with_reducible (show wpList _ _ _ (Oper.mk (some 20) (.buildSlice _ _ _) _ _ _ _ :: _) _ _); refine m_lit0 M rfl rfl ?_; clear M; (try clear wx); intro g20 wx M)
            | (with_reducible (show wpList _ _ _ (Oper.mk (some 41) (.buildSlice _ _ _) _ _ _ _ :: _) _ _); (first | (refine m_lit1A M rfl rfl rfl (by first | exact hk32 | (rw [bA_size]; exact hk32) | (simp; done)) (by decide) ?_) | (refine m_lit11 (v := Value.int _ _) M rfl rfl rfl rfl ?_) | (refine m_lit11 (v := Value.slice _ _ _) M rfl rfl rfl rfl ?_) | (refine m_lit11 (v := Value.bool _) M rfl rfl rfl rfl ?_) | (refine m_lit11 (v := Value.string _) M rfl rfl rfl rfl ?_) | (refine m_lit11 (v := Value.pointer _) M rfl rfl rfl rfl ?_)); clear M; (try clear wx); intro g41 wx M)
            | (with_reducible (show wpList _ _ _ (Oper.mk _ (.load _ _) _ _ _ _ :: _) _ _); (first | (refine rd_loadPi (p := (⟨k, hk32⟩, z)) rfl rfl rfl (C1.out _ M.up) ?_) | (refine rd_loadA (l := k) rfl rfl rfl (CK.out _ M.up) hk32 ?_) | (refine m_load M rfl rfl rfl (by first | assumption | rfl) ?_) | (refine m_loadR M rfl rfl rfl (by first | exact hk32 | (rw [bA_size]; exact hk32) | (simp; done)) ?_)))
            | (with_reducible (show wpList _ _ _ (Oper.mk _ (.build _ _) _ _ _ _ :: _) _ _); refine m_buildZ rfl rfl ?_)
            | (with_reducible (show wpList _ _ _ (Oper.mk _ (.call (Call.mk (.builtin .append) _ _)) _ _ _ _ :: _) _ _); (first | (refine m_append1 M rfl rfl rfl (by first | rfl | omega | (simp; done)) rfl (by first | exact hk32 | (rw [bA_size]; exact hk32) | (simp; done)) (bA_allC _) (by first | assumption | (simp only [maxLen]; omega)) (by omega) ?_)); clear M; (try clear wx); intro _ _ wx M; simp only [List.set_cons_zero, List.set_cons_succ, Nat.zero_add, List.nil_append] at M))
          rw [show (kyL out ++ (bA k).toList) = kyL (out ++ [⟨k, hk32⟩]) from kyL_snoc out ⟨k, hk32⟩] at M
          have hj := HJ.out
          go_roundg (gk - 1)
          case measure => omega
          case rel => exact ⟨j + 1, m + 1, out ++ [⟨k, hk32⟩], _, _, by omega, rfl, by go_num, by omega, Lib.hid ⟨by rw [List.length_append, HO.out.1]; rfl, by rw [HN.out, HO.out.2]⟩, M⟩
      · have HE2 := Lib.hid (show out = mfL ps ls by have := HO.out.2; rwa [List.take_of_length_le (by rw [HK.out]; omega)] at this)
        have HM := Lib.hid HO.out.1
        have HSC := Lib.hid (fun (v : Value) (w : World) (h : Rd w 32 v m (kyL out)) => l01Sort0_c v m out HM.out w h (by omega))
        clear HO hj
        go_wp2_with (first
          | (go_at_call 82; (with_reducible refine mem_callO M (HSC.out _ _ (M.rdK out)) ?_); clear M; (try clear wx); intro bz cz wx M)
          | (with_reducible (show wpList _ _ _ (Oper.mk (some 18) (.buildSlice _ _ _) _ _ _ _ :: _) _ _); refine m_lit0 M rfl rfl ?_; clear M; (try clear wx); intro g18 wx M)
          | (with_reducible (show wpList _ _ _ (Oper.mk (some 20) (.buildSlice _ _ _) _ _ _ _ :: _) _ _); refine m_lit0 M rfl rfl ?_; clear M; (try clear wx); intro g20 wx M)
          | (with_reducible (show wpList _ _ _ (Oper.mk (some 41) (.buildSlice _ _ _) _ _ _ _ :: _) _ _); (first | (refine m_lit1A M rfl rfl rfl (by first | rfl | assumption | (simp; done) | (simp; omega)) (by decide) ?_) | (refine m_lit11 (v := Value.int _ _) M rfl rfl rfl rfl ?_) | (refine m_lit11 (v := Value.slice _ _ _) M rfl rfl rfl rfl ?_) | (refine m_lit11 (v := Value.bool _) M rfl rfl rfl rfl ?_) | (refine m_lit11 (v := Value.string _) M rfl rfl rfl rfl ?_) | (refine m_lit11 (v := Value.pointer _) M rfl rfl rfl rfl ?_)); clear M; (try clear wx); intro g41 wx M)
          | (with_reducible (show wpList _ _ _ (Oper.mk _ (.load _ _) _ _ _ _ :: _) _ _); (first | (refine m_load M rfl rfl rfl (by first | assumption | rfl) ?_) | (refine m_loadR M rfl rfl rfl (by first | rfl | assumption | (simp; done) | (simp; omega)) ?_)))
          | (with_reducible (show wpList _ _ _ (Oper.mk _ (.build _ _) _ _ _ _ :: _) _ _); refine m_buildZ rfl rfl ?_)
          | (with_reducible (show wpList _ _ _ (Oper.mk _ (.call (Call.mk (.builtin .append) _ _)) _ _ _ _ :: _) _ _); (first | (refine m_append1 M rfl rfl rfl (by first | rfl | omega | (simp; done)) rfl (by first | rfl | assumption | (simp; done) | (simp; omega)) (by first | exact bA_one _ | exact wA_one _ | assumption | (simp [Value.oneCell']; done)) (by first | assumption | (simp only [maxLen]; omega)) (by omega) ?_)); clear M; (try clear wx); intro _ _ wx M; simp only [List.set_cons_zero, List.set_cons_succ, Nat.zero_add, List.nil_append] at M))
        go_ret2
        exact ⟨_, rfl, by rw [HE.out, ← HE2.out]; exact ⟨_, _, rfl, M.out_own (p := 0) rfl⟩, M.up⟩

end Go.Proofs.Ytmbhaoiahlbglaa

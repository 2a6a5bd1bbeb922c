/- Walks: nodes of maps written as bytes. -/
import Derived.Test.YtcldkllllojgpaaHNd
import Derived.Laws.IdiomStrings
namespace Go.Proofs.Ytcldkllllojgpaa
open Go.RowKit
set_option linter.unusedVariables false
set_option linter.unusedSimpArgs false

/-- The bytes of a node. -/
def nodB (k0 k1 : Ky) (n v : ByteArray) : List UInt8 := k0.1 ++ k1.1 ++ [UInt8.ofNat n.size] ++ n.data.toList ++ v.data.toList
theorem sB_len (s : ByteArray) : s.data.toList.length = s.size := Array.length_toList
theorem nodB_len (k0 k1 : Ky) (n v : ByteArray) : (nodB k0 k1 n v).length = 65 + n.size + v.size := by
  unfold nodB
  rw [List.length_append, List.length_append, List.length_append, List.length_append, k0.2, k1.2, sB_len, sB_len, List.length_singleton]
theorem tk_snoc (l : List UInt8) (k : Nat) (h : k < l.length) : bL (l.take k) ++ [.int .u8 ((bt l k).toNat : Int)] = bL (l.take (k + 1)) := by
  rw [List.take_succ_eq_append_getElem h, bt_eq l k h, ← bL_append]
  rfl
theorem Rd.ofStr (w : World) (s : ByteArray) (hs : s.size ≤ maxLen) (e : TypeId) (fr : Nat × Nat) :
    Rd (w.drew.alloc (.cells (bytesRow s (grownCap w s.size 0 e)) e fr)) 1 (.slice (some ⟨w.heap.size, 0, none⟩) s.size (grownCap w s.size 0 e)) s.size (bL s.data.toList) := by
  refine ⟨_, _, rfl, grownCap_ge _ _ _ _, grownCap_le_maxLen _ _ _ _ hs, by rw [bL_length, sB_len, Nat.mul_one], bL_one _, .inr ⟨_, 0, rfl, ?_, ?_⟩⟩
  · show w.heap.size < (w.heap.push _).size
    simp
  · intro j v hj
    have hlt : j < s.data.size := by
      have := (List.getElem?_eq_some_iff.1 hj).1
      rwa [bL_length, Array.length_toList] at this
    have hh : (w.drew.alloc (.cells (bytesRow s (grownCap w s.size 0 e)) e fr)).heap[w.heap.size]? = some (.cells (bytesRow s (grownCap w s.size 0 e)) e fr) := by
      show (w.heap.push _)[w.heap.size]? = _
      simp
    have hc : (bytesRow s (grownCap w s.size 0 e))[j]? = some v := by
      rw [bytesRow, Array.getElem?_append_left (by simpa using hlt), ← hj]
      simp [bL]
      rfl
    simp only [World.cell?, hh, Nat.zero_add, hc]
    try rfl
section
variable {P : Program} {ops : Array Oper} {rest : List Oper} {o : Oper} {a : Act} {w0 w : World} {Q : Exit → Act → World → Prop} {L : List It} {F : Value → World → Prop}
theorem m_strB (M : Mem w0 w L) (hgd : o.guard = none) {src dst e : TypeId} {x : Operand} (ho : o.op = .convert src dst x) {s : ByteArray} (hx : a.eval x = .string s) (hs : P.underlying src = some .string) (hd : P.underlying dst = some (.slice e)) (he : P.underlying e = some (.int .u8)) (hl : s.size ≤ maxLen)
    (h : ∀ g cap w', Mem w0 w' L → Rd w' 1 (.slice (some ⟨g, 0, none⟩) s.size cap) s.size (bL s.data.toList) → wpList P ops Q rest (a.put o.dst (.slice (some ⟨g, 0, none⟩) s.size cap)) w') : wpList P ops Q (o :: rest) a w := by
  refine wpList_wantN (by simp [Region.wanted, hgd]) ?_
  unfold Oper.wp execOp
  simp only [ho, hx, Sem.run_bind, run_bytes_of_string w src dst e s hs hd he, Result.andThen_ok, Sem.run_pure]
  exact h _ _ _ (M.grow ((Up.refl w).drew.alloc _)) (Rd.ofStr w s hl e _)
theorem st_strB {src dst e : TypeId} {x : Operand} (ho : o.op = .convert src dst x) {s : ByteArray} (hx : a.eval x = .string s) (hs : P.underlying src = some .string) (hd : P.underlying dst = some (.slice e)) (he : P.underlying e = some (.int .u8)) (hl : s.size ≤ maxLen)
    (hF : ∀ b c w', Rd w' 1 (.slice b s.size c) s.size (bL s.data.toList) → F (.slice b s.size c) w') : St P o a w Q F := by
  unfold St Oper.wp execOp
  simp only [ho, hx, Sem.run_bind, run_bytes_of_string w src dst e s hs hd he, Result.andThen_ok, Sem.run_pure]
  exact ⟨_, rfl, (Up.refl w).drew.alloc _, hF _ _ _ (Rd.ofStr w s hl e _)⟩
theorem st_lit1B {t : TypeId} {x : Operand} (ho : o.op = .buildSlice t 1 #[(0, x)]) {e : TypeId} [ht : SliceT P t e] {bytes : Nat} {z : Value} [he : ElT P e 1 bytes z]
    {b : UInt8} (hx : a.eval x = .int .u8 (b.toNat : Int)) (hF : ∀ p c w', Rd w' 1 (.slice p 1 c) 1 (bL [b]) → F (.slice p 1 c) w') : St P o a w Q F := by
  obtain ⟨g1, g2, g3⟩ := he.out
  obtain ⟨i0, hi0, hz0, hz1, hz2⟩ := info_parts g1
  refine wp_buildSlice t e 1 _ ho #[.int .u8 (b.toNat : Int)] i0 z ht.out hi0 hz0 (by rw [hz1]; omega) (by rw [hz1]; omega) ?_ ⟨_, rfl, (Below.refl _ _).alloc (Nat.le_refl _) _, hF _ _ _ ?_⟩
  · rw [hz1]
    have hp : (((#[(0, x)] : Array (Nat × Operand)).map fun (i, x) => (i, a.eval x)).toList) = [(0, .int .u8 (b.toNat : Int))] := by simp [hx]
    rw [hp]
    exact fill_one 1 _ (.int .u8 (b.toNat : Int)) (by simp) rfl
  · have M := (Mem.start w).alloc_ e #[.int .u8 (b.toNat : Int)]
    exact M.rd_blk (p := 0) rfl 1 0 1 1 (bL [b]) (fun j v hj => by simpa [bL, bV] using hj) rfl (Nat.le_refl _) (by simp only [maxLen]; omega) (bL_one _)
theorem st_lit5 {t : TypeId} {x0 x1 x2 x3 x4 : Operand} (ho : o.op = .buildSlice t 5 #[(0, x0), (1, x1), (2, x2), (3, x3), (4, x4)]) {e : TypeId} [ht : SliceT P t e] {bytes : Nat} {z : Value} [he : ElT P e 1 bytes z]
    {v0 v1 v2 v3 v4 : Value} (h0 : a.eval x0 = v0) (h1 : a.eval x1 = v1) (h2 : a.eval x2 = v2) (h3 : a.eval x3 = v3) (h4 : a.eval x4 = v4) (hone : ∀ u ∈ [v0, v1, v2, v3, v4], u.oneCell' = true)
    (hF : F (.slice (some ⟨w.heap.size, 0, none⟩) 5 5) (w.alloc (.cells #[v0, v1, v2, v3, v4] e))) : St P o a w Q F := by
  obtain ⟨g1, g2, g3⟩ := he.out
  obtain ⟨i0, hi0, hz0, hz1, hz2⟩ := info_parts g1
  refine wp_buildSlice t e 5 _ ho #[v0, v1, v2, v3, v4] i0 z ht.out hi0 hz0 (by rw [hz1]; omega) (by rw [hz1]; omega) ?_ ⟨_, rfl, (Below.refl _ _).alloc (Nat.le_refl _) _, hF⟩
  rw [hz1]
  have hp : (((#[(0, x0), (1, x1), (2, x2), (3, x3), (4, x4)] : Array (Nat × Operand)).map fun (i, x) => (i, a.eval x)).toList) = (([v0, v1, v2, v3, v4] : List Value).zipIdx 0).map fun x => (x.2, x.1) := by simp [h0, h1, h2, h3, h4, List.zipIdx]
  rw [hp]
  exact Great.fill_flat _ _ (fun v hv => cells_one (hone v hv)) (by simp)
theorem st_lenS {x : Operand} {t : TypeId} (ho : o.op = .call { callee := .builtin .len, args := #[x], argTypes := #[t] }) {s : ByteArray} (hx : a.eval x = .string s) (ht : P.underlying t = some .string) (hF : F (.int .i64 (s.size : Int)) w) : St P o a w Q F := by
  refine st_run (v := .int .i64 (s.size : Int)) ?_ hF
  unfold execOp
  simp only [ho, resolve, invoke, builtin, Sem.run_bind, Sem.run_pure, Result.andThen_ok, List.map_toArray, List.map_cons, List.map_nil, hx]
  simp [Builtin.len_, run_underlying ht, Builtin.lenOf, goInt]
theorem slice_arrO {t e : TypeId} {n : Nat} (ht : P.underlying t = some (.array n e)) {bytes : Nat} {z : Value} (he : ElT P e 1 bytes z) (g off : Nat) (hn : n ≠ 0) (w : World) :
    (Instr.sliceAt t (.pointer (some ⟨g, off, none⟩)) none none none).run P w = .ok (.slice (some ⟨g, off, none⟩) n n) w := by
  have h1 := run_sizeOf he w
  have hb : (Instr.sliceBounds false n n none none none).run P w = .ok (0, n, n) w := by simp [Instr.sliceBounds]
  simp [Instr.sliceAt, run_underlying ht, Instr.sureAddr, hb, h1, Addr.add_mid]
end
theorem RdS.ofBlk {w : World} {g : Nat} {e : TypeId} {vs : List Value} {ls : List (List UInt8)} (hb : Blk w g e vs.toArray) (hl : vs.length = ls.length) (hm : ls.length ≤ maxLen)
    (h : ∀ (i : Nat) l, ls[i]? = some l → ∃ u, vs[i]? = some u ∧ u.oneCell' = true ∧ Rd w 1 u l.length (bL l)) : RdS w (.slice (some ⟨g, 0, none⟩) ls.length ls.length) ls := by
  refine ⟨vs, ⟨_, ls.length, rfl, Nat.le_refl _, hm, by rw [hl, Nat.mul_one], fun u hu => ?_, .inr ⟨g, 0, rfl, hb.lt, hb.rng 0 _ (fun j v hj => by simpa using hj)⟩⟩, fun i l hi => ?_⟩
  · obtain ⟨i, hi, rfl⟩ := List.getElem_of_mem hu
    obtain ⟨u', h1, h2, -⟩ := h i _ (List.getElem?_eq_getElem (by omega))
    rw [List.getElem?_eq_getElem hi] at h1
    cases h1
    exact h2
  · obtain ⟨u, h1, -, h3⟩ := h i l hi
    exact ⟨u, h1, h3⟩

theorem RdS.five {w : World} {g : Nat} {e : TypeId} {v0 v1 v2 v3 v4 : Value} {a b c d f : List UInt8} (h : Blk w g e #[v0, v1, v2, v3, v4]) (r0 : Rd w 1 v0 a.length (bL a)) (r1 : Rd w 1 v1 b.length (bL b)) (r2 : Rd w 1 v2 c.length (bL c)) (r3 : Rd w 1 v3 d.length (bL d)) (r4 : Rd w 1 v4 f.length (bL f)) :
    RdS w (.slice (some ⟨g, 0, none⟩) 5 5) [a, b, c, d, f] := by
  have key : ∀ {v : Value} {l : List UInt8}, Rd w 1 v l.length (bL l) → v.oneCell' = true := fun h => by obtain ⟨b, c, rfl⟩ := h.shape; rfl
  refine RdS.ofBlk (vs := [v0, v1, v2, v3, v4]) (ls := [a, b, c, d, f]) h rfl (by simp only [maxLen, List.length_cons, List.length_nil]; omega) (fun i l hi => ?_)
  match i, hi with
  | 0, hi => obtain rfl := Option.some.inj hi; exact ⟨_, rfl, key r0, r0⟩
  | 1, hi => obtain rfl := Option.some.inj hi; exact ⟨_, rfl, key r1, r1⟩
  | 2, hi => obtain rfl := Option.some.inj hi; exact ⟨_, rfl, key r2, r2⟩
  | 3, hi => obtain rfl := Option.some.inj hi; exact ⟨_, rfl, key r3, r3⟩
  | 4, hi => obtain rfl := Option.some.inj hi; exact ⟨_, rfl, key r4, r4⟩
theorem conv_u8m (x : Nat) (w : World) : (convert 3 5 (.int .i64 (x : Int))).run Try.prog w = .ok (.int .u8 ((x % 256 : Nat) : Int)) w := by
  go_simp
  rw [u8_wrap]
  simp

set_option maxHeartbeats 4000000 in
set_option maxRecDepth 100000 in
theorem l04Bytes_c (g : Nat) (t : TypeId) (k0 k1 : Ky) (n v : ByteArray) (w : World) (hb : Blk w g t (nodC k0.1 k1.1 n v)) (hn : n.size ≤ 1048576) (hv : v.size ≤ 1048576) :
    Ret Try.prog 44 #[.pointer (some ⟨g, 0, none⟩)] w fun r w' => OwnR w w' 5 1 r (nodB k0 k1 n v).length (bL (nodB k0 k1 n v)) := by
  have h0 := k0.2
  have h1 := k1.2
  have CA := Lib.hid (show ∀ wx, Up w wx → ∀ j, j < 32 → wx.cell? ⟨g, j, none⟩ = some (.int .u8 ((bt k0.1 j).toNat : Int)) from fun wx hu j hj => by
    have := (hb.up hu).cell_ (nod_get0 _ _ h0 h1 n v j _ (bL_get k0.1 j (by omega)))
    rwa [Nat.zero_add] at this)
  have CB := Lib.hid (show ∀ wx, Up w wx → ∀ j, j < 32 → wx.cell? ⟨g, 32 + j, none⟩ = some (.int .u8 ((bt k1.1 j).toNat : Int)) from fun wx hu j hj =>
    (hb.up hu).cell_ (nod_get1 _ _ h0 h1 n v j _ (bL_get k1.1 j (by omega))))
  have CN := Lib.hid (show ∀ wx, Up w wx → wx.cell? ⟨g, 64, none⟩ = some (.string n) from fun wx hu => (hb.up hu).cell_ (nod_64 _ _ h0 h1 _ _))
  have CV := Lib.hid (show ∀ wx, Up w wx → wx.cell? ⟨g, 65, none⟩ = some (.string v) from fun wx hu => (hb.up hu).cell_ (nod_65 _ _ h0 h1 _ _))
  have HL := Lib.hid (nodB_len k0 k1 n v)
  have HQ := Lib.hid (show bL (k0.1 ++ k1.1) ++ [.int .u8 ((n.size : Int) % 256)] ++ bL n.data.toList ++ bL v.data.toList = bL (nodB k0 k1 n v) by simp [nodB, bL, bV])
  have HT := Lib.hid (fun (k : Nat) (hk : k < 32) => tk_snoc k0.1 k (by rw [k0.2]; exact hk))
  have HU := Lib.hid (fun (k : Nat) (hk : k < 32) => tk_snoc k1.1 k (by rw [k1.2]; exact hk))
  have HA := Lib.hid (fun (k : Nat) => bL_append k0.1 (k1.1.take k))
  refine ret_start fun wx M => ?_
  clear hb h0 h1
  go_enter Try.func44, Try.ntmps44
  go_wp2_with (first
    | (with_reducible (show wpList _ _ _ (Oper.mk (some 6) (.buildSlice _ _ _) _ _ _ _ :: _) _ _); refine m_lit0 M rfl rfl ?_; clear M; (try clear wx); intro g6 wx M)
    | (with_reducible (show wpList _ _ _ (Oper.mk (some 18) (.buildSlice _ _ _) _ _ _ _ :: _) _ _); (first | (refine m_lit1A M rfl rfl rfl (by first | rfl | assumption | (simp; done) | (simp; omega)) (by decide) ?_) | (refine m_lit11 (v := Value.int _ _) M rfl rfl rfl rfl ?_) | (refine m_lit11 (v := Value.slice _ _ _) M rfl rfl rfl rfl ?_) | (refine m_lit11 (v := Value.bool _) M rfl rfl rfl rfl ?_) | (refine m_lit11 (v := Value.string _) M rfl rfl rfl rfl ?_) | (refine m_lit11 (v := Value.pointer _) M rfl rfl rfl rfl ?_)); clear M; (try clear wx); intro g18 wx M)
    | (with_reducible (show wpList _ _ _ (Oper.mk (some 31) (.buildSlice _ _ _) _ _ _ _ :: _) _ _); (first | (refine m_lit1A M rfl rfl rfl (by first | rfl | assumption | (simp; done) | (simp; omega)) (by decide) ?_) | (refine m_lit11 (v := Value.int _ _) M rfl rfl rfl rfl ?_) | (refine m_lit11 (v := Value.slice _ _ _) M rfl rfl rfl rfl ?_) | (refine m_lit11 (v := Value.bool _) M rfl rfl rfl rfl ?_) | (refine m_lit11 (v := Value.string _) M rfl rfl rfl rfl ?_) | (refine m_lit11 (v := Value.pointer _) M rfl rfl rfl rfl ?_)); clear M; (try clear wx); intro g31 wx M)
    | (with_reducible (show wpList _ _ _ (Oper.mk (some 41) (.buildSlice _ _ _) _ _ _ _ :: _) _ _); (first | (refine m_lit1A M rfl rfl rfl (by first | rfl | assumption | (simp; done) | (simp; omega)) (by decide) ?_) | (refine m_lit11 (v := Value.int _ _) M rfl rfl rfl rfl ?_) | (refine m_lit11 (v := Value.slice _ _ _) M rfl rfl rfl rfl ?_) | (refine m_lit11 (v := Value.bool _) M rfl rfl rfl rfl ?_) | (refine m_lit11 (v := Value.string _) M rfl rfl rfl rfl ?_) | (refine m_lit11 (v := Value.pointer _) M rfl rfl rfl rfl ?_)); clear M; (try clear wx); intro g41 wx M)
    | (with_reducible (show wpList _ _ _ (Oper.mk _ (.load _ _) _ _ _ _ :: _) _ _); (first | (refine m_load M rfl rfl rfl (by first | assumption | rfl) ?_) | (refine m_loadR M rfl rfl rfl (by first | rfl | assumption | (simp; done) | (simp; omega)) ?_)))
    | (with_reducible (show wpList _ _ _ (Oper.mk _ (.call (Call.mk (.builtin .append) _ _)) _ _ _ _ :: _) _ _); (first | (refine m_append1 M rfl rfl rfl (by first | rfl | omega | (simp; done)) rfl (by first | rfl | assumption | (simp; done) | (simp; omega)) (by first | exact bA_one _ | exact wA_one _ | assumption | (simp [Value.oneCell']; done)) (by first | assumption | (simp only [maxLen]; omega)) (by omega) ?_)); clear M; (try clear wx); intro _ _ wx M; simp only [List.set_cons_zero, List.set_cons_succ, Nat.zero_add, List.nil_append] at M))
  go_loopg [3, 4] 32 (fun r s i wr => ∃ (k : Nat) (b : Option Addr) (cap : Nat), k + r = 32 ∧ s = .slice b k cap ∧ i = .int .i64 (k : Int) ∧ Mem w wr [.own b cap 5 1 k (bL (k0.1.take k))])
  case atStart => exact ⟨0, _, _, by omega, rfl, rfl, M⟩
  case round =>
    obtain ⟨k, b, cap, hk, rfl, rfl, M⟩ := hrel
    by_cases hlt : k < 32
    · have C1 := Lib.hid (fun wx hu => CA.out wx hu k hlt)
      have HK := Lib.hid hk
      have HT1 := Lib.hid (HT.out k hlt)
      clear hk
      go_wp2_with (first
        | (with_reducible (show wpList _ _ _ (Oper.mk (some 6) (.buildSlice _ _ _) _ _ _ _ :: _) _ _); refine m_lit0 M rfl rfl ?_; clear M; (try clear wx); intro g6 wx M)
        | (with_reducible (show wpList _ _ _ (Oper.mk (some 18) (.buildSlice _ _ _) _ _ _ _ :: _) _ _); (first | (refine m_lit1A M rfl rfl rfl (by first | rfl | assumption | (simp; done) | (simp; omega)) (by decide) ?_) | (refine m_lit11 (v := Value.int _ _) M rfl rfl rfl rfl ?_) | (refine m_lit11 (v := Value.slice _ _ _) M rfl rfl rfl rfl ?_) | (refine m_lit11 (v := Value.bool _) M rfl rfl rfl rfl ?_) | (refine m_lit11 (v := Value.string _) M rfl rfl rfl rfl ?_) | (refine m_lit11 (v := Value.pointer _) M rfl rfl rfl rfl ?_)); clear M; (try clear wx); intro g18 wx M)
        | (with_reducible (show wpList _ _ _ (Oper.mk (some 31) (.buildSlice _ _ _) _ _ _ _ :: _) _ _); (first | (refine m_lit1A M rfl rfl rfl (by first | rfl | assumption | (simp; done) | (simp; omega)) (by decide) ?_) | (refine m_lit11 (v := Value.int _ _) M rfl rfl rfl rfl ?_) | (refine m_lit11 (v := Value.slice _ _ _) M rfl rfl rfl rfl ?_) | (refine m_lit11 (v := Value.bool _) M rfl rfl rfl rfl ?_) | (refine m_lit11 (v := Value.string _) M rfl rfl rfl rfl ?_) | (refine m_lit11 (v := Value.pointer _) M rfl rfl rfl rfl ?_)); clear M; (try clear wx); intro g31 wx M)
        | (with_reducible (show wpList _ _ _ (Oper.mk (some 41) (.buildSlice _ _ _) _ _ _ _ :: _) _ _); (first | (refine m_lit1A M rfl rfl rfl (by first | rfl | assumption | (simp; done) | (simp; omega)) (by decide) ?_) | (refine m_lit11 (v := Value.int _ _) M rfl rfl rfl rfl ?_) | (refine m_lit11 (v := Value.slice _ _ _) M rfl rfl rfl rfl ?_) | (refine m_lit11 (v := Value.bool _) M rfl rfl rfl rfl ?_) | (refine m_lit11 (v := Value.string _) M rfl rfl rfl rfl ?_) | (refine m_lit11 (v := Value.pointer _) M rfl rfl rfl rfl ?_)); clear M; (try clear wx); intro g41 wx M)
        | (with_reducible (show wpList _ _ _ (Oper.mk _ (.load _ _) _ _ _ _ :: _) _ _); (first | (refine wpList_load_one rfl rfl rfl (C1.out _ M.up) ?_) | (refine m_load M rfl rfl rfl (by first | assumption | rfl) ?_) | (refine m_loadR M rfl rfl rfl (by first | rfl | assumption | (simp; done) | (simp; omega)) ?_)))
        | (with_reducible (show wpList _ _ _ (Oper.mk _ (.call (Call.mk (.builtin .append) _ _)) _ _ _ _ :: _) _ _); (first | (refine m_append1 M rfl rfl rfl (by first | rfl | omega | (simp; done)) rfl (by first | rfl | assumption | (simp; done) | (simp; omega)) (by first | exact bA_one _ | exact wA_one _ | assumption | (simp [Value.oneCell']; done)) (by first | assumption | (simp only [maxLen]; omega)) (by omega) ?_)); clear M; (try clear wx); intro _ _ wx M; simp only [List.set_cons_zero, List.set_cons_succ, Nat.zero_add, List.nil_append] at M))
      have hk := HK.out
      go_roundg (gk - 1)
      case measure => omega
      case rel => exact ⟨k + 1, _, _, by omega, rfl, by go_num, by rw [← HT1.out]; exact M⟩
    · obtain rfl : k = 32 := by omega
      rw [List.take_of_length_le (by rw [k0.2]; exact Nat.le_refl _)] at M
      clear hk hlt
      go_wp2_with (first
        | (with_reducible (show wpList _ _ _ (Oper.mk (some 6) (.buildSlice _ _ _) _ _ _ _ :: _) _ _); refine m_lit0 M rfl rfl ?_; clear M; (try clear wx); intro g6 wx M)
        | (with_reducible (show wpList _ _ _ (Oper.mk (some 18) (.buildSlice _ _ _) _ _ _ _ :: _) _ _); (first | (refine m_lit1A M rfl rfl rfl (by first | rfl | assumption | (simp; done) | (simp; omega)) (by decide) ?_) | (refine m_lit11 (v := Value.int _ _) M rfl rfl rfl rfl ?_) | (refine m_lit11 (v := Value.slice _ _ _) M rfl rfl rfl rfl ?_) | (refine m_lit11 (v := Value.bool _) M rfl rfl rfl rfl ?_) | (refine m_lit11 (v := Value.string _) M rfl rfl rfl rfl ?_) | (refine m_lit11 (v := Value.pointer _) M rfl rfl rfl rfl ?_)); clear M; (try clear wx); intro g18 wx M)
        | (with_reducible (show wpList _ _ _ (Oper.mk (some 31) (.buildSlice _ _ _) _ _ _ _ :: _) _ _); (first | (refine m_lit1A M rfl rfl rfl (by first | rfl | assumption | (simp; done) | (simp; omega)) (by decide) ?_) | (refine m_lit11 (v := Value.int _ _) M rfl rfl rfl rfl ?_) | (refine m_lit11 (v := Value.slice _ _ _) M rfl rfl rfl rfl ?_) | (refine m_lit11 (v := Value.bool _) M rfl rfl rfl rfl ?_) | (refine m_lit11 (v := Value.string _) M rfl rfl rfl rfl ?_) | (refine m_lit11 (v := Value.pointer _) M rfl rfl rfl rfl ?_)); clear M; (try clear wx); intro g31 wx M)
        | (with_reducible (show wpList _ _ _ (Oper.mk (some 41) (.buildSlice _ _ _) _ _ _ _ :: _) _ _); (first | (refine m_lit1A M rfl rfl rfl (by first | rfl | assumption | (simp; done) | (simp; omega)) (by decide) ?_) | (refine m_lit11 (v := Value.int _ _) M rfl rfl rfl rfl ?_) | (refine m_lit11 (v := Value.slice _ _ _) M rfl rfl rfl rfl ?_) | (refine m_lit11 (v := Value.bool _) M rfl rfl rfl rfl ?_) | (refine m_lit11 (v := Value.string _) M rfl rfl rfl rfl ?_) | (refine m_lit11 (v := Value.pointer _) M rfl rfl rfl rfl ?_)); clear M; (try clear wx); intro g41 wx M)
        | (with_reducible (show wpList _ _ _ (Oper.mk _ (.load _ _) _ _ _ _ :: _) _ _); (first | (refine m_load M rfl rfl rfl (by first | assumption | rfl) ?_) | (refine m_loadR M rfl rfl rfl (by first | rfl | assumption | (simp; done) | (simp; omega)) ?_)))
        | (with_reducible (show wpList _ _ _ (Oper.mk _ (.call (Call.mk (.builtin .append) _ _)) _ _ _ _ :: _) _ _); (first | (refine m_append1 M rfl rfl rfl (by first | rfl | omega | (simp; done)) rfl (by first | rfl | assumption | (simp; done) | (simp; omega)) (by first | exact bA_one _ | exact wA_one _ | assumption | (simp [Value.oneCell']; done)) (by first | assumption | (simp only [maxLen]; omega)) (by omega) ?_)); clear M; (try clear wx); intro _ _ wx M; simp only [List.set_cons_zero, List.set_cons_succ, Nat.zero_add, List.nil_append] at M))
      go_loopg [3, 5] 32 (fun r s i wr => ∃ (k : Nat) (b : Option Addr) (cap : Nat), k + r = 32 ∧ s = .slice b (32 + k) cap ∧ i = .int .i64 (k : Int) ∧ Mem w wr [.own b cap 5 1 (32 + k) (bL (k0.1 ++ k1.1.take k))])
      case atStart => exact ⟨0, _, _, by omega, rfl, rfl, by rw [List.take_zero, List.append_nil]; exact M⟩
      case round =>
        obtain ⟨k, b, cap, hk, rfl, rfl, M⟩ := hrel
        by_cases hlt : k < 32
        · have C1 := Lib.hid (fun wx hu => CB.out wx hu k hlt)
          have HK := Lib.hid hk
          have HT1 := Lib.hid (show bL (k0.1 ++ k1.1.take k) ++ [.int .u8 ((bt k1.1 k).toNat : Int)] = bL (k0.1 ++ k1.1.take (k + 1)) by rw [← bL_append, ← bL_append, List.append_assoc, HU.out k hlt])
          clear hk
          go_wp2_with (first
            | (with_reducible (show wpList _ _ _ (Oper.mk (some 6) (.buildSlice _ _ _) _ _ _ _ :: _) _ _); refine m_lit0 M rfl rfl ?_; clear M; (try clear wx); intro g6 wx M)
            | (with_reducible (show wpList _ _ _ (Oper.mk (some 18) (.buildSlice _ _ _) _ _ _ _ :: _) _ _); (first | (refine m_lit1A M rfl rfl rfl (by first | rfl | assumption | (simp; done) | (simp; omega)) (by decide) ?_) | (refine m_lit11 (v := Value.int _ _) M rfl rfl rfl rfl ?_) | (refine m_lit11 (v := Value.slice _ _ _) M rfl rfl rfl rfl ?_) | (refine m_lit11 (v := Value.bool _) M rfl rfl rfl rfl ?_) | (refine m_lit11 (v := Value.string _) M rfl rfl rfl rfl ?_) | (refine m_lit11 (v := Value.pointer _) M rfl rfl rfl rfl ?_)); clear M; (try clear wx); intro g18 wx M)
            | (with_reducible (show wpList _ _ _ (Oper.mk (some 31) (.buildSlice _ _ _) _ _ _ _ :: _) _ _); (first | (refine m_lit1A M rfl rfl rfl (by first | rfl | assumption | (simp; done) | (simp; omega)) (by decide) ?_) | (refine m_lit11 (v := Value.int _ _) M rfl rfl rfl rfl ?_) | (refine m_lit11 (v := Value.slice _ _ _) M rfl rfl rfl rfl ?_) | (refine m_lit11 (v := Value.bool _) M rfl rfl rfl rfl ?_) | (refine m_lit11 (v := Value.string _) M rfl rfl rfl rfl ?_) | (refine m_lit11 (v := Value.pointer _) M rfl rfl rfl rfl ?_)); clear M; (try clear wx); intro g31 wx M)
            | (with_reducible (show wpList _ _ _ (Oper.mk (some 41) (.buildSlice _ _ _) _ _ _ _ :: _) _ _); (first | (refine m_lit1A M rfl rfl rfl (by first | rfl | assumption | (simp; done) | (simp; omega)) (by decide) ?_) | (refine m_lit11 (v := Value.int _ _) M rfl rfl rfl rfl ?_) | (refine m_lit11 (v := Value.slice _ _ _) M rfl rfl rfl rfl ?_) | (refine m_lit11 (v := Value.bool _) M rfl rfl rfl rfl ?_) | (refine m_lit11 (v := Value.string _) M rfl rfl rfl rfl ?_) | (refine m_lit11 (v := Value.pointer _) M rfl rfl rfl rfl ?_)); clear M; (try clear wx); intro g41 wx M)
            | (with_reducible (show wpList _ _ _ (Oper.mk _ (.load _ _) _ _ _ _ :: _) _ _); (first | (refine wpList_load_one rfl rfl rfl (C1.out _ M.up) ?_) | (refine m_load M rfl rfl rfl (by first | assumption | rfl) ?_) | (refine m_loadR M rfl rfl rfl (by first | rfl | assumption | (simp; done) | (simp; omega)) ?_)))
            | (with_reducible (show wpList _ _ _ (Oper.mk _ (.call (Call.mk (.builtin .append) _ _)) _ _ _ _ :: _) _ _); (first | (refine m_append1 M rfl rfl rfl (by first | rfl | omega | (simp; done)) rfl (by first | rfl | assumption | (simp; done) | (simp; omega)) (by first | exact bA_one _ | exact wA_one _ | assumption | (simp [Value.oneCell']; done)) (by first | assumption | (simp only [maxLen]; omega)) (by omega) ?_)); clear M; (try clear wx); intro _ _ wx M; simp only [List.set_cons_zero, List.set_cons_succ, Nat.zero_add, List.nil_append] at M))
          have hk := HK.out
          go_roundg (gk - 1)
          case measure => omega
          case rel => exact ⟨k + 1, _, _, by omega, rfl, by go_num, by rw [← HT1.out]; exact M⟩
        · obtain rfl : k = 32 := by omega
          rw [List.take_of_length_le (by rw [k1.2]; exact Nat.le_refl _)] at M
          clear hk hlt
          have hm1 : n.size ≤ maxLen := by simp only [maxLen]; omega
          have hm2 : v.size ≤ maxLen := by simp only [maxLen]; omega
          go_wp2_with (first
            | (with_reducible (show wpList _ _ _ (Oper.mk (some 49) (.convert _ _ _) _ _ _ _ :: _) _ _); refine m_strB M rfl rfl rfl Try.underlying9 Try.underlying33 Try.underlying5 (by assumption) ?_; clear M; (try clear wx); intro gq cq wx M HR)
            | (with_reducible (show wpList _ _ _ (Oper.mk (some 57) (.convert _ _ _) _ _ _ _ :: _) _ _); refine m_strB M rfl rfl rfl Try.underlying9 Try.underlying33 Try.underlying5 (by assumption) ?_; clear M; (try clear wx); intro gp cp wx M HR)
            | (with_reducible (show wpList _ _ _ (Oper.mk (some 6) (.buildSlice _ _ _) _ _ _ _ :: _) _ _); refine m_lit0 M rfl rfl ?_; clear M; (try clear wx); intro g6 wx M)
            | (with_reducible (show wpList _ _ _ (Oper.mk (some 18) (.buildSlice _ _ _) _ _ _ _ :: _) _ _); (first | (refine m_lit1A M rfl rfl rfl (by first | rfl | assumption | (simp; done) | (simp; omega)) (by decide) ?_) | (refine m_lit11 (v := Value.int _ _) M rfl rfl rfl rfl ?_) | (refine m_lit11 (v := Value.slice _ _ _) M rfl rfl rfl rfl ?_) | (refine m_lit11 (v := Value.bool _) M rfl rfl rfl rfl ?_) | (refine m_lit11 (v := Value.string _) M rfl rfl rfl rfl ?_) | (refine m_lit11 (v := Value.pointer _) M rfl rfl rfl rfl ?_)); clear M; (try clear wx); intro g18 wx M)
            | (with_reducible (show wpList _ _ _ (Oper.mk (some 31) (.buildSlice _ _ _) _ _ _ _ :: _) _ _); (first | (refine m_lit1A M rfl rfl rfl (by first | rfl | assumption | (simp; done) | (simp; omega)) (by decide) ?_) | (refine m_lit11 (v := Value.int _ _) M rfl rfl rfl rfl ?_) | (refine m_lit11 (v := Value.slice _ _ _) M rfl rfl rfl rfl ?_) | (refine m_lit11 (v := Value.bool _) M rfl rfl rfl rfl ?_) | (refine m_lit11 (v := Value.string _) M rfl rfl rfl rfl ?_) | (refine m_lit11 (v := Value.pointer _) M rfl rfl rfl rfl ?_)); clear M; (try clear wx); intro g31 wx M)
            | (with_reducible (show wpList _ _ _ (Oper.mk (some 41) (.buildSlice _ _ _) _ _ _ _ :: _) _ _); (first | (refine m_lit1A M rfl rfl rfl (by first | rfl | assumption | (simp; done) | (simp; omega)) (by decide) ?_) | (refine m_lit11 (v := Value.int _ _) M rfl rfl rfl rfl ?_) | (refine m_lit11 (v := Value.slice _ _ _) M rfl rfl rfl rfl ?_) | (refine m_lit11 (v := Value.bool _) M rfl rfl rfl rfl ?_) | (refine m_lit11 (v := Value.string _) M rfl rfl rfl rfl ?_) | (refine m_lit11 (v := Value.pointer _) M rfl rfl rfl rfl ?_)); clear M; (try clear wx); intro g41 wx M)
            | (with_reducible (show wpList _ _ _ (Oper.mk _ (.load _ _) _ _ _ _ :: _) _ _); (first | (refine wpList_load_one rfl rfl rfl (CN.out _ M.up) ?_) | (refine wpList_load_one rfl rfl rfl (CV.out _ M.up) ?_) | (refine m_load M rfl rfl rfl (by first | assumption | rfl) ?_) | (refine m_loadR M rfl rfl rfl (by first | rfl | assumption | (simp; done) | (simp; omega)) ?_)))
            | (with_reducible (show wpList _ _ _ (Oper.mk _ (.call (Call.mk (.builtin .append) _ _)) _ _ _ _ :: _) _ _); (first | (refine m_append M rfl rfl rfl (by first | rfl | omega | (simp; done)) rfl (HR) (by first | assumption | (simp only [maxLen]; omega)) (by omega) ?_) | (refine m_append1 M rfl rfl rfl (by first | rfl | omega | (simp; done)) rfl (by first | rfl | assumption | (simp; done) | (simp; omega)) (by first | exact bA_one _ | exact wA_one _ | assumption | (simp [Value.oneCell']; done)) (by first | assumption | (simp only [maxLen]; omega)) (by omega) ?_)); clear M; (try clear wx); intro _ _ wx M; simp only [List.set_cons_zero, List.set_cons_succ, Nat.zero_add, List.nil_append] at M))
          rw [HQ.out] at M
          go_ret
          refine ⟨_, rfl, ?_, M.up⟩
          rw [HL.out]
          exact ⟨_, _, rfl, M.out_own (p := 0) rfl⟩

/-- What MapNodeBytes gives. -/
def mnB (k0 k1 : Ky) (n v : ByteArray) : List UInt8 := if entB n v then nodB k0 k1 n v else []
def mnC (n v : ByteArray) : Int := if entB n v then 0 else 1
theorem mnB_yes {k0 k1 : Ky} {n v : ByteArray} (h : entB n v = true) : mnB k0 k1 n v = nodB k0 k1 n v := by rw [mnB, if_pos h]
theorem mnB_no {k0 k1 : Ky} {n v : ByteArray} (h : entB n v = false) : mnB k0 k1 n v = [] := by rw [mnB, if_neg (by rw [h]; decide)]
theorem mnC_yes {n v : ByteArray} (h : entB n v = true) : mnC n v = 0 := by rw [mnC, if_pos h]
theorem mnC_no {n v : ByteArray} (h : entB n v = false) : mnC n v = 1 := by rw [mnC, if_neg (by rw [h]; decide)]
set_option maxHeartbeats 4000000 in
set_option maxRecDepth 100000 in
theorem specMapNodeBytes_c (k0 k1 : Ky) (n v : ByteArray) (w : World) (hn : n.size ≤ 1048576) (hv : v.size ≤ 1048576) :
    Ret Try.prog 23 #[.agg (nodC k0.1 k1.1 n v)] w fun r w' => OwnR2 w w' 5 1 r (mnB k0 k1 n v).length (bL (mnB k0 k1 n v)) (.int .i64 (mnC n v)) := by
  have h0 := k0.2
  have h1 := k1.2
  refine ret_start fun wx M => ?_
  cases hb : entB n v with
  | true =>
    rw [mnB_yes hb, mnC_yes hb]
    have HB := Lib.hid hb
    clear hb
    go_enter Try.func23, Try.ntmps23
    go_wp2_with (first
      | (go_at_call 43; (with_reducible refine mem_call M (Ret.same (l04Entry_c g1 0 64 n v _ ((M.blkG g1).cell_ (nod_64 _ _ h0 h1 _ _)) ((M.blkG g1).cell_ (nod_65 _ _ h0 h1 _ _)))) ?_); clear M; (try clear wx); rintro _ wx rfl _ M; rw [HB.out])
      | (go_at_call 44; (with_reducible refine mem_callO M (l04Bytes_c g1 _ k0 k1 n v _ (M.blkG g1) hn hv) ?_); clear M; (try clear wx); intro bz cz wx M)
      | (with_reducible (show wpList _ _ _ (Oper.mk (some 1) (.box _ _) _ _ _ _ :: _) _ _); (first | (refine m_boxA M rfl rfl rfl ?_) | (refine m_box1 (v := Value.int _ _) M rfl rfl rfl rfl ?_) | (refine m_box1 (v := Value.slice _ _ _) M rfl rfl rfl rfl ?_) | (refine m_box1 (v := Value.bool _) M rfl rfl rfl rfl ?_) | (refine m_box1 (v := Value.string _) M rfl rfl rfl rfl ?_) | (refine m_box1 (v := Value.pointer _) M rfl rfl rfl rfl ?_)); clear M; (try clear wx); intro g1 wx M)
      | (with_reducible (show wpList _ _ _ (Oper.mk (some 7) (.buildSlice _ _ _) _ _ _ _ :: _) _ _); refine m_lit0 M rfl rfl ?_; clear M; (try clear wx); intro g7 wx M))
    go_ret2
    exact ⟨_, rfl, ⟨_, _, rfl, M.out_own (p := 0) rfl⟩, M.up⟩
  | false =>
    rw [mnB_no hb, mnC_no hb]
    have HB := Lib.hid hb
    clear hb
    go_enter Try.func23, Try.ntmps23
    go_wp2_with (first
      | (go_at_call 43; (with_reducible refine mem_call M (Ret.same (l04Entry_c g1 0 64 n v _ ((M.blkG g1).cell_ (nod_64 _ _ h0 h1 _ _)) ((M.blkG g1).cell_ (nod_65 _ _ h0 h1 _ _)))) ?_); clear M; (try clear wx); rintro _ wx rfl _ M; rw [HB.out])
      | (go_at_call 44; (with_reducible refine mem_callO M (l04Bytes_c g1 _ k0 k1 n v _ (M.blkG g1) hn hv) ?_); clear M; (try clear wx); intro bz cz wx M)
      | (with_reducible (show wpList _ _ _ (Oper.mk (some 1) (.box _ _) _ _ _ _ :: _) _ _); (first | (refine m_boxA M rfl rfl rfl ?_) | (refine m_box1 (v := Value.int _ _) M rfl rfl rfl rfl ?_) | (refine m_box1 (v := Value.slice _ _ _) M rfl rfl rfl rfl ?_) | (refine m_box1 (v := Value.bool _) M rfl rfl rfl rfl ?_) | (refine m_box1 (v := Value.string _) M rfl rfl rfl rfl ?_) | (refine m_box1 (v := Value.pointer _) M rfl rfl rfl rfl ?_)); clear M; (try clear wx); intro g1 wx M)
      | (with_reducible (show wpList _ _ _ (Oper.mk (some 7) (.buildSlice _ _ _) _ _ _ _ :: _) _ _); refine m_lit0 M rfl rfl ?_; clear M; (try clear wx); intro g7 wx M))
    go_ret2
    exact ⟨_, rfl, ⟨_, _, rfl, M.out_own (p := 0) rfl⟩, M.up⟩

set_option maxHeartbeats 8000000 in
set_option maxRecDepth 100000 in
theorem bytesM_c (k0 k1 : Ky) (n v : ByteArray) (w : World) (hn : n.size ≤ 1048576) (hv : v.size ≤ 1048576) :
    Ret Try.prog 46 #[.agg (nodC k0.1 k1.1 n v)] w fun r w' => OwnR w w' 5 1 r (nodB k0 k1 n v).length (bL (nodB k0 k1 n v)) := by
  have h0 := k0.2
  have h1 := k1.2
  have hm1 : n.size ≤ maxLen := by simp only [maxLen]; omega
  have hm2 : v.size ≤ maxLen := by simp only [maxLen]; omega
  have HF := Lib.hid (show [k0.1, k1.1, [UInt8.ofNat n.size], n.data.toList, v.data.toList].flatten = nodB k0 k1 n v by simp [nodB])
  have HB := Lib.hid (show (UInt8.ofNat n.size).toNat = n.size % 256 by simp)
  have HL := Lib.hid (nodB_len k0 k1 n v)
  have HC := Lib.hid (show ∀ (v' : Value) (w : World), RdS w v' [k0.1, k1.1, [UInt8.ofNat n.size], n.data.toList, v.data.toList] → Ret Try.prog 52 #[v'] w fun r w' => OwnR w w' 5 1 r (nodB k0 k1 n v).length (bL (nodB k0 k1 n v)) from fun v' w h => by
    have := concat_c v' _ w h (by rw [HF.out, HL.out]; omega) (by simp)
    rwa [HF.out] at this)
  have K0 := Lib.hid (show ∀ (w w' : World) (t : TypeId) (g : Nat), Blk w g t (nodC k0.1 k1.1 n v) → Up w w' → Rd w' 1 (.slice (some ⟨g, 0, none⟩) 32 32) 32 (bL k0.1) from fun _ _ _ g h hu =>
    ⟨_, 32, rfl, Nat.le_refl _, by simp only [maxLen]; omega, by rw [bL_length, h0], bL_one _, .inr ⟨g, 0, rfl, (h.up hu).lt, (h.up hu).rng 0 _ (nod_get0 _ _ h0 h1 n v)⟩⟩)
  have K1 := Lib.hid (show ∀ (w w' : World) (t : TypeId) (g : Nat), Blk w g t (nodC k0.1 k1.1 n v) → Up w w' → Rd w' 1 (.slice (some ⟨g, 32, none⟩) 32 32) 32 (bL k1.1) from fun _ _ _ g h hu =>
    ⟨_, 32, rfl, Nat.le_refl _, by simp only [maxLen]; omega, by rw [bL_length, h1], bL_one _, .inr ⟨g, 32, rfl, (h.up hu).lt, (h.up hu).rng 32 _ (nod_get1 _ _ h0 h1 n v)⟩⟩)
  refine ret_start fun wx M => ?_
  go_enter Try.func46, Try.ntmps46
  go_wp2_with (first
    | (with_reducible (show wpList _ _ _ (Oper.mk (some 1) (.box _ _) _ _ _ _ :: _) _ _); (first | (refine m_boxA M rfl rfl rfl ?_) | (refine m_box1 (v := Value.int _ _) M rfl rfl rfl rfl ?_) | (refine m_box1 (v := Value.slice _ _ _) M rfl rfl rfl rfl ?_) | (refine m_box1 (v := Value.bool _) M rfl rfl rfl rfl ?_) | (refine m_box1 (v := Value.string _) M rfl rfl rfl rfl ?_) | (refine m_box1 (v := Value.pointer _) M rfl rfl rfl rfl ?_)); clear M; (try clear wx); intro g1 wx M)
    | (with_reducible (show wpList _ _ _ (Oper.mk (some 12) (.buildSlice _ _ _) _ _ _ _ :: _) _ _); (first | (refine m_lit1A M rfl rfl rfl (by first | exact nod_size _ _ rfl rfl _ _ | exact nodV_size _ | assumption | rfl | (simp; done)) (by decide) ?_) | (refine m_lit11 (v := Value.int _ _) M rfl rfl rfl rfl ?_) | (refine m_lit11 (v := Value.slice _ _ _) M rfl rfl rfl rfl ?_) | (refine m_lit11 (v := Value.bool _) M rfl rfl rfl rfl ?_) | (refine m_lit11 (v := Value.string _) M rfl rfl rfl rfl ?_) | (refine m_lit11 (v := Value.pointer _) M rfl rfl rfl rfl ?_)); clear M; (try clear wx); intro g12 wx M)
    | (with_reducible (show wpList _ _ _ (Oper.mk _ (.load _ _) _ _ _ _ :: _) _ _); (first | (refine m_load M rfl rfl rfl (by first | assumption | rfl) ?_) | (refine m_loadR M rfl rfl rfl (by first | exact nod_size _ _ rfl rfl _ _ | exact nodV_size _ | assumption | rfl | (simp; done)) ?_))))
  refine region_mono (m := 19) mixedOrders_ (by kernel_rfl) (by kernel_rfl)
    (fun | 0 => fun vq _ => vq = .pointer (some ⟨g1, 0, none⟩) | 1 => fun vq _ => vq = .slice (some ⟨g1, 0, none⟩) 32 32 | 2 => fun vq _ => vq = .pointer (some ⟨g1, 32, none⟩) | 3 => fun vq _ => vq = .slice (some ⟨g1, 32, none⟩) 32 32 | 4 => fun vq _ => vq = .pointer (some ⟨g1, 64, none⟩) | 5 => fun vq _ => vq = .pointer (some ⟨g1, 64, none⟩) | 6 => fun vq _ => vq = .string n | 7 => fun vq _ => vq = .int .i64 (n.size : Int) | 8 => fun vq _ => vq = .int .u8 ((UInt8.ofNat n.size).toNat : Int) | 9 => fun vq wx => ∃ b c, vq = Value.slice b 1 c ∧ Rd wx 1 (.slice b 1 c) 1 (bL [UInt8.ofNat n.size]) | 10 => fun vq _ => vq = .pointer (some ⟨g1, 64, none⟩) | 11 => fun vq _ => vq = .pointer (some ⟨g1, 64, none⟩) | 12 => fun vq _ => vq = .string n | 13 => fun vq wx => ∃ b c, vq = Value.slice b n.size c ∧ Rd wx 1 (.slice b n.size c) n.size (bL n.data.toList) | 14 => fun vq _ => vq = .pointer (some ⟨g1, 64, none⟩) | 15 => fun vq _ => vq = .pointer (some ⟨g1, 65, none⟩) | 16 => fun vq _ => vq = .string v | 17 => fun vq wx => ∃ b c, vq = Value.slice b v.size c ∧ Rd wx 1 (.slice b v.size c) v.size (bL v.data.toList) | 18 => fun vq wx => ∃ g, vq = Value.slice (some ⟨g, 0, none⟩) 5 5 ∧ RdS wx (.slice (some ⟨g, 0, none⟩) 5 5) [k0.1, k1.1, [UInt8.ofNat n.size], n.data.toList, v.data.toList] | _ => fun _ _ => True)
    (fun wx => Mem w wx [.blk g1 39 (nodC k0.1 k1.1 n v)]) ?_ ?_ ?_ ?_ ?_
  · intro j hj v w1 w2 hb h
    match j, hj with
    | 0, _ => exact h
    | 1, _ => exact h
    | 2, _ => exact h
    | 3, _ => exact h
    | 4, _ => exact h
    | 5, _ => exact h
    | 6, _ => exact h
    | 7, _ => exact h
    | 8, _ => exact h
    | 9, _ => exact (let ⟨b, c, e, h⟩ := h; ⟨b, c, e, h.up hb⟩)
    | 10, _ => exact h
    | 11, _ => exact h
    | 12, _ => exact h
    | 13, _ => exact (let ⟨b, c, e, h⟩ := h; ⟨b, c, e, h.up hb⟩)
    | 14, _ => exact h
    | 15, _ => exact h
    | 16, _ => exact h
    | 17, _ => exact (let ⟨b, c, e, h⟩ := h; ⟨b, c, e, h.up hb⟩)
    | 18, _ => exact (let ⟨b, e, h⟩ := h; ⟨b, e, h.up hb⟩)
    | n + 19, h' => exact absurd h' (by omega)
  · intro w1 w2 hb h
    exact h.grow hb
  · exact M.grow ((Up.refl _).drew)
  · rintro i o hi ho av wv fr gM dep
    match i, hi with
    | 0, _ =>
      obtain rfl := Option.some.inj ho
      exact st_fld rfl Try.underlying39 rfl (fr.eval rfl) 0 rfl (by kernel_rfl) rfl
    | 1, _ =>
      obtain rfl := Option.some.inj ho
      exact st_slice0 rfl (dep ⟨0, .data⟩ (by simp) rfl) (slice_arrO Try.underlying35 (inferInstance : ElT Try.prog 5 1 1 _) g1 0 (by decide) _) rfl
    | 2, _ =>
      obtain rfl := Option.some.inj ho
      exact st_fld rfl Try.underlying39 rfl (fr.eval rfl) 32 rfl (by kernel_rfl) rfl
    | 3, _ =>
      obtain rfl := Option.some.inj ho
      exact st_slice0 rfl (dep ⟨2, .data⟩ (by simp) rfl) (slice_arrO Try.underlying35 (inferInstance : ElT Try.prog 5 1 1 _) g1 32 (by decide) _) rfl
    | 4, _ =>
      obtain rfl := Option.some.inj ho
      exact st_fld rfl Try.underlying39 rfl (fr.eval rfl) 64 rfl (by kernel_rfl) rfl
    | 5, _ =>
      obtain rfl := Option.some.inj ho
      exact st_fld rfl Try.underlying37 rfl (dep ⟨4, .data⟩ (by simp) rfl) 0 rfl (by kernel_rfl) rfl
    | 6, _ =>
      obtain rfl := Option.some.inj ho
      exact st_load1G gM rfl (dep ⟨5, .data⟩ (by simp) rfl) (nod_64 _ _ h0 h1 _ _) rfl
    | 7, _ =>
      obtain rfl := Option.some.inj ho
      exact st_lenS rfl (dep ⟨6, .data⟩ (by simp) rfl) Try.underlying9 rfl
    | 8, _ =>
      obtain rfl := Option.some.inj ho
      exact st_convert rfl (dep ⟨7, .data⟩ (by simp) rfl) (by rw [HB.out]; exact conv_u8m _ _) rfl
    | 9, _ =>
      obtain rfl := Option.some.inj ho
      exact st_lit1B rfl (dep ⟨8, .data⟩ (by simp) rfl) fun b c w' h => ⟨b, c, rfl, h⟩
    | 10, _ =>
      obtain rfl := Option.some.inj ho
      exact st_fld rfl Try.underlying39 rfl (fr.eval rfl) 64 rfl (by kernel_rfl) rfl
    | 11, _ =>
      obtain rfl := Option.some.inj ho
      exact st_fld rfl Try.underlying37 rfl (dep ⟨10, .data⟩ (by simp) rfl) 0 rfl (by kernel_rfl) rfl
    | 12, _ =>
      obtain rfl := Option.some.inj ho
      exact st_load1G gM rfl (dep ⟨11, .data⟩ (by simp) rfl) (nod_64 _ _ h0 h1 _ _) rfl
    | 13, _ =>
      obtain rfl := Option.some.inj ho
      exact st_strB rfl (dep ⟨12, .data⟩ (by simp) rfl) Try.underlying9 Try.underlying33 Try.underlying5 hm1 fun b c w' h => ⟨b, c, rfl, h⟩
    | 14, _ =>
      obtain rfl := Option.some.inj ho
      exact st_fld rfl Try.underlying39 rfl (fr.eval rfl) 64 rfl (by kernel_rfl) rfl
    | 15, _ =>
      obtain rfl := Option.some.inj ho
      exact st_fld rfl Try.underlying37 rfl (dep ⟨14, .data⟩ (by simp) rfl) 1 rfl (by kernel_rfl) rfl
    | 16, _ =>
      obtain rfl := Option.some.inj ho
      exact st_load1G gM rfl (dep ⟨15, .data⟩ (by simp) rfl) (nod_65 _ _ h0 h1 _ _) rfl
    | 17, _ =>
      obtain rfl := Option.some.inj ho
      exact st_strB rfl (dep ⟨16, .data⟩ (by simp) rfl) Try.underlying9 Try.underlying33 Try.underlying5 hm2 fun b c w' h => ⟨b, c, rfl, h⟩
    | 18, _ =>
      obtain rfl := Option.some.inj ho
      obtain ⟨b9, c9, e9, r9⟩ := dep ⟨9, .data⟩ (by simp) rfl
      obtain ⟨bn, cn, en, rn⟩ := dep ⟨13, .data⟩ (by simp) rfl
      obtain ⟨bv, cv, ev, rv⟩ := dep ⟨17, .data⟩ (by simp) rfl
      rw [← sB_len n] at en rn
      rw [← sB_len v] at ev rv
      refine st_lit5 rfl (dep ⟨1, .data⟩ (by simp) rfl) (dep ⟨3, .data⟩ (by simp) rfl) e9 en ev (by simp [Value.oneCell']) ?_
      have hup := (Up.refl wv).alloc (.cells #[.slice (some ⟨g1, 0, none⟩) 32 32, .slice (some ⟨g1, 32, none⟩) 32 32, .slice b9 1 c9, .slice bn n.data.toList.length cn, .slice bv v.data.toList.length cv] 33)
      refine ⟨_, rfl, RdS.five (Blk.new _ _ _) (by rw [h0]; exact K0.out _ _ _ _ (gM.blkG g1) hup) (by rw [h1]; exact K1.out _ _ _ _ (gM.blkG g1) hup) (r9.up hup) (rn.up hup) (rv.up hup)⟩
    | n + 19, h' => exact absurd h' (by omega)
  · rintro vs wv gM hf
    have f0 : vs 0 = .pointer (some ⟨g1, 0, none⟩) := hf 0 (by omega)
    have f1 : vs 1 = .slice (some ⟨g1, 0, none⟩) 32 32 := hf 1 (by omega)
    have f2 : vs 2 = .pointer (some ⟨g1, 32, none⟩) := hf 2 (by omega)
    have f3 : vs 3 = .slice (some ⟨g1, 32, none⟩) 32 32 := hf 3 (by omega)
    have f4 : vs 4 = .pointer (some ⟨g1, 64, none⟩) := hf 4 (by omega)
    have f5 : vs 5 = .pointer (some ⟨g1, 64, none⟩) := hf 5 (by omega)
    have f6 : vs 6 = .string n := hf 6 (by omega)
    have f7 : vs 7 = .int .i64 (n.size : Int) := hf 7 (by omega)
    have f8 : vs 8 = .int .u8 ((UInt8.ofNat n.size).toNat : Int) := hf 8 (by omega)
    have f9 := hf 9 (by omega)
    have f10 : vs 10 = .pointer (some ⟨g1, 64, none⟩) := hf 10 (by omega)
    have f11 : vs 11 = .pointer (some ⟨g1, 64, none⟩) := hf 11 (by omega)
    have f12 : vs 12 = .string n := hf 12 (by omega)
    have f13 := hf 13 (by omega)
    have f14 : vs 14 = .pointer (some ⟨g1, 64, none⟩) := hf 14 (by omega)
    have f15 : vs 15 = .pointer (some ⟨g1, 65, none⟩) := hf 15 (by omega)
    have f16 : vs 16 = .string v := hf 16 (by omega)
    have f17 := hf 17 (by omega)
    have f18 := hf 18 (by omega)
    obtain ⟨gl, el, rl⟩ := f18
    simp only [putAll, Act.put, List.getElem?_toArray, List.getElem?_cons_zero, List.getElem?_cons_succ, Option.bind_some, List.setIfInBounds_toArray, List.set_cons_zero, List.set_cons_succ, List.drop_succ_cons, List.drop_zero, List.drop_nil, el]
    clear f0 f1 f2 f3 f4 f5 f6 f7 f8 f9 f10 f11 f12 f13 f14 f15 f16 f17 el hf
    have M := gM
    have RL := Lib.hid rl
    clear rl gM
    go_wp2_with (first
      | (go_at_call 52; (with_reducible refine mem_callO M (HC.out _ _ RL.out) ?_); clear M; (try clear wx); intro bz cz wx M)
      | (with_reducible (show wpList _ _ _ (Oper.mk (some 1) (.box _ _) _ _ _ _ :: _) _ _); (first | (refine m_boxA M rfl rfl rfl ?_) | (refine m_box1 (v := Value.int _ _) M rfl rfl rfl rfl ?_) | (refine m_box1 (v := Value.slice _ _ _) M rfl rfl rfl rfl ?_) | (refine m_box1 (v := Value.bool _) M rfl rfl rfl rfl ?_) | (refine m_box1 (v := Value.string _) M rfl rfl rfl rfl ?_) | (refine m_box1 (v := Value.pointer _) M rfl rfl rfl rfl ?_)); clear M; (try clear wx); intro g1 wx M)
      | (with_reducible (show wpList _ _ _ (Oper.mk (some 12) (.buildSlice _ _ _) _ _ _ _ :: _) _ _); (first | (refine m_lit1A M rfl rfl rfl (by first | rfl | assumption | (simp; done) | (simp; omega)) (by decide) ?_) | (refine m_lit11 (v := Value.int _ _) M rfl rfl rfl rfl ?_) | (refine m_lit11 (v := Value.slice _ _ _) M rfl rfl rfl rfl ?_) | (refine m_lit11 (v := Value.bool _) M rfl rfl rfl rfl ?_) | (refine m_lit11 (v := Value.string _) M rfl rfl rfl rfl ?_) | (refine m_lit11 (v := Value.pointer _) M rfl rfl rfl rfl ?_)); clear M; (try clear wx); intro g12 wx M)
      | (with_reducible (show wpList _ _ _ (Oper.mk _ (.load _ _) _ _ _ _ :: _) _ _); (first | (refine m_load M rfl rfl rfl (by first | assumption | rfl) ?_) | (refine m_loadR M rfl rfl rfl (by first | rfl | assumption | (simp; done) | (simp; omega)) ?_))))
    go_ret
    refine ⟨_, rfl, ?_, M.up⟩
    exact ⟨_, _, rfl, M.out_own (p := 0) rfl⟩

set_option maxHeartbeats 4000000 in
set_option maxRecDepth 100000 in
theorem implMapNodeBytes_c (k0 k1 : Ky) (n v : ByteArray) (w : World) (hn : n.size ≤ 1048576) (hv : v.size ≤ 1048576) :
    Ret Try.prog 25 #[.agg (nodC k0.1 k1.1 n v)] w fun r w' => OwnR2 w w' 5 1 r (mnB k0 k1 n v).length (bL (mnB k0 k1 n v)) (.int .i64 (mnC n v)) := by
  have h0 := k0.2
  have h1 := k1.2
  refine ret_start fun wx M => ?_
  cases hb : entB n v with
  | true =>
    rw [mnB_yes hb, mnC_yes hb]
    have HB : Hid (∀ w, Ret Try.prog 40 #[.agg (entC n v)] w fun r _ => r = .bool true) := Lib.hid (fun w => by have := validEntry_r (n, v) w; rw [hb] at this; exact this)
    clear hb
    go_enter Try.func25, Try.ntmps25
    go_wp2_with (first
      | (go_at_call 40; (with_reducible refine mem_call M (HB.out _) ?_); clear M; (try clear wx); rintro _ wx rfl _ M)
      | (go_at_call 46; (with_reducible refine mem_callO M (bytesM_c k0 k1 n v _ hn hv) ?_); clear M; (try clear wx); intro bz cz wx M)
      | (with_reducible (show wpList _ _ _ (Oper.mk (some 1) (.box _ _) _ _ _ _ :: _) _ _); (first | (refine m_boxA M rfl rfl rfl ?_) | (refine m_box1 (v := Value.int _ _) M rfl rfl rfl rfl ?_) | (refine m_box1 (v := Value.slice _ _ _) M rfl rfl rfl rfl ?_) | (refine m_box1 (v := Value.bool _) M rfl rfl rfl rfl ?_) | (refine m_box1 (v := Value.string _) M rfl rfl rfl rfl ?_) | (refine m_box1 (v := Value.pointer _) M rfl rfl rfl rfl ?_)); clear M; (try clear wx); intro g1 wx M)
      | (with_reducible (show wpList _ _ _ (Oper.mk _ (.load _ _) _ _ _ _ :: _) _ _); (first | (refine m_loadE M rfl rfl rfl (nod_getE _ _ h0 h1 _ _) ?_) | (refine m_load M rfl rfl rfl (by first | assumption | rfl) ?_) | (refine m_loadR M rfl rfl rfl (nod_size _ _ h0 h1 _ _) ?_))))
    go_ret2
    exact ⟨_, rfl, ⟨_, _, rfl, M.out_own (p := 0) rfl⟩, M.up⟩
  | false =>
    rw [mnB_no hb, mnC_no hb]
    have HB : Hid (∀ w, Ret Try.prog 40 #[.agg (entC n v)] w fun r _ => r = .bool false) := Lib.hid (fun w => by have := validEntry_r (n, v) w; rw [hb] at this; exact this)
    clear hb
    go_enter Try.func25, Try.ntmps25
    go_wp2_with (first
      | (go_at_call 40; (with_reducible refine mem_call M (HB.out _) ?_); clear M; (try clear wx); rintro _ wx rfl _ M)
      | (with_reducible (show wpList _ _ _ (Oper.mk (some 1) (.box _ _) _ _ _ _ :: _) _ _); (first | (refine m_boxA M rfl rfl rfl ?_) | (refine m_box1 (v := Value.int _ _) M rfl rfl rfl rfl ?_) | (refine m_box1 (v := Value.slice _ _ _) M rfl rfl rfl rfl ?_) | (refine m_box1 (v := Value.bool _) M rfl rfl rfl rfl ?_) | (refine m_box1 (v := Value.string _) M rfl rfl rfl rfl ?_) | (refine m_box1 (v := Value.pointer _) M rfl rfl rfl rfl ?_)); clear M; (try clear wx); intro g1 wx M)
      | (with_reducible (show wpList _ _ _ (Oper.mk _ (.load _ _) _ _ _ _ :: _) _ _); (first | (refine m_loadE M rfl rfl rfl (nod_getE _ _ h0 h1 _ _) ?_) | (refine m_load M rfl rfl rfl (by first | assumption | rfl) ?_) | (refine m_loadR M rfl rfl rfl (nod_size _ _ h0 h1 _ _) ?_))))
    go_ret2
    exact ⟨_, rfl, ⟨_, _, rfl, (M.nil_own 5 1).out_own (p := 0) rfl⟩, M.up⟩

end Go.Proofs.Ytcldkllllojgpaa

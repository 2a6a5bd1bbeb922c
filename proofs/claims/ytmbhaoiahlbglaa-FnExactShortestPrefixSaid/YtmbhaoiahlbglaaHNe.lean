/- Walks: NearestKeys and its law. -/
import Derived.Test.YtmbhaoiahlbglaaHKs
import Derived.Shelf.SlSortCmp.QuietGrown
namespace Go.Proofs.Ytmbhaoiahlbglaa
open Go.RowKit Go.Sort
set_option linter.unusedVariables false
set_option linter.unusedSimpArgs false

/-- A world that grew and drew: the form that the library's sort asks. -/
theorem up_grow {w w' : World} (h : Up w w') (hd : w.drawn ≤ w'.drawn) : ∃ q os', w' = grow (w.drewN q) os' := by
  obtain ⟨h1, h2, h3, h4, h5⟩ := h
  refine ⟨w'.drawn - w.drawn, w'.heap.extract w.heap.size w'.heap.size, ?_⟩
  obtain ⟨hp, tp, dr, os, ou⟩ := w
  obtain ⟨hp', tp', dr', os', ou'⟩ := w'
  simp only [grow, World.drewN, World.mk.injEq] at *
  refine ⟨?_, h2, by omega, h1, h3⟩
  apply Array.ext_getElem?
  intro k
  rw [Array.getElem?_append]
  split
  · rename_i hk
    exact h5 k hk
  · rename_i hk
    rw [Array.getElem?_extract]
    simp only [Nat.min_self]
    split
    · congr 1; omega
    · rw [Array.getElem?_eq_none (by omega)]
section
variable {P : Program} {ops : Array Oper} {Q : Exit → Act → World → Prop} {o : Oper} {a : Act} {w w0 : World} {L : List It}
/-- What is kept in a drawn region where the draws are counted. -/
def GD (w0 : World) (L : List It) (w : World) : Prop := Mem w0 w L ∧ w0.drawn ≤ w.drawn
theorem stD {i m : Nat} {F : Nat → Value → World → Prop} (hF : ∀ j u w w', j < m → F j u w → F j u w') (M : GD w0 L w) (hd : o.dst.isSome = true) (ho : ops[i]? = some o) (hg : o.guard = none)
    (h : o.wp P a w (fun a' w' => ∃ v, a' = a.put o.dst v ∧ Up w w' ∧ w.drawn ≤ w'.drawn ∧ F i v w') Q) :
    wpOp P ops Q i (fun a' w' => ∃ v, a' = a.put o.dst v ∧ (∀ j u, j < m → F j u w → F j u w') ∧ GD w0 L w' ∧ (o.dst.isSome = true → F i v w') ∧ (o.dst.isSome = false → F i undef w')) a w := by
  refine wpOp_some ho hg (Oper.wp_mono (fun a' w' h' => ?_) h)
  obtain ⟨v, h1, h2, h4, h3⟩ := h'
  exact ⟨v, h1, fun j u hj => hF j u w w' hj, ⟨M.1.grow h2, Nat.le_trans M.2 h4⟩, fun _ => h3, fun e => by rw [hd] at e; cases e⟩
theorem stD_load {F : Value → World → Prop} {g : Nat} {t : TypeId} {cs : Array Value} (M : Blk w g t cs) {ty : TypeId} {x : Operand} (ho : o.op = .load ty x) (hx : a.eval x = .pointer (some ⟨g, 0, none⟩)) {n : Nat} [hT : RowT P ty n] (hn : cs.size = n) (hF : F (.agg cs) w) :
    o.wp P a w (fun a' w' => ∃ v, a' = a.put o.dst v ∧ Up w w' ∧ w.drawn ≤ w'.drawn ∧ F v w') Q := by
  obtain ⟨d, h1, h2, h3⟩ := hT.out
  exact wp_load_row ty x ho g hx t cs (0, 0) d M h1 (by cases d <;> simp_all) (by rw [h3, hn]) ⟨_, rfl, Up.refl _, Nat.le_refl _, hF⟩
theorem stD_call2 {F : Value → World → Prop} {f : FuncId} {x1 x2 : Operand} {ats : Array TypeId} (ho : o.op = .call { callee := .value (.func f), args := #[x1, x2], argTypes := ats }) {v1 v2 : Value}
    (hcf : ∀ args w, (callFunc f args).run P w = .ok (.enter f args) w) (h1 : a.eval x1 = v1) (h2 : a.eval x2 = v2) {v : Value} (h : Calls P f #[v1, v2] w fun e w' => e = .returned v ∧ w.drawn ≤ w'.drawn ∧ Up w w') (hF : ∀ w', F v w') :
    o.wp P a w (fun a' w' => ∃ v, a' = a.put o.dst v ∧ Up w w' ∧ w.drawn ≤ w'.drawn ∧ F v w') Q := by
  have hr : (execOp a.eval o).run P w = .ok (.enter f #[v1, v2]) w := by
    obtain ⟨dst, op, ty, pos, after, guard⟩ := o
    simp only at ho
    subst ho
    rw [execOp_call_go]
    simp only [List.append_nil, Array.empty_append, Array.append_empty, List.map_toArray, List.map_cons, List.map_nil, h1, h2, hcf]
  unfold Oper.wp
  rw [hr]
  exact h.mono fun e w' ⟨he, hd, hb⟩ => by
    subst he
    exact ⟨v, rfl, hb, hd, hF w'⟩
theorem stD_move {F : Value → World → Prop} {x : Operand} (ho : o.op = .move x ∨ o.op = .assign x) {v : Value} (hx : a.eval x = v) (hF : F v w) :
    o.wp P a w (fun a' w' => ∃ v, a' = a.put o.dst v ∧ Up w w' ∧ w.drawn ≤ w'.drawn ∧ F v w') Q := by
  unfold Oper.wp execOp
  rcases ho with ho | ho <;> (simp only [ho, Sem.run_pure, Oper.upon, hx]; exact ⟨_, rfl, Up.refl _, Nat.le_refl _, hF⟩)
end

/-- A slice of the call's own and a block that it knows lie apart. -/
theorem Mem.ownBlk_ne {w0 w : World} {L : List It} (M : Mem w0 w L) (b : Option Addr) (cap : Nat) (g : Nat) {n p : Nat} {e : TypeId} {size : Nat} {xs : List Value} [hO : AtO L b cap n p e size xs] {q : Nat} {t : TypeId} {cs : Array Value} [hG : AtG L g q t cs] : (Value.slice b n cap).ownBlock = some g → False := fun h =>
  M.apart hO.out hG.out (fun e => by have h1 := hO.out; have h2 := hG.out; rw [e] at h1; rw [h1] at h2; cases h2) g h rfl

set_option maxHeartbeats 400000 in
set_option maxRecDepth 100000 in
theorem implXorKeys_d (a b : List UInt8) (ha : a.length = 32) (hb : b.length = 32) (w : World) :
    Calls Try.prog 88 #[.agg (bA a), .agg (bA b)] w fun e w' => e = .returned (.agg (bA (xorL a b))) ∧ w.drawn ≤ w'.drawn ∧ Up w w' := by
  have HSb := Lib.hid (show (Try.prog.info? 25).map (·.size) = some (bA b).size by rw [bA_size, hb]; exact info_key)
  have HSx := Lib.hid (show (Try.prog.info? 25).map (·.size) = some (bA (xorL a b)).size by rw [bA_size, xorL_length _ _ (by omega), ha]; exact info_key)
  have HL := Lib.hid (And.intro ha hb)
  clear ha hb
  go_enter Try.func88, Try.ntmps88
  go_wp2_with (first
    | (refine wpList_load_row rfl 25 (.tmp 3) rfl _ rfl 25 (bA b) (0, 0) _ (((Blk.top (by simp)).alloc _) : Blk _ (w.heap.size + 1) 25 (bA b)) Try.underlying25 rfl HSb.out ?_))
  go_loopg [8] 32 (fun n i wr => ∃ k : Nat, k + n = 32 ∧ i = .int .i64 k ∧ Blk wr w.heap.size 25 (bA (xorL (a.take k) (b.take k) ++ a.drop k)) ∧ Blk wr (w.heap.size + 1 + 1) 25 (bA zero32) ∧ w.drawn ≤ wr.drawn ∧ Up w wr)
  case atStart =>
    refine ⟨0, by omega, rfl, ?_, Blk.top (by simp), Nat.le_refl _, ?_⟩
    · exact ((Blk.top rfl).alloc _).alloc _
    · exact (((Up.refl _).alloc _).alloc _).alloc _
  case round =>
    obtain ⟨k, hk, rfl, b0, b2, hdr, hbel⟩ := hrel
    obtain ⟨ha, hb⟩ := HL.out
    by_cases hlt : k < 32
    · have c0 := b0.cell_ (bA_at (xorL (a.take k) (b.take k) ++ a.drop k) k (by simp [xorL]; omega))
      rw [bt_xor_mid a b k (by omega) (by omega)] at c0
      have c1 := run_index_arr (P := Try.prog) Try.underlying25 Try.underlying5 info_u8 hlt (bA_at b k (by omega))
      have f2 := b0.free k
      have BA := Lib.hid (And.intro b0 (And.intro b2 hbel))
      have HK := Lib.hid hk
      clear b0 b2 hbel ha hb hk
      go_wp2
      obtain ⟨b0, b2, hbel⟩ := BA.out
      obtain ⟨ha, hb⟩ := HL.out
      have hk := HK.out
      go_roundg (gk - 1)
      case measure => omega
      case rel =>
        refine ⟨k + 1, by omega, by go_num, ?_, b2.far (by simp; omega) _, hdr, hbel.setCell (by simp) _⟩
        rw [← step_xor a b k (by omega) (by omega), ← bA_set, ← xor_u8]
        exact b0.set_ k _
    · obtain rfl : k = 32 := by omega
      clear hk
      rw [show (32 : Nat) = a.length from ha.symm, xorL_full a b (by omega)] at b0
      clear ha hb
      go_wp2_with (first
        | (refine wpList_load_row rfl 25 (.tmp 2) rfl _ rfl 25 (bA (xorL a b)) (0, 0) _ b0 Try.underlying25 rfl HSx.out ?_)
        | (refine wpList_store_row rfl 25 (.tmp 4) (.tmp 19) rfl _ (bA (xorL a b)) rfl rfl 25 (bA zero32) b2 HSx.out ?_ (bA_one _) ?_; · rw [bA_size, bA_size, xorL_length a b (by rw [HL.out.1, HL.out.2]), HL.out.1]; rfl))
      refine bodyPost_ret (results_cell_row rfl _ _ _ 25 (bA (xorL a b)) (0, 0) _ rfl (b2.row _) Try.underlying25 rfl HSx.out) rfl ⟨rfl, hdr, hbel.setRow (by omega) _⟩

theorem compareKeys_d (a b : List UInt8) (ha : a.length = 32) (hb : b.length = 32) (w : World) :
    Calls Try.prog 87 #[.agg (bA a), .agg (bA b)] w fun e w' => e = .returned (.int .i64 (cmpL a b)) ∧ w.drawn ≤ w'.drawn ∧ Up w w' :=
  Calls.mono (compareKeys_g a b ha hb w) fun e w' ⟨he, q, os', hw⟩ => by
    subst hw
    refine ⟨he, Nat.le_add_right _ _, rfl, rfl, rfl, by simp [grow, World.drewN], fun k hk => ?_⟩
    simp only [grow, World.drewN]
    rw [Array.getElem?_append_left hk]

set_option maxHeartbeats 2000000 in
set_option maxRecDepth 100000 in
theorem nearCmp_d (g0 : Nat) (k a b : Ky) (w : World) (hk : Blk w g0 25 (bA k.1)) :
    Calls Try.prog 86 #[.agg (bA a.1), .agg (bA b.1), .pointer (some ⟨g0, 0, none⟩)] w fun e w' => e = .returned (.int .i64 (cfP k a b)) ∧ w.drawn ≤ w'.drawn ∧ Up w w' := by
  have ha := a.2
  have hb := b.2
  have hk32 := k.2
  have hxa : (xorL a.1 k.1).length = 32 := by rw [xorL_length _ _ (by rw [ha, hk32]), ha]
  have hxb : (xorL b.1 k.1).length = 32 := by rw [xorL_length _ _ (by rw [hb, hk32]), hb]
  have HB := Lib.hid hk
  have hlt := hk.lt
  have M := Mem.start w
  go_enter Try.func86, Try.ntmps86
  go_wp2_with fail
  have M2 : Mem w ((w.alloc (.cells (bA a.1) 25)).alloc (.cells (bA b.1) 25)) [.blk (w.heap.size + 1) 25 (bA b.1), .blk w.heap.size 25 (bA a.1)] := by
    have := (M.alloc_ 25 (bA a.1)).alloc_ 25 (bA b.1)
    simpa using this
  have hFk : ∀ (j : Nat) (u : Value) (wa wb : World), j < 7 → (fun (j : Nat) (v : Value) (_ : World) => (match j with | 0 => v = .agg (bA a.1) | 1 => v = .agg (bA k.1) | 2 => v = .agg (bA (xorL a.1 k.1)) | 3 => v = .agg (bA b.1) | 4 => v = .agg (bA k.1) | 5 => v = .agg (bA (xorL b.1 k.1)) | 6 => v = .int .i64 (cfP k a b) | _ => True)) j u wa → (fun (j : Nat) (v : Value) (_ : World) => (match j with | 0 => v = .agg (bA a.1) | 1 => v = .agg (bA k.1) | 2 => v = .agg (bA (xorL a.1 k.1)) | 3 => v = .agg (bA b.1) | 4 => v = .agg (bA k.1) | 5 => v = .agg (bA (xorL b.1 k.1)) | 6 => v = .int .i64 (cfP k a b) | _ => True)) j u wb := fun _ _ _ _ _ h => h
  refine region_monoS (m := 7) mixedOrders_ (by kernel_rfl) (by kernel_rfl) (fun (j : Nat) (v : Value) (_ : World) => (match j with | 0 => v = .agg (bA a.1) | 1 => v = .agg (bA k.1) | 2 => v = .agg (bA (xorL a.1 k.1)) | 3 => v = .agg (bA b.1) | 4 => v = .agg (bA k.1) | 5 => v = .agg (bA (xorL b.1 k.1)) | 6 => v = .int .i64 (cfP k a b) | _ => True)) (fun s wx => GD w [.blk (w.heap.size + 1) 25 (bA b.1), .blk w.heap.size 25 (bA a.1)] wx) ?_ ?_ ?_
  · exact ⟨M2.grow ((Up.refl _).drew), Nat.le_succ _⟩
  · rintro i o hi ho av wv s fr gM hs cl dep
    match i, hi with
    | 0, _ =>
      obtain rfl := Option.some.inj ho
      exact stD hFk gM rfl rfl rfl (stD_load (gM.1.blkG w.heap.size) rfl (fr.eval rfl) (by rw [bA_size, ha]) rfl)
    | 1, _ =>
      obtain rfl := Option.some.inj ho
      exact stD hFk gM rfl rfl rfl (stD_load (HB.out.up gM.1.up) rfl (fr.eval rfl) (by rw [bA_size, hk32]) rfl)
    | 2, _ =>
      obtain rfl := Option.some.inj ho
      exact stD hFk gM rfl rfl rfl (stD_call2 rfl (fun _ _ => by kernel_rfl) (dep ⟨0, .data⟩ (by simp) rfl).2 (dep ⟨1, .data⟩ (by simp) rfl).2 (implXorKeys_d a.1 k.1 ha hk32 _) (fun _ => rfl))
    | 3, _ =>
      obtain rfl := Option.some.inj ho
      exact stD hFk gM rfl rfl rfl (stD_load (gM.1.blkG (w.heap.size + 1)) rfl (fr.eval rfl) (by rw [bA_size, hb]) rfl)
    | 4, _ =>
      obtain rfl := Option.some.inj ho
      exact stD hFk gM rfl rfl rfl (stD_load (HB.out.up gM.1.up) rfl (fr.eval rfl) (by rw [bA_size, hk32]) rfl)
    | 5, _ =>
      obtain rfl := Option.some.inj ho
      exact stD hFk gM rfl rfl rfl (stD_call2 rfl (fun _ _ => by kernel_rfl) (dep ⟨3, .data⟩ (by simp) rfl).2 (dep ⟨4, .data⟩ (by simp) rfl).2 (implXorKeys_d b.1 k.1 hb hk32 _) (fun _ => rfl))
    | 6, _ =>
      obtain rfl := Option.some.inj ho
      exact stD hFk gM rfl rfl rfl (stD_call2 rfl (fun _ _ => by kernel_rfl) (dep ⟨2, .data⟩ (by simp) rfl).2 (dep ⟨5, .data⟩ (by simp) rfl).2 (compareKeys_d _ _ hxa hxb _) (fun _ => rfl))
  · rintro vs wv s hall gM hf
    have f6 : vs 6 = .int .i64 (cfP k a b) := hf 6 (by omega)
    simp only [putAll, Act.put, List.getElem?_toArray, List.getElem?_cons_zero, List.getElem?_cons_succ, Option.bind_some, List.setIfInBounds_toArray, List.set_cons_zero, List.set_cons_succ, List.drop_succ_cons, List.drop_zero, List.drop_nil, f6]
    clear f6 hf hFk
    go_wp2_with fail
    go_ret
    exact ⟨rfl, gM.2, gM.1.up⟩

/-- Keys by their distance to p. -/
def nearK (p : Ky) (ks : List Ky) : List Ky := ks.mergeSort fun x y => !(ltOf (cfP p)) y x
theorem nearK_len (p : Ky) (ks : List Ky) : (nearK p ks).length = ks.length := by simp [nearK]
theorem nearK_pair (p : Ky) (ks : List Ky) : (nearK p ks).Pairwise (fun x y => ltOf (cfP p) y x = false) := by
  have h := List.pairwise_mergeSort (le := fun x y => !(ltOf (cfP p)) y x) (fun a b c h1 h2 => by
    have h1' : ltOf (cfP p) b a = false := by simpa using h1
    have h2' : ltOf (cfP p) c b = false := by simpa using h2
    simpa using (swoP p).ntrans _ _ _ h2' h1') (fun a b => by
    cases h : ltOf (cfP p) b a with
    | false => simp
    | true =>
      cases h' : ltOf (cfP p) a b with
      | false => simp
      | true =>
        have := (swoP p).trans _ _ _ h h'
        rw [(swoP p).irrefl] at this
        cases this) ks
  exact h.imp (fun h => by simpa using h)
theorem nearK_set (p : Ky) (ks : List Ky) : SetOf (ltOf (cfP p)) ks (nearK p (setK ks)) := by
  refine ⟨?_, fun k => by simp only [nearK, List.mem_mergeSort]; exact (setK_set ks).2 k⟩
  have hnd : (nearK p (setK ks)).Nodup := by
    have h1 : (setK ks).Nodup := (setK_set ks).1.imp (fun {x y} h e => by subst e; rw [swoK.irrefl] at h; cases h)
    exact (List.mergeSort_perm _ _).nodup_iff.2 h1
  have hp := nearK_pair p (setK ks)
  refine (List.Pairwise.and hp hnd).imp ?_
  rintro x y ⟨h1, h2⟩
  cases h : ltOf (cfP p) x y with
  | true => rfl
  | false => exact absurd (ltP_tot p x y h h1) h2
theorem chg_sortK {w : World} {g m : Nat} {dk : Array Ky} {os : Array Obj} : w.grownBy (sortWorldK (fun k : Ky => bL k.1) 32 w g 0 m dk os) (some g) := by
  unfold sortWorldK putRowK
  exact grownBy_sortedI _
set_option maxHeartbeats 1000000 in
theorem sortNear_c (b : Option Addr) (cap n B : Nat) (ks : List Ky) (hks : ks.length = n) (p : Ky) (g0 : Nat) (w : World) (hn : n ≤ 1048576) (h : w.ownsRow B 25 32 (.slice b n cap) n (kyL ks)) (hp : Blk w g0 25 (bA p.1)) (hap : (Value.slice b n cap).ownBlock = some g0 → False) :
    Writes Try.prog 85 #[.slice b n cap, .func (.func 86) #[] #[.pointer (some ⟨g0, 0, none⟩)]] w B 25 32 b cap n (kyL (nearK p ks)) (.tuple #[]) := by
  subst hks
  rcases id h.2 with ⟨hv, h0⟩ | ⟨g, cap', cur, hv, hB, hb, h1, h2, h3, h4⟩
  · injection hv with e1 e2 e3
    obtain rfl := List.eq_nil_of_length_eq_zero h0
    subst e1 e3
    refine Calls.mono (AnyF.slices_SortFunc_none Try.sortKey none 0 _ w) ?_
    rintro e w' ⟨rfl, rfl⟩
    rw [show nearK p [] = [] by simp [nearK]]
    exact ⟨rfl, h, grown_of_up (Up.refl _) _⟩
  · injection hv with e1 e2 e3
    subst e1 e3
    have hne : g ≠ g0 := fun e => hap (by rw [e]; rfl)
    have eg : ∀ args w, (callFunc 86 args).run Try.prog w = .ok (.enter 86 args) w := enters_of Try.func86 (by kernel_rfl) rfl
    have hcon := AnyQ.slices_SortFunc_total Try.sortKey 32 Try.isAgg25 Try.sizeOf25 (fun k : Ky => bL k.1) (fun k => by rw [bL_length, k.2]) (fun k => bL_one k.1) (cfP p) (swoP p) 86 #[.pointer (some ⟨g0, 0, none⟩)] g 0 cap ks.toArray w eg
      (fun m os dk _ x y => Calls.mono (nearCmp_d g0 p x y _ ((chg_sortK.block g0 hp.lt (by simpa using fun e => hne e.symm)).trans hp)) fun e w' ⟨he, hd, hu⟩ => ⟨he, up_grow hu hd⟩) (holdsK_of hb h4) (Array.getElem?_eq_some_iff.1 hb).1 (by simp; omega) (ltP_tot p)
    refine Calls.mono hcon ?_
    rintro e w' ⟨rfl, m, os, rfl⟩
    have hflat : sortWorldK (fun k : Ky => bL k.1) 32 w g 0 m (nearK p ks).toArray os = grow (putRow id (Sort.ahead w m) g 0 (kyL (nearK p ks)).toArray) os := by
      unfold sortWorldK putRowK
      rw [flatK_kyL]
    have hl : (kyL (nearK p ks)).length = ks.length * 32 := by rw [kyL_len, nearK_len]
    refine ⟨rfl, ?_, ?_⟩
    · show (sortWorldK (fun k : Ky => bL k.1) 32 w g 0 m (nearK p ks).toArray os).ownsRow B _ 32 _ _ _
      rw [hflat]
      exact ⟨hl, .inr ⟨g, cap, _, rfl, hB, heap_sortedI _ hb, h1, h2, by simp [putCells, h3], by rw [← hl]; exact take_putI cur _ (by rw [hl, h3]; exact Nat.mul_le_mul_right _ h1)⟩⟩
    · exact chg_sortK

def nkT (ks : List Ky) (p : Ky) (c : Int) : List Ky × Int := if 256 < ks.length then ([], 3) else if 0 ≤ c ∧ c ≤ 256 then ((nearK p (setK ks)).take c.toNat, 0) else ([], 2)
theorem nkT_len (ks : List Ky) (p : Ky) (c : Int) : (nkT ks p c).1.length ≤ 256 := by
  unfold nkT
  split
  · exact Nat.zero_le _
  · split
    · show ((nearK p (setK ks)).take c.toNat).length ≤ 256
      rw [List.length_take]
      omega
    · exact Nat.zero_le _
theorem take_min {α : Type} (l : List α) (c : Nat) : l.take c = l.take (min c l.length) := by
  rcases Nat.le_total c l.length with h | h
  · rw [Nat.min_eq_left h]
  · rw [Nat.min_eq_right h, List.take_of_length_le h, List.take_of_length_le (Nat.le_refl _)]

set_option maxHeartbeats 400000 in
theorem l00Min_c (a b : Nat) (w : World) : Ret Try.prog 84 #[.int .i64 (a : Int), .int .i64 (b : Int)] w fun r _ => r = .int .i64 ((min a b : Nat) : Int) := by
  refine ret_start fun wx M => ?_
  by_cases h : a < b
  · have hc : (a : Int) < (b : Int) := by omega
    have HE := Lib.hid (show min a b = a by omega)
    clear h
    go_enter Try.func84, Try.ntmps84
    go_wp2_with fail
    go_ret
    exact ⟨_, rfl, by rw [HE.out]; rfl, M.up⟩
  · have hc : ¬ (a : Int) < (b : Int) := by omega
    have HE := Lib.hid (show min a b = b by omega)
    clear h
    go_enter Try.func84, Try.ntmps84
    go_wp2_with fail
    go_ret
    exact ⟨_, rfl, by rw [HE.out]; rfl, M.up⟩

set_option maxHeartbeats 2000000 in
set_option maxRecDepth 100000 in
theorem specNearestKeys_c (v : Value) (n : Nat) (ks : List Ky) (hks : ks.length = n) (p : Ky) (c : Int) (w : World) (hv : Rd w 32 v n (kyL ks)) (hl : n ≤ 1048576) :
    Ret Try.prog 33 #[v, .agg (bA p.1), .int .i64 c] w fun r w' => OwnR2 w w' 25 32 r (nkT ks p c).1.length (kyL (nkT ks p c).1) (.int .i64 (nkT ks p c).2) := by
  obtain ⟨b, cap, rfl⟩ := hv.shape
  have HV := Lib.hid hv
  have hp32 := p.2
  refine ret_start fun wx M => ?_
  clear hv
  by_cases hbig : 256 < n
  · have HE := Lib.hid (show nkT ks p c = ([], 3) by rw [nkT, if_pos (by omega)])
    clear hks
    go_enter Try.func33, Try.ntmps33
    go_wp2_with (first
      | (with_reducible (show wpList _ _ _ (Oper.mk (some 4) (.box _ _) _ _ _ _ :: _) _ _); (first | (refine m_boxA M rfl rfl rfl ?_) | (refine m_box1 (v := Value.int _ _) M rfl rfl rfl rfl ?_) | (refine m_box1 (v := Value.slice _ _ _) M rfl rfl rfl rfl ?_) | (refine m_box1 (v := Value.bool _) M rfl rfl rfl rfl ?_) | (refine m_box1 (v := Value.string _) M rfl rfl rfl rfl ?_) | (refine m_box1 (v := Value.pointer _) M rfl rfl rfl rfl ?_)); clear M; (try clear wx); intro g4 wx M)
      | (with_reducible (show wpList _ _ _ (Oper.mk (some 12) (.buildSlice _ _ _) _ _ _ _ :: _) _ _); refine m_lit0 M rfl rfl ?_; clear M; (try clear wx); intro g12 wx M)
      | (with_reducible (show wpList _ _ _ (Oper.mk (some 16) (.buildSlice _ _ _) _ _ _ _ :: _) _ _); refine m_lit0 M rfl rfl ?_; clear M; (try clear wx); intro g16 wx M)
      | (with_reducible (show wpList _ _ _ (Oper.mk _ (.load _ _) _ _ _ _ :: _) _ _); (first | (refine m_load M rfl rfl rfl (by first | assumption | rfl) ?_) | (refine m_loadR M rfl rfl rfl (by first | rfl | assumption | (simp; done) | (simp; omega)) ?_))))
    go_ret2
    exact ⟨_, rfl, by rw [HE.out]; exact ⟨_, _, rfl, M.out_own (p := 0) rfl⟩, M.up⟩
  · by_cases hc : 0 ≤ c ∧ c ≤ 256
    · have HI := Lib.hid (l00In_is c 0 256 true (by simp [hc]))
      obtain ⟨c, rfl⟩ : ∃ k : Nat, c = (k : Int) := ⟨c.toNat, by omega⟩
      have hsl := setK_len ks
      have hc2 : c ≤ 256 := by omega
      have HS : Hid (∀ v w, Rd w 32 v n (kyL ks) → Ret Try.prog 82 #[v, .agg (bA p.1)] w fun r w' => OwnR w w' 25 32 r (nearK p (setK ks)).length (kyL (nearK p (setK ks)))) := Lib.hid (fun v w h => l01SortS_c v n ks hks p _ (nearK_set p ks) w h hl)
      have HE := Lib.hid (show nkT ks p (c : Int) = ((nearK p (setK ks)).take c, 0) by rw [nkT, if_neg (by omega), if_pos hc]; rfl)
      have hql := nearK_len p (setK ks)
      rw [hks] at hsl
      clear hks hc
      generalize nearK p (setK ks) = q at *
      obtain ⟨d, hd⟩ : ∃ d, q.length = d := ⟨_, rfl⟩
      rw [hd] at HS hql
      have hd2 : d ≤ 256 := by omega
      obtain ⟨m, hm⟩ : ∃ m, min c d = m := ⟨_, rfl⟩
      have HM := Lib.hid (fun w => l00Min_c c d w)
      rw [hm] at HM
      have hmd : m ≤ d := by omega
      have HD := Lib.hid (show q.take c = q.take m ∧ (q.take m).length = m by rw [take_min, hd, hm]; exact ⟨rfl, by rw [List.length_take]; omega⟩)
      clear hd hm hql hsl
      go_enter Try.func33, Try.ntmps33
      go_wp2_with (first
        | (go_at_call 62; (with_reducible refine mem_call M (HI.out _) ?_); clear M; (try clear wx); rintro _ wx rfl _ M)
        | (go_at_call 82; (with_reducible refine mem_callO M (HS.out _ _ (HV.out.up M.up)) ?_); clear M; (try clear wx); intro bz cz wx M)
        | (go_at_call 84; (with_reducible refine mem_call M (HM.out _) ?_); clear M; (try clear wx); rintro _ wx rfl _ M)
        | (with_reducible (show wpList _ _ _ (Oper.mk _ (.slice _ _ _ _ _) _ _ _ _ :: _) _ _); have hcz := (M.lenO bz cz).1; refine m_sliceHi rfl rfl rfl (M.headO bz cz) (h := m) rfl (by omega) ?_; clear hcz)
        | (with_reducible (show wpList _ _ _ (Oper.mk (some 4) (.box _ _) _ _ _ _ :: _) _ _); (first | (refine m_boxA M rfl rfl rfl ?_) | (refine m_box1 (v := Value.int _ _) M rfl rfl rfl rfl ?_) | (refine m_box1 (v := Value.slice _ _ _) M rfl rfl rfl rfl ?_) | (refine m_box1 (v := Value.bool _) M rfl rfl rfl rfl ?_) | (refine m_box1 (v := Value.string _) M rfl rfl rfl rfl ?_) | (refine m_box1 (v := Value.pointer _) M rfl rfl rfl rfl ?_)); clear M; (try clear wx); intro g4 wx M)
        | (with_reducible (show wpList _ _ _ (Oper.mk (some 12) (.buildSlice _ _ _) _ _ _ _ :: _) _ _); refine m_lit0 M rfl rfl ?_; clear M; (try clear wx); intro g12 wx M)
        | (with_reducible (show wpList _ _ _ (Oper.mk (some 16) (.buildSlice _ _ _) _ _ _ _ :: _) _ _); refine m_lit0 M rfl rfl ?_; clear M; (try clear wx); intro g16 wx M)
        | (with_reducible (show wpList _ _ _ (Oper.mk _ (.load _ _) _ _ _ _ :: _) _ _); (first | (refine m_load M rfl rfl rfl (by first | assumption | rfl) ?_) | (refine m_loadR M rfl rfl rfl (by first | rfl | assumption | (simp; done) | (simp; omega)) ?_))))
      have M := M.own_less (p := 0) rfl m hmd
      rw [List.set_cons_zero, kyL_take] at M
      have hE := HE.out
      have hD := HD.out
      go_ret2
      exact ⟨_, rfl, by rw [hE]; show OwnR2 _ _ _ _ _ (q.take c).length (kyL (q.take c)) _; rw [hD.1, hD.2]; exact ⟨_, _, rfl, M.out_own (p := 0) rfl⟩, M.up⟩
    · have HI := Lib.hid (l00In_is c 0 256 false (by simp; omega))
      have HE := Lib.hid (show nkT ks p c = ([], 2) by rw [nkT, if_neg (by omega), if_neg hc])
      clear hks hc
      go_enter Try.func33, Try.ntmps33
      go_wp2_with (first
        | (go_at_call 62; (with_reducible refine mem_call M (HI.out _) ?_); clear M; (try clear wx); rintro _ wx rfl _ M)
        | (with_reducible (show wpList _ _ _ (Oper.mk (some 4) (.box _ _) _ _ _ _ :: _) _ _); (first | (refine m_boxA M rfl rfl rfl ?_) | (refine m_box1 (v := Value.int _ _) M rfl rfl rfl rfl ?_) | (refine m_box1 (v := Value.slice _ _ _) M rfl rfl rfl rfl ?_) | (refine m_box1 (v := Value.bool _) M rfl rfl rfl rfl ?_) | (refine m_box1 (v := Value.string _) M rfl rfl rfl rfl ?_) | (refine m_box1 (v := Value.pointer _) M rfl rfl rfl rfl ?_)); clear M; (try clear wx); intro g4 wx M)
        | (with_reducible (show wpList _ _ _ (Oper.mk (some 12) (.buildSlice _ _ _) _ _ _ _ :: _) _ _); refine m_lit0 M rfl rfl ?_; clear M; (try clear wx); intro g12 wx M)
        | (with_reducible (show wpList _ _ _ (Oper.mk (some 16) (.buildSlice _ _ _) _ _ _ _ :: _) _ _); refine m_lit0 M rfl rfl ?_; clear M; (try clear wx); intro g16 wx M)
        | (with_reducible (show wpList _ _ _ (Oper.mk _ (.load _ _) _ _ _ _ :: _) _ _); (first | (refine m_load M rfl rfl rfl (by first | assumption | rfl) ?_) | (refine m_loadR M rfl rfl rfl (by first | rfl | assumption | (simp; done) | (simp; omega)) ?_))))
      go_ret2
      exact ⟨_, rfl, by rw [HE.out]; exact ⟨_, _, rfl, M.out_own (p := 0) rfl⟩, M.up⟩

set_option maxHeartbeats 2000000 in
set_option maxRecDepth 100000 in
theorem implNearestKeys_c (v : Value) (n : Nat) (ks : List Ky) (hks : ks.length = n) (p : Ky) (c : Int) (w : World) (hv : Rd w 32 v n (kyL ks)) (hl : n ≤ 1048576) :
    Ret Try.prog 34 #[v, .agg (bA p.1), .int .i64 c] w fun r w' => OwnR2 w w' 25 32 r (nkT ks p c).1.length (kyL (nkT ks p c).1) (.int .i64 (nkT ks p c).2) := by
  obtain ⟨b, cap, rfl⟩ := hv.shape
  have HV := Lib.hid hv
  have hp32 := p.2
  refine ret_start fun wx M => ?_
  clear hv
  by_cases hbig : 256 < n
  · have HE := Lib.hid (show nkT ks p c = ([], 3) by rw [nkT, if_pos (by omega)])
    clear hks
    go_enter Try.func34, Try.ntmps34
    go_wp2_with (first
      | (with_reducible (show wpList _ _ _ (Oper.mk (some 4) (.box _ _) _ _ _ _ :: _) _ _); (first | (refine m_boxA M rfl rfl rfl ?_) | (refine m_box1 (v := Value.int _ _) M rfl rfl rfl rfl ?_) | (refine m_box1 (v := Value.slice _ _ _) M rfl rfl rfl rfl ?_) | (refine m_box1 (v := Value.bool _) M rfl rfl rfl rfl ?_) | (refine m_box1 (v := Value.string _) M rfl rfl rfl rfl ?_) | (refine m_box1 (v := Value.pointer _) M rfl rfl rfl rfl ?_)); clear M; (try clear wx); intro g4 wx M))
    go_ret2
    exact ⟨_, rfl, by rw [HE.out]; exact ⟨_, _, rfl, (M.nil_own 25 32).out_own (p := 0) rfl⟩, M.up⟩
  · by_cases hc : 0 ≤ c ∧ c ≤ 256
    · have HI := Lib.hid (within_is c 0 256 true (by simp [hc]))
      obtain ⟨c, rfl⟩ : ∃ k : Nat, c = (k : Int) := ⟨c.toNat, by omega⟩
      have hsl := setK_len ks
      have hc2 : c ≤ 256 := by omega
      have HS : Hid (∀ v w, Rd w 32 v n (kyL ks) → Ret Try.prog 83 #[v] w fun r w' => OwnR w w' 25 32 r (setK ks).length (kyL (setK ks))) := Lib.hid (fun v w h => sorted_c v n ks hks w h hl)
      have HE := Lib.hid (show nkT ks p (c : Int) = ((nearK p (setK ks)).take c, 0) by rw [nkT, if_neg (by omega), if_pos hc]; rfl)
      rw [hks] at hsl
      clear hks hc
      generalize setK ks = s at *
      obtain ⟨d, hs⟩ : ∃ d, s.length = d := ⟨_, rfl⟩
      rw [hs] at HS hsl
      have HN := Lib.hid hs
      have hd : (nearK p s).length = d := by rw [nearK_len, hs]
      have HT := Lib.hid (show ∀ (b : Option Addr) (cap B g0 : Nat) (w : World) (h : w.ownsRow B 25 32 (.slice b d cap) d (kyL s)) (hp : Blk w g0 25 (bA p.1)) (hap : (Value.slice b d cap).ownBlock = some g0 → False), Writes Try.prog 85 #[.slice b d cap, .func (.func 86) #[] #[.pointer (some ⟨g0, 0, none⟩)]] w B 25 32 b cap d (kyL (nearK p s)) (.tuple #[]) from
        fun b cap B g0 w h hp hap => sortNear_c b cap d B s hs p g0 w (by omega) h hp hap)
      generalize nearK p s = q at *
      have hd2 : d ≤ 256 := by omega
      obtain ⟨m, hm⟩ : ∃ m, min c d = m := ⟨_, rfl⟩
      have hmd : m ≤ d := by omega
      have hmz : (if (c : Int) ≤ (d : Int) then (c : Int) else (d : Int)) = (m : Int) := by split <;> omega
      have hmz2 : min (c : Int) (d : Int) = (m : Int) := by omega
      have hmz3 : (if (d : Int) < (c : Int) then (d : Int) else (c : Int)) = (m : Int) := by split <;> omega
      have HD := Lib.hid (show q.take c = q.take m ∧ (q.take m).length = m by rw [take_min, hd, hm]; exact ⟨rfl, by rw [List.length_take]; omega⟩)
      clear hd hs hm hsl
      go_enter Try.func34, Try.ntmps34
      go_wp2_with (first
        | (go_at_call 65; (with_reducible refine mem_call M (HI.out _) ?_); clear M; (try clear wx); rintro _ wx rfl _ M)
        | (go_at_call 66; (with_reducible refine mem_call M (sizeKey_c _ _ _ _) ?_); clear M; (try clear wx); rintro _ wx rfl _ M)
        | (go_at_call 83; (with_reducible refine mem_callO M (HS.out _ _ (HV.out.up M.up)) ?_); clear M; (try clear wx); intro bz cz wx M)
        | (go_at_call 85; (with_reducible refine mem_callW M (fun h => HT.out _ _ _ g4 _ h (M.blkG g4) (M.ownBlk_ne _ _ g4)) ?_); clear M; (try clear wx); intro wx M; simp only [List.set_cons_zero, List.set_cons_succ, Nat.zero_add, List.nil_append] at M)
        | (with_reducible (show wpList _ _ _ (Oper.mk _ (.slice _ _ _ _ _) _ _ _ _ :: _) _ _); have hcz := (M.lenO bz cz).1; refine m_sliceHi rfl rfl rfl (M.headO bz cz) (h := m) rfl (by omega) ?_; clear hcz)
        | (with_reducible (show wpList _ _ _ (Oper.mk (some 4) (.box _ _) _ _ _ _ :: _) _ _); (first | (refine m_boxA M rfl rfl rfl ?_) | (refine m_box1 (v := Value.int _ _) M rfl rfl rfl rfl ?_) | (refine m_box1 (v := Value.slice _ _ _) M rfl rfl rfl rfl ?_) | (refine m_box1 (v := Value.bool _) M rfl rfl rfl rfl ?_) | (refine m_box1 (v := Value.string _) M rfl rfl rfl rfl ?_) | (refine m_box1 (v := Value.pointer _) M rfl rfl rfl rfl ?_)); clear M; (try clear wx); intro g4 wx M))
      have M := M.own_less (p := 0) rfl m hmd
      rw [List.set_cons_zero, kyL_take] at M
      have hE := HE.out
      have hD := HD.out
      go_ret2
      exact ⟨_, rfl, by rw [hE]; show OwnR2 _ _ _ _ _ (q.take c).length (kyL (q.take c)) _; rw [hD.1, hD.2]; exact ⟨_, _, rfl, M.out_own (p := 0) rfl⟩, M.up⟩
    · have HI := Lib.hid (within_is c 0 256 false (by simp; omega))
      have HE := Lib.hid (show nkT ks p c = ([], 2) by rw [nkT, if_neg (by omega), if_neg hc])
      clear hks hc
      go_enter Try.func34, Try.ntmps34
      go_wp2_with (first
        | (go_at_call 65; (with_reducible refine mem_call M (HI.out _) ?_); clear M; (try clear wx); rintro _ wx rfl _ M)
        | (with_reducible (show wpList _ _ _ (Oper.mk (some 4) (.box _ _) _ _ _ _ :: _) _ _); (first | (refine m_boxA M rfl rfl rfl ?_) | (refine m_box1 (v := Value.int _ _) M rfl rfl rfl rfl ?_) | (refine m_box1 (v := Value.slice _ _ _) M rfl rfl rfl rfl ?_) | (refine m_box1 (v := Value.bool _) M rfl rfl rfl rfl ?_) | (refine m_box1 (v := Value.string _) M rfl rfl rfl rfl ?_) | (refine m_box1 (v := Value.pointer _) M rfl rfl rfl rfl ?_)); clear M; (try clear wx); intro g4 wx M))
      go_ret2
      exact ⟨_, rfl, by rw [HE.out]; exact ⟨_, _, rfl, (M.nil_own 25 32).out_own (p := 0) rfl⟩, M.up⟩

set_option maxHeartbeats 4000000 in
set_option maxRecDepth 100000 in
theorem lawNearestKeys_c (v : Value) (n : Int) (leaf : Ky) (ks : List Ky) (w : World) (hv : Rd w 32 v ks.length (kyL ks)) : Calls Try.prog 9 #[v, .agg (bA leaf.1), .int .i64 n] w fun e w' => e = .returned (.bool true) ∧ Up w w' := by
  obtain ⟨m, hm⟩ : ∃ m, ks.length = m := ⟨_, rfl⟩
  rw [hm] at hv
  obtain ⟨b, cap, rfl⟩ := hv.shape
  have hml : m ≤ maxLen := by have := hv.len_; omega
  have HV := Lib.hid hv
  have HN := Lib.hid hm
  have hmm : maxLen ≤ 9223372036854775807 := by decide
  have hml' : m ≤ 9223372036854775807 := by omega
  clear hv hm hmm
  have M := Mem.start w
  by_cases hbig : (1048576 : Int) - m < 0
  · go_enter Try.func9, Try.ntmps9
    go_wp2_with (first
      | (go_at_call 13; (with_reducible refine mem_call M (szKeyS_r _ m _ hml _) ?_); clear M; (try clear wx); rintro _ wx rfl _ M; rw [if_pos hbig])
      | (with_reducible (show wpList _ _ _ (Oper.mk (some 4) (.box _ _) _ _ _ _ :: _) _ _); (first | (refine m_boxA M rfl rfl rfl ?_) | (refine m_box1 (v := Value.int _ _) M rfl rfl rfl rfl ?_) | (refine m_box1 (v := Value.slice _ _ _) M rfl rfl rfl rfl ?_) | (refine m_box1 (v := Value.bool _) M rfl rfl rfl rfl ?_) | (refine m_box1 (v := Value.string _) M rfl rfl rfl rfl ?_) | (refine m_box1 (v := Value.pointer _) M rfl rfl rfl rfl ?_)); clear M; (try clear wx); intro g4 wx M)
      | (with_reducible (show wpList _ _ _ (Oper.mk _ (.load _ _) _ _ _ _ :: _) _ _); (first | (refine m_load M rfl rfl rfl (by first | assumption | rfl) ?_) | (refine m_loadR M rfl rfl rfl (by first | rfl | assumption | (simp; done) | (simp; omega)) ?_))))
    go_ret
    exact ⟨rfl, M.up⟩
  · have hl : m ≤ 1048576 := by omega
    have hpl := nkT_len ks leaf n
    have HS : Hid (∀ v w, Rd w 32 v m (kyL ks) → Ret Try.prog 33 #[v, .agg (bA leaf.1), .int .i64 n] w fun r w' => OwnR2 w w' 25 32 r (nkT ks leaf n).1.length (kyL (nkT ks leaf n).1) (.int .i64 (nkT ks leaf n).2)) := Lib.hid (fun v w h => specNearestKeys_c v m ks HN.out leaf n w h hl)
    have HI : Hid (∀ v w, Rd w 32 v m (kyL ks) → Ret Try.prog 34 #[v, .agg (bA leaf.1), .int .i64 n] w fun r w' => OwnR2 w w' 25 32 r (nkT ks leaf n).1.length (kyL (nkT ks leaf n).1) (.int .i64 (nkT ks leaf n).2)) := Lib.hid (fun v w h => implNearestKeys_c v m ks HN.out leaf n w h hl)
    have HT : Hid (∀ w, Rd w 32 (.slice b m cap) m (kyL ks) → Ret Try.prog 15 #[.slice b m cap] w fun r w' => Rd w' 32 r m (kyL ks)) := Lib.hid (fun w h => (toKeyS_c _ m ks HN.out w h hl).mono fun r w' _ h => by obtain ⟨b, cap, rfl, ho⟩ := h; exact own_rd ho (kyL_one ks))
    generalize (nkT ks leaf n).2 = c at *
    generalize (nkT ks leaf n).1 = q at *
    obtain ⟨d, hd⟩ : ∃ d, q.length = d := ⟨_, rfl⟩
    rw [hd] at HS HI hpl
    have HD := Lib.hid hd
    clear hd
    go_enter Try.func9, Try.ntmps9
    go_wp2_with (first
      | (go_at_call 13; (with_reducible refine mem_call M (szKeyS_r _ m _ hml _) ?_); clear M; (try clear wx); rintro _ wx rfl _ M; rw [if_neg hbig])
      | (with_reducible (show wpList _ _ _ (Oper.mk (some 4) (.box _ _) _ _ _ _ :: _) _ _); (first | (refine m_boxA M rfl rfl rfl ?_) | (refine m_box1 (v := Value.int _ _) M rfl rfl rfl rfl ?_) | (refine m_box1 (v := Value.slice _ _ _) M rfl rfl rfl rfl ?_) | (refine m_box1 (v := Value.bool _) M rfl rfl rfl rfl ?_) | (refine m_box1 (v := Value.string _) M rfl rfl rfl rfl ?_) | (refine m_box1 (v := Value.pointer _) M rfl rfl rfl rfl ?_)); clear M; (try clear wx); intro g4 wx M)
      | (with_reducible (show wpList _ _ _ (Oper.mk _ (.load _ _) _ _ _ _ :: _) _ _); (first | (refine m_load M rfl rfl rfl (by first | assumption | rfl) ?_) | (refine m_loadR M rfl rfl rfl (by first | rfl | assumption | (simp; done) | (simp; omega)) ?_))))
    refine region_mono (m := 10) mixedOrders_ (by kernel_rfl) (by kernel_rfl)
      (fun | 0 => fun vq _ => vq = .slice b m cap | 1 => fun v wx => Rd wx 32 v m (kyL ks) | 2 => fun vq _ => vq = .agg (bA leaf.1) | 3 => fun vq _ => vq = .agg (bA leaf.1) | 4 => fun vq _ => vq = .int .i64 n | 5 => fun v wx => ∃ r, v = .tuple #[r, .int .i64 c] ∧ OwnFr w [.blk g4 24 (bA leaf.1)] 25 32 d (kyL q) r wx | 6 => fun v wx => ∃ r, v = .tuple #[r, .int .i64 c] ∧ OwnFr w [.blk g4 24 (bA leaf.1)] 25 32 d (kyL q) r wx | 7 => fun v wx => OwnFr w [.blk g4 24 (bA leaf.1)] 25 32 d (kyL q) v wx | 8 => fun vq _ => vq = .int .i64 c | 9 => fun v wx => OwnFr w [.blk g4 24 (bA leaf.1)] 25 32 d (kyL q) v wx | _ => fun _ _ => True)
      (fun wx => Mem w wx [.blk g4 24 (bA leaf.1)]) ?_ ?_ ?_ ?_ ?_
    · intro j hj v w1 w2 hb h
      match j, hj with
      | 0, _ => exact h
      | 1, _ => exact h.up hb
      | 2, _ => exact h
      | 3, _ => exact h
      | 4, _ => exact h
      | 5, _ => exact (let ⟨r, e, h⟩ := h; ⟨r, e, h.up hb⟩)
      | 6, _ => exact (let ⟨r, e, h⟩ := h; ⟨r, e, h.up hb⟩)
      | 7, _ => exact h.up hb
      | 8, _ => exact h
      | 9, _ => exact h.up hb
    · intro w1 w2 hb h
      exact h.grow hb
    · exact M.grow ((Up.refl _).drew)
    · rintro i o hi ho av wv fr gM dep
      match i, hi with
      | 0, _ =>
        obtain rfl := Option.some.inj ho
        exact st_mov rfl (fr.eval rfl) rfl
      | 1, _ =>
        obtain rfl := Option.some.inj ho
        have d0 := dep ⟨0, .data⟩ (by simp) rfl
        exact st_ret1 rfl (fun _ _ => by kernel_rfl) d0 (HT.out _ (HV.out.up gM.up)) (fun r w' h _ => h)
      | 2, _ =>
        obtain rfl := Option.some.inj ho
        exact st_loadG gM rfl (fr.eval rfl) (by first | rfl | (simp; done)) rfl
      | 3, _ =>
        obtain rfl := Option.some.inj ho
        have d0 := dep ⟨2, .data⟩ (by simp) rfl
        exact st_ret1 rfl (fun _ _ => by kernel_rfl) d0 (toKey_r leaf _) (fun r w' h _ => h)
      | 4, _ =>
        obtain rfl := Option.some.inj ho
        exact st_mov rfl (fr.eval rfl) rfl
      | 5, _ =>
        obtain rfl := Option.some.inj ho
        have D1 := dep ⟨1, .data⟩ (by simp) rfl
        exact st_ret3 rfl (fun _ _ => by kernel_rfl) rfl (dep ⟨3, .data⟩ (by simp) rfl) (dep ⟨4, .data⟩ (by simp) rfl) (HS.out _ _ D1) (fun r w' h hb => by obtain ⟨b, cap, e, ho⟩ := h; exact ⟨_, e, OwnFr.of gM ⟨b, cap, rfl, ho⟩⟩)
      | 6, _ =>
        obtain rfl := Option.some.inj ho
        exact st_mov rfl rfl (dep ⟨5, .data⟩ (by simp) rfl)
      | 7, _ =>
        obtain rfl := Option.some.inj ho
        obtain ⟨r, e, h⟩ := dep ⟨6, .data⟩ (by simp) rfl
        exact st_ext0 rfl e h
      | 8, _ =>
        obtain rfl := Option.some.inj ho
        obtain ⟨r, e, h⟩ := dep ⟨6, .data⟩ (by simp) rfl
        exact st_ext1 rfl e rfl
      | 9, _ =>
        obtain rfl := Option.some.inj ho
        exact st_move (.inr rfl) rfl (dep ⟨7, .data⟩ (by simp) rfl)
    · rintro vs wv gM hf
      have f0 : vs 0 = .slice b m cap := hf 0 (by omega)
      have f1 := hf 1 (by omega)
      have f2 : vs 2 = .agg (bA leaf.1) := hf 2 (by omega)
      have f3 : vs 3 = .agg (bA leaf.1) := hf 3 (by omega)
      have f4 : vs 4 = .int .i64 n := hf 4 (by omega)
      have f5 := hf 5 (by omega)
      have f6 := hf 6 (by omega)
      have f7 := hf 7 (by omega)
      have f8 : vs 8 = .int .i64 c := hf 8 (by omega)
      have f9 := hf 9 (by omega)
      obtain ⟨b9, cap9, e9, M⟩ := gM.ownFr f9
      simp only [putAll, Act.put, List.getElem?_toArray, List.getElem?_cons_zero, List.getElem?_cons_succ, Option.bind_some, List.setIfInBounds_toArray, List.set_cons_zero, List.set_cons_succ, List.drop_succ_cons, List.drop_zero, List.drop_nil, e9, f8]
      clear f0 f1 f2 f3 f4 f5 f6 f7 f8 e9 hf gM
      go_wp2_with (first
        | (go_at_call 15; (with_reducible refine mem_callO M (toKeyS_c _ m ks HN.out _ (HV.out.up M.up) hl) ?_); clear M; (try clear wx); intro bx capx wx M)
        | (go_at_call 27; (with_reducible refine mem_call M (toKey_r leaf _) ?_); clear M; (try clear wx); rintro _ wx rfl _ M)
        | (go_at_call 34; (with_reducible refine mem_callO2 M (HI.out _ _ (M.rdK ks)) ?_); clear M; (try clear wx); intro bg capg wx M)
        | (go_at_call 18; (first | (with_reducible refine mem_call M (eqKeyS_same _ _ m ks HN.out _ (by omega) (M.rdK ks) (M.rdK ks)) ?_) | (with_reducible refine mem_call M (eqKeyS_same _ _ d q HD.out _ (by omega) (M.rdK q) (M.rdK q)) ?_)); clear M; (try clear wx); rintro _ wx rfl _ M)
        | (go_at_call 24; (with_reducible refine mem_callW M (fun h => markKeyS_1 _ _ _ _ _ _ (by omega) h) ?_); clear M; (try clear wx); intro wx M; simp only [List.set_cons_zero, List.set_cons_succ, Nat.zero_add, List.nil_append] at M)
        | (go_at_call 25; (with_reducible refine mem_call M (heldKeyS_1 _ _ _ (by omega) (M.rdK (markK 1 d))) ?_); clear M; (try clear wx); rintro _ wx rfl _ M)
        | (with_reducible (show wpList _ _ _ (Oper.mk (some 4) (.box _ _) _ _ _ _ :: _) _ _); (first | (refine m_boxA M rfl rfl rfl ?_) | (refine m_box1 (v := Value.int _ _) M rfl rfl rfl rfl ?_) | (refine m_box1 (v := Value.slice _ _ _) M rfl rfl rfl rfl ?_) | (refine m_box1 (v := Value.bool _) M rfl rfl rfl rfl ?_) | (refine m_box1 (v := Value.string _) M rfl rfl rfl rfl ?_) | (refine m_box1 (v := Value.pointer _) M rfl rfl rfl rfl ?_)); clear M; (try clear wx); intro g4 wx M)
        | (with_reducible (show wpList _ _ _ (Oper.mk _ (.load _ _) _ _ _ _ :: _) _ _); (first | (refine m_load M rfl rfl rfl (by first | assumption | rfl) ?_) | (refine m_loadR M rfl rfl rfl (by first | rfl | assumption | (simp; done) | (simp; omega)) ?_))))
      have M := M.pick [1, 3, 4] (by decide)
      simp only [List.filterMap_cons, List.filterMap_nil, List.getElem?_cons_zero, List.getElem?_cons_succ] at M
      refine region_mono (m := 10) mixedOrders_ (by kernel_rfl) (by kernel_rfl)
        (fun | 0 => fun vq _ => vq = .slice b m cap | 1 => fun v wx => Rd wx 32 v m (kyL ks) | 2 => fun vq _ => vq = .agg (bA leaf.1) | 3 => fun vq _ => vq = .agg (bA leaf.1) | 4 => fun vq _ => vq = .int .i64 n | 5 => fun v wx => ∃ r, v = .tuple #[r, .int .i64 c] ∧ OwnFr w [.own bg capg 25 32 d (kyL (markK 1 d)), .own b9 cap9 25 32 d (kyL q), .blk g4 24 (bA leaf.1)] 25 32 d (kyL q) r wx | 6 => fun v wx => ∃ r, v = .tuple #[r, .int .i64 c] ∧ OwnFr w [.own bg capg 25 32 d (kyL (markK 1 d)), .own b9 cap9 25 32 d (kyL q), .blk g4 24 (bA leaf.1)] 25 32 d (kyL q) r wx | 7 => fun v wx => OwnFr w [.own bg capg 25 32 d (kyL (markK 1 d)), .own b9 cap9 25 32 d (kyL q), .blk g4 24 (bA leaf.1)] 25 32 d (kyL q) v wx | 8 => fun vq _ => vq = .int .i64 c | 9 => fun v wx => OwnFr w [.own bg capg 25 32 d (kyL (markK 1 d)), .own b9 cap9 25 32 d (kyL q), .blk g4 24 (bA leaf.1)] 25 32 d (kyL q) v wx | _ => fun _ _ => True)
        (fun wx => Mem w wx [.own bg capg 25 32 d (kyL (markK 1 d)), .own b9 cap9 25 32 d (kyL q), .blk g4 24 (bA leaf.1)]) ?_ ?_ ?_ ?_ ?_
      · intro j hj v w1 w2 hb h
        match j, hj with
        | 0, _ => exact h
        | 1, _ => exact h.up hb
        | 2, _ => exact h
        | 3, _ => exact h
        | 4, _ => exact h
        | 5, _ => exact (let ⟨r, e, h⟩ := h; ⟨r, e, h.up hb⟩)
        | 6, _ => exact (let ⟨r, e, h⟩ := h; ⟨r, e, h.up hb⟩)
        | 7, _ => exact h.up hb
        | 8, _ => exact h
        | 9, _ => exact h.up hb
      · intro w1 w2 hb h
        exact h.grow hb
      · exact M.grow ((Up.refl _).drew)
      · rintro i o hi ho av wv fr gM dep
        match i, hi with
        | 0, _ =>
          obtain rfl := Option.some.inj ho
          exact st_mov rfl (fr.eval rfl) rfl
        | 1, _ =>
          obtain rfl := Option.some.inj ho
          have d0 := dep ⟨0, .data⟩ (by simp) rfl
          exact st_ret1 rfl (fun _ _ => by kernel_rfl) d0 (HT.out _ (HV.out.up gM.up)) (fun r w' h _ => h)
        | 2, _ =>
          obtain rfl := Option.some.inj ho
          exact st_loadG gM rfl (fr.eval rfl) (by first | rfl | (simp; done)) rfl
        | 3, _ =>
          obtain rfl := Option.some.inj ho
          have d0 := dep ⟨2, .data⟩ (by simp) rfl
          exact st_ret1 rfl (fun _ _ => by kernel_rfl) d0 (toKey_r leaf _) (fun r w' h _ => h)
        | 4, _ =>
          obtain rfl := Option.some.inj ho
          exact st_mov rfl (fr.eval rfl) rfl
        | 5, _ =>
          obtain rfl := Option.some.inj ho
          have D1 := dep ⟨1, .data⟩ (by simp) rfl
          exact st_ret3 rfl (fun _ _ => by kernel_rfl) rfl (dep ⟨3, .data⟩ (by simp) rfl) (dep ⟨4, .data⟩ (by simp) rfl) (HI.out _ _ D1) (fun r w' h hb => by obtain ⟨b, cap, e, ho⟩ := h; exact ⟨_, e, OwnFr.of gM ⟨b, cap, rfl, ho⟩⟩)
        | 6, _ =>
          obtain rfl := Option.some.inj ho
          exact st_mov rfl rfl (dep ⟨5, .data⟩ (by simp) rfl)
        | 7, _ =>
          obtain rfl := Option.some.inj ho
          obtain ⟨r, e, h⟩ := dep ⟨6, .data⟩ (by simp) rfl
          exact st_ext0 rfl e h
        | 8, _ =>
          obtain rfl := Option.some.inj ho
          obtain ⟨r, e, h⟩ := dep ⟨6, .data⟩ (by simp) rfl
          exact st_ext1 rfl e rfl
        | 9, _ =>
          obtain rfl := Option.some.inj ho
          exact st_move (.inr rfl) rfl (dep ⟨7, .data⟩ (by simp) rfl)
      · rintro vs wv gM hf
        have f0 : vs 0 = .slice b m cap := hf 0 (by omega)
        have f1 := hf 1 (by omega)
        have f2 : vs 2 = .agg (bA leaf.1) := hf 2 (by omega)
        have f3 : vs 3 = .agg (bA leaf.1) := hf 3 (by omega)
        have f4 : vs 4 = .int .i64 n := hf 4 (by omega)
        have f5 := hf 5 (by omega)
        have f6 := hf 6 (by omega)
        have f7 := hf 7 (by omega)
        have f8 : vs 8 = .int .i64 c := hf 8 (by omega)
        have f9 := hf 9 (by omega)
        obtain ⟨b99, cap99, e9, M⟩ := gM.ownFr f9
        simp only [putAll, Act.put, List.getElem?_toArray, List.getElem?_cons_zero, List.getElem?_cons_succ, Option.bind_some, List.setIfInBounds_toArray, List.set_cons_zero, List.set_cons_succ, List.drop_succ_cons, List.drop_zero, List.drop_nil, e9, f8]
        clear f0 f1 f2 f3 f4 f5 f6 f7 f8 e9 hf gM
        go_wp2_with (first
          | (go_at_call 18; (with_reducible refine mem_call M (eqKeyS_same _ _ d q HD.out _ (by omega) (M.rdK q) (M.rdK q)) ?_); clear M; (try clear wx); rintro _ wx rfl _ M)
          | (go_at_call 25; (with_reducible refine mem_call M (heldKeyS_1 _ _ _ (by omega) (M.rdK (markK 1 d))) ?_); clear M; (try clear wx); rintro _ wx rfl _ M)
          | (with_reducible (show wpList _ _ _ (Oper.mk (some 4) (.box _ _) _ _ _ _ :: _) _ _); (first | (refine m_boxA M rfl rfl rfl ?_) | (refine m_box1 (v := Value.int _ _) M rfl rfl rfl rfl ?_) | (refine m_box1 (v := Value.slice _ _ _) M rfl rfl rfl rfl ?_) | (refine m_box1 (v := Value.bool _) M rfl rfl rfl rfl ?_) | (refine m_box1 (v := Value.string _) M rfl rfl rfl rfl ?_) | (refine m_box1 (v := Value.pointer _) M rfl rfl rfl rfl ?_)); clear M; (try clear wx); intro g4 wx M)
          | (with_reducible (show wpList _ _ _ (Oper.mk _ (.load _ _) _ _ _ _ :: _) _ _); (first | (refine m_load M rfl rfl rfl (by first | assumption | rfl) ?_) | (refine m_loadR M rfl rfl rfl (by first | rfl | assumption | (simp; done) | (simp; omega)) ?_))))
        go_ret
        exact ⟨rfl, M.up⟩

end Go.Proofs.Ytmbhaoiahlbglaa

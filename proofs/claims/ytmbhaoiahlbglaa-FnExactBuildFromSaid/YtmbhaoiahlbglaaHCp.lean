/- Walks: slices.Compact of keys. -/
import Derived.Test.YtmbhaoiahlbglaaHSo
import Derived.Test.YtmbhaoiahlbglaaHPs
import Derived.Test.YtmbhaoiahlbglaaHCl
namespace Go.Proofs.Ytmbhaoiahlbglaa
open Go.RowKit
set_option linter.unusedVariables false
set_option linter.unusedSimpArgs false

section
variable {P : Program} {ops : Array Oper} {rest : List Oper} {o : Oper} {a : Act} {w0 w : World} {Q : Exit → Act → World → Prop} {L : List It}
theorem zeroCells_len (zero : Array Value) (n : Nat) : (Builtin.zeroCells zero n).toList.length = n * zero.size := by
  simp [Builtin.zeroCells, Nat.mul_comm]
theorem zeroCells_one (zero : Array Value) (n : Nat) (h : ∀ u ∈ zero.toList, u.oneCell' = true) : ∀ u ∈ (Builtin.zeroCells zero n).toList, u.oneCell' = true := by
  intro u hu
  obtain ⟨i, hi, rfl⟩ := List.getElem_of_mem hu
  rw [zeroCells_len] at hi
  have hp : 0 < zero.size := by
    rcases Nat.eq_zero_or_pos zero.size with h0 | h0
    · rw [h0] at hi; omega
    · exact h0
  have hm : i % zero.size < zero.size := Nat.mod_lt _ hp
  simp only [Builtin.zeroCells, Array.getElem_toList, Array.getElem_map, Array.getElem_range]
  rw [getElem!_pos zero _ hm]
  exact h _ (Array.getElem_mem_toList hm)
/-- 'clear' of a part of a block of the call's own. -/
theorem m_clear (M : Mem w0 w L) (hgd : o.guard = none) {s : Operand} {st : TypeId} (ho : o.op = .call { callee := .builtin .clear, args := #[s], argTypes := #[st] }) {e : TypeId} [ht : SliceT P st e] {z : Value} (hv : ∀ w, (zeroValue e).run P w = .ok z w) (h1 : ∀ u ∈ z.cells.toList, u.oneCell' = true)
    {g i n c : Nat} (hx : a.eval s = .slice (some ⟨g, i, none⟩) n c) {p : Nat} {t : TypeId} {cs : Array Value} [hL : AtG L g p t cs] (hn : 0 < n) (hi : i + n * z.cells.size ≤ cs.size)
    (h : ∀ w' zs, zs.length = n * z.cells.size → Mem w0 w' (L.set p (.blk g t (putC zs i cs))) → wpList P ops Q rest (a.put o.dst (.tuple #[])) w') : wpList P ops Q (o :: rest) a w :=
  wpList_plain hgd fun _ hK => by
    have hzl := zeroCells_len z.cells n
    have hst := run_storeCells_cells (P := P) g i (Builtin.zeroCells z.cells n).toList 0 w (fun j hj => by rw [Nat.add_zero, Blk.cell_ (M.blkG g) (i := i + j) (v := cs[i + j]'(by omega)) (Array.getElem?_eq_getElem (by omega))]; rfl) (fun j hj => M.freeG g _) (zeroCells_one _ _ h1)
    rw [Nat.add_zero] at hst
    obtain ⟨m, rfl⟩ : ∃ m, n = m + 1 := ⟨n - 1, by omega⟩
    have hr : (Builtin.clear_ #[st] o.type #[.slice (some ⟨g, i, none⟩) (m + 1) c]).run P w = .ok (.tuple #[]) (w.setCells g i (Builtin.zeroCells z.cells (m + 1)).toList) := by
      simp [Builtin.clear_, run_underlying ht.out, hv, hst]
    unfold Oper.wp execOp
    simp only [ho, resolve, invoke, builtin, Sem.run_bind, Sem.run_pure, Result.andThen_ok, List.map_toArray, List.map_cons, List.map_nil, hx, hr]
    exact hK _ _ (h _ _ hzl (M.setCells_ hL.out i _))
end

theorem kyT_at (xs : List Ky) (tl : List Value) (q : Nat) (x : Ky) (h : xs[q]? = some x) (o : Nat) (ho : o = q * 32) : ∀ (i : Nat) (v : Value), (bL x.1)[i]? = some v → (kyL xs ++ tl).toArray[o + i]? = some v := by
  obtain ⟨h1, h2⟩ := List.getElem?_eq_some_iff.1 h
  subst h2 ho
  intro i v hv
  have h1' := kyL_get xs q h1 i v hv
  have h2 := (List.getElem?_eq_some_iff.1 h1').1
  rw [List.getElem?_toArray, List.getElem?_append_left h2]
  exact h1'
theorem bA_allC (l : List UInt8) : (bA l).all (·.oneCell') = true := by simp [bA, bV, Value.oneCell']
theorem take_clear (xs : List Ky) (tl : List Value) (j : Nat) (h : j ≤ xs.length) (zs : List Value) (hz : j * 32 + zs.length ≤ (kyL xs ++ tl).length) : (putC zs (j * 32) (kyL xs ++ tl).toArray).toList.take (j * 32) = kyL (xs.take j) := by
  have hl : (kyL (xs.take j)).length = j * 32 := by rw [kyL_len, List.length_take, Nat.min_eq_left h]
  have hk : kyL xs = kyL (xs.take j) ++ kyL (xs.drop j) := by rw [← kyL_append, List.take_append_drop]
  rw [putC_list _ _ _ hz, hk, ← hl]
  simp [List.append_assoc]
theorem putC_ky (xs : List Ky) (tl : List Value) (j : Nat) (x : Ky) (hj : j < xs.length) : putC (bL x.1) (j * 32) (kyL xs ++ tl).toArray = (kyL (xs.set j x) ++ tl).toArray := by
  have h1 : xs = xs.take j ++ xs[j] :: xs.drop (j + 1) := by rw [← List.drop_eq_getElem_cons hj, List.take_append_drop]
  have hk : kyL xs = kyL (xs.take j) ++ (bL xs[j].1 ++ kyL (xs.drop (j + 1))) := by
    conv => lhs; rw [h1]
    rw [kyL_append]
    rfl
  have hs : kyL (xs.set j x) = kyL (xs.take j) ++ (bL x.1 ++ kyL (xs.drop (j + 1))) := by
    rw [List.set_eq_take_append_cons_drop, if_pos hj, kyL_append]
    rfl
  have hl : (kyL (xs.take j)).length = j * 32 := by rw [kyL_len, List.length_take, Nat.min_eq_left (by omega)]
  rw [putC_list _ _ _ (by rw [hk, bL_length, x.2]; simp only [List.length_append, hl, bL_length, xs[j].2]; omega), hk, hs, ← hl]
  simp [List.append_assoc, bL_length, x.2, xs[j].2, List.drop_append]
theorem bin_subI (x y z : Int) (h : IntKind.wrap .i64 (x - y) = z) (a b : Operand) (w : World) : Sem.run Try.prog (do eqGuard .sub 3 a b (.int .i64 x) (.int .i64 y); binOp .sub 3 (.int .i64 x) (.int .i64 y)) w = .ok (.int .i64 z) w := by
  go_simp
  try rw [h]
theorem kyT_get (ks : List Ky) (tl : List Value) (j : Nat) (hj : j < ks.length) : ∀ (i : Nat) (v : Value), (bL ks[j].1)[i]? = some v → (kyL ks ++ tl).toArray[j * 32 + i]? = some v := by
  intro i v h
  have h1 := kyL_get ks j hj i v h
  have h2 := (List.getElem?_eq_some_iff.1 h1).1
  rw [List.getElem?_toArray, List.getElem?_append_left h2]
  exact h1
theorem compK_short (ks : List Ky) (h : ks.length < 2) : compK ks = ks := by
  match ks, h with
  | [], _ => rfl
  | [_], _ => rfl
set_option maxHeartbeats 4000000 in
set_option maxRecDepth 100000 in
theorem compactKey_c (b : Option Addr) (cap n : Nat) (ks : List Ky) (hks : ks.length = n) (hn : n ≤ 1048576) (w0 w : World) (L : List It) (M : Mem w0 w (.own b cap 25 32 n (kyL ks) :: L)) :
    Calls Try.prog 124 #[.slice b n cap] w fun e w' => e = .returned (.slice b (compK ks).length cap) ∧ Mem w0 w' (.own b cap 25 32 (compK ks).length (kyL (compK ks)) :: L) := by
  by_cases h2 : n < 2
  · rw [compK_short ks (by omega), hks]
    go_enter Try.func124, Try.ntmps124
    go_wp2_with fail
    go_ret
    exact ⟨rfl, M⟩
  · obtain ⟨g, tl, rfl, hcap, hmax, hlen, M⟩ := M.own_blk (p := 0) rfl (by omega)
    have HH := Lib.hid (And.intro hcap (And.intro hmax hlen))
    have M : Mem w0 w (.blk g 25 (kyL ks ++ tl).toArray :: L) := M
    have HKS := Lib.hid hks
    have HC := Lib.hid (C1.start ks (by omega))
    clear hmax hlen hks
    go_enter Try.func124, Try.ntmps124
    go_wp2_with fail
    go_loopg [3] n (fun r i wr => ∃ k : Nat, k + r = n + 1 ∧ i = .int .i64 (k : Int) ∧ Hid (C1 ks k) ∧ Mem w0 wr (.blk g 25 (kyL ks ++ tl).toArray :: L))
    case atStart => exact ⟨1, by omega, rfl, HC, M⟩
    case round =>
      clear M
      obtain ⟨k, hk, rfl, HC1, M⟩ := hrel
      have hk1 := HC1.out.1
      by_cases hlt : k < n
      · have hkl : k < ks.length := by rw [HKS.out]; exact hlt
        obtain ⟨p, rfl⟩ : ∃ p, k = p + 1 := ⟨k - 1, by omega⟩
        have hpl : p < ks.length := by omega
        have hpn : p < n := by omega
        obtain ⟨x, hx⟩ : ∃ x, ks[p + 1]'hkl = x := ⟨_, rfl⟩
        obtain ⟨y, hy⟩ : ∃ y, ks[p]'hpl = y := ⟨_, rfl⟩
        have G1 := Lib.hid (kyT_get ks tl (p + 1) hkl)
        have G2 := Lib.hid (kyT_get ks tl p hpl)
        rw [hx] at G1
        rw [hy] at G2
        have HS : Hid (x ≠ y → C1 ks (p + 1 + 1)) := Lib.hid (fun h => HC1.out.step hkl (by rw [hx]; intro e; apply h; rw [e, ← hy]; rfl))
        have HF : Hid (x = y → C2 ks ks (p + 1) (p + 1)) := Lib.hid (fun h => HC1.out.found hkl (by rw [hx, h, ← hy]; rfl))
        have HK := Lib.hid hk
        clear HC1 hx hy hk
        have hx32 := x.2
        have hy32 := y.2
        generalize hcs : (kyL ks ++ tl).toArray = cs at *
        have HCS := Lib.hid hcs
        clear hcs
        go_wp2_with fail
        refine region_mono (m := 10) mixedOrders_ (by kernel_rfl) (by kernel_rfl)
          (fun | 0 => fun vq _ => vq = .slice (some ⟨g, 0, none⟩) n cap | 1 => fun vq _ => vq = .int .i64 ((p + 1 : Nat) : Int) | 2 => fun vq _ => vq = .pointer (some ⟨g, 0 + (p + 1) * 32, none⟩) | 3 => fun vq _ => vq = .agg (bA x.1) | 4 => fun vq _ => vq = .slice (some ⟨g, 0, none⟩) n cap | 5 => fun vq _ => vq = .int .i64 ((p + 1 : Nat) : Int) | 6 => fun vq _ => vq = .int .i64 (p : Int) | 7 => fun vq _ => vq = .pointer (some ⟨g, 0 + p * 32, none⟩) | 8 => fun vq _ => vq = .agg (bA y.1) | 9 => fun vq _ => vq = .bool (decide (x = y)) | _ => fun _ _ => True)
          (fun wx => Mem w0 wx (.blk g 25 cs :: L)) ?_ ?_ ?_ ?_ ?_
        · intro j hj v w1 w2 hb h
          match j, hj with
          | 0, _ => exact h
          | 1, _ => exact h
          | 2, _ => exact h
          | 3, _ => exact h
          | 4, _ => exact h
          | 5, _ => exact h
          | 6, _ => exact h
          | 7, _ => exact h
          | 8, _ => exact h
          | 9, _ => exact h
        · intro w1 w2 hb h
          exact h.grow hb
        · exact M.grow ((Up.refl _).drew)
        · rintro i o hi ho av wv fr gM dep
          match i, hi with
          | 0, _ =>
            obtain rfl := Option.some.inj ho
            exact st_mov rfl (fr.eval rfl) rfl
          | 1, _ =>
            obtain rfl := Option.some.inj ho
            exact st_mov rfl (fr.eval rfl) rfl
          | 2, _ =>
            obtain rfl := Option.some.inj ho
            exact st_indexAddr rfl (dep ⟨0, .data⟩ (by simp) rfl) (dep ⟨1, .data⟩ (by simp) rfl) (ix_slice _ _ _ _ _ hlt _) rfl
          | 3, _ =>
            obtain rfl := Option.some.inj ho
            exact st_loadPG gM rfl (dep ⟨2, .data⟩ (by simp) rfl) (xs := bL x.1) (by rw [Nat.zero_add]; exact G1.out) (by rw [bL_length, hx32]) rfl
          | 4, _ =>
            obtain rfl := Option.some.inj ho
            exact st_mov rfl (fr.eval rfl) rfl
          | 5, _ =>
            obtain rfl := Option.some.inj ho
            exact st_mov rfl (fr.eval rfl) rfl
          | 6, _ =>
            obtain rfl := Option.some.inj ho
            exact st_bin rfl (dep ⟨5, .data⟩ (by simp) rfl) (rfl) (bin_subI _ _ _ (by have := i64_in_ (((p + 1 : Nat) : Int) - 1) (by omega); rw [this]; omega) _ _ _) rfl
          | 7, _ =>
            obtain rfl := Option.some.inj ho
            exact st_indexAddr rfl (dep ⟨4, .data⟩ (by simp) rfl) (dep ⟨6, .data⟩ (by simp) rfl) (ix_slice _ _ _ _ _ hpn _) rfl
          | 8, _ =>
            obtain rfl := Option.some.inj ho
            exact st_loadPG gM rfl (dep ⟨7, .data⟩ (by simp) rfl) (xs := bL y.1) (by rw [Nat.zero_add]; exact G2.out) (by rw [bL_length, hy32]) rfl
          | 9, _ =>
            obtain rfl := Option.some.inj ho
            exact st_bin rfl (dep ⟨3, .data⟩ (by simp) rfl) (dep ⟨8, .data⟩ (by simp) rfl) (key_eqlG _ _ _ _ _) rfl
        · rintro vs wv gM hf
          have f0 : vs 0 = .slice (some ⟨g, 0, none⟩) n cap := hf 0 (by omega)
          have f1 : vs 1 = .int .i64 ((p + 1 : Nat) : Int) := hf 1 (by omega)
          have f2 : vs 2 = .pointer (some ⟨g, 0 + (p + 1) * 32, none⟩) := hf 2 (by omega)
          have f3 : vs 3 = .agg (bA x.1) := hf 3 (by omega)
          have f4 : vs 4 = .slice (some ⟨g, 0, none⟩) n cap := hf 4 (by omega)
          have f5 : vs 5 = .int .i64 ((p + 1 : Nat) : Int) := hf 5 (by omega)
          have f6 : vs 6 = .int .i64 (p : Int) := hf 6 (by omega)
          have f7 : vs 7 = .pointer (some ⟨g, 0 + p * 32, none⟩) := hf 7 (by omega)
          have f8 : vs 8 = .agg (bA y.1) := hf 8 (by omega)
          have f9 : vs 9 = .bool (decide (x = y)) := hf 9 (by omega)
          by_cases hxy : x = y
          · rw [decide_eq_true hxy] at f9
            have HF2 := Lib.hid (HF.out hxy)
            clear HF HS hxy
            simp only [putAll, Act.put, List.getElem?_toArray, List.getElem?_cons_zero, List.getElem?_cons_succ, Option.bind_some, List.setIfInBounds_toArray, List.set_cons_zero, List.set_cons_succ, List.drop_succ_cons, List.drop_zero, List.drop_nil, f9]
            clear f0 f1 f2 f3 f4 f5 f6 f7 f8 f9 hf
            have M := gM
            rw [← HCS.out] at M
            clear HCS gM G1 G2 hx32 hy32
            go_wp2_with fail
            try generalize decide ((p : Int) + 1 < (n : Int)) = dd at *
            have HPC := Lib.hid hpn
            clear HK hkl hpl hpn hk1
            generalize p + 1 = P at *
            go_loopg [3, 5] (n - (P)) (fun r x i wr => ∃ (j s : Nat) (xs : List Ky), s + r = n - (P) ∧ x = .int .i64 (j : Int) ∧ i = .int .i64 ((s + 1 : Nat) : Int) ∧ Hid (C2 ks xs j (P + s)) ∧ Mem w0 wr (.blk g 25 (kyL xs ++ tl).toArray :: L))
            case atStart => exact ⟨P, 0, ks, by omega, rfl, rfl, HF2, M⟩
            case round =>
              clear M
              obtain ⟨j, s, xs, hs, rfl, rfl, HC2, M⟩ := hrel
              by_cases hlt2 : s + 1 < n - (P)
              · have hA : P + s + 1 < ks.length := by rw [HKS.out]; omega
                have hB : P + s < ks.length := by omega
                have hjp := HC2.out.2.2.1
                have hxl := HC2.out.1
                have hE5 := HC2.out.2.2.2.2.1
                obtain ⟨x2, hx2⟩ : ∃ x2, ks[P + s + 1]'hA = x2 := ⟨_, rfl⟩
                obtain ⟨y2, hy2⟩ : ∃ y2, ks[P + s]'hB = y2 := ⟨_, rfl⟩
                have hxa : xs[P + s + 1]? = some x2 := by rw [hE5 _ (by omega), List.getElem?_eq_getElem hA, hx2]
                have hxb : xs[P + s]? = some y2 := by rw [hE5 _ (by omega), List.getElem?_eq_getElem hB, hy2]
                have G1 := Lib.hid (kyT_at xs tl _ x2 hxa ((P) * 32 + (s + 1) * 32) (by omega))
                have G2 := Lib.hid (kyT_at xs tl _ y2 hxb ((P) * 32 + s * 32) (by omega))
                have HS : Hid (x2 = y2 → C2 ks xs j (P + (s + 1))) := Lib.hid (fun h => HC2.out.same hA (by rw [hx2, h, hy2]))
                have HN : Hid (x2 ≠ y2 → C2 ks (xs.set j x2) (j + 1) (P + (s + 1))) := Lib.hid (fun h => by have := HC2.out.new hA (by rw [hx2, hy2]; exact h); rwa [hx2] at this)
                have hjn : j < n := by have := HKS.out; omega
                have HP := Lib.hid (putC_ky xs tl j x2 (by omega))
                have HSZ := Lib.hid (show j * 32 + 32 ≤ (kyL xs ++ tl).toArray.size by simp; omega)
                have HSS := Lib.hid hs
                clear HC2 hE5 hxa hxb hx2 hy2 hxl hjp hs
                have hx32 := x2.2
                have hy32 := y2.2
                have hs1 : s < n - (P) := by omega
                generalize hcs : (kyL xs ++ tl).toArray = cs at *
                have HCS := Lib.hid hcs
                clear hcs
                go_wp2_with fail
                refine region_mono (m := 10) mixedOrders_ (by kernel_rfl) (by kernel_rfl)
                  (fun | 0 => fun vq _ => vq = .slice (some ⟨g, (P) * 32, none⟩) (n - (P)) (cap - (P)) | 1 => fun vq _ => vq = .int .i64 ((s + 1 : Nat) : Int) | 2 => fun vq _ => vq = .pointer (some ⟨g, (P) * 32 + (s + 1) * 32, none⟩) | 3 => fun vq _ => vq = .agg (bA x2.1) | 4 => fun vq _ => vq = .slice (some ⟨g, (P) * 32, none⟩) (n - (P)) (cap - (P)) | 5 => fun vq _ => vq = .int .i64 ((s + 1 : Nat) : Int) | 6 => fun vq _ => vq = .int .i64 (s : Int) | 7 => fun vq _ => vq = .pointer (some ⟨g, (P) * 32 + s * 32, none⟩) | 8 => fun vq _ => vq = .agg (bA y2.1) | 9 => fun vq _ => vq = .bool (!decide (x2 = y2)) | _ => fun _ _ => True)
                  (fun wx => Mem w0 wx (.blk g 25 cs :: L)) ?_ ?_ ?_ ?_ ?_
                · intro j hj v w1 w2 hb h
                  match j, hj with
                  | 0, _ => exact h
                  | 1, _ => exact h
                  | 2, _ => exact h
                  | 3, _ => exact h
                  | 4, _ => exact h
                  | 5, _ => exact h
                  | 6, _ => exact h
                  | 7, _ => exact h
                  | 8, _ => exact h
                  | 9, _ => exact h
                · intro w1 w2 hb h
                  exact h.grow hb
                · exact M.grow ((Up.refl _).drew)
                · rintro i o hi ho av wv fr gM dep
                  match i, hi with
                  | 0, _ =>
                    obtain rfl := Option.some.inj ho
                    exact st_mov rfl (fr.eval rfl) rfl
                  | 1, _ =>
                    obtain rfl := Option.some.inj ho
                    exact st_mov rfl (fr.eval rfl) rfl
                  | 2, _ =>
                    obtain rfl := Option.some.inj ho
                    exact st_indexAddr rfl (dep ⟨0, .data⟩ (by simp) rfl) (dep ⟨1, .data⟩ (by simp) rfl) (ix_slice _ _ _ _ _ hlt2 _) rfl
                  | 3, _ =>
                    obtain rfl := Option.some.inj ho
                    exact st_loadPG gM rfl (dep ⟨2, .data⟩ (by simp) rfl) (xs := bL x2.1) G1.out (by rw [bL_length, hx32]) rfl
                  | 4, _ =>
                    obtain rfl := Option.some.inj ho
                    exact st_mov rfl (fr.eval rfl) rfl
                  | 5, _ =>
                    obtain rfl := Option.some.inj ho
                    exact st_mov rfl (fr.eval rfl) rfl
                  | 6, _ =>
                    obtain rfl := Option.some.inj ho
                    exact st_bin rfl (dep ⟨5, .data⟩ (by simp) rfl) (rfl) (bin_subI _ _ _ (by have := i64_in_ (((s + 1 : Nat) : Int) - 1) (by omega); rw [this]; omega) _ _ _) rfl
                  | 7, _ =>
                    obtain rfl := Option.some.inj ho
                    exact st_indexAddr rfl (dep ⟨4, .data⟩ (by simp) rfl) (dep ⟨6, .data⟩ (by simp) rfl) (ix_slice _ _ _ _ _ hs1 _) rfl
                  | 8, _ =>
                    obtain rfl := Option.some.inj ho
                    exact st_loadPG gM rfl (dep ⟨7, .data⟩ (by simp) rfl) (xs := bL y2.1) G2.out (by rw [bL_length, hy32]) rfl
                  | 9, _ =>
                    obtain rfl := Option.some.inj ho
                    exact st_bin rfl (dep ⟨3, .data⟩ (by simp) rfl) (dep ⟨8, .data⟩ (by simp) rfl) (key_neqG _ _ _ rfl _ _ _) rfl
                · rintro vs wv gM hf
                  have f0 : vs 0 = .slice (some ⟨g, (P) * 32, none⟩) (n - (P)) (cap - (P)) := hf 0 (by omega)
                  have f1 : vs 1 = .int .i64 ((s + 1 : Nat) : Int) := hf 1 (by omega)
                  have f2 : vs 2 = .pointer (some ⟨g, (P) * 32 + (s + 1) * 32, none⟩) := hf 2 (by omega)
                  have f3 : vs 3 = .agg (bA x2.1) := hf 3 (by omega)
                  have f4 : vs 4 = .slice (some ⟨g, (P) * 32, none⟩) (n - (P)) (cap - (P)) := hf 4 (by omega)
                  have f5 : vs 5 = .int .i64 ((s + 1 : Nat) : Int) := hf 5 (by omega)
                  have f6 : vs 6 = .int .i64 (s : Int) := hf 6 (by omega)
                  have f7 : vs 7 = .pointer (some ⟨g, (P) * 32 + s * 32, none⟩) := hf 7 (by omega)
                  have f8 : vs 8 = .agg (bA y2.1) := hf 8 (by omega)
                  have f9 : vs 9 = .bool (!decide (x2 = y2)) := hf 9 (by omega)
                  by_cases hxy : x2 = y2
                  · rw [show (!decide (x2 = y2)) = false by simp [hxy]] at f9
                    have HS2 := Lib.hid (HS.out hxy)
                    clear HS HN hxy
                    simp only [putAll, Act.put, List.getElem?_toArray, List.getElem?_cons_zero, List.getElem?_cons_succ, Option.bind_some, List.setIfInBounds_toArray, List.set_cons_zero, List.set_cons_succ, List.drop_succ_cons, List.drop_zero, List.drop_nil, f9]
                    clear f0 f1 f2 f3 f4 f5 f6 f7 f8 f9 hf
                    have M := gM
                    go_wp2_with fail
                    have hs := HSS.out
                    go_roundg (gk - 1)
                    case measure => omega
                    case rel => exact ⟨j, s + 1, xs, by omega, rfl, by go_num, HS2, by first | exact M | (rw [HCS.out]; exact M)⟩
                  · rw [show (!decide (x2 = y2)) = true by simp [hxy]] at f9
                    have HN2 := Lib.hid (HN.out hxy)
                    clear HS HN hxy
                    simp only [putAll, Act.put, List.getElem?_toArray, List.getElem?_cons_zero, List.getElem?_cons_succ, Option.bind_some, List.setIfInBounds_toArray, List.set_cons_zero, List.set_cons_succ, List.drop_succ_cons, List.drop_zero, List.drop_nil, f9]
                    clear f0 f1 f2 f3 f4 f5 f6 f7 f8 f9 hf
                    have M := gM
                    go_wp2_with (first
                      | (with_reducible (show wpList _ _ _ (Oper.mk _ (.store _ _ _) _ _ _ _ :: _) _ _); refine m_storeP M rfl rfl rfl rfl (by rw [bA_size, hx32]) HSZ.out (bA_allC _) ?_; clear M; (try clear wx); intro wx M; simp only [List.set_cons_zero, List.set_cons_succ, Nat.zero_add, List.nil_append] at M; rw [show (bA x2.1).toList = bL x2.1 from rfl, HP.out] at M)
                      | (with_reducible (show wpList _ _ _ (Oper.mk _ (.load _ _) _ _ _ _ :: _) _ _); (first | (refine m_loadB M rfl rfl rfl G1.out hx32 ?_) | (refine m_load M rfl rfl rfl (by first | assumption | rfl) ?_) | (refine m_loadR M rfl rfl rfl (by first | rfl | assumption | (simp; done) | (simp; omega)) ?_)))
                      | (with_reducible (show wpList _ _ _ (Oper.mk _ (.store _ _ _) _ _ _ _ :: _) _ _); (first | (refine m_storeR M rfl rfl rfl rfl (by first | rfl | assumption | (simp; done) | (simp; omega)) (by first | rfl | assumption | (simp; done) | (simp; omega)) (by first | exact bA_one _ | exact wA_one _ | assumption | (simp [Value.oneCell']; done)) ?_) | (refine m_store (v := Value.int _ _) M rfl rfl rfl rfl rfl (by first | assumption | (simp; done) | (simp; omega)) ?_) | (refine m_store (v := Value.slice _ _ _) M rfl rfl rfl rfl rfl (by first | assumption | (simp; done) | (simp; omega)) ?_) | (refine m_store (v := Value.bool _) M rfl rfl rfl rfl rfl (by first | assumption | (simp; done) | (simp; omega)) ?_) | (refine m_store (v := Value.string _) M rfl rfl rfl rfl rfl (by first | assumption | (simp; done) | (simp; omega)) ?_) | (refine m_store (v := Value.pointer _) M rfl rfl rfl rfl rfl (by first | assumption | (simp; done) | (simp; omega)) ?_)); clear M; (try clear wx); intro wx M; simp only [List.set_cons_zero, List.set_cons_succ, Nat.zero_add, List.nil_append] at M))
                    have hs := HSS.out
                    go_roundg (gk - 1)
                    case measure => omega
                    case rel => exact ⟨j + 1, s + 1, xs.set j x2, by omega, by go_num, by go_num, HN2, M⟩
              · have hp2 := HC2.out.2.2.2.1
                have hjp := HC2.out.2.2.1
                have hxl := HC2.out.1
                rw [HKS.out] at hp2 hxl
                have HD := Lib.hid (C2.done HC2.out (by rw [HKS.out]; omega))
                have hjn : j < n := by omega
                have hjx : j ≤ xs.length := by omega
                obtain ⟨q1, q2, q3⟩ := HH.out
                have hbig : j * 32 + (n - j) * 32 ≤ (kyL xs ++ tl).toArray.size := by
                  have : (kyL xs ++ tl).toArray.size = n * 32 + tl.length := by simp [hxl]
                  omega
                have HX := Lib.hid (And.intro hbig (And.intro hxl hjx))
                have HT := Lib.hid (take_clear xs tl j hjx)
                clear HC2 hbig hxl hp2 hjp hs q1 q2 q3
                go_wp2_with (first
                  | (with_reducible (show wpList _ _ _ (Oper.mk _ (.call (Call.mk (.builtin .clear) _ _)) _ _ _ _ :: _) _ _); refine m_clear M rfl rfl Try.zeroValue25 (by decide) rfl (by omega) HX.out.1 ?_; clear M; (try clear wx); intro wx zs hzs M; simp only [List.set_cons_zero, List.set_cons_succ, Nat.zero_add, List.nil_append] at M)
                  | (with_reducible (show wpList _ _ _ (Oper.mk _ (.load _ _) _ _ _ _ :: _) _ _); (first | (refine m_load M rfl rfl rfl (by first | assumption | rfl) ?_) | (refine m_loadR M rfl rfl rfl (by first | rfl | assumption | (simp; done) | (simp; omega)) ?_)))
                  | (with_reducible (show wpList _ _ _ (Oper.mk _ (.store _ _ _) _ _ _ _ :: _) _ _); (first | (refine m_storeR M rfl rfl rfl rfl (by first | rfl | assumption | (simp; done) | (simp; omega)) (by first | rfl | assumption | (simp; done) | (simp; omega)) (by first | exact bA_one _ | exact wA_one _ | assumption | (simp [Value.oneCell']; done)) ?_) | (refine m_store (v := Value.int _ _) M rfl rfl rfl rfl rfl (by first | assumption | (simp; done) | (simp; omega)) ?_) | (refine m_store (v := Value.slice _ _ _) M rfl rfl rfl rfl rfl (by first | assumption | (simp; done) | (simp; omega)) ?_) | (refine m_store (v := Value.bool _) M rfl rfl rfl rfl rfl (by first | assumption | (simp; done) | (simp; omega)) ?_) | (refine m_store (v := Value.string _) M rfl rfl rfl rfl rfl (by first | assumption | (simp; done) | (simp; omega)) ?_) | (refine m_store (v := Value.pointer _) M rfl rfl rfl rfl rfl (by first | assumption | (simp; done) | (simp; omega)) ?_)); clear M; (try clear wx); intro wx M; simp only [List.set_cons_zero, List.set_cons_succ, Nat.zero_add, List.nil_append] at M))
                go_ret
                rw [HD.out, show (xs.take j).length = j by rw [List.length_take, Nat.min_eq_left HX.out.2.2]]
                refine ⟨rfl, ?_⟩
                obtain ⟨q1, q2, q3⟩ := HH.out
                have hsz : (putC zs (j * 32) (kyL xs ++ tl).toArray).size = cap * 32 := by
                  rw [putC_size, ← q3]
                  simp [HX.out.2.1, HKS.out]
                have hzz : j * 32 + zs.length ≤ (kyL xs ++ tl).length := by rw [hzs]; exact Nat.le_trans HX.out.1 (Nat.le_of_eq (by simp))
                exact M.blk_own (p := 0) rfl 32 j cap (by omega) q2 hsz (HT.out zs hzz)
          · rw [decide_eq_false hxy] at f9
            have HS2 := Lib.hid (HS.out hxy)
            clear HF HS hxy
            simp only [putAll, Act.put, List.getElem?_toArray, List.getElem?_cons_zero, List.getElem?_cons_succ, Option.bind_some, List.setIfInBounds_toArray, List.set_cons_zero, List.set_cons_succ, List.drop_succ_cons, List.drop_zero, List.drop_nil, f9]
            clear f0 f1 f2 f3 f4 f5 f6 f7 f8 f9 hf
            have M := gM
            go_wp2_with fail
            have hk := HK.out
            go_roundg (gk - 1)
            case measure => omega
            case rel => exact ⟨p + 1 + 1, by omega, by go_num, HS2, by first | exact M | (rw [HCS.out]; exact M)⟩
      · have hk2 := HC1.out.2.1
        rw [HKS.out] at hk2
        have MM := Lib.hid M
        obtain rfl : k = n := by omega
        have HE := Lib.hid (show compK ks = ks from C1.done (by rw [HKS.out]; exact HC1.out))
        clear hk hlt HC1 hk2
        go_wp2_with fail
        go_ret
        rw [HE.out, HKS.out]
        refine ⟨rfl, ?_⟩
        obtain ⟨q1, q2, q3⟩ := HH.out
        have hkl : (kyL ks).length = k * 32 := by rw [kyL_len, HKS.out]
        have hsz : (kyL ks ++ tl).toArray.size = cap * 32 := by rw [← q3]; simp
        have htk : (kyL ks ++ tl).toArray.toList.take (k * 32) = kyL ks := by rw [← hkl]; simp
        exact MM.out.blk_own (p := 0) rfl 32 k cap q1 q2 hsz htk

end Go.Proofs.Ytmbhaoiahlbglaa

/- Walks: ValidHasher. -/
import Derived.Test.YtmganlabhkogcaaKH
namespace Go.Proofs.Ytmganlabhkogcaa
open Go.RowKit
set_option linter.unusedVariables false
set_option linter.unusedSimpArgs false

/-- Is a hasher with this count and so many bytes held valid? -/
def okHas (n : Int) (len : Nat) : Bool := inB n 0 1000000000 && ((len : Int) == n % 32)
theorem inB_pos (n : Int) (h : inB n 0 1000000000 = true) : 0 ≤ n ∧ n ≤ 1000000000 := by
  simp only [inB, Bool.and_eq_true, decide_eq_true_eq] at h
  exact h

set_option maxHeartbeats 400000 in
theorem sizeB_c (a : Option Addr) (n cap : Nat) (w : World) : Calls Try.prog 68 #[.slice a n cap] w fun e w' => e = .returned (.int .i64 n) ∧ w' = w := by
  go_enter Try.func68, Try.ntmps68
  go_wp2
  go_ret
  exact ⟨rfl, rfl⟩

set_option maxHeartbeats 1000000 in
set_option maxRecDepth 100000 in
theorem l01Ok_c (g t : Nat) (cs : Array Value) (a : Option Addr) (len cap : Nat) (n : Int) (w : World) (hb : Blk w g t cs) (e8 : cs[8]? = some (.slice a len cap)) (e9 : cs[9]? = some (.int .i64 n)) :
    Calls Try.prog 65 #[.pointer (some ⟨g, 0, none⟩)] w fun e w' => e = .returned (.bool (okHas n len)) ∧ ∃ m, w' = w.drewN m := by
  have c8 := hb.cell_ e8
  have c9 := hb.cell_ e9
  clear hb e8 e9
  by_cases h1 : inB n 0 1000000000 = true
  · obtain ⟨g0, g1⟩ := inB_pos n h1
    have HE := Lib.hid (show okHas n len = ((len : Int) == n % 32) by rw [okHas, h1, Bool.true_and])
    have H1 := Lib.hid h1
    clear h1
    go_enter Try.func65, Try.ntmps65
    go_wp2_with fail
    go_quiet ((go_at_call 46; with_reducible exact Calls.quiet_of_same (l00In_b n 0 1000000000 true H1.out _)))
    go_wp2_with fail
    go_ret
    exact ⟨by rw [HE.out]; rfl, _, rfl⟩
  · have h1' : inB n 0 1000000000 = false := by simpa using h1
    have HE := Lib.hid (show okHas n len = false by rw [okHas, h1']; rfl)
    have H1 := Lib.hid h1'
    clear h1 h1'
    go_enter Try.func65, Try.ntmps65
    go_wp2_with fail
    go_quiet ((go_at_call 46; with_reducible exact Calls.quiet_of_same (l00In_b n 0 1000000000 false H1.out _)))
    go_wp2_with fail
    go_ret
    exact ⟨by rw [HE.out]; rfl, _, rfl⟩

set_option maxHeartbeats 1000000 in
set_option maxRecDepth 100000 in
theorem implValidHasher_c (s : List UInt32) (hs : s.length = 8) (a : Option Addr) (len cap : Nat) (n : Int) (w : World) :
    Calls Try.prog 44 #[.agg (hasC s (.slice a len cap) n)] w fun e w' => e = .returned (.bool (okHas n len)) ∧ Up w w' := by
  have b0 : Blk (w.alloc (.cells (hasC s (.slice a len cap) n) 63)) w.heap.size 63 (hasC s (.slice a len cap) n) := Blk.top rfl
  have c8 := b0.cell_ (hasC_8 s _ n hs)
  have c9 := b0.cell_ (hasC_9 s _ n hs)
  clear b0
  by_cases h1 : inB n 0 1000000000 = true
  · obtain ⟨g0, g1⟩ := inB_pos n h1
    have HE := Lib.hid (show okHas n len = ((len : Int) == n % 32) by rw [okHas, h1, Bool.true_and])
    have H1 := Lib.hid h1
    clear h1
    go_enter Try.func44, Try.ntmps44
    go_wp2_with fail
    go_quiet ((first
      | (go_at_call 48; with_reducible exact Calls.quiet_of_same (within_b n 0 1000000000 true H1.out _))
      | (go_at_call 68; with_reducible exact Calls.quiet_of_same (sizeB_c a len cap _))))
    go_wp2_with fail
    go_ret
    exact ⟨by rw [HE.out]; rfl, ((Up.refl _).alloc _).drewN _⟩
  · have h1' : inB n 0 1000000000 = false := by simpa using h1
    have HE := Lib.hid (show okHas n len = false by rw [okHas, h1']; rfl)
    have H1 := Lib.hid h1'
    clear h1 h1'
    go_enter Try.func44, Try.ntmps44
    go_wp2_with fail
    go_quiet ((go_at_call 48; with_reducible exact Calls.quiet_of_same (within_b n 0 1000000000 false H1.out _)))
    go_wp2_with fail
    go_ret
    exact ⟨by rw [HE.out]; rfl, ((Up.refl _).alloc _).drewN _⟩

set_option maxHeartbeats 400000 in
set_option maxRecDepth 100000 in
theorem specValidHasher_c (s : List UInt32) (hs : s.length = 8) (a : Option Addr) (len cap : Nat) (n : Int) (w : World) :
    Calls Try.prog 42 #[.agg (hasC s (.slice a len cap) n)] w fun e w' => e = .returned (.bool (okHas n len)) ∧ Up w w' := by
  have HC := Lib.hid (l01Ok_c w.heap.size 63 (hasC s (.slice a len cap) n) a len cap n (w.alloc (.cells (hasC s (.slice a len cap) n) 63)) (Blk.top rfl) (hasC_8 s _ n hs) (hasC_9 s _ n hs))
  go_enter Try.func42, Try.ntmps42
  go_wp2_with (first
    | (go_at_call 65; (with_reducible refine (HC.out).mono ?_); rintro e w' ⟨rfl, m, rfl⟩))
  go_ret
  exact ⟨rfl, ((Up.refl _).alloc _).drewN _⟩

theorem mixedOrders : Try.prog.follows .mixedOrders = true := by kernel_rfl
set_option maxHeartbeats 1000000 in
set_option maxRecDepth 100000 in
theorem lawValidHasher_c (s : List UInt32) (hs : s.length = 8) (v : Value) (l : List UInt8) (n : Int) (w : World) (hv : RdB w v l) :
    Calls Try.prog 14 #[.agg (hasC s v n)] w fun e w' => e = .returned (.bool true) ∧ Up w w' := by
  have hv0 := hv
  obtain ⟨a, cap, hva, hmax, -⟩ := hv0
  have HI := Lib.hid (show (Try.prog.info? 60).map (·.size) = some (hasC s v n).size by rw [hasC_size _ _ _ hs]; kernel_rfl)
  have HV := Lib.hid hv
  have HL := Lib.hid hs
  have B0 := Lib.hid (show Blk (w.alloc (.cells (hasC s v n) 60)) w.heap.size 60 (hasC s v n) from Blk.top rfl)
  have HS : Hid (∀ w, Calls Try.prog 41 #[.agg (hasC s v n), .int .i64 1048576] w fun e w' => e = .returned (.int .i64 (if (1048576 : Int) - l.length < 0 then -1 else 1048576 - l.length)) ∧ Up w w') := Lib.hid (by subst hva; exact fun w => szHasher_c s hs a l.length cap n hmax w)
  clear hs hv hva hmax
  by_cases hbig : (1048576 : Int) - l.length < 0
  · rw [if_pos hbig] at HS
    go_enter Try.func14, Try.ntmps14
    go_wp2_with (first
      | (refine wpList_load_row rfl 60 (.tmp 1) rfl _ rfl 60 (hasC s v n) (0, 0) _ (B0.out) Try.underlying60 rfl (HI.out) ?_)
      | (go_at_call 41; (with_reducible refine (HS.out _).mono ?_); rintro e w' ⟨rfl, hb1⟩))
    go_ret
    exact ⟨rfl, ((Up.refl _).alloc _).trans hb1⟩
  · rw [if_neg hbig] at HS
    have hlen : l.length ≤ 1048576 := by omega
    have HN := Lib.hid hlen
    go_enter Try.func14, Try.ntmps14
    go_wp2_with (first
      | (refine wpList_load_row rfl 60 (.tmp 1) rfl _ rfl 60 (hasC s v n) (0, 0) _ (B0.out) Try.underlying60 rfl (HI.out) ?_))
    (with_reducible refine (HS.out _).mono ?_)
    rintro e w1 ⟨rfl, hb1⟩
    have U1 := Lib.hid (show Up w w1 from ((Up.refl _).alloc _).trans hb1)
    have C1 := Lib.hid (B0.out.up hb1)
    clear hb1
    go_wp2_with (first
      | (refine wpList_load_row rfl 60 (.tmp 1) rfl _ rfl 60 (hasC s v n) (0, 0) _ (C1.out) Try.underlying60 rfl (HI.out) ?_))
    refine (toHasher_c s HL.out v l n _ (HV.out.up U1.out) HN.out).mono ?_
    rintro e w2 ⟨⟨g, rfl, hg, bg⟩, hb2⟩
    have U2 := Lib.hid (show Up w w2 from U1.out.trans hb2)
    have C2 := Lib.hid (C1.out.up hb2)
    clear hb2 hg bg
    go_wp2_with fail
    refine (specValidHasher_c s HL.out _ _ _ n _).mono ?_
    rintro e w3 ⟨rfl, hb3⟩
    have U3 := Lib.hid (show Up w w3 from U2.out.trans hb3)
    have C3 := Lib.hid (C2.out.up hb3)
    clear hb3
    go_wp2_with (first
      | (refine wpList_load_row rfl 60 (.tmp 1) rfl _ rfl 60 (hasC s v n) (0, 0) _ (C3.out) Try.underlying60 rfl (HI.out) ?_))
    refine (toHasher_c s HL.out v l n _ (HV.out.up U3.out) HN.out).mono ?_
    rintro e w4 ⟨⟨h, rfl, hh, bh⟩, hb4⟩
    have HI2 := Lib.hid (show (Try.prog.info? 63).map (·.size) = some (hasC s (.slice (some ⟨h, 0, none⟩) l.length l.length) n).size by rw [hasC_size _ _ _ HL.out]; exact info_has)
    have HZ := Lib.hid (show hasZ.size = (hasC s (.slice (some ⟨h, 0, none⟩) l.length l.length) n).size by rw [hasC_size _ _ _ HL.out]; rfl)
    have U4 := Lib.hid (show Up w (w4.alloc (.cells (hasC s (.slice (some ⟨h, 0, none⟩) l.length l.length) n) 63)) from (U3.out.trans hb4).alloc _)
    have C4 := Lib.hid ((C3.out.up hb4).alloc (.cells (hasC s (.slice (some ⟨h, 0, none⟩) l.length l.length) n) 63))
    have D4 := Lib.hid (show Blk (w4.alloc (.cells (hasC s (.slice (some ⟨h, 0, none⟩) l.length l.length) n) 63)) w4.heap.size 63 (hasC s (.slice (some ⟨h, 0, none⟩) l.length l.length) n) from Blk.top rfl)
    have R4 := Lib.hid ((RdB.of_blk bh (Nat.le_trans HN.out (by decide)) l.length).alloc (.cells (hasC s (.slice (some ⟨h, 0, none⟩) l.length l.length) n) 63))
    clear hh bh hb4
    go_wp2_with (first
      | (refine wpList_store_row rfl 63 (.tmp 5) (.tmp 16) rfl _ (hasC s (.slice (some ⟨h, 0, none⟩) l.length l.length) n) rfl rfl 63 (hasZ) (Blk.top rfl) (HI2.out) (HZ.out) (hasC_one _ _ _ rfl) ?_; rw [World.setRow_alloc_new])
      | (refine wpList_load_row rfl 63 (.tmp 5) rfl _ rfl 63 (hasC s (.slice (some ⟨h, 0, none⟩) l.length l.length) n) (0, 0) _ (D4.out) Try.underlying63 rfl (HI2.out) ?_))
    refine (implValidHasher_c s HL.out _ _ _ n _).mono ?_
    rintro e w5 ⟨rfl, hb5⟩
    have U5 := Lib.hid (show Up w w5 from U4.out.trans hb5)
    have C5 := Lib.hid (C4.out.up hb5)
    have D5 := Lib.hid (D4.out.up hb5)
    have R5 := Lib.hid (R4.out.up hb5)
    clear hb5
    go_upto_region 10 with fail
    refine region_mono (m := 5) mixedOrders (by kernel_rfl) (by kernel_rfl)
      (fun | 0 => fun vq _ => vq = .agg (hasC s (.slice (some ⟨h, 0, none⟩) l.length l.length) n) | 1 => fun vq _ => vq = .agg (hasC s v n) | 2 => fun vq wx => ∃ g : Nat, vq = .agg (hasC s (.slice (some ⟨g, 0, none⟩) l.length l.length) n) ∧ RdB wx (.slice (some ⟨g, 0, none⟩) l.length l.length) l | 3 => fun vq _ => vq = .bool true | 4 => fun vq _ => vq = .bool (!true) | _ => fun _ _ => True)
      (fun wx => Blk wx w4.heap.size 63 (hasC s (.slice (some ⟨h, 0, none⟩) l.length l.length) n) ∧ Blk wx w.heap.size 60 (hasC s v n) ∧ RdB wx (.slice (some ⟨h, 0, none⟩) l.length l.length) l ∧ Up w wx) ?_ ?_ ?_ ?_ ?_
    · intro j hj v w1 w2 hb h
      match j, hj with
      | 0, _ => exact h
      | 1, _ => exact h
      | 2, _ => exact (let ⟨g, h1, h2⟩ := h; ⟨g, h1, h2.up hb⟩)
      | 3, _ => exact h
      | 4, _ => exact h
    · rintro w1 w2 hb ⟨g5, g1, gr, gu⟩
      exact ⟨g5.up hb, g1.up hb, gr.up hb, gu.up hb⟩
    · exact ⟨D5.out.drew, C5.out.drew, R5.out.up ((Up.refl _).drew), U5.out.drew⟩
    · rintro i o hi ho av wv fr ⟨g5, g1, gr, gu⟩ dep
      match i, hi with
      | 0, _ =>
        obtain rfl := Option.some.inj ho
        exact st_load_row rfl (fr.eval rfl) g5 Try.underlying63 rfl HI2.out rfl
      | 1, _ =>
        obtain rfl := Option.some.inj ho
        exact st_load_row rfl (fr.eval rfl) g1 Try.underlying60 rfl HI.out rfl
      | 2, _ =>
        obtain rfl := Option.some.inj ho
        have d0 := dep ⟨1, .data⟩ (by simp) rfl
        exact st_call1 rfl (fun _ _ => by kernel_rfl) d0 (toHasher_c s HL.out v l n _ (HV.out.up gu) HN.out) (fun e w' ⟨⟨g, he, _, bg⟩, hb⟩ => ⟨_, he, hb, g, rfl, RdB.of_blk bg (Nat.le_trans HN.out (by decide)) l.length⟩)
      | 3, _ =>
        obtain rfl := Option.some.inj ho
        have d0 := dep ⟨0, .data⟩ (by simp) rfl
        have d1 := dep ⟨2, .data⟩ (by simp) rfl
        obtain ⟨g, d1, r1⟩ := d1
        exact st_call2 rfl (fun _ _ => by kernel_rfl) d0 d1 (eqHasher_same s HL.out _ _ l n _ gr r1) (fun e w' ⟨he, hb⟩ => ⟨_, he, hb, rfl⟩)
      | 4, _ =>
        obtain rfl := Option.some.inj ho
        exact st_not rfl (dep ⟨3, .data⟩ (by simp) rfl) rfl
    · rintro vs wv ⟨g5, g1, gr, gu⟩ hf
      have f0 : vs 0 = .agg (hasC s (.slice (some ⟨h, 0, none⟩) l.length l.length) n) := hf 0 (by omega)
      have f1 : vs 1 = .agg (hasC s v n) := hf 1 (by omega)
      have f2 := hf 2 (by omega)
      have f3 : vs 3 = .bool true := hf 3 (by omega)
      have f4 : vs 4 = .bool (!true) := hf 4 (by omega)
      simp only [putAll, Act.put, List.getElem?_toArray, List.getElem?_cons_zero, List.getElem?_cons_succ, Option.bind_some, List.setIfInBounds_toArray, List.set_cons_zero, List.set_cons_succ, f4]
      go_wp2_with fail
      go_ret
      exact ⟨rfl, gu⟩

end Go.Proofs.Ytmganlabhkogcaa

/- The law FeedHasher. -/
import Derived.Test.YtgofolmekgjkjaaHFe
namespace Go.Proofs.Ytgofolmekgjkjaa
open Go.RowKit
set_option linter.unusedVariables false
set_option linter.unusedSimpArgs false

section
variable {P : Program} {ops : Array Oper} {rest : List Oper} {o : Oper} {a : Act} {w0 w : World} {Q : Exit → Act → World → Prop} {L : List It}
/-- A whole block where a guard lets the load by. -/
theorem m_loadRw (M : Mem w0 w L) (hgd : Region.wanted o (yielded ops a.tmps) = true) {ty : TypeId} {x : Operand} (ho : o.op = .load ty x) {g : Nat} (hx : a.eval x = .pointer (some ⟨g, 0, none⟩)) {n : Nat} [hT : RowT P ty n]
    {p : Nat} {t : TypeId} {cs : Array Value} [hL : AtG L g p t cs] (hn : cs.size = n)
    (h : wpList P ops Q rest (a.put o.dst (.agg cs)) w) : wpList P ops Q (o :: rest) a w := by
  obtain ⟨d, h1, h2, h3⟩ := hT.out
  refine wpList_wantF hgd (wp_load_mid ty x ho g 0 hx cs.toList d (Blk.rng (M.blkG g) 0 cs.toList (fun j v hj => by simpa using hj)) h1 h2 (by rw [h3, Array.length_toList, hn]) ?_)
  rw [Array.toArray_toList]
  exact h
end

theorem markByteS_m (b : Option Addr) (cap n m B : Nat) (xs : List Value) (w : World) (hm : m ≤ 100000000) (hn : n ≤ 1000000000000) (h : w.ownsRow B 5 1 (.slice b n cap) n xs) :
    Writes Try.prog 33 #[.slice b n cap, .int .i64 (1 + (m : Int))] w B 5 1 b cap n (bL (markB (1 + m) n)) (.int .i64 (1 + (m : Int) + (n : Int))) := by
  have := markByteS_c b cap n (1 + m) B xs w (by omega) hn h
  rw [Int.natCast_add, Int.natCast_add] at this
  exact this
set_option maxHeartbeats 1000000 in
set_option maxRecDepth 100000 in
theorem markHasher_1 (s : List UInt32) (hs : s.length = 8) (n : Int) (b : Option Addr) (cap m B : Nat) (xs : List Value) (w : World) (hm : m ≤ 1000000000000) (h : w.ownsRow B 5 1 (.slice b m cap) m xs) :
    Writes Try.prog 32 #[.agg (hasC s (.slice b m cap) n), .int .i64 1] w B 5 1 b cap m (bL (markB 1 m)) (.int .i64 (1 + (m : Int))) := by
  have c8 := (Blk.top rfl : Blk (w.alloc (.cells (hasC s (.slice b m cap) n) 43)) w.heap.size 43 (hasC s (.slice b m cap) n)).cell_ (hasC_8 s (.slice b m cap) n hs)
  have H := Lib.hid (own_kept h (Chg.of_up ((Up.refl w).alloc (.cells (hasC s (.slice b m cap) n) 43)) (fun _ => False)) (fun _ _ h => h))
  clear h
  unfold Writes
  go_enter Try.func32, Try.ntmps32
  go_wp2_with fail
  refine Calls.mono (markByteS_1 b cap m B xs _ hm H.out) ?_
  rintro e w' ⟨rfl, ho, hg⟩
  have HH := Lib.hid (And.intro ho hg)
  clear ho hg c8
  go_wp2_with fail
  go_ret
  exact ⟨rfl, HH.out.1, grown_trans (grown_of_up ((Up.refl w).alloc _) _) HH.out.2⟩

set_option maxHeartbeats 1000000 in
set_option maxRecDepth 100000 in
theorem heldHasher_1 (s : List UInt32) (hs : s.length = 8) (n : Int) (v : Value) (m : Nat) (w : World) (hm : m ≤ 1000000000) (h : Rd w 1 v m (bL (markB 1 m))) :
    Ret Try.prog 34 #[.agg (hasC s v n), .int .i64 1] w fun r _ => r = .int .i64 (1 + (m : Int)) := by
  obtain ⟨b, cap, rfl⟩ := h.shape
  have HV := Lib.hid h
  have HL := Lib.hid hs
  refine ret_start fun wx M => ?_
  clear h hs
  go_enter Try.func34, Try.ntmps34
  go_wp2_with (first
    | (go_at_call 70; (with_reducible refine mem_call M (heldByteS_1 _ m _ (by omega) (HV.out.up M.up)) ?_); clear M; (try clear wx); rintro _ wx rfl _ M)
    | (with_reducible (show wpList _ _ _ (Oper.mk (some 2) (.box _ _) _ _ _ _ :: _) _ _); (first | (refine m_boxA M rfl rfl rfl ?_) | (refine m_box1 (v := Value.int _ _) M rfl rfl rfl rfl ?_) | (refine m_box1 (v := Value.slice _ _ _) M rfl rfl rfl rfl ?_) | (refine m_box1 (v := Value.bool _) M rfl rfl rfl rfl ?_) | (refine m_box1 (v := Value.string _) M rfl rfl rfl rfl ?_) | (refine m_box1 (v := Value.pointer _) M rfl rfl rfl rfl ?_)); clear M; (try clear wx); intro g2 wx M)
    | (with_reducible (show wpList _ _ _ (Oper.mk _ (.load _ _) _ _ _ _ :: _) _ _); (first | (refine m_load M rfl rfl rfl (hasC_8 _ _ _ HL.out) ?_) | (refine m_load M rfl rfl rfl (by first | assumption | rfl) ?_) | (refine m_loadR M rfl rfl rfl (by first | rfl | assumption | (simp; done) | (simp; omega)) ?_))))
  go_ret
  exact ⟨_, rfl, rfl, M.up⟩

set_option maxHeartbeats 8000000 in
set_option maxRecDepth 100000 in
theorem lawFeedHasher_c (s : List UInt32) (hs : s.length = 8) (v : Value) (l : List UInt8) (n : Int) (vd : Value) (d : List UInt8) (w : World) (hv : RdB w v l) (hvd : RdB w vd d) : Calls Try.prog 7 #[.agg (hasC s v n), vd] w fun e w' => e = .returned (.bool true) ∧ Up w w' := by
  obtain ⟨b, cap, rfl, hmax, -⟩ := id hv
  obtain ⟨bd, capd, rfl, hmaxd, -⟩ := id hvd
  obtain ⟨m, hm⟩ : ∃ m, l.length = m := ⟨_, rfl⟩
  obtain ⟨k, hk⟩ : ∃ k, d.length = k := ⟨_, rfl⟩
  rw [hm] at hv hmax
  rw [hk] at hvd hmaxd
  have HV := Lib.hid hv
  have HVD := Lib.hid hvd
  have HL := Lib.hid hs
  have HM := Lib.hid (And.intro hm hk)
  have HSZ := Lib.hid (fun (s : List UInt32) (hs : s.length = 8) (v : Value) (n : Int) => hasC_size s v n hs)
  have HZ := Lib.hid (szHasher_r s hs b m cap n hmax)
  have hmm : maxLen ≤ 9223372036854775807 := by decide
  have hkl' : k ≤ 9223372036854775807 := by omega
  rw [hm, hk]
  have M := Mem.start w
  clear hv hvd hs hm hk hmax hmaxd hmm
  by_cases hkb : 1048576 < k
  · clear HZ
    go_enter Try.func7, Try.ntmps7
    go_wp2_with (first
      | (with_reducible (show wpList _ _ _ (Oper.mk (some 2) (.box _ _) _ _ _ _ :: _) _ _); (first | (refine m_boxA M rfl rfl rfl ?_) | (refine m_box1 (v := Value.int _ _) M rfl rfl rfl rfl ?_) | (refine m_box1 (v := Value.slice _ _ _) M rfl rfl rfl rfl ?_) | (refine m_box1 (v := Value.bool _) M rfl rfl rfl rfl ?_) | (refine m_box1 (v := Value.string _) M rfl rfl rfl rfl ?_) | (refine m_box1 (v := Value.pointer _) M rfl rfl rfl rfl ?_)); clear M; (try clear wx); intro g2 wx M)
      | (with_reducible (show wpList _ _ _ (Oper.mk (some 6) (.alloc _) _ _ _ _ :: _) _ _); refine mem_new M rfl rfl ?_; clear M; (try clear wx); intro g6 wx M)
      | (with_reducible (show wpList _ _ _ (Oper.mk (some 8) (.alloc _) _ _ _ _ :: _) _ _); refine mem_new M rfl rfl ?_; clear M; (try clear wx); intro g8 wx M)
      | (with_reducible (show wpList _ _ _ (Oper.mk (some 10) (.alloc _) _ _ _ _ :: _) _ _); refine mem_new M rfl rfl ?_; clear M; (try clear wx); intro g10 wx M)
      | (with_reducible (show wpList _ _ _ (Oper.mk (some 15) (.alloc _) _ _ _ _ :: _) _ _); refine mem_new M rfl rfl ?_; clear M; (try clear wx); intro g15 wx M)
      | (with_reducible (show wpList _ _ _ (Oper.mk _ (.load _ _) _ _ _ _ :: _) _ _); (first | (refine m_load M rfl rfl rfl (by first | assumption | rfl) ?_) | (refine m_loadR M rfl rfl rfl (by first | exact HSZ.out _ HL.out _ _ | exact hasC_size _ _ _ rfl | rfl | assumption | (simp; done) | (simp; omega)) ?_)))
      | (with_reducible (show wpList _ _ _ (Oper.mk _ (.store _ _ _) _ _ _ _ :: _) _ _); (first | (refine m_storeR M rfl rfl rfl rfl (by first | exact HSZ.out _ HL.out _ _ | exact hasC_size _ _ _ rfl | rfl | assumption | (simp; done) | (simp; omega)) (by first | exact HSZ.out _ HL.out _ _ | exact hasC_size _ _ _ rfl | rfl | assumption | (simp; done) | (simp; omega)) (by first | exact hasC_one _ _ _ rfl | exact bA_one _ | exact wA_one _ | assumption) ?_) | (refine m_store (v := Value.int _ _) M rfl rfl rfl rfl rfl (by first | assumption | (simp; done) | (simp; omega)) ?_) | (refine m_store (v := Value.slice _ _ _) M rfl rfl rfl rfl rfl (by first | assumption | (simp; done) | (simp; omega)) ?_) | (refine m_store (v := Value.bool _) M rfl rfl rfl rfl rfl (by first | assumption | (simp; done) | (simp; omega)) ?_) | (refine m_store (v := Value.string _) M rfl rfl rfl rfl rfl (by first | assumption | (simp; done) | (simp; omega)) ?_) | (refine m_store (v := Value.pointer _) M rfl rfl rfl rfl rfl (by first | assumption | (simp; done) | (simp; omega)) ?_)); clear M; (try clear wx); intro wx M; simp only [List.set_cons_zero, List.set_cons_succ, Nat.zero_add, List.nil_append] at M))
    go_ret
    exact ⟨rfl, M.up⟩
  by_cases hbig : (1048576 : Int) - m < 0
  · rw [if_pos hbig] at HZ
    go_enter Try.func7, Try.ntmps7
    go_wp2_with (first
      | (go_at_call 27; (with_reducible refine mem_call M (HZ.out _) ?_); clear M; (try clear wx); rintro _ wx rfl _ M)
      | (with_reducible (show wpList _ _ _ (Oper.mk (some 2) (.box _ _) _ _ _ _ :: _) _ _); (first | (refine m_boxA M rfl rfl rfl ?_) | (refine m_box1 (v := Value.int _ _) M rfl rfl rfl rfl ?_) | (refine m_box1 (v := Value.slice _ _ _) M rfl rfl rfl rfl ?_) | (refine m_box1 (v := Value.bool _) M rfl rfl rfl rfl ?_) | (refine m_box1 (v := Value.string _) M rfl rfl rfl rfl ?_) | (refine m_box1 (v := Value.pointer _) M rfl rfl rfl rfl ?_)); clear M; (try clear wx); intro g2 wx M)
      | (with_reducible (show wpList _ _ _ (Oper.mk (some 6) (.alloc _) _ _ _ _ :: _) _ _); refine mem_new M rfl rfl ?_; clear M; (try clear wx); intro g6 wx M)
      | (with_reducible (show wpList _ _ _ (Oper.mk (some 8) (.alloc _) _ _ _ _ :: _) _ _); refine mem_new M rfl rfl ?_; clear M; (try clear wx); intro g8 wx M)
      | (with_reducible (show wpList _ _ _ (Oper.mk (some 10) (.alloc _) _ _ _ _ :: _) _ _); refine mem_new M rfl rfl ?_; clear M; (try clear wx); intro g10 wx M)
      | (with_reducible (show wpList _ _ _ (Oper.mk (some 15) (.alloc _) _ _ _ _ :: _) _ _); refine mem_new M rfl rfl ?_; clear M; (try clear wx); intro g15 wx M)
      | (with_reducible (show wpList _ _ _ (Oper.mk _ (.load _ _) _ _ _ _ :: _) _ _); (first | (refine m_load M rfl rfl rfl (by first | assumption | rfl) ?_) | (refine m_loadR M rfl rfl rfl (by first | exact HSZ.out _ HL.out _ _ | exact hasC_size _ _ _ rfl | rfl | assumption | (simp; done) | (simp; omega)) ?_)))
      | (with_reducible (show wpList _ _ _ (Oper.mk _ (.store _ _ _) _ _ _ _ :: _) _ _); (first | (refine m_storeR M rfl rfl rfl rfl (by first | exact HSZ.out _ HL.out _ _ | exact hasC_size _ _ _ rfl | rfl | assumption | (simp; done) | (simp; omega)) (by first | exact HSZ.out _ HL.out _ _ | exact hasC_size _ _ _ rfl | rfl | assumption | (simp; done) | (simp; omega)) (by first | exact hasC_one _ _ _ rfl | exact bA_one _ | exact wA_one _ | assumption) ?_) | (refine m_store (v := Value.int _ _) M rfl rfl rfl rfl rfl (by first | assumption | (simp; done) | (simp; omega)) ?_) | (refine m_store (v := Value.slice _ _ _) M rfl rfl rfl rfl rfl (by first | assumption | (simp; done) | (simp; omega)) ?_) | (refine m_store (v := Value.bool _) M rfl rfl rfl rfl rfl (by first | assumption | (simp; done) | (simp; omega)) ?_) | (refine m_store (v := Value.string _) M rfl rfl rfl rfl rfl (by first | assumption | (simp; done) | (simp; omega)) ?_) | (refine m_store (v := Value.pointer _) M rfl rfl rfl rfl rfl (by first | assumption | (simp; done) | (simp; omega)) ?_)); clear M; (try clear wx); intro wx M; simp only [List.set_cons_zero, List.set_cons_succ, Nat.zero_add, List.nil_append] at M))
    go_ret
    exact ⟨rfl, M.up⟩
  rw [if_neg hbig] at HZ
  have hl : m ≤ 1048576 := by omega
  have hkl : k ≤ 1048576 := by omega
  have HT : Hid (∀ w, RdB w (.slice b m cap) l → Ret Try.prog 29 #[.agg (hasC s (.slice b m cap) n)] w fun r w' => HasR w w' 5 r s m n (bL l)) := Lib.hid (fun w h => toHasher_r s HL.out _ l m HM.out.1 n w h hl)
  have HTB : Hid (∀ w, RdB w (.slice bd k capd) d → Ret Try.prog 22 #[.slice bd k capd] w fun r w' => OwnR w w' 5 1 r k (bL d)) := Lib.hid (fun w h => by have := toByteS_r _ d w h (by rw [HM.out.2]; exact hkl); rwa [HM.out.2] at this)
  have HE0 : Hid (∀ va vb w, Rd w 1 va m (bL l) → Rd w 1 vb m (bL l) → Ret Try.prog 31 #[.agg (hasC s va n), .agg (hasC s vb n)] w fun r _ => r = .bool true) := Lib.hid (fun va vb w h h' => eqHasher_r s HL.out va vb l n w (h.rdb' HM.out.1) (h'.rdb' HM.out.1))
  have HEB : Hid (∀ va vb w, Rd w 1 va k (bL d) → Rd w 1 vb k (bL d) → Ret Try.prog 24 #[va, vb] w fun r _ => r = .bool true) := Lib.hid (fun va vb w h h' => eqByteS_r va vb d w (h.rdb' HM.out.2) (h'.rdb' HM.out.2))
  have HS := Lib.hid (fun v vd w h h' => specFeedHasher_c s HL.out v l m HM.out.1 n vd d k HM.out.2 w h h' hl hkl)
  have HI := Lib.hid (fun v vd w h h' => implFeedHasher_c s HL.out v l m HM.out.1 n vd d k HM.out.2 w h h' hl hkl)
  have hFs := fdT_s s HL.out l n d
  have hFl := fdT_l s l n d
  generalize fdT s l n d = F at *
  obtain ⟨S, N, L2, C⟩ := F
  replace HS : Hid (∀ v vd w, Rd w 1 v m (bL l) → Rd w 1 vd k (bL d) → Ret Try.prog 28 #[.agg (hasC s v n), vd] w fun r w' => HasR2 w w' 5 r S L2.length N (bL L2) (.int .i64 C)) := HS
  replace HI : Hid (∀ v vd w, Rd w 1 v m (bL l) → Rd w 1 vd k (bL d) → Ret Try.prog 30 #[.agg (hasC s v n), vd] w fun r w' => HasR2 w w' 5 r S L2.length N (bL L2) (.int .i64 C)) := HI
  replace hFs : S.length = 8 := hFs
  replace hFl : L2.length < 32 := hFl
  obtain ⟨p, hp⟩ : ∃ p, L2.length = p := ⟨_, rfl⟩
  rw [hp] at HS HI hFl
  have HP := Lib.hid (And.intro hFs hp)
  have HE : Hid (∀ va vb w, Rd w 1 va p (bL L2) → Rd w 1 vb p (bL L2) → Ret Try.prog 31 #[.agg (hasC S va N), .agg (hasC S vb N)] w fun r _ => r = .bool true) := Lib.hid (fun va vb w h h' => eqHasher_r S HP.out.1 va vb L2 N w (h.rdb' HP.out.2) (h'.rdb' HP.out.2))
  have HN2 := Lib.hid (fun v n => hasC_size S v n HP.out.1)
  clear hFs hp
  go_enter Try.func7, Try.ntmps7
  go_wp2_with (first
    | (go_at_call 27; (with_reducible refine mem_call M (HZ.out _) ?_); clear M; (try clear wx); rintro _ wx rfl _ M)
    | (go_at_call 29; (with_reducible refine mem_callH M (HT.out _ (HV.out.up M.up)) ?_); clear M; (try clear wx); intro b6 cap6 wx M)
    | (go_at_call 22; (with_reducible refine mem_callO M (HTB.out _ (HVD.out.up M.up)) ?_); clear M; (try clear wx); intro b7 cap7 wx M)
    | (go_at_call 28; (with_reducible refine mem_callH2 M (HS.out _ _ _ M.rdB M.rdB) ?_); clear M; (try clear wx); intro bw capw wx M)
    | (go_at_call 30; (with_reducible refine mem_callH2 M (HI.out _ _ _ M.rdB M.rdB) ?_); clear M; (try clear wx); intro bg capg wx M)
    | (go_at_call 31; (with_reducible refine mem_call M (HE.out _ _ _ M.rdB M.rdB) ?_); clear M; (try clear wx); rintro _ wx rfl _ M)
    | (with_reducible (show wpList _ _ _ (Oper.mk (some 2) (.box _ _) _ _ _ _ :: _) _ _); (first | (refine m_boxA M rfl rfl rfl ?_) | (refine m_box1 (v := Value.int _ _) M rfl rfl rfl rfl ?_) | (refine m_box1 (v := Value.slice _ _ _) M rfl rfl rfl rfl ?_) | (refine m_box1 (v := Value.bool _) M rfl rfl rfl rfl ?_) | (refine m_box1 (v := Value.string _) M rfl rfl rfl rfl ?_) | (refine m_box1 (v := Value.pointer _) M rfl rfl rfl rfl ?_)); clear M; (try clear wx); intro g2 wx M)
    | (with_reducible (show wpList _ _ _ (Oper.mk (some 6) (.alloc _) _ _ _ _ :: _) _ _); refine mem_new M rfl rfl ?_; clear M; (try clear wx); intro g6 wx M)
    | (with_reducible (show wpList _ _ _ (Oper.mk (some 8) (.alloc _) _ _ _ _ :: _) _ _); refine mem_new M rfl rfl ?_; clear M; (try clear wx); intro g8 wx M)
    | (with_reducible (show wpList _ _ _ (Oper.mk (some 10) (.alloc _) _ _ _ _ :: _) _ _); refine mem_new M rfl rfl ?_; clear M; (try clear wx); intro g10 wx M)
    | (with_reducible (show wpList _ _ _ (Oper.mk (some 15) (.alloc _) _ _ _ _ :: _) _ _); refine mem_new M rfl rfl ?_; clear M; (try clear wx); intro g15 wx M)
    | (with_reducible (show wpList _ _ _ (Oper.mk _ (.load _ _) _ _ _ _ :: _) _ _); (first | (refine m_load M rfl rfl rfl (by first | assumption | rfl) ?_) | (refine m_loadR M rfl rfl rfl (by first | exact HSZ.out _ HL.out _ _ | exact HN2.out _ _ | exact hasC_size _ _ _ rfl | rfl | assumption | (simp; done)) ?_)))
    | (with_reducible (show wpList _ _ _ (Oper.mk _ (.store _ _ _) _ _ _ _ :: _) _ _); (first | (refine m_storeR M rfl rfl rfl rfl (by first | exact HSZ.out _ HL.out _ _ | exact HN2.out _ _ | exact hasC_size _ _ _ rfl | rfl | assumption | (simp; done)) (by first | exact HSZ.out _ HL.out _ _ | exact HN2.out _ _ | exact hasC_size _ _ _ rfl | rfl | assumption | (simp; done)) (by first | exact hasC_one _ _ _ rfl | exact bA_one _ | exact wA_one _ | assumption) ?_) | (refine m_store (v := Value.int _ _) M rfl rfl rfl rfl rfl (by first | assumption | (simp; done) | (simp; omega)) ?_) | (refine m_store (v := Value.slice _ _ _) M rfl rfl rfl rfl rfl (by first | assumption | (simp; done) | (simp; omega)) ?_) | (refine m_store (v := Value.bool _) M rfl rfl rfl rfl rfl (by first | assumption | (simp; done) | (simp; omega)) ?_) | (refine m_store (v := Value.string _) M rfl rfl rfl rfl rfl (by first | assumption | (simp; done) | (simp; omega)) ?_) | (refine m_store (v := Value.pointer _) M rfl rfl rfl rfl rfl (by first | assumption | (simp; done) | (simp; omega)) ?_)); clear M; (try clear wx); intro wx M; simp only [List.set_cons_zero, List.set_cons_succ, Nat.zero_add, List.nil_append] at M))
  have M := M.pick [0, 1, 2, 3, 4, 5, 6, 9] (by decide)
  simp only [List.filterMap_cons, List.filterMap_nil, List.getElem?_cons_zero, List.getElem?_cons_succ] at M
  refine region_mono (m := 5) mixedOrders_ (by kernel_rfl) (by kernel_rfl)
    (fun | 0 => fun vq _ => vq = .agg (hasC s (.slice b6 m cap6) n) | 1 => fun vq _ => vq = .agg (hasC s (.slice b m cap) n) | 2 => fun v wx => ∃ b7 c7, v = .agg (hasC s (.slice b7 m c7) n) ∧ Rd wx 1 (.slice b7 m c7) m (bL l) | 3 => fun vq _ => vq = .bool true | 4 => fun vq _ => vq = .bool (!true) | _ => fun _ _ => True)
    (fun wx => Mem w wx [.blk g10 43 (hasC S (.slice bg p capg) N), .own bg capg 5 1 p (bL L2), .own b7 cap7 5 1 k (bL d), .blk g8 43 (hasC s (.slice b6 m cap6) n), .own b6 cap6 5 1 m (bL l), .blk g6 43 (hasC S (.slice bw p capw) N), .own bw capw 5 1 p (bL L2), .blk g2 41 (hasC s (.slice b m cap) n)]) ?_ ?_ ?_ ?_ ?_
  · intro j hj v w1 w2 hb h
    match j, hj with
    | 0, _ => exact h
    | 1, _ => exact h
    | 2, _ => exact (let ⟨b7, c7, e, r⟩ := h; ⟨b7, c7, e, r.up hb⟩)
    | 3, _ => exact h
    | 4, _ => exact h
  · intro w1 w2 hb h
    exact h.grow hb
  · exact M.grow ((Up.refl _).drew)
  · rintro i o hi ho av wv fr gM dep
    match i, hi with
    | 0, _ =>
      obtain rfl := Option.some.inj ho
      exact st_loadG gM rfl (fr.eval rfl) (HSZ.out _ HL.out _ _) rfl
    | 1, _ =>
      obtain rfl := Option.some.inj ho
      exact st_loadG gM rfl (fr.eval rfl) (HSZ.out _ HL.out _ _) rfl
    | 2, _ =>
      obtain rfl := Option.some.inj ho
      exact st_ret1 rfl (fun _ _ => by kernel_rfl) (dep ⟨1, .data⟩ (by simp) rfl) (HT.out _ (HV.out.up gM.up)) (fun r w' h _ => by obtain ⟨b7, c7, e, ho⟩ := h; exact ⟨b7, c7, e, own_rd ho (bL_one _)⟩)
    | 3, _ =>
      obtain rfl := Option.some.inj ho
      obtain ⟨b7, c7, e, r⟩ := dep ⟨2, .data⟩ (by simp) rfl
      exact st_ret2 rfl (fun _ _ => by kernel_rfl) (dep ⟨0, .data⟩ (by simp) rfl) e (HE0.out _ _ _ gM.rdB r) (fun r w' h _ => h)
    | 4, _ =>
      obtain rfl := Option.some.inj ho
      exact st_not rfl (dep ⟨3, .data⟩ (by simp) rfl) rfl
  · rintro vs wv gM hf
    have f0 : vs 0 = .agg (hasC s (.slice b6 m cap6) n) := hf 0 (by omega)
    have f1 : vs 1 = .agg (hasC s (.slice b m cap) n) := hf 1 (by omega)
    have f2 := hf 2 (by omega)
    have f3 : vs 3 = .bool true := hf 3 (by omega)
    have f4 : vs 4 = .bool (!true) := hf 4 (by omega)
    simp only [putAll, Act.put, List.getElem?_toArray, List.getElem?_cons_zero, List.getElem?_cons_succ, Option.bind_some, List.setIfInBounds_toArray, List.set_cons_zero, List.set_cons_succ, List.drop_succ_cons, List.drop_zero, List.drop_nil, f4]
    clear f0 f1 f2 f3 f4 hf
    have M := gM
    clear gM
    have hd2 : decide ((1 : Int) + (m : Int) + (k : Int) < 0) = false := decide_eq_false (by omega)
    go_wp2_with (first
      | (go_at_call 22; (with_reducible refine mem_callO M (HTB.out _ (HVD.out.up M.up)) ?_); clear M; (try clear wx); intro b7 cap7 wx M)
      | (go_at_call 29; (with_reducible refine mem_callH M (HT.out _ (HV.out.up M.up)) ?_); clear M; (try clear wx); intro b6 cap6 wx M)
      | (go_at_call 24; (with_reducible refine mem_call M (HEB.out _ _ _ M.rdB M.rdB) ?_); clear M; (try clear wx); rintro _ wx rfl _ M)
      | (go_at_call 32; (first | (with_reducible refine mem_callW M (fun h => markHasher_1 s HL.out n _ _ _ _ _ _ (by omega) h) ?_) | (with_reducible refine mem_callW M (fun h => markHasher_1 S HP.out.1 N _ _ _ _ _ _ (by omega) h) ?_)); clear M; (try clear wx); intro wx M; simp only [List.set_cons_zero, List.set_cons_succ, Nat.zero_add, List.nil_append] at M)
      | (go_at_call 33; (with_reducible refine mem_callW M (fun h => markByteS_m _ _ _ m _ _ _ (by omega) (by omega) h) ?_); clear M; (try clear wx); intro wx M; simp only [List.set_cons_zero, List.set_cons_succ, Nat.zero_add, List.nil_append] at M)
      | (go_at_call 31; (with_reducible refine mem_call M (HE.out _ _ _ M.rdB M.rdB) ?_); clear M; (try clear wx); rintro _ wx rfl _ M)
      | (go_at_call 34; (with_reducible refine mem_call M (heldHasher_1 S HP.out.1 N _ p _ (by omega) M.rdB) ?_); clear M; (try clear wx); rintro _ wx rfl _ M)
      | (go_at_call 30; (with_reducible refine mem_callH2 M (HI.out _ _ _ M.rdB M.rdB) ?_); clear M; (try clear wx); intro bh caph wx M)
      | (with_reducible (show wpList _ _ _ (Oper.mk (some 2) (.box _ _) _ _ _ _ :: _) _ _); (first | (refine m_boxA M rfl rfl rfl ?_) | (refine m_box1 (v := Value.int _ _) M rfl rfl rfl rfl ?_) | (refine m_box1 (v := Value.slice _ _ _) M rfl rfl rfl rfl ?_) | (refine m_box1 (v := Value.bool _) M rfl rfl rfl rfl ?_) | (refine m_box1 (v := Value.string _) M rfl rfl rfl rfl ?_) | (refine m_box1 (v := Value.pointer _) M rfl rfl rfl rfl ?_)); clear M; (try clear wx); intro g2 wx M)
      | (with_reducible (show wpList _ _ _ (Oper.mk (some 6) (.alloc _) _ _ _ _ :: _) _ _); refine mem_new M rfl rfl ?_; clear M; (try clear wx); intro g6 wx M)
      | (with_reducible (show wpList _ _ _ (Oper.mk (some 8) (.alloc _) _ _ _ _ :: _) _ _); refine mem_new M rfl rfl ?_; clear M; (try clear wx); intro g8 wx M)
      | (with_reducible (show wpList _ _ _ (Oper.mk (some 10) (.alloc _) _ _ _ _ :: _) _ _); refine mem_new M rfl rfl ?_; clear M; (try clear wx); intro g10 wx M)
      | (with_reducible (show wpList _ _ _ (Oper.mk (some 15) (.alloc _) _ _ _ _ :: _) _ _); refine mem_new M rfl rfl ?_; clear M; (try clear wx); intro g15 wx M)
      | (with_reducible (show wpList _ _ _ (Oper.mk _ (.load _ _) _ _ _ _ :: _) _ _); (first | (refine m_loadRw M rfl rfl rfl (HN2.out _ _) ?_) | (refine m_load M rfl rfl rfl (by first | assumption | rfl) ?_) | (refine m_loadR M rfl rfl rfl (by first | exact HSZ.out _ HL.out _ _ | exact HN2.out _ _ | exact hasC_size _ _ _ rfl | rfl | assumption | (simp; done)) ?_)))
      | (with_reducible (show wpList _ _ _ (Oper.mk _ (.store _ _ _) _ _ _ _ :: _) _ _); (first | (refine m_storeR M rfl rfl rfl rfl (by first | exact HSZ.out _ HL.out _ _ | exact HN2.out _ _ | exact hasC_size _ _ _ rfl | rfl | assumption | (simp; done)) (by first | exact HSZ.out _ HL.out _ _ | exact HN2.out _ _ | exact hasC_size _ _ _ rfl | rfl | assumption | (simp; done)) (by first | exact hasC_one _ _ _ rfl | exact bA_one _ | exact wA_one _ | assumption) ?_) | (refine m_store (v := Value.int _ _) M rfl rfl rfl rfl rfl (by first | assumption | (simp; done) | (simp; omega)) ?_) | (refine m_store (v := Value.slice _ _ _) M rfl rfl rfl rfl rfl (by first | assumption | (simp; done) | (simp; omega)) ?_) | (refine m_store (v := Value.bool _) M rfl rfl rfl rfl rfl (by first | assumption | (simp; done) | (simp; omega)) ?_) | (refine m_store (v := Value.string _) M rfl rfl rfl rfl rfl (by first | assumption | (simp; done) | (simp; omega)) ?_) | (refine m_store (v := Value.pointer _) M rfl rfl rfl rfl rfl (by first | assumption | (simp; done) | (simp; omega)) ?_)); clear M; (try clear wx); intro wx M; simp only [List.set_cons_zero, List.set_cons_succ, Nat.zero_add, List.nil_append] at M))
    go_ret
    exact ⟨rfl, M.up⟩

end Go.Proofs.Ytgofolmekgjkjaa

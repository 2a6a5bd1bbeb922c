/- Walks: the library's text builder, and the numerals of the library. -/
import Derived.Test.YtmbhaoiahlbglaaDoorRTc
import Derived.Test.YtmbhaoiahlbglaaDoorShelf
namespace Go.Proofs.YtmbhaoiahlbglaaDoor
open Go.RowKit Go.Shelf Go.Sort
set_option linter.unusedVariables false
set_option linter.unusedSimpArgs false

theorem grow_up (w : World) (k : Nat) (os : Array Obj) : Up w (grow (w.drewN k) os) :=
  ⟨rfl, rfl, rfl, by simp [grow, World.drewN], fun j hj => by simp [grow, World.drewN, Array.getElem?_append, hj]⟩
def bren : Go.Shelf.Ren := ⟨fun | 166 => 42 | 240 => 58 | 276 => 70 | n => n, fun | 0 => 0 | 3 => 3 | 4 => 4 | 9 => 9 | 20 => 20 | 37 => 72 | 70 => 71 | 72 => 74 | 75 => 51 | 80 => 78 | 164 => 102 | 5 => 5 | n => n, fun | n => n⟩
set_option maxRecDepth 100000 in
theorem lays166 : Go.Proofs.Lays.n166 Tryd.prog bren := {
  mixed := by kernel_rfl
  f166 := Tryd.func42.trans (congrArg some (by kernel_rfl))
  f240 := Tryd.func58.trans (congrArg some (by kernel_rfl))
  f276 := Tryd.func70.trans (congrArg some (by kernel_rfl))
  t0 := Tryd.underlying0
  a0 := Tryd.isAgg0
  z0 := Tryd.sizeOf0
  v0 := Tryd.zeroValue0
  t3 := Tryd.underlying3
  a3 := Tryd.isAgg3
  z3 := Tryd.sizeOf3
  v3 := Tryd.zeroValue3
  t4 := Tryd.underlying4
  a4 := Tryd.isAgg4
  z4 := Tryd.sizeOf4
  v4 := Tryd.zeroValue4
  t9 := Tryd.underlying9
  a9 := Tryd.isAgg9
  z9 := Tryd.sizeOf9
  v9 := Tryd.zeroValue9
  t20 := Tryd.underlying20
  a20 := Tryd.isAgg20
  z20 := Tryd.sizeOf20
  v20 := Tryd.zeroValue20
  t37 := Tryd.underlying72
  a37 := Tryd.isAgg72
  z37 := Tryd.sizeOf72
  v37 := Tryd.zeroValue72
  t70 := Tryd.underlying71
  a70 := Tryd.isAgg71
  z70 := Tryd.sizeOf71
  v70 := Tryd.zeroValue71
  t72 := Tryd.underlying74
  a72 := Tryd.isAgg74
  z72 := Tryd.sizeOf74
  v72 := Tryd.zeroValue74
  t75 := Tryd.underlying51
  a75 := Tryd.isAgg51
  z75 := Tryd.sizeOf51
  v75 := Tryd.zeroValue51
  t164 := Tryd.underlying102
  a164 := Tryd.isAgg102
  z164 := Tryd.sizeOf102
  v164 := Tryd.zeroValue102 }
set_option maxRecDepth 100000 in
theorem bextra : Builder.Extra Tryd.prog bren := {
  sizeBuilder := by kernel_rfl
  liesBuilder := by kernel_rfl
  t5 := Tryd.underlying5
  a5 := Tryd.isAgg5
  z5 := Tryd.sizeOf5
  v5 := Tryd.zeroValue5
  infoByte := by kernel_rfl
  cellsByte := by kernel_rfl
  sizeByte := by kernel_rfl
  neB5 := by decide }
theorem writeString_c (B b : Nat) (bs : List Value) (s : ByteArray) (w : World) (h : Lib.IsBuilder 74 5 B b bs w) (hlen : bs.length + s.size ≤ 140737488355328) (hBw : B ≤ w.heap.size) :
    Calls Tryd.prog 42 #[.pointer (some ⟨b, 0, none⟩), .string s] w fun e w' => e = .returned (.tuple #[.int .i64 s.size, .nilIface]) ∧ Lib.IsBuilder 74 5 B b (bs ++ Lib.strCells s) w' ∧ Below B w w' :=
  (Any.Builder_WriteString lays166 bextra B b bs s w h hlen hBw).mono fun e w' ⟨h1, h2, h3⟩ => ⟨h1, .inr h2, h3⟩
theorem builder_up {T e : TypeId} {B b : Nat} {bs : List Value} {w w' : World} (h : Lib.IsBuilder T e B b bs w) (hb : Up w w') : Lib.IsBuilder T e B b bs w' := by
  have key : ∀ p, Lib.BuilderAt T e B b p bs w → Lib.BuilderAt T e B b p bs w' := fun p ⟨h1, v, h2, h3, h4⟩ => ⟨h1, v, by
    have hk := (Chg.of_up hb (fun _ => False)).block b (Array.getElem?_eq_some_iff.1 h2).1 (fun h => h)
    rw [hk]; exact h2, own_kept h3 (Chg.of_up hb (fun _ => False)) (fun _ _ h => h), h4⟩
  exact h.elim (fun h => .inl (key _ h)) (fun h => .inr (key _ h))
theorem strCells_tx (l : List UInt8) : Lib.strCells (tx l) = Lib.byteCells l := by
  simp [Lib.strCells, Lib.byteCells, tx]

/-- The library's table of powers of ten lies as the text lays it, now and later. -/
def TabHas (w : World) : Prop := ∀ w', Up w w' → Lib.TabIs Tryd.prog w' "internal/strconv.uint64pow10" .u64 Lib.pow10Tab
set_option maxHeartbeats 1000000 in
set_option maxRecDepth 100000 in
theorem formatInt_c (n : Nat) (hn : n ≤ 100000) (w0 w : World) (ht : TabHas w0) (hb : Up w0 w) : Ret Tryd.prog 44 #[.int .i64 (n : Int), .int .i64 10] w fun r _ => r = .string (tx (Lib.decDigits n)) := by
  have HT := Lib.hid ht
  have HB := Lib.hid hb
  have HF : Hid (∀ w, Up w0 w → Ret Tryd.prog 59 #[.int .i64 (n : Int), .int .i64 10] w fun r _ => r = .string (tx (Lib.decDigits n))) := Lib.hid (fun w h =>
    (Tryd.internal_strconv_FormatInt_10 (n : Int) (by omega) (by omega) w (HT.out _ h)).mono fun e w' ⟨h1, k, os, h2⟩ => by
      refine ⟨_, h1, ?_, ?_⟩
      · rw [show Lib.itoa (n : Int) = Lib.decDigits n by rw [Lib.itoa, if_neg (by omega), Int.toNat_natCast]]
        rfl
      · rw [h2]
        exact grow_up _ _ _)
  clear ht hb
  refine ret_start fun wx M => ?_
  go_enter Tryd.func44, Tryd.ntmps44
  go_wp2_with (first
    | (go_at_call 59; (with_reducible refine mem_call M (HF.out _ (HB.out.trans M.up)) ?_); clear M; (try clear wx); rintro _ wx rfl _ M))
  go_ret
  exact ⟨_, rfl, rfl, M.up⟩

end Go.Proofs.YtmbhaoiahlbglaaDoor

/- Facts on the program's types, as instances; keys as lists of thirty-two bytes. No conditions. -/
import Derived.Test.YtcldkllllojgpaaMem
import Derived.Test.YtcldkllllojgpaaK1
import Derived.Test.YtcldkllllojgpaaK2
namespace Go.Proofs.Ytcldkllllojgpaa
open Go.RowKit
set_option linter.unusedVariables false
set_option linter.unusedSimpArgs false

/-- A key: thirty-two bytes. -/
abbrev Ky := {l : List UInt8 // l.length = 32}
@[simp] theorem Ky.len (k : Ky) : k.1.length = 32 := k.2
def zeroKy : Ky := ⟨zero32, rfl⟩
def zero256 : List UInt32 := List.replicate 256 0
@[simp] theorem zero32_len : zero32.length = 32 := rfl
@[simp] theorem zero8_len : zero8.length = 8 := rfl
@[simp] theorem zero256_len : zero256.length = 256 := List.length_replicate
@[simp] theorem fillTo_len {α : Type} (f : Nat → α) (k n : Nat) (z : α) : (fillTo f k n z).length = n := fill_length f k n z
/-- A node of a map: two keys, a name, a value. -/
def nodC (l r : List UInt8) (n v : ByteArray) : Array Value := (bL l ++ bL r ++ [Value.string n, Value.string v]).toArray
/-- A piece of a recipe: a key and a length. -/
def pieC (l : List UInt8) (n : Int) : Array Value := (bL l ++ [Value.int .i64 n]).toArray
/-- A clash: four keys. -/
def claC (a b c d : List UInt8) : Array Value := (bL a ++ bL b ++ bL c ++ bL d).toArray
@[simp] theorem nodC_size (l r : Ky) (n v : ByteArray) : (nodC l.1 r.1 n v).size = 66 := by simp [nodC, bL]
@[simp] theorem pieC_size (l : Ky) (n : Int) : (pieC l.1 n).size = 33 := by simp [pieC, bL]
@[simp] theorem claC_size (a b c d : Ky) : (claC a.1 b.1 c.1 d.1).size = 128 := by simp [claC, bL]

instance : OneT Try.prog 2 := ⟨⟨_, Try.underlying2, rfl, by kernel_rfl⟩⟩
instance : ZeroT Try.prog 2 #[.int .i64 0] := ⟨⟨.int .i64 0, fun w => by kernel_rfl, rfl⟩⟩
instance : OneT Try.prog 3 := ⟨⟨_, Try.underlying3, rfl, by kernel_rfl⟩⟩
instance : ZeroT Try.prog 3 #[.int .i64 0] := ⟨⟨.int .i64 0, fun w => by kernel_rfl, rfl⟩⟩
instance : OneT Try.prog 82 := ⟨⟨_, Try.underlying82, rfl, by kernel_rfl⟩⟩
instance : ZeroT Try.prog 82 #[.int .u64 0] := ⟨⟨.int .u64 0, fun w => by kernel_rfl, rfl⟩⟩
instance : OneT Try.prog 4 := ⟨⟨_, Try.underlying4, rfl, by kernel_rfl⟩⟩
instance : ZeroT Try.prog 4 #[.bool false] := ⟨⟨.bool false, fun w => by kernel_rfl, rfl⟩⟩
instance : OneT Try.prog 5 := ⟨⟨_, Try.underlying5, rfl, by kernel_rfl⟩⟩
instance : ZeroT Try.prog 5 #[.int .u8 0] := ⟨⟨.int .u8 0, fun w => by kernel_rfl, rfl⟩⟩
instance : OneT Try.prog 90 := ⟨⟨_, Try.underlying90, rfl, by kernel_rfl⟩⟩
instance : ZeroT Try.prog 90 #[.int .u32 0] := ⟨⟨.int .u32 0, fun w => by kernel_rfl, rfl⟩⟩
instance : OneT Try.prog 79 := ⟨⟨_, Try.underlying79, rfl, by kernel_rfl⟩⟩
instance : ZeroT Try.prog 79 #[.int .u64 0] := ⟨⟨.int .u64 0, fun w => by kernel_rfl, rfl⟩⟩
instance : OneT Try.prog 9 := ⟨⟨_, Try.underlying9, rfl, by kernel_rfl⟩⟩
instance : ZeroT Try.prog 9 #[.string ByteArray.empty] := ⟨⟨.string ByteArray.empty, fun w => by kernel_rfl, rfl⟩⟩
instance : OneT Try.prog 33 := ⟨⟨_, Try.underlying33, rfl, by kernel_rfl⟩⟩
instance : ZeroT Try.prog 33 #[.slice none 0 0] := ⟨⟨.slice none 0 0, fun w => by kernel_rfl, rfl⟩⟩
instance : SliceT Try.prog 33 5 := ⟨Try.underlying33⟩
instance : RowT Try.prog 34 32 := ⟨⟨_, Try.underlying34, rfl, by kernel_rfl⟩⟩
instance : ZeroT Try.prog 34 (bA zero32) := ⟨⟨.agg (bA zero32), fun w => by kernel_rfl, rfl⟩⟩
instance : ZeroB Try.prog 34 (bA zero32) := ⟨by kernel_rfl⟩
instance : RowT Try.prog 35 32 := ⟨⟨_, Try.underlying35, rfl, by kernel_rfl⟩⟩
instance : ZeroT Try.prog 35 (bA zero32) := ⟨⟨.agg (bA zero32), fun w => by kernel_rfl, rfl⟩⟩
instance : ZeroB Try.prog 35 (bA zero32) := ⟨by kernel_rfl⟩
instance : OneT Try.prog 80 := ⟨⟨_, Try.underlying80, rfl, by kernel_rfl⟩⟩
instance : ZeroT Try.prog 80 #[.slice none 0 0] := ⟨⟨.slice none 0 0, fun w => by kernel_rfl, rfl⟩⟩
instance : SliceT Try.prog 80 33 := ⟨Try.underlying80⟩
instance : RowT Try.prog 37 2 := ⟨⟨_, Try.underlying37, rfl, by kernel_rfl⟩⟩
instance : RowT Try.prog 46 2 := ⟨⟨_, Try.underlying46, rfl, by kernel_rfl⟩⟩
instance : OneT Try.prog 28 := ⟨⟨_, Try.underlying28, rfl, by kernel_rfl⟩⟩
instance : ZeroT Try.prog 28 #[.slice none 0 0] := ⟨⟨.slice none 0 0, fun w => by kernel_rfl, rfl⟩⟩
instance : SliceT Try.prog 28 37 := ⟨Try.underlying28⟩
instance : OneT Try.prog 25 := ⟨⟨_, Try.underlying25, rfl, by kernel_rfl⟩⟩
instance : ZeroT Try.prog 25 #[.slice none 0 0] := ⟨⟨.slice none 0 0, fun w => by kernel_rfl, rfl⟩⟩
instance : SliceT Try.prog 25 46 := ⟨Try.underlying25⟩
instance : RowT Try.prog 39 66 := ⟨⟨_, Try.underlying39, rfl, by kernel_rfl⟩⟩
instance : ZeroT Try.prog 39 (nodC zero32 zero32 ByteArray.empty ByteArray.empty) := ⟨⟨.agg (nodC zero32 zero32 ByteArray.empty ByteArray.empty), fun w => by kernel_rfl, rfl⟩⟩
instance : ZeroB Try.prog 39 (nodC zero32 zero32 ByteArray.empty ByteArray.empty) := ⟨by kernel_rfl⟩
instance : RowT Try.prog 48 66 := ⟨⟨_, Try.underlying48, rfl, by kernel_rfl⟩⟩
instance : OneT Try.prog 59 := ⟨⟨_, Try.underlying59, rfl, by kernel_rfl⟩⟩
instance : ZeroT Try.prog 59 #[.slice none 0 0] := ⟨⟨.slice none 0 0, fun w => by kernel_rfl, rfl⟩⟩
instance : SliceT Try.prog 59 4 := ⟨Try.underlying59⟩
instance : ElT Try.prog 5 1 1 (.int .u8 0) := ⟨by kernel_rfl, by kernel_rfl, by decide⟩
instance : ElT Try.prog 4 1 1 (.bool false) := ⟨by kernel_rfl, by kernel_rfl, by decide⟩
instance : ElT Try.prog 35 32 32 (.agg (bA zero32)) := ⟨by kernel_rfl, by kernel_rfl, by decide⟩
instance : ElT Try.prog 34 32 32 (.agg (bA zero32)) := ⟨by kernel_rfl, by kernel_rfl, by decide⟩
instance : ElT Try.prog 33 1 24 (.slice none 0 0) := ⟨by kernel_rfl, by kernel_rfl, by decide⟩

end Go.Proofs.Ytcldkllllojgpaa

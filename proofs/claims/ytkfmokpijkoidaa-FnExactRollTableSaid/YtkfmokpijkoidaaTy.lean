/- Facts on the program's types, as instances; keys as lists of thirty-two bytes. No conditions. -/
import Derived.Test.YtkfmokpijkoidaaMem
import Derived.Test.YtkfmokpijkoidaaK1
import Derived.Test.YtkfmokpijkoidaaK2
namespace Go.Proofs.Ytkfmokpijkoidaa
open Go.RowKit
set_option linter.unusedVariables false
set_option linter.unusedSimpArgs false

/-- A key: thirty-two bytes. -/
abbrev Ky := {l : List UInt8 // l.length = 32}
@[simp] theorem Ky.len (k : Ky) : k.1.length = 32 := k.2
def zeroKy : Ky := ⟨zero32, rfl⟩
def zero256 : List UInt32 := List.replicate 256 0
@[simp] theorem zero32_len : zero32.length = 32 := rfl
@[simp] theorem zero8_len : zero8.length = 8 := rfl
@[simp] theorem zero256_len : zero256.length = 256 := List.length_replicate
@[simp] theorem fillTo_len {α : Type} (f : Nat → α) (k n : Nat) (z : α) : (fillTo f k n z).length = n := fill_length f k n z
/-- A node of a map: two keys, a name, a value. -/
def nodC (l r : List UInt8) (n v : ByteArray) : Array Value := (bL l ++ bL r ++ [Value.string n, Value.string v]).toArray
/-- A piece of a recipe: a key and a length. -/
def pieC (l : List UInt8) (n : Int) : Array Value := (bL l ++ [Value.int .i64 n]).toArray
/-- A clash: four keys. -/
def claC (a b c d : List UInt8) : Array Value := (bL a ++ bL b ++ bL c ++ bL d).toArray
@[simp] theorem nodC_size (l r : Ky) (n v : ByteArray) : (nodC l.1 r.1 n v).size = 66 := by simp [nodC, bL]
@[simp] theorem pieC_size (l : Ky) (n : Int) : (pieC l.1 n).size = 33 := by simp [pieC, bL]
@[simp] theorem claC_size (a b c d : Ky) : (claC a.1 b.1 c.1 d.1).size = 128 := by simp [claC, bL]

instance : OneT Try.prog 2 := ⟨⟨_, Try.underlying2, rfl, by kernel_rfl⟩⟩
instance : ZeroT Try.prog 2 #[.int .i64 0] := ⟨⟨.int .i64 0, fun w => by kernel_rfl, rfl⟩⟩
instance : OneT Try.prog 3 := ⟨⟨_, Try.underlying3, rfl, by kernel_rfl⟩⟩
instance : ZeroT Try.prog 3 #[.int .i64 0] := ⟨⟨.int .i64 0, fun w => by kernel_rfl, rfl⟩⟩
instance : OneT Try.prog 131 := ⟨⟨_, Try.underlying131, rfl, by kernel_rfl⟩⟩
instance : ZeroT Try.prog 131 #[.int .u64 0] := ⟨⟨.int .u64 0, fun w => by kernel_rfl, rfl⟩⟩
instance : OneT Try.prog 4 := ⟨⟨_, Try.underlying4, rfl, by kernel_rfl⟩⟩
instance : ZeroT Try.prog 4 #[.bool false] := ⟨⟨.bool false, fun w => by kernel_rfl, rfl⟩⟩
instance : OneT Try.prog 5 := ⟨⟨_, Try.underlying5, rfl, by kernel_rfl⟩⟩
instance : ZeroT Try.prog 5 #[.int .u8 0] := ⟨⟨.int .u8 0, fun w => by kernel_rfl, rfl⟩⟩
instance : OneT Try.prog 22 := ⟨⟨_, Try.underlying22, rfl, by kernel_rfl⟩⟩
instance : ZeroT Try.prog 22 #[.int .u32 0] := ⟨⟨.int .u32 0, fun w => by kernel_rfl, rfl⟩⟩
instance : OneT Try.prog 100 := ⟨⟨_, Try.underlying100, rfl, by kernel_rfl⟩⟩
instance : ZeroT Try.prog 100 #[.int .u64 0] := ⟨⟨.int .u64 0, fun w => by kernel_rfl, rfl⟩⟩
instance : OneT Try.prog 9 := ⟨⟨_, Try.underlying9, rfl, by kernel_rfl⟩⟩
instance : ZeroT Try.prog 9 #[.string ByteArray.empty] := ⟨⟨.string ByteArray.empty, fun w => by kernel_rfl, rfl⟩⟩
instance : OneT Try.prog 30 := ⟨⟨_, Try.underlying30, rfl, by kernel_rfl⟩⟩
instance : ZeroT Try.prog 30 #[.slice none 0 0] := ⟨⟨.slice none 0 0, fun w => by kernel_rfl, rfl⟩⟩
instance : SliceT Try.prog 30 5 := ⟨Try.underlying30⟩
instance : RowT Try.prog 24 32 := ⟨⟨_, Try.underlying24, rfl, by kernel_rfl⟩⟩
instance : ZeroT Try.prog 24 (bA zero32) := ⟨⟨.agg (bA zero32), fun w => by kernel_rfl, rfl⟩⟩
instance : ZeroB Try.prog 24 (bA zero32) := ⟨by kernel_rfl⟩
instance : RowT Try.prog 65 32 := ⟨⟨_, Try.underlying65, rfl, by kernel_rfl⟩⟩
instance : ZeroT Try.prog 65 (bA zero32) := ⟨⟨.agg (bA zero32), fun w => by kernel_rfl, rfl⟩⟩
instance : ZeroB Try.prog 65 (bA zero32) := ⟨by kernel_rfl⟩
instance : RowT Try.prog 23 8 := ⟨⟨_, Try.underlying23, rfl, by kernel_rfl⟩⟩
instance : ZeroT Try.prog 23 (wA zero8) := ⟨⟨.agg (wA zero8), fun w => by kernel_rfl, rfl⟩⟩
instance : ZeroB Try.prog 23 (wA zero8) := ⟨by kernel_rfl⟩
instance : RowT Try.prog 45 256 := ⟨⟨_, Try.underlying45, rfl, by kernel_rfl⟩⟩
instance : ZeroT Try.prog 45 (wA zero256) := ⟨⟨.agg (wA zero256), fun w => by kernel_rfl, rfl⟩⟩
instance : ZeroB Try.prog 45 (wA zero256) := ⟨by kernel_rfl⟩
instance : OneT Try.prog 95 := ⟨⟨_, Try.underlying95, rfl, by kernel_rfl⟩⟩
instance : ZeroT Try.prog 95 #[.slice none 0 0] := ⟨⟨.slice none 0 0, fun w => by kernel_rfl, rfl⟩⟩
instance : SliceT Try.prog 95 24 := ⟨Try.underlying95⟩
instance : OneT Try.prog 89 := ⟨⟨_, Try.underlying89, rfl, by kernel_rfl⟩⟩
instance : ZeroT Try.prog 89 #[.slice none 0 0] := ⟨⟨.slice none 0 0, fun w => by kernel_rfl, rfl⟩⟩
instance : SliceT Try.prog 89 30 := ⟨Try.underlying89⟩
instance : RowT Try.prog 67 2 := ⟨⟨_, Try.underlying67, rfl, by kernel_rfl⟩⟩
instance : RowT Try.prog 80 2 := ⟨⟨_, Try.underlying80, rfl, by kernel_rfl⟩⟩
instance : OneT Try.prog 40 := ⟨⟨_, Try.underlying40, rfl, by kernel_rfl⟩⟩
instance : ZeroT Try.prog 40 #[.slice none 0 0] := ⟨⟨.slice none 0 0, fun w => by kernel_rfl, rfl⟩⟩
instance : SliceT Try.prog 40 67 := ⟨Try.underlying40⟩
instance : OneT Try.prog 37 := ⟨⟨_, Try.underlying37, rfl, by kernel_rfl⟩⟩
instance : ZeroT Try.prog 37 #[.slice none 0 0] := ⟨⟨.slice none 0 0, fun w => by kernel_rfl, rfl⟩⟩
instance : SliceT Try.prog 37 80 := ⟨Try.underlying37⟩
instance : RowT Try.prog 69 66 := ⟨⟨_, Try.underlying69, rfl, by kernel_rfl⟩⟩
instance : ZeroT Try.prog 69 (nodC zero32 zero32 ByteArray.empty ByteArray.empty) := ⟨⟨.agg (nodC zero32 zero32 ByteArray.empty ByteArray.empty), fun w => by kernel_rfl, rfl⟩⟩
instance : ZeroB Try.prog 69 (nodC zero32 zero32 ByteArray.empty ByteArray.empty) := ⟨by kernel_rfl⟩
instance : RowT Try.prog 82 66 := ⟨⟨_, Try.underlying82, rfl, by kernel_rfl⟩⟩
instance : RowT Try.prog 76 10 := ⟨⟨_, Try.underlying76, rfl, by kernel_rfl⟩⟩
instance : RowT Try.prog 52 5 := ⟨⟨_, Try.underlying52, rfl, by kernel_rfl⟩⟩
instance : RowT Try.prog 57 5 := ⟨⟨_, Try.underlying57, rfl, by kernel_rfl⟩⟩
instance : RowT Try.prog 55 3 := ⟨⟨_, Try.underlying55, rfl, by kernel_rfl⟩⟩
instance : RowT Try.prog 50 3 := ⟨⟨_, Try.underlying50, rfl, by kernel_rfl⟩⟩
instance : ElT Try.prog 5 1 1 (.int .u8 0) := ⟨by kernel_rfl, by kernel_rfl, by decide⟩
instance : ElT Try.prog 4 1 1 (.bool false) := ⟨by kernel_rfl, by kernel_rfl, by decide⟩
instance : ElT Try.prog 65 32 32 (.agg (bA zero32)) := ⟨by kernel_rfl, by kernel_rfl, by decide⟩
instance : ElT Try.prog 24 32 32 (.agg (bA zero32)) := ⟨by kernel_rfl, by kernel_rfl, by decide⟩
instance : ElT Try.prog 30 1 24 (.slice none 0 0) := ⟨by kernel_rfl, by kernel_rfl, by decide⟩

end Go.Proofs.Ytkfmokpijkoidaa

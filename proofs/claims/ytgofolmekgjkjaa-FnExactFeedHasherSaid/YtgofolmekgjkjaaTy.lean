/- Facts on the program's types, as instances; keys as lists of thirty-two bytes. No conditions. -/
import Derived.Test.YtgofolmekgjkjaaMem
import Derived.Test.YtgofolmekgjkjaaK1
import Derived.Test.YtgofolmekgjkjaaK2
namespace Go.Proofs.Ytgofolmekgjkjaa
open Go.RowKit
set_option linter.unusedVariables false
set_option linter.unusedSimpArgs false

/-- A key: thirty-two bytes. -/
abbrev Ky := {l : List UInt8 // l.length = 32}
@[simp] theorem Ky.len (k : Ky) : k.1.length = 32 := k.2
def zeroKy : Ky := ⟨zero32, rfl⟩
def zero256 : List UInt32 := List.replicate 256 0
@[simp] theorem zero32_len : zero32.length = 32 := rfl
@[simp] theorem zero8_len : zero8.length = 8 := rfl
@[simp] theorem zero256_len : zero256.length = 256 := List.length_replicate
@[simp] theorem fillTo_len {α : Type} (f : Nat → α) (k n : Nat) (z : α) : (fillTo f k n z).length = n := fill_length f k n z
/-- A node of a map: two keys, a name, a value. -/
def nodC (l r : List UInt8) (n v : ByteArray) : Array Value := (bL l ++ bL r ++ [Value.string n, Value.string v]).toArray
/-- A piece of a recipe: a key and a length. -/
def pieC (l : List UInt8) (n : Int) : Array Value := (bL l ++ [Value.int .i64 n]).toArray
/-- A clash: four keys. -/
def claC (a b c d : List UInt8) : Array Value := (bL a ++ bL b ++ bL c ++ bL d).toArray
@[simp] theorem nodC_size (l r : Ky) (n v : ByteArray) : (nodC l.1 r.1 n v).size = 66 := by simp [nodC, bL]
@[simp] theorem pieC_size (l : Ky) (n : Int) : (pieC l.1 n).size = 33 := by simp [pieC, bL]
@[simp] theorem claC_size (a b c d : Ky) : (claC a.1 b.1 c.1 d.1).size = 128 := by simp [claC, bL]

instance : OneT Try.prog 2 := ⟨⟨_, Try.underlying2, rfl, by kernel_rfl⟩⟩
instance : ZeroT Try.prog 2 #[.int .i64 0] := ⟨⟨.int .i64 0, fun w => by kernel_rfl, rfl⟩⟩
instance : OneT Try.prog 3 := ⟨⟨_, Try.underlying3, rfl, by kernel_rfl⟩⟩
instance : ZeroT Try.prog 3 #[.int .i64 0] := ⟨⟨.int .i64 0, fun w => by kernel_rfl, rfl⟩⟩
instance : OneT Try.prog 102 := ⟨⟨_, Try.underlying102, rfl, by kernel_rfl⟩⟩
instance : ZeroT Try.prog 102 #[.int .u64 0] := ⟨⟨.int .u64 0, fun w => by kernel_rfl, rfl⟩⟩
instance : OneT Try.prog 4 := ⟨⟨_, Try.underlying4, rfl, by kernel_rfl⟩⟩
instance : ZeroT Try.prog 4 #[.bool false] := ⟨⟨.bool false, fun w => by kernel_rfl, rfl⟩⟩
instance : OneT Try.prog 5 := ⟨⟨_, Try.underlying5, rfl, by kernel_rfl⟩⟩
instance : ZeroT Try.prog 5 #[.int .u8 0] := ⟨⟨.int .u8 0, fun w => by kernel_rfl, rfl⟩⟩
instance : OneT Try.prog 38 := ⟨⟨_, Try.underlying38, rfl, by kernel_rfl⟩⟩
instance : ZeroT Try.prog 38 #[.int .u32 0] := ⟨⟨.int .u32 0, fun w => by kernel_rfl, rfl⟩⟩
instance : OneT Try.prog 109 := ⟨⟨_, Try.underlying109, rfl, by kernel_rfl⟩⟩
instance : ZeroT Try.prog 109 #[.int .u64 0] := ⟨⟨.int .u64 0, fun w => by kernel_rfl, rfl⟩⟩
instance : OneT Try.prog 9 := ⟨⟨_, Try.underlying9, rfl, by kernel_rfl⟩⟩
instance : ZeroT Try.prog 9 #[.string ByteArray.empty] := ⟨⟨.string ByteArray.empty, fun w => by kernel_rfl, rfl⟩⟩
instance : OneT Try.prog 30 := ⟨⟨_, Try.underlying30, rfl, by kernel_rfl⟩⟩
instance : ZeroT Try.prog 30 #[.slice none 0 0] := ⟨⟨.slice none 0 0, fun w => by kernel_rfl, rfl⟩⟩
instance : SliceT Try.prog 30 5 := ⟨Try.underlying30⟩
instance : RowT Try.prog 22 32 := ⟨⟨_, Try.underlying22, rfl, by kernel_rfl⟩⟩
instance : ZeroT Try.prog 22 (bA zero32) := ⟨⟨.agg (bA zero32), fun w => by kernel_rfl, rfl⟩⟩
instance : ZeroB Try.prog 22 (bA zero32) := ⟨by kernel_rfl⟩
instance : RowT Try.prog 23 32 := ⟨⟨_, Try.underlying23, rfl, by kernel_rfl⟩⟩
instance : ZeroT Try.prog 23 (bA zero32) := ⟨⟨.agg (bA zero32), fun w => by kernel_rfl, rfl⟩⟩
instance : ZeroB Try.prog 23 (bA zero32) := ⟨by kernel_rfl⟩
instance : RowT Try.prog 39 8 := ⟨⟨_, Try.underlying39, rfl, by kernel_rfl⟩⟩
instance : ZeroT Try.prog 39 (wA zero8) := ⟨⟨.agg (wA zero8), fun w => by kernel_rfl, rfl⟩⟩
instance : ZeroB Try.prog 39 (wA zero8) := ⟨by kernel_rfl⟩
instance : OneT Try.prog 56 := ⟨⟨_, Try.underlying56, rfl, by kernel_rfl⟩⟩
instance : ZeroT Try.prog 56 #[.slice none 0 0] := ⟨⟨.slice none 0 0, fun w => by kernel_rfl, rfl⟩⟩
instance : SliceT Try.prog 56 23 := ⟨Try.underlying56⟩
instance : OneT Try.prog 53 := ⟨⟨_, Try.underlying53, rfl, by kernel_rfl⟩⟩
instance : ZeroT Try.prog 53 #[.slice none 0 0] := ⟨⟨.slice none 0 0, fun w => by kernel_rfl, rfl⟩⟩
instance : SliceT Try.prog 53 22 := ⟨Try.underlying53⟩
instance : OneT Try.prog 104 := ⟨⟨_, Try.underlying104, rfl, by kernel_rfl⟩⟩
instance : ZeroT Try.prog 104 #[.slice none 0 0] := ⟨⟨.slice none 0 0, fun w => by kernel_rfl, rfl⟩⟩
instance : SliceT Try.prog 104 30 := ⟨Try.underlying104⟩
instance : OneT Try.prog 93 := ⟨⟨_, Try.underlying93, rfl, by kernel_rfl⟩⟩
instance : ZeroT Try.prog 93 #[.slice none 0 0] := ⟨⟨.slice none 0 0, fun w => by kernel_rfl, rfl⟩⟩
instance : SliceT Try.prog 93 4 := ⟨Try.underlying93⟩
instance : RowT Try.prog 41 10 := ⟨⟨_, Try.underlying41, rfl, by kernel_rfl⟩⟩
instance : ElT Try.prog 5 1 1 (.int .u8 0) := ⟨by kernel_rfl, by kernel_rfl, by decide⟩
instance : ElT Try.prog 4 1 1 (.bool false) := ⟨by kernel_rfl, by kernel_rfl, by decide⟩
instance : ElT Try.prog 23 32 32 (.agg (bA zero32)) := ⟨by kernel_rfl, by kernel_rfl, by decide⟩
instance : ElT Try.prog 22 32 32 (.agg (bA zero32)) := ⟨by kernel_rfl, by kernel_rfl, by decide⟩
instance : ElT Try.prog 30 1 24 (.slice none 0 0) := ⟨by kernel_rfl, by kernel_rfl, by decide⟩

end Go.Proofs.Ytgofolmekgjkjaa

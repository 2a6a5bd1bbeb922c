/- Facts on the program's types, as instances; keys as lists of thirty-two bytes. No conditions. -/
import Derived.Test.YtmbhaoiahlbglaaMem
import Derived.Test.YtmbhaoiahlbglaaK1
import Derived.Test.YtmbhaoiahlbglaaK2
namespace Go.Proofs.Ytmbhaoiahlbglaa
open Go.RowKit
set_option linter.unusedVariables false
set_option linter.unusedSimpArgs false

/-- A key: thirty-two bytes. -/
abbrev Ky := {l : List UInt8 // l.length = 32}
@[simp] theorem Ky.len (k : Ky) : k.1.length = 32 := k.2
def zeroKy : Ky := ⟨zero32, rfl⟩
def zero256 : List UInt32 := List.replicate 256 0
@[simp] theorem zero32_len : zero32.length = 32 := rfl
@[simp] theorem zero8_len : zero8.length = 8 := rfl
@[simp] theorem zero256_len : zero256.length = 256 := List.length_replicate
@[simp] theorem fillTo_len {α : Type} (f : Nat → α) (k n : Nat) (z : α) : (fillTo f k n z).length = n := fill_length f k n z
/-- A node of a map: two keys, a name, a value. -/
def nodC (l r : List UInt8) (n v : ByteArray) : Array Value := (bL l ++ bL r ++ [Value.string n, Value.string v]).toArray
/-- A piece of a recipe: a key and a length. -/
def pieC (l : List UInt8) (n : Int) : Array Value := (bL l ++ [Value.int .i64 n]).toArray
/-- A clash: four keys. -/
def claC (a b c d : List UInt8) : Array Value := (bL a ++ bL b ++ bL c ++ bL d).toArray
@[simp] theorem nodC_size (l r : Ky) (n v : ByteArray) : (nodC l.1 r.1 n v).size = 66 := by simp [nodC, bL]
@[simp] theorem pieC_size (l : Ky) (n : Int) : (pieC l.1 n).size = 33 := by simp [pieC, bL]
@[simp] theorem claC_size (a b c d : Ky) : (claC a.1 b.1 c.1 d.1).size = 128 := by simp [claC, bL]

instance : OneT Try.prog 2 := ⟨⟨_, Try.underlying2, rfl, by kernel_rfl⟩⟩
instance : ZeroT Try.prog 2 #[.int .i64 0] := ⟨⟨.int .i64 0, fun w => by kernel_rfl, rfl⟩⟩
instance : OneT Try.prog 3 := ⟨⟨_, Try.underlying3, rfl, by kernel_rfl⟩⟩
instance : ZeroT Try.prog 3 #[.int .i64 0] := ⟨⟨.int .i64 0, fun w => by kernel_rfl, rfl⟩⟩
instance : OneT Try.prog 118 := ⟨⟨_, Try.underlying118, rfl, by kernel_rfl⟩⟩
instance : ZeroT Try.prog 118 #[.int .u64 0] := ⟨⟨.int .u64 0, fun w => by kernel_rfl, rfl⟩⟩
instance : OneT Try.prog 4 := ⟨⟨_, Try.underlying4, rfl, by kernel_rfl⟩⟩
instance : ZeroT Try.prog 4 #[.bool false] := ⟨⟨.bool false, fun w => by kernel_rfl, rfl⟩⟩
instance : OneT Try.prog 5 := ⟨⟨_, Try.underlying5, rfl, by kernel_rfl⟩⟩
instance : ZeroT Try.prog 5 #[.int .u8 0] := ⟨⟨.int .u8 0, fun w => by kernel_rfl, rfl⟩⟩
instance : OneT Try.prog 133 := ⟨⟨_, Try.underlying133, rfl, by kernel_rfl⟩⟩
instance : ZeroT Try.prog 133 #[.int .u32 0] := ⟨⟨.int .u32 0, fun w => by kernel_rfl, rfl⟩⟩
instance : OneT Try.prog 116 := ⟨⟨_, Try.underlying116, rfl, by kernel_rfl⟩⟩
instance : ZeroT Try.prog 116 #[.int .u64 0] := ⟨⟨.int .u64 0, fun w => by kernel_rfl, rfl⟩⟩
instance : OneT Try.prog 9 := ⟨⟨_, Try.underlying9, rfl, by kernel_rfl⟩⟩
instance : ZeroT Try.prog 9 #[.string ByteArray.empty] := ⟨⟨.string ByteArray.empty, fun w => by kernel_rfl, rfl⟩⟩
instance : OneT Try.prog 66 := ⟨⟨_, Try.underlying66, rfl, by kernel_rfl⟩⟩
instance : ZeroT Try.prog 66 #[.slice none 0 0] := ⟨⟨.slice none 0 0, fun w => by kernel_rfl, rfl⟩⟩
instance : SliceT Try.prog 66 5 := ⟨Try.underlying66⟩
instance : RowT Try.prog 24 32 := ⟨⟨_, Try.underlying24, rfl, by kernel_rfl⟩⟩
instance : ZeroT Try.prog 24 (bA zero32) := ⟨⟨.agg (bA zero32), fun w => by kernel_rfl, rfl⟩⟩
instance : ZeroB Try.prog 24 (bA zero32) := ⟨by kernel_rfl⟩
instance : RowT Try.prog 25 32 := ⟨⟨_, Try.underlying25, rfl, by kernel_rfl⟩⟩
instance : ZeroT Try.prog 25 (bA zero32) := ⟨⟨.agg (bA zero32), fun w => by kernel_rfl, rfl⟩⟩
instance : ZeroB Try.prog 25 (bA zero32) := ⟨by kernel_rfl⟩
instance : RowT Try.prog 134 8 := ⟨⟨_, Try.underlying134, rfl, by kernel_rfl⟩⟩
instance : ZeroT Try.prog 134 (wA zero8) := ⟨⟨.agg (wA zero8), fun w => by kernel_rfl, rfl⟩⟩
instance : ZeroB Try.prog 134 (wA zero8) := ⟨by kernel_rfl⟩
instance : OneT Try.prog 30 := ⟨⟨_, Try.underlying30, rfl, by kernel_rfl⟩⟩
instance : ZeroT Try.prog 30 #[.slice none 0 0] := ⟨⟨.slice none 0 0, fun w => by kernel_rfl, rfl⟩⟩
instance : SliceT Try.prog 30 25 := ⟨Try.underlying30⟩
instance : OneT Try.prog 22 := ⟨⟨_, Try.underlying22, rfl, by kernel_rfl⟩⟩
instance : ZeroT Try.prog 22 #[.slice none 0 0] := ⟨⟨.slice none 0 0, fun w => by kernel_rfl, rfl⟩⟩
instance : SliceT Try.prog 22 24 := ⟨Try.underlying22⟩
instance : OneT Try.prog 55 := ⟨⟨_, Try.underlying55, rfl, by kernel_rfl⟩⟩
instance : ZeroT Try.prog 55 #[.slice none 0 0] := ⟨⟨.slice none 0 0, fun w => by kernel_rfl, rfl⟩⟩
instance : SliceT Try.prog 55 66 := ⟨Try.underlying55⟩
instance : RowT Try.prog 103 33 := ⟨⟨_, Try.underlying103, rfl, by kernel_rfl⟩⟩
instance : ZeroT Try.prog 103 (pieC zero32 0) := ⟨⟨.agg (pieC zero32 0), fun w => by kernel_rfl, rfl⟩⟩
instance : ZeroB Try.prog 103 (pieC zero32 0) := ⟨by kernel_rfl⟩
instance : RowT Try.prog 106 33 := ⟨⟨_, Try.underlying106, rfl, by kernel_rfl⟩⟩
instance : ZeroT Try.prog 106 (pieC zero32 0) := ⟨⟨.agg (pieC zero32 0), fun w => by kernel_rfl, rfl⟩⟩
instance : ZeroB Try.prog 106 (pieC zero32 0) := ⟨by kernel_rfl⟩
instance : OneT Try.prog 59 := ⟨⟨_, Try.underlying59, rfl, by kernel_rfl⟩⟩
instance : ZeroT Try.prog 59 #[.slice none 0 0] := ⟨⟨.slice none 0 0, fun w => by kernel_rfl, rfl⟩⟩
instance : SliceT Try.prog 59 103 := ⟨Try.underlying59⟩
instance : OneT Try.prog 54 := ⟨⟨_, Try.underlying54, rfl, by kernel_rfl⟩⟩
instance : ZeroT Try.prog 54 #[.slice none 0 0] := ⟨⟨.slice none 0 0, fun w => by kernel_rfl, rfl⟩⟩
instance : SliceT Try.prog 54 106 := ⟨Try.underlying54⟩
instance : RowT Try.prog 27 128 := ⟨⟨_, Try.underlying27, rfl, by kernel_rfl⟩⟩
instance : ZeroT Try.prog 27 (claC zero32 zero32 zero32 zero32) := ⟨⟨.agg (claC zero32 zero32 zero32 zero32), fun w => by kernel_rfl, rfl⟩⟩
instance : ZeroB Try.prog 27 (claC zero32 zero32 zero32 zero32) := ⟨by kernel_rfl⟩
instance : OneT Try.prog 85 := ⟨⟨_, Try.underlying85, rfl, by kernel_rfl⟩⟩
instance : ZeroT Try.prog 85 #[.slice none 0 0] := ⟨⟨.slice none 0 0, fun w => by kernel_rfl, rfl⟩⟩
instance : SliceT Try.prog 85 4 := ⟨Try.underlying85⟩
instance : ElT Try.prog 5 1 1 (.int .u8 0) := ⟨by kernel_rfl, by kernel_rfl, by decide⟩
instance : ElT Try.prog 4 1 1 (.bool false) := ⟨by kernel_rfl, by kernel_rfl, by decide⟩
instance : ElT Try.prog 25 32 32 (.agg (bA zero32)) := ⟨by kernel_rfl, by kernel_rfl, by decide⟩
instance : ElT Try.prog 24 32 32 (.agg (bA zero32)) := ⟨by kernel_rfl, by kernel_rfl, by decide⟩
instance : ElT Try.prog 66 1 24 (.slice none 0 0) := ⟨by kernel_rfl, by kernel_rfl, by decide⟩
instance : ElT Try.prog 103 33 40 (.agg (pieC zero32 0)) := ⟨by kernel_rfl, by kernel_rfl, by decide⟩

end Go.Proofs.Ytmbhaoiahlbglaa

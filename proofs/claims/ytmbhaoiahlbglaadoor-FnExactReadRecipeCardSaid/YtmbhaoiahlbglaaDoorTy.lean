/- Facts on the program's types, as instances; keys as lists of thirty-two bytes. No conditions. -/
import Derived.Test.YtmbhaoiahlbglaaDoorMem
import Derived.Test.YtmbhaoiahlbglaaDoorK1
import Derived.Test.YtmbhaoiahlbglaaDoorK2
namespace Go.Proofs.YtmbhaoiahlbglaaDoor
open Go.RowKit
set_option linter.unusedVariables false
set_option linter.unusedSimpArgs false

/-- A key: thirty-two bytes. -/
abbrev Ky := {l : List UInt8 // l.length = 32}
@[simp] theorem Ky.len (k : Ky) : k.1.length = 32 := k.2
def zeroKy : Ky := ⟨zero32, rfl⟩
def zero256 : List UInt32 := List.replicate 256 0
@[simp] theorem zero32_len : zero32.length = 32 := rfl
@[simp] theorem zero8_len : zero8.length = 8 := rfl
@[simp] theorem zero256_len : zero256.length = 256 := List.length_replicate
@[simp] theorem fillTo_len {α : Type} (f : Nat → α) (k n : Nat) (z : α) : (fillTo f k n z).length = n := fill_length f k n z
/-- A node of a map: two keys, a name, a value. -/
def nodC (l r : List UInt8) (n v : ByteArray) : Array Value := (bL l ++ bL r ++ [Value.string n, Value.string v]).toArray
/-- A piece of a recipe: a key and a length. -/
def pieC (l : List UInt8) (n : Int) : Array Value := (bL l ++ [Value.int .i64 n]).toArray
/-- A clash: four keys. -/
def claC (a b c d : List UInt8) : Array Value := (bL a ++ bL b ++ bL c ++ bL d).toArray
@[simp] theorem nodC_size (l r : Ky) (n v : ByteArray) : (nodC l.1 r.1 n v).size = 66 := by simp [nodC, bL]
@[simp] theorem pieC_size (l : Ky) (n : Int) : (pieC l.1 n).size = 33 := by simp [pieC, bL]
@[simp] theorem claC_size (a b c d : Ky) : (claC a.1 b.1 c.1 d.1).size = 128 := by simp [claC, bL]

instance : OneT Tryd.prog 2 := ⟨⟨_, Tryd.underlying2, rfl, by kernel_rfl⟩⟩
instance : ZeroT Tryd.prog 2 #[.int .i64 0] := ⟨⟨.int .i64 0, fun w => by kernel_rfl, rfl⟩⟩
instance : OneT Tryd.prog 3 := ⟨⟨_, Tryd.underlying3, rfl, by kernel_rfl⟩⟩
instance : ZeroT Tryd.prog 3 #[.int .i64 0] := ⟨⟨.int .i64 0, fun w => by kernel_rfl, rfl⟩⟩
instance : OneT Tryd.prog 87 := ⟨⟨_, Tryd.underlying87, rfl, by kernel_rfl⟩⟩
instance : ZeroT Tryd.prog 87 #[.int .u64 0] := ⟨⟨.int .u64 0, fun w => by kernel_rfl, rfl⟩⟩
instance : OneT Tryd.prog 4 := ⟨⟨_, Tryd.underlying4, rfl, by kernel_rfl⟩⟩
instance : ZeroT Tryd.prog 4 #[.bool false] := ⟨⟨.bool false, fun w => by kernel_rfl, rfl⟩⟩
instance : OneT Tryd.prog 5 := ⟨⟨_, Tryd.underlying5, rfl, by kernel_rfl⟩⟩
instance : ZeroT Tryd.prog 5 #[.int .u8 0] := ⟨⟨.int .u8 0, fun w => by kernel_rfl, rfl⟩⟩
instance : OneT Tryd.prog 109 := ⟨⟨_, Tryd.underlying109, rfl, by kernel_rfl⟩⟩
instance : ZeroT Tryd.prog 109 #[.int .u32 0] := ⟨⟨.int .u32 0, fun w => by kernel_rfl, rfl⟩⟩
instance : OneT Tryd.prog 84 := ⟨⟨_, Tryd.underlying84, rfl, by kernel_rfl⟩⟩
instance : ZeroT Tryd.prog 84 #[.int .u64 0] := ⟨⟨.int .u64 0, fun w => by kernel_rfl, rfl⟩⟩
instance : OneT Tryd.prog 9 := ⟨⟨_, Tryd.underlying9, rfl, by kernel_rfl⟩⟩
instance : ZeroT Tryd.prog 9 #[.string ByteArray.empty] := ⟨⟨.string ByteArray.empty, fun w => by kernel_rfl, rfl⟩⟩
instance : OneT Tryd.prog 72 := ⟨⟨_, Tryd.underlying72, rfl, by kernel_rfl⟩⟩
instance : ZeroT Tryd.prog 72 #[.slice none 0 0] := ⟨⟨.slice none 0 0, fun w => by kernel_rfl, rfl⟩⟩
instance : SliceT Tryd.prog 72 5 := ⟨Tryd.underlying72⟩
instance : RowT Tryd.prog 36 32 := ⟨⟨_, Tryd.underlying36, rfl, by kernel_rfl⟩⟩
instance : ZeroT Tryd.prog 36 (bA zero32) := ⟨⟨.agg (bA zero32), fun w => by kernel_rfl, rfl⟩⟩
instance : ZeroB Tryd.prog 36 (bA zero32) := ⟨by kernel_rfl⟩
instance : RowT Tryd.prog 37 32 := ⟨⟨_, Tryd.underlying37, rfl, by kernel_rfl⟩⟩
instance : ZeroT Tryd.prog 37 (bA zero32) := ⟨⟨.agg (bA zero32), fun w => by kernel_rfl, rfl⟩⟩
instance : ZeroB Tryd.prog 37 (bA zero32) := ⟨by kernel_rfl⟩
instance : RowT Tryd.prog 43 33 := ⟨⟨_, Tryd.underlying43, rfl, by kernel_rfl⟩⟩
instance : ZeroT Tryd.prog 43 (pieC zero32 0) := ⟨⟨.agg (pieC zero32 0), fun w => by kernel_rfl, rfl⟩⟩
instance : ZeroB Tryd.prog 43 (pieC zero32 0) := ⟨by kernel_rfl⟩
instance : RowT Tryd.prog 62 33 := ⟨⟨_, Tryd.underlying62, rfl, by kernel_rfl⟩⟩
instance : ZeroT Tryd.prog 62 (pieC zero32 0) := ⟨⟨.agg (pieC zero32 0), fun w => by kernel_rfl, rfl⟩⟩
instance : ZeroB Tryd.prog 62 (pieC zero32 0) := ⟨by kernel_rfl⟩
instance : OneT Tryd.prog 22 := ⟨⟨_, Tryd.underlying22, rfl, by kernel_rfl⟩⟩
instance : ZeroT Tryd.prog 22 #[.slice none 0 0] := ⟨⟨.slice none 0 0, fun w => by kernel_rfl, rfl⟩⟩
instance : SliceT Tryd.prog 22 43 := ⟨Tryd.underlying22⟩
instance : OneT Tryd.prog 28 := ⟨⟨_, Tryd.underlying28, rfl, by kernel_rfl⟩⟩
instance : ZeroT Tryd.prog 28 #[.slice none 0 0] := ⟨⟨.slice none 0 0, fun w => by kernel_rfl, rfl⟩⟩
instance : SliceT Tryd.prog 28 62 := ⟨Tryd.underlying28⟩
instance : ElT Tryd.prog 5 1 1 (.int .u8 0) := ⟨by kernel_rfl, by kernel_rfl, by decide⟩
instance : ElT Tryd.prog 4 1 1 (.bool false) := ⟨by kernel_rfl, by kernel_rfl, by decide⟩
instance : ElT Tryd.prog 37 32 32 (.agg (bA zero32)) := ⟨by kernel_rfl, by kernel_rfl, by decide⟩
instance : ElT Tryd.prog 36 32 32 (.agg (bA zero32)) := ⟨by kernel_rfl, by kernel_rfl, by decide⟩
instance : ElT Tryd.prog 72 1 24 (.slice none 0 0) := ⟨by kernel_rfl, by kernel_rfl, by decide⟩
instance : ElT Tryd.prog 43 33 40 (.agg (pieC zero32 0)) := ⟨by kernel_rfl, by kernel_rfl, by decide⟩

end Go.Proofs.YtmbhaoiahlbglaaDoor

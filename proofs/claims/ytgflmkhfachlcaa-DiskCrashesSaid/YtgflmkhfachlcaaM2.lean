/-
  VX, THE CLOSED FACTS on this seat's types and functions, by program (vxgen.py).
-/
import Derived.Test.YtgflmkhfachlcaaM1
import Derived.Test.YtgflmkhfachlcaaRows
import Derived.Shelf.SortM.Plain
import Derived.Shelf.SortM.SortNone
import Derived.Shelf.Slices.CompactI
import Derived.Lib.AppendZerosOnto
import Derived.Lib.Overlaps
import Derived.Shelf.SlMaps.Clone
namespace Go.Proofs.Ytgflmkhfachlcaa
open Go Go.Vx
instance : Lay Try.prog 1 false 1 8 (.nilFunc) := ⟨by kernel_rfl, by kernel_rfl⟩
instance : Ty Try.prog 2 (.int .i64) := ⟨by kernel_rfl⟩
instance : Lay Try.prog 2 false 1 8 (.int .i64 0) := ⟨by kernel_rfl, by kernel_rfl⟩
instance : Ty Try.prog 3 (.int .i64) := ⟨by kernel_rfl⟩
instance : Lay Try.prog 3 false 1 8 (.int .i64 0) := ⟨by kernel_rfl, by kernel_rfl⟩
instance : Ty Try.prog 4 (.bool) := ⟨by kernel_rfl⟩
instance : Lay Try.prog 4 false 1 1 (.bool false) := ⟨by kernel_rfl, by kernel_rfl⟩
instance : Ty Try.prog 5 (.int .u8) := ⟨by kernel_rfl⟩
instance : Lay Try.prog 5 false 1 1 (.int .u8 0) := ⟨by kernel_rfl, by kernel_rfl⟩
instance : Ty Try.prog 6 (.int .u8) := ⟨by kernel_rfl⟩
instance : Lay Try.prog 6 false 1 1 (.int .u8 0) := ⟨by kernel_rfl, by kernel_rfl⟩
instance : Ty Try.prog 7 (.struct (Program.fieldsOf Try.prog 7)) := ⟨by kernel_rfl⟩
instance : Lay Try.prog 7 true 4 24 (.agg #[.int .i64 0, .int .i64 0, .bool false, .int .u8 0]) := ⟨by kernel_rfl, by kernel_rfl⟩
instance : Fld Try.prog 7 0 0 2 := ⟨by kernel_rfl⟩
instance : Fld Try.prog 7 1 1 3 := ⟨by kernel_rfl⟩
instance : Fld Try.prog 7 2 2 4 := ⟨by kernel_rfl⟩
instance : Fld Try.prog 7 3 3 6 := ⟨by kernel_rfl⟩
instance : Places Try.prog 7 [(0, 1), (1, 1), (2, 1), (3, 1)] := ⟨by kernel_rfl⟩
instance : Ty Try.prog 8 (.struct (Program.fieldsOf Try.prog 8)) := ⟨by kernel_rfl⟩
instance : Lay Try.prog 8 true 4 24 (.agg #[.int .i64 0, .int .i64 0, .bool false, .int .u8 0]) := ⟨by kernel_rfl, by kernel_rfl⟩
instance : Fld Try.prog 8 0 0 2 := ⟨by kernel_rfl⟩
instance : Fld Try.prog 8 1 1 3 := ⟨by kernel_rfl⟩
instance : Fld Try.prog 8 2 2 4 := ⟨by kernel_rfl⟩
instance : Fld Try.prog 8 3 3 6 := ⟨by kernel_rfl⟩
instance : Places Try.prog 8 [(0, 1), (1, 1), (2, 1), (3, 1)] := ⟨by kernel_rfl⟩
instance : Ty Try.prog 9 (.string) := ⟨by kernel_rfl⟩
instance : Lay Try.prog 9 false 1 16 (.string ByteArray.empty) := ⟨by kernel_rfl, by kernel_rfl⟩
instance : Ty Try.prog 10 (.string) := ⟨by kernel_rfl⟩
instance : Lay Try.prog 10 false 1 16 (.string ByteArray.empty) := ⟨by kernel_rfl, by kernel_rfl⟩
instance : Ty Try.prog 11 (.string) := ⟨by kernel_rfl⟩
instance : Lay Try.prog 11 false 1 16 (.string ByteArray.empty) := ⟨by kernel_rfl, by kernel_rfl⟩
instance : Ty Try.prog 12 (.int .u64) := ⟨by kernel_rfl⟩
instance : Lay Try.prog 12 false 1 8 (.int .u64 0) := ⟨by kernel_rfl, by kernel_rfl⟩
instance : Ty Try.prog 13 (.struct (Program.fieldsOf Try.prog 13)) := ⟨by kernel_rfl⟩
instance : Lay Try.prog 13 true 2 24 (.agg #[.string ByteArray.empty, .int .u64 0]) := ⟨by kernel_rfl, by kernel_rfl⟩
instance : Fld Try.prog 13 0 0 9 := ⟨by kernel_rfl⟩
instance : Fld Try.prog 13 1 1 12 := ⟨by kernel_rfl⟩
instance : Places Try.prog 13 [(0, 1), (1, 1)] := ⟨by kernel_rfl⟩
instance : Ty Try.prog 14 (.struct (Program.fieldsOf Try.prog 14)) := ⟨by kernel_rfl⟩
instance : Lay Try.prog 14 true 2 24 (.agg #[.string ByteArray.empty, .int .u64 0]) := ⟨by kernel_rfl, by kernel_rfl⟩
instance : Fld Try.prog 14 0 0 9 := ⟨by kernel_rfl⟩
instance : Fld Try.prog 14 1 1 12 := ⟨by kernel_rfl⟩
instance : Places Try.prog 14 [(0, 1), (1, 1)] := ⟨by kernel_rfl⟩
instance : Ty Try.prog 15 (.pointer 145) := ⟨by kernel_rfl⟩
instance : Lay Try.prog 15 false 1 8 (.pointer none) := ⟨by kernel_rfl, by kernel_rfl⟩
instance : Ty Try.prog 16 (.pointer 148) := ⟨by kernel_rfl⟩
instance : Lay Try.prog 16 false 1 8 (.pointer none) := ⟨by kernel_rfl, by kernel_rfl⟩
instance : Ty Try.prog 17 (.pointer 157) := ⟨by kernel_rfl⟩
instance : Lay Try.prog 17 false 1 8 (.pointer none) := ⟨by kernel_rfl, by kernel_rfl⟩
instance : Ty Try.prog 18 (.struct (Program.fieldsOf Try.prog 18)) := ⟨by kernel_rfl⟩
instance : Lay Try.prog 18 true 1 8 (.agg #[.pointer none]) := ⟨by kernel_rfl, by kernel_rfl⟩
instance : Fld Try.prog 18 0 0 17 := ⟨by kernel_rfl⟩
instance : Places Try.prog 18 [(0, 1)] := ⟨by kernel_rfl⟩
instance : Ty Try.prog 19 (.struct (Program.fieldsOf Try.prog 19)) := ⟨by kernel_rfl⟩
instance : Lay Try.prog 19 true 1 8 (.agg #[.pointer none]) := ⟨by kernel_rfl, by kernel_rfl⟩
instance : Fld Try.prog 19 0 0 17 := ⟨by kernel_rfl⟩
instance : Places Try.prog 19 [(0, 1)] := ⟨by kernel_rfl⟩
instance : Ty Try.prog 20 (.interface #[]) := ⟨by kernel_rfl⟩
instance : Lay Try.prog 20 false 1 16 (.nilIface) := ⟨by kernel_rfl, by kernel_rfl⟩
instance : Ty Try.prog 21 (.int .i32) := ⟨by kernel_rfl⟩
instance : Lay Try.prog 21 false 1 4 (.int .i32 0) := ⟨by kernel_rfl, by kernel_rfl⟩
instance : Ty Try.prog 22 (.slice 3) := ⟨by kernel_rfl⟩
instance : Lay Try.prog 22 false 1 24 (.slice none 0 0) := ⟨by kernel_rfl, by kernel_rfl⟩
instance : Ty Try.prog 23 (.array 2 22) := ⟨by kernel_rfl⟩
instance : Lay Try.prog 23 true 2 48 (.agg #[.slice none 0 0, .slice none 0 0]) := ⟨by kernel_rfl, by kernel_rfl⟩
instance : Lay Try.prog 24 false 1 8 (.nilFunc) := ⟨by kernel_rfl, by kernel_rfl⟩
instance : Ty Try.prog 25 (.struct (Program.fieldsOf Try.prog 25)) := ⟨by kernel_rfl⟩
instance : Lay Try.prog 25 true 2 16 (.agg #[.int .i64 0, .int .i64 0]) := ⟨by kernel_rfl, by kernel_rfl⟩
instance : Fld Try.prog 25 0 0 3 := ⟨by kernel_rfl⟩
instance : Fld Try.prog 25 1 1 3 := ⟨by kernel_rfl⟩
instance : EqS Try.prog 25 [⟨"Round", 3, 0, false, "", "", 0⟩, ⟨"Node", 3, 1, false, "", "", 8⟩] := ⟨by kernel_rfl, by kernel_rfl, by kernel_rfl, by kernel_rfl⟩
instance : Places Try.prog 25 [(0, 1), (1, 1)] := ⟨by kernel_rfl⟩
instance : Ty Try.prog 26 (.struct (Program.fieldsOf Try.prog 26)) := ⟨by kernel_rfl⟩
instance : Lay Try.prog 26 true 2 16 (.agg #[.int .i64 0, .int .i64 0]) := ⟨by kernel_rfl, by kernel_rfl⟩
instance : Fld Try.prog 26 0 0 3 := ⟨by kernel_rfl⟩
instance : Fld Try.prog 26 1 1 3 := ⟨by kernel_rfl⟩
instance : EqS Try.prog 26 [⟨"Round", 3, 0, false, "", "", 0⟩, ⟨"Node", 3, 1, false, "", "", 8⟩] := ⟨by kernel_rfl, by kernel_rfl, by kernel_rfl, by kernel_rfl⟩
instance : Places Try.prog 26 [(0, 1), (1, 1)] := ⟨by kernel_rfl⟩
instance : Ty Try.prog 27 (.pointer 68) := ⟨by kernel_rfl⟩
instance : Lay Try.prog 27 false 1 8 (.pointer none) := ⟨by kernel_rfl, by kernel_rfl⟩
instance : Lay Try.prog 28 false 1 8 (.nilFunc) := ⟨by kernel_rfl, by kernel_rfl⟩
instance : Lay Try.prog 29 false 1 8 (.nilFunc) := ⟨by kernel_rfl, by kernel_rfl⟩
instance : Lay Try.prog 30 false 1 8 (.nilFunc) := ⟨by kernel_rfl, by kernel_rfl⟩
instance : Lay Try.prog 31 false 1 8 (.nilFunc) := ⟨by kernel_rfl, by kernel_rfl⟩
instance : Lay Try.prog 32 false 1 8 (.nilFunc) := ⟨by kernel_rfl, by kernel_rfl⟩
instance : Lay Try.prog 33 false 1 8 (.nilFunc) := ⟨by kernel_rfl, by kernel_rfl⟩
instance : Ty Try.prog 34 (.slice 36) := ⟨by kernel_rfl⟩
instance : Lay Try.prog 34 false 1 24 (.slice none 0 0) := ⟨by kernel_rfl, by kernel_rfl⟩
instance : Ty Try.prog 35 (.struct (Program.fieldsOf Try.prog 35)) := ⟨by kernel_rfl⟩
instance : Lay Try.prog 35 true 5 40 (.agg #[.int .i64 0, .int .i64 0, .int .i64 0, .int .i64 0, .bool false]) := ⟨by kernel_rfl, by kernel_rfl⟩
instance : Fld Try.prog 35 0 0 26 := ⟨by kernel_rfl⟩
instance : Fld Try.prog 35 1 2 3 := ⟨by kernel_rfl⟩
instance : Fld Try.prog 35 2 3 3 := ⟨by kernel_rfl⟩
instance : Fld Try.prog 35 3 4 4 := ⟨by kernel_rfl⟩
instance : EqS Try.prog 35 [⟨"Ballot", 26, 0, false, "", "", 0⟩, ⟨"Index", 3, 2, false, "", "", 16⟩, ⟨"Node", 3, 3, false, "", "", 24⟩, ⟨"Drop", 4, 4, false, "", "", 32⟩] := ⟨by kernel_rfl, by kernel_rfl, by kernel_rfl, by kernel_rfl⟩
instance : Places Try.prog 35 [(0, 2), (2, 1), (3, 1), (4, 1)] := ⟨by kernel_rfl⟩
instance : Ty Try.prog 36 (.struct (Program.fieldsOf Try.prog 36)) := ⟨by kernel_rfl⟩
instance : Lay Try.prog 36 true 5 40 (.agg #[.int .i64 0, .int .i64 0, .int .i64 0, .int .i64 0, .bool false]) := ⟨by kernel_rfl, by kernel_rfl⟩
instance : Fld Try.prog 36 0 0 26 := ⟨by kernel_rfl⟩
instance : Fld Try.prog 36 1 2 3 := ⟨by kernel_rfl⟩
instance : Fld Try.prog 36 2 3 3 := ⟨by kernel_rfl⟩
instance : Fld Try.prog 36 3 4 4 := ⟨by kernel_rfl⟩
instance : EqS Try.prog 36 [⟨"Ballot", 26, 0, false, "", "", 0⟩, ⟨"Index", 3, 2, false, "", "", 16⟩, ⟨"Node", 3, 3, false, "", "", 24⟩, ⟨"Drop", 4, 4, false, "", "", 32⟩] := ⟨by kernel_rfl, by kernel_rfl, by kernel_rfl, by kernel_rfl⟩
instance : Places Try.prog 36 [(0, 2), (2, 1), (3, 1), (4, 1)] := ⟨by kernel_rfl⟩
instance : Lay Try.prog 37 false 1 8 (.nilFunc) := ⟨by kernel_rfl, by kernel_rfl⟩
instance : Lay Try.prog 38 false 1 8 (.nilFunc) := ⟨by kernel_rfl, by kernel_rfl⟩
instance : Lay Try.prog 39 false 1 8 (.nilFunc) := ⟨by kernel_rfl, by kernel_rfl⟩
instance : Lay Try.prog 40 false 1 8 (.nilFunc) := ⟨by kernel_rfl, by kernel_rfl⟩
instance : Lay Try.prog 41 false 1 8 (.nilFunc) := ⟨by kernel_rfl, by kernel_rfl⟩
instance : Lay Try.prog 42 false 1 8 (.nilFunc) := ⟨by kernel_rfl, by kernel_rfl⟩
instance : Lay Try.prog 43 false 1 8 (.nilFunc) := ⟨by kernel_rfl, by kernel_rfl⟩
instance : Ty Try.prog 44 (.slice 51) := ⟨by kernel_rfl⟩
instance : Lay Try.prog 44 false 1 24 (.slice none 0 0) := ⟨by kernel_rfl, by kernel_rfl⟩
instance : Lay Try.prog 45 false 1 8 (.nilFunc) := ⟨by kernel_rfl, by kernel_rfl⟩
instance : Ty Try.prog 46 (.pointer 81) := ⟨by kernel_rfl⟩
instance : Lay Try.prog 46 false 1 8 (.pointer none) := ⟨by kernel_rfl, by kernel_rfl⟩
instance : Lay Try.prog 47 false 1 8 (.nilFunc) := ⟨by kernel_rfl, by kernel_rfl⟩
instance : Lay Try.prog 48 false 1 8 (.nilFunc) := ⟨by kernel_rfl, by kernel_rfl⟩
instance : Ty Try.prog 49 (.slice 5) := ⟨by kernel_rfl⟩
instance : Lay Try.prog 49 false 1 24 (.slice none 0 0) := ⟨by kernel_rfl, by kernel_rfl⟩
instance : Ty Try.prog 50 (.struct (Program.fieldsOf Try.prog 50)) := ⟨by kernel_rfl⟩
instance : Lay Try.prog 50 true 4 48 (.agg #[.int .i64 0, .int .i64 0, .int .i64 0, .slice none 0 0]) := ⟨by kernel_rfl, by kernel_rfl⟩
instance : Fld Try.prog 50 0 0 3 := ⟨by kernel_rfl⟩
instance : Fld Try.prog 50 1 1 3 := ⟨by kernel_rfl⟩
instance : Fld Try.prog 50 2 2 3 := ⟨by kernel_rfl⟩
instance : Fld Try.prog 50 3 3 49 := ⟨by kernel_rfl⟩
instance : Places Try.prog 50 [(0, 1), (1, 1), (2, 1), (3, 1)] := ⟨by kernel_rfl⟩
instance : Ty Try.prog 51 (.struct (Program.fieldsOf Try.prog 51)) := ⟨by kernel_rfl⟩
instance : Lay Try.prog 51 true 4 48 (.agg #[.int .i64 0, .int .i64 0, .int .i64 0, .slice none 0 0]) := ⟨by kernel_rfl, by kernel_rfl⟩
instance : Fld Try.prog 51 0 0 3 := ⟨by kernel_rfl⟩
instance : Fld Try.prog 51 1 1 3 := ⟨by kernel_rfl⟩
instance : Fld Try.prog 51 2 2 3 := ⟨by kernel_rfl⟩
instance : Fld Try.prog 51 3 3 49 := ⟨by kernel_rfl⟩
instance : Places Try.prog 51 [(0, 1), (1, 1), (2, 1), (3, 1)] := ⟨by kernel_rfl⟩
instance : Ty Try.prog 52 (.slice 78) := ⟨by kernel_rfl⟩
instance : Lay Try.prog 52 false 1 24 (.slice none 0 0) := ⟨by kernel_rfl, by kernel_rfl⟩
instance : Lay Try.prog 53 false 1 8 (.nilFunc) := ⟨by kernel_rfl, by kernel_rfl⟩
instance : Ty Try.prog 54 (.slice 84) := ⟨by kernel_rfl⟩
instance : Lay Try.prog 54 false 1 24 (.slice none 0 0) := ⟨by kernel_rfl, by kernel_rfl⟩
instance : Lay Try.prog 55 false 1 8 (.nilFunc) := ⟨by kernel_rfl, by kernel_rfl⟩
instance : Lay Try.prog 56 false 1 8 (.nilFunc) := ⟨by kernel_rfl, by kernel_rfl⟩
instance : Lay Try.prog 57 false 1 8 (.nilFunc) := ⟨by kernel_rfl, by kernel_rfl⟩
instance : Lay Try.prog 58 false 1 8 (.nilFunc) := ⟨by kernel_rfl, by kernel_rfl⟩
instance : Lay Try.prog 59 false 1 8 (.nilFunc) := ⟨by kernel_rfl, by kernel_rfl⟩
instance : Ty Try.prog 60 (.pointer 62) := ⟨by kernel_rfl⟩
instance : Lay Try.prog 60 false 1 8 (.pointer none) := ⟨by kernel_rfl, by kernel_rfl⟩
instance : Ty Try.prog 61 (.struct (Program.fieldsOf Try.prog 61)) := ⟨by kernel_rfl⟩
instance : Lay Try.prog 61 true 2 48 (.agg #[.slice none 0 0, .slice none 0 0]) := ⟨by kernel_rfl, by kernel_rfl⟩
instance : Fld Try.prog 61 0 0 52 := ⟨by kernel_rfl⟩
instance : Fld Try.prog 61 1 1 54 := ⟨by kernel_rfl⟩
instance : Places Try.prog 61 [(0, 1), (1, 1)] := ⟨by kernel_rfl⟩
instance : Ty Try.prog 62 (.struct (Program.fieldsOf Try.prog 62)) := ⟨by kernel_rfl⟩
instance : Lay Try.prog 62 true 2 48 (.agg #[.slice none 0 0, .slice none 0 0]) := ⟨by kernel_rfl, by kernel_rfl⟩
instance : Fld Try.prog 62 0 0 52 := ⟨by kernel_rfl⟩
instance : Fld Try.prog 62 1 1 54 := ⟨by kernel_rfl⟩
instance : Places Try.prog 62 [(0, 1), (1, 1)] := ⟨by kernel_rfl⟩
instance : Lay Try.prog 63 false 1 8 (.nilFunc) := ⟨by kernel_rfl, by kernel_rfl⟩
instance : Lay Try.prog 64 false 1 8 (.nilFunc) := ⟨by kernel_rfl, by kernel_rfl⟩
instance : Lay Try.prog 65 false 1 8 (.nilFunc) := ⟨by kernel_rfl, by kernel_rfl⟩
instance : Ty Try.prog 66 (.map 3 69) := ⟨by kernel_rfl⟩
instance : Lay Try.prog 66 false 1 8 (.map none) := ⟨by kernel_rfl, by kernel_rfl⟩
instance : Ty Try.prog 67 (.struct (Program.fieldsOf Try.prog 67)) := ⟨by kernel_rfl⟩
instance : Lay Try.prog 67 true 4 32 (.agg #[.int .i64 0, .int .i64 0, .map none, .int .i64 0]) := ⟨by kernel_rfl, by kernel_rfl⟩
instance : Fld Try.prog 67 0 0 26 := ⟨by kernel_rfl⟩
instance : Fld Try.prog 67 1 2 66 := ⟨by kernel_rfl⟩
instance : Fld Try.prog 67 2 3 3 := ⟨by kernel_rfl⟩
instance : Places Try.prog 67 [(0, 2), (2, 1), (3, 1)] := ⟨by kernel_rfl⟩
instance : Ty Try.prog 68 (.struct (Program.fieldsOf Try.prog 68)) := ⟨by kernel_rfl⟩
instance : Lay Try.prog 68 true 4 32 (.agg #[.int .i64 0, .int .i64 0, .map none, .int .i64 0]) := ⟨by kernel_rfl, by kernel_rfl⟩
instance : Fld Try.prog 68 0 0 26 := ⟨by kernel_rfl⟩
instance : Fld Try.prog 68 1 2 66 := ⟨by kernel_rfl⟩
instance : Fld Try.prog 68 2 3 3 := ⟨by kernel_rfl⟩
instance : Places Try.prog 68 [(0, 2), (2, 1), (3, 1)] := ⟨by kernel_rfl⟩
instance : Ty Try.prog 69 (.int .u64) := ⟨by kernel_rfl⟩
instance : Lay Try.prog 69 false 1 8 (.int .u64 0) := ⟨by kernel_rfl, by kernel_rfl⟩
instance : Lay Try.prog 70 false 1 8 (.nilFunc) := ⟨by kernel_rfl, by kernel_rfl⟩
instance : Lay Try.prog 71 false 1 8 (.nilFunc) := ⟨by kernel_rfl, by kernel_rfl⟩
instance : Lay Try.prog 72 false 1 8 (.nilFunc) := ⟨by kernel_rfl, by kernel_rfl⟩
instance : Lay Try.prog 73 false 1 8 (.nilFunc) := ⟨by kernel_rfl, by kernel_rfl⟩
instance : Lay Try.prog 74 false 1 8 (.nilFunc) := ⟨by kernel_rfl, by kernel_rfl⟩
instance : Lay Try.prog 75 false 1 8 (.nilFunc) := ⟨by kernel_rfl, by kernel_rfl⟩
instance : Lay Try.prog 76 false 1 8 (.nilFunc) := ⟨by kernel_rfl, by kernel_rfl⟩
instance : Ty Try.prog 77 (.struct (Program.fieldsOf Try.prog 77)) := ⟨by kernel_rfl⟩
instance : Lay Try.prog 77 true 2 32 (.agg #[.int .i64 0, .slice none 0 0]) := ⟨by kernel_rfl, by kernel_rfl⟩
instance : Fld Try.prog 77 0 0 3 := ⟨by kernel_rfl⟩
instance : Fld Try.prog 77 1 1 49 := ⟨by kernel_rfl⟩
instance : Places Try.prog 77 [(0, 1), (1, 1)] := ⟨by kernel_rfl⟩
instance : Ty Try.prog 78 (.struct (Program.fieldsOf Try.prog 78)) := ⟨by kernel_rfl⟩
instance : Lay Try.prog 78 true 2 32 (.agg #[.int .i64 0, .slice none 0 0]) := ⟨by kernel_rfl, by kernel_rfl⟩
instance : Fld Try.prog 78 0 0 3 := ⟨by kernel_rfl⟩
instance : Fld Try.prog 78 1 1 49 := ⟨by kernel_rfl⟩
instance : Places Try.prog 78 [(0, 1), (1, 1)] := ⟨by kernel_rfl⟩
instance : Ty Try.prog 79 (.map 3 49) := ⟨by kernel_rfl⟩
instance : Lay Try.prog 79 false 1 8 (.map none) := ⟨by kernel_rfl, by kernel_rfl⟩
instance : Ty Try.prog 80 (.struct (Program.fieldsOf Try.prog 80)) := ⟨by kernel_rfl⟩
instance : Lay Try.prog 80 true 2 32 (.agg #[.map none, .slice none 0 0]) := ⟨by kernel_rfl, by kernel_rfl⟩
instance : Fld Try.prog 80 0 0 79 := ⟨by kernel_rfl⟩
instance : Fld Try.prog 80 1 1 54 := ⟨by kernel_rfl⟩
instance : Places Try.prog 80 [(0, 1), (1, 1)] := ⟨by kernel_rfl⟩
instance : Ty Try.prog 81 (.struct (Program.fieldsOf Try.prog 81)) := ⟨by kernel_rfl⟩
instance : Lay Try.prog 81 true 2 32 (.agg #[.map none, .slice none 0 0]) := ⟨by kernel_rfl, by kernel_rfl⟩
instance : Fld Try.prog 81 0 0 79 := ⟨by kernel_rfl⟩
instance : Fld Try.prog 81 1 1 54 := ⟨by kernel_rfl⟩
instance : Places Try.prog 81 [(0, 1), (1, 1)] := ⟨by kernel_rfl⟩
instance : Lay Try.prog 82 false 1 8 (.nilFunc) := ⟨by kernel_rfl, by kernel_rfl⟩
instance : Ty Try.prog 83 (.struct (Program.fieldsOf Try.prog 83)) := ⟨by kernel_rfl⟩
instance : Lay Try.prog 83 true 3 40 (.agg #[.int .i64 0, .int .i64 0, .slice none 0 0]) := ⟨by kernel_rfl, by kernel_rfl⟩
instance : Fld Try.prog 83 0 0 3 := ⟨by kernel_rfl⟩
instance : Fld Try.prog 83 1 1 3 := ⟨by kernel_rfl⟩
instance : Fld Try.prog 83 2 2 49 := ⟨by kernel_rfl⟩
instance : Places Try.prog 83 [(0, 1), (1, 1), (2, 1)] := ⟨by kernel_rfl⟩
instance : Ty Try.prog 84 (.struct (Program.fieldsOf Try.prog 84)) := ⟨by kernel_rfl⟩
instance : Lay Try.prog 84 true 3 40 (.agg #[.int .i64 0, .int .i64 0, .slice none 0 0]) := ⟨by kernel_rfl, by kernel_rfl⟩
instance : Fld Try.prog 84 0 0 3 := ⟨by kernel_rfl⟩
instance : Fld Try.prog 84 1 1 3 := ⟨by kernel_rfl⟩
instance : Fld Try.prog 84 2 2 49 := ⟨by kernel_rfl⟩
instance : Places Try.prog 84 [(0, 1), (1, 1), (2, 1)] := ⟨by kernel_rfl⟩
instance : Lay Try.prog 85 false 1 8 (.nilFunc) := ⟨by kernel_rfl, by kernel_rfl⟩
instance : Lay Try.prog 86 false 1 8 (.nilFunc) := ⟨by kernel_rfl, by kernel_rfl⟩
instance : Lay Try.prog 87 false 1 8 (.nilFunc) := ⟨by kernel_rfl, by kernel_rfl⟩
instance : Lay Try.prog 88 false 1 8 (.nilFunc) := ⟨by kernel_rfl, by kernel_rfl⟩
instance : Lay Try.prog 89 false 1 8 (.nilFunc) := ⟨by kernel_rfl, by kernel_rfl⟩
instance : Ty Try.prog 90 (.slice 95) := ⟨by kernel_rfl⟩
instance : Lay Try.prog 90 false 1 24 (.slice none 0 0) := ⟨by kernel_rfl, by kernel_rfl⟩
instance : Ty Try.prog 91 (.int .i64) := ⟨by kernel_rfl⟩
instance : Lay Try.prog 91 false 1 8 (.int .i64 0) := ⟨by kernel_rfl, by kernel_rfl⟩
instance : Lay Try.prog 93 false 1 8 (.nilFunc) := ⟨by kernel_rfl, by kernel_rfl⟩
instance : Ty Try.prog 94 (.struct (Program.fieldsOf Try.prog 94)) := ⟨by kernel_rfl⟩
instance : Lay Try.prog 94 true 2 32 (.agg #[.int .i64 0, .slice none 0 0]) := ⟨by kernel_rfl, by kernel_rfl⟩
instance : Fld Try.prog 94 0 0 3 := ⟨by kernel_rfl⟩
instance : Fld Try.prog 94 1 1 22 := ⟨by kernel_rfl⟩
instance : Places Try.prog 94 [(0, 1), (1, 1)] := ⟨by kernel_rfl⟩
instance : Ty Try.prog 95 (.struct (Program.fieldsOf Try.prog 95)) := ⟨by kernel_rfl⟩
instance : Lay Try.prog 95 true 2 32 (.agg #[.int .i64 0, .slice none 0 0]) := ⟨by kernel_rfl, by kernel_rfl⟩
instance : Fld Try.prog 95 0 0 3 := ⟨by kernel_rfl⟩
instance : Fld Try.prog 95 1 1 22 := ⟨by kernel_rfl⟩
instance : Places Try.prog 95 [(0, 1), (1, 1)] := ⟨by kernel_rfl⟩
instance : Lay Try.prog 96 false 1 8 (.nilFunc) := ⟨by kernel_rfl, by kernel_rfl⟩
instance : Lay Try.prog 97 false 1 8 (.nilFunc) := ⟨by kernel_rfl, by kernel_rfl⟩
instance : Lay Try.prog 98 false 1 8 (.nilFunc) := ⟨by kernel_rfl, by kernel_rfl⟩
instance : Lay Try.prog 99 false 1 8 (.nilFunc) := ⟨by kernel_rfl, by kernel_rfl⟩
instance : Lay Try.prog 100 false 1 8 (.nilFunc) := ⟨by kernel_rfl, by kernel_rfl⟩
instance : Lay Try.prog 101 false 1 8 (.nilFunc) := ⟨by kernel_rfl, by kernel_rfl⟩
instance : Lay Try.prog 103 false 1 8 (.nilFunc) := ⟨by kernel_rfl, by kernel_rfl⟩
instance : Lay Try.prog 104 false 1 8 (.nilFunc) := ⟨by kernel_rfl, by kernel_rfl⟩
instance : Lay Try.prog 105 false 1 8 (.nilFunc) := ⟨by kernel_rfl, by kernel_rfl⟩
instance : Lay Try.prog 106 false 1 8 (.nilFunc) := ⟨by kernel_rfl, by kernel_rfl⟩
instance : Lay Try.prog 108 false 1 8 (.nilFunc) := ⟨by kernel_rfl, by kernel_rfl⟩
instance : Lay Try.prog 109 false 1 8 (.nilFunc) := ⟨by kernel_rfl, by kernel_rfl⟩
instance : Lay Try.prog 110 false 1 8 (.nilFunc) := ⟨by kernel_rfl, by kernel_rfl⟩
instance : Lay Try.prog 111 false 1 8 (.nilFunc) := ⟨by kernel_rfl, by kernel_rfl⟩
instance : Lay Try.prog 112 false 1 8 (.nilFunc) := ⟨by kernel_rfl, by kernel_rfl⟩
instance : Lay Try.prog 113 false 1 8 (.nilFunc) := ⟨by kernel_rfl, by kernel_rfl⟩
instance : Ty Try.prog 114 (.slice 49) := ⟨by kernel_rfl⟩
instance : Lay Try.prog 114 false 1 24 (.slice none 0 0) := ⟨by kernel_rfl, by kernel_rfl⟩
instance : Lay Try.prog 115 false 1 8 (.nilFunc) := ⟨by kernel_rfl, by kernel_rfl⟩
instance : Lay Try.prog 116 false 1 8 (.nilFunc) := ⟨by kernel_rfl, by kernel_rfl⟩
instance : Lay Try.prog 118 false 1 8 (.nilFunc) := ⟨by kernel_rfl, by kernel_rfl⟩
instance : Lay Try.prog 119 false 1 8 (.nilFunc) := ⟨by kernel_rfl, by kernel_rfl⟩
instance : Lay Try.prog 120 false 1 8 (.nilFunc) := ⟨by kernel_rfl, by kernel_rfl⟩
instance : Lay Try.prog 121 false 1 8 (.nilFunc) := ⟨by kernel_rfl, by kernel_rfl⟩
instance : Ty Try.prog 122 (.int .i64) := ⟨by kernel_rfl⟩
instance : Lay Try.prog 122 false 1 8 (.int .i64 0) := ⟨by kernel_rfl, by kernel_rfl⟩
instance : Lay Try.prog 124 false 1 8 (.nilFunc) := ⟨by kernel_rfl, by kernel_rfl⟩
instance : Lay Try.prog 125 false 1 8 (.nilFunc) := ⟨by kernel_rfl, by kernel_rfl⟩
instance : Lay Try.prog 126 false 1 8 (.nilFunc) := ⟨by kernel_rfl, by kernel_rfl⟩
instance : Lay Try.prog 127 false 1 8 (.nilFunc) := ⟨by kernel_rfl, by kernel_rfl⟩
instance : Lay Try.prog 128 false 1 8 (.nilFunc) := ⟨by kernel_rfl, by kernel_rfl⟩
instance : Lay Try.prog 129 false 1 8 (.nilFunc) := ⟨by kernel_rfl, by kernel_rfl⟩
instance : Ty Try.prog 130 (.int .u32) := ⟨by kernel_rfl⟩
instance : Lay Try.prog 130 false 1 4 (.int .u32 0) := ⟨by kernel_rfl, by kernel_rfl⟩
instance : Lay Try.prog 131 false 1 8 (.nilFunc) := ⟨by kernel_rfl, by kernel_rfl⟩
instance : Ty Try.prog 132 (.int .u64) := ⟨by kernel_rfl⟩
instance : Lay Try.prog 132 false 1 8 (.int .u64 0) := ⟨by kernel_rfl, by kernel_rfl⟩
instance : Lay Try.prog 133 false 1 8 (.nilFunc) := ⟨by kernel_rfl, by kernel_rfl⟩
instance : Ty Try.prog 134 (.int .u64) := ⟨by kernel_rfl⟩
instance : Lay Try.prog 134 false 1 8 (.int .u64 0) := ⟨by kernel_rfl, by kernel_rfl⟩
instance : Lay Try.prog 135 false 1 8 (.nilFunc) := ⟨by kernel_rfl, by kernel_rfl⟩
instance : Lay Try.prog 136 false 1 8 (.nilFunc) := ⟨by kernel_rfl, by kernel_rfl⟩
instance : Lay Try.prog 137 false 1 8 (.nilFunc) := ⟨by kernel_rfl, by kernel_rfl⟩
instance : Ty Try.prog 138 (.pointer 3) := ⟨by kernel_rfl⟩
instance : Lay Try.prog 138 false 1 8 (.pointer none) := ⟨by kernel_rfl, by kernel_rfl⟩
instance : Lay Try.prog 139 false 1 8 (.nilFunc) := ⟨by kernel_rfl, by kernel_rfl⟩
instance : Ty Try.prog 140 (.pointer 134) := ⟨by kernel_rfl⟩
instance : Lay Try.prog 140 false 1 8 (.pointer none) := ⟨by kernel_rfl, by kernel_rfl⟩
instance : Lay Try.prog 142 false 1 8 (.nilFunc) := ⟨by kernel_rfl, by kernel_rfl⟩
instance : Lay Try.prog 143 false 1 8 (.nilFunc) := ⟨by kernel_rfl, by kernel_rfl⟩
instance : Ty Try.prog 144 (.struct (Program.fieldsOf Try.prog 144)) := ⟨by kernel_rfl⟩
instance : Lay Try.prog 144 true 4 40 (.agg #[.pointer none, .pointer none, .pointer none, .string ByteArray.empty]) := ⟨by kernel_rfl, by kernel_rfl⟩
instance : Fld Try.prog 144 0 0 17 := ⟨by kernel_rfl⟩
instance : Fld Try.prog 144 1 1 17 := ⟨by kernel_rfl⟩
instance : Fld Try.prog 144 2 2 17 := ⟨by kernel_rfl⟩
instance : Fld Try.prog 144 3 3 9 := ⟨by kernel_rfl⟩
instance : Places Try.prog 144 [(0, 1), (1, 1), (2, 1), (3, 1)] := ⟨by kernel_rfl⟩
instance : Ty Try.prog 145 (.struct (Program.fieldsOf Try.prog 145)) := ⟨by kernel_rfl⟩
instance : Lay Try.prog 145 true 4 40 (.agg #[.pointer none, .pointer none, .pointer none, .string ByteArray.empty]) := ⟨by kernel_rfl, by kernel_rfl⟩
instance : Fld Try.prog 145 0 0 17 := ⟨by kernel_rfl⟩
instance : Fld Try.prog 145 1 1 17 := ⟨by kernel_rfl⟩
instance : Fld Try.prog 145 2 2 17 := ⟨by kernel_rfl⟩
instance : Fld Try.prog 145 3 3 9 := ⟨by kernel_rfl⟩
instance : Places Try.prog 145 [(0, 1), (1, 1), (2, 1), (3, 1)] := ⟨by kernel_rfl⟩
instance : Ty Try.prog 146 (.array 0 16) := ⟨by kernel_rfl⟩
instance : Lay Try.prog 146 true 0 0 (.agg #[]) := ⟨by kernel_rfl, by kernel_rfl⟩
instance : Ty Try.prog 147 (.struct (Program.fieldsOf Try.prog 147)) := ⟨by kernel_rfl⟩
instance : Lay Try.prog 147 true 0 0 (.agg #[]) := ⟨by kernel_rfl, by kernel_rfl⟩
instance : Places Try.prog 147 [(0, 0)] := ⟨by kernel_rfl⟩
instance : Ty Try.prog 148 (.struct (Program.fieldsOf Try.prog 148)) := ⟨by kernel_rfl⟩
instance : Lay Try.prog 148 true 0 0 (.agg #[]) := ⟨by kernel_rfl, by kernel_rfl⟩
instance : Places Try.prog 148 [(0, 0)] := ⟨by kernel_rfl⟩
instance : Lay Try.prog 149 false 1 8 (.nilFunc) := ⟨by kernel_rfl, by kernel_rfl⟩
instance : Ty Try.prog 150 (.int .u8) := ⟨by kernel_rfl⟩
instance : Lay Try.prog 150 false 1 1 (.int .u8 0) := ⟨by kernel_rfl, by kernel_rfl⟩
instance : Ty Try.prog 151 (.int .u8) := ⟨by kernel_rfl⟩
instance : Lay Try.prog 151 false 1 1 (.int .u8 0) := ⟨by kernel_rfl, by kernel_rfl⟩
instance : Lay Try.prog 152 false 1 8 (.nilFunc) := ⟨by kernel_rfl, by kernel_rfl⟩
instance : Ty Try.prog 153 (.pointer 5) := ⟨by kernel_rfl⟩
instance : Lay Try.prog 153 false 1 8 (.pointer none) := ⟨by kernel_rfl, by kernel_rfl⟩
instance : Ty Try.prog 154 (.int .i32) := ⟨by kernel_rfl⟩
instance : Lay Try.prog 154 false 1 4 (.int .i32 0) := ⟨by kernel_rfl, by kernel_rfl⟩
instance : Ty Try.prog 155 (.int .i32) := ⟨by kernel_rfl⟩
instance : Lay Try.prog 155 false 1 4 (.int .i32 0) := ⟨by kernel_rfl, by kernel_rfl⟩
instance : Ty Try.prog 156 (.struct (Program.fieldsOf Try.prog 156)) := ⟨by kernel_rfl⟩
instance : Lay Try.prog 156 true 11 48 (.agg #[.int .u64 0, .int .u64 0, .int .u32 0, .int .u8 0, .int .u8 0, .int .u8 0, .int .u8 0, .nilFunc, .pointer none, .int .i32 0, .int .i32 0]) := ⟨by kernel_rfl, by kernel_rfl⟩
instance : Fld Try.prog 156 0 0 12 := ⟨by kernel_rfl⟩
instance : Fld Try.prog 156 1 1 12 := ⟨by kernel_rfl⟩
instance : Fld Try.prog 156 2 2 130 := ⟨by kernel_rfl⟩
instance : Fld Try.prog 156 3 3 150 := ⟨by kernel_rfl⟩
instance : Fld Try.prog 156 4 4 5 := ⟨by kernel_rfl⟩
instance : Fld Try.prog 156 5 5 5 := ⟨by kernel_rfl⟩
instance : Fld Try.prog 156 6 6 151 := ⟨by kernel_rfl⟩
instance : Fld Try.prog 156 7 7 152 := ⟨by kernel_rfl⟩
instance : Fld Try.prog 156 8 8 153 := ⟨by kernel_rfl⟩
instance : Fld Try.prog 156 9 9 154 := ⟨by kernel_rfl⟩
instance : Fld Try.prog 156 10 10 155 := ⟨by kernel_rfl⟩
instance : Places Try.prog 156 [(0, 1), (1, 1), (2, 1), (3, 1), (4, 1), (5, 1), (6, 1), (7, 1), (8, 1), (9, 1), (10, 1)] := ⟨by kernel_rfl⟩
instance : Ty Try.prog 157 (.struct (Program.fieldsOf Try.prog 157)) := ⟨by kernel_rfl⟩
instance : Lay Try.prog 157 true 11 48 (.agg #[.int .u64 0, .int .u64 0, .int .u32 0, .int .u8 0, .int .u8 0, .int .u8 0, .int .u8 0, .nilFunc, .pointer none, .int .i32 0, .int .i32 0]) := ⟨by kernel_rfl, by kernel_rfl⟩
instance : Fld Try.prog 157 0 0 12 := ⟨by kernel_rfl⟩
instance : Fld Try.prog 157 1 1 12 := ⟨by kernel_rfl⟩
instance : Fld Try.prog 157 2 2 130 := ⟨by kernel_rfl⟩
instance : Fld Try.prog 157 3 3 150 := ⟨by kernel_rfl⟩
instance : Fld Try.prog 157 4 4 5 := ⟨by kernel_rfl⟩
instance : Fld Try.prog 157 5 5 5 := ⟨by kernel_rfl⟩
instance : Fld Try.prog 157 6 6 151 := ⟨by kernel_rfl⟩
instance : Fld Try.prog 157 7 7 152 := ⟨by kernel_rfl⟩
instance : Fld Try.prog 157 8 8 153 := ⟨by kernel_rfl⟩
instance : Fld Try.prog 157 9 9 154 := ⟨by kernel_rfl⟩
instance : Fld Try.prog 157 10 10 155 := ⟨by kernel_rfl⟩
instance : Places Try.prog 157 [(0, 1), (1, 1), (2, 1), (3, 1), (4, 1), (5, 1), (6, 1), (7, 1), (8, 1), (9, 1), (10, 1)] := ⟨by kernel_rfl⟩
instance : Lay Try.prog 158 false 1 8 (.pointer none) := ⟨by kernel_rfl, by kernel_rfl⟩
instance : Callable Try.prog 3 := callable_of Try.func3 (by kernel_rfl) rfl
instance : Callable Try.prog 4 := callable_of Try.func4 (by kernel_rfl) rfl
instance : Callable Try.prog 5 := callable_of Try.func5 (by kernel_rfl) rfl
instance : Callable Try.prog 6 := callable_of Try.func6 (by kernel_rfl) rfl
instance : Callable Try.prog 7 := callable_of Try.func7 (by kernel_rfl) rfl
instance : Callable Try.prog 8 := callable_of Try.func8 (by kernel_rfl) rfl
instance : Callable Try.prog 9 := callable_of Try.func9 (by kernel_rfl) rfl
instance : Callable Try.prog 10 := callable_of Try.func10 (by kernel_rfl) rfl
instance : Callable Try.prog 11 := callable_of Try.func11 (by kernel_rfl) rfl
instance : Callable Try.prog 12 := callable_of Try.func12 (by kernel_rfl) rfl
instance : Callable Try.prog 13 := callable_of Try.func13 (by kernel_rfl) rfl
instance : Callable Try.prog 14 := callable_of Try.func14 (by kernel_rfl) rfl
instance : Callable Try.prog 15 := callable_of Try.func15 (by kernel_rfl) rfl
instance : Callable Try.prog 16 := callable_of Try.func16 (by kernel_rfl) rfl
instance : Callable Try.prog 17 := callable_of Try.func17 (by kernel_rfl) rfl
instance : Callable Try.prog 18 := callable_of Try.func18 (by kernel_rfl) rfl
instance : Callable Try.prog 19 := callable_of Try.func19 (by kernel_rfl) rfl
instance : Callable Try.prog 20 := callable_of Try.func20 (by kernel_rfl) rfl
instance : Callable Try.prog 21 := callable_of Try.func21 (by kernel_rfl) rfl
instance : Callable Try.prog 22 := callable_of Try.func22 (by kernel_rfl) rfl
instance : Callable Try.prog 23 := callable_of Try.func23 (by kernel_rfl) rfl
instance : Callable Try.prog 24 := callable_of Try.func24 (by kernel_rfl) rfl
instance : Callable Try.prog 25 := callable_of Try.func25 (by kernel_rfl) rfl
instance : Callable Try.prog 26 := callable_of Try.func26 (by kernel_rfl) rfl
instance : Callable Try.prog 27 := callable_of Try.func27 (by kernel_rfl) rfl
instance : Callable Try.prog 28 := callable_of Try.func28 (by kernel_rfl) rfl
instance : Callable Try.prog 29 := callable_of Try.func29 (by kernel_rfl) rfl
instance : Callable Try.prog 30 := callable_of Try.func30 (by kernel_rfl) rfl
instance : Callable Try.prog 31 := callable_of Try.func31 (by kernel_rfl) rfl
instance : Callable Try.prog 32 := callable_of Try.func32 (by kernel_rfl) rfl
instance : Callable Try.prog 33 := callable_of Try.func33 (by kernel_rfl) rfl
instance : Callable Try.prog 34 := callable_of Try.func34 (by kernel_rfl) rfl
instance : Callable Try.prog 35 := callable_of Try.func35 (by kernel_rfl) rfl
instance : Callable Try.prog 36 := callable_of Try.func36 (by kernel_rfl) rfl
instance : Callable Try.prog 37 := callable_of Try.func37 (by kernel_rfl) rfl
instance : Callable Try.prog 38 := callable_of Try.func38 (by kernel_rfl) rfl
instance : Callable Try.prog 39 := callable_of Try.func39 (by kernel_rfl) rfl
instance : Callable Try.prog 40 := callable_of Try.func40 (by kernel_rfl) rfl
instance : Callable Try.prog 41 := callable_of Try.func41 (by kernel_rfl) rfl
instance : Callable Try.prog 42 := callable_of Try.func42 (by kernel_rfl) rfl
instance : Callable Try.prog 43 := callable_of Try.func43 (by kernel_rfl) rfl
instance : Callable Try.prog 44 := callable_of Try.func44 (by kernel_rfl) rfl
instance : Callable Try.prog 45 := callable_of Try.func45 (by kernel_rfl) rfl
instance : Callable Try.prog 46 := callable_of Try.func46 (by kernel_rfl) rfl
instance : Callable Try.prog 47 := callable_of Try.func47 (by kernel_rfl) rfl
instance : Callable Try.prog 48 := callable_of Try.func48 (by kernel_rfl) rfl
instance : Callable Try.prog 49 := callable_of Try.func49 (by kernel_rfl) rfl
instance : Callable Try.prog 50 := callable_of Try.func50 (by kernel_rfl) rfl
instance : Callable Try.prog 51 := callable_of Try.func51 (by kernel_rfl) rfl
instance : Callable Try.prog 52 := callable_of Try.func52 (by kernel_rfl) rfl
instance : Callable Try.prog 53 := callable_of Try.func53 (by kernel_rfl) rfl
instance : Callable Try.prog 54 := callable_of Try.func54 (by kernel_rfl) rfl
instance : Callable Try.prog 55 := callable_of Try.func55 (by kernel_rfl) rfl
instance : Callable Try.prog 56 := callable_of Try.func56 (by kernel_rfl) rfl
instance : Callable Try.prog 57 := callable_of Try.func57 (by kernel_rfl) rfl
instance : Callable Try.prog 58 := callable_of Try.func58 (by kernel_rfl) rfl
instance : Callable Try.prog 59 := callable_of Try.func59 (by kernel_rfl) rfl
instance : Callable Try.prog 60 := callable_of Try.func60 (by kernel_rfl) rfl
instance : Callable Try.prog 61 := callable_of Try.func61 (by kernel_rfl) rfl
instance : Callable Try.prog 63 := callable_of Try.func63 (by kernel_rfl) rfl
instance : Callable Try.prog 64 := callable_of Try.func64 (by kernel_rfl) rfl
instance : Callable Try.prog 65 := callable_of Try.func65 (by kernel_rfl) rfl
instance : Callable Try.prog 66 := callable_of Try.func66 (by kernel_rfl) rfl
instance : Callable Try.prog 67 := callable_of Try.func67 (by kernel_rfl) rfl
instance : Callable Try.prog 68 := callable_of Try.func68 (by kernel_rfl) rfl
instance : Callable Try.prog 69 := callable_of Try.func69 (by kernel_rfl) rfl
instance : Callable Try.prog 70 := callable_of Try.func70 (by kernel_rfl) rfl
instance : Callable Try.prog 71 := callable_of Try.func71 (by kernel_rfl) rfl
instance : Callable Try.prog 72 := callable_of Try.func72 (by kernel_rfl) rfl
instance : Callable Try.prog 73 := callable_of Try.func73 (by kernel_rfl) rfl
instance : Callable Try.prog 74 := callable_of Try.func74 (by kernel_rfl) rfl
instance : Callable Try.prog 75 := callable_of Try.func75 (by kernel_rfl) rfl
instance : Callable Try.prog 76 := callable_of Try.func76 (by kernel_rfl) rfl
instance : Callable Try.prog 77 := callable_of Try.func77 (by kernel_rfl) rfl
instance : Callable Try.prog 78 := callable_of Try.func78 (by kernel_rfl) rfl
instance : Callable Try.prog 79 := callable_of Try.func79 (by kernel_rfl) rfl
instance : Callable Try.prog 80 := callable_of Try.func80 (by kernel_rfl) rfl
instance : Callable Try.prog 81 := callable_of Try.func81 (by kernel_rfl) rfl
instance : Callable Try.prog 82 := callable_of Try.func82 (by kernel_rfl) rfl
instance : Callable Try.prog 83 := callable_of Try.func83 (by kernel_rfl) rfl
instance : Callable Try.prog 84 := callable_of Try.func84 (by kernel_rfl) rfl
instance : Callable Try.prog 85 := callable_of Try.func85 (by kernel_rfl) rfl
instance : Callable Try.prog 86 := callable_of Try.func86 (by kernel_rfl) rfl
instance : Callable Try.prog 87 := callable_of Try.func87 (by kernel_rfl) rfl
instance : Callable Try.prog 88 := callable_of Try.func88 (by kernel_rfl) rfl
instance : Callable Try.prog 89 := callable_of Try.func89 (by kernel_rfl) rfl
instance : Callable Try.prog 91 := callable_of Try.func91 (by kernel_rfl) rfl
instance : Callable Try.prog 92 := callable_of Try.func92 (by kernel_rfl) rfl
instance : Callable Try.prog 93 := callable_of Try.func93 (by kernel_rfl) rfl
instance : Callable Try.prog 94 := callable_of Try.func94 (by kernel_rfl) rfl
instance : Callable Try.prog 95 := callable_of Try.func95 (by kernel_rfl) rfl
instance : Callable Try.prog 96 := callable_of Try.func96 (by kernel_rfl) rfl
instance : Callable Try.prog 97 := callable_of Try.func97 (by kernel_rfl) rfl
instance : Callable Try.prog 98 := callable_of Try.func98 (by kernel_rfl) rfl
instance : Callable Try.prog 99 := callable_of Try.func99 (by kernel_rfl) rfl
instance : Callable Try.prog 100 := callable_of Try.func100 (by kernel_rfl) rfl
end Go.Proofs.Ytgflmkhfachlcaa
/-
  slices.Sort and slices.Compact at numbers: the kit's contracts, laid at this program, as contracts of ours.
-/
set_option linter.unusedSimpArgs false
set_option linter.unusedVariables false
namespace Go.Proofs.Ytgflmkhfachlcaa
open Go.Vx Go.ChangeShapes Go.WideShapes Go.ChangeAt Go.RowKit
def laysSort_ren : Go.Shelf.Ren := ⟨fun | 5 => 56 | 7 => 69 | 8 => 70 | 10 => 78 | 11 => 79 | 12 => 80 | 13 => 81 | 14 => 82 | 15 => 83 | 16 => 84 | 17 => 85 | 18 => 86 | 19 => 87 | 20 => 88 | 30 => 92 | 31 => 93 | 32 => 94 | 33 => 95 | 34 => 96 | 35 => 97 | 40 => 99 | n => n, fun | 0 => 0 | 3 => 3 | 4 => 4 | 5 => 5 | 9 => 9 | 22 => 22 | 23 => 22 | 25 => 3 | 32 => 69 | 35 => 122 | 36 => 123 | 41 => 117 | 44 => 130 | 46 => 132 | 53 => 134 | 57 => 138 | 63 => 140 | 64 => 141 | n => n, fun n => n⟩
theorem laysSort : SlLaysM.n5 Try.prog laysSort_ren where
  mixed := by kernel_rfl
  f5 := ⟨"slices.Sort[[]int,int]", by decide, Try.func56.trans (congrArg some (by kernel_rfl))⟩
  f7 := ⟨"slices.pdqsortOrdered[int]", by decide, Try.func69.trans (congrArg some (by kernel_rfl))⟩
  f8 := Try.func70.trans (congrArg some (by kernel_rfl))
  f10 := ⟨"slices.insertionSortOrdered[int]", by decide, Try.func78.trans (congrArg some (by kernel_rfl))⟩
  f11 := ⟨"slices.heapSortOrdered[int]", by decide, Try.func79.trans (congrArg some (by kernel_rfl))⟩
  f12 := ⟨"slices.breakPatternsOrdered[int]", by decide, Try.func80.trans (congrArg some (by kernel_rfl))⟩
  f13 := ⟨"slices.choosePivotOrdered[int]", by decide, Try.func81.trans (congrArg some (by kernel_rfl))⟩
  f14 := ⟨"slices.reverseRangeOrdered[int]", by decide, Try.func82.trans (congrArg some (by kernel_rfl))⟩
  f15 := ⟨"slices.partialInsertionSortOrdered[int]", by decide, Try.func83.trans (congrArg some (by kernel_rfl))⟩
  f16 := ⟨"cmp.Less[int]", by decide, Try.func84.trans (congrArg some (by kernel_rfl))⟩
  f17 := ⟨"slices.partitionEqualOrdered[int]", by decide, Try.func85.trans (congrArg some (by kernel_rfl))⟩
  f18 := ⟨"slices.partitionOrdered[int]", by decide, Try.func86.trans (congrArg some (by kernel_rfl))⟩
  f19 := Try.func87.trans (congrArg some (by kernel_rfl))
  f20 := Try.func88.trans (congrArg some (by kernel_rfl))
  f30 := ⟨"slices.siftDownOrdered[int]", by decide, Try.func92.trans (congrArg some (by kernel_rfl))⟩
  f31 := Try.func93.trans (congrArg some (by kernel_rfl))
  f32 := Try.func94.trans (congrArg some (by kernel_rfl))
  f33 := ⟨"slices.medianAdjacentOrdered[int]", by decide, Try.func95.trans (congrArg some (by kernel_rfl))⟩
  f34 := ⟨"slices.medianOrdered[int]", by decide, Try.func96.trans (congrArg some (by kernel_rfl))⟩
  f35 := ⟨"cmp.isNaN[int]", by decide, Try.func97.trans (congrArg some (by kernel_rfl))⟩
  f40 := ⟨"slices.order2Ordered[int]", by decide, Try.func99.trans (congrArg some (by kernel_rfl))⟩
  t0 := Try.underlying0
  a0 := Try.isAgg0
  z0 := Try.sizeOf0
  v0 := Try.zeroValue0
  t3 := Try.underlying3
  a3 := Try.isAgg3
  z3 := Try.sizeOf3
  v3 := Try.zeroValue3
  t4 := Try.underlying4
  a4 := Try.isAgg4
  z4 := Try.sizeOf4
  v4 := Try.zeroValue4
  t5 := Try.underlying5
  a5 := Try.isAgg5
  z5 := Try.sizeOf5
  v5 := Try.zeroValue5
  t9 := Try.underlying9
  a9 := Try.isAgg9
  z9 := Try.sizeOf9
  v9 := Try.zeroValue9
  t22 := Try.underlying22
  a22 := Try.isAgg22
  z22 := Try.sizeOf22
  v22 := Try.zeroValue22
  t23 := Try.underlying22
  a23 := Try.isAgg22
  z23 := Try.sizeOf22
  v23 := Try.zeroValue22
  t25 := Try.underlying3
  a25 := Try.isAgg3
  z25 := Try.sizeOf3
  v25 := Try.zeroValue3
  t32 := Try.underlying69
  a32 := Try.isAgg69
  z32 := Try.sizeOf69
  v32 := Try.zeroValue69
  t35 := Try.underlying122
  a35 := Try.isAgg122
  z35 := Try.sizeOf122
  v35 := Try.zeroValue122
  t36 := Try.underlying123
  a36 := Try.isAgg123
  z36 := Try.sizeOf123
  v36 := Try.zeroValue123
  t41 := Try.underlying117
  a41 := Try.isAgg117
  z41 := Try.sizeOf117
  v41 := Try.zeroValue117
  t44 := Try.underlying130
  a44 := Try.isAgg130
  z44 := Try.sizeOf130
  v44 := Try.zeroValue130
  t46 := Try.underlying132
  a46 := Try.isAgg132
  z46 := Try.sizeOf132
  v46 := Try.zeroValue132
  t53 := Try.underlying134
  a53 := Try.isAgg134
  z53 := Try.sizeOf134
  v53 := Try.zeroValue134
  t57 := Try.underlying138
  a57 := Try.isAgg138
  z57 := Try.sizeOf138
  v57 := Try.zeroValue138
  t63 := Try.underlying140
  a63 := Try.isAgg140
  z63 := Try.sizeOf140
  v63 := Try.zeroValue140
  t64 := Try.underlying141
  a64 := Try.isAgg141
  z64 := Try.sizeOf141
  v64 := Try.zeroValue141

attribute [local semireducible] Con
theorem Con.ofCallsS {P : Program} {f : FuncId} {args : Array Value} {G : GH} {μ : OH} {Φ : Value → GH → OH → Prop} (h : ∀ w, Mem G μ w → Calls P f args w fun e w' => ∃ v, e = .returned v ∧ ∃ G' μ', Step G μ w G' μ' w' ∧ Φ v G' μ') : Con P f args G μ Φ := by
  intro w hw
  exact (h w hw).mono fun e w' hq => by
    obtain ⟨v, rfl, hv⟩ := hq
    exact ⟨v, rfl, hv⟩
/-! ### What the kit's contracts do to the world, in steps of ours -/
section
variable {G : GH} {μ μ' : OH} {w : World} {b : Nat} {e : TypeId}
theorem Step.mapS {vs vs' : List Value} {f : Array Value → Array Value} (hw : Mem G μ w) (hb : Has μ b vs e) (hf : f vs.toArray = vs'.toArray) (hu : Upd b (.cells vs'.toArray e (0, 0)) μ μ') : Step G μ w G μ' (Go.Sort.mapBlock w b f) := by
  have hg := hw.own _ _ hb
  refine Step.upd hw hu rfl rfl rfl (by simp [Go.Sort.mapBlock]) ?_ (fun c hc => ?_)
  · simp only [Go.Sort.mapBlock, Array.getElem?_modify, if_true, hg, Option.map_some, Go.Sort.onCells, hf]
  · simp only [Go.Sort.mapBlock, Array.getElem?_modify]
    rw [if_neg (fun h => hc h.symm)]
theorem Step.grow (h : Mem G μ w) (os : Array Obj) : Step G μ w G μ (Go.Sort.grow w os) := by
  have hold : ∀ c, c < w.heap.size → (Go.Sort.grow w os).heap[c]? = w.heap[c]? := fun c hc => by
    show (w.heap ++ os)[c]? = _
    rw [Array.getElem?_append_left hc]
  refine ⟨⟨fun c o hc => ?_, fun c o hc => ?_, h.nodup, h.apart⟩, GH.le_refl _, rfl, rfl, rfl, ?_, fun c hc _ => hold c hc, fun c o hc => .inl ⟨o, hc⟩, fun c o hc => .inl ⟨o, hc⟩⟩
  · rw [hold c (lt_of_heap (h.g c o hc))]; exact h.g c o hc
  · rw [hold c (lt_of_heap (h.own c o hc))]; exact h.own c o hc
  · show w.heap.size ≤ (w.heap ++ os).size
    simp
end
theorem holds_own {G : GH} {μ : OH} {w : World} {b : Nat} {e : TypeId} {zs : List Int} {spare : List Value} (hw : Mem G μ w) (hb : Has μ b (zs.map (Value.int .i64 ·) ++ spare) e) : Go.Sort.Holds (Value.int .i64) w b 0 zs.toArray := by
  intro j hj
  have hj' : j < zs.length := by simpa using hj
  refine ⟨?_, ?_⟩
  · rw [Nat.zero_add]
    refine Cell.own hb ?_ w hw.sees
    rw [List.getElem?_append_left (by simpa using hj'), List.getElem?_map, List.getElem?_eq_getElem hj']
    simp [hj']
  · have := hw.own _ _ hb
    simp [World.frozen?, this]
theorem putCells_own {zs ys : List Int} {spare : List Value} (h : ys.length = zs.length) : Go.Sort.putCells (Value.int .i64) 0 ys.toArray (zs.map (Value.int .i64 ·) ++ spare).toArray = (ys.map (Value.int .i64 ·) ++ spare).toArray := by
  apply Array.ext_getElem?
  intro k
  simp only [Go.Sort.putCells, Array.getElem?_mapIdx, List.getElem?_toArray, List.size_toArray, Nat.zero_le, true_and, Nat.zero_add, Nat.sub_zero]
  by_cases hk : k < ys.length
  · rw [List.getElem?_append_left (by simp; omega), List.getElem?_append_left (by simpa using hk)]
    simp [hk, h ▸ hk]
  · rw [List.getElem?_append_right (by simp; omega), List.getElem?_append_right (by simp; omega)]
    have hk2 : ¬ k < zs.length := by omega
    simp only [List.length_map, h]
    cases spare[k - zs.length]? with
    | none => rfl
    | some v => simp only [Option.map_some, hk2, if_false]
def sortL (l : List Int) : List Int := l.mergeSort fun x y => decide (x ≤ y)
theorem sortL_perm (l : List Int) : (sortL l).Perm l := List.mergeSort_perm _ _
theorem sortL_le (l : List Int) : (sortL l).Pairwise (· ≤ ·) := by
  have := List.pairwise_mergeSort (le := fun (x y : Int) => decide (x ≤ y)) (fun a b c h1 h2 => by simp only [decide_eq_true_eq] at *; omega) (fun a b => by simp only [Bool.or_eq_true, decide_eq_true_eq]; omega) l
  exact this.imp fun h => by simpa using h
theorem sort_s {G : GH} {zs : List Int} {b cap : Nat} {e : TypeId} {spare : List Value} (hsz : zs.length < 4611686018427387904) :
    Con Try.prog 56 #[.slice (some ⟨b, 0, none⟩) zs.length cap] G [(b, .cells (zs.map (Value.int .i64 ·) ++ spare).toArray e (0, 0))]
      (fun r G' μ' => r = .tuple #[] ∧ G' = G ∧ μ' = [(b, .cells ((sortL zs).map (Value.int .i64 ·) ++ spare).toArray e (0, 0))]) := by
  refine Con.ofCallsS fun w hw => ?_
  have hb : Has [(b, Obj.cells (zs.map (Value.int .i64 ·) ++ spare).toArray e (0, 0))] b (zs.map (Value.int .i64 ·) ++ spare) e := List.mem_cons_self
  refine (AnyM.slices_Sort_int laysSort b 0 cap zs w (holds_own hw hb) (lt_of_heap (hw.own _ _ hb)) hsz).mono ?_
  rintro _ w' ⟨rfl, n, os, rfl⟩
  have s1 := Step.drew hw n
  have s2 := Step.mapS (f := Go.Sort.putCells (Value.int .i64) 0 (sortL zs).toArray) s1.mem hb (putCells_own (sortL_perm zs).length_eq) (.here _ _)
  exact ⟨_, rfl, G, _, (s1.trans s2).trans (Step.grow s2.mem os), rfl, rfl, rfl⟩
theorem sort0_s {G : GH} {p : Option Addr} {cap : Nat} : Con Try.prog 56 #[.slice p 0 cap] G [] (Just (.tuple #[]) G) := by
  refine Con.ofCallsS fun w hw => ?_
  refine (AnyM.slices_Sort_int_none laysSort p cap w).mono ?_
  rintro _ w' ⟨rfl, rfl⟩
  exact ⟨_, rfl, G, [], Step.refl hw, rfl, rfl, rfl⟩
end Go.Proofs.Ytgflmkhfachlcaa
/-
  Majorities, in plain Lean: distinct members, counted in two ways; two majorities have a member in common.
-/
set_option linter.unusedSimpArgs false
set_option linter.unusedVariables false
namespace Go.Proofs.Ytgflmkhfachlcaa
open Go.Vx Go.ChangeShapes Go.WideShapes Go.ChangeAt Go.RowKit
/-- Lists without double ones that have the same members. -/
theorem perm_of_mem {l l' : List Int} (h : l.Nodup) (h' : l'.Nodup) (hm : ∀ x, x ∈ l ↔ x ∈ l') : l.Perm l' := by
  rw [List.perm_iff_count]
  intro a
  rw [h.count, h'.count]
  simp only [hm a]
def once (l : List Int) : List Int := Lib.compact (sortL l)
end Go.Proofs.Ytgflmkhfachlcaa
/-
  tally (layer 34), in plain Lean: votes as bits, by indexes, and as a list.
-/
set_option linter.unusedSimpArgs false
set_option linter.unusedVariables false
namespace Go.Proofs.Ytgflmkhfachlcaa
open Go.Vx Go.ChangeShapes Go.WideShapes Go.ChangeAt Go.RowKit
/-- Votes, by indexes. -/
abbrev Vs := List (Int × Nat)
def vl (V : Vs) : List (Int × Value) := V.map fun x => (x.1, uv x.2)
def nget (V : Vs) (i : Int) : Nat := ((V.find? fun x => decide (x.1 = i)).map (·.2)).getD 0
def nput (V : Vs) (i : Int) (x : Nat) : Vs := if i ∈ V.map (·.1) then V.map (fun y => if y.1 = i then (i, x) else y) else V ++ [(i, x)]
def ndrop (V : Vs) (i : Int) : Vs := V.filter fun x => decide (¬ x.1 ≤ i)
theorem vl_keys (V : Vs) : (vl V).map (·.1) = V.map (·.1) := by simp [vl, Function.comp_def]
theorem mget_vl (V : Vs) (i : Int) : mget (vl V) i = (V.find? fun x => decide (x.1 = i)).map fun x => uv x.2 := by
  unfold mget vl
  rw [List.find?_map, Option.map_map]
  rfl
theorem vl_put (V : Vs) (i : Int) (x : Nat) : mput (vl V) i (uv x) = vl (nput V i x) := by
  unfold mput nput
  rw [vl_keys]
  split
  · unfold vl
    rw [List.map_map, List.map_map]
    apply List.map_congr_left
    intro y hy
    simp only [Function.comp]
    split <;> rfl
  · simp [vl]
theorem nget_no {V : Vs} {i : Int} (h : i ∉ V.map (·.1)) : nget V i = 0 := by
  unfold nget
  rw [List.find?_eq_none.2 fun x hx => by
    rw [decide_eq_true_iff]
    exact fun e => h (List.mem_map.2 ⟨x, hx, e⟩)]
  rfl
theorem nget_put {V : Vs} {i j : Int} {x : Nat} : nget (nput V i x) j = if j = i then x else nget V j := by
  have h := mget_put (l := vl V) (k := i) (k' := j) (v := uv x)
  rw [vl_put, mget_vl, mget_vl] at h
  unfold nget
  by_cases hj : j = i
  · rw [if_pos hj] at h ⊢
    cases hf : (nput V i x).find? fun x => decide (x.1 = j) with
    | none => rw [hf] at h; cases h
    | some y =>
      rw [hf] at h
      simp only [Option.map_some, Option.some.injEq, Value.int.injEq, true_and] at h
      simp only [Option.map_some, Option.getD_some]
      omega
  · rw [if_neg hj] at h ⊢
    cases hf : (nput V i x).find? fun x => decide (x.1 = j) with
    | none =>
      rw [hf] at h
      cases hg : V.find? fun x => decide (x.1 = j) with
      | none => rfl
      | some z => rw [hg] at h; cases h
    | some y =>
      rw [hf] at h
      cases hg : V.find? fun x => decide (x.1 = j) with
      | none => rw [hg] at h; cases h
      | some z =>
        rw [hg] at h
        simp only [Option.map_some, Option.some.injEq, Value.int.injEq, true_and] at h
        simp only [Option.map_some, Option.getD_some]
        omega
theorem nput_keys {V : Vs} {i j : Int} {x : Nat} : j ∈ (nput V i x).map (·.1) ↔ j = i ∨ j ∈ V.map (·.1) := by
  unfold nput
  split
  · rename_i h
    rw [List.map_map]
    have e : V.map ((fun y => y.1) ∘ fun y => if y.1 = i then (i, x) else y) = V.map (·.1) := by
      apply List.map_congr_left
      intro y hy
      simp only [Function.comp]
      split
      · rename_i h; exact h.symm
      · rfl
    rw [e]
    constructor
    · exact .inr
    · rintro (rfl | h')
      · exact h
      · exact h'
  · simp only [List.map_append, List.map_cons, List.map_nil, List.mem_append, List.mem_singleton]
    exact or_comm
theorem ndrop_keys {V : Vs} {i j : Int} : j ∈ (ndrop V i).map (·.1) ↔ j ∈ V.map (·.1) ∧ ¬ j ≤ i := by
  unfold ndrop
  simp only [List.mem_map, List.mem_filter, decide_eq_true_eq]
  constructor
  · rintro ⟨x, ⟨h1, h2⟩, rfl⟩
    exact ⟨⟨x, h1, rfl⟩, h2⟩
  · rintro ⟨⟨x, h1, rfl⟩, h2⟩
    exact ⟨x, ⟨h1, h2⟩, rfl⟩
theorem nget_drop {V : Vs} {i j : Int} (h : ¬ j ≤ i) : nget (ndrop V i) j = nget V j := by
  unfold nget ndrop
  rw [List.find?_filter]
  congr 3
  funext x
  by_cases hx : x.1 = j
  · simp [hx, h]
  · simp [hx]
/-- A vote. -/
structure Vt where
  r : Int
  n : Int
  index : Int
  node : Int
  drop : Bool
def hasV (got : List Vt) (i nd : Int) : Prop := ∃ g ∈ got, g.index = i ∧ g.node = nd
instance (got : List Vt) (i nd : Int) : Decidable (hasV got i nd) := by unfold hasV; infer_instance
def countsP (r n : Int) (got : List Vt) (low : Int) (v : Vt) : Prop := (v.r = r ∧ v.n = n) ∧ 1 ≤ v.index ∧ v.index ≤ 4294967296 ∧ low < v.index ∧ 1 ≤ v.node ∧ v.node ≤ 9 ∧ ¬ hasV got v.index v.node
instance (r n : Int) (got : List Vt) (low : Int) (v : Vt) : Decidable (countsP r n got low v) := by unfold countsP; infer_instance
/-- What the bits and the list have in common. -/
structure TInv (got : List Vt) (low : Int) (V : Vs) : Prop where
  keys : (V.map (·.1)).Nodup
  bit : ∀ i, low < i → ∀ nd : Nat, (nget V i).testBit nd = true ↔ hasV got i nd
  low : ∀ i ∈ V.map (·.1), low < i
  pos : ∀ i ∈ V.map (·.1), nget V i ≠ 0
  small : ∀ i, nget V i < 1024
  node : ∀ g ∈ got, 1 ≤ g.node ∧ g.node ≤ 9
theorem TInv.zero : TInv [] 0 [] := ⟨by simp, fun i _ nd => by simp [nget, hasV], by simp, by simp, fun i => by simp [nget], by simp⟩
theorem nodup_put {V : Vs} {i : Int} {x : Nat} (h : (V.map (·.1)).Nodup) : ((nput V i x).map (·.1)).Nodup := by
  unfold nput
  split
  · rw [List.map_map]
    have e : V.map ((fun y => y.1) ∘ fun y => if y.1 = i then (i, x) else y) = V.map (·.1) := by
      apply List.map_congr_left
      intro y hy
      simp only [Function.comp]
      split
      · rename_i h; exact h.symm
      · rfl
    rw [e]
    exact h
  · rename_i hn
    rw [List.map_append, List.nodup_append]
    refine ⟨h, by simp, fun a ha b hb e => ?_⟩
    simp only [List.map_cons, List.map_nil, List.mem_singleton] at hb
    subst hb e
    exact hn ha
theorem or_bit {x nd m : Nat} : (x ||| 2 ^ nd).testBit m = true ↔ x.testBit m = true ∨ m = nd := by
  rw [Nat.testBit_or, Bool.or_eq_true, Nat.testBit_two_pow]
  simp only [decide_eq_true_eq]
  exact ⟨fun h => h.imp id Eq.symm, fun h => h.imp id Eq.symm⟩
theorem TInv.vote {got : List Vt} {low : Int} {V : Vs} (h : TInv got low V) {v : Vt} {nd : Nat} (hi : low < v.index) (hnd : v.node = nd) (h1 : 1 ≤ nd ∧ nd ≤ 9) : TInv (got ++ [v]) low (nput V v.index (nget V v.index ||| 2 ^ nd)) := by
  refine ⟨nodup_put h.keys, fun i hl m => ?_, fun i hm => ?_, fun i hm => ?_, fun i => ?_, fun g hg => ?_⟩
  · rw [nget_put]
    have hb := h.bit i hl m
    have hh : hasV (got ++ [v]) i m ↔ hasV got i m ∨ (v.index = i ∧ v.node = m) := by
      unfold hasV
      simp only [List.mem_append, List.mem_singleton]
      constructor
      · rintro ⟨g, hg | rfl, h2⟩
        · exact .inl ⟨g, hg, h2⟩
        · exact .inr h2
      · rintro (⟨g, hg, h2⟩ | h2)
        · exact ⟨g, .inl hg, h2⟩
        · exact ⟨v, .inr rfl, h2⟩
    rw [hh]
    by_cases he : i = v.index
    · subst he
      rw [if_pos rfl, or_bit, hb]
      constructor
      · rintro (h2 | rfl)
        · exact .inl h2
        · exact .inr ⟨rfl, hnd⟩
      · rintro (h2 | ⟨_, h2⟩)
        · exact .inl h2
        · exact .inr (by omega)
    · rw [if_neg he, hb]
      constructor
      · exact .inl
      · rintro (h2 | ⟨h2, _⟩)
        · exact h2
        · exact absurd h2.symm he
  · rcases nput_keys.1 hm with rfl | hm
    · exact hi
    · exact h.low i hm
  · rw [nget_put]
    split
    · intro e
      have : (nget V v.index ||| 2 ^ nd).testBit nd = true := or_bit.2 (.inr rfl)
      rw [e] at this
      simp at this
    · rename_i hne
      rcases nput_keys.1 hm with rfl | hm
      · exact absurd rfl hne
      · exact h.pos i hm
  · rw [nget_put]
    split
    · exact Nat.or_lt_two_pow (n := 10) (h.small _) (Nat.pow_lt_pow_right (by omega) (by omega))
    · exact h.small i
  · rcases List.mem_append.1 hg with hg | hg
    · exact h.node g hg
    · rw [List.mem_singleton] at hg
      subst hg
      omega
theorem TInv.drop {got : List Vt} {low : Int} {V : Vs} (h : TInv got low V) (i : Int) : TInv got (max low i) (ndrop V i) := by
  refine ⟨?_, fun j hl m => ?_, fun j hm => ?_, fun j hm => ?_, fun j => ?_, h.node⟩
  · exact h.keys.sublist (List.Sublist.map _ (List.filter_sublist))
  · rw [nget_drop (by omega)]
    exact h.bit j (by omega) m
  · have := ndrop_keys.1 hm
    have := h.low j this.1
    omega
  · obtain ⟨h1, h2⟩ := ndrop_keys.1 hm
    rw [nget_drop h2]
    exact h.pos j h1
  · by_cases hj : j ≤ i
    · rw [nget_no fun hm => (ndrop_keys.1 hm).2 hj]
      omega
    · rw [nget_drop hj]
      exact h.small j
/-- Two lists that rise, of the same members, are the same. -/
theorem lt_ext : ∀ {l l' : List Int}, l.Pairwise (· < ·) → l'.Pairwise (· < ·) → (∀ x, x ∈ l ↔ x ∈ l') → l = l'
  | [], [], _, _, _ => rfl
  | [], b :: l', _, _, h => absurd ((h b).2 (by simp)) (by simp)
  | a :: l, [], _, _, h => absurd ((h a).1 (by simp)) (by simp)
  | a :: l, b :: l', h1, h2, h => by
    rw [List.pairwise_cons] at h1 h2
    have hab : a = b := by
      have ha := (h a).1 (by simp)
      have hb := (h b).2 (by simp)
      rw [List.mem_cons] at ha hb
      rcases ha with ha | ha
      · exact ha
      · rcases hb with hb | hb
        · exact hb.symm
        · have := h1.1 b hb
          have := h2.1 a ha
          omega
    subst hab
    rw [lt_ext h1.2 h2.2 fun x => ?_]
    constructor
    · intro hx
      have := (h x).1 (List.mem_cons_of_mem _ hx)
      rw [List.mem_cons] at this
      rcases this with rfl | h3
      · have := h1.1 x hx; omega
      · exact h3
    · intro hx
      have := (h x).2 (List.mem_cons_of_mem _ hx)
      rw [List.mem_cons] at this
      rcases this with rfl | h3
      · have := h2.1 x hx; omega
      · exact h3
end Go.Proofs.Ytgflmkhfachlcaa
/-
  disk (layer 18), in plain Lean: files by numbers; what is done to them, by the program and by the reference.
-/
set_option linter.unusedSimpArgs false
set_option linter.unusedVariables false
namespace Go.Proofs.Ytgflmkhfachlcaa
open Go.Vx Go.ChangeShapes Go.WideShapes Go.ChangeAt Go.RowKit
abbrev Fl := Int × List Int
structure Dop where
  kind : Int
  no : Int
  data : List Int
abbrev Fs := Int → Option (List Int)
def gdo (g : Fs) (x : Dop) : Fs := fun k =>
  if k ≠ x.no then g k else if x.kind = 1 then some ((g k).getD []) else if x.kind = 2 then (g k).map (· ++ x.data) else if x.kind = 3 then none else g k
def gall (g : Fs) (l : List Dop) : Fs := l.foldl gdo g
def rget (R : List Fl) (k : Int) : Option (List Int) := (R.find? fun f => decide (f.1 = k)).map (·.2)
theorem rget_nil (k : Int) : rget [] k = none := rfl
theorem rget_cons (f : Fl) (R : List Fl) (k : Int) : rget (f :: R) k = if f.1 = k then some f.2 else rget R k := by
  unfold rget
  rw [List.find?_cons]
  by_cases h : f.1 = k
  · simp [h]
  · simp [h]
def Ris (R : List Fl) : Prop := R.Pairwise fun a b => a.1 < b.1
def Rep (R : List Fl) (g : Fs) : Prop := Ris R ∧ ∀ k, rget R k = g k
theorem rget_none {R : List Fl} {k : Int} : rget R k = none ↔ k ∉ R.map (·.1) := by
  induction R with
  | nil => simp [rget_nil]
  | cons f R ih =>
    rw [rget_cons, List.map_cons, List.mem_cons, not_or]
    by_cases h : f.1 = k
    · subst h; simp
    · rw [if_neg h, ih]
      exact ⟨fun h2 => ⟨fun e => h e.symm, h2⟩, fun h2 => h2.2⟩
theorem rget_mem {R : List Fl} (h : Ris R) {f : Fl} (hf : f ∈ R) : rget R f.1 = some f.2 := by
  induction R with
  | nil => cases hf
  | cons a R ih =>
    unfold Ris at h
    rw [List.pairwise_cons] at h
    rw [rget_cons]
    rcases List.mem_cons.1 hf with rfl | hf
    · rw [if_pos rfl]
    · have := h.1 f hf
      rw [if_neg (by omega)]
      exact ih h.2 hf
theorem Ris.keys {R : List Fl} (h : Ris R) : (R.map (·.1)).Pairwise (· < ·) := List.pairwise_map.2 h
theorem Ris.self {R : List Fl} (h : Ris R) : (R.map (·.1)).map (fun k => (k, (rget R k).getD [])) = R := by
  rw [List.map_map]
  conv => rhs; rw [← List.map_id R]
  apply List.map_congr_left
  intro f hf
  simp only [Function.comp, id, rget_mem h hf, Option.getD_some]
theorem rep_ext {R R' : List Fl} {g : Fs} (h : Rep R g) (h' : Rep R' g) : R = R' := by
  have hk : R.map (·.1) = R'.map (·.1) := lt_ext h.1.keys h'.1.keys fun x => by
    have a := rget_none (R := R) (k := x)
    have b := rget_none (R := R') (k := x)
    rw [h.2] at a
    rw [h'.2] at b
    by_cases hx : x ∈ R.map (·.1)
    · simp only [hx, not_true_eq_false, iff_false] at a
      exact ⟨fun _ => Decidable.byContradiction fun hn => a (b.2 hn), fun _ => hx⟩
    · simp only [hx, not_false_eq_true, iff_true] at a
      exact ⟨fun h => absurd h hx, fun h => absurd h (b.1 a)⟩
  rw [← h.1.self, ← h'.1.self, hk]
  apply List.map_congr_left
  intro k _
  rw [h.2, h'.2]
/-- What the reference keeps of a file. -/
def kp (x : Dop) (f : Fl) : List Fl := if f.1 ≠ x.no then [f] else if x.kind = 2 then [(x.no, f.2 ++ x.data)] else if x.kind = 1 then [f] else []
def doneL (x : Dop) : List Fl → Bool → List Fl
  | [], ins => if ins = true then [(x.no, [])] else []
  | f :: R, ins => if ins = true ∧ x.no < f.1 then (x.no, []) :: (kp x f ++ doneL x R false) else kp x f ++ doneL x R ins
def insB (x : Dop) (R : List Fl) : Bool := decide (x.kind = 1 ∧ x.no ∉ R.map (·.1))
def doneR (R : List Fl) (x : Dop) : List Fl := doneL x R (insB x R)
theorem kp_key {x : Dop} {f a : Fl} (h : a ∈ kp x f) : a.1 = f.1 := by
  unfold kp at h
  split at h
  · rw [List.mem_singleton] at h; rw [h]
  · rename_i hn
    split at h
    · rw [List.mem_singleton] at h; rw [h]; simp at hn; exact hn.symm
    · split at h
      · rw [List.mem_singleton] at h; rw [h]
      · cases h
theorem doneL_keys {x : Dop} : ∀ {R : List Fl} {ins : Bool} {a : Fl}, a ∈ doneL x R ins → a.1 ∈ R.map (·.1) ∨ (ins = true ∧ a.1 = x.no)
  | [], ins, a, h => by
    unfold doneL at h
    split at h
    · rw [List.mem_singleton] at h
      exact .inr ⟨by assumption, by rw [h]⟩
    · cases h
  | f :: R, ins, a, h => by
    unfold doneL at h
    split at h
    · rename_i hc
      rcases List.mem_cons.1 h with rfl | h
      · exact .inr ⟨hc.1, rfl⟩
      · rcases List.mem_append.1 h with h | h
        · exact .inl (by rw [kp_key h]; simp)
        · rcases doneL_keys h with h | h
          · exact .inl (List.mem_cons_of_mem _ h)
          · exact absurd h.1 (by simp)
    · rcases List.mem_append.1 h with h | h
      · exact .inl (by rw [kp_key h]; simp)
      · rcases doneL_keys h with h | h
        · exact .inl (List.mem_cons_of_mem _ h)
        · exact .inr h
theorem kp_len {x : Dop} {f : Fl} : (kp x f).Pairwise fun a b => a.1 < b.1 := by
  unfold kp
  split
  · exact List.pairwise_singleton _ _
  · split
    · exact List.pairwise_singleton _ _
    · split
      · exact List.pairwise_singleton _ _
      · exact List.Pairwise.nil
theorem doneL_ris {x : Dop} : ∀ {R : List Fl} {ins : Bool}, Ris R → (ins = true → x.no ∉ R.map (·.1)) → Ris (doneL x R ins)
  | [], ins, h, hi => by
    unfold doneL
    split
    · exact List.pairwise_singleton _ _
    · exact List.Pairwise.nil
  | f :: R, ins, h, hi => by
    have h0 := h
    unfold Ris at h
    rw [List.pairwise_cons] at h
    have key : ∀ ins', (ins' = true → x.no ∉ R.map (·.1) ∧ ¬ x.no < f.1 ∧ x.no ≠ f.1) → Ris (kp x f ++ doneL x R ins') := fun ins' hc => by
      unfold Ris
      rw [List.pairwise_append]
      refine ⟨kp_len, doneL_ris h.2 fun e => (hc e).1, fun a ha b hb => ?_⟩
      rw [kp_key ha]
      rcases doneL_keys hb with hb | hb
      · obtain ⟨c, hc2, e⟩ := List.mem_map.1 hb
        have := h.1 c hc2
        omega
      · have := hc hb.1
        omega
    unfold doneL
    split
    · rename_i hc
      have k2 := key false (fun e => by cases e)
      unfold Ris at k2 ⊢
      rw [List.pairwise_cons]
      refine ⟨fun b hb => ?_, k2⟩
      show x.no < b.1
      rcases List.mem_append.1 hb with hb | hb
      · rw [kp_key hb]; exact hc.2
      · rcases doneL_keys hb with hb | hb
        · obtain ⟨c, hc2, e⟩ := List.mem_map.1 hb
          have := h.1 c hc2
          omega
        · exact absurd hb.1 (by simp)
    · rename_i hc
      refine key ins fun e => ?_
      have := hi e
      rw [List.map_cons, List.mem_cons, not_or] at this
      exact ⟨this.2, fun h2 => hc ⟨e, h2⟩, this.1⟩
theorem rget_app {R R' : List Fl} {k : Int} : rget (R ++ R') k = (rget R k).or (rget R' k) := by
  unfold rget
  rw [List.find?_append]
  cases R.find? fun f => decide (f.1 = k) <;> simp
theorem kp_get {x : Dop} {f : Fl} {k : Int} : rget (kp x f) k = if f.1 ≠ k then none else if k ≠ x.no then some f.2 else if x.kind = 2 then some (f.2 ++ x.data) else if x.kind = 1 then some f.2 else none := by
  unfold kp
  by_cases h1 : f.1 = k
  · subst h1
    by_cases h2 : f.1 = x.no
    · by_cases h3 : x.kind = 2
      · simp [h2, h3, rget_cons]
      · by_cases h4 : x.kind = 1
        · simp [h2, h3, h4, rget_cons]
        · simp [h2, h3, h4, rget_nil]
    · simp [h2, rget_cons]
  · by_cases h2 : f.1 = x.no
    · have h5 : x.no ≠ k := h2 ▸ h1
      by_cases h3 : x.kind = 2
      · simp [h2, h3, rget_cons, h5, rget_nil]
      · by_cases h4 : x.kind = 1
        · simp [h2, h3, h4, rget_cons, h5, rget_nil]
        · simp [h2, h3, h4, rget_nil, h5]
    · simp [h2, h1, rget_cons, rget_nil]
theorem doneL_get {x : Dop} (hk : 1 ≤ x.kind ∧ x.kind ≤ 3) : ∀ {R : List Fl} {ins : Bool}, Ris R → (ins = true → x.kind = 1 ∧ x.no ∉ R.map (·.1)) → ∀ k, rget (doneL x R ins) k = if k ≠ x.no then rget R k else if ins = true then some [] else if x.kind = 1 then rget R k else if x.kind = 2 then (rget R k).map (· ++ x.data) else none
  | [], ins, h, hi, k => by
    unfold doneL
    cases ins with
    | true =>
      simp only [if_true, rget_cons, rget_nil]
      by_cases h : x.no = k
      · simp [h]
      · have : k ≠ x.no := fun e => h e.symm
        simp [h, this]
    | false => simp [rget_nil]
  | f :: R, ins, h, hi, k => by
    have h0 := h
    unfold Ris at h
    rw [List.pairwise_cons] at h
    have hnf : f.1 ∉ R.map (·.1) := fun hm => by
      obtain ⟨c, hc, e⟩ := List.mem_map.1 hm
      have := h.1 c hc
      omega
    have hrf := rget_none.2 hnf
    have ihF := doneL_get hk (R := R) (ins := false) h.2 (fun e => by cases e) k
    unfold doneL
    split
    · rename_i hc
      obtain ⟨h1, h2⟩ := hi hc.1
      rw [rget_cons, rget_app, kp_get, ihF, rget_cons]
      by_cases e : k = x.no
      · subst e
        simp [hc.1]
      · have e' : ¬ x.no = k := fun h => e h.symm
        by_cases e2 : f.1 = k
        · simp [e, e', e2]
        · simp [e, e', e2]
    · rename_i hc
      have ih := doneL_get hk (R := R) (ins := ins) h.2 (fun e => ⟨(hi e).1, fun hm => (hi e).2 (List.mem_cons_of_mem _ hm)⟩) k
      rw [rget_app, kp_get, ih, rget_cons]
      by_cases e2 : f.1 = k
      · subst e2
        by_cases e : f.1 = x.no
        · cases ins with
          | true => exact absurd (by rw [← e]; simp) (hi rfl).2
          | false =>
            rw [e] at hrf
            by_cases h3 : x.kind = 2
            · simp [e, h3]
            · by_cases h4 : x.kind = 1
              · simp [e, h3, h4]
              · simp [e, h3, h4]
        · simp [e]
      · simp [e2]
theorem rep_done {R : List Fl} {g : Fs} {x : Dop} (hk : 1 ≤ x.kind ∧ x.kind ≤ 3) (h : Rep R g) : Rep (doneR R x) (gdo g x) := by
  unfold doneR
  refine ⟨doneL_ris h.1 fun e => (of_decide_eq_true e).2, fun k => ?_⟩
  rw [doneL_get (ins := insB x R) hk h.1 (fun e => of_decide_eq_true e) k, h.2]
  unfold gdo
  by_cases e : k = x.no
  · subst e
    have hn := rget_none (R := R) (k := x.no)
    rw [h.2] at hn
    unfold insB
    by_cases h1 : x.kind = 1
    · by_cases h2 : x.no ∈ R.map (·.1)
      · have : g x.no ≠ none := fun e => (hn.1 e) h2
        obtain ⟨b, hb⟩ := Option.ne_none_iff_exists'.1 this
        simp [h1, h2, hb]
      · have := hn.2 h2
        simp [h1, h2, this]
    · by_cases h2 : x.kind = 2
      · simp [h1, h2]
      · have : x.kind = 3 := by omega
        simp [h1, h2, this]
  · simp [e]
theorem rep_all {R : List Fl} {g : Fs} {l : List Dop} (hl : ∀ x ∈ l, 1 ≤ x.kind ∧ x.kind ≤ 3) (h : Rep R g) : Rep (l.foldl doneR R) (gall g l) := by
  unfold gall
  induction l generalizing R g with
  | nil => exact h
  | cons x l ih => exact ih (fun y hy => hl y (List.mem_cons_of_mem _ hy)) (rep_done (hl x (by simp)) h)
end Go.Proofs.Ytgflmkhfachlcaa
/-
  The library's iterators at numbers: slices.Values; slices.AppendSeq, slices.Collect over whatever iterator.
-/
set_option linter.unusedSimpArgs false
set_option linter.unusedVariables false
namespace Go.Proofs.Ytgflmkhfachlcaa
open Go.Vx Go.ChangeShapes Go.WideShapes Go.ChangeAt Go.RowKit
theorem values_s {G : GH} {A : Option Addr} {n c : Nat} : Con Try.prog 53 #[.slice A n c] G []
    (fun r G' μ' => ∃ b, r = .func (.func 66) #[] #[.pointer (some ⟨b, 0, none⟩)] ∧ G' = G ∧ μ' = [(b, .cells [.slice A n c].toArray 22 (0, 0))]) := by
  (refine v_enter Try.func53 rfl Try.ntmps53 rfl ?_; intro B _)
  repeat' (first | apply v_seq | apply v_region | apply v_nil | (apply v_pure; (case hop => first | (apply p_assign <;> rfl) | (apply p_makeFunc <;> rfl)); (case hd => rfl)) | (apply v_box; (case hx => rfl); (case hz => rfl); (case hd => rfl); intro b) | fail)
  refine v_ret [(b, _)] (outsA1 rfl rfl) (by repeat (first | exact List.Sublist.refl _ | fail)) ?_
  exact ⟨b, rfl, rfl, rfl⟩
theorem vals_seq {G : GH} {l : List Int} {A : Option Addr} {n c b : Nat} (hs : Sl G 1 (IntR .i64) (.slice A n c) l) (hl : l.length ≤ 1048576) : SeqCon Try.prog 66 [.pointer (some ⟨b, 0, none⟩)] keyI (fun xs => xs = l) l.length G [(b, .cells [.slice A n c].toArray 22 (0, 0))] := by
  intro lp J G1 ν hle hJ0 hY
  obtain ⟨A', c', e0, hlc, hcm, hsome, hel, -⟩ := (hs.mono hle).openInt
  cases e0
  simp only [maxLen] at hcm
  (refine v_enter Try.func66 rfl Try.ntmps66 rfl ?_; intro B _)
  repeat' (first | apply v_seq | apply v_region | apply v_nil | apply v_block | (apply v_pure; (case hop => first | (apply p_move <;> rfl) | (apply p_lenSlice <;> rfl) | fail); (case hd => rfl)) | (apply v_read; (case hop => first | (apply r_load1; rfl; (apply Cell.own; (case h => (repeat (first | exact List.Mem.head _ | fail))); rfl)) | fail); (case hd => rfl)) | fail)
  refine v_loopI (ι := Nat) [7, 5, 6, 0] (fun k vs G' μ' => GH.le G1 G' ∧ ∃ ν', k ≤ l.length ∧ vs = [Value.int .i64 (k : Nat), .slice A l.length c, .int .i64 (l.length : Nat), .func (.yield lp) #[] #[]] ∧ J (l.take k) G' ν' ∧ μ' = (b, .cells [.slice A l.length c].toArray 22 (0, 0)) :: ν') (fun k => l.length - k) rfl 0 ⟨GH.le_refl _, ν, by omega, rfl, hJ0, rfl⟩ ?_
  rintro k vs G' _ ⟨hle', ν', hk, rfl, hJ, rfl⟩
  by_cases hlt : k < l.length
  · have e1 : ((k : Nat) : Int).toNat = k := by omega
    have hc := GH.cell_le hle' (hel k hlt)
    have hA := hsome (by omega)
    have hy := hY (l.take k) l[k] G' ν' hle' hJ (by rw [List.length_take]; omega)
    rw [← List.take_succ_eq_append_getElem hlt] at hy
    generalize l[k] = x at *
    repeat' (first | apply v_seq | apply v_region | apply v_nil | apply v_skip | apply v_block | apply v_blk | (apply v_pure; (case hop => first | (apply p_move <;> rfl) | (apply p_lt <;> rfl) | (apply p_assign <;> rfl) | (apply p_not <;> rfl) | (apply p_add; (case hx => rfl); (case hy => rfl); (case h => omega)) | (apply p_indexAddrS; (case hx => rfl); (case hi => rfl); (case h0 => omega); (case h => omega); (case hA => first | assumption | fail)) | fail); (case hd => rfl)) | (apply v_condF; (case hc => rfl)) | (apply v_cond; (case hc => rfl); all_goals (intro h; (try simp only [reduceCtorEq, dec_true, dec_false, decide_eq_true_eq, decide_eq_false_iff_not, Bool.not_eq_true', Bool.not_eq_false', Option.isNone_iff_eq_none, beq_true, beq_false, beq_iff_eq, beq_eq_false_iff_ne, ne_eq, decide_eq_decide, Bool.not_eq_true, Bool.not_eq_false, Decidable.not_not] at h); first | (exfalso; omega) | skip)) | (apply v_read; (case hop => first | (apply r_load1; rfl; exact Cell.frozen hc)); (case hd => rfl)) | (apply v_yield (hs := hy); (case hx => rfl); (case ha => rfl); (case hp => exact (List.perm_append_comm (l₁ := [(b, Obj.cells [Value.slice A l.length c].toArray 22 (0, 0))]) (l₂ := ν'))); (case hd => rfl); rintro _ G2 ν2 hle2 ⟨rfl, hJ2⟩) | fail)
    refine v_perm List.perm_append_comm ?_
    refine v_againI (k + 1) rfl ⟨GH.le_trans hle' hle2, ν2, by omega, rfl, hJ2, rfl⟩ (by omega)
  · repeat' (first | apply v_seq | apply v_region | apply v_nil | (apply v_exit; (case hp => rfl)) | (apply v_pure; (case hop => first | (apply p_lt <;> rfl) | fail); (case hd => rfl)) | (apply v_cond; (case hc => rfl); all_goals (intro h; (try simp only [reduceCtorEq, dec_true, dec_false, decide_eq_true_eq, decide_eq_false_iff_not, Bool.not_eq_true', Bool.not_eq_false', Option.isNone_iff_eq_none, beq_true, beq_false, beq_iff_eq, beq_eq_false_iff_ne, ne_eq, decide_eq_decide, Bool.not_eq_true, Bool.not_eq_false, Decidable.not_not] at h); first | (exfalso; omega) | skip)) | fail)
    refine v_end _ (outsA0 rfl) (List.Sublist.refl _) ?_
    rw [List.take_of_length_le (by omega)] at hJ
    exact ⟨l, ν', rfl, hJ, rfl⟩
theorem appendSeq_s {G : GH} {gf : FuncId} [Callable Try.prog gf] {lb : List Value} {S : List Int → Prop} {N : Nat} {μ1 : OH} (hN : N ≤ 1048576) (hseq : SeqCon Try.prog gf lb keyI S N G μ1) :
    Con Try.prog 68 #[.slice none 0 0, .func (.func gf) #[] lb.toArray] G μ1 (fun r G' μ' => G' = G ∧ ∃ xs ν, S xs ∧ Grow 3 1 r xs.length (xs.map (Value.int .i64 ·)) ν ∧ μ' = ν ++ μ1) := by
  (refine v_enter Try.func68 rfl Try.ntmps68 rfl ?_; intro B _)
  repeat' (first | apply v_seq | apply v_region | apply v_nil | apply v_block | (apply v_pure; (case hop => first | (apply p_move <;> rfl) | (apply p_assign <;> rfl)); (case hd => rfl)) | (apply v_box; (case hx => rfl); (case hz => rfl); (case hd => rfl); intro b) | fail)
  refine v_rangeFunc (enc := keyI) (N := N) (S := S) (μ1 := μ1) (μ2 := [(b, .cells [.slice none 0 0].toArray 22 (0, 0))]) (σ' := fun x => _) (fun pre G' ν => G' = G ∧ ∃ v ν1, Grow 3 1 v pre.length (pre.map (Value.int .i64 ·)) ν1 ∧ ν = ν1 ++ [(b, .cells [v].toArray 22 (0, 0))]) rfl hseq ?_ rfl (fun x => Assigns.region (.cons (p_assign rfl) rfl (.nil _))) rfl ⟨rfl, _, [], Grow.nil _ _, rfl⟩ ?_ ?_
  · exact (List.perm_append_comm (l₁ := [(b, Obj.cells [Value.slice none 0 0].toArray 22 (0, 0))]) (l₂ := μ1))
  · rintro l B' _ pre x G2 _ hle ⟨rfl, v, ν1, hg, rfl⟩ hlen
    have hpl : pre.length ≤ 1048576 := by omega
    repeat' (first | apply v_region | apply v_nil | apply v_block | apply v_blk | (apply v_pure; (case hop => first | (apply p_move <;> rfl) | fail); (case hd => rfl)) | (apply v_append (hg := hg) (m' := 1) (us := [keyI x]) (hp := PickA.perm (by repeat (first | exact PickA.here _ | apply PickA.cons | fail))) (hsrc := Src.own (e := 3) (by repeat (first | exact List.Mem.head _ | fail)) rfl); (case hzs => rfl); (case hsz => omega); (case hs => rfl); (case hx => rfl); (case hb => omega); (case hb' => simp only [maxLen]; omega); (case hd => rfl); (case h1 => rfl); intro v3 n3 hg3; obtain ⟨A3, c3, rfl, -, -⟩ := hg3.shape) | (apply v_read; (case hop => first | (apply r_load1; rfl; (apply Cell.own; (case h => (repeat (first | exact List.Mem.head _ | apply List.mem_append_right))); rfl)) | fail); (case hd => rfl)) | (apply v_buildSlice; (case hz => rfl); (case hi => rfl); (case hv => (simp only [List.map_cons, List.map_nil]; repeat (first | with_reducible exact evs_nil | (apply evs_cons; (case h1 => rfl))))); (case hp => (first | (apply pk_cons; (case hc => rfl); (case hs => rfl); (case h => (first | with_reducible exact pk_nil | fail)); (case he => (first | ((repeat (first | with_reducible exact ap_nil | apply ap_cons)); done) | fail))) | fail)); (case hb => rfl); (case hd => rfl); intro b) | (apply v_store; (case hp => rfl); (case hx => rfl); (case hc => rfl); (case hsz => rfl); (case h1 => rfl); (case hb => (repeat (first | exact List.Mem.head _ | apply List.Mem.tail | apply List.mem_append_right))); (case hfit => first | exact Nat.le_of_ble_eq_true rfl | fail); (case hov => (first | ((repeat (first | with_reducible exact ov_nil | apply ov_cons | fail)); done) | fail)); (case hu => repeat (first | exact Upd.here _ _ | apply Upd.there | apply Upd.app))) | fail)
    refine v_endR (n3 ++ [_]) (List.Sublist.append_left (by repeat (first | exact List.Sublist.refl _ | apply List.Sublist.cons | fail)) _) ⟨rfl, rfl, _, n3, by simpa using hg3, rfl⟩
  · rintro B' D _ xs G2 _ hle hS ⟨rfl, v, ν1, hg, rfl⟩
    repeat' (first | apply v_seq | apply v_region | apply v_nil | apply v_blk | (apply v_pure; (case hop => first | (apply p_assign <;> rfl)); (case hd => rfl)) | (apply v_read; (case hop => first | (apply r_load1; rfl; (apply Cell.own; (case h => (repeat (first | exact List.Mem.head _ | apply List.Mem.tail | apply List.mem_append_right))); rfl)) | fail); (case hd => rfl)) | fail)
    refine v_retD (Ds := [D]) (μ1 := (ν1 ++ μ1) ++ [(b, .cells [v].toArray 22 (0, 0))]) (ν1 ++ μ1) (fun ds a ha w _ => outs1 rfl rfl ds a ha) ?_ (List.sublist_append_left _ _) ⟨rfl, xs, ν1, hS, hg, rfl⟩
    exact (show List.Perm (μ1 ++ (ν1 ++ [(b, Obj.cells [v].toArray 22 (0, 0))])) (ν1 ++ μ1 ++ [(b, Obj.cells [v].toArray 22 (0, 0))]) from (by apply perm_of_count; intro p; simp only [List.append_eq, List.countP_append, List.countP_cons, List.countP_nil, Nat.zero_add, Nat.add_zero]; try ac_rfl)).cons _
theorem collect_s {G : GH} {gf : FuncId} [Callable Try.prog gf] {lb : List Value} {S : List Int → Prop} {N : Nat} {μ1 : OH} (hN : N ≤ 1048576) (hseq : SeqCon Try.prog gf lb keyI S N G μ1) :
    Con Try.prog 55 #[.func (.func gf) #[] lb.toArray] G μ1 (fun r G' μ' => G' = G ∧ ∃ xs ν, S xs ∧ Grow 3 1 r xs.length (xs.map (Value.int .i64 ·)) ν ∧ μ' = ν ++ μ1) := by
  have q := appendSeq_s hN hseq
  (refine v_enter Try.func55 rfl Try.ntmps55 rfl ?_; intro B _)
  repeat' (first | apply v_seq | apply v_region | apply v_nil | (apply v_pure; (case hop => first | (apply p_move <;> rfl) | (apply p_assign <;> rfl)); (case hd => rfl)) | fail)
  refine v_call (μ1 := μ1) (μ2 := []) rfl q (by simp) rfl ?_
  rintro r _ _ - ⟨rfl, xs, ν, hS, hg, rfl⟩
  repeat' (first | apply v_nil | (apply v_pure; (case hop => first | (apply p_assign <;> rfl)); (case hd => rfl)) | fail)
  refine v_ret (ν ++ μ1) (outsA1 rfl rfl) (by simp) ⟨rfl, xs, ν, hS, hg, rfl⟩
end Go.Proofs.Ytgflmkhfachlcaa
/-
  conf (layer 11), the first part: what its readers, and the reference's, answer.
-/
set_option linter.unusedSimpArgs false
set_option linter.unusedVariables false
namespace Go.Proofs.Ytgflmkhfachlcaa
open Go.Vx Go.ChangeShapes Go.WideShapes Go.ChangeAt Go.RowKit
/-- A conf: from where on, and its members; in cells. -/
abbrev Co := Int × List Int
def CoR (G : GH) (x : Co) (cs : List Value) : Prop := ∃ mv, cs = [.int .i64 x.1, mv] ∧ (Lit.int .i64 x.1).wf = true ∧ Sl G 1 (IntR .i64) mv x.2
theorem CoR.le {G G' : GH} (h : GH.le G G') {x : Co} {cs : List Value} (hc : CoR G x cs) : CoR G' x cs := let ⟨mv, h1, h2, h3⟩ := hc; ⟨mv, h1, h2, h3.mono h⟩
abbrev Cos (G : GH) (v : Value) (l : List Co) : Prop := Sl G 2 (CoR G) v l
theorem Cos.le {G G' : GH} (h : GH.le G G') {v : Value} {l : List Co} (hc : Cos G v l) : Cos G' v l := Sl.le hc h fun _ _ => CoR.le h
/-! ### Plain readers -/
/-! ### What may be -/
def MemOK (m : List Int) : Prop := 0 < m.length ∧ ∀ k (h : k < m.length), 1 ≤ m[k] ∧ m[k] ≤ 9 ∧ (0 < k → m[k - 1] < m[k])
def ConfOK (l : List Co) : Prop := (∃ h : 0 < l.length, l[0].1 = 1) ∧ ∀ i (h : i < l.length), MemOK l[i].2 ∧ l[i].1 ≤ 4294967296 ∧ (0 < i → l[i - 1].1 < l[i].1)
noncomputable instance (m : List Int) : Decidable (MemOK m) := Classical.propDecidable _
noncomputable instance (l : List Co) : Decidable (ConfOK l) := Classical.propDecidable _
end Go.Proofs.Ytgflmkhfachlcaa
/-
  Majorities: slices.Sorted over whatever iterator; conf's Majority, and the reference's.
-/
set_option linter.unusedSimpArgs false
set_option linter.unusedVariables false
namespace Go.Proofs.Ytgflmkhfachlcaa
open Go.Vx Go.ChangeShapes Go.WideShapes Go.ChangeAt Go.RowKit
/-- A slice of ours that has grown, as one block or none. -/
theorem Grow.cases {e : TypeId} {v : Value} {m : Nat} {xs : List Value} {ν : OH} (h : Grow e 1 v m xs ν) : (v = .slice none 0 0 ∧ m = 0 ∧ xs = [] ∧ ν = []) ∨ ∃ b cap spare, v = .slice (some ⟨b, 0, none⟩) m cap ∧ m ≤ cap ∧ cap ≤ maxLen ∧ ν = [(b, .cells (xs ++ spare).toArray e (0, 0))] ∧ xs.length = m ∧ (xs ++ spare).length = cap := by
  obtain ⟨hx, ⟨rfl, rfl, rfl⟩ | ⟨b, cap, spare, rfl, rfl, h1, h2, h3⟩⟩ := h
  · left
    exact ⟨rfl, rfl, by simpa using hx, rfl⟩
  · right
    exact ⟨b, cap, spare, rfl, h1, h2, rfl, by simpa using hx, by simpa using h3⟩
theorem grow_of {e : TypeId} {b m cap : Nat} {xs spare : List Value} (h1 : xs.length = m) (h2 : m ≤ cap) (h3 : cap ≤ maxLen) (h4 : (xs ++ spare).length = cap) : Grow e 1 (.slice (some ⟨b, 0, none⟩) m cap) m xs [(b, .cells (xs ++ spare).toArray e (0, 0))] :=
  ⟨by omega, .inr ⟨b, cap, spare, rfl, rfl, h2, h3, by omega⟩⟩
theorem sorted_s {G : GH} {gf : FuncId} [Callable Try.prog gf] {lb : List Value} {S : List Int → Prop} {N : Nat} {μ1 : OH} (hN : N ≤ 1048576) (hS : ∀ xs, S xs → xs.length ≤ 1048576) (hseq : SeqCon Try.prog gf lb keyI S N G μ1) :
    Con Try.prog 39 #[.func (.func gf) #[] lb.toArray] G μ1 (fun r G' μ' => G' = G ∧ ∃ xs ν, S xs ∧ Grow 3 1 r xs.length ((sortL xs).map (Value.int .i64 ·)) ν ∧ μ' = ν ++ μ1) := by
  have q := collect_s hN hseq
  (refine v_enter Try.func39 rfl Try.ntmps39 rfl ?_; intro B _)
  repeat' (first | apply v_seq | apply v_region | apply v_nil | (apply v_pure; (case hop => first | (apply p_move <;> rfl) | (apply p_assign <;> rfl)); (case hd => rfl)) | fail)
  refine v_call (μ1 := μ1) (μ2 := []) rfl q (by simp) rfl ?_
  rintro r G1 _ - ⟨rfl, xs, ν, hSx, hg, rfl⟩
  have hlen := hS _ hSx
  obtain ⟨rfl, h0, h1, rfl⟩ | ⟨b, cap, spare, rfl, hc, hm, rfl, hxl, hcl⟩ := Grow.cases hg
  · have hx0 : xs = [] := List.eq_nil_of_length_eq_zero h0
    subst hx0
    repeat' (first | apply v_seq | apply v_region | apply v_nil | (apply v_pure; (case hop => first | (apply p_move <;> rfl) | (apply p_assign <;> rfl)); (case hd => rfl)) | (apply v_call (hs := sort0_s); (case ha => rfl); (case hp => first | exact List.Perm.refl _); (case hd => rfl); rintro _ _ _ _ ⟨rfl, rfl, rfl⟩) | fail)
    refine v_ret μ1 (outsA1 rfl rfl) (by simp) ⟨rfl, [], [], hSx, by simpa [sortL] using Grow.nil _ _, rfl⟩
  · have q2 := sort_s (G := G1) (zs := xs) (b := b) (cap := cap) (e := 3) (spare := spare) (by omega)
    repeat' (first | apply v_seq | apply v_region | apply v_nil | (apply v_pure; (case hop => first | (apply p_move <;> rfl) | (apply p_assign <;> rfl)); (case hd => rfl)) | fail)
    refine v_call (μ1 := [(b, _)]) (μ2 := μ1) rfl q2 (by simp) rfl ?_
    rintro _ G2 _ hle2 ⟨rfl, rfl, rfl⟩
    repeat' (first | apply v_seq | apply v_region | apply v_nil | (apply v_pure; (case hop => first | (apply p_move <;> rfl) | (apply p_assign <;> rfl)); (case hd => rfl)) | fail)
    refine v_ret ([(b, _)] ++ μ1) (outsA1 rfl rfl) (List.Sublist.refl _) ⟨rfl, xs, _, hSx, grow_of (by simp [(sortL_perm xs).length_eq]) hc hm (by simpa [(sortL_perm xs).length_eq] using hcl), rfl⟩
end Go.Proofs.Ytgflmkhfachlcaa
/-
  tally (layer 34): the library over the votes' map: maps.Keys, maps.DeleteFunc.
-/
set_option linter.unusedSimpArgs false
set_option linter.unusedVariables false
namespace Go.Proofs.Ytgflmkhfachlcaa
open Go.Vx Go.ChangeShapes Go.WideShapes Go.ChangeAt Go.RowKit
instance keyT_int : KeyT Try.prog 3 keyI := KeyT.int
theorem left_perm {left : List Int} {a : Int} (hn : left.Nodup) (ha : a ∈ left) : left.Perm (a :: left.filter fun z => decide (z ≠ a)) := by
  refine perm_of_mem hn ?_ fun x => ?_
  · rw [List.nodup_cons]
    exact ⟨by simp, hn.sublist List.filter_sublist⟩
  · simp only [List.mem_cons, List.mem_filter, decide_eq_true_eq]
    by_cases hx : x = a
    · subst hx; simp [ha]
    · simp [hx]
end Go.Proofs.Ytgflmkhfachlcaa
/-
  Lending: what is proved of a call that reads frozen blocks holds of a call that reads blocks of ours.
-/
set_option linter.unusedSimpArgs false
set_option linter.unusedVariables false
namespace Go.Proofs.Ytgflmkhfachlcaa
open Go.Vx Go.ChangeShapes Go.WideShapes Go.ChangeAt Go.RowKit
theorem Grow.src {e : TypeId} {sz m : Nat} {v : Value} {xs : List Value} {ν μ : OH} {G : GH} (h : Grow e sz v m xs ν) (hm : ∀ e ∈ ν, e ∈ μ) : Vx.Src G μ v m sz xs := by
  obtain ⟨hl, ⟨rfl, rfl, rfl⟩ | ⟨b, cap, spare, rfl, rfl, h1, h2, h3⟩⟩ := h
  · exact ⟨hl, none, 0, rfl, fun h => absurd h (by omega)⟩
  · refine ⟨hl, _, cap, rfl, fun _ => ⟨_, rfl, fun j u hu => ?_⟩⟩
    rw [add_mk, Nat.zero_add]
    refine Cell.own (hm _ (List.Mem.head _)) ?_
    rw [List.getElem?_append_left (List.getElem?_eq_some_iff.1 hu).1]
    exact hu
theorem Src.cap {G : GH} {μ : OH} {A : Option Addr} {m c c' sz : Nat} {us : List Value} (h : Vx.Src G μ (.slice A m c) m sz us) : Vx.Src G μ (.slice A m c') m sz us := by
  obtain ⟨h1, A1, c1, he, h2⟩ := h
  injection he with ea _ ec
  subst ea
  exact ⟨h1, A, c', rfl, h2⟩
section
variable {P : Program} {σ : Env} {G : GH} {μ : OH} {t ty : TypeId} {bytes : Nat} {zero : Value}
end
end Go.Proofs.Ytgflmkhfachlcaa
/-
  VX: copy, append of zeros, slices.overlaps.
-/
set_option linter.unusedVariables false
set_option linter.unusedSimpArgs false
namespace Go.Vx
attribute [local semireducible] Vc MoveOp PureOp ReadOp DVc Con
open Go Go.Lib
section
variable {P : Program} {fn : Func} {n : Nat} {B : Base} {Φ : Value → GH → OH → Prop} {k : List It} {rest : List Oper} {all : Array Oper} {σ : Env} {G : GH} {μ : OH} {d : Nat} {t ty : TypeId} {pos : String} {af : Array Edge} {bytes : Nat} {zero : Value}
theorem Src.ownAt {e : TypeId} {b o m sz c : Nat} {vs us : List Value} (h : Has μ b vs e) (hus : (vs.drop o).take (m * sz) = us) (hl : us.length = m * sz) : Src G μ (.slice (some ⟨b, o, none⟩) m c) m sz us := ⟨hl, _, _, rfl, fun _ => ⟨_, rfl, by rw [← hus]; exact CellsAt.ownAt h⟩⟩
/-- append(s, make(T, q)...) where there is no room. -/
theorem m_appendZ {e : TypeId} {agg : Bool} {sz : Nat} {s x : Operand} {A : Option Addr} {m c q : Nat} {xs : List Value} {tn : TypeId} [Ty P t (.slice e)] [Ty P tn (.int .i64)] [Lay P e agg sz bytes zero] (hzs : zero.cells.size = sz) (hsz : 0 < sz) (hs : Env.ev σ s = some (.slice A m c)) {z : Int} (hx : Env.ev σ x = some (.int .i64 z)) (hz : z = (q : Nat)) (hsrc : Src G μ (.slice A m c) m sz xs) (hq : 0 < q) (hroom : c < m + q)
    (hb : (m + q) * bytes ≤ 140737488355328) (hb' : m + q ≤ maxLen) :
    MoveOp P (.call { callee := .builtin .append, args := #[s, x], argTypes := #[t, tn] }) ty σ G μ (fun v' G' μ' => ∃ b c' spare, v' = .slice (some ⟨b, 0, none⟩) (m + q) c' ∧ m + q ≤ c' ∧ c' ≤ maxLen ∧ (xs ++ (Builtin.zeroCells zero.cells q).toList ++ spare).length = c' * sz ∧ G' = G ∧ μ' = (b, .cells (xs ++ (Builtin.zeroCells zero.cells q).toList ++ spare).toArray e (0, 0)) :: μ) := by
  subst hz
  intro dst pos af g ρ hρ w hw a K Q hK
  obtain ⟨i, hi, hi1, hi2, hi3⟩ := Lay.infoEx (P := P) (t := e) (agg := agg) (size := sz) (bytes := bytes) (zero := zero) inferInstance
  have ht : P.underlying t = some (.slice e) := Ty.h
  have htn : P.underlying tn = some (.int .i64) := Ty.h
  obtain ⟨hus, A', c', he, hA⟩ := hsrc
  cases he
  have hold : (Builtin.firstCells i.size m (.slice A m c)).run P w.drew = .ok xs.toArray w.drew := by
    by_cases hm : 0 < m
    · obtain ⟨ad, rfl, hcs⟩ := hA hm
      exact run_firstCells_some (P := P) w.drew i.size m ad m c xs (by rw [hus, hi1]) (fun j v hv => hcs j v hv w hw.sees)
    · obtain rfl : m = 0 := by omega
      have hx0 : xs = [] := List.eq_nil_of_length_eq_zero (by simpa using hus)
      subst hx0
      cases A <;> simp [Builtin.firstCells, loadCells, loadCellsFrom]
  have hr := run_append_grow_zeros (P := P) w t tn ty e i zero .i64 .i64 ht htn hi hi3 A m c xs hold q hq (by omega) hroom (by simp only [maxLen] at hb'; omega)
    (by rw [hi2]; have := Nat.mul_le_mul_right bytes (show q ≤ m + q by omega); omega) (growslice_fits (by omega) (by rw [hi2]; exact hb))
  have hex : (execOp ρ ⟨dst, .call { callee := .builtin .append, args := #[s, x], argTypes := #[t, tn] }, ty, pos, af, g⟩).run P w = .ok (.value (.slice (some ⟨w.heap.size, 0, none⟩) (m + q) (grownCap w (m + q) c e)))
        (w.drew.alloc (.cells (xs.toArray ++ Builtin.zeroCells zero.cells q ++ Builtin.zeroCells zero.cells (grownCap w (m + q) c e - (m + q))) e)) := by
    simp only [execOp, resolve, invoke, builtin, Sem.run_bind, Sem.run_pure, Result.andThen_ok, List.map_toArray, List.map_cons, List.map_nil, hρ _ _ hs, hρ _ _ hx, hr]
  rw [hex]
  have hge := grownCap_ge w (m + q) c e
  have hst := (Step.drew hw 1).trans (Step.alloc (Step.drew hw 1).mem (.cells (xs.toArray ++ Builtin.zeroCells zero.cells q ++ Builtin.zeroCells zero.cells (grownCap w (m + q) c e - (m + q))) e (0, 0)))
  refine hK _ _ G _ hst ⟨w.heap.size, grownCap w (m + q) c e, (Builtin.zeroCells zero.cells (grownCap w (m + q) c e - (m + q))).toList, rfl, hge, grownCap_le_maxLen w (m + q) c e hb', ?_, rfl, ?_⟩
  · simp only [List.length_append, Array.length_toList, size_zeroCells, hzs, hus, ← Nat.add_mul]
    congr 1
    omega
  · simp [World.drewN]
theorem v_appendZ {e : TypeId} {agg : Bool} {sz : Nat} {s x : Operand} {A : Option Addr} {m c q : Nat} {xs : List Value} {tn : TypeId} [Ty P t (.slice e)] [Ty P tn (.int .i64)] [Lay P e agg sz bytes zero] (hzs : zero.cells.size = sz) (hsz : 0 < sz) (hs : Env.ev σ s = some (.slice A m c)) {z : Int} (hx : Env.ev σ x = some (.int .i64 z)) (hz : z = (q : Nat)) (hsrc : Src G μ (.slice A m c) m sz xs) (hq : 0 < q) (hroom : c < m + q)
    (hb : (m + q) * bytes ≤ 140737488355328) (hb' : m + q ≤ maxLen) (hd : Nat.blt d n = true)
    (h : ∀ b c' spare, m + q ≤ c' → c' ≤ maxLen → (xs ++ (Builtin.zeroCells zero.cells q).toList ++ spare).length = c' * sz → Vc P fn n B Φ (.ops all rest :: k) ((d, .slice (some ⟨b, 0, none⟩) (m + q) c') :: σ) G ((b, .cells (xs ++ (Builtin.zeroCells zero.cells q).toList ++ spare).toArray e (0, 0)) :: μ)) :
    Vc P fn n B Φ (.ops all (⟨some d, .call { callee := .builtin .append, args := #[s, x], argTypes := #[t, tn] }, ty, pos, af, none⟩ :: rest) :: k) σ G μ :=
  v_move (m_appendZ hzs hsz hs hx hz hsrc hq hroom hb hb') hd fun _ _ _ ⟨b, c', sp, h1, h2, h3, h4, h5, h6⟩ => by rw [h1, h5, h6]; exact h b c' sp h2 h3 h4
/-- The function is the library's slices.overlaps. -/
class Overl (P : Program) (f : FuncId) (e : outParam TypeId) (tR : outParam TypeId) : Prop where
  h : ∃ ts, P.underlying ts = some (.slice e) ∧ ∀ args w, (callFunc f args).run P w = ((Extern.SlicesOverlaps.overlaps #[ts, ts] #[tR] args).run P w).andThen fun v w' => .ok (.value v) w'
end
end Go.Vx
/-
  disk (layer 18): the library: bytes cloned and joined; the keys of files; files cloned.
-/
set_option linter.unusedSimpArgs false
set_option linter.unusedVariables false
namespace Go.Proofs.Ytgflmkhfachlcaa
open Go.Vx Go.ChangeShapes Go.WideShapes Go.ChangeAt Go.RowKit
theorem bclone_s {G : GH} {l : List Int} {sv : Value} (hs : Sl G 1 (IntR .u8) sv l) (hl : l.length ≤ 1048576) : Con Try.prog 46 #[sv] G [] (fun r G' μ' => G' = G ∧ Grow 5 1 r l.length (l.map (.int .u8 ·)) μ') := by
  obtain ⟨A, c, rfl, hlc, hcm, hsome, hel, _⟩ := hs.openInt
  simp only [maxLen] at hcm
  (refine v_enter Try.func46 rfl Try.ntmps46 rfl ?_; intro B _)
  repeat' (first | apply v_seq | apply v_region | apply v_nil | apply v_skip | (apply v_pure; (case hop => first | (apply p_move <;> rfl) | (apply p_assign <;> rfl) | (apply p_eqNilSlice <;> rfl)); (case hd => rfl)) | (apply v_cond; (case hc => rfl); all_goals (intro h; (try simp only [reduceCtorEq, dec_true, dec_false, decide_eq_true_eq, decide_eq_false_iff_not, Bool.not_eq_true', Bool.not_eq_false', Option.isNone_iff_eq_none, beq_true, beq_false, beq_iff_eq, beq_eq_false_iff_ne, ne_eq, decide_eq_decide, Bool.not_eq_true, Bool.not_eq_false, Decidable.not_not] at h); first | skip)) | (apply v_buildSlice; (case hz => rfl); (case hi => rfl); (case hv => (simp only [List.map_cons, List.map_nil]; repeat (first | with_reducible exact evs_nil | fail))); (case hp => (first | with_reducible exact pk_nil | fail)); (case hb => rfl); (case hd => rfl); intro b) | fail)
  · refine v_ret [] (outsA1 rfl rfl) (by repeat (first | exact List.Sublist.refl _ | fail)) ?_
    have : l = [] := by
      cases l with
      | nil => rfl
      | cons a l => have := hsome (by simp); simp_all
    subst this
    exact ⟨rfl, Grow.nil _ _⟩
  · refine v_append (e := 5) (sz := 1) (zero := .int .u8 0) rfl (by omega) rfl rfl Grow.empty (List.Perm.refl _) (Src.ints hs) (allOne_ints l) (by omega) (by simp only [maxLen]; omega) rfl ?_
    intro v' ν' hg
    repeat' (first | apply v_nil | (apply v_pure; (case hop => first | (apply p_assign <;> rfl) | fail); (case hd => rfl)) | fail)
    refine v_ret ν' (outsA1 rfl rfl) (by simp) ?_
    rw [Nat.zero_add, List.nil_append] at hg
    exact ⟨rfl, hg⟩
theorem keysB_s {G : GH} {m : Nat} : Con Try.prog 59 #[.map (some m)] G []
    (fun r G' μ' => ∃ b, r = .func (.func 71) #[] #[.pointer (some ⟨b, 0, none⟩)] ∧ G' = G ∧ μ' = [(b, .cells [Value.map (some m)].toArray 79 (0, 0))]) := by
  (refine v_enter Try.func59 rfl Try.ntmps59 rfl ?_; intro B _)
  repeat' (first | apply v_seq | apply v_region | apply v_nil | (apply v_pure; (case hop => first | (apply p_assign <;> rfl) | (apply p_makeFunc <;> rfl)); (case hd => rfl)) | (apply v_box; (case hx => rfl); (case hz => rfl); (case hd => rfl); intro b) | fail)
  refine v_ret [(b, _)] (outsA1 rfl rfl) (by repeat (first | exact List.Sublist.refl _ | fail)) ?_
  exact ⟨b, rfl, rfl, rfl⟩
theorem keysB_seq {G : GH} {l : List (Int × Value)} {m b : Nat} {oM : Obj} (hM : MapB keyI l oM) : SeqCon Try.prog 71 [.pointer (some ⟨b, 0, none⟩)] keyI (fun xs => xs.Perm (l.map (·.1))) l.length G [(b, .cells [Value.map (some m)].toArray 79 (0, 0)), (m, oM)] := by
  intro lp J G1 ν hle hJ0 hY
  have hnd := hM.nodup
  (refine v_enter Try.func71 rfl Try.ntmps71 rfl ?_; intro B _)
  repeat' (first | apply v_seq | apply v_region | apply v_nil | apply v_block | (apply v_rangeM (hb := (by repeat (first | exact List.Mem.head _ | apply List.Mem.tail))) (hM := hM); (case hx => rfl); (case hd => rfl); intro it oI hI) | (apply v_read; (case hop => first | (apply r_load1; rfl; (apply Cell.own; (case h => (repeat (first | exact List.Mem.head _ | fail))); rfl)) | fail); (case hd => rfl)) | fail)
  refine v_loopI (ι := List Int × List Int) [5, 0] (fun i vs G' μ' => GH.le G1 G' ∧ ∃ ν' oI, IterB keyI m l i.2 oM oI ∧ i.2.Nodup ∧ (i.1 ++ i.2).Perm (l.map (·.1)) ∧ vs = [.pointer (some ⟨it, 0, none⟩), .func (.yield lp) #[] #[]] ∧ J i.1 G' ν' ∧ μ' = (it, oI) :: (b, .cells [Value.map (some m)].toArray 79 (0, 0)) :: (m, oM) :: ν') (fun i => i.2.length) rfl ([], l.map (·.1)) ⟨GH.le_refl _, ν, oI, hI, hnd, List.Perm.refl _, rfl, hJ0, rfl⟩ ?_
  rintro ⟨pre, left⟩ vs G' _ ⟨hle', ν', oI', hI', hn, hper, rfl, hJ, rfl⟩
  simp only at hI' hn hper hJ
  have hlen := hper.length_eq
  rw [List.length_append, List.length_map] at hlen
  repeat' (first | apply v_seq | apply v_region | (apply v_nextM (k := 3) (hb := (by repeat (first | exact List.Mem.head _ | apply List.Mem.tail))) (hI := hI'); (case hx => rfl); (case hp => exact List.Perm.refl _); (case hd => rfl)) | fail)
  · intro h0
    subst h0
    repeat' (first | apply v_seq | apply v_nil | (apply v_exit; (case hp => rfl)) | (apply v_pure; (case hop => first | (apply p_extract0 <;> rfl) | fail); (case hd => rfl)) | (apply v_condF; (case hc => rfl)) | fail)
    refine v_end ([(b, _), (m, oM)] ++ ν') (outsA0 rfl) (by repeat (first | exact List.Sublist.refl _ | apply List.Sublist.cons | fail)) ?_
    exact ⟨pre, ν', by simpa using hper, hJ, rfl⟩
  · intro a u oI2 ha hau hI2 hE
    have hy := hY pre a G' ν' hle' hJ (by
      have : 0 < left.length := List.length_pos_of_mem ha
      omega)
    have hlp := left_perm hn ha
    repeat' (first | apply v_seq | apply v_region | apply v_nil | apply v_skip | apply v_block | apply v_blk | (apply v_pure; (case hop => first | (apply p_move <;> rfl) | (apply p_assign <;> rfl) | (apply p_not <;> rfl) | (apply p_extract0 <;> rfl) | fail); (case hd => rfl)) | (apply v_condT; (case hc => rfl)) | (apply v_condF; (case hc => rfl)) | (apply v_read; (case hop => apply r_entry (hE := hE); (case hx => rfl); (case hi => repeat (first | exact List.Mem.head _ | fail)); (case hb => repeat (first | exact List.Mem.head _ | apply List.Mem.tail))); (case hd => rfl)) | (apply v_yield (hs := hy); (case hx => rfl); (case ha => rfl); (case hp => exact (List.perm_append_comm (l₁ := [(it, oI2), (b, Obj.cells [Value.map (some m)].toArray 79 (0, 0)), (m, oM)]) (l₂ := ν'))); (case hd => rfl); rintro _ G2 ν2 hle2 ⟨rfl, hJ2⟩) | fail)
    refine v_perm List.perm_append_comm ?_
    refine v_againI (pre ++ [a], left.filter fun z => decide (z ≠ a)) rfl ⟨GH.le_trans hle' hle2, ν2, oI2, hI2, hn.sublist List.filter_sublist, ?_, rfl, hJ2, rfl⟩ ?_
    · refine List.Perm.trans ?_ hper
      simp only [List.append_assoc, List.singleton_append]
      exact List.Perm.append_left _ hlp.symm
    · have := hlp.length_eq
      simp only [List.length_cons] at this ⊢
      omega
theorem bgrow0_s {G : GH} {n : Nat} (hn : n ≤ 1048576) : Con Try.prog 72 #[.slice none 0 0, .int .i64 (n : Nat)] G [] (fun r G' μ' => G' = G ∧ Grow 5 1 r 0 [] μ') := by
  (refine v_enter Try.func72 rfl Try.ntmps72 rfl ?_; intro B _)
  repeat' (first | apply v_seq | apply v_region | apply v_nil | apply v_skip | (apply v_pure; (case hop => first | (apply p_move <;> rfl) | (apply p_lt <;> rfl) | (apply p_gt <;> rfl) | (apply p_assign <;> rfl) | (apply p_lenSlice <;> rfl) | (apply p_sub; (case hx => rfl); (case hy => rfl); (case h => omega)) | (apply p_capSlice <;> rfl) | (apply p_sliceH; (case hx => rfl); (case hh => rfl); all_goals omega) | fail); (case hd => rfl)) | (apply v_cond; (case hc => rfl); all_goals (intro h; (try simp only [reduceCtorEq, dec_true, dec_false, decide_eq_true_eq, decide_eq_false_iff_not, Bool.not_eq_true', Bool.not_eq_false', Option.isNone_iff_eq_none, beq_true, beq_false, beq_iff_eq, beq_eq_false_iff_ne, ne_eq, decide_eq_decide, Bool.not_eq_true, Bool.not_eq_false, Decidable.not_not] at h); first | (exfalso; omega) | skip)) | fail)
  · refine v_appendZ (e := 5) (agg := false) (sz := 1) (bytes := 1) (zero := .int .u8 0) (q := n) (m := 0) (xs := []) rfl (by omega) rfl rfl (by omega) (Src.ints (k := .u8) (l := []) Sl.nil) (by omega) (by omega) (by omega) (by simp only [maxLen]; omega) rfl fun b3 c3 sp3 hd1 hd2 hd3 => ?_
    simp only [maxLen] at hd2
    repeat' (first | apply v_seq | apply v_region | apply v_nil | (apply v_pure; (case hop => first | (apply p_move <;> rfl) | (apply p_assign <;> rfl) | (apply p_lenSlice <;> rfl) | (apply p_sliceH; (case hx => rfl); (case hh => rfl); all_goals omega) | fail); (case hd => rfl)) | fail)
    refine v_ret [(b3, _)] (outsA1 rfl rfl) (by repeat (first | exact List.Sublist.refl _ | fail)) ?_
    exact ⟨rfl, by simp, .inr ⟨b3, c3, (Builtin.zeroCells (Value.int IntKind.u8 0).cells n).toList ++ sp3, rfl, rfl, by omega, by simp only [maxLen]; omega, hd3⟩⟩
  · refine v_ret [] (outsA1 rfl rfl) (by repeat (first | exact List.Sublist.refl _ | fail)) ?_
    exact ⟨rfl, Grow.nil _ _⟩
def pre2 (a d : List Int) (k : Nat) : List Int := if k = 0 then [] else if k = 1 then a else a ++ d
theorem concat2_s {G : GH} {a d : List Int} {av dv : Value} {sb : Nat} (ha : Sl G 1 (IntR .u8) av a) (hd : Sl G 1 (IntR .u8) dv d) (hla : a.length ≤ 100000) (hld : d.length ≤ 100000) :
    Con Try.prog 60 #[.slice (some ⟨sb, 0, none⟩) 2 2] G [(sb, .cells [av, dv].toArray 49 (0, 0))] (fun r G' μ' => G' = G ∧ ∃ ν, Grow 5 1 r (a ++ d).length ((a ++ d).map (.int .u8 ·)) ν ∧ μ' = ν ++ [(sb, .cells [av, dv].toArray 49 (0, 0))]) := by
  have qg := bgrow0_s (G := G) (n := a.length + d.length) (by omega)
  obtain ⟨A1, c1, rfl, hlc1, hcm1, -, -, -⟩ := id ha.openInt
  obtain ⟨A2, c2, rfl, hlc2, hcm2, -, -, -⟩ := id hd.openInt
  simp only [maxLen] at hcm1 hcm2
  have hsa := fun μ => Src.ints (μ := μ) ha
  have hsd := fun μ => Src.ints (μ := μ) hd
  (refine v_enter Try.func60 rfl Try.ntmps60 rfl ?_; intro B _)
  repeat' (first | apply v_seq | apply v_region | apply v_nil | apply v_block | (apply v_pure; (case hop => first | (apply p_move <;> rfl) | (apply p_assign <;> rfl) | (apply p_lenSlice <;> rfl) | fail); (case hd => rfl)) | fail)
  refine v_loop [11, 3, 9, 10, 0] (fun us G' μ' => G' = G ∧ ∃ k : Nat, k ≤ 2 ∧ us = [Value.int .i64 (k : Nat), .int .i64 ((pre2 a d k).length : Nat), .slice (some ⟨sb, 0, none⟩) 2 2, .int .i64 (2 : Nat), .slice (some ⟨sb, 0, none⟩) 2 2] ∧ μ' = [(sb, .cells [Value.slice A1 a.length c1, Value.slice A2 d.length c2].toArray 49 (0, 0))]) (fun us => 2 - (headI us).toNat) rfl ⟨rfl, 0, by omega, rfl, rfl⟩ ?_
  rintro us G' _ ⟨hG', k, hk, rfl, rfl⟩
  subst G'
  obtain rfl | rfl | rfl : k = 0 ∨ k = 1 ∨ k = 2 := by omega
  · have e0 : (pre2 a d 0).length = 0 := rfl
    rw [e0]
    repeat' (first | apply v_seq | apply v_region | apply v_nil | apply v_skip | apply v_block | apply v_blk | (apply v_pure; (case hop => first | (apply p_move <;> rfl) | (apply p_lt <;> rfl) | (apply p_assign <;> rfl) | (apply p_lenSlice <;> rfl) | (apply p_add; (case hx => rfl); (case hy => rfl); (case h => omega)) | (apply p_indexAddr; (case hx => rfl); (case hi => rfl); (case h0 => omega); (case h => omega)) | fail); (case hd => rfl)) | (apply v_cond; (case hc => rfl); all_goals (intro h; (try simp only [reduceCtorEq, dec_true, dec_false, decide_eq_true_eq, decide_eq_false_iff_not, Bool.not_eq_true', Bool.not_eq_false', Option.isNone_iff_eq_none, beq_true, beq_false, beq_iff_eq, beq_eq_false_iff_ne, ne_eq, decide_eq_decide, Bool.not_eq_true, Bool.not_eq_false, Decidable.not_not] at h); first | (exfalso; omega) | skip)) | (apply v_read; (case hop => first | (apply r_load1; rfl; (apply Cell.own; (case h => (repeat (first | exact List.Mem.head _ | fail))); rfl)) | fail); (case hd => rfl)) | fail)
    refine v_again rfl ⟨rfl, 1, by omega, ?_, rfl⟩ (by simp [headI])
    simp [pre2]
  · have e0 : (pre2 a d 1).length = a.length := rfl
    rw [e0]
    repeat' (first | apply v_seq | apply v_region | apply v_nil | apply v_skip | apply v_block | apply v_blk | (apply v_pure; (case hop => first | (apply p_move <;> rfl) | (apply p_lt <;> rfl) | (apply p_assign <;> rfl) | (apply p_lenSlice <;> rfl) | (apply p_add; (case hx => rfl); (case hy => rfl); (case h => omega)) | (apply p_indexAddr; (case hx => rfl); (case hi => rfl); (case h0 => omega); (case h => omega)) | fail); (case hd => rfl)) | (apply v_cond; (case hc => rfl); all_goals (intro h; (try simp only [reduceCtorEq, dec_true, dec_false, decide_eq_true_eq, decide_eq_false_iff_not, Bool.not_eq_true', Bool.not_eq_false', Option.isNone_iff_eq_none, beq_true, beq_false, beq_iff_eq, beq_eq_false_iff_ne, ne_eq, decide_eq_decide, Bool.not_eq_true, Bool.not_eq_false, Decidable.not_not] at h); first | (exfalso; omega) | skip)) | (apply v_read; (case hop => first | (apply r_load1; rfl; (apply Cell.own; (case h => (repeat (first | exact List.Mem.head _ | fail))); rfl)) | fail); (case hd => rfl)) | fail)
    refine v_again rfl ⟨rfl, 2, by omega, ?_, rfl⟩ (by simp [headI])
    simp [pre2]
  · have e0 : (pre2 a d 2).length = a.length + d.length := by simp [pre2]
    rw [e0]
    repeat' (first | apply v_seq | apply v_region | apply v_nil | (apply v_exit; (case hp => rfl)) | (apply v_pure; (case hop => first | (apply p_move <;> rfl) | (apply p_lt <;> rfl) | fail); (case hd => rfl)) | (apply v_cond; (case hc => rfl); all_goals (intro h; (try simp only [reduceCtorEq, dec_true, dec_false, decide_eq_true_eq, decide_eq_false_iff_not, Bool.not_eq_true', Bool.not_eq_false', Option.isNone_iff_eq_none, beq_true, beq_false, beq_iff_eq, beq_eq_false_iff_ne, ne_eq, decide_eq_decide, Bool.not_eq_true, Bool.not_eq_false, Decidable.not_not] at h); first | (exfalso; omega) | skip)) | fail)
    refine v_call (μ1 := []) (μ2 := [(sb, _)]) rfl qg (List.Perm.refl _) rfl ?_
    rintro r3 G3 ν3 - ⟨hG3, hg3⟩
    subst G3
    repeat' (first | apply v_seq | apply v_region | apply v_nil | apply v_block | (apply v_pure; (case hop => first | (apply p_move <;> rfl) | (apply p_assign <;> rfl) | (apply p_lenSlice <;> rfl) | fail); (case hd => rfl)) | fail)
    refine v_loop [27, 6, 25, 26] (fun us G' μ' => G' = G ∧ ∃ (k : Nat) (v : Value) (ν : OH), k ≤ 2 ∧ us = [Value.int .i64 (k : Nat), v, .slice (some ⟨sb, 0, none⟩) 2 2, .int .i64 (2 : Nat)] ∧ Grow 5 1 v (pre2 a d k).length ((pre2 a d k).map (.int .u8 ·)) ν ∧ μ' = ν ++ [(sb, .cells [Value.slice A1 a.length c1, Value.slice A2 d.length c2].toArray 49 (0, 0))]) (fun us => 2 - (headI us).toNat) rfl ⟨rfl, 0, _, _, by omega, rfl, hg3, rfl⟩ ?_
    rintro us G' _ ⟨hG', k, v, ν, hk, rfl, hg, rfl⟩
    subst G'
    obtain rfl | rfl | rfl : k = 0 ∨ k = 1 ∨ k = 2 := by omega
    · have e0 : (pre2 a d 0) = [] := rfl
      rw [e0] at hg
      repeat' (first | apply v_seq | apply v_region | apply v_nil | apply v_skip | apply v_block | apply v_blk | (apply v_pure; (case hop => first | (apply p_move <;> rfl) | (apply p_lt <;> rfl) | (apply p_assign <;> rfl) | (apply p_add; (case hx => rfl); (case hy => rfl); (case h => omega)) | (apply p_indexAddr; (case hx => rfl); (case hi => rfl); (case h0 => omega); (case h => omega)) | fail); (case hd => rfl)) | (apply v_cond; (case hc => rfl); all_goals (intro h; (try simp only [reduceCtorEq, dec_true, dec_false, decide_eq_true_eq, decide_eq_false_iff_not, Bool.not_eq_true', Bool.not_eq_false', Option.isNone_iff_eq_none, beq_true, beq_false, beq_iff_eq, beq_eq_false_iff_ne, ne_eq, decide_eq_decide, Bool.not_eq_true, Bool.not_eq_false, Decidable.not_not] at h); first | (exfalso; omega) | skip)) | (apply v_append (hg := hg) (m' := a.length) (us := a.map (.int .u8 ·)) (hp := List.Perm.refl _) (hsrc := hsa _); (case hzs => rfl); (case hsz => omega); (case hs => rfl); (case hx => rfl); (case hb => simp only [List.length_nil]; omega); (case hb' => simp only [maxLen, List.length_nil]; omega); (case hd => rfl); (case h1 => exact allOne_ints a); intro v4 n4 hg4) | (apply v_read; (case hop => first | (apply r_load1; rfl; (apply Cell.own; (case h => (repeat (first | exact List.Mem.head _ | apply List.mem_append_right))); rfl)) | fail); (case hd => rfl)) | fail)
      refine v_again rfl ⟨rfl, 1, v4, n4, by omega, rfl, ?_, rfl⟩ (by simp [headI])
      simpa [pre2] using hg4
    · have e0 : (pre2 a d 1) = a := rfl
      rw [e0] at hg
      repeat' (first | apply v_seq | apply v_region | apply v_nil | apply v_skip | apply v_block | apply v_blk | (apply v_pure; (case hop => first | (apply p_move <;> rfl) | (apply p_lt <;> rfl) | (apply p_assign <;> rfl) | (apply p_add; (case hx => rfl); (case hy => rfl); (case h => omega)) | (apply p_indexAddr; (case hx => rfl); (case hi => rfl); (case h0 => omega); (case h => omega)) | fail); (case hd => rfl)) | (apply v_cond; (case hc => rfl); all_goals (intro h; (try simp only [reduceCtorEq, dec_true, dec_false, decide_eq_true_eq, decide_eq_false_iff_not, Bool.not_eq_true', Bool.not_eq_false', Option.isNone_iff_eq_none, beq_true, beq_false, beq_iff_eq, beq_eq_false_iff_ne, ne_eq, decide_eq_decide, Bool.not_eq_true, Bool.not_eq_false, Decidable.not_not] at h); first | (exfalso; omega) | skip)) | (apply v_append (hg := hg) (m' := d.length) (us := d.map (.int .u8 ·)) (hp := List.Perm.refl _) (hsrc := hsd _); (case hzs => rfl); (case hsz => omega); (case hs => rfl); (case hx => rfl); (case hb => omega); (case hb' => simp only [maxLen]; omega); (case hd => rfl); (case h1 => exact allOne_ints d); intro v4 n4 hg4) | (apply v_read; (case hop => first | (apply r_load1; rfl; (apply Cell.own; (case h => (repeat (first | exact List.Mem.head _ | apply List.mem_append_right))); rfl)) | fail); (case hd => rfl)) | fail)
      refine v_again rfl ⟨rfl, 2, v4, n4, by omega, rfl, ?_, rfl⟩ (by simp [headI])
      simpa [pre2] using hg4
    · have e0 : (pre2 a d 2) = a ++ d := rfl
      rw [e0] at hg
      repeat' (first | apply v_seq | apply v_region | apply v_nil | (apply v_exit; (case hp => rfl)) | (apply v_pure; (case hop => first | (apply p_move <;> rfl) | (apply p_lt <;> rfl) | (apply p_assign <;> rfl) | fail); (case hd => rfl)) | (apply v_cond; (case hc => rfl); all_goals (intro h; (try simp only [reduceCtorEq, dec_true, dec_false, decide_eq_true_eq, decide_eq_false_iff_not, Bool.not_eq_true', Bool.not_eq_false', Option.isNone_iff_eq_none, beq_true, beq_false, beq_iff_eq, beq_eq_false_iff_ne, ne_eq, decide_eq_decide, Bool.not_eq_true, Bool.not_eq_false, Decidable.not_not] at h); first | (exfalso; omega) | skip)) | fail)
      refine v_ret (ν ++ [(sb, _)]) (outsA1 rfl rfl) (List.Sublist.refl _) ⟨rfl, ν, hg, rfl⟩
end Go.Proofs.Ytgflmkhfachlcaa
/-
  disk (layer 18): what is buffered, and what it does to files.
-/
set_option linter.unusedSimpArgs false
set_option linter.unusedVariables false
namespace Go.Proofs.Ytgflmkhfachlcaa
open Go.Vx Go.ChangeShapes Go.WideShapes Go.ChangeAt Go.RowKit
abbrev Bs (G : GH) (v : Value) (l : List Int) : Prop := Sl G 1 (IntR .u8) v l
def OpR (G : GH) (x : Dop) (cs : List Value) : Prop := ∃ A c, cs = [.int .i64 x.kind, .int .i64 x.no, .slice A x.data.length c] ∧ Bs G (.slice A x.data.length c) x.data
def FlR (G : GH) (f : Fl) (cs : List Value) : Prop := ∃ A c, cs = [.int .i64 f.1, .slice A f.2.length c] ∧ Bs G (.slice A f.2.length c) f.2
theorem OpR.le {G G' : GH} (h : GH.le G G') {x : Dop} {cs : List Value} (hx : OpR G x cs) : OpR G' x cs := let ⟨A, c, h1, h2⟩ := hx; ⟨A, c, h1, h2.mono h⟩
theorem FlR.le {G G' : GH} (h : GH.le G G') {x : Fl} {cs : List Value} (hx : FlR G x cs) : FlR G' x cs := let ⟨A, c, h1, h2⟩ := hx; ⟨A, c, h1, h2.mono h⟩
/-- What grows, and is ours. -/
def GrL {α : Type} (e : TypeId) (sz : Nat) (R : α → List Value → Prop) (v : Value) (l : List α) (ν : OH) : Prop := ∃ css : List (List Value), css.length = l.length ∧ (∀ (i : Nat) x cs, l[i]? = some x → css[i]? = some cs → cs.length = sz ∧ R x cs) ∧ Grow e sz v l.length css.flatten ν
section
variable {α : Type} {e : TypeId} {sz : Nat} {R R' : α → List Value → Prop} {v : Value} {l : List α} {ν : OH}
theorem GrL.nil : GrL e sz R (.slice none 0 0) [] [] := ⟨[], rfl, fun i x cs h => by simp at h, Grow.nil _ _⟩
theorem GrL.le (h : GrL e sz R v l ν) (hR : ∀ x cs, R x cs → R' x cs) : GrL e sz R' v l ν := by
  obtain ⟨css, h1, h2, h3⟩ := h
  exact ⟨css, h1, fun i x cs hx hc => ⟨(h2 i x cs hx hc).1, hR _ _ (h2 i x cs hx hc).2⟩, h3⟩
theorem GrL.snoc {x : α} {rx : List Value} {css : List (List Value)} (h1 : css.length = l.length) (h2 : ∀ (i : Nat) y cs, l[i]? = some y → css[i]? = some cs → cs.length = sz ∧ R y cs) (h : Grow e sz v (l.length + 1) (css.flatten ++ rx) ν) (hl : rx.length = sz) (hx : R x rx) : GrL e sz R v (l ++ [x]) ν := by
  refine ⟨css ++ [rx], by simp [h1], fun i y cs hy hc => ?_, by simpa using h⟩
  by_cases hi : i < l.length
  · rw [List.getElem?_append_left hi] at hy
    rw [List.getElem?_append_left (by omega)] at hc
    exact h2 i y cs hy hc
  · rw [List.getElem?_append_right (by omega)] at hy hc
    obtain ⟨k1, k2⟩ := List.getElem?_eq_some_iff.1 hy
    have e : i = l.length := by simp at k1; omega
    subst e
    rw [Nat.sub_self] at hy
    rw [h1, Nat.sub_self] at hc
    simp only [List.getElem?_cons_zero, Option.some.injEq] at hy hc
    subst hy hc
    exact ⟨hl, hx⟩
theorem GrL.sl (h : GrL e sz R v l ν) {G' : GH} (hG : ∀ b o, (b, o) ∈ ν → G' b = some o) : Sl G' sz R v l := by
  obtain ⟨css, h1, h2, h3⟩ := h
  exact Grow.sl h3 hG h1 h2
end
abbrev Ops (G : GH) (v : Value) (l : List Dop) : Prop := Sl G 3 (OpR G) v l
abbrev Fls (G : GH) (v : Value) (R : List Fl) : Prop := Sl G 2 (FlR G) v R
theorem Ops.up {G G' : GH} (h : GH.le G G') {v : Value} {l : List Dop} (hs : Ops G v l) : Ops G' v l := hs.le h fun _ _ hx => hx.le h
theorem Fls.up {G G' : GH} (h : GH.le G G') {v : Value} {l : List Fl} (hs : Fls G v l) : Fls G' v l := hs.le h fun _ _ hx => hx.le h
theorem opOpen {G : GH} {v : Value} {l : List Dop} (h : Ops G v l) : ∃ A c, ∃ dA : Nat → Option Addr, ∃ dc : Nat → Nat, v = .slice A l.length c ∧ l.length ≤ c ∧ c ≤ maxLen ∧ (0 < l.length → A.isSome = true) ∧
    (∀ i (h : i < l.length), CellsG G ((adr A).add (i * 3)) [.int .i64 l[i].kind, .int .i64 l[i].no, .slice (dA i) l[i].data.length (dc i)]) ∧ (∀ i (h : i < l.length), Bs G (.slice (dA i) l[i].data.length (dc i)) l[i].data) := by
  obtain ⟨A, c, rfl, h1, h2, h3, h4⟩ := h.open
  have hk : ∀ i, ∃ p : Option Addr × Nat, ∀ h : i < l.length, CellsG G ((adr A).add (i * 3)) [.int .i64 l[i].kind, .int .i64 l[i].no, .slice p.1 l[i].data.length p.2] ∧ Bs G (.slice p.1 l[i].data.length p.2) l[i].data := fun i => by
    by_cases hi : i < l.length
    · obtain ⟨cs, _, ⟨B, d, rfl, h6⟩, h5⟩ := h4 i _ (List.getElem?_eq_getElem hi)
      exact ⟨(B, d), fun _ => ⟨h5, h6⟩⟩
    · exact ⟨(none, 0), fun h => absurd h hi⟩
  refine ⟨A, c, fun i => (Classical.choose (hk i)).1, fun i => (Classical.choose (hk i)).2, rfl, h1, h2, h3, fun i hi => ?_, fun i hi => ?_⟩
  · exact (Classical.choose_spec (hk i) hi).1
  · exact (Classical.choose_spec (hk i) hi).2
theorem flOpen {G : GH} {v : Value} {l : List Fl} (h : Fls G v l) : ∃ A c, ∃ dA : Nat → Option Addr, ∃ dc : Nat → Nat, v = .slice A l.length c ∧ l.length ≤ c ∧ c ≤ maxLen ∧ (0 < l.length → A.isSome = true) ∧
    (∀ i (h : i < l.length), CellsG G ((adr A).add (i * 2)) [.int .i64 l[i].1, .slice (dA i) l[i].2.length (dc i)]) ∧ (∀ i (h : i < l.length), Bs G (.slice (dA i) l[i].2.length (dc i)) l[i].2) := by
  obtain ⟨A, c, rfl, h1, h2, h3, h4⟩ := h.open
  have hk : ∀ i, ∃ p : Option Addr × Nat, ∀ h : i < l.length, CellsG G ((adr A).add (i * 2)) [.int .i64 l[i].1, .slice p.1 l[i].2.length p.2] ∧ Bs G (.slice p.1 l[i].2.length p.2) l[i].2 := fun i => by
    by_cases hi : i < l.length
    · obtain ⟨cs, _, ⟨B, d, rfl, h6⟩, h5⟩ := h4 i _ (List.getElem?_eq_getElem hi)
      exact ⟨(B, d), fun _ => ⟨h5, h6⟩⟩
    · exact ⟨(none, 0), fun h => absurd h hi⟩
  refine ⟨A, c, fun i => (Classical.choose (hk i)).1, fun i => (Classical.choose (hk i)).2, rfl, h1, h2, h3, fun i hi => ?_, fun i hi => ?_⟩
  · exact (Classical.choose_spec (hk i) hi).1
  · exact (Classical.choose_spec (hk i) hi).2
def inNo (no : Int) : Prop := 1 ≤ no ∧ no ≤ 4294967296
instance (no : Int) : Decidable (inNo no) := by unfold inNo; infer_instance
/-- Files in a map. -/
def MF (G : GH) (l : List (Int × Value)) (g : Fs) : Prop := ∀ k, match mget l k with | none => g k = none | some v => ∃ A c b, v = .slice A b.length c ∧ g k = some b ∧ Bs G v b ∧ inNo k
theorem MF.up {G G' : GH} (hle : GH.le G G') {l : List (Int × Value)} {g : Fs} (h : MF G l g) : MF G' l g := fun k => by
  have := h k
  revert this
  cases mget l k with
  | none => exact id
  | some v => exact fun ⟨A, c, b, h0, h1, h2, h3⟩ => ⟨A, c, b, h0, h1, h2.mono hle, h3⟩
end Go.Proofs.Ytgflmkhfachlcaa
/-
  disk (layer 18): what is buffered is done to files.
-/
set_option linter.unusedSimpArgs false
set_option linter.unusedVariables false
namespace Go.Proofs.Ytgflmkhfachlcaa
open Go.Vx Go.ChangeShapes Go.WideShapes Go.ChangeAt Go.RowKit
theorem flat_drop {sz : Nat} {sp : List Value} : ∀ {css : List (List Value)}, (∀ cs ∈ css, cs.length = sz) → ∀ i (h : i < css.length), ((css.flatten ++ sp).drop (i * sz)).take sz = css[i]
  | [], _, i, h => absurd h (by simp)
  | cs :: css, hl, 0, h => by
    have := hl cs (by simp)
    rw [Nat.zero_mul, List.drop_zero, List.flatten_cons, List.append_assoc, ← this, List.take_left]
    rfl
  | cs :: css, hl, i + 1, h => by
    have h1 := hl cs (by simp)
    have ih := flat_drop (sz := sz) (sp := sp) (css := css) (fun c hc => hl c (List.mem_cons_of_mem _ hc)) i (by simpa using h)
    rw [List.flatten_cons, List.append_assoc, Nat.add_mul, Nat.one_mul, Nat.add_comm, ← List.drop_drop, ← h1, List.drop_left, h1, ih]
    rfl
/-- The cells of what is buffered. -/
def OpsC (G : GH) (cells : List Value) (l : List Dop) (dA : Nat → Option Addr) (dc : Nat → Nat) : Prop := (∀ i (h : i < l.length), (cells.drop (i * 3)).take 3 = [.int .i64 l[i].kind, .int .i64 l[i].no, .slice (dA i) l[i].data.length (dc i)]) ∧ ∀ i (h : i < l.length), Bs G (.slice (dA i) l[i].data.length (dc i)) l[i].data
theorem opsCases {G : GH} {e : TypeId} {v : Value} {l : List Dop} {ν : OH} (h : GrL e 3 (OpR G) v l ν) : (v = .slice none 0 0 ∧ l = [] ∧ ν = []) ∨ ∃ b cap cells dA dc, v = .slice (some ⟨b, 0, none⟩) l.length cap ∧ l.length ≤ cap ∧ cap ≤ maxLen ∧ ν = [(b, .cells cells.toArray e (0, 0))] ∧ OpsC G cells l dA dc := by
  obtain ⟨css, h1, h2, h3⟩ := h
  obtain ⟨hl, ⟨rfl, h4, rfl⟩ | ⟨b, cap, spare, rfl, rfl, h5, h6, h7⟩⟩ := h3
  · exact .inl ⟨rfl, List.eq_nil_of_length_eq_zero h4, rfl⟩
  · have hlen : ∀ cs ∈ css, cs.length = 3 := fun cs hc => by
      obtain ⟨i, hi, rfl⟩ := List.getElem_of_mem hc
      exact (h2 i _ _ (List.getElem?_eq_getElem (by omega)) (List.getElem?_eq_getElem hi)).1
    have hk : ∀ i, ∃ p : Option Addr × Nat, ∀ h : i < l.length, css[i]'(by omega) = [.int .i64 l[i].kind, .int .i64 l[i].no, .slice p.1 l[i].data.length p.2] ∧ Bs G (.slice p.1 l[i].data.length p.2) l[i].data := fun i => by
      by_cases hi : i < l.length
      · obtain ⟨_, A, c, e1, e2⟩ := h2 i _ _ (List.getElem?_eq_getElem hi) (List.getElem?_eq_getElem (show i < css.length by omega))
        exact ⟨(A, c), fun _ => ⟨e1, e2⟩⟩
      · exact ⟨(none, 0), fun h => absurd h hi⟩
    refine .inr ⟨b, cap, css.flatten ++ spare, fun i => (Classical.choose (hk i)).1, fun i => (Classical.choose (hk i)).2, rfl, h5, h6, rfl, fun i hi => ?_, fun i hi => (Classical.choose_spec (hk i) hi).2⟩
    rw [flat_drop hlen i (by omega)]
    exact (Classical.choose_spec (hk i) hi).1
def Bd (g : Fs) (N : Nat) : Prop := ∀ k b, g k = some b → b.length ≤ N
theorem mf_none {G : GH} {l : List (Int × Value)} {g : Fs} (h : MF G l g) {k : Int} (hk : mget l k = none) : g k = none := by
  have := h k
  rw [hk] at this
  exact this
theorem mf_put {G : GH} {l : List (Int × Value)} {g g' : Fs} (h : MF G l g) {k : Int} {A : Option Addr} {c : Nat} {b : List Int} (hb : Bs G (.slice A b.length c) b) (hno : inNo k) (hg : ∀ k', g' k' = if k' = k then some b else g k') : MF G (mput l k (.slice A b.length c)) g' := fun k' => by
  rw [mget_put, hg]
  by_cases e : k' = k
  · rw [if_pos e, if_pos e]
    subst e
    exact ⟨A, c, b, rfl, rfl, hb, hno⟩
  · rw [if_neg e, if_neg e]
    exact h k'
theorem mf_del {G : GH} {l : List (Int × Value)} {g g' : Fs} (h : MF G l g) {k : Int} (hg : ∀ k', g' k' = if k' = k then none else g k') : MF G (mdel l k) g' := fun k' => by
  rw [mget_del, hg]
  by_cases e : k' = k
  · rw [if_pos e, if_pos e]
  · rw [if_neg e, if_neg e]
    exact h k'
theorem mput_len {l : List (Int × Value)} {k : Int} {v : Value} : (mput l k v).length ≤ l.length + 1 := by
  unfold mput
  split <;> simp
theorem mdel_len {l : List (Int × Value)} {k : Int} : (mdel l k).length ≤ l.length := List.length_filter_le _ _
theorem bd_do {g : Fs} {N : Nat} {x : Dop} (h : Bd g N) : Bd (gdo g x) (N + x.data.length) := by
  intro k b hb
  unfold gdo at hb
  split at hb
  · have := h k b hb; omega
  · split at hb
    · simp only [Option.some.injEq] at hb
      cases hg : g k with
      | none => rw [hg] at hb; simp at hb; subst hb; simp
      | some c => rw [hg] at hb; simp at hb; subst hb; have := h k _ hg; omega
    · split at hb
      · obtain ⟨c, hc, rfl⟩ := Option.map_eq_some_iff.1 hb
        have := h k c hc
        rw [List.length_append]; omega
      · split at hb
        · cases hb
        · have := h k b hb; omega
theorem p_idxOwn {P : Program} {σ : Env} {t ty : TypeId} {bytes : Nat} {zero : Value} {e : TypeId} {agg : Bool} {sz : Nat} {x i : Operand} {b l c k : Nat} {kd : IntKind} [Ty P t (.slice e)] [Lay P e agg sz bytes zero] (hx : Env.ev σ x = some (.slice (some ⟨b, 0, none⟩) l c)) (hi : Env.ev σ i = some (.int kd (k : Nat))) (h : k < l) : PureOp P (.indexAddr t x i) ty σ (.pointer (some ⟨b, k * sz, none⟩)) := by
  have := p_indexAddr (P := P) (t := t) (ty := ty) hx hi (by omega) (by omega)
  simpa [add_mk] using this
theorem do_s {G : GH} {l : List Dop} {g : Fs} {ml : List (Int × Value)} {m ob cap n N : Nat} {oM : Obj} {cells : List Value} {dA : Nat → Option Addr} {dc : Nat → Nat}
    (hM : MapB keyI ml oM) (hF : MF G ml g) (hN : Bd g N) (hC : OpsC G cells l dA dc) (hn : n ≤ l.length) (hl : l.length ≤ 1000) (hx : ∀ x ∈ l, x.data.length ≤ 100) (hno : ∀ x ∈ l, inNo x.no) (hb : N + 100 * n ≤ 100000) (hcap : n ≤ cap) :
    Con Try.prog 47 #[.map (some m), .slice (some ⟨ob, 0, none⟩) n cap] G [(m, oM), (ob, .cells cells.toArray 84 (0, 0))]
      (fun r G' μ' => GH.le G G' ∧ ∃ ml' oM', MapB keyI ml' oM' ∧ MF G' ml' (gall g (l.take n)) ∧ Bd (gall g (l.take n)) (N + 100 * n) ∧ ml'.length ≤ ml.length + n ∧ μ' = [(m, oM'), (ob, .cells cells.toArray 84 (0, 0))]) := by
  (refine v_enter Try.func47 rfl Try.ntmps47 rfl ?_; intro B _)
  repeat' (first | apply v_seq | apply v_region | apply v_nil | apply v_block | (apply v_pure; (case hop => first | (apply p_move <;> rfl) | (apply p_lenSlice <;> rfl) | fail); (case hd => rfl)) | fail)
  refine v_loop [10, 9, 8, 0] (fun us G' μ' => GH.le G G' ∧ ∃ (k : Nat) (ml' : List (Int × Value)) (oM' : Obj), k ≤ n ∧ us = [Value.int .i64 (k : Nat), .int .i64 (n : Nat), .slice (some ⟨ob, 0, none⟩) n cap, .map (some m)] ∧ MapB keyI ml' oM' ∧ MF G' ml' (gall g (l.take k)) ∧ Bd (gall g (l.take k)) (N + 100 * k) ∧ ml'.length ≤ ml.length + k ∧ μ' = [(m, oM'), (ob, .cells cells.toArray 84 (0, 0))]) (fun us => n - (headI us).toNat) rfl ⟨GH.le_refl _, 0, ml, oM, by omega, rfl, hM, hF, hN, by omega, rfl⟩ ?_
  rintro us G' _ ⟨hle, k, ml1, oM1, hk, rfl, hM1, hF1, hN1, hl1, rfl⟩
  by_cases hlt : k < n
  · have e1 : ((k : Nat) : Int).toNat = k := by omega
    have hkl : k < l.length := by omega
    have hcd := hC.1 k hkl
    have hdat := (hC.2 k hkl).mono hle
    have hxl := hx _ (List.getElem_mem hkl)
    have hnl := hno _ (List.getElem_mem hkl)
    have hnx : gall g (l.take (k + 1)) = gdo (gall g (l.take k)) l[k] := by
      unfold gall
      rw [List.take_succ_eq_append_getElem hkl, List.foldl_append]
      rfl
    have hN2 := bd_do (x := l[k]) hN1
    generalize gall g (l.take k) = g1 at *
    generalize hxe : l[k] = x at *
    obtain ⟨kind, no, data⟩ := x
    simp only at *
    have hrd := fun (σ : Env) (μ : OH) (ty : TypeId) (xo i : Operand) (hb : (m, oM1) ∈ μ) (h1 : Env.ev σ xo = some (.map (some m))) (h2 : Env.ev σ i = some (keyI no)) => r_lookupOk (P := Try.prog) (σ := σ) (G := G') (μ := μ) (ty := ty) (t := 79) (k := 3) (e := 49) (mk := keyI) no h1 h2 hb hM1
    have hFk := hF1 no
    have hl2 := mput_len (l := ml1) (k := no) (v := .slice none 0 0)
    have hl3 := mdel_len (l := ml1) (k := no)
    have hd3 : kind = 3 → MF G' (mdel ml1 no) (gdo g1 ⟨kind, no, data⟩) := fun h3 => mf_del hF1 fun k' => by
      unfold gdo
      by_cases e : k' = no
      · simp [e, h3]
      · simp [e]
    have hoth : ¬ kind = 1 → ¬ kind = 2 → ¬ kind = 3 → gdo g1 ⟨kind, no, data⟩ = g1 := fun h1 h2 h3 => by
      funext k'
      unfold gdo
      by_cases e : k' = no
      · simp [e, h1, h2, h3]
      · simp [e]
    have hN3 : Bd (gdo g1 ⟨kind, no, data⟩) (N + 100 * (k + 1)) := fun k' b' hb' => by have := hN2 k' b' hb'; omega
    have hsame : gdo g1 ⟨kind, no, data⟩ = g1 → MF G' ml1 (gdo g1 ⟨kind, no, data⟩) := fun e => by rw [e]; exact hF1
    clear hF hM hN hN2
    rw [← hnx] at hN3 hd3 hoth hsame
    cases hmg : mget ml1 no with
    | none =>
      have hg0 := mf_none hF1 hmg
      have hd1 : kind = 1 → MF G' (mput ml1 no (.slice none 0 0)) (gdo g1 ⟨kind, no, data⟩) := fun h1 => mf_put (A := none) (c := 0) (b := []) hF1 Sl.nil hnl fun k' => by
        unfold gdo
        by_cases e : k' = no
        · simp [e, h1, hg0]
        · simp [e]
      have h2no : kind = 2 → gdo g1 ⟨kind, no, data⟩ = g1 := fun h2 => by
        funext k'
        unfold gdo
        by_cases e : k' = no
        · simp [e, h2, hg0]
        · simp [e]
      rw [← hnx] at hd1 h2no
      simp only [hmg, Option.getD_none, Option.isSome_none] at hrd
      repeat' (first | (apply v_pure; (case hop => apply p_idxOwn; (case hx => rfl); (case hi => rfl); (case h => omega)); (case hd => rfl)) | apply v_seq | apply v_region | apply v_nil | apply v_skip | apply v_block | apply v_blk | (apply v_take; (case hg => rfl)) | (apply v_pass; (case hg => rfl); (case hn => rfl); (case hd => rfl)) | (apply v_pure; (case hop => first | (apply p_move <;> rfl) | (apply p_eq <;> rfl) | (apply p_lt <;> rfl) | (apply p_assign <;> rfl) | (apply p_pickT <;> rfl) | (apply p_pickF <;> rfl) | (apply p_not <;> rfl) | (apply p_fieldAddrB <;> rfl) | (apply p_extract0 <;> rfl) | (apply p_extract1 <;> rfl) | (apply p_add; (case hx => rfl); (case hy => rfl); (case h => omega)) | fail); (case hd => rfl)) | (apply v_condT; (case hc => rfl)) | (apply v_condF; (case hc => rfl)) | (apply v_cond; (case hc => rfl); all_goals (intro h; (try simp only [reduceCtorEq, dec_true, dec_false, decide_eq_true_eq, decide_eq_false_iff_not, Bool.not_eq_true', Bool.not_eq_false', Option.isNone_iff_eq_none, beq_true, beq_false, beq_iff_eq, beq_eq_false_iff_ne, ne_eq, decide_eq_decide, Bool.not_eq_true, Bool.not_eq_false, Decidable.not_not] at h); first | (exfalso; omega) | skip)) | (apply v_guardB; (case h1 => rfl); (case h2 => rfl); all_goals (intro h; (try simp only [reduceCtorEq, dec_true, dec_false, decide_eq_true_eq, decide_eq_false_iff_not, Bool.not_eq_true', Bool.not_eq_false', Option.isNone_iff_eq_none, beq_true, beq_false, beq_iff_eq, beq_eq_false_iff_ne, ne_eq, decide_eq_decide, Bool.not_eq_true, Bool.not_eq_false, Decidable.not_not] at h); first | skip)) | (apply v_read; (case hop => (apply r_loadNo; (case hx => rfl); (case h => repeat (first | exact List.Mem.head _ | apply List.Mem.tail)); (case hd => exact hcd); (case hn => rfl))); (case hd => rfl)) | (apply v_read; (case hop => apply hrd; (case hb => repeat (first | exact List.Mem.head _ | apply List.Mem.tail)); all_goals rfl); (case hd => rfl)) | (apply v_mapUpdate (k := 3) (mk := keyI) no (hM := hM1); (case hx => rfl); (case hi => rfl); (case hy => rfl); (case hp => exact PickA.perm (ν := [(m, oM1)]) (by repeat (first | exact PickA.here _ | apply PickA.cons | fail))); intro oM2 hM2 hK2) | (apply v_delete0 (k := 3) (mk := keyI) no (hM := hM1); (case hx => rfl); (case hi => rfl); (case hp => exact PickA.perm (ν := [(m, oM1)]) (by repeat (first | exact PickA.here _ | apply PickA.cons | fail))); intro oM2 hM2 hK2) | (apply v_read; (case hop => first | (apply r_load1; rfl; (apply Cell.own; (case h => (repeat (first | exact List.Mem.head _ | fail))); rfl)) | fail); (case hd => rfl)) | (apply v_alloc; (case hz => rfl); (case hd => rfl); intro b) | (apply v_store; (case hp => rfl); (case hx => rfl); (case hc => rfl); (case hsz => rfl); (case h1 => rfl); (case hb => (repeat (first | exact List.Mem.head _ | fail))); (case hfit => first | exact Nat.le_of_ble_eq_true rfl | fail); (case hov => (first | ((repeat (first | with_reducible exact ov_nil | apply ov_cons | fail)); done) | fail)); (case hu => repeat (first | exact Upd.here _ _ | fail))) | fail)
      all_goals first
        | (refine v_drop (ν := [(m, oM2), (ob, _)]) (by repeat (first | exact List.Sublist.refl _ | apply List.Sublist.cons_cons | apply List.Sublist.cons | fail)) ?_
           refine v_again rfl ⟨hle, k + 1, _, oM2, by omega, rfl, hM2, hd1 (by assumption), hN3, by omega, rfl⟩ (by simp [headI]; omega))
        | (refine v_drop (ν := [(m, oM2), (ob, _)]) (by repeat (first | exact List.Sublist.refl _ | apply List.Sublist.cons_cons | apply List.Sublist.cons | fail)) ?_
           refine v_again rfl ⟨hle, k + 1, _, oM2, by omega, rfl, hM2, hd3 (by assumption), hN3, by omega, rfl⟩ (by simp [headI]; omega))
        | (refine v_drop (ν := [(m, oM1), (ob, _)]) (by repeat (first | exact List.Sublist.refl _ | apply List.Sublist.cons | fail)) ?_
           refine v_again rfl ⟨hle, k + 1, _, oM1, by omega, rfl, hM1, hsame (by first | exact h2no (by assumption) | exact hoth (by assumption) (by assumption) (by assumption)), hN3, by omega, rfl⟩ (by simp [headI]; omega))
    | some w =>
      rw [hmg] at hFk
      obtain ⟨A9, c9, bb, rfl, hgb, hbs, -⟩ := hFk
      have h1no : kind = 1 → gdo g1 ⟨kind, no, data⟩ = g1 := fun h1 => by
        funext k'
        unfold gdo
        by_cases e : k' = no
        · simp [e, h1, hgb]
        · simp [e]
      rw [← hnx] at h1no
      simp only [hmg, Option.getD_some, Option.isSome_some] at hrd
      repeat' (first | (apply v_pure; (case hop => apply p_idxOwn; (case hx => rfl); (case hi => rfl); (case h => omega)); (case hd => rfl)) | apply v_seq | apply v_region | apply v_nil | apply v_skip | apply v_block | apply v_blk | (apply v_take; (case hg => rfl)) | (apply v_pass; (case hg => rfl); (case hn => rfl); (case hd => rfl)) | (apply v_pure; (case hop => first | (apply p_move <;> rfl) | (apply p_eq <;> rfl) | (apply p_lt <;> rfl) | (apply p_assign <;> rfl) | (apply p_pickT <;> rfl) | (apply p_pickF <;> rfl) | (apply p_not <;> rfl) | (apply p_fieldAddrB <;> rfl) | (apply p_extract0 <;> rfl) | (apply p_extract1 <;> rfl) | (apply p_add; (case hx => rfl); (case hy => rfl); (case h => omega)) | fail); (case hd => rfl)) | (apply v_condT; (case hc => rfl)) | (apply v_condF; (case hc => rfl)) | (apply v_cond; (case hc => rfl); all_goals (intro h; (try simp only [reduceCtorEq, dec_true, dec_false, decide_eq_true_eq, decide_eq_false_iff_not, Bool.not_eq_true', Bool.not_eq_false', Option.isNone_iff_eq_none, beq_true, beq_false, beq_iff_eq, beq_eq_false_iff_ne, ne_eq, decide_eq_decide, Bool.not_eq_true, Bool.not_eq_false, Decidable.not_not] at h); first | (exfalso; omega) | skip)) | (apply v_guardB; (case h1 => rfl); (case h2 => rfl); all_goals (intro h; (try simp only [reduceCtorEq, dec_true, dec_false, decide_eq_true_eq, decide_eq_false_iff_not, Bool.not_eq_true', Bool.not_eq_false', Option.isNone_iff_eq_none, beq_true, beq_false, beq_iff_eq, beq_eq_false_iff_ne, ne_eq, decide_eq_decide, Bool.not_eq_true, Bool.not_eq_false, Decidable.not_not] at h); first | (exfalso; omega) | skip)) | (apply v_read; (case hop => (apply r_loadNo; (case hx => rfl); (case h => repeat (first | exact List.Mem.head _ | apply List.Mem.tail)); (case hd => exact hcd); (case hn => rfl))); (case hd => rfl)) | (apply v_read; (case hop => apply hrd; (case hb => repeat (first | exact List.Mem.head _ | apply List.Mem.tail)); all_goals rfl); (case hd => rfl)) | (apply v_delete0 (k := 3) (mk := keyI) no (hM := hM1); (case hx => rfl); (case hi => rfl); (case hp => exact PickA.perm (ν := [(m, oM1)]) (by repeat (first | exact PickA.here _ | apply PickA.cons | fail))); intro oM2 hM2 hK2) | (apply v_read; (case hop => first | (apply r_load1; rfl; (apply Cell.own; (case h => (repeat (first | exact List.Mem.head _ | fail))); rfl)) | fail); (case hd => rfl)) | (apply v_alloc; (case hz => rfl); (case hd => rfl); intro b) | (apply v_store; (case hp => rfl); (case hx => rfl); (case hc => rfl); (case hsz => rfl); (case h1 => rfl); (case hb => (repeat (first | exact List.Mem.head _ | fail))); (case hfit => first | exact Nat.le_of_ble_eq_true rfl | fail); (case hov => (first | ((repeat (first | with_reducible exact ov_nil | apply ov_cons | fail)); done) | fail)); (case hu => repeat (first | exact Upd.here _ _ | fail))) | fail)
      all_goals try
        (refine v_drop (ν := [(m, oM2), (ob, _)]) (by repeat (first | exact List.Sublist.refl _ | apply List.Sublist.cons_cons | apply List.Sublist.cons | fail)) ?_
         refine v_again rfl ⟨hle, k + 1, _, oM2, by omega, rfl, hM2, hd3 (by assumption), hN3, by omega, rfl⟩ (by simp [headI]; omega)
         done)
      all_goals try
        (refine v_drop (ν := [(m, oM1), (ob, _)]) (by repeat (first | exact List.Sublist.refl _ | apply List.Sublist.cons | fail)) ?_
         refine v_again rfl ⟨hle, k + 1, _, oM1, by omega, rfl, hM1, hsame (by first | exact h1no (by assumption) | exact hoth (by assumption) (by assumption) (by assumption)), hN3, by omega, rfl⟩ (by simp [headI]; omega)
         done)
      have hbl := hN1 no bb hgb
      obtain ⟨_, _, _, _, _, _, _, hw1⟩ := hbs.openInt
      obtain ⟨_, _, _, _, _, _, _, hw2⟩ := hdat.openInt
      refine d_start [(b, .cells [Value.int .i64 kind, .int .i64 no, .slice (dA k) data.length (dc k)].toArray 84 (0, 0))] (by kernel_rfl) (by kernel_rfl) (by kernel_rfl) (by intro e he; first | (simp at he; simp [he]) | fail) ?_
      all_goals (first | (apply d_take 0; (case hi => rfl); (case hop => first | (apply PureOp.read; apply p_move <;> rfl)); (case hf => kernel_rfl); (case hr => kernel_rfl); (case hd => rfl)) | fail)
      all_goals (first | (apply d_take 1; (case hi => rfl); (case hop => first | (apply PureOp.read; apply p_fieldAddrB <;> rfl) | fail); (case hf => kernel_rfl); (case hr => kernel_rfl); (case hd => rfl)) | fail)
      all_goals (first | (apply d_take 2; (case hi => rfl); (case hop => first   | (apply r_loadNo; (case hx => rfl); (case h => (repeat (fail))); (case hd => (repeat (fail))); (case hn => rfl)) | (apply r_load1; rfl; (apply Cell.own; (case h => (repeat (first | exact List.Mem.head _ | fail))); rfl)) | (apply r_loadN; rfl; (apply CellsAt.own; (case h => (repeat (fail)))); rfl)); (case hf => kernel_rfl); (case hr => kernel_rfl); (case hd => rfl)) | fail)
      all_goals (first | (apply d_take 3; (case hi => rfl); (case hop => first | (apply PureOp.read; apply p_move <;> rfl)); (case hf => kernel_rfl); (case hr => kernel_rfl); (case hd => rfl)) | fail)
      all_goals (first | (apply d_take 4; (case hi => rfl); (case hop => first | (apply PureOp.read; apply p_fieldAddrB <;> rfl) | fail); (case hf => kernel_rfl); (case hr => kernel_rfl); (case hd => rfl)) | fail)
      all_goals (first | (apply d_take 5; (case hi => rfl); (case hop => first   | (apply r_loadNo; (case hx => rfl); (case h => (repeat (fail))); (case hd => (repeat (fail))); (case hn => rfl)) | (apply r_load1; rfl; (apply Cell.own; (case h => (repeat (first | exact List.Mem.head _ | fail))); rfl)) | (apply r_loadN; rfl; (apply CellsAt.own; (case h => (repeat (fail)))); rfl)); (case hf => kernel_rfl); (case hr => kernel_rfl); (case hd => rfl)) | fail)
      all_goals (first | (apply d_buildSlice 6; (case hi => rfl); (case hr => kernel_rfl); (case hT => infer_instance); (case hL => infer_instance); (case hz => rfl); (case hl => rfl); (case hv => (simp only [List.map_cons, List.map_nil]; repeat (first | with_reducible exact evs_nil | (apply evs_cons; (case h1 => rfl))))); (case hp => (first | (apply pk_cons; (case hc => rfl); (case hs => rfl); (case h => (first | (apply pk_cons; (case hc => rfl); (case hs => rfl); (case h => (first | with_reducible exact pk_nil | fail)); (case he => (first | ((repeat (first | with_reducible exact ap_nil | apply ap_cons)); done) | fail))) | fail)); (case he => (first | ((repeat (first | with_reducible exact ap_nil | apply ap_cons)); done) | fail))) | fail)); (case hb => rfl); (case hd => rfl); (case hν => intro e he; first | (simp at he; simp [he]) | fail); intro sb) | fail)
      all_goals (first | ((apply d_call 7 (hs := concat2_s (sb := sb) hbs hdat (by omega) (by omega)) (μ1 := [(sb, _)]) (μ2 := [(b, .cells [Value.int .i64 kind, .int .i64 no, .slice (dA k) data.length (dc k)].toArray 84 (0, 0)), (m, oM1), (ob, .cells cells.toArray 84 (0, 0))]); (case hi => rfl); (case hr => kernel_rfl);  (case ha => rfl); (case hp => exact List.Perm.refl _); (case hd => rfl); (case hν' => intro e he; rw [List.mem_singleton] at he; rw [he]; exact List.Mem.head _); rintro r4 G4 _ - ⟨hG4, n4, hg4, rfl⟩; subst G4; obtain ⟨A4, c4, rfl, -, -⟩ := hg4.shape)) | fail)
      all_goals (first | ((apply d_exec0 8; (case hi => rfl); (case hr => kernel_rfl);  (case hop => exact m_mapUpdate (k := 3) (mk := keyI) no rfl rfl rfl (PickA.perm (ν := [(m, oM1)]) (PickA.app _ (PickA.cons _ (PickA.one _)))) hM1); rintro _ G4 _ ⟨oM2, hM2, hK2, hG4, rfl⟩; subst G4; refine ⟨(by intro e he; rw [List.mem_singleton] at he; rw [he]; exact List.Mem.tail _ (List.mem_append_right (n4 ++ [(sb, _)]) (List.Mem.head _))), ?_⟩)) | fail)
      all_goals (apply d_done; (case hr => kernel_rfl))
      repeat' (first | apply v_region | apply v_nil | apply v_blk | (apply v_pure; (case hop => first | (apply p_move <;> rfl) | (apply p_add; (case hx => rfl); (case hy => rfl); (case h => omega)) | fail); (case hd => rfl)) | fail)
      rw [List.append_assoc]
      refine v_frz n4 (PickA.cons _ (PickA.here _)) ?_
      intro G5 hle5 hG5
      have hbs4 := hg4.ints hG5 (by
        intro y hy
        rcases List.mem_append.1 hy with hy | hy
        · exact hw1 y hy
        · exact hw2 y hy)
      have hl5 := mput_len (l := ml1) (k := no) (v := .slice A4 (bb ++ data).length c4)
      refine v_drop (ν := [(m, oM2), (ob, _)]) (List.Sublist.cons_cons _ (List.Sublist.cons _ (List.Sublist.cons _ (List.Sublist.refl _)))) ?_
      refine v_again rfl ⟨GH.le_trans hle hle5, k + 1, _, oM2, by omega, rfl, hM2, mf_put (hF1.up hle5) hbs4 hnl (fun k' => ?_), hN3, by omega, rfl⟩ (by simp [headI]; omega)
      rw [hnx]
      unfold gdo
      by_cases e : k' = no
      · have : kind = 2 := by assumption
        simp [e, this, hgb]
      · simp [e]
  · obtain rfl : k = n := by omega
    repeat' (first | apply v_seq | apply v_region | apply v_nil | (apply v_exit; (case hp => rfl)) | (apply v_pure; (case hop => first | (apply p_lt <;> rfl) | fail); (case hd => rfl)) | (apply v_cond; (case hc => rfl); all_goals (intro h; (try simp only [reduceCtorEq, dec_true, dec_false, decide_eq_true_eq, decide_eq_false_iff_not, Bool.not_eq_true', Bool.not_eq_false', Option.isNone_iff_eq_none, beq_true, beq_false, beq_iff_eq, beq_eq_false_iff_ne, ne_eq, decide_eq_decide, Bool.not_eq_true, Bool.not_eq_false, Decidable.not_not] at h); first | (exfalso; omega) | skip)) | fail)
    refine v_end [(m, _), (ob, _)] (outsA0 rfl) (by repeat (first | exact List.Sublist.refl _ | fail)) ?_
    exact ⟨hle, ml1, oM1, hM1, hF1, hN1, hl1, rfl⟩
end Go.Proofs.Ytgflmkhfachlcaa
/-
  disk (layer 18): what is put into the buffer.
-/
set_option linter.unusedSimpArgs false
set_option linter.unusedVariables false
namespace Go.Proofs.Ytgflmkhfachlcaa
open Go.Vx Go.ChangeShapes Go.WideShapes Go.ChangeAt Go.RowKit
def dkO (m : Nat) (ov : Value) : Obj := .cells [.map (some m), ov].toArray 81 (0, 0)
theorem doPre_s {G : GH} {l : List Dop} {g : Fs} {ml : List (Int × Value)} {m n N : Nat} {oM : Obj} {A : Option Addr} {c : Nat} {ν : OH}
    (hM : MapB keyI ml oM) (hF : MF G ml g) (hN : Bd g N) (hg : GrL 84 3 (OpR G) (.slice A l.length c) l ν) (hn : n ≤ l.length) (hl : l.length ≤ 1000) (hx : ∀ x ∈ l, x.data.length ≤ 100) (hno : ∀ x ∈ l, inNo x.no) (hb : N + 100 * n ≤ 100000) :
    Con Try.prog 47 #[.map (some m), .slice A n c] G ((m, oM) :: ν)
      (fun r G' μ' => GH.le G G' ∧ ∃ ml' oM', MapB keyI ml' oM' ∧ MF G' ml' (gall g (l.take n)) ∧ Bd (gall g (l.take n)) (N + 100 * n) ∧ ml'.length ≤ ml.length + n ∧ μ' = (m, oM') :: ν) := by
  rcases opsCases hg with ⟨he, rfl, rfl⟩ | ⟨b, cap, cells, dA, dc, he, h1, h2, rfl, hC⟩
  · injection he with ea _ ec
    subst ea; subst ec
    obtain rfl : n = 0 := by simpa using hn
    (refine v_enter Try.func47 rfl Try.ntmps47 rfl ?_; intro B _)
    repeat' (first | apply v_seq | apply v_region | apply v_nil | apply v_block | (apply v_pure; (case hop => first | (apply p_move <;> rfl) | (apply p_lenSlice <;> rfl) | fail); (case hd => rfl)) | fail)
    refine v_loop [10, 9] (fun us G' μ' => G' = G ∧ us = [Value.int .i64 (0 : Nat), .int .i64 (0 : Nat)] ∧ μ' = [(m, oM)]) (fun us => 0) rfl ⟨rfl, rfl, rfl⟩ ?_
    rintro us G' _ ⟨rfl, rfl, rfl⟩
    repeat' (first | apply v_seq | apply v_region | apply v_nil | (apply v_exit; (case hp => rfl)) | (apply v_pure; (case hop => first | (apply p_lt <;> rfl) | fail); (case hd => rfl)) | (apply v_cond; (case hc => rfl); all_goals (intro h; (try simp only [reduceCtorEq, dec_true, dec_false, decide_eq_true_eq, decide_eq_false_iff_not, Bool.not_eq_true', Bool.not_eq_false', Option.isNone_iff_eq_none, beq_true, beq_false, beq_iff_eq, beq_eq_false_iff_ne, ne_eq, decide_eq_decide, Bool.not_eq_true, Bool.not_eq_false, Decidable.not_not] at h); first | (exfalso; omega) | skip)) | fail)
    refine v_end [(m, _)] (outsA0 rfl) (by repeat (first | exact List.Sublist.refl _ | fail)) ?_
    exact ⟨GH.le_refl _, ml, oM, hM, hF, hN, by omega, rfl⟩
  · injection he with ea _ ec
    subst ea; subst ec
    exact do_s hM hF hN hC hn hl hx hno hb (by omega)
theorem put_s {G : GH} {l : List Dop} {d m : Nat} {ov : Value} {ν : OH} (kind no : Int) {b : List Int} {bv : Value} (hg : GrL 84 3 (OpR G) ov l ν) (hl : l.length ≤ 1000) (hb : Bs G bv b) (hbl : b.length ≤ 100) :
    Con Try.prog 58 #[.pointer (some ⟨d, 0, none⟩), .int .i64 kind, .int .i64 no, bv] G ((d, dkO m ov) :: ν)
      (fun _ G' μ' => GH.le G G' ∧ ∃ ov' ν', GrL 84 3 (OpR G') ov' (if 1 ≤ no ∧ no ≤ 4294967296 then l ++ [⟨kind, no, b⟩] else l) ν' ∧ μ' = (d, dkO m ov') :: ν') := by
  obtain ⟨css, hc1, hc2, hgr⟩ := id hg
  obtain ⟨A, c, rfl, hA, hA2⟩ := hgr.shape
  simp only [maxLen] at hA2
  have qc := bclone_s hb (by omega)
  obtain ⟨_, _, _, _, _, _, _, hwb⟩ := hb.openInt
  (refine v_enter Try.func58 rfl Try.ntmps58 rfl ?_; intro B _)
  by_cases hno : 1 ≤ no ∧ no ≤ 4294967296
  · rw [if_pos hno]
    repeat' (first | apply v_seq | apply v_region | apply v_nil | apply v_skip | (apply v_take; (case hg => rfl)) | (apply v_pure; (case hop => first | (apply p_move <;> rfl) | (apply p_lt <;> rfl) | (apply p_gt <;> rfl) | (apply p_pickF <;> rfl) | (apply p_eqNil <;> rfl) | fail); (case hd => rfl)) | (apply v_cond; (case hc => rfl); all_goals (intro h; (try simp only [reduceCtorEq, dec_true, dec_false, decide_eq_true_eq, decide_eq_false_iff_not, Bool.not_eq_true', Bool.not_eq_false', Option.isNone_iff_eq_none, beq_true, beq_false, beq_iff_eq, beq_eq_false_iff_ne, ne_eq, decide_eq_decide, Bool.not_eq_true, Bool.not_eq_false, Decidable.not_not] at h); first | (exfalso; omega) | skip)) | (apply v_guardB; (case h1 => rfl); (case h2 => rfl); all_goals (intro h; (try simp only [reduceCtorEq, dec_true, dec_false, decide_eq_true_eq, decide_eq_false_iff_not, Bool.not_eq_true', Bool.not_eq_false', Option.isNone_iff_eq_none, beq_true, beq_false, beq_iff_eq, beq_eq_false_iff_ne, ne_eq, decide_eq_decide, Bool.not_eq_true, Bool.not_eq_false, Decidable.not_not] at h); first | (exfalso; omega) | skip)) | fail)
    refine d_start [] (by kernel_rfl) (by kernel_rfl) (by kernel_rfl) (by intro e he; first | (simp at he ⊢; try omega)) ?_
    all_goals (first | (apply d_take 0; (case hi => rfl); (case hop => first | (apply PureOp.read; apply p_move <;> rfl)); (case hf => kernel_rfl); (case hr => kernel_rfl); (case hd => rfl)) | fail)
    all_goals (first | (apply d_take 1; (case hi => rfl); (case hop => first | (apply PureOp.read; apply p_move <;> rfl)); (case hf => kernel_rfl); (case hr => kernel_rfl); (case hd => rfl)) | fail)
    all_goals (first | (apply d_take 2; (case hi => rfl); (case hop => first | (apply PureOp.read; apply p_nilCheck <;> rfl)); (case hf => kernel_rfl); (case hr => kernel_rfl); (case hd => rfl)) | fail)
    all_goals (first | (apply d_take 3; (case hi => rfl); (case hop => first | (apply PureOp.read; apply p_fieldAddrB <;> rfl) | fail); (case hf => kernel_rfl); (case hr => kernel_rfl); (case hd => rfl)) | fail)
    all_goals (first | (apply d_take 5; (case hi => rfl); (case hop => first | (apply PureOp.read; apply p_move <;> rfl)); (case hf => kernel_rfl); (case hr => kernel_rfl); (case hd => rfl)) | fail)
    all_goals (first | (apply d_take 6; (case hi => rfl); (case hop => first | (apply PureOp.read; apply p_move <;> rfl)); (case hf => kernel_rfl); (case hr => kernel_rfl); (case hd => rfl)) | fail)
    all_goals (first | (apply d_take 7; (case hi => rfl); (case hop => first | (apply PureOp.read; apply p_move <;> rfl)); (case hf => kernel_rfl); (case hr => kernel_rfl); (case hd => rfl)) | fail)
    refine d_fork 4 8 (by kernel_rfl) ?fk1a ?fk1b
    case' fk1a =>
      first | (apply x_exec 4; (case hi => rfl);  (case hop => exact ReadOp.move (r_load1 rfl (Cell.own (by repeat (first | exact List.Mem.head _ | fail)) rfl))); (case hd => rfl); rintro _ G0 _ ⟨rfl, hG0, rfl⟩; subst G0; refine ⟨(by intro e he; cases he), ?_⟩) | fail
      all_goals (first | ((apply d_call 8 (hs := qc) (μ1 := []); (case hi => rfl); (case hr => kernel_rfl);  (case ha => rfl); (case hp => exact List.Perm.refl _); (case hd => rfl); (case hν' => intro e he; cases he); rintro r4 G4 n4 - ⟨hG4, hg4⟩; subst G4; obtain ⟨A4, c4, rfl, -, -⟩ := hg4.shape)) | fail)
      all_goals (first | (apply d_take 9; (case hi => rfl); (case hop => first | (apply PureOp.read; apply p_build; (case hz => rfl); (case hv => (simp only [List.map_cons, List.map_nil]; repeat (first | with_reducible exact evs_nil | (apply evs_cons; (case h1 => rfl))))); (case hb => (apply bldL; repeat (first | exact bld_nil | (apply bld_cons; (case hpf => rfl); (case hc => rfl); (case hs => rfl); (case hl => rfl); (case ho => (first | ((repeat (first | with_reducible exact ov_nil | apply ov_cons | fail)); done) | fail)))))))); (case hf => kernel_rfl); (case hr => kernel_rfl); (case hd => rfl)) | fail)
      all_goals (first | (apply d_buildSlice 10; (case hi => rfl); (case hr => kernel_rfl); (case hT => infer_instance); (case hL => infer_instance); (case hz => rfl); (case hl => rfl); (case hv => (simp only [List.map_cons, List.map_nil]; repeat (first | with_reducible exact evs_nil | (apply evs_cons; (case h1 => rfl))))); (case hp => (first | (apply pk_cons; (case hc => rfl); (case hs => rfl); (case h => (first | with_reducible exact pk_nil | fail)); (case he => (first | ((repeat (first | with_reducible exact ap_nil | apply ap_cons)); done) | fail))) | fail)); (case hb => rfl); (case hd => rfl); (case hν => intro e he; first | (cases he; done) | fail); intro sb) | fail)
      all_goals (first | (apply d_append 11 (hg := hgr) (q' := 1) (us := [.int .i64 kind, .int .i64 no, .slice A4 b.length c4]) (hp := PickA.perm (PickA.cons _ (PickA.app _ (PickA.cons _ PickA.last)))) (hsrc := Src.own (e := 84) (List.Mem.head _) rfl); (case hi => rfl); (case hr => kernel_rfl); (case hT => infer_instance); (case hL => infer_instance); (case hzs => rfl); (case hsz => omega); (case hs => rfl); (case hx => rfl); (case hb => omega); (case hb' => simp only [maxLen]; omega); (case hd => rfl); (case h1 => first | rfl | fail); (case hν => intro e he; first | (cases he; done) | fail); intro v5 n5 g5; obtain ⟨A5, c5, rfl, -, -⟩ := g5.shape) | fail)
      all_goals (first | (apply d_take 12; (case hi => rfl); (case hop => first | (apply PureOp.read; apply p_nilCheck <;> rfl)); (case hf => kernel_rfl); (case hr => kernel_rfl); (case hd => rfl)) | fail)
      all_goals (first | (apply d_take 13; (case hi => rfl); (case hop => first | (apply PureOp.read; apply p_fieldAddrB <;> rfl) | fail); (case hf => kernel_rfl); (case hr => kernel_rfl); (case hd => rfl)) | fail)
      all_goals (first | (apply d_store 14; (case hi => rfl); (case hr => kernel_rfl); (case hL => infer_instance); (case hp => rfl); (case hx => rfl); (case hc => rfl); (case hsz => rfl); (case h1 => rfl); (case hb => (repeat (first | exact List.Mem.head _ | apply List.Mem.tail | apply List.mem_append_right))); (case hfit => first | exact Nat.le_of_ble_eq_true rfl | fail); (case hov => (first | ((repeat (first | with_reducible exact ov_nil | apply ov_cons | fail)); done) | fail)); (case hu => repeat (first | exact Upd.here _ _ | apply Upd.there | apply Upd.app)); (case hν' => intro e he; first | (cases he; done) | fail)) | fail)
      all_goals (apply d_done; (case hr => kernel_rfl))
    case' fk1b =>
      first | (apply x_call 8 (hs := qc) (μ1 := []); (case hi => rfl);  (case ha => rfl); (case hp => exact List.Perm.refl _); (case hd => rfl); (case hν' => intro e he; cases he); rintro r4 G4 n4 - ⟨hG4, hg4⟩; subst G4; obtain ⟨A4, c4, rfl, -, -⟩ := hg4.shape) | fail
      all_goals (first | (apply d_take 9; (case hi => rfl); (case hop => first | (apply PureOp.read; apply p_build; (case hz => rfl); (case hv => (simp only [List.map_cons, List.map_nil]; repeat (first | with_reducible exact evs_nil | (apply evs_cons; (case h1 => rfl))))); (case hb => (apply bldL; repeat (first | exact bld_nil | (apply bld_cons; (case hpf => rfl); (case hc => rfl); (case hs => rfl); (case hl => rfl); (case ho => (first | ((repeat (first | with_reducible exact ov_nil | apply ov_cons | fail)); done) | fail)))))))); (case hf => kernel_rfl); (case hr => kernel_rfl); (case hd => rfl)) | fail)
      refine d_fork 4 10 (by kernel_rfl) ?fk2a ?fk2b
      case' fk2a =>
        first | (apply x_exec 4; (case hi => rfl);  (case hop => exact ReadOp.move (r_load1 rfl (Cell.own (by repeat (first | exact List.Mem.head _ | apply List.mem_append_right)) rfl))); (case hd => rfl); rintro _ G0 _ ⟨rfl, hG0, rfl⟩; subst G0; refine ⟨(by intro e he; cases he), ?_⟩) | fail
        all_goals (first | (apply d_buildSlice 10; (case hi => rfl); (case hr => kernel_rfl); (case hT => infer_instance); (case hL => infer_instance); (case hz => rfl); (case hl => rfl); (case hv => (simp only [List.map_cons, List.map_nil]; repeat (first | with_reducible exact evs_nil | (apply evs_cons; (case h1 => rfl))))); (case hp => (first | (apply pk_cons; (case hc => rfl); (case hs => rfl); (case h => (first | with_reducible exact pk_nil | fail)); (case he => (first | ((repeat (first | with_reducible exact ap_nil | apply ap_cons)); done) | fail))) | fail)); (case hb => rfl); (case hd => rfl); (case hν => intro e he; first | (cases he; done) | fail); intro sb) | fail)
        all_goals (first | (apply d_append 11 (hg := hgr) (q' := 1) (us := [.int .i64 kind, .int .i64 no, .slice A4 b.length c4]) (hp := PickA.perm (PickA.cons _ (PickA.app _ (PickA.cons _ PickA.last)))) (hsrc := Src.own (e := 84) (List.Mem.head _) rfl); (case hi => rfl); (case hr => kernel_rfl); (case hT => infer_instance); (case hL => infer_instance); (case hzs => rfl); (case hsz => omega); (case hs => rfl); (case hx => rfl); (case hb => omega); (case hb' => simp only [maxLen]; omega); (case hd => rfl); (case h1 => first | rfl | fail); (case hν => intro e he; first | (cases he; done) | fail); intro v5 n5 g5; obtain ⟨A5, c5, rfl, -, -⟩ := g5.shape) | fail)
        all_goals (first | (apply d_take 12; (case hi => rfl); (case hop => first | (apply PureOp.read; apply p_nilCheck <;> rfl)); (case hf => kernel_rfl); (case hr => kernel_rfl); (case hd => rfl)) | fail)
        all_goals (first | (apply d_take 13; (case hi => rfl); (case hop => first | (apply PureOp.read; apply p_fieldAddrB <;> rfl) | fail); (case hf => kernel_rfl); (case hr => kernel_rfl); (case hd => rfl)) | fail)
        all_goals (first | (apply d_store 14; (case hi => rfl); (case hr => kernel_rfl); (case hL => infer_instance); (case hp => rfl); (case hx => rfl); (case hc => rfl); (case hsz => rfl); (case h1 => rfl); (case hb => (repeat (first | exact List.Mem.head _ | apply List.Mem.tail | apply List.mem_append_right))); (case hfit => first | exact Nat.le_of_ble_eq_true rfl | fail); (case hov => (first | ((repeat (first | with_reducible exact ov_nil | apply ov_cons | fail)); done) | fail)); (case hu => repeat (first | exact Upd.here _ _ | apply Upd.there | apply Upd.app)); (case hν' => intro e he; first | (cases he; done) | fail)) | fail)
        all_goals (apply d_done; (case hr => kernel_rfl))
      case' fk2b =>
        first | (apply x_buildSlice 10; (case hi => rfl); (case hT => infer_instance); (case hL => infer_instance); (case hz => rfl); (case hl => rfl); (case hv => (simp only [List.map_cons, List.map_nil]; repeat (first | with_reducible exact evs_nil | (apply evs_cons; (case h1 => rfl))))); (case hp => (first | (apply pk_cons; (case hc => rfl); (case hs => rfl); (case h => (first | with_reducible exact pk_nil | fail)); (case he => (first | ((repeat (first | with_reducible exact ap_nil | apply ap_cons)); done) | fail))) | fail)); (case hb => rfl); (case hd => rfl); (case hν => intro e he; first | (cases he; done) | fail); intro sb) | fail
        all_goals (first | (apply d_keep 4 (hop := ReadOp.move ?hop); (case hi => rfl); (case hr => kernel_rfl); (case hop => (apply r_load1; rfl; (apply Cell.own; (case h => repeat (first | exact List.Mem.head _ | apply List.Mem.tail | apply List.mem_append_right)); rfl))); (case hd => rfl)) | fail)
        all_goals (first | (apply d_append 11 (hg := hgr) (q' := 1) (us := [.int .i64 kind, .int .i64 no, .slice A4 b.length c4]) (hp := PickA.perm (PickA.cons _ (PickA.app _ (PickA.cons _ PickA.last)))) (hsrc := Src.own (e := 84) (List.Mem.head _) rfl); (case hi => rfl); (case hr => kernel_rfl); (case hT => infer_instance); (case hL => infer_instance); (case hzs => rfl); (case hsz => omega); (case hs => rfl); (case hx => rfl); (case hb => omega); (case hb' => simp only [maxLen]; omega); (case hd => rfl); (case h1 => first | rfl | fail); (case hν => intro e he; first | (cases he; done) | fail); intro v5 n5 g5; obtain ⟨A5, c5, rfl, -, -⟩ := g5.shape) | fail)
        all_goals (first | (apply d_take 12; (case hi => rfl); (case hop => first | (apply PureOp.read; apply p_nilCheck <;> rfl)); (case hf => kernel_rfl); (case hr => kernel_rfl); (case hd => rfl)) | fail)
        all_goals (first | (apply d_take 13; (case hi => rfl); (case hop => first | (apply PureOp.read; apply p_fieldAddrB <;> rfl) | fail); (case hf => kernel_rfl); (case hr => kernel_rfl); (case hd => rfl)) | fail)
        all_goals (first | (apply d_store 14; (case hi => rfl); (case hr => kernel_rfl); (case hL => infer_instance); (case hp => rfl); (case hx => rfl); (case hc => rfl); (case hsz => rfl); (case h1 => rfl); (case hb => (repeat (first | exact List.Mem.head _ | apply List.Mem.tail | apply List.mem_append_right))); (case hfit => first | exact Nat.le_of_ble_eq_true rfl | fail); (case hov => (first | ((repeat (first | with_reducible exact ov_nil | apply ov_cons | fail)); done) | fail)); (case hu => repeat (first | exact Upd.here _ _ | apply Upd.there | apply Upd.app)); (case hν' => intro e he; first | (cases he; done) | fail)) | fail)
        all_goals (apply d_done; (case hr => kernel_rfl))
    all_goals repeat' (fail)
    all_goals
      (refine v_frz n4 (PickA.app _ (PickA.cons _ (PickA.here _))) ?_
       intro G5 hle5 hG5
       have hbs := hg4.ints hG5 hwb
       refine v_perm List.perm_middle ?_
       refine v_drop (List.sublist_cons_self _ _) ?_
       refine v_perm List.perm_append_comm ?_
       refine v_end ((d, dkO m (.slice A5 (l.length + 1) c5)) :: n5) (outsA0 rfl) (List.Sublist.refl _) ?_
       exact ⟨hle5, _, n5, GrL.snoc (R := OpR G5) (x := ⟨kind, no, b⟩) hc1 (fun i y cs hy hc => ⟨(hc2 i y cs hy hc).1, (hc2 i y cs hy hc).2.le hle5⟩) g5 rfl ⟨A4, c4, rfl, hbs⟩, rfl⟩)
  · rw [if_neg hno]
    repeat' (first | apply v_seq | apply v_region | apply v_nil | (apply v_take; (case hg => rfl)) | (apply v_pass; (case hg => rfl); (case hn => rfl); (case hd => rfl)) | (apply v_pure; (case hop => first | (apply p_move <;> rfl) | (apply p_lt <;> rfl) | (apply p_gt <;> rfl) | (apply p_pickT <;> rfl) | (apply p_pickF <;> rfl) | (apply p_eqNil <;> rfl) | fail); (case hd => rfl)) | (apply v_condT; (case hc => rfl)) | (apply v_cond; (case hc => rfl); all_goals (intro h; (try simp only [reduceCtorEq, dec_true, dec_false, decide_eq_true_eq, decide_eq_false_iff_not, Bool.not_eq_true', Bool.not_eq_false', Option.isNone_iff_eq_none, beq_true, beq_false, beq_iff_eq, beq_eq_false_iff_ne, ne_eq, decide_eq_decide, Bool.not_eq_true, Bool.not_eq_false, Decidable.not_not] at h); first | (exfalso; omega) | skip)) | (apply v_guardB; (case h1 => rfl); (case h2 => rfl); all_goals (intro h; (try simp only [reduceCtorEq, dec_true, dec_false, decide_eq_true_eq, decide_eq_false_iff_not, Bool.not_eq_true', Bool.not_eq_false', Option.isNone_iff_eq_none, beq_true, beq_false, beq_iff_eq, beq_eq_false_iff_ne, ne_eq, decide_eq_decide, Bool.not_eq_true, Bool.not_eq_false, Decidable.not_not] at h); first | skip)) | fail)
    all_goals (refine v_ret ((d, _) :: ν) (outsA0 rfl) (List.Sublist.refl _) ?_; exact ⟨GH.le_refl _, _, ν, hg, rfl⟩)
end Go.Proofs.Ytgflmkhfachlcaa
/-
  disk (layer 18): New, Make, Add, Drop, Sync.
-/
set_option linter.unusedSimpArgs false
set_option linter.unusedVariables false
namespace Go.Proofs.Ytgflmkhfachlcaa
open Go.Vx Go.ChangeShapes Go.WideShapes Go.ChangeAt Go.RowKit
theorem dnew_s {G : GH} : Con Try.prog 24 #[] G [] (fun v G' μ' => G' = G ∧ ∃ d m, v = .pointer (some ⟨d, 0, none⟩) ∧ μ' = [(d, dkO m (.slice none 0 0)), (m, .map #[] 0)]) := by
  (refine v_enter Try.func24 rfl Try.ntmps24 rfl ?_; intro B _)
  repeat' (first | apply v_seq | apply v_region | apply v_nil | (apply v_pure; (case hop => first | (apply p_assign <;> rfl) | (apply p_build; (case hz => rfl); (case hv => (simp only [List.map_cons, List.map_nil]; repeat (first | with_reducible exact evs_nil | (apply evs_cons; (case h1 => rfl))))); (case hb => (apply bldL; repeat (first | exact bld_nil | (apply bld_cons; (case hpf => rfl); (case hc => rfl); (case hs => rfl); (case hl => rfl); (case ho => (first | ((repeat (first | with_reducible exact ov_nil | apply ov_cons | fail)); done) | fail))))))) | fail); (case hd => rfl)) | (apply v_makeMap; (case hd => rfl); intro m) | (apply v_box; (case hx => rfl); (case hz => rfl); (case hd => rfl); intro b) | fail)
  refine v_ret [(b, _), (m, _)] (outsA1 rfl rfl) (by repeat (first | exact List.Sublist.refl _ | fail)) ⟨rfl, b, m, rfl, rfl⟩
def PutP (m : Nat) (d : Nat) (G : GH) (l' : List Dop) (G' : GH) (μ' : OH) : Prop := GH.le G G' ∧ ∃ ov' ν', GrL 84 3 (OpR G') ov' l' ν' ∧ μ' = (d, dkO m ov') :: ν'
theorem make_s {G : GH} {l : List Dop} {d m : Nat} {ov : Value} {ν : OH} (no : Int) (hg : GrL 84 3 (OpR G) ov l ν) (hl : l.length ≤ 1000) :
    Con Try.prog 41 #[.pointer (some ⟨d, 0, none⟩), .int .i64 no] G ((d, dkO m ov) :: ν) (fun _ => PutP m d G (if inNo no then l ++ [⟨1, no, []⟩] else l)) := by
  have q := put_s (d := d) (m := m) 1 no (b := []) (bv := .slice none 0 0) hg hl Sl.nil (by simp)
  (refine v_enter Try.func41 rfl Try.ntmps41 rfl ?_; intro B _)
  repeat' (first | apply v_region | (apply v_pure; (case hop => first | (apply p_move <;> rfl)); (case hd => rfl)) | fail)
  refine v_call (μ1 := (d, dkO m ov) :: ν) (μ2 := []) rfl q (by simp) rfl ?_
  rintro _ G1 _ - ⟨hle, ov', ν', hg', rfl⟩
  rw [List.append_nil]
  repeat' (first | apply v_nil | fail)
  refine v_end ((d, _) :: ν') (outsA0 rfl) (List.Sublist.refl _) ?_
  exact ⟨hle, ov', ν', hg', rfl⟩
theorem add_s {G : GH} {l : List Dop} {d m : Nat} {ov : Value} {ν : OH} (no : Int) {b : List Int} {bv : Value} (hg : GrL 84 3 (OpR G) ov l ν) (hl : l.length ≤ 1000) (hb : Bs G bv b) (hbl : b.length ≤ 100) :
    Con Try.prog 42 #[.pointer (some ⟨d, 0, none⟩), .int .i64 no, bv] G ((d, dkO m ov) :: ν) (fun _ => PutP m d G (if inNo no then l ++ [⟨2, no, b⟩] else l)) := by
  have q := put_s (d := d) (m := m) 2 no hg hl hb hbl
  (refine v_enter Try.func42 rfl Try.ntmps42 rfl ?_; intro B _)
  repeat' (first | apply v_region | (apply v_pure; (case hop => first | (apply p_move <;> rfl)); (case hd => rfl)) | fail)
  refine v_call (μ1 := (d, dkO m ov) :: ν) (μ2 := []) rfl q (by simp) rfl ?_
  rintro _ G1 _ - ⟨hle, ov', ν', hg', rfl⟩
  rw [List.append_nil]
  repeat' (first | apply v_nil | fail)
  refine v_end ((d, _) :: ν') (outsA0 rfl) (List.Sublist.refl _) ?_
  exact ⟨hle, ov', ν', hg', rfl⟩
theorem ddrop_s {G : GH} {l : List Dop} {d m : Nat} {ov : Value} {ν : OH} (no : Int) (hg : GrL 84 3 (OpR G) ov l ν) (hl : l.length ≤ 1000) :
    Con Try.prog 43 #[.pointer (some ⟨d, 0, none⟩), .int .i64 no] G ((d, dkO m ov) :: ν) (fun _ => PutP m d G (if inNo no then l ++ [⟨3, no, []⟩] else l)) := by
  have q := put_s (d := d) (m := m) 3 no (b := []) (bv := .slice none 0 0) hg hl Sl.nil (by simp)
  (refine v_enter Try.func43 rfl Try.ntmps43 rfl ?_; intro B _)
  repeat' (first | apply v_region | (apply v_pure; (case hop => first | (apply p_move <;> rfl)); (case hd => rfl)) | fail)
  refine v_call (μ1 := (d, dkO m ov) :: ν) (μ2 := []) rfl q (by simp) rfl ?_
  rintro _ G1 _ - ⟨hle, ov', ν', hg', rfl⟩
  rw [List.append_nil]
  repeat' (first | apply v_nil | fail)
  refine v_end ((d, _) :: ν') (outsA0 rfl) (List.Sublist.refl _) ?_
  exact ⟨hle, ov', ν', hg', rfl⟩
def Emptied (m d : Nat) (G : GH) (ml : List (Int × Value)) (L N : Nat) (g' : Fs) (G' : GH) (μ' : OH) : Prop := GH.le G G' ∧ ∃ ml' oM', MapB keyI ml' oM' ∧ MF G' ml' g' ∧ Bd g' N ∧ ml'.length ≤ ml.length + L ∧ μ' = [(d, dkO m (.slice none 0 0)), (m, oM')]
theorem sync_s {G : GH} {l : List Dop} {g : Fs} {ml : List (Int × Value)} {d m N : Nat} {oM : Obj} {ov : Value} {ν : OH}
    (hM : MapB keyI ml oM) (hF : MF G ml g) (hN : Bd g N) (hg : GrL 84 3 (OpR G) ov l ν) (hl : l.length ≤ 500) (hx : ∀ x ∈ l, x.data.length ≤ 100) (hno : ∀ x ∈ l, inNo x.no) (hb : N + 100 * l.length ≤ 100000) :
    Con Try.prog 44 #[.pointer (some ⟨d, 0, none⟩)] G ((d, dkO m ov) :: (m, oM) :: ν) (fun _ => Emptied m d G ml l.length (N + 100 * l.length) (gall g l)) := by
  obtain ⟨css, hc1, hc2, hgr⟩ := id hg
  obtain ⟨A, c, rfl, hA, hA2⟩ := hgr.shape
  have q := doPre_s (m := m) (n := l.length) hM hF hN hg (Nat.le_refl _) (by omega) hx hno hb
  rw [List.take_length] at q
  unfold dkO
  (refine v_enter Try.func44 rfl Try.ntmps44 rfl ?_; intro B _)
  repeat' (first | apply v_seq | apply v_region | apply v_nil | (apply v_pure; (case hop => first | (apply p_move <;> rfl) | (apply p_neNil <;> rfl) | fail); (case hd => rfl)) | (apply v_condT; (case hc => rfl)) | fail)
  refine d_start [(d, .cells [.map (some m), .slice A l.length c].toArray 81 (0, 0))] (by kernel_rfl) (by kernel_rfl) (by kernel_rfl) (by intro e he; first | (simp at he; simp [he]) | fail) ?_
  all_goals (first | (apply d_take 0; (case hi => rfl); (case hop => first | (apply PureOp.read; apply p_move <;> rfl)); (case hf => kernel_rfl); (case hr => kernel_rfl); (case hd => rfl)) | fail)
  all_goals (first | (apply d_take 1; (case hi => rfl); (case hop => first | (apply PureOp.read; apply p_nilCheck <;> rfl)); (case hf => kernel_rfl); (case hr => kernel_rfl); (case hd => rfl)) | fail)
  all_goals (first | (apply d_take 2; (case hi => rfl); (case hop => first | (apply PureOp.read; apply p_fieldAddrB <;> rfl) | fail); (case hf => kernel_rfl); (case hr => kernel_rfl); (case hd => rfl)) | fail)
  all_goals (first | (apply d_take 3; (case hi => rfl); (case hop => first   | (apply r_loadNo; (case hx => rfl); (case h => (repeat (fail))); (case hd => (repeat (fail))); (case hn => rfl)) | (apply r_load1; rfl; (apply Cell.own; (case h => (repeat (first | exact List.Mem.head _ | fail))); rfl)) | (apply r_loadN; rfl; (apply CellsAt.own; (case h => (repeat (fail)))); rfl)); (case hf => kernel_rfl); (case hr => kernel_rfl); (case hd => rfl)) | fail)
  all_goals (first | (apply d_take 4; (case hi => rfl); (case hop => first | (apply PureOp.read; apply p_move <;> rfl)); (case hf => kernel_rfl); (case hr => kernel_rfl); (case hd => rfl)) | fail)
  all_goals (first | (apply d_take 5; (case hi => rfl); (case hop => first | (apply PureOp.read; apply p_nilCheck <;> rfl)); (case hf => kernel_rfl); (case hr => kernel_rfl); (case hd => rfl)) | fail)
  all_goals (first | (apply d_take 6; (case hi => rfl); (case hop => first | (apply PureOp.read; apply p_fieldAddrB <;> rfl) | fail); (case hf => kernel_rfl); (case hr => kernel_rfl); (case hd => rfl)) | fail)
  all_goals (first | (apply d_take 7; (case hi => rfl); (case hop => first   | (apply r_loadNo; (case hx => rfl); (case h => (repeat (fail))); (case hd => (repeat (fail))); (case hn => rfl)) | (apply r_load1; rfl; (apply Cell.own; (case h => (repeat (first | exact List.Mem.head _ | fail))); rfl)) | (apply r_loadN; rfl; (apply CellsAt.own; (case h => (repeat (fail)))); rfl)); (case hf => kernel_rfl); (case hr => kernel_rfl); (case hd => rfl)) | fail)
  all_goals (first | ((apply d_call 8 (hs := q) (μ1 := (m, oM) :: ν) (μ2 := [(d, .cells [.map (some m), .slice A l.length c].toArray 81 (0, 0))]); (case hi => rfl); (case hr => kernel_rfl);  (case ha => rfl); (case hp => exact List.perm_append_comm (l₁ := [(d, _)])); (case hd => rfl); (case hν' => exact fun _ h => h); rintro _ G4 _ hle4 ⟨-, ml', oM', hM', hF', hN', hl', rfl⟩)) | fail)
  all_goals (apply d_done; (case hr => kernel_rfl))
  repeat' (first | apply v_region | apply v_nil | (apply v_pure; (case hop => first | (apply p_move <;> rfl) | (apply p_fieldAddrB <;> rfl) | (apply p_nilCheck <;> rfl) | fail); (case hd => rfl)) | (apply v_store; (case hp => rfl); (case hx => rfl); (case hc => rfl); (case hsz => rfl); (case h1 => rfl); (case hb => (repeat (first | exact List.Mem.head _ | apply List.Mem.tail | apply List.mem_append_right))); (case hfit => first | exact Nat.le_of_ble_eq_true rfl | fail); (case hov => (first | ((repeat (first | with_reducible exact ov_nil | apply ov_cons | fail)); done) | fail)); (case hu => repeat (first | exact Upd.here _ _ | apply Upd.there | apply Upd.app))) | fail)
  refine v_drop (ν := [(m, oM'), (d, dkO m (.slice none 0 0))]) (List.Sublist.cons_cons _ (List.sublist_append_right ν _)) ?_
  refine v_perm (List.Perm.swap _ _ _) ?_
  refine v_end [(d, _), (m, _)] (outsA0 rfl) (List.Sublist.refl _) ?_
  exact ⟨hle4, ml', oM', hM', hF', hN', hl', rfl⟩
/-- So many of them. -/
def clip (k : Int) (n : Nat) : Nat := (max 0 (min k n)).toNat
theorem clip_le (k : Int) (n : Nat) : clip k n ≤ n := by unfold clip; omega
theorem clip_eq (k : Int) (n : Nat) : max 0 (min k (n : Nat)) = ((clip k n : Nat) : Int) := by unfold clip; omega
def gcrash (g : Fs) (l : List Dop) (keep torn : Int) : Fs :=
  if h : clip keep l.length < l.length then
    if (l[clip keep l.length]).kind = 2 then gdo (gall g (l.take (clip keep l.length))) { l[clip keep l.length] with data := (l[clip keep l.length]).data.take (clip torn (l[clip keep l.length]).data.length) } else gall g (l.take (clip keep l.length))
  else gall g l
theorem ops_cell {cells : List Value} {i : Nat} {a b c : Value} (h : (cells.drop i).take 3 = [a, b, c]) : cells[i + 0]? = some a := by
  have : ((cells.drop i).take 3)[0]? = some a := by rw [h]; rfl
  rw [List.getElem?_take, List.getElem?_drop] at this
  simpa using this
theorem crash_s {G : GH} {l : List Dop} {g : Fs} {ml : List (Int × Value)} {d m N : Nat} {oM : Obj} {ov : Value} {ν : OH} (keep torn : Int)
    (hM : MapB keyI ml oM) (hF : MF G ml g) (hN : Bd g N) (hg : GrL 84 3 (OpR G) ov l ν) (hl : l.length ≤ 500) (hx : ∀ x ∈ l, x.data.length ≤ 100) (hno : ∀ x ∈ l, inNo x.no) (hb : N + 100 * l.length ≤ 100000) :
    Con Try.prog 28 #[.pointer (some ⟨d, 0, none⟩), .int .i64 keep, .int .i64 torn] G ((d, dkO m ov) :: (m, oM) :: ν) (fun _ => Emptied m d G ml l.length (N + 100 * l.length) (gcrash g l keep torn)) := by
  have hcl := clip_le keep l.length
  have hce := clip_eq keep l.length
  unfold gcrash
  generalize clip keep l.length = q at *
  have hq := fun A c (hg : GrL 84 3 (OpR G) (.slice A l.length c) l ν) => doPre_s (m := m) (n := q) hM hF hN hg (by omega) (by omega) hx hno (by omega)
  obtain ⟨css, hc1, hc2, hgr⟩ := id hg
  obtain ⟨A, c, rfl, hA, hA2⟩ := hgr.shape
  have hq2 := hq _ _ hg
  simp only [maxLen] at hA2
  unfold dkO
  (refine v_enter Try.func28 rfl Try.ntmps28 rfl ?_; intro B _)
  repeat' (first | apply v_seq | apply v_region | apply v_nil | apply v_skip | (apply v_pure; (case hop => first | (apply p_move <;> rfl) | (apply p_assign <;> rfl) | (apply p_lenSlice <;> rfl) | (apply p_fieldAddrB <;> rfl) | (apply p_nilCheck <;> rfl) | (apply p_max <;> rfl) | (apply p_min <;> rfl) | (apply p_eqNil <;> rfl) | fail); (case hd => rfl)) | (apply v_condF; (case hc => rfl)) | (apply v_read; (case hop => first | (apply r_load1; rfl; (apply Cell.own; (case h => (repeat (first | exact List.Mem.head _ | fail))); rfl)) | fail); (case hd => rfl)) | fail)
  rw [hce]
  refine d_start [(d, .cells [.map (some m), .slice A l.length c].toArray 81 (0, 0))] (by kernel_rfl) (by kernel_rfl) (by kernel_rfl) (by intro e he; first | (simp at he; simp [he]) | fail) ?_
  all_goals (first | (apply d_take 0; (case hi => rfl); (case hop => first | (apply PureOp.read; apply p_move <;> rfl)); (case hf => kernel_rfl); (case hr => kernel_rfl); (case hd => rfl)) | fail)
  all_goals (first | (apply d_take 1; (case hi => rfl); (case hop => first | (apply PureOp.read; apply p_nilCheck <;> rfl)); (case hf => kernel_rfl); (case hr => kernel_rfl); (case hd => rfl)) | fail)
  all_goals (first | (apply d_take 2; (case hi => rfl); (case hop => first | (apply PureOp.read; apply p_fieldAddrB <;> rfl) | fail); (case hf => kernel_rfl); (case hr => kernel_rfl); (case hd => rfl)) | fail)
  all_goals (first | (apply d_take 3; (case hi => rfl); (case hop => first   | (apply r_loadNo; (case hx => rfl); (case h => (repeat (fail))); (case hd => (repeat (fail))); (case hn => rfl)) | (apply r_load1; rfl; (apply Cell.own; (case h => (repeat (first | exact List.Mem.head _ | fail))); rfl)) | (apply r_loadN; rfl; (apply CellsAt.own; (case h => (repeat (fail)))); rfl)); (case hf => kernel_rfl); (case hr => kernel_rfl); (case hd => rfl)) | fail)
  all_goals (first | (apply d_take 4; (case hi => rfl); (case hop => first | (apply PureOp.read; apply p_move <;> rfl)); (case hf => kernel_rfl); (case hr => kernel_rfl); (case hd => rfl)) | fail)
  all_goals (first | (apply d_take 5; (case hi => rfl); (case hop => first | (apply PureOp.read; apply p_nilCheck <;> rfl)); (case hf => kernel_rfl); (case hr => kernel_rfl); (case hd => rfl)) | fail)
  all_goals (first | (apply d_take 6; (case hi => rfl); (case hop => first | (apply PureOp.read; apply p_fieldAddrB <;> rfl) | fail); (case hf => kernel_rfl); (case hr => kernel_rfl); (case hd => rfl)) | fail)
  all_goals (first | (apply d_take 7; (case hi => rfl); (case hop => first   | (apply r_loadNo; (case hx => rfl); (case h => (repeat (fail))); (case hd => (repeat (fail))); (case hn => rfl)) | (apply r_load1; rfl; (apply Cell.own; (case h => (repeat (first | exact List.Mem.head _ | fail))); rfl)) | (apply r_loadN; rfl; (apply CellsAt.own; (case h => (repeat (fail)))); rfl)); (case hf => kernel_rfl); (case hr => kernel_rfl); (case hd => rfl)) | fail)
  all_goals (first | (apply d_take 8; (case hi => rfl); (case hop => first | (apply PureOp.read; apply p_move <;> rfl)); (case hf => kernel_rfl); (case hr => kernel_rfl); (case hd => rfl)) | fail)
  all_goals (first | (apply d_take 9; (case hi => rfl); (case hop => first | (apply PureOp.read; apply p_sliceH; (case hx => rfl); (case hh => rfl); all_goals omega) | fail); (case hf => kernel_rfl); (case hr => kernel_rfl); (case hd => rfl)) | fail)
  all_goals (first | ((apply d_call 10 (hs := hq2) (μ1 := (m, oM) :: ν) (μ2 := [(d, .cells [.map (some m), .slice A l.length c].toArray 81 (0, 0))]); (case hi => rfl); (case hr => kernel_rfl);  (case ha => rfl); (case hp => exact List.perm_append_comm (l₁ := [(d, _)])); (case hd => rfl); (case hν' => exact fun _ h => h); rintro _ G4 _ hle4 ⟨-, ml', oM', hM', hF', hN', hl', rfl⟩)) | fail)
  all_goals (apply d_done; (case hr => kernel_rfl))
  repeat' (first | apply v_seq | apply v_region | apply v_nil | apply v_skip | (apply v_take; (case hg => rfl)) | (apply v_pass; (case hg => rfl); (case hn => rfl); (case hd => rfl)) | (apply v_pure; (case hop => first | (apply p_move <;> rfl) | (apply p_lt <;> rfl) | (apply p_pickF <;> rfl) | (apply p_lenSlice <;> rfl) | (apply p_fieldAddrB <;> rfl) | (apply p_nilCheck <;> rfl) | fail); (case hd => rfl)) | (apply v_condF; (case hc => rfl)) | (apply v_guardB; (case h1 => rfl); (case h2 => rfl); all_goals (intro h; (try simp only [reduceCtorEq, dec_true, dec_false, decide_eq_true_eq, decide_eq_false_iff_not, Bool.not_eq_true', Bool.not_eq_false', Option.isNone_iff_eq_none, beq_true, beq_false, beq_iff_eq, beq_eq_false_iff_ne, ne_eq, decide_eq_decide, Bool.not_eq_true, Bool.not_eq_false, Decidable.not_not] at h); first | skip)) | (apply v_read; (case hop => first | (apply r_load1; rfl; (apply Cell.own; (case h => (repeat (first | exact List.Mem.head _ | apply List.Mem.tail | apply List.mem_append_right))); rfl)) | fail); (case hd => rfl)) | (apply v_store; (case hp => rfl); (case hx => rfl); (case hc => rfl); (case hsz => rfl); (case h1 => rfl); (case hb => (repeat (first | exact List.Mem.head _ | apply List.Mem.tail | apply List.mem_append_right))); (case hfit => first | exact Nat.le_of_ble_eq_true rfl | fail); (case hov => (first | ((repeat (first | with_reducible exact ov_nil | apply ov_cons | fail)); done) | fail)); (case hu => repeat (first | exact Upd.here _ _ | apply Upd.there | apply Upd.app))) | fail)
  rotate_left
  · have hqe : ¬ q < l.length := by omega
    rw [dif_neg hqe]
    have hql : l.take q = l := List.take_of_length_le (by omega)
    rw [hql] at hF' hN'
    refine v_drop (ν := [(m, oM'), (d, dkO m (.slice none 0 0))]) (List.Sublist.cons_cons _ (List.sublist_append_right ν _)) ?_
    refine v_perm (List.Perm.swap _ _ _) ?_
    refine v_end [(d, _), (m, _)] (outsA0 rfl) (List.Sublist.refl _) ?_
    exact ⟨hle4, ml', oM', hM', hF', fun k b hk => by have := hN' k b hk; omega, by omega, rfl⟩
  have hqe : q < l.length := by omega
  rw [dif_pos hqe]
  rcases opsCases hg with ⟨he, rfl, rfl⟩ | ⟨ob, cap, cells, dA, dc, he, h1, h2, rfl, hC⟩
  · exact absurd hqe (by simp)
  injection he with ea _ ec
  subst ea; subst ec
  have hcd := hC.1 q hqe
  have hdat := (hC.2 q hqe).mono hle4
  have hkc := ops_cell hcd
  have hxl := hx _ (List.getElem_mem hqe)
  have hnl := hno _ (List.getElem_mem hqe)
  generalize hxe : l[q] = x at *
  obtain ⟨kind, no, data⟩ := x
  simp only at *
  have hdc : data.length ≤ dc q ∧ dc q ≤ maxLen := by
    obtain ⟨A9, c9, he9, hl9, hm9, -, -, -⟩ := hdat.openInt
    injection he9 with ea9 _ ec9
    subst ec9
    exact ⟨hl9, hm9⟩
  have hdc2 := hdc.1
  have hdc3 := hdc.2
  simp only [maxLen] at hdc3
  have htake := hdat.take (k := clip torn data.length) (clip_le _ _)
  repeat' (first | (apply v_pure; (case hop => apply p_idxOwn; (case hx => rfl); (case hi => rfl); (case h => omega)); (case hd => rfl)) | apply v_seq | apply v_region | apply v_nil | apply v_skip | (apply v_take; (case hg => rfl)) | (apply v_pure; (case hop => first | (apply p_move <;> rfl) | (apply p_eq <;> rfl) | (apply p_pickT <;> rfl) | (apply p_lenSlice <;> rfl) | (apply p_fieldAddrB <;> rfl) | (apply p_nilCheck <;> rfl) | (apply p_max <;> rfl) | (apply p_min <;> rfl) | (apply p_sliceH; (case hx => rfl); (case hh => rfl); all_goals omega) | fail); (case hd => rfl)) | (apply v_cond; (case hc => rfl); all_goals (intro h; (try simp only [reduceCtorEq, dec_true, dec_false, decide_eq_true_eq, decide_eq_false_iff_not, Bool.not_eq_true', Bool.not_eq_false', Option.isNone_iff_eq_none, beq_true, beq_false, beq_iff_eq, beq_eq_false_iff_ne, ne_eq, decide_eq_decide, Bool.not_eq_true, Bool.not_eq_false, Decidable.not_not] at h); first | skip)) | (apply v_read; (case hop => first | (apply r_load1; rfl; exact Cell.own (by repeat (first | exact List.Mem.head _ | apply List.Mem.tail)) hkc) | (apply r_loadNo; (case hx => rfl); (case h => repeat (first | exact List.Mem.head _ | apply List.Mem.tail)); (case hd => exact hcd); (case hn => rfl))); (case hd => rfl)) | (apply v_read; (case hop => first | (apply r_load1; rfl; (apply Cell.own; (case h => (repeat (first | exact List.Mem.head _ | apply List.Mem.tail | fail))); rfl)) | fail); (case hd => rfl)) | (apply v_alloc; (case hz => rfl); (case hd => rfl); intro b) | (apply v_store; (case hp => rfl); (case hx => rfl); (case hc => rfl); (case hsz => rfl); (case h1 => rfl); (case hb => (repeat (first | exact List.Mem.head _ | apply List.Mem.tail | fail))); (case hfit => first | exact Nat.le_of_ble_eq_true rfl | fail); (case hov => (first | ((repeat (first | with_reducible exact ov_nil | apply ov_cons | fail)); done) | fail)); (case hu => repeat (first | exact Upd.here _ _ | apply Upd.there | fail))) | fail)
  · have hk2 : kind = 2 := by assumption
    have htl : (data.take (clip torn data.length)).length = clip torn data.length := by rw [List.length_take]; have := clip_le torn data.length; omega
    have hC2 : OpsC G4 [.int .i64 kind, .int .i64 no, .slice (dA q) (clip torn data.length) (dc q)] [⟨kind, no, data.take (clip torn data.length)⟩] (fun _ => dA q) (fun _ => dc q) := by
      refine ⟨fun i hi => ?_, fun i hi => ?_⟩
      · obtain rfl : i = 0 := by simpa using hi
        simp [htl]
      · obtain rfl : i = 0 := by simpa using hi
        simp only [List.getElem_cons_zero, htl]
        exact htake
    have q3 := fun sb => do_s (m := m) (ob := sb) (cap := 1) (n := 1) hM' hF' hN' hC2 (by simp) (by simp) (by intro y hy; rw [List.mem_singleton] at hy; subst hy; simp only [htl]; have := clip_le torn data.length; omega) (by intro y hy; rw [List.mem_singleton] at hy; subst hy; exact hnl) (by omega) (by omega)
    refine v_perm ((List.perm_append_comm (l₁ := [(b, Obj.cells [Value.int .i64 kind, .int .i64 no, .slice (dA q) (clip torn data.length) (dc q)].toArray 84 (0, 0))]) (l₂ := [(m, oM'), (ob, Obj.cells cells.toArray 84 (0, 0))])).append_right [(d, Obj.cells [Value.map (some m), .slice (some ⟨ob, 0, none⟩) l.length c].toArray 81 (0, 0))]) ?_
    refine d_start [(b, .cells [.int .i64 kind, .int .i64 no, .slice (dA q) (clip torn data.length) (dc q)].toArray 84 (0, 0)), (d, .cells [.map (some m), .slice (some ⟨ob, 0, none⟩) l.length c].toArray 81 (0, 0))] (by kernel_rfl) (by kernel_rfl) (by kernel_rfl) (by intro e he; first | (simp at he; simp [he]) | fail) ?_
    all_goals (first | (apply d_take 0; (case hi => rfl); (case hop => first | (apply PureOp.read; apply p_move <;> rfl)); (case hf => kernel_rfl); (case hr => kernel_rfl); (case hd => rfl)) | fail)
    all_goals (first | (apply d_take 1; (case hi => rfl); (case hop => first | (apply PureOp.read; apply p_nilCheck <;> rfl)); (case hf => kernel_rfl); (case hr => kernel_rfl); (case hd => rfl)) | fail)
    all_goals (first | (apply d_take 2; (case hi => rfl); (case hop => first | (apply PureOp.read; apply p_fieldAddrB <;> rfl) | fail); (case hf => kernel_rfl); (case hr => kernel_rfl); (case hd => rfl)) | fail)
    all_goals (first | (apply d_take 3; (case hi => rfl); (case hop => first   | (apply r_loadNo; (case hx => rfl); (case h => (repeat (fail))); (case hd => (repeat (fail))); (case hn => rfl)) | (apply r_load1; rfl; (apply Cell.own; (case h => (repeat (first | exact List.Mem.head _ | apply List.Mem.tail | fail))); rfl)) | (apply r_loadN; rfl; (apply CellsAt.own; (case h => (repeat (fail)))); rfl)); (case hf => kernel_rfl); (case hr => kernel_rfl); (case hd => rfl)) | fail)
    all_goals (first | (apply d_take 4; (case hi => rfl); (case hop => first   | (apply r_loadNo; (case hx => rfl); (case h => (repeat (first | exact List.Mem.head _ | fail))); (case hd => (repeat (first | with_reducible exact dt_nil | apply dt_here | fail))); (case hn => rfl)) | (apply r_load1; rfl; (apply Cell.own; (case h => (repeat (fail))); rfl)) | (apply r_loadN; rfl; (apply CellsAt.own; (case h => (repeat (fail)))); rfl)); (case hf => kernel_rfl); (case hr => kernel_rfl); (case hd => rfl)) | fail)
    all_goals (first | (apply d_buildSlice 5; (case hi => rfl); (case hr => kernel_rfl); (case hT => infer_instance); (case hL => infer_instance); (case hz => rfl); (case hl => rfl); (case hv => (simp only [List.map_cons, List.map_nil]; repeat (first | with_reducible exact evs_nil | (apply evs_cons; (case h1 => rfl))))); (case hp => (first | (apply pk_cons; (case hc => rfl); (case hs => rfl); (case h => (first | with_reducible exact pk_nil | fail)); (case he => (first | ((repeat (first | with_reducible exact ap_nil | apply ap_cons)); done) | fail))) | fail)); (case hb => rfl); (case hd => rfl); (case hν => intro e he; first | (simp at he; simp [he]) | fail); intro sb) | fail)
    all_goals (first | ((apply d_call 6 (hs := q3 sb) (μ1 := [(m, oM'), (sb, .cells [.int .i64 kind, .int .i64 no, .slice (dA q) (clip torn data.length) (dc q)].toArray 84 (0, 0))]) (μ2 := [(ob, .cells cells.toArray 84 (0, 0)), (b, .cells [.int .i64 kind, .int .i64 no, .slice (dA q) (clip torn data.length) (dc q)].toArray 84 (0, 0)), (d, .cells [.map (some m), .slice (some ⟨ob, 0, none⟩) l.length c].toArray 81 (0, 0))]); (case hi => rfl); (case hr => kernel_rfl);  (case ha => rfl); (case hp => exact List.Perm.swap _ _ _); (case hd => rfl); (case hν' => exact fun e he => List.Mem.tail _ he); rintro _ G5 _ hle5 ⟨-, ml2, oM2, hM2, hF2, hN2, hl2, rfl⟩)) | fail)
    all_goals (apply d_done; (case hr => kernel_rfl))
    repeat' (first | apply v_region | apply v_nil | (apply v_pure; (case hop => first | (apply p_move <;> rfl) | (apply p_fieldAddrB <;> rfl) | (apply p_nilCheck <;> rfl) | fail); (case hd => rfl)) | (apply v_store; (case hp => rfl); (case hx => rfl); (case hc => rfl); (case hsz => rfl); (case h1 => rfl); (case hb => (repeat (first | exact List.Mem.head _ | apply List.Mem.tail | fail))); (case hfit => first | exact Nat.le_of_ble_eq_true rfl | fail); (case hov => (first | ((repeat (first | with_reducible exact ov_nil | apply ov_cons | fail)); done) | fail)); (case hu => repeat (first | exact Upd.here _ _ | apply Upd.there | fail))) | fail)
    refine v_drop (ν := [(m, oM2), (d, dkO m (.slice none 0 0))]) (List.Sublist.cons_cons _ (List.Sublist.cons _ (List.Sublist.cons _ (List.Sublist.cons _ (List.Sublist.refl _))))) ?_
    refine v_perm (List.Perm.swap _ _ _) ?_
    refine v_end [(d, _), (m, _)] (outsA0 rfl) (List.Sublist.refl _) ?_
    rw [if_pos hk2]
    refine ⟨GH.le_trans hle4 hle5, ml2, oM2, hM2, hF2, fun k b hk => ?_, by omega, rfl⟩
    have := hN2 k b hk
    omega
  · have hk2 : ¬ kind = 2 := by assumption
    rw [if_neg hk2]
    refine v_drop (ν := [(m, oM'), (d, dkO m (.slice none 0 0))]) (List.Sublist.cons_cons _ (List.Sublist.cons _ (List.Sublist.refl _))) ?_
    refine v_perm (List.Perm.swap _ _ _) ?_
    refine v_end [(d, _), (m, _)] (outsA0 rfl) (List.Sublist.refl _) ?_
    exact ⟨hle4, ml', oM', hM', hF', fun k b hk => by have := hN' k b hk; omega, by omega, rfl⟩
end Go.Proofs.Ytgflmkhfachlcaa
/-
  disk (layer 18): a disk that is nil; a step.
-/
set_option linter.unusedSimpArgs false
set_option linter.unusedVariables false
namespace Go.Proofs.Ytgflmkhfachlcaa
open Go.Vx Go.ChangeShapes Go.WideShapes Go.ChangeAt Go.RowKit
end Go.Proofs.Ytgflmkhfachlcaa
/-
  disk (layer 18): files in their order.
-/
set_option linter.unusedSimpArgs false
set_option linter.unusedVariables false
namespace Go.Proofs.Ytgflmkhfachlcaa
open Go.Vx Go.ChangeShapes Go.WideShapes Go.ChangeAt Go.RowKit
/-- The files of some numbers. -/
def filesOf (g : Fs) (l : List Int) : List Fl := l.map fun k => (k, (g k).getD [])
theorem rget_filesOf {g : Fs} {l : List Int} {k : Int} : rget (filesOf g l) k = if k ∈ l then some ((g k).getD []) else none := by
  induction l with
  | nil => rfl
  | cons a l ih =>
    show rget ((a, (g a).getD []) :: filesOf g l) k = _
    rw [rget_cons, ih]
    by_cases h : a = k
    · subst h; simp
    · have : ¬ k = a := fun e => h e.symm
      simp [h, this]
theorem mf_key {G : GH} {ml : List (Int × Value)} {g : Fs} (hF : MF G ml g) {k : Int} : k ∈ ml.map (·.1) ↔ g k ≠ none := by
  have h1 := hF k
  by_cases hk : k ∈ ml.map (·.1)
  · obtain ⟨L1, v, L2, e, h2⟩ : ∃ L1 v L2, ml = L1 ++ (k, v) :: L2 ∧ k ∉ L1.map (·.1) := by
      clear h1 hF
      induction ml with
      | nil => simp at hk
      | cons x ml ih =>
        obtain ⟨a, v⟩ := x
        by_cases e : k = a
        · subst e; exact ⟨[], v, ml, rfl, by simp⟩
        · simp only [List.map_cons, List.mem_cons] at hk
          obtain ⟨L1, v', L2, rfl, h2⟩ := ih (hk.resolve_left e)
          exact ⟨(a, v) :: L1, v', L2, rfl, by simp only [List.map_cons, List.mem_cons, not_or]; exact ⟨e, h2⟩⟩
    have h3 : mget ml k = some v := by rw [e, mget_at h2]
    rw [h3] at h1
    obtain ⟨A, c, b, -, h4, -⟩ := h1
    simp [hk, h4]
  · rw [mget_no hk] at h1
    simp only at h1
    simp [hk, h1]
theorem mf_no {G : GH} {ml : List (Int × Value)} {g : Fs} (hF : MF G ml g) {k : Int} (hk : k ∈ ml.map (·.1)) : inNo k := by
  have h1 := hF k
  have h2 := (mf_key hF).1 hk
  cases hm : mget ml k with
  | none => rw [hm] at h1; exact absurd h1 h2
  | some v => rw [hm] at h1; obtain ⟨_, _, _, _, _, _, h⟩ := h1; exact h
theorem mf_get {G : GH} {ml : List (Int × Value)} {g : Fs} (hF : MF G ml g) (k : Int) : ∃ A c, (mget ml k).getD (.slice none 0 0) = .slice A ((g k).getD []).length c ∧ Bs G (.slice A ((g k).getD []).length c) ((g k).getD []) := by
  have h1 := hF k
  cases hm : mget ml k with
  | none => rw [hm] at h1; simp only at h1; rw [h1]; exact ⟨none, 0, rfl, Sl.nil⟩
  | some v =>
    rw [hm] at h1
    obtain ⟨A, c, b, h2, h3, h4, -⟩ := h1
    rw [h3]
    exact ⟨A, c, h2, by rw [h2] at h4; exact h4⟩
theorem rep_files {G : GH} {ml : List (Int × Value)} {g : Fs} {xs : List Int} (hF : MF G ml g) (hn : (ml.map (·.1)).Nodup) (hp : xs.Perm (ml.map (·.1))) : Rep (filesOf g (sortL xs)) g := by
  have hp2 := (sortL_perm xs).trans hp
  have hlt : (sortL xs).Pairwise (· < ·) := by
    have h1 := sortL_le xs
    have h2 : (sortL xs).Nodup := hp2.nodup_iff.2 hn
    exact (h1.and h2).imp fun h => by omega
  refine ⟨?_, fun k => ?_⟩
  · unfold Ris filesOf
    rw [List.pairwise_map]
    exact hlt
  · rw [rget_filesOf]
    have hk := mf_key hF (k := k)
    by_cases h : k ∈ sortL xs
    · rw [if_pos h]
      have h2 := hk.1 (hp2.mem_iff.1 h)
      obtain ⟨b, hb⟩ := Option.ne_none_iff_exists'.1 h2
      rw [hb]; rfl
    · rw [if_neg h]
      have : k ∉ ml.map (·.1) := fun e => h (hp2.mem_iff.2 e)
      rw [hk] at this
      exact (Decidable.not_not.1 this).symm
theorem list_s {G : GH} {g : Fs} {ml : List (Int × Value)} {m N : Nat} {oM : Obj} (hM : MapB keyI ml oM) (hF : MF G ml g) (hN : Bd g N) (hN2 : N ≤ 1000000) (hl : ml.length ≤ 100000) :
    Con Try.prog 45 #[.map (some m)] G [(m, oM)] (fun r G' μ' => GH.le G G' ∧ ∃ R, Rep R g ∧ Fls G' r R ∧ R.length = ml.length ∧ μ' = [(m, oM)]) := by
  have q1 := keysB_s (G := G) (m := m)
  have hnd := hM.nodup
  (refine v_enter Try.func45 rfl Try.ntmps45 rfl ?_; intro B _)
  repeat' (first | apply v_seq | apply v_region | apply v_nil | (apply v_pure; (case hop => first | (apply p_assign <;> rfl) | fail); (case hd => rfl)) | (apply v_read; (case hop => first | (apply r_load1; rfl; (apply Cell.own; (case h => (repeat (first | exact List.Mem.head _ | apply List.Mem.tail | fail))); rfl)) | fail); (case hd => rfl)) | (apply v_alloc; (case hz => rfl); (case hd => rfl); intro b) | (apply v_box; (case hx => rfl); (case hz => rfl); (case hd => rfl); intro b) | fail)
  rename_i bx
  refine v_call (μ1 := []) (μ2 := [(b, .cells [.slice none 0 0].toArray 52 (0, 0)), (bx, .cells [Value.map (some m)].toArray 79 (0, 0)), (m, oM)]) rfl q1 (List.Perm.refl _) rfl ?_
  rintro _ G1 _ - ⟨b3, rfl, hG1, rfl⟩
  subst G1
  have q2 := sorted_s (N := ml.length) (by omega) (fun xs h => by rw [h.length_eq, List.length_map]; omega) (keysB_seq (G := G) (m := m) (b := b3) hM)
  repeat' (fail)
  refine v_call (μ1 := [(b3, .cells [Value.map (some m)].toArray 79 (0, 0)), (m, oM)]) (μ2 := [(b, .cells [.slice none 0 0].toArray 52 (0, 0)), (bx, .cells [Value.map (some m)].toArray 79 (0, 0))]) rfl q2 (by apply perm_of_count; intro p; simp only [List.append_eq, List.countP_append, List.countP_cons, List.countP_nil, Nat.zero_add, Nat.add_zero]; try ac_rfl) rfl ?_
  rintro v2 G2 _ - ⟨hG2, xs, ν, hp, hg, rfl⟩
  subst G2
  refine v_frzP ν (List.Perm.of_eq (List.append_assoc _ _ _)) ?_
  intro G2 hle2 hG2
  have hrep := rep_files hF hnd hp
  have hwf : ∀ x ∈ sortL xs, (Lit.int .i64 x).wf = true := fun x hx => by
    have h1 := mf_no hF (hp.mem_iff.1 ((sortL_perm xs).mem_iff.1 hx))
    unfold inNo at h1
    exact WalkArith.wf_i64 (by omega)
  have hlen : (sortL xs).length = ml.length := by rw [(sortL_perm xs).length_eq, hp.length_eq, List.length_map]
  rw [← (sortL_perm xs).length_eq] at hg
  have hs := hg.ints hG2 hwf
  obtain ⟨A2, c2, rfl, -⟩ := id hs.openInt
  generalize sortL xs = ks at *
  repeat' (fail)
  refine v_call (μ1 := []) (μ2 := _) rfl values_s (List.Perm.refl _) rfl ?_
  rintro _ G3 _ - ⟨b4, rfl, hG3, rfl⟩
  subst G3
  have hseq := vals_seq (b := b4) hs (by omega)
  repeat' (first | apply v_nil | apply v_block | fail)
  refine v_rangeFunc (enc := keyI) (N := ks.length) (S := fun xs' => xs' = ks) (μ1 := [(b4, .cells [.slice A2 ks.length c2].toArray 22 (0, 0))]) (μ2 := [(b3, .cells [Value.map (some m)].toArray 79 (0, 0)), (b, .cells [.slice none 0 0].toArray 52 (0, 0)), (m, oM), (bx, .cells [Value.map (some m)].toArray 79 (0, 0))]) (σ' := fun x => _) (fun pre G' ν => GH.le G2 G' ∧ ∃ ov ν1, GrL 78 2 (FlR G') ov (filesOf g pre) ν1 ∧ ν = ν1 ++ [(b3, .cells [Value.map (some m)].toArray 79 (0, 0)), (b, .cells [ov].toArray 52 (0, 0)), (m, oM), (bx, .cells [Value.map (some m)].toArray 79 (0, 0))]) rfl hseq (by apply perm_of_count; intro p; simp only [List.append_eq, List.countP_append, List.countP_cons, List.countP_nil, Nat.zero_add, Nat.add_zero]; try ac_rfl) rfl (fun x => Assigns.region (.cons (p_assign rfl) rfl (.nil _))) rfl ⟨GH.le_refl _, _, [], GrL.nil, rfl⟩ ?_ ?_
  · rintro l B' _ pre x G4 _ hle4 ⟨hle5', ov, ν1, hg1, rfl⟩ hpl
    obtain ⟨A5, c5, h5, h6⟩ := mf_get (hF.up (GH.le_trans hle2 hle4)) x
    have hbl : ((g x).getD []).length ≤ N := by
      cases hgx : g x with
      | none => simp
      | some b => exact hN x b hgx
    have qc := bclone_s h6 (by omega)
    obtain ⟨css, hc1, hc2, hgr⟩ := id hg1
    obtain ⟨A6, c6, rfl, hA1, hA2⟩ := hgr.shape
    have hpn : (filesOf g pre).length = pre.length := by unfold filesOf; rw [List.length_map]
    have hrd := fun (σ : Env) (μ : OH) (ty : TypeId) (xo i : Operand) (hb : (m, oM) ∈ μ) (h1 : Env.ev σ xo = some (.map (some m))) (h2 : Env.ev σ i = some (keyI x)) => r_lookup (P := Try.prog) (σ := σ) (G := G4) (μ := μ) (ty := ty) (t := 79) (k := 3) (e := 49) (mk := keyI) x h1 h2 hb hM
    rw [h5] at hrd
    obtain ⟨_, _, _, _, _, _, _, hwb⟩ := h6.openInt
    repeat' (first | apply v_block | fail)
    refine d_start [(m, oM), (bx, .cells [Value.map (some m)].toArray 79 (0, 0))] (by kernel_rfl) (by kernel_rfl) (by kernel_rfl) (by intro e he; first | (simp at he; simp [he]) | fail) ?_
    all_goals (first | (apply d_take 1; (case hi => rfl); (case hop => first | (apply PureOp.read; apply p_move <;> rfl)); (case hf => kernel_rfl); (case hr => kernel_rfl); (case hd => rfl)) | fail)
    all_goals (first | (apply d_take 2; (case hi => rfl); (case hop => first | (apply r_load1; rfl; (apply Cell.own; (case h => (repeat (first | exact List.Mem.head _ | apply List.Mem.tail | fail))); rfl)) | fail); (case hf => kernel_rfl); (case hr => kernel_rfl); (case hd => rfl)) | fail)
    all_goals (first | (apply d_take 3; (case hi => rfl); (case hop => first | (apply PureOp.read; apply p_move <;> rfl)); (case hf => kernel_rfl); (case hr => kernel_rfl); (case hd => rfl)) | fail)
    all_goals (first | (apply d_take 4; (case hi => rfl); (case hop => first | ((exact hrd _ _ _ _ _ (by repeat (first | exact List.Mem.head _ | fail)) rfl rfl)) | fail); (case hf => kernel_rfl); (case hr => kernel_rfl); (case hd => rfl)) | fail)
    refine d_fork 0 5 (by kernel_rfl) ?fk1a ?fk1b
    case' fk1a =>
      first | (apply x_exec 0; (case hi => rfl);  (case hop => exact ReadOp.move (r_load1 rfl (Cell.own (by repeat (first | exact List.Mem.head _ | apply List.Mem.tail | apply List.mem_append_right)) rfl))); (case hd => rfl); rintro _ G0 _ ⟨rfl, hG0, rfl⟩; subst G0; refine ⟨(by intro e he; simp only [List.mem_cons, List.not_mem_nil, or_false] at he; rcases he with rfl | rfl <;> simp), ?_⟩) | fail
      all_goals (first | ((apply d_call 5 (hs := qc) (μ1 := []); (case hi => rfl); (case hr => kernel_rfl);  (case ha => rfl); (case hp => exact List.Perm.refl _); (case hd => rfl); (case hν' => intro e he; simp only [List.mem_cons, List.not_mem_nil, or_false] at he; rcases he with rfl | rfl <;> simp); rintro r7 G7 n7 - ⟨hG7, hg7⟩; subst G7; obtain ⟨A7, c7, rfl, -, -⟩ := hg7.shape)) | fail)
      all_goals (first | (apply d_take 6; (case hi => rfl); (case hop => first | (apply PureOp.read; apply p_build; (case hz => rfl); (case hv => (simp only [List.map_cons, List.map_nil]; repeat (first | with_reducible exact evs_nil | (apply evs_cons; (case h1 => rfl))))); (case hb => (apply bldL; repeat (first | exact bld_nil | (apply bld_cons; (case hpf => rfl); (case hc => rfl); (case hs => rfl); (case hl => rfl); (case ho => (first | ((repeat (first | with_reducible exact ov_nil | apply ov_cons | fail)); done) | fail)))))))); (case hf => kernel_rfl); (case hr => kernel_rfl); (case hd => rfl)) | fail)
      all_goals (first | (apply d_buildSlice 7; (case hi => rfl); (case hr => kernel_rfl); (case hT => infer_instance); (case hL => infer_instance); (case hz => rfl); (case hl => rfl); (case hv => (simp only [List.map_cons, List.map_nil]; repeat (first | with_reducible exact evs_nil | (apply evs_cons; (case h1 => rfl))))); (case hp => (first | (apply pk_cons; (case hc => rfl); (case hs => rfl); (case h => (first | with_reducible exact pk_nil | fail)); (case he => (first | ((repeat (first | with_reducible exact ap_nil | apply ap_cons)); done) | fail))) | fail)); (case hb => rfl); (case hd => rfl); (case hν => intro e he; first | (simp at he; simp [he]) | fail); intro sb) | fail)
      all_goals (first | (apply d_append 8 (hg := hgr) (q' := 1) (us := [.int .i64 x, .slice A7 ((g x).getD []).length c7]) (hp := PickA.perm (PickA.cons _ (PickA.app _ (PickA.here _)))) (hsrc := Src.own (e := 78) (List.Mem.head _) rfl); (case hi => rfl); (case hr => kernel_rfl); (case hT => infer_instance); (case hL => infer_instance); (case hzs => rfl); (case hsz => omega); (case hs => rfl); (case hx => rfl); (case hb => omega); (case hb' => simp only [maxLen]; omega); (case hd => rfl); (case h1 => first | rfl | fail); (case hν => intro e he; first | (simp at he; simp [he]) | fail); intro v8 n8 g8; obtain ⟨A8, c8, rfl, -, -⟩ := g8.shape) | fail)
      all_goals (first | (apply d_store 9; (case hi => rfl); (case hr => kernel_rfl); (case hL => infer_instance); (case hp => rfl); (case hx => rfl); (case hc => rfl); (case hsz => rfl); (case h1 => rfl); (case hb => (repeat (first | exact List.Mem.head _ | apply List.Mem.tail | apply List.mem_append_right))); (case hfit => first | exact Nat.le_of_ble_eq_true rfl | fail); (case hov => (first | ((repeat (first | with_reducible exact ov_nil | apply ov_cons | fail)); done) | fail)); (case hu => repeat (first | exact Upd.here _ _ | apply Upd.there | apply Upd.app)); (case hν' => intro e he; first | (simp at he; simp [he]) | fail)) | fail)
      all_goals (apply d_done; (case hr => kernel_rfl))
    case' fk1b =>
      first | (apply x_call 5 (hs := qc) (μ1 := []); (case hi => rfl);  (case ha => rfl); (case hp => exact List.Perm.refl _); (case hd => rfl); (case hν' => intro e he; simp only [List.mem_cons, List.not_mem_nil, or_false] at he; rcases he with rfl | rfl <;> simp); rintro r7 G7 n7 - ⟨hG7, hg7⟩; subst G7; obtain ⟨A7, c7, rfl, -, -⟩ := hg7.shape) | fail
      all_goals (first | (apply d_take 6; (case hi => rfl); (case hop => first | (apply PureOp.read; apply p_build; (case hz => rfl); (case hv => (simp only [List.map_cons, List.map_nil]; repeat (first | with_reducible exact evs_nil | (apply evs_cons; (case h1 => rfl))))); (case hb => (apply bldL; repeat (first | exact bld_nil | (apply bld_cons; (case hpf => rfl); (case hc => rfl); (case hs => rfl); (case hl => rfl); (case ho => (first | ((repeat (first | with_reducible exact ov_nil | apply ov_cons | fail)); done) | fail)))))))); (case hf => kernel_rfl); (case hr => kernel_rfl); (case hd => rfl)) | fail)
      refine d_fork 0 7 (by kernel_rfl) ?fk2a ?fk2b
      case' fk2a =>
        first | (apply x_exec 0; (case hi => rfl);  (case hop => exact ReadOp.move (r_load1 rfl (Cell.own (by repeat (first | exact List.Mem.head _ | apply List.Mem.tail | apply List.mem_append_right)) rfl))); (case hd => rfl); rintro _ G0 _ ⟨rfl, hG0, rfl⟩; subst G0; refine ⟨(by intro e he; simp only [List.mem_cons, List.not_mem_nil, or_false] at he; rcases he with rfl | rfl <;> simp), ?_⟩) | fail
        all_goals (first | (apply d_buildSlice 7; (case hi => rfl); (case hr => kernel_rfl); (case hT => infer_instance); (case hL => infer_instance); (case hz => rfl); (case hl => rfl); (case hv => (simp only [List.map_cons, List.map_nil]; repeat (first | with_reducible exact evs_nil | (apply evs_cons; (case h1 => rfl))))); (case hp => (first | (apply pk_cons; (case hc => rfl); (case hs => rfl); (case h => (first | with_reducible exact pk_nil | fail)); (case he => (first | ((repeat (first | with_reducible exact ap_nil | apply ap_cons)); done) | fail))) | fail)); (case hb => rfl); (case hd => rfl); (case hν => intro e he; first | (simp at he; simp [he]) | fail); intro sb) | fail)
        all_goals (first | (apply d_append 8 (hg := hgr) (q' := 1) (us := [.int .i64 x, .slice A7 ((g x).getD []).length c7]) (hp := PickA.perm (PickA.cons _ (PickA.app _ (PickA.here _)))) (hsrc := Src.own (e := 78) (List.Mem.head _) rfl); (case hi => rfl); (case hr => kernel_rfl); (case hT => infer_instance); (case hL => infer_instance); (case hzs => rfl); (case hsz => omega); (case hs => rfl); (case hx => rfl); (case hb => omega); (case hb' => simp only [maxLen]; omega); (case hd => rfl); (case h1 => first | rfl | fail); (case hν => intro e he; first | (simp at he; simp [he]) | fail); intro v8 n8 g8; obtain ⟨A8, c8, rfl, -, -⟩ := g8.shape) | fail)
        all_goals (first | (apply d_store 9; (case hi => rfl); (case hr => kernel_rfl); (case hL => infer_instance); (case hp => rfl); (case hx => rfl); (case hc => rfl); (case hsz => rfl); (case h1 => rfl); (case hb => (repeat (first | exact List.Mem.head _ | apply List.Mem.tail | apply List.mem_append_right))); (case hfit => first | exact Nat.le_of_ble_eq_true rfl | fail); (case hov => (first | ((repeat (first | with_reducible exact ov_nil | apply ov_cons | fail)); done) | fail)); (case hu => repeat (first | exact Upd.here _ _ | apply Upd.there | apply Upd.app)); (case hν' => intro e he; first | (simp at he; simp [he]) | fail)) | fail)
        all_goals (apply d_done; (case hr => kernel_rfl))
      case' fk2b =>
        first | (apply x_buildSlice 7; (case hi => rfl); (case hT => infer_instance); (case hL => infer_instance); (case hz => rfl); (case hl => rfl); (case hv => (simp only [List.map_cons, List.map_nil]; repeat (first | with_reducible exact evs_nil | (apply evs_cons; (case h1 => rfl))))); (case hp => (first | (apply pk_cons; (case hc => rfl); (case hs => rfl); (case h => (first | with_reducible exact pk_nil | fail)); (case he => (first | ((repeat (first | with_reducible exact ap_nil | apply ap_cons)); done) | fail))) | fail)); (case hb => rfl); (case hd => rfl); (case hν => intro e he; first | (simp at he; simp [he]) | fail); intro sb) | fail
        all_goals (first | (apply d_keep 0 (hop := ReadOp.move ?hop); (case hi => rfl); (case hr => kernel_rfl); (case hop => (apply r_load1; rfl; (apply Cell.own; (case h => repeat (first | exact List.Mem.head _ | apply List.Mem.tail | apply List.mem_append_right)); rfl))); (case hd => rfl)) | fail)
        all_goals (first | (apply d_append 8 (hg := hgr) (q' := 1) (us := [.int .i64 x, .slice A7 ((g x).getD []).length c7]) (hp := PickA.perm (PickA.cons _ (PickA.app _ (PickA.here _)))) (hsrc := Src.own (e := 78) (List.Mem.head _) rfl); (case hi => rfl); (case hr => kernel_rfl); (case hT => infer_instance); (case hL => infer_instance); (case hzs => rfl); (case hsz => omega); (case hs => rfl); (case hx => rfl); (case hb => omega); (case hb' => simp only [maxLen]; omega); (case hd => rfl); (case h1 => first | rfl | fail); (case hν => intro e he; first | (simp at he; simp [he]) | fail); intro v8 n8 g8; obtain ⟨A8, c8, rfl, -, -⟩ := g8.shape) | fail)
        all_goals (first | (apply d_store 9; (case hi => rfl); (case hr => kernel_rfl); (case hL => infer_instance); (case hp => rfl); (case hx => rfl); (case hc => rfl); (case hsz => rfl); (case h1 => rfl); (case hb => (repeat (first | exact List.Mem.head _ | apply List.Mem.tail | apply List.mem_append_right))); (case hfit => first | exact Nat.le_of_ble_eq_true rfl | fail); (case hov => (first | ((repeat (first | with_reducible exact ov_nil | apply ov_cons | fail)); done) | fail)); (case hu => repeat (first | exact Upd.here _ _ | apply Upd.there | apply Upd.app)); (case hν' => intro e he; first | (simp at he; simp [he]) | fail)) | fail)
        all_goals (apply d_done; (case hr => kernel_rfl))
    all_goals repeat' (first | apply v_blk | fail)
    all_goals
      (refine v_frz n7 (PickA.app _ (PickA.cons _ (PickA.here _))) ?_
       intro G5 hle5 hG5
       have hbs := hg7.ints hG5 hwb
       refine v_perm List.perm_middle ?_
       refine v_drop (List.sublist_cons_self _ _) ?_
       refine v_endR (n8 ++ [(b3, .cells [Value.map (some m)].toArray 79 (0, 0)), (b, _), (m, oM), (bx, .cells [Value.map (some m)].toArray 79 (0, 0))]) (List.Sublist.refl _) ⟨rfl, GH.le_trans hle5' hle5, _, n8, ?_, rfl⟩
       have e9 : filesOf g (pre ++ [x]) = filesOf g pre ++ [(x, (g x).getD [])] := by unfold filesOf; rw [List.map_append]; rfl
       rw [e9]
       exact GrL.snoc (R := FlR G5) (x := (x, (g x).getD [])) hc1 (fun i y cs hy hc => ⟨(hc2 i y cs hy hc).1, (hc2 i y cs hy hc).2.le hle5⟩) g8 rfl ⟨A7, c7, rfl, hbs⟩)
  · rintro B' D _ xs' G4 _ hle4 rfl ⟨hle5, ov, ν1, hg1, rfl⟩
    repeat' (first | apply v_seq | apply v_region | apply v_nil | apply v_blk | (apply v_pure; (case hop => first | (apply p_assign <;> rfl) | fail); (case hd => rfl)) | (apply v_read; (case hop => first | (apply r_load1; rfl; (apply Cell.own; (case h => (repeat (first | exact List.Mem.head _ | apply List.Mem.tail | apply List.mem_append_right))); rfl)) | fail); (case hd => rfl)) | fail)
    refine v_frz ν1 (PickA.cons _ (PickA.cons _ (PickA.here _))) ?_
    intro G5 hle5' hG5
    refine v_retD (Ds := [D]) [(m, oM)] (fun ds a ha w _ => outs1 rfl rfl ds a ha) (List.Perm.refl _) ?_ ?_
    · exact List.Sublist.cons _ (List.Sublist.cons _ (List.Sublist.cons _ (List.Sublist.cons_cons _ (List.nil_sublist _))))
    refine ⟨GH.le_trans hle2 (GH.le_trans hle4 hle5'), _, hrep, ?_, ?_, rfl⟩
    · exact (hg1.le fun _ _ h => h.le hle5').sl hG5
    · unfold filesOf; rw [List.length_map, hlen]
end Go.Proofs.Ytgflmkhfachlcaa
/-
  disk (layer 18): Files, View, Buffered.
-/
set_option linter.unusedSimpArgs false
set_option linter.unusedVariables false
namespace Go.Proofs.Ytgflmkhfachlcaa
open Go.Vx Go.ChangeShapes Go.WideShapes Go.ChangeAt Go.RowKit
theorem files_s {G : GH} {g : Fs} {ml : List (Int × Value)} {d m N : Nat} {oM : Obj} {ov : Value} (hM : MapB keyI ml oM) (hF : MF G ml g) (hN : Bd g N) (hN2 : N ≤ 1000000) (hl : ml.length ≤ 100000) :
    Con Try.prog 26 #[.pointer (some ⟨d, 0, none⟩)] G [(d, dkO m ov), (m, oM)] (fun r G' μ' => GH.le G G' ∧ ∃ R, Rep R g ∧ Fls G' r R ∧ R.length = ml.length ∧ μ' = [(d, dkO m ov), (m, oM)]) := by
  have q := list_s (m := m) hM hF hN hN2 hl
  unfold dkO
  (refine v_enter Try.func26 rfl Try.ntmps26 rfl ?_; intro B _)
  repeat' (first | apply v_seq | apply v_region | apply v_nil | apply v_skip | (apply v_pure; (case hop => first | (apply p_move <;> rfl) | (apply p_assign <;> rfl) | (apply p_fieldAddrB <;> rfl) | (apply p_nilCheck <;> rfl) | (apply p_eqNil <;> rfl) | fail); (case hd => rfl)) | (apply v_condF; (case hc => rfl)) | (apply v_read; (case hop => first | (apply r_load1; rfl; (apply Cell.own; (case h => (repeat (first | exact List.Mem.head _ | fail))); rfl)) | fail); (case hd => rfl)) | fail)
  refine v_call (μ1 := [(m, oM)]) (μ2 := [(d, .cells [.map (some m), ov].toArray 81 (0, 0))]) rfl q (List.Perm.swap _ _ _) rfl ?_
  rintro r G1 _ - ⟨hle, R, hR, hs, hn, rfl⟩
  repeat' (first | apply v_nil | (apply v_pure; (case hop => first | (apply p_assign <;> rfl) | fail); (case hd => rfl)) | fail)
  refine v_perm (List.Perm.swap _ _ _) ?_
  refine v_ret [(d, _), (m, oM)] (outsA1 rfl rfl) (List.Sublist.refl _) ⟨hle, R, hR, hs, hn, rfl⟩
theorem buffered_s {G : GH} {l : List Dop} {d m : Nat} {ov : Value} {ν : OH} (hg : GrL 84 3 (OpR G) ov l ν) (hl : l.length ≤ 500) (hx : ∀ x ∈ l, x.data.length ≤ 100) :
    Con Try.prog 27 #[.pointer (some ⟨d, 0, none⟩)] G ((d, dkO m ov) :: ν) (fun r G' μ' => GH.le G G' ∧ Ops G' r l ∧ μ' = (d, dkO m ov) :: ν) := by
  unfold dkO
  rcases opsCases hg with ⟨rfl, rfl, rfl⟩ | ⟨ob, cap, cells, dA, dc, rfl, h1, h2, rfl, hC⟩
  · (refine v_enter Try.func27 rfl Try.ntmps27 rfl ?_; intro B _)
    repeat' (first | apply v_seq | apply v_region | apply v_nil | apply v_skip | apply v_block | (apply v_pure; (case hop => first | (apply p_move <;> rfl) | (apply p_assign <;> rfl) | (apply p_lenSlice <;> rfl) | (apply p_fieldAddrB <;> rfl) | (apply p_nilCheck <;> rfl) | (apply p_eqNil <;> rfl) | fail); (case hd => rfl)) | (apply v_condF; (case hc => rfl)) | (apply v_read; (case hop => first | (apply r_load1; rfl; (apply Cell.own; (case h => (repeat (first | exact List.Mem.head _ | fail))); rfl)) | fail); (case hd => rfl)) | fail)
    refine v_loop [13, 12, 3] (fun us G' μ' => G' = G ∧ us = [Value.int .i64 (0 : Nat), .int .i64 (0 : Nat), .slice none 0 0] ∧ μ' = [(d, .cells [.map (some m), .slice none 0 0].toArray 81 (0, 0))]) (fun us => 0) rfl ⟨rfl, rfl, rfl⟩ ?_
    rintro us G' _ ⟨rfl, rfl, rfl⟩
    repeat' (first | apply v_seq | apply v_region | apply v_nil | (apply v_exit; (case hp => rfl)) | (apply v_pure; (case hop => first | (apply p_move <;> rfl) | (apply p_lt <;> rfl) | (apply p_assign <;> rfl) | fail); (case hd => rfl)) | (apply v_cond; (case hc => rfl); all_goals (intro h; (try simp only [reduceCtorEq, dec_true, dec_false, decide_eq_true_eq, decide_eq_false_iff_not, Bool.not_eq_true', Bool.not_eq_false', Option.isNone_iff_eq_none, beq_true, beq_false, beq_iff_eq, beq_eq_false_iff_ne, ne_eq, decide_eq_decide, Bool.not_eq_true, Bool.not_eq_false, Decidable.not_not] at h); first | (exfalso; omega) | skip)) | fail)
    refine v_ret [(d, _)] (outsA1 rfl rfl) (by repeat (first | exact List.Sublist.refl _ | fail)) ?_
    exact ⟨GH.le_refl _, Sl.nil, rfl⟩
  · simp only [maxLen] at h2
    (refine v_enter Try.func27 rfl Try.ntmps27 rfl ?_; intro B _)
    repeat' (first | apply v_seq | apply v_region | apply v_nil | apply v_skip | apply v_block | (apply v_pure; (case hop => first | (apply p_move <;> rfl) | (apply p_assign <;> rfl) | (apply p_lenSlice <;> rfl) | (apply p_fieldAddrB <;> rfl) | (apply p_nilCheck <;> rfl) | (apply p_eqNil <;> rfl) | fail); (case hd => rfl)) | (apply v_condF; (case hc => rfl)) | (apply v_read; (case hop => first | (apply r_load1; rfl; (apply Cell.own; (case h => (repeat (first | exact List.Mem.head _ | fail))); rfl)) | fail); (case hd => rfl)) | fail)
    refine v_loop [13, 3, 12, 11] (fun us G' μ' => GH.le G G' ∧ ∃ (k : Nat) (v : Value) (ν' : OH), k ≤ l.length ∧ us = [Value.int .i64 (k : Nat), v, .int .i64 (l.length : Nat), .slice (some ⟨ob, 0, none⟩) l.length cap] ∧ GrL 84 3 (OpR G') v (l.take k) ν' ∧ μ' = ν' ++ [(d, .cells [.map (some m), .slice (some ⟨ob, 0, none⟩) l.length cap].toArray 81 (0, 0)), (ob, .cells cells.toArray 84 (0, 0))]) (fun us => l.length - (headI us).toNat) rfl ⟨GH.le_refl _, 0, _, [], by omega, rfl, GrL.nil, rfl⟩ ?_
    rintro us G' _ ⟨hle, k, v, ν', hk, rfl, hg', rfl⟩
    by_cases hlt : k < l.length
    · have e1 : ((k : Nat) : Int).toNat = k := by omega
      have hcd := hC.1 k hlt
      have hdat := (hC.2 k hlt).mono hle
      have hxl := hx _ (List.getElem_mem hlt)
      have htk : (l.take (k + 1)) = l.take k ++ [l[k]] := List.take_succ_eq_append_getElem hlt
      have hkl : (l.take k).length = k := by rw [List.length_take]; omega
      generalize hxe : l[k] = x at *
      obtain ⟨kind, no, data⟩ := x
      simp only at *
      have qc := bclone_s hdat (by omega)
      obtain ⟨css, hc1, hc2, hgr⟩ := id hg'
      obtain ⟨A6, c6, rfl, hA1, hA2⟩ := hgr.shape
      obtain ⟨_, _, _, _, _, _, _, hwb⟩ := hdat.openInt
      repeat' (first | (apply v_pure; (case hop => apply p_idxOwn; (case hx => rfl); (case hi => rfl); (case h => omega)); (case hd => rfl)) | apply v_seq | apply v_region | apply v_nil | apply v_skip | apply v_block | (apply v_pure; (case hop => first | (apply p_lt <;> rfl) | (apply p_fieldAddrB <;> rfl) | fail); (case hd => rfl)) | (apply v_cond; (case hc => rfl); all_goals (intro h; (try simp only [reduceCtorEq, dec_true, dec_false, decide_eq_true_eq, decide_eq_false_iff_not, Bool.not_eq_true', Bool.not_eq_false', Option.isNone_iff_eq_none, beq_true, beq_false, beq_iff_eq, beq_eq_false_iff_ne, ne_eq, decide_eq_decide, Bool.not_eq_true, Bool.not_eq_false, Decidable.not_not] at h); first | (exfalso; omega) | skip)) | (apply v_read; (case hop => (apply r_loadNo; (case hx => rfl); (case h => repeat (first | exact List.Mem.head _ | apply List.Mem.tail | apply List.mem_append_right)); (case hd => exact hcd); (case hn => rfl))); (case hd => rfl)) | (apply v_read; (case hop => first | (apply r_load1; rfl; (apply Cell.own; (case h => (repeat (first | exact List.Mem.head _ | fail))); rfl)) | fail); (case hd => rfl)) | (apply v_alloc; (case hz => rfl); (case hd => rfl); intro b) | (apply v_store; (case hp => rfl); (case hx => rfl); (case hc => rfl); (case hsz => rfl); (case h1 => rfl); (case hb => (repeat (first | exact List.Mem.head _ | fail))); (case hfit => first | exact Nat.le_of_ble_eq_true rfl | fail); (case hov => (first | ((repeat (first | with_reducible exact ov_nil | apply ov_cons | fail)); done) | fail)); (case hu => repeat (first | exact Upd.here _ _ | fail))) | fail)
      refine v_call (μ1 := []) (μ2 := _) rfl qc (List.Perm.refl _) rfl ?_
      rintro r7 G7 n7 - ⟨hG7, hg7⟩
      subst G7
      obtain ⟨A7, c7, rfl, -, -⟩ := hg7.shape
      repeat' (first | apply v_region | apply v_nil | apply v_blk | (apply v_pure; (case hop => first | (apply p_move <;> rfl) | (apply p_assign <;> rfl) | (apply p_fieldAddrB <;> rfl) | (apply p_add; (case hx => rfl); (case hy => rfl); (case h => omega)) | fail); (case hd => rfl)) | (apply v_append (hg := hgr) (m' := 1) (us := [.int .i64 kind, .int .i64 no, .slice A7 data.length c7]) (hp := PickA.perm (by repeat (first | exact PickA.here _ | apply PickA.cons | apply PickA.app))) (hsrc := Src.own (e := 84) (by repeat (first | exact List.Mem.head _ | fail)) rfl); (case hzs => rfl); (case hsz => omega); (case hs => rfl); (case hx => rfl); (case hb => omega); (case hb' => simp only [maxLen]; omega); (case hd => rfl); (case h1 => rfl); intro v8 n8 hg8; obtain ⟨A8, c8, rfl, -, -⟩ := hg8.shape) | (apply v_read; (case hop => first | (apply r_loadNo; (case hx => rfl); (case h => (repeat (first | exact List.Mem.head _ | apply List.mem_append_right))); (case hd => (repeat (first | with_reducible exact dt_nil | apply dt_here | fail))); (case hn => rfl)) | fail); (case hd => rfl)) | (apply v_buildSlice; (case hz => rfl); (case hi => rfl); (case hv => (simp only [List.map_cons, List.map_nil]; repeat (first | with_reducible exact evs_nil | (apply evs_cons; (case h1 => rfl))))); (case hp => (first | (apply pk_cons; (case hc => rfl); (case hs => rfl); (case h => (first | with_reducible exact pk_nil | fail)); (case he => (first | ((repeat (first | with_reducible exact ap_nil | apply ap_cons)); done) | fail))) | fail)); (case hb => rfl); (case hd => rfl); intro b) | (apply v_store; (case hp => rfl); (case hx => rfl); (case hc => rfl); (case hsz => rfl); (case h1 => rfl); (case hb => (repeat (first | exact List.Mem.head _ | apply List.mem_append_right))); (case hfit => first | exact Nat.le_of_ble_eq_true rfl | fail); (case hov => (first | ((repeat (first | with_reducible exact ov_nil | apply ov_cons | fail)); done) | fail)); (case hu => repeat (first | exact Upd.here _ _ | apply Upd.app))) | fail)
      refine v_frz n7 (PickA.app _ (PickA.cons _ (PickA.here _))) ?_
      intro G5 hle5 hG5
      have hbs := hg7.ints hG5 hwb
      refine v_drop (ν := n8 ++ [(d, .cells [.map (some m), .slice (some ⟨ob, 0, none⟩) l.length cap].toArray 81 (0, 0)), (ob, .cells cells.toArray 84 (0, 0))]) (List.Sublist.append_left (List.Sublist.cons _ (List.Sublist.cons _ (List.Sublist.refl _))) _) ?_
      refine v_again rfl ⟨GH.le_trans hle hle5, k + 1, _, n8, by omega, rfl, ?_, rfl⟩ (by simp [headI]; omega)
      rw [htk]
      exact GrL.snoc (R := OpR G5) (x := ⟨kind, no, data⟩) hc1 (fun i y cs hy hc => ⟨(hc2 i y cs hy hc).1, (hc2 i y cs hy hc).2.le hle5⟩) hg8 rfl ⟨A7, c7, rfl, hbs⟩
    · obtain rfl : k = l.length := by omega
      rw [List.take_length] at hg'
      repeat' (first | apply v_seq | apply v_region | apply v_nil | (apply v_exit; (case hp => rfl)) | (apply v_pure; (case hop => first | (apply p_move <;> rfl) | (apply p_lt <;> rfl) | (apply p_assign <;> rfl) | fail); (case hd => rfl)) | (apply v_cond; (case hc => rfl); all_goals (intro h; (try simp only [reduceCtorEq, dec_true, dec_false, decide_eq_true_eq, decide_eq_false_iff_not, Bool.not_eq_true', Bool.not_eq_false', Option.isNone_iff_eq_none, beq_true, beq_false, beq_iff_eq, beq_eq_false_iff_ne, ne_eq, decide_eq_decide, Bool.not_eq_true, Bool.not_eq_false, Decidable.not_not] at h); first | (exfalso; omega) | skip)) | fail)
      refine v_frz ν' (PickA.here _) ?_
      intro G5 hle5 hG5
      refine v_ret [(d, _), (ob, _)] (outsA1 rfl rfl) (List.Sublist.refl _) ⟨GH.le_trans hle hle5, ?_, rfl⟩
      exact (hg'.le fun _ _ h => h.le hle5).sl hG5
end Go.Proofs.Ytgflmkhfachlcaa

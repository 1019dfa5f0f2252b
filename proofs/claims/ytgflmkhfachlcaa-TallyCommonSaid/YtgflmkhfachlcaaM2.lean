/-
  VX, THE CLOSED FACTS on this seat's types and functions, by program (vxgen.py).
-/
import Derived.Test.YtgflmkhfachlcaaM1
import Derived.Test.YtgflmkhfachlcaaRows
import Derived.Shelf.SortM.Plain
import Derived.Shelf.SortM.SortNone
import Derived.Shelf.Slices.CompactI
namespace Go.Proofs.Ytgflmkhfachlcaa
open Go Go.Vx
instance : Lay Try.prog 1 false 1 8 (.nilFunc) := ⟨by kernel_rfl, by kernel_rfl⟩
instance : Ty Try.prog 2 (.int .i64) := ⟨by kernel_rfl⟩
instance : Lay Try.prog 2 false 1 8 (.int .i64 0) := ⟨by kernel_rfl, by kernel_rfl⟩
instance : Ty Try.prog 3 (.int .i64) := ⟨by kernel_rfl⟩
instance : Lay Try.prog 3 false 1 8 (.int .i64 0) := ⟨by kernel_rfl, by kernel_rfl⟩
instance : Ty Try.prog 4 (.bool) := ⟨by kernel_rfl⟩
instance : Lay Try.prog 4 false 1 1 (.bool false) := ⟨by kernel_rfl, by kernel_rfl⟩
instance : Ty Try.prog 5 (.int .u8) := ⟨by kernel_rfl⟩
instance : Lay Try.prog 5 false 1 1 (.int .u8 0) := ⟨by kernel_rfl, by kernel_rfl⟩
instance : Ty Try.prog 6 (.int .u8) := ⟨by kernel_rfl⟩
instance : Lay Try.prog 6 false 1 1 (.int .u8 0) := ⟨by kernel_rfl, by kernel_rfl⟩
instance : Ty Try.prog 7 (.struct (Program.fieldsOf Try.prog 7)) := ⟨by kernel_rfl⟩
instance : Lay Try.prog 7 true 4 24 (.agg #[.int .i64 0, .int .i64 0, .bool false, .int .u8 0]) := ⟨by kernel_rfl, by kernel_rfl⟩
instance : Fld Try.prog 7 0 0 2 := ⟨by kernel_rfl⟩
instance : Fld Try.prog 7 1 1 3 := ⟨by kernel_rfl⟩
instance : Fld Try.prog 7 2 2 4 := ⟨by kernel_rfl⟩
instance : Fld Try.prog 7 3 3 6 := ⟨by kernel_rfl⟩
instance : Places Try.prog 7 [(0, 1), (1, 1), (2, 1), (3, 1)] := ⟨by kernel_rfl⟩
instance : Ty Try.prog 8 (.struct (Program.fieldsOf Try.prog 8)) := ⟨by kernel_rfl⟩
instance : Lay Try.prog 8 true 4 24 (.agg #[.int .i64 0, .int .i64 0, .bool false, .int .u8 0]) := ⟨by kernel_rfl, by kernel_rfl⟩
instance : Fld Try.prog 8 0 0 2 := ⟨by kernel_rfl⟩
instance : Fld Try.prog 8 1 1 3 := ⟨by kernel_rfl⟩
instance : Fld Try.prog 8 2 2 4 := ⟨by kernel_rfl⟩
instance : Fld Try.prog 8 3 3 6 := ⟨by kernel_rfl⟩
instance : Places Try.prog 8 [(0, 1), (1, 1), (2, 1), (3, 1)] := ⟨by kernel_rfl⟩
instance : Ty Try.prog 9 (.string) := ⟨by kernel_rfl⟩
instance : Lay Try.prog 9 false 1 16 (.string ByteArray.empty) := ⟨by kernel_rfl, by kernel_rfl⟩
instance : Ty Try.prog 10 (.string) := ⟨by kernel_rfl⟩
instance : Lay Try.prog 10 false 1 16 (.string ByteArray.empty) := ⟨by kernel_rfl, by kernel_rfl⟩
instance : Ty Try.prog 11 (.string) := ⟨by kernel_rfl⟩
instance : Lay Try.prog 11 false 1 16 (.string ByteArray.empty) := ⟨by kernel_rfl, by kernel_rfl⟩
instance : Ty Try.prog 12 (.int .u64) := ⟨by kernel_rfl⟩
instance : Lay Try.prog 12 false 1 8 (.int .u64 0) := ⟨by kernel_rfl, by kernel_rfl⟩
instance : Ty Try.prog 13 (.struct (Program.fieldsOf Try.prog 13)) := ⟨by kernel_rfl⟩
instance : Lay Try.prog 13 true 2 24 (.agg #[.string ByteArray.empty, .int .u64 0]) := ⟨by kernel_rfl, by kernel_rfl⟩
instance : Fld Try.prog 13 0 0 9 := ⟨by kernel_rfl⟩
instance : Fld Try.prog 13 1 1 12 := ⟨by kernel_rfl⟩
instance : Places Try.prog 13 [(0, 1), (1, 1)] := ⟨by kernel_rfl⟩
instance : Ty Try.prog 14 (.struct (Program.fieldsOf Try.prog 14)) := ⟨by kernel_rfl⟩
instance : Lay Try.prog 14 true 2 24 (.agg #[.string ByteArray.empty, .int .u64 0]) := ⟨by kernel_rfl, by kernel_rfl⟩
instance : Fld Try.prog 14 0 0 9 := ⟨by kernel_rfl⟩
instance : Fld Try.prog 14 1 1 12 := ⟨by kernel_rfl⟩
instance : Places Try.prog 14 [(0, 1), (1, 1)] := ⟨by kernel_rfl⟩
instance : Ty Try.prog 15 (.pointer 145) := ⟨by kernel_rfl⟩
instance : Lay Try.prog 15 false 1 8 (.pointer none) := ⟨by kernel_rfl, by kernel_rfl⟩
instance : Ty Try.prog 16 (.pointer 148) := ⟨by kernel_rfl⟩
instance : Lay Try.prog 16 false 1 8 (.pointer none) := ⟨by kernel_rfl, by kernel_rfl⟩
instance : Ty Try.prog 17 (.pointer 157) := ⟨by kernel_rfl⟩
instance : Lay Try.prog 17 false 1 8 (.pointer none) := ⟨by kernel_rfl, by kernel_rfl⟩
instance : Ty Try.prog 18 (.struct (Program.fieldsOf Try.prog 18)) := ⟨by kernel_rfl⟩
instance : Lay Try.prog 18 true 1 8 (.agg #[.pointer none]) := ⟨by kernel_rfl, by kernel_rfl⟩
instance : Fld Try.prog 18 0 0 17 := ⟨by kernel_rfl⟩
instance : Places Try.prog 18 [(0, 1)] := ⟨by kernel_rfl⟩
instance : Ty Try.prog 19 (.struct (Program.fieldsOf Try.prog 19)) := ⟨by kernel_rfl⟩
instance : Lay Try.prog 19 true 1 8 (.agg #[.pointer none]) := ⟨by kernel_rfl, by kernel_rfl⟩
instance : Fld Try.prog 19 0 0 17 := ⟨by kernel_rfl⟩
instance : Places Try.prog 19 [(0, 1)] := ⟨by kernel_rfl⟩
instance : Ty Try.prog 20 (.interface #[]) := ⟨by kernel_rfl⟩
instance : Lay Try.prog 20 false 1 16 (.nilIface) := ⟨by kernel_rfl, by kernel_rfl⟩
instance : Ty Try.prog 21 (.int .i32) := ⟨by kernel_rfl⟩
instance : Lay Try.prog 21 false 1 4 (.int .i32 0) := ⟨by kernel_rfl, by kernel_rfl⟩
instance : Ty Try.prog 22 (.slice 3) := ⟨by kernel_rfl⟩
instance : Lay Try.prog 22 false 1 24 (.slice none 0 0) := ⟨by kernel_rfl, by kernel_rfl⟩
instance : Ty Try.prog 23 (.array 2 22) := ⟨by kernel_rfl⟩
instance : Lay Try.prog 23 true 2 48 (.agg #[.slice none 0 0, .slice none 0 0]) := ⟨by kernel_rfl, by kernel_rfl⟩
instance : Lay Try.prog 24 false 1 8 (.nilFunc) := ⟨by kernel_rfl, by kernel_rfl⟩
instance : Ty Try.prog 25 (.struct (Program.fieldsOf Try.prog 25)) := ⟨by kernel_rfl⟩
instance : Lay Try.prog 25 true 2 16 (.agg #[.int .i64 0, .int .i64 0]) := ⟨by kernel_rfl, by kernel_rfl⟩
instance : Fld Try.prog 25 0 0 3 := ⟨by kernel_rfl⟩
instance : Fld Try.prog 25 1 1 3 := ⟨by kernel_rfl⟩
instance : EqS Try.prog 25 [⟨"Round", 3, 0, false, "", "", 0⟩, ⟨"Node", 3, 1, false, "", "", 8⟩] := ⟨by kernel_rfl, by kernel_rfl, by kernel_rfl, by kernel_rfl⟩
instance : Places Try.prog 25 [(0, 1), (1, 1)] := ⟨by kernel_rfl⟩
instance : Ty Try.prog 26 (.struct (Program.fieldsOf Try.prog 26)) := ⟨by kernel_rfl⟩
instance : Lay Try.prog 26 true 2 16 (.agg #[.int .i64 0, .int .i64 0]) := ⟨by kernel_rfl, by kernel_rfl⟩
instance : Fld Try.prog 26 0 0 3 := ⟨by kernel_rfl⟩
instance : Fld Try.prog 26 1 1 3 := ⟨by kernel_rfl⟩
instance : EqS Try.prog 26 [⟨"Round", 3, 0, false, "", "", 0⟩, ⟨"Node", 3, 1, false, "", "", 8⟩] := ⟨by kernel_rfl, by kernel_rfl, by kernel_rfl, by kernel_rfl⟩
instance : Places Try.prog 26 [(0, 1), (1, 1)] := ⟨by kernel_rfl⟩
instance : Ty Try.prog 27 (.pointer 68) := ⟨by kernel_rfl⟩
instance : Lay Try.prog 27 false 1 8 (.pointer none) := ⟨by kernel_rfl, by kernel_rfl⟩
instance : Lay Try.prog 28 false 1 8 (.nilFunc) := ⟨by kernel_rfl, by kernel_rfl⟩
instance : Lay Try.prog 29 false 1 8 (.nilFunc) := ⟨by kernel_rfl, by kernel_rfl⟩
instance : Lay Try.prog 30 false 1 8 (.nilFunc) := ⟨by kernel_rfl, by kernel_rfl⟩
instance : Lay Try.prog 31 false 1 8 (.nilFunc) := ⟨by kernel_rfl, by kernel_rfl⟩
instance : Lay Try.prog 32 false 1 8 (.nilFunc) := ⟨by kernel_rfl, by kernel_rfl⟩
instance : Lay Try.prog 33 false 1 8 (.nilFunc) := ⟨by kernel_rfl, by kernel_rfl⟩
instance : Ty Try.prog 34 (.slice 36) := ⟨by kernel_rfl⟩
instance : Lay Try.prog 34 false 1 24 (.slice none 0 0) := ⟨by kernel_rfl, by kernel_rfl⟩
instance : Ty Try.prog 35 (.struct (Program.fieldsOf Try.prog 35)) := ⟨by kernel_rfl⟩
instance : Lay Try.prog 35 true 5 40 (.agg #[.int .i64 0, .int .i64 0, .int .i64 0, .int .i64 0, .bool false]) := ⟨by kernel_rfl, by kernel_rfl⟩
instance : Fld Try.prog 35 0 0 26 := ⟨by kernel_rfl⟩
instance : Fld Try.prog 35 1 2 3 := ⟨by kernel_rfl⟩
instance : Fld Try.prog 35 2 3 3 := ⟨by kernel_rfl⟩
instance : Fld Try.prog 35 3 4 4 := ⟨by kernel_rfl⟩
instance : EqS Try.prog 35 [⟨"Ballot", 26, 0, false, "", "", 0⟩, ⟨"Index", 3, 2, false, "", "", 16⟩, ⟨"Node", 3, 3, false, "", "", 24⟩, ⟨"Drop", 4, 4, false, "", "", 32⟩] := ⟨by kernel_rfl, by kernel_rfl, by kernel_rfl, by kernel_rfl⟩
instance : Places Try.prog 35 [(0, 2), (2, 1), (3, 1), (4, 1)] := ⟨by kernel_rfl⟩
instance : Ty Try.prog 36 (.struct (Program.fieldsOf Try.prog 36)) := ⟨by kernel_rfl⟩
instance : Lay Try.prog 36 true 5 40 (.agg #[.int .i64 0, .int .i64 0, .int .i64 0, .int .i64 0, .bool false]) := ⟨by kernel_rfl, by kernel_rfl⟩
instance : Fld Try.prog 36 0 0 26 := ⟨by kernel_rfl⟩
instance : Fld Try.prog 36 1 2 3 := ⟨by kernel_rfl⟩
instance : Fld Try.prog 36 2 3 3 := ⟨by kernel_rfl⟩
instance : Fld Try.prog 36 3 4 4 := ⟨by kernel_rfl⟩
instance : EqS Try.prog 36 [⟨"Ballot", 26, 0, false, "", "", 0⟩, ⟨"Index", 3, 2, false, "", "", 16⟩, ⟨"Node", 3, 3, false, "", "", 24⟩, ⟨"Drop", 4, 4, false, "", "", 32⟩] := ⟨by kernel_rfl, by kernel_rfl, by kernel_rfl, by kernel_rfl⟩
instance : Places Try.prog 36 [(0, 2), (2, 1), (3, 1), (4, 1)] := ⟨by kernel_rfl⟩
instance : Lay Try.prog 37 false 1 8 (.nilFunc) := ⟨by kernel_rfl, by kernel_rfl⟩
instance : Lay Try.prog 38 false 1 8 (.nilFunc) := ⟨by kernel_rfl, by kernel_rfl⟩
instance : Lay Try.prog 39 false 1 8 (.nilFunc) := ⟨by kernel_rfl, by kernel_rfl⟩
instance : Lay Try.prog 40 false 1 8 (.nilFunc) := ⟨by kernel_rfl, by kernel_rfl⟩
instance : Lay Try.prog 41 false 1 8 (.nilFunc) := ⟨by kernel_rfl, by kernel_rfl⟩
instance : Lay Try.prog 42 false 1 8 (.nilFunc) := ⟨by kernel_rfl, by kernel_rfl⟩
instance : Lay Try.prog 43 false 1 8 (.nilFunc) := ⟨by kernel_rfl, by kernel_rfl⟩
instance : Ty Try.prog 44 (.slice 51) := ⟨by kernel_rfl⟩
instance : Lay Try.prog 44 false 1 24 (.slice none 0 0) := ⟨by kernel_rfl, by kernel_rfl⟩
instance : Lay Try.prog 45 false 1 8 (.nilFunc) := ⟨by kernel_rfl, by kernel_rfl⟩
instance : Ty Try.prog 46 (.pointer 81) := ⟨by kernel_rfl⟩
instance : Lay Try.prog 46 false 1 8 (.pointer none) := ⟨by kernel_rfl, by kernel_rfl⟩
instance : Lay Try.prog 47 false 1 8 (.nilFunc) := ⟨by kernel_rfl, by kernel_rfl⟩
instance : Lay Try.prog 48 false 1 8 (.nilFunc) := ⟨by kernel_rfl, by kernel_rfl⟩
instance : Ty Try.prog 49 (.slice 5) := ⟨by kernel_rfl⟩
instance : Lay Try.prog 49 false 1 24 (.slice none 0 0) := ⟨by kernel_rfl, by kernel_rfl⟩
instance : Ty Try.prog 50 (.struct (Program.fieldsOf Try.prog 50)) := ⟨by kernel_rfl⟩
instance : Lay Try.prog 50 true 4 48 (.agg #[.int .i64 0, .int .i64 0, .int .i64 0, .slice none 0 0]) := ⟨by kernel_rfl, by kernel_rfl⟩
instance : Fld Try.prog 50 0 0 3 := ⟨by kernel_rfl⟩
instance : Fld Try.prog 50 1 1 3 := ⟨by kernel_rfl⟩
instance : Fld Try.prog 50 2 2 3 := ⟨by kernel_rfl⟩
instance : Fld Try.prog 50 3 3 49 := ⟨by kernel_rfl⟩
instance : Places Try.prog 50 [(0, 1), (1, 1), (2, 1), (3, 1)] := ⟨by kernel_rfl⟩
instance : Ty Try.prog 51 (.struct (Program.fieldsOf Try.prog 51)) := ⟨by kernel_rfl⟩
instance : Lay Try.prog 51 true 4 48 (.agg #[.int .i64 0, .int .i64 0, .int .i64 0, .slice none 0 0]) := ⟨by kernel_rfl, by kernel_rfl⟩
instance : Fld Try.prog 51 0 0 3 := ⟨by kernel_rfl⟩
instance : Fld Try.prog 51 1 1 3 := ⟨by kernel_rfl⟩
instance : Fld Try.prog 51 2 2 3 := ⟨by kernel_rfl⟩
instance : Fld Try.prog 51 3 3 49 := ⟨by kernel_rfl⟩
instance : Places Try.prog 51 [(0, 1), (1, 1), (2, 1), (3, 1)] := ⟨by kernel_rfl⟩
instance : Ty Try.prog 52 (.slice 78) := ⟨by kernel_rfl⟩
instance : Lay Try.prog 52 false 1 24 (.slice none 0 0) := ⟨by kernel_rfl, by kernel_rfl⟩
instance : Lay Try.prog 53 false 1 8 (.nilFunc) := ⟨by kernel_rfl, by kernel_rfl⟩
instance : Ty Try.prog 54 (.slice 84) := ⟨by kernel_rfl⟩
instance : Lay Try.prog 54 false 1 24 (.slice none 0 0) := ⟨by kernel_rfl, by kernel_rfl⟩
instance : Lay Try.prog 55 false 1 8 (.nilFunc) := ⟨by kernel_rfl, by kernel_rfl⟩
instance : Lay Try.prog 56 false 1 8 (.nilFunc) := ⟨by kernel_rfl, by kernel_rfl⟩
instance : Lay Try.prog 57 false 1 8 (.nilFunc) := ⟨by kernel_rfl, by kernel_rfl⟩
instance : Lay Try.prog 58 false 1 8 (.nilFunc) := ⟨by kernel_rfl, by kernel_rfl⟩
instance : Lay Try.prog 59 false 1 8 (.nilFunc) := ⟨by kernel_rfl, by kernel_rfl⟩
instance : Ty Try.prog 60 (.pointer 62) := ⟨by kernel_rfl⟩
instance : Lay Try.prog 60 false 1 8 (.pointer none) := ⟨by kernel_rfl, by kernel_rfl⟩
instance : Ty Try.prog 61 (.struct (Program.fieldsOf Try.prog 61)) := ⟨by kernel_rfl⟩
instance : Lay Try.prog 61 true 2 48 (.agg #[.slice none 0 0, .slice none 0 0]) := ⟨by kernel_rfl, by kernel_rfl⟩
instance : Fld Try.prog 61 0 0 52 := ⟨by kernel_rfl⟩
instance : Fld Try.prog 61 1 1 54 := ⟨by kernel_rfl⟩
instance : Places Try.prog 61 [(0, 1), (1, 1)] := ⟨by kernel_rfl⟩
instance : Ty Try.prog 62 (.struct (Program.fieldsOf Try.prog 62)) := ⟨by kernel_rfl⟩
instance : Lay Try.prog 62 true 2 48 (.agg #[.slice none 0 0, .slice none 0 0]) := ⟨by kernel_rfl, by kernel_rfl⟩
instance : Fld Try.prog 62 0 0 52 := ⟨by kernel_rfl⟩
instance : Fld Try.prog 62 1 1 54 := ⟨by kernel_rfl⟩
instance : Places Try.prog 62 [(0, 1), (1, 1)] := ⟨by kernel_rfl⟩
instance : Lay Try.prog 63 false 1 8 (.nilFunc) := ⟨by kernel_rfl, by kernel_rfl⟩
instance : Lay Try.prog 64 false 1 8 (.nilFunc) := ⟨by kernel_rfl, by kernel_rfl⟩
instance : Lay Try.prog 65 false 1 8 (.nilFunc) := ⟨by kernel_rfl, by kernel_rfl⟩
instance : Ty Try.prog 66 (.map 3 69) := ⟨by kernel_rfl⟩
instance : Lay Try.prog 66 false 1 8 (.map none) := ⟨by kernel_rfl, by kernel_rfl⟩
instance : Ty Try.prog 67 (.struct (Program.fieldsOf Try.prog 67)) := ⟨by kernel_rfl⟩
instance : Lay Try.prog 67 true 4 32 (.agg #[.int .i64 0, .int .i64 0, .map none, .int .i64 0]) := ⟨by kernel_rfl, by kernel_rfl⟩
instance : Fld Try.prog 67 0 0 26 := ⟨by kernel_rfl⟩
instance : Fld Try.prog 67 1 2 66 := ⟨by kernel_rfl⟩
instance : Fld Try.prog 67 2 3 3 := ⟨by kernel_rfl⟩
instance : Places Try.prog 67 [(0, 2), (2, 1), (3, 1)] := ⟨by kernel_rfl⟩
instance : Ty Try.prog 68 (.struct (Program.fieldsOf Try.prog 68)) := ⟨by kernel_rfl⟩
instance : Lay Try.prog 68 true 4 32 (.agg #[.int .i64 0, .int .i64 0, .map none, .int .i64 0]) := ⟨by kernel_rfl, by kernel_rfl⟩
instance : Fld Try.prog 68 0 0 26 := ⟨by kernel_rfl⟩
instance : Fld Try.prog 68 1 2 66 := ⟨by kernel_rfl⟩
instance : Fld Try.prog 68 2 3 3 := ⟨by kernel_rfl⟩
instance : Places Try.prog 68 [(0, 2), (2, 1), (3, 1)] := ⟨by kernel_rfl⟩
instance : Ty Try.prog 69 (.int .u64) := ⟨by kernel_rfl⟩
instance : Lay Try.prog 69 false 1 8 (.int .u64 0) := ⟨by kernel_rfl, by kernel_rfl⟩
instance : Lay Try.prog 70 false 1 8 (.nilFunc) := ⟨by kernel_rfl, by kernel_rfl⟩
instance : Lay Try.prog 71 false 1 8 (.nilFunc) := ⟨by kernel_rfl, by kernel_rfl⟩
instance : Lay Try.prog 72 false 1 8 (.nilFunc) := ⟨by kernel_rfl, by kernel_rfl⟩
instance : Lay Try.prog 73 false 1 8 (.nilFunc) := ⟨by kernel_rfl, by kernel_rfl⟩
instance : Lay Try.prog 74 false 1 8 (.nilFunc) := ⟨by kernel_rfl, by kernel_rfl⟩
instance : Lay Try.prog 75 false 1 8 (.nilFunc) := ⟨by kernel_rfl, by kernel_rfl⟩
instance : Lay Try.prog 76 false 1 8 (.nilFunc) := ⟨by kernel_rfl, by kernel_rfl⟩
instance : Ty Try.prog 77 (.struct (Program.fieldsOf Try.prog 77)) := ⟨by kernel_rfl⟩
instance : Lay Try.prog 77 true 2 32 (.agg #[.int .i64 0, .slice none 0 0]) := ⟨by kernel_rfl, by kernel_rfl⟩
instance : Fld Try.prog 77 0 0 3 := ⟨by kernel_rfl⟩
instance : Fld Try.prog 77 1 1 49 := ⟨by kernel_rfl⟩
instance : Places Try.prog 77 [(0, 1), (1, 1)] := ⟨by kernel_rfl⟩
instance : Ty Try.prog 78 (.struct (Program.fieldsOf Try.prog 78)) := ⟨by kernel_rfl⟩
instance : Lay Try.prog 78 true 2 32 (.agg #[.int .i64 0, .slice none 0 0]) := ⟨by kernel_rfl, by kernel_rfl⟩
instance : Fld Try.prog 78 0 0 3 := ⟨by kernel_rfl⟩
instance : Fld Try.prog 78 1 1 49 := ⟨by kernel_rfl⟩
instance : Places Try.prog 78 [(0, 1), (1, 1)] := ⟨by kernel_rfl⟩
instance : Ty Try.prog 79 (.map 3 49) := ⟨by kernel_rfl⟩
instance : Lay Try.prog 79 false 1 8 (.map none) := ⟨by kernel_rfl, by kernel_rfl⟩
instance : Ty Try.prog 80 (.struct (Program.fieldsOf Try.prog 80)) := ⟨by kernel_rfl⟩
instance : Lay Try.prog 80 true 2 32 (.agg #[.map none, .slice none 0 0]) := ⟨by kernel_rfl, by kernel_rfl⟩
instance : Fld Try.prog 80 0 0 79 := ⟨by kernel_rfl⟩
instance : Fld Try.prog 80 1 1 54 := ⟨by kernel_rfl⟩
instance : Places Try.prog 80 [(0, 1), (1, 1)] := ⟨by kernel_rfl⟩
instance : Ty Try.prog 81 (.struct (Program.fieldsOf Try.prog 81)) := ⟨by kernel_rfl⟩
instance : Lay Try.prog 81 true 2 32 (.agg #[.map none, .slice none 0 0]) := ⟨by kernel_rfl, by kernel_rfl⟩
instance : Fld Try.prog 81 0 0 79 := ⟨by kernel_rfl⟩
instance : Fld Try.prog 81 1 1 54 := ⟨by kernel_rfl⟩
instance : Places Try.prog 81 [(0, 1), (1, 1)] := ⟨by kernel_rfl⟩
instance : Lay Try.prog 82 false 1 8 (.nilFunc) := ⟨by kernel_rfl, by kernel_rfl⟩
instance : Ty Try.prog 83 (.struct (Program.fieldsOf Try.prog 83)) := ⟨by kernel_rfl⟩
instance : Lay Try.prog 83 true 3 40 (.agg #[.int .i64 0, .int .i64 0, .slice none 0 0]) := ⟨by kernel_rfl, by kernel_rfl⟩
instance : Fld Try.prog 83 0 0 3 := ⟨by kernel_rfl⟩
instance : Fld Try.prog 83 1 1 3 := ⟨by kernel_rfl⟩
instance : Fld Try.prog 83 2 2 49 := ⟨by kernel_rfl⟩
instance : Places Try.prog 83 [(0, 1), (1, 1), (2, 1)] := ⟨by kernel_rfl⟩
instance : Ty Try.prog 84 (.struct (Program.fieldsOf Try.prog 84)) := ⟨by kernel_rfl⟩
instance : Lay Try.prog 84 true 3 40 (.agg #[.int .i64 0, .int .i64 0, .slice none 0 0]) := ⟨by kernel_rfl, by kernel_rfl⟩
instance : Fld Try.prog 84 0 0 3 := ⟨by kernel_rfl⟩
instance : Fld Try.prog 84 1 1 3 := ⟨by kernel_rfl⟩
instance : Fld Try.prog 84 2 2 49 := ⟨by kernel_rfl⟩
instance : Places Try.prog 84 [(0, 1), (1, 1), (2, 1)] := ⟨by kernel_rfl⟩
instance : Lay Try.prog 85 false 1 8 (.nilFunc) := ⟨by kernel_rfl, by kernel_rfl⟩
instance : Lay Try.prog 86 false 1 8 (.nilFunc) := ⟨by kernel_rfl, by kernel_rfl⟩
instance : Lay Try.prog 87 false 1 8 (.nilFunc) := ⟨by kernel_rfl, by kernel_rfl⟩
instance : Lay Try.prog 88 false 1 8 (.nilFunc) := ⟨by kernel_rfl, by kernel_rfl⟩
instance : Lay Try.prog 89 false 1 8 (.nilFunc) := ⟨by kernel_rfl, by kernel_rfl⟩
instance : Ty Try.prog 90 (.slice 95) := ⟨by kernel_rfl⟩
instance : Lay Try.prog 90 false 1 24 (.slice none 0 0) := ⟨by kernel_rfl, by kernel_rfl⟩
instance : Ty Try.prog 91 (.int .i64) := ⟨by kernel_rfl⟩
instance : Lay Try.prog 91 false 1 8 (.int .i64 0) := ⟨by kernel_rfl, by kernel_rfl⟩
instance : Lay Try.prog 93 false 1 8 (.nilFunc) := ⟨by kernel_rfl, by kernel_rfl⟩
instance : Ty Try.prog 94 (.struct (Program.fieldsOf Try.prog 94)) := ⟨by kernel_rfl⟩
instance : Lay Try.prog 94 true 2 32 (.agg #[.int .i64 0, .slice none 0 0]) := ⟨by kernel_rfl, by kernel_rfl⟩
instance : Fld Try.prog 94 0 0 3 := ⟨by kernel_rfl⟩
instance : Fld Try.prog 94 1 1 22 := ⟨by kernel_rfl⟩
instance : Places Try.prog 94 [(0, 1), (1, 1)] := ⟨by kernel_rfl⟩
instance : Ty Try.prog 95 (.struct (Program.fieldsOf Try.prog 95)) := ⟨by kernel_rfl⟩
instance : Lay Try.prog 95 true 2 32 (.agg #[.int .i64 0, .slice none 0 0]) := ⟨by kernel_rfl, by kernel_rfl⟩
instance : Fld Try.prog 95 0 0 3 := ⟨by kernel_rfl⟩
instance : Fld Try.prog 95 1 1 22 := ⟨by kernel_rfl⟩
instance : Places Try.prog 95 [(0, 1), (1, 1)] := ⟨by kernel_rfl⟩
instance : Lay Try.prog 96 false 1 8 (.nilFunc) := ⟨by kernel_rfl, by kernel_rfl⟩
instance : Lay Try.prog 97 false 1 8 (.nilFunc) := ⟨by kernel_rfl, by kernel_rfl⟩
instance : Lay Try.prog 98 false 1 8 (.nilFunc) := ⟨by kernel_rfl, by kernel_rfl⟩
instance : Lay Try.prog 99 false 1 8 (.nilFunc) := ⟨by kernel_rfl, by kernel_rfl⟩
instance : Lay Try.prog 100 false 1 8 (.nilFunc) := ⟨by kernel_rfl, by kernel_rfl⟩
instance : Lay Try.prog 101 false 1 8 (.nilFunc) := ⟨by kernel_rfl, by kernel_rfl⟩
instance : Lay Try.prog 103 false 1 8 (.nilFunc) := ⟨by kernel_rfl, by kernel_rfl⟩
instance : Lay Try.prog 104 false 1 8 (.nilFunc) := ⟨by kernel_rfl, by kernel_rfl⟩
instance : Lay Try.prog 105 false 1 8 (.nilFunc) := ⟨by kernel_rfl, by kernel_rfl⟩
instance : Lay Try.prog 106 false 1 8 (.nilFunc) := ⟨by kernel_rfl, by kernel_rfl⟩
instance : Lay Try.prog 108 false 1 8 (.nilFunc) := ⟨by kernel_rfl, by kernel_rfl⟩
instance : Lay Try.prog 109 false 1 8 (.nilFunc) := ⟨by kernel_rfl, by kernel_rfl⟩
instance : Lay Try.prog 110 false 1 8 (.nilFunc) := ⟨by kernel_rfl, by kernel_rfl⟩
instance : Lay Try.prog 111 false 1 8 (.nilFunc) := ⟨by kernel_rfl, by kernel_rfl⟩
instance : Lay Try.prog 112 false 1 8 (.nilFunc) := ⟨by kernel_rfl, by kernel_rfl⟩
instance : Lay Try.prog 113 false 1 8 (.nilFunc) := ⟨by kernel_rfl, by kernel_rfl⟩
instance : Ty Try.prog 114 (.slice 49) := ⟨by kernel_rfl⟩
instance : Lay Try.prog 114 false 1 24 (.slice none 0 0) := ⟨by kernel_rfl, by kernel_rfl⟩
instance : Lay Try.prog 115 false 1 8 (.nilFunc) := ⟨by kernel_rfl, by kernel_rfl⟩
instance : Lay Try.prog 116 false 1 8 (.nilFunc) := ⟨by kernel_rfl, by kernel_rfl⟩
instance : Lay Try.prog 118 false 1 8 (.nilFunc) := ⟨by kernel_rfl, by kernel_rfl⟩
instance : Lay Try.prog 119 false 1 8 (.nilFunc) := ⟨by kernel_rfl, by kernel_rfl⟩
instance : Lay Try.prog 120 false 1 8 (.nilFunc) := ⟨by kernel_rfl, by kernel_rfl⟩
instance : Lay Try.prog 121 false 1 8 (.nilFunc) := ⟨by kernel_rfl, by kernel_rfl⟩
instance : Ty Try.prog 122 (.int .i64) := ⟨by kernel_rfl⟩
instance : Lay Try.prog 122 false 1 8 (.int .i64 0) := ⟨by kernel_rfl, by kernel_rfl⟩
instance : Lay Try.prog 124 false 1 8 (.nilFunc) := ⟨by kernel_rfl, by kernel_rfl⟩
instance : Lay Try.prog 125 false 1 8 (.nilFunc) := ⟨by kernel_rfl, by kernel_rfl⟩
instance : Lay Try.prog 126 false 1 8 (.nilFunc) := ⟨by kernel_rfl, by kernel_rfl⟩
instance : Lay Try.prog 127 false 1 8 (.nilFunc) := ⟨by kernel_rfl, by kernel_rfl⟩
instance : Lay Try.prog 128 false 1 8 (.nilFunc) := ⟨by kernel_rfl, by kernel_rfl⟩
instance : Lay Try.prog 129 false 1 8 (.nilFunc) := ⟨by kernel_rfl, by kernel_rfl⟩
instance : Ty Try.prog 130 (.int .u32) := ⟨by kernel_rfl⟩
instance : Lay Try.prog 130 false 1 4 (.int .u32 0) := ⟨by kernel_rfl, by kernel_rfl⟩
instance : Lay Try.prog 131 false 1 8 (.nilFunc) := ⟨by kernel_rfl, by kernel_rfl⟩
instance : Ty Try.prog 132 (.int .u64) := ⟨by kernel_rfl⟩
instance : Lay Try.prog 132 false 1 8 (.int .u64 0) := ⟨by kernel_rfl, by kernel_rfl⟩
instance : Lay Try.prog 133 false 1 8 (.nilFunc) := ⟨by kernel_rfl, by kernel_rfl⟩
instance : Ty Try.prog 134 (.int .u64) := ⟨by kernel_rfl⟩
instance : Lay Try.prog 134 false 1 8 (.int .u64 0) := ⟨by kernel_rfl, by kernel_rfl⟩
instance : Lay Try.prog 135 false 1 8 (.nilFunc) := ⟨by kernel_rfl, by kernel_rfl⟩
instance : Lay Try.prog 136 false 1 8 (.nilFunc) := ⟨by kernel_rfl, by kernel_rfl⟩
instance : Lay Try.prog 137 false 1 8 (.nilFunc) := ⟨by kernel_rfl, by kernel_rfl⟩
instance : Ty Try.prog 138 (.pointer 3) := ⟨by kernel_rfl⟩
instance : Lay Try.prog 138 false 1 8 (.pointer none) := ⟨by kernel_rfl, by kernel_rfl⟩
instance : Lay Try.prog 139 false 1 8 (.nilFunc) := ⟨by kernel_rfl, by kernel_rfl⟩
instance : Ty Try.prog 140 (.pointer 134) := ⟨by kernel_rfl⟩
instance : Lay Try.prog 140 false 1 8 (.pointer none) := ⟨by kernel_rfl, by kernel_rfl⟩
instance : Lay Try.prog 142 false 1 8 (.nilFunc) := ⟨by kernel_rfl, by kernel_rfl⟩
instance : Lay Try.prog 143 false 1 8 (.nilFunc) := ⟨by kernel_rfl, by kernel_rfl⟩
instance : Ty Try.prog 144 (.struct (Program.fieldsOf Try.prog 144)) := ⟨by kernel_rfl⟩
instance : Lay Try.prog 144 true 4 40 (.agg #[.pointer none, .pointer none, .pointer none, .string ByteArray.empty]) := ⟨by kernel_rfl, by kernel_rfl⟩
instance : Fld Try.prog 144 0 0 17 := ⟨by kernel_rfl⟩
instance : Fld Try.prog 144 1 1 17 := ⟨by kernel_rfl⟩
instance : Fld Try.prog 144 2 2 17 := ⟨by kernel_rfl⟩
instance : Fld Try.prog 144 3 3 9 := ⟨by kernel_rfl⟩
instance : Places Try.prog 144 [(0, 1), (1, 1), (2, 1), (3, 1)] := ⟨by kernel_rfl⟩
instance : Ty Try.prog 145 (.struct (Program.fieldsOf Try.prog 145)) := ⟨by kernel_rfl⟩
instance : Lay Try.prog 145 true 4 40 (.agg #[.pointer none, .pointer none, .pointer none, .string ByteArray.empty]) := ⟨by kernel_rfl, by kernel_rfl⟩
instance : Fld Try.prog 145 0 0 17 := ⟨by kernel_rfl⟩
instance : Fld Try.prog 145 1 1 17 := ⟨by kernel_rfl⟩
instance : Fld Try.prog 145 2 2 17 := ⟨by kernel_rfl⟩
instance : Fld Try.prog 145 3 3 9 := ⟨by kernel_rfl⟩
instance : Places Try.prog 145 [(0, 1), (1, 1), (2, 1), (3, 1)] := ⟨by kernel_rfl⟩
instance : Ty Try.prog 146 (.array 0 16) := ⟨by kernel_rfl⟩
instance : Lay Try.prog 146 true 0 0 (.agg #[]) := ⟨by kernel_rfl, by kernel_rfl⟩
instance : Ty Try.prog 147 (.struct (Program.fieldsOf Try.prog 147)) := ⟨by kernel_rfl⟩
instance : Lay Try.prog 147 true 0 0 (.agg #[]) := ⟨by kernel_rfl, by kernel_rfl⟩
instance : Places Try.prog 147 [(0, 0)] := ⟨by kernel_rfl⟩
instance : Ty Try.prog 148 (.struct (Program.fieldsOf Try.prog 148)) := ⟨by kernel_rfl⟩
instance : Lay Try.prog 148 true 0 0 (.agg #[]) := ⟨by kernel_rfl, by kernel_rfl⟩
instance : Places Try.prog 148 [(0, 0)] := ⟨by kernel_rfl⟩
instance : Lay Try.prog 149 false 1 8 (.nilFunc) := ⟨by kernel_rfl, by kernel_rfl⟩
instance : Ty Try.prog 150 (.int .u8) := ⟨by kernel_rfl⟩
instance : Lay Try.prog 150 false 1 1 (.int .u8 0) := ⟨by kernel_rfl, by kernel_rfl⟩
instance : Ty Try.prog 151 (.int .u8) := ⟨by kernel_rfl⟩
instance : Lay Try.prog 151 false 1 1 (.int .u8 0) := ⟨by kernel_rfl, by kernel_rfl⟩
instance : Lay Try.prog 152 false 1 8 (.nilFunc) := ⟨by kernel_rfl, by kernel_rfl⟩
instance : Ty Try.prog 153 (.pointer 5) := ⟨by kernel_rfl⟩
instance : Lay Try.prog 153 false 1 8 (.pointer none) := ⟨by kernel_rfl, by kernel_rfl⟩
instance : Ty Try.prog 154 (.int .i32) := ⟨by kernel_rfl⟩
instance : Lay Try.prog 154 false 1 4 (.int .i32 0) := ⟨by kernel_rfl, by kernel_rfl⟩
instance : Ty Try.prog 155 (.int .i32) := ⟨by kernel_rfl⟩
instance : Lay Try.prog 155 false 1 4 (.int .i32 0) := ⟨by kernel_rfl, by kernel_rfl⟩
instance : Ty Try.prog 156 (.struct (Program.fieldsOf Try.prog 156)) := ⟨by kernel_rfl⟩
instance : Lay Try.prog 156 true 11 48 (.agg #[.int .u64 0, .int .u64 0, .int .u32 0, .int .u8 0, .int .u8 0, .int .u8 0, .int .u8 0, .nilFunc, .pointer none, .int .i32 0, .int .i32 0]) := ⟨by kernel_rfl, by kernel_rfl⟩
instance : Fld Try.prog 156 0 0 12 := ⟨by kernel_rfl⟩
instance : Fld Try.prog 156 1 1 12 := ⟨by kernel_rfl⟩
instance : Fld Try.prog 156 2 2 130 := ⟨by kernel_rfl⟩
instance : Fld Try.prog 156 3 3 150 := ⟨by kernel_rfl⟩
instance : Fld Try.prog 156 4 4 5 := ⟨by kernel_rfl⟩
instance : Fld Try.prog 156 5 5 5 := ⟨by kernel_rfl⟩
instance : Fld Try.prog 156 6 6 151 := ⟨by kernel_rfl⟩
instance : Fld Try.prog 156 7 7 152 := ⟨by kernel_rfl⟩
instance : Fld Try.prog 156 8 8 153 := ⟨by kernel_rfl⟩
instance : Fld Try.prog 156 9 9 154 := ⟨by kernel_rfl⟩
instance : Fld Try.prog 156 10 10 155 := ⟨by kernel_rfl⟩
instance : Places Try.prog 156 [(0, 1), (1, 1), (2, 1), (3, 1), (4, 1), (5, 1), (6, 1), (7, 1), (8, 1), (9, 1), (10, 1)] := ⟨by kernel_rfl⟩
instance : Ty Try.prog 157 (.struct (Program.fieldsOf Try.prog 157)) := ⟨by kernel_rfl⟩
instance : Lay Try.prog 157 true 11 48 (.agg #[.int .u64 0, .int .u64 0, .int .u32 0, .int .u8 0, .int .u8 0, .int .u8 0, .int .u8 0, .nilFunc, .pointer none, .int .i32 0, .int .i32 0]) := ⟨by kernel_rfl, by kernel_rfl⟩
instance : Fld Try.prog 157 0 0 12 := ⟨by kernel_rfl⟩
instance : Fld Try.prog 157 1 1 12 := ⟨by kernel_rfl⟩
instance : Fld Try.prog 157 2 2 130 := ⟨by kernel_rfl⟩
instance : Fld Try.prog 157 3 3 150 := ⟨by kernel_rfl⟩
instance : Fld Try.prog 157 4 4 5 := ⟨by kernel_rfl⟩
instance : Fld Try.prog 157 5 5 5 := ⟨by kernel_rfl⟩
instance : Fld Try.prog 157 6 6 151 := ⟨by kernel_rfl⟩
instance : Fld Try.prog 157 7 7 152 := ⟨by kernel_rfl⟩
instance : Fld Try.prog 157 8 8 153 := ⟨by kernel_rfl⟩
instance : Fld Try.prog 157 9 9 154 := ⟨by kernel_rfl⟩
instance : Fld Try.prog 157 10 10 155 := ⟨by kernel_rfl⟩
instance : Places Try.prog 157 [(0, 1), (1, 1), (2, 1), (3, 1), (4, 1), (5, 1), (6, 1), (7, 1), (8, 1), (9, 1), (10, 1)] := ⟨by kernel_rfl⟩
instance : Lay Try.prog 158 false 1 8 (.pointer none) := ⟨by kernel_rfl, by kernel_rfl⟩
instance : Callable Try.prog 3 := callable_of Try.func3 (by kernel_rfl) rfl
instance : Callable Try.prog 4 := callable_of Try.func4 (by kernel_rfl) rfl
instance : Callable Try.prog 5 := callable_of Try.func5 (by kernel_rfl) rfl
instance : Callable Try.prog 6 := callable_of Try.func6 (by kernel_rfl) rfl
instance : Callable Try.prog 7 := callable_of Try.func7 (by kernel_rfl) rfl
instance : Callable Try.prog 8 := callable_of Try.func8 (by kernel_rfl) rfl
instance : Callable Try.prog 9 := callable_of Try.func9 (by kernel_rfl) rfl
instance : Callable Try.prog 10 := callable_of Try.func10 (by kernel_rfl) rfl
instance : Callable Try.prog 11 := callable_of Try.func11 (by kernel_rfl) rfl
instance : Callable Try.prog 12 := callable_of Try.func12 (by kernel_rfl) rfl
instance : Callable Try.prog 13 := callable_of Try.func13 (by kernel_rfl) rfl
instance : Callable Try.prog 14 := callable_of Try.func14 (by kernel_rfl) rfl
instance : Callable Try.prog 15 := callable_of Try.func15 (by kernel_rfl) rfl
instance : Callable Try.prog 16 := callable_of Try.func16 (by kernel_rfl) rfl
instance : Callable Try.prog 17 := callable_of Try.func17 (by kernel_rfl) rfl
instance : Callable Try.prog 18 := callable_of Try.func18 (by kernel_rfl) rfl
instance : Callable Try.prog 19 := callable_of Try.func19 (by kernel_rfl) rfl
instance : Callable Try.prog 20 := callable_of Try.func20 (by kernel_rfl) rfl
instance : Callable Try.prog 21 := callable_of Try.func21 (by kernel_rfl) rfl
instance : Callable Try.prog 22 := callable_of Try.func22 (by kernel_rfl) rfl
instance : Callable Try.prog 23 := callable_of Try.func23 (by kernel_rfl) rfl
instance : Callable Try.prog 24 := callable_of Try.func24 (by kernel_rfl) rfl
instance : Callable Try.prog 25 := callable_of Try.func25 (by kernel_rfl) rfl
instance : Callable Try.prog 26 := callable_of Try.func26 (by kernel_rfl) rfl
instance : Callable Try.prog 27 := callable_of Try.func27 (by kernel_rfl) rfl
instance : Callable Try.prog 28 := callable_of Try.func28 (by kernel_rfl) rfl
instance : Callable Try.prog 29 := callable_of Try.func29 (by kernel_rfl) rfl
instance : Callable Try.prog 30 := callable_of Try.func30 (by kernel_rfl) rfl
instance : Callable Try.prog 31 := callable_of Try.func31 (by kernel_rfl) rfl
instance : Callable Try.prog 32 := callable_of Try.func32 (by kernel_rfl) rfl
instance : Callable Try.prog 33 := callable_of Try.func33 (by kernel_rfl) rfl
instance : Callable Try.prog 34 := callable_of Try.func34 (by kernel_rfl) rfl
instance : Callable Try.prog 35 := callable_of Try.func35 (by kernel_rfl) rfl
instance : Callable Try.prog 36 := callable_of Try.func36 (by kernel_rfl) rfl
instance : Callable Try.prog 37 := callable_of Try.func37 (by kernel_rfl) rfl
instance : Callable Try.prog 38 := callable_of Try.func38 (by kernel_rfl) rfl
instance : Callable Try.prog 39 := callable_of Try.func39 (by kernel_rfl) rfl
instance : Callable Try.prog 40 := callable_of Try.func40 (by kernel_rfl) rfl
instance : Callable Try.prog 41 := callable_of Try.func41 (by kernel_rfl) rfl
instance : Callable Try.prog 42 := callable_of Try.func42 (by kernel_rfl) rfl
instance : Callable Try.prog 43 := callable_of Try.func43 (by kernel_rfl) rfl
instance : Callable Try.prog 44 := callable_of Try.func44 (by kernel_rfl) rfl
instance : Callable Try.prog 45 := callable_of Try.func45 (by kernel_rfl) rfl
instance : Callable Try.prog 46 := callable_of Try.func46 (by kernel_rfl) rfl
instance : Callable Try.prog 47 := callable_of Try.func47 (by kernel_rfl) rfl
instance : Callable Try.prog 48 := callable_of Try.func48 (by kernel_rfl) rfl
instance : Callable Try.prog 49 := callable_of Try.func49 (by kernel_rfl) rfl
instance : Callable Try.prog 50 := callable_of Try.func50 (by kernel_rfl) rfl
instance : Callable Try.prog 51 := callable_of Try.func51 (by kernel_rfl) rfl
instance : Callable Try.prog 52 := callable_of Try.func52 (by kernel_rfl) rfl
instance : Callable Try.prog 53 := callable_of Try.func53 (by kernel_rfl) rfl
instance : Callable Try.prog 54 := callable_of Try.func54 (by kernel_rfl) rfl
instance : Callable Try.prog 55 := callable_of Try.func55 (by kernel_rfl) rfl
instance : Callable Try.prog 56 := callable_of Try.func56 (by kernel_rfl) rfl
instance : Callable Try.prog 57 := callable_of Try.func57 (by kernel_rfl) rfl
instance : Callable Try.prog 58 := callable_of Try.func58 (by kernel_rfl) rfl
instance : Callable Try.prog 59 := callable_of Try.func59 (by kernel_rfl) rfl
instance : Callable Try.prog 60 := callable_of Try.func60 (by kernel_rfl) rfl
instance : Callable Try.prog 61 := callable_of Try.func61 (by kernel_rfl) rfl
instance : Callable Try.prog 63 := callable_of Try.func63 (by kernel_rfl) rfl
instance : Callable Try.prog 64 := callable_of Try.func64 (by kernel_rfl) rfl
instance : Callable Try.prog 65 := callable_of Try.func65 (by kernel_rfl) rfl
instance : Callable Try.prog 66 := callable_of Try.func66 (by kernel_rfl) rfl
instance : Callable Try.prog 67 := callable_of Try.func67 (by kernel_rfl) rfl
instance : Callable Try.prog 68 := callable_of Try.func68 (by kernel_rfl) rfl
instance : Callable Try.prog 69 := callable_of Try.func69 (by kernel_rfl) rfl
instance : Callable Try.prog 70 := callable_of Try.func70 (by kernel_rfl) rfl
instance : Callable Try.prog 71 := callable_of Try.func71 (by kernel_rfl) rfl
instance : Callable Try.prog 72 := callable_of Try.func72 (by kernel_rfl) rfl
instance : Callable Try.prog 73 := callable_of Try.func73 (by kernel_rfl) rfl
instance : Callable Try.prog 74 := callable_of Try.func74 (by kernel_rfl) rfl
instance : Callable Try.prog 75 := callable_of Try.func75 (by kernel_rfl) rfl
instance : Callable Try.prog 76 := callable_of Try.func76 (by kernel_rfl) rfl
instance : Callable Try.prog 77 := callable_of Try.func77 (by kernel_rfl) rfl
instance : Callable Try.prog 78 := callable_of Try.func78 (by kernel_rfl) rfl
instance : Callable Try.prog 79 := callable_of Try.func79 (by kernel_rfl) rfl
instance : Callable Try.prog 80 := callable_of Try.func80 (by kernel_rfl) rfl
instance : Callable Try.prog 81 := callable_of Try.func81 (by kernel_rfl) rfl
instance : Callable Try.prog 82 := callable_of Try.func82 (by kernel_rfl) rfl
instance : Callable Try.prog 83 := callable_of Try.func83 (by kernel_rfl) rfl
instance : Callable Try.prog 84 := callable_of Try.func84 (by kernel_rfl) rfl
instance : Callable Try.prog 85 := callable_of Try.func85 (by kernel_rfl) rfl
instance : Callable Try.prog 86 := callable_of Try.func86 (by kernel_rfl) rfl
instance : Callable Try.prog 87 := callable_of Try.func87 (by kernel_rfl) rfl
instance : Callable Try.prog 88 := callable_of Try.func88 (by kernel_rfl) rfl
instance : Callable Try.prog 89 := callable_of Try.func89 (by kernel_rfl) rfl
instance : Callable Try.prog 91 := callable_of Try.func91 (by kernel_rfl) rfl
instance : Callable Try.prog 92 := callable_of Try.func92 (by kernel_rfl) rfl
instance : Callable Try.prog 93 := callable_of Try.func93 (by kernel_rfl) rfl
instance : Callable Try.prog 94 := callable_of Try.func94 (by kernel_rfl) rfl
instance : Callable Try.prog 95 := callable_of Try.func95 (by kernel_rfl) rfl
instance : Callable Try.prog 96 := callable_of Try.func96 (by kernel_rfl) rfl
instance : Callable Try.prog 97 := callable_of Try.func97 (by kernel_rfl) rfl
instance : Callable Try.prog 98 := callable_of Try.func98 (by kernel_rfl) rfl
instance : Callable Try.prog 99 := callable_of Try.func99 (by kernel_rfl) rfl
instance : Callable Try.prog 100 := callable_of Try.func100 (by kernel_rfl) rfl
end Go.Proofs.Ytgflmkhfachlcaa
/-
  slices.Sort and slices.Compact at numbers: the kit's contracts, laid at this program, as contracts of ours.
-/
set_option linter.unusedSimpArgs false
set_option linter.unusedVariables false
namespace Go.Proofs.Ytgflmkhfachlcaa
open Go.Vx Go.ChangeShapes Go.WideShapes Go.ChangeAt Go.RowKit
def laysSort_ren : Go.Shelf.Ren := ⟨fun | 5 => 56 | 7 => 69 | 8 => 70 | 10 => 78 | 11 => 79 | 12 => 80 | 13 => 81 | 14 => 82 | 15 => 83 | 16 => 84 | 17 => 85 | 18 => 86 | 19 => 87 | 20 => 88 | 30 => 92 | 31 => 93 | 32 => 94 | 33 => 95 | 34 => 96 | 35 => 97 | 40 => 99 | n => n, fun | 0 => 0 | 3 => 3 | 4 => 4 | 5 => 5 | 9 => 9 | 22 => 22 | 23 => 22 | 25 => 3 | 32 => 69 | 35 => 122 | 36 => 123 | 41 => 117 | 44 => 130 | 46 => 132 | 53 => 134 | 57 => 138 | 63 => 140 | 64 => 141 | n => n, fun n => n⟩
theorem laysSort : SlLaysM.n5 Try.prog laysSort_ren where
  mixed := by kernel_rfl
  f5 := ⟨"slices.Sort[[]int,int]", by decide, Try.func56.trans (congrArg some (by kernel_rfl))⟩
  f7 := ⟨"slices.pdqsortOrdered[int]", by decide, Try.func69.trans (congrArg some (by kernel_rfl))⟩
  f8 := Try.func70.trans (congrArg some (by kernel_rfl))
  f10 := ⟨"slices.insertionSortOrdered[int]", by decide, Try.func78.trans (congrArg some (by kernel_rfl))⟩
  f11 := ⟨"slices.heapSortOrdered[int]", by decide, Try.func79.trans (congrArg some (by kernel_rfl))⟩
  f12 := ⟨"slices.breakPatternsOrdered[int]", by decide, Try.func80.trans (congrArg some (by kernel_rfl))⟩
  f13 := ⟨"slices.choosePivotOrdered[int]", by decide, Try.func81.trans (congrArg some (by kernel_rfl))⟩
  f14 := ⟨"slices.reverseRangeOrdered[int]", by decide, Try.func82.trans (congrArg some (by kernel_rfl))⟩
  f15 := ⟨"slices.partialInsertionSortOrdered[int]", by decide, Try.func83.trans (congrArg some (by kernel_rfl))⟩
  f16 := ⟨"cmp.Less[int]", by decide, Try.func84.trans (congrArg some (by kernel_rfl))⟩
  f17 := ⟨"slices.partitionEqualOrdered[int]", by decide, Try.func85.trans (congrArg some (by kernel_rfl))⟩
  f18 := ⟨"slices.partitionOrdered[int]", by decide, Try.func86.trans (congrArg some (by kernel_rfl))⟩
  f19 := Try.func87.trans (congrArg some (by kernel_rfl))
  f20 := Try.func88.trans (congrArg some (by kernel_rfl))
  f30 := ⟨"slices.siftDownOrdered[int]", by decide, Try.func92.trans (congrArg some (by kernel_rfl))⟩
  f31 := Try.func93.trans (congrArg some (by kernel_rfl))
  f32 := Try.func94.trans (congrArg some (by kernel_rfl))
  f33 := ⟨"slices.medianAdjacentOrdered[int]", by decide, Try.func95.trans (congrArg some (by kernel_rfl))⟩
  f34 := ⟨"slices.medianOrdered[int]", by decide, Try.func96.trans (congrArg some (by kernel_rfl))⟩
  f35 := ⟨"cmp.isNaN[int]", by decide, Try.func97.trans (congrArg some (by kernel_rfl))⟩
  f40 := ⟨"slices.order2Ordered[int]", by decide, Try.func99.trans (congrArg some (by kernel_rfl))⟩
  t0 := Try.underlying0
  a0 := Try.isAgg0
  z0 := Try.sizeOf0
  v0 := Try.zeroValue0
  t3 := Try.underlying3
  a3 := Try.isAgg3
  z3 := Try.sizeOf3
  v3 := Try.zeroValue3
  t4 := Try.underlying4
  a4 := Try.isAgg4
  z4 := Try.sizeOf4
  v4 := Try.zeroValue4
  t5 := Try.underlying5
  a5 := Try.isAgg5
  z5 := Try.sizeOf5
  v5 := Try.zeroValue5
  t9 := Try.underlying9
  a9 := Try.isAgg9
  z9 := Try.sizeOf9
  v9 := Try.zeroValue9
  t22 := Try.underlying22
  a22 := Try.isAgg22
  z22 := Try.sizeOf22
  v22 := Try.zeroValue22
  t23 := Try.underlying22
  a23 := Try.isAgg22
  z23 := Try.sizeOf22
  v23 := Try.zeroValue22
  t25 := Try.underlying3
  a25 := Try.isAgg3
  z25 := Try.sizeOf3
  v25 := Try.zeroValue3
  t32 := Try.underlying69
  a32 := Try.isAgg69
  z32 := Try.sizeOf69
  v32 := Try.zeroValue69
  t35 := Try.underlying122
  a35 := Try.isAgg122
  z35 := Try.sizeOf122
  v35 := Try.zeroValue122
  t36 := Try.underlying123
  a36 := Try.isAgg123
  z36 := Try.sizeOf123
  v36 := Try.zeroValue123
  t41 := Try.underlying117
  a41 := Try.isAgg117
  z41 := Try.sizeOf117
  v41 := Try.zeroValue117
  t44 := Try.underlying130
  a44 := Try.isAgg130
  z44 := Try.sizeOf130
  v44 := Try.zeroValue130
  t46 := Try.underlying132
  a46 := Try.isAgg132
  z46 := Try.sizeOf132
  v46 := Try.zeroValue132
  t53 := Try.underlying134
  a53 := Try.isAgg134
  z53 := Try.sizeOf134
  v53 := Try.zeroValue134
  t57 := Try.underlying138
  a57 := Try.isAgg138
  z57 := Try.sizeOf138
  v57 := Try.zeroValue138
  t63 := Try.underlying140
  a63 := Try.isAgg140
  z63 := Try.sizeOf140
  v63 := Try.zeroValue140
  t64 := Try.underlying141
  a64 := Try.isAgg141
  z64 := Try.sizeOf141
  v64 := Try.zeroValue141

def laysCompact_ren : Go.Shelf.Ren := ⟨fun | 20 => 52 | n => n, fun | 0 => 0 | 3 => 3 | 4 => 4 | 22 => 22 | n => n, fun n => n⟩
theorem laysCompact : Lays2.n20 Try.prog laysCompact_ren where
  mixed := by kernel_rfl
  f20 := Try.func52.trans (congrArg some (by kernel_rfl))
  t0 := Try.underlying0
  a0 := Try.isAgg0
  z0 := Try.sizeOf0
  v0 := Try.zeroValue0
  t3 := Try.underlying3
  a3 := Try.isAgg3
  z3 := Try.sizeOf3
  v3 := Try.zeroValue3
  t4 := Try.underlying4
  a4 := Try.isAgg4
  z4 := Try.sizeOf4
  v4 := Try.zeroValue4
  t22 := Try.underlying22
  a22 := Try.isAgg22
  z22 := Try.sizeOf22
  v22 := Try.zeroValue22
  i3 := by kernel_rfl

attribute [local semireducible] Con
theorem Con.ofCallsS {P : Program} {f : FuncId} {args : Array Value} {G : GH} {μ : OH} {Φ : Value → GH → OH → Prop} (h : ∀ w, Mem G μ w → Calls P f args w fun e w' => ∃ v, e = .returned v ∧ ∃ G' μ', Step G μ w G' μ' w' ∧ Φ v G' μ') : Con P f args G μ Φ := by
  intro w hw
  exact (h w hw).mono fun e w' hq => by
    obtain ⟨v, rfl, hv⟩ := hq
    exact ⟨v, rfl, hv⟩
/-! ### What the kit's contracts do to the world, in steps of ours -/
section
variable {G : GH} {μ μ' : OH} {w : World} {b : Nat} {e : TypeId}
theorem Step.mapS {vs vs' : List Value} {f : Array Value → Array Value} (hw : Mem G μ w) (hb : Has μ b vs e) (hf : f vs.toArray = vs'.toArray) (hu : Upd b (.cells vs'.toArray e (0, 0)) μ μ') : Step G μ w G μ' (Go.Sort.mapBlock w b f) := by
  have hg := hw.own _ _ hb
  refine Step.upd hw hu rfl rfl rfl (by simp [Go.Sort.mapBlock]) ?_ (fun c hc => ?_)
  · simp only [Go.Sort.mapBlock, Array.getElem?_modify, if_true, hg, Option.map_some, Go.Sort.onCells, hf]
  · simp only [Go.Sort.mapBlock, Array.getElem?_modify]
    rw [if_neg (fun h => hc h.symm)]
theorem Step.grow (h : Mem G μ w) (os : Array Obj) : Step G μ w G μ (Go.Sort.grow w os) := by
  have hold : ∀ c, c < w.heap.size → (Go.Sort.grow w os).heap[c]? = w.heap[c]? := fun c hc => by
    show (w.heap ++ os)[c]? = _
    rw [Array.getElem?_append_left hc]
  refine ⟨⟨fun c o hc => ?_, fun c o hc => ?_, h.nodup, h.apart⟩, GH.le_refl _, rfl, rfl, rfl, ?_, fun c hc _ => hold c hc, fun c o hc => .inl ⟨o, hc⟩, fun c o hc => .inl ⟨o, hc⟩⟩
  · rw [hold c (lt_of_heap (h.g c o hc))]; exact h.g c o hc
  · rw [hold c (lt_of_heap (h.own c o hc))]; exact h.own c o hc
  · show w.heap.size ≤ (w.heap ++ os).size
    simp
end
theorem holds_own {G : GH} {μ : OH} {w : World} {b : Nat} {e : TypeId} {zs : List Int} {spare : List Value} (hw : Mem G μ w) (hb : Has μ b (zs.map (Value.int .i64 ·) ++ spare) e) : Go.Sort.Holds (Value.int .i64) w b 0 zs.toArray := by
  intro j hj
  have hj' : j < zs.length := by simpa using hj
  refine ⟨?_, ?_⟩
  · rw [Nat.zero_add]
    refine Cell.own hb ?_ w hw.sees
    rw [List.getElem?_append_left (by simpa using hj'), List.getElem?_map, List.getElem?_eq_getElem hj']
    simp [hj']
  · have := hw.own _ _ hb
    simp [World.frozen?, this]
theorem putCells_own {zs ys : List Int} {spare : List Value} (h : ys.length = zs.length) : Go.Sort.putCells (Value.int .i64) 0 ys.toArray (zs.map (Value.int .i64 ·) ++ spare).toArray = (ys.map (Value.int .i64 ·) ++ spare).toArray := by
  apply Array.ext_getElem?
  intro k
  simp only [Go.Sort.putCells, Array.getElem?_mapIdx, List.getElem?_toArray, List.size_toArray, Nat.zero_le, true_and, Nat.zero_add, Nat.sub_zero]
  by_cases hk : k < ys.length
  · rw [List.getElem?_append_left (by simp; omega), List.getElem?_append_left (by simpa using hk)]
    simp [hk, h ▸ hk]
  · rw [List.getElem?_append_right (by simp; omega), List.getElem?_append_right (by simp; omega)]
    have hk2 : ¬ k < zs.length := by omega
    simp only [List.length_map, h]
    cases spare[k - zs.length]? with
    | none => rfl
    | some v => simp only [Option.map_some, hk2, if_false]
def sortL (l : List Int) : List Int := l.mergeSort fun x y => decide (x ≤ y)
theorem sortL_perm (l : List Int) : (sortL l).Perm l := List.mergeSort_perm _ _
theorem sortL_le (l : List Int) : (sortL l).Pairwise (· ≤ ·) := by
  have := List.pairwise_mergeSort (le := fun (x y : Int) => decide (x ≤ y)) (fun a b c h1 h2 => by simp only [decide_eq_true_eq] at *; omega) (fun a b => by simp only [Bool.or_eq_true, decide_eq_true_eq]; omega) l
  exact this.imp fun h => by simpa using h
theorem sort_s {G : GH} {zs : List Int} {b cap : Nat} {e : TypeId} {spare : List Value} (hsz : zs.length < 4611686018427387904) :
    Con Try.prog 56 #[.slice (some ⟨b, 0, none⟩) zs.length cap] G [(b, .cells (zs.map (Value.int .i64 ·) ++ spare).toArray e (0, 0))]
      (fun r G' μ' => r = .tuple #[] ∧ G' = G ∧ μ' = [(b, .cells ((sortL zs).map (Value.int .i64 ·) ++ spare).toArray e (0, 0))]) := by
  refine Con.ofCallsS fun w hw => ?_
  have hb : Has [(b, Obj.cells (zs.map (Value.int .i64 ·) ++ spare).toArray e (0, 0))] b (zs.map (Value.int .i64 ·) ++ spare) e := List.mem_cons_self
  refine (AnyM.slices_Sort_int laysSort b 0 cap zs w (holds_own hw hb) (lt_of_heap (hw.own _ _ hb)) hsz).mono ?_
  rintro _ w' ⟨rfl, n, os, rfl⟩
  have s1 := Step.drew hw n
  have s2 := Step.mapS (f := Go.Sort.putCells (Value.int .i64) 0 (sortL zs).toArray) s1.mem hb (putCells_own (sortL_perm zs).length_eq) (.here _ _)
  exact ⟨_, rfl, G, _, (s1.trans s2).trans (Step.grow s2.mem os), rfl, rfl, rfl⟩
theorem sort0_s {G : GH} {p : Option Addr} {cap : Nat} : Con Try.prog 56 #[.slice p 0 cap] G [] (Just (.tuple #[]) G) := by
  refine Con.ofCallsS fun w hw => ?_
  refine (AnyM.slices_Sort_int_none laysSort p cap w).mono ?_
  rintro _ w' ⟨rfl, rfl⟩
  exact ⟨_, rfl, G, [], Step.refl hw, rfl, rfl, rfl⟩
theorem compact_len (zs : List Int) : (Lib.compact zs).length ≤ zs.length := by
  unfold Lib.compact Lib.compactUpTo
  rw [List.length_map]
  exact Nat.le_trans (List.length_filter_le _ _) (by simp)
theorem compact_s {G : GH} {zs : List Int} {b cap : Nat} {e : TypeId} {spare : List Value} (hsz : zs.length ≤ 1048576) (hcap : zs.length ≤ cap) :
    Con Try.prog 52 #[.slice (some ⟨b, 0, none⟩) zs.length cap] G [(b, .cells (zs.map (Value.int .i64 ·) ++ spare).toArray e (0, 0))]
      (fun r G' μ' => r = .slice (some ⟨b, 0, none⟩) (Lib.compact zs).length cap ∧ G' = G ∧ ∃ r, μ' = [(b, .cells ((Lib.compact zs).map (Value.int .i64 ·) ++ r).toArray e (0, 0))]) := by
  refine Con.ofCallsS fun w hw => ?_
  have hb : Has [(b, Obj.cells (zs.map (Value.int .i64 ·) ++ spare).toArray e (0, 0))] b (zs.map (Value.int .i64 ·) ++ spare) e := List.mem_cons_self
  refine (Any.slices_Compact_int laysCompact b 0 cap zs w (holds_own hw hb) (by omega) hcap).mono ?_
  rintro _ w' ⟨rfl, q, rfl⟩
  have s1 := Step.drew hw q
  have s2 := Step.mapS (f := Go.Sort.putCells (Value.int .i64) 0 (Lib.compact zs ++ List.replicate (zs.length - (Lib.compact zs).length) 0).toArray) s1.mem hb (putCells_own (by have := compact_len zs; simp; omega)) (.here _ _)
  refine ⟨_, rfl, G, _, s1.trans s2, rfl, rfl, (List.replicate (zs.length - (Lib.compact zs).length) 0).map (Value.int .i64 ·) ++ spare, ?_⟩
  simp
theorem compact0_s {G : GH} {p : Option Addr} {cap : Nat} : Con Try.prog 52 #[.slice p 0 cap] G [] (Just (.slice p 0 cap) G) := by
  refine Con.ofCallsS fun w hw => ?_
  refine (Any.slices_Compact_int_empty laysCompact p cap w).mono ?_
  rintro _ w' ⟨rfl, rfl⟩
  exact ⟨_, rfl, G, [], Step.refl hw, rfl, rfl, rfl⟩
end Go.Proofs.Ytgflmkhfachlcaa
/-
  Majorities, in plain Lean: distinct members, counted in two ways; two majorities have a member in common.
-/
set_option linter.unusedSimpArgs false
set_option linter.unusedVariables false
namespace Go.Proofs.Ytgflmkhfachlcaa
open Go.Vx Go.ChangeShapes Go.WideShapes Go.ChangeAt Go.RowKit
theorem compact_lt {zs : List Int} (hs : zs.Pairwise (· ≤ ·)) : (Lib.compact zs).Pairwise (· < ·) := by
  unfold Lib.compact Lib.compactUpTo
  rw [List.pairwise_map]
  have h0 : ((List.range zs.length).filter (Lib.keeps zs.toArray)).Pairwise (· < ·) := List.Pairwise.filter _ List.pairwise_lt_range
  refine h0.imp_of_mem ?_
  intro i j hi hj hij
  simp only [List.mem_filter, List.mem_range] at hi hj
  obtain ⟨hi1, hi2⟩ := hi
  obtain ⟨hj1, hj2⟩ := hj
  have hd : zs[j - 1]'(by omega) ≠ zs[j] := by
    unfold Lib.keeps at hj2
    rw [decide_eq_true_iff] at hj2
    have e1 : zs.toArray[j]! = zs[j] := by simp [hj1]
    have e2 : zs.toArray[j - 1]! = zs[j - 1]'(by omega) := by simp [show j - 1 < zs.length by omega]
    rw [e1, e2] at hj2
    rcases hj2 with h | h
    · omega
    · exact fun e => h e.symm
  have hle : ∀ (a b : Nat) (hb : b < zs.length) (hab : a ≤ b), zs[a]'(by omega) ≤ zs[b] := fun a b hb hab => by
    by_cases e : a = b
    · subst e; exact Int.le_refl _
    · exact List.pairwise_iff_getElem.1 hs a b (by omega) hb (by omega)
  have h1 := hle i (j - 1) (by omega) (by omega)
  have h2 := hle (j - 1) j hj1 (by omega)
  have e1 : zs.toArray[i]! = zs[i] := by simp [hi1]
  have e2 : zs.toArray[j]! = zs[j] := by simp [hj1]
  rw [e1, e2]
  omega
theorem compact_mem {zs : List Int} {x : Int} : x ∈ Lib.compact zs ↔ x ∈ zs := by
  unfold Lib.compact Lib.compactUpTo
  rw [List.mem_map]
  constructor
  · rintro ⟨i, hi, rfl⟩
    simp only [List.mem_filter, List.mem_range] at hi
    have : zs.toArray[i]! = zs[i]'hi.1 := by simp [hi.1]
    rw [this]
    exact List.getElem_mem _
  · intro hx
    have hex : ∃ i, ∃ h : i < zs.length, zs[i] = x := by
      obtain ⟨i, h, e⟩ := List.getElem_of_mem hx
      exact ⟨i, h, e⟩
    obtain ⟨i, ⟨hi, rfl⟩, hmin⟩ := least hex
    refine ⟨i, ?_, by simp [hi]⟩
    simp only [List.mem_filter, List.mem_range]
    refine ⟨hi, ?_⟩
    unfold Lib.keeps
    rw [decide_eq_true_iff]
    by_cases h0 : i = 0
    · exact .inl h0
    · have hlt : i - 1 < zs.length := by omega
      have e1 : zs.toArray[i]! = zs[i] := by simp [hi]
      have e2 : zs.toArray[i - 1]! = zs[i - 1] := by simp [hlt]
      rw [e1, e2]
      refine .inr fun e => ?_
      have := hmin (i - 1) ⟨hlt, e.symm⟩
      omega
theorem lt_nodup {l : List Int} (h : l.Pairwise (· < ·)) : l.Nodup := h.imp fun h => by omega
/-- Lists without double ones that have the same members. -/
theorem perm_of_mem {l l' : List Int} (h : l.Nodup) (h' : l'.Nodup) (hm : ∀ x, x ∈ l ↔ x ∈ l') : l.Perm l' := by
  rw [List.perm_iff_count]
  intro a
  rw [h.count, h'.count]
  simp only [hm a]
def once (l : List Int) : List Int := Lib.compact (sortL l)
theorem once_lt (l : List Int) : (once l).Pairwise (· < ·) := compact_lt (sortL_le l)
theorem once_mem {l : List Int} {x : Int} : x ∈ once l ↔ x ∈ l := by
  unfold once
  rw [compact_mem]
  exact (sortL_perm l).mem_iff
def majB (l of : List Int) : Bool := decide ((once l).length < 2 * (once l).countP (of.contains ·))
/-- The first ones, up to place k. -/
def firsts (l : List Int) : Nat → List Int
  | 0 => []
  | k + 1 => if h : k < l.length then (if (l.take k).contains l[k] then firsts l k else firsts l k ++ [l[k]]) else firsts l k
theorem firsts_mem {l : List Int} : ∀ {k : Nat}, k ≤ l.length → ∀ x, x ∈ firsts l k ↔ x ∈ l.take k
  | 0, _, x => by simp [firsts]
  | k + 1, hk, x => by
    have ih := firsts_mem (l := l) (k := k) (by omega)
    have hlt : k < l.length := by omega
    rw [firsts, dif_pos hlt, List.take_succ_eq_append_getElem hlt]
    split
    · rename_i h
      rw [ih, List.mem_append, List.mem_singleton]
      constructor
      · exact .inl
      · rintro (h1 | rfl)
        · exact h1
        · simpa using h
    · rw [List.mem_append, List.mem_append, ih]
theorem firsts_nodup {l : List Int} : ∀ {k : Nat}, k ≤ l.length → (firsts l k).Nodup
  | 0, _ => by simp [firsts]
  | k + 1, hk => by
    have ih := firsts_nodup (l := l) (k := k) (by omega)
    have hlt : k < l.length := by omega
    rw [firsts, dif_pos hlt]
    split
    · exact ih
    · rename_i h
      rw [List.nodup_append]
      refine ⟨ih, by simp, fun a ha b hb e => ?_⟩
      rw [List.mem_singleton] at hb
      subst hb e
      exact h (by simpa using (firsts_mem (by omega) _).1 ha)
theorem firsts_once (l : List Int) : (firsts l l.length).Perm (once l) :=
  perm_of_mem (firsts_nodup (Nat.le_refl _)) (lt_nodup (once_lt l)) fun x => by
    rw [firsts_mem (Nat.le_refl _), List.take_length, once_mem]
theorem maj_ref (l of : List Int) : majB l of = decide ((firsts l l.length).length < 2 * (firsts l l.length).countP (of.contains ·)) := by
  unfold majB
  rw [(firsts_once l).length_eq, (firsts_once l).countP_eq]
theorem two_counts (p q : Int → Bool) : ∀ (l : List Int), l.countP p + l.countP q ≤ l.length + l.countP (fun x => p x && q x)
  | [] => by simp
  | x :: l => by
    have ih := two_counts p q l
    rw [List.countP_cons, List.countP_cons, List.countP_cons, List.length_cons]
    cases hp : p x <;> cases hq : q x <;> simp [hp, hq] <;> omega
theorem maj_common {l a b : List Int} (h1 : majB l a = true) (h2 : majB l b = true) : ∃ x ∈ l, a.contains x = true ∧ b.contains x = true := by
  unfold majB at h1 h2
  rw [decide_eq_true_iff] at h1 h2
  have := two_counts (a.contains ·) (b.contains ·) (once l)
  have hpos : 0 < (once l).countP (fun x => a.contains x && b.contains x) := by omega
  obtain ⟨x, hx, hp⟩ := List.countP_pos_iff.1 hpos
  rw [Bool.and_eq_true] at hp
  exact ⟨x, once_mem.1 hx, hp⟩
/-- More of them never make it less. -/
theorem maj_mono {l a b : List Int} (h : ∀ x ∈ l, x ∈ a → x ∈ b) (h1 : majB l a = true) : majB l b = true := by
  unfold majB at *
  rw [decide_eq_true_iff] at *
  refine Nat.lt_of_lt_of_le h1 (Nat.mul_le_mul_left _ (List.countP_mono_left fun x hx hp => ?_))
  simp only [List.contains_eq_mem, decide_eq_true_eq] at *
  exact h x (once_mem.1 hx) hp
end Go.Proofs.Ytgflmkhfachlcaa
/-
  tally (layer 34), in plain Lean: votes as bits, by indexes, and as a list.
-/
set_option linter.unusedSimpArgs false
set_option linter.unusedVariables false
namespace Go.Proofs.Ytgflmkhfachlcaa
open Go.Vx Go.ChangeShapes Go.WideShapes Go.ChangeAt Go.RowKit
/-- Votes, by indexes. -/
abbrev Vs := List (Int × Nat)
def vl (V : Vs) : List (Int × Value) := V.map fun x => (x.1, uv x.2)
def nget (V : Vs) (i : Int) : Nat := ((V.find? fun x => decide (x.1 = i)).map (·.2)).getD 0
def nput (V : Vs) (i : Int) (x : Nat) : Vs := if i ∈ V.map (·.1) then V.map (fun y => if y.1 = i then (i, x) else y) else V ++ [(i, x)]
def ndrop (V : Vs) (i : Int) : Vs := V.filter fun x => decide (¬ x.1 ≤ i)
theorem vl_keys (V : Vs) : (vl V).map (·.1) = V.map (·.1) := by simp [vl, Function.comp_def]
theorem mget_vl (V : Vs) (i : Int) : mget (vl V) i = (V.find? fun x => decide (x.1 = i)).map fun x => uv x.2 := by
  unfold mget vl
  rw [List.find?_map, Option.map_map]
  rfl
theorem get_vl (V : Vs) (i : Int) : (mget (vl V) i).getD (uv 0) = uv (nget V i) := by
  rw [mget_vl]
  unfold nget
  cases V.find? fun x => decide (x.1 = i) <;> rfl
theorem vl_put (V : Vs) (i : Int) (x : Nat) : mput (vl V) i (uv x) = vl (nput V i x) := by
  unfold mput nput
  rw [vl_keys]
  split
  · unfold vl
    rw [List.map_map, List.map_map]
    apply List.map_congr_left
    intro y hy
    simp only [Function.comp]
    split <;> rfl
  · simp [vl]
theorem nget_no {V : Vs} {i : Int} (h : i ∉ V.map (·.1)) : nget V i = 0 := by
  unfold nget
  rw [List.find?_eq_none.2 fun x hx => by
    rw [decide_eq_true_iff]
    exact fun e => h (List.mem_map.2 ⟨x, hx, e⟩)]
  rfl
theorem nget_put {V : Vs} {i j : Int} {x : Nat} : nget (nput V i x) j = if j = i then x else nget V j := by
  have h := mget_put (l := vl V) (k := i) (k' := j) (v := uv x)
  rw [vl_put, mget_vl, mget_vl] at h
  unfold nget
  by_cases hj : j = i
  · rw [if_pos hj] at h ⊢
    cases hf : (nput V i x).find? fun x => decide (x.1 = j) with
    | none => rw [hf] at h; cases h
    | some y =>
      rw [hf] at h
      simp only [Option.map_some, Option.some.injEq, Value.int.injEq, true_and] at h
      simp only [Option.map_some, Option.getD_some]
      omega
  · rw [if_neg hj] at h ⊢
    cases hf : (nput V i x).find? fun x => decide (x.1 = j) with
    | none =>
      rw [hf] at h
      cases hg : V.find? fun x => decide (x.1 = j) with
      | none => rfl
      | some z => rw [hg] at h; cases h
    | some y =>
      rw [hf] at h
      cases hg : V.find? fun x => decide (x.1 = j) with
      | none => rw [hg] at h; cases h
      | some z =>
        rw [hg] at h
        simp only [Option.map_some, Option.some.injEq, Value.int.injEq, true_and] at h
        simp only [Option.map_some, Option.getD_some]
        omega
theorem nput_keys {V : Vs} {i j : Int} {x : Nat} : j ∈ (nput V i x).map (·.1) ↔ j = i ∨ j ∈ V.map (·.1) := by
  unfold nput
  split
  · rename_i h
    rw [List.map_map]
    have e : V.map ((fun y => y.1) ∘ fun y => if y.1 = i then (i, x) else y) = V.map (·.1) := by
      apply List.map_congr_left
      intro y hy
      simp only [Function.comp]
      split
      · rename_i h; exact h.symm
      · rfl
    rw [e]
    constructor
    · exact .inr
    · rintro (rfl | h')
      · exact h
      · exact h'
  · simp only [List.map_append, List.map_cons, List.map_nil, List.mem_append, List.mem_singleton]
    exact or_comm
theorem ndrop_keys {V : Vs} {i j : Int} : j ∈ (ndrop V i).map (·.1) ↔ j ∈ V.map (·.1) ∧ ¬ j ≤ i := by
  unfold ndrop
  simp only [List.mem_map, List.mem_filter, decide_eq_true_eq]
  constructor
  · rintro ⟨x, ⟨h1, h2⟩, rfl⟩
    exact ⟨⟨x, h1, rfl⟩, h2⟩
  · rintro ⟨⟨x, h1, rfl⟩, h2⟩
    exact ⟨x, ⟨h1, h2⟩, rfl⟩
theorem nget_drop {V : Vs} {i j : Int} (h : ¬ j ≤ i) : nget (ndrop V i) j = nget V j := by
  unfold nget ndrop
  rw [List.find?_filter]
  congr 3
  funext x
  by_cases hx : x.1 = j
  · simp [hx, h]
  · simp [hx]
/-- A vote. -/
structure Vt where
  r : Int
  n : Int
  index : Int
  node : Int
  drop : Bool
def hasV (got : List Vt) (i nd : Int) : Prop := ∃ g ∈ got, g.index = i ∧ g.node = nd
instance (got : List Vt) (i nd : Int) : Decidable (hasV got i nd) := by unfold hasV; infer_instance
def countsP (r n : Int) (got : List Vt) (low : Int) (v : Vt) : Prop := (v.r = r ∧ v.n = n) ∧ 1 ≤ v.index ∧ v.index ≤ 4294967296 ∧ low < v.index ∧ 1 ≤ v.node ∧ v.node ≤ 9 ∧ ¬ hasV got v.index v.node
instance (r n : Int) (got : List Vt) (low : Int) (v : Vt) : Decidable (countsP r n got low v) := by unfold countsP; infer_instance
/-- What the bits and the list have in common. -/
structure TInv (got : List Vt) (low : Int) (V : Vs) : Prop where
  keys : (V.map (·.1)).Nodup
  bit : ∀ i, low < i → ∀ nd : Nat, (nget V i).testBit nd = true ↔ hasV got i nd
  low : ∀ i ∈ V.map (·.1), low < i
  pos : ∀ i ∈ V.map (·.1), nget V i ≠ 0
  small : ∀ i, nget V i < 1024
  node : ∀ g ∈ got, 1 ≤ g.node ∧ g.node ≤ 9
theorem TInv.zero : TInv [] 0 [] := ⟨by simp, fun i _ nd => by simp [nget, hasV], by simp, by simp, fun i => by simp [nget], by simp⟩
theorem nodup_put {V : Vs} {i : Int} {x : Nat} (h : (V.map (·.1)).Nodup) : ((nput V i x).map (·.1)).Nodup := by
  unfold nput
  split
  · rw [List.map_map]
    have e : V.map ((fun y => y.1) ∘ fun y => if y.1 = i then (i, x) else y) = V.map (·.1) := by
      apply List.map_congr_left
      intro y hy
      simp only [Function.comp]
      split
      · rename_i h; exact h.symm
      · rfl
    rw [e]
    exact h
  · rename_i hn
    rw [List.map_append, List.nodup_append]
    refine ⟨h, by simp, fun a ha b hb e => ?_⟩
    simp only [List.map_cons, List.map_nil, List.mem_singleton] at hb
    subst hb e
    exact hn ha
theorem or_bit {x nd m : Nat} : (x ||| 2 ^ nd).testBit m = true ↔ x.testBit m = true ∨ m = nd := by
  rw [Nat.testBit_or, Bool.or_eq_true, Nat.testBit_two_pow]
  simp only [decide_eq_true_eq]
  exact ⟨fun h => h.imp id Eq.symm, fun h => h.imp id Eq.symm⟩
theorem TInv.vote {got : List Vt} {low : Int} {V : Vs} (h : TInv got low V) {v : Vt} {nd : Nat} (hi : low < v.index) (hnd : v.node = nd) (h1 : 1 ≤ nd ∧ nd ≤ 9) : TInv (got ++ [v]) low (nput V v.index (nget V v.index ||| 2 ^ nd)) := by
  refine ⟨nodup_put h.keys, fun i hl m => ?_, fun i hm => ?_, fun i hm => ?_, fun i => ?_, fun g hg => ?_⟩
  · rw [nget_put]
    have hb := h.bit i hl m
    have hh : hasV (got ++ [v]) i m ↔ hasV got i m ∨ (v.index = i ∧ v.node = m) := by
      unfold hasV
      simp only [List.mem_append, List.mem_singleton]
      constructor
      · rintro ⟨g, hg | rfl, h2⟩
        · exact .inl ⟨g, hg, h2⟩
        · exact .inr h2
      · rintro (⟨g, hg, h2⟩ | h2)
        · exact ⟨g, .inl hg, h2⟩
        · exact ⟨v, .inr rfl, h2⟩
    rw [hh]
    by_cases he : i = v.index
    · subst he
      rw [if_pos rfl, or_bit, hb]
      constructor
      · rintro (h2 | rfl)
        · exact .inl h2
        · exact .inr ⟨rfl, hnd⟩
      · rintro (h2 | ⟨_, h2⟩)
        · exact .inl h2
        · exact .inr (by omega)
    · rw [if_neg he, hb]
      constructor
      · exact .inl
      · rintro (h2 | ⟨h2, _⟩)
        · exact h2
        · exact absurd h2.symm he
  · rcases nput_keys.1 hm with rfl | hm
    · exact hi
    · exact h.low i hm
  · rw [nget_put]
    split
    · intro e
      have : (nget V v.index ||| 2 ^ nd).testBit nd = true := or_bit.2 (.inr rfl)
      rw [e] at this
      simp at this
    · rename_i hne
      rcases nput_keys.1 hm with rfl | hm
      · exact absurd rfl hne
      · exact h.pos i hm
  · rw [nget_put]
    split
    · exact Nat.or_lt_two_pow (n := 10) (h.small _) (Nat.pow_lt_pow_right (by omega) (by omega))
    · exact h.small i
  · rcases List.mem_append.1 hg with hg | hg
    · exact h.node g hg
    · rw [List.mem_singleton] at hg
      subst hg
      omega
theorem TInv.drop {got : List Vt} {low : Int} {V : Vs} (h : TInv got low V) (i : Int) : TInv got (max low i) (ndrop V i) := by
  refine ⟨?_, fun j hl m => ?_, fun j hm => ?_, fun j hm => ?_, fun j => ?_, h.node⟩
  · exact h.keys.sublist (List.Sublist.map _ (List.filter_sublist))
  · rw [nget_drop (by omega)]
    exact h.bit j (by omega) m
  · have := ndrop_keys.1 hm
    have := h.low j this.1
    omega
  · obtain ⟨h1, h2⟩ := ndrop_keys.1 hm
    rw [nget_drop h2]
    exact h.pos j h1
  · by_cases hj : j ≤ i
    · rw [nget_no fun hm => (ndrop_keys.1 hm).2 hj]
      omega
    · rw [nget_drop hj]
      exact h.small j
/-- Who voted at an index. -/
def nodesB (x : Nat) : List Int := ((List.range 10).filter fun (n : Nat) => x.testBit n).map fun (n : Nat) => (n : Int)
theorem nodesB_mem {x : Nat} {m : Int} : m ∈ nodesB x ↔ ∃ n : Nat, m = n ∧ n < 10 ∧ x.testBit n = true := by
  unfold nodesB
  simp only [List.mem_map, List.mem_filter, List.mem_range]
  constructor
  · rintro ⟨n, ⟨h1, h2⟩, rfl⟩
    exact ⟨n, rfl, h1, h2⟩
  · rintro ⟨n, rfl, h1, h2⟩
    exact ⟨n, ⟨h1, h2⟩, rfl⟩
end Go.Proofs.Ytgflmkhfachlcaa
/-
  The library's iterators at numbers: slices.Values; slices.AppendSeq, slices.Collect over whatever iterator.
-/
set_option linter.unusedSimpArgs false
set_option linter.unusedVariables false
namespace Go.Proofs.Ytgflmkhfachlcaa
open Go.Vx Go.ChangeShapes Go.WideShapes Go.ChangeAt Go.RowKit
theorem values_s {G : GH} {A : Option Addr} {n c : Nat} : Con Try.prog 53 #[.slice A n c] G []
    (fun r G' μ' => ∃ b, r = .func (.func 66) #[] #[.pointer (some ⟨b, 0, none⟩)] ∧ G' = G ∧ μ' = [(b, .cells [.slice A n c].toArray 22 (0, 0))]) := by
  (refine v_enter Try.func53 rfl Try.ntmps53 rfl ?_; intro B _)
  repeat' (first | apply v_seq | apply v_region | apply v_nil | (apply v_pure; (case hop => first | (apply p_assign <;> rfl) | (apply p_makeFunc <;> rfl)); (case hd => rfl)) | (apply v_box; (case hx => rfl); (case hz => rfl); (case hd => rfl); intro b) | fail)
  refine v_ret [(b, _)] (outsA1 rfl rfl) (by repeat (first | exact List.Sublist.refl _ | fail)) ?_
  exact ⟨b, rfl, rfl, rfl⟩
theorem vals_seq {G : GH} {l : List Int} {A : Option Addr} {n c b : Nat} (hs : Sl G 1 (IntR .i64) (.slice A n c) l) (hl : l.length ≤ 1048576) : SeqCon Try.prog 66 [.pointer (some ⟨b, 0, none⟩)] keyI (fun xs => xs = l) l.length G [(b, .cells [.slice A n c].toArray 22 (0, 0))] := by
  intro lp J G1 ν hle hJ0 hY
  obtain ⟨A', c', e0, hlc, hcm, hsome, hel, -⟩ := (hs.mono hle).openInt
  cases e0
  simp only [maxLen] at hcm
  (refine v_enter Try.func66 rfl Try.ntmps66 rfl ?_; intro B _)
  repeat' (first | apply v_seq | apply v_region | apply v_nil | apply v_block | (apply v_pure; (case hop => first | (apply p_move <;> rfl) | (apply p_lenSlice <;> rfl) | fail); (case hd => rfl)) | (apply v_read; (case hop => first | (apply r_load1; rfl; (apply Cell.own; (case h => (repeat (first | exact List.Mem.head _ | fail))); rfl)) | fail); (case hd => rfl)) | fail)
  refine v_loopI (ι := Nat) [7, 5, 6, 0] (fun k vs G' μ' => GH.le G1 G' ∧ ∃ ν', k ≤ l.length ∧ vs = [Value.int .i64 (k : Nat), .slice A l.length c, .int .i64 (l.length : Nat), .func (.yield lp) #[] #[]] ∧ J (l.take k) G' ν' ∧ μ' = (b, .cells [.slice A l.length c].toArray 22 (0, 0)) :: ν') (fun k => l.length - k) rfl 0 ⟨GH.le_refl _, ν, by omega, rfl, hJ0, rfl⟩ ?_
  rintro k vs G' _ ⟨hle', ν', hk, rfl, hJ, rfl⟩
  by_cases hlt : k < l.length
  · have e1 : ((k : Nat) : Int).toNat = k := by omega
    have hc := GH.cell_le hle' (hel k hlt)
    have hA := hsome (by omega)
    have hy := hY (l.take k) l[k] G' ν' hle' hJ (by rw [List.length_take]; omega)
    rw [← List.take_succ_eq_append_getElem hlt] at hy
    generalize l[k] = x at *
    repeat' (first | apply v_seq | apply v_region | apply v_nil | apply v_skip | apply v_block | apply v_blk | (apply v_pure; (case hop => first | (apply p_move <;> rfl) | (apply p_lt <;> rfl) | (apply p_assign <;> rfl) | (apply p_not <;> rfl) | (apply p_add; (case hx => rfl); (case hy => rfl); (case h => omega)) | (apply p_indexAddrS; (case hx => rfl); (case hi => rfl); (case h0 => omega); (case h => omega); (case hA => first | assumption | fail)) | fail); (case hd => rfl)) | (apply v_condF; (case hc => rfl)) | (apply v_cond; (case hc => rfl); all_goals (intro h; (try simp only [reduceCtorEq, dec_true, dec_false, decide_eq_true_eq, decide_eq_false_iff_not, Bool.not_eq_true', Bool.not_eq_false', Option.isNone_iff_eq_none, beq_true, beq_false, beq_iff_eq, beq_eq_false_iff_ne, ne_eq, decide_eq_decide, Bool.not_eq_true, Bool.not_eq_false, Decidable.not_not] at h); first | (exfalso; omega) | skip)) | (apply v_read; (case hop => first | (apply r_load1; rfl; exact Cell.frozen hc)); (case hd => rfl)) | (apply v_yield (hs := hy); (case hx => rfl); (case ha => rfl); (case hp => exact (List.perm_append_comm (l₁ := [(b, Obj.cells [Value.slice A l.length c].toArray 22 (0, 0))]) (l₂ := ν'))); (case hd => rfl); rintro _ G2 ν2 hle2 ⟨rfl, hJ2⟩) | fail)
    refine v_perm List.perm_append_comm ?_
    refine v_againI (k + 1) rfl ⟨GH.le_trans hle' hle2, ν2, by omega, rfl, hJ2, rfl⟩ (by omega)
  · repeat' (first | apply v_seq | apply v_region | apply v_nil | (apply v_exit; (case hp => rfl)) | (apply v_pure; (case hop => first | (apply p_lt <;> rfl) | fail); (case hd => rfl)) | (apply v_cond; (case hc => rfl); all_goals (intro h; (try simp only [reduceCtorEq, dec_true, dec_false, decide_eq_true_eq, decide_eq_false_iff_not, Bool.not_eq_true', Bool.not_eq_false', Option.isNone_iff_eq_none, beq_true, beq_false, beq_iff_eq, beq_eq_false_iff_ne, ne_eq, decide_eq_decide, Bool.not_eq_true, Bool.not_eq_false, Decidable.not_not] at h); first | (exfalso; omega) | skip)) | fail)
    refine v_end _ (outsA0 rfl) (List.Sublist.refl _) ?_
    rw [List.take_of_length_le (by omega)] at hJ
    exact ⟨l, ν', rfl, hJ, rfl⟩
theorem appendSeq_s {G : GH} {gf : FuncId} [Callable Try.prog gf] {lb : List Value} {S : List Int → Prop} {N : Nat} {μ1 : OH} (hN : N ≤ 1048576) (hseq : SeqCon Try.prog gf lb keyI S N G μ1) :
    Con Try.prog 68 #[.slice none 0 0, .func (.func gf) #[] lb.toArray] G μ1 (fun r G' μ' => G' = G ∧ ∃ xs ν, S xs ∧ Grow 3 1 r xs.length (xs.map (Value.int .i64 ·)) ν ∧ μ' = ν ++ μ1) := by
  (refine v_enter Try.func68 rfl Try.ntmps68 rfl ?_; intro B _)
  repeat' (first | apply v_seq | apply v_region | apply v_nil | apply v_block | (apply v_pure; (case hop => first | (apply p_move <;> rfl) | (apply p_assign <;> rfl)); (case hd => rfl)) | (apply v_box; (case hx => rfl); (case hz => rfl); (case hd => rfl); intro b) | fail)
  refine v_rangeFunc (enc := keyI) (N := N) (S := S) (μ1 := μ1) (μ2 := [(b, .cells [.slice none 0 0].toArray 22 (0, 0))]) (σ' := fun x => _) (fun pre G' ν => G' = G ∧ ∃ v ν1, Grow 3 1 v pre.length (pre.map (Value.int .i64 ·)) ν1 ∧ ν = ν1 ++ [(b, .cells [v].toArray 22 (0, 0))]) rfl hseq ?_ rfl (fun x => Assigns.region (.cons (p_assign rfl) rfl (.nil _))) rfl ⟨rfl, _, [], Grow.nil _ _, rfl⟩ ?_ ?_
  · exact (List.perm_append_comm (l₁ := [(b, Obj.cells [Value.slice none 0 0].toArray 22 (0, 0))]) (l₂ := μ1))
  · rintro l B' _ pre x G2 _ hle ⟨rfl, v, ν1, hg, rfl⟩ hlen
    have hpl : pre.length ≤ 1048576 := by omega
    repeat' (first | apply v_region | apply v_nil | apply v_block | apply v_blk | (apply v_pure; (case hop => first | (apply p_move <;> rfl) | fail); (case hd => rfl)) | (apply v_append (hg := hg) (m' := 1) (us := [keyI x]) (hp := PickA.perm (by repeat (first | exact PickA.here _ | apply PickA.cons | fail))) (hsrc := Src.own (e := 3) (by repeat (first | exact List.Mem.head _ | fail)) rfl); (case hzs => rfl); (case hsz => omega); (case hs => rfl); (case hx => rfl); (case hb => omega); (case hb' => simp only [maxLen]; omega); (case hd => rfl); (case h1 => rfl); intro v3 n3 hg3; obtain ⟨A3, c3, rfl, -, -⟩ := hg3.shape) | (apply v_read; (case hop => first | (apply r_load1; rfl; (apply Cell.own; (case h => (repeat (first | exact List.Mem.head _ | apply List.mem_append_right))); rfl)) | fail); (case hd => rfl)) | (apply v_buildSlice; (case hz => rfl); (case hi => rfl); (case hv => (simp only [List.map_cons, List.map_nil]; repeat (first | with_reducible exact evs_nil | (apply evs_cons; (case h1 => rfl))))); (case hp => (first | (apply pk_cons; (case hc => rfl); (case hs => rfl); (case h => (first | with_reducible exact pk_nil | fail)); (case he => (first | ((repeat (first | with_reducible exact ap_nil | apply ap_cons)); done) | fail))) | fail)); (case hb => rfl); (case hd => rfl); intro b) | (apply v_store; (case hp => rfl); (case hx => rfl); (case hc => rfl); (case hsz => rfl); (case h1 => rfl); (case hb => (repeat (first | exact List.Mem.head _ | apply List.Mem.tail | apply List.mem_append_right))); (case hfit => first | exact Nat.le_of_ble_eq_true rfl | fail); (case hov => (first | ((repeat (first | with_reducible exact ov_nil | apply ov_cons | fail)); done) | fail)); (case hu => repeat (first | exact Upd.here _ _ | apply Upd.there | apply Upd.app))) | fail)
    refine v_endR (n3 ++ [_]) (List.Sublist.append_left (by repeat (first | exact List.Sublist.refl _ | apply List.Sublist.cons | fail)) _) ⟨rfl, rfl, _, n3, by simpa using hg3, rfl⟩
  · rintro B' D _ xs G2 _ hle hS ⟨rfl, v, ν1, hg, rfl⟩
    repeat' (first | apply v_seq | apply v_region | apply v_nil | apply v_blk | (apply v_pure; (case hop => first | (apply p_assign <;> rfl)); (case hd => rfl)) | (apply v_read; (case hop => first | (apply r_load1; rfl; (apply Cell.own; (case h => (repeat (first | exact List.Mem.head _ | apply List.Mem.tail | apply List.mem_append_right))); rfl)) | fail); (case hd => rfl)) | fail)
    refine v_retD (Ds := [D]) (μ1 := (ν1 ++ μ1) ++ [(b, .cells [v].toArray 22 (0, 0))]) (ν1 ++ μ1) (fun ds a ha w _ => outs1 rfl rfl ds a ha) ?_ (List.sublist_append_left _ _) ⟨rfl, xs, ν1, hS, hg, rfl⟩
    exact (show List.Perm (μ1 ++ (ν1 ++ [(b, Obj.cells [v].toArray 22 (0, 0))])) (ν1 ++ μ1 ++ [(b, Obj.cells [v].toArray 22 (0, 0))]) from (by apply perm_of_count; intro p; simp only [List.countP_append, List.countP_cons, List.countP_nil, Nat.zero_add, Nat.add_zero]; try ac_rfl)).cons _
theorem collect_s {G : GH} {gf : FuncId} [Callable Try.prog gf] {lb : List Value} {S : List Int → Prop} {N : Nat} {μ1 : OH} (hN : N ≤ 1048576) (hseq : SeqCon Try.prog gf lb keyI S N G μ1) :
    Con Try.prog 55 #[.func (.func gf) #[] lb.toArray] G μ1 (fun r G' μ' => G' = G ∧ ∃ xs ν, S xs ∧ Grow 3 1 r xs.length (xs.map (Value.int .i64 ·)) ν ∧ μ' = ν ++ μ1) := by
  have q := appendSeq_s hN hseq
  (refine v_enter Try.func55 rfl Try.ntmps55 rfl ?_; intro B _)
  repeat' (first | apply v_seq | apply v_region | apply v_nil | (apply v_pure; (case hop => first | (apply p_move <;> rfl) | (apply p_assign <;> rfl)); (case hd => rfl)) | fail)
  refine v_call (μ1 := μ1) (μ2 := []) rfl q (by simp) rfl ?_
  rintro r _ _ - ⟨rfl, xs, ν, hS, hg, rfl⟩
  repeat' (first | apply v_nil | (apply v_pure; (case hop => first | (apply p_assign <;> rfl)); (case hd => rfl)) | fail)
  refine v_ret (ν ++ μ1) (outsA1 rfl rfl) (by simp) ⟨rfl, xs, ν, hS, hg, rfl⟩
end Go.Proofs.Ytgflmkhfachlcaa
/-
  conf (layer 11), the first part: what its readers, and the reference's, answer.
-/
set_option linter.unusedSimpArgs false
set_option linter.unusedVariables false
namespace Go.Proofs.Ytgflmkhfachlcaa
open Go.Vx Go.ChangeShapes Go.WideShapes Go.ChangeAt Go.RowKit
/-- A conf: from where on, and its members; in cells. -/
abbrev Co := Int × List Int
def CoR (G : GH) (x : Co) (cs : List Value) : Prop := ∃ mv, cs = [.int .i64 x.1, mv] ∧ (Lit.int .i64 x.1).wf = true ∧ Sl G 1 (IntR .i64) mv x.2
theorem CoR.le {G G' : GH} (h : GH.le G G') {x : Co} {cs : List Value} (hc : CoR G x cs) : CoR G' x cs := let ⟨mv, h1, h2, h3⟩ := hc; ⟨mv, h1, h2, h3.mono h⟩
abbrev Cos (G : GH) (v : Value) (l : List Co) : Prop := Sl G 2 (CoR G) v l
theorem Cos.le {G G' : GH} (h : GH.le G G') {v : Value} {l : List Co} (hc : Cos G v l) : Cos G' v l := Sl.le hc h fun _ _ => CoR.le h
/-! ### Plain readers -/
def inB (l : List Int) (n : Int) : Bool := decide (n ∈ l)
theorem in_s {G : GH} {l : List Int} {sv : Value} (n : Int) (hs : Sl G 1 (IntR .i64) sv l) : Con Try.prog 14 #[sv, .int .i64 n] G [] (Just (.bool (inB l n)) G) := by
  obtain ⟨A, c, rfl, hlc, hcm, hsome, hel, _⟩ := hs.openInt
  simp only [maxLen] at hcm
  (refine v_enter Try.func14 rfl Try.ntmps14 rfl ?_; intro B _)
  repeat' (first | apply v_seq | apply v_region | apply v_nil | apply v_block | (apply v_pure; (case hop => first | (apply p_assign <;> rfl) | fail); (case hd => rfl)) | fail)
  refine v_loop [5, 0, 1] (fun us G' μ' => G' = G ∧ μ' = [] ∧ ∃ k, k ≤ l.length ∧ us = [Value.int .i64 (k : Nat), .slice A l.length c, .int .i64 n] ∧ ∀ i (h : i < l.length), i < k → l[i] ≠ n) (fun us => l.length - (headI us).toNat) rfl ⟨rfl, rfl, 0, by omega, rfl, by omega⟩ ?_
  rintro us G' μ' ⟨rfl, rfl, k, hk, rfl, hno⟩
  repeat' (first | apply v_seq | apply v_region | apply v_nil | apply v_skip | apply v_block | apply v_blk | (apply v_exit; (case hp => rfl)) | (apply v_pure; (case hop => first | (apply p_move <;> rfl) | (apply p_eq <;> rfl) | (apply p_lt <;> rfl) | (apply p_assign <;> rfl) | (apply p_lenSlice <;> rfl) | (apply p_add; (case hx => rfl); (case hy => rfl); (case h => omega)) | (apply p_indexAddrS; (case hx => rfl); (case hi => rfl); (case h0 => omega); (case h => omega); (case hA => first | (apply_assumption; omega))) | fail); (case hd => rfl)) | (apply v_cond; (case hc => rfl); all_goals (intro h; (try simp only [reduceCtorEq, dec_true, dec_false, decide_eq_true_eq, decide_eq_false_iff_not, Bool.not_eq_true', Bool.not_eq_false', Option.isNone_iff_eq_none, beq_true, beq_false, beq_iff_eq, beq_eq_false_iff_ne, ne_eq, decide_eq_decide, Bool.not_eq_true, Bool.not_eq_false, Decidable.not_not] at h); first | skip)) | (apply v_read; (case hop => (apply r_load1; rfl; exact Cell.frozen (hel _ (by omega)))); (case hd => rfl)) | fail)
  · refine v_ret [] (outsA1 rfl rfl) (by repeat (first | exact List.Sublist.refl _ | fail)) ?_
    refine ⟨?_, rfl, rfl⟩
    rw [inB, decide_eq_true (by rename_i h; rw [← h]; exact List.getElem_mem _)]
  · refine v_again rfl ⟨rfl, rfl, k + 1, by omega, rfl, fun i h hi => ?_⟩ (by simp [headI]; omega)
    by_cases hik : i = k
    · subst hik; assumption
    · exact hno i h (by omega)
  · refine v_ret [] (outsA1 rfl rfl) (by repeat (first | exact List.Sublist.refl _ | fail)) ?_
    refine ⟨?_, rfl, rfl⟩
    rw [inB, decide_eq_false]
    intro hm
    obtain ⟨i, hi, he⟩ := List.getElem_of_mem hm
    exact hno i hi (by omega) he
theorem index_s {G : GH} {l : List Int} {sv : Value} (n : Int) (hs : Sl G 1 (IntR .i64) sv l) : Con Try.prog 67 #[sv, .int .i64 n] G [] (fun r G' μ' => G' = G ∧ μ' = [] ∧ ∃ i : Int, r = .int .i64 i ∧ decide (0 ≤ i) = inB l n) := by
  obtain ⟨A, c, rfl, hlc, hcm, hsome, hel, _⟩ := hs.openInt
  simp only [maxLen] at hcm
  (refine v_enter Try.func67 rfl Try.ntmps67 rfl ?_; intro B _)
  repeat' (first | apply v_seq | apply v_region | apply v_nil | apply v_block | (apply v_pure; (case hop => first | (apply p_move <;> rfl) | (apply p_assign <;> rfl) | (apply p_lenSlice <;> rfl) | fail); (case hd => rfl)) | fail)
  refine v_loop [8, 7, 0, 1] (fun us G' μ' => G' = G ∧ μ' = [] ∧ ∃ k, k ≤ l.length ∧ us = [Value.int .i64 (k : Nat), .int .i64 l.length, .slice A l.length c, .int .i64 n] ∧ ∀ i (h : i < l.length), i < k → l[i] ≠ n) (fun us => l.length - (headI us).toNat) rfl ⟨rfl, rfl, 0, by omega, rfl, by omega⟩ ?_
  rintro us G' μ' ⟨rfl, rfl, k, hk, rfl, hno⟩
  repeat' (first | apply v_seq | apply v_region | apply v_nil | apply v_skip | apply v_block | apply v_blk | (apply v_exit; (case hp => rfl)) | (apply v_pure; (case hop => first | (apply p_move <;> rfl) | (apply p_eq <;> rfl) | (apply p_lt <;> rfl) | (apply p_assign <;> rfl) | (apply p_add; (case hx => rfl); (case hy => rfl); (case h => omega)) | (apply p_indexAddrS; (case hx => rfl); (case hi => rfl); (case h0 => omega); (case h => omega); (case hA => first | (apply_assumption; omega))) | fail); (case hd => rfl)) | (apply v_cond; (case hc => rfl); all_goals (intro h; (try simp only [reduceCtorEq, dec_true, dec_false, decide_eq_true_eq, decide_eq_false_iff_not, Bool.not_eq_true', Bool.not_eq_false', Option.isNone_iff_eq_none, beq_true, beq_false, beq_iff_eq, beq_eq_false_iff_ne, ne_eq, decide_eq_decide, Bool.not_eq_true, Bool.not_eq_false, Decidable.not_not] at h); first | skip)) | (apply v_read; (case hop => (apply r_load1; rfl; exact Cell.frozen (hel _ (by omega)))); (case hd => rfl)) | fail)
  · refine v_ret [] (outsA1 rfl rfl) (by repeat (first | exact List.Sublist.refl _ | fail)) ?_
    refine ⟨rfl, rfl, _, rfl, ?_⟩
    rw [inB, decide_eq_true (p := n ∈ l) (by rename_i h; rw [h]; exact List.getElem_mem _), decide_eq_true (by omega)]
  · refine v_again rfl ⟨rfl, rfl, k + 1, by omega, rfl, fun i h hi => ?_⟩ (by simp [headI]; omega)
    by_cases hik : i = k
    · subst hik; exact fun e => ‹¬ n = _› e.symm
    · exact hno i h (by omega)
  · refine v_ret [] (outsA1 rfl rfl) (by repeat (first | exact List.Sublist.refl _ | fail)) ?_
    refine ⟨rfl, rfl, _, rfl, ?_⟩
    rw [inB, decide_eq_false (p := n ∈ l), decide_eq_false (by omega)]
    intro hm
    obtain ⟨i, hi, he⟩ := List.getElem_of_mem hm
    exact hno i hi (by omega) he
theorem contains_s {G : GH} {l : List Int} {sv : Value} (n : Int) (hs : Sl G 1 (IntR .i64) sv l) : Con Try.prog 54 #[sv, .int .i64 n] G [] (Just (.bool (inB l n)) G) := by
  (refine v_enter Try.func54 rfl Try.ntmps54 rfl ?_; intro B _)
  repeat' (first | apply v_seq | apply v_region | apply v_nil | (apply v_pure; (case hop => first | (apply p_move <;> rfl) | (apply p_assign <;> rfl)); (case hd => rfl)) | fail)
  refine v_call (μ1 := []) (μ2 := []) rfl (index_s n hs) (List.Perm.refl _) rfl ?_
  rintro r G' μ1 - ⟨rfl, rfl, i, rfl, hi⟩
  repeat' (first | apply v_nil | (apply v_pure; (case hop => first | (apply p_ge <;> rfl) | (apply p_assign <;> rfl)); (case hd => rfl)) | fail)
  refine v_ret [] (outsA1 rfl rfl) (by repeat (first | exact List.Sublist.refl _ | fail)) ?_
  exact ⟨by rw [dec_eq, hi], rfl, rfl⟩
def intsB (a b : List Int) : Bool := decide (a = b)
theorem ints_s {G : GH} {a b : List Int} {av bv : Value} (ha : Sl G 1 (IntR .i64) av a) (hb : Sl G 1 (IntR .i64) bv b) : Con Try.prog 18 #[av, bv] G [] (Just (.bool (intsB a b)) G) := by
  obtain ⟨A, c, rfl, hlc, hcm, hsome, hel, _⟩ := ha.openInt
  obtain ⟨A', c', rfl, hlc', hcm', hsome', hel', _⟩ := hb.openInt
  simp only [maxLen] at hcm hcm'
  (refine v_enter Try.func18 rfl Try.ntmps18 rfl ?_; intro B _)
  repeat' (first | apply v_seq | apply v_region | apply v_nil | apply v_skip | apply v_block | (apply v_pure; (case hop => first | (apply p_move <;> rfl) | (apply p_ne <;> rfl) | (apply p_assign <;> rfl) | (apply p_lenSlice <;> rfl) | fail); (case hd => rfl)) | (apply v_cond; (case hc => rfl); all_goals (intro h; (try simp only [reduceCtorEq, dec_true, dec_false, decide_eq_true_eq, decide_eq_false_iff_not, Bool.not_eq_true', Bool.not_eq_false', Option.isNone_iff_eq_none, beq_true, beq_false, beq_iff_eq, beq_eq_false_iff_ne, ne_eq, decide_eq_decide, Bool.not_eq_true, Bool.not_eq_false, Decidable.not_not] at h); first | skip)) | fail)
  · refine v_ret [] (outsA1 rfl rfl) (by repeat (first | exact List.Sublist.refl _ | fail)) ?_
    refine ⟨?_, rfl, rfl⟩
    rw [intsB, decide_eq_false]
    intro e
    subst e
    omega
  have hab : a.length = b.length := by omega
  refine v_loop [5, 0, 1] (fun us G' μ' => G' = G ∧ μ' = [] ∧ ∃ k, k ≤ a.length ∧ us = [Value.int .i64 (k : Nat), .slice A a.length c, .slice A' b.length c'] ∧ ∀ i (h : i < a.length) (h' : i < b.length), i < k → a[i] = b[i]) (fun us => a.length - (headI us).toNat) rfl ⟨rfl, rfl, 0, by omega, rfl, by omega⟩ ?_
  rintro us G' μ' ⟨rfl, rfl, k, hk, rfl, hno⟩
  repeat' (first | apply v_seq | apply v_region | apply v_nil | apply v_skip | apply v_block | (apply v_exit; (case hp => rfl)) | (apply v_pure; (case hop => first | (apply p_move <;> rfl) | (apply p_lt <;> rfl) | (apply p_assign <;> rfl) | (apply p_lenSlice <;> rfl) | fail); (case hd => rfl)) | (apply v_cond; (case hc => rfl); all_goals (intro h; (try simp only [reduceCtorEq, dec_true, dec_false, decide_eq_true_eq, decide_eq_false_iff_not, Bool.not_eq_true', Bool.not_eq_false', Option.isNone_iff_eq_none, beq_true, beq_false, beq_iff_eq, beq_eq_false_iff_ne, ne_eq, decide_eq_decide, Bool.not_eq_true, Bool.not_eq_false, Decidable.not_not] at h); first | skip)) | fail)
  · refine d_start [] (by kernel_rfl) (by kernel_rfl) (by kernel_rfl) (by intro e he; first | exact he | fail) ?_
    all_goals (first | (apply d_take 0; (case hi => rfl); (case hop => first | (apply PureOp.read; apply p_move <;> rfl)); (case hf => kernel_rfl); (case hr => kernel_rfl); (case hd => rfl)) | fail)
    all_goals (first | (apply d_take 1; (case hi => rfl); (case hop => first | (apply PureOp.read; apply p_move <;> rfl)); (case hf => kernel_rfl); (case hr => kernel_rfl); (case hd => rfl)) | fail)
    all_goals (first | (apply d_take 2; (case hi => rfl); (case hop => first | (apply PureOp.read; apply p_indexAddrS; (case hx => rfl); (case hi => rfl); (case h0 => omega); (case h => omega); (case hA => first | (apply_assumption; omega)))); (case hf => kernel_rfl); (case hr => kernel_rfl); (case hd => rfl)) | fail)
    all_goals (first | (apply d_take 3; (case hi => rfl); (case hop => first | ((apply r_load1; rfl; exact Cell.frozen (hel _ (by omega)))) | fail); (case hf => kernel_rfl); (case hr => kernel_rfl); (case hd => rfl)) | fail)
    all_goals (first | (apply d_take 4; (case hi => rfl); (case hop => first | (apply PureOp.read; apply p_move <;> rfl)); (case hf => kernel_rfl); (case hr => kernel_rfl); (case hd => rfl)) | fail)
    all_goals (first | (apply d_take 5; (case hi => rfl); (case hop => first | (apply PureOp.read; apply p_move <;> rfl)); (case hf => kernel_rfl); (case hr => kernel_rfl); (case hd => rfl)) | fail)
    all_goals (first | (apply d_take 6; (case hi => rfl); (case hop => first | (apply PureOp.read; apply p_indexAddrS; (case hx => rfl); (case hi => rfl); (case h0 => omega); (case h => omega); (case hA => first | (apply_assumption; omega)))); (case hf => kernel_rfl); (case hr => kernel_rfl); (case hd => rfl)) | fail)
    all_goals (first | (apply d_take 7; (case hi => rfl); (case hop => first | ((apply r_load1; rfl; exact Cell.frozen (hel' _ (by omega)))) | fail); (case hf => kernel_rfl); (case hr => kernel_rfl); (case hd => rfl)) | fail)
    all_goals (first | (apply d_take 8; (case hi => rfl); (case hop => first | (apply PureOp.read; apply p_ne <;> rfl) | fail); (case hf => kernel_rfl); (case hr => kernel_rfl); (case hd => rfl)) | fail)
    all_goals (apply d_done; (case hr => kernel_rfl))
    repeat' (first | apply v_seq | apply v_region | apply v_nil | apply v_skip | apply v_blk | (apply v_pure; (case hop => first | (apply p_move <;> rfl) | (apply p_assign <;> rfl) | (apply p_add; (case hx => rfl); (case hy => rfl); (case h => omega)) | fail); (case hd => rfl)) | (apply v_cond; (case hc => rfl); all_goals (intro h; (try simp only [reduceCtorEq, dec_true, dec_false, decide_eq_true_eq, decide_eq_false_iff_not, Bool.not_eq_true', Bool.not_eq_false', Option.isNone_iff_eq_none, beq_true, beq_false, beq_iff_eq, beq_eq_false_iff_ne, ne_eq, decide_eq_decide, Bool.not_eq_true, Bool.not_eq_false, Decidable.not_not] at h); first | skip)) | fail)
    · refine v_ret [] (outsA1 rfl rfl) (by repeat (first | exact List.Sublist.refl _ | fail)) ?_
      refine ⟨?_, rfl, rfl⟩
      rw [intsB, decide_eq_false]
      intro e
      subst e
      contradiction
    · refine v_again rfl ⟨rfl, rfl, k + 1, by omega, rfl, fun i h h' hi => ?_⟩ (by simp [headI]; omega)
      by_cases hik : i = k
      · subst hik; assumption
      · exact hno i h h' (by omega)
  · refine v_ret [] (outsA1 rfl rfl) (by repeat (first | exact List.Sublist.refl _ | fail)) ?_
    refine ⟨?_, rfl, rfl⟩
    rw [intsB, decide_eq_true]
    exact List.ext_getElem hab fun i h h' => hno i h h' (by omega)
/-! ### What may be -/
def MemOK (m : List Int) : Prop := 0 < m.length ∧ ∀ k (h : k < m.length), 1 ≤ m[k] ∧ m[k] ≤ 9 ∧ (0 < k → m[k - 1] < m[k])
def ConfOK (l : List Co) : Prop := (∃ h : 0 < l.length, l[0].1 = 1) ∧ ∀ i (h : i < l.length), MemOK l[i].2 ∧ l[i].1 ≤ 4294967296 ∧ (0 < i → l[i - 1].1 < l[i].1)
noncomputable instance (m : List Int) : Decidable (MemOK m) := Classical.propDecidable _
noncomputable instance (l : List Co) : Decidable (ConfOK l) := Classical.propDecidable _
end Go.Proofs.Ytgflmkhfachlcaa
/-
  Majorities: slices.Sorted over whatever iterator; conf's Majority, and the reference's.
-/
set_option linter.unusedSimpArgs false
set_option linter.unusedVariables false
namespace Go.Proofs.Ytgflmkhfachlcaa
open Go.Vx Go.ChangeShapes Go.WideShapes Go.ChangeAt Go.RowKit
/-- A slice of ours that has grown, as one block or none. -/
theorem Grow.cases {e : TypeId} {v : Value} {m : Nat} {xs : List Value} {ν : OH} (h : Grow e 1 v m xs ν) : (v = .slice none 0 0 ∧ m = 0 ∧ xs = [] ∧ ν = []) ∨ ∃ b cap spare, v = .slice (some ⟨b, 0, none⟩) m cap ∧ m ≤ cap ∧ cap ≤ maxLen ∧ ν = [(b, .cells (xs ++ spare).toArray e (0, 0))] ∧ xs.length = m ∧ (xs ++ spare).length = cap := by
  obtain ⟨hx, ⟨rfl, rfl, rfl⟩ | ⟨b, cap, spare, rfl, rfl, h1, h2, h3⟩⟩ := h
  · left
    exact ⟨rfl, rfl, by simpa using hx, rfl⟩
  · right
    exact ⟨b, cap, spare, rfl, h1, h2, rfl, by simpa using hx, by simpa using h3⟩
theorem grow_of {e : TypeId} {b m cap : Nat} {xs spare : List Value} (h1 : xs.length = m) (h2 : m ≤ cap) (h3 : cap ≤ maxLen) (h4 : (xs ++ spare).length = cap) : Grow e 1 (.slice (some ⟨b, 0, none⟩) m cap) m xs [(b, .cells (xs ++ spare).toArray e (0, 0))] :=
  ⟨by omega, .inr ⟨b, cap, spare, rfl, rfl, h2, h3, by omega⟩⟩
theorem sorted_s {G : GH} {gf : FuncId} [Callable Try.prog gf] {lb : List Value} {S : List Int → Prop} {N : Nat} {μ1 : OH} (hN : N ≤ 1048576) (hS : ∀ xs, S xs → xs.length ≤ 1048576) (hseq : SeqCon Try.prog gf lb keyI S N G μ1) :
    Con Try.prog 39 #[.func (.func gf) #[] lb.toArray] G μ1 (fun r G' μ' => G' = G ∧ ∃ xs ν, S xs ∧ Grow 3 1 r xs.length ((sortL xs).map (Value.int .i64 ·)) ν ∧ μ' = ν ++ μ1) := by
  have q := collect_s hN hseq
  (refine v_enter Try.func39 rfl Try.ntmps39 rfl ?_; intro B _)
  repeat' (first | apply v_seq | apply v_region | apply v_nil | (apply v_pure; (case hop => first | (apply p_move <;> rfl) | (apply p_assign <;> rfl)); (case hd => rfl)) | fail)
  refine v_call (μ1 := μ1) (μ2 := []) rfl q (by simp) rfl ?_
  rintro r G1 _ - ⟨rfl, xs, ν, hSx, hg, rfl⟩
  have hlen := hS _ hSx
  obtain ⟨rfl, h0, h1, rfl⟩ | ⟨b, cap, spare, rfl, hc, hm, rfl, hxl, hcl⟩ := Grow.cases hg
  · have hx0 : xs = [] := List.eq_nil_of_length_eq_zero h0
    subst hx0
    repeat' (first | apply v_seq | apply v_region | apply v_nil | (apply v_pure; (case hop => first | (apply p_move <;> rfl) | (apply p_assign <;> rfl)); (case hd => rfl)) | (apply v_call (hs := sort0_s); (case ha => rfl); (case hp => first | exact List.Perm.refl _); (case hd => rfl); rintro _ _ _ _ ⟨rfl, rfl, rfl⟩) | fail)
    refine v_ret μ1 (outsA1 rfl rfl) (by simp) ⟨rfl, [], [], hSx, by simpa [sortL] using Grow.nil _ _, rfl⟩
  · have q2 := sort_s (G := G1) (zs := xs) (b := b) (cap := cap) (e := 3) (spare := spare) (by omega)
    repeat' (first | apply v_seq | apply v_region | apply v_nil | (apply v_pure; (case hop => first | (apply p_move <;> rfl) | (apply p_assign <;> rfl)); (case hd => rfl)) | fail)
    refine v_call (μ1 := [(b, _)]) (μ2 := μ1) rfl q2 (by simp) rfl ?_
    rintro _ G2 _ hle2 ⟨rfl, rfl, rfl⟩
    repeat' (first | apply v_seq | apply v_region | apply v_nil | (apply v_pure; (case hop => first | (apply p_move <;> rfl) | (apply p_assign <;> rfl)); (case hd => rfl)) | fail)
    refine v_ret ([(b, _)] ++ μ1) (outsA1 rfl rfl) (List.Sublist.refl _) ⟨rfl, xs, _, hSx, grow_of (by simp [(sortL_perm xs).length_eq]) hc hm (by simpa [(sortL_perm xs).length_eq] using hcl), rfl⟩
theorem inB_eq (l : List Int) (x : Int) : inB l x = l.contains x := by
  unfold inB
  rw [List.contains_eq_mem]
theorem maj_s {G : GH} {l of : List Int} {lv ov : Value} (hl : Sl G 1 (IntR .i64) lv l) (ho : Sl G 1 (IntR .i64) ov of) (hb : l.length ≤ 10000) : Con Try.prog 36 #[lv, ov] G [] (Just (.bool (majB l of)) G) := by
  obtain ⟨A, c, rfl, hlc, hcm, hsome, hel, hwl⟩ := id hl.openInt
  have q1 := values_s (G := G) (A := A) (n := l.length) (c := c)
  have q3 := fun G' (h : GH.le G G') x => contains_s x (ho.mono h)
  obtain ⟨A', c', rfl, hlc', hcm', hsome', hel', -⟩ := id ho.openInt
  (refine v_enter Try.func36 rfl Try.ntmps36 rfl ?_; intro B _)
  repeat' (first | apply v_seq | apply v_region | apply v_nil | (apply v_pure; (case hop => first | (apply p_move <;> rfl) | (apply p_assign <;> rfl) | fail); (case hd => rfl)) | fail)
  refine v_call (μ1 := []) (μ2 := []) rfl q1 (List.Perm.refl _) rfl ?_
  rintro _ _ _ - ⟨b, rfl, rfl, rfl⟩
  have q2 := sorted_s (by omega) (fun xs h => by rw [h]; omega) (vals_seq (b := b) hl (by omega))
  repeat' (fail)
  refine v_call (μ1 := [(b, _)]) (μ2 := []) rfl q2 (by simp) rfl ?_
  rintro r G1 _ - ⟨rfl, xs, ν, hxs, hg, rfl⟩
  subst hxs
  have hperm := sortL_perm xs
  have hlen := hperm.length_eq
  have hol := compact_len (sortL xs)
  obtain ⟨rfl, h0, h1, rfl⟩ | ⟨b2, cap, spare, rfl, hc, hm, rfl, hxl, hcl⟩ := Grow.cases hg
  · have hx0 : xs = [] := List.eq_nil_of_length_eq_zero h0
    subst hx0
    have hmaj : majB [] of = false := by simp [majB, once, sortL, Lib.compact, Lib.compactUpTo]
    rw [hmaj]
    repeat' (first | apply v_seq | apply v_region | apply v_nil | apply v_block | (apply v_pure; (case hop => first | (apply p_move <;> rfl) | (apply p_assign <;> rfl) | (apply p_lenSlice <;> rfl) | fail); (case hd => rfl)) | (apply v_callJ (hs := compact0_s); (case ha => rfl); (case hd => rfl)) | fail)
    refine v_loop [15, 14, 6, 5] (fun us G' μ' => G' = G1 ∧ us = [Value.int .i64 0, .int .i64 (0 : Nat), .int .i64 0, .slice none 0 0]) (fun us => 0) rfl ⟨rfl, rfl⟩ ?_
    rintro us G' μ' ⟨rfl, rfl⟩
    repeat' (first | apply v_seq | apply v_region | apply v_nil | (apply v_exit; (case hp => rfl)) | (apply v_pure; (case hop => first | (apply p_move <;> rfl) | (apply p_lt <;> rfl) | (apply p_gt <;> rfl) | (apply p_assign <;> rfl) | (apply p_lenSlice <;> rfl) | (apply p_mul; (case hx => rfl); (case hy => rfl); (case h => omega))); (case hd => rfl)) | (apply v_cond; (case hc => rfl); all_goals (intro h; (try simp only [reduceCtorEq, dec_true, dec_false, decide_eq_true_eq, decide_eq_false_iff_not, Bool.not_eq_true', Bool.not_eq_false', Option.isNone_iff_eq_none, beq_true, beq_false, beq_iff_eq, beq_eq_false_iff_ne, ne_eq, decide_eq_decide, Bool.not_eq_true, Bool.not_eq_false, Decidable.not_not] at h); first | (exfalso; omega) | skip)) | fail)
    refine v_ret [] (outsA1 rfl rfl) (List.nil_sublist _) ⟨?_, rfl, rfl⟩
    rw [dec_neg (by omega)]
  · have q4 := compact_s (G := G1) (zs := sortL xs) (b := b2) (cap := cap) (e := 3) (spare := spare) (by omega) (by omega)
    rw [hlen] at q4
    repeat' (fail)
    refine v_call (μ1 := [(b2, _)]) (μ2 := [(b, .cells [.slice A xs.length c].toArray 22 (0, 0))]) rfl q4 (by simp) rfl ?_
    rintro _ G2 _ hle2 ⟨rfl, rfl, sp, rfl⟩
    have e0 : Lib.compact (sortL xs) = once xs := rfl
    rw [e0] at hol ⊢
    have hon : (once xs).length ≤ 10000 := by omega
    have hmj : majB xs of = decide ((once xs).length < 2 * (once xs).countP (inB of ·)) := by
      unfold majB
      simp only [inB_eq]
    rw [hmj]
    generalize once xs = L at *
    repeat' (first | apply v_seq | apply v_region | apply v_nil | apply v_block | (apply v_pure; (case hop => first | (apply p_move <;> rfl) | (apply p_assign <;> rfl) | (apply p_lenSlice <;> rfl) | fail); (case hd => rfl)) | fail)
    refine v_loop [15, 14, 6, 5, 13, 1] (fun us G' μ' => G' = G2 ∧ μ' = [(b2, .cells (L.map (Value.int .i64 ·) ++ sp).toArray 3 (0, 0)), (b, .cells [.slice A xs.length c].toArray 22 (0, 0))] ∧ ∃ k, k ≤ L.length ∧ us = [Value.int .i64 (k : Nat), .int .i64 (L.length : Nat), .int .i64 ((L.take k).countP (inB of ·) : Nat), .slice (some ⟨b2, 0, none⟩) L.length cap, .slice (some ⟨b2, 0, none⟩) L.length cap, .slice A' of.length c']) (fun us => L.length - (headI us).toNat) rfl ⟨rfl, rfl, 0, by omega, rfl⟩ ?_
    rintro us G' μ' ⟨rfl, rfl, k, hk, rfl⟩
    by_cases hlt : k < L.length
    · have e1 : ((k : Nat) : Int).toNat = k := by omega
      have hval : (L.map (Value.int .i64 ·) ++ sp)[((k : Nat) : Int).toNat * 1]? = some (.int .i64 L[k]) := by
        rw [e1, Nat.mul_one, List.getElem?_append_left (by simpa using hlt), List.getElem?_map, List.getElem?_eq_getElem hlt]
        rfl
      have hcnt : (L.take (k + 1)).countP (inB of ·) = (L.take k).countP (inB of ·) + (if inB of L[k] = true then 1 else 0) := by
        rw [List.take_succ_eq_append_getElem hlt, List.countP_append, List.countP_singleton]
      have hcb : (L.take k).countP (inB of ·) ≤ k := Nat.le_trans List.countP_le_length (by rw [List.length_take]; omega)
      generalize L[k] = x at *
      generalize (L.take k).countP (inB of ·) = m at *
      have q := q3 _ (GH.le_refl _) x
      generalize inB of x = ib at *
      repeat' (first | apply v_seq | apply v_region | apply v_nil | apply v_skip | apply v_block | apply v_blk | (apply v_pure; (case hop => first | (apply p_move <;> rfl) | (apply p_lt <;> rfl) | (apply p_assign <;> rfl) | (apply p_add; (case hx => rfl); (case hy => rfl); (case h => omega)) | (apply p_indexAddr; (case hx => rfl); (case hi => rfl); (case h0 => omega); (case h => omega)) | fail); (case hd => rfl)) | (apply v_cond; (case hc => rfl); all_goals (intro h; (try simp only [reduceCtorEq, dec_true, dec_false, decide_eq_true_eq, decide_eq_false_iff_not, Bool.not_eq_true', Bool.not_eq_false', Option.isNone_iff_eq_none, beq_true, beq_false, beq_iff_eq, beq_eq_false_iff_ne, ne_eq, decide_eq_decide, Bool.not_eq_true, Bool.not_eq_false, Decidable.not_not] at h); first | (exfalso; omega) | skip)) | (apply v_read; (case hop => first | (apply r_load1; rfl; exact CellsAt.own (by repeat (first | exact List.Mem.head _ | fail)) _ _ hval)); (case hd => rfl)) | (apply v_callJ (hs := q); (case ha => rfl); (case hd => rfl)) | fail)
      · rw [if_pos h] at hcnt
        refine v_again rfl ⟨rfl, rfl, k + 1, by omega, by rw [hcnt]; rfl⟩ (by simp [headI]; omega)
      · rw [if_neg (by rw [h]; simp), Nat.add_zero] at hcnt
        refine v_again rfl ⟨rfl, rfl, k + 1, by omega, by rw [hcnt]; rfl⟩ (by simp [headI]; omega)
    · have htk : L.take k = L := List.take_of_length_le (by omega)
      rw [htk]
      have hcb : L.countP (inB of ·) ≤ L.length := List.countP_le_length
      generalize L.countP (inB of ·) = m at *
      repeat' (first | apply v_seq | apply v_region | apply v_nil | (apply v_exit; (case hp => rfl)) | (apply v_pure; (case hop => first | (apply p_move <;> rfl) | (apply p_lt <;> rfl) | (apply p_gt <;> rfl) | (apply p_assign <;> rfl) | (apply p_lenSlice <;> rfl) | (apply p_mul; (case hx => rfl); (case hy => rfl); (case h => omega))); (case hd => rfl)) | (apply v_cond; (case hc => rfl); all_goals (intro h; (try simp only [reduceCtorEq, dec_true, dec_false, decide_eq_true_eq, decide_eq_false_iff_not, Bool.not_eq_true', Bool.not_eq_false', Option.isNone_iff_eq_none, beq_true, beq_false, beq_iff_eq, beq_eq_false_iff_ne, ne_eq, decide_eq_decide, Bool.not_eq_true, Bool.not_eq_false, Decidable.not_not] at h); first | (exfalso; omega) | skip)) | fail)
      refine v_ret [] (outsA1 rfl rfl) (List.nil_sublist _) ⟨?_, rfl, rfl⟩
      rw [dec_eq]
      congr 1
      rw [decide_eq_decide]
      omega
end Go.Proofs.Ytgflmkhfachlcaa
/-
  tally (layer 34): the library over the votes' map: maps.Keys, maps.DeleteFunc.
-/
set_option linter.unusedSimpArgs false
set_option linter.unusedVariables false
namespace Go.Proofs.Ytgflmkhfachlcaa
open Go.Vx Go.ChangeShapes Go.WideShapes Go.ChangeAt Go.RowKit
instance keyT_int : KeyT Try.prog 3 keyI := KeyT.int
theorem keys_s {G : GH} {m : Nat} : Con Try.prog 40 #[.map (some m)] G []
    (fun r G' μ' => ∃ b, r = .func (.func 57) #[] #[.pointer (some ⟨b, 0, none⟩)] ∧ G' = G ∧ μ' = [(b, .cells [Value.map (some m)].toArray 66 (0, 0))]) := by
  (refine v_enter Try.func40 rfl Try.ntmps40 rfl ?_; intro B _)
  repeat' (first | apply v_seq | apply v_region | apply v_nil | (apply v_pure; (case hop => first | (apply p_assign <;> rfl) | (apply p_makeFunc <;> rfl)); (case hd => rfl)) | (apply v_box; (case hx => rfl); (case hz => rfl); (case hd => rfl); intro b) | fail)
  refine v_ret [(b, _)] (outsA1 rfl rfl) (by repeat (first | exact List.Sublist.refl _ | fail)) ?_
  exact ⟨b, rfl, rfl, rfl⟩
theorem left_perm {left : List Int} {a : Int} (hn : left.Nodup) (ha : a ∈ left) : left.Perm (a :: left.filter fun z => decide (z ≠ a)) := by
  refine perm_of_mem hn ?_ fun x => ?_
  · rw [List.nodup_cons]
    exact ⟨by simp, hn.sublist List.filter_sublist⟩
  · simp only [List.mem_cons, List.mem_filter, decide_eq_true_eq]
    by_cases hx : x = a
    · subst hx; simp [ha]
    · simp [hx]
theorem keys_seq {G : GH} {l : List (Int × Value)} {m b : Nat} {oM : Obj} (hM : MapB keyI l oM) : SeqCon Try.prog 57 [.pointer (some ⟨b, 0, none⟩)] keyI (fun xs => xs.Perm (l.map (·.1))) l.length G [(b, .cells [Value.map (some m)].toArray 66 (0, 0)), (m, oM)] := by
  intro lp J G1 ν hle hJ0 hY
  have hnd := hM.nodup
  (refine v_enter Try.func57 rfl Try.ntmps57 rfl ?_; intro B _)
  repeat' (first | apply v_seq | apply v_region | apply v_nil | apply v_block | (apply v_rangeM (hb := (by repeat (first | exact List.Mem.head _ | apply List.Mem.tail))) (hM := hM); (case hx => rfl); (case hd => rfl); intro it oI hI) | (apply v_read; (case hop => first | (apply r_load1; rfl; (apply Cell.own; (case h => (repeat (first | exact List.Mem.head _ | fail))); rfl)) | fail); (case hd => rfl)) | fail)
  refine v_loopI (ι := List Int × List Int) [5, 0] (fun i vs G' μ' => GH.le G1 G' ∧ ∃ ν' oI, IterB keyI m l i.2 oM oI ∧ i.2.Nodup ∧ (i.1 ++ i.2).Perm (l.map (·.1)) ∧ vs = [.pointer (some ⟨it, 0, none⟩), .func (.yield lp) #[] #[]] ∧ J i.1 G' ν' ∧ μ' = (it, oI) :: (b, .cells [Value.map (some m)].toArray 66 (0, 0)) :: (m, oM) :: ν') (fun i => i.2.length) rfl ([], l.map (·.1)) ⟨GH.le_refl _, ν, oI, hI, hnd, List.Perm.refl _, rfl, hJ0, rfl⟩ ?_
  rintro ⟨pre, left⟩ vs G' _ ⟨hle', ν', oI', hI', hn, hper, rfl, hJ, rfl⟩
  simp only at hI' hn hper hJ
  have hlen := hper.length_eq
  rw [List.length_append, List.length_map] at hlen
  repeat' (first | apply v_seq | apply v_region | (apply v_nextM (k := 3) (hb := (by repeat (first | exact List.Mem.head _ | apply List.Mem.tail))) (hI := hI'); (case hx => rfl); (case hp => exact List.Perm.refl _); (case hd => rfl)) | fail)
  · intro h0
    subst h0
    repeat' (first | apply v_seq | apply v_nil | (apply v_exit; (case hp => rfl)) | (apply v_pure; (case hop => first | (apply p_extract0 <;> rfl) | fail); (case hd => rfl)) | (apply v_condF; (case hc => rfl)) | fail)
    refine v_end ([(b, _), (m, oM)] ++ ν') (outsA0 rfl) (by repeat (first | exact List.Sublist.refl _ | apply List.Sublist.cons | fail)) ?_
    exact ⟨pre, ν', by simpa using hper, hJ, rfl⟩
  · intro a u oI2 ha hau hI2 hE
    have hy := hY pre a G' ν' hle' hJ (by
      have : 0 < left.length := List.length_pos_of_mem ha
      omega)
    have hlp := left_perm hn ha
    repeat' (first | apply v_seq | apply v_region | apply v_nil | apply v_skip | apply v_block | apply v_blk | (apply v_pure; (case hop => first | (apply p_move <;> rfl) | (apply p_assign <;> rfl) | (apply p_not <;> rfl) | (apply p_extract0 <;> rfl) | fail); (case hd => rfl)) | (apply v_condT; (case hc => rfl)) | (apply v_condF; (case hc => rfl)) | (apply v_read; (case hop => apply r_entry (hE := hE); (case hx => rfl); (case hi => repeat (first | exact List.Mem.head _ | fail)); (case hb => repeat (first | exact List.Mem.head _ | apply List.Mem.tail))); (case hd => rfl)) | (apply v_yield (hs := hy); (case hx => rfl); (case ha => rfl); (case hp => exact (List.perm_append_comm (l₁ := [(it, oI2), (b, Obj.cells [Value.map (some m)].toArray 66 (0, 0)), (m, oM)]) (l₂ := ν'))); (case hd => rfl); rintro _ G2 ν2 hle2 ⟨rfl, hJ2⟩) | fail)
    refine v_perm List.perm_append_comm ?_
    refine v_againI (pre ++ [a], left.filter fun z => decide (z ≠ a)) rfl ⟨GH.le_trans hle' hle2, ν2, oI2, hI2, hn.sublist List.filter_sublist, ?_, rfl, hJ2, rfl⟩ ?_
    · refine List.Perm.trans ?_ hper
      simp only [List.append_assoc, List.singleton_append]
      exact List.Perm.append_left _ hlp.symm
    · have := hlp.length_eq
      simp only [List.length_cons] at this ⊢
      omega
end Go.Proofs.Ytgflmkhfachlcaa
/-
  tally (layer 34): the program's functions.
-/
set_option linter.unusedSimpArgs false
set_option linter.unusedVariables false
namespace Go.Proofs.Ytgflmkhfachlcaa
open Go.Vx Go.ChangeShapes Go.WideShapes Go.ChangeAt Go.RowKit
theorem neBal {σ : Env} {ty t' : TypeId} {x y : Operand} {a b a' b' : Int} (hx : Env.ev σ x = some (.agg [.int .i64 a, .int .i64 b].toArray)) (hy : Env.ev σ y = some (.agg [.int .i64 a', .int .i64 b'].toArray)) : PureOp Try.prog (.binOp .neq 26 x y t') ty σ (.bool (!dec (a = a' ∧ b = b'))) := by
  have := p_neStruct (P := Try.prog) (ty := ty) (t := 26) (t' := t') hx hy (feq_int (k := .i64) (a := a) (b := a') (bytes := 8) (zero := .int .i64 0) (sz := 1) rfl rfl rfl (feq_int (k := .i64) (a := b) (b := b') (bytes := 8) (zero := .int .i64 0) (sz := 1) rfl rfl rfl feq_nil))
  have e : (dec (a = a') && (dec (b = b') && true)) = dec (a = a' ∧ b = b') := by simp only [dec_eq]; simp
  rwa [e] at this
def tO (r n : Int) (m : Nat) (low : Int) : Obj := .cells [.int .i64 r, .int .i64 n, .map (some m), .int .i64 low].toArray 68 (0, 0)
theorem r_votes {σ : Env} {G : GH} {μ : OH} {ty : TypeId} {x i : Operand} {m : Nat} {oM : Obj} {V : Vs} (a : Int) (hb : (m, oM) ∈ μ) (hM : MapB keyI (vl V) oM) (hx : Env.ev σ x = some (.map (some m))) (hi : Env.ev σ i = some (keyI a)) : ReadOp Try.prog (.lookup 66 x i false) ty σ G μ (uv (nget V a)) := by
  have := r_lookup (P := Try.prog) (ty := ty) (G := G) (t := 66) (k := 3) (e := 69) (mk := keyI) a hx hi hb hM
  have e : (mget (vl V) a).getD (.int .u64 0) = uv (nget V a) := get_vl V a
  rw [e] at this
  exact this
theorem and_bit {x nd : Nat} : (x &&& 1 * 2 ^ nd = 0) ↔ x.testBit nd = false := by
  rw [Nat.one_mul]
  constructor
  · intro h
    have := congrArg (fun y => y.testBit nd) h
    simpa [Nat.testBit_and, Nat.testBit_two_pow_self] using this
  · intro h
    apply Nat.eq_of_testBit_eq
    intro i
    rw [Nat.testBit_and, Nat.testBit_two_pow]
    by_cases hi : nd = i
    · subst hi; simp [h]
    · simp [hi]
theorem shr_bit {x nd : Nat} : (x / 2 ^ nd &&& 1 = 1) ↔ x.testBit nd = true := by
  rw [Nat.and_one_is_mod, Nat.testBit_eq_decide_div_mod_eq, decide_eq_true_iff]
theorem tnew_s {G : GH} (r n : Int) : Con Try.prog 10 #[.agg #[.int .i64 r, .int .i64 n]] G [] (fun v G' μ' => G' = G ∧ ∃ t m, v = .pointer (some ⟨t, 0, none⟩) ∧ μ' = [(t, tO r n m 0), (m, .map #[] 0)]) := by
  (refine v_enter Try.func10 rfl Try.ntmps10 rfl ?_; intro B _)
  repeat' (first | apply v_seq | apply v_region | apply v_nil | (apply v_pure; (case hop => first | (apply p_assign <;> rfl) | (apply p_build; (case hz => rfl); (case hv => (simp only [List.map_cons, List.map_nil]; repeat (first | with_reducible exact evs_nil | (apply evs_cons; (case h1 => rfl))))); (case hb => (apply bldL; repeat (first | exact bld_nil | (apply bld_cons; (case hpf => rfl); (case hc => rfl); (case hs => rfl); (case hl => rfl); (case ho => (first | ((repeat (first | with_reducible exact ov_nil | apply ov_cons | fail)); done) | fail))))))) | fail); (case hd => rfl)) | (apply v_box (zs := [.int .i64 r, .int .i64 n]); (case hx => rfl); (case hz => rfl); (case hd => rfl); intro b) | (apply v_makeMap; (case hd => rfl); intro m) | (apply v_read; (case hop => first | (apply r_loadNo; (case hx => rfl); (case h => (repeat (first | exact List.Mem.head _ | fail))); (case hd => (repeat (first | with_reducible exact dt_nil | apply dt_here | fail))); (case hn => rfl)) | fail); (case hd => rfl)) | (apply v_box; (case hx => rfl); (case hz => rfl); (case hd => rfl); intro b) | fail)
  refine v_ret [(b, _), (m, _)] (outsA1 rfl rfl) (by repeat (first | exact List.nil_sublist _ | apply List.Sublist.cons_cons | fail)) ⟨rfl, b, m, rfl, rfl⟩
def voteC (r n low : Int) (V : Vs) (r' n' i nd : Int) : Prop := (r' = r ∧ n' = n) ∧ 1 ≤ i ∧ i ≤ 4294967296 ∧ low < i ∧ 1 ≤ nd ∧ nd ≤ 9 ∧ (nget V i).testBit nd.toNat = false
instance (r n low : Int) (V : Vs) (r' n' i nd : Int) : Decidable (voteC r n low V r' n' i nd) := by unfold voteC; infer_instance
def voteV (r n low : Int) (V : Vs) (r' n' i nd : Int) : Vs := if voteC r n low V r' n' i nd then nput V i (nget V i ||| 2 ^ nd.toNat) else V
theorem vote_s {G : GH} {r n low : Int} {V : Vs} {t m : Nat} {oM : Obj} (r' n' i nd : Int) (hM : MapB keyI (vl V) oM) (hs : ∀ j, nget V j < 1024) :
    Con Try.prog 11 #[.pointer (some ⟨t, 0, none⟩), .agg #[.int .i64 r', .int .i64 n'], .int .i64 i, .int .i64 nd] G [(t, tO r n m low), (m, oM)]
      (fun v G' μ' => G' = G ∧ v = .bool (decide (voteC r n low V r' n' i nd)) ∧ ∃ oM', MapB keyI (vl (voteV r n low V r' n' i nd)) oM' ∧ μ' = [(t, tO r n m low), (m, oM')]) := by
  unfold voteV
  (refine v_enter Try.func11 rfl Try.ntmps11 rfl ?_; intro B _)
  by_cases hnd : 1 ≤ nd ∧ nd ≤ 9
  rotate_left
  · have hno : ¬ voteC r n low V r' n' i nd := fun h => hnd ⟨h.2.2.2.2.1, h.2.2.2.2.2.1⟩
    rw [if_neg hno, decide_eq_false hno]
    repeat' (first | apply v_seq | apply v_region | apply v_nil | (apply v_pure; (case hop => first | (apply p_assign <;> rfl) | fail); (case hd => rfl)) | (apply v_box (zs := [.int .i64 r', .int .i64 n']); (case hx => rfl); (case hz => rfl); (case hd => rfl); intro b) | fail)
    refine d_start _ (by kernel_rfl) (by kernel_rfl) (by kernel_rfl) (fun _ he => he) ?_
    all_goals (first | (apply d_take 0; (case hi => rfl); (case hop => first | (apply PureOp.read; apply p_move <;> rfl)); (case hf => kernel_rfl); (case hr => kernel_rfl); (case hd => rfl)) | fail)
    all_goals (first | (apply d_take 1; (case hi => rfl); (case hop => first | (apply PureOp.read; apply p_eqNil <;> rfl) | fail); (case hf => kernel_rfl); (case hr => kernel_rfl); (case hd => rfl)) | fail)
    all_goals (first | (apply d_take 2; (case hi => rfl); (case hop => first | (apply PureOp.read; apply p_move <;> rfl)); (case hf => kernel_rfl); (case hr => kernel_rfl); (case hd => rfl)) | fail)
    all_goals (try (apply d_guardB 3; (case hi => rfl); (case hgd => rfl); (case h1 => rfl); (case h2 => first | rfl); all_goals (intro h; (try simp only [reduceCtorEq, dec_true, dec_false, decide_eq_true_eq, decide_eq_false_iff_not, Bool.not_eq_true', Bool.not_eq_false', Option.isNone_iff_eq_none, beq_true, beq_false, beq_iff_eq, beq_eq_false_iff_ne, ne_eq, decide_eq_decide, Bool.not_eq_true, Bool.not_eq_false, Decidable.not_not] at h); first | done | skip)))
    all_goals (first | (apply d_takeG 3; (case hi => rfl); (case hg => rfl); (case hop => first   | (apply r_loadNo; (case hx => rfl); (case h => (repeat (first | exact List.Mem.head _ | fail))); (case hd => (repeat (first | with_reducible exact dt_nil | apply dt_here | fail))); (case hn => rfl)) | (apply r_load1; rfl; (apply Cell.own; (case h => (repeat (fail))); rfl)) | (apply r_loadN; rfl; (apply CellsAt.own; (case h => (repeat (fail)))); rfl)); (case hf => kernel_rfl); (case hr => kernel_rfl); (case hd => rfl)) | fail)
    all_goals (try (apply d_guardB 4; (case hi => rfl); (case hgd => rfl); (case h1 => rfl); (case h2 => first | rfl); all_goals (intro h; (try simp only [reduceCtorEq, dec_true, dec_false, decide_eq_true_eq, decide_eq_false_iff_not, Bool.not_eq_true', Bool.not_eq_false', Option.isNone_iff_eq_none, beq_true, beq_false, beq_iff_eq, beq_eq_false_iff_ne, ne_eq, decide_eq_decide, Bool.not_eq_true, Bool.not_eq_false, Decidable.not_not] at h); first | done | skip)))
    all_goals (first | (apply d_takeG 4; (case hi => rfl); (case hg => rfl); (case hop => first | (apply PureOp.read; apply p_move <;> rfl)); (case hf => kernel_rfl); (case hr => kernel_rfl); (case hd => rfl)) | fail)
    all_goals (try (apply d_guardB 5; (case hi => rfl); (case hgd => rfl); (case h1 => rfl); (case h2 => first | rfl); all_goals (intro h; (try simp only [reduceCtorEq, dec_true, dec_false, decide_eq_true_eq, decide_eq_false_iff_not, Bool.not_eq_true', Bool.not_eq_false', Option.isNone_iff_eq_none, beq_true, beq_false, beq_iff_eq, beq_eq_false_iff_ne, ne_eq, decide_eq_decide, Bool.not_eq_true, Bool.not_eq_false, Decidable.not_not] at h); first | done | skip)))
    all_goals (first | (apply d_takeG 5; (case hi => rfl); (case hg => rfl); (case hop => first | (apply PureOp.read; apply p_nilCheck <;> rfl)); (case hf => kernel_rfl); (case hr => kernel_rfl); (case hd => rfl)) | fail)
    all_goals (try (apply d_guardB 6; (case hi => rfl); (case hgd => rfl); (case h1 => rfl); (case h2 => first | rfl); all_goals (intro h; (try simp only [reduceCtorEq, dec_true, dec_false, decide_eq_true_eq, decide_eq_false_iff_not, Bool.not_eq_true', Bool.not_eq_false', Option.isNone_iff_eq_none, beq_true, beq_false, beq_iff_eq, beq_eq_false_iff_ne, ne_eq, decide_eq_decide, Bool.not_eq_true, Bool.not_eq_false, Decidable.not_not] at h); first | done | skip)))
    all_goals (first | (apply d_takeG 6; (case hi => rfl); (case hg => rfl); (case hop => first | (apply PureOp.read; apply p_fieldAddrB <;> rfl) | fail); (case hf => kernel_rfl); (case hr => kernel_rfl); (case hd => rfl)) | fail)
    all_goals (try (apply d_guardB 7; (case hi => rfl); (case hgd => rfl); (case h1 => rfl); (case h2 => first | rfl); all_goals (intro h; (try simp only [reduceCtorEq, dec_true, dec_false, decide_eq_true_eq, decide_eq_false_iff_not, Bool.not_eq_true', Bool.not_eq_false', Option.isNone_iff_eq_none, beq_true, beq_false, beq_iff_eq, beq_eq_false_iff_ne, ne_eq, decide_eq_decide, Bool.not_eq_true, Bool.not_eq_false, Decidable.not_not] at h); first | done | skip)))
    all_goals (first | (apply d_takeG 7; (case hi => rfl); (case hg => rfl); (case hop => first   | (apply r_loadNo; (case hx => rfl); (case h => (repeat (first | exact List.Mem.head _ | apply List.Mem.tail | fail))); (case hd => (repeat (first | with_reducible exact dt_nil | apply dt_here | fail))); (case hn => rfl)) | (apply r_load1; rfl; (apply Cell.own; (case h => (repeat (fail))); rfl)) | (apply r_loadN; rfl; (apply CellsAt.own; (case h => (repeat (fail)))); rfl)); (case hf => kernel_rfl); (case hr => kernel_rfl); (case hd => rfl)) | fail)
    all_goals (try (apply d_guardB 8; (case hi => rfl); (case hgd => rfl); (case h1 => rfl); (case h2 => first | rfl); all_goals (intro h; (try simp only [reduceCtorEq, dec_true, dec_false, decide_eq_true_eq, decide_eq_false_iff_not, Bool.not_eq_true', Bool.not_eq_false', Option.isNone_iff_eq_none, beq_true, beq_false, beq_iff_eq, beq_eq_false_iff_ne, ne_eq, decide_eq_decide, Bool.not_eq_true, Bool.not_eq_false, Decidable.not_not] at h); first | done | skip)))
    all_goals (first | (apply d_takeG 8; (case hi => rfl); (case hg => rfl); (case hop => first | ((apply PureOp.read; apply neBal; (case hx => rfl); (case hy => rfl))) | fail); (case hf => kernel_rfl); (case hr => kernel_rfl); (case hd => rfl)) | fail)
    all_goals (first | (apply d_take 9; (case hi => rfl); (case hop => first | (apply PureOp.read; apply p_pickF <;> rfl) | fail); (case hf => kernel_rfl); (case hr => kernel_rfl); (case hd => rfl)) | fail)
    all_goals (first | (apply d_take 10; (case hi => rfl); (case hop => first | (apply PureOp.read; apply p_move <;> rfl)); (case hf => kernel_rfl); (case hr => kernel_rfl); (case hd => rfl)) | fail)
    all_goals (try (apply d_guardB 11; (case hi => rfl); (case hgd => rfl); (case h1 => rfl); (case h2 => first | rfl); all_goals (intro h; (try simp only [reduceCtorEq, dec_true, dec_false, decide_eq_true_eq, decide_eq_false_iff_not, Bool.not_eq_true', Bool.not_eq_false', Option.isNone_iff_eq_none, beq_true, beq_false, beq_iff_eq, beq_eq_false_iff_ne, ne_eq, decide_eq_decide, Bool.not_eq_true, Bool.not_eq_false, Decidable.not_not] at h); first | skip)))
    all_goals (first | (apply d_pass 11; (case hi => rfl); (case hg => rfl); (case hn => rfl); (case hf => kernel_rfl); (case hr => kernel_rfl); (case hd => rfl)) | (apply d_takeG 11; (case hi => rfl); (case hg => rfl); (case hop => first | (apply PureOp.read; apply p_move <;> rfl)); (case hf => kernel_rfl); (case hr => kernel_rfl); (case hd => rfl)) | fail)
    all_goals (try (apply d_guardB 12; (case hi => rfl); (case hgd => rfl); (case h1 => rfl); (case h2 => first | rfl); all_goals (intro h; (try simp only [reduceCtorEq, dec_true, dec_false, decide_eq_true_eq, decide_eq_false_iff_not, Bool.not_eq_true', Bool.not_eq_false', Option.isNone_iff_eq_none, beq_true, beq_false, beq_iff_eq, beq_eq_false_iff_ne, ne_eq, decide_eq_decide, Bool.not_eq_true, Bool.not_eq_false, Decidable.not_not] at h); first | done | skip)))
    all_goals (first | (apply d_pass 12; (case hi => rfl); (case hg => rfl); (case hn => rfl); (case hf => kernel_rfl); (case hr => kernel_rfl); (case hd => rfl)) | (apply d_takeG 12; (case hi => rfl); (case hg => rfl); (case hop => first | (apply PureOp.read; apply p_lt <;> rfl)); (case hf => kernel_rfl); (case hr => kernel_rfl); (case hd => rfl)) | fail)
    all_goals (first | (apply d_take 13; (case hi => rfl); (case hop => first | (apply PureOp.read; apply p_pickT <;> rfl) | (apply PureOp.read; apply p_pickF <;> rfl) | fail); (case hf => kernel_rfl); (case hr => kernel_rfl); (case hd => rfl)) | fail)
    all_goals (first | (apply d_take 14; (case hi => rfl); (case hop => first | (apply PureOp.read; apply p_move <;> rfl)); (case hf => kernel_rfl); (case hr => kernel_rfl); (case hd => rfl)) | fail)
    all_goals (try (apply d_guardB 15; (case hi => rfl); (case hgd => rfl); (case h1 => rfl); (case h2 => first | rfl); all_goals (intro h; (try simp only [reduceCtorEq, dec_true, dec_false, decide_eq_true_eq, decide_eq_false_iff_not, Bool.not_eq_true', Bool.not_eq_false', Option.isNone_iff_eq_none, beq_true, beq_false, beq_iff_eq, beq_eq_false_iff_ne, ne_eq, decide_eq_decide, Bool.not_eq_true, Bool.not_eq_false, Decidable.not_not] at h); first | done | skip)))
    all_goals (first | (apply d_pass 15; (case hi => rfl); (case hg => rfl); (case hn => rfl); (case hf => kernel_rfl); (case hr => kernel_rfl); (case hd => rfl)) | (apply d_takeG 15; (case hi => rfl); (case hg => rfl); (case hop => first | (apply PureOp.read; apply p_move <;> rfl)); (case hf => kernel_rfl); (case hr => kernel_rfl); (case hd => rfl)) | fail)
    all_goals (try (apply d_guardB 16; (case hi => rfl); (case hgd => rfl); (case h1 => rfl); (case h2 => first | rfl); all_goals (intro h; (try simp only [reduceCtorEq, dec_true, dec_false, decide_eq_true_eq, decide_eq_false_iff_not, Bool.not_eq_true', Bool.not_eq_false', Option.isNone_iff_eq_none, beq_true, beq_false, beq_iff_eq, beq_eq_false_iff_ne, ne_eq, decide_eq_decide, Bool.not_eq_true, Bool.not_eq_false, Decidable.not_not] at h); first | done | skip)))
    all_goals (first | (apply d_pass 16; (case hi => rfl); (case hg => rfl); (case hn => rfl); (case hf => kernel_rfl); (case hr => kernel_rfl); (case hd => rfl)) | (apply d_takeG 16; (case hi => rfl); (case hg => rfl); (case hop => first | (apply PureOp.read; apply p_gt <;> rfl)); (case hf => kernel_rfl); (case hr => kernel_rfl); (case hd => rfl)) | fail)
    all_goals (first | (apply d_take 17; (case hi => rfl); (case hop => first | (apply PureOp.read; apply p_pickT <;> rfl) | (apply PureOp.read; apply p_pickF <;> rfl) | fail); (case hf => kernel_rfl); (case hr => kernel_rfl); (case hd => rfl)) | fail)
    all_goals (first | (apply d_take 18; (case hi => rfl); (case hop => first | (apply PureOp.read; apply p_move <;> rfl)); (case hf => kernel_rfl); (case hr => kernel_rfl); (case hd => rfl)) | fail)
    all_goals (try (apply d_guardB 19; (case hi => rfl); (case hgd => rfl); (case h1 => rfl); (case h2 => first | rfl); all_goals (intro h; (try simp only [reduceCtorEq, dec_true, dec_false, decide_eq_true_eq, decide_eq_false_iff_not, Bool.not_eq_true', Bool.not_eq_false', Option.isNone_iff_eq_none, beq_true, beq_false, beq_iff_eq, beq_eq_false_iff_ne, ne_eq, decide_eq_decide, Bool.not_eq_true, Bool.not_eq_false, Decidable.not_not] at h); first | done | skip)))
    all_goals (first | (apply d_pass 19; (case hi => rfl); (case hg => rfl); (case hn => rfl); (case hf => kernel_rfl); (case hr => kernel_rfl); (case hd => rfl)) | (apply d_takeG 19; (case hi => rfl); (case hg => rfl); (case hop => first | (apply PureOp.read; apply p_move <;> rfl)); (case hf => kernel_rfl); (case hr => kernel_rfl); (case hd => rfl)) | fail)
    all_goals (try (apply d_guardB 20; (case hi => rfl); (case hgd => rfl); (case h1 => rfl); (case h2 => first | rfl); all_goals (intro h; (try simp only [reduceCtorEq, dec_true, dec_false, decide_eq_true_eq, decide_eq_false_iff_not, Bool.not_eq_true', Bool.not_eq_false', Option.isNone_iff_eq_none, beq_true, beq_false, beq_iff_eq, beq_eq_false_iff_ne, ne_eq, decide_eq_decide, Bool.not_eq_true, Bool.not_eq_false, Decidable.not_not] at h); first | done | skip)))
    all_goals (first | (apply d_pass 20; (case hi => rfl); (case hg => rfl); (case hn => rfl); (case hf => kernel_rfl); (case hr => kernel_rfl); (case hd => rfl)) | (apply d_takeG 20; (case hi => rfl); (case hg => rfl); (case hop => first | (apply PureOp.read; apply p_move <;> rfl)); (case hf => kernel_rfl); (case hr => kernel_rfl); (case hd => rfl)) | fail)
    all_goals (try (apply d_guardB 21; (case hi => rfl); (case hgd => rfl); (case h1 => rfl); (case h2 => first | rfl); all_goals (intro h; (try simp only [reduceCtorEq, dec_true, dec_false, decide_eq_true_eq, decide_eq_false_iff_not, Bool.not_eq_true', Bool.not_eq_false', Option.isNone_iff_eq_none, beq_true, beq_false, beq_iff_eq, beq_eq_false_iff_ne, ne_eq, decide_eq_decide, Bool.not_eq_true, Bool.not_eq_false, Decidable.not_not] at h); first | done | skip)))
    all_goals (first | (apply d_pass 21; (case hi => rfl); (case hg => rfl); (case hn => rfl); (case hf => kernel_rfl); (case hr => kernel_rfl); (case hd => rfl)) | (apply d_takeG 21; (case hi => rfl); (case hg => rfl); (case hop => first | (apply PureOp.read; apply p_nilCheck <;> rfl)); (case hf => kernel_rfl); (case hr => kernel_rfl); (case hd => rfl)) | fail)
    all_goals (try (apply d_guardB 22; (case hi => rfl); (case hgd => rfl); (case h1 => rfl); (case h2 => first | rfl); all_goals (intro h; (try simp only [reduceCtorEq, dec_true, dec_false, decide_eq_true_eq, decide_eq_false_iff_not, Bool.not_eq_true', Bool.not_eq_false', Option.isNone_iff_eq_none, beq_true, beq_false, beq_iff_eq, beq_eq_false_iff_ne, ne_eq, decide_eq_decide, Bool.not_eq_true, Bool.not_eq_false, Decidable.not_not] at h); first | done | skip)))
    all_goals (first | (apply d_pass 22; (case hi => rfl); (case hg => rfl); (case hn => rfl); (case hf => kernel_rfl); (case hr => kernel_rfl); (case hd => rfl)) | (apply d_takeG 22; (case hi => rfl); (case hg => rfl); (case hop => first | (apply PureOp.read; apply p_fieldAddrB <;> rfl) | fail); (case hf => kernel_rfl); (case hr => kernel_rfl); (case hd => rfl)) | fail)
    all_goals (try (apply d_guardB 23; (case hi => rfl); (case hgd => rfl); (case h1 => rfl); (case h2 => first | rfl); all_goals (intro h; (try simp only [reduceCtorEq, dec_true, dec_false, decide_eq_true_eq, decide_eq_false_iff_not, Bool.not_eq_true', Bool.not_eq_false', Option.isNone_iff_eq_none, beq_true, beq_false, beq_iff_eq, beq_eq_false_iff_ne, ne_eq, decide_eq_decide, Bool.not_eq_true, Bool.not_eq_false, Decidable.not_not] at h); first | done | skip)))
    all_goals (first | (apply d_pass 23; (case hi => rfl); (case hg => rfl); (case hn => rfl); (case hf => kernel_rfl); (case hr => kernel_rfl); (case hd => rfl)) | (apply d_takeG 23; (case hi => rfl); (case hg => rfl); (case hop => first   | (apply r_loadNo; (case hx => rfl); (case h => (repeat (fail))); (case hd => (repeat (fail))); (case hn => rfl)) | (apply r_load1; rfl; (apply Cell.own; (case h => (repeat (first | exact List.Mem.head _ | apply List.Mem.tail | fail))); rfl)) | (apply r_loadN; rfl; (apply CellsAt.own; (case h => (repeat (fail)))); rfl)); (case hf => kernel_rfl); (case hr => kernel_rfl); (case hd => rfl)) | fail)
    all_goals (try (apply d_guardB 24; (case hi => rfl); (case hgd => rfl); (case h1 => rfl); (case h2 => first | rfl); all_goals (intro h; (try simp only [reduceCtorEq, dec_true, dec_false, decide_eq_true_eq, decide_eq_false_iff_not, Bool.not_eq_true', Bool.not_eq_false', Option.isNone_iff_eq_none, beq_true, beq_false, beq_iff_eq, beq_eq_false_iff_ne, ne_eq, decide_eq_decide, Bool.not_eq_true, Bool.not_eq_false, Decidable.not_not] at h); first | done | skip)))
    all_goals (first | (apply d_pass 24; (case hi => rfl); (case hg => rfl); (case hn => rfl); (case hf => kernel_rfl); (case hr => kernel_rfl); (case hd => rfl)) | (apply d_takeG 24; (case hi => rfl); (case hg => rfl); (case hop => first | (apply PureOp.read; apply p_le <;> rfl)); (case hf => kernel_rfl); (case hr => kernel_rfl); (case hd => rfl)) | fail)
    all_goals (first | (apply d_take 25; (case hi => rfl); (case hop => first | (apply PureOp.read; apply p_pickT <;> rfl) | (apply PureOp.read; apply p_pickF <;> rfl) | fail); (case hf => kernel_rfl); (case hr => kernel_rfl); (case hd => rfl)) | fail)
    all_goals (first | (apply d_take 26; (case hi => rfl); (case hop => first | (apply PureOp.read; apply p_move <;> rfl)); (case hf => kernel_rfl); (case hr => kernel_rfl); (case hd => rfl)) | fail)
    all_goals (try (apply d_guardB 27; (case hi => rfl); (case hgd => rfl); (case h1 => rfl); (case h2 => first | rfl); all_goals (intro h; (try simp only [reduceCtorEq, dec_true, dec_false, decide_eq_true_eq, decide_eq_false_iff_not, Bool.not_eq_true', Bool.not_eq_false', Option.isNone_iff_eq_none, beq_true, beq_false, beq_iff_eq, beq_eq_false_iff_ne, ne_eq, decide_eq_decide, Bool.not_eq_true, Bool.not_eq_false, Decidable.not_not] at h); first | done | skip)))
    all_goals (first | (apply d_pass 27; (case hi => rfl); (case hg => rfl); (case hn => rfl); (case hf => kernel_rfl); (case hr => kernel_rfl); (case hd => rfl)) | (apply d_takeG 27; (case hi => rfl); (case hg => rfl); (case hop => first | (apply PureOp.read; apply p_move <;> rfl)); (case hf => kernel_rfl); (case hr => kernel_rfl); (case hd => rfl)) | fail)
    all_goals (try (apply d_guardB 28; (case hi => rfl); (case hgd => rfl); (case h1 => rfl); (case h2 => first | rfl); all_goals (intro h; (try simp only [reduceCtorEq, dec_true, dec_false, decide_eq_true_eq, decide_eq_false_iff_not, Bool.not_eq_true', Bool.not_eq_false', Option.isNone_iff_eq_none, beq_true, beq_false, beq_iff_eq, beq_eq_false_iff_ne, ne_eq, decide_eq_decide, Bool.not_eq_true, Bool.not_eq_false, Decidable.not_not] at h); first | done | skip)))
    all_goals (first | (apply d_pass 28; (case hi => rfl); (case hg => rfl); (case hn => rfl); (case hf => kernel_rfl); (case hr => kernel_rfl); (case hd => rfl)) | (apply d_takeG 28; (case hi => rfl); (case hg => rfl); (case hop => first | (apply PureOp.read; apply p_lt <;> rfl)); (case hf => kernel_rfl); (case hr => kernel_rfl); (case hd => rfl)) | fail)
    all_goals (first | (apply d_take 29; (case hi => rfl); (case hop => first | (apply PureOp.read; apply p_pickT <;> rfl) | (apply PureOp.read; apply p_pickF <;> rfl) | fail); (case hf => kernel_rfl); (case hr => kernel_rfl); (case hd => rfl)) | fail)
    all_goals (first | (apply d_take 30; (case hi => rfl); (case hop => first | (apply PureOp.read; apply p_move <;> rfl)); (case hf => kernel_rfl); (case hr => kernel_rfl); (case hd => rfl)) | fail)
    all_goals (try (apply d_guardB 31; (case hi => rfl); (case hgd => rfl); (case h1 => rfl); (case h2 => first | rfl); all_goals (intro h; (try simp only [reduceCtorEq, dec_true, dec_false, decide_eq_true_eq, decide_eq_false_iff_not, Bool.not_eq_true', Bool.not_eq_false', Option.isNone_iff_eq_none, beq_true, beq_false, beq_iff_eq, beq_eq_false_iff_ne, ne_eq, decide_eq_decide, Bool.not_eq_true, Bool.not_eq_false, Decidable.not_not] at h); first | done | skip)))
    all_goals (first | (apply d_pass 31; (case hi => rfl); (case hg => rfl); (case hn => rfl); (case hf => kernel_rfl); (case hr => kernel_rfl); (case hd => rfl)) | (apply d_takeG 31; (case hi => rfl); (case hg => rfl); (case hop => first | (apply PureOp.read; apply p_move <;> rfl)); (case hf => kernel_rfl); (case hr => kernel_rfl); (case hd => rfl)) | fail)
    all_goals (try (apply d_guardB 32; (case hi => rfl); (case hgd => rfl); (case h1 => rfl); (case h2 => first | rfl); all_goals (intro h; (try simp only [reduceCtorEq, dec_true, dec_false, decide_eq_true_eq, decide_eq_false_iff_not, Bool.not_eq_true', Bool.not_eq_false', Option.isNone_iff_eq_none, beq_true, beq_false, beq_iff_eq, beq_eq_false_iff_ne, ne_eq, decide_eq_decide, Bool.not_eq_true, Bool.not_eq_false, Decidable.not_not] at h); first | done | skip)))
    all_goals (first | (apply d_pass 32; (case hi => rfl); (case hg => rfl); (case hn => rfl); (case hf => kernel_rfl); (case hr => kernel_rfl); (case hd => rfl)) | (apply d_takeG 32; (case hi => rfl); (case hg => rfl); (case hop => first | (apply PureOp.read; apply p_gt <;> rfl)); (case hf => kernel_rfl); (case hr => kernel_rfl); (case hd => rfl)) | fail)
    all_goals (first | (apply d_take 33; (case hi => rfl); (case hop => first | (apply PureOp.read; apply p_pickT <;> rfl) | (apply PureOp.read; apply p_pickF <;> rfl) | fail); (case hf => kernel_rfl); (case hr => kernel_rfl); (case hd => rfl)) | fail)
    all_goals (apply d_done; (case hr => kernel_rfl))
    repeat' (first | apply v_seq | apply v_region | apply v_nil | (apply v_pure; (case hop => first | (apply p_assign <;> rfl) | fail); (case hd => rfl)) | (apply v_condT; (case hc => rfl)) | (apply v_cond; (case hc => rfl); all_goals (intro h; (try simp only [reduceCtorEq, dec_true, dec_false, decide_eq_true_eq, decide_eq_false_iff_not, Bool.not_eq_true', Bool.not_eq_false', Option.isNone_iff_eq_none, beq_true, beq_false, beq_iff_eq, beq_eq_false_iff_ne, ne_eq, decide_eq_decide, Bool.not_eq_true, Bool.not_eq_false, Decidable.not_not] at h); first | (exfalso; omega) | skip)) | fail)
    all_goals (refine v_ret [(t, _), (m, oM)] (outsA1 rfl rfl) (by repeat (first | exact List.Sublist.refl _ | apply List.Sublist.cons | fail)) ⟨rfl, rfl, oM, hM, rfl⟩)
  · obtain ⟨k, rfl⟩ : ∃ k : Nat, nd = k := ⟨nd.toNat, by omega⟩
    have ek : ((k : Nat) : Int).toNat = k := by omega
    have hk9 : k ≤ 9 := by omega
    have hx := hs i
    have hC : voteC r n low V r' n' i (k : Nat) ↔ (r' = r ∧ n' = n) ∧ 1 ≤ i ∧ i ≤ 4294967296 ∧ low < i ∧ (nget V i).testBit k = false := by
      unfold voteC
      rw [ek]
      exact ⟨fun h => ⟨h.1, h.2.1, h.2.2.1, h.2.2.2.1, h.2.2.2.2.2.2⟩, fun h => ⟨h.1, h.2.1, h.2.2.1, h.2.2.2.1, by omega, by omega, h.2.2.2.2⟩⟩
    have hpw : 1 * 2 ^ k ≤ 512 := by
      have : 2 ^ k ≤ 2 ^ 9 := Nat.pow_le_pow_right (by omega) hk9
      omega
    have hab := and_bit (x := nget V i) (nd := k)
    have hput := vl_put V i (nget V i ||| 1 * 2 ^ k)
    have ev : nput V i (nget V i ||| 2 ^ ((k : Nat) : Int).toNat) = nput V i (nget V i ||| 1 * 2 ^ k) := by rw [ek, Nat.one_mul]
    rw [ev]
    have rv := fun (σ : Env) (x a : Operand) (μ : OH) (ty : TypeId) (hb : (m, oM) ∈ μ) => r_votes (σ := σ) (G := G) (μ := μ) (ty := ty) (x := x) (i := a) i hb hM
    generalize hxe : nget V i = x at *
    generalize htb : x.testBit k = tb at *
    repeat' (first | apply v_seq | apply v_region | apply v_nil | (apply v_pure; (case hop => first | (apply p_assign <;> rfl) | fail); (case hd => rfl)) | (apply v_box (zs := [.int .i64 r', .int .i64 n']); (case hx => rfl); (case hz => rfl); (case hd => rfl); intro b) | fail)
    refine d_start _ (by kernel_rfl) (by kernel_rfl) (by kernel_rfl) (fun _ he => he) ?_
    all_goals (first | (apply d_take 0; (case hi => rfl); (case hop => first | (apply PureOp.read; apply p_move <;> rfl)); (case hf => kernel_rfl); (case hr => kernel_rfl); (case hd => rfl)) | fail)
    all_goals (first | (apply d_take 1; (case hi => rfl); (case hop => first | (apply PureOp.read; apply p_eqNil <;> rfl) | fail); (case hf => kernel_rfl); (case hr => kernel_rfl); (case hd => rfl)) | fail)
    all_goals (first | (apply d_take 2; (case hi => rfl); (case hop => first | (apply PureOp.read; apply p_move <;> rfl)); (case hf => kernel_rfl); (case hr => kernel_rfl); (case hd => rfl)) | fail)
    all_goals (try (apply d_guardB 3; (case hi => rfl); (case hgd => rfl); (case h1 => rfl); (case h2 => first | rfl); all_goals (intro h; (try simp only [reduceCtorEq, dec_true, dec_false, decide_eq_true_eq, decide_eq_false_iff_not, Bool.not_eq_true', Bool.not_eq_false', Option.isNone_iff_eq_none, beq_true, beq_false, beq_iff_eq, beq_eq_false_iff_ne, ne_eq, decide_eq_decide, Bool.not_eq_true, Bool.not_eq_false, Decidable.not_not] at h); first | done | skip)))
    all_goals (first | (apply d_takeG 3; (case hi => rfl); (case hg => rfl); (case hop => first   | (apply r_loadNo; (case hx => rfl); (case h => (repeat (first | exact List.Mem.head _ | fail))); (case hd => (repeat (first | with_reducible exact dt_nil | apply dt_here | fail))); (case hn => rfl)) | (apply r_load1; rfl; (apply Cell.own; (case h => (repeat (fail))); rfl)) | (apply r_loadN; rfl; (apply CellsAt.own; (case h => (repeat (fail)))); rfl)); (case hf => kernel_rfl); (case hr => kernel_rfl); (case hd => rfl)) | fail)
    all_goals (try (apply d_guardB 4; (case hi => rfl); (case hgd => rfl); (case h1 => rfl); (case h2 => first | rfl); all_goals (intro h; (try simp only [reduceCtorEq, dec_true, dec_false, decide_eq_true_eq, decide_eq_false_iff_not, Bool.not_eq_true', Bool.not_eq_false', Option.isNone_iff_eq_none, beq_true, beq_false, beq_iff_eq, beq_eq_false_iff_ne, ne_eq, decide_eq_decide, Bool.not_eq_true, Bool.not_eq_false, Decidable.not_not] at h); first | done | skip)))
    all_goals (first | (apply d_takeG 4; (case hi => rfl); (case hg => rfl); (case hop => first | (apply PureOp.read; apply p_move <;> rfl)); (case hf => kernel_rfl); (case hr => kernel_rfl); (case hd => rfl)) | fail)
    all_goals (try (apply d_guardB 5; (case hi => rfl); (case hgd => rfl); (case h1 => rfl); (case h2 => first | rfl); all_goals (intro h; (try simp only [reduceCtorEq, dec_true, dec_false, decide_eq_true_eq, decide_eq_false_iff_not, Bool.not_eq_true', Bool.not_eq_false', Option.isNone_iff_eq_none, beq_true, beq_false, beq_iff_eq, beq_eq_false_iff_ne, ne_eq, decide_eq_decide, Bool.not_eq_true, Bool.not_eq_false, Decidable.not_not] at h); first | done | skip)))
    all_goals (first | (apply d_takeG 5; (case hi => rfl); (case hg => rfl); (case hop => first | (apply PureOp.read; apply p_nilCheck <;> rfl)); (case hf => kernel_rfl); (case hr => kernel_rfl); (case hd => rfl)) | fail)
    all_goals (try (apply d_guardB 6; (case hi => rfl); (case hgd => rfl); (case h1 => rfl); (case h2 => first | rfl); all_goals (intro h; (try simp only [reduceCtorEq, dec_true, dec_false, decide_eq_true_eq, decide_eq_false_iff_not, Bool.not_eq_true', Bool.not_eq_false', Option.isNone_iff_eq_none, beq_true, beq_false, beq_iff_eq, beq_eq_false_iff_ne, ne_eq, decide_eq_decide, Bool.not_eq_true, Bool.not_eq_false, Decidable.not_not] at h); first | done | skip)))
    all_goals (first | (apply d_takeG 6; (case hi => rfl); (case hg => rfl); (case hop => first | (apply PureOp.read; apply p_fieldAddrB <;> rfl) | fail); (case hf => kernel_rfl); (case hr => kernel_rfl); (case hd => rfl)) | fail)
    all_goals (try (apply d_guardB 7; (case hi => rfl); (case hgd => rfl); (case h1 => rfl); (case h2 => first | rfl); all_goals (intro h; (try simp only [reduceCtorEq, dec_true, dec_false, decide_eq_true_eq, decide_eq_false_iff_not, Bool.not_eq_true', Bool.not_eq_false', Option.isNone_iff_eq_none, beq_true, beq_false, beq_iff_eq, beq_eq_false_iff_ne, ne_eq, decide_eq_decide, Bool.not_eq_true, Bool.not_eq_false, Decidable.not_not] at h); first | done | skip)))
    all_goals (first | (apply d_takeG 7; (case hi => rfl); (case hg => rfl); (case hop => first   | (apply r_loadNo; (case hx => rfl); (case h => (repeat (first | exact List.Mem.head _ | apply List.Mem.tail | fail))); (case hd => (repeat (first | with_reducible exact dt_nil | apply dt_here | fail))); (case hn => rfl)) | (apply r_load1; rfl; (apply Cell.own; (case h => (repeat (fail))); rfl)) | (apply r_loadN; rfl; (apply CellsAt.own; (case h => (repeat (fail)))); rfl)); (case hf => kernel_rfl); (case hr => kernel_rfl); (case hd => rfl)) | fail)
    all_goals (try (apply d_guardB 8; (case hi => rfl); (case hgd => rfl); (case h1 => rfl); (case h2 => first | rfl); all_goals (intro h; (try simp only [reduceCtorEq, dec_true, dec_false, decide_eq_true_eq, decide_eq_false_iff_not, Bool.not_eq_true', Bool.not_eq_false', Option.isNone_iff_eq_none, beq_true, beq_false, beq_iff_eq, beq_eq_false_iff_ne, ne_eq, decide_eq_decide, Bool.not_eq_true, Bool.not_eq_false, Decidable.not_not] at h); first | done | skip)))
    all_goals (first | (apply d_takeG 8; (case hi => rfl); (case hg => rfl); (case hop => first | ((apply PureOp.read; apply neBal; (case hx => rfl); (case hy => rfl))) | fail); (case hf => kernel_rfl); (case hr => kernel_rfl); (case hd => rfl)) | fail)
    all_goals (first | (apply d_take 9; (case hi => rfl); (case hop => first | (apply PureOp.read; apply p_pickF <;> rfl) | fail); (case hf => kernel_rfl); (case hr => kernel_rfl); (case hd => rfl)) | fail)
    all_goals (first | (apply d_take 10; (case hi => rfl); (case hop => first | (apply PureOp.read; apply p_move <;> rfl)); (case hf => kernel_rfl); (case hr => kernel_rfl); (case hd => rfl)) | fail)
    all_goals (try (apply d_guardB 11; (case hi => rfl); (case hgd => rfl); (case h1 => rfl); (case h2 => first | rfl); all_goals (intro h; (try simp only [reduceCtorEq, dec_true, dec_false, decide_eq_true_eq, decide_eq_false_iff_not, Bool.not_eq_true', Bool.not_eq_false', Option.isNone_iff_eq_none, beq_true, beq_false, beq_iff_eq, beq_eq_false_iff_ne, ne_eq, decide_eq_decide, Bool.not_eq_true, Bool.not_eq_false, Decidable.not_not] at h); first | skip)))
    all_goals (first | (apply d_pass 11; (case hi => rfl); (case hg => rfl); (case hn => rfl); (case hf => kernel_rfl); (case hr => kernel_rfl); (case hd => rfl)) | (apply d_takeG 11; (case hi => rfl); (case hg => rfl); (case hop => first | (apply PureOp.read; apply p_move <;> rfl)); (case hf => kernel_rfl); (case hr => kernel_rfl); (case hd => rfl)) | fail)
    all_goals (try (apply d_guardB 12; (case hi => rfl); (case hgd => rfl); (case h1 => rfl); (case h2 => first | rfl); all_goals (intro h; (try simp only [reduceCtorEq, dec_true, dec_false, decide_eq_true_eq, decide_eq_false_iff_not, Bool.not_eq_true', Bool.not_eq_false', Option.isNone_iff_eq_none, beq_true, beq_false, beq_iff_eq, beq_eq_false_iff_ne, ne_eq, decide_eq_decide, Bool.not_eq_true, Bool.not_eq_false, Decidable.not_not] at h); first | done | skip)))
    all_goals (first | (apply d_pass 12; (case hi => rfl); (case hg => rfl); (case hn => rfl); (case hf => kernel_rfl); (case hr => kernel_rfl); (case hd => rfl)) | (apply d_takeG 12; (case hi => rfl); (case hg => rfl); (case hop => first | (apply PureOp.read; apply p_lt <;> rfl)); (case hf => kernel_rfl); (case hr => kernel_rfl); (case hd => rfl)) | fail)
    all_goals (first | (apply d_take 13; (case hi => rfl); (case hop => first | (apply PureOp.read; apply p_pickT <;> rfl) | (apply PureOp.read; apply p_pickF <;> rfl) | fail); (case hf => kernel_rfl); (case hr => kernel_rfl); (case hd => rfl)) | fail)
    all_goals (first | (apply d_take 14; (case hi => rfl); (case hop => first | (apply PureOp.read; apply p_move <;> rfl)); (case hf => kernel_rfl); (case hr => kernel_rfl); (case hd => rfl)) | fail)
    all_goals (try (apply d_guardB 15; (case hi => rfl); (case hgd => rfl); (case h1 => rfl); (case h2 => first | rfl); all_goals (intro h; (try simp only [reduceCtorEq, dec_true, dec_false, decide_eq_true_eq, decide_eq_false_iff_not, Bool.not_eq_true', Bool.not_eq_false', Option.isNone_iff_eq_none, beq_true, beq_false, beq_iff_eq, beq_eq_false_iff_ne, ne_eq, decide_eq_decide, Bool.not_eq_true, Bool.not_eq_false, Decidable.not_not] at h); first | done | skip)))
    all_goals (first | (apply d_pass 15; (case hi => rfl); (case hg => rfl); (case hn => rfl); (case hf => kernel_rfl); (case hr => kernel_rfl); (case hd => rfl)) | (apply d_takeG 15; (case hi => rfl); (case hg => rfl); (case hop => first | (apply PureOp.read; apply p_move <;> rfl)); (case hf => kernel_rfl); (case hr => kernel_rfl); (case hd => rfl)) | fail)
    all_goals (try (apply d_guardB 16; (case hi => rfl); (case hgd => rfl); (case h1 => rfl); (case h2 => first | rfl); all_goals (intro h; (try simp only [reduceCtorEq, dec_true, dec_false, decide_eq_true_eq, decide_eq_false_iff_not, Bool.not_eq_true', Bool.not_eq_false', Option.isNone_iff_eq_none, beq_true, beq_false, beq_iff_eq, beq_eq_false_iff_ne, ne_eq, decide_eq_decide, Bool.not_eq_true, Bool.not_eq_false, Decidable.not_not] at h); first | done | skip)))
    all_goals (first | (apply d_pass 16; (case hi => rfl); (case hg => rfl); (case hn => rfl); (case hf => kernel_rfl); (case hr => kernel_rfl); (case hd => rfl)) | (apply d_takeG 16; (case hi => rfl); (case hg => rfl); (case hop => first | (apply PureOp.read; apply p_gt <;> rfl)); (case hf => kernel_rfl); (case hr => kernel_rfl); (case hd => rfl)) | fail)
    all_goals (first | (apply d_take 17; (case hi => rfl); (case hop => first | (apply PureOp.read; apply p_pickT <;> rfl) | (apply PureOp.read; apply p_pickF <;> rfl) | fail); (case hf => kernel_rfl); (case hr => kernel_rfl); (case hd => rfl)) | fail)
    all_goals (first | (apply d_take 18; (case hi => rfl); (case hop => first | (apply PureOp.read; apply p_move <;> rfl)); (case hf => kernel_rfl); (case hr => kernel_rfl); (case hd => rfl)) | fail)
    all_goals (try (apply d_guardB 19; (case hi => rfl); (case hgd => rfl); (case h1 => rfl); (case h2 => first | rfl); all_goals (intro h; (try simp only [reduceCtorEq, dec_true, dec_false, decide_eq_true_eq, decide_eq_false_iff_not, Bool.not_eq_true', Bool.not_eq_false', Option.isNone_iff_eq_none, beq_true, beq_false, beq_iff_eq, beq_eq_false_iff_ne, ne_eq, decide_eq_decide, Bool.not_eq_true, Bool.not_eq_false, Decidable.not_not] at h); first | done | skip)))
    all_goals (first | (apply d_pass 19; (case hi => rfl); (case hg => rfl); (case hn => rfl); (case hf => kernel_rfl); (case hr => kernel_rfl); (case hd => rfl)) | (apply d_takeG 19; (case hi => rfl); (case hg => rfl); (case hop => first | (apply PureOp.read; apply p_move <;> rfl)); (case hf => kernel_rfl); (case hr => kernel_rfl); (case hd => rfl)) | fail)
    all_goals (try (apply d_guardB 20; (case hi => rfl); (case hgd => rfl); (case h1 => rfl); (case h2 => first | rfl); all_goals (intro h; (try simp only [reduceCtorEq, dec_true, dec_false, decide_eq_true_eq, decide_eq_false_iff_not, Bool.not_eq_true', Bool.not_eq_false', Option.isNone_iff_eq_none, beq_true, beq_false, beq_iff_eq, beq_eq_false_iff_ne, ne_eq, decide_eq_decide, Bool.not_eq_true, Bool.not_eq_false, Decidable.not_not] at h); first | done | skip)))
    all_goals (first | (apply d_pass 20; (case hi => rfl); (case hg => rfl); (case hn => rfl); (case hf => kernel_rfl); (case hr => kernel_rfl); (case hd => rfl)) | (apply d_takeG 20; (case hi => rfl); (case hg => rfl); (case hop => first | (apply PureOp.read; apply p_move <;> rfl)); (case hf => kernel_rfl); (case hr => kernel_rfl); (case hd => rfl)) | fail)
    all_goals (try (apply d_guardB 21; (case hi => rfl); (case hgd => rfl); (case h1 => rfl); (case h2 => first | rfl); all_goals (intro h; (try simp only [reduceCtorEq, dec_true, dec_false, decide_eq_true_eq, decide_eq_false_iff_not, Bool.not_eq_true', Bool.not_eq_false', Option.isNone_iff_eq_none, beq_true, beq_false, beq_iff_eq, beq_eq_false_iff_ne, ne_eq, decide_eq_decide, Bool.not_eq_true, Bool.not_eq_false, Decidable.not_not] at h); first | done | skip)))
    all_goals (first | (apply d_pass 21; (case hi => rfl); (case hg => rfl); (case hn => rfl); (case hf => kernel_rfl); (case hr => kernel_rfl); (case hd => rfl)) | (apply d_takeG 21; (case hi => rfl); (case hg => rfl); (case hop => first | (apply PureOp.read; apply p_nilCheck <;> rfl)); (case hf => kernel_rfl); (case hr => kernel_rfl); (case hd => rfl)) | fail)
    all_goals (try (apply d_guardB 22; (case hi => rfl); (case hgd => rfl); (case h1 => rfl); (case h2 => first | rfl); all_goals (intro h; (try simp only [reduceCtorEq, dec_true, dec_false, decide_eq_true_eq, decide_eq_false_iff_not, Bool.not_eq_true', Bool.not_eq_false', Option.isNone_iff_eq_none, beq_true, beq_false, beq_iff_eq, beq_eq_false_iff_ne, ne_eq, decide_eq_decide, Bool.not_eq_true, Bool.not_eq_false, Decidable.not_not] at h); first | done | skip)))
    all_goals (first | (apply d_pass 22; (case hi => rfl); (case hg => rfl); (case hn => rfl); (case hf => kernel_rfl); (case hr => kernel_rfl); (case hd => rfl)) | (apply d_takeG 22; (case hi => rfl); (case hg => rfl); (case hop => first | (apply PureOp.read; apply p_fieldAddrB <;> rfl) | fail); (case hf => kernel_rfl); (case hr => kernel_rfl); (case hd => rfl)) | fail)
    all_goals (try (apply d_guardB 23; (case hi => rfl); (case hgd => rfl); (case h1 => rfl); (case h2 => first | rfl); all_goals (intro h; (try simp only [reduceCtorEq, dec_true, dec_false, decide_eq_true_eq, decide_eq_false_iff_not, Bool.not_eq_true', Bool.not_eq_false', Option.isNone_iff_eq_none, beq_true, beq_false, beq_iff_eq, beq_eq_false_iff_ne, ne_eq, decide_eq_decide, Bool.not_eq_true, Bool.not_eq_false, Decidable.not_not] at h); first | done | skip)))
    all_goals (first | (apply d_pass 23; (case hi => rfl); (case hg => rfl); (case hn => rfl); (case hf => kernel_rfl); (case hr => kernel_rfl); (case hd => rfl)) | (apply d_takeG 23; (case hi => rfl); (case hg => rfl); (case hop => first   | (apply r_loadNo; (case hx => rfl); (case h => (repeat (fail))); (case hd => (repeat (fail))); (case hn => rfl)) | (apply r_load1; rfl; (apply Cell.own; (case h => (repeat (first | exact List.Mem.head _ | apply List.Mem.tail | fail))); rfl)) | (apply r_loadN; rfl; (apply CellsAt.own; (case h => (repeat (fail)))); rfl)); (case hf => kernel_rfl); (case hr => kernel_rfl); (case hd => rfl)) | fail)
    all_goals (try (apply d_guardB 24; (case hi => rfl); (case hgd => rfl); (case h1 => rfl); (case h2 => first | rfl); all_goals (intro h; (try simp only [reduceCtorEq, dec_true, dec_false, decide_eq_true_eq, decide_eq_false_iff_not, Bool.not_eq_true', Bool.not_eq_false', Option.isNone_iff_eq_none, beq_true, beq_false, beq_iff_eq, beq_eq_false_iff_ne, ne_eq, decide_eq_decide, Bool.not_eq_true, Bool.not_eq_false, Decidable.not_not] at h); first | done | skip)))
    all_goals (first | (apply d_pass 24; (case hi => rfl); (case hg => rfl); (case hn => rfl); (case hf => kernel_rfl); (case hr => kernel_rfl); (case hd => rfl)) | (apply d_takeG 24; (case hi => rfl); (case hg => rfl); (case hop => first | (apply PureOp.read; apply p_le <;> rfl)); (case hf => kernel_rfl); (case hr => kernel_rfl); (case hd => rfl)) | fail)
    all_goals (first | (apply d_take 25; (case hi => rfl); (case hop => first | (apply PureOp.read; apply p_pickT <;> rfl) | (apply PureOp.read; apply p_pickF <;> rfl) | fail); (case hf => kernel_rfl); (case hr => kernel_rfl); (case hd => rfl)) | fail)
    all_goals (first | (apply d_take 26; (case hi => rfl); (case hop => first | (apply PureOp.read; apply p_move <;> rfl)); (case hf => kernel_rfl); (case hr => kernel_rfl); (case hd => rfl)) | fail)
    all_goals (try (apply d_guardB 27; (case hi => rfl); (case hgd => rfl); (case h1 => rfl); (case h2 => first | rfl); all_goals (intro h; (try simp only [reduceCtorEq, dec_true, dec_false, decide_eq_true_eq, decide_eq_false_iff_not, Bool.not_eq_true', Bool.not_eq_false', Option.isNone_iff_eq_none, beq_true, beq_false, beq_iff_eq, beq_eq_false_iff_ne, ne_eq, decide_eq_decide, Bool.not_eq_true, Bool.not_eq_false, Decidable.not_not] at h); first | done | skip)))
    all_goals (first | (apply d_pass 27; (case hi => rfl); (case hg => rfl); (case hn => rfl); (case hf => kernel_rfl); (case hr => kernel_rfl); (case hd => rfl)) | (apply d_takeG 27; (case hi => rfl); (case hg => rfl); (case hop => first | (apply PureOp.read; apply p_move <;> rfl)); (case hf => kernel_rfl); (case hr => kernel_rfl); (case hd => rfl)) | fail)
    all_goals (try (apply d_guardB 28; (case hi => rfl); (case hgd => rfl); (case h1 => rfl); (case h2 => first | rfl); all_goals (intro h; (try simp only [reduceCtorEq, dec_true, dec_false, decide_eq_true_eq, decide_eq_false_iff_not, Bool.not_eq_true', Bool.not_eq_false', Option.isNone_iff_eq_none, beq_true, beq_false, beq_iff_eq, beq_eq_false_iff_ne, ne_eq, decide_eq_decide, Bool.not_eq_true, Bool.not_eq_false, Decidable.not_not] at h); first | done | skip)))
    all_goals (first | (apply d_pass 28; (case hi => rfl); (case hg => rfl); (case hn => rfl); (case hf => kernel_rfl); (case hr => kernel_rfl); (case hd => rfl)) | (apply d_takeG 28; (case hi => rfl); (case hg => rfl); (case hop => first | (apply PureOp.read; apply p_lt <;> rfl)); (case hf => kernel_rfl); (case hr => kernel_rfl); (case hd => rfl)) | fail)
    all_goals (first | (apply d_take 29; (case hi => rfl); (case hop => first | (apply PureOp.read; apply p_pickT <;> rfl) | (apply PureOp.read; apply p_pickF <;> rfl) | fail); (case hf => kernel_rfl); (case hr => kernel_rfl); (case hd => rfl)) | fail)
    all_goals (first | (apply d_take 30; (case hi => rfl); (case hop => first | (apply PureOp.read; apply p_move <;> rfl)); (case hf => kernel_rfl); (case hr => kernel_rfl); (case hd => rfl)) | fail)
    all_goals (try (apply d_guardB 31; (case hi => rfl); (case hgd => rfl); (case h1 => rfl); (case h2 => first | rfl); all_goals (intro h; (try simp only [reduceCtorEq, dec_true, dec_false, decide_eq_true_eq, decide_eq_false_iff_not, Bool.not_eq_true', Bool.not_eq_false', Option.isNone_iff_eq_none, beq_true, beq_false, beq_iff_eq, beq_eq_false_iff_ne, ne_eq, decide_eq_decide, Bool.not_eq_true, Bool.not_eq_false, Decidable.not_not] at h); first | done | (exfalso; omega) | skip)))
    all_goals (first | (apply d_pass 31; (case hi => rfl); (case hg => rfl); (case hn => rfl); (case hf => kernel_rfl); (case hr => kernel_rfl); (case hd => rfl)) | (apply d_takeG 31; (case hi => rfl); (case hg => rfl); (case hop => first | (apply PureOp.read; apply p_move <;> rfl)); (case hf => kernel_rfl); (case hr => kernel_rfl); (case hd => rfl)) | fail)
    all_goals (try (apply d_guardB 32; (case hi => rfl); (case hgd => rfl); (case h1 => rfl); (case h2 => first | rfl); all_goals (intro h; (try simp only [reduceCtorEq, dec_true, dec_false, decide_eq_true_eq, decide_eq_false_iff_not, Bool.not_eq_true', Bool.not_eq_false', Option.isNone_iff_eq_none, beq_true, beq_false, beq_iff_eq, beq_eq_false_iff_ne, ne_eq, decide_eq_decide, Bool.not_eq_true, Bool.not_eq_false, Decidable.not_not] at h); first | done | skip)))
    all_goals (first | (apply d_pass 32; (case hi => rfl); (case hg => rfl); (case hn => rfl); (case hf => kernel_rfl); (case hr => kernel_rfl); (case hd => rfl)) | (apply d_takeG 32; (case hi => rfl); (case hg => rfl); (case hop => first | (apply PureOp.read; apply p_gt <;> rfl)); (case hf => kernel_rfl); (case hr => kernel_rfl); (case hd => rfl)) | fail)
    all_goals (first | (apply d_take 33; (case hi => rfl); (case hop => first | (apply PureOp.read; apply p_pickT <;> rfl) | (apply PureOp.read; apply p_pickF <;> rfl) | fail); (case hf => kernel_rfl); (case hr => kernel_rfl); (case hd => rfl)) | fail)
    all_goals (apply d_done; (case hr => kernel_rfl))
    repeat' (first | apply v_seq | apply v_region | apply v_nil | apply v_skip | (apply v_pure; (case hop => first | (apply p_move <;> rfl) | (apply p_ne <;> rfl) | (apply p_assign <;> rfl) | (apply p_fieldAddrB <;> rfl) | (apply p_nilCheck <;> rfl) | fail); (case hd => rfl)) | (apply v_condT; (case hc => rfl)) | (apply v_cond; (case hc => rfl); all_goals (intro h; (try simp only [reduceCtorEq, dec_true, dec_false, decide_eq_true_eq, decide_eq_false_iff_not, Bool.not_eq_true', Bool.not_eq_false', Option.isNone_iff_eq_none, beq_true, beq_false, beq_iff_eq, beq_eq_false_iff_ne, ne_eq, decide_eq_decide, Bool.not_eq_true, Bool.not_eq_false, Decidable.not_not] at h); first | (exfalso; omega) | skip)) | (apply v_pure; (case hop => first | (apply p_shlU (a := 1); (case hx => rfl); (case hy => rfl); all_goals omega) | (apply p_andU; (case hx => rfl); (case hy => rfl); all_goals omega) | (apply p_orU; (case hx => rfl); (case hy => rfl); all_goals omega)); (case hd => rfl)) | (apply v_read; (case hop => apply rv; (case hb => repeat (first | exact List.Mem.head _ | apply List.Mem.tail)); all_goals rfl); (case hd => rfl)) | (apply v_mapUpdate (k := 3) (mk := keyI) i (hM := hM); (case hx => rfl); (case hi => rfl); (case hy => rfl); (case hp => exact PickA.perm (ν := [(m, oM)]) (by repeat (first | exact PickA.last | apply PickA.cons | fail))); intro oM2 hM2 hK2) | (apply v_read; (case hop => first | (apply r_load1; rfl; (apply Cell.own; (case h => (repeat (first | exact List.Mem.head _ | apply List.Mem.tail | fail))); rfl)) | fail); (case hd => rfl)) | fail)
    rotate_left 5
    · have hyes : voteC r n low V r' n' i (k : Nat) := hC.2 ⟨by assumption, by omega, by omega, by omega, hab.1 (by omega)⟩
      rw [if_pos hyes, decide_eq_true hyes]
      rw [hput] at hM2
      refine v_perm (List.perm_append_comm (l₁ := [(m, oM2), (b, Obj.cells [Value.int .i64 r', Value.int .i64 n'].toArray 26 (0, 0))]) (l₂ := [(t, tO r n m low)])) ?_
      refine v_ret [(t, _), (m, oM2)] (outsA1 rfl rfl) (by repeat (first | exact List.nil_sublist _ | apply List.Sublist.cons_cons | fail)) ⟨rfl, rfl, oM2, hM2, rfl⟩
    all_goals
      (have hno : ¬ voteC r n low V r' n' i (k : Nat) := fun hh => by
         have hh2 := hC.1 hh
         first
           | omega
           | exact absurd hh2.1 (by assumption)
           | (have h3 := hab.2 hh2.2.2.2.2; omega)
       rw [if_neg hno, decide_eq_false hno]
       refine v_ret [(t, _), (m, oM)] (outsA1 rfl rfl) (by repeat (first | exact List.Sublist.refl _ | apply List.Sublist.cons | fail)) ⟨rfl, rfl, oM, hM, rfl⟩)
theorem nodes_s {G : GH} {r n low : Int} {V : Vs} {t m : Nat} {oM : Obj} (i : Int) (hM : MapB keyI (vl V) oM) (hs : ∀ j, nget V j < 1024) :
    Con Try.prog 13 #[.pointer (some ⟨t, 0, none⟩), .int .i64 i] G [(t, tO r n m low), (m, oM)]
      (fun v G' μ' => G' = G ∧ ∃ ν, Grow 3 1 v (nodesB (nget V i)).length ((nodesB (nget V i)).map (Value.int .i64 ·)) ν ∧ μ' = ν ++ [(t, tO r n m low), (m, oM)]) := by
  have hx := hs i
  have rv := fun (σ : Env) (x a : Operand) (μ : OH) (ty : TypeId) (hb : (m, oM) ∈ μ) => r_votes (σ := σ) (G := G) (μ := μ) (ty := ty) (x := x) (i := a) i hb hM
  unfold nodesB
  generalize nget V i = x at *
  (refine v_enter Try.func13 rfl Try.ntmps13 rfl ?_; intro B _)
  repeat' (first | apply v_seq | apply v_region | apply v_nil | apply v_skip | apply v_block | (apply v_pure; (case hop => first | (apply p_move <;> rfl) | (apply p_assign <;> rfl) | (apply p_eqNil <;> rfl) | fail); (case hd => rfl)) | (apply v_condF; (case hc => rfl)) | fail)
  refine v_loop [9, 5, 0, 1] (fun us G' μ' => G' = G ∧ ∃ k v ν, k ≤ 10 ∧ us = [Value.int .i64 (k : Nat), v, .pointer (some ⟨t, 0, none⟩), .int .i64 i] ∧ Grow 3 1 v ((List.range k).filter fun (n : Nat) => x.testBit n).length ((((List.range k).filter fun (n : Nat) => x.testBit n).map fun (n : Nat) => (n : Int)).map (Value.int .i64 ·)) ν ∧ μ' = ν ++ [(t, tO r n m low), (m, oM)]) (fun us => 10 - (headI us).toNat) rfl ⟨rfl, 0, _, [], by omega, rfl, Grow.nil _ _, rfl⟩ ?_
  rintro us G' _ ⟨rfl, k, v, ν, hk, rfl, hg, rfl⟩
  by_cases hlt : k < 10
  · have e1 : ((k : Nat) : Int).toNat = k := by omega
    have hfl : ((List.range k).filter fun (n : Nat) => x.testBit n).length ≤ 10 := Nat.le_trans (List.length_filter_le _ _) (by rw [List.length_range]; omega)
    have hnx : ((List.range (k + 1)).filter fun (n : Nat) => x.testBit n) = ((List.range k).filter fun (n : Nat) => x.testBit n) ++ (if x.testBit k = true then [k] else []) := by
      rw [List.range_succ, List.filter_append]
      congr 1
      simp only [List.filter_cons, List.filter_nil]
    have hsb := shr_bit (x := x) (nd := k)
    have hd1 : x / 2 ^ k < 1024 := Nat.lt_of_le_of_lt (Nat.div_le_self _ _) hx
    generalize htb : x.testBit k = tb at *
    generalize ((List.range k).filter fun (n : Nat) => x.testBit n) = L at *
    repeat' (first | apply v_seq | apply v_region | apply v_nil | apply v_skip | apply v_block | apply v_blk | (apply v_pure; (case hop => first | (apply p_move <;> rfl) | (apply p_eq <;> rfl) | (apply p_lt <;> rfl) | (apply p_assign <;> rfl) | (apply p_fieldAddrB <;> rfl) | (apply p_nilCheck <;> rfl) | (apply p_add; (case hx => rfl); (case hy => rfl); (case h => omega)) | fail); (case hd => rfl)) | (apply v_cond; (case hc => rfl); all_goals (intro h; (try simp only [reduceCtorEq, dec_true, dec_false, decide_eq_true_eq, decide_eq_false_iff_not, Bool.not_eq_true', Bool.not_eq_false', Option.isNone_iff_eq_none, beq_true, beq_false, beq_iff_eq, beq_eq_false_iff_ne, ne_eq, decide_eq_decide, Bool.not_eq_true, Bool.not_eq_false, Decidable.not_not] at h); first | (exfalso; omega) | skip)) | (apply v_pure; (case hop => first | (apply p_shrU; (case hx => rfl); (case hy => rfl); all_goals omega) | (apply p_andU (b := 1); (case hx => rfl); (case hy => rfl); all_goals omega)); (case hd => rfl)) | (apply v_read; (case hop => apply rv; (case hb => repeat (first | exact List.Mem.head _ | apply List.Mem.tail | apply List.mem_append_right)); all_goals rfl); (case hd => rfl)) | (apply v_append (hg := hg) (m' := 1) (us := [Value.int .i64 (k : Nat)]) (hp := PickA.perm (by repeat (first | exact PickA.here _ | apply PickA.cons | fail))) (hsrc := Src.own (e := 3) (by repeat (first | exact List.Mem.head _ | fail)) rfl); (case hzs => rfl); (case hsz => omega); (case hs => rfl); (case hx => rfl); (case hb => omega); (case hb' => simp only [maxLen]; omega); (case hd => rfl); (case h1 => rfl); intro v3 n3 hg3) | (apply v_read; (case hop => first | (apply r_load1; rfl; (apply Cell.own; (case h => (repeat (first | exact List.Mem.head _ | apply List.mem_append_right))); rfl)) | fail); (case hd => rfl)) | (apply v_buildSlice; (case hz => rfl); (case hi => rfl); (case hv => (simp only [List.map_cons, List.map_nil]; repeat (first | with_reducible exact evs_nil | (apply evs_cons; (case h1 => rfl))))); (case hp => (first | (apply pk_cons; (case hc => rfl); (case hs => rfl); (case h => (first | with_reducible exact pk_nil | fail)); (case he => (first | ((repeat (first | with_reducible exact ap_nil | apply ap_cons)); done) | fail))) | fail)); (case hb => rfl); (case hd => rfl); intro b) | fail)
    · have ht : tb = true := hsb.1 (by omega)
      rw [if_pos ht] at hnx
      refine v_drop (ν := n3 ++ [(t, _), (m, _)]) (List.Sublist.append_left (by repeat (first | exact List.Sublist.refl _ | apply List.Sublist.cons | fail)) _) ?_
      refine v_again rfl ⟨rfl, k + 1, _, n3, by omega, rfl, ?_, rfl⟩ (by show 10 - _ < 10 - _; simp only [headI]; omega)
      rw [hnx]
      simpa using hg3
    · have ht : ¬ tb = true := fun e => by have := hsb.2 e; omega
      rw [if_neg ht, List.append_nil] at hnx
      refine v_again rfl ⟨rfl, k + 1, _, ν, by omega, rfl, ?_, rfl⟩ (by show 10 - _ < 10 - _; simp only [headI]; omega)
      rw [hnx]
      exact hg
  · have e1 : k = 10 := by omega
    subst e1
    repeat' (first | apply v_seq | apply v_region | apply v_nil | (apply v_exit; (case hp => rfl)) | (apply v_pure; (case hop => first | (apply p_move <;> rfl) | (apply p_lt <;> rfl) | (apply p_assign <;> rfl) | fail); (case hd => rfl)) | (apply v_cond; (case hc => rfl); all_goals (intro h; (try simp only [reduceCtorEq, dec_true, dec_false, decide_eq_true_eq, decide_eq_false_iff_not, Bool.not_eq_true', Bool.not_eq_false', Option.isNone_iff_eq_none, beq_true, beq_false, beq_iff_eq, beq_eq_false_iff_ne, ne_eq, decide_eq_decide, Bool.not_eq_true, Bool.not_eq_false, Decidable.not_not] at h); first | (exfalso; omega) | skip)) | fail)
    refine v_ret (ν ++ [(t, _), (m, _)]) (outsA1 rfl rfl) (List.Sublist.refl _) ⟨rfl, ν, ?_, rfl⟩
    rw [List.length_map]
    exact hg
end Go.Proofs.Ytgflmkhfachlcaa
/-
  Lending: what is proved of a call that reads frozen blocks holds of a call that reads blocks of ours.
-/
set_option linter.unusedSimpArgs false
set_option linter.unusedVariables false
namespace Go.Proofs.Ytgflmkhfachlcaa
open Go.Vx Go.ChangeShapes Go.WideShapes Go.ChangeAt Go.RowKit
theorem Mem.lent {G : GH} {μ ν : OH} {w : World} (h : Mem G (ν ++ μ) w) : Mem (GH.put G ν) μ w := by
  have hs := (Step.refl h).freeze
  exact hs.mem
theorem Con.lend {P : Program} {f : FuncId} {args : Array Value} {G : GH} {ν μ : OH} {Ψ : Value → OH → Prop}
    (h : ∀ G', GH.le G G' → (∀ b o, (b, o) ∈ ν → G' b = some o) → Con P f args G' μ (fun v _ μ' => Ψ v μ')) :
    Con P f args G (ν ++ μ) (fun v G' μ' => G' = G ∧ ∃ μ1, Ψ v μ1 ∧ μ' = ν ++ μ1) := by
  unfold Con at h ⊢
  intro w hw
  have hn := hw.nodup
  rw [List.map_append, List.nodup_append] at hn
  have hin : ∀ b o, (b, o) ∈ ν → GH.put G ν b = some o := fun b o hb => GH.put_mem hn.1 (hw.apart b o (List.mem_append_left _ hb)) hb
  refine (h (GH.put G ν) (GH.le_put _ _) hin w (Mem.lent hw)).mono ?_
  rintro v w' ⟨G2, μ1, hs, hΨ⟩
  refine ⟨G, ν ++ μ1, ⟨⟨fun b o hb => hs.mem.g b o (hs.le b o (GH.le_put G ν b o hb)), fun b o hb => ?_, ?_, fun b o hb => ?_⟩, GH.le_refl _, hs.os, hs.tape, hs.output, hs.size, fun b hb hno => hs.same b hb fun o ho => hno o (List.mem_append_right _ ho), fun b o hb => ?_, fun b o hb => .inl ⟨o, hb⟩⟩, rfl, μ1, hΨ, rfl⟩
  · rcases List.mem_append.1 hb with hb | hb
    · exact hs.mem.g b o (hs.le b o (hin b o hb))
    · exact hs.mem.own b o hb
  · rw [List.map_append, List.nodup_append]
    refine ⟨hn.1, hs.mem.nodup, fun a ha b hb e => ?_⟩
    subst e
    obtain ⟨⟨a1, o1⟩, h1, rfl⟩ := List.mem_map.1 ha
    obtain ⟨⟨a2, o2⟩, h2, e2⟩ := List.mem_map.1 hb
    simp only at e2
    subst e2
    have := hs.mem.apart _ _ h2
    rw [hs.le _ _ (hin _ _ h1)] at this
    cases this
  · rcases List.mem_append.1 hb with hb | hb
    · exact hw.apart b o (List.mem_append_left _ hb)
    · have := hs.mem.apart b o hb
      cases hg : G b with
      | none => rfl
      | some o' =>
        rw [hs.le _ _ (GH.le_put G ν b o' hg)] at this
        cases this
  · rcases List.mem_append.1 hb with hb | hb
    · exact .inl ⟨o, List.mem_append_left _ hb⟩
    · rcases hs.mine b o hb with ⟨o', h'⟩ | h'
      · exact .inl ⟨o', List.mem_append_right _ h'⟩
      · exact .inr h'
theorem Con.lendJ {P : Program} {f : FuncId} {args : Array Value} {G : GH} {ν : OH} {v : Value}
    (h : ∀ G', GH.le G G' → (∀ b o, (b, o) ∈ ν → G' b = some o) → Con P f args G' [] (Just v G')) : Con P f args G ν (Keeps v G ν) := by
  have := Con.lend (G := G) (ν := ν) (μ := []) (Ψ := fun u μ' => u = v ∧ μ' = []) fun G' h1 h2 => (h G' h1 h2).mono fun _ _ _ h => ⟨h.1, h.2.2⟩
  rw [List.append_nil] at this
  exact this.mono fun u G' μ' ⟨h1, μ1, ⟨h2, h3⟩, h4⟩ => ⟨h2, h1, by rw [h4, h3, List.append_nil]⟩
theorem Src.cap {G : GH} {μ : OH} {A : Option Addr} {m c c' sz : Nat} {us : List Value} (h : Src G μ (.slice A m c) m sz us) : Src G μ (.slice A m c') m sz us := by
  obtain ⟨h1, A1, c1, he, h2⟩ := h
  injection he with ea _ ec
  subst ea
  exact ⟨h1, A, c', rfl, h2⟩
section
variable {P : Program} {σ : Env} {G : GH} {μ : OH} {t ty : TypeId} {bytes : Nat} {zero : Value}
end
end Go.Proofs.Ytgflmkhfachlcaa
/-
  tally (layer 34): Won, Drop, Open; of no tally.
-/
set_option linter.unusedSimpArgs false
set_option linter.unusedVariables false
namespace Go.Proofs.Ytgflmkhfachlcaa
open Go.Vx Go.ChangeShapes Go.WideShapes Go.ChangeAt Go.RowKit
theorem nodesB_wf {x : Nat} : ∀ y ∈ nodesB x, (Lit.int .i64 y).wf = true := by
  intro y hy
  obtain ⟨n, rfl, h, -⟩ := nodesB_mem.1 hy
  simp [Lit.wf, IntKind.min, IntKind.max, IntKind.bits, IntKind.signed]
  omega
theorem won_s {G : GH} {r n low : Int} {V : Vs} {t m : Nat} {oM : Obj} {mem : List Int} {mv : Value} (i : Int) (hM : MapB keyI (vl V) oM) (hs : ∀ j, nget V j < 1024) (hm : Sl G 1 (IntR .i64) mv mem) (hb : mem.length ≤ 10000) :
    Con Try.prog 12 #[.pointer (some ⟨t, 0, none⟩), .int .i64 i, mv] G [(t, tO r n m low), (m, oM)] (Keeps (.bool (majB mem (nodesB (nget V i)))) G [(t, tO r n m low), (m, oM)]) := by
  have q1 := nodes_s (G := G) (r := r) (n := n) (low := low) (t := t) (m := m) i hM hs
  have hwf := nodesB_wf (x := nget V i)
  generalize nodesB (nget V i) = L at *
  (refine v_enter Try.func12 rfl Try.ntmps12 rfl ?_; intro B _)
  repeat' (first | apply v_seq | apply v_region | apply v_nil | (apply v_take; (case hg => rfl)) | (apply v_pure; (case hop => first | (apply p_move <;> rfl) | (apply p_assign <;> rfl) | (apply p_neNil <;> rfl) | fail); (case hd => rfl)) | fail)
  refine v_call (μ1 := [(t, tO r n m low), (m, oM)]) (μ2 := []) rfl q1 (List.Perm.refl _) rfl ?_
  rintro v G2 _ - ⟨hG2, ν, hg, rfl⟩
  subst G2
  have q2 := Con.lendJ (P := Try.prog) (f := 36) (args := #[mv, v]) (G := G) (ν := ν) (v := .bool (majB mem L)) fun G' h1 h2 => maj_s (hm.mono h1) (hg.ints h2 hwf) hb
  rw [List.append_nil]
  repeat' (first | apply v_nil | (apply v_take; (case hg => rfl)) | (apply v_pure; (case hop => first | (apply p_assign <;> rfl) | (apply p_pickT <;> rfl) | fail); (case hd => rfl)) | (apply v_callK (hs := q2); (case ha => rfl); (case hp => exact List.Perm.refl _); (case hd => rfl)) | fail)
  refine v_ret [(t, _), (m, _)] (outsA1 rfl rfl) (List.sublist_append_right _ _) ⟨rfl, rfl, rfl⟩
theorem le_perm_eq : ∀ {l l' : List Int}, l.Pairwise (· ≤ ·) → l'.Pairwise (· ≤ ·) → l.Perm l' → l = l'
  | l, l', h1, h2, hp => List.Perm.eq_of_pairwise (fun a b _ _ h h' => Int.le_antisymm h h') h1 h2 hp
theorem open_s {G : GH} {r n low : Int} {V : Vs} {t m : Nat} {oM : Obj} (hM : MapB keyI (vl V) oM) (hb : V.length ≤ 1048576) :
    Con Try.prog 19 #[.pointer (some ⟨t, 0, none⟩)] G [(t, tO r n m low), (m, oM)] (fun v G' μ' => G' = G ∧ ∃ ν, Grow 3 1 v (sortL (V.map (·.1))).length ((sortL (V.map (·.1))).map (Value.int .i64 ·)) ν ∧ μ' = ν ++ [(t, tO r n m low), (m, oM)]) := by
  have q1 := keys_s (G := G) (m := m)
  (refine v_enter Try.func19 rfl Try.ntmps19 rfl ?_; intro B _)
  repeat' (first | apply v_seq | apply v_region | apply v_nil | apply v_skip | (apply v_pure; (case hop => first | (apply p_move <;> rfl) | (apply p_assign <;> rfl) | (apply p_fieldAddrB <;> rfl) | (apply p_nilCheck <;> rfl) | (apply p_eqNil <;> rfl) | fail); (case hd => rfl)) | (apply v_condF; (case hc => rfl)) | (apply v_read; (case hop => first | (apply r_load1; rfl; (apply Cell.own; (case h => (repeat (first | exact List.Mem.head _ | fail))); rfl)) | fail); (case hd => rfl)) | fail)
  refine v_call (μ1 := []) (μ2 := _) rfl q1 (List.Perm.refl _) rfl ?_
  rintro _ G2 _ - ⟨b, rfl, hG2, rfl⟩
  subst G2
  have q2 := sorted_s (N := (vl V).length) (by simp only [vl, List.length_map]; omega) (fun xs h => by
    rw [h.length_eq]
    simp only [vl, List.length_map]
    omega) (keys_seq (G := G) (m := m) (b := b) hM)
  repeat' (fail)
  refine v_call (μ1 := [(b, _), (m, _)]) (μ2 := [(t, _)]) rfl q2 (List.Perm.cons _ (List.Perm.swap _ _ _)) rfl ?_
  rintro v G2 _ - ⟨hG2, xs, ν, hp, hg, rfl⟩
  subst G2
  rw [vl_keys] at hp
  have e : sortL xs = sortL (V.map (·.1)) := le_perm_eq (sortL_le _) (sortL_le _) ((sortL_perm xs).trans (hp.trans (sortL_perm _).symm))
  rw [← (sortL_perm xs).length_eq, e] at hg
  repeat' (first | apply v_nil | (apply v_pure; (case hop => first | (apply p_assign <;> rfl) | fail); (case hd => rfl)) | fail)
  refine v_perm (ν := ν ++ [(t, tO r n m low), (m, oM), (b, Obj.cells [Value.map (some m)].toArray 66 (0, 0))]) ?_ ?_
  · rw [List.append_assoc]
    exact List.Perm.append_left _ ((List.perm_append_comm (l₁ := [(b, Obj.cells [Value.map (some m)].toArray 66 (0, 0)), (m, oM)]) (l₂ := [(t, tO r n m low)])).trans (List.Perm.cons _ (List.Perm.swap _ _ _)))
  · refine v_ret (ν ++ [(t, _), (m, _)]) (outsA1 rfl rfl) (List.Sublist.append_left (by repeat (first | exact List.nil_sublist _ | apply List.Sublist.cons_cons | fail)) _) ?_
    exact ⟨rfl, ν, hg, rfl⟩
end Go.Proofs.Ytgflmkhfachlcaa
/-
  tally (layer 34): the reference.
-/
set_option linter.unusedSimpArgs false
set_option linter.unusedVariables false
namespace Go.Proofs.Ytgflmkhfachlcaa
open Go.Vx Go.ChangeShapes Go.WideShapes Go.ChangeAt Go.RowKit
def Vt.cells (x : Vt) : List Value := [.int .i64 x.r, .int .i64 x.n, .int .i64 x.index, .int .i64 x.node, .bool x.drop]
end Go.Proofs.Ytgflmkhfachlcaa
/-
  tally (layer 34): the law's own functions; votes as the law counts them.
-/
set_option linter.unusedSimpArgs false
set_option linter.unusedVariables false
namespace Go.Proofs.Ytgflmkhfachlcaa
open Go.Vx Go.ChangeShapes Go.WideShapes Go.ChangeAt Go.RowKit
theorem vote_counts {r n low : Int} {got : List Vt} {V : Vs} (h : TInv got low V) (v : Vt) : voteC r n low V v.r v.n v.index v.node ↔ countsP r n got low v := by
  unfold voteC countsP
  constructor
  · rintro ⟨h1, h2, h3, h4, h5, h6, h7⟩
    refine ⟨h1, h2, h3, h4, h5, h6, fun h8 => ?_⟩
    have := (h.bit v.index h4 v.node.toNat).2 (by rwa [Int.toNat_of_nonneg (by omega)])
    rw [h7] at this
    cases this
  · rintro ⟨h1, h2, h3, h4, h5, h6, h7⟩
    refine ⟨h1, h2, h3, h4, h5, h6, ?_⟩
    cases hb : (nget V v.index).testBit v.node.toNat with
    | false => rfl
    | true =>
      have := (h.bit v.index h4 v.node.toNat).1 hb
      rw [Int.toNat_of_nonneg (by omega)] at this
      exact absurd this h7
theorem TInv.next {r n low : Int} {got : List Vt} {V : Vs} (h : TInv got low V) (v : Vt) : TInv (if countsP r n got low v then got ++ [v] else got) low (voteV r n low V v.r v.n v.index v.node) := by
  unfold voteV
  by_cases hc : countsP r n got low v
  · have h1 := (vote_counts h v).2 hc
    rw [if_pos h1, if_pos hc]
    exact h.vote (nd := v.node.toNat) hc.2.2.2.1 (by rw [Int.toNat_of_nonneg (by have := hc.2.2.2.2.1; omega)]) (by have := hc.2.2.2.2.1; have := hc.2.2.2.2.2.1; omega)
  · rw [if_neg fun h1 => hc ((vote_counts h v).1 h1), if_neg hc]
    exact h
theorem intsB_self (l : List Int) : intsB l l = true := by
  unfold intsB
  simp
theorem awake34_s {G : GH} : Con Try.prog 9 #[] G [] (fun v _ _ => v = .bool true) := by
  have m0 : MapB keyI (vl []) (.map #[] 0) := MapB.nil
  (refine v_enter Try.func9 rfl Try.ntmps9 rfl ?_; intro B _)
  repeat' (first | apply v_seq | apply v_region | apply v_nil | (apply v_pure; (case hop => first | (apply p_assign <;> rfl) | (apply p_build; (case hz => rfl); (case hv => (simp only [List.map_cons, List.map_nil]; repeat (first | with_reducible exact evs_nil | (apply evs_cons; (case h1 => rfl))))); (case hb => (apply bldL; repeat (first | exact bld_nil | (apply bld_cons; (case hpf => rfl); (case hc => rfl); (case hs => rfl); (case hl => rfl); (case ho => (first | ((repeat (first | with_reducible exact ov_nil | apply ov_cons | fail)); done) | fail))))))) | fail); (case hd => rfl)) | (apply v_alloc (zs := [.int .i64 0, .int .i64 0]); (case hz => rfl); (case hd => rfl); intro bb) | (apply v_read; (case hop => (apply r_loadNo; (case hx => rfl); (case h => repeat (first | exact List.Mem.head _ | fail)); (case hd => rfl); (case hn => rfl))); (case hd => rfl)) | (apply v_store; (case hp => rfl); (case hx => rfl); (case hc => rfl); (case hsz => rfl); (case h1 => rfl); (case hb => (repeat (first | exact List.Mem.head _ | fail))); (case hfit => first | exact Nat.le_of_ble_eq_true rfl | fail); (case hov => (first | ((repeat (first | with_reducible exact ov_nil | apply ov_cons | fail)); done) | fail)); (case hu => repeat (first | exact Upd.here _ _ | fail))) | fail)
  refine v_call (μ1 := []) (μ2 := [(bb, .cells [.int .i64 1, .int .i64 1].toArray 26 (0, 0))]) rfl (tnew_s 1 1) (List.Perm.refl _) rfl ?_
  rintro _ G1 _ - ⟨hG1, t, m, rfl, rfl⟩
  subst G1
  have q1 := vote_s (G := G) (r := 1) (n := 1) (low := 0) (t := t) (m := m) 1 1 7 1 m0 TInv.zero.small
  rw [decide_eq_true (by unfold voteC; decide), show voteV 1 1 0 [] 1 1 7 1 = [(7, 2)] from by unfold voteV; rw [if_pos (by unfold voteC; decide)]; rfl] at q1
  repeat' (first | apply v_seq | apply v_region | apply v_nil | (apply v_pure; (case hop => first | (apply p_move <;> rfl) | (apply p_assign <;> rfl) | fail); (case hd => rfl)) | (apply v_read; (case hop => (apply r_loadNo; (case hx => rfl); (case h => repeat (first | exact List.Mem.head _ | apply List.Mem.tail)); (case hd => rfl); (case hn => rfl))); (case hd => rfl)) | fail)
  refine v_call (μ1 := [(t, _), (m, _)]) (μ2 := [(bb, .cells [.int .i64 1, .int .i64 1].toArray 26 (0, 0))]) rfl q1 (List.Perm.refl _) rfl ?_
  rintro _ G1 _ - ⟨hG1, rfl, oM1, m1, rfl⟩
  subst G1
  have s1 : ∀ j, nget [((7 : Int), 2)] j < 1024 := fun j => by
    unfold nget
    simp only [List.find?_cons, List.find?_nil]
    split <;> simp
  have s2 : ∀ j, nget [((7 : Int), 10)] j < 1024 := fun j => by
    unfold nget
    simp only [List.find?_cons, List.find?_nil]
    split <;> simp
  have q2 := vote_s (G := G) (r := 1) (n := 1) (low := 0) (t := t) (m := m) 1 1 7 3 m1 s1
  rw [decide_eq_true (by unfold voteC; decide), show voteV 1 1 0 [(7, 2)] 1 1 7 3 = [(7, 10)] from by unfold voteV; rw [if_pos (by unfold voteC; decide)]; rfl] at q2
  repeat' (first | (apply v_take; (case hg => rfl)) | (apply v_pure; (case hop => first | (apply p_move <;> rfl) | fail); (case hd => rfl)) | (apply v_read; (case hop => (apply r_loadNo; (case hx => rfl); (case h => repeat (first | exact List.Mem.head _ | apply List.Mem.tail)); (case hd => rfl); (case hn => rfl))); (case hd => rfl)) | fail)
  refine v_call (μ1 := [(t, _), (m, _)]) (μ2 := [(bb, .cells [.int .i64 1, .int .i64 1].toArray 26 (0, 0))]) rfl q2 (List.Perm.refl _) rfl ?_
  rintro _ G1 _ - ⟨hG1, rfl, oM2, m2, rfl⟩
  subst G1
  have q3 := vote_s (G := G) (r := 1) (n := 1) (low := 0) (t := t) (m := m) 1 1 7 3 m2 s2
  rw [decide_eq_false (by unfold voteC; decide), show voteV 1 1 0 [(7, 10)] 1 1 7 3 = [(7, 10)] from by unfold voteV; rw [if_neg (by unfold voteC; decide)]] at q3
  repeat' (first | (apply v_take; (case hg => rfl)) | (apply v_pure; (case hop => first | (apply p_move <;> rfl) | (apply p_pickT <;> rfl) | fail); (case hd => rfl)) | (apply v_read; (case hop => (apply r_loadNo; (case hx => rfl); (case h => repeat (first | exact List.Mem.head _ | apply List.Mem.tail)); (case hd => rfl); (case hn => rfl))); (case hd => rfl)) | fail)
  refine v_call (μ1 := [(t, _), (m, _)]) (μ2 := [(bb, .cells [.int .i64 1, .int .i64 1].toArray 26 (0, 0))]) rfl q3 (List.Perm.refl _) rfl ?_
  rintro _ G1 _ - ⟨hG1, rfl, oM3, m3, rfl⟩
  subst G1
  repeat' (first | (apply v_take; (case hg => rfl)) | (apply v_pure; (case hop => first | (apply p_move <;> rfl) | (apply p_pickT <;> rfl) | (apply p_not <;> rfl) | fail); (case hd => rfl)) | (apply v_buildSlice; (case hz => rfl); (case hi => rfl); (case hv => (simp only [List.map_cons, List.map_nil]; repeat (first | with_reducible exact evs_nil | (apply evs_cons; (case h1 => rfl))))); (case hp => (first | (apply pk_cons; (case hc => rfl); (case hs => rfl); (case h => (first | (apply pk_cons; (case hc => rfl); (case hs => rfl); (case h => (first | (apply pk_cons; (case hc => rfl); (case hs => rfl); (case h => (first | with_reducible exact pk_nil | fail)); (case he => (first | ((repeat (first | with_reducible exact ap_nil | apply ap_cons)); done) | fail))) | fail)); (case he => (first | ((repeat (first | with_reducible exact ap_nil | apply ap_cons)); done) | fail))) | fail)); (case he => (first | ((repeat (first | with_reducible exact ap_nil | apply ap_cons)); done) | fail))) | fail)); (case hb => rfl); (case hd => rfl); intro b) | fail)
  refine v_frz [(b, .cells [Value.int .i64 1, .int .i64 2, .int .i64 3].toArray 3 (0, 0))] (by repeat (first | exact PickA.here _ | fail)) ?_
  intro G2 hle2 hG2
  have hm : Sl G2 1 (IntR .i64) (.slice (some ⟨b, 0, none⟩) 3 3) [1, 2, 3] := Grow.ints (l := [1, 2, 3]) (Grow.lit (b := b) (m := 3) rfl (by simp only [maxLen]; omega)) hG2 (by decide)
  have q4 := won_s (G := G2) (r := 1) (n := 1) (low := 0) (t := t) (m := m) 7 m3 s2 hm (by simp)
  rw [show majB [1, 2, 3] (nodesB (nget [((7 : Int), 10)] 7)) = true from by rw [maj_ref]; decide] at q4
  repeat' (first | (apply v_take; (case hg => rfl)) | (apply v_pure; (case hop => first | (apply p_move <;> rfl) | (apply p_pickT <;> rfl) | fail); (case hd => rfl)) | (apply v_callK (hs := q4); (case ha => rfl); (case hp => exact List.Perm.refl _); (case hd => rfl)) | fail)
  have q5 := open_s (G := G2) (r := 1) (n := 1) (low := 0) (t := t) (m := m) m3 (by simp)
  rw [show sortL ([((7 : Int), 10)].map (·.1)) = [7] from List.perm_singleton.1 (sortL_perm _)] at q5
  refine v_call (μ1 := [(t, _), (m, _)]) (μ2 := _) rfl q5 (List.Perm.refl _) rfl ?_
  rintro v3 G3 _ - ⟨hG3, ν, hg, rfl⟩
  subst G3
  rw [List.append_assoc]
  refine v_frz ν (PickA.here _) ?_
  intro G4 hle4 hG4
  have hv3 := hg.ints (l := [7]) hG4 (by decide)
  repeat' (first | (apply v_take; (case hg => rfl)) | (apply v_buildSlice; (case hz => rfl); (case hi => rfl); (case hv => (simp only [List.map_cons, List.map_nil]; repeat (first | with_reducible exact evs_nil | (apply evs_cons; (case h1 => rfl))))); (case hp => (first | (apply pk_cons; (case hc => rfl); (case hs => rfl); (case h => (first | with_reducible exact pk_nil | fail)); (case he => (first | ((repeat (first | with_reducible exact ap_nil | apply ap_cons)); done) | fail))) | fail)); (case hb => rfl); (case hd => rfl); intro b) | fail)
  refine v_frz [(b, .cells [Value.int .i64 7].toArray 3 (0, 0))] (by repeat (first | exact PickA.here _ | fail)) ?_
  intro G5 hle5 hG5
  have q6 := ints_s (hv3.mono hle5) (Grow.ints (v := .slice (some ⟨b, 0, none⟩) 1 1) (l := [7]) (Grow.lit (b := b) (m := 1) rfl (by simp only [maxLen]; omega)) hG5 (by decide))
  rw [intsB_self] at q6
  repeat' (first | apply v_nil | (apply v_pure; (case hop => first | (apply p_assign <;> rfl) | (apply p_pickT <;> rfl) | fail); (case hd => rfl)) | (apply v_callJ (hs := q6); (case ha => rfl); (case hd => rfl)) | fail)
  exact v_ret [] (outsA1 rfl rfl) (List.nil_sublist _) rfl
end Go.Proofs.Ytgflmkhfachlcaa
/-
  tally (layer 34): the law TallyVotes.
-/
set_option linter.unusedSimpArgs false
set_option linter.unusedVariables false
namespace Go.Proofs.Ytgflmkhfachlcaa
open Go.Vx Go.ChangeShapes Go.WideShapes Go.ChangeAt Go.RowKit
set_option maxRecDepth 100000 in
theorem arg_t22 {H : Type} {enc : TypeId × Value → H} {W : World} {base : Nat} {v : Value} {d : DataW H} {p : List MemPlace} (hv : Value.okWide Try.prog W .any base 22 v) (h : DataW.Trod enc Try.prog W 0 (fun _ => true) true 22 v d p) : ∃ l, Sl (ghost W) 1 (IntR .i64) v l :=
  arg_slice Try.underlying22 (by kernel_rfl) (el_int Try.underlying3) hv h
set_option maxRecDepth 100000 in
theorem arg_t3 {H : Type} {enc : TypeId × Value → H} {W : World} {base : Nat} {v : Value} {d : DataW H} {p : List MemPlace} (hv : Value.okWide Try.prog W .any base 3 v) (h : DataW.Trod enc Try.prog W 0 (fun _ => true) true 3 v d p) : ∃ a, v = .int .i64 a ∧ (Lit.int .i64 a).wf = true := arg_int Try.underlying3 hv h
end Go.Proofs.Ytgflmkhfachlcaa
/-
  tally (layer 34): the law TallyCommon.
-/
set_option linter.unusedSimpArgs false
set_option linter.unusedVariables false
namespace Go.Proofs.Ytgflmkhfachlcaa
open Go.Vx Go.ChangeShapes Go.WideShapes Go.ChangeAt Go.RowKit
def TwoL (G : GH) (v : Value) : Prop := ∃ l0 l1 s0 s1, v = .agg [s0, s1].toArray ∧ Sl G 1 (IntR .i64) s0 l0 ∧ Sl G 1 (IntR .i64) s1 l1
set_option maxRecDepth 100000 in
theorem arg_t23 {H : Type} {enc : TypeId × Value → H} {W : World} {base : Nat} {v : Value} {d : DataW H} {p : List MemPlace} (hv : Value.okWide Try.prog W .any base 23 v) (h : DataW.Trod enc Try.prog W 0 (fun _ => true) true 23 v d p) : TwoL (ghost W) v := by
  obtain ⟨cs, l, rfl, h1, h2, h3⟩ := arg_agg (by kernel_rfl) (el_array (n := 2) (sz := 1) Try.underlying23 (by kernel_rfl) (by kernel_rfl) (el_slice (sz := 1) Try.underlying22 (by kernel_rfl) (el_int Try.underlying3))) hv h
  match l, cs, h1, h2, h3 with
  | [l0, l1], [c0, c1], _, _, h3 =>
    obtain ⟨s0, e0, q0⟩ := h3 0 l0 rfl
    obtain ⟨s1, e1, q1⟩ := h3 1 l1 rfl
    simp at e0 e1
    subst e0; subst e1
    exact ⟨l0, l1, _, _, rfl, q0, q1⟩
theorem voteV_small {r n low : Int} {V : Vs} (h : ∀ j, nget V j < 1024) (r' n' i nd : Int) : ∀ j, nget (voteV r n low V r' n' i nd) j < 1024 := by
  intro j
  unfold voteV
  split
  · rename_i hc
    rw [nget_put]
    split
    · have : nd.toNat < 10 := by have := hc.2.2.2.2.1; have := hc.2.2.2.2.2.1; omega
      exact Nat.or_lt_two_pow (n := 10) (h _) (Nat.pow_lt_pow_right (by omega) this)
    · exact h j
  · exact h j
theorem voteV_bit {r n low : Int} {V : Vs} {r' n' i nd j : Int} {b : Nat} (h : (nget V j).testBit b = true) : (nget (voteV r n low V r' n' i nd) j).testBit b = true := by
  unfold voteV
  split
  · rw [nget_put]
    split
    · rename_i e
      subst e
      rw [Nat.testBit_or, h]
      rfl
    · exact h
  · exact h
theorem nodesB_mono {x y : Nat} (h : ∀ b, x.testBit b = true → y.testBit b = true) {m : Int} (hm : m ∈ nodesB x) : m ∈ nodesB y := by
  obtain ⟨k, h1, h2, h3⟩ := nodesB_mem.1 hm
  exact nodesB_mem.2 ⟨k, h1, h2, h _ h3⟩
def comN (ns a b : List Int) (k : Nat) : Bool := (ns.take k).any fun x => inB a x && inB b x
theorem tallyCommon_law {W : World} {v0 v1 v2 : Value} (g0 : ∃ l, Sl (ghost W) 1 (IntR .i64) v0 l) (g1 : TwoL (ghost W) v1) (g2 : ∃ a, v2 = .int .i64 a ∧ (Lit.int .i64 a).wf = true) : LawCon Try.prog 3 #[v0, v1, v2] W := by
  obtain ⟨mem, hm⟩ := g0
  obtain ⟨l0, l1, s0, s1, rfl, h0, h1⟩ := g1
  obtain ⟨x, rfl, hxw⟩ := g2
  unfold LawCon
  generalize ghost W = G at *
  have qw := awake34_s (G := G)
  obtain ⟨Am, cm, rfl, hlcm, hcmm, hsomem, helm, hwm⟩ := id hm.openInt
  obtain ⟨A0, c0, rfl, hlc0, hcm0, hsome0, hel0, hw0⟩ := id h0.openInt
  obtain ⟨A1, c1, rfl, hlc1, hcm1, hsome1, hel1, hw1⟩ := id h1.openInt
  simp only [maxLen] at hcmm hcm0 hcm1
  have i0 : (2 : Nat) = 2 := rfl
  (refine v_enter Try.func3 rfl Try.ntmps3 rfl ?_; intro B _)
  by_cases hbig : 60 < mem.length ∨ 60 < l0.length ∨ 60 < l1.length
  · repeat' (first | apply v_seq | apply v_region | apply v_nil | (apply v_take; (case hg => rfl)) | (apply v_pass; (case hg => rfl); (case hn => rfl); (case hd => rfl)) | (apply v_pure; (case hop => first | (apply p_move <;> rfl) | (apply p_gt <;> rfl) | (apply p_assign <;> rfl) | (apply p_pickT <;> rfl) | (apply p_pickF <;> rfl) | (apply p_lenSlice <;> rfl) | (apply p_indexAddrB; (case hx => rfl); (case hi => rfl); (case h0 => omega); (case h => omega)) | fail); (case hd => rfl)) | (apply v_condT; (case hc => rfl)) | (apply v_cond; (case hc => rfl); all_goals (intro h; (try simp only [reduceCtorEq, dec_true, dec_false, decide_eq_true_eq, decide_eq_false_iff_not, Bool.not_eq_true', Bool.not_eq_false', Option.isNone_iff_eq_none, beq_true, beq_false, beq_iff_eq, beq_eq_false_iff_ne, ne_eq, decide_eq_decide, Bool.not_eq_true, Bool.not_eq_false, Decidable.not_not] at h); first | (exfalso; omega) | skip)) | (apply v_guardB; (case h1 => rfl); (case h2 => rfl); all_goals (intro h; (try simp only [reduceCtorEq, dec_true, dec_false, decide_eq_true_eq, decide_eq_false_iff_not, Bool.not_eq_true', Bool.not_eq_false', Option.isNone_iff_eq_none, beq_true, beq_false, beq_iff_eq, beq_eq_false_iff_ne, ne_eq, decide_eq_decide, Bool.not_eq_true, Bool.not_eq_false, Decidable.not_not] at h); first | skip)) | (apply v_box (zs := [.slice A0 l0.length c0, .slice A1 l1.length c1]); (case hx => rfl); (case hz => rfl); (case hd => rfl); intro bl) | (apply v_read; (case hop => first | (apply r_load1; rfl; (apply Cell.own; (case h => (repeat (first | exact List.Mem.head _ | fail))); rfl)) | fail); (case hd => rfl)) | fail)
    all_goals first
      | (exfalso; omega)
      | (refine v_call (μ1 := []) (μ2 := [(bl, _)]) rfl qw (List.Perm.refl _) rfl ?_
         rintro _ G2 μ2 - rfl
         repeat' (first | apply v_nil | (apply v_pure; (case hop => first | (apply p_assign <;> rfl) | fail); (case hd => rfl)) | fail)
         exact v_ret [] (outsA1 rfl rfl) (List.nil_sublist _) rfl)
  repeat' (first | apply v_seq | apply v_region | apply v_nil | apply v_skip | (apply v_take; (case hg => rfl)) | (apply v_pure; (case hop => first | (apply p_move <;> rfl) | (apply p_gt <;> rfl) | (apply p_assign <;> rfl) | (apply p_pickF <;> rfl) | (apply p_lenSlice <;> rfl) | (apply p_indexAddrB; (case hx => rfl); (case hi => rfl); (case h0 => omega); (case h => omega)) | (apply p_build; (case hz => rfl); (case hv => (simp only [List.map_cons, List.map_nil]; repeat (first | with_reducible exact evs_nil | (apply evs_cons; (case h1 => rfl))))); (case hb => (apply bldL; repeat (first | exact bld_nil | (apply bld_cons; (case hpf => rfl); (case hc => rfl); (case hs => rfl); (case hl => rfl); (case ho => (first | ((repeat (first | with_reducible exact ov_nil | apply ov_cons | fail)); done) | fail))))))) | fail); (case hd => rfl)) | (apply v_cond; (case hc => rfl); all_goals (intro h; (try simp only [reduceCtorEq, dec_true, dec_false, decide_eq_true_eq, decide_eq_false_iff_not, Bool.not_eq_true', Bool.not_eq_false', Option.isNone_iff_eq_none, beq_true, beq_false, beq_iff_eq, beq_eq_false_iff_ne, ne_eq, decide_eq_decide, Bool.not_eq_true, Bool.not_eq_false, Decidable.not_not] at h); first | (exfalso; omega) | skip)) | (apply v_guardB; (case h1 => rfl); (case h2 => rfl); all_goals (intro h; (try simp only [reduceCtorEq, dec_true, dec_false, decide_eq_true_eq, decide_eq_false_iff_not, Bool.not_eq_true', Bool.not_eq_false', Option.isNone_iff_eq_none, beq_true, beq_false, beq_iff_eq, beq_eq_false_iff_ne, ne_eq, decide_eq_decide, Bool.not_eq_true, Bool.not_eq_false, Decidable.not_not] at h); first | (exfalso; omega) | skip)) | (apply v_box (zs := [.slice A0 l0.length c0, .slice A1 l1.length c1]); (case hx => rfl); (case hz => rfl); (case hd => rfl); intro bl) | (apply v_read; (case hop => first | (apply r_load1; rfl; (apply Cell.own; (case h => (repeat (first | exact List.Mem.head _ | fail))); rfl)) | fail); (case hd => rfl)) | (apply v_alloc; (case hz => rfl); (case hd => rfl); intro b) | (apply v_store; (case hp => rfl); (case hx => rfl); (case hc => rfl); (case hsz => rfl); (case h1 => rfl); (case hb => (repeat (first | exact List.Mem.head _ | apply List.Mem.tail | fail))); (case hfit => first | exact Nat.le_of_ble_eq_true rfl | fail); (case hov => (first | ((repeat (first | with_reducible exact ov_nil | apply ov_cons | fail)); done) | fail)); (case hu => repeat (first | exact Upd.here _ _ | apply Upd.there | fail))) | fail)
  rename_i ba
  refine d_start _ (by kernel_rfl) (by kernel_rfl) (by kernel_rfl) (fun _ he => he) ?_
  all_goals (first | (apply d_take 0; (case hi => rfl); (case hop => first | ((apply r_loadNo; (case hx => rfl); (case h => repeat (first | exact List.Mem.head _ | apply List.Mem.tail)); (case hd => rfl); (case hn => rfl))) | fail); (case hf => kernel_rfl); (case hr => kernel_rfl); (case hd => rfl)) | fail)
  all_goals (first | (apply d_take 2; (case hi => rfl); (case hop => first | ((apply r_loadNo; (case hx => rfl); (case h => repeat (first | exact List.Mem.head _ | fail)); (case hd => rfl); (case hn => rfl))) | fail); (case hf => kernel_rfl); (case hr => kernel_rfl); (case hd => rfl)) | fail)
  all_goals (first | ((apply d_call 1 (hs := tnew_s 1 1) (μ1 := []); (case hi => rfl); (case hr => kernel_rfl);  (case ha => rfl); (case hp => exact List.Perm.refl _); (case hd => rfl); (case hν' => exact fun _ h => h); rintro _ G1 _ - ⟨hG1, t, m, rfl, rfl⟩; subst G1)) | fail)
  all_goals (first | ((apply d_call 3 (hs := tnew_s 2 2) (μ1 := []); (case hi => rfl); (case hr => kernel_rfl);  (case ha => rfl); (case hp => exact List.Perm.refl _); (case hd => rfl); (case hν' => exact fun _ h => List.Mem.tail _ (List.Mem.tail _ h)); rintro _ G1 _ - ⟨hG1, t2, m2, rfl, rfl⟩; subst G1)) | fail)
  all_goals (first | (apply d_take 4; (case hi => rfl); (case hop => first | (apply PureOp.read; apply p_assign <;> rfl)); (case hf => kernel_rfl); (case hr => kernel_rfl); (case hd => rfl)) | fail)
  all_goals (first | (apply d_take 5; (case hi => rfl); (case hop => first | (apply PureOp.read; apply p_assign <;> rfl)); (case hf => kernel_rfl); (case hr => kernel_rfl); (case hd => rfl)) | fail)
  all_goals (apply d_done; (case hr => kernel_rfl))
  repeat' (first | apply v_seq | apply v_region | apply v_nil | apply v_block | (apply v_pure; (case hop => first | (apply p_assign <;> rfl) | fail); (case hd => rfl)) | fail)
  have hsm : ∀ j, nget [] j < 1024 := TInv.zero.small
  refine v_perm (ν := (t, tO 1 1 m 0) :: (m, .map #[] 0) :: [(t2, tO 2 2 m2 0), (m2, .map #[] 0), (b, .cells [Value.int .i64 2, Value.int .i64 2].toArray 26 (0, 0)), (ba, .cells [Value.int .i64 1, Value.int .i64 1].toArray 26 (0, 0)), (bl, .cells [Value.slice A0 l0.length c0, Value.slice A1 l1.length c1].toArray 23 (0, 0))]) ?_ ?_
  · exact List.perm_append_comm (l₁ := [(t2, tO 2 2 m2 0), (m2, .map #[] 0)]) (l₂ := [(t, tO 1 1 m 0), (m, .map #[] 0)]) |>.append_right [(b, _), (ba, _), (bl, _)]
  refine v_loop [11, 4, 7, 8, 9, 10, 0, 2] (fun us G' μ' => G' = G ∧ ∃ (k : Nat) (V : Vs) (oM : Obj), k ≤ l0.length ∧ us = [Value.int .i64 (k : Nat), .pointer (some ⟨bl, 0, none⟩), .pointer (some ⟨ba, 0, none⟩), .pointer (some ⟨b, 0, none⟩), .pointer (some ⟨t, 0, none⟩), .pointer (some ⟨t2, 0, none⟩), .slice Am mem.length cm, .int .i64 x] ∧ (∀ j, nget V j < 1024) ∧ MapB keyI (vl V) oM ∧ μ' = (t, tO 1 1 m 0) :: (m, oM) :: [(t2, tO 2 2 m2 0), (m2, .map #[] 0), (b, .cells [Value.int .i64 2, Value.int .i64 2].toArray 26 (0, 0)), (ba, .cells [Value.int .i64 1, Value.int .i64 1].toArray 26 (0, 0)), (bl, .cells [Value.slice A0 l0.length c0, Value.slice A1 l1.length c1].toArray 23 (0, 0))]) (fun us => l0.length - (headI us).toNat) rfl ⟨rfl, 0, [], _, by omega, rfl, hsm, MapB.nil, rfl⟩ ?_
  rintro us G' _ ⟨hG', k, V, oM, hk, rfl, hV, hM, rfl⟩
  subst G'
  have e1 : ((k : Nat) : Int).toNat = k := by omega
  by_cases hlt : k < l0.length
  · have hA := hsome0 (by omega)
    have hc0 := hel0 k hlt
    have qv := vote_s (G := G) (r := 1) (n := 1) (low := 0) (t := t) (m := m) 1 1 5 l0[k] hM hV
    have hV2 := voteV_small (r := 1) (n := 1) (low := 0) hV 1 1 5 l0[k]
    repeat' (first | apply v_seq | apply v_region | apply v_nil | apply v_skip | apply v_block | (apply v_pure; (case hop => first | (apply p_move <;> rfl) | (apply p_lt <;> rfl) | (apply p_lenSlice <;> rfl) | (apply p_indexAddrB; (case hx => rfl); (case hi => rfl); (case h0 => omega); (case h => omega)) | fail); (case hd => rfl)) | (apply v_cond; (case hc => rfl); all_goals (intro h; (try simp only [reduceCtorEq, dec_true, dec_false, decide_eq_true_eq, decide_eq_false_iff_not, Bool.not_eq_true', Bool.not_eq_false', Option.isNone_iff_eq_none, beq_true, beq_false, beq_iff_eq, beq_eq_false_iff_ne, ne_eq, decide_eq_decide, Bool.not_eq_true, Bool.not_eq_false, Decidable.not_not] at h); first | (exfalso; omega) | skip)) | (apply v_read; (case hop => first | (apply r_load1; rfl; (apply Cell.own; (case h => (repeat (first | exact List.Mem.head _ | apply List.Mem.tail | fail))); rfl)) | fail); (case hd => rfl)) | fail)
    refine d_start [(ba, .cells [Value.int .i64 1, Value.int .i64 1].toArray 26 (0, 0)), (bl, .cells [Value.slice A0 l0.length c0, Value.slice A1 l1.length c1].toArray 23 (0, 0))] (by kernel_rfl) (by kernel_rfl) (by kernel_rfl) (by intro e he; first | (simp at he; simp [he]) | fail) ?_
    all_goals (first | (apply d_take 0; (case hi => rfl); (case hop => first | (apply PureOp.read; apply p_move <;> rfl)); (case hf => kernel_rfl); (case hr => kernel_rfl); (case hd => rfl)) | fail)
    all_goals (first | (apply d_take 1; (case hi => rfl); (case hop => first | (apply r_loadNo; (case hx => rfl); (case h => (repeat (first | exact List.Mem.head _ | fail))); (case hd => (repeat (first | with_reducible exact dt_nil | apply dt_here | fail))); (case hn => rfl)) | fail); (case hf => kernel_rfl); (case hr => kernel_rfl); (case hd => rfl)) | fail)
    all_goals (first | (apply d_take 2; (case hi => rfl); (case hop => first | (apply PureOp.read; apply p_indexAddrB; (case hx => rfl); (case hi => rfl); (case h0 => omega); (case h => omega)) | fail); (case hf => kernel_rfl); (case hr => kernel_rfl); (case hd => rfl)) | fail)
    all_goals (first | (apply d_take 3; (case hi => rfl); (case hop => first | (apply r_load1; rfl; (apply Cell.own; (case h => (repeat (first | exact List.Mem.head _ | apply List.Mem.tail | fail))); rfl)) | fail); (case hf => kernel_rfl); (case hr => kernel_rfl); (case hd => rfl)) | fail)
    all_goals (first | (apply d_take 4; (case hi => rfl); (case hop => first | (apply PureOp.read; apply p_move <;> rfl)); (case hf => kernel_rfl); (case hr => kernel_rfl); (case hd => rfl)) | fail)
    all_goals (first | (apply d_take 5; (case hi => rfl); (case hop => first | (apply PureOp.read; apply p_indexAddrS; (case hx => rfl); (case hi => rfl); (case h0 => omega); (case h => omega); (case hA => first | assumption | fail))); (case hf => kernel_rfl); (case hr => kernel_rfl); (case hd => rfl)) | fail)
    all_goals (first | (apply d_take 6; (case hi => rfl); (case hop => first | ((apply r_load1; rfl; exact Cell.frozen hc0)) | fail); (case hf => kernel_rfl); (case hr => kernel_rfl); (case hd => rfl)) | fail)
    all_goals (first | ((apply d_call 7 (hs := qv) (μ1 := [(t, _), (m, _)]) (μ2 := [(t2, tO 2 2 m2 0), (m2, .map #[] 0), (b, .cells [Value.int .i64 2, Value.int .i64 2].toArray 26 (0, 0)), (ba, .cells [Value.int .i64 1, Value.int .i64 1].toArray 26 (0, 0)), (bl, .cells [Value.slice A0 l0.length c0, Value.slice A1 l1.length c1].toArray 23 (0, 0))]); (case hi => rfl); (case hr => kernel_rfl);  (case ha => rfl); (case hp => exact List.Perm.refl _); (case hd => rfl); (case hν' => intro e he; exact List.mem_append_right [(t2, _), (m2, _), (b, _)] he); rintro _ G1 _ - ⟨hG1, -, oM2, hM2, rfl⟩; subst G1)) | fail)
    all_goals (apply d_done; (case hr => kernel_rfl))
    repeat' (first | apply v_region | apply v_nil | apply v_blk | (apply v_pure; (case hop => first | (apply p_move <;> rfl) | (apply p_assign <;> rfl) | (apply p_add; (case hx => rfl); (case hy => rfl); (case h => omega)) | fail); (case hd => rfl)) | fail)
    exact v_again rfl ⟨rfl, k + 1, _, oM2, by omega, rfl, hV2, hM2, rfl⟩ (by simp [headI]; omega)
  repeat' (first | apply v_seq | apply v_region | apply v_nil | apply v_block | (apply v_exit; (case hp => rfl)) | (apply v_pure; (case hop => first | (apply p_move <;> rfl) | (apply p_lt <;> rfl) | (apply p_assign <;> rfl) | (apply p_lenSlice <;> rfl) | (apply p_indexAddrB; (case hx => rfl); (case hi => rfl); (case h0 => omega); (case h => omega)) | fail); (case hd => rfl)) | (apply v_cond; (case hc => rfl); all_goals (intro h; (try simp only [reduceCtorEq, dec_true, dec_false, decide_eq_true_eq, decide_eq_false_iff_not, Bool.not_eq_true', Bool.not_eq_false', Option.isNone_iff_eq_none, beq_true, beq_false, beq_iff_eq, beq_eq_false_iff_ne, ne_eq, decide_eq_decide, Bool.not_eq_true, Bool.not_eq_false, Decidable.not_not] at h); first | (exfalso; omega) | skip)) | (apply v_read; (case hop => first | (apply r_load1; rfl; (apply Cell.own; (case h => (repeat (first | exact List.Mem.head _ | apply List.Mem.tail | fail))); rfl)) | fail); (case hd => rfl)) | fail)
  refine v_perm (ν := (t2, tO 2 2 m2 0) :: (m2, .map #[] 0) :: [(t, tO 1 1 m 0), (m, oM), (ba, .cells [Value.int .i64 1, Value.int .i64 1].toArray 26 (0, 0)), (b, .cells [Value.int .i64 2, Value.int .i64 2].toArray 26 (0, 0)), (bl, .cells [Value.slice A0 l0.length c0, Value.slice A1 l1.length c1].toArray 23 (0, 0))]) ?_ ?_
  · exact (List.perm_append_comm (l₁ := [(t, tO 1 1 m 0), (m, oM)]) (l₂ := [(t2, tO 2 2 m2 0), (m2, .map #[] 0)]) |>.append_right [(b, _), (ba, _), (bl, _)]).trans (List.Perm.append_left [(t2, _), (m2, _), (t, _), (m, _)] (List.Perm.swap _ _ _))
  clear e1 hlt hk
  refine v_loop [12, 4, 7, 8, 9, 10, 0, 2] (fun us G' μ' => G' = G ∧ ∃ (k : Nat) (V2 : Vs) (oM2 : Obj), k ≤ l1.length ∧ us = [Value.int .i64 (k : Nat), .pointer (some ⟨bl, 0, none⟩), .pointer (some ⟨ba, 0, none⟩), .pointer (some ⟨b, 0, none⟩), .pointer (some ⟨t, 0, none⟩), .pointer (some ⟨t2, 0, none⟩), .slice Am mem.length cm, .int .i64 x] ∧ (∀ j, nget V2 j < 1024) ∧ MapB keyI (vl V2) oM2 ∧ μ' = (t2, tO 2 2 m2 0) :: (m2, oM2) :: [(t, tO 1 1 m 0), (m, oM), (ba, .cells [Value.int .i64 1, Value.int .i64 1].toArray 26 (0, 0)), (b, .cells [Value.int .i64 2, Value.int .i64 2].toArray 26 (0, 0)), (bl, .cells [Value.slice A0 l0.length c0, Value.slice A1 l1.length c1].toArray 23 (0, 0))]) (fun us => l1.length - (headI us).toNat) rfl ⟨rfl, 0, [], _, by omega, rfl, hsm, MapB.nil, rfl⟩ ?_
  rintro us G' _ ⟨hG', k, V2, oM2, hk, rfl, hV2, hM2, rfl⟩
  subst G'
  have e1 : ((k : Nat) : Int).toNat = k := by omega
  by_cases hlt : k < l1.length
  · have hA := hsome1 (by omega)
    have hc0 := hel1 k hlt
    have qv := vote_s (G := G) (r := 2) (n := 2) (low := 0) (t := t2) (m := m2) 2 2 5 l1[k] hM2 hV2
    have hV3 := voteV_small (r := 2) (n := 2) (low := 0) hV2 2 2 5 l1[k]
    repeat' (first | apply v_seq | apply v_region | apply v_nil | apply v_skip | apply v_block | (apply v_pure; (case hop => first | (apply p_move <;> rfl) | (apply p_lt <;> rfl) | (apply p_lenSlice <;> rfl) | (apply p_indexAddrB; (case hx => rfl); (case hi => rfl); (case h0 => omega); (case h => omega)) | fail); (case hd => rfl)) | (apply v_cond; (case hc => rfl); all_goals (intro h; (try simp only [reduceCtorEq, dec_true, dec_false, decide_eq_true_eq, decide_eq_false_iff_not, Bool.not_eq_true', Bool.not_eq_false', Option.isNone_iff_eq_none, beq_true, beq_false, beq_iff_eq, beq_eq_false_iff_ne, ne_eq, decide_eq_decide, Bool.not_eq_true, Bool.not_eq_false, Decidable.not_not] at h); first | (exfalso; omega) | skip)) | (apply v_read; (case hop => first | (apply r_load1; rfl; (apply Cell.own; (case h => (repeat (first | exact List.Mem.head _ | apply List.Mem.tail | fail))); rfl)) | fail); (case hd => rfl)) | fail)
    refine d_start [(b, .cells [Value.int .i64 2, Value.int .i64 2].toArray 26 (0, 0)), (bl, .cells [Value.slice A0 l0.length c0, Value.slice A1 l1.length c1].toArray 23 (0, 0))] (by kernel_rfl) (by kernel_rfl) (by kernel_rfl) (by intro e he; first | (simp at he; simp [he]) | fail) ?_
    all_goals (first | (apply d_take 0; (case hi => rfl); (case hop => first | (apply PureOp.read; apply p_move <;> rfl)); (case hf => kernel_rfl); (case hr => kernel_rfl); (case hd => rfl)) | fail)
    all_goals (first | (apply d_take 1; (case hi => rfl); (case hop => first | (apply r_loadNo; (case hx => rfl); (case h => (repeat (first | exact List.Mem.head _ | fail))); (case hd => (repeat (first | with_reducible exact dt_nil | apply dt_here | fail))); (case hn => rfl)) | fail); (case hf => kernel_rfl); (case hr => kernel_rfl); (case hd => rfl)) | fail)
    all_goals (first | (apply d_take 2; (case hi => rfl); (case hop => first | (apply PureOp.read; apply p_indexAddrB; (case hx => rfl); (case hi => rfl); (case h0 => omega); (case h => omega)) | fail); (case hf => kernel_rfl); (case hr => kernel_rfl); (case hd => rfl)) | fail)
    all_goals (first | (apply d_take 3; (case hi => rfl); (case hop => first | (apply r_load1; rfl; (apply Cell.own; (case h => (repeat (first | exact List.Mem.head _ | apply List.Mem.tail | fail))); rfl)) | fail); (case hf => kernel_rfl); (case hr => kernel_rfl); (case hd => rfl)) | fail)
    all_goals (first | (apply d_take 4; (case hi => rfl); (case hop => first | (apply PureOp.read; apply p_move <;> rfl)); (case hf => kernel_rfl); (case hr => kernel_rfl); (case hd => rfl)) | fail)
    all_goals (first | (apply d_take 5; (case hi => rfl); (case hop => first | (apply PureOp.read; apply p_indexAddrS; (case hx => rfl); (case hi => rfl); (case h0 => omega); (case h => omega); (case hA => first | assumption | fail))); (case hf => kernel_rfl); (case hr => kernel_rfl); (case hd => rfl)) | fail)
    all_goals (first | (apply d_take 6; (case hi => rfl); (case hop => first | ((apply r_load1; rfl; exact Cell.frozen hc0)) | fail); (case hf => kernel_rfl); (case hr => kernel_rfl); (case hd => rfl)) | fail)
    all_goals (first | ((apply d_call 7 (hs := qv) (μ1 := [(t2, _), (m2, _)]) (μ2 := [(t, tO 1 1 m 0), (m, oM), (ba, .cells [Value.int .i64 1, Value.int .i64 1].toArray 26 (0, 0)), (b, .cells [Value.int .i64 2, Value.int .i64 2].toArray 26 (0, 0)), (bl, .cells [Value.slice A0 l0.length c0, Value.slice A1 l1.length c1].toArray 23 (0, 0))]); (case hi => rfl); (case hr => kernel_rfl);  (case ha => rfl); (case hp => exact List.Perm.refl _); (case hd => rfl); (case hν' => intro e he; exact List.mem_append_right [(t, _), (m, _), (ba, _)] he); rintro _ G1 _ - ⟨hG1, -, oM3, hM3, rfl⟩; subst G1)) | fail)
    all_goals (apply d_done; (case hr => kernel_rfl))
    repeat' (first | apply v_region | apply v_nil | apply v_blk | (apply v_pure; (case hop => first | (apply p_move <;> rfl) | (apply p_assign <;> rfl) | (apply p_add; (case hx => rfl); (case hy => rfl); (case h => omega)) | fail); (case hd => rfl)) | fail)
    exact v_again rfl ⟨rfl, k + 1, _, oM3, by omega, rfl, hV3, hM3, rfl⟩ (by simp [headI]; omega)
  repeat' (first | apply v_seq | apply v_region | apply v_nil | (apply v_exit; (case hp => rfl)) | (apply v_pure; (case hop => first | (apply p_move <;> rfl) | (apply p_lt <;> rfl) | (apply p_lenSlice <;> rfl) | (apply p_indexAddrB; (case hx => rfl); (case hi => rfl); (case h0 => omega); (case h => omega)) | fail); (case hd => rfl)) | (apply v_cond; (case hc => rfl); all_goals (intro h; (try simp only [reduceCtorEq, dec_true, dec_false, decide_eq_true_eq, decide_eq_false_iff_not, Bool.not_eq_true', Bool.not_eq_false', Option.isNone_iff_eq_none, beq_true, beq_false, beq_iff_eq, beq_eq_false_iff_ne, ne_eq, decide_eq_decide, Bool.not_eq_true, Bool.not_eq_false, Decidable.not_not] at h); first | (exfalso; omega) | skip)) | (apply v_read; (case hop => first | (apply r_load1; rfl; (apply Cell.own; (case h => (repeat (first | exact List.Mem.head _ | apply List.Mem.tail | fail))); rfl)) | fail); (case hd => rfl)) | fail)
  clear e1 hlt hk
  have q1 := won_s (G := G) (r := 1) (n := 1) (low := 0) (t := t) (m := m) 5 hM hV hm (by omega)
  have q2 := nodes_s (G := G) (r := 1) (n := 1) (low := 0) (t := t) (m := m) 5 hM hV
  refine v_perm (ν := [(t, tO 1 1 m 0), (m, oM), (t2, tO 2 2 m2 0), (m2, oM2), (ba, .cells [Value.int .i64 1, Value.int .i64 1].toArray 26 (0, 0)), (b, .cells [Value.int .i64 2, Value.int .i64 2].toArray 26 (0, 0)), (bl, .cells [Value.slice A0 l0.length c0, Value.slice A1 l1.length c1].toArray 23 (0, 0))]) ?_ ?_
  · exact List.perm_append_comm (l₁ := [(t2, tO 2 2 m2 0), (m2, oM2)]) (l₂ := [(t, tO 1 1 m 0), (m, oM)]) |>.append_right [(ba, _), (b, _), (bl, _)]
  repeat' (first | apply v_seq | apply v_region | apply v_nil | (apply v_pure; (case hop => first | (apply p_move <;> rfl) | (apply p_assign <;> rfl) | fail); (case hd => rfl)) | (apply v_callK (hs := q1) (μ2 := [(t2, _), (m2, _), (ba, _), (b, _), (bl, _)]); (case ha => rfl); (case hp => exact List.Perm.refl _); (case hd => rfl)) | fail)
  refine v_call (μ1 := [(t, _), (m, _)]) (μ2 := [(t2, _), (m2, _), (ba, _), (b, _), (bl, _)]) rfl q2 (List.Perm.refl _) rfl ?_
  rintro v5 G5 _ - ⟨hG5, ν5, hg5, rfl⟩
  subst G5
  rw [List.append_assoc]
  refine v_frz ν5 (PickA.here _) ?_
  intro G6 hle6 hG6
  have hw5 := hg5.ints hG6 nodesB_wf
  have hm6 := hm.mono hle6
  have q3 := nodes_s (G := G6) (r := 2) (n := 2) (low := 0) (t := t2) (m := m2) 5 hM2 hV2
  have q4 := won_s (G := G6) (r := 2) (n := 2) (low := 0) (t := t2) (m := m2) 5 hM2 hV2 hm6 (by omega)
  have qw6 := awake34_s (G := G6)
  have hwf2 := nodesB_wf (x := nget V2 5)
  have hcom : majB mem (nodesB (nget V 5)) = true → majB mem (nodesB (nget V2 5)) = true → comN (nodesB (nget V 5)) (nodesB (nget V2 5)) mem (nodesB (nget V 5)).length = true := fun h1 h2 => by
    obtain ⟨y, hy, h3, h4⟩ := maj_common h1 h2
    unfold comN
    rw [List.take_length, List.any_eq_true]
    exact ⟨y, List.contains_iff_mem.1 h3, by rw [inB_eq, inB_eq, h4, List.contains_iff_mem.2 hy]; rfl⟩
  repeat' (first | apply v_seq | apply v_region | apply v_nil | apply v_block | (apply v_pure; (case hop => first | (apply p_assign <;> rfl) | fail); (case hd => rfl)) | fail)
  have qv := vote_s (G := G6) (r := 1) (n := 1) (low := 0) (t := t) (m := m) 1 1 5 x hM hV
  have hV' := voteV_small (r := 1) (n := 1) (low := 0) hV 1 1 5 x
  have hmono : majB mem (nodesB (nget V 5)) = true → majB mem (nodesB (nget (voteV 1 1 0 V 1 1 5 x) 5)) = true := maj_mono fun y _ hy => nodesB_mono (fun bt h => voteV_bit h) hy
  generalize voteV 1 1 0 V 1 1 5 x = V' at *
  have hlenV : (nodesB (nget V 5)).length ≤ 10 := by
    unfold nodesB
    rw [List.length_map]
    exact Nat.le_trans (List.length_filter_le _ _) (by rw [List.length_range]; omega)
  have wf5 := nodesB_wf (x := nget V 5)
  clear hg5 hG6 q1 q2
  generalize nodesB (nget V 5) = L1 at *
  generalize nodesB (nget V2 5) = L2 at *
  obtain ⟨A5, c5, rfl, hlc5, hcm5, hsome5, hel5, -⟩ := id hw5.openInt
  simp only [maxLen] at hcm5
  have qm := fun y => in_s y hm6
  generalize hw1 : majB mem L1 = w1 at *
  generalize hw2 : majB mem L2 = w2 at *
  refine v_loop [16, 14, 15, 0, 7, 8, 9, 10, 13, 2] (fun us G' μ' => G' = G6 ∧ ∃ k : Nat, k ≤ L1.length ∧ us = [Value.int .i64 (k : Nat), .bool (comN L1 L2 mem k), .slice A5 L1.length c5, .slice Am mem.length cm, .pointer (some ⟨ba, 0, none⟩), .pointer (some ⟨b, 0, none⟩), .pointer (some ⟨t, 0, none⟩), .pointer (some ⟨t2, 0, none⟩), .bool w1, .int .i64 x] ∧ μ' = [(t, tO 1 1 m 0), (m, oM), (t2, tO 2 2 m2 0), (m2, oM2), (ba, .cells [Value.int .i64 1, Value.int .i64 1].toArray 26 (0, 0)), (b, .cells [Value.int .i64 2, Value.int .i64 2].toArray 26 (0, 0)), (bl, .cells [Value.slice A0 l0.length c0, Value.slice A1 l1.length c1].toArray 23 (0, 0))]) (fun us => L1.length - (headI us).toNat) rfl ⟨rfl, 0, by omega, rfl, rfl⟩ ?_
  rintro us G' _ ⟨hG', k, hk, rfl, rfl⟩
  subst G'
  have e1 : ((k : Nat) : Int).toNat = k := by omega
  by_cases hlt : k < L1.length
  · have hA := hsome5 (by omega)
    have hc0 := hel5 k hlt
    have hnx : comN L1 L2 mem (k + 1) = (comN L1 L2 mem k || (inB L2 L1[k] && inB mem L1[k])) := by
      unfold comN
      rw [List.take_succ_eq_append_getElem hlt, List.any_append, List.any_cons, List.any_nil, Bool.or_false]
    have qmk := qm L1[k]
    have qik : ∀ {v : Value} {ν : OH}, Grow 3 1 v L2.length (L2.map (Value.int .i64 ·)) ν → Con Try.prog 14 #[v, .int .i64 L1[k]] G6 ν (Keeps (.bool (inB L2 L1[k])) G6 ν) := fun hg => Con.lendJ fun G2 h1 h2 => in_s _ (hg.ints h2 hwf2)
    generalize L1[k] = y at *
    generalize inB L2 y = ja at *
    generalize inB mem y = jb at *
    generalize comN L1 L2 mem k = cb at *
    repeat' (first | apply v_seq | apply v_region | apply v_nil | apply v_skip | apply v_block | (apply v_pure; (case hop => first | (apply p_move <;> rfl) | (apply p_lt <;> rfl) | (apply p_lenSlice <;> rfl) | fail); (case hd => rfl)) | (apply v_cond; (case hc => rfl); all_goals (intro h; (try simp only [reduceCtorEq, dec_true, dec_false, decide_eq_true_eq, decide_eq_false_iff_not, Bool.not_eq_true', Bool.not_eq_false', Option.isNone_iff_eq_none, beq_true, beq_false, beq_iff_eq, beq_eq_false_iff_ne, ne_eq, decide_eq_decide, Bool.not_eq_true, Bool.not_eq_false, Decidable.not_not] at h); first | (exfalso; omega) | skip)) | fail)
    have hpm := fun o => List.perm_append_comm (l₁ := [(t, tO 1 1 m 0), (m, oM)]) (l₂ := [(t2, tO 2 2 m2 0), (m2, oM2)]) |>.append_right (o : OH)
    cases cb <;> cases ja <;> cases jb
    all_goals
      (refine d_start [] (by kernel_rfl) (by kernel_rfl) (by kernel_rfl) (by intro e he; first | (simp at he ⊢; try omega)) ?_
       all_goals (first | (apply d_take 0; (case hi => rfl); (case hop => first | (apply PureOp.read; apply p_move <;> rfl)); (case hf => kernel_rfl); (case hr => kernel_rfl); (case hd => rfl)) | fail)
       all_goals (first | (apply d_take 1; (case hi => rfl); (case hop => first | (apply PureOp.read; apply p_move <;> rfl)); (case hf => kernel_rfl); (case hr => kernel_rfl); (case hd => rfl)) | fail)
       all_goals (try (apply d_guardB 2; (case hi => rfl); (case hgd => rfl); (case h1 => rfl); (case h2 => first | rfl); all_goals (intro h; (try simp only [reduceCtorEq, dec_true, dec_false, decide_eq_true_eq, decide_eq_false_iff_not, Bool.not_eq_true', Bool.not_eq_false', Option.isNone_iff_eq_none, beq_true, beq_false, beq_iff_eq, beq_eq_false_iff_ne, ne_eq, decide_eq_decide, Bool.not_eq_true, Bool.not_eq_false, Decidable.not_not] at h); first | done | skip)))
       all_goals (first | (apply d_pass 2; (case hi => rfl); (case hg => rfl); (case hn => rfl); (case hf => kernel_rfl); (case hr => kernel_rfl); (case hd => rfl)) | (apply d_takeG 2; (case hi => rfl); (case hg => rfl); (case hop => first | (apply PureOp.read; apply p_move <;> rfl)); (case hf => kernel_rfl); (case hr => kernel_rfl); (case hd => rfl)) | fail)
       all_goals (try (apply d_guardB 4; (case hi => rfl); (case hgd => rfl); (case h1 => rfl); (case h2 => first | rfl); all_goals (intro h; (try simp only [reduceCtorEq, dec_true, dec_false, decide_eq_true_eq, decide_eq_false_iff_not, Bool.not_eq_true', Bool.not_eq_false', Option.isNone_iff_eq_none, beq_true, beq_false, beq_iff_eq, beq_eq_false_iff_ne, ne_eq, decide_eq_decide, Bool.not_eq_true, Bool.not_eq_false, Decidable.not_not] at h); first | done | skip)))
       all_goals (first | (apply d_pass 4; (case hi => rfl); (case hg => rfl); (case hn => rfl); (case hf => kernel_rfl); (case hr => kernel_rfl); (case hd => rfl)) | (apply d_takeG 4; (case hi => rfl); (case hg => rfl); (case hop => first | (apply PureOp.read; apply p_move <;> rfl)); (case hf => kernel_rfl); (case hr => kernel_rfl); (case hd => rfl)) | fail)
       all_goals (try (apply d_guardB 5; (case hi => rfl); (case hgd => rfl); (case h1 => rfl); (case h2 => first | rfl); all_goals (intro h; (try simp only [reduceCtorEq, dec_true, dec_false, decide_eq_true_eq, decide_eq_false_iff_not, Bool.not_eq_true', Bool.not_eq_false', Option.isNone_iff_eq_none, beq_true, beq_false, beq_iff_eq, beq_eq_false_iff_ne, ne_eq, decide_eq_decide, Bool.not_eq_true, Bool.not_eq_false, Decidable.not_not] at h); first | done | skip)))
       all_goals (first | (apply d_pass 5; (case hi => rfl); (case hg => rfl); (case hn => rfl); (case hf => kernel_rfl); (case hr => kernel_rfl); (case hd => rfl)) | (apply d_takeG 5; (case hi => rfl); (case hg => rfl); (case hop => first | (apply PureOp.read; apply p_move <;> rfl)); (case hf => kernel_rfl); (case hr => kernel_rfl); (case hd => rfl)) | fail)
       all_goals (try (apply d_guardB 6; (case hi => rfl); (case hgd => rfl); (case h1 => rfl); (case h2 => first | rfl); all_goals (intro h; (try simp only [reduceCtorEq, dec_true, dec_false, decide_eq_true_eq, decide_eq_false_iff_not, Bool.not_eq_true', Bool.not_eq_false', Option.isNone_iff_eq_none, beq_true, beq_false, beq_iff_eq, beq_eq_false_iff_ne, ne_eq, decide_eq_decide, Bool.not_eq_true, Bool.not_eq_false, Decidable.not_not] at h); first | done | skip)))
       all_goals (first | (apply d_pass 6; (case hi => rfl); (case hg => rfl); (case hn => rfl); (case hf => kernel_rfl); (case hr => kernel_rfl); (case hd => rfl)) | (apply d_takeG 6; (case hi => rfl); (case hg => rfl); (case hop => first | (apply PureOp.read; apply p_indexAddrS; (case hx => rfl); (case hi => rfl); (case h0 => omega); (case h => omega); (case hA => first | assumption | fail))); (case hf => kernel_rfl); (case hr => kernel_rfl); (case hd => rfl)) | fail)
       all_goals (try (apply d_guardB 7; (case hi => rfl); (case hgd => rfl); (case h1 => rfl); (case h2 => first | rfl); all_goals (intro h; (try simp only [reduceCtorEq, dec_true, dec_false, decide_eq_true_eq, decide_eq_false_iff_not, Bool.not_eq_true', Bool.not_eq_false', Option.isNone_iff_eq_none, beq_true, beq_false, beq_iff_eq, beq_eq_false_iff_ne, ne_eq, decide_eq_decide, Bool.not_eq_true, Bool.not_eq_false, Decidable.not_not] at h); first | done | skip)))
       all_goals (first | (apply d_pass 7; (case hi => rfl); (case hg => rfl); (case hn => rfl); (case hf => kernel_rfl); (case hr => kernel_rfl); (case hd => rfl)) | (apply d_takeG 7; (case hi => rfl); (case hg => rfl); (case hop => first | ((apply r_load1; rfl; exact Cell.frozen hc0)) | fail); (case hf => kernel_rfl); (case hr => kernel_rfl); (case hd => rfl)) | fail)
       all_goals (try (apply d_guardB 3; (case hi => rfl); (case hgd => rfl); (case h1 => rfl); (case h2 => first | rfl); all_goals (intro h; (try simp only [reduceCtorEq, dec_true, dec_false, decide_eq_true_eq, decide_eq_false_iff_not, Bool.not_eq_true', Bool.not_eq_false', Option.isNone_iff_eq_none, beq_true, beq_false, beq_iff_eq, beq_eq_false_iff_ne, ne_eq, decide_eq_decide, Bool.not_eq_true, Bool.not_eq_false, Decidable.not_not] at h); first | done | skip)))
       all_goals (first | (apply d_pass 3; (case hi => rfl); (case hg => rfl); (case hn => rfl); (case hf => kernel_rfl); (case hr => kernel_rfl); (case hd => rfl)) | ((apply d_callG 3 (hs := q3) (μ1 := [(t2, _), (m2, _)]) (μ2 := [(t, tO 1 1 m 0), (m, oM), (ba, .cells [Value.int .i64 1, Value.int .i64 1].toArray 26 (0, 0)), (b, .cells [Value.int .i64 2, Value.int .i64 2].toArray 26 (0, 0)), (bl, .cells [Value.slice A0 l0.length c0, Value.slice A1 l1.length c1].toArray 23 (0, 0))]); (case hi => rfl); (case hg => rfl); (case hr => kernel_rfl);  (case ha => rfl); (case hp => exact hpm _); (case hd => rfl); (case hν' => intro e he; cases he); rintro v6 G7 _ - ⟨hG7, ν6, hg6, rfl⟩; subst G7; have qk := qik hg6)) | fail)
       all_goals (try (apply d_guardB 8; (case hi => rfl); (case hgd => rfl); (case h1 => rfl); (case h2 => first | rfl); all_goals (intro h; (try simp only [reduceCtorEq, dec_true, dec_false, decide_eq_true_eq, decide_eq_false_iff_not, Bool.not_eq_true', Bool.not_eq_false', Option.isNone_iff_eq_none, beq_true, beq_false, beq_iff_eq, beq_eq_false_iff_ne, ne_eq, decide_eq_decide, Bool.not_eq_true, Bool.not_eq_false, Decidable.not_not] at h); first | done | skip)))
       all_goals (first | (apply d_pass 8; (case hi => rfl); (case hg => rfl); (case hn => rfl); (case hf => kernel_rfl); (case hr => kernel_rfl); (case hd => rfl)) | ((apply d_callKG 8 (hs := qk); (case hi => rfl); (case hg => rfl); (case hr => kernel_rfl);  (case ha => rfl); (case hp => exact List.Perm.of_eq (List.append_assoc _ _ _)); (case hd => rfl))) | fail)
       all_goals (try (apply d_guardB 9; (case hi => rfl); (case hgd => rfl); (case h1 => rfl); (case h2 => first | rfl); all_goals (intro h; (try simp only [reduceCtorEq, dec_true, dec_false, decide_eq_true_eq, decide_eq_false_iff_not, Bool.not_eq_true', Bool.not_eq_false', Option.isNone_iff_eq_none, beq_true, beq_false, beq_iff_eq, beq_eq_false_iff_ne, ne_eq, decide_eq_decide, Bool.not_eq_true, Bool.not_eq_false, Decidable.not_not] at h); first | done | skip)))
       all_goals (first | (apply d_pass 9; (case hi => rfl); (case hg => rfl); (case hn => rfl); (case hf => kernel_rfl); (case hr => kernel_rfl); (case hd => rfl)) | (apply d_takeG 9; (case hi => rfl); (case hg => rfl); (case hop => first | (apply PureOp.read; apply p_move <;> rfl)); (case hf => kernel_rfl); (case hr => kernel_rfl); (case hd => rfl)) | fail)
       all_goals (try (apply d_guardB 10; (case hi => rfl); (case hgd => rfl); (case h1 => rfl); (case h2 => first | rfl); all_goals (intro h; (try simp only [reduceCtorEq, dec_true, dec_false, decide_eq_true_eq, decide_eq_false_iff_not, Bool.not_eq_true', Bool.not_eq_false', Option.isNone_iff_eq_none, beq_true, beq_false, beq_iff_eq, beq_eq_false_iff_ne, ne_eq, decide_eq_decide, Bool.not_eq_true, Bool.not_eq_false, Decidable.not_not] at h); first | done | skip)))
       all_goals (first | (apply d_pass 10; (case hi => rfl); (case hg => rfl); (case hn => rfl); (case hf => kernel_rfl); (case hr => kernel_rfl); (case hd => rfl)) | (apply d_passN 10; (case hi => rfl); (case hg => rfl); (case hn => rfl); (case hf => kernel_rfl); (case hr => kernel_rfl); (case hd => rfl)) | (apply d_takeG 10; (case hi => rfl); (case hg => rfl); (case hop => first | (apply PureOp.read; apply p_move <;> rfl)); (case hf => kernel_rfl); (case hr => kernel_rfl); (case hd => rfl)) | fail)
       all_goals (try (apply d_guardB 11; (case hi => rfl); (case hgd => rfl); (case h1 => rfl); (case h2 => first | rfl); all_goals (intro h; (try simp only [reduceCtorEq, dec_true, dec_false, decide_eq_true_eq, decide_eq_false_iff_not, Bool.not_eq_true', Bool.not_eq_false', Option.isNone_iff_eq_none, beq_true, beq_false, beq_iff_eq, beq_eq_false_iff_ne, ne_eq, decide_eq_decide, Bool.not_eq_true, Bool.not_eq_false, Decidable.not_not] at h); first | done | skip)))
       all_goals (first | (apply d_pass 11; (case hi => rfl); (case hg => rfl); (case hn => rfl); (case hf => kernel_rfl); (case hr => kernel_rfl); (case hd => rfl)) | (apply d_passN 11; (case hi => rfl); (case hg => rfl); (case hn => rfl); (case hf => kernel_rfl); (case hr => kernel_rfl); (case hd => rfl)) | (apply d_takeG 11; (case hi => rfl); (case hg => rfl); (case hop => first | (apply PureOp.read; apply p_move <;> rfl)); (case hf => kernel_rfl); (case hr => kernel_rfl); (case hd => rfl)) | fail)
       all_goals (try (apply d_guardB 12; (case hi => rfl); (case hgd => rfl); (case h1 => rfl); (case h2 => first | rfl); all_goals (intro h; (try simp only [reduceCtorEq, dec_true, dec_false, decide_eq_true_eq, decide_eq_false_iff_not, Bool.not_eq_true', Bool.not_eq_false', Option.isNone_iff_eq_none, beq_true, beq_false, beq_iff_eq, beq_eq_false_iff_ne, ne_eq, decide_eq_decide, Bool.not_eq_true, Bool.not_eq_false, Decidable.not_not] at h); first | done | skip)))
       all_goals (first | (apply d_pass 12; (case hi => rfl); (case hg => rfl); (case hn => rfl); (case hf => kernel_rfl); (case hr => kernel_rfl); (case hd => rfl)) | (apply d_passN 12; (case hi => rfl); (case hg => rfl); (case hn => rfl); (case hf => kernel_rfl); (case hr => kernel_rfl); (case hd => rfl)) | (apply d_takeG 12; (case hi => rfl); (case hg => rfl); (case hop => first | (apply PureOp.read; apply p_move <;> rfl)); (case hf => kernel_rfl); (case hr => kernel_rfl); (case hd => rfl)) | fail)
       all_goals (try (apply d_guardB 13; (case hi => rfl); (case hgd => rfl); (case h1 => rfl); (case h2 => first | rfl); all_goals (intro h; (try simp only [reduceCtorEq, dec_true, dec_false, decide_eq_true_eq, decide_eq_false_iff_not, Bool.not_eq_true', Bool.not_eq_false', Option.isNone_iff_eq_none, beq_true, beq_false, beq_iff_eq, beq_eq_false_iff_ne, ne_eq, decide_eq_decide, Bool.not_eq_true, Bool.not_eq_false, Decidable.not_not] at h); first | done | skip)))
       all_goals (first | (apply d_pass 13; (case hi => rfl); (case hg => rfl); (case hn => rfl); (case hf => kernel_rfl); (case hr => kernel_rfl); (case hd => rfl)) | (apply d_passN 13; (case hi => rfl); (case hg => rfl); (case hn => rfl); (case hf => kernel_rfl); (case hr => kernel_rfl); (case hd => rfl)) | (apply d_takeG 13; (case hi => rfl); (case hg => rfl); (case hop => first | (apply PureOp.read; apply p_indexAddrS; (case hx => rfl); (case hi => rfl); (case h0 => omega); (case h => omega); (case hA => first | assumption | fail))); (case hf => kernel_rfl); (case hr => kernel_rfl); (case hd => rfl)) | fail)
       all_goals (try (apply d_guardB 14; (case hi => rfl); (case hgd => rfl); (case h1 => rfl); (case h2 => first | rfl); all_goals (intro h; (try simp only [reduceCtorEq, dec_true, dec_false, decide_eq_true_eq, decide_eq_false_iff_not, Bool.not_eq_true', Bool.not_eq_false', Option.isNone_iff_eq_none, beq_true, beq_false, beq_iff_eq, beq_eq_false_iff_ne, ne_eq, decide_eq_decide, Bool.not_eq_true, Bool.not_eq_false, Decidable.not_not] at h); first | done | skip)))
       all_goals (first | (apply d_pass 14; (case hi => rfl); (case hg => rfl); (case hn => rfl); (case hf => kernel_rfl); (case hr => kernel_rfl); (case hd => rfl)) | (apply d_passN 14; (case hi => rfl); (case hg => rfl); (case hn => rfl); (case hf => kernel_rfl); (case hr => kernel_rfl); (case hd => rfl)) | (apply d_takeG 14; (case hi => rfl); (case hg => rfl); (case hop => first | ((apply r_load1; rfl; exact Cell.frozen hc0)) | fail); (case hf => kernel_rfl); (case hr => kernel_rfl); (case hd => rfl)) | fail)
       all_goals (try (apply d_guardB 15; (case hi => rfl); (case hgd => rfl); (case h1 => rfl); (case h2 => first | rfl); all_goals (intro h; (try simp only [reduceCtorEq, dec_true, dec_false, decide_eq_true_eq, decide_eq_false_iff_not, Bool.not_eq_true', Bool.not_eq_false', Option.isNone_iff_eq_none, beq_true, beq_false, beq_iff_eq, beq_eq_false_iff_ne, ne_eq, decide_eq_decide, Bool.not_eq_true, Bool.not_eq_false, Decidable.not_not] at h); first | done | skip)))
       all_goals (first | (apply d_pass 15; (case hi => rfl); (case hg => rfl); (case hn => rfl); (case hf => kernel_rfl); (case hr => kernel_rfl); (case hd => rfl)) | (apply d_passN 15; (case hi => rfl); (case hg => rfl); (case hn => rfl); (case hf => kernel_rfl); (case hr => kernel_rfl); (case hd => rfl)) | ((apply d_callJG 15 (hs := qmk); (case hi => rfl); (case hg => rfl); (case hr => kernel_rfl);  (case ha => rfl); (case hd => rfl))) | fail)
       all_goals (try (apply d_guardB 16; (case hi => rfl); (case hgd => rfl); (case h1 => rfl); (case h2 => first | rfl); all_goals (intro h; (try simp only [reduceCtorEq, dec_true, dec_false, decide_eq_true_eq, decide_eq_false_iff_not, Bool.not_eq_true', Bool.not_eq_false', Option.isNone_iff_eq_none, beq_true, beq_false, beq_iff_eq, beq_eq_false_iff_ne, ne_eq, decide_eq_decide, Bool.not_eq_true, Bool.not_eq_false, Decidable.not_not] at h); first | done | skip)))
       all_goals (first | (apply d_pass 16; (case hi => rfl); (case hg => rfl); (case hn => rfl); (case hf => kernel_rfl); (case hr => kernel_rfl); (case hd => rfl)) | (apply d_takeG 16; (case hi => rfl); (case hg => rfl); (case hop => first | (apply PureOp.read; apply p_pickT <;> rfl) | (apply PureOp.read; apply p_pickF <;> rfl) | fail); (case hf => kernel_rfl); (case hr => kernel_rfl); (case hd => rfl)) | fail)
       all_goals (first | (apply d_take 17; (case hi => rfl); (case hop => first | (apply PureOp.read; apply p_pickT <;> rfl) | (apply PureOp.read; apply p_pickF <;> rfl) | fail); (case hf => kernel_rfl); (case hr => kernel_rfl); (case hd => rfl)) | fail)
       all_goals (first | (apply d_take 18; (case hi => rfl); (case hop => first | (apply PureOp.read; apply p_assign <;> rfl)); (case hf => kernel_rfl); (case hr => kernel_rfl); (case hd => rfl)) | fail)
       all_goals (apply d_done; (case hr => kernel_rfl))
       repeat' (first | apply v_region | apply v_nil | apply v_blk | (apply v_pure; (case hop => first | (apply p_move <;> rfl) | (apply p_assign <;> rfl) | (apply p_add; (case hx => rfl); (case hy => rfl); (case h => omega)) | fail); (case hd => rfl)) | fail))
    all_goals first
      | (refine v_again rfl ⟨rfl, k + 1, by omega, by rw [hnx]; rfl, rfl⟩ (by simp [headI]; omega))
      | (refine v_perm (ν := ν6 ++ [(t, tO 1 1 m 0), (m, oM), (t2, tO 2 2 m2 0), (m2, oM2), (ba, .cells [Value.int .i64 1, Value.int .i64 1].toArray 26 (0, 0)), (b, .cells [Value.int .i64 2, Value.int .i64 2].toArray 26 (0, 0)), (bl, .cells [Value.slice A0 l0.length c0, Value.slice A1 l1.length c1].toArray 23 (0, 0))]) ?_ ?_
         · rw [List.append_assoc]
           exact List.Perm.append_left _ (hpm _).symm
         · refine v_drop (List.sublist_append_right _ _) ?_
           refine v_again rfl ⟨rfl, k + 1, by omega, by rw [hnx]; rfl, rfl⟩ (by simp [headI]; omega))
  obtain rfl : k = L1.length := by omega
  clear hk hlt e1
  have hpm := fun o => List.perm_append_comm (l₁ := [(t, tO 1 1 m 0), (m, oM)]) (l₂ := [(t2, tO 2 2 m2 0), (m2, oM2)]) |>.append_right (o : OH)
  generalize comN L1 L2 mem L1.length = cb at *
  cases w1 <;> cases w2 <;> cases cb
  all_goals try (have h9 := hcom rfl rfl; cases h9; done)
  all_goals
    (repeat' (first | apply v_seq | apply v_region | apply v_nil | apply v_skip | (apply v_exit; (case hp => rfl)) | (apply v_take; (case hg => rfl)) | (apply v_pass; (case hg => rfl); (case hn => rfl); (case hd => rfl)) | (apply v_pure; (case hop => first | (apply p_move <;> rfl) | (apply p_lt <;> rfl) | (apply p_pickT <;> rfl) | (apply p_pickF <;> rfl) | (apply p_not <;> rfl) | (apply p_lenSlice <;> rfl) | fail); (case hd => rfl)) | (apply v_condF; (case hc => rfl)) | (apply v_cond; (case hc => rfl); all_goals (intro h; (try simp only [reduceCtorEq, dec_true, dec_false, decide_eq_true_eq, decide_eq_false_iff_not, Bool.not_eq_true', Bool.not_eq_false', Option.isNone_iff_eq_none, beq_true, beq_false, beq_iff_eq, beq_eq_false_iff_ne, ne_eq, decide_eq_decide, Bool.not_eq_true, Bool.not_eq_false, Decidable.not_not] at h); first | (exfalso; omega) | skip)) | (apply v_callK (hs := q4) (μ2 := [(t, tO 1 1 m 0), (m, oM), (ba, .cells [Value.int .i64 1, Value.int .i64 1].toArray 26 (0, 0)), (b, .cells [Value.int .i64 2, Value.int .i64 2].toArray 26 (0, 0)), (bl, .cells [Value.slice A0 l0.length c0, Value.slice A1 l1.length c1].toArray 23 (0, 0))]); (case ha => rfl); (case hp => exact hpm _); (case hd => rfl)) | (apply v_read; (case hop => (apply r_loadNo; (case hx => rfl); (case h => repeat (first | exact List.Mem.head _ | apply List.Mem.tail)); (case hd => rfl); (case hn => rfl))); (case hd => rfl)) | fail))
  all_goals
    (refine v_call (μ1 := [(t, _), (m, _)]) (μ2 := [(t2, tO 2 2 m2 0), (m2, oM2), (ba, .cells [Value.int .i64 1, Value.int .i64 1].toArray 26 (0, 0)), (b, .cells [Value.int .i64 2, Value.int .i64 2].toArray 26 (0, 0)), (bl, .cells [Value.slice A0 l0.length c0, Value.slice A1 l1.length c1].toArray 23 (0, 0))]) rfl qv (List.Perm.refl _) rfl ?_
     rintro v9 G9 _ - ⟨hG9, -, oM9, hM9, rfl⟩
     subst G9
     have q9 := won_s (G := G6) (r := 1) (n := 1) (low := 0) (t := t) (m := m) 5 hM9 hV' hm6 (by omega)
     try rw [hmono rfl] at q9
     repeat' (first | apply v_seq | apply v_region | apply v_nil | (apply v_take; (case hg => rfl)) | (apply v_pass; (case hg => rfl); (case hn => rfl); (case hd => rfl)) | (apply v_pure; (case hop => first | (apply p_move <;> rfl) | (apply p_pickT <;> rfl) | (apply p_pickF <;> rfl) | (apply p_not <;> rfl) | fail); (case hd => rfl)) | (apply v_callK (hs := q9) (μ2 := [(t2, tO 2 2 m2 0), (m2, oM2), (ba, .cells [Value.int .i64 1, Value.int .i64 1].toArray 26 (0, 0)), (b, .cells [Value.int .i64 2, Value.int .i64 2].toArray 26 (0, 0)), (bl, .cells [Value.slice A0 l0.length c0, Value.slice A1 l1.length c1].toArray 23 (0, 0))]); (case ha => rfl); (case hp => exact List.Perm.refl _); (case hd => rfl)) | fail)
     refine v_call (μ1 := []) rfl qw6 (List.Perm.refl _) rfl ?_
     rintro _ G10 μ10 - rfl
     repeat' (first | apply v_nil | (apply v_pure; (case hop => first | (apply p_assign <;> rfl) | (apply p_pickT <;> rfl) | fail); (case hd => rfl)) | fail)
     exact v_ret [] (outsA1 rfl rfl) (List.nil_sublist _) rfl)
end Go.Proofs.Ytgflmkhfachlcaa
/-
  TallyCommon: two ballots won by majorities of the same members have a voter in common; a ballot that is won stays won. Condition: none.
-/
set_option linter.unusedSimpArgs false
set_option linter.unusedVariables false
namespace Go.Proofs.Ytgflmkhfachlcaa
open Go.Vx Go.ChangeShapes Go.WideShapes Go.ChangeAt Go.RowKit
theorem tallyCommon_own : ownKnob Try.prog.godebug = none := by kernel_rfl
theorem tallyCommon_laidOut : laidOutB Try.prog = true := by kernel_rfl
theorem tallyCommon_spec : LawSpec Rows.tallyCommonSpec 3 := ⟨rfl, fun H ds h => by match ds, h with | [d0, d1, d2], _ => rfl⟩
set_option maxRecDepth 100000 in
theorem tallyCommon_lifted (os : Os) (started : os.Started) (H : Type) (enc : TypeId × Value → H) :
    ReturnsInHanded {} Try.checked os 3 .any (Rows.tallyCommonSpec.pre6 enc Try.prog Try.f3 Rows.tallyCommonRow.domain false) (Rows.tallyCommonSpec.post enc Try.prog Try.f3 false true false false) := by
  refine returnsInHanded_of_change (C := Try.checked) tallyCommon_own started (by kernel_rfl) Try.func3
    (ChangeSpec.witness6 (enc := enc) (C := Try.checked) false ⟨#[], #[.slice none 0 0, .agg #[.slice none 0 0, .slice none 0 0], .int .i64 0], []⟩ 8 (by kernel_rfl) (by kernel_rfl) (by kernel_rfl) (by kernel_rfl)) ?_
  intro W base args ds gs before hval0 hW hcnd _
  have hval : ∀ (j : Nat) t v, Try.f3.params[j]? = some t → args[j]? = some v → Value.okWide Try.prog W .any base t v := hval0
  refine law_post tallyCommon_laidOut Try.underlying4 rfl tallyCommon_spec rfl (by kernel_rfl) hW ?_
  obtain ⟨p, q, hA0, hV, rfl, hfz, hnd⟩ := hW
  have hA : DataW.TrodAll enc Try.prog W 0 (fun _ => true) true Try.f3.params.toList args.toList ds p := hA0
  rw [Try.params3] at hA hval
  obtain ⟨v0, vs0, d0, ds0, p0, q0, hargs, rfl, rfl, h0, r0⟩ := trodAll_cons hA
  obtain ⟨v1, vs1, d1, ds1, p1, q1, rfl, rfl, rfl, h1, r1⟩ := trodAll_cons r0
  obtain ⟨v2, vs2, d2, ds2, p2, q2, rfl, rfl, rfl, h2, r2⟩ := trodAll_cons r1
  obtain ⟨rfl, rfl, rfl⟩ := trodAll_nil r2
  obtain rfl : args = #[v0, v1, v2] := by cases args; simp_all
  have g0 := arg_t22 (hval 0 22 v0 rfl rfl) h0
  have g1 := arg_t23 (hval 1 23 v1 rfl rfl) h1
  have g2 := arg_t3 (hval 2 3 v2 rfl rfl) h2
  exact tallyCommon_law g0 g1 g2
theorem tallyCommon_over : Rows.tallyCommonRow.holds Try.pinned (OpenSpec.ofChange Rows.tallyCommonSpec) :=
  OpenClaim.holds_of_wide 3 Try.f3 rfl rfl rfl rfl rfl rfl rfl ⟨rfl, rfl, rfl, rfl, rfl⟩ rfl rfl rfl rfl rfl (by kernel_rfl) Try.func3 (by kernel_rfl)
    (of_decide_eq_true (by kernel_rfl)) (by unfold Func.isWrapper; first | (rw [if_pos (by decide +kernel)]; kernel_rfl) | (rw [if_neg (by decide +kernel)]; exact ⟨rfl, rfl⟩))
    (fun os started H enc _ => tallyCommon_lifted os started H enc)
theorem tallyCommon_holds : Rows.TallyCommonSaid := tallyCommon_over

end Go.Proofs.Ytgflmkhfachlcaa

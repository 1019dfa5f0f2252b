/-
  VX, THE CLOSED FACTS on this seat's types and functions, by program (vxgen.py).
-/
import Derived.Test.YtpemabgfmnhhnaaGreatDoorM1
import Derived.Test.YtpemabgfmnhhnaaGreatDoorRows
import Derived.Shelf.Unicode.DecodeAny
import Derived.Laws.IdiomStrings
set_option linter.unusedSimpArgs false
set_option linter.unusedVariables false
namespace Go.Proofs.YtpemabgfmnhhnaaGreatDoor
open Go Go.Vx
instance:Ty Tryz.prog 3 (.int .i64):=⟨by kernel_rfl⟩
instance:Lay Tryz.prog 3 false 1 8 (.int .i64 0):=⟨by kernel_rfl,by kernel_rfl⟩
instance:Ty Tryz.prog 4 (.bool):=⟨by kernel_rfl⟩
instance:Lay Tryz.prog 4 false 1 1 (.bool false):=⟨by kernel_rfl,by kernel_rfl⟩
instance:Ty Tryz.prog 5 (.int .u8):=⟨by kernel_rfl⟩
instance:Lay Tryz.prog 5 false 1 1 (.int .u8 0):=⟨by kernel_rfl,by kernel_rfl⟩
instance:Ty Tryz.prog 9 (.string):=⟨by kernel_rfl⟩
instance:Lay Tryz.prog 9 false 1 16 (.string ByteArray.empty):=⟨by kernel_rfl,by kernel_rfl⟩
instance:Lay Tryz.prog 23 true 2 16 (.agg #[.int .i64 0,.int .i64 0]):=⟨by kernel_rfl,by kernel_rfl⟩
instance:Fld Tryz.prog 23 0 0 3:=⟨by kernel_rfl⟩
instance:Fld Tryz.prog 23 1 1 3:=⟨by kernel_rfl⟩
instance:EqS Tryz.prog 23 [⟨"Round",3,0,false, "", "",0⟩,⟨"Node",3,1,false, "", "",8⟩]:=⟨by kernel_rfl,by kernel_rfl,by kernel_rfl,by kernel_rfl⟩
instance:Places Tryz.prog 23 [(0,1),(1,1)]:=⟨by kernel_rfl⟩
instance:Ty Tryz.prog 24 (.slice 5):=⟨by kernel_rfl⟩
instance:Lay Tryz.prog 24 false 1 24 (.slice none 0 0):=⟨by kernel_rfl,by kernel_rfl⟩
instance:Ty Tryz.prog 25 (.slice 97):=⟨by kernel_rfl⟩
instance:Lay Tryz.prog 25 false 1 24 (.slice none 0 0):=⟨by kernel_rfl,by kernel_rfl⟩
instance:Lay Tryz.prog 27 true 6 96 (.agg #[.int .i64 0,.int .i64 0,.int .i64 0,.slice none 0 0,.slice none 0 0,.slice none 0 0]):=⟨by kernel_rfl,by kernel_rfl⟩
instance:Fld Tryz.prog 27 0 0 23:=⟨by kernel_rfl⟩
instance:Fld Tryz.prog 27 1 2 3:=⟨by kernel_rfl⟩
instance:Fld Tryz.prog 27 2 3 24:=⟨by kernel_rfl⟩
instance:Fld Tryz.prog 27 3 4 25:=⟨by kernel_rfl⟩
instance:Fld Tryz.prog 27 4 5 25:=⟨by kernel_rfl⟩
instance:Places Tryz.prog 27 [(0,2),(2,1),(3,1),(4,1),(5,1)]:=⟨by kernel_rfl⟩
instance:Lay Tryz.prog 30 false 1 8 (.int .i64 0):=⟨by kernel_rfl,by kernel_rfl⟩
instance:Ty Tryz.prog 34 (.slice 42):=⟨by kernel_rfl⟩
instance:Lay Tryz.prog 34 false 1 24 (.slice none 0 0):=⟨by kernel_rfl,by kernel_rfl⟩
instance:Lay Tryz.prog 40 true 7 80 (.agg #[.int .i64 0,.int .i64 0,.int .i64 0,.string ByteArray.empty,.string ByteArray.empty,.string ByteArray.empty,.int .i64 0]):=⟨by kernel_rfl,by kernel_rfl⟩
instance:Fld Tryz.prog 40 0 0 3:=⟨by kernel_rfl⟩
instance:Fld Tryz.prog 40 1 1 3:=⟨by kernel_rfl⟩
instance:Fld Tryz.prog 40 2 2 3:=⟨by kernel_rfl⟩
instance:Fld Tryz.prog 40 3 3 9:=⟨by kernel_rfl⟩
instance:Fld Tryz.prog 40 4 4 9:=⟨by kernel_rfl⟩
instance:Fld Tryz.prog 40 5 5 9:=⟨by kernel_rfl⟩
instance:Fld Tryz.prog 40 6 6 3:=⟨by kernel_rfl⟩
instance:EqS Tryz.prog 40 [⟨"Kind",3,0,false, "", "",0⟩,⟨"Client",3,1,false, "", "",8⟩,⟨"Seq",3,2,false, "", "",16⟩,⟨"Key",9,3,false, "", "",24⟩,⟨"Val",9,4,false, "", "",40⟩,⟨"Old",9,5,false, "", "",56⟩,⟨"Node",3,6,false, "", "",72⟩]:=⟨by kernel_rfl,by kernel_rfl,by kernel_rfl,by kernel_rfl⟩
instance:Places Tryz.prog 40 [(0,1),(1,1),(2,1),(3,1),(4,1),(5,1),(6,1)]:=⟨by kernel_rfl⟩
instance:Lay Tryz.prog 42 true 12 136 (.agg #[.int .i64 0,.int .i64 0,.int .i64 0,.int .i64 0,.int .i64 0,.int .i64 0,.int .i64 0,.string ByteArray.empty,.string ByteArray.empty,.string ByteArray.empty,.int .i64 0,.slice none 0 0]):=⟨by kernel_rfl,by kernel_rfl⟩
instance:Fld Tryz.prog 42 0 0 3:=⟨by kernel_rfl⟩
instance:Fld Tryz.prog 42 1 1 23:=⟨by kernel_rfl⟩
instance:Fld Tryz.prog 42 2 3 3:=⟨by kernel_rfl⟩
instance:Fld Tryz.prog 42 3 4 40:=⟨by kernel_rfl⟩
instance:Fld Tryz.prog 42 4 11 24:=⟨by kernel_rfl⟩
instance:Places Tryz.prog 42 [(0,1),(1,2),(3,1),(4,7),(11,1)]:=⟨by kernel_rfl⟩
instance:Ty Tryz.prog 47 (.slice 3):=⟨by kernel_rfl⟩
instance:Lay Tryz.prog 47 false 1 24 (.slice none 0 0):=⟨by kernel_rfl,by kernel_rfl⟩
instance:Lay Tryz.prog 50 true 9 120 (.agg #[.int .i64 0,.int .i64 0,.int .i64 0,.int .i64 0,.slice none 0 0,.slice none 0 0,.slice none 0 0,.int .i64 0,.int .i64 0]):=⟨by kernel_rfl,by kernel_rfl⟩
instance:Fld Tryz.prog 50 0 0 3:=⟨by kernel_rfl⟩
instance:Fld Tryz.prog 50 1 1 27:=⟨by kernel_rfl⟩
instance:Fld Tryz.prog 50 2 7 3:=⟨by kernel_rfl⟩
instance:Fld Tryz.prog 50 3 8 3:=⟨by kernel_rfl⟩
instance:Places Tryz.prog 50 [(0,1),(1,6),(7,1),(8,1)]:=⟨by kernel_rfl⟩
instance:Ty Tryz.prog 57 (.pointer 115):=⟨by kernel_rfl⟩
instance:Lay Tryz.prog 57 false 1 8 (.pointer none):=⟨by kernel_rfl,by kernel_rfl⟩
instance:Ty Tryz.prog 59 (.pointer 118):=⟨by kernel_rfl⟩
instance:Ty Tryz.prog 64 (.slice 112):=⟨by kernel_rfl⟩
instance:Lay Tryz.prog 64 false 1 24 (.slice none 0 0):=⟨by kernel_rfl,by kernel_rfl⟩
instance:Ty Tryz.prog 68 (.slice 124):=⟨by kernel_rfl⟩
instance:Lay Tryz.prog 68 false 1 24 (.slice none 0 0):=⟨by kernel_rfl,by kernel_rfl⟩
instance:Ty Tryz.prog 75 (.slice 80):=⟨by kernel_rfl⟩
instance:Lay Tryz.prog 80 true 15 160 (.agg #[.int .i64 0,.int .i64 0,.int .i64 0,.int .i64 0,.int .i64 0,.int .i64 0,.int .i64 0,.int .i64 0,.int .i64 0,.int .i64 0,.string ByteArray.empty,.string ByteArray.empty,.string ByteArray.empty,.int .i64 0,.slice none 0 0]):=⟨by kernel_rfl,by kernel_rfl⟩
instance:Fld Tryz.prog 80 0 0 3:=⟨by kernel_rfl⟩
instance:Fld Tryz.prog 80 1 1 3:=⟨by kernel_rfl⟩
instance:Fld Tryz.prog 80 2 2 3:=⟨by kernel_rfl⟩
instance:Fld Tryz.prog 80 3 3 42:=⟨by kernel_rfl⟩
instance:Ty Tryz.prog 86 (.slice 27):=⟨by kernel_rfl⟩
instance:Lay Tryz.prog 86 false 1 24 (.slice none 0 0):=⟨by kernel_rfl,by kernel_rfl⟩
instance:Lay Tryz.prog 88 true 2 48 (.agg #[.slice none 0 0,.slice none 0 0]):=⟨by kernel_rfl,by kernel_rfl⟩
instance:Fld Tryz.prog 88 0 0 86:=⟨by kernel_rfl⟩
instance:Fld Tryz.prog 88 1 1 47:=⟨by kernel_rfl⟩
instance:Places Tryz.prog 88 [(0,1),(1,1)]:=⟨by kernel_rfl⟩
instance:Lay Tryz.prog 97 true 10 104 (.agg #[.int .i64 0,.int .i64 0,.int .i64 0,.int .i64 0,.int .i64 0,.int .i64 0,.string ByteArray.empty,.string ByteArray.empty,.string ByteArray.empty,.int .i64 0]):=⟨by kernel_rfl,by kernel_rfl⟩
instance:Fld Tryz.prog 97 0 0 3:=⟨by kernel_rfl⟩
instance:Fld Tryz.prog 97 1 1 23:=⟨by kernel_rfl⟩
instance:Fld Tryz.prog 97 2 3 40:=⟨by kernel_rfl⟩
instance:EqS Tryz.prog 97 [⟨"Index",3,0,false, "", "",0⟩,⟨"Ballot",23,1,false, "", "",8⟩,⟨"Cmd",40,3,false, "", "",24⟩]:=⟨by kernel_rfl,by kernel_rfl,by kernel_rfl,by kernel_rfl⟩
instance:Places Tryz.prog 97 [(0,1),(1,2),(3,7)]:=⟨by kernel_rfl⟩
instance:Lay Tryz.prog 104 false 1 8 (.pointer none):=⟨by kernel_rfl,by kernel_rfl⟩
instance:Lay Tryz.prog 106 true 12 176 (.agg #[.slice none 0 0,.int .i64 0,.int .i64 0,.int .i64 0,.int .i64 0,.int .i64 0,.slice none 0 0,.slice none 0 0,.slice none 0 0,.int .i64 0,.int .i64 0,.slice none 0 0]):=⟨by kernel_rfl,by kernel_rfl⟩
instance:Fld Tryz.prog 106 0 0 24:=⟨by kernel_rfl⟩
instance:Fld Tryz.prog 106 1 1 3:=⟨by kernel_rfl⟩
instance:Fld Tryz.prog 106 2 2 50:=⟨by kernel_rfl⟩
instance:Fld Tryz.prog 106 3 11 34:=⟨by kernel_rfl⟩
instance:Places Tryz.prog 106 [(0,1),(1,1),(2,9),(11,1)]:=⟨by kernel_rfl⟩
instance:Lay Tryz.prog 112 true 2 32 (.agg #[.int .i64 0,.slice none 0 0]):=⟨by kernel_rfl,by kernel_rfl⟩
instance:Fld Tryz.prog 112 0 0 3:=⟨by kernel_rfl⟩
instance:Fld Tryz.prog 112 1 1 24:=⟨by kernel_rfl⟩
instance:Places Tryz.prog 112 [(0,1),(1,1)]:=⟨by kernel_rfl⟩
instance:Ty Tryz.prog 113 (.map 3 24):=⟨by kernel_rfl⟩
instance:Lay Tryz.prog 113 false 1 8 (.map none):=⟨by kernel_rfl,by kernel_rfl⟩
instance:Lay Tryz.prog 115 true 2 32 (.agg #[.map none,.slice none 0 0]):=⟨by kernel_rfl,by kernel_rfl⟩
instance:Fld Tryz.prog 115 0 0 113:=⟨by kernel_rfl⟩
instance:Fld Tryz.prog 115 1 1 68:=⟨by kernel_rfl⟩
instance:Places Tryz.prog 115 [(0,1),(1,1)]:=⟨by kernel_rfl⟩
instance:Lay Tryz.prog 118 true 9 120 (.agg #[.pointer none,.int .i64 0,.int .i64 0,.int .i64 0,.int .i64 0,.int .i64 0,.slice none 0 0,.slice none 0 0,.slice none 0 0]):=⟨by kernel_rfl,by kernel_rfl⟩
instance:Fld Tryz.prog 118 0 0 57:=⟨by kernel_rfl⟩
instance:Fld Tryz.prog 118 1 1 3:=⟨by kernel_rfl⟩
instance:Fld Tryz.prog 118 2 2 3:=⟨by kernel_rfl⟩
instance:Fld Tryz.prog 118 3 3 27:=⟨by kernel_rfl⟩
instance:Places Tryz.prog 118 [(0,1),(1,1),(2,1),(3,6)]:=⟨by kernel_rfl⟩
instance:Lay Tryz.prog 124 true 3 40 (.agg #[.int .i64 0,.int .i64 0,.slice none 0 0]):=⟨by kernel_rfl,by kernel_rfl⟩
instance:Fld Tryz.prog 124 0 0 3:=⟨by kernel_rfl⟩
instance:Fld Tryz.prog 124 1 1 3:=⟨by kernel_rfl⟩
instance:Fld Tryz.prog 124 2 2 24:=⟨by kernel_rfl⟩
instance:Places Tryz.prog 124 [(0,1),(1,1),(2,1)]:=⟨by kernel_rfl⟩
instance:Ty Tryz.prog 128 (.pointer 130):=⟨by kernel_rfl⟩
instance:Lay Tryz.prog 128 false 1 8 (.pointer none):=⟨by kernel_rfl,by kernel_rfl⟩
instance:Lay Tryz.prog 130 true 1 24 (.agg #[.slice none 0 0]):=⟨by kernel_rfl,by kernel_rfl⟩
instance:Fld Tryz.prog 130 0 0 24:=⟨by kernel_rfl⟩
instance:Places Tryz.prog 130 [(0,1)]:=⟨by kernel_rfl⟩
instance:Ty Tryz.prog 135 (.int .u32):=⟨by kernel_rfl⟩
instance:Lay Tryz.prog 135 false 1 4 (.int .u32 0):=⟨by kernel_rfl,by kernel_rfl⟩
instance:Ty Tryz.prog 145 (.pointer 186):=⟨by kernel_rfl⟩
instance:Lay Tryz.prog 145 false 1 8 (.pointer none):=⟨by kernel_rfl,by kernel_rfl⟩
instance:Lay Tryz.prog 153 true 6 96 (.agg #[.int .i64 0,.int .i64 0,.int .i64 0,.slice none 0 0,.slice none 0 0,.slice none 0 0]):=⟨by kernel_rfl,by kernel_rfl⟩
instance:Fld Tryz.prog 153 0 0 27:=⟨by kernel_rfl⟩
instance:Places Tryz.prog 153 [(0,6)]:=⟨by kernel_rfl⟩
instance:Lay Tryz.prog 168 true 4 4 (.agg #[.bool false,.bool false,.bool false,.bool false]):=⟨by kernel_rfl,by kernel_rfl⟩
instance:Fld Tryz.prog 168 0 0 4:=⟨by kernel_rfl⟩
instance:Fld Tryz.prog 168 1 1 4:=⟨by kernel_rfl⟩
instance:Fld Tryz.prog 168 2 2 4:=⟨by kernel_rfl⟩
instance:Fld Tryz.prog 168 3 3 4:=⟨by kernel_rfl⟩
instance:Lay Tryz.prog 176 false 1 8 (.nilFunc):=⟨by kernel_rfl,by kernel_rfl⟩
instance:Ty Tryz.prog 181 (.slice 24):=⟨by kernel_rfl⟩
instance:Ty Tryz.prog 182 (.int .u64):=⟨by kernel_rfl⟩
instance:Lay Tryz.prog 186 true 3 40 (.agg #[.slice none 0 0,.int .i64 0,.int .i64 0]):=⟨by kernel_rfl,by kernel_rfl⟩
instance:Fld Tryz.prog 186 0 0 24:=⟨by kernel_rfl⟩
instance:Fld Tryz.prog 186 1 1 3:=⟨by kernel_rfl⟩
instance:Fld Tryz.prog 186 2 2 30:=⟨by kernel_rfl⟩
instance:Places Tryz.prog 186 [(0,1),(1,1),(2,1)]:=⟨by kernel_rfl⟩
instance:Ty Tryz.prog 193 (.slice 197):=⟨by kernel_rfl⟩
instance:Lay Tryz.prog 195 false 1 8 (.nilFunc):=⟨by kernel_rfl,by kernel_rfl⟩
instance:Lay Tryz.prog 197 true 4 32 (.agg #[.int .i64 0,.int .i64 0,.nilFunc,.nilFunc]):=⟨by kernel_rfl,by kernel_rfl⟩
instance:Fld Tryz.prog 197 0 0 3:=⟨by kernel_rfl⟩
instance:Fld Tryz.prog 197 1 1 3:=⟨by kernel_rfl⟩
instance:Fld Tryz.prog 197 2 2 176:=⟨by kernel_rfl⟩
instance:Fld Tryz.prog 197 3 3 195:=⟨by kernel_rfl⟩
instance:Places Tryz.prog 197 [(0,1),(1,1),(2,1),(3,1)]:=⟨by kernel_rfl⟩
instance:Ty Tryz.prog 207 (.int .u64):=⟨by kernel_rfl⟩
instance:Ty Tryz.prog 218 (.pointer 3):=⟨by kernel_rfl⟩
instance:Lay Tryz.prog 218 false 1 8 (.pointer none):=⟨by kernel_rfl,by kernel_rfl⟩
instance:Ty Tryz.prog 219 (.pointer 9):=⟨by kernel_rfl⟩
instance:Lay Tryz.prog 219 false 1 8 (.pointer none):=⟨by kernel_rfl,by kernel_rfl⟩
instance:Ty Tryz.prog 226 (.slice 23):=⟨by kernel_rfl⟩
instance:Ty Tryz.prog 240 (.array 16 135):=⟨by kernel_rfl⟩
instance:Callable Tryz.prog 12:=callable_of Tryz.func12 (by kernel_rfl) rfl
instance:Callable Tryz.prog 13:=callable_of Tryz.func13 (by kernel_rfl) rfl
instance:Callable Tryz.prog 15:=callable_of Tryz.func15 (by kernel_rfl) rfl
instance:Callable Tryz.prog 16:=callable_of Tryz.func16 (by kernel_rfl) rfl
instance:Callable Tryz.prog 18:=callable_of Tryz.func18 (by kernel_rfl) rfl
instance:Callable Tryz.prog 19:=callable_of Tryz.func19 (by kernel_rfl) rfl
instance:Callable Tryz.prog 21:=callable_of Tryz.func21 (by kernel_rfl) rfl
instance:Callable Tryz.prog 22:=callable_of Tryz.func22 (by kernel_rfl) rfl
instance:Callable Tryz.prog 23:=callable_of Tryz.func23 (by kernel_rfl) rfl
instance:Callable Tryz.prog 24:=callable_of Tryz.func24 (by kernel_rfl) rfl
instance:Callable Tryz.prog 25:=callable_of Tryz.func25 (by kernel_rfl) rfl
instance:Callable Tryz.prog 26:=callable_of Tryz.func26 (by kernel_rfl) rfl
instance:Callable Tryz.prog 27:=callable_of Tryz.func27 (by kernel_rfl) rfl
instance:Callable Tryz.prog 28:=callable_of Tryz.func28 (by kernel_rfl) rfl
instance:Callable Tryz.prog 29:=callable_of Tryz.func29 (by kernel_rfl) rfl
instance:Callable Tryz.prog 30:=callable_of Tryz.func30 (by kernel_rfl) rfl
instance:Callable Tryz.prog 33:=callable_of Tryz.func33 (by kernel_rfl) rfl
instance:Callable Tryz.prog 34:=callable_of Tryz.func34 (by kernel_rfl) rfl
instance:Callable Tryz.prog 35:=callable_of Tryz.func35 (by kernel_rfl) rfl
instance:Callable Tryz.prog 36:=callable_of Tryz.func36 (by kernel_rfl) rfl
instance:Callable Tryz.prog 37:=callable_of Tryz.func37 (by kernel_rfl) rfl
instance:Callable Tryz.prog 38:=callable_of Tryz.func38 (by kernel_rfl) rfl
instance:Callable Tryz.prog 39:=callable_of Tryz.func39 (by kernel_rfl) rfl
instance:Callable Tryz.prog 40:=callable_of Tryz.func40 (by kernel_rfl) rfl
instance:Callable Tryz.prog 41:=callable_of Tryz.func41 (by kernel_rfl) rfl
instance:Callable Tryz.prog 42:=callable_of Tryz.func42 (by kernel_rfl) rfl
instance:Callable Tryz.prog 43:=callable_of Tryz.func43 (by kernel_rfl) rfl
instance:Callable Tryz.prog 44:=callable_of Tryz.func44 (by kernel_rfl) rfl
instance:Callable Tryz.prog 45:=callable_of Tryz.func45 (by kernel_rfl) rfl
instance:Callable Tryz.prog 47:=callable_of Tryz.func47 (by kernel_rfl) rfl
instance:Callable Tryz.prog 48:=callable_of Tryz.func48 (by kernel_rfl) rfl
instance:Callable Tryz.prog 49:=callable_of Tryz.func49 (by kernel_rfl) rfl
instance:Callable Tryz.prog 50:=callable_of Tryz.func50 (by kernel_rfl) rfl
instance:Callable Tryz.prog 51:=callable_of Tryz.func51 (by kernel_rfl) rfl
instance:Callable Tryz.prog 52:=callable_of Tryz.func52 (by kernel_rfl) rfl
instance:Callable Tryz.prog 54:=callable_of Tryz.func54 (by kernel_rfl) rfl
instance:Callable Tryz.prog 58:=callable_of Tryz.func58 (by kernel_rfl) rfl
instance:Callable Tryz.prog 59:=callable_of Tryz.func59 (by kernel_rfl) rfl
instance:Callable Tryz.prog 60:=callable_of Tryz.func60 (by kernel_rfl) rfl
instance:Callable Tryz.prog 61:=callable_of Tryz.func61 (by kernel_rfl) rfl
instance:Callable Tryz.prog 62:=callable_of Tryz.func62 (by kernel_rfl) rfl
instance:Callable Tryz.prog 63:=callable_of Tryz.func63 (by kernel_rfl) rfl
instance:Callable Tryz.prog 64:=callable_of Tryz.func64 (by kernel_rfl) rfl
instance:Callable Tryz.prog 65:=callable_of Tryz.func65 (by kernel_rfl) rfl
instance:Callable Tryz.prog 66:=callable_of Tryz.func66 (by kernel_rfl) rfl
instance:Callable Tryz.prog 67:=callable_of Tryz.func67 (by kernel_rfl) rfl
instance:Callable Tryz.prog 68:=callable_of Tryz.func68 (by kernel_rfl) rfl
instance:Callable Tryz.prog 69:=callable_of Tryz.func69 (by kernel_rfl) rfl
instance:Callable Tryz.prog 70:=callable_of Tryz.func70 (by kernel_rfl) rfl
instance:Callable Tryz.prog 71:=callable_of Tryz.func71 (by kernel_rfl) rfl
instance:Callable Tryz.prog 72:=callable_of Tryz.func72 (by kernel_rfl) rfl
instance:Callable Tryz.prog 73:=callable_of Tryz.func73 (by kernel_rfl) rfl
instance:Callable Tryz.prog 74:=callable_of Tryz.func74 (by kernel_rfl) rfl
instance:Callable Tryz.prog 76:=callable_of Tryz.func76 (by kernel_rfl) rfl
instance:Callable Tryz.prog 77:=callable_of Tryz.func77 (by kernel_rfl) rfl
instance:Callable Tryz.prog 78:=callable_of Tryz.func78 (by kernel_rfl) rfl
instance:Callable Tryz.prog 79:=callable_of Tryz.func79 (by kernel_rfl) rfl
instance:Callable Tryz.prog 80:=callable_of Tryz.func80 (by kernel_rfl) rfl
instance:Callable Tryz.prog 81:=callable_of Tryz.func81 (by kernel_rfl) rfl
instance:Callable Tryz.prog 82:=callable_of Tryz.func82 (by kernel_rfl) rfl
instance:Callable Tryz.prog 83:=callable_of Tryz.func83 (by kernel_rfl) rfl
instance:Callable Tryz.prog 84:=callable_of Tryz.func84 (by kernel_rfl) rfl
instance:Callable Tryz.prog 85:=callable_of Tryz.func85 (by kernel_rfl) rfl
instance:Callable Tryz.prog 86:=callable_of Tryz.func86 (by kernel_rfl) rfl
instance:Callable Tryz.prog 87:=callable_of Tryz.func87 (by kernel_rfl) rfl
instance:Callable Tryz.prog 88:=callable_of Tryz.func88 (by kernel_rfl) rfl
instance:Callable Tryz.prog 89:=callable_of Tryz.func89 (by kernel_rfl) rfl
instance:Callable Tryz.prog 90:=callable_of Tryz.func90 (by kernel_rfl) rfl
instance:Callable Tryz.prog 91:=callable_of Tryz.func91 (by kernel_rfl) rfl
instance:Callable Tryz.prog 94:=callable_of Tryz.func94 (by kernel_rfl) rfl
instance:Callable Tryz.prog 95:=callable_of Tryz.func95 (by kernel_rfl) rfl
instance:Callable Tryz.prog 97:=callable_of Tryz.func97 (by kernel_rfl) rfl
instance:Callable Tryz.prog 98:=callable_of Tryz.func98 (by kernel_rfl) rfl
instance:Callable Tryz.prog 99:=callable_of Tryz.func99 (by kernel_rfl) rfl
instance:Callable Tryz.prog 100:=callable_of Tryz.func100 (by kernel_rfl) rfl
instance:Callable Tryz.prog 101:=callable_of Tryz.func101 (by kernel_rfl) rfl
instance:Callable Tryz.prog 102:=callable_of Tryz.func102 (by kernel_rfl) rfl
instance:Callable Tryz.prog 103:=callable_of Tryz.func103 (by kernel_rfl) rfl
instance:Callable Tryz.prog 104:=callable_of Tryz.func104 (by kernel_rfl) rfl
instance:Callable Tryz.prog 105:=callable_of Tryz.func105 (by kernel_rfl) rfl
instance:Callable Tryz.prog 106:=callable_of Tryz.func106 (by kernel_rfl) rfl
instance:Callable Tryz.prog 107:=callable_of Tryz.func107 (by kernel_rfl) rfl
instance:Callable Tryz.prog 108:=callable_of Tryz.func108 (by kernel_rfl) rfl
instance:Callable Tryz.prog 109:=callable_of Tryz.func109 (by kernel_rfl) rfl
instance:Callable Tryz.prog 110:=callable_of Tryz.func110 (by kernel_rfl) rfl
instance:Callable Tryz.prog 111:=callable_of Tryz.func111 (by kernel_rfl) rfl
instance:Callable Tryz.prog 112:=callable_of Tryz.func112 (by kernel_rfl) rfl
instance:Callable Tryz.prog 113:=callable_of Tryz.func113 (by kernel_rfl) rfl
instance:Callable Tryz.prog 114:=callable_of Tryz.func114 (by kernel_rfl) rfl
instance:Callable Tryz.prog 115:=callable_of Tryz.func115 (by kernel_rfl) rfl
instance:Callable Tryz.prog 116:=callable_of Tryz.func116 (by kernel_rfl) rfl
instance:Callable Tryz.prog 117:=callable_of Tryz.func117 (by kernel_rfl) rfl
instance:Callable Tryz.prog 118:=callable_of Tryz.func118 (by kernel_rfl) rfl
instance:Callable Tryz.prog 119:=callable_of Tryz.func119 (by kernel_rfl) rfl
instance:Callable Tryz.prog 120:=callable_of Tryz.func120 (by kernel_rfl) rfl
instance:Callable Tryz.prog 121:=callable_of Tryz.func121 (by kernel_rfl) rfl
instance:Callable Tryz.prog 122:=callable_of Tryz.func122 (by kernel_rfl) rfl
instance:Callable Tryz.prog 123:=callable_of Tryz.func123 (by kernel_rfl) rfl
instance:Callable Tryz.prog 124:=callable_of Tryz.func124 (by kernel_rfl) rfl
instance:Callable Tryz.prog 125:=callable_of Tryz.func125 (by kernel_rfl) rfl
instance:Callable Tryz.prog 126:=callable_of Tryz.func126 (by kernel_rfl) rfl
instance:Callable Tryz.prog 127:=callable_of Tryz.func127 (by kernel_rfl) rfl
instance:Callable Tryz.prog 128:=callable_of Tryz.func128 (by kernel_rfl) rfl
instance:Callable Tryz.prog 129:=callable_of Tryz.func129 (by kernel_rfl) rfl
instance:Callable Tryz.prog 130:=callable_of Tryz.func130 (by kernel_rfl) rfl
instance:Callable Tryz.prog 131:=callable_of Tryz.func131 (by kernel_rfl) rfl
instance:Callable Tryz.prog 132:=callable_of Tryz.func132 (by kernel_rfl) rfl
instance:Callable Tryz.prog 134:=callable_of Tryz.func134 (by kernel_rfl) rfl
instance:Callable Tryz.prog 135:=callable_of Tryz.func135 (by kernel_rfl) rfl
instance:Callable Tryz.prog 136:=callable_of Tryz.func136 (by kernel_rfl) rfl
instance:Callable Tryz.prog 137:=callable_of Tryz.func137 (by kernel_rfl) rfl
instance:Callable Tryz.prog 138:=callable_of Tryz.func138 (by kernel_rfl) rfl
instance:Callable Tryz.prog 139:=callable_of Tryz.func139 (by kernel_rfl) rfl
instance:Callable Tryz.prog 140:=callable_of Tryz.func140 (by kernel_rfl) rfl
instance:Callable Tryz.prog 141:=callable_of Tryz.func141 (by kernel_rfl) rfl
instance:Callable Tryz.prog 142:=callable_of Tryz.func142 (by kernel_rfl) rfl
instance:Callable Tryz.prog 143:=callable_of Tryz.func143 (by kernel_rfl) rfl
instance:Callable Tryz.prog 144:=callable_of Tryz.func144 (by kernel_rfl) rfl
instance:Callable Tryz.prog 145:=callable_of Tryz.func145 (by kernel_rfl) rfl
instance:Callable Tryz.prog 146:=callable_of Tryz.func146 (by kernel_rfl) rfl
instance:Callable Tryz.prog 147:=callable_of Tryz.func147 (by kernel_rfl) rfl
instance:Callable Tryz.prog 148:=callable_of Tryz.func148 (by kernel_rfl) rfl
instance:Callable Tryz.prog 149:=callable_of Tryz.func149 (by kernel_rfl) rfl
instance:Callable Tryz.prog 150:=callable_of Tryz.func150 (by kernel_rfl) rfl
instance:Callable Tryz.prog 151:=callable_of Tryz.func151 (by kernel_rfl) rfl
instance:Callable Tryz.prog 152:=callable_of Tryz.func152 (by kernel_rfl) rfl
instance:Callable Tryz.prog 153:=callable_of Tryz.func153 (by kernel_rfl) rfl
instance:Callable Tryz.prog 154:=callable_of Tryz.func154 (by kernel_rfl) rfl
instance:Callable Tryz.prog 155:=callable_of Tryz.func155 (by kernel_rfl) rfl
instance:Callable Tryz.prog 156:=callable_of Tryz.func156 (by kernel_rfl) rfl
instance:Callable Tryz.prog 157:=callable_of Tryz.func157 (by kernel_rfl) rfl
instance:Callable Tryz.prog 158:=callable_of Tryz.func158 (by kernel_rfl) rfl
instance:Callable Tryz.prog 159:=callable_of Tryz.func159 (by kernel_rfl) rfl
instance:Callable Tryz.prog 160:=callable_of Tryz.func160 (by kernel_rfl) rfl
instance:Callable Tryz.prog 162:=callable_of Tryz.func162 (by kernel_rfl) rfl
instance:Callable Tryz.prog 163:=callable_of Tryz.func163 (by kernel_rfl) rfl
instance:Callable Tryz.prog 164:=callable_of Tryz.func164 (by kernel_rfl) rfl
instance:Callable Tryz.prog 165:=callable_of Tryz.func165 (by kernel_rfl) rfl
instance:Callable Tryz.prog 166:=callable_of Tryz.func166 (by kernel_rfl) rfl
instance:Callable Tryz.prog 167:=callable_of Tryz.func167 (by kernel_rfl) rfl
instance:Callable Tryz.prog 168:=callable_of Tryz.func168 (by kernel_rfl) rfl
instance:Callable Tryz.prog 169:=callable_of Tryz.func169 (by kernel_rfl) rfl
instance:Callable Tryz.prog 170:=callable_of Tryz.func170 (by kernel_rfl) rfl
instance:Callable Tryz.prog 171:=callable_of Tryz.func171 (by kernel_rfl) rfl
instance:Callable Tryz.prog 172:=callable_of Tryz.func172 (by kernel_rfl) rfl
instance:Callable Tryz.prog 173:=callable_of Tryz.func173 (by kernel_rfl) rfl
instance:Callable Tryz.prog 174:=callable_of Tryz.func174 (by kernel_rfl) rfl
instance:Callable Tryz.prog 175:=callable_of Tryz.func175 (by kernel_rfl) rfl
instance:Callable Tryz.prog 176:=callable_of Tryz.func176 (by kernel_rfl) rfl
instance:Callable Tryz.prog 177:=callable_of Tryz.func177 (by kernel_rfl) rfl
instance:Callable Tryz.prog 178:=callable_of Tryz.func178 (by kernel_rfl) rfl
instance:Callable Tryz.prog 179:=callable_of Tryz.func179 (by kernel_rfl) rfl
instance:Callable Tryz.prog 180:=callable_of Tryz.func180 (by kernel_rfl) rfl
instance:Callable Tryz.prog 181:=callable_of Tryz.func181 (by kernel_rfl) rfl
instance:Callable Tryz.prog 182:=callable_of Tryz.func182 (by kernel_rfl) rfl
instance:Callable Tryz.prog 183:=callable_of Tryz.func183 (by kernel_rfl) rfl
instance:Callable Tryz.prog 186:=callable_of Tryz.func186 (by kernel_rfl) rfl
instance:Callable Tryz.prog 187:=callable_of Tryz.func187 (by kernel_rfl) rfl
instance:Callable Tryz.prog 188:=callable_of Tryz.func188 (by kernel_rfl) rfl
instance:Callable Tryz.prog 189:=callable_of Tryz.func189 (by kernel_rfl) rfl
instance:Callable Tryz.prog 190:=callable_of Tryz.func190 (by kernel_rfl) rfl
instance:Callable Tryz.prog 191:=callable_of Tryz.func191 (by kernel_rfl) rfl
instance:Callable Tryz.prog 192:=callable_of Tryz.func192 (by kernel_rfl) rfl
instance:Callable Tryz.prog 193:=callable_of Tryz.func193 (by kernel_rfl) rfl
instance:Callable Tryz.prog 194:=callable_of Tryz.func194 (by kernel_rfl) rfl
instance:Callable Tryz.prog 195:=callable_of Tryz.func195 (by kernel_rfl) rfl
instance:Callable Tryz.prog 196:=callable_of Tryz.func196 (by kernel_rfl) rfl
instance:Callable Tryz.prog 197:=callable_of Tryz.func197 (by kernel_rfl) rfl
instance:Callable Tryz.prog 198:=callable_of Tryz.func198 (by kernel_rfl) rfl
instance:Callable Tryz.prog 199:=callable_of Tryz.func199 (by kernel_rfl) rfl
instance:Callable Tryz.prog 200:=callable_of Tryz.func200 (by kernel_rfl) rfl
instance:Callable Tryz.prog 201:=callable_of Tryz.func201 (by kernel_rfl) rfl
instance:Callable Tryz.prog 202:=callable_of Tryz.func202 (by kernel_rfl) rfl
instance:Callable Tryz.prog 203:=callable_of Tryz.func203 (by kernel_rfl) rfl
instance:Callable Tryz.prog 204:=callable_of Tryz.func204 (by kernel_rfl) rfl
instance:Callable Tryz.prog 205:=callable_of Tryz.func205 (by kernel_rfl) rfl
instance:Callable Tryz.prog 217:=callable_of Tryz.func217 (by kernel_rfl) rfl
instance:Callable Tryz.prog 218:=callable_of Tryz.func218 (by kernel_rfl) rfl
instance:Callable Tryz.prog 219:=callable_of Tryz.func219 (by kernel_rfl) rfl
instance:Callable Tryz.prog 220:=callable_of Tryz.func220 (by kernel_rfl) rfl
instance:Callable Tryz.prog 221:=callable_of Tryz.func221 (by kernel_rfl) rfl
instance:Callable Tryz.prog 222:=callable_of Tryz.func222 (by kernel_rfl) rfl
instance:Callable Tryz.prog 223:=callable_of Tryz.func223 (by kernel_rfl) rfl
instance:Callable Tryz.prog 224:=callable_of Tryz.func224 (by kernel_rfl) rfl
instance:Callable Tryz.prog 232:=callable_of Tryz.func232 (by kernel_rfl) rfl
instance:Callable Tryz.prog 235:=callable_of Tryz.func235 (by kernel_rfl) rfl
end Go.Proofs.YtpemabgfmnhhnaaGreatDoor
namespace Go.Vx
open Go
theorem mhd {α:Type _}{a:α}(l:List α):List.Mem a (a::l):=.head l
theorem mtl {α:Type _}{a:α}(b:α) {l:List α}(h:List.Mem a l):List.Mem a (b::l):=.tail b h
theorem nle {n m:Nat}(h:n.ble m=true):n≤m:=Nat.le_of_ble_eq_true h
theorem zzz:(∀ {p:Prop} [Decidable p],dec p=true↔p)∧(∀ {p:Prop} [Decidable p],dec p=false↔¬p)∧(∀ {p:Prop} [Decidable p],(decide p=true)=p)∧(∀ {p:Prop}{_x:Decidable p},decide p=false↔¬p)∧(∀ b:Bool,((!b)=true)=(b=false))∧(∀ b:Bool,((!b)=false)=(b=true))∧(∀ {α:Type}{o:Option α},o.isNone=true↔o=none)∧(∀ b:Bool,(b == true)=b)∧(∀ b:Bool,(b == false) = !b)∧(∀ {α:Type} [BEq α] [LawfulBEq α] {a b:α},(a == b)=true↔a=b)∧(∀ {α:Type} [BEq α] [LawfulBEq α] {a b:α},(a == b)=false↔a≠b)∧(∀ {α:Type}(a b:α),(a≠b)=¬(a=b))∧(∀ {p q:Prop}{_x:Decidable p}{_y:Decidable q},decide p=decide q↔(p↔q))∧(∀ b:Bool,(¬(b=true))=(b=false))∧(∀ b:Bool,(¬(b=false))=(b=true))∧(∀ {p:Prop} [Decidable p],¬¬p↔p) :=
 ⟨dec_true,dec_false,decide_eq_true_eq,decide_eq_false_iff_not,Bool.not_eq_true',Bool.not_eq_false',Option.isNone_iff_eq_none,beq_true,beq_false,beq_iff_eq,beq_eq_false_iff_ne,ne_eq,decide_eq_decide,Bool.not_eq_true,Bool.not_eq_false,Decidable.not_not⟩
theorem prd {P:Program}{op:Op}{ty:TypeId}{σ:Env}{G:GH}{μ:OH}{v:Value}(h:PureOp P op ty σ v):ReadOp P op ty σ G μ v:=PureOp.read h
section
variable {P:Program}{fn:Func}{n:Nat}{B:Base}{Φ:Value→GH→OH→Prop}{k:List It}{σ:Env}{G G0:GH}{μ:OH}{all:Array Oper}{m:Nat}{listed:Array Bool}{d:Nat}{op:Op}{ty:TypeId}{pos:String}{af:Array Edge}{v:Value}{ν:OH}
abbrev dq (all:Array Oper) (listed:Array Bool) (i d n:Nat):Bool:=Region.free .any all listed i && (Region.ready .any all listed).contains i && Nat.blt d n
theorem dq_of {i:Nat}(h:dq all listed i d n=true):Region.free .any all listed i=true∧(Region.ready .any all listed).contains i=true∧Nat.blt d n=true:=by
 unfold dq at h
 simp only [Bool.and_eq_true] at h
 exact ⟨h.1.1,h.1.2,h.2⟩
theorem dtk (i:Nat) (hi:all[i]? = some ⟨some d,op,ty,pos,af,none⟩) (hop:ReadOp P op ty σ G0 ν v) (hq:dq all listed i d n=true)
 (h:DVc P fn n B Φ all G0 ν m (listed.setIfInBounds i true) k ((d,v)::σ) G μ):DVc P fn n B Φ all G0 ν (m+1) listed k σ G μ:=d_take i hi (dq_of hq).1 (dq_of hq).2.1 hop (dq_of hq).2.2 h
theorem dtm (i:Nat) {x:Operand}(hi:all[i]? = some ⟨some d,.move x,ty,pos,af,none⟩) (hx:Env.ev σ x=some v) (hq:dq all listed i d n=true)
 (h:DVc P fn n B Φ all G0 ν m (listed.setIfInBounds i true) k ((d,v)::σ) G μ):DVc P fn n B Φ all G0 ν (m+1) listed k σ G μ:=dtk i hi (PureOp.read (p_move hx)) hq h
theorem dta (i:Nat) {x:Operand}(hi:all[i]? = some ⟨some d,.assign x,ty,pos,af,none⟩) (hx:Env.ev σ x=some v) (hq:dq all listed i d n=true)
 (h:DVc P fn n B Φ all G0 ν m (listed.setIfInBounds i true) k ((d,v)::σ) G μ):DVc P fn n B Φ all G0 ν (m+1) listed k σ G μ:=dtk i hi (PureOp.read (p_assign hx)) hq h
theorem dtn (i:Nat) {x:Operand}{a:Addr}(hi:all[i]? = some ⟨some d,.nilCheck x,ty,pos,af,none⟩) (hx:Env.ev σ x=some (.pointer (some a))) (hq:dq all listed i d n=true)
 (h:DVc P fn n B Φ all G0 ν m (listed.setIfInBounds i true) k ((d,.pointer (some a))::σ) G μ):DVc P fn n B Φ all G0 ν (m+1) listed k σ G μ:=dtk i hi (PureOp.read (p_nilCheck hx)) hq h
theorem dtg (i:Nat) {j:Nat}{b:Bool}(hi:all[i]? = some ⟨some d,op,ty,pos,af,some (j,b)⟩) (hg:guardVal all σ j=some b) (hop:ReadOp P op ty σ G0 ν v) (hq:dq all listed i d n=true)
 (h:DVc P fn n B Φ all G0 ν m (listed.setIfInBounds i true) k ((d,v)::σ) G μ):DVc P fn n B Φ all G0 ν (m+1) listed k σ G μ:=d_takeG i hi hg (dq_of hq).1 (dq_of hq).2.1 hop (dq_of hq).2.2 h
theorem dpa (i:Nat) {j:Nat}{b c:Bool}(hi:all[i]? = some ⟨some d,op,ty,pos,af,some (j,c)⟩) (hg:guardVal all σ j=some b) (hn:(b == c)=false) (hq:dq all listed i d n=true)
 (h:DVc P fn n B Φ all G0 ν m (listed.setIfInBounds i true) k ((d,undef)::σ) G μ):DVc P fn n B Φ all G0 ν (m+1) listed k σ G μ:=d_pass i hi hg hn (dq_of hq).1 (dq_of hq).2.1 (dq_of hq).2.2 h
end
end Go.Vx
/-
  crc (layer 2): turn, Add, Sum; the reference's sum.
-/
namespace Go.Proofs.YtpemabgfmnhhnaaGreatDoor
open Go.Vx Go.ChangeShapes Go.WideShapes Go.ChangeAt Go.RowKit
def CrcG (G:GH):Prop := ∀ i,i<16→GH.cell? G ⟨0,i,none⟩=some (rv (tab i))
theorem CrcG.le {G G':GH}(h:CrcG G) (hle:GH.le G G'):CrcG G':=fun i hi=>GH.cell_le hle (h i hi)
theorem and15 (x:R32):(x &&& 15#32).toNat<16:=by
 have:(x &&& 15#32).toNat≤15:=by
  rw [BitVec.toNat_and]
  exact Nat.and_le_right
 omega
theorem crc_at {G:GH}(hC:CrcG G) (x:R32):GH.cell? G ⟨0,0+(((x &&& 15#32).toNat:Nat):Int).toNat*1,none⟩=some (rv (tab (x &&& 15#32).toNat)):=by
 rw [Nat.zero_add,Nat.mul_one,Int.toNat_natCast]
 exact hC _ (and15 x)
theorem turn_s {G:GH}(hC:CrcG G) (r:R32) (c:Int):Con Tryz.prog 195 #[rv r,.int .u8 c] G [] (Just (rv (turnR r c)) G):=by
 apply Con.just
 (refine v_enter Tryz.func195 rfl Tryz.ntmps195 rfl ?_;intro B _)
 repeat' (first|apply v_pure;(case hop=>(apply p_convR;(case hx=>rfl)));(case hd=>rfl)|apply v_pure;(case hop=>(apply p_xorR;(case hx|hy=>rfl)));(case hd=>rfl)|apply v_pure;(case hop=>(apply p_andR (b:=15#32);(case hx|hy=>rfl)));(case hd=>rfl)|apply v_pure;(case hop=>(apply p_shrR (n:=4);(case hx|hy=>rfl);(case hn=>omega)));(case hd=>rfl)|apply v_pure;(case hop=>(apply p_indexAddrB;(case hx|hi=>rfl);(case h0=>exact Int.natCast_nonneg _);(case h=>exact Int.ofNat_lt.2 (and15 _))));(case hd=>rfl)|apply v_read;(case hop=>(apply r_load1;rfl;exact Cell.frozen (crc_at hC _)));(case hd=>rfl)|apply v_seq|apply v_region|apply v_nil|apply v_pure;(case hop=>first|apply p_move<;>rfl|apply p_assign<;>rfl|fail);(case hd=>rfl)|fail)
 refine v_ret [] (outsA1 rfl rfl) (by repeat (exact List.Sublist.refl _)) ?_
 exact ⟨rfl,rfl⟩
theorem take_snoc {l:List Int}{k:Nat}(h:k<l.length) {β:Type}(f:β→Int→β) (b:β):(l.take (k+1)).foldl f b=f ((l.take k).foldl f b) l[k]:=by
 rw [List.take_succ_eq_append_getElem h,List.foldl_append]
 rfl
theorem cadd_s {G:GH}(hC:CrcG G) {l:List Int}{sv:Value}(hs:Sl G 1 (IntR .u8) sv l):Con Tryz.prog 174 #[rv 0#32,sv] G [] (Just (.int .u32 (crcN l:Nat)) G):=by
 obtain ⟨A,c,rfl,hlc,hcm,hsome,hel,hwf⟩:=hs.openInt
 simp only [maxLen] at hcm
 apply Con.just
 (refine v_enter Tryz.func174 rfl Tryz.ntmps174 rfl ?_;intro B _)
 repeat' (first|apply v_pure;(case hop=>(apply p_cplR;(case hx=>rfl)));(case hd=>rfl)|apply v_seq|apply v_region|apply v_nil|apply v_block|apply v_pure;(case hop=>first|apply p_move<;>rfl|apply p_assign<;>rfl|apply p_lenSlice<;>rfl|fail);(case hd=>rfl)|fail)
 refine v_loop [12,5,10,11] (fun us G' μ'=>G'=G∧∃ k:Nat,k≤l.length∧us=[Value.int .i64 (k:Nat),rv ((l.take k).foldl turnR (BitVec.allOnes 32)),.slice A l.length c,.int .i64 (l.length:Nat)]∧μ'=[]) (fun us=>l.length-(headI us).toNat) rfl ⟨rfl,0,by omega,rfl,rfl⟩ ?_
 rintro us G' _ ⟨hG',k,hk,rfl,rfl⟩
 subst G'
 have e1:((k:Nat):Int).toNat=k:=by omega
 by_cases hlt:k<l.length
 ·have hA:=hsome (by omega)
  have hc:=hel k hlt
  have qt:=fun r=>turn_s hC r l[k]
  have ht:=take_snoc hlt turnR (BitVec.allOnes 32)
  repeat' (first|apply v_seq|apply v_region|apply v_nil|apply v_skip|apply v_block|apply v_blk|apply v_pure;(case hop=>first|apply p_move<;>rfl|apply p_lt<;>rfl|apply p_assign<;>rfl|apply p_add;(case hx|hy=>rfl);(case h=>omega)|apply p_indexAddrS;(case hx|hi=>rfl);(case h0|h=>omega);(case hA=>assumption)|fail);(case hd=>rfl)|apply v_cond;(case hc=>rfl);all_goals (intro h;(try simp only [reduceCtorEq,zzz] at h);try (exfalso;omega))|apply v_read;(case hop=>(apply r_load1;rfl;exact Cell.frozen hc));(case hd=>rfl)|apply v_callJ (hs:=(qt _));(case ha|hd=>rfl)|fail)
  exact v_again rfl ⟨rfl,k+1,by omega,by rw [ht];rfl,rfl⟩ (by simp [headI];omega)
 ·obtain rfl:k=l.length:=by omega
  rw [List.take_length]
  repeat' (first|apply v_pure;(case hop=>(apply p_cplR;(case hx=>rfl)));(case hd=>rfl)|apply v_seq|apply v_region|apply v_nil|apply v_exit;(case hp=>rfl)|apply v_pure;(case hop=>first|apply p_move<;>rfl|apply p_lt<;>rfl|apply p_assign<;>rfl|fail);(case hd=>rfl)|apply v_cond;(case hc=>rfl);all_goals (intro h;(try simp only [reduceCtorEq,zzz] at h);try (exfalso;omega))|fail)
  refine v_ret [] (outsA1 rfl rfl) (by repeat (exact List.Sublist.refl _)) ?_
  exact ⟨rfl,rfl⟩
theorem csum_s {G:GH}(hC:CrcG G) {l:List Int}{sv:Value}(hs:Sl G 1 (IntR .u8) sv l):Con Tryz.prog 143 #[sv] G [] (Just (.int .u32 (crcN l:Nat)) G):=by
 have q:=cadd_s hC hs
 apply Con.just
 (refine v_enter Tryz.func143 rfl Tryz.ntmps143 rfl ?_;intro B _)
 repeat' (first|apply v_seq|apply v_region|apply v_nil|apply v_pure;(case hop=>first|apply p_move<;>rfl|apply p_assign<;>rfl);(case hd=>rfl)|apply v_callJ (hs:=q);(case ha|hd=>rfl)|fail)
 refine v_ret [] (outsA1 rfl rfl) (by repeat (exact List.Sublist.refl _)) ?_
 exact ⟨rfl,rfl⟩
end Go.Proofs.YtpemabgfmnhhnaaGreatDoor
/-
  The reference's sum (layer 2), bit by bit.
-/
namespace Go.Proofs.YtpemabgfmnhhnaaGreatDoor
open Go.Vx Go.ChangeShapes Go.WideShapes Go.ChangeAt Go.RowKit
section
attribute [local semireducible] PureOp
variable {P:Program}{ty:TypeId}{σ:Env}{t t':TypeId}
end
end Go.Proofs.YtpemabgfmnhhnaaGreatDoor
/-
  Texts (layer 5), the first part: runes, in plain Lean: the model's decoder, and the reference's.
-/
namespace Go.Proofs.YtpemabgfmnhhnaaGreatDoor
open Go.Vx Go.ChangeShapes Go.WideShapes Go.ChangeAt Go.RowKit
def acc (s:ByteArray) (i v:Nat):Nat→Nat
 | 0=>v
 | k+1=>64*acc s i v k+byt s (i+(k+1))-128
def contB (s:ByteArray) (i:Nat):Nat→Bool
 | 0=>true
 | k+1=>contB s i k && (decide (128≤byt s (i+(k+1))) && decide (byt s (i+(k+1))≤191))
def szFin (s:ByteArray) (i m low v:Nat):Nat×Nat :=
 if s.size<i+(m+1) then (0,0) else if contB s i m=false then (0,0)
 else if acc s i v m<low∨1114111<acc s i v m∨(55296≤acc s i v m∧acc s i v m≤57343) then (0,0) else (m+1,acc s i v m)
theorem szFin_short {s:ByteArray}{i m low v:Nat}(h:s.size<i+(m+1)):szFin s i m low v=(0,0):=by unfold szFin;rw [if_pos h]
theorem szFin_cont {s:ByteArray}{i m low v:Nat}(h:contB s i m=false):szFin s i m low v=(0,0):=by
 unfold szFin
 rw [if_pos h]
 split<;>rfl
theorem szFin_low {s:ByteArray}{i m low v:Nat}(h:acc s i v m<low∨1114111<acc s i v m∨(55296≤acc s i v m∧acc s i v m≤57343)):szFin s i m low v=(0,0):=by
 unfold szFin
 rw [if_pos h]
 split
 ·rfl
 ·split<;>rfl
theorem szFin_ok {s:ByteArray}{i m low v:Nat}(h0:¬ s.size<i+(m+1)) (h1:contB s i m=true) (h:¬ (acc s i v m<low∨1114111<acc s i v m∨(55296≤acc s i v m∧acc s i v m≤57343))):szFin s i m low v=(m+1,acc s i v m):=by
 unfold szFin
 rw [if_neg h0,if_neg (by rw [h1];simp),if_neg h]
theorem acc1 (s:ByteArray) (i v:Nat):acc s i v 1=64*v+byt s (i+1)-128:=rfl
theorem acc2 (s:ByteArray) (i v:Nat):acc s i v 2=64*(64*v+byt s (i+1)-128)+byt s (i+2)-128:=rfl
theorem acc3 (s:ByteArray) (i v:Nat):acc s i v 3=64*(64*(64*v+byt s (i+1)-128)+byt s (i+2)-128)+byt s (i+3)-128:=rfl
theorem cont1 {s:ByteArray}{i:Nat}:contB s i 1=true↔(128≤byt s (i+1)∧byt s (i+1)≤191):=by
 show (contB s i 0 && (decide (128≤byt s (i+1)) && decide (byt s (i+1)≤191)))=true↔_
 simp [contB]
theorem cont2 {s:ByteArray}{i:Nat}:contB s i 2=true↔(128≤byt s (i+1)∧byt s (i+1)≤191)∧(128≤byt s (i+2)∧byt s (i+2)≤191):=by
 show (contB s i 1 && (decide (128≤byt s (i+2)) && decide (byt s (i+2)≤191)))=true↔_
 rw [Bool.and_eq_true,cont1];simp
theorem cont3 {s:ByteArray}{i:Nat}:contB s i 3=true↔((128≤byt s (i+1)∧byt s (i+1)≤191)∧(128≤byt s (i+2)∧byt s (i+2)≤191))∧(128≤byt s (i+3)∧byt s (i+3)≤191):=by
 show (contB s i 2 && (decide (128≤byt s (i+3)) && decide (byt s (i+3)≤191)))=true↔_
 rw [Bool.and_eq_true,cont2];simp
def szR (s:ByteArray) (i:Nat):Nat×Nat :=
 if byt s i<128 then (1,byt s i)
 else if 194≤byt s i∧byt s i≤223 then szFin s i 1 128 (byt s i-192)
 else if 224≤byt s i∧byt s i≤239 then szFin s i 2 2048 (byt s i-224)
 else if 240≤byt s i∧byt s i≤244 then szFin s i 3 65536 (byt s i-240)
 else (0,0)
theorem decode_byt (s:ByteArray) (i:Nat):Utf8.decode s i =
 (if byt s i<0x80 then (byt s i,1)
 else if byt s i / 32=6∧(i+1<s.size∧byt s (i+1) / 64=2) then
  (if (byt s i % 32)*64+byt s (i+1) % 64≥0x80 then ((byt s i % 32)*64+byt s (i+1) % 64,2) else (65533,1))
 else if byt s i / 16=14∧(i+1<s.size∧byt s (i+1) / 64=2)∧(i+2<s.size∧byt s (i+2) / 64=2) then
  (if (byt s i % 16)*4096+(byt s (i+1) % 64)*64+byt s (i+2) % 64≥0x800∧Utf8.valid ((byt s i % 16)*4096+(byt s (i+1) % 64)*64+byt s (i+2) % 64:Nat)=true then ((byt s i % 16)*4096+(byt s (i+1) % 64)*64+byt s (i+2) % 64,3) else (65533,1))
 else if byt s i / 8=30∧(i+1<s.size∧byt s (i+1) / 64=2)∧(i+2<s.size∧byt s (i+2) / 64=2)∧(i+3<s.size∧byt s (i+3) / 64=2) then
  (if (byt s i % 8)*262144+(byt s (i+1) % 64)*4096+(byt s (i+2) % 64)*64+byt s (i+3) % 64≥0x10000∧Utf8.valid ((byt s i % 8)*262144+(byt s (i+1) % 64)*4096+(byt s (i+2) % 64)*64+byt s (i+3) % 64:Nat)=true then ((byt s i % 8)*262144+(byt s (i+1) % 64)*4096+(byt s (i+2) % 64)*64+byt s (i+3) % 64,4) else (65533,1))
 else (65533,1)):=by
 unfold Utf8.decode byt
 simp only [Nat.add_zero,Bool.and_eq_true,decide_eq_true_eq,beq_iff_eq,Utf8.runeError,and_assoc]
theorem valid_iff (c:Nat):Utf8.valid (c:Nat)=true↔c<55296∨(57344≤c∧c≤1114111):=by
 unfold Utf8.valid
 simp only [Bool.or_eq_true,Bool.and_eq_true,decide_eq_true_eq]
 omega
theorem decode_of_sz (s:ByteArray) (i:Nat) (h:i<s.size):Utf8.decode s i=(if (szR s i).1=0 then (65533,1) else ((szR s i).2,(szR s i).1)):=by
 have h0:=byt_lt s i
 have h1:=byt_lt s (i+1)
 have h2:=byt_lt s (i+2)
 have h3:=byt_lt s (i+3)
 rw [decode_byt]
 unfold szR
 by_cases c0:byt s i<128
 ·rw [if_pos c0,if_pos c0];rfl
 rw [if_neg c0,if_neg c0]
 by_cases c1:194≤byt s i∧byt s i≤223
 ·rw [if_pos c1]
  by_cases z:s.size<i+(1+1)
  ·rw [szFin_short z,if_neg (show ¬ (byt s i / 32=6∧(i+1<s.size∧byt s (i+1) / 64=2)) by omega),if_neg (show ¬ (byt s i / 16=14∧(i+1<s.size∧byt s (i+1) / 64=2)∧(i+2<s.size∧byt s (i+2) / 64=2)) by omega),if_neg (show ¬ (byt s i / 8=30∧(i+1<s.size∧byt s (i+1) / 64=2)∧(i+2<s.size∧byt s (i+2) / 64=2)∧(i+3<s.size∧byt s (i+3) / 64=2)) by omega)];rfl
  by_cases d1:contB s i 1=true
  ·have d2:=cont1.1 d1
   have ea:acc s i (byt s i-192) 1=(byt s i % 32)*64+byt s (i+1) % 64:=by rw [acc1];omega
   rw [if_pos (show byt s i / 32=6∧(i+1<s.size∧byt s (i+1) / 64=2) by omega)]
   rw [if_pos (show (byt s i % 32)*64+byt s (i+1) % 64≥0x80 by omega),szFin_ok z d1 (by omega),ea];rfl
  ·have d2:=mt cont1.2 d1
   rw [szFin_cont (by simpa using d1),if_neg (show ¬ (byt s i / 32=6∧(i+1<s.size∧byt s (i+1) / 64=2)) by omega),if_neg (show ¬ (byt s i / 16=14∧(i+1<s.size∧byt s (i+1) / 64=2)∧(i+2<s.size∧byt s (i+2) / 64=2)) by omega),if_neg (show ¬ (byt s i / 8=30∧(i+1<s.size∧byt s (i+1) / 64=2)∧(i+2<s.size∧byt s (i+2) / 64=2)∧(i+3<s.size∧byt s (i+3) / 64=2)) by omega)];rfl
 rw [if_neg c1]
 by_cases c2:224≤byt s i∧byt s i≤239
 ·rw [if_pos c2,if_neg (show ¬ (byt s i / 32=6∧(i+1<s.size∧byt s (i+1) / 64=2)) by omega)]
  by_cases z:s.size<i+(2+1)
  ·rw [szFin_short z,if_neg (show ¬ (byt s i / 16=14∧(i+1<s.size∧byt s (i+1) / 64=2)∧(i+2<s.size∧byt s (i+2) / 64=2)) by omega),if_neg (show ¬ (byt s i / 8=30∧(i+1<s.size∧byt s (i+1) / 64=2)∧(i+2<s.size∧byt s (i+2) / 64=2)∧(i+3<s.size∧byt s (i+3) / 64=2)) by omega)];rfl
  by_cases d1:contB s i 2=true
  ·have d2:=cont2.1 d1
   have ea:acc s i (byt s i-224) 2=(byt s i % 16)*4096+(byt s (i+1) % 64)*64+byt s (i+2) % 64:=by rw [acc2];omega
   rw [if_pos (show byt s i / 16=14∧(i+1<s.size∧byt s (i+1) / 64=2)∧(i+2<s.size∧byt s (i+2) / 64=2) by omega)]
   have hvv:=valid_iff ((byt s i % 16)*4096+(byt s (i+1) % 64)*64+byt s (i+2) % 64)
   by_cases hv:acc s i (byt s i-224) 2<2048∨1114111<acc s i (byt s i-224) 2∨(55296≤acc s i (byt s i-224) 2∧acc s i (byt s i-224) 2≤57343)
   ·rw [szFin_low hv,if_neg (fun h=>by have:=hvv.1 h.2;omega)];rfl
   ·rw [szFin_ok z d1 hv,if_pos ⟨by omega,hvv.2 (by omega)⟩,ea];rfl
  ·have d2:=mt cont2.2 d1
   rw [szFin_cont (by simpa using d1),if_neg (show ¬ (byt s i / 16=14∧(i+1<s.size∧byt s (i+1) / 64=2)∧(i+2<s.size∧byt s (i+2) / 64=2)) by omega),if_neg (show ¬ (byt s i / 8=30∧(i+1<s.size∧byt s (i+1) / 64=2)∧(i+2<s.size∧byt s (i+2) / 64=2)∧(i+3<s.size∧byt s (i+3) / 64=2)) by omega)];rfl
 rw [if_neg c2]
 by_cases c3:240≤byt s i∧byt s i≤244
 ·rw [if_pos c3,if_neg (show ¬ (byt s i / 32=6∧(i+1<s.size∧byt s (i+1) / 64=2)) by omega),if_neg (show ¬ (byt s i / 16=14∧(i+1<s.size∧byt s (i+1) / 64=2)∧(i+2<s.size∧byt s (i+2) / 64=2)) by omega)]
  by_cases z:s.size<i+(3+1)
  ·rw [szFin_short z,if_neg (show ¬ (byt s i / 8=30∧(i+1<s.size∧byt s (i+1) / 64=2)∧(i+2<s.size∧byt s (i+2) / 64=2)∧(i+3<s.size∧byt s (i+3) / 64=2)) by omega)];rfl
  by_cases d1:contB s i 3=true
  ·have d2:=cont3.1 d1
   have ea:acc s i (byt s i-240) 3=(byt s i % 8)*262144+(byt s (i+1) % 64)*4096+(byt s (i+2) % 64)*64+byt s (i+3) % 64:=by rw [acc3];omega
   rw [if_pos (show byt s i / 8=30∧(i+1<s.size∧byt s (i+1) / 64=2)∧(i+2<s.size∧byt s (i+2) / 64=2)∧(i+3<s.size∧byt s (i+3) / 64=2) by omega)]
   have hvv:=valid_iff ((byt s i % 8)*262144+(byt s (i+1) % 64)*4096+(byt s (i+2) % 64)*64+byt s (i+3) % 64)
   by_cases hv:acc s i (byt s i-240) 3<65536∨1114111<acc s i (byt s i-240) 3∨(55296≤acc s i (byt s i-240) 3∧acc s i (byt s i-240) 3≤57343)
   ·rw [szFin_low hv,if_neg (fun h=>by have:=hvv.1 h.2;omega)];rfl
   ·rw [szFin_ok z d1 hv,if_pos ⟨by omega,hvv.2 (by omega)⟩,ea];rfl
  ·have d2:=mt cont3.2 d1
   rw [szFin_cont (by simpa using d1),if_neg (show ¬ (byt s i / 8=30∧(i+1<s.size∧byt s (i+1) / 64=2)∧(i+2<s.size∧byt s (i+2) / 64=2)∧(i+3<s.size∧byt s (i+3) / 64=2)) by omega)];rfl
 rw [if_neg c3]
 by_cases y1:byt s i / 32=6∧(i+1<s.size∧byt s (i+1) / 64=2)
 ·rw [if_pos y1,if_neg (show ¬ ((byt s i % 32)*64+byt s (i+1) % 64≥0x80) by omega)];rfl
 rw [if_neg y1,if_neg (show ¬ (byt s i / 16=14∧(i+1<s.size∧byt s (i+1) / 64=2)∧(i+2<s.size∧byt s (i+2) / 64=2)) by omega)]
 by_cases y3:byt s i / 8=30∧(i+1<s.size∧byt s (i+1) / 64=2)∧(i+2<s.size∧byt s (i+2) / 64=2)∧(i+3<s.size∧byt s (i+3) / 64=2)
 ·have hvv:=valid_iff ((byt s i % 8)*262144+(byt s (i+1) % 64)*4096+(byt s (i+2) % 64)*64+byt s (i+3) % 64)
  rw [if_pos y3,if_neg (fun h=>by have:=hvv.1 h.2;omega)];rfl
 ·rw [if_neg y3];rfl
def szV (s:ByteArray) (i:Nat):Value:=.tuple [.int .i64 ((szR s i).1:Int),.int .i64 ((szR s i).2:Int)].toArray
theorem szV_of {s:ByteArray}{i a b:Nat}(h:szR s i=(a,b)) {x y:Int}(hx:x=a) (hy:y=b):Value.tuple #[.int .i64 x,.int .i64 y]=szV s i:=by
 unfold szV;rw [h,hx,hy]
theorem acc_lt (s:ByteArray) (i v:Nat) (hv:v<256):∀ k,k≤3→acc s i v k<256*128 ^ k
 | 0,_=>by
  show v<256*128 ^ 0
  omega
 | k+1,hk=>by
  have ih:=acc_lt s i v hv k (by omega)
  have h1:=byt_lt s (i+(k+1))
  have h2:(128:Nat) ^ (k+1)=128*128 ^ k:=by rw [Nat.pow_succ,Nat.mul_comm]
  have h3:0<(128:Nat) ^ k:=Nat.pos_of_ne_zero (by simp)
  have h4:acc s i v (k+1)=64*acc s i v k+byt s (i+(k+1))-128:=rfl
  omega
theorem acc_lt3 (s:ByteArray) (i v:Nat) (hv:v<256) (k:Nat) (hk:k≤3):acc s i v k<536870912:=by
 have:=acc_lt s i v hv k hk
 have h2:(128:Nat) ^ k≤128 ^ 3:=Nat.pow_le_pow_right (by omega) hk
 have h3:(128:Nat) ^ 3=2097152:=by decide
 omega
theorem contB_mono {s:ByteArray}{i m:Nat}(h:contB s i m=true):∀ {k},k≤m→contB s i k=true:=by
 induction m with
 | zero =>
  intro k hk
  have e:k=0:=by omega
  rw [e];exact h
 | succ m ih =>
  intro k hk
  by_cases e:k=m+1
  ·subst e;exact h
  ·refine ih ?_ (by omega)
   have h2:(contB s i m && (decide (128≤byt s (i+(m+1))) && decide (byt s (i+(m+1))≤191)))=true:=h
   rw [Bool.and_eq_true] at h2
   exact h2.1
theorem size_s {G:GH}{s:ByteArray}{i:Nat}(hi:i<s.size) (hs:s.size≤1000000):Con Tryz.prog 167 #[.string s,.int .i64 (i:Int)] G [] (Just (szV s i) G):=by
 have b0:=byt_lt s i
 have ei:((i:Nat):Int).toNat=i:=Int.toNat_natCast i
 (refine v_enter Tryz.func167 rfl Tryz.ntmps167 rfl ?_;intro B _)
 repeat' (first|apply v_seq|apply v_region|apply v_nil|apply v_skip|apply v_block|apply v_blk|apply v_take;(case hg=>rfl)|apply v_pass;(case hg|hn|hd=>rfl)|apply v_pure;(case hop=>first|apply p_move<;>rfl|apply p_lt<;>rfl|apply p_gt<;>rfl|apply p_le<;>rfl|apply p_ge<;>rfl|apply p_assign<;>rfl|apply p_pickT<;>rfl|apply p_pickF<;>rfl|apply p_add;(case hx|hy=>rfl);(case h=>omega)|apply p_sub;(case hx|hy=>rfl);(case h=>omega)|apply p_lenString<;>rfl|apply p_convB<;>rfl|apply p_indexSn;(case hx|hi=>rfl);all_goals omega|fail);(case hd=>rfl)|apply v_condF;(case hc=>rfl)|apply v_cond;(case hc=>rfl);all_goals (intro h;(try simp only [reduceCtorEq,zzz] at h))|apply v_guardB;(case h1|h2=>rfl);all_goals (intro h;(try simp only [reduceCtorEq,zzz] at h);try (exfalso;omega))|fail)
 all_goals try
  (refine v_ret [] (outsA2 rfl rfl rfl) (by repeat (exact List.Sublist.refl _)) ?_
   refine ⟨szV_of (a:=1) (b:=byt s i) ?_ rfl rfl,rfl,rfl⟩
   unfold szR
   rw [if_pos (by omega)])
 all_goals try
  (refine v_ret [] (outsA2 rfl rfl rfl) (by repeat (exact List.Sublist.refl _)) ?_
   refine ⟨szV_of (a:=0) (b:=0) ?_ rfl rfl,rfl,rfl⟩
   unfold szR
   first
    | rw [if_neg (show ¬ byt s i<128 by omega),if_pos (show 194≤byt s i∧byt s i≤223 by omega),szFin_short (by omega)]
    | rw [if_neg (show ¬ byt s i<128 by omega),if_neg (show ¬ (194≤byt s i∧byt s i≤223) by omega),if_pos (show 224≤byt s i∧byt s i≤239 by omega),szFin_short (by omega)]
    | rw [if_neg (show ¬ byt s i<128 by omega),if_neg (show ¬ (194≤byt s i∧byt s i≤223) by omega),if_neg (show ¬ (224≤byt s i∧byt s i≤239) by omega),if_pos (show 240≤byt s i∧byt s i≤244 by omega),szFin_short (by omega)]
    | rw [if_neg (show ¬ byt s i<128 by omega),if_neg (show ¬ (194≤byt s i∧byt s i≤223) by omega),if_neg (show ¬ (224≤byt s i∧byt s i≤239) by omega),if_neg (show ¬ (240≤byt s i∧byt s i≤244) by omega)])
 all_goals
  (refine v_loop [10,9,7,8,0,1] (fun us G' μ'=>G'=G∧μ'=[]∧∃ (k m low v:Nat) (x N L:Int),us=[Value.int .i64 ((k:Int)+1),.int .i64 x,.int .i64 N,.int .i64 L,.string s,.int .i64 (i:Int)]∧N=(m:Int)+1∧L=low∧x=(acc s i v k:Nat)∧k≤m∧m≤3∧v<256∧i+(m+1)≤s.size∧contB s i k=true∧szR s i=szFin s i m low v) (fun us=>5-(headI us).toNat) rfl ?_ ?_
   ·refine ⟨rfl,rfl,?_⟩
    first
     | exact ⟨0,1,128,byt s i-192,_,_,_,rfl,rfl,rfl,by show _=((byt s i-192:Nat):Int);omega,by omega,by omega,by omega,by omega,rfl,by unfold szR;rw [if_neg (show ¬ byt s i<128 by omega),if_pos (show 194≤byt s i∧byt s i≤223 by omega)]⟩
     | exact ⟨0,2,2048,byt s i-224,_,_,_,rfl,rfl,rfl,by show _=((byt s i-224:Nat):Int);omega,by omega,by omega,by omega,by omega,rfl,by unfold szR;rw [if_neg (show ¬ byt s i<128 by omega),if_neg (show ¬ (194≤byt s i∧byt s i≤223) by omega),if_pos (show 224≤byt s i∧byt s i≤239 by omega)]⟩
     | exact ⟨0,3,65536,byt s i-240,_,_,_,rfl,rfl,rfl,by show _=((byt s i-240:Nat):Int);omega,by omega,by omega,by omega,by omega,rfl,by unfold szR;rw [if_neg (show ¬ byt s i<128 by omega),if_neg (show ¬ (194≤byt s i∧byt s i≤223) by omega),if_neg (show ¬ (224≤byt s i∧byt s i≤239) by omega),if_pos (show 240≤byt s i∧byt s i≤244 by omega)]⟩
   rintro us G' μ' ⟨rfl,rfl,k,m,low,v,x,N,L,rfl,rfl,rfl,rfl,hk,hm,hv,him,hcb,hsz⟩
   have ha:=acc_lt3 s i v hv k (by omega)
   have bk:=byt_lt s (i+(k+1))
   have ek:((i:Int)+((k:Int)+1)).toNat=i+(k+1):=by omega
   have hacc:acc s i v (k+1)=64*acc s i v k+byt s (i+(k+1))-128:=rfl
   have hcon:contB s i (k+1)=(contB s i k && (decide (128≤byt s (i+(k+1))) && decide (byt s (i+(k+1))≤191))):=rfl
   repeat' (first|apply v_pure;(case hop=>(apply p_indexSb;(case hx|hi=>rfl);all_goals omega));(case hd=>rfl);rw [ek]|apply v_seq|apply v_region|apply v_nil|apply v_skip|apply v_block|apply v_blk|apply v_exit;(case hp=>rfl)|apply v_take;(case hg=>rfl)|apply v_pass;(case hg|hn|hd=>rfl)|apply v_passN;(case hg|hn|hd=>rfl)|apply v_pure;(case hop=>first|apply p_move<;>rfl|apply p_lt<;>rfl|apply p_gt<;>rfl|apply p_le<;>rfl|apply p_ge<;>rfl|apply p_assign<;>rfl|apply p_pickT<;>rfl|apply p_pickF<;>rfl|apply p_add;(case hx|hy=>rfl);(case h=>omega)|apply p_sub;(case hx|hy=>rfl);(case h=>omega)|apply p_convB<;>rfl|apply p_mul;(case hx|hy=>rfl);(case h=>omega));(case hd=>rfl)|apply v_condT;(case hc=>rfl)|apply v_condF;(case hc=>rfl)|apply v_cond;(case hc=>rfl);all_goals (intro h;(try simp only [reduceCtorEq,zzz] at h))|apply v_guardB;(case h1|h2=>rfl);all_goals (intro h;(try simp only [reduceCtorEq,zzz] at h))|fail)
   all_goals try
    (refine v_ret [] (outsA2 rfl rfl rfl) (by repeat (exact List.Sublist.refl _)) ?_
     refine ⟨szV_of (a:=0) (b:=0) ?_ rfl rfl,rfl,rfl⟩
     rw [hsz]
     first
      |(have:k+1≤m:=by omega
        refine szFin_cont ?_
        cases hc:contB s i m with
        | false=>rfl
        | true =>
         have h2:=contB_mono hc this
         rw [hcon] at h2
         simp only [Bool.and_eq_true,decide_eq_true_eq] at h2
         omega)
      |(obtain rfl:k=m:=by omega
        refine szFin_low ?_
        omega))
   all_goals try
    (refine v_ret [] (outsA2 rfl rfl rfl) (by repeat (exact List.Sublist.refl _)) ?_
     obtain rfl:k=m:=by omega
     refine ⟨szV_of (a:=k+1) (b:=acc s i v k) ?_ (by omega) rfl,rfl,rfl⟩
     rw [hsz]
     exact szFin_ok (by omega) hcb (by omega))
   refine v_again rfl ⟨rfl,rfl,k+1,m,low,v,_,_,_,rfl,rfl,rfl,by rw [hacc];omega,by omega,hm,hv,him,?_,hsz⟩ (by simp [headI];omega)
   rw [hcon,hcb]
   simp only [Bool.true_and,Bool.and_eq_true,decide_eq_true_eq]
   omega)
def plainP (r:Int):Prop:=(97≤r∧r≤122)∨(65≤r∧r≤90)∨(48≤r∧r≤57)∨r=45∨r=95∨r=46∨r=58∨(161≤r∧r≠65533)
instance (r:Int):Decidable (plainP r):=by unfold plainP;infer_instance
theorem byt_list (l:List UInt8) (j:Nat):byt ⟨l.toArray⟩ j=(l.getD j 0).toNat:=by
 unfold byt
 congr 1
 by_cases h:j<l.length
 ·simp [ByteArray.get!,h]
 ·simp [ByteArray.get!,h]
  rfl
def plainL:List UInt8:=[97,98,99,100,101,102,103,104,105,106,107,108,109,110,111,112,113,114,115,116,117,118,119,120,121,122,65,66,67,68,69,70,71]++[72,73,74,75,76,77,78,79,80,81,82,83,84,85,86,87,88,89,90,48,49,50,51,52,53,54,55,56,57,45,95,46,58]
theorem plainL_all:(List.range 66).all (fun j=>decide (plainP ((plainL.getD j 0).toNat:Int)))=true:=by decide +kernel
theorem plainL_has:(List.range 128).all (fun c => !decide (plainP (c:Int)) || ((List.range 66).any fun j=>decide ((plainL.getD j 0).toNat=c)))=true:=by decide +kernel
theorem plain_s (G:GH) (r:Int):Con Tryz.prog 168 #[.int .i64 r] G [] (Just (.bool (decide (plainP r))) G):=by
 (refine v_enter Tryz.func168 rfl Tryz.ntmps168 rfl ?_;intro B _)
 repeat' (first|apply v_seq|apply v_region|apply v_nil|apply v_block|apply v_pure;(case hop=>(apply p_assign<;>rfl));(case hd=>rfl)|fail)
 refine v_loop [4,3,0] (fun us G' μ'=>G'=G∧μ'=[]∧∃ (k:Nat) (sL:ByteArray),us=[Value.int .i64 (k:Int),.string sL,.int .i64 r]∧k≤66∧sL.size=66∧(∀ j,byt sL j=(plainL.getD j 0).toNat)∧∀ j,j<k→((plainL.getD j 0).toNat:Int)≠r) (fun us=>67-(headI us).toNat) rfl ⟨rfl,rfl,0,_,rfl,by omega,rfl,fun j=>byt_list plainL j,by omega⟩ ?_
 rintro us G' μ' ⟨rfl,rfl,k,sL,rfl,hk,hsz,hb,hno⟩
 repeat' (first|apply v_seq|apply v_region|apply v_nil|apply v_skip|apply v_block|apply v_blk|apply v_exit;(case hp=>rfl)|apply v_take;(case hg=>rfl)|apply v_pass;(case hg|hn|hd=>rfl)|apply v_pure;(case hop=>first|apply p_move<;>rfl|apply p_eq<;>rfl|apply p_lt<;>rfl|apply p_ne<;>rfl|apply p_ge<;>rfl|apply p_assign<;>rfl|apply p_pickT<;>rfl|apply p_pickF<;>rfl|apply p_add;(case hx|hy=>rfl);(case h=>omega)|apply p_lenString<;>rfl|apply p_convB<;>rfl|apply p_indexSn;(case hx|hi=>rfl);all_goals omega|fail);(case hd=>rfl)|apply v_cond;(case hc=>rfl);all_goals (intro h;(try simp only [reduceCtorEq,zzz] at h))|apply v_guardB;(case h1|h2=>rfl);all_goals (intro h;(try simp only [reduceCtorEq,zzz] at h))|fail)
 ·refine v_ret [] (outsA1 rfl rfl) (by repeat (exact List.Sublist.refl _)) ?_
  refine ⟨?_,rfl,rfl⟩
  have h1:=List.all_eq_true.1 plainL_all k (by simp;omega)
  rename_i h
  rw [hb] at h
  rw [decide_eq_true_eq,h] at h1
  rw [decide_eq_true h1]
 ·refine v_again rfl ⟨rfl,rfl,k+1,sL,rfl,by omega,hsz,hb,fun j hj=>?_⟩ (by simp [headI];omega)
  by_cases e:j=k
  ·subst e
   rename_i h
   rw [hb] at h
   exact h
  ·exact hno j (by omega)
 all_goals
  (have hn:¬ (0≤r∧r<128∧plainP r):=by
    rintro ⟨h0,h1,h2⟩
    have h3:=List.all_eq_true.1 plainL_has r.toNat (by simp;omega)
    have e:((r.toNat:Nat):Int)=r:=by omega
    simp only [Bool.or_eq_true,Bool.not_eq_true',decide_eq_false_iff_not,e,List.any_eq_true,List.mem_range,decide_eq_true_eq] at h3
    rcases h3 with h3|⟨j,hj,h3⟩
    ·exact h3 h2
    ·exact hno j (by omega) (by omega)
   refine v_ret [] (outsA1 rfl rfl) (by repeat (exact List.Sublist.refl _)) ?_
   refine ⟨?_,rfl,rfl⟩
   first
    |(have h161:161≤r:=by assumption
      by_cases hr:r=65533
      ·rw [dec_pos hr,decide_eq_false (by unfold plainP;omega)];rfl
      ·rw [dec_neg hr,decide_eq_true (by unfold plainP;omega)];rfl)
    |(rw [decide_eq_false]
      intro h
      refine hn ⟨?_,?_,h⟩<;>(unfold plainP at h;omega)))
def badR (s:ByteArray):Nat→Nat→Int
 | 0,_ => -1
 | n+1,p=>if p<s.size then (if (szR s p).1=0 then (p:Int) else badR s n (p+(szR s p).1)) else -1
def keyR (s:ByteArray):Nat→Nat→Bool
 | 0,_=>true
 | n+1,p=>if p<s.size then (if (szR s p).1=0 then false else if plainP ((szR s p).2:Int) then keyR s n (p+(szR s p).1) else false) else true
def keyB (s:ByteArray):Bool:=(decide (1≤s.size) && decide (s.size≤24)) && keyR s s.size 0
def okBytes (s:ByteArray):Prop := ∀ i,i<s.size→32≤byt s i∧byt s i≠127
noncomputable instance (s:ByteArray):Decidable (okBytes s):=Classical.propDecidable _
noncomputable def valB (s:ByteArray):Bool:=(decide (s.size≤48) && decide (badR s s.size 0<0)) && decide (okBytes s)
theorem badR_end {s:ByteArray}{n p:Nat}(h:¬ p<s.size):badR s n p = -1:=by
 cases n with
 | zero=>rfl
 | succ n=>unfold badR;rw [if_neg h]
theorem keyR_end {s:ByteArray}{n p:Nat}(h:¬ p<s.size):keyR s n p=true:=by
 cases n with
 | zero=>rfl
 | succ n=>unfold keyR;rw [if_neg h]
theorem fuel {s:ByteArray}{n p:Nat}(h:p<s.size) (hn:s.size≤p+n):∃ m,n=m+1:=⟨n-1,by omega⟩
theorem szR_le (s:ByteArray) (p:Nat):(szR s p).1≤4:=by
 unfold szR szFin
 repeat' split
 all_goals simp
theorem refBad_s {G:GH}{s:ByteArray}(hs:s.size≤1000000):Con Tryz.prog 169 #[.string s] G [] (Just (.int .i64 (badR s s.size 0)) G):=by
 (refine v_enter Tryz.func169 rfl Tryz.ntmps169 rfl ?_;intro B _)
 repeat' (first|apply v_seq|apply v_region|apply v_nil|apply v_block|apply v_pure;(case hop=>(apply p_assign<;>rfl));(case hd=>rfl)|fail)
 refine v_loop [3,0] (fun us G' μ'=>G'=G∧μ'=[]∧∃ (p n:Nat),us=[Value.int .i64 (p:Int),.string s]∧s.size≤p+n∧p≤s.size+4∧badR s s.size 0=badR s n p) (fun us=>s.size-(headI us).toNat) rfl ⟨rfl,rfl,0,s.size,rfl,by omega,by omega,rfl⟩ ?_
 rintro us G' μ' ⟨rfl,rfl,p,n,rfl,hn,hp,he⟩
 have h4:=szR_le s p
 repeat' (first|apply v_seq|apply v_region|apply v_nil|apply v_skip|apply v_block|apply v_blk|apply v_exit;(case hp=>rfl)|apply v_pure;(case hop=>first|apply p_move<;>rfl|apply p_eq<;>rfl|apply p_lt<;>rfl|apply p_assign<;>rfl|apply p_extract0<;>rfl|apply p_extract1<;>rfl|apply p_add;(case hx|hy=>rfl);(case h=>omega)|apply p_lenString<;>rfl|fail);(case hd=>rfl)|apply v_cond;(case hc=>rfl);all_goals (intro h;(try simp only [reduceCtorEq,zzz] at h))|apply v_callJ (hs:=size_s ?o1 ?o2);(case ha=>rfl);(case o1|o2=>omega);(case hd=>rfl)|fail)
 ·obtain ⟨m,rfl⟩:=fuel (by omega) hn
  refine v_ret [] (outsA1 rfl rfl) (by repeat (exact List.Sublist.refl _)) ?_
  refine ⟨?_,rfl,rfl⟩
  rw [he,badR,if_pos (by omega),if_pos (by omega)]
 ·obtain ⟨m,rfl⟩:=fuel (by omega) hn
  refine v_again rfl ⟨rfl,rfl,p+(szR s p).1,m,rfl,by omega,by omega,?_⟩ (by simp [headI];omega)
  rw [he,badR,if_pos (by omega),if_neg (by omega)]
 ·refine v_ret [] (outsA1 rfl rfl) (by repeat (exact List.Sublist.refl _)) ?_
  refine ⟨?_,rfl,rfl⟩
  rw [he,badR_end (by omega)]
theorem refKey_s {G:GH}{s:ByteArray}(hs:s.size≤9223372036854775807):Con Tryz.prog 131 #[.string s] G [] (Just (.bool (keyB s)) G):=by
 (refine v_enter Tryz.func131 rfl Tryz.ntmps131 rfl ?_;intro B _)
 repeat' (first|apply v_seq|apply v_region|apply v_nil|apply v_skip|apply v_block|apply v_take;(case hg=>rfl)|apply v_pass;(case hg|hn|hd=>rfl)|apply v_pure;(case hop=>first|apply p_move<;>rfl|apply p_lt<;>rfl|apply p_gt<;>rfl|apply p_assign<;>rfl|apply p_pickT<;>rfl|apply p_pickF<;>rfl|apply p_lenString<;>rfl|fail);(case hd=>rfl)|apply v_condT;(case hc=>rfl)|apply v_cond;(case hc=>rfl);all_goals (intro h;(try simp only [reduceCtorEq,zzz] at h))|apply v_guardB;(case h1|h2=>rfl);all_goals (intro h;(try simp only [reduceCtorEq,zzz] at h))|fail)
 all_goals try
  (refine v_ret [] (outsA1 rfl rfl) (by repeat (exact List.Sublist.refl _)) ?_
   refine ⟨?_,rfl,rfl⟩
   have:(decide (1≤s.size) && decide (s.size≤24))=false:=by
    rw [Bool.and_eq_false_iff,decide_eq_false_iff_not,decide_eq_false_iff_not];omega
   rw [keyB,this];rfl)
 have hk:keyB s=keyR s s.size 0:=by
  rw [keyB,decide_eq_true (by omega),decide_eq_true (by omega)];rfl
 refine v_loop [3,0] (fun us G' μ'=>G'=G∧μ'=[]∧∃ (p n:Nat),us=[Value.int .i64 (p:Int),.string s]∧s.size≤p+n∧p≤s.size+4∧keyB s=keyR s n p) (fun us=>s.size-(headI us).toNat) rfl ⟨rfl,rfl,0,s.size,rfl,by omega,by omega,hk⟩ ?_
 rintro us G' μ' ⟨rfl,rfl,p,n,rfl,hn,hp,he⟩
 have h4:=szR_le s p
 repeat' (first|apply v_seq|apply v_region|apply v_nil|apply v_skip|apply v_block|apply v_blk|apply v_exit;(case hp=>rfl)|apply v_take;(case hg=>rfl)|apply v_pass;(case hg|hn|hd=>rfl)|apply v_pure;(case hop=>first|apply p_move<;>rfl|apply p_eq<;>rfl|apply p_lt<;>rfl|apply p_assign<;>rfl|apply p_pickT<;>rfl|apply p_pickF<;>rfl|apply p_not<;>rfl|apply p_extract0<;>rfl|apply p_extract1<;>rfl|apply p_add;(case hx|hy=>rfl);(case h=>omega)|apply p_lenString<;>rfl|fail);(case hd=>rfl)|apply v_condT;(case hc=>rfl)|apply v_cond;(case hc=>rfl);all_goals (intro h;(try simp only [reduceCtorEq,zzz] at h))|apply v_guardB;(case h1|h2=>rfl);all_goals (intro h;(try simp only [reduceCtorEq,zzz] at h))|apply v_callJ (hs:=size_s ?o1 ?o2);(case ha=>rfl);(case o1|o2=>omega);(case hd=>rfl)|apply v_callJ (hs:=plain_s _ _);(case ha|hd=>rfl)|fail)
 ·obtain ⟨m,rfl⟩:=fuel (by omega) hn
  refine v_ret [] (outsA1 rfl rfl) (by repeat (exact List.Sublist.refl _)) ?_
  refine ⟨?_,rfl,rfl⟩
  rw [he,keyR,if_pos (by omega),if_pos (by omega)]
 ·obtain ⟨m,rfl⟩:=fuel (by omega) hn
  refine v_ret [] (outsA1 rfl rfl) (by repeat (exact List.Sublist.refl _)) ?_
  refine ⟨?_,rfl,rfl⟩
  rw [he,keyR,if_pos (by omega),if_neg (by omega),if_neg (by assumption)]
 ·obtain ⟨m,rfl⟩:=fuel (by omega) hn
  refine v_again rfl ⟨rfl,rfl,p+(szR s p).1,m,rfl,by omega,by omega,?_⟩ (by simp [headI];omega)
  rw [he,keyR,if_pos (by omega),if_neg (by omega),if_pos (by assumption)]
 ·refine v_ret [] (outsA1 rfl rfl) (by repeat (exact List.Sublist.refl _)) ?_
  refine ⟨?_,rfl,rfl⟩
  rw [he,keyR_end (by omega)]
theorem refVal_s {G:GH}{s:ByteArray}(hs:s.size≤9223372036854775807):Con Tryz.prog 132 #[.string s] G [] (Just (.bool (valB s)) G):=by
 (refine v_enter Tryz.func132 rfl Tryz.ntmps132 rfl ?_;intro B _)
 repeat' (first|apply v_seq|apply v_region|apply v_nil|apply v_skip|apply v_block|apply v_take;(case hg=>rfl)|apply v_pass;(case hg|hn|hd=>rfl)|apply v_pure;(case hop=>first|apply p_move<;>rfl|apply p_gt<;>rfl|apply p_ge<;>rfl|apply p_assign<;>rfl|apply p_pickT<;>rfl|apply p_pickF<;>rfl|apply p_lenString<;>rfl|fail);(case hd=>rfl)|apply v_condT;(case hc=>rfl)|apply v_cond;(case hc=>rfl);all_goals (intro h;(try simp only [reduceCtorEq,zzz] at h))|apply v_guardB;(case h1|h2=>rfl);all_goals (intro h;(try simp only [reduceCtorEq,zzz] at h))|apply v_callJ (hs:=refBad_s ?o1);(case ha=>rfl);(case o1=>omega);(case hd=>rfl)|fail)
 all_goals try
  (refine v_ret [] (outsA1 rfl rfl) (by repeat (exact List.Sublist.refl _)) ?_
   refine ⟨?_,rfl,rfl⟩
   have:(decide (s.size≤48) && decide (badR s s.size 0<0))=false:=by
    rw [Bool.and_eq_false_iff,decide_eq_false_iff_not,decide_eq_false_iff_not];omega
   rw [valB,this];rfl)
 have hv:valB s=decide (okBytes s):=by
  rw [valB,decide_eq_true (by omega),decide_eq_true (by omega)];rfl
 refine v_loop [3,0] (fun us G' μ'=>G'=G∧μ'=[]∧∃ (p:Nat),us=[Value.int .i64 (p:Int),.string s]∧p≤s.size∧∀ j,j<p→32≤byt s j∧byt s j≠127) (fun us=>s.size-(headI us).toNat) rfl ⟨rfl,rfl,0,rfl,by omega,by omega⟩ ?_
 rintro us G' μ' ⟨rfl,rfl,p,rfl,hp,hno⟩
 repeat' (first|apply v_seq|apply v_region|apply v_nil|apply v_skip|apply v_block|apply v_blk|apply v_exit;(case hp=>rfl)|apply v_take;(case hg=>rfl)|apply v_pass;(case hg|hn|hd=>rfl)|apply v_pure;(case hop=>first|apply p_move<;>rfl|apply p_eq<;>rfl|apply p_lt<;>rfl|apply p_assign<;>rfl|apply p_pickT<;>rfl|apply p_pickF<;>rfl|apply p_add;(case hx|hy=>rfl);(case h=>omega)|apply p_lenString<;>rfl|apply p_indexSn;(case hx|hi=>rfl);all_goals omega|fail);(case hd=>rfl)|apply v_condT;(case hc=>rfl)|apply v_cond;(case hc=>rfl);all_goals (intro h;(try simp only [reduceCtorEq,zzz] at h))|apply v_guardB;(case h1|h2=>rfl);all_goals (intro h;(try simp only [reduceCtorEq,zzz] at h))|fail)
 all_goals try
  (refine v_ret [] (outsA1 rfl rfl) (by repeat (exact List.Sublist.refl _)) ?_
   refine ⟨?_,rfl,rfl⟩
   rw [hv,decide_eq_false]
   intro hm
   have:=hm p (by omega)
   omega)
 all_goals try
  (refine v_again rfl ⟨rfl,rfl,p+1,rfl,by omega,fun j hj=>?_⟩ (by simp [headI];omega)
   by_cases e:j=p
   ·subst e;omega
   ·exact hno j (by omega))
 refine v_ret [] (outsA1 rfl rfl) (by repeat (exact List.Sublist.refl _)) ?_
 refine ⟨?_,rfl,rfl⟩
 rw [hv,decide_eq_true]
 exact fun j hj=>hno j (by omega)
def allF (f:Nat→Bool) (s:ByteArray):Nat→Nat→Bool
 | 0,_=>true
 | n+1,p=>if p<s.size then (if f (Utf8.decode s p).1=true then allF f s n (p+(Utf8.decode s p).2) else false) else true
theorem allF_end {f:Nat→Bool}{s:ByteArray}{n p:Nat}(h:¬ p<s.size):allF f s n p=true:=by
 cases n with
 | zero=>rfl
 | succ n=>unfold allF;rw [if_neg h]
theorem decode_w (s:ByteArray) (p:Nat) (h:p<s.size):1≤(Utf8.decode s p).2∧(Utf8.decode s p).2≤4∧(Utf8.decode s p).1<1114112:=by
 rw [decode_of_sz s p h]
 have h4:=szR_le s p
 have h5:(szR s p).2≤1114111:=by
  have:=byt_lt s p
  unfold szR szFin
  repeat' split
  all_goals (try simp only);omega
 split
 ·simp
 ·simp only;omega
theorem allF_plain (s:ByteArray):∀ n p,s.size≤p+n→(decide (badR s n p<0) && allF (fun r=>decide (plainP (r:Int))) s n p)=keyR s n p
 | 0,p,h=>by simp [badR,allF,keyR]
 | n+1,p,h=>by
  unfold badR allF keyR
  by_cases hp:p<s.size
  ·simp only [if_pos hp]
   rw [decode_of_sz s p hp]
   by_cases hz:(szR s p).1=0
   ·simp only [if_pos hz]
    simp;omega
   ·simp only [if_neg hz]
    by_cases hf:plainP ((szR s p).2:Int)
    ·simp only [decide_eq_true hf,if_true,if_pos hf]
     exact allF_plain s n _ (by omega)
    ·simp [hf]
  ·simp [hp]
theorem szFin_spec {s:ByteArray}{i m low v:Nat}(h:(szFin s i m low v).1≠0):¬ s.size<i+(m+1)∧contB s i m=true∧szFin s i m low v=(m+1,acc s i v m)∧low≤acc s i v m:=by
 by_cases h1:s.size<i+(m+1)
 ·rw [szFin_short h1] at h;exact absurd rfl h
 cases h2:contB s i m with
 | false=>rw [szFin_cont h2] at h;exact absurd rfl h
 | true =>
  by_cases h3:acc s i v m<low∨1114111<acc s i v m∨(55296≤acc s i v m∧acc s i v m≤57343)
  ·rw [szFin_low h3] at h;exact absurd rfl h
  ·exact ⟨h1,rfl,szFin_ok h1 h2 h3,by omega⟩
theorem cont_bytes {s:ByteArray}{i m:Nat}(h:contB s i m=true):∀ k,k<m→128≤byt s (i+(k+1)):=by
 intro k hk
 have h1:(contB s i k && (decide (128≤byt s (i+(k+1))) && decide (byt s (i+(k+1))≤191)))=true:=contB_mono h (k:=k+1) (by omega)
 simp only [Bool.and_eq_true,decide_eq_true_eq] at h1
 exact h1.2.1
theorem szFin_bytes {s:ByteArray}{i m low v:Nat}(hb:128≤byt s i) (hl:128≤low) (h:(szFin s i m low v).1≠0):((decide (32≤(szFin s i m low v).2) && decide ((szFin s i m low v).2≠127))=true↔∀ j,i≤j→j<i+(szFin s i m low v).1→32≤byt s j∧byt s j≠127)∧i+(szFin s i m low v).1≤s.size:=by
 obtain ⟨h1,h2,h3,h4⟩:=szFin_spec h
 rw [h3]
 simp only [Bool.and_eq_true,decide_eq_true_eq]
 refine ⟨⟨fun _ j hj hj2=>?_,fun _=>by omega⟩,by omega⟩
 by_cases e:j=i
 ·subst e;omega
 ·have:=cont_bytes h2 (j-i-1) (by omega)
  rw [show i+(j-i-1+1)=j by omega] at this
  omega
theorem sz_both (s:ByteArray) (p:Nat) (hz:¬ (szR s p).1=0):((decide (32≤(szR s p).2) && decide ((szR s p).2≠127))=true↔∀ i,p≤i→i<p+(szR s p).1→32≤byt s i∧byt s i≠127)∧(p<s.size→p+(szR s p).1≤s.size):=by
 unfold szR at hz ⊢
 by_cases c0:byt s p<128
 ·simp only [if_pos c0] at hz ⊢
  simp only [Bool.and_eq_true,decide_eq_true_eq]
  refine ⟨⟨fun h i h1 h2=>?_,fun h=>h p (by omega) (by omega)⟩,by omega⟩
  obtain rfl:i=p:=by omega
  exact h
 ·simp only [if_neg c0] at hz ⊢
  by_cases c1:194≤byt s p∧byt s p≤223
  ·simp only [if_pos c1] at hz ⊢
   have:=szFin_bytes (by omega) (by omega) hz
   exact ⟨this.1,fun _=>this.2⟩
  ·simp only [if_neg c1] at hz ⊢
   by_cases c2:224≤byt s p∧byt s p≤239
   ·simp only [if_pos c2] at hz ⊢
    have:=szFin_bytes (by omega) (by omega) hz
    exact ⟨this.1,fun _=>this.2⟩
   ·simp only [if_neg c2] at hz ⊢
    by_cases c3:240≤byt s p∧byt s p≤244
    ·simp only [if_pos c3] at hz ⊢
     have:=szFin_bytes (by omega) (by omega) hz
     exact ⟨this.1,fun _=>this.2⟩
    ·simp only [if_neg c3] at hz
     exact absurd trivial hz
theorem sz_bytes (s:ByteArray) (p:Nat) (hz:¬ (szR s p).1=0):((decide (32≤(szR s p).2) && decide ((szR s p).2≠127))=true↔∀ i,p≤i→i<p+(szR s p).1→32≤byt s i∧byt s i≠127):=(sz_both s p hz).1
theorem sz_end (s:ByteArray) (p:Nat) (hz:¬ (szR s p).1=0) (h:p<s.size):p+(szR s p).1≤s.size:=(sz_both s p hz).2 h
theorem allF_val (s:ByteArray):∀ n p,s.size≤p+n→badR s n p<0→(allF (fun r=>decide (32≤r) && decide (r≠127)) s n p=true↔∀ i,p≤i→i<s.size→32≤byt s i∧byt s i≠127)
 | 0,p,h,_=>by
  simp only [allF,true_iff]
  intro i h1 h2;omega
 | n+1,p,h,hb=>by
  unfold badR at hb
  unfold allF
  by_cases hp:p<s.size
  ·rw [if_pos hp] at hb ⊢
   rw [decode_of_sz s p hp]
   by_cases hz:(szR s p).1=0
   ·rw [if_pos hz] at hb;omega
   ·rw [if_neg hz] at hb
    simp only [if_neg hz]
    have ih:=allF_val s n (p+(szR s p).1) (by omega) hb
    have key:((decide (32≤(szR s p).2) && decide ((szR s p).2≠127))=true)↔∀ i,p≤i→i<p+(szR s p).1→32≤byt s i∧byt s i≠127:=sz_bytes s p hz
    by_cases hf:(decide (32≤(szR s p).2) && decide ((szR s p).2≠127))=true
    ·rw [if_pos hf,ih]
     have hk:=key.1 hf
     constructor
     ·intro hh i h1 h2
      by_cases hi:i<p+(szR s p).1
      ·exact hk i h1 hi
      ·exact hh i (by omega) h2
     ·intro hh i h1 h2
      exact hh i (by omega) h2
    ·rw [if_neg hf]
     constructor
     ·intro hh;cases hh
     ·intro hh
      have:=key.2 fun i h1 h2=>hh i h1 (by have:=sz_end s p hz hp;omega)
      rw [this] at hf;exact absurd rfl hf
  ·rw [if_neg hp]
   simp only [true_iff]
   intro i h1 h2;omega
def laysDecode_ren:Go.Shelf.Ren:=⟨fun|197=>235|260=>237|n=>n,fun|0=>0|3=>3|4=>4|5=>5|9=>9|21=>21|46=>182|105=>252|119=>255|138=>257|139=>258|n=>n,fun|3=>1|4=>2|n=>n⟩
theorem laysDecode:Lays.n197 Tryz.prog laysDecode_ren where
 mixed:=by kernel_rfl
 f197:=Tryz.func235.trans (congrArg some (by kernel_rfl))
 f260:=Tryz.func237.trans (congrArg some (by kernel_rfl))
 t0:=Tryz.underlying0
 a0:=Tryz.isAgg0
 z0:=Tryz.sizeOf0
 v0:=Tryz.zeroValue0
 t3:=Tryz.underlying3
 a3:=Tryz.isAgg3
 z3:=Tryz.sizeOf3
 v3:=Tryz.zeroValue3
 t4:=Tryz.underlying4
 a4:=Tryz.isAgg4
 z4:=Tryz.sizeOf4
 v4:=Tryz.zeroValue4
 t5:=Tryz.underlying5
 a5:=Tryz.isAgg5
 z5:=Tryz.sizeOf5
 v5:=Tryz.zeroValue5
 t9:=Tryz.underlying9
 a9:=Tryz.isAgg9
 z9:=Tryz.sizeOf9
 v9:=Tryz.zeroValue9
 t21:=Tryz.underlying21
 a21:=Tryz.isAgg21
 z21:=Tryz.sizeOf21
 v21:=Tryz.zeroValue21
 t46:=Tryz.underlying182
 a46:=Tryz.isAgg182
 z46:=Tryz.sizeOf182
 v46:=Tryz.zeroValue182
 t105:=Tryz.underlying252
 a105:=Tryz.isAgg252
 z105:=Tryz.sizeOf252
 v105:=Tryz.zeroValue252
 t119:=Tryz.underlying255
 a119:=Tryz.isAgg255
 z119:=Tryz.sizeOf255
 t138:=Tryz.underlying257
 a138:=Tryz.isAgg257
 z138:=Tryz.sizeOf257
 v138:=Tryz.zeroValue257
 t139:=Tryz.underlying258
 a139:=Tryz.isAgg258
 z139:=Tryz.sizeOf258
 v139:=Tryz.zeroValue258
 g3:=by kernel_rfl
 g4:=by kernel_rfl
def TabsG (G:GH):Prop := ∀ w:World,(∀ b o,G b=some o→w.heap[b]? = some o)→Lib.Utf8Tabs (laysDecode_ren.g 3) (laysDecode_ren.g 4) w
theorem TabsG.le {G G':GH}(h:TabsG G) (hle:GH.le G G'):TabsG G':=fun w hw=>h w fun b o hb=>hw b o (hle b o hb)
attribute [local semireducible] Con in
theorem Con.ofCalls {P:Program}{f:FuncId}{args:Array Value}{G:GH}{μ:OH}{Φ:Value→GH→OH→Prop}(h:∀ w,Mem G μ w→Calls P f args w fun e w'=>∃ v,e=.returned v∧∃ G' μ',Step G μ w G' μ' w'∧Φ v G' μ'):Con P f args G μ Φ:=by
 intro w hw
 exact (h w hw).mono fun e w' hq=>by
  obtain ⟨v,rfl,hv⟩:=hq
  exact ⟨v,rfl,hv⟩
theorem Step.ofBelow {G:GH}{w w':World}(hw:Mem G [] w) (hb:Below w.heap.size w w'):Step G [] w G [] w' :=
 ⟨⟨fun b o h=>by rw [hb.block b (lt_of_heap (hw.g b o h))];exact hw.g b o h,fun _ _ h=>(by cases h),List.nodup_nil,fun _ _ h=>(by cases h)⟩,GH.le_refl _,hb.os,hb.tape,hb.output,hb.size,fun b h _=>hb.block b h,fun _ _ h=>(by cases h),fun b o h=>.inl ⟨o,h⟩⟩
theorem decode_s {G:GH}(hT:TabsG G) (s:ByteArray):Con Tryz.prog 235 #[.string s] G [] (Just (.tuple [.int .i32 ((Lib.decodeGo s).1:Int),.int .i64 ((Lib.decodeGo s).2:Int)].toArray) G):=by
 refine Con.ofCalls fun w hw=>?_
 refine (Any.utf8_DecodeRuneInString laysDecode s w (hT w hw.g)).mono ?_
 rintro e w' ⟨rfl,hb⟩
 exact ⟨_,rfl,G,[],Step.ofBelow hw hb,rfl,rfl,rfl⟩
end Go.Proofs.YtpemabgfmnhhnaaGreatDoor
/-
  Texts (layer 5), the fourth part: the program's walks.
-/
namespace Go.Proofs.YtpemabgfmnhhnaaGreatDoor
open Go.Vx Go.ChangeShapes Go.WideShapes Go.ChangeAt Go.RowKit
theorem byt_extract {s:ByteArray}{i k:Nat}(h:i+k<s.size):byt (s.extract i s.size) k=byt s (i+k):=by
 have hs:(s.extract i s.size).size=s.size-i:=by simp
 rw [byt_eq (by omega),byt_eq h]
 congr 1
 simp [ByteArray.getElem_extract]
theorem decode_extract {s:ByteArray}{i:Nat}(h:i<s.size):Utf8.decode (s.extract i s.size) 0=Utf8.decode s i:=by
 have hs:(s.extract i s.size).size=s.size-i:=by simp
 rw [decode_byt,decode_byt,hs]
 have e0:=byt_extract (s:=s) (i:=i) (k:=0) h
 rw [Nat.add_zero] at e0
 simp only [Nat.zero_add,e0]
 by_cases h1:i+1<s.size
 ·have e1:=byt_extract (s:=s) (i:=i) (k:=1) h1
  rw [e1]
  have c1:(1<s.size-i)↔(i+1<s.size):=by omega
  simp only [c1]
  by_cases h2:i+2<s.size
  ·have e2:=byt_extract (s:=s) (i:=i) (k:=2) h2
   rw [e2]
   have c2:(2<s.size-i)↔(i+2<s.size):=by omega
   simp only [c2]
   by_cases h3:i+3<s.size
   ·have e3:=byt_extract (s:=s) (i:=i) (k:=3) h3
    rw [e3]
    have c3:(3<s.size-i)↔(i+3<s.size):=by omega
    simp only [c3]
   ·have c3:¬ (3<s.size-i):=by omega
    simp only [h3,c3,false_and,and_false,if_false]
  ·have c2:¬ (2<s.size-i):=by omega
   simp only [h2,c2,false_and,and_false,if_false]
 ·have c1:¬ (1<s.size-i):=by omega
  simp only [h1,c1,false_and,and_false,if_false]
theorem decodeGo_extract {s:ByteArray}{i:Nat}(h:i<s.size):Lib.decodeGo (s.extract i s.size)=Utf8.decode s i:=by
 have hs:(s.extract i s.size).size=s.size-i:=by simp
 rw [Lib.decodeGo,if_neg (by omega),decode_extract h]
theorem sz_one {s:ByteArray}{p:Nat}(h:(szR s p).1=1):(szR s p).2<128:=by
 unfold szR at h ⊢
 by_cases c0:byt s p<128
 ·rw [if_pos c0];exact c0
 ·rw [if_neg c0] at h
  exfalso
  have key:∀ m low v,0<m→(szFin s p m low v).1≠1:=by
   intro m low v hm e
   obtain ⟨_,_,h3,_⟩:=szFin_spec (s:=s) (i:=p) (m:=m) (low:=low) (v:=v) (by omega)
   rw [h3] at e
   simp only at e
   omega
  split at h
  ·exact key _ _ _ (by omega) h
  ·split at h
   ·exact key _ _ _ (by omega) h
   ·split at h
    ·exact key _ _ _ (by omega) h
    ·cases h
theorem bad_s {G:GH}(hT:TabsG G) {s:ByteArray}(hs:s.size≤9223372036854775807):Con Tryz.prog 232 #[.string s] G [] (Just (.int .i64 (badR s s.size 0)) G):=by
 apply Con.just
 (refine v_enter Tryz.func232 rfl Tryz.ntmps232 rfl ?_;intro B _)
 repeat' (first|apply v_seq|apply v_region|apply v_nil|apply v_block|apply v_pure;(case hop=>first|apply p_move<;>rfl|apply p_assign<;>rfl|fail);(case hd=>rfl)|apply v_rangeS;(case hx|hd=>rfl);intro b|fail)
 refine v_loopI (ι:=Nat×Nat) [8,0] (fun x us G' μ'=>G'=G∧∃ b,us=[Value.pointer (some ⟨b,0,none⟩),.string s]∧μ'=[(b,.stringIter s x.1)]∧s.size≤x.1+x.2∧badR s s.size 0=badR s x.2 x.1) (fun x=>s.size-x.1) rfl (0,s.size) ⟨rfl,_,rfl,rfl,by simp,rfl⟩ ?_
 rintro ⟨p,n⟩ us G' μ' ⟨rfl,b,rfl,rfl,hn,he⟩
 simp only at hn he
 by_cases hp:p<s.size
 ·obtain ⟨m,rfl⟩:=fuel hp hn
  have hw:=decode_w s p hp
  have hd:=decode_of_sz s p hp
  have hd2:=decodeGo_extract hp
  have ep:((p:Nat):Int).toNat=p:=Int.toNat_natCast p
  have hcall:=decode_s hT (s.extract p s.size)
  rw [hd2] at hcall
  repeat' (first|apply v_seq|apply v_region|apply v_nil|apply v_skip|apply v_block|apply v_blk|apply v_exit;(case hp=>rfl)|apply v_pure;(case hop=>first|apply p_move<;>rfl|apply p_eq<;>rfl|apply p_ne<;>rfl|apply p_assign<;>rfl|apply p_extract0<;>rfl|apply p_extract1<;>rfl|apply p_extract2<;>rfl|apply p_sliceStrL;(case hx|hl=>rfl);all_goals omega|fail);(case hd=>rfl)|apply v_condT;(case hc=>rfl)|apply v_cond;(case hc=>rfl);all_goals (intro h;(try simp only [reduceCtorEq,zzz] at h))|apply v_nextS;(case hx=>rfl);(case hb=>repeat exact mhd _);(case hp=>assumption);(case hu=>exact Upd.here _ _);(case hd=>rfl)|apply v_callJ (hs:=hcall);(case ha|hd=>rfl)|fail)
  ·by_cases hz:(szR s p).1=0
   ·rw [if_pos hz] at hd
    simp only [hd] at h
    omega
   ·rw [if_neg hz] at hd
    refine v_againI (p+(szR s p).1,m) rfl ⟨rfl,b,rfl,by rw [hd],by simp only;rw [hd] at hw;simp only at hw;omega,?_⟩ (by simp only;rw [hd] at hw;simp only at hw;omega)
    rw [he,badR,if_pos hp,if_neg hz]
  ·refine v_ret [] (outsA1 rfl rfl) (by repeat (exact List.nil_sublist _)) ?_
   refine ⟨?_,rfl⟩
   have hz:(szR s p).1=0:=by
    apply Classical.byContradiction
    intro hz
    rw [if_neg hz] at hd
    rename_i h1
    rw [hd] at h h1
    simp only at h h1
    have:=sz_one (s:=s) (p:=p) (by omega)
    omega
   rw [he,badR,if_pos hp,if_pos hz]
  ·by_cases hz:(szR s p).1=0
   ·rw [if_pos hz] at hd
    rw [hd] at h
    simp at h
   ·rw [if_neg hz] at hd
    refine v_againI (p+(szR s p).1,m) rfl ⟨rfl,b,rfl,by rw [hd],by simp only;rw [hd] at hw;simp only at hw;omega,?_⟩ (by simp only;rw [hd] at hw;simp only at hw;omega)
    rw [he,badR,if_pos hp,if_neg hz]
 ·repeat' (first|apply v_seq|apply v_region|apply v_nil|apply v_exit;(case hp=>rfl)|apply v_pure;(case hop=>first|apply p_assign<;>rfl|apply p_extract0<;>rfl|fail);(case hd=>rfl)|apply v_condF;(case hc=>rfl)|apply v_read;(case hop=>(apply r_nextEnd;(case hx=>rfl);(case hb=>repeat exact mhd _);(case hp=>assumption)));(case hd=>rfl)|fail)
  refine v_ret [] (outsA1 rfl rfl) (by repeat (exact List.nil_sublist _)) ?_
  refine ⟨?_,rfl⟩
  rw [he,badR_end hp]
theorem whole_s {G:GH}(hT:TabsG G) {s:ByteArray}(hs:s.size≤9223372036854775807):Con Tryz.prog 217 #[.string s] G [] (Just (.bool (decide (badR s s.size 0<0))) G):=by
 (refine v_enter Tryz.func217 rfl Tryz.ntmps217 rfl ?_;intro B _)
 repeat' (first|apply v_seq|apply v_region|apply v_nil|apply v_pure;(case hop=>first|apply p_move<;>rfl|apply p_lt<;>rfl|apply p_assign<;>rfl);(case hd=>rfl)|apply v_callJ (hs:=bad_s ?o1 ?o2);(case ha=>rfl);(case o1=>exact hT);(case o2=>exact hs);(case hd=>rfl)|fail)
 refine v_ret [] (outsA1 rfl rfl) (by repeat (exact List.Sublist.refl _)) ?_
 exact ⟨by rw [dec_eq],rfl,rfl⟩
theorem plainR_s (G:GH) (r:Int):Con Tryz.prog 219 #[.int .i32 r] G [] (Just (.bool (decide (plainP r))) G):=by
 (refine v_enter Tryz.func219 rfl Tryz.ntmps219 rfl ?_;intro B _)
 repeat' (first|apply v_seq|apply v_region|apply v_nil|apply v_skip|apply v_block|apply v_blk|apply v_take;(case hg=>rfl)|apply v_pass;(case hg|hn|hd=>rfl)|apply v_pure;(case hop=>first|apply p_move<;>rfl|apply p_eq<;>rfl|apply p_ne<;>rfl|apply p_le<;>rfl|apply p_ge<;>rfl|apply p_assign<;>rfl|apply p_pickT<;>rfl|apply p_pickF<;>rfl|fail);(case hd=>rfl)|apply v_condF;(case hc=>rfl)|apply v_cond;(case hc=>rfl);all_goals (intro h;(try simp only [reduceCtorEq,zzz] at h);try (exfalso;omega))|apply v_guardB;(case h1|h2=>rfl);all_goals (intro h;(try simp only [reduceCtorEq,zzz] at h);try (exfalso;omega))|fail)
 all_goals
  (refine v_ret [] (outsA1 rfl rfl) (by repeat (exact List.Sublist.refl _)) ?_
   refine ⟨?_,rfl,rfl⟩
   first
    | rw [decide_eq_true (by unfold plainP;omega)]
    | rw [decide_eq_false (by unfold plainP;omega)]
    |(by_cases hr:r=65533
      ·rw [dec_pos hr,decide_eq_false (by unfold plainP;omega)];rfl
      ·rw [dec_neg hr,decide_eq_true (by unfold plainP;omega)];rfl))
theorem valR_s (G:GH) (r:Nat):Con Tryz.prog 220 #[.int .i32 (r:Int)] G [] (Just (.bool (decide (32≤r) && decide (r≠127))) G):=by
 (refine v_enter Tryz.func220 rfl Tryz.ntmps220 rfl ?_;intro B _)
 repeat' (first|apply v_seq|apply v_region|apply v_nil|apply v_take;(case hg=>rfl)|apply v_pass;(case hg|hn|hd=>rfl)|apply v_pure;(case hop=>first|apply p_move<;>rfl|apply p_ne<;>rfl|apply p_ge<;>rfl|apply p_assign<;>rfl|apply p_pickT<;>rfl|apply p_pickF<;>rfl|fail);(case hd=>rfl)|apply v_guardB;(case h1|h2=>rfl);all_goals (intro h;(try simp only [reduceCtorEq,zzz] at h))|fail)
 all_goals
  (refine v_ret [] (outsA1 rfl rfl) (by repeat (exact List.Sublist.refl _)) ?_
   refine ⟨?_,rfl,rfl⟩
   by_cases h2:r=127
   ·first
     | rw [dec_pos (show (r:Int)=127 by omega),decide_eq_false (p:=r≠127) (by omega),Bool.and_false];rfl
     | rw [decide_eq_false (p:=r≠127) (by omega),Bool.and_false]
   ·first
     | rw [dec_neg (show ¬ (r:Int)=127 by omega),decide_eq_true (p:=r≠127) (by omega),decide_eq_true (p:=32≤r) (by omega)];rfl
     | rw [decide_eq_false (p:=32≤r) (by omega),Bool.false_and])
theorem all_s {G:GH}{s:ByteArray}(hs:s.size≤9223372036854775807) (fid:FuncId) [Callable Tryz.prog fid] (f:Nat→Bool) (hf:∀ (r:Nat),Con Tryz.prog fid #[.int .i32 (r:Int)] G [] (Just (.bool (f r)) G)) :
 Con Tryz.prog 218 #[.string s,.func (.func fid) #[] #[]] G [] (Just (.bool (allF f s s.size 0)) G):=by
 apply Con.just
 (refine v_enter Tryz.func218 rfl Tryz.ntmps218 rfl ?_;intro B _)
 repeat' (first|apply v_seq|apply v_region|apply v_nil|apply v_block|apply v_pure;(case hop=>first|apply p_move<;>rfl|apply p_assign<;>rfl|fail);(case hd=>rfl)|apply v_rangeS;(case hx|hd=>rfl);intro b|fail)
 refine v_loopI (ι:=Nat×Nat) [8,1] (fun x us G' μ'=>G'=G∧∃ b,us=[Value.pointer (some ⟨b,0,none⟩),.func (.func fid) #[] #[]]∧μ'=[(b,.stringIter s x.1)]∧s.size≤x.1+x.2∧allF f s s.size 0=allF f s x.2 x.1) (fun x=>s.size-x.1) rfl (0,s.size) ⟨rfl,_,rfl,rfl,by simp,rfl⟩ ?_
 rintro ⟨p,n⟩ us G' μ' ⟨rfl,b,rfl,rfl,hn,he⟩
 simp only at hn he
 by_cases hp:p<s.size
 ·obtain ⟨m,rfl⟩:=fuel hp hn
  have hw:=decode_w s p hp
  repeat' (first|apply v_seq|apply v_region|apply v_nil|apply v_skip|apply v_block|apply v_blk|apply v_pure;(case hop=>first|apply p_move<;>rfl|apply p_assign<;>rfl|apply p_not<;>rfl|apply p_extract0<;>rfl|apply p_extract2<;>rfl|fail);(case hd=>rfl)|apply v_condT;(case hc=>rfl)|apply v_cond;(case hc=>rfl);all_goals (intro h;(try simp only [reduceCtorEq,zzz] at h))|apply v_nextS;(case hx=>rfl);(case hb=>repeat exact mhd _);(case hp=>assumption);(case hu=>exact Upd.here _ _);(case hd=>rfl)|apply v_callFJ0 (hs:=hf (Utf8.decode s p).1);(case hx|ha|hd=>rfl)|fail)
  ·refine v_ret [] (outsA1 rfl rfl) (by repeat (exact List.nil_sublist _)) ?_
   refine ⟨?_,rfl⟩
   rw [he,allF,if_pos hp,if_neg (by rw [h];simp)]
  ·refine v_againI (p+(Utf8.decode s p).2,m) rfl ⟨rfl,b,rfl,rfl,by simp only;omega,?_⟩ (by simp only;omega)
   rw [he,allF,if_pos hp,if_pos (by assumption)]
 ·repeat' (first|apply v_seq|apply v_region|apply v_nil|apply v_exit;(case hp=>rfl)|apply v_pure;(case hop=>first|apply p_assign<;>rfl|apply p_extract0<;>rfl|fail);(case hd=>rfl)|apply v_condF;(case hc=>rfl)|apply v_read;(case hop=>(apply r_nextEnd;(case hx=>rfl);(case hb=>repeat exact mhd _);(case hp=>assumption)));(case hd=>rfl)|fail)
  refine v_ret [] (outsA1 rfl rfl) (by repeat (exact List.nil_sublist _)) ?_
  refine ⟨?_,rfl⟩
  rw [he,allF_end hp]
theorem key_s {G:GH}(hT:TabsG G) {s:ByteArray}(hs:s.size≤9223372036854775807):Con Tryz.prog 188 #[.string s] G [] (Just (.bool (keyB s)) G):=by
 have hall:=all_s (G:=G) hs 219 (fun r=>decide (plainP (r:Int))) (fun r=>plainR_s G r)
 have hk:=allF_plain s s.size 0 (by omega)
 (refine v_enter Tryz.func188 rfl Tryz.ntmps188 rfl ?_;intro B _)
 repeat' (first|apply v_seq|apply v_region|apply v_nil|apply v_take;(case hg=>rfl)|apply v_pass;(case hg|hn|hd=>rfl)|apply v_pure;(case hop=>first|apply p_move<;>rfl|apply p_le<;>rfl|apply p_assign<;>rfl|apply p_pickT<;>rfl|apply p_pickF<;>rfl|apply p_lenString<;>rfl|apply p_neS<;>rfl|fail);(case hd=>rfl)|apply v_guardB;(case h1|h2=>rfl);all_goals (intro h;(try simp only [reduceCtorEq,zzz] at h))|apply v_callJ (hs:=whole_s hT hs);(case ha|hd=>rfl)|apply v_callJ (hs:=hall);(case ha|hd=>rfl)|fail)
 ·refine v_ret [] (outsA1 rfl rfl) (by repeat (exact List.Sublist.refl _)) ?_
  refine ⟨?_,rfl,rfl⟩
  have h0:1≤s.size:=by
   apply Classical.byContradiction
   intro h0
   have:s=ByteArray.empty:=by
    apply ByteArray.ext
    apply Array.eq_empty_of_size_eq_zero
    show s.size=0
    omega
   exact absurd this (by assumption)
  rw [keyB,← hk,decide_eq_true h0,decide_eq_true (by omega),decide_eq_true (by assumption)];rfl
 ·refine v_ret [] (outsA1 rfl rfl) (by repeat (exact List.Sublist.refl _)) ?_
  refine ⟨?_,rfl,rfl⟩
  rw [keyB,← hk,decide_eq_false (p:=badR s s.size 0<0) (by assumption),Bool.false_and,Bool.and_false]
 ·refine v_ret [] (outsA1 rfl rfl) (by repeat (exact List.Sublist.refl _)) ?_
  refine ⟨?_,rfl,rfl⟩
  rw [keyB,decide_eq_false (p:=s.size≤24) (by omega),Bool.and_false,Bool.false_and]
 ·refine v_ret [] (outsA1 rfl rfl) (by repeat (exact List.Sublist.refl _)) ?_
  refine ⟨?_,rfl,rfl⟩
  have h0:s.size=0:=by rw [h];rfl
  rw [keyB,decide_eq_false (p:=1≤s.size) (by omega),Bool.false_and,Bool.false_and]
theorem val_s {G:GH}(hT:TabsG G) {s:ByteArray}(hs:s.size≤9223372036854775807):Con Tryz.prog 190 #[.string s] G [] (Just (.bool (valB s)) G):=by
 have hall:=all_s (G:=G) hs 220 (fun r=>decide (32≤r) && decide (r≠127)) (fun r=>valR_s G r)
 have hv:=allF_val s s.size 0 (by omega)
 (refine v_enter Tryz.func190 rfl Tryz.ntmps190 rfl ?_;intro B _)
 repeat' (first|apply v_seq|apply v_region|apply v_nil|apply v_take;(case hg=>rfl)|apply v_pass;(case hg|hn|hd=>rfl)|apply v_pure;(case hop=>first|apply p_move<;>rfl|apply p_le<;>rfl|apply p_assign<;>rfl|apply p_pickT<;>rfl|apply p_pickF<;>rfl|apply p_lenString<;>rfl|fail);(case hd=>rfl)|apply v_guardB;(case h1|h2=>rfl);all_goals (intro h;(try simp only [reduceCtorEq,zzz] at h))|apply v_callJ (hs:=whole_s hT hs);(case ha|hd=>rfl)|apply v_callJ (hs:=hall);(case ha|hd=>rfl)|fail)
 ·refine v_ret [] (outsA1 rfl rfl) (by repeat (exact List.Sublist.refl _)) ?_
  refine ⟨?_,rfl,rfl⟩
  have hv':=hv (by assumption)
  have e:allF (fun r=>decide (32≤r) && decide (r≠127)) s s.size 0=decide (okBytes s):=by
   rw [Bool.eq_iff_iff,hv',decide_eq_true_iff]
   exact ⟨fun h i hi=>h i (by omega) hi,fun h i _ hi=>h i hi⟩
  rw [valB,e,decide_eq_true (p:=s.size≤48) (by omega),decide_eq_true (p:=badR s s.size 0<0) (by assumption)];rfl
 ·refine v_ret [] (outsA1 rfl rfl) (by repeat (exact List.Sublist.refl _)) ?_
  refine ⟨?_,rfl,rfl⟩
  rw [valB,decide_eq_false (p:=badR s s.size 0<0) (by assumption),Bool.and_false,Bool.false_and]
 ·refine v_ret [] (outsA1 rfl rfl) (by repeat (exact List.Sublist.refl _)) ?_
  refine ⟨?_,rfl,rfl⟩
  rw [valB,decide_eq_false (p:=s.size≤48) (by omega),Bool.false_and,Bool.false_and]
structure Cm where
 kind:Int
 client:Int
 seq:Int
 key:ByteArray
 val:ByteArray
 old:ByteArray
 node:Int
def Cm.cells (c:Cm):List Value:=[.int .i64 c.kind,.int .i64 c.client,.int .i64 c.seq,.string c.key,.string c.val,.string c.old,.int .i64 c.node]
def Cm.ok (c:Cm):Prop:=(Lit.int .i64 c.kind).wf=true∧(Lit.int .i64 c.client).wf=true∧(Lit.int .i64 c.seq).wf=true∧c.key.size≤maxLen∧c.val.size≤maxLen∧c.old.size≤maxLen∧(Lit.int .i64 c.node).wf=true
def cmdFields (kind:Int):Int×Bool :=
 if kind=1∨kind=6 then (0,true) else if kind=2 then (11,true) else if kind=3∨kind=4 then (3,true) else if kind=5 then (15,true) else if kind=7∨kind=8 then (16,true) else (0,false)
theorem fields_s (G:GH) (kind:Int):Con Tryz.prog 162 #[.int .i64 kind] G [] (Just (.tuple [.int .i64 (cmdFields kind).1,.bool (cmdFields kind).2].toArray) G):=by
 (refine v_enter Tryz.func162 rfl Tryz.ntmps162 rfl ?_;intro B _)
 repeat' (first|apply v_seq|apply v_region|apply v_nil|apply v_skip|apply v_block|apply v_blk|apply v_pure;(case hop=>first|apply p_move<;>rfl|apply p_eq<;>rfl|apply p_assign<;>rfl|fail);(case hd=>rfl)|apply v_cond;(case hc=>rfl);all_goals (intro h;(try simp only [reduceCtorEq,zzz] at h);try (exfalso;omega))|fail)
 all_goals
  (refine v_ret [] (outsA2 rfl rfl rfl) (by repeat (exact List.Sublist.refl _)) ?_
   refine ⟨?_,rfl,rfl⟩
   unfold cmdFields
   (repeat' split)<;>first|rfl|(exfalso;omega))
def partFn (f:FuncId):Value:=.func (.func f) #[] #[]
def partL:Nat→List Value
 | 0 => [.int .i64 1,.int .i64 8,.nilFunc,partFn 186]
 | 1 => [.int .i64 1,.int .i64 4294967296,.nilFunc,partFn 187]
 | 2 => [.int .i64 2,.int .i64 0,partFn 188,partFn 189]
 | 3 => [.int .i64 4,.int .i64 0,partFn 190,partFn 191]
 | 4 => [.int .i64 8,.int .i64 0,partFn 190,partFn 192]
 | _ => [.int .i64 16,.int .i64 9,.nilFunc,partFn 193]
def partsL:List Value:=partL 0++(partL 1++(partL 2++(partL 3++(partL 4++partL 5))))
theorem parts_s (G:GH):Con Tryz.prog 163 #[] G [] (fun r G' μ'=>G'=G∧∃ b,r=.slice (some ⟨b,0,none⟩) 6 6∧μ'=[(b,.cells partsL.toArray 197 (0,0))]):=by
 (refine v_enter Tryz.func163 rfl Tryz.ntmps163 rfl ?_;intro B _)
 repeat' (first|apply v_seq|apply v_region|apply v_nil|apply v_pure;(case hop=>first|apply p_assign<;>rfl|apply p_build;(case hz=>rfl);(case hv=>(simp only [List.map_cons,List.map_nil];repeat (first|with_reducible exact evs_nil|apply evs_cons;(case h1=>rfl))));(case hb=>(apply bldL;repeat (first|exact bld_nil|apply bld_cons;(case hpf|hc|hs|hl=>rfl);(case ho=>((repeat (first|with_reducible exact ov_nil|apply ov_cons));done))))));(case hd=>rfl)|apply v_buildSlice;(case hz|hi=>rfl);(case hv=>(simp only [List.map_cons,List.map_nil];repeat (first|with_reducible exact evs_nil|apply evs_cons;(case h1=>rfl))));(case hp=>(apply pk_cons;(case hc|hs=>rfl);(case h=>(apply pk_cons;(case hc|hs=>rfl);(case h=>(apply pk_cons;(case hc|hs=>rfl);(case h=>(apply pk_cons;(case hc|hs=>rfl);(case h=>(apply pk_cons;(case hc|hs=>rfl);(case h=>(apply pk_cons;(case hc|hs=>rfl);(case h=>(with_reducible exact pk_nil));(case he=>((repeat (first|with_reducible exact ap_nil|apply ap_cons));done))));(case he=>((repeat (first|with_reducible exact ap_nil|apply ap_cons));done))));(case he=>((repeat (first|with_reducible exact ap_nil|apply ap_cons));done))));(case he=>((repeat (first|with_reducible exact ap_nil|apply ap_cons));done))));(case he=>(first|((repeat (first|with_reducible exact ap_nil|apply ap_cons));done)|fail))));(case he=>(first|((repeat (first|with_reducible exact ap_nil|apply ap_cons));done)|fail))));(case hb|hd=>rfl);intro b|fail)
 refine v_ret [(b,_)] (outsA1 rfl rfl) (by repeat (exact List.Sublist.refl _)) ?_
 exact ⟨rfl,_,rfl,rfl⟩
theorem at1_s (G:GH) (b:Nat):Con Tryz.prog 186 #[.pointer (some ⟨b,0,none⟩)] G [] (Just (.iface 218 (.pointer (some ⟨b,0+1,none⟩))) G):=by
 (refine v_enter Tryz.func186 rfl Tryz.ntmps186 rfl ?_;intro B _)
 repeat' (first|apply v_seq|apply v_region|apply v_nil|apply v_pure;(case hop=>first|apply p_move<;>rfl|apply p_assign<;>rfl|apply p_fieldAddrB<;>rfl|apply p_nilCheck<;>rfl|apply p_iface<;>rfl);(case hd=>rfl)|fail)
 refine v_ret [] (outsA1 rfl rfl) (by repeat (exact List.Sublist.refl _)) ?_
 exact ⟨rfl,rfl,rfl⟩
theorem at2_s (G:GH) (b:Nat):Con Tryz.prog 187 #[.pointer (some ⟨b,0,none⟩)] G [] (Just (.iface 218 (.pointer (some ⟨b,0+2,none⟩))) G):=by
 (refine v_enter Tryz.func187 rfl Tryz.ntmps187 rfl ?_;intro B _)
 repeat' (first|apply v_seq|apply v_region|apply v_nil|apply v_pure;(case hop=>first|apply p_move<;>rfl|apply p_assign<;>rfl|apply p_fieldAddrB<;>rfl|apply p_nilCheck<;>rfl|apply p_iface<;>rfl);(case hd=>rfl)|fail)
 refine v_ret [] (outsA1 rfl rfl) (by repeat (exact List.Sublist.refl _)) ?_
 exact ⟨rfl,rfl,rfl⟩
theorem at3_s (G:GH) (b:Nat):Con Tryz.prog 189 #[.pointer (some ⟨b,0,none⟩)] G [] (Just (.iface 219 (.pointer (some ⟨b,0+3,none⟩))) G):=by
 (refine v_enter Tryz.func189 rfl Tryz.ntmps189 rfl ?_;intro B _)
 repeat' (first|apply v_seq|apply v_region|apply v_nil|apply v_pure;(case hop=>first|apply p_move<;>rfl|apply p_assign<;>rfl|apply p_fieldAddrB<;>rfl|apply p_nilCheck<;>rfl|apply p_iface<;>rfl);(case hd=>rfl)|fail)
 refine v_ret [] (outsA1 rfl rfl) (by repeat (exact List.Sublist.refl _)) ?_
 exact ⟨rfl,rfl,rfl⟩
theorem at4_s (G:GH) (b:Nat):Con Tryz.prog 191 #[.pointer (some ⟨b,0,none⟩)] G [] (Just (.iface 219 (.pointer (some ⟨b,0+5,none⟩))) G):=by
 (refine v_enter Tryz.func191 rfl Tryz.ntmps191 rfl ?_;intro B _)
 repeat' (first|apply v_seq|apply v_region|apply v_nil|apply v_pure;(case hop=>first|apply p_move<;>rfl|apply p_assign<;>rfl|apply p_fieldAddrB<;>rfl|apply p_nilCheck<;>rfl|apply p_iface<;>rfl);(case hd=>rfl)|fail)
 refine v_ret [] (outsA1 rfl rfl) (by repeat (exact List.Sublist.refl _)) ?_
 exact ⟨rfl,rfl,rfl⟩
theorem at5_s (G:GH) (b:Nat):Con Tryz.prog 192 #[.pointer (some ⟨b,0,none⟩)] G [] (Just (.iface 219 (.pointer (some ⟨b,0+4,none⟩))) G):=by
 (refine v_enter Tryz.func192 rfl Tryz.ntmps192 rfl ?_;intro B _)
 repeat' (first|apply v_seq|apply v_region|apply v_nil|apply v_pure;(case hop=>first|apply p_move<;>rfl|apply p_assign<;>rfl|apply p_fieldAddrB<;>rfl|apply p_nilCheck<;>rfl|apply p_iface<;>rfl);(case hd=>rfl)|fail)
 refine v_ret [] (outsA1 rfl rfl) (by repeat (exact List.Sublist.refl _)) ?_
 exact ⟨rfl,rfl,rfl⟩
theorem at6_s (G:GH) (b:Nat):Con Tryz.prog 193 #[.pointer (some ⟨b,0,none⟩)] G [] (Just (.iface 218 (.pointer (some ⟨b,0+6,none⟩))) G):=by
 (refine v_enter Tryz.func193 rfl Tryz.ntmps193 rfl ?_;intro B _)
 repeat' (first|apply v_seq|apply v_region|apply v_nil|apply v_pure;(case hop=>first|apply p_move<;>rfl|apply p_assign<;>rfl|apply p_fieldAddrB<;>rfl|apply p_nilCheck<;>rfl|apply p_iface<;>rfl);(case hd=>rfl)|fail)
 refine v_ret [] (outsA1 rfl rfl) (by repeat (exact List.Sublist.refl _)) ?_
 exact ⟨rfl,rfl,rfl⟩
def hasOf:Nat→Int
 | 0=>1
 | 1=>1
 | 2=>2
 | 3=>4
 | 4=>8
 | _=>16
def mostOf:Nat→Int
 | 0=>8
 | 1=>4294967296
 | _=>9
def Cm.num (c:Cm):Nat→Int
 | 0=>c.client
 | 1=>c.seq
 | _=>c.node
def Cm.txt (c:Cm):Nat→ByteArray
 | 2=>c.key
 | 3=>c.old
 | _=>c.val
noncomputable def isTxt:Nat→ByteArray→Bool
 | 2=>keyB
 | _=>valB
def isNum (j:Nat):Bool:=j == 0 || j == 1 || j == 5
def numR (c:Cm) (f:Int) (j:Nat):Bool:=if isNum j then (if band f (hasOf j)=0 then true else decide (1≤c.num j∧c.num j≤mostOf j)) else true
def numF (c:Cm) (f:Int) (j:Nat):Bool:=if isNum j then (if band f (hasOf j)=0 then decide (c.num j=0) else true) else true
noncomputable def txtT (c:Cm) (f:Int) (j:Nat):Bool:=if isNum j then true else (if band f (hasOf j)=0 then true else isTxt j (c.txt j))
def txtF (c:Cm) (f:Int) (j:Nat):Bool:=if isNum j then true else (if band f (hasOf j)=0 then decide ((c.txt j).size=0) else true)
theorem dec_nil {s:ByteArray}:dec (s={ data:=#[] })=decide (s.size=0):=by
 rw [dec_eq]
 rw [decide_eq_decide]
 constructor
 ·intro h;rw [h];rfl
 ·intro h
  apply ByteArray.ext
  exact Array.eq_empty_of_size_eq_zero h
theorem number_s (G:GH) (c:Cm) (f:Int) (cb j:Nat) (hj:j<6):Con Tryz.prog 164 #[.agg (partL j).toArray,.pointer (some ⟨cb,0,none⟩),.int .i64 f] G [(cb,.cells c.cells.toArray 40 (0,0))]
 (Keeps (.tuple [.bool (numR c f j),.bool (numF c f j)].toArray) G [(cb,.cells c.cells.toArray 40 (0,0))]):=by
 apply Con.keeps
 unfold Cm.cells
 (refine v_enter Tryz.func164 rfl Tryz.ntmps164 rfl ?_;intro B _)
 obtain rfl|rfl|rfl|rfl|rfl|rfl:j=0∨j=1∨j=2∨j=3∨j=4∨j=5:=by omega
 all_goals
  repeat' (first|apply v_seq|apply v_region|apply v_nil|apply v_skip|apply v_pure;(case hop=>first|apply p_move<;>rfl|apply p_eq<;>rfl|apply p_assign<;>rfl|apply p_not<;>rfl|apply p_fieldAddrB<;>rfl|apply p_extract0<;>rfl|apply p_extract1<;>rfl|apply p_assertOk<;>rfl|apply p_assertNo<;>rfl|apply p_and64<;>rfl|fail);(case hd=>rfl)|apply v_condT;(case hc=>rfl)|apply v_condF;(case hc=>rfl)|apply v_cond;(case hc=>rfl);all_goals (intro h;(try simp only [reduceCtorEq,zzz] at h))|apply v_callFJ0 (hs:=at1_s _ cb);(case hx|ha|hd=>rfl)|apply v_callFJ0 (hs:=at2_s _ cb);(case hx|ha|hd=>rfl)|apply v_callFJ0 (hs:=at3_s _ cb);(case hx|ha|hd=>rfl)|apply v_callFJ0 (hs:=at4_s _ cb);(case hx|ha|hd=>rfl)|apply v_callFJ0 (hs:=at5_s _ cb);(case hx|ha|hd=>rfl)|apply v_callFJ0 (hs:=at6_s _ cb);(case hx|ha|hd=>rfl)|apply v_read;(case hop=>(apply r_load1;rfl;(apply Cell.own;(case h=>repeat exact mhd _);rfl)));(case hd=>rfl)|apply v_box;(case hx|hz|hd=>rfl);intro b|fail)
 all_goals try
  (refine v_ret [(cb,_)] (outsA2 rfl rfl rfl) (by repeat (first|exact List.Sublist.refl _|apply List.Sublist.cons)) ?_
   exact ⟨rfl,rfl⟩)
 all_goals try
  (refine d_start _ (by kernel_rfl) (by kernel_rfl) (by kernel_rfl) (fun _ he=>he) ?_
   all_goals (apply dtm 0;(case hi|hx=>rfl);(case hq=>kernel_rfl);apply dtn 1;(case hi|hx=>rfl);(case hq=>kernel_rfl))
   all_goals (apply dtk 2;(case hi=>rfl);(case hop=>first|apply r_loadNo;(case hx=>rfl);(case h=>repeat fail);(case hd=>repeat fail);(case hn=>rfl)|apply r_load1;rfl;(apply Cell.own;(case h=>repeat first|exact mhd _|apply mtl);rfl)|apply r_loadN;rfl;(apply CellsAt.own;(case h=>repeat fail));rfl);(case hq=>kernel_rfl);apply dtk 3;(case hi=>rfl);(case hop=>(apply prd;apply p_eq<;>rfl));(case hq=>kernel_rfl))
   all_goals (apply dta 4;(case hi|hx=>rfl);(case hq=>kernel_rfl);apply dta 5;(case hi|hx=>rfl);(case hq=>kernel_rfl))
   all_goals (apply d_done;(case hr=>kernel_rfl))
   refine v_ret [(cb,_)] (outsA2 rfl rfl rfl) (by repeat (first|exact List.Sublist.refl _|apply List.Sublist.cons)) ?_
   refine ⟨?_,rfl⟩
   simp [numR,numF,isNum,hasOf,Cm.num,dec_eq, *])
 all_goals
  (refine d_start _ (by kernel_rfl) (by kernel_rfl) (by kernel_rfl) (fun _ he=>he) ?_
   all_goals (apply dtm 0;(case hi|hx=>rfl);(case hq=>kernel_rfl);apply dtn 1;(case hi|hx=>rfl);(case hq=>kernel_rfl))
   all_goals (apply dtk 2;(case hi=>rfl);(case hop=>first|apply r_loadNo;(case hx=>rfl);(case h=>repeat fail);(case hd=>repeat fail);(case hn=>rfl)|apply r_load1;rfl;(apply Cell.own;(case h=>repeat first|exact mhd _|apply mtl);rfl)|apply r_loadN;rfl;(apply CellsAt.own;(case h=>repeat fail));rfl);(case hq=>kernel_rfl);apply dtk 3;(case hi=>rfl);(case hop=>(apply prd;apply p_ge<;>rfl));(case hq=>kernel_rfl))
   all_goals (apply dtm 4;(case hi|hx=>rfl);(case hq=>kernel_rfl))
   all_goals (try (apply d_guardB 5;(case hi|hgd|h1|h2=>rfl);all_goals (intro h;(try simp only [reduceCtorEq,zzz] at h))))
   all_goals (first|apply dpa 5;(case hi|hg|hn=>rfl);(case hq=>kernel_rfl)|apply dtg 5;(case hi|hg=>rfl);(case hop=>(apply prd;apply p_move<;>rfl));(case hq=>kernel_rfl)|fail)
   all_goals (try (apply d_guardB 6;(case hi|hgd|h1|h2=>rfl);all_goals (intro h;(try simp only [reduceCtorEq,zzz] at h))))
   all_goals (first|apply dpa 6;(case hi|hg|hn=>rfl);(case hq=>kernel_rfl)|apply dtg 6;(case hi|hg=>rfl);(case hop=>(apply prd;apply p_nilCheck<;>rfl));(case hq=>kernel_rfl)|fail)
   all_goals (try (apply d_guardB 7;(case hi|hgd|h1|h2=>rfl);all_goals (intro h;(try simp only [reduceCtorEq,zzz] at h))))
   all_goals (first|apply dpa 7;(case hi|hg|hn=>rfl);(case hq=>kernel_rfl)|apply dtg 7;(case hi|hg=>rfl);(case hop=>first|apply r_loadNo;(case hx=>rfl);(case h=>repeat fail);(case hd=>repeat fail);(case hn=>rfl)|apply r_load1;rfl;(apply Cell.own;(case h=>repeat first|exact mhd _|apply mtl);rfl)|apply r_loadN;rfl;(apply CellsAt.own;(case h=>repeat fail));rfl);(case hq=>kernel_rfl)|fail)
   all_goals (try (apply d_guardB 8;(case hi|hgd|h1|h2=>rfl);all_goals (intro h;(try simp only [reduceCtorEq,zzz] at h))))
   all_goals (first|apply dpa 8;(case hi|hg|hn=>rfl);(case hq=>kernel_rfl)|apply dtg 8;(case hi|hg=>rfl);(case hop=>(apply prd;apply p_fieldAddrB<;>rfl));(case hq=>kernel_rfl)|fail)
   all_goals (try (apply d_guardB 9;(case hi|hgd|h1|h2=>rfl);all_goals (intro h;(try simp only [reduceCtorEq,zzz] at h))))
   all_goals (first|apply dpa 9;(case hi|hg|hn=>rfl);(case hq=>kernel_rfl)|apply dtg 9;(case hi|hg=>rfl);(case hop=>first|apply r_loadNo;(case hx=>rfl);(case h=>repeat fail);(case hd=>repeat fail);(case hn=>rfl)|apply r_load1;rfl;(apply Cell.own;(case h=>repeat exact mhd _);rfl)|apply r_loadN;rfl;(apply CellsAt.own;(case h=>repeat fail));rfl);(case hq=>kernel_rfl)|fail)
   all_goals (try (apply d_guardB 10;(case hi|hgd|h1|h2=>rfl);all_goals (intro h;(try simp only [reduceCtorEq,zzz] at h))))
   all_goals (first|apply dpa 10;(case hi|hg|hn=>rfl);(case hq=>kernel_rfl)|apply dtg 10;(case hi|hg=>rfl);(case hop=>(apply prd;apply p_le<;>rfl));(case hq=>kernel_rfl)|fail)
   all_goals (apply dtk 11;(case hi=>rfl);(case hop=>first|apply prd;apply p_pickT<;>rfl|apply prd;apply p_pickF<;>rfl|fail);(case hq=>kernel_rfl);apply dta 12;(case hi|hx=>rfl);(case hq=>kernel_rfl))
   all_goals (apply dta 13;(case hi|hx=>rfl);(case hq=>kernel_rfl))
   all_goals (apply d_done;(case hr=>kernel_rfl))
   all_goals
    (refine v_ret [(cb,_)] (outsA2 rfl rfl rfl) (by repeat (first|exact List.Sublist.refl _|apply List.Sublist.cons)) ?_
     refine ⟨?_,rfl⟩
     simp [numR,numF,isNum,hasOf,mostOf,Cm.num,dec_eq, *]))
theorem text_s {G:GH}(hT:TabsG G) (c:Cm) (hk:c.key.size≤maxLen) (hv:c.val.size≤maxLen) (ho:c.old.size≤maxLen) (f:Int) (cb j:Nat) (hj:j<6):Con Tryz.prog 165 #[.agg (partL j).toArray,.pointer (some ⟨cb,0,none⟩),.int .i64 f] G [(cb,.cells c.cells.toArray 40 (0,0))]
 (Keeps (.tuple [.bool (txtT c f j),.bool (txtF c f j)].toArray) G [(cb,.cells c.cells.toArray 40 (0,0))]):=by
 apply Con.keeps
 unfold Cm.cells
 simp only [maxLen] at hk hv ho
 (refine v_enter Tryz.func165 rfl Tryz.ntmps165 rfl ?_;intro B _)
 obtain rfl|rfl|rfl|rfl|rfl|rfl:j=0∨j=1∨j=2∨j=3∨j=4∨j=5:=by omega
 all_goals
  repeat' (first|apply v_seq|apply v_region|apply v_nil|apply v_skip|apply v_pure;(case hop=>first|apply p_move<;>rfl|apply p_eq<;>rfl|apply p_assign<;>rfl|apply p_not<;>rfl|apply p_fieldAddrB<;>rfl|apply p_extract0<;>rfl|apply p_extract1<;>rfl|apply p_assertOk<;>rfl|apply p_assertNo<;>rfl|apply p_and64<;>rfl|fail);(case hd=>rfl)|apply v_condT;(case hc=>rfl)|apply v_condF;(case hc=>rfl)|apply v_cond;(case hc=>rfl);all_goals (intro h;(try simp only [reduceCtorEq,zzz] at h))|apply v_callFJ0 (hs:=at1_s _ cb);(case hx|ha|hd=>rfl)|apply v_callFJ0 (hs:=at2_s _ cb);(case hx|ha|hd=>rfl)|apply v_callFJ0 (hs:=at3_s _ cb);(case hx|ha|hd=>rfl)|apply v_callFJ0 (hs:=at4_s _ cb);(case hx|ha|hd=>rfl)|apply v_callFJ0 (hs:=at5_s _ cb);(case hx|ha|hd=>rfl)|apply v_callFJ0 (hs:=at6_s _ cb);(case hx|ha|hd=>rfl)|apply v_read;(case hop=>(apply r_load1;rfl;(apply Cell.own;(case h=>repeat exact mhd _);rfl)));(case hd=>rfl)|apply v_box;(case hx|hz|hd=>rfl);intro b|fail)
 all_goals try
  (refine v_ret [(cb,_)] (outsA2 rfl rfl rfl) (by repeat (first|exact List.Sublist.refl _|apply List.Sublist.cons)) ?_
   exact ⟨rfl,rfl⟩)
 all_goals try
  (refine d_start _ (by kernel_rfl) (by kernel_rfl) (by kernel_rfl) (fun _ he=>he) ?_
   all_goals (apply dtm 0;(case hi|hx=>rfl);(case hq=>kernel_rfl);apply dtn 1;(case hi|hx=>rfl);(case hq=>kernel_rfl))
   all_goals (apply dtk 2;(case hi=>rfl);(case hop=>first|apply r_loadNo;(case hx=>rfl);(case h=>repeat fail);(case hd=>repeat fail);(case hn=>rfl)|apply r_load1;rfl;(apply Cell.own;(case h=>repeat first|exact mhd _|apply mtl);rfl)|apply r_loadN;rfl;(apply CellsAt.own;(case h=>repeat fail));rfl);(case hq=>kernel_rfl);apply dtk 3;(case hi=>rfl);(case hop=>(apply prd;apply p_eqS<;>rfl));(case hq=>kernel_rfl))
   all_goals (apply dta 4;(case hi|hx=>rfl);(case hq=>kernel_rfl);apply dta 5;(case hi|hx=>rfl);(case hq=>kernel_rfl))
   all_goals (apply d_done;(case hr=>kernel_rfl))
   refine v_ret [(cb,_)] (outsA2 rfl rfl rfl) (by repeat (first|exact List.Sublist.refl _|apply List.Sublist.cons)) ?_
   refine ⟨?_,rfl⟩
   simp [txtT,txtF,isNum,hasOf,Cm.txt,dec_nil, *])
 all_goals
  (refine d_start _ (by kernel_rfl) (by kernel_rfl) (by kernel_rfl) (fun _ he=>he) ?_
   all_goals (apply dtk 0;(case hi=>rfl);(case hop=>(apply prd;apply p_fieldAddrB<;>rfl));(case hq=>kernel_rfl);apply dtk 1;(case hi=>rfl);(case hop=>first|apply r_loadNo;(case hx=>rfl);(case h=>repeat fail);(case hd=>repeat fail);(case hn=>rfl)|apply r_load1;rfl;(apply Cell.own;(case h=>repeat exact mhd _);rfl)|apply r_loadN;rfl;(apply CellsAt.own;(case h=>repeat fail));rfl);(case hq=>kernel_rfl))
   all_goals (apply dtm 2;(case hi|hx=>rfl);(case hq=>kernel_rfl);apply dtn 3;(case hi|hx=>rfl);(case hq=>kernel_rfl))
   all_goals (apply dtk 4;(case hi=>rfl);(case hop=>first|apply r_loadNo;(case hx=>rfl);(case h=>repeat fail);(case hd=>repeat fail);(case hn=>rfl)|apply r_load1;rfl;(apply Cell.own;(case h=>repeat first|exact mhd _|apply mtl);rfl)|apply r_loadN;rfl;(apply CellsAt.own;(case h=>repeat fail));rfl);(case hq=>kernel_rfl))
   all_goals (first|apply d_callJ0 5 (hs:=(key_s (s:=c.key) hT (by omega)));(case hi=>rfl);(case hr=>kernel_rfl);(case hx|ha|hd=>rfl)|apply d_callJ0 5 (hs:=(val_s (s:=c.old) hT (by omega)));(case hi=>rfl);(case hr=>kernel_rfl);(case hx|ha|hd=>rfl)|apply d_callJ0 5 (hs:=(val_s (s:=c.val) hT (by omega)));(case hi=>rfl);(case hr=>kernel_rfl);(case hx|ha|hd=>rfl)|fail)
   all_goals (apply dta 6;(case hi|hx=>rfl);(case hq=>kernel_rfl);apply dta 7;(case hi|hx=>rfl);(case hq=>kernel_rfl))
   all_goals (apply d_done;(case hr=>kernel_rfl))
   all_goals
    (refine v_ret [(cb,_)] (outsA2 rfl rfl rfl) (by repeat (first|exact List.Sublist.refl _|apply List.Sublist.cons)) ?_
     refine ⟨?_,rfl⟩
     simp [txtT,txtF,isNum,hasOf,isTxt,Cm.txt,dec_nil, *]))
def allB (g:Nat→Bool):Nat→Bool
 | 0=>true
 | k+1=>allB g k && g k
def allB2 (g h:Nat→Bool):Nat→Bool
 | 0=>true
 | k+1=>(allB2 g h k && g k) && h k
noncomputable def cmdI (c:Cm):Int :=
 if (cmdFields c.kind).2=false then 5
 else if allB (numR c (cmdFields c.kind).1) 6=false then 6
 else if allB (txtT c (cmdFields c.kind).1) 6=false then 7
 else if allB2 (numF c (cmdFields c.kind).1) (txtF c (cmdFields c.kind).1) 6=false then 3 else 0
theorem partsL_at {k:Nat}(hk:k<6):(partsL.drop (k*4)).take 4=partL k:=by
 obtain rfl|rfl|rfl|rfl|rfl|rfl:k=0∨k=1∨k=2∨k=3∨k=4∨k=5:=by omega
 all_goals rfl
theorem partsG {G:GH}{b:Nat}{e:TypeId}(h:G b=some (.cells partsL.toArray e (0,0))) {k:Nat}(hk:k<6):CellsG G ((⟨b,0,none⟩:Addr).add (k*4)) (partL k):=by
 intro j v hv
 rw [add_mk,add_mk,Nat.zero_add]
 rw [← partsL_at hk,List.getElem?_take] at hv
 split at hv
 ·rw [List.getElem?_drop] at hv
  simp [GH.cell?,h,hv]
 ·cases hv
theorem cmdCheck_s {G:GH}(hT:TabsG G) (c:Cm) (hc:c.ok):Con Tryz.prog 123 #[.agg c.cells.toArray] G [] (fun r _ μ'=>r=.int .i64 (cmdI c)∧μ'=[]):=by
 obtain ⟨hk1,hc1,hs1,hk,hv,ho,hn1⟩:=id hc
 (refine v_enter Tryz.func123 rfl Tryz.ntmps123 rfl ?_;intro B _)
 obtain ⟨f,is,hf⟩:∃ f is,cmdFields c.kind=(f,is):=⟨_,_,rfl⟩
 have hfs:=fields_s G c.kind
 rw [hf] at hfs
 repeat' (first|apply v_seq|apply v_region|apply v_nil|apply v_skip|apply v_pure;(case hop=>first|apply p_move<;>rfl|apply p_assign<;>rfl|apply p_not<;>rfl|apply p_fieldAddrB<;>rfl|apply p_extract0<;>rfl|apply p_extract1<;>rfl|fail);(case hd=>rfl)|apply v_cond;(case hc=>rfl);all_goals (intro h;(try simp only [reduceCtorEq,zzz] at h))|apply v_box (zs:=c.cells);(case hx|hz|hd=>rfl);intro cb|apply v_callJ (hs:=hfs);(case ha|hd=>rfl)|apply v_read;(case hop=>(apply r_load1;rfl;(apply Cell.own;(case h=>repeat exact mhd _);rfl)));(case hd=>rfl)|fail)
 ·refine v_ret [] (outsA1 rfl rfl) (by repeat (exact List.nil_sublist _)) ?_
  refine ⟨?_,rfl⟩
  rw [cmdI,hf,if_pos (by assumption)]
 refine v_call (μ1:=[]) (μ2:=_) rfl (parts_s G) (List.Perm.refl _) rfl ?_
 rintro r G' μ1 - ⟨rfl,pb,rfl,rfl⟩
 refine v_frz [(pb,_)] (by repeat (exact PickA.here _)) ?_
 intro G1 hle1 hG1
 have hpb:=hG1 pb _ (List.Mem.head _)
 have hT1:=hT.le hle1
 repeat' (first|apply v_nil|apply v_block|apply v_pure;(case hop=>first|apply p_move<;>rfl|apply p_lenSlice<;>rfl|fail);(case hd=>rfl)|fail)
 refine v_loop [24,23,22,5,6,7,1,3] (fun us G' μ'=>G'=G1∧μ'=[(cb,.cells c.cells.toArray 40 (0,0))]∧∃ (k:Nat) (R T F:Bool),us=[Value.int .i64 (k:Int),.int .i64 6,.slice (some ⟨pb,0,none⟩) 6 6,.bool R,.bool T,.bool F,.pointer (some ⟨cb,0,none⟩),.int .i64 f]∧k≤6∧R=allB (numR c f) k∧T=allB (txtT c f) k∧F=allB2 (numF c f) (txtF c f) k) (fun us=>7-(headI us).toNat) rfl ⟨rfl,rfl,0,true,true,true,rfl,by omega,rfl,rfl,rfl⟩ ?_
 rintro us G' μ' ⟨rfl,rfl,k,R,T,F,rfl,hk6,hR,hTt,hF⟩
 by_cases hlt:k<6
 ·have hnum:=number_s G' c f cb k hlt
  have htxt:=text_s hT1 c hk hv ho f cb k hlt
  have hpk:=partsG hpb hlt
  have e1:allB (numR c f) (k+1)=(R && numR c f k):=by rw [hR];rfl
  have e2:allB (txtT c f) (k+1)=(T && txtT c f k):=by rw [hTt];rfl
  have e3:allB2 (numF c f) (txtF c f) (k+1)=((F && numF c f k) && txtF c f k):=by rw [hF];rfl
  generalize numR c f k=a1 at *
  generalize numF c f k=a2 at *
  generalize txtT c f k=a3 at *
  generalize txtF c f k=a4 at *
  clear hR hTt hF
  obtain rfl|rfl|rfl|rfl|rfl|rfl:k=0∨k=1∨k=2∨k=3∨k=4∨k=5:=by omega
  all_goals
   (repeat' (first|apply v_guardM;(case h1|h2=>rfl);(case hop=>(apply p_move;rfl));(case hd=>rfl)|apply v_seq|apply v_region|apply v_nil|apply v_skip|apply v_block|apply v_blk|apply v_pure;(case hop=>first|apply p_move<;>rfl|apply p_lt<;>rfl|apply p_assign<;>rfl|apply p_extract0<;>rfl|apply p_extract1<;>rfl|apply p_add;(case hx|hy=>rfl);(case h=>omega)|apply p_indexAddr;(case hx|hi=>rfl);(case h0|h=>omega)|apply p_pickAnd<;>rfl|fail);(case hd=>rfl)|apply v_cond;(case hc=>rfl);all_goals (intro h;(try simp only [reduceCtorEq,zzz] at h);try (exfalso;omega))|apply v_read;(case hop=>(apply r_loadN;rfl;exact CellsAt.frozen hpk;rfl));(case hd=>rfl)|apply v_callK (hs:=hnum);(case ha=>rfl);(case hp=>first|exact (Pick.perm (by repeat (first|exact Pick.here _|apply Pick.there)))|fail);(case hd=>rfl)|apply v_callK (hs:=htxt);(case ha=>rfl);(case hp=>first|exact (Pick.perm (by repeat (first|exact Pick.here _|apply Pick.there)))|fail);(case hd=>rfl)|apply v_read;(case hop=>(apply r_loadNo;(case hx=>rfl);(case h=>repeat exact mhd _);(case hd=>repeat first|with_reducible exact dt_nil|apply dt_here);(case hn=>rfl)));(case hd=>rfl)|apply v_alloc;(case hz|hd=>rfl);intro b|apply v_store;(case hp|hx|hc|hsz|h1=>rfl);(case hb=>repeat exact mhd _);(case hfit=>exact nle rfl);(case hov=>((repeat (first|with_reducible exact ov_nil|apply ov_cons));done));(case hu=>repeat (exact Upd.here _ _))|fail))
  all_goals
   (refine v_only [(cb,_)] (by repeat (first|exact PickA.last|apply PickA.cons)) ?_
    refine v_again rfl ⟨rfl,rfl,_,_,_,_,?_,?_,e1.symm,e2.symm,e3.symm⟩ ?_
    ·rfl
    ·omega
    ·simp [headI])
 ·obtain rfl:k=6:=by omega
  have his:is=true:=by assumption
  subst his
  repeat' (first|apply v_seq|apply v_region|apply v_nil|apply v_skip|apply v_block|apply v_blk|apply v_exit;(case hp=>rfl)|apply v_pure;(case hop=>first|apply p_move<;>rfl|apply p_lt<;>rfl|apply p_assign<;>rfl|apply p_not<;>rfl|fail);(case hd=>rfl)|apply v_cond;(case hc=>rfl);all_goals (intro h;(try simp only [reduceCtorEq,zzz] at h);try (exfalso;omega))|fail)
  all_goals
   (refine v_ret [] (outsA1 rfl rfl) (by repeat (exact List.nil_sublist _)) ?_
    refine ⟨?_,rfl⟩
    rw [cmdI,hf,if_neg (by simp)]
    simp only [← hR,← hTt,← hF]
    clear hR hTt hF
    simp [*])
theorem band_0_1:band 0 1=0:=by decide
theorem band_0_2:band 0 2=0:=by decide
theorem band_0_4:band 0 4=0:=by decide
theorem band_0_8:band 0 8=0:=by decide
theorem band_0_16:band 0 16=0:=by decide
theorem band_3_1:band 3 1=1:=by decide
theorem band_3_2:band 3 2=2:=by decide
theorem band_3_4:band 3 4=0:=by decide
theorem band_3_8:band 3 8=0:=by decide
theorem band_3_16:band 3 16=0:=by decide
theorem band_11_1:band 11 1=1:=by decide
theorem band_11_2:band 11 2=2:=by decide
theorem band_11_4:band 11 4=0:=by decide
theorem band_11_8:band 11 8=8:=by decide
theorem band_11_16:band 11 16=0:=by decide
theorem band_15_1:band 15 1=1:=by decide
theorem band_15_2:band 15 2=2:=by decide
theorem band_15_4:band 15 4=4:=by decide
theorem band_15_8:band 15 8=8:=by decide
theorem band_15_16:band 15 16=0:=by decide
theorem band_16_1:band 16 1=0:=by decide
theorem band_16_2:band 16 2=0:=by decide
theorem band_16_4:band 16 4=0:=by decide
theorem band_16_8:band 16 8=0:=by decide
theorem band_16_16:band 16 16=16:=by decide
theorem owned_s (G:GH) (k:Int):Con Tryz.prog 129 #[.int .i64 k] G [] (Just (.bool (decide (2≤k∧k≤5))) G):=by
 (refine v_enter Tryz.func129 rfl Tryz.ntmps129 rfl ?_;intro B _)
 repeat' (first|apply v_seq|apply v_region|apply v_nil|apply v_take;(case hg=>rfl)|apply v_pass;(case hg|hn|hd=>rfl)|apply v_pure;(case hop=>first|apply p_move<;>rfl|apply p_le<;>rfl|apply p_ge<;>rfl|apply p_assign<;>rfl|apply p_pickT<;>rfl|apply p_pickF<;>rfl|fail);(case hd=>rfl)|apply v_guardB;(case h1|h2=>rfl);all_goals (intro h;(try simp only [reduceCtorEq,zzz] at h))|fail)
 all_goals
  (refine v_ret [] (outsA1 rfl rfl) (by repeat (exact List.Sublist.refl _)) ?_
   refine ⟨?_,rfl,rfl⟩
   first
    |(rw [decide_eq_false (by omega)])
    |(by_cases h5:k≤5
      ·rw [dec_pos h5,decide_eq_true (by omega)]
      ·rw [dec_neg h5,decide_eq_false (by omega)]))
theorem member_s (G:GH) (k:Int):Con Tryz.prog 130 #[.int .i64 k] G [] (Just (.bool (decide (k=7∨k=8))) G):=by
 (refine v_enter Tryz.func130 rfl Tryz.ntmps130 rfl ?_;intro B _)
 repeat' (first|apply v_seq|apply v_region|apply v_nil|apply v_take;(case hg=>rfl)|apply v_pass;(case hg|hn|hd=>rfl)|apply v_pure;(case hop=>first|apply p_move<;>rfl|apply p_eq<;>rfl|apply p_assign<;>rfl|apply p_pickT<;>rfl|apply p_pickF<;>rfl|fail);(case hd=>rfl)|apply v_guardB;(case h1|h2=>rfl);all_goals (intro h;(try simp only [reduceCtorEq,zzz] at h))|fail)
 all_goals
  (refine v_ret [] (outsA1 rfl rfl) (by repeat (exact List.Sublist.refl _)) ?_
   refine ⟨?_,rfl,rfl⟩
   first
    |(rw [decide_eq_true (by omega)])
    |(by_cases h5:k=8
      ·rw [dec_pos h5,decide_eq_true (by omega)]
      ·rw [dec_neg h5,decide_eq_false (by omega)]))
noncomputable def cmdE (c:Cm):Int :=
 if c.kind<1∨8<c.kind then 5
 else if ((2≤c.kind∧c.kind≤5)∧¬ (1≤c.client∧c.client≤8∧1≤c.seq∧c.seq≤4294967296))∨((c.kind=7∨c.kind=8)∧¬ (1≤c.node∧c.node≤9)) then 6
 else if ((2≤c.kind∧c.kind≤5)∧keyB c.key=false)∨((c.kind=2∨c.kind=5)∧valB c.val=false)∨(c.kind=5∧valB c.old=false) then 7
 else if (¬ (2≤c.kind∧c.kind≤5)∧(c.client≠0∨c.seq≠0∨c.key.size≠0))∨(¬ (c.kind=2∨c.kind=5)∧c.val.size≠0)∨(c.kind≠5∧c.old.size≠0)∨(¬ (c.kind=7∨c.kind=8)∧c.node≠0) then 3 else 0
theorem nil_iff {s:ByteArray}:s={ data:=#[] }↔s.size=0:=by
 constructor
 ·intro h;rw [h];rfl
 ·intro h
  apply ByteArray.ext
  exact Array.eq_empty_of_size_eq_zero h
theorem ite6 {p:Bool}{a b:Int}{q:Prop} [Decidable q] (h:p=false↔q):(if p=false then a else b)=(if q then a else b):=by
 by_cases hq:q
 ·rw [if_pos hq,if_pos (h.2 hq)]
 ·rw [if_neg hq,if_neg (fun e=>hq (h.1 e))]
theorem cmdI_case {c:Cm}(f:Int) {q1 q2 q3:Prop} [Decidable q1] [Decidable q2] [Decidable q3] (hf:cmdFields c.kind=(f,true)) (h1:allB (numR c f) 6=false↔q1) (h2:allB (txtT c f) 6=false↔q2) (h3:allB2 (numF c f) (txtF c f) 6=false↔q3) :
 (if (cmdFields c.kind).2=false then (5:Int) else if allB (numR c (cmdFields c.kind).1) 6=false then 6 else if allB (txtT c (cmdFields c.kind).1) 6=false then 7 else if allB2 (numF c (cmdFields c.kind).1) (txtF c (cmdFields c.kind).1) 6=false then 3 else 0)=(if q1 then 6 else if q2 then 7 else if q3 then 3 else 0):=by
 rw [hf,if_neg (by simp),ite6 h1,ite6 h2,ite6 h3]
theorem cmdI_eq (c:Cm):cmdI c=cmdE c:=by
 obtain ⟨kind,client,seq,key,val,old,node⟩:=c
 by_cases hr:kind<1∨8<kind
 ·have:cmdFields kind=(0,false):=by unfold cmdFields;rw [if_neg (by omega),if_neg (by omega),if_neg (by omega),if_neg (by omega),if_neg (by omega)]
  simp only [cmdI,cmdE,this,if_true]
  rw [if_pos hr]
 ·unfold cmdI cmdE
  simp only
  rw [if_neg hr]
  obtain rfl|rfl|rfl|rfl|rfl|rfl|rfl|rfl:kind=1∨kind=2∨kind=3∨kind=4∨kind=5∨kind=6∨kind=7∨kind=8:=by omega
  ·refine cmdI_case (c:=⟨1,client,seq,key,val,old,node⟩) 0 rfl ?_ ?_ ?_
   ·(simp [allB,allB2,numR,numF,txtT,txtF,isNum,hasOf,mostOf,isTxt,Cm.num,Cm.txt,band_0_1,band_0_2,band_0_4,band_0_8,band_0_16,band_3_1,band_3_2,band_3_4,band_3_8,band_3_16,band_11_1,band_11_2,band_11_4,band_11_8,band_11_16,band_15_1,band_15_2,band_15_4,band_15_8,band_15_16,band_16_1,band_16_2,band_16_4,band_16_8,band_16_16];done)
   ·cases hk:keyB key<;>cases hv:valB val<;>cases ho:valB old<;>simp [hk,hv,ho,allB,allB2,numR,numF,txtT,txtF,isNum,hasOf,mostOf,isTxt,Cm.num,Cm.txt,band_0_1,band_0_2,band_0_4,band_0_8,band_0_16,band_3_1,band_3_2,band_3_4,band_3_8,band_3_16,band_11_1,band_11_2,band_11_4,band_11_8,band_11_16,band_15_1,band_15_2,band_15_4,band_15_8,band_15_16,band_16_1,band_16_2,band_16_4,band_16_8,band_16_16]
   ·(simp [allB,allB2,numR,numF,txtT,txtF,isNum,hasOf,mostOf,isTxt,Cm.num,Cm.txt,band_0_1,band_0_2,band_0_4,band_0_8,band_0_16,band_3_1,band_3_2,band_3_4,band_3_8,band_3_16,band_11_1,band_11_2,band_11_4,band_11_8,band_11_16,band_15_1,band_15_2,band_15_4,band_15_8,band_15_16,band_16_1,band_16_2,band_16_4,band_16_8,band_16_16];grind)
  ·refine cmdI_case (c:=⟨2,client,seq,key,val,old,node⟩) 11 rfl ?_ ?_ ?_
   ·(simp [allB,allB2,numR,numF,txtT,txtF,isNum,hasOf,mostOf,isTxt,Cm.num,Cm.txt,band_0_1,band_0_2,band_0_4,band_0_8,band_0_16,band_3_1,band_3_2,band_3_4,band_3_8,band_3_16,band_11_1,band_11_2,band_11_4,band_11_8,band_11_16,band_15_1,band_15_2,band_15_4,band_15_8,band_15_16,band_16_1,band_16_2,band_16_4,band_16_8,band_16_16];done)
   ·cases hk:keyB key<;>cases hv:valB val<;>cases ho:valB old<;>simp [hk,hv,ho,allB,allB2,numR,numF,txtT,txtF,isNum,hasOf,mostOf,isTxt,Cm.num,Cm.txt,band_0_1,band_0_2,band_0_4,band_0_8,band_0_16,band_3_1,band_3_2,band_3_4,band_3_8,band_3_16,band_11_1,band_11_2,band_11_4,band_11_8,band_11_16,band_15_1,band_15_2,band_15_4,band_15_8,band_15_16,band_16_1,band_16_2,band_16_4,band_16_8,band_16_16]
   ·(simp [allB,allB2,numR,numF,txtT,txtF,isNum,hasOf,mostOf,isTxt,Cm.num,Cm.txt,band_0_1,band_0_2,band_0_4,band_0_8,band_0_16,band_3_1,band_3_2,band_3_4,band_3_8,band_3_16,band_11_1,band_11_2,band_11_4,band_11_8,band_11_16,band_15_1,band_15_2,band_15_4,band_15_8,band_15_16,band_16_1,band_16_2,band_16_4,band_16_8,band_16_16];grind)
  ·refine cmdI_case (c:=⟨3,client,seq,key,val,old,node⟩) 3 rfl ?_ ?_ ?_
   ·(simp [allB,allB2,numR,numF,txtT,txtF,isNum,hasOf,mostOf,isTxt,Cm.num,Cm.txt,band_0_1,band_0_2,band_0_4,band_0_8,band_0_16,band_3_1,band_3_2,band_3_4,band_3_8,band_3_16,band_11_1,band_11_2,band_11_4,band_11_8,band_11_16,band_15_1,band_15_2,band_15_4,band_15_8,band_15_16,band_16_1,band_16_2,band_16_4,band_16_8,band_16_16];done)
   ·cases hk:keyB key<;>cases hv:valB val<;>cases ho:valB old<;>simp [hk,hv,ho,allB,allB2,numR,numF,txtT,txtF,isNum,hasOf,mostOf,isTxt,Cm.num,Cm.txt,band_0_1,band_0_2,band_0_4,band_0_8,band_0_16,band_3_1,band_3_2,band_3_4,band_3_8,band_3_16,band_11_1,band_11_2,band_11_4,band_11_8,band_11_16,band_15_1,band_15_2,band_15_4,band_15_8,band_15_16,band_16_1,band_16_2,band_16_4,band_16_8,band_16_16]
   ·(simp [allB,allB2,numR,numF,txtT,txtF,isNum,hasOf,mostOf,isTxt,Cm.num,Cm.txt,band_0_1,band_0_2,band_0_4,band_0_8,band_0_16,band_3_1,band_3_2,band_3_4,band_3_8,band_3_16,band_11_1,band_11_2,band_11_4,band_11_8,band_11_16,band_15_1,band_15_2,band_15_4,band_15_8,band_15_16,band_16_1,band_16_2,band_16_4,band_16_8,band_16_16];grind)
  ·refine cmdI_case (c:=⟨4,client,seq,key,val,old,node⟩) 3 rfl ?_ ?_ ?_
   ·(simp [allB,allB2,numR,numF,txtT,txtF,isNum,hasOf,mostOf,isTxt,Cm.num,Cm.txt,band_0_1,band_0_2,band_0_4,band_0_8,band_0_16,band_3_1,band_3_2,band_3_4,band_3_8,band_3_16,band_11_1,band_11_2,band_11_4,band_11_8,band_11_16,band_15_1,band_15_2,band_15_4,band_15_8,band_15_16,band_16_1,band_16_2,band_16_4,band_16_8,band_16_16];done)
   ·cases hk:keyB key<;>cases hv:valB val<;>cases ho:valB old<;>simp [hk,hv,ho,allB,allB2,numR,numF,txtT,txtF,isNum,hasOf,mostOf,isTxt,Cm.num,Cm.txt,band_0_1,band_0_2,band_0_4,band_0_8,band_0_16,band_3_1,band_3_2,band_3_4,band_3_8,band_3_16,band_11_1,band_11_2,band_11_4,band_11_8,band_11_16,band_15_1,band_15_2,band_15_4,band_15_8,band_15_16,band_16_1,band_16_2,band_16_4,band_16_8,band_16_16]
   ·(simp [allB,allB2,numR,numF,txtT,txtF,isNum,hasOf,mostOf,isTxt,Cm.num,Cm.txt,band_0_1,band_0_2,band_0_4,band_0_8,band_0_16,band_3_1,band_3_2,band_3_4,band_3_8,band_3_16,band_11_1,band_11_2,band_11_4,band_11_8,band_11_16,band_15_1,band_15_2,band_15_4,band_15_8,band_15_16,band_16_1,band_16_2,band_16_4,band_16_8,band_16_16];grind)
  ·refine cmdI_case (c:=⟨5,client,seq,key,val,old,node⟩) 15 rfl ?_ ?_ ?_
   ·(simp [allB,allB2,numR,numF,txtT,txtF,isNum,hasOf,mostOf,isTxt,Cm.num,Cm.txt,band_0_1,band_0_2,band_0_4,band_0_8,band_0_16,band_3_1,band_3_2,band_3_4,band_3_8,band_3_16,band_11_1,band_11_2,band_11_4,band_11_8,band_11_16,band_15_1,band_15_2,band_15_4,band_15_8,band_15_16,band_16_1,band_16_2,band_16_4,band_16_8,band_16_16];done)
   ·cases hk:keyB key<;>cases hv:valB val<;>cases ho:valB old<;>simp [hk,hv,ho,allB,allB2,numR,numF,txtT,txtF,isNum,hasOf,mostOf,isTxt,Cm.num,Cm.txt,band_0_1,band_0_2,band_0_4,band_0_8,band_0_16,band_3_1,band_3_2,band_3_4,band_3_8,band_3_16,band_11_1,band_11_2,band_11_4,band_11_8,band_11_16,band_15_1,band_15_2,band_15_4,band_15_8,band_15_16,band_16_1,band_16_2,band_16_4,band_16_8,band_16_16]
   ·(simp [allB,allB2,numR,numF,txtT,txtF,isNum,hasOf,mostOf,isTxt,Cm.num,Cm.txt,band_0_1,band_0_2,band_0_4,band_0_8,band_0_16,band_3_1,band_3_2,band_3_4,band_3_8,band_3_16,band_11_1,band_11_2,band_11_4,band_11_8,band_11_16,band_15_1,band_15_2,band_15_4,band_15_8,band_15_16,band_16_1,band_16_2,band_16_4,band_16_8,band_16_16];done)
  ·refine cmdI_case (c:=⟨6,client,seq,key,val,old,node⟩) 0 rfl ?_ ?_ ?_
   ·(simp [allB,allB2,numR,numF,txtT,txtF,isNum,hasOf,mostOf,isTxt,Cm.num,Cm.txt,band_0_1,band_0_2,band_0_4,band_0_8,band_0_16,band_3_1,band_3_2,band_3_4,band_3_8,band_3_16,band_11_1,band_11_2,band_11_4,band_11_8,band_11_16,band_15_1,band_15_2,band_15_4,band_15_8,band_15_16,band_16_1,band_16_2,band_16_4,band_16_8,band_16_16];done)
   ·cases hk:keyB key<;>cases hv:valB val<;>cases ho:valB old<;>simp [hk,hv,ho,allB,allB2,numR,numF,txtT,txtF,isNum,hasOf,mostOf,isTxt,Cm.num,Cm.txt,band_0_1,band_0_2,band_0_4,band_0_8,band_0_16,band_3_1,band_3_2,band_3_4,band_3_8,band_3_16,band_11_1,band_11_2,band_11_4,band_11_8,band_11_16,band_15_1,band_15_2,band_15_4,band_15_8,band_15_16,band_16_1,band_16_2,band_16_4,band_16_8,band_16_16]
   ·(simp [allB,allB2,numR,numF,txtT,txtF,isNum,hasOf,mostOf,isTxt,Cm.num,Cm.txt,band_0_1,band_0_2,band_0_4,band_0_8,band_0_16,band_3_1,band_3_2,band_3_4,band_3_8,band_3_16,band_11_1,band_11_2,band_11_4,band_11_8,band_11_16,band_15_1,band_15_2,band_15_4,band_15_8,band_15_16,band_16_1,band_16_2,band_16_4,band_16_8,band_16_16];grind)
  ·refine cmdI_case (c:=⟨7,client,seq,key,val,old,node⟩) 16 rfl ?_ ?_ ?_
   ·(simp [allB,allB2,numR,numF,txtT,txtF,isNum,hasOf,mostOf,isTxt,Cm.num,Cm.txt,band_0_1,band_0_2,band_0_4,band_0_8,band_0_16,band_3_1,band_3_2,band_3_4,band_3_8,band_3_16,band_11_1,band_11_2,band_11_4,band_11_8,band_11_16,band_15_1,band_15_2,band_15_4,band_15_8,band_15_16,band_16_1,band_16_2,band_16_4,band_16_8,band_16_16];done)
   ·cases hk:keyB key<;>cases hv:valB val<;>cases ho:valB old<;>simp [hk,hv,ho,allB,allB2,numR,numF,txtT,txtF,isNum,hasOf,mostOf,isTxt,Cm.num,Cm.txt,band_0_1,band_0_2,band_0_4,band_0_8,band_0_16,band_3_1,band_3_2,band_3_4,band_3_8,band_3_16,band_11_1,band_11_2,band_11_4,band_11_8,band_11_16,band_15_1,band_15_2,band_15_4,band_15_8,band_15_16,band_16_1,band_16_2,band_16_4,band_16_8,band_16_16]
   ·(simp [allB,allB2,numR,numF,txtT,txtF,isNum,hasOf,mostOf,isTxt,Cm.num,Cm.txt,band_0_1,band_0_2,band_0_4,band_0_8,band_0_16,band_3_1,band_3_2,band_3_4,band_3_8,band_3_16,band_11_1,band_11_2,band_11_4,band_11_8,band_11_16,band_15_1,band_15_2,band_15_4,band_15_8,band_15_16,band_16_1,band_16_2,band_16_4,band_16_8,band_16_16];grind)
  ·refine cmdI_case (c:=⟨8,client,seq,key,val,old,node⟩) 16 rfl ?_ ?_ ?_
   ·(simp [allB,allB2,numR,numF,txtT,txtF,isNum,hasOf,mostOf,isTxt,Cm.num,Cm.txt,band_0_1,band_0_2,band_0_4,band_0_8,band_0_16,band_3_1,band_3_2,band_3_4,band_3_8,band_3_16,band_11_1,band_11_2,band_11_4,band_11_8,band_11_16,band_15_1,band_15_2,band_15_4,band_15_8,band_15_16,band_16_1,band_16_2,band_16_4,band_16_8,band_16_16];done)
   ·cases hk:keyB key<;>cases hv:valB val<;>cases ho:valB old<;>simp [hk,hv,ho,allB,allB2,numR,numF,txtT,txtF,isNum,hasOf,mostOf,isTxt,Cm.num,Cm.txt,band_0_1,band_0_2,band_0_4,band_0_8,band_0_16,band_3_1,band_3_2,band_3_4,band_3_8,band_3_16,band_11_1,band_11_2,band_11_4,band_11_8,band_11_16,band_15_1,band_15_2,band_15_4,band_15_8,band_15_16,band_16_1,band_16_2,band_16_4,band_16_8,band_16_16]
   ·(simp [allB,allB2,numR,numF,txtT,txtF,isNum,hasOf,mostOf,isTxt,Cm.num,Cm.txt,band_0_1,band_0_2,band_0_4,band_0_8,band_0_16,band_3_1,band_3_2,band_3_4,band_3_8,band_3_16,band_11_1,band_11_2,band_11_4,band_11_8,band_11_16,band_15_1,band_15_2,band_15_4,band_15_8,band_15_16,band_16_1,band_16_2,band_16_4,band_16_8,band_16_16];grind)
set_option maxHeartbeats 4000000 in
theorem refCmdCheck_s {G:GH}(c:Cm) (hc:c.ok):Con Tryz.prog 91 #[.agg c.cells.toArray] G [] (fun r _ μ'=>r=.int .i64 (cmdI c)∧μ'=[]):=by
 obtain ⟨hk1,hc1,hs1,hk,hv,ho,hn1⟩:=id hc
 simp only [maxLen] at hk hv ho
 have qk:=refKey_s (G:=G) (s:=c.key) (by omega)
 have qv:=refVal_s (G:=G) (s:=c.val) (by omega)
 have qo:=refVal_s (G:=G) (s:=c.old) (by omega)
 obtain ⟨kind,client,seq,key,val,old,node⟩:=c
 simp only at qk qv qo
 (refine v_enter Tryz.func91 rfl Tryz.ntmps91 rfl ?_;intro B _)
 by_cases hr:kind<1∨8<kind
 ·repeat' (first|apply v_seq|apply v_region|apply v_nil|apply v_take;(case hg=>rfl)|apply v_pass;(case hg|hn|hd=>rfl)|apply v_pure;(case hop=>first|apply p_move<;>rfl|apply p_lt<;>rfl|apply p_gt<;>rfl|apply p_assign<;>rfl|apply p_pickT<;>rfl|apply p_pickF<;>rfl|apply p_fieldAddrB<;>rfl|fail);(case hd=>rfl)|apply v_condT;(case hc=>rfl)|apply v_cond;(case hc=>rfl);all_goals (intro h;(try simp only [reduceCtorEq,zzz] at h);try (exfalso;omega))|apply v_guardB;(case h1|h2=>rfl);all_goals (intro h;(try simp only [reduceCtorEq,zzz] at h))|apply v_box (zs:=Cm.cells ⟨kind,client,seq,key,val,old,node⟩);(case hx|hz|hd=>rfl);intro cb|apply v_read;(case hop=>(apply r_load1;rfl;(apply Cell.own;(case h=>repeat exact mhd _);rfl)));(case hd=>rfl)|fail)
  all_goals
   (refine v_ret [] (outsA1 rfl rfl) (by repeat (exact List.nil_sublist _)) ?_
    refine ⟨?_,rfl⟩
    have:cmdFields kind=(0,false):=by unfold cmdFields;rw [if_neg (by omega),if_neg (by omega),if_neg (by omega),if_neg (by omega),if_neg (by omega)]
    simp [cmdI,this])
 have qw:=owned_s G kind
 have qm:=member_s G kind
 obtain rfl|rfl|rfl|rfl|rfl|rfl|rfl|rfl:kind=1∨kind=2∨kind=3∨kind=4∨kind=5∨kind=6∨kind=7∨kind=8:=by omega
 all_goals
  (first|rw [decide_eq_true (by omega)] at qw|rw [decide_eq_false (by omega)] at qw)
  (first|rw [decide_eq_true (by omega)] at qm|rw [decide_eq_false (by omega)] at qm)
  repeat' (first|apply v_seq|apply v_region|apply v_nil|apply v_skip|apply v_take;(case hg=>rfl)|apply v_pass;(case hg|hn|hd=>rfl)|apply v_passN;(case hg|hn|hd=>rfl)|apply v_pure;(case hop=>first|apply p_move<;>rfl|apply p_eqs<;>rfl|apply p_nes<;>rfl|apply p_eq<;>rfl|apply p_lt<;>rfl|apply p_gt<;>rfl|apply p_ne<;>rfl|apply p_assign<;>rfl|apply p_pickT<;>rfl|apply p_pickF<;>rfl|apply p_not<;>rfl|apply p_fieldAddrB<;>rfl|apply p_neS<;>rfl|fail);(case hd=>rfl)|apply v_condT;(case hc=>rfl)|apply v_condF;(case hc=>rfl)|apply v_cond;(case hc=>rfl);all_goals (intro h;(try simp only [reduceCtorEq,zzz] at h);try (exfalso;omega))|apply v_guardB;(case h1|h2=>rfl);all_goals (intro h;(try simp only [reduceCtorEq,zzz] at h);try (exfalso;omega))|apply v_box (zs:=Cm.cells ⟨_,client,seq,key,val,old,node⟩);(case hx|hz|hd=>rfl);intro cb|apply v_callJ (hs:=qw);(case ha|hd=>rfl)|apply v_callJ (hs:=qm);(case ha|hd=>rfl)|apply v_callJ (hs:=qk);(case ha|hd=>rfl)|apply v_callJ (hs:=qv);(case ha|hd=>rfl)|apply v_callJ (hs:=qo);(case ha|hd=>rfl)|apply v_read;(case hop=>(apply r_load1;rfl;(apply Cell.own;(case h=>repeat exact mhd _);rfl)));(case hd=>rfl)|fail)
 all_goals
  (refine v_ret [] (outsA1 rfl rfl) (by repeat (exact List.nil_sublist _)) ?_
   refine ⟨?_,rfl⟩
   rw [cmdI_eq]
   congr 1
   unfold cmdE
   try simp only [nil_iff] at *
   try simp only
   (repeat' split)<;>first|rfl|(exfalso;omega)|(exfalso;simp_all;done)|(exfalso;simp_all;omega))
theorem eqBal {σ:Env}{ty t':TypeId}{x y:Operand}{a b a' b':Int}(hx:Env.ev σ x=some (.agg [.int .i64 a,.int .i64 b].toArray)) (hy:Env.ev σ y=some (.agg [.int .i64 a',.int .i64 b'].toArray)):PureOp Tryz.prog (.binOp .eql 23 x y t') ty σ (.bool (dec (a=a'∧b=b'))):=by
 have:=p_eqStruct (P:=Tryz.prog) (ty:=ty) (t:=23) (t':=t') hx hy (feq_int (k:=.i64) (a:=a) (b:=a') (bytes:=8) (zero:=.int .i64 0) (sz:=1) rfl rfl rfl (feq_int (k:=.i64) (a:=b) (b:=b') (bytes:=8) (zero:=.int .i64 0) (sz:=1) rfl rfl rfl feq_nil))
 have e:(dec (a=a') && (dec (b=b') && true))=dec (a=a'∧b=b'):=by simp only [dec_eq];simp
 rwa [e] at this
theorem neBal {σ:Env}{ty t':TypeId}{x y:Operand}{a b a' b':Int}(hx:Env.ev σ x=some (.agg [.int .i64 a,.int .i64 b].toArray)) (hy:Env.ev σ y=some (.agg [.int .i64 a',.int .i64 b'].toArray)):PureOp Tryz.prog (.binOp .neq 23 x y t') ty σ (.bool (!dec (a=a'∧b=b'))):=by
 have:=p_neStruct (P:=Tryz.prog) (ty:=ty) (t:=23) (t':=t') hx hy (feq_int (k:=.i64) (a:=a) (b:=a') (bytes:=8) (zero:=.int .i64 0) (sz:=1) rfl rfl rfl (feq_int (k:=.i64) (a:=b) (b:=b') (bytes:=8) (zero:=.int .i64 0) (sz:=1) rfl rfl rfl feq_nil))
 have e:(dec (a=a') && (dec (b=b') && true))=dec (a=a'∧b=b'):=by simp only [dec_eq];simp
 rwa [e] at this
noncomputable instance:DecidableEq Cm:=fun a b=>Classical.propDecidable (a=b)
theorem cm_feq (c c':Cm):FEq Tryz.prog 9999 c.cells c'.cells [⟨"Kind",3,0,false, "", "",0⟩,⟨"Client",3,1,false, "", "",8⟩,⟨"Seq",3,2,false, "", "",16⟩,⟨"Key",9,3,false, "", "",24⟩,⟨"Val",9,4,false, "", "",40⟩,⟨"Old",9,5,false, "", "",56⟩,⟨"Node",3,6,false, "", "",72⟩] (dec (c.kind=c'.kind) && (dec (c.client=c'.client) && (dec (c.seq=c'.seq) && (dec (c.key=c'.key) && (dec (c.val=c'.val) && (dec (c.old=c'.old) && (dec (c.node=c'.node) && true))))))) :=
 feq_int (k:=.i64) (bytes:=8) (zero:=.int .i64 0) (sz:=1) (nm := "Kind") (ft:=3) (off:=0) (em:=false) (tg := "") (pk := "") (bo:=0) rfl rfl rfl
  (feq_int (k:=.i64) (bytes:=8) (zero:=.int .i64 0) (sz:=1) (nm := "Client") (ft:=3) (off:=1) (em:=false) (tg := "") (pk := "") (bo:=8) rfl rfl rfl
  (feq_int (k:=.i64) (bytes:=8) (zero:=.int .i64 0) (sz:=1) (nm := "Seq") (ft:=3) (off:=2) (em:=false) (tg := "") (pk := "") (bo:=16) rfl rfl rfl
  (feq_str (bytes:=16) (zero:=.string ByteArray.empty) (sz:=1) (nm := "Key") (ft:=9) (off:=3) (em:=false) (tg := "") (pk := "") (bo:=24) rfl rfl rfl
  (feq_str (bytes:=16) (zero:=.string ByteArray.empty) (sz:=1) (nm := "Val") (ft:=9) (off:=4) (em:=false) (tg := "") (pk := "") (bo:=40) rfl rfl rfl
  (feq_str (bytes:=16) (zero:=.string ByteArray.empty) (sz:=1) (nm := "Old") (ft:=9) (off:=5) (em:=false) (tg := "") (pk := "") (bo:=56) rfl rfl rfl
  (feq_int (k:=.i64) (bytes:=8) (zero:=.int .i64 0) (sz:=1) (nm := "Node") (ft:=3) (off:=6) (em:=false) (tg := "") (pk := "") (bo:=72) rfl rfl rfl feq_nil))))))
theorem cm_dec (c c':Cm):(dec (c.kind=c'.kind) && (dec (c.client=c'.client) && (dec (c.seq=c'.seq) && (dec (c.key=c'.key) && (dec (c.val=c'.val) && (dec (c.old=c'.old) && (dec (c.node=c'.node) && true)))))))=dec (c=c'):=by
 obtain ⟨a1,a2,a3,a4,a5,a6,a7⟩:=c
 obtain ⟨b1,b2,b3,b4,b5,b6,b7⟩:=c'
 rw [Bool.eq_iff_iff]
 simp [dec_true]
theorem neCm {σ:Env}{ty t':TypeId}{x y:Operand}{c c':Cm}(hx:Env.ev σ x=some (.agg c.cells.toArray)) (hy:Env.ev σ y=some (.agg c'.cells.toArray)):PureOp Tryz.prog (.binOp .neq 40 x y t') ty σ (.bool (!dec (c=c'))):=by
 have:=p_neStruct (P:=Tryz.prog) (ty:=ty) (t:=40) (t':=t') hx hy (cm_feq c c')
 rwa [cm_dec] at this
def mayP (r n:Int):Prop:=(r=0∧n=0)∨(1≤r∧r≤4294967296∧1≤n∧n≤9)
instance (r n:Int):Decidable (mayP r n):=by unfold mayP;infer_instance
theorem node_s (G:GH) (n:Int):Con Tryz.prog 120 #[.int .i64 n] G [] (Just (.bool (decide (1≤n∧n≤9))) G):=by
 (refine v_enter Tryz.func120 rfl Tryz.ntmps120 rfl ?_;intro B _)
 repeat' (first|apply v_seq|apply v_region|apply v_nil|apply v_take;(case hg=>rfl)|apply v_pass;(case hg|hn|hd=>rfl)|apply v_pure;(case hop=>first|apply p_move<;>rfl|apply p_le<;>rfl|apply p_ge<;>rfl|apply p_assign<;>rfl|apply p_pickT<;>rfl|apply p_pickF<;>rfl|fail);(case hd=>rfl)|apply v_guardB;(case h1|h2=>rfl);all_goals (intro h;(try simp only [reduceCtorEq,zzz] at h))|fail)
 all_goals
  (refine v_ret [] (outsA1 rfl rfl) (by repeat (exact List.Sublist.refl _)) ?_
   refine ⟨?_,rfl,rfl⟩
   first
    |(rw [decide_eq_false (by omega)])
    |(by_cases h5:n≤9
      ·rw [dec_pos h5,decide_eq_true (by omega)]
      ·rw [dec_neg h5,decide_eq_false (by omega)]))
theorem may_s (G:GH) (r n:Int):Con Tryz.prog 79 #[.agg #[.int .i64 r,.int .i64 n]] G [] (Just (.bool (decide (mayP r n))) G):=by
 apply Con.just
 (refine v_enter Tryz.func79 rfl Tryz.ntmps79 rfl ?_;intro B _)
 repeat' (first|apply v_pure;(case hop=>(apply eqBal;(case hx|hy=>rfl)));(case hd=>rfl)|apply v_seq|apply v_region|apply v_nil|apply v_take;(case hg=>rfl)|apply v_pass;(case hg|hn|hd=>rfl)|apply v_passN;(case hg|hn|hd=>rfl)|apply v_pure;(case hop=>first|apply p_move<;>rfl|apply p_le<;>rfl|apply p_ge<;>rfl|apply p_assign<;>rfl|apply p_pickT<;>rfl|apply p_pickF<;>rfl|apply p_fieldAddrB<;>rfl|apply p_build;(case hz=>rfl);(case hv=>(simp only [List.map_cons,List.map_nil];repeat (with_reducible exact evs_nil)));(case hb=>(apply bldL;repeat (exact bld_nil)))|fail);(case hd=>rfl)|apply v_guardB;(case h1|h2=>rfl);all_goals (intro h;(try simp only [reduceCtorEq,zzz] at h))|apply v_callJ (hs:=node_s _ _);(case ha|hd=>rfl)|apply v_read;(case hop=>first|apply r_loadNo;(case hx=>rfl);(case h=>repeat exact mhd _);(case hd=>repeat first|with_reducible exact dt_nil|apply dt_here);(case hn=>rfl)|apply r_load1;rfl;(apply Cell.own;(case h=>repeat exact mhd _);rfl)|fail);(case hd=>rfl)|apply v_box;(case hx|hz|hd=>rfl);intro b|fail)
 all_goals
  (refine v_ret [] (outsA1 rfl rfl) (by repeat (exact List.nil_sublist _)) ?_
   refine ⟨?_,rfl⟩
   first
    |(rw [decide_eq_true (p:=mayP r n) (by unfold mayP;omega)];done)
    |(rw [decide_eq_false (p:=mayP r n) (by unfold mayP;omega)];done)
    |(rw [decide_eq_decide.2];unfold mayP;omega)
    |(congr 1;rw [decide_eq_decide];unfold mayP;omega))
theorem refMay_s (G:GH) (r n:Int):Con Tryz.prog 52 #[.agg #[.int .i64 r,.int .i64 n]] G [] (Just (.bool (decide (mayP r n))) G):=by
 apply Con.just
 (refine v_enter Tryz.func52 rfl Tryz.ntmps52 rfl ?_;intro B _)
 repeat' (first|apply v_seq|apply v_region|apply v_nil|apply v_skip|apply v_take;(case hg=>rfl)|apply v_pass;(case hg|hn|hd=>rfl)|apply v_pure;(case hop=>first|apply p_move<;>rfl|apply p_eq<;>rfl|apply p_le<;>rfl|apply p_ge<;>rfl|apply p_assign<;>rfl|apply p_pickT<;>rfl|apply p_pickF<;>rfl|apply p_fieldAddrB<;>rfl|fail);(case hd=>rfl)|apply v_condF;(case hc=>rfl)|apply v_cond;(case hc=>rfl);all_goals (intro h;(try simp only [reduceCtorEq,zzz] at h))|apply v_guardB;(case h1|h2=>rfl);all_goals (intro h;(try simp only [reduceCtorEq,zzz] at h);try (exfalso;omega))|apply v_read;(case hop=>(apply r_load1;rfl;(apply Cell.own;(case h=>repeat exact mhd _);rfl)));(case hd=>rfl)|apply v_box;(case hx|hz|hd=>rfl);intro b|fail)
 all_goals
  (refine v_ret [] (outsA1 rfl rfl) (by repeat (exact List.nil_sublist _)) ?_
   refine ⟨?_,rfl⟩
   first
    |(rw [decide_eq_true (p:=mayP r n) (by unfold mayP;omega)];done)
    |(rw [decide_eq_false (p:=mayP r n) (by unfold mayP;omega)];done)
    |(rw [dec_eq];congr 1;rw [decide_eq_decide];unfold mayP;omega))
def recL (k r n i:Int) (c:Cm) (iv:Value):List Value:=[.int .i64 k,.int .i64 r,.int .i64 n,.int .i64 i,.int .i64 c.kind,.int .i64 c.client,.int .i64 c.seq,.string c.key,.string c.val,.string c.old,.int .i64 c.node,iv]
def hasL (k:Int):List Value :=
 if k=1 then [.bool true,.bool false,.bool false,.bool false] else if k=2 then [.bool true,.bool true,.bool true,.bool false]
 else if k=3 then [.bool false,.bool true,.bool true,.bool false] else if k=4 then [.bool false,.bool true,.bool false,.bool true]
 else [.bool false,.bool false,.bool false,.bool false]
theorem rfields_s (G:GH) (k:Int):Con Tryz.prog 121 #[.int .i64 k] G [] (Just (.tuple [.agg (hasL k).toArray,.bool (decide (1≤k∧k≤4))].toArray) G):=by
 apply Con.just
 (refine v_enter Tryz.func121 rfl Tryz.ntmps121 rfl ?_;intro B _)
 repeat' (first|apply v_seq|apply v_region|apply v_nil|apply v_skip|apply v_block|apply v_blk|apply v_exit;(case hp=>rfl)|apply v_pure;(case hop=>first|apply p_move<;>rfl|apply p_eq<;>rfl|apply p_assign<;>rfl|apply p_fieldAddrB<;>rfl|fail);(case hd=>rfl)|apply v_cond;(case hc=>rfl);all_goals (intro h;(try simp only [reduceCtorEq,zzz] at h))|apply v_read;(case hop=>(apply r_loadNo;(case hx=>rfl);(case h=>repeat exact mhd _);(case hd=>repeat first|with_reducible exact dt_nil|apply dt_here);(case hn=>rfl)));(case hd=>rfl)|apply v_alloc;(case hz|hd=>rfl);intro b|apply v_store;(case hp|hx|hc|hsz|h1=>rfl);(case hb=>repeat first|exact mhd _|apply mtl);(case hfit=>exact nle rfl);(case hov=>((repeat (first|with_reducible exact ov_nil|apply ov_cons));done));(case hu=>repeat first|exact Upd.here _ _|apply Upd.there)|fail)
 all_goals
  (refine v_retM [] (outsM_cell_tmp (vs:=hasL k) (e:=168) rfl rfl rfl ?_ ?_) (by repeat (exact List.nil_sublist _)) ?_
   ·unfold hasL
    first
     |(rw [if_pos (show k=1 by omega)];(repeat (first|exact mhd _|apply mtl)))
     |(rw [if_neg (show ¬ k=1 by omega),if_pos (show k=2 by omega)];(repeat (first|exact mhd _|apply mtl)))
     |(rw [if_neg (show ¬ k=1 by omega),if_neg (show ¬ k=2 by omega),if_pos (show k=3 by omega)];(repeat (first|exact mhd _|apply mtl)))
     |(rw [if_neg (show ¬ k=1 by omega),if_neg (show ¬ k=2 by omega),if_neg (show ¬ k=3 by omega),if_pos (show k=4 by omega)];(repeat (first|exact mhd _|apply mtl)))
     |(rw [if_neg (show ¬ k=1 by omega),if_neg (show ¬ k=2 by omega),if_neg (show ¬ k=3 by omega),if_neg (show ¬ k=4 by omega)];(repeat (first|exact mhd _|apply mtl)))
   ·unfold hasL;(repeat' split)<;>rfl
   ·refine ⟨?_,rfl⟩
    first
     | rw [decide_eq_true (by omega)]
     | rw [decide_eq_false (by omega)])
def ranP (k r n i:Int):Prop:=((k=1∨k=2)→mayP r n∧¬ (r=0∧n=0))∧((k=2∨k=3∨k=4)→1≤i∧i≤4294967296)
instance (k r n i:Int):Decidable (ranP k r n i):=by unfold ranP;infer_instance
theorem ranges_s (G:GH) (k r n i:Int) (c:Cm) (iv:Value) (hk:1≤k∧k≤4):Con Tryz.prog 122 #[.agg (recL k r n i c iv).toArray,.agg (hasL k).toArray] G [] (Just (.bool (decide (ranP k r n i))) G):=by
 apply Con.just
 (refine v_enter Tryz.func122 rfl Tryz.ntmps122 rfl ?_;intro B _)
 obtain rfl|rfl|rfl|rfl:k=1∨k=2∨k=3∨k=4:=by omega
 all_goals
  repeat' (first|apply v_pure;(case hop=>(apply eqBal;(case hx|hy=>rfl)));(case hd=>rfl)|apply v_seq|apply v_region|apply v_nil|apply v_skip|apply v_take;(case hg=>rfl)|apply v_pass;(case hg|hn|hd=>rfl)|apply v_passN;(case hg|hn|hd=>rfl)|apply v_pure;(case hop=>first|apply p_move<;>rfl|apply p_le<;>rfl|apply p_ge<;>rfl|apply p_assign<;>rfl|apply p_pickT<;>rfl|apply p_pickF<;>rfl|apply p_not<;>rfl|apply p_fieldAddrB<;>rfl|apply p_build;(case hz=>rfl);(case hv=>(simp only [List.map_cons,List.map_nil];repeat (with_reducible exact evs_nil)));(case hb=>(apply bldL;repeat (exact bld_nil)))|fail);(case hd=>rfl)|apply v_condT;(case hc=>rfl)|apply v_condF;(case hc=>rfl)|apply v_cond;(case hc=>rfl);all_goals (intro h;(try simp only [reduceCtorEq,zzz] at h))|apply v_guardB;(case h1|h2=>rfl);all_goals (intro h;(try simp only [reduceCtorEq,zzz] at h))|apply v_box (zs:=recL _ r n i c iv);(case hx|hz|hd=>rfl);intro b|apply v_box (zs:=hasL _);(case hx|hz|hd=>rfl);intro b|apply v_callJ (hs:=may_s _ _ _);(case ha|hd=>rfl)|apply v_read;(case hop=>first|apply r_loadNo;(case hx=>rfl);(case h=>repeat first|exact mhd _|apply mtl);(case hd=>repeat first|with_reducible exact dt_nil|apply dt_here);(case hn=>rfl)|apply r_load1;rfl;(apply Cell.own;(case h=>repeat first|exact mhd _|apply mtl);rfl)|fail);(case hd=>rfl)|fail)
 all_goals
  (refine v_ret [] (outsA1 rfl rfl) (by repeat (exact List.nil_sublist _)) ?_
   refine ⟨?_,rfl⟩
   first
    |(rw [decide_eq_true (p:=ranP _ r n i) (by unfold mayP at *;unfold ranP mayP;omega)];done)
    |(rw [decide_eq_false (p:=ranP _ r n i) (by unfold mayP at *;unfold ranP mayP;omega)];done)
    |(rw [decide_eq_true (p:=ranP _ r n i) (by unfold ranP mayP;omega)];done)
    |(rw [decide_eq_false (p:=ranP _ r n i) (by unfold ranP mayP;omega)];done)
    |(rw [dec_eq];congr 1;rw [decide_eq_decide];unfold mayP at *;unfold ranP mayP;omega)
    |(rw [dec_eq];congr 1;rw [decide_eq_decide];unfold ranP mayP;omega))
def zeroCm:Cm:=⟨0,0,0,ByteArray.empty,ByteArray.empty,ByteArray.empty,0⟩
def othP (k r n i:Int) (c:Cm) (len:Nat):Prop:=(¬ (k=1∨k=2)∧¬ (r=0∧n=0))∨(k=1∧i≠0)∨(¬ (k=2∨k=3)∧c≠zeroCm)∨¬ (k=4↔0<len)
noncomputable instance (k r n i:Int) (c:Cm) (len:Nat):Decidable (othP k r n i c len):=Classical.propDecidable _
theorem others_s (G:GH) (k r n i:Int) (c:Cm) (A:Option Addr) (len cap:Nat) (hl:len≤9223372036854775807) (hk:1≤k∧k≤4):Con Tryz.prog 124 #[.agg (recL k r n i c (.slice A len cap)).toArray,.agg (hasL k).toArray] G [] (Just (.bool (decide (othP k r n i c len))) G):=by
 apply Con.just
 (refine v_enter Tryz.func124 rfl Tryz.ntmps124 rfl ?_;intro B _)
 obtain rfl|rfl|rfl|rfl:k=1∨k=2∨k=3∨k=4:=by omega
 all_goals
  repeat' (first|apply v_pure;(case hop=>(apply neCm (c:=c) (c':=zeroCm);(case hx|hy=>rfl)));(case hd=>rfl)|apply v_seq|apply v_region|apply v_nil|apply v_skip|apply v_block|apply v_blk|apply v_take;(case hg=>rfl)|apply v_pass;(case hg|hn|hd=>rfl)|apply v_pure;(case hop=>first|apply p_move<;>rfl|apply p_gt<;>rfl|apply p_ne<;>rfl|apply p_assign<;>rfl|apply p_pickT<;>rfl|apply p_pickF<;>rfl|apply p_not<;>rfl|apply p_lenSlice<;>rfl|apply p_fieldAddrB<;>rfl|apply p_neB<;>rfl|apply p_build;(case hz=>rfl);(case hv=>(simp only [List.map_cons,List.map_nil];repeat (with_reducible exact evs_nil)));(case hb=>(apply bldL;repeat (exact bld_nil)))|fail);(case hd=>rfl)|apply v_condF;(case hc=>rfl)|apply v_cond;(case hc=>rfl);all_goals (intro h;(try simp only [reduceCtorEq,zzz] at h);try (exfalso;omega))|apply v_pure;(case hop=>(apply neBal;(case hx|hy=>rfl)));(case hd=>rfl)|apply v_box (zs:=recL _ r n i c (.slice A len cap));(case hx|hz|hd=>rfl);intro b|apply v_box (zs:=hasL _);(case hx|hz|hd=>rfl);intro b|apply v_read;(case hop=>first|apply r_loadNo;(case hx=>rfl);(case h=>repeat first|exact mhd _|apply mtl);(case hd=>repeat first|with_reducible exact dt_nil|apply dt_here);(case hn=>rfl)|apply r_load1;rfl;(apply Cell.own;(case h=>repeat first|exact mhd _|apply mtl);rfl)|fail);(case hd=>rfl)|fail)
 all_goals
  (refine v_ret [] (outsA1 rfl rfl) (by repeat (exact List.nil_sublist _)) ?_
   refine ⟨?_,rfl⟩
   first|(simp [othP,dec_eq, *];done)|(simp [othP,dec_eq, *];grind))
noncomputable def recI (k r n i:Int) (c:Cm) (len:Nat):Int :=
 if k<1∨4<k then 5 else if ¬ ranP k r n i then 6 else if k=4∧32768<len then 2 else if (k=2∨k=3)∧cmdI c≠0 then cmdI c else if othP k r n i c len then 3 else 0
theorem recCheck_s {G:GH}(hT:TabsG G) (k r n i:Int) (c:Cm) (hc:c.ok) (A:Option Addr) (len cap:Nat) (hl:len≤9223372036854775807):Con Tryz.prog 80 #[.agg (recL k r n i c (.slice A len cap)).toArray] G [] (Just (.int .i64 (recI k r n i c len)) G):=by
 have qc:=Con.just (cmdCheck_s hT c hc)
 have qf:=rfields_s G k
 apply Con.just
 (refine v_enter Tryz.func80 rfl Tryz.ntmps80 rfl ?_;intro B _)
 by_cases hk:1≤k∧k≤4
 ·rw [decide_eq_true hk] at qf
  have qr:=ranges_s G k r n i c (.slice A len cap) hk
  have qo:=others_s G k r n i c A len cap hl hk
  obtain rfl|rfl|rfl|rfl:k=1∨k=2∨k=3∨k=4:=by omega
  all_goals
   repeat' (first|apply v_seq|apply v_region|apply v_nil|apply v_skip|apply v_block|apply v_blk|apply v_take;(case hg=>rfl)|apply v_pass;(case hg|hn|hd=>rfl)|apply v_pure;(case hop=>first|apply p_move<;>rfl|apply p_gt<;>rfl|apply p_ne<;>rfl|apply p_assign<;>rfl|apply p_pickT<;>rfl|apply p_pickF<;>rfl|apply p_not<;>rfl|apply p_lenSlice<;>rfl|apply p_fieldAddrB<;>rfl|apply p_extract0<;>rfl|apply p_extract1<;>rfl|fail);(case hd=>rfl)|apply v_condT;(case hc=>rfl)|apply v_condF;(case hc=>rfl)|apply v_cond;(case hc=>rfl);all_goals (intro h;(try simp only [reduceCtorEq,zzz] at h))|apply v_box (zs:=recL _ r n i c (.slice A len cap));(case hx|hz|hd=>rfl);intro b|apply v_callJ (hs:=qf);(case ha|hd=>rfl)|apply v_callJ (hs:=qr);(case ha|hd=>rfl)|apply v_callJ (hs:=qo);(case ha|hd=>rfl)|apply v_callJ (hs:=qc);(case ha|hd=>rfl)|apply v_read;(case hop=>first|apply r_loadNo;(case hx=>rfl);(case h=>repeat first|exact mhd _|apply mtl);(case hd=>repeat first|with_reducible exact dt_nil|apply dt_here);(case hn=>rfl)|apply r_load1;rfl;(apply Cell.own;(case h=>repeat first|exact mhd _|apply mtl);rfl)|fail);(case hd=>rfl)|apply v_alloc;(case hz|hd=>rfl);intro b|apply v_store;(case hp|hx|hc|hsz|h1=>rfl);(case hb=>repeat exact mhd _);(case hfit=>exact nle rfl);(case hov=>((repeat (first|with_reducible exact ov_nil|apply ov_cons));done));(case hu=>repeat (exact Upd.here _ _))|fail)
  all_goals
   (refine v_ret [] (outsA1 rfl rfl) (by repeat (exact List.nil_sublist _)) ?_
    refine ⟨?_,rfl⟩
    first|(simp [recI, *];done)|(simp [recI, *];omega))
 ·have e:hasL k=[.bool false,.bool false,.bool false,.bool false]:=by unfold hasL;rw [if_neg (by omega),if_neg (by omega),if_neg (by omega),if_neg (by omega)]
  rw [decide_eq_false hk,e] at qf
  repeat' (first|apply v_seq|apply v_region|apply v_nil|apply v_block|apply v_pure;(case hop=>first|apply p_move<;>rfl|apply p_assign<;>rfl|apply p_not<;>rfl|apply p_fieldAddrB<;>rfl|apply p_extract0<;>rfl|apply p_extract1<;>rfl|fail);(case hd=>rfl)|apply v_condT;(case hc=>rfl)|apply v_box (zs:=recL _ r n i c (.slice A len cap));(case hx|hz|hd=>rfl);intro b|apply v_callJ (hs:=qf);(case ha|hd=>rfl)|apply v_read;(case hop=>(apply r_load1;rfl;(apply Cell.own;(case h=>repeat exact mhd _);rfl)));(case hd=>rfl)|apply v_alloc;(case hz|hd=>rfl);intro b|apply v_store;(case hp|hx|hc|hsz|h1=>rfl);(case hb=>repeat exact mhd _);(case hfit=>exact nle rfl);(case hov=>((repeat (first|with_reducible exact ov_nil|apply ov_cons));done));(case hu=>repeat (exact Upd.here _ _))|fail)
  refine v_ret [] (outsA1 rfl rfl) (by repeat (exact List.nil_sublist _)) ?_
  refine ⟨?_,rfl⟩
  rw [recI,if_pos (by omega)]
theorem hasBallot_s (G:GH) (k:Int):Con Tryz.prog 94 #[.int .i64 k] G [] (Just (.bool (decide (k=1∨k=2))) G):=by
 (refine v_enter Tryz.func94 rfl Tryz.ntmps94 rfl ?_;intro B _)
 repeat' (first|apply v_seq|apply v_region|apply v_nil|apply v_take;(case hg=>rfl)|apply v_pass;(case hg|hn|hd=>rfl)|apply v_pure;(case hop=>first|apply p_move<;>rfl|apply p_eq<;>rfl|apply p_assign<;>rfl|apply p_pickT<;>rfl|apply p_pickF<;>rfl|fail);(case hd=>rfl)|apply v_guardB;(case h1|h2=>rfl);all_goals (intro h;(try simp only [reduceCtorEq,zzz] at h))|fail)
 all_goals
  (refine v_ret [] (outsA1 rfl rfl) (by repeat (exact List.Sublist.refl _)) ?_
   refine ⟨?_,rfl,rfl⟩
   (simp [dec_eq, *];done))
theorem hasIndex_s (G:GH) (k:Int):Con Tryz.prog 95 #[.int .i64 k] G [] (Just (.bool (decide (k=2∨k=3∨k=4))) G):=by
 (refine v_enter Tryz.func95 rfl Tryz.ntmps95 rfl ?_;intro B _)
 repeat' (first|apply v_seq|apply v_region|apply v_nil|apply v_take;(case hg=>rfl)|apply v_pass;(case hg|hn|hd=>rfl)|apply v_pure;(case hop=>first|apply p_move<;>rfl|apply p_eq<;>rfl|apply p_assign<;>rfl|apply p_pickT<;>rfl|apply p_pickF<;>rfl|fail);(case hd=>rfl)|apply v_guardB;(case h1|h2=>rfl);all_goals (intro h;(try simp only [reduceCtorEq,zzz] at h))|fail)
 all_goals
  (refine v_ret [] (outsA1 rfl rfl) (by repeat (exact List.Sublist.refl _)) ?_
   refine ⟨?_,rfl,rfl⟩
   (simp [dec_eq, *];done))
theorem hasCmd_s (G:GH) (k:Int):Con Tryz.prog 89 #[.int .i64 k] G [] (Just (.bool (decide (k=2∨k=3))) G):=by
 (refine v_enter Tryz.func89 rfl Tryz.ntmps89 rfl ?_;intro B _)
 repeat' (first|apply v_seq|apply v_region|apply v_nil|apply v_take;(case hg=>rfl)|apply v_pass;(case hg|hn|hd=>rfl)|apply v_pure;(case hop=>first|apply p_move<;>rfl|apply p_eq<;>rfl|apply p_assign<;>rfl|apply p_pickT<;>rfl|apply p_pickF<;>rfl|fail);(case hd=>rfl)|apply v_guardB;(case h1|h2=>rfl);all_goals (intro h;(try simp only [reduceCtorEq,zzz] at h))|fail)
 all_goals
  (refine v_ret [] (outsA1 rfl rfl) (by repeat (exact List.Sublist.refl _)) ?_
   refine ⟨?_,rfl,rfl⟩
   (simp [dec_eq, *];done))
set_option maxHeartbeats 4000000 in
theorem refRecCheck_s {G:GH}(k r n i:Int) (c:Cm) (hc:c.ok) (A:Option Addr) (len cap:Nat) (hl:len≤9223372036854775807):Con Tryz.prog 88 #[.agg (recL k r n i c (.slice A len cap)).toArray] G [] (Just (.int .i64 (recI k r n i c len)) G):=by
 have qc:=Con.just (refCmdCheck_s (G:=G) c hc)
 have qb:=hasBallot_s G k
 have qi:=hasIndex_s G k
 have qm:=hasCmd_s G k
 apply Con.just
 (refine v_enter Tryz.func88 rfl Tryz.ntmps88 rfl ?_;intro B _)
 by_cases hk:1≤k∧k≤4
 ·obtain rfl|rfl|rfl|rfl:k=1∨k=2∨k=3∨k=4:=by omega
  all_goals
   (first|rw [decide_eq_true (by omega)] at qb|rw [decide_eq_false (by omega)] at qb)
   (first|rw [decide_eq_true (by omega)] at qi|rw [decide_eq_false (by omega)] at qi)
   (first|rw [decide_eq_true (by omega)] at qm|rw [decide_eq_false (by omega)] at qm)
   repeat' (first|apply v_pure;(case hop=>(apply neCm (c:=c) (c':=zeroCm);(case hx|hy=>rfl)));(case hd=>rfl)|apply v_seq|apply v_region|apply v_nil|apply v_skip|apply v_take;(case hg=>rfl)|apply v_pass;(case hg|hn|hd=>rfl)|apply v_passN;(case hg|hn|hd=>rfl)|apply v_pure;(case hop=>first|apply p_move<;>rfl|apply p_eqs<;>rfl|apply p_eq<;>rfl|apply p_lt<;>rfl|apply p_gt<;>rfl|apply p_ne<;>rfl|apply p_assign<;>rfl|apply p_pickT<;>rfl|apply p_pickF<;>rfl|apply p_not<;>rfl|apply p_lenSlice<;>rfl|apply p_fieldAddrB<;>rfl|apply p_neB<;>rfl|apply p_build;(case hz=>rfl);(case hv=>(simp only [List.map_cons,List.map_nil];repeat (with_reducible exact evs_nil)));(case hb=>(apply bldL;repeat (exact bld_nil)))|fail);(case hd=>rfl)|apply v_condT;(case hc=>rfl)|apply v_condF;(case hc=>rfl)|apply v_cond;(case hc=>rfl);all_goals (intro h;(try simp only [reduceCtorEq,zzz] at h);try (exfalso;omega))|apply v_guardB;(case h1|h2=>rfl);all_goals (intro h;(try simp only [reduceCtorEq,zzz] at h);try (exfalso;omega))|apply v_box (zs:=recL _ r n i c (.slice A len cap));(case hx|hz|hd=>rfl);intro b|apply v_callJ (hs:=qb);(case ha|hd=>rfl)|apply v_callJ (hs:=qi);(case ha|hd=>rfl)|apply v_callJ (hs:=qm);(case ha|hd=>rfl)|apply v_callJ (hs:=qc);(case ha|hd=>rfl)|apply v_callJ (hs:=refMay_s _ _ _);(case ha|hd=>rfl)|apply v_read;(case hop=>first|apply r_loadNo;(case hx=>rfl);(case h=>repeat exact mhd _);(case hd=>repeat first|with_reducible exact dt_nil|apply dt_here);(case hn=>rfl)|apply r_load1;rfl;(apply Cell.own;(case h=>repeat exact mhd _);rfl)|fail);(case hd=>rfl)|fail)
  all_goals
   (refine v_ret [] (outsA1 rfl rfl) (by repeat (exact List.nil_sublist _)) ?_
    refine ⟨?_,rfl⟩
    clear qc qb qi qm hc
    congr 1
    (try simp only [dec_eq] at *)
    (try unfold mayP at *)
    unfold recI ranP othP mayP
    grind)
 ·repeat' (first|apply v_seq|apply v_region|apply v_nil|apply v_take;(case hg=>rfl)|apply v_pass;(case hg|hn|hd=>rfl)|apply v_pure;(case hop=>first|apply p_move<;>rfl|apply p_lt<;>rfl|apply p_gt<;>rfl|apply p_assign<;>rfl|apply p_pickT<;>rfl|apply p_pickF<;>rfl|apply p_fieldAddrB<;>rfl|fail);(case hd=>rfl)|apply v_condT;(case hc=>rfl)|apply v_cond;(case hc=>rfl);all_goals (intro h;(try simp only [reduceCtorEq,zzz] at h);try (exfalso;omega))|apply v_guardB;(case h1|h2=>rfl);all_goals (intro h;(try simp only [reduceCtorEq,zzz] at h))|apply v_box (zs:=recL _ r n i c (.slice A len cap));(case hx|hz|hd=>rfl);intro b|apply v_read;(case hop=>(apply r_load1;rfl;(apply Cell.own;(case h=>repeat exact mhd _);rfl)));(case hd=>rfl)|fail)
  all_goals
   (refine v_ret [] (outsA1 rfl rfl) (by repeat (exact List.nil_sublist _)) ?_
    refine ⟨?_,rfl⟩
    rw [recI,if_pos (by omega)])
theorem bSame_s {G:GH}{a b:List Int}{av bv:Value}(ha:Sl G 1 (IntR .u8) av a) (hb:Sl G 1 (IntR .u8) bv b):Con Tryz.prog 16 #[av,bv] G [] (Just (.bool (decide (a=b))) G):=by
 obtain ⟨A,c,rfl,hlc,hcm,hsome,hel,_⟩:=ha.openInt
 obtain ⟨A',c',rfl,hlc',hcm',hsome',hel',_⟩:=hb.openInt
 simp only [maxLen] at hcm hcm'
 (refine v_enter Tryz.func16 rfl Tryz.ntmps16 rfl ?_;intro B _)
 repeat' (first|apply v_seq|apply v_region|apply v_nil|apply v_skip|apply v_block|apply v_pure;(case hop=>first|apply p_move<;>rfl|apply p_ne<;>rfl|apply p_assign<;>rfl|apply p_lenSlice<;>rfl|fail);(case hd=>rfl)|apply v_cond;(case hc=>rfl);all_goals (intro h;(try simp only [reduceCtorEq,zzz] at h))|fail)
 ·refine v_ret [] (outsA1 rfl rfl) (by repeat (exact List.Sublist.refl _)) ?_
  refine ⟨?_,rfl,rfl⟩
  rw [decide_eq_false]
  intro e
  subst e
  omega
 have hab:a.length=b.length:=by omega
 refine v_loop [5,0,1] (fun us G' μ'=>G'=G∧μ'=[]∧∃ k,k≤a.length∧us=[Value.int .i64 (k:Nat),.slice A a.length c,.slice A' b.length c']∧∀ i (h:i<a.length) (h':i<b.length),i<k→a[i]=b[i]) (fun us=>a.length-(headI us).toNat) rfl ⟨rfl,rfl,0,by omega,rfl,by omega⟩ ?_
 rintro us G' μ' ⟨rfl,rfl,k,hk,rfl,hno⟩
 repeat' (first|apply v_seq|apply v_region|apply v_nil|apply v_skip|apply v_block|apply v_exit;(case hp=>rfl)|apply v_pure;(case hop=>first|apply p_move<;>rfl|apply p_lt<;>rfl|apply p_assign<;>rfl|apply p_lenSlice<;>rfl|fail);(case hd=>rfl)|apply v_cond;(case hc=>rfl);all_goals (intro h;(try simp only [reduceCtorEq,zzz] at h))|fail)
 ·refine d_start [] (by kernel_rfl) (by kernel_rfl) (by kernel_rfl) (by intro e he;exact he) ?_
  all_goals (apply dtm 0;(case hi|hx=>rfl);(case hq=>kernel_rfl);apply dtm 1;(case hi|hx=>rfl);(case hq=>kernel_rfl))
  all_goals (apply dtk 2;(case hi=>rfl);(case hop=>(apply prd;apply p_indexAddrS;(case hx|hi=>rfl);(case h0|h=>omega);(case hA=>(apply_assumption;omega))));(case hq=>kernel_rfl))
  all_goals (apply dtk 3;(case hi=>rfl);(case hop=>((apply r_load1;rfl;exact Cell.frozen (hel _ (by omega)))));(case hq=>kernel_rfl))
  all_goals (apply dtm 4;(case hi|hx=>rfl);(case hq=>kernel_rfl);apply dtm 5;(case hi|hx=>rfl);(case hq=>kernel_rfl))
  all_goals (apply dtk 6;(case hi=>rfl);(case hop=>(apply prd;apply p_indexAddrS;(case hx|hi=>rfl);(case h0|h=>omega);(case hA=>(apply_assumption;omega))));(case hq=>kernel_rfl))
  all_goals (apply dtk 7;(case hi=>rfl);(case hop=>((apply r_load1;rfl;exact Cell.frozen (hel' _ (by omega)))));(case hq=>kernel_rfl))
  all_goals (apply dtk 8;(case hi=>rfl);(case hop=>(apply prd;apply p_ne<;>rfl));(case hq=>kernel_rfl))
  all_goals (apply d_done;(case hr=>kernel_rfl))
  repeat' (first|apply v_seq|apply v_region|apply v_nil|apply v_skip|apply v_blk|apply v_pure;(case hop=>first|apply p_move<;>rfl|apply p_assign<;>rfl|apply p_add;(case hx|hy=>rfl);(case h=>omega)|fail);(case hd=>rfl)|apply v_cond;(case hc=>rfl);all_goals (intro h;(try simp only [reduceCtorEq,zzz] at h))|fail)
  ·refine v_ret [] (outsA1 rfl rfl) (by repeat (exact List.Sublist.refl _)) ?_
   refine ⟨?_,rfl,rfl⟩
   rw [decide_eq_false]
   intro e
   subst e
   contradiction
  ·refine v_again rfl ⟨rfl,rfl,k+1,by omega,rfl,fun i h h' hi=>?_⟩ (by simp [headI];omega)
   by_cases hik:i=k
   ·subst hik;assumption
   ·exact hno i h h' (by omega)
 ·refine v_ret [] (outsA1 rfl rfl) (by repeat (exact List.Sublist.refl _)) ?_
  refine ⟨?_,rfl,rfl⟩
  rw [decide_eq_true]
  exact List.ext_getElem hab fun i h h'=>hno i h h' (by omega)
structure Rc where
 kind:Int
 round:Int
 node:Int
 index:Int
 cmd:Cm
 image:List Int
def RcV (G:GH) (x:Rc) (v:Value):Prop := ∃ iv,v=.agg (recL x.kind x.round x.node x.index x.cmd iv).toArray∧Sl G 1 (IntR .u8) iv x.image
theorem RcV.le {G G':GH}(h:GH.le G G') {x:Rc}{v:Value}(hx:RcV G x v):RcV G' x v:=let ⟨iv,h1,h2⟩:=hx;⟨iv,h1,h2.mono h⟩
def Rc.large (x:Rc):Prop:=200<x.cmd.key.size∨200<x.cmd.val.size∨200<x.cmd.old.size∨(300<x.image.length∧x.image.length<32760)∨32780<x.image.length
instance (x:Rc):Decidable x.large:=by unfold Rc.large;infer_instance
theorem recLarge_s {G:GH}{x:Rc}{xv:Value}(hx:RcV G x xv) (hc:x.cmd.ok):Con Tryz.prog 58 #[xv] G [] (Just (.bool (decide x.large)) G):=by
 obtain ⟨k,r,n,i,c,im⟩:=x
 obtain ⟨iv,rfl,hi⟩:=hx
 obtain ⟨A,cp,rfl,hlc,hcm,_⟩:=hi.openInt
 obtain ⟨_,_,_,hk,hv,ho,_⟩:=hc
 simp only [maxLen] at hk hv ho hcm
 simp only at hlc hi
 apply Con.just
 (refine v_enter Tryz.func58 rfl Tryz.ntmps58 rfl ?_;intro B _)
 repeat' (first|apply v_seq|apply v_region|apply v_nil|apply v_take;(case hg=>rfl)|apply v_pass;(case hg|hn|hd=>rfl)|apply v_passN;(case hg|hn|hd=>rfl)|apply v_pure;(case hop=>first|apply p_move<;>rfl|apply p_lt<;>rfl|apply p_gt<;>rfl|apply p_assign<;>rfl|apply p_pickT<;>rfl|apply p_pickF<;>rfl|apply p_lenSlice<;>rfl|apply p_fieldAddrB<;>rfl|apply p_lenString<;>rfl|fail);(case hd=>rfl)|apply v_guardB;(case h1|h2=>rfl);all_goals (intro h;(try simp only [reduceCtorEq,zzz] at h))|apply v_box (zs:=recL k r n i c (.slice A im.length cp));(case hx|hz|hd=>rfl);intro b1|apply v_read;(case hop=>(apply r_load1;rfl;(apply Cell.own;(case h=>repeat exact mhd _);rfl)));(case hd=>rfl)|fail)
 all_goals
  (refine v_ret [] (outsA1 rfl rfl) (by repeat (exact List.nil_sublist _)) ?_
   refine ⟨?_,rfl⟩
   (try simp only [dec_eq])
   congr 1
   (try rw [decide_eq_decide])
   (try symm)
   first
    |(rw [decide_eq_true_iff];unfold Rc.large;simp only;omega)
    |(rw [decide_eq_false_iff_not];unfold Rc.large;simp only;omega)
    |(unfold Rc.large;simp only;omega))
theorem p_convU8 {σ:Env}{ty:TypeId}{x:Operand}{k k'':IntKind}{a:Int}{t u:TypeId} [Ty Tryz.prog t (.int k'')] [Ty Tryz.prog u (.int .u8)] (hx:Env.ev σ x=some (.int k a)):PureOp Tryz.prog (.convert t u x) ty σ (.int .u8 (a % 256)):=by
 have:=p_conv (P:=Tryz.prog) (ty:=ty) (t:=t) (u:=u) hx
 rwa [IntKind.wrap_u8] at this
theorem or128:∀ a:Nat,a<256→(BitVec.ofNat 8 a ||| 128#8).toNat=a % 128+128:=by decide +kernel
theorem p_or128 {σ:Env}{ty:TypeId}{x y:Operand}{a:Int}{t t':TypeId}(hx:Env.ev σ x=some (.int .u8 (a % 256))) (hy:Env.ev σ y=some (.int .u8 128)):PureOp Tryz.prog (.binOp .or t x y t') ty σ (.int .u8 (a % 128+128)):=by
 have:=p_or (P:=Tryz.prog) (ty:=ty) (t:=t) (t':=t') hx hy
 have e:IntKind.u8.wrap (BitVec.ofInt IntKind.u8.bits (a % 256) ||| BitVec.ofInt IntKind.u8.bits 128).toNat=a % 128+128:=by
  obtain ⟨m,hm⟩:=Int.eq_ofNat_of_zero_le (Int.emod_nonneg a (show (256:Int)≠0 by decide))
  have hlt:m<256:=by omega
  have h1:=or128 m hlt
  rw [hm]
  have e1:BitVec.ofInt IntKind.u8.bits (m:Int)=BitVec.ofNat 8 m:=by
   show BitVec.ofInt 8 (m:Int)=_
   exact BitVec.ofInt_natCast 8 m
  have e2:BitVec.ofInt IntKind.u8.bits 128=128#8:=rfl
  rw [e1,e2]
  show IntKind.u8.wrap (((BitVec.ofNat 8 m ||| 128#8).toNat:Nat):Int)=_
  rw [h1,IntKind.wrap_u8]
  omega
 rwa [e] at this
attribute [local semireducible] PureOp in
theorem p_shr7 {σ:Env}{ty:TypeId}{x y:Operand}{k':IntKind}{a:Int}{t t':TypeId}(hx:Env.ev σ x=some (.int .i64 a)) (hy:Env.ev σ y=some (.int k' 7)):PureOp Tryz.prog (.binOp .shr t x y t') ty σ (.int .i64 (a / 128)):=by
 intro dst pos af g ρ hρ w
 have:=shift_shr .i64 k' a 7 (by decide) (by decide)
 simp [execOp,hρ _ _ hx,hρ _ _ hy,eqGuard,binOp_shr,this]
def vb:Nat→Int→List Int
 | 0,n => [n]
 | f+1,n=>if n<128 then [n] else (n % 128+128)::vb f (n / 128)
theorem vb_succ (f:Nat) (n:Int):vb (f+1) n=if n<128 then [n] else (n % 128+128)::vb f (n / 128):=rfl
def vbytes (n:Int):List Int:=vb 10 (max n 0)
theorem vb_wf:∀ (f:Nat) (n:Int),0≤n→n<128 ^ (f+1)→∀ x∈vb f n,0≤x∧x≤255
 | 0,n,h0,h,x,hx=>by simp [vb] at hx;subst hx;omega
 | f+1,n,h0,h,x,hx=>by
  unfold vb at hx
  split at hx
  ·simp at hx;omega
  ·simp only [List.mem_cons] at hx
   rcases hx with rfl|hx
   ·omega
   ·refine vb_wf f (n / 128) (by omega) ?_ x hx
    have:(128:Int) ^ (f+1+1)=128*128 ^ (f+1):=by rw [Int.pow_succ,Int.mul_comm]
    omega
theorem vb_len:∀ (f:Nat) (n:Int),(vb f n).length≤f+1∧1≤(vb f n).length
 | 0,n=>by simp [vb]
 | f+1,n=>by
  unfold vb
  split
  ·simp
  ·have:=vb_len f (n / 128)
   simp only [List.length_cons];omega
theorem p128 (n:Int) (hn:n≤9223372036854775807):max n 0<128 ^ (10+1):=by
 have:(128:Int) ^ (10+1)=151115727451828646838272:=by decide
 omega
theorem vbytes_wf {n:Int}(h:n≤9223372036854775807):∀ x∈vbytes n,(Lit.int .u8 x).wf=true:=fun x hx=>by
 have:=vb_wf 10 (max n 0) (by omega) (p128 n h) x hx
 exact WalkArith.wf_u8 (by omega)
theorem vbytes_len (n:Int):(vbytes n).length≤11∧1≤(vbytes n).length:=vb_len 10 _
theorem bclone_s {G:GH}{l:List Int}{sv:Value}(hs:Sl G 1 (IntR .u8) sv l) (hl:l.length≤1048576):Con Tryz.prog 76 #[sv] G [] (fun r G' μ'=>G'=G∧Grow 5 1 r l.length (l.map (.int .u8 ·)) μ'):=by
 obtain ⟨A,c,rfl,hlc,hcm,hsome,hel,_⟩:=hs.openInt
 simp only [maxLen] at hcm
 (refine v_enter Tryz.func76 rfl Tryz.ntmps76 rfl ?_;intro B _)
 repeat' (first|apply v_seq|apply v_region|apply v_nil|apply v_skip|apply v_pure;(case hop=>first|apply p_move<;>rfl|apply p_assign<;>rfl|apply p_eqNilSlice<;>rfl);(case hd=>rfl)|apply v_cond;(case hc=>rfl);all_goals (intro h;(try simp only [reduceCtorEq,zzz] at h))|apply v_buildSlice;(case hz|hi=>rfl);(case hv=>(simp only [List.map_cons,List.map_nil];repeat (with_reducible exact evs_nil)));(case hp=>(with_reducible exact pk_nil));(case hb|hd=>rfl);intro b|fail)
 ·refine v_ret [] (outsA1 rfl rfl) (by repeat (exact List.Sublist.refl _)) ?_
  have:l=[]:=by
   cases l with
   | nil=>rfl
   | cons a l=>have:=hsome (by simp);simp_all
  subst this
  exact ⟨rfl,Grow.nil _ _⟩
 ·refine v_append (e:=5) (sz:=1) (zero:=.int .u8 0) rfl (by omega) rfl rfl Grow.empty (List.Perm.refl _) (Src.ints hs) (allOne_ints l) (by omega) (by simp only [maxLen];omega) rfl ?_
  intro v' ν' hg
  repeat' (first|apply v_nil|apply v_pure;(case hop=>(apply p_assign<;>rfl));(case hd=>rfl)|fail)
  refine v_ret ν' (outsA1 rfl rfl) (by simp) ?_
  rw [Nat.zero_add,List.nil_append] at hg
  exact ⟨rfl,hg⟩
theorem pushLen {l xs:List Int}{y:Int}:(l++(xs++[y])).length=(l++xs).length+1:=by simp;omega
theorem pushMap {l xs:List Int}{y:Int}:(l++(xs++[y])).map (Value.int .u8 ·)=(l++xs).map (Value.int .u8 ·)++[.int .u8 y]:=by simp
theorem put_s {G:GH}{l:List Int}{sv:Value}(n:Int) (hs:Sl G 1 (IntR .u8) sv l) (hl:l.length≤1048000) (hn:n≤9223372036854775807):Con Tryz.prog 101 #[sv,.int .i64 n] G [] (fun r G' μ'=>G'=G∧Grow 5 1 r (l++vbytes n).length ((l++vbytes n).map (.int .u8 ·)) μ'):=by
 (refine v_enter Tryz.func101 rfl Tryz.ntmps101 rfl ?_;intro B _)
 repeat' (first|apply v_seq|apply v_region|apply v_nil|apply v_pure;(case hop=>first|apply p_move<;>rfl|apply p_assign<;>rfl|fail);(case hd=>rfl)|fail)
 refine v_call (μ1:=[]) (μ2:=_) rfl (bclone_s hs (by omega)) (List.Perm.refl _) rfl ?_
 rintro r G' μ1 - ⟨rfl,hg⟩
 repeat' (first|apply v_seq|apply v_region|apply v_nil|apply v_block|apply v_pure;(case hop=>first|apply p_move<;>rfl|apply p_assign<;>rfl|apply p_max<;>rfl|fail);(case hd=>rfl)|fail)
 refine v_loopI (ι:=Nat×Int×List Int) [5,1] (fun x us G2 μ'=>G2=G'∧∃ v,us=[v,Value.int .i64 x.2.1]∧Grow 5 1 v (l++x.2.2).length ((l++x.2.2).map (.int .u8 ·)) μ'∧0≤x.2.1∧x.2.1<128 ^ (x.1+1)∧x.2.1≤9223372036854775807∧x.1≤10∧x.2.2.length≤10-x.1∧vbytes n=x.2.2++vb x.1 x.2.1) (fun x=>x.1) rfl (10,max n 0,[]) ⟨rfl,_,rfl,by simpa using hg,by simp only;omega,p128 n hn,by simp only;omega,by simp,by simp,rfl⟩ ?_
 rintro ⟨f,m,xs⟩ us G2 μ' ⟨rfl,v,rfl,hg2,h0,hlt,hm,hf,hx,he⟩
 simp only at hg2 h0 hlt hm hf hx he
 repeat' (first|apply v_pure;(case hop=>(apply p_convU8;(case hx=>rfl)));(case hd=>rfl)|apply v_seq|apply v_region|apply v_nil|apply v_skip|apply v_block|apply v_exit;(case hp=>rfl)|apply v_pure;(case hop=>first|apply p_move<;>rfl|apply p_ge<;>rfl|fail);(case hd=>rfl)|apply v_cond;(case hc=>rfl);all_goals (intro h;(try simp only [reduceCtorEq,zzz] at h))|apply v_pure;(case hop=>(apply p_or128;(case hx|hy=>rfl)));(case hd=>rfl)|apply v_buildSlice;(case hz|hi=>rfl);(case hv=>(simp only [List.map_cons,List.map_nil];repeat (first|with_reducible exact evs_nil|apply evs_cons;(case h1=>rfl))));(case hp=>(apply pk_cons;(case hc|hs=>rfl);(case h=>(with_reducible exact pk_nil));(case he=>((repeat (first|with_reducible exact ap_nil|apply ap_cons));done))));(case hb|hd=>rfl);intro b|fail)
 ·obtain ⟨f',rfl⟩:∃ f',f=f'+1:=by
   cases f with
   | zero=>simp at hlt;omega
   | succ f'=>exact ⟨f',rfl⟩
  have hvb:vb (f'+1) m=(m % 128+128)::vb f' (m / 128):=by rw [vb_succ,if_neg (by omega)]
  refine v_append (e:=5) (sz:=1) (zero:=.int .u8 0) (m':=1) (us:=[.int .u8 (m % 128+128)]) rfl (by omega) rfl rfl hg2 (PickA.perm (by repeat (first|exact PickA.last|apply PickA.cons))) (Src.own (List.Mem.head _) rfl) rfl (by simp;omega) (by simp [maxLen];omega) rfl ?_
  intro v' ν' hg'
  repeat' (first|apply v_region|apply v_nil|apply v_blk|apply v_pure;(case hop=>first|apply p_move<;>rfl|apply p_assign<;>rfl|fail);(case hd=>rfl)|apply v_pure;(case hop=>(apply p_shr7;(case hx|hy=>rfl)));(case hd=>rfl)|fail)
  refine v_only ν' (by repeat (exact PickA.here _)) ?_
  refine v_againI (f',m / 128,xs++[m % 128+128]) rfl ⟨rfl,v',rfl,?_,by simp only;omega,?_,by simp only;omega,by simp only;omega,by simp;omega,?_⟩ (by simp)
  ·simp only
   rw [pushLen,pushMap]
   exact hg'
  ·simp only
   have:(128:Int) ^ (f'+1+1)=128*128 ^ (f'+1):=by rw [Int.pow_succ,Int.mul_comm]
   omega
  ·simp only
   rw [he,hvb];simp
 ·have hvb:vb f m=[m]:=by
   cases f with
   | zero=>rfl
   | succ f=>rw [vb_succ,if_pos (by omega)]
  refine v_append (e:=5) (sz:=1) (zero:=.int .u8 0) (m':=1) (us:=[.int .u8 (m % 256)]) rfl (by omega) rfl rfl hg2 (PickA.perm (by repeat (first|exact PickA.last|apply PickA.cons))) (Src.own (List.Mem.head _) rfl) rfl (by simp;omega) (by simp [maxLen];omega) rfl ?_
  intro v' ν' hg'
  repeat' (first|apply v_nil|apply v_pure;(case hop=>(apply p_assign<;>rfl));(case hd=>rfl)|fail)
  refine v_ret ν' (outsA1 rfl rfl) (by repeat (exact List.sublist_append_left _ _)) ?_
  refine ⟨rfl,?_⟩
  rw [he,hvb,pushLen,pushMap]
  rw [show m % 256=m by omega] at hg'
  exact hg'
theorem wnumber_s {G:GH}{l:List Int}{sv:Value}(wb:Nat) (n:Int) (hs:Sl G 1 (IntR .u8) sv l) (hl:l.length≤1048000) (hn:n≤9223372036854775807) :
 Con Tryz.prog 86 #[.pointer (some ⟨wb,0,none⟩),.int .i64 n] G [(wb,.cells [sv].toArray 130 (0,0))]
  (fun r G' μ'=>∃ v',μ'=[(wb,.cells [v'].toArray 130 (0,0))]∧Sl G' 1 (IntR .u8) v' (l++vbytes n)):=by
 obtain ⟨A,c,rfl,hlc,hcm,hsome,hel,hwf⟩:=hs.openInt
 (refine v_enter Tryz.func86 rfl Tryz.ntmps86 rfl ?_;intro B _)
 repeat' (first|apply v_seq|apply v_region|apply v_nil|apply v_pure;(case hop=>first|apply p_move<;>rfl|apply p_fieldAddrB<;>rfl|apply p_nilCheck<;>rfl|apply p_neNil<;>rfl|fail);(case hd=>rfl)|apply v_condT;(case hc=>rfl)|apply v_read;(case hop=>(apply r_load1;rfl;(apply Cell.own;(case h=>repeat exact mhd _);rfl)));(case hd=>rfl)|fail)
 refine v_call (μ1:=[]) (μ2:=_) rfl (put_s n hs hl hn) (List.Perm.refl _) rfl ?_
 rintro r G' μ1 - ⟨rfl,hg⟩
 obtain ⟨A1,c1,rfl,_⟩:=hg.shape
 refine v_frz μ1 (by repeat (exact PickA.here _)) ?_
 intro G1 hle hG
 repeat' (first|apply v_nil|apply v_pure;(case hop=>first|apply p_fieldAddrB<;>rfl|apply p_nilCheck<;>rfl|fail);(case hd=>rfl)|apply v_store;(case hp|hx|hc|hsz|h1=>rfl);(case hb=>repeat exact mhd _);(case hfit=>exact nle rfl);(case hov=>((repeat (first|with_reducible exact ov_nil|apply ov_cons));done));(case hu=>repeat (exact Upd.here _ _))|fail)
 refine v_end [(wb,_)] (outsA0 rfl) (by repeat (exact List.Sublist.refl _)) ?_
 refine ⟨_,rfl,hg.ints hG fun x hx=>?_⟩
 rcases List.mem_append.1 hx with hx|hx
 ·exact hwf x hx
 ·exact vbytes_wf hn x hx
theorem wbytes_s {G:GH}{l:List Int}{sv:Value}(wb:Nat) (hs:Sl G 1 (IntR .u8) sv l) (hl:l.length≤1048000) :
 Con Tryz.prog 87 #[.pointer (some ⟨wb,0,none⟩)] G [(wb,.cells [sv].toArray 130 (0,0))]
  (fun r G' μ'=>μ'=[]∧Sl G' 1 (IntR .u8) r l):=by
 obtain ⟨A,c,rfl,hlc,hcm,hsome,hel,hwf⟩:=hs.openInt
 (refine v_enter Tryz.func87 rfl Tryz.ntmps87 rfl ?_;intro B _)
 repeat' (first|apply v_seq|apply v_region|apply v_nil|apply v_skip|apply v_pure;(case hop=>first|apply p_move<;>rfl|apply p_assign<;>rfl|apply p_fieldAddrB<;>rfl|apply p_nilCheck<;>rfl|apply p_eqNil<;>rfl|fail);(case hd=>rfl)|apply v_condF;(case hc=>rfl)|apply v_read;(case hop=>(apply r_load1;rfl;(apply Cell.own;(case h=>repeat exact mhd _);rfl)));(case hd=>rfl)|fail)
 refine v_call (μ1:=[]) (μ2:=_) rfl (bclone_s hs (by omega)) (List.Perm.refl _) rfl ?_
 rintro r G' μ1 - ⟨rfl,hg⟩
 refine v_frz μ1 (by repeat (exact PickA.here _)) ?_
 intro G1 hle hG
 repeat' (first|apply v_nil|apply v_pure;(case hop=>(apply p_assign<;>rfl));(case hd=>rfl)|fail)
 refine v_ret [] (outsA1 rfl rfl) (by repeat (exact List.nil_sublist _)) ?_
 exact ⟨rfl,hg.ints hG hwf⟩
end Go.Proofs.YtpemabgfmnhhnaaGreatDoor
/-
  recone (layer 16), the fifth part: what V1 has; the example.
-/
namespace Go.Proofs.YtpemabgfmnhhnaaGreatDoor
open Go.Vx Go.ChangeShapes Go.WideShapes Go.ChangeAt Go.RowKit
def HasV (v k:Int):Prop:=(v=1∧1≤k∧k≤8∧k≠5)∨(v=2∧1≤k∧k≤8)
instance (v k:Int):Decidable (HasV v k):=by unfold HasV;infer_instance
theorem vmay_s (G:GH) (v:Int):Con Tryz.prog 47 #[.int .i64 v] G [] (Just (.bool (decide (v=1∨v=2))) G):=by
 (refine v_enter Tryz.func47 rfl Tryz.ntmps47 rfl ?_;intro B _)
 repeat' (first|apply v_seq|apply v_region|apply v_nil|apply v_skip|apply v_block|apply v_blk|apply v_exit;(case hp=>rfl)|apply v_pure;(case hop=>first|apply p_move<;>rfl|apply p_eq<;>rfl|apply p_assign<;>rfl|fail);(case hd=>rfl)|apply v_cond;(case hc=>rfl);all_goals (intro h;(try simp only [reduceCtorEq,zzz] at h))|fail)
 all_goals
  (refine v_ret [] (outsA1 rfl rfl) (by repeat (exact List.Sublist.refl _)) ?_
   refine ⟨?_,rfl,rfl⟩
   (simp [dec_eq, *];done))
theorem vhas_s (G:GH) (v k:Int):Con Tryz.prog 170 #[.int .i64 v,.int .i64 k] G [] (Just (.bool (decide (HasV v k))) G):=by
 (refine v_enter Tryz.func170 rfl Tryz.ntmps170 rfl ?_;intro B _)
 repeat' (first|apply v_seq|apply v_region|apply v_nil|apply v_skip|apply v_block|apply v_blk|apply v_pure;(case hop=>first|apply p_move<;>rfl|apply p_eq<;>rfl|apply p_ge<;>rfl|apply p_assign<;>rfl|apply p_not<;>rfl|fail);(case hd=>rfl)|apply v_cond;(case hc=>rfl);all_goals (intro h;(try simp only [reduceCtorEq,zzz] at h);try (exfalso;omega))|apply v_callJ (hs:=vmay_s _ _);(case ha|hd=>rfl)|fail)
 all_goals
  (refine v_ret [] (outsA1 rfl rfl) (by repeat (exact List.Sublist.refl _)) ?_
   refine ⟨?_,rfl,rfl⟩
   (try simp only [dec_eq])
   congr 1
   (try symm)
   first
    |(rw [decide_eq_true_iff];unfold HasV;omega)
    |(rw [decide_eq_false_iff_not];unfold HasV;omega)
    |(rw [decide_eq_decide];unfold HasV;omega))
theorem refVHas_s (G:GH) (v k:Int):Con Tryz.prog 90 #[.int .i64 v,.int .i64 k] G [] (Just (.bool (decide (HasV v k))) G):=by
 (refine v_enter Tryz.func90 rfl Tryz.ntmps90 rfl ?_;intro B _)
 repeat' (first|apply v_seq|apply v_region|apply v_nil|apply v_skip|apply v_take;(case hg=>rfl)|apply v_pass;(case hg|hn|hd=>rfl)|apply v_passN;(case hg|hn|hd=>rfl)|apply v_pure;(case hop=>first|apply p_move<;>rfl|apply p_eq<;>rfl|apply p_lt<;>rfl|apply p_gt<;>rfl|apply p_ne<;>rfl|apply p_assign<;>rfl|apply p_pickT<;>rfl|apply p_pickF<;>rfl|fail);(case hd=>rfl)|apply v_condT;(case hc=>rfl)|apply v_cond;(case hc=>rfl);all_goals (intro h;(try simp only [reduceCtorEq,zzz] at h))|apply v_guardB;(case h1|h2=>rfl);all_goals (intro h;(try simp only [reduceCtorEq,zzz] at h))|fail)
 all_goals
  (refine v_ret [] (outsA1 rfl rfl) (by repeat (exact List.Sublist.refl _)) ?_
   refine ⟨?_,rfl,rfl⟩
   first
    |(rw [decide_eq_true (p:=HasV v k) (by unfold HasV;omega)];done)
    |(rw [decide_eq_false (p:=HasV v k) (by unfold HasV;omega)];done)
    |(simp only [dec_eq];congr 1;rw [Bool.eq_iff_iff];simp [HasV];omega)
    |(simp only [dec_eq];congr 1;rw [Bool.eq_iff_iff];simp [HasV];grind))
noncomputable def olderI (x:Rc):Int:=if recI x.kind x.round x.node x.index x.cmd x.image.length≠0 then recI x.kind x.round x.node x.index x.cmd x.image.length else if (x.kind=2∨x.kind=3)∧¬ HasV 1 x.cmd.kind then 8 else 0
theorem older_s {G:GH}(hT:TabsG G) {x:Rc}{xv:Value}(hx:RcV G x xv) (hc:x.cmd.ok):Con Tryz.prog 134 #[xv] G [] (Just (.int .i64 (olderI x)) G):=by
 obtain ⟨k,r,n,i,c,im⟩:=x
 obtain ⟨iv,rfl,hi⟩:=hx
 obtain ⟨A,cp,rfl,hlc,hcm,_⟩:=hi.openInt
 simp only [maxLen] at hcm
 simp only at hc hlc hi
 have q:=recCheck_s hT k r n i c hc A im.length cp (by omega)
 have qf:=rfields_s G k
 have qv:=vhas_s G 1 c.kind
 apply Con.just
 (refine v_enter Tryz.func134 rfl Tryz.ntmps134 rfl ?_;intro B _)
 by_cases hk:1≤k∧k≤4
 ·rw [decide_eq_true hk] at qf
  obtain rfl|rfl|rfl|rfl:k=1∨k=2∨k=3∨k=4:=by omega
  all_goals
   repeat' (first|apply v_seq|apply v_region|apply v_nil|apply v_skip|apply v_take;(case hg=>rfl)|apply v_pass;(case hg|hn|hd=>rfl)|apply v_pure;(case hop=>first|apply p_move<;>rfl|apply p_ne<;>rfl|apply p_assign<;>rfl|apply p_pickT<;>rfl|apply p_pickF<;>rfl|apply p_not<;>rfl|apply p_fieldAddrB<;>rfl|apply p_extract0<;>rfl|apply p_extract1<;>rfl|fail);(case hd=>rfl)|apply v_condF;(case hc=>rfl)|apply v_cond;(case hc=>rfl);all_goals (intro h;(try simp only [reduceCtorEq,zzz] at h))|apply v_box (zs:=recL _ r n i c (.slice A im.length cp));(case hx|hz|hd=>rfl);intro b1|apply v_callJ (hs:=q);(case ha|hd=>rfl)|apply v_callJ (hs:=qf);(case ha|hd=>rfl)|apply v_callJ (hs:=qv);(case ha|hd=>rfl)|apply v_read;(case hop=>first|apply r_loadNo;(case hx=>rfl);(case h=>repeat exact mhd _);(case hd=>repeat first|with_reducible exact dt_nil|apply dt_here);(case hn=>rfl)|apply r_load1;rfl;(apply Cell.own;(case h=>repeat first|exact mhd _|apply mtl);rfl)|fail);(case hd=>rfl)|apply v_alloc;(case hz|hd=>rfl);intro b|apply v_store;(case hp|hx|hc|hsz|h1=>rfl);(case hb=>repeat exact mhd _);(case hfit=>exact nle rfl);(case hov=>((repeat (first|with_reducible exact ov_nil|apply ov_cons));done));(case hu=>repeat (exact Upd.here _ _))|fail)
  all_goals
   (refine v_ret [] (outsA1 rfl rfl) (by repeat (exact List.nil_sublist _)) ?_
    refine ⟨?_,rfl⟩
    clear q qf qv
    simp [olderI, *])
 ·have e:hasL k=[.bool false,.bool false,.bool false,.bool false]:=by unfold hasL;rw [if_neg (by omega),if_neg (by omega),if_neg (by omega),if_neg (by omega)]
  rw [decide_eq_false hk,e] at qf
  have e2:recI k r n i c im.length=5:=by rw [recI,if_pos (by omega)]
  rw [e2] at q
  repeat' (first|apply v_seq|apply v_region|apply v_nil|apply v_pure;(case hop=>first|apply p_move<;>rfl|apply p_ne<;>rfl|apply p_assign<;>rfl|fail);(case hd=>rfl)|apply v_cond;(case hc=>rfl);all_goals (intro h;(try simp only [reduceCtorEq,zzz] at h);try (exfalso;omega))|apply v_box (zs:=recL k r n i c (.slice A im.length cp));(case hx|hz|hd=>rfl);intro b1|apply v_callJ (hs:=q);(case ha|hd=>rfl)|apply v_read;(case hop=>(apply r_loadNo;(case hx=>rfl);(case h=>repeat exact mhd _);(case hd=>repeat first|with_reducible exact dt_nil|apply dt_here);(case hn=>rfl)));(case hd=>rfl)|fail)
  refine v_ret [] (outsA1 rfl rfl) (by repeat (exact List.nil_sublist _)) ?_
  refine ⟨?_,rfl⟩
  simp [olderI,e2]
theorem wraw_s {G:GH}{l bl:List Int}{sv bv:Value}(wb:Nat) (hs:Sl G 1 (IntR .u8) sv l) (hb:Sl G 1 (IntR .u8) bv bl) (hl:l.length≤100000) (hbl:bl.length≤100000) :
 Con Tryz.prog 136 #[.pointer (some ⟨wb,0,none⟩),bv] G [(wb,.cells [sv].toArray 130 (0,0))]
  (fun r G' μ'=>∃ v',μ'=[(wb,.cells [v'].toArray 130 (0,0))]∧Sl G' 1 (IntR .u8) v' (l++vbytes bl.length++bl)):=by
 obtain ⟨A,c,rfl,hlc,hcm,hsome,hel,hwf⟩:=hs.openInt
 have hvl:(l++vbytes bl.length).length≤200000:=by
  have:=(vbytes_len (bl.length:Nat)).1
  rw [List.length_append]
  omega
 have hsb:=fun μ=>Src.ints (μ:=μ) hb
 have hwfb:=hb.openInt
 obtain ⟨A2,c2,rfl,hlc2,hcm2,-,-,hwf2⟩:=hwfb
 simp only [maxLen] at hcm2
 (refine v_enter Tryz.func136 rfl Tryz.ntmps136 rfl ?_;intro B _)
 repeat' (first|apply v_seq|apply v_region|apply v_nil|apply v_pure;(case hop=>first|apply p_move<;>rfl|apply p_lenSlice<;>rfl|apply p_fieldAddrB<;>rfl|apply p_nilCheck<;>rfl|apply p_neNil<;>rfl|fail);(case hd=>rfl)|apply v_condT;(case hc=>rfl)|apply v_read;(case hop=>(apply r_load1;rfl;(apply Cell.own;(case h=>repeat exact mhd _);rfl)));(case hd=>rfl)|fail)
 refine v_call (μ1:=[]) (μ2:=_) rfl (put_s (bl.length:Nat) hs (by omega) (by omega)) (List.Perm.refl _) rfl ?_
 rintro r G' μ1 - ⟨rfl,hg⟩
 repeat' (first|apply v_pure;(case hop=>(apply p_move<;>rfl));(case hd=>rfl)|fail)
 refine v_append (e:=5) (sz:=1) (zero:=.int .u8 0) rfl (by omega) rfl rfl hg (List.Perm.refl _) (hsb _) (allOne_ints bl) (by omega) (by simp only [maxLen];omega) rfl fun v' ν' hg'=>?_
 obtain ⟨A1,c1,rfl,_⟩:=hg'.shape
 refine v_frz ν' (by repeat (exact PickA.here _)) ?_
 intro G1 hle hG
 repeat' (first|apply v_nil|apply v_pure;(case hop=>first|apply p_fieldAddrB<;>rfl|apply p_nilCheck<;>rfl|fail);(case hd=>rfl)|apply v_store;(case hp|hx|hc|hsz|h1=>rfl);(case hb=>repeat exact mhd _);(case hfit=>exact nle rfl);(case hov=>((repeat (first|with_reducible exact ov_nil|apply ov_cons));done));(case hu=>repeat (exact Upd.here _ _))|fail)
 refine v_end [(wb,_)] (outsA0 rfl) (by repeat (exact List.Sublist.refl _)) ?_
 refine ⟨_,rfl,?_⟩
 rw [← List.map_append,← List.length_append] at hg'
 rw [← List.length_append]
 refine hg'.ints hG fun x hx=>?_
 rcases List.mem_append.1 hx with hx|hx
 ·rcases List.mem_append.1 hx with hx|hx
  ·exact hwf x hx
  ·exact vbytes_wf (by omega) x hx
 ·exact hwf2 x hx
def sbytes (s:ByteArray):List Int:=s.data.toList.map fun b=>(b.toNat:Int)
theorem sbytes_length (s:ByteArray):(sbytes s).length=s.size:=by
 rw [sbytes,List.length_map,Array.length_toList]
 rfl
attribute [local semireducible] MoveOp in
theorem m_convSB {P:Program}{ty src dst e:TypeId}{σ:Env}{G:GH}{μ:OH}{x:Operand}{s:ByteArray}(hS:P.underlying src=some .string) (hD:P.underlying dst=some (.slice e)) (hE:P.underlying e=some (.int .u8)) (hx:Env.ev σ x=some (.string s)) (hs:s.size≤maxLen) :
 MoveOp P (.convert src dst x) ty σ G μ (fun v' G' μ'=>∃ b cap m,v'=.slice (some ⟨b,0,none⟩) s.size cap∧s.size≤cap∧cap≤maxLen∧G'=G∧μ'=(b,.cells (bytesRow s cap) e m)::μ):=by
 intro dst' pos af g ρ hρ w hw a K Q hK
 have hr:=run_bytes_of_string (P:=P) w src dst e s hS hD hE
 have hex:(execOp ρ ⟨dst',.convert src dst x,ty,pos,af,g⟩).run P w=.ok (.value (.slice (some ⟨w.heap.size,0,none⟩) s.size (grownCap w s.size 0 e)))
  (w.drew.alloc (.cells (bytesRow s (grownCap w s.size 0 e)) e ((bytesRow s (grownCap w s.size 0 e)).size,(bytesRow s (grownCap w s.size 0 e)).size+1))):=by
  simp [execOp,hρ _ _ hx,hr]
 rw [hex]
 have hst:=(Step.drew hw 1).trans (Step.alloc (Step.drew hw 1).mem (.cells (bytesRow s (grownCap w s.size 0 e)) e ((bytesRow s (grownCap w s.size 0 e)).size,(bytesRow s (grownCap w s.size 0 e)).size+1)))
 exact hK _ _ G _ hst ⟨_,_,_,rfl,grownCap_ge w s.size 0 e,grownCap_le_maxLen w s.size 0 e hs,rfl,rfl⟩
theorem sl_bytes {G:GH}{b cap:Nat}{s:ByteArray}{e:TypeId}{m:Nat×Nat}(h:G b=some (.cells (bytesRow s cap) e m)) (h1:s.size≤cap) (h2:cap≤maxLen):Sl G 1 (IntR .u8) (.slice (some ⟨b,0,none⟩) s.size cap) (sbytes s):=by
 refine ⟨some ⟨b,0,none⟩,cap,by rw [sbytes_length],by rw [sbytes_length];exact h1,h2,fun h0=>⟨_,rfl,fun i y hy=>?_⟩⟩
 have hi:i<s.data.size:=by
  have:=(List.getElem?_eq_some_iff.1 hy).1
  rw [sbytes_length] at this
  exact this
 simp only [sbytes,List.getElem?_map,Array.getElem?_toList,Array.getElem?_eq_getElem hi,Option.map_some,Option.some.injEq] at hy
 subst hy
 refine ⟨[.int .u8 ((s.data[i]).toNat:Int)],rfl,⟨rfl,?_⟩,?_⟩
 ·have:=(s.data[i]).toNat_lt
  exact WalkArith.wf_u8 (by omega)
 ·intro j u hu
  have hj:j=0:=by have:=(List.getElem?_eq_some_iff.1 hu).1;simp at this;exact this
  subst hj
  simp only [List.getElem?_cons_zero,Option.some.injEq] at hu
  subst hu
  rw [add_mk,add_mk]
  simp only [GH.cell?,h,Option.isSome_none,Bool.false_eq_true,if_false,Nat.zero_add,Nat.mul_one,Nat.add_zero]
  exact bytesRow_at s cap i hi
theorem wtext_s {G:GH}{l:List Int}{sv:Value}(wb:Nat) (s:ByteArray) (hs:Sl G 1 (IntR .u8) sv l) (hl:l.length≤100000) (hz:s.size≤100000) :
 Con Tryz.prog 194 #[.pointer (some ⟨wb,0,none⟩),.string s] G [(wb,.cells [sv].toArray 130 (0,0))]
  (fun r G' μ'=>∃ v',μ'=[(wb,.cells [v'].toArray 130 (0,0))]∧Sl G' 1 (IntR .u8) v' (l++vbytes s.size++sbytes s)):=by
 (refine v_enter Tryz.func194 rfl Tryz.ntmps194 rfl ?_;intro B _)
 repeat' (first|apply v_region|apply v_pure;(case hop=>(apply p_move<;>rfl));(case hd=>rfl)|fail)
 refine v_move (m_convSB Tryz.underlying9 Tryz.underlying24 Tryz.underlying5 rfl (by simp only [maxLen];omega)) rfl ?_
 rintro v G' μ' ⟨b,cap,m,rfl,h1,h2,rfl,rfl⟩
 refine v_freeze1 fun G1 hle hb=>?_
 have hsb:=sl_bytes hb h1 h2
 repeat' (fail)
 have qr:=wraw_s wb (hs.mono hle) hsb hl (by rw [sbytes_length];omega)
 rw [sbytes_length] at qr
 refine v_call (μ1:=[(wb,_)]) (μ2:=_) rfl qr (List.Perm.refl _) rfl ?_
 rintro r G2 μ2 - ⟨v',rfl,hv⟩
 repeat' (first|apply v_nil)
 refine v_end [(wb,_)] (outsA0 rfl) (by repeat (exact List.Sublist.refl _)) ?_
 exact ⟨_,rfl,hv⟩
end Go.Proofs.YtpemabgfmnhhnaaGreatDoor
/-
  pack, the fifth part: a reader: a block of three cells: its bytes (frozen), where it stands, its error.
-/
namespace Go.Proofs.YtpemabgfmnhhnaaGreatDoor
open Go.Vx Go.ChangeShapes Go.WideShapes Go.ChangeAt Go.RowKit
abbrev rdO (bv:Value) (at_ no:Int):Obj:=.cells [bv,.int .i64 at_,.int .i64 no].toArray 186 (0,0)
theorem newReader_s {G:GH}{l:List Int}{sv:Value}(hs:Sl G 1 (IntR .u8) sv l) (hl:l.length≤1048000) :
 Con Tryz.prog 104 #[sv] G [] (fun r G' μ'=>GH.le G G'∧∃ rb v',r=.pointer (some ⟨rb,0,none⟩)∧μ'=[(rb,rdO v' 0 0)]∧Sl G' 1 (IntR .u8) v' l):=by
 have hwf:=hs.openInt
 obtain ⟨A,c,rfl,hlc,hcm,-,-,hw⟩:=hwf
 (refine v_enter Tryz.func104 rfl Tryz.ntmps104 rfl ?_;intro B _)
 repeat' (first|apply v_seq|apply v_region|apply v_nil|apply v_pure;(case hop=>first|apply p_move<;>rfl|apply p_assign<;>rfl|fail);(case hd=>rfl)|fail)
 refine v_call (μ1:=[]) (μ2:=_) rfl (bclone_s hs (by omega)) (List.Perm.refl _) rfl ?_
 rintro r G' μ1 - ⟨rfl,hg⟩
 refine v_frz μ1 (by repeat (exact PickA.here _)) ?_
 intro G1 hle hG
 have h1:=hg.ints hG hw
 obtain ⟨A1,c1,rfl,-,-⟩:=hg.shape
 repeat' (first|apply v_nil|apply v_pure;(case hop=>first|apply p_assign<;>rfl|apply p_build;(case hz=>rfl);(case hv=>(simp only [List.map_cons,List.map_nil];repeat (first|with_reducible exact evs_nil|apply evs_cons;(case h1=>rfl))));(case hb=>(apply bldL;repeat (first|exact bld_nil|apply bld_cons;(case hpf|hc|hs|hl=>rfl);(case ho=>((repeat (first|with_reducible exact ov_nil|apply ov_cons));done))))));(case hd=>rfl)|apply v_box (zs:=[.slice A1 l.length c1,.int .i64 0,.int .i64 0]);(case hx|hz|hd=>rfl);intro rb|fail)
 refine v_ret [(_,_)] (outsA1 rfl rfl) (by repeat (exact List.Sublist.refl _)) ?_
 exact ⟨hle,_,_,rfl,rfl,h1⟩
theorem rerr_s (G:GH) (rb:Nat) (bv:Value) (at_ no:Int):Con Tryz.prog 149 #[.pointer (some ⟨rb,0,none⟩)] G [(rb,rdO bv at_ no)] (Keeps (.int .i64 no) G [(rb,rdO bv at_ no)]):=by
 apply Con.keeps
 (refine v_enter Tryz.func149 rfl Tryz.ntmps149 rfl ?_;intro B _)
 repeat' (first|apply v_seq|apply v_region|apply v_nil|apply v_skip|apply v_pure;(case hop=>first|apply p_move<;>rfl|apply p_assign<;>rfl|apply p_fieldAddrB<;>rfl|apply p_nilCheck<;>rfl|apply p_eqNil<;>rfl|fail);(case hd=>rfl)|apply v_condF;(case hc=>rfl)|apply v_read;(case hop=>(apply r_load1;rfl;(apply Cell.own;(case h=>repeat exact mhd _);rfl)));(case hd=>rfl)|fail)
 refine v_ret [(rb,_)] (outsA1 rfl rfl) (by repeat (exact List.Sublist.refl _)) ?_
 exact ⟨rfl,rfl⟩
def dvk:Nat→List Int→Option (Int×List Int)
 | _,[]=>none
 | k,c::r=>if (c=0∧0<k)∨8<k then none else if c<128 then some (c,r) else (dvk (k+1) r).map fun p=>(c-128+128*p.1,p.2)
theorem dvk_nil (k:Nat):dvk k []=none:=by unfold dvk;rfl
theorem dvk_cons (k:Nat) (c:Int) (r:List Int):dvk k (c::r)=if (c=0∧0<k)∨8<k then none else if c<128 then some (c,r) else (dvk (k+1) r).map fun p=>(c-128+128*p.1,p.2):=by
 rw [dvk]
theorem pow128 (k:Nat):(128:Int) ^ (k+1)=128*128 ^ k:=by rw [Int.pow_succ,Int.mul_comm]
theorem dvk_vb:∀ (f k:Nat) (m:Int) (r:List Int),8≤f+k→k≤8→0≤m→m<128 ^ (9-k)→(0<k→0<m)→dvk k (vb f m++r)=some (m,r)
 | 0,k,m,r,h1,h2,h3,h4,h5=>by
  have:k=8:=by omega
  subst this
  have:m<128:=by simpa using h4
  rw [vb,List.cons_append,List.nil_append,dvk_cons,if_neg (by omega),if_pos this]
 | f+1,k,m,r,h1,h2,h3,h4,h5=>by
  rw [vb_succ]
  by_cases hm:m<128
  ·rw [if_pos hm,List.cons_append,List.nil_append,dvk_cons,if_neg (by omega),if_pos hm]
  ·rw [if_neg hm,List.cons_append,dvk_cons,if_neg (by omega),if_neg (by omega)]
   have hk:k≤7:=by
    by_cases hk:k=8
    ·subst hk
     have:m<128:=by simpa using h4
     omega
    ·omega
   have e:9-k=(9-(k+1))+1:=by omega
   rw [e,pow128] at h4
   rw [dvk_vb f (k+1) (m / 128) r (by omega) (by omega) (by omega) (by omega) (by omega)]
   simp only [Option.map_some,Option.some.injEq,Prod.mk.injEq,and_true]
   omega
theorem vb_dvk:∀ (r:List Int) (k:Nat) (m:Int) (r':List Int),(∀ x∈r,0≤x∧x≤255)→dvk k r=some (m,r')→k≤8∧0≤m∧m<128 ^ (9-k)∧(0<k→0<m)∧∀ f,8≤f+k→r=vb f m++r'
 | [],k,m,r',hw,h=>by rw [dvk_nil] at h;cases h
 | c::r,k,m,r',hw,h=>by
  have hc:=hw c (by simp)
  rw [dvk_cons] at h
  by_cases h1:(c=0∧0<k)∨8<k
  ·rw [if_pos h1] at h;cases h
  rw [if_neg h1] at h
  by_cases h2:c<128
  ·rw [if_pos h2] at h
   cases h
   refine ⟨by omega,by omega,?_,by omega,fun f hf=>?_⟩
   ·have e:9-k=(8-k)+1:=by omega
    rw [e,pow128]
    have:(0:Int)<128 ^ (8-k):=Int.pow_pos (by decide)
    omega
   ·cases f with
    | zero=>rfl
    | succ f=>rw [vb_succ,if_pos h2];rfl
  ·rw [if_neg h2] at h
   obtain ⟨p,hp,he⟩:=Option.map_eq_some_iff.1 h
   obtain ⟨m',r2⟩:=p
   cases he
   obtain ⟨i1,i2,i3,i4,i5⟩:=vb_dvk r (k+1) m' r2 (fun x hx=>hw x (by simp [hx])) hp
   have:=i4 (by omega)
   refine ⟨by omega,by omega,?_,by omega,fun f hf=>?_⟩
   ·have e:9-k=(9-(k+1))+1:=by omega
    rw [e,pow128]
    omega
   ·cases f with
    | zero=>omega
    | succ f =>
     have e1:(c-128+128*m') % 128+128=c:=by omega
     have e2:(c-128+128*m') / 128=m':=by omega
     simp only at *
     rw [vb_succ,if_neg (by omega),e1,e2,List.cons_append,← i5 f (by omega)]
theorem p63:(128:Int) ^ 9=9223372036854775808:=by decide
theorem dvk_vbytes {m:Int}(r:List Int) (h0:0≤m) (h1:m≤9223372036854775807):dvk 0 (vbytes m++r)=some (m,r):=by
 have e:max m 0=m:=by omega
 rw [vbytes,e]
 refine dvk_vb 10 0 m r (by omega) (by omega) h0 ?_ (by omega)
 rw [show 9-0=9 from rfl,p63]
 omega
theorem vbytes_dvk {r:List Int}{m:Int}{r':List Int}(hw:∀ x∈r,0≤x∧x≤255) (h:dvk 0 r=some (m,r')):0≤m∧m≤9223372036854775807∧r=vbytes m++r':=by
 obtain ⟨-,h0,h1,-,h2⟩:=vb_dvk r 0 m r' hw h
 rw [show 9-0=9 from rfl,p63] at h1
 have e:max m 0=m:=by omega
 refine ⟨h0,by omega,?_⟩
 rw [vbytes,e]
 exact h2 10 (by omega)
end Go.Proofs.YtpemabgfmnhhnaaGreatDoor
/-
  Frames, and a file of them, in plain Lean.
-/
namespace Go.Proofs.YtpemabgfmnhhnaaGreatDoor
def byteL (l:List Int):Prop := ∀ x∈l,0≤x∧x≤255
theorem byteL.app {a b:List Int}(ha:byteL a) (hb:byteL b):byteL (a++b):=fun x hx=>(List.mem_append.1 hx).elim (ha x) (hb x)
theorem byteL.take {a:List Int}(h:byteL a) (n:Nat):byteL (a.take n):=fun x hx=>h x (List.mem_of_mem_take hx)
def frB (b:List Int):List Int:=vbytes b.length++b++sumB b
theorem frB_len (b:List Int):(frB b).length=(vbytes b.length).length+b.length+4:=by
 unfold frB
 rw [List.length_append,List.length_append,sumB_len]
theorem frB_pos (b:List Int):5≤(frB b).length:=by
 have:=(vbytes_len (b.length:Int)).2
 rw [frB_len];omega
def okF (b:List Int):Prop:=1≤b.length∧b.length≤65536
noncomputable def nextF (l:List Int):Option (List Int×List Int) :=
 match dvk 0 l with
 | none=>none
 | some p=>if 1≤p.1∧p.1≤65536∧p.1+4≤p.2.length∧(p.2.drop p.1.toNat).take 4=sumB (p.2.take p.1.toNat) then some (p.2.take p.1.toNat,p.2.drop (p.1.toNat+4)) else none
theorem nextF_fr {b:List Int}(r:List Int) (h:okF b):nextF (frB b++r)=some (b,r):=by
 obtain ⟨h1,h2⟩:=h
 have e:frB b++r=vbytes b.length++(b++sumB b++r):=by simp [frB]
 have hd:dvk 0 (frB b++r)=some ((b.length:Int),b++sumB b++r):=by rw [e];exact dvk_vbytes _ (by omega) (by omega)
 have t1:(b++sumB b++r).take b.length=b:=by rw [List.append_assoc,List.take_left]
 have t2:((b++sumB b++r).drop b.length).take 4=sumB b:=by
  rw [List.append_assoc,List.drop_left]
  have:=List.take_left (l₁:=sumB b) (l₂:=r)
  rwa [sumB_len] at this
 have t3:(b++sumB b++r).drop (b.length+4)=r:=by
  have:b.length+4=(b++sumB b).length:=by rw [List.length_append,sumB_len]
  rw [this,List.drop_left]
 unfold nextF
 rw [hd]
 simp only [Int.toNat_natCast]
 rw [t1,t2,t3,if_pos]
 refine ⟨by omega,by omega,?_,rfl⟩
 rw [List.length_append,List.length_append,sumB_len]
 omega
theorem nextF_inv {l b r:List Int}(hw:byteL l) (h:nextF l=some (b,r)):l=frB b++r∧okF b:=by
 unfold nextF at h
 cases hd:dvk 0 l with
 | none=>rw [hd] at h;cases h
 | some p =>
  obtain ⟨n,s⟩:=p
  rw [hd] at h
  simp only at h
  split at h
  ·rename_i hc
   obtain ⟨h1,h2,h3,h4⟩:=hc
   simp only [Option.some.injEq,Prod.mk.injEq] at h
   obtain ⟨rfl,rfl⟩:=h
   obtain ⟨-,-,rfl⟩:=vbytes_dvk hw hd
   have hl:(s.take n.toNat).length=n.toNat:=by rw [List.length_take];omega
   refine ⟨?_,by unfold okF;rw [hl];omega⟩
   unfold frB
   rw [hl,← h4,show ((n.toNat:Nat):Int)=n by omega,List.append_assoc,List.append_assoc,List.append_cancel_left_eq,← List.drop_drop,List.take_append_drop,List.take_append_drop]
  ·cases h
theorem nextF_nil:nextF []=none:=by
 unfold nextF
 rw [dvk_nil]
theorem nextF_cut {b:List Int}{r:List Int}{k:Nat}(h:okF b) (hb:byteL (frB b++r)) (hk:k<(frB b).length):nextF ((frB b++r).take k)=none:=by
 cases hn:nextF ((frB b++r).take k) with
 | none=>rfl
 | some p =>
  obtain ⟨b',r'⟩:=p
  obtain ⟨e,hok⟩:=nextF_inv (hb.take k) hn
  have e2:frB b++r=frB b'++(r'++(frB b++r).drop k):=by
   rw [← List.append_assoc,← e,List.take_append_drop]
  have h1:=nextF_fr r h
  rw [e2,nextF_fr _ hok] at h1
  simp only [Option.some.injEq,Prod.mk.injEq] at h1
  have h2:=congrArg List.length e
  rw [List.length_take,List.length_append,List.length_append,h1.1] at h2
  omega
section
variable {α:Type}(dec:List Int→Option α)
noncomputable def recsF:Nat→List Int→List α×List Int
 | 0,l=>([],l)
 | f+1,l =>
  match nextF l with
  | none=>([],l)
  | some (b,r) =>
   match dec b with
   | none=>([],l)
   | some x=>(x::(recsF f r).1,(recsF f r).2)
theorem recsF_none {f:Nat}{l:List Int}(h:nextF l=none):recsF dec f l=([],l):=by
 cases f with
 | zero=>rfl
 | succ f=>unfold recsF;rw [h]
theorem recsF_bad {f:Nat}{l b r:List Int}(h:nextF l=some (b,r)) (hd:dec b=none):recsF dec f l=([],l):=by
 cases f with
 | zero=>rfl
 | succ f=>unfold recsF;rw [h];simp only [hd]
theorem recsF_some {f:Nat}{l b r:List Int}{x:α}(h:nextF l=some (b,r)) (hd:dec b=some x):recsF dec (f+1) l=(x::(recsF dec f r).1,(recsF dec f r).2):=by
 conv=>lhs;unfold recsF
 rw [h]
 simp only [hd]
theorem recsF_fuel:∀ (f g:Nat) (l:List Int),byteL l→l.length≤f→l.length≤g→recsF dec f l=recsF dec g l
 | 0,g,l,hw,h1,h2=>by
  have:l=[]:=List.length_eq_zero_iff.1 (by omega)
  subst this
  rw [recsF_none dec nextF_nil,recsF_none dec nextF_nil]
 | f+1,0,l,hw,h1,h2=>by
  have:l=[]:=List.length_eq_zero_iff.1 (by omega)
  subst this
  rw [recsF_none dec nextF_nil,recsF_none dec nextF_nil]
 | f+1,g+1,l,hw,h1,h2=>by
  cases hn:nextF l with
  | none=>rw [recsF_none dec hn,recsF_none dec hn]
  | some p =>
   obtain ⟨b,r⟩:=p
   obtain ⟨e,hok⟩:=nextF_inv hw hn
   have hl:=congrArg List.length e
   rw [List.length_append] at hl
   have h5:=frB_pos b
   cases hd:dec b with
   | none=>rw [recsF_bad dec hn hd,recsF_bad dec hn hd]
   | some x =>
    have hr:byteL r:=fun y hy=>hw y (by rw [e];exact List.mem_append_right _ hy)
    rw [recsF_some dec hn hd,recsF_some dec hn hd,recsF_fuel f g r hr (by omega) (by omega)]
end
end Go.Proofs.YtpemabgfmnhhnaaGreatDoor
/-
  What a record without a fault is.
-/
namespace Go.Proofs.YtpemabgfmnhhnaaGreatDoor
open Go.Vx Go.ChangeShapes Go.WideShapes Go.ChangeAt Go.RowKit
theorem ite0 {p:Prop} [Decidable p] {a b:Int}(ha:a≠0) (h:(if p then a else b)=0):¬ p∧b=0:=by
 by_cases hp:p
 ·rw [if_pos hp] at h;exact absurd h ha
 ·rw [if_neg hp] at h;exact ⟨hp,h⟩
theorem rec0 {k r n i:Int}{c:Cm}{len:Nat}(h:recI k r n i c len=0):(1≤k∧k≤4)∧ranP k r n i∧¬ (k=4∧32768<len)∧((k=2∨k=3)→cmdI c=0)∧¬ othP k r n i c len:=by
 unfold recI at h
 obtain ⟨h1,h⟩:=ite0 (by decide) h
 obtain ⟨h2,h⟩:=ite0 (by decide) h
 obtain ⟨h3,h⟩:=ite0 (by decide) h
 by_cases hc:(k=2∨k=3)∧cmdI c≠0
 ·rw [if_pos hc] at h;exact absurd h hc.2
 ·rw [if_neg hc] at h
  obtain ⟨h4,h⟩:=ite0 (by decide) h
  refine ⟨by omega,Decidable.not_not.1 h2,h3,fun hk=>?_,h4⟩
  exact Decidable.not_not.1 fun hn=>hc ⟨hk,hn⟩
noncomputable def chkI (x:Rc):Int:=recI x.kind x.round x.node x.index x.cmd x.image.length
def Rc.small (x:Rc):Prop:=x.kind≤9223372036854775807∧x.round≤9223372036854775807∧x.node≤9223372036854775807∧x.index≤9223372036854775807
def Rc.fits (x:Rc):Prop:=x.cmd.key.size≤1000∧x.cmd.val.size≤1000∧x.cmd.old.size≤1000∧x.image.length≤32780
theorem cmdSz {c:Cm}(h:cmdI c=0):c.key.size≤24∧c.val.size≤48∧c.old.size≤48:=by
 rw [cmdI_eq] at h
 unfold cmdE at h
 obtain ⟨h1,h⟩:=ite0 (by decide) h
 obtain ⟨h2,h⟩:=ite0 (by decide) h
 obtain ⟨h3,h⟩:=ite0 (by decide) h
 obtain ⟨h4,h⟩:=ite0 (by decide) h
 have hk:keyB c.key=true→c.key.size≤24:=fun e=>by
  simp only [keyB,Bool.and_eq_true,decide_eq_true_eq] at e
  exact e.1.2
 have hv:∀ s,valB s=true→s.size≤48:=fun s e=>by
  simp only [valB,Bool.and_eq_true,decide_eq_true_eq] at e
  exact e.1.1
 have e1:=hv c.val
 have e2:=hv c.old
 cases hkb:keyB c.key<;>cases hvb:valB c.val<;>cases hob:valB c.old<;>simp only [hkb,hvb,hob,true_implies,reduceCtorEq,false_implies,and_true,and_false] at * <;> omega
theorem fits0 {x:Rc}(h:recI x.kind x.round x.node x.index x.cmd x.image.length=0):x.fits∧x.small∧x.image.length≤32768∧x.cmd.key.size≤24∧x.cmd.val.size≤48∧x.cmd.old.size≤48:=by
 obtain ⟨hk,hr,hi,hc,ho⟩:=rec0 h
 unfold ranP mayP at hr
 have hcz:(x.kind=2∨x.kind=3)∨x.cmd=zeroCm:=by
  by_cases hh:x.kind=2∨x.kind=3
  ·exact .inl hh
  ·exact .inr (Decidable.not_not.1 fun hn=>ho (.inr (.inr (.inl ⟨hh,hn⟩))))
 have hs:x.cmd.key.size≤24∧x.cmd.val.size≤48∧x.cmd.old.size≤48:=by
  obtain hh|hh:=hcz
  ·exact cmdSz (hc hh)
  ·rw [hh];decide
 have him:x.image.length≤32768:=by unfold othP at ho;omega
 refine ⟨?_,?_,him,hs⟩
 ·unfold Rc.fits;omega
 ·unfold Rc.small;unfold othP at ho;omega
theorem wf64 {n:Int}(h0:0≤n∧n≤9223372036854775807):(Lit.int .i64 n).wf=true:=by
 simp [Lit.wf,IntKind.min,IntKind.max,IntKind.signed,IntKind.bits]
 omega
theorem and127:∀ a:Nat,a<256→(BitVec.ofNat 8 a &&& 127#8).toNat=a % 128:=by decide +kernel
theorem p_and127 {σ:Env}{ty:TypeId}{x y:Operand}{a:Int}{t t':TypeId}(hx:Env.ev σ x=some (.int .u8 a)) (hy:Env.ev σ y=some (.int .u8 127)) (h:0≤a∧a≤255):PureOp Tryz.prog (.binOp .and t x y t') ty σ (.int .u8 (a % 128)):=by
 have:=p_and (P:=Tryz.prog) (ty:=ty) (t:=t) (t':=t') hx hy
 have e:IntKind.u8.wrap (BitVec.ofInt IntKind.u8.bits a &&& BitVec.ofInt IntKind.u8.bits 127).toNat=a % 128:=by
  obtain ⟨m,rfl⟩:=Int.eq_ofNat_of_zero_le h.1
  have hlt:m<256:=by omega
  have h1:=and127 m hlt
  have e1:BitVec.ofInt IntKind.u8.bits (m:Int)=BitVec.ofNat 8 m:=by
   show BitVec.ofInt 8 (m:Int)=_
   exact BitVec.ofInt_natCast 8 m
  have e2:BitVec.ofInt IntKind.u8.bits 127=127#8:=rfl
  rw [e1,e2]
  show IntKind.u8.wrap (((BitVec.ofNat 8 m &&& 127#8).toNat:Nat):Int)=_
  rw [h1,IntKind.wrap_u8]
  omega
 rwa [e] at this
theorem p_convU64 {σ:Env}{ty:TypeId}{x:Operand}{k k'':IntKind}{a:Int}{t u:TypeId} [Ty Tryz.prog t (.int k'')] [Ty Tryz.prog u (.int .u64)] (hx:Env.ev σ x=some (.int k a)) (h:0≤a∧a≤9223372036854775807):PureOp Tryz.prog (.convert t u x) ty σ (.int .u64 a):=by
 have:=p_conv (P:=Tryz.prog) (ty:=ty) (t:=t) (u:=u) hx
 rw [IntKind.wrap_u64,show a % 18446744073709551616=a by omega] at this
 exact this
theorem two7 (k:Nat):(2:Int) ^ (7*k)=128 ^ k:=by rw [Int.pow_mul];rfl
attribute [local semireducible] PureOp in
theorem p_shlU {σ:Env}{ty:TypeId}{x y:Operand}{k':IntKind}{a s:Int}{k:Nat}{t t':TypeId}(hx:Env.ev σ x=some (.int .u64 a)) (hy:Env.ev σ y=some (.int k' s)) (hs:s=7*(k:Nat)) (hk:k≤8) (h:0≤a*128 ^ k∧a*128 ^ k≤9223372036854775807):PureOp Tryz.prog (.binOp .shl t x y t') ty σ (.int .u64 (a*128 ^ k)):=by
 subst hs
 intro dst pos af g ρ hρ w
 have:=shift_shl .u64 k' a (7*(k:Nat)) (by omega) (by show _≤(64:Int);omega)
 have e:(7*((k:Nat):Int)).toNat=7*k:=by omega
 have hw:IntKind.u64.wrap (a*128 ^ k)=a*128 ^ k:=by rw [IntKind.wrap_u64];omega
 simp [execOp,hρ _ _ hx,hρ _ _ hy,eqGuard,binOp_shl,this]
 rw [e,two7,hw]
theorem p_orU {σ:Env}{ty:TypeId}{x y:Operand}{a b:Int}{k:Nat}{t t':TypeId}(hx:Env.ev σ x=some (.int .u64 a)) (hy:Env.ev σ y=some (.int .u64 (b*128 ^ k))) (h0:0≤a) (h1:a<128 ^ k) (h2:0≤b) (h3:a+b*128 ^ k≤9223372036854775807):PureOp Tryz.prog (.binOp .or t x y t') ty σ (.int .u64 (a+b*128 ^ k)):=by
 have:=p_or (P:=Tryz.prog) (ty:=ty) (t:=t) (t':=t') hx hy
 have e:IntKind.u64.wrap (BitVec.ofInt IntKind.u64.bits a ||| BitVec.ofInt IntKind.u64.bits (b*128 ^ k)).toNat=a+b*128 ^ k:=by
  obtain ⟨m,rfl⟩:=Int.eq_ofNat_of_zero_le h0
  obtain ⟨n,rfl⟩:=Int.eq_ofNat_of_zero_le h2
  have ek:(128:Int) ^ k=((2 ^ (7*k):Nat):Int):=by rw [← two7];simp
  rw [ek] at h1 h3 ⊢
  rw [← Int.natCast_mul] at h3 ⊢
  have hm:m<2 ^ (7*k):=by omega
  have hor:(m ||| n*2 ^ (7*k))=m+n*2 ^ (7*k):=by
   rw [Nat.or_comm,Nat.mul_comm,← Nat.two_pow_add_eq_or_of_lt hm,Nat.add_comm]
  generalize hq:n*2 ^ (7*k)=q at *
  have e1:BitVec.ofInt IntKind.u64.bits (m:Int)=BitVec.ofNat 64 m:=by
   show BitVec.ofInt 64 (m:Int)=_
   exact BitVec.ofInt_natCast 64 m
  have e2:BitVec.ofInt IntKind.u64.bits (q:Int)=BitVec.ofNat 64 q:=by
   show BitVec.ofInt 64 (q:Int)=_
   exact BitVec.ofInt_natCast 64 q
  rw [e1,e2]
  show IntKind.u64.wrap (((BitVec.ofNat 64 m ||| BitVec.ofNat 64 q).toNat:Nat):Int)=_
  rw [BitVec.toNat_or,BitVec.toNat_ofNat,BitVec.toNat_ofNat,Nat.mod_eq_of_lt (by omega),Nat.mod_eq_of_lt (by omega),hor,IntKind.wrap_u64]
  omega
 rwa [e] at this
def dve:Nat→List Int→Int
 | _,[]=>1
 | k,c::r=>if (c=0∧0<k)∨8<k then 3 else if c<128 then 0 else dve (k+1) r
theorem dve_nil (k:Nat):dve k []=1:=by unfold dve;rfl
theorem dve_cons (k:Nat) (c:Int) (r:List Int):dve k (c::r)=if (c=0∧0<k)∨8<k then 3 else if c<128 then 0 else dve (k+1) r:=by rw [dve]
theorem dve_none:∀ (r:List Int) (k:Nat),dvk k r=none↔dve k r≠0
 | [],k=>by rw [dvk_nil,dve_nil];simp
 | c::r,k=>by
  rw [dvk_cons,dve_cons]
  split
  ·simp
  ·split
   ·simp
   ·rw [Option.map_eq_none_iff];exact dve_none r (k+1)
def GetV (l:List Int) (at_:Nat):Value:=match dvk 0 (l.drop at_) with
 | some (m,r')=>.tuple [.int .i64 m,.int .i64 (l.length-r'.length:Nat),.int .i64 0].toArray
 | none=>.tuple [.int .i64 0,.int .i64 0,.int .i64 (dve 0 (l.drop at_))].toArray
def dvs (n:Int) (k:Nat) (o:Option (Int×List Int)):Option (Int×List Int):=o.map fun p=>(n+128 ^ k*p.1,p.2)
theorem dvs_step (n:Int) (k:Nat) (c:Int) (r:List Int) (h1:¬ ((c=0∧0<k)∨8<k)) (h2:¬ c<128) (hc:c≤255):dvs n k (dvk k (c::r))=dvs (n+c % 128*128 ^ k) (k+1) (dvk (k+1) r):=by
 rw [dvk_cons,if_neg h1,if_neg h2]
 cases dvk (k+1) r with
 | none=>rfl
 | some p =>
  simp only [dvs,Option.map_some,Option.some.injEq,Prod.mk.injEq,and_true]
  rw [pow128,show c % 128=c-128 by omega,Int.mul_add,Int.sub_mul,Int.mul_sub,Int.mul_comm c,Int.mul_comm 128 (128 ^ k)]
  have:(128:Int) ^ k*(128*p.1)=128 ^ k*128*p.1:=by rw [Int.mul_assoc]
  omega
theorem stepB {n c:Int}{k:Nat}(hn:0≤n∧n<128 ^ k) (hk:k≤8):0≤c % 128*128 ^ k∧n+c % 128*128 ^ k<128 ^ (k+1)∧n+c % 128*128 ^ k≤9223372036854775807:=by
 have h0:(0:Int)<128 ^ k:=Int.pow_pos (by decide)
 have h1:0≤c % 128*128 ^ k:=Int.mul_nonneg (by omega) (by omega)
 have h2:c % 128*128 ^ k≤127*128 ^ k:=Int.mul_le_mul_of_nonneg_right (by omega) (by omega)
 have h3:(128:Int) ^ (k+1)≤128 ^ 9:=by
  have:(128:Nat) ^ (k+1)≤128 ^ 9:=Nat.pow_le_pow_right (by decide) (by omega)
  exact_mod_cast this
 rw [p63] at h3
 rw [pow128] at *
 omega
theorem dropC {l:List Int}{i:Nat}(h:i<l.length):l.drop i=l[i]::l.drop (i+1):=List.drop_eq_getElem_cons h
theorem getR_some {l:List Int}{at_:Nat}{m:Int}{r':List Int}{e:Int}(h:dvk 0 (l.drop at_)=some (m,r')) (he:e=(l.length-r'.length:Nat)) : .tuple #[.int .i64 m,.int .i64 e,.int .i64 0]=GetV l at_:=by
 unfold GetV
 rw [h,he]
theorem getR_none {l:List Int}{at_:Nat}{e:Int}(h:dvk 0 (l.drop at_)=none) (he:dve 0 (l.drop at_)=e) : .tuple #[.int .i64 0,.int .i64 0,.int .i64 e]=GetV l at_:=by
 unfold GetV
 rw [h,← he]
set_option maxHeartbeats 2000000 in
theorem vget_s {G:GH}{l:List Int}{sv:Value}(at_:Nat) (hs:Sl G 1 (IntR .u8) sv l) (hl:l.length≤1048576) (ha:at_≤l.length):Con Tryz.prog 144 #[sv,.int .i64 (at_:Nat)] G [] (Just (GetV l at_) G):=by
 obtain ⟨A,c,rfl,hlc,hcm,hsome,hel,hwf⟩:=hs.openInt
 simp only [maxLen] at hcm
 have hwf':∀ i (h:i<l.length),0≤l[i]∧l[i]≤255:=fun i h=>by
  have:=hwf _ (List.getElem_mem h)
  simp [Lit.wf,IntKind.min,IntKind.max,IntKind.signed,IntKind.bits] at this
  omega
 (refine v_enter Tryz.func144 rfl Tryz.ntmps144 rfl ?_;intro B _)
 repeat' (first|apply v_seq|apply v_region|apply v_nil|apply v_skip|apply v_block|apply v_take;(case hg=>rfl)|apply v_pure;(case hop=>first|apply p_move<;>rfl|apply p_lt<;>rfl|apply p_gt<;>rfl|apply p_assign<;>rfl|apply p_pickF<;>rfl|apply p_lenSlice<;>rfl|fail);(case hd=>rfl)|apply v_cond;(case hc=>rfl);all_goals (intro h;(try simp only [reduceCtorEq,zzz] at h);try (exfalso;omega))|apply v_guardB;(case h1|h2=>rfl);all_goals (intro h;(try simp only [reduceCtorEq,zzz] at h);try (exfalso;omega))|apply v_scope|apply v_label|fail)
 refine v_loopI (ι:=Nat×Int) [8,7,0,1] (fun x us G2 μ'=>G2=G∧μ'=[]∧us=[Value.int .i64 (at_+x.1:Nat),.int .u64 x.2,.slice A l.length c,.int .i64 (at_:Nat)]∧at_+x.1≤l.length∧x.1≤9∧(0≤x.2∧x.2<128 ^ x.1)∧x.2≤9223372036854775807∧dvk 0 (l.drop at_)=dvs x.2 x.1 (dvk x.1 (l.drop (at_+x.1)))∧dve 0 (l.drop at_)=dve x.1 (l.drop (at_+x.1))) (fun x=>l.length-x.1) rfl (0,0) ⟨rfl,rfl,rfl,by simpa using ha,by simp,by simp,by simp,?_,rfl⟩ ?_
 ·simp only [dvs,Nat.add_zero,Int.zero_add,Int.pow_zero,Int.one_mul]
  cases dvk 0 (l.drop at_)<;>rfl
 rintro ⟨k,n⟩ us G2 μ' ⟨rfl,rfl,rfl,hk,hk9,hn,hn63,he,hee⟩
 simp only at hk hk9 hn hn63 he hee
 by_cases hlt:at_+k<l.length
 ·have hel':=hel _ hlt
  have hcc:=hwf' _ hlt
  have hst:=dvs_step n k l[at_+k] (l.drop (at_+k+1))
  rw [dropC hlt] at he hee
  rw [dve_cons] at hee
  generalize hcx:l[at_+k]=cx at *
  have hsb:=stepB (n:=n) (c:=cx) (k:=k) hn
  by_cases hk8:k≤8
  ·obtain ⟨hb1,hb2,hb3⟩:=hsb hk8
   clear hsb
   try dsimp only
   repeat' (first|apply v_pure;(case hop=>(apply p_and127;(case hx|hy=>rfl);(case h=>exact hcc)));(case hd=>rfl)|apply v_pure;(case hop=>(apply p_convU64;(case hx=>rfl);(case h=>omega)));(case hd=>rfl)|apply v_pure;(case hop=>(apply p_shlU (k:=k);(case hx|hy=>rfl);(case hs|hk|h=>omega)));(case hd=>rfl)|apply v_pure;(case hop=>(apply p_orU (k:=k);(case hx|hy=>rfl);(case h0=>omega);(case h1=>exact hn.2);(case h2|h3=>omega)));(case hd=>rfl)|apply v_seq|apply v_region|apply v_nil|apply v_skip|apply v_block|apply v_blk|apply v_exit;(case hp=>rfl)|apply v_take;(case hg=>rfl)|apply v_pass;(case hg|hn|hd=>rfl)|apply v_pure;(case hop=>first|apply p_move<;>rfl|apply p_eq<;>rfl|apply p_lt<;>rfl|apply p_gt<;>rfl|apply p_assign<;>rfl|apply p_pickT<;>rfl|apply p_pickF<;>rfl|apply p_lenSlice<;>rfl|apply p_add;(case hx|hy=>rfl);(case h=>omega)|apply p_sub;(case hx|hy=>rfl);(case h=>omega)|apply p_indexAddrS;(case hx|hi=>rfl);(case h0|h=>omega);(case hA=>(apply_assumption;omega))|apply p_conv64;(case hx=>rfl);(case h=>omega)|apply p_mul;(case hx|hy=>rfl);(case h=>omega)|fail);(case hd=>rfl)|apply v_condF;(case hc=>rfl)|apply v_cond;(case hc=>rfl);all_goals (intro h;(try simp only [reduceCtorEq,zzz] at h);try (exfalso;omega))|apply v_guardB;(case h1|h2=>rfl);all_goals (intro h;(try simp only [reduceCtorEq,zzz] at h))|apply v_read;(case hop=>(apply r_load1;rfl;exact Cell.frozen hel'));(case hd=>rfl)|fail)
   ·refine v_ret [] (outsA3 rfl rfl rfl rfl) (by repeat (exact List.Sublist.refl _)) ?_
    exact ⟨getR_none (by rw [he,dvk_cons,if_pos (by omega)];rfl) (by rw [hee,if_pos (by omega)]),rfl,rfl⟩
   ·refine v_ret [] (outsA3 rfl rfl rfl rfl) (by repeat (exact List.Sublist.refl _)) ?_
    exact ⟨getR_some (r':=l.drop (at_+k+1)) (by rw [he,dvk_cons,if_neg (by omega),if_pos (by omega),dvs,Option.map_some,show cx % 128=cx by omega,Int.mul_comm]) (by rw [List.length_drop];omega),rfl,rfl⟩
   ·refine v_ret [] (outsA3 rfl rfl rfl rfl) (by repeat (exact List.Sublist.refl _)) ?_
    exact ⟨getR_some (r':=l.drop (at_+k+1)) (by rw [he,dvk_cons,if_neg (by omega),if_pos (by omega),dvs,Option.map_some,show cx % 128=cx by omega,Int.mul_comm]) (by rw [List.length_drop];omega),rfl,rfl⟩
   ·refine v_againI (k+1,n+cx % 128*128 ^ k) rfl ⟨rfl,rfl,rfl,by simp only;omega,by simp only;omega,⟨by simp only;omega,hb2⟩,hb3,?_,?_⟩ (by simp only;omega)
    ·simp only
     rw [he,hst (by omega) (by omega) hcc.2,Nat.add_assoc]
    ·simp only
     rw [hee,if_neg (by omega),if_neg (by omega),Nat.add_assoc]
  ·try dsimp only
   repeat' (first|apply v_seq|apply v_region|apply v_nil|apply v_skip|apply v_block|apply v_take;(case hg=>rfl)|apply v_pass;(case hg|hn|hd=>rfl)|apply v_pure;(case hop=>first|apply p_move<;>rfl|apply p_eq<;>rfl|apply p_lt<;>rfl|apply p_gt<;>rfl|apply p_assign<;>rfl|apply p_pickT<;>rfl|apply p_pickF<;>rfl|apply p_lenSlice<;>rfl|apply p_sub;(case hx|hy=>rfl);(case h=>omega)|apply p_indexAddrS;(case hx|hi=>rfl);(case h0|h=>omega);(case hA=>(apply_assumption;omega))|apply p_mul;(case hx|hy=>rfl);(case h=>omega)|fail);(case hd=>rfl)|apply v_condF;(case hc=>rfl)|apply v_cond;(case hc=>rfl);all_goals (intro h;(try simp only [reduceCtorEq,zzz] at h);try (exfalso;omega))|apply v_guardB;(case h1|h2=>rfl);all_goals (intro h;(try simp only [reduceCtorEq,zzz] at h))|apply v_read;(case hop=>(apply r_load1;rfl;exact Cell.frozen hel'));(case hd=>rfl)|fail)
   all_goals
    (refine v_ret [] (outsA3 rfl rfl rfl rfl) (by repeat (exact List.Sublist.refl _)) ?_
     exact ⟨getR_none (by rw [he,dvk_cons,if_pos (by omega)];rfl) (by rw [hee,if_pos (by omega)]),rfl,rfl⟩)
 ·have e0:l.drop (at_+k)=[]:=List.drop_eq_nil_of_le (by omega)
  rw [e0,dvk_nil] at he
  rw [e0,dve_nil] at hee
  try dsimp only
  repeat' (first|apply v_seq|apply v_region|apply v_nil|apply v_exit;(case hp=>rfl)|apply v_pure;(case hop=>first|apply p_move<;>rfl|apply p_eq<;>rfl|apply p_lt<;>rfl|apply p_assign<;>rfl|apply p_lenSlice<;>rfl|fail);(case hd=>rfl)|apply v_cond;(case hc=>rfl);all_goals (intro h;(try simp only [reduceCtorEq,zzz] at h);try (exfalso;omega))|fail)
  refine v_ret [] (outsA3 rfl rfl rfl rfl) (by repeat (exact List.Sublist.refl _)) ?_
  exact ⟨getR_none he hee,rfl,rfl⟩
end Go.Proofs.YtpemabgfmnhhnaaGreatDoor
/-
  pack, the sixth part: a reader's numbers.
-/
namespace Go.Proofs.YtpemabgfmnhhnaaGreatDoor
open Go.Vx Go.ChangeShapes Go.WideShapes Go.ChangeAt Go.RowKit
def limN (r:List Int):Int:=match dvk 0 r with|some p=>p.1|none=>0
def limAt (l:List Int) (a:Nat):Nat:=match dvk 0 (l.drop a) with|some p=>l.length-p.2.length|none=>0
def limNo (most:Int) (r:List Int):Int:=match dvk 0 r with|some p=>if most<p.1 then 2 else 0|none=>dve 0 r
theorem fail_s (G:GH) (rb:Nat) (bv:Value) (a:Nat) (no e:Int):Con Tryz.prog 175 #[.pointer (some ⟨rb,0,none⟩),.int .i64 e] G [(rb,rdO bv a no)] (Keeps (.tuple #[]) G [(rb,rdO bv a e)]):=by
 (refine v_enter Tryz.func175 rfl Tryz.ntmps175 rfl ?_;intro B _)
 repeat' (first|apply v_region|apply v_nil|apply v_pure;(case hop=>first|apply p_move<;>rfl|apply p_fieldAddrB<;>rfl|apply p_nilCheck<;>rfl);(case hd=>rfl)|apply v_store;(case hp|hx|hc|hsz|h1=>rfl);(case hb=>repeat exact mhd _);(case hfit=>exact nle rfl);(case hov=>((repeat (first|with_reducible exact ov_nil|apply ov_cons));done));(case hu=>repeat (exact Upd.here _ _))|fail)
 refine v_end [(rb,_)] (outsA0 rfl) (by repeat (exact List.Sublist.refl _)) ?_
 exact ⟨rfl,rfl,rfl⟩
theorem left_s {G:GH}{l:List Int}{bv:Value}(rb a:Nat) (no:Int) (hs:Sl G 1 (IntR .u8) bv l) (hl:l.length≤1048576) (ha:a≤l.length):Con Tryz.prog 150 #[.pointer (some ⟨rb,0,none⟩)] G [(rb,rdO bv a no)] (Keeps (.int .i64 ((l.length:Nat)-(a:Nat))) G [(rb,rdO bv a no)]):=by
 obtain ⟨A,c,rfl,hlc,hcm,-,-,-⟩:=hs.openInt
 apply Con.keeps
 (refine v_enter Tryz.func150 rfl Tryz.ntmps150 rfl ?_;intro B _)
 repeat' (first|apply v_seq|apply v_region|apply v_nil|apply v_pure;(case hop=>(apply p_assign<;>rfl));(case hd=>rfl)|fail)
 refine d_start _ (by kernel_rfl) (by kernel_rfl) (by kernel_rfl) (fun _ he=>he) ?_
 all_goals (apply dtm 0;(case hi|hx=>rfl);(case hq=>kernel_rfl);apply dtn 1;(case hi|hx=>rfl);(case hq=>kernel_rfl))
 all_goals (apply dtk 2;(case hi=>rfl);(case hop=>(apply prd;apply p_fieldAddrB<;>rfl));(case hq=>kernel_rfl);apply dtk 3;(case hi=>rfl);(case hop=>first|apply r_loadNo;(case hx=>rfl);(case h=>repeat fail);(case hd=>repeat fail);(case hn=>rfl)|apply r_load1;rfl;(apply Cell.own;(case h=>repeat exact mhd _);rfl)|apply r_loadN;rfl;(apply CellsAt.own;(case h=>repeat fail));rfl);(case hq=>kernel_rfl))
 all_goals (apply dtk 4;(case hi=>rfl);(case hop=>(apply prd;apply p_lenSlice<;>rfl));(case hq=>kernel_rfl);apply dtm 5;(case hi|hx=>rfl);(case hq=>kernel_rfl))
 all_goals (apply dtn 6;(case hi|hx=>rfl);(case hq=>kernel_rfl);apply dtk 7;(case hi=>rfl);(case hop=>(apply prd;apply p_fieldAddrB<;>rfl));(case hq=>kernel_rfl))
 all_goals (apply dtk 8;(case hi=>rfl);(case hop=>first|apply r_loadNo;(case hx=>rfl);(case h=>repeat fail);(case hd=>repeat fail);(case hn=>rfl)|apply r_load1;rfl;(apply Cell.own;(case h=>repeat exact mhd _);rfl)|apply r_loadN;rfl;(apply CellsAt.own;(case h=>repeat fail));rfl);(case hq=>kernel_rfl);apply dtk 9;(case hi=>rfl);(case hop=>(apply prd;apply p_sub;(case hx|hy=>rfl);(case h=>omega)));(case hq=>kernel_rfl))
 all_goals (apply dta 10;(case hi|hx=>rfl);(case hq=>kernel_rfl))
 all_goals (apply d_done;(case hr=>kernel_rfl))
 repeat' (fail)
 refine v_ret [(rb,_)] (outsA1 rfl rfl) (by repeat (exact List.Sublist.refl _)) ?_
 exact ⟨rfl,rfl⟩
theorem limited_s {G:GH}{l:List Int}{bv:Value}(rb a:Nat) (most:Int) (hs:Sl G 1 (IntR .u8) bv l) (hl:l.length≤1048576) (ha:a≤l.length) :
 Con Tryz.prog 148 #[.pointer (some ⟨rb,0,none⟩),.int .i64 most] G [(rb,rdO bv a 0)] (Keeps (.int .i64 (limN (l.drop a))) G [(rb,rdO bv (limAt l a) (limNo most (l.drop a)))]):=by
 have qg:=vget_s a hs hl ha
 obtain ⟨A,c,rfl,hlc,hcm,-,-,-⟩:=hs.openInt
 unfold GetV at qg
 unfold limN limAt limNo
 have he:=dve_none (l.drop a) 0
 cases h:dvk 0 (l.drop a) with
 | none =>
  rw [h] at qg
  rw [h] at he
  simp only at qg ⊢
  have he':=he.1 rfl
  generalize dve 0 (l.drop a)=e at *
  (refine v_enter Tryz.func148 rfl Tryz.ntmps148 rfl ?_;intro B _)
  repeat' (first|apply v_seq|apply v_region|apply v_nil|apply v_pure;(case hop=>(apply p_assign<;>rfl));(case hd=>rfl)|fail)
  refine d_start _ (by kernel_rfl) (by kernel_rfl) (by kernel_rfl) (fun _ he=>he) ?_
  all_goals (apply dtm 0;(case hi|hx=>rfl);(case hq=>kernel_rfl);apply dtn 1;(case hi|hx=>rfl);(case hq=>kernel_rfl))
  all_goals (apply dtk 2;(case hi=>rfl);(case hop=>(apply prd;apply p_fieldAddrB<;>rfl));(case hq=>kernel_rfl);apply dtk 3;(case hi=>rfl);(case hop=>first|apply r_loadNo;(case hx=>rfl);(case h=>repeat fail);(case hd=>repeat fail);(case hn=>rfl)|apply r_load1;rfl;(apply Cell.own;(case h=>repeat exact mhd _);rfl)|apply r_loadN;rfl;(apply CellsAt.own;(case h=>repeat fail));rfl);(case hq=>kernel_rfl))
  all_goals (apply dtm 4;(case hi|hx=>rfl);(case hq=>kernel_rfl);apply dtn 5;(case hi|hx=>rfl);(case hq=>kernel_rfl))
  all_goals (apply dtk 6;(case hi=>rfl);(case hop=>(apply prd;apply p_fieldAddrB<;>rfl));(case hq=>kernel_rfl);apply dtk 7;(case hi=>rfl);(case hop=>first|apply r_loadNo;(case hx=>rfl);(case h=>repeat fail);(case hd=>repeat fail);(case hn=>rfl)|apply r_load1;rfl;(apply Cell.own;(case h=>repeat exact mhd _);rfl)|apply r_loadN;rfl;(apply CellsAt.own;(case h=>repeat fail));rfl);(case hq=>kernel_rfl))
  all_goals (apply d_callJ 8 (hs:=qg);(case hi=>rfl);(case hr=>kernel_rfl);(case ha|hd=>rfl))
  all_goals (apply dtm 9;(case hi|hx=>rfl);(case hq=>kernel_rfl);apply dtk 10;(case hi=>rfl);(case hop=>(apply prd;apply p_extract0<;>rfl));(case hq=>kernel_rfl))
  all_goals (apply dtk 11;(case hi=>rfl);(case hop=>(apply prd;apply p_extract1<;>rfl));(case hq=>kernel_rfl);apply dtk 12;(case hi=>rfl);(case hop=>(apply prd;apply p_extract2<;>rfl));(case hq=>kernel_rfl))
  all_goals (apply dta 13;(case hi|hx=>rfl);(case hq=>kernel_rfl);apply dta 14;(case hi|hx=>rfl);(case hq=>kernel_rfl))
  all_goals (apply dta 15;(case hi|hx=>rfl);(case hq=>kernel_rfl))
  all_goals (apply d_done;(case hr=>kernel_rfl))
  repeat' (first|apply v_seq|apply v_region|apply v_nil|apply v_block|apply v_blk|apply v_pure;(case hop=>first|apply p_move<;>rfl|apply p_ne<;>rfl|apply p_assign<;>rfl|apply p_fieldAddrB<;>rfl|apply p_nilCheck<;>rfl|fail);(case hd=>rfl)|apply v_cond;(case hc=>rfl);all_goals (intro h;(try simp only [reduceCtorEq,zzz] at h);try (exfalso;omega))|apply v_call (hs:=fail_s G rb (.slice A l.length c) a 0 e);(case ha=>rfl);(case hp=>exact (Pick.perm (by repeat (exact Pick.here _))));(case hd=>rfl);rintro _ _ _ _ ⟨rfl,rfl,rfl⟩|apply v_store;(case hp|hx|hc|hsz|h1=>rfl);(case hb=>repeat exact mhd _);(case hfit=>exact nle rfl);(case hov=>((repeat (first|with_reducible exact ov_nil|apply ov_cons));done));(case hu=>repeat (exact Upd.here _ _))|fail)
  refine v_ret [(rb,_)] (outsA1 rfl rfl) (by repeat (exact List.Sublist.refl _)) ?_
  exact ⟨rfl,rfl,rfl⟩
 | some p =>
  obtain ⟨m,r'⟩:=p
  rw [h] at qg
  simp only at qg ⊢
  (refine v_enter Tryz.func148 rfl Tryz.ntmps148 rfl ?_;intro B _)
  repeat' (first|apply v_seq|apply v_region|apply v_nil|apply v_pure;(case hop=>(apply p_assign<;>rfl));(case hd=>rfl)|fail)
  refine d_start _ (by kernel_rfl) (by kernel_rfl) (by kernel_rfl) (fun _ he=>he) ?_
  all_goals (apply dtm 0;(case hi|hx=>rfl);(case hq=>kernel_rfl);apply dtn 1;(case hi|hx=>rfl);(case hq=>kernel_rfl))
  all_goals (apply dtk 2;(case hi=>rfl);(case hop=>(apply prd;apply p_fieldAddrB<;>rfl));(case hq=>kernel_rfl);apply dtk 3;(case hi=>rfl);(case hop=>first|apply r_loadNo;(case hx=>rfl);(case h=>repeat fail);(case hd=>repeat fail);(case hn=>rfl)|apply r_load1;rfl;(apply Cell.own;(case h=>repeat exact mhd _);rfl)|apply r_loadN;rfl;(apply CellsAt.own;(case h=>repeat fail));rfl);(case hq=>kernel_rfl))
  all_goals (apply dtm 4;(case hi|hx=>rfl);(case hq=>kernel_rfl);apply dtn 5;(case hi|hx=>rfl);(case hq=>kernel_rfl))
  all_goals (apply dtk 6;(case hi=>rfl);(case hop=>(apply prd;apply p_fieldAddrB<;>rfl));(case hq=>kernel_rfl);apply dtk 7;(case hi=>rfl);(case hop=>first|apply r_loadNo;(case hx=>rfl);(case h=>repeat fail);(case hd=>repeat fail);(case hn=>rfl)|apply r_load1;rfl;(apply Cell.own;(case h=>repeat exact mhd _);rfl)|apply r_loadN;rfl;(apply CellsAt.own;(case h=>repeat fail));rfl);(case hq=>kernel_rfl))
  all_goals (apply d_callJ 8 (hs:=qg);(case hi=>rfl);(case hr=>kernel_rfl);(case ha|hd=>rfl))
  all_goals (apply dtm 9;(case hi|hx=>rfl);(case hq=>kernel_rfl);apply dtk 10;(case hi=>rfl);(case hop=>(apply prd;apply p_extract0<;>rfl));(case hq=>kernel_rfl))
  all_goals (apply dtk 11;(case hi=>rfl);(case hop=>(apply prd;apply p_extract1<;>rfl));(case hq=>kernel_rfl);apply dtk 12;(case hi=>rfl);(case hop=>(apply prd;apply p_extract2<;>rfl));(case hq=>kernel_rfl))
  all_goals (apply dta 13;(case hi|hx=>rfl);(case hq=>kernel_rfl);apply dta 14;(case hi|hx=>rfl);(case hq=>kernel_rfl))
  all_goals (apply dta 15;(case hi|hx=>rfl);(case hq=>kernel_rfl))
  all_goals (apply d_done;(case hr=>kernel_rfl))
  repeat' (first|apply v_seq|apply v_region|apply v_nil|apply v_skip|apply v_block|apply v_blk|apply v_pure;(case hop=>first|apply p_move<;>rfl|apply p_nes<;>rfl|apply p_gt<;>rfl|apply p_assign<;>rfl|apply p_fieldAddrB<;>rfl|apply p_nilCheck<;>rfl|fail);(case hd=>rfl)|apply v_condF;(case hc=>rfl)|apply v_cond;(case hc=>rfl);all_goals (intro h;(try simp only [reduceCtorEq,zzz] at h))|apply v_call (hs:=fail_s G rb (.slice A l.length c) a 0 2);(case ha=>rfl);(case hp=>exact (Pick.perm (by repeat (exact Pick.here _))));(case hd=>rfl);rintro _ _ _ _ ⟨rfl,rfl,rfl⟩|apply v_store;(case hp|hx|hc|hsz|h1=>rfl);(case hb=>repeat exact mhd _);(case hfit=>exact nle rfl);(case hov=>((repeat (first|with_reducible exact ov_nil|apply ov_cons));done));(case hu=>repeat (exact Upd.here _ _))|fail)
  ·refine v_ret [(rb,_)] (outsA1 rfl rfl) (by repeat (exact List.Sublist.refl _)) ?_
   exact ⟨rfl,rfl,by rw [if_pos (by omega)]⟩
  ·refine v_ret [(rb,_)] (outsA1 rfl rfl) (by repeat (exact List.Sublist.refl _)) ?_
   exact ⟨rfl,rfl,by rw [if_neg (by omega)]⟩
abbrev pO (rb:Nat):Obj:=.cells [.pointer (some ⟨rb,0,none⟩)].toArray 145 (0,0)
abbrev iO (n:Int):Obj:=.cells [.int .i64 n].toArray 3 (0,0)
theorem rdNumber1_s {G:GH}{l:List Int}{bv:Value}(pb qb rb a:Nat) (most:Int) (hs:Sl G 1 (IntR .u8) bv l) (hl:l.length≤1048576) (ha:a≤l.length) :
 Con Tryz.prog 147 #[.pointer (some ⟨pb,0,none⟩),.pointer (some ⟨qb,0,none⟩)] G [(rb,rdO bv a 0),(qb,iO most),(pb,pO rb)] (Keeps (.int .i64 (limN (l.drop a))) G [(rb,rdO bv (limAt l a) (limNo most (l.drop a))),(qb,iO most),(pb,pO rb)]):=by
 have ql:=limited_s rb a most hs hl ha
 (refine v_enter Tryz.func147 rfl Tryz.ntmps147 rfl ?_;intro B _)
 repeat' (first|apply v_seq|apply v_region|apply v_nil|apply v_pure;(case hop=>(apply p_assign<;>rfl));(case hd=>rfl)|apply v_call (hs:=ql);(case ha=>rfl);(case hp=>exact (Pick.perm (by repeat (exact Pick.here _))));(case hd=>rfl);rintro _ _ _ _ ⟨rfl,rfl,rfl⟩|apply v_read;(case hop=>(apply r_load1;rfl;(apply Cell.own;(case h=>repeat first|exact mhd _|apply mtl);rfl)));(case hd=>rfl)|fail)
 refine v_ret [(rb,_),(qb,_),(pb,_)] (outsA1 rfl rfl) (by repeat (exact List.Sublist.refl _)) ?_
 exact ⟨rfl,rfl,rfl⟩
def RdS (l:List Int) (a:Nat) (no:Int) (s:Option (List Int)):Prop:=a≤l.length∧((s=none∧no≠0)∨(s=some (l.drop a)∧no=0))
def numV (most:Int):Option (List Int)→Int
 | none=>0
 | some r=>match dvk 0 r with|none=>0|some p=>if most<p.1 then 0 else p.1
def numS (most:Int):Option (List Int)→Option (List Int)
 | none=>none
 | some r=>match dvk 0 r with|none=>none|some p=>if most<p.1 then none else some p.2
theorem dvk_len:∀ (r:List Int) (k:Nat) (m:Int) (r':List Int),dvk k r=some (m,r')→r'.length<r.length∧r'=r.drop (r.length-r'.length)
 | [],k,m,r',h=>by rw [dvk_nil] at h;cases h
 | c::r,k,m,r',h=>by
  rw [dvk_cons] at h
  split at h
  ·cases h
  ·split at h
   ·cases h
    refine ⟨by simp,?_⟩
    rw [List.length_cons,show r.length+1-r.length=0+1 by omega,List.drop_succ_cons,List.drop_zero]
   ·obtain ⟨p,hp,he⟩:=Option.map_eq_some_iff.1 h
    obtain ⟨m',r2⟩:=p
    cases he
    obtain ⟨h1,h2⟩:=dvk_len r (k+1) m' r2 hp
    simp only at *
    refine ⟨by simp only [List.length_cons];omega,?_⟩
    rw [List.length_cons,show r.length+1-r2.length=(r.length-r2.length)+1 by omega,List.drop_succ_cons]
    exact h2
theorem limAt_le (l:List Int) (a:Nat):limAt l a≤l.length:=by
 unfold limAt
 split<;>omega
theorem lim_ok {l:List Int}{a:Nat}{most:Int}(ha:a≤l.length) (h:limNo most (l.drop a)=0):numV most (some (l.drop a))=limN (l.drop a)∧numS most (some (l.drop a))=some (l.drop (limAt l a)):=by
 unfold limNo at h
 unfold limN limAt
 have he:=dve_none (l.drop a) 0
 cases hd:dvk 0 (l.drop a) with
 | none=>rw [hd] at h he;exact absurd h (he.1 rfl)
 | some p =>
  rw [hd] at h
  simp only at h ⊢
  have hm:¬ most<p.1:=fun hm=>by rw [if_pos hm] at h;omega
  obtain ⟨h1,h2⟩:=dvk_len _ _ p.1 p.2 hd
  simp only [numV,numS,hd,if_neg hm]
  refine ⟨trivial,?_⟩
  rw [List.length_drop] at h1 h2
  rw [List.drop_drop] at h2
  rw [show l.length-p.2.length=a+(l.length-a-p.2.length) by omega,← h2]
theorem lim_no {r:List Int}{most:Int}(h:limNo most r≠0):numV most (some r)=0∧numS most (some r)=none:=by
 unfold limNo at h
 cases hd:dvk 0 r with
 | none=>simp only [numV,numS,hd];exact ⟨trivial,trivial⟩
 | some p =>
  rw [hd] at h
  simp only at h ⊢
  have hm:most<p.1:=by
   by_cases hm:most<p.1
   ·exact hm
   ·rw [if_neg hm] at h;exact absurd rfl h
  simp only [numV,numS,hd,if_pos hm]
  exact ⟨trivial,trivial⟩
theorem rdReadI_s {G:GH}{l:List Int}{bv:Value}{s:Option (List Int)}(pb qb rb a:Nat) (no most:Int) (hs:Sl G 1 (IntR .u8) bv l) (hl:l.length≤1048576) (hr:RdS l a no s) :
 Con Tryz.prog 146 #[.pointer (some ⟨rb,0,none⟩),.func (.func 147) #[] #[.pointer (some ⟨pb,0,none⟩),.pointer (some ⟨qb,0,none⟩)]] G [(rb,rdO bv a no),(qb,iO most),(pb,pO rb)]
  (fun r G' μ'=>G'=G∧r=.int .i64 (numV most s)∧∃ a' no',μ'=[(rb,rdO bv (a':Nat) no'),(qb,iO most),(pb,pO rb)]∧RdS l a' no' (numS most s)):=by
 obtain ⟨ha,⟨rfl,hno⟩|⟨rfl,rfl⟩⟩:=hr
 ·(refine v_enter Tryz.func146 rfl Tryz.ntmps146 rfl ?_;intro B _)
  repeat' (first|apply v_seq|apply v_region|apply v_nil|apply v_take;(case hg=>rfl)|apply v_pure;(case hop=>first|apply p_move<;>rfl|apply p_ne<;>rfl|apply p_assign<;>rfl|apply p_pickF<;>rfl|apply p_fieldAddrB<;>rfl|apply p_nilCheck<;>rfl|apply p_eqNil<;>rfl|fail);(case hd=>rfl)|apply v_cond;(case hc=>rfl);all_goals (intro h;(try simp only [reduceCtorEq,zzz] at h);try (exfalso;omega))|apply v_read;(case hop=>(apply r_load1;rfl;(apply Cell.own;(case h=>repeat exact mhd _);rfl)));(case hd=>rfl)|fail)
  refine v_ret [(rb,_),(qb,_),(pb,_)] (outsA1 rfl rfl) (by repeat (exact List.Sublist.refl _)) ?_
  exact ⟨rfl,rfl,a,no,rfl,ha,.inl ⟨rfl,hno⟩⟩
 ·have q:=rdNumber1_s pb qb rb a most hs hl ha
  have hk:=lim_ok (most:=most) ha
  have hn:=lim_no (r:=l.drop a) (most:=most)
  have hat:=limAt_le l a
  generalize limNo most (l.drop a)=no' at *
  generalize limAt l a=a' at *
  generalize limN (l.drop a)=n at *
  (refine v_enter Tryz.func146 rfl Tryz.ntmps146 rfl ?_;intro B _)
  repeat' (first|apply v_seq|apply v_region|apply v_nil|apply v_skip|apply v_take;(case hg=>rfl)|apply v_pure;(case hop=>first|apply p_move<;>rfl|apply p_nes<;>rfl|apply p_assign<;>rfl|apply p_pickF<;>rfl|apply p_fieldAddrB<;>rfl|apply p_nilCheck<;>rfl|apply p_eqNil<;>rfl|fail);(case hd=>rfl)|apply v_condF;(case hc=>rfl)|apply v_read;(case hop=>(apply r_load1;rfl;(apply Cell.own;(case h=>repeat exact mhd _);rfl)));(case hd=>rfl)|fail)
  refine v_callC (first:=[]) (captured:=[.pointer (some ⟨pb,0,none⟩),.pointer (some ⟨qb,0,none⟩)]) (vs:=[]) rfl rfl q (List.Perm.refl _) rfl ?_
  rintro _ _ _ _ ⟨rfl,rfl,rfl⟩
  repeat' (first|apply v_seq|apply v_region|apply v_nil|apply v_skip|apply v_pure;(case hop=>first|apply p_move<;>rfl|apply p_ne<;>rfl|apply p_assign<;>rfl|apply p_fieldAddrB<;>rfl|apply p_nilCheck<;>rfl|fail);(case hd=>rfl)|apply v_cond;(case hc=>rfl);all_goals (intro h;(try simp only [reduceCtorEq,zzz] at h))|apply v_read;(case hop=>(apply r_load1;rfl;(apply Cell.own;(case h=>repeat exact mhd _);rfl)));(case hd=>rfl)|fail)
  ·refine v_ret [(rb,_),(qb,_),(pb,_)] (outsA1 rfl rfl) (by repeat (exact List.Sublist.refl _)) ?_
   exact ⟨rfl,by rw [(hn ‹_›).1],a',no',rfl,hat,.inl ⟨(hn ‹_›).2,‹_›⟩⟩
  ·refine v_ret [(rb,_),(qb,_),(pb,_)] (outsA1 rfl rfl) (by repeat (exact List.Sublist.refl _)) ?_
   exact ⟨rfl,by rw [(hk ‹_›).1],a',no',rfl,hat,.inr ⟨(hk ‹_›).2,‹_›⟩⟩
theorem rdNumber_s {G:GH}{l:List Int}{bv:Value}{s:Option (List Int)}(rb a:Nat) (no most:Int) (hs:Sl G 1 (IntR .u8) bv l) (hl:l.length≤1048576) (hr:RdS l a no s) :
 Con Tryz.prog 105 #[.pointer (some ⟨rb,0,none⟩),.int .i64 most] G [(rb,rdO bv a no)]
  (fun r G' μ'=>G'=G∧r=.int .i64 (numV most s)∧∃ a' no',μ'=[(rb,rdO bv (a':Nat) no')]∧RdS l a' no' (numS most s)):=by
 have q:=fun pb qb=>rdReadI_s pb qb rb a no most hs hl hr
 generalize numV most s=n at *
 (refine v_enter Tryz.func105 rfl Tryz.ntmps105 rfl ?_;intro B _)
 repeat' (first|apply v_seq|apply v_region|apply v_nil|apply v_pure;(case hop=>first|apply p_assign<;>rfl|apply p_makeFunc<;>rfl);(case hd=>rfl)|apply v_read;(case hop=>(apply r_load1;rfl;(apply Cell.own;(case h=>repeat first|exact mhd _|apply mtl);rfl)));(case hd=>rfl)|apply v_box;(case hx|hz|hd=>rfl);intro b|fail)
 rename_i pb
 refine v_call (μ1:=[(rb,rdO bv a no),(b,iO most),(pb,pO rb)]) (μ2:=[]) rfl (q pb b) (by apply perm_of_count;intro p;simp only [List.append_eq,List.countP_append,List.countP_cons,List.countP_nil,Nat.zero_add,Nat.add_zero];try ac_rfl) rfl ?_
 rintro _ _ _ _ ⟨rfl,rfl,a',no',rfl,hr'⟩
 repeat' (first|apply v_nil|apply v_pure;(case hop=>(apply p_assign<;>rfl));(case hd=>rfl)|fail)
 refine v_ret [(rb,_)] (outsA1 rfl rfl) (by repeat (first|exact List.nil_sublist _|apply List.Sublist.cons_cons)) ?_
 exact ⟨rfl,rfl,a',no',rfl,hr'⟩
end Go.Proofs.YtpemabgfmnhhnaaGreatDoor

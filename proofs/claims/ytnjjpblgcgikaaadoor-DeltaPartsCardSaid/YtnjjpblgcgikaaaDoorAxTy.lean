/- What the types are. -/
import Derived.Test.YtnjjpblgcgikaaaDoorAxG3
import Derived.Test.YtnjjpblgcgikaaaDoorRows
namespace Go.Proofs.YtnjjpblgcgikaaaDoor.Ax
theorem ty1 : tyOf Tryd.prog 1 = some { agg := false, size := 1, bytes := 8, zero := Value.nilFunc, d := TD.other } := by kernel_rfl
theorem ty2 : tyOf Tryd.prog 2 = some { agg := false, size := 1, bytes := 8, zero := Value.int IntKind.i64 0, d := TD.int IntKind.i64 } := by kernel_rfl
theorem ty3 : tyOf Tryd.prog 3 = some { agg := false, size := 1, bytes := 8, zero := Value.int IntKind.i64 0, d := TD.int IntKind.i64 } := by kernel_rfl
theorem ty4 : tyOf Tryd.prog 4 = some { agg := false, size := 1, bytes := 1, zero := Value.bool false, d := TD.bool } := by kernel_rfl
theorem ty5 : tyOf Tryd.prog 5 = some { agg := false, size := 1, bytes := 1, zero := Value.int IntKind.u8 0, d := TD.int IntKind.u8 } := by kernel_rfl
theorem ty6 : tyOf Tryd.prog 6 = some { agg := false, size := 1, bytes := 1, zero := Value.int IntKind.u8 0, d := TD.int IntKind.u8 } := by kernel_rfl
theorem ty7 : tyOf Tryd.prog 7 = some { agg := true, size := 4, bytes := 24, zero := Value.agg #[Value.int IntKind.i64 0, Value.int IntKind.i64 0, Value.bool false, Value.int IntKind.u8 0], d := TD.struct [(0, 2), (1, 3), (2, 4), (3, 6)] } := by kernel_rfl
theorem ty8 : tyOf Tryd.prog 8 = some { agg := true, size := 4, bytes := 24, zero := Value.agg #[Value.int IntKind.i64 0, Value.int IntKind.i64 0, Value.bool false, Value.int IntKind.u8 0], d := TD.struct [(0, 2), (1, 3), (2, 4), (3, 6)] } := by kernel_rfl
theorem ty9 : tyOf Tryd.prog 9 = some { agg := false, size := 1, bytes := 16, zero := Value.string ByteArray.empty, d := TD.str } := by kernel_rfl
theorem ty10 : tyOf Tryd.prog 10 = some { agg := false, size := 1, bytes := 16, zero := Value.string ByteArray.empty, d := TD.str } := by kernel_rfl
theorem ty11 : tyOf Tryd.prog 11 = some { agg := false, size := 1, bytes := 16, zero := Value.string ByteArray.empty, d := TD.str } := by kernel_rfl
theorem ty12 : tyOf Tryd.prog 12 = some { agg := false, size := 1, bytes := 8, zero := Value.int IntKind.u64 0, d := TD.int IntKind.u64 } := by kernel_rfl
theorem ty13 : tyOf Tryd.prog 13 = some { agg := true, size := 2, bytes := 24, zero := Value.agg #[Value.string ByteArray.empty, Value.int IntKind.u64 0], d := TD.struct [(0, 9), (1, 12)] } := by kernel_rfl
theorem ty14 : tyOf Tryd.prog 14 = some { agg := true, size := 2, bytes := 24, zero := Value.agg #[Value.string ByteArray.empty, Value.int IntKind.u64 0], d := TD.struct [(0, 9), (1, 12)] } := by kernel_rfl
theorem ty15 : tyOf Tryd.prog 15 = some { agg := false, size := 1, bytes := 8, zero := Value.pointer none, d := TD.ptr 142 } := by kernel_rfl
theorem ty16 : tyOf Tryd.prog 16 = some { agg := false, size := 1, bytes := 8, zero := Value.pointer none, d := TD.ptr 145 } := by kernel_rfl
theorem ty17 : tyOf Tryd.prog 17 = some { agg := false, size := 1, bytes := 8, zero := Value.pointer none, d := TD.ptr 152 } := by kernel_rfl
theorem ty18 : tyOf Tryd.prog 18 = some { agg := true, size := 1, bytes := 8, zero := Value.agg #[Value.pointer none], d := TD.struct [(0, 17)] } := by kernel_rfl
theorem ty19 : tyOf Tryd.prog 19 = some { agg := true, size := 1, bytes := 8, zero := Value.agg #[Value.pointer none], d := TD.struct [(0, 17)] } := by kernel_rfl
theorem ty20 : tyOf Tryd.prog 20 = some { agg := false, size := 1, bytes := 16, zero := Value.nilIface, d := TD.other } := by kernel_rfl
theorem ty21 : tyOf Tryd.prog 21 = some { agg := false, size := 1, bytes := 4, zero := Value.int IntKind.i32 0, d := TD.int IntKind.i32 } := by kernel_rfl
theorem ty22 : tyOf Tryd.prog 22 = some { agg := false, size := 1, bytes := 24, zero := Value.slice none 0 0, d := TD.sl 39 } := by kernel_rfl
theorem ty23 : tyOf Tryd.prog 23 = some { agg := false, size := 1, bytes := 24, zero := Value.slice none 0 0, d := TD.sl 52 } := by kernel_rfl
theorem ty24 : tyOf Tryd.prog 24 = some { agg := false, size := 1, bytes := 8, zero := Value.int IntKind.i64 0, d := TD.int IntKind.i64 } := by kernel_rfl
theorem ty26 : tyOf Tryd.prog 26 = some { agg := false, size := 1, bytes := 8, zero := Value.nilFunc, d := TD.other } := by kernel_rfl
theorem ty28 : tyOf Tryd.prog 28 = some { agg := false, size := 1, bytes := 8, zero := Value.nilFunc, d := TD.other } := by kernel_rfl
theorem ty29 : tyOf Tryd.prog 29 = some { agg := false, size := 1, bytes := 8, zero := Value.nilFunc, d := TD.other } := by kernel_rfl
theorem ty30 : tyOf Tryd.prog 30 = some { agg := false, size := 1, bytes := 8, zero := Value.nilFunc, d := TD.other } := by kernel_rfl
theorem ty31 : tyOf Tryd.prog 31 = some { agg := false, size := 1, bytes := 8, zero := Value.nilFunc, d := TD.other } := by kernel_rfl
theorem ty32 : tyOf Tryd.prog 32 = some { agg := false, size := 1, bytes := 8, zero := Value.nilFunc, d := TD.other } := by kernel_rfl
theorem ty33 : tyOf Tryd.prog 33 = some { agg := false, size := 1, bytes := 8, zero := Value.nilFunc, d := TD.other } := by kernel_rfl
theorem ty34 : tyOf Tryd.prog 34 = some { agg := false, size := 1, bytes := 8, zero := Value.nilFunc, d := TD.other } := by kernel_rfl
theorem ty35 : tyOf Tryd.prog 35 = some { agg := false, size := 1, bytes := 8, zero := Value.nilFunc, d := TD.other } := by kernel_rfl
theorem ty36 : tyOf Tryd.prog 36 = some { agg := false, size := 1, bytes := 8, zero := Value.nilFunc, d := TD.other } := by kernel_rfl
theorem ty37 : tyOf Tryd.prog 37 = some { agg := false, size := 1, bytes := 8, zero := Value.nilFunc, d := TD.other } := by kernel_rfl
theorem ty38 : tyOf Tryd.prog 38 = some { agg := true, size := 3, bytes := 32, zero := Value.agg #[Value.int IntKind.i64 0, Value.int IntKind.i64 0, Value.string ByteArray.empty], d := TD.struct [(0, 3), (1, 3), (2, 9)] } := by kernel_rfl
theorem ty39 : tyOf Tryd.prog 39 = some { agg := true, size := 3, bytes := 32, zero := Value.agg #[Value.int IntKind.i64 0, Value.int IntKind.i64 0, Value.string ByteArray.empty], d := TD.struct [(0, 3), (1, 3), (2, 9)] } := by kernel_rfl
theorem ty40 : tyOf Tryd.prog 40 = some { agg := false, size := 1, bytes := 8, zero := Value.nilFunc, d := TD.other } := by kernel_rfl
theorem ty42 : tyOf Tryd.prog 42 = some { agg := false, size := 1, bytes := 8, zero := Value.nilFunc, d := TD.other } := by kernel_rfl
theorem ty44 : tyOf Tryd.prog 44 = some { agg := false, size := 1, bytes := 8, zero := Value.nilFunc, d := TD.other } := by kernel_rfl
theorem ty45 : tyOf Tryd.prog 45 = some { agg := false, size := 1, bytes := 8, zero := Value.nilFunc, d := TD.other } := by kernel_rfl
theorem ty46 : tyOf Tryd.prog 46 = some { agg := false, size := 1, bytes := 8, zero := Value.nilFunc, d := TD.other } := by kernel_rfl
theorem ty47 : tyOf Tryd.prog 47 = some { agg := false, size := 1, bytes := 8, zero := Value.nilFunc, d := TD.other } := by kernel_rfl
theorem ty48 : tyOf Tryd.prog 48 = some { agg := false, size := 1, bytes := 8, zero := Value.nilFunc, d := TD.other } := by kernel_rfl
theorem ty49 : tyOf Tryd.prog 49 = some { agg := false, size := 1, bytes := 8, zero := Value.nilFunc, d := TD.other } := by kernel_rfl
theorem ty50 : tyOf Tryd.prog 50 = some { agg := false, size := 1, bytes := 8, zero := Value.nilFunc, d := TD.other } := by kernel_rfl
theorem ty51 : tyOf Tryd.prog 51 = some { agg := true, size := 6, bytes := 56, zero := Value.agg #[Value.int IntKind.i64 0, Value.int IntKind.i64 0, Value.int IntKind.i64 0, Value.int IntKind.i64 0, Value.int IntKind.i64 0, Value.string ByteArray.empty], d := TD.struct [(0, 3), (1, 3), (2, 3), (3, 39)] } := by kernel_rfl
theorem ty52 : tyOf Tryd.prog 52 = some { agg := true, size := 6, bytes := 56, zero := Value.agg #[Value.int IntKind.i64 0, Value.int IntKind.i64 0, Value.int IntKind.i64 0, Value.int IntKind.i64 0, Value.int IntKind.i64 0, Value.string ByteArray.empty], d := TD.struct [(0, 3), (1, 3), (2, 3), (3, 39)] } := by kernel_rfl
theorem ty53 : tyOf Tryd.prog 53 = some { agg := false, size := 1, bytes := 8, zero := Value.nilFunc, d := TD.other } := by kernel_rfl
theorem ty54 : tyOf Tryd.prog 54 = some { agg := false, size := 1, bytes := 8, zero := Value.nilFunc, d := TD.other } := by kernel_rfl
theorem ty55 : tyOf Tryd.prog 55 = some { agg := false, size := 1, bytes := 8, zero := Value.nilFunc, d := TD.other } := by kernel_rfl
theorem ty56 : tyOf Tryd.prog 56 = some { agg := false, size := 1, bytes := 8, zero := Value.nilFunc, d := TD.other } := by kernel_rfl
theorem ty57 : tyOf Tryd.prog 57 = some { agg := false, size := 1, bytes := 8, zero := Value.nilFunc, d := TD.other } := by kernel_rfl
theorem ty58 : tyOf Tryd.prog 58 = some { agg := false, size := 1, bytes := 8, zero := Value.nilFunc, d := TD.other } := by kernel_rfl
theorem ty60 : tyOf Tryd.prog 60 = some { agg := false, size := 1, bytes := 8, zero := Value.nilFunc, d := TD.other } := by kernel_rfl
theorem ty61 : tyOf Tryd.prog 61 = some { agg := false, size := 1, bytes := 8, zero := Value.nilFunc, d := TD.other } := by kernel_rfl
theorem ty62 : tyOf Tryd.prog 62 = some { agg := false, size := 1, bytes := 8, zero := Value.nilFunc, d := TD.other } := by kernel_rfl
theorem ty63 : tyOf Tryd.prog 63 = some { agg := false, size := 1, bytes := 8, zero := Value.nilFunc, d := TD.other } := by kernel_rfl
theorem ty65 : tyOf Tryd.prog 65 = some { agg := false, size := 1, bytes := 8, zero := Value.nilFunc, d := TD.other } := by kernel_rfl
theorem ty66 : tyOf Tryd.prog 66 = some { agg := false, size := 1, bytes := 8, zero := Value.nilFunc, d := TD.other } := by kernel_rfl
theorem ty67 : tyOf Tryd.prog 67 = some { agg := false, size := 1, bytes := 8, zero := Value.nilFunc, d := TD.other } := by kernel_rfl
theorem ty68 : tyOf Tryd.prog 68 = some { agg := false, size := 1, bytes := 8, zero := Value.nilFunc, d := TD.other } := by kernel_rfl
theorem ty69 : tyOf Tryd.prog 69 = some { agg := false, size := 1, bytes := 8, zero := Value.nilFunc, d := TD.other } := by kernel_rfl
theorem ty70 : tyOf Tryd.prog 70 = some { agg := false, size := 1, bytes := 8, zero := Value.nilFunc, d := TD.other } := by kernel_rfl
theorem ty71 : tyOf Tryd.prog 71 = some { agg := false, size := 1, bytes := 8, zero := Value.pointer none, d := TD.ptr 73 } := by kernel_rfl
theorem ty72 : tyOf Tryd.prog 72 = some { agg := true, size := 2, bytes := 24, zero := Value.agg #[Value.string ByteArray.empty, Value.bool false], d := TD.struct [(0, 9), (1, 4)] } := by kernel_rfl
theorem ty73 : tyOf Tryd.prog 73 = some { agg := true, size := 2, bytes := 24, zero := Value.agg #[Value.string ByteArray.empty, Value.bool false], d := TD.struct [(0, 9), (1, 4)] } := by kernel_rfl
theorem ty74 : tyOf Tryd.prog 74 = some { agg := false, size := 1, bytes := 8, zero := Value.nilFunc, d := TD.other } := by kernel_rfl
theorem ty75 : tyOf Tryd.prog 75 = some { agg := false, size := 1, bytes := 8, zero := Value.nilFunc, d := TD.other } := by kernel_rfl
theorem ty76 : tyOf Tryd.prog 76 = some { agg := false, size := 1, bytes := 8, zero := Value.nilFunc, d := TD.other } := by kernel_rfl
theorem ty77 : tyOf Tryd.prog 77 = some { agg := false, size := 1, bytes := 8, zero := Value.nilFunc, d := TD.other } := by kernel_rfl
theorem ty78 : tyOf Tryd.prog 78 = some { agg := false, size := 1, bytes := 8, zero := Value.nilFunc, d := TD.other } := by kernel_rfl
theorem ty79 : tyOf Tryd.prog 79 = some { agg := false, size := 1, bytes := 8, zero := Value.map none, d := TD.map 3 39 } := by kernel_rfl
theorem ty80 : tyOf Tryd.prog 80 = some { agg := false, size := 1, bytes := 8, zero := Value.nilFunc, d := TD.other } := by kernel_rfl
theorem ty81 : tyOf Tryd.prog 81 = some { agg := false, size := 1, bytes := 8, zero := Value.nilFunc, d := TD.other } := by kernel_rfl
theorem ty82 : tyOf Tryd.prog 82 = some { agg := false, size := 1, bytes := 24, zero := Value.slice none 0 0, d := TD.sl 5 } := by kernel_rfl
theorem ty83 : tyOf Tryd.prog 83 = some { agg := false, size := 1, bytes := 4, zero := Value.int IntKind.u32 0, d := TD.int IntKind.u32 } := by kernel_rfl
theorem ty84 : tyOf Tryd.prog 84 = some { agg := false, size := 1, bytes := 8, zero := Value.int IntKind.u64 0, d := TD.int IntKind.u64 } := by kernel_rfl
theorem ty85 : tyOf Tryd.prog 85 = some { agg := false, size := 1, bytes := 24, zero := Value.slice none 0 0, d := TD.sl 3 } := by kernel_rfl
theorem ty86 : tyOf Tryd.prog 86 = some { agg := false, size := 1, bytes := 8, zero := Value.nilFunc, d := TD.other } := by kernel_rfl
theorem ty87 : tyOf Tryd.prog 87 = some { agg := false, size := 1, bytes := 8, zero := Value.nilFunc, d := TD.other } := by kernel_rfl
theorem ty88 : tyOf Tryd.prog 88 = some { agg := false, size := 1, bytes := 8, zero := Value.nilFunc, d := TD.other } := by kernel_rfl
theorem ty89 : tyOf Tryd.prog 89 = some { agg := false, size := 1, bytes := 16, zero := Value.nilIface, d := TD.other } := by kernel_rfl
theorem ty90 : tyOf Tryd.prog 90 = some { agg := false, size := 1, bytes := 16, zero := Value.nilIface, d := TD.other } := by kernel_rfl
theorem ty92 : tyOf Tryd.prog 92 = some { agg := false, size := 1, bytes := 8, zero := Value.nilFunc, d := TD.other } := by kernel_rfl
theorem ty93 : tyOf Tryd.prog 93 = some { agg := false, size := 1, bytes := 24, zero := Value.slice none 0 0, d := TD.sl 4 } := by kernel_rfl
theorem ty95 : tyOf Tryd.prog 95 = some { agg := false, size := 1, bytes := 8, zero := Value.nilFunc, d := TD.other } := by kernel_rfl
theorem ty96 : tyOf Tryd.prog 96 = some { agg := false, size := 1, bytes := 8, zero := Value.nilFunc, d := TD.other } := by kernel_rfl
theorem ty97 : tyOf Tryd.prog 97 = some { agg := false, size := 1, bytes := 8, zero := Value.pointer none, d := TD.ptr 99 } := by kernel_rfl
theorem ty98 : tyOf Tryd.prog 98 = some { agg := true, size := 2, bytes := 32, zero := Value.agg #[Value.pointer none, Value.slice none 0 0], d := TD.struct [(0, 97), (1, 82)] } := by kernel_rfl
theorem ty99 : tyOf Tryd.prog 99 = some { agg := true, size := 2, bytes := 32, zero := Value.agg #[Value.pointer none, Value.slice none 0 0], d := TD.struct [(0, 97), (1, 82)] } := by kernel_rfl
theorem ty100 : tyOf Tryd.prog 100 = some { agg := false, size := 1, bytes := 8, zero := Value.nilFunc, d := TD.other } := by kernel_rfl
theorem ty101 : tyOf Tryd.prog 101 = some { agg := false, size := 1, bytes := 8, zero := Value.nilFunc, d := TD.other } := by kernel_rfl
theorem ty102 : tyOf Tryd.prog 102 = some { agg := false, size := 1, bytes := 8, zero := Value.nilFunc, d := TD.other } := by kernel_rfl
theorem ty104 : tyOf Tryd.prog 104 = some { agg := false, size := 1, bytes := 8, zero := Value.nilFunc, d := TD.other } := by kernel_rfl
theorem ty105 : tyOf Tryd.prog 105 = some { agg := false, size := 1, bytes := 8, zero := Value.int IntKind.u64 0, d := TD.int IntKind.u64 } := by kernel_rfl
theorem ty107 : tyOf Tryd.prog 107 = some { agg := false, size := 1, bytes := 8, zero := Value.nilFunc, d := TD.other } := by kernel_rfl
theorem ty108 : tyOf Tryd.prog 108 = some { agg := false, size := 1, bytes := 8, zero := Value.pointer none, d := TD.ptr 5 } := by kernel_rfl
theorem ty109 : tyOf Tryd.prog 109 = some { agg := false, size := 1, bytes := 8, zero := Value.int IntKind.i64 0, d := TD.int IntKind.i64 } := by kernel_rfl
theorem ty111 : tyOf Tryd.prog 111 = some { agg := false, size := 1, bytes := 8, zero := Value.nilFunc, d := TD.other } := by kernel_rfl
theorem ty112 : tyOf Tryd.prog 112 = some { agg := false, size := 1, bytes := 8, zero := Value.pointer none, d := TD.ptr 127 } := by kernel_rfl
theorem ty113 : tyOf Tryd.prog 113 = some { agg := false, size := 1, bytes := 8, zero := Value.nilFunc, d := TD.other } := by kernel_rfl
theorem ty114 : tyOf Tryd.prog 114 = some { agg := false, size := 1, bytes := 8, zero := Value.nilFunc, d := TD.other } := by kernel_rfl
theorem ty115 : tyOf Tryd.prog 115 = some { agg := true, size := 24, bytes := 24, zero := Value.agg #[Value.int IntKind.u8 0, Value.int IntKind.u8 0, Value.int IntKind.u8 0, Value.int IntKind.u8 0, Value.int IntKind.u8 0, Value.int IntKind.u8 0, Value.int IntKind.u8 0, Value.int IntKind.u8 0, Value.int IntKind.u8 0, Value.int IntKind.u8 0, Value.int IntKind.u8 0, Value.int IntKind.u8 0, Value.int IntKind.u8 0, Value.int IntKind.u8 0, Value.int IntKind.u8 0, Value.int IntKind.u8 0, Value.int IntKind.u8 0, Value.int IntKind.u8 0, Value.int IntKind.u8 0, Value.int IntKind.u8 0, Value.int IntKind.u8 0, Value.int IntKind.u8 0, Value.int IntKind.u8 0, Value.int IntKind.u8 0], d := TD.other } := by kernel_rfl
theorem ty116 : tyOf Tryd.prog 116 = some { agg := false, size := 1, bytes := 8, zero := Value.nilFunc, d := TD.other } := by kernel_rfl
theorem ty117 : tyOf Tryd.prog 117 = some { agg := false, size := 1, bytes := 8, zero := Value.nilFunc, d := TD.other } := by kernel_rfl
theorem ty119 : tyOf Tryd.prog 119 = some { agg := false, size := 1, bytes := 8, zero := Value.nilFunc, d := TD.other } := by kernel_rfl
theorem ty120 : tyOf Tryd.prog 120 = some { agg := false, size := 1, bytes := 8, zero := Value.pointer none, d := TD.other } := by kernel_rfl
theorem ty121 : tyOf Tryd.prog 121 = some { agg := false, size := 1, bytes := 8, zero := Value.nilFunc, d := TD.other } := by kernel_rfl
theorem ty122 : tyOf Tryd.prog 122 = some { agg := false, size := 1, bytes := 8, zero := Value.nilFunc, d := TD.other } := by kernel_rfl
theorem ty124 : tyOf Tryd.prog 124 = some { agg := false, size := 1, bytes := 8, zero := Value.nilFunc, d := TD.other } := by kernel_rfl
theorem ty125 : tyOf Tryd.prog 125 = some { agg := false, size := 1, bytes := 8, zero := Value.nilFunc, d := TD.other } := by kernel_rfl
theorem ty126 : tyOf Tryd.prog 126 = some { agg := true, size := 3, bytes := 48, zero := Value.agg #[Value.string ByteArray.empty, Value.string ByteArray.empty, Value.nilIface], d := TD.struct [(0, 9), (1, 9), (2, 90)] } := by kernel_rfl
theorem ty127 : tyOf Tryd.prog 127 = some { agg := true, size := 3, bytes := 48, zero := Value.agg #[Value.string ByteArray.empty, Value.string ByteArray.empty, Value.nilIface], d := TD.struct [(0, 9), (1, 9), (2, 90)] } := by kernel_rfl
theorem ty128 : tyOf Tryd.prog 128 = some { agg := false, size := 1, bytes := 8, zero := Value.nilFunc, d := TD.other } := by kernel_rfl
theorem ty129 : tyOf Tryd.prog 129 = some { agg := false, size := 1, bytes := 8, zero := Value.nilFunc, d := TD.other } := by kernel_rfl
theorem ty130 : tyOf Tryd.prog 130 = some { agg := false, size := 1, bytes := 8, zero := Value.nilFunc, d := TD.other } := by kernel_rfl
theorem ty131 : tyOf Tryd.prog 131 = some { agg := true, size := 20, bytes := 160, zero := Value.agg #[Value.int IntKind.u64 0, Value.int IntKind.u64 0, Value.int IntKind.u64 0, Value.int IntKind.u64 0, Value.int IntKind.u64 0, Value.int IntKind.u64 0, Value.int IntKind.u64 0, Value.int IntKind.u64 0, Value.int IntKind.u64 0, Value.int IntKind.u64 0, Value.int IntKind.u64 0, Value.int IntKind.u64 0, Value.int IntKind.u64 0, Value.int IntKind.u64 0, Value.int IntKind.u64 0, Value.int IntKind.u64 0, Value.int IntKind.u64 0, Value.int IntKind.u64 0, Value.int IntKind.u64 0, Value.int IntKind.u64 0], d := TD.other } := by kernel_rfl
theorem ty132 : tyOf Tryd.prog 132 = some { agg := true, size := 65, bytes := 65, zero := Value.agg #[Value.int IntKind.u8 0, Value.int IntKind.u8 0, Value.int IntKind.u8 0, Value.int IntKind.u8 0, Value.int IntKind.u8 0, Value.int IntKind.u8 0, Value.int IntKind.u8 0, Value.int IntKind.u8 0, Value.int IntKind.u8 0, Value.int IntKind.u8 0, Value.int IntKind.u8 0, Value.int IntKind.u8 0, Value.int IntKind.u8 0, Value.int IntKind.u8 0, Value.int IntKind.u8 0, Value.int IntKind.u8 0, Value.int IntKind.u8 0, Value.int IntKind.u8 0, Value.int IntKind.u8 0, Value.int IntKind.u8 0, Value.int IntKind.u8 0, Value.int IntKind.u8 0, Value.int IntKind.u8 0, Value.int IntKind.u8 0, Value.int IntKind.u8 0, Value.int IntKind.u8 0, Value.int IntKind.u8 0, Value.int IntKind.u8 0, Value.int IntKind.u8 0, Value.int IntKind.u8 0, Value.int IntKind.u8 0, Value.int IntKind.u8 0, Value.int IntKind.u8 0, Value.int IntKind.u8 0, Value.int IntKind.u8 0, Value.int IntKind.u8 0, Value.int IntKind.u8 0, Value.int IntKind.u8 0, Value.int IntKind.u8 0, Value.int IntKind.u8 0, Value.int IntKind.u8 0, Value.int IntKind.u8 0, Value.int IntKind.u8 0, Value.int IntKind.u8 0, Value.int IntKind.u8 0, Value.int IntKind.u8 0, Value.int IntKind.u8 0, Value.int IntKind.u8 0, Value.int IntKind.u8 0, Value.int IntKind.u8 0, Value.int IntKind.u8 0, Value.int IntKind.u8 0, Value.int IntKind.u8 0, Value.int IntKind.u8 0, Value.int IntKind.u8 0, Value.int IntKind.u8 0, Value.int IntKind.u8 0, Value.int IntKind.u8 0, Value.int IntKind.u8 0, Value.int IntKind.u8 0, Value.int IntKind.u8 0, Value.int IntKind.u8 0, Value.int IntKind.u8 0, Value.int IntKind.u8 0, Value.int IntKind.u8 0], d := TD.other } := by kernel_rfl
theorem ty133 : tyOf Tryd.prog 133 = some { agg := false, size := 1, bytes := 8, zero := Value.nilFunc, d := TD.other } := by kernel_rfl
theorem ty134 : tyOf Tryd.prog 134 = some { agg := false, size := 1, bytes := 8, zero := Value.nilFunc, d := TD.other } := by kernel_rfl
theorem ty135 : tyOf Tryd.prog 135 = some { agg := false, size := 1, bytes := 8, zero := Value.pointer none, d := TD.ptr 137 } := by kernel_rfl
theorem ty136 : tyOf Tryd.prog 136 = some { agg := true, size := 1, bytes := 16, zero := Value.agg #[Value.string ByteArray.empty], d := TD.struct [(0, 9)] } := by kernel_rfl
theorem ty137 : tyOf Tryd.prog 137 = some { agg := true, size := 1, bytes := 16, zero := Value.agg #[Value.string ByteArray.empty], d := TD.struct [(0, 9)] } := by kernel_rfl
theorem ty138 : tyOf Tryd.prog 138 = some { agg := false, size := 1, bytes := 8, zero := Value.nilFunc, d := TD.other } := by kernel_rfl
theorem ty139 : tyOf Tryd.prog 139 = some { agg := true, size := 32, bytes := 32, zero := Value.agg #[Value.int IntKind.u8 0, Value.int IntKind.u8 0, Value.int IntKind.u8 0, Value.int IntKind.u8 0, Value.int IntKind.u8 0, Value.int IntKind.u8 0, Value.int IntKind.u8 0, Value.int IntKind.u8 0, Value.int IntKind.u8 0, Value.int IntKind.u8 0, Value.int IntKind.u8 0, Value.int IntKind.u8 0, Value.int IntKind.u8 0, Value.int IntKind.u8 0, Value.int IntKind.u8 0, Value.int IntKind.u8 0, Value.int IntKind.u8 0, Value.int IntKind.u8 0, Value.int IntKind.u8 0, Value.int IntKind.u8 0, Value.int IntKind.u8 0, Value.int IntKind.u8 0, Value.int IntKind.u8 0, Value.int IntKind.u8 0, Value.int IntKind.u8 0, Value.int IntKind.u8 0, Value.int IntKind.u8 0, Value.int IntKind.u8 0, Value.int IntKind.u8 0, Value.int IntKind.u8 0, Value.int IntKind.u8 0, Value.int IntKind.u8 0], d := TD.other } := by kernel_rfl
theorem ty140 : tyOf Tryd.prog 140 = some { agg := true, size := 64, bytes := 64, zero := Value.agg #[Value.int IntKind.u8 0, Value.int IntKind.u8 0, Value.int IntKind.u8 0, Value.int IntKind.u8 0, Value.int IntKind.u8 0, Value.int IntKind.u8 0, Value.int IntKind.u8 0, Value.int IntKind.u8 0, Value.int IntKind.u8 0, Value.int IntKind.u8 0, Value.int IntKind.u8 0, Value.int IntKind.u8 0, Value.int IntKind.u8 0, Value.int IntKind.u8 0, Value.int IntKind.u8 0, Value.int IntKind.u8 0, Value.int IntKind.u8 0, Value.int IntKind.u8 0, Value.int IntKind.u8 0, Value.int IntKind.u8 0, Value.int IntKind.u8 0, Value.int IntKind.u8 0, Value.int IntKind.u8 0, Value.int IntKind.u8 0, Value.int IntKind.u8 0, Value.int IntKind.u8 0, Value.int IntKind.u8 0, Value.int IntKind.u8 0, Value.int IntKind.u8 0, Value.int IntKind.u8 0, Value.int IntKind.u8 0, Value.int IntKind.u8 0, Value.int IntKind.u8 0, Value.int IntKind.u8 0, Value.int IntKind.u8 0, Value.int IntKind.u8 0, Value.int IntKind.u8 0, Value.int IntKind.u8 0, Value.int IntKind.u8 0, Value.int IntKind.u8 0, Value.int IntKind.u8 0, Value.int IntKind.u8 0, Value.int IntKind.u8 0, Value.int IntKind.u8 0, Value.int IntKind.u8 0, Value.int IntKind.u8 0, Value.int IntKind.u8 0, Value.int IntKind.u8 0, Value.int IntKind.u8 0, Value.int IntKind.u8 0, Value.int IntKind.u8 0, Value.int IntKind.u8 0, Value.int IntKind.u8 0, Value.int IntKind.u8 0, Value.int IntKind.u8 0, Value.int IntKind.u8 0, Value.int IntKind.u8 0, Value.int IntKind.u8 0, Value.int IntKind.u8 0, Value.int IntKind.u8 0, Value.int IntKind.u8 0, Value.int IntKind.u8 0, Value.int IntKind.u8 0, Value.int IntKind.u8 0], d := TD.other } := by kernel_rfl
theorem ty141 : tyOf Tryd.prog 141 = some { agg := true, size := 4, bytes := 40, zero := Value.agg #[Value.pointer none, Value.pointer none, Value.pointer none, Value.string ByteArray.empty], d := TD.struct [(0, 17), (1, 17), (2, 17), (3, 9)] } := by kernel_rfl
theorem ty142 : tyOf Tryd.prog 142 = some { agg := true, size := 4, bytes := 40, zero := Value.agg #[Value.pointer none, Value.pointer none, Value.pointer none, Value.string ByteArray.empty], d := TD.struct [(0, 17), (1, 17), (2, 17), (3, 9)] } := by kernel_rfl
theorem ty143 : tyOf Tryd.prog 143 = some { agg := true, size := 0, bytes := 0, zero := Value.agg #[], d := TD.other } := by kernel_rfl
theorem ty144 : tyOf Tryd.prog 144 = some { agg := true, size := 0, bytes := 0, zero := Value.agg #[], d := TD.struct [(0, 143)] } := by kernel_rfl
theorem ty145 : tyOf Tryd.prog 145 = some { agg := true, size := 0, bytes := 0, zero := Value.agg #[], d := TD.struct [(0, 143)] } := by kernel_rfl
theorem ty146 : tyOf Tryd.prog 146 = some { agg := false, size := 1, bytes := 1, zero := Value.int IntKind.u8 0, d := TD.int IntKind.u8 } := by kernel_rfl
theorem ty147 : tyOf Tryd.prog 147 = some { agg := false, size := 1, bytes := 1, zero := Value.int IntKind.u8 0, d := TD.int IntKind.u8 } := by kernel_rfl
theorem ty148 : tyOf Tryd.prog 148 = some { agg := false, size := 1, bytes := 8, zero := Value.nilFunc, d := TD.other } := by kernel_rfl
theorem ty149 : tyOf Tryd.prog 149 = some { agg := false, size := 1, bytes := 4, zero := Value.int IntKind.i32 0, d := TD.int IntKind.i32 } := by kernel_rfl
theorem ty150 : tyOf Tryd.prog 150 = some { agg := false, size := 1, bytes := 4, zero := Value.int IntKind.i32 0, d := TD.int IntKind.i32 } := by kernel_rfl
theorem ty151 : tyOf Tryd.prog 151 = some { agg := true, size := 11, bytes := 48, zero := Value.agg #[Value.int IntKind.u64 0, Value.int IntKind.u64 0, Value.int IntKind.u32 0, Value.int IntKind.u8 0, Value.int IntKind.u8 0, Value.int IntKind.u8 0, Value.int IntKind.u8 0, Value.nilFunc, Value.pointer none, Value.int IntKind.i32 0, Value.int IntKind.i32 0], d := TD.struct [(0, 12), (1, 12), (2, 83), (3, 146), (4, 5), (5, 5), (6, 147), (7, 148), (8, 108), (9, 149), (10, 150)] } := by kernel_rfl
theorem ty152 : tyOf Tryd.prog 152 = some { agg := true, size := 11, bytes := 48, zero := Value.agg #[Value.int IntKind.u64 0, Value.int IntKind.u64 0, Value.int IntKind.u32 0, Value.int IntKind.u8 0, Value.int IntKind.u8 0, Value.int IntKind.u8 0, Value.int IntKind.u8 0, Value.nilFunc, Value.pointer none, Value.int IntKind.i32 0, Value.int IntKind.i32 0], d := TD.struct [(0, 12), (1, 12), (2, 83), (3, 146), (4, 5), (5, 5), (6, 147), (7, 148), (8, 108), (9, 149), (10, 150)] } := by kernel_rfl
theorem feq7 : flatEqT Tryd.prog 7 = some [TD.int IntKind.i64, TD.int IntKind.i64, TD.bool, TD.int IntKind.u8] := by kernel_rfl
theorem feq8 : flatEqT Tryd.prog 8 = some [TD.int IntKind.i64, TD.int IntKind.i64, TD.bool, TD.int IntKind.u8] := by kernel_rfl
theorem feq38 : flatEqT Tryd.prog 38 = some [TD.int IntKind.i64, TD.int IntKind.i64, TD.str] := by kernel_rfl
theorem feq39 : flatEqT Tryd.prog 39 = some [TD.int IntKind.i64, TD.int IntKind.i64, TD.str] := by kernel_rfl
theorem feq72 : flatEqT Tryd.prog 72 = some [TD.str, TD.bool] := by kernel_rfl
theorem feq73 : flatEqT Tryd.prog 73 = some [TD.str, TD.bool] := by kernel_rfl
theorem feq136 : flatEqT Tryd.prog 136 = some [TD.str] := by kernel_rfl
theorem feq137 : flatEqT Tryd.prog 137 = some [TD.str] := by kernel_rfl
end Go.Proofs.YtnjjpblgcgikaaaDoor.Ax

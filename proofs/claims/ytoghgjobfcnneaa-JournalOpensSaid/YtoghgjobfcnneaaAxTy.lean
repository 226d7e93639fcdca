/- What the types are. -/
import Derived.Test.YtoghgjobfcnneaaAxG3
import Derived.Test.YtoghgjobfcnneaaRows
namespace Go.Proofs.Ytoghgjobfcnneaa.Ax
theorem ty1 : tyOf Try.prog 1 = some { agg := false, size := 1, bytes := 8, zero := Value.nilFunc, d := TD.other } := by kernel_rfl
theorem ty2 : tyOf Try.prog 2 = some { agg := false, size := 1, bytes := 8, zero := Value.int IntKind.i64 0, d := TD.int IntKind.i64 } := by kernel_rfl
theorem ty3 : tyOf Try.prog 3 = some { agg := false, size := 1, bytes := 8, zero := Value.int IntKind.i64 0, d := TD.int IntKind.i64 } := by kernel_rfl
theorem ty4 : tyOf Try.prog 4 = some { agg := false, size := 1, bytes := 1, zero := Value.bool false, d := TD.bool } := by kernel_rfl
theorem ty5 : tyOf Try.prog 5 = some { agg := false, size := 1, bytes := 1, zero := Value.int IntKind.u8 0, d := TD.int IntKind.u8 } := by kernel_rfl
theorem ty6 : tyOf Try.prog 6 = some { agg := false, size := 1, bytes := 1, zero := Value.int IntKind.u8 0, d := TD.int IntKind.u8 } := by kernel_rfl
theorem ty7 : tyOf Try.prog 7 = some { agg := true, size := 4, bytes := 24, zero := Value.agg #[Value.int IntKind.i64 0, Value.int IntKind.i64 0, Value.bool false, Value.int IntKind.u8 0], d := TD.struct [(0, 2), (1, 3), (2, 4), (3, 6)] } := by kernel_rfl
theorem ty8 : tyOf Try.prog 8 = some { agg := true, size := 4, bytes := 24, zero := Value.agg #[Value.int IntKind.i64 0, Value.int IntKind.i64 0, Value.bool false, Value.int IntKind.u8 0], d := TD.struct [(0, 2), (1, 3), (2, 4), (3, 6)] } := by kernel_rfl
theorem ty9 : tyOf Try.prog 9 = some { agg := false, size := 1, bytes := 16, zero := Value.string ByteArray.empty, d := TD.str } := by kernel_rfl
theorem ty10 : tyOf Try.prog 10 = some { agg := false, size := 1, bytes := 16, zero := Value.string ByteArray.empty, d := TD.str } := by kernel_rfl
theorem ty11 : tyOf Try.prog 11 = some { agg := false, size := 1, bytes := 16, zero := Value.string ByteArray.empty, d := TD.str } := by kernel_rfl
theorem ty12 : tyOf Try.prog 12 = some { agg := false, size := 1, bytes := 8, zero := Value.int IntKind.u64 0, d := TD.int IntKind.u64 } := by kernel_rfl
theorem ty13 : tyOf Try.prog 13 = some { agg := true, size := 2, bytes := 24, zero := Value.agg #[Value.string ByteArray.empty, Value.int IntKind.u64 0], d := TD.struct [(0, 9), (1, 12)] } := by kernel_rfl
theorem ty14 : tyOf Try.prog 14 = some { agg := true, size := 2, bytes := 24, zero := Value.agg #[Value.string ByteArray.empty, Value.int IntKind.u64 0], d := TD.struct [(0, 9), (1, 12)] } := by kernel_rfl
theorem ty15 : tyOf Try.prog 15 = some { agg := false, size := 1, bytes := 8, zero := Value.pointer none, d := TD.ptr 110 } := by kernel_rfl
theorem ty16 : tyOf Try.prog 16 = some { agg := false, size := 1, bytes := 8, zero := Value.pointer none, d := TD.ptr 113 } := by kernel_rfl
theorem ty17 : tyOf Try.prog 17 = some { agg := false, size := 1, bytes := 8, zero := Value.pointer none, d := TD.ptr 120 } := by kernel_rfl
theorem ty18 : tyOf Try.prog 18 = some { agg := true, size := 1, bytes := 8, zero := Value.agg #[Value.pointer none], d := TD.struct [(0, 17)] } := by kernel_rfl
theorem ty19 : tyOf Try.prog 19 = some { agg := true, size := 1, bytes := 8, zero := Value.agg #[Value.pointer none], d := TD.struct [(0, 17)] } := by kernel_rfl
theorem ty20 : tyOf Try.prog 20 = some { agg := false, size := 1, bytes := 16, zero := Value.nilIface, d := TD.other } := by kernel_rfl
theorem ty21 : tyOf Try.prog 21 = some { agg := false, size := 1, bytes := 4, zero := Value.int IntKind.i32 0, d := TD.int IntKind.i32 } := by kernel_rfl
theorem ty22 : tyOf Try.prog 22 = some { agg := false, size := 1, bytes := 24, zero := Value.slice none 0 0, d := TD.sl 9 } := by kernel_rfl
theorem ty23 : tyOf Try.prog 23 = some { agg := false, size := 1, bytes := 24, zero := Value.slice none 0 0, d := TD.sl 61 } := by kernel_rfl
theorem ty24 : tyOf Try.prog 24 = some { agg := true, size := 2, bytes := 48, zero := Value.agg #[Value.slice none 0 0, Value.slice none 0 0], d := TD.struct [(0, 22), (1, 23)] } := by kernel_rfl
theorem ty25 : tyOf Try.prog 25 = some { agg := true, size := 2, bytes := 48, zero := Value.agg #[Value.slice none 0 0, Value.slice none 0 0], d := TD.struct [(0, 22), (1, 23)] } := by kernel_rfl
theorem ty26 : tyOf Try.prog 26 = some { agg := false, size := 1, bytes := 24, zero := Value.slice none 0 0, d := TD.sl 4 } := by kernel_rfl
theorem ty27 : tyOf Try.prog 27 = some { agg := false, size := 1, bytes := 8, zero := Value.int IntKind.i64 0, d := TD.int IntKind.i64 } := by kernel_rfl
theorem ty29 : tyOf Try.prog 29 = some { agg := false, size := 1, bytes := 8, zero := Value.nilFunc, d := TD.other } := by kernel_rfl
theorem ty30 : tyOf Try.prog 30 = some { agg := false, size := 1, bytes := 8, zero := Value.nilFunc, d := TD.other } := by kernel_rfl
theorem ty31 : tyOf Try.prog 31 = some { agg := false, size := 1, bytes := 8, zero := Value.nilFunc, d := TD.other } := by kernel_rfl
theorem ty32 : tyOf Try.prog 32 = some { agg := false, size := 1, bytes := 8, zero := Value.nilFunc, d := TD.other } := by kernel_rfl
theorem ty33 : tyOf Try.prog 33 = some { agg := false, size := 1, bytes := 8, zero := Value.nilFunc, d := TD.other } := by kernel_rfl
theorem ty34 : tyOf Try.prog 34 = some { agg := false, size := 1, bytes := 8, zero := Value.nilFunc, d := TD.other } := by kernel_rfl
theorem ty35 : tyOf Try.prog 35 = some { agg := false, size := 1, bytes := 8, zero := Value.nilFunc, d := TD.other } := by kernel_rfl
theorem ty36 : tyOf Try.prog 36 = some { agg := false, size := 1, bytes := 8, zero := Value.nilFunc, d := TD.other } := by kernel_rfl
theorem ty37 : tyOf Try.prog 37 = some { agg := false, size := 1, bytes := 8, zero := Value.nilFunc, d := TD.other } := by kernel_rfl
theorem ty38 : tyOf Try.prog 38 = some { agg := false, size := 1, bytes := 8, zero := Value.nilFunc, d := TD.other } := by kernel_rfl
theorem ty39 : tyOf Try.prog 39 = some { agg := false, size := 1, bytes := 8, zero := Value.nilFunc, d := TD.other } := by kernel_rfl
theorem ty40 : tyOf Try.prog 40 = some { agg := false, size := 1, bytes := 8, zero := Value.nilFunc, d := TD.other } := by kernel_rfl
theorem ty41 : tyOf Try.prog 41 = some { agg := false, size := 1, bytes := 8, zero := Value.nilFunc, d := TD.other } := by kernel_rfl
theorem ty42 : tyOf Try.prog 42 = some { agg := false, size := 1, bytes := 24, zero := Value.slice none 0 0, d := TD.sl 25 } := by kernel_rfl
theorem ty44 : tyOf Try.prog 44 = some { agg := false, size := 1, bytes := 8, zero := Value.nilFunc, d := TD.other } := by kernel_rfl
theorem ty46 : tyOf Try.prog 46 = some { agg := false, size := 1, bytes := 8, zero := Value.nilFunc, d := TD.other } := by kernel_rfl
theorem ty47 : tyOf Try.prog 47 = some { agg := false, size := 1, bytes := 8, zero := Value.nilFunc, d := TD.other } := by kernel_rfl
theorem ty48 : tyOf Try.prog 48 = some { agg := false, size := 1, bytes := 24, zero := Value.slice none 0 0, d := TD.sl 3 } := by kernel_rfl
theorem ty49 : tyOf Try.prog 49 = some { agg := false, size := 1, bytes := 8, zero := Value.nilFunc, d := TD.other } := by kernel_rfl
theorem ty50 : tyOf Try.prog 50 = some { agg := false, size := 1, bytes := 8, zero := Value.nilFunc, d := TD.other } := by kernel_rfl
theorem ty51 : tyOf Try.prog 51 = some { agg := false, size := 1, bytes := 8, zero := Value.nilFunc, d := TD.other } := by kernel_rfl
theorem ty52 : tyOf Try.prog 52 = some { agg := false, size := 1, bytes := 8, zero := Value.nilFunc, d := TD.other } := by kernel_rfl
theorem ty53 : tyOf Try.prog 53 = some { agg := false, size := 1, bytes := 8, zero := Value.nilFunc, d := TD.other } := by kernel_rfl
theorem ty54 : tyOf Try.prog 54 = some { agg := false, size := 1, bytes := 8, zero := Value.nilFunc, d := TD.other } := by kernel_rfl
theorem ty55 : tyOf Try.prog 55 = some { agg := false, size := 1, bytes := 8, zero := Value.nilFunc, d := TD.other } := by kernel_rfl
theorem ty56 : tyOf Try.prog 56 = some { agg := false, size := 1, bytes := 8, zero := Value.nilFunc, d := TD.other } := by kernel_rfl
theorem ty57 : tyOf Try.prog 57 = some { agg := false, size := 1, bytes := 8, zero := Value.nilFunc, d := TD.other } := by kernel_rfl
theorem ty58 : tyOf Try.prog 58 = some { agg := false, size := 1, bytes := 24, zero := Value.slice none 0 0, d := TD.sl 5 } := by kernel_rfl
theorem ty59 : tyOf Try.prog 59 = some { agg := false, size := 1, bytes := 8, zero := Value.nilFunc, d := TD.other } := by kernel_rfl
theorem ty60 : tyOf Try.prog 60 = some { agg := true, size := 2, bytes := 24, zero := Value.agg #[Value.int IntKind.i64 0, Value.string ByteArray.empty], d := TD.struct [(0, 3), (1, 9)] } := by kernel_rfl
theorem ty61 : tyOf Try.prog 61 = some { agg := true, size := 2, bytes := 24, zero := Value.agg #[Value.int IntKind.i64 0, Value.string ByteArray.empty], d := TD.struct [(0, 3), (1, 9)] } := by kernel_rfl
theorem ty62 : tyOf Try.prog 62 = some { agg := false, size := 1, bytes := 8, zero := Value.nilFunc, d := TD.other } := by kernel_rfl
theorem ty63 : tyOf Try.prog 63 = some { agg := false, size := 1, bytes := 8, zero := Value.nilFunc, d := TD.other } := by kernel_rfl
theorem ty64 : tyOf Try.prog 64 = some { agg := false, size := 1, bytes := 8, zero := Value.nilFunc, d := TD.other } := by kernel_rfl
theorem ty65 : tyOf Try.prog 65 = some { agg := false, size := 1, bytes := 8, zero := Value.pointer none, d := TD.ptr 69 } := by kernel_rfl
theorem ty67 : tyOf Try.prog 67 = some { agg := false, size := 1, bytes := 8, zero := Value.nilFunc, d := TD.other } := by kernel_rfl
theorem ty68 : tyOf Try.prog 68 = some { agg := true, size := 3, bytes := 40, zero := Value.agg #[Value.int IntKind.i64 0, Value.int IntKind.i64 0, Value.slice none 0 0], d := TD.struct [(0, 3), (1, 3), (2, 22)] } := by kernel_rfl
theorem ty69 : tyOf Try.prog 69 = some { agg := true, size := 3, bytes := 40, zero := Value.agg #[Value.int IntKind.i64 0, Value.int IntKind.i64 0, Value.slice none 0 0], d := TD.struct [(0, 3), (1, 3), (2, 22)] } := by kernel_rfl
theorem ty70 : tyOf Try.prog 70 = some { agg := false, size := 1, bytes := 8, zero := Value.nilFunc, d := TD.other } := by kernel_rfl
theorem ty71 : tyOf Try.prog 71 = some { agg := false, size := 1, bytes := 8, zero := Value.pointer none, d := TD.ptr 73 } := by kernel_rfl
theorem ty72 : tyOf Try.prog 72 = some { agg := true, size := 3, bytes := 72, zero := Value.agg #[Value.slice none 0 0, Value.slice none 0 0, Value.slice none 0 0], d := TD.struct [(0, 25), (2, 42)] } := by kernel_rfl
theorem ty73 : tyOf Try.prog 73 = some { agg := true, size := 3, bytes := 72, zero := Value.agg #[Value.slice none 0 0, Value.slice none 0 0, Value.slice none 0 0], d := TD.struct [(0, 25), (2, 42)] } := by kernel_rfl
theorem ty74 : tyOf Try.prog 74 = some { agg := false, size := 1, bytes := 8, zero := Value.nilFunc, d := TD.other } := by kernel_rfl
theorem ty75 : tyOf Try.prog 75 = some { agg := false, size := 1, bytes := 8, zero := Value.nilFunc, d := TD.other } := by kernel_rfl
theorem ty76 : tyOf Try.prog 76 = some { agg := false, size := 1, bytes := 8, zero := Value.nilFunc, d := TD.other } := by kernel_rfl
theorem ty77 : tyOf Try.prog 77 = some { agg := false, size := 1, bytes := 8, zero := Value.nilFunc, d := TD.other } := by kernel_rfl
theorem ty78 : tyOf Try.prog 78 = some { agg := false, size := 1, bytes := 8, zero := Value.int IntKind.u64 0, d := TD.int IntKind.u64 } := by kernel_rfl
theorem ty80 : tyOf Try.prog 80 = some { agg := false, size := 1, bytes := 8, zero := Value.nilFunc, d := TD.other } := by kernel_rfl
theorem ty81 : tyOf Try.prog 81 = some { agg := false, size := 1, bytes := 8, zero := Value.nilFunc, d := TD.other } := by kernel_rfl
theorem ty82 : tyOf Try.prog 82 = some { agg := false, size := 1, bytes := 8, zero := Value.nilFunc, d := TD.other } := by kernel_rfl
theorem ty83 : tyOf Try.prog 83 = some { agg := false, size := 1, bytes := 8, zero := Value.nilFunc, d := TD.other } := by kernel_rfl
theorem ty84 : tyOf Try.prog 84 = some { agg := false, size := 1, bytes := 8, zero := Value.nilFunc, d := TD.other } := by kernel_rfl
theorem ty85 : tyOf Try.prog 85 = some { agg := false, size := 1, bytes := 8, zero := Value.nilFunc, d := TD.other } := by kernel_rfl
theorem ty87 : tyOf Try.prog 87 = some { agg := false, size := 1, bytes := 8, zero := Value.nilFunc, d := TD.other } := by kernel_rfl
theorem ty88 : tyOf Try.prog 88 = some { agg := false, size := 1, bytes := 8, zero := Value.nilFunc, d := TD.other } := by kernel_rfl
theorem ty89 : tyOf Try.prog 89 = some { agg := false, size := 1, bytes := 4, zero := Value.int IntKind.u32 0, d := TD.int IntKind.u32 } := by kernel_rfl
theorem ty91 : tyOf Try.prog 91 = some { agg := false, size := 1, bytes := 8, zero := Value.nilFunc, d := TD.other } := by kernel_rfl
theorem ty92 : tyOf Try.prog 92 = some { agg := false, size := 1, bytes := 8, zero := Value.int IntKind.u64 0, d := TD.int IntKind.u64 } := by kernel_rfl
theorem ty94 : tyOf Try.prog 94 = some { agg := false, size := 1, bytes := 8, zero := Value.nilFunc, d := TD.other } := by kernel_rfl
theorem ty95 : tyOf Try.prog 95 = some { agg := false, size := 1, bytes := 8, zero := Value.nilFunc, d := TD.other } := by kernel_rfl
theorem ty96 : tyOf Try.prog 96 = some { agg := false, size := 1, bytes := 8, zero := Value.pointer none, d := TD.ptr 98 } := by kernel_rfl
theorem ty97 : tyOf Try.prog 97 = some { agg := true, size := 2, bytes := 32, zero := Value.agg #[Value.pointer none, Value.slice none 0 0], d := TD.struct [(0, 96), (1, 58)] } := by kernel_rfl
theorem ty98 : tyOf Try.prog 98 = some { agg := true, size := 2, bytes := 32, zero := Value.agg #[Value.pointer none, Value.slice none 0 0], d := TD.struct [(0, 96), (1, 58)] } := by kernel_rfl
theorem ty99 : tyOf Try.prog 99 = some { agg := false, size := 1, bytes := 8, zero := Value.nilFunc, d := TD.other } := by kernel_rfl
theorem ty100 : tyOf Try.prog 100 = some { agg := false, size := 1, bytes := 16, zero := Value.nilIface, d := TD.other } := by kernel_rfl
theorem ty101 : tyOf Try.prog 101 = some { agg := false, size := 1, bytes := 16, zero := Value.nilIface, d := TD.other } := by kernel_rfl
theorem ty103 : tyOf Try.prog 103 = some { agg := false, size := 1, bytes := 8, zero := Value.nilFunc, d := TD.other } := by kernel_rfl
theorem ty104 : tyOf Try.prog 104 = some { agg := false, size := 1, bytes := 8, zero := Value.nilFunc, d := TD.other } := by kernel_rfl
theorem ty105 : tyOf Try.prog 105 = some { agg := false, size := 1, bytes := 8, zero := Value.pointer none, d := TD.ptr 5 } := by kernel_rfl
theorem ty106 : tyOf Try.prog 106 = some { agg := false, size := 1, bytes := 8, zero := Value.pointer none, d := TD.other } := by kernel_rfl
theorem ty107 : tyOf Try.prog 107 = some { agg := false, size := 1, bytes := 8, zero := Value.nilFunc, d := TD.other } := by kernel_rfl
theorem ty108 : tyOf Try.prog 108 = some { agg := false, size := 1, bytes := 8, zero := Value.nilFunc, d := TD.other } := by kernel_rfl
theorem ty109 : tyOf Try.prog 109 = some { agg := true, size := 4, bytes := 40, zero := Value.agg #[Value.pointer none, Value.pointer none, Value.pointer none, Value.string ByteArray.empty], d := TD.struct [(0, 17), (1, 17), (2, 17), (3, 9)] } := by kernel_rfl
theorem ty110 : tyOf Try.prog 110 = some { agg := true, size := 4, bytes := 40, zero := Value.agg #[Value.pointer none, Value.pointer none, Value.pointer none, Value.string ByteArray.empty], d := TD.struct [(0, 17), (1, 17), (2, 17), (3, 9)] } := by kernel_rfl
theorem ty111 : tyOf Try.prog 111 = some { agg := true, size := 0, bytes := 0, zero := Value.agg #[], d := TD.other } := by kernel_rfl
theorem ty112 : tyOf Try.prog 112 = some { agg := true, size := 0, bytes := 0, zero := Value.agg #[], d := TD.struct [(0, 111)] } := by kernel_rfl
theorem ty113 : tyOf Try.prog 113 = some { agg := true, size := 0, bytes := 0, zero := Value.agg #[], d := TD.struct [(0, 111)] } := by kernel_rfl
theorem ty114 : tyOf Try.prog 114 = some { agg := false, size := 1, bytes := 1, zero := Value.int IntKind.u8 0, d := TD.int IntKind.u8 } := by kernel_rfl
theorem ty115 : tyOf Try.prog 115 = some { agg := false, size := 1, bytes := 1, zero := Value.int IntKind.u8 0, d := TD.int IntKind.u8 } := by kernel_rfl
theorem ty116 : tyOf Try.prog 116 = some { agg := false, size := 1, bytes := 8, zero := Value.nilFunc, d := TD.other } := by kernel_rfl
theorem ty117 : tyOf Try.prog 117 = some { agg := false, size := 1, bytes := 4, zero := Value.int IntKind.i32 0, d := TD.int IntKind.i32 } := by kernel_rfl
theorem ty118 : tyOf Try.prog 118 = some { agg := false, size := 1, bytes := 4, zero := Value.int IntKind.i32 0, d := TD.int IntKind.i32 } := by kernel_rfl
theorem ty119 : tyOf Try.prog 119 = some { agg := true, size := 11, bytes := 48, zero := Value.agg #[Value.int IntKind.u64 0, Value.int IntKind.u64 0, Value.int IntKind.u32 0, Value.int IntKind.u8 0, Value.int IntKind.u8 0, Value.int IntKind.u8 0, Value.int IntKind.u8 0, Value.nilFunc, Value.pointer none, Value.int IntKind.i32 0, Value.int IntKind.i32 0], d := TD.struct [(0, 12), (1, 12), (2, 89), (3, 114), (4, 5), (5, 5), (6, 115), (7, 116), (8, 105), (9, 117), (10, 118)] } := by kernel_rfl
theorem ty120 : tyOf Try.prog 120 = some { agg := true, size := 11, bytes := 48, zero := Value.agg #[Value.int IntKind.u64 0, Value.int IntKind.u64 0, Value.int IntKind.u32 0, Value.int IntKind.u8 0, Value.int IntKind.u8 0, Value.int IntKind.u8 0, Value.int IntKind.u8 0, Value.nilFunc, Value.pointer none, Value.int IntKind.i32 0, Value.int IntKind.i32 0], d := TD.struct [(0, 12), (1, 12), (2, 89), (3, 114), (4, 5), (5, 5), (6, 115), (7, 116), (8, 105), (9, 117), (10, 118)] } := by kernel_rfl
theorem feq7 : flatEqT Try.prog 7 = some [TD.int IntKind.i64, TD.int IntKind.i64, TD.bool, TD.int IntKind.u8] := by kernel_rfl
theorem feq8 : flatEqT Try.prog 8 = some [TD.int IntKind.i64, TD.int IntKind.i64, TD.bool, TD.int IntKind.u8] := by kernel_rfl
theorem feq60 : flatEqT Try.prog 60 = some [TD.int IntKind.i64, TD.str] := by kernel_rfl
theorem feq61 : flatEqT Try.prog 61 = some [TD.int IntKind.i64, TD.str] := by kernel_rfl
end Go.Proofs.Ytoghgjobfcnneaa.Ax

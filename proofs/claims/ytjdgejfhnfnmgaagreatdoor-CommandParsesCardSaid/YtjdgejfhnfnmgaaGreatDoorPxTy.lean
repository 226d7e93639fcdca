import Derived.Test.YtjdgejfhnfnmgaaGreatDoorP6
import Derived.Test.YtjdgejfhnfnmgaaGreatDoorRows
namespace Go.Proofs.YtjdgejfhnfnmgaaGreatDoor.Ax
theorem ty3 : tyOf Tryz.prog 3 = some { agg := false, size := 1, bytes := 8, zero := Value.int IntKind.i64 0, d := TD.int IntKind.i64 } := by kernel_rfl
theorem ty4 : tyOf Tryz.prog 4 = some { agg := false, size := 1, bytes := 1, zero := Value.bool false, d := TD.bool } := by kernel_rfl
theorem ty5 : tyOf Tryz.prog 5 = some { agg := false, size := 1, bytes := 1, zero := Value.int IntKind.u8 0, d := TD.int IntKind.u8 } := by kernel_rfl
theorem ty9 : tyOf Tryz.prog 9 = some { agg := false, size := 1, bytes := 16, zero := Value.string ByteArray.empty, d := TD.str } := by kernel_rfl
theorem ty22 : tyOf Tryz.prog 22 = some { agg := false, size := 1, bytes := 24, zero := Value.slice none 0 0, d := TD.sl 54 } := by kernel_rfl
theorem ty24 : tyOf Tryz.prog 24 = some { agg := true, size := 3, bytes := 32, zero := Value.agg #[Value.int IntKind.i64 0, Value.int IntKind.i64 0, Value.string ByteArray.empty], d := TD.struct [(0, 3), (1, 3), (2, 9)] } := by kernel_rfl
theorem ty25 : tyOf Tryz.prog 25 = some { agg := false, size := 1, bytes := 24, zero := Value.slice none 0 0, d := TD.sl 24 } := by kernel_rfl
theorem ty26 : tyOf Tryz.prog 26 = some { agg := false, size := 1, bytes := 24, zero := Value.slice none 0 0, d := TD.sl 9 } := by kernel_rfl
theorem ty27 : tyOf Tryz.prog 27 = some { agg := false, size := 1, bytes := 24, zero := Value.slice none 0 0, d := TD.sl 29 } := by kernel_rfl
theorem ty29 : tyOf Tryz.prog 29 = some { agg := true, size := 6, bytes := 80, zero := Value.agg #[Value.int IntKind.i64 0, Value.int IntKind.i64 0, Value.int IntKind.i64 0, Value.string ByteArray.empty, Value.string ByteArray.empty, Value.slice none 0 0], d := TD.struct [(0, 3), (1, 24), (4, 9), (5, 27)] } := by kernel_rfl
theorem ty31 : tyOf Tryz.prog 31 = some { agg := true, size := 26, bytes := 360, zero := Value.agg #[Value.int IntKind.i64 0, Value.string ByteArray.empty, Value.string ByteArray.empty, Value.string ByteArray.empty, Value.slice none 0 0, Value.int IntKind.i64 0, Value.int IntKind.i64 0, Value.int IntKind.i64 0, Value.string ByteArray.empty, Value.slice none 0 0, Value.slice none 0 0, Value.int IntKind.i64 0, Value.int IntKind.i64 0, Value.int IntKind.i64 0, Value.string ByteArray.empty, Value.string ByteArray.empty, Value.slice none 0 0, Value.bool false, Value.int IntKind.i64 0, Value.int IntKind.i64 0, Value.int IntKind.i64 0, Value.string ByteArray.empty, Value.string ByteArray.empty, Value.slice none 0 0, Value.string ByteArray.empty, Value.int IntKind.i64 0], d := TD.struct [(0, 3), (1, 9), (2, 9), (3, 9), (4, 22), (5, 3), (6, 24), (9, 25), (10, 26), (11, 29), (17, 4), (18, 29), (24, 9), (25, 3)] } := by kernel_rfl
theorem ty32 : tyOf Tryz.prog 32 = some { agg := false, size := 1, bytes := 8, zero := Value.int IntKind.i64 0, d := TD.int IntKind.i64 } := by kernel_rfl
theorem ty43 : tyOf Tryz.prog 43 = some { agg := false, size := 1, bytes := 24, zero := Value.slice none 0 0, d := TD.sl 77 } := by kernel_rfl
theorem ty54 : tyOf Tryz.prog 54 = some { agg := true, size := 2, bytes := 24, zero := Value.agg #[Value.string ByteArray.empty, Value.int IntKind.i64 0], d := TD.struct [(0, 9), (1, 3)] } := by kernel_rfl
theorem ty65 : tyOf Tryz.prog 65 = some { agg := false, size := 1, bytes := 8, zero := Value.pointer none, d := TD.ptr 67 } := by kernel_rfl
theorem ty67 : tyOf Tryz.prog 67 = some { agg := true, size := 29, bytes := 400, zero := Value.agg #[Value.slice none 0 0, Value.int IntKind.i64 0, Value.int IntKind.i64 0, Value.int IntKind.i64 0, Value.string ByteArray.empty, Value.string ByteArray.empty, Value.string ByteArray.empty, Value.slice none 0 0, Value.int IntKind.i64 0, Value.int IntKind.i64 0, Value.int IntKind.i64 0, Value.string ByteArray.empty, Value.slice none 0 0, Value.slice none 0 0, Value.int IntKind.i64 0, Value.int IntKind.i64 0, Value.int IntKind.i64 0, Value.string ByteArray.empty, Value.string ByteArray.empty, Value.slice none 0 0, Value.bool false, Value.int IntKind.i64 0, Value.int IntKind.i64 0, Value.int IntKind.i64 0, Value.string ByteArray.empty, Value.string ByteArray.empty, Value.slice none 0 0, Value.string ByteArray.empty, Value.int IntKind.i64 0], d := TD.struct [(0, 43), (1, 3), (2, 3), (3, 31)] } := by kernel_rfl
theorem ty69 : tyOf Tryz.prog 69 = some { agg := true, size := 30, bytes := 408, zero := Value.agg #[Value.slice none 0 0, Value.int IntKind.i64 0, Value.int IntKind.i64 0, Value.bool false, Value.int IntKind.i64 0, Value.string ByteArray.empty, Value.string ByteArray.empty, Value.string ByteArray.empty, Value.slice none 0 0, Value.int IntKind.i64 0, Value.int IntKind.i64 0, Value.int IntKind.i64 0, Value.string ByteArray.empty, Value.slice none 0 0, Value.slice none 0 0, Value.int IntKind.i64 0, Value.int IntKind.i64 0, Value.int IntKind.i64 0, Value.string ByteArray.empty, Value.string ByteArray.empty, Value.slice none 0 0, Value.bool false, Value.int IntKind.i64 0, Value.int IntKind.i64 0, Value.int IntKind.i64 0, Value.string ByteArray.empty, Value.string ByteArray.empty, Value.slice none 0 0, Value.string ByteArray.empty, Value.int IntKind.i64 0], d := TD.struct [(0, 43), (1, 3), (2, 3), (3, 4), (4, 31)] } := by kernel_rfl
theorem ty72 : tyOf Tryz.prog 72 = some { agg := true, size := 10, bytes := 10, zero := Value.agg #[Value.bool false, Value.bool false, Value.bool false, Value.bool false, Value.bool false, Value.bool false, Value.bool false, Value.bool false, Value.bool false, Value.bool false], d := TD.struct [(0, 4), (1, 4), (2, 4), (3, 4), (4, 4), (5, 4), (6, 4), (7, 4), (8, 4), (9, 4)] } := by kernel_rfl
theorem ty77 : tyOf Tryz.prog 77 = some { agg := true, size := 3, bytes := 32, zero := Value.agg #[Value.int IntKind.i64 0, Value.int IntKind.i64 0, Value.string ByteArray.empty], d := TD.struct [(0, 3), (1, 3), (2, 9)] } := by kernel_rfl
theorem ty87 : tyOf Tryz.prog 87 = some { agg := false, size := 1, bytes := 24, zero := Value.slice none 0 0, d := TD.sl 5 } := by kernel_rfl
theorem ty101 : tyOf Tryz.prog 101 = some { agg := false, size := 1, bytes := 8, zero := Value.pointer none, d := TD.ptr 69 } := by kernel_rfl
theorem ty116 : tyOf Tryz.prog 116 = some { agg := false, size := 1, bytes := 16, zero := Value.nilIface, d := TD.other } := by kernel_rfl
theorem ty137 : tyOf Tryz.prog 137 = some { agg := false, size := 1, bytes := 24, zero := Value.slice none 0 0, d := TD.sl 3 } := by kernel_rfl
theorem feq7 : flatEqT Tryz.prog 7 = some [TD.int IntKind.i64, TD.int IntKind.i64, TD.bool, TD.int IntKind.u8] := by kernel_rfl
theorem feq8 : flatEqT Tryz.prog 8 = some [TD.int IntKind.i64, TD.int IntKind.i64, TD.bool, TD.int IntKind.u8] := by kernel_rfl
theorem feq23 : flatEqT Tryz.prog 23 = some [TD.int IntKind.i64, TD.int IntKind.i64, TD.str] := by kernel_rfl
theorem feq24 : flatEqT Tryz.prog 24 = some [TD.int IntKind.i64, TD.int IntKind.i64, TD.str] := by kernel_rfl
theorem feq53 : flatEqT Tryz.prog 53 = some [TD.str, TD.int IntKind.i64] := by kernel_rfl
theorem feq54 : flatEqT Tryz.prog 54 = some [TD.str, TD.int IntKind.i64] := by kernel_rfl
theorem feq71 : flatEqT Tryz.prog 71 = some [TD.bool, TD.bool, TD.bool, TD.bool, TD.bool, TD.bool, TD.bool, TD.bool, TD.bool, TD.bool] := by kernel_rfl
theorem feq72 : flatEqT Tryz.prog 72 = some [TD.bool, TD.bool, TD.bool, TD.bool, TD.bool, TD.bool, TD.bool, TD.bool, TD.bool, TD.bool] := by kernel_rfl
theorem feq76 : flatEqT Tryz.prog 76 = some [TD.int IntKind.i64, TD.int IntKind.i64, TD.str] := by kernel_rfl
theorem feq77 : flatEqT Tryz.prog 77 = some [TD.int IntKind.i64, TD.int IntKind.i64, TD.str] := by kernel_rfl
theorem feq79 : flatEqT Tryz.prog 79 = some [TD.str, TD.int IntKind.i64] := by kernel_rfl
theorem feq80 : flatEqT Tryz.prog 80 = some [TD.str, TD.int IntKind.i64] := by kernel_rfl
theorem feq175 : flatEqT Tryz.prog 175 = some [TD.str] := by kernel_rfl
theorem feq176 : flatEqT Tryz.prog 176 = some [TD.str] := by kernel_rfl
end Go.Proofs.YtjdgejfhnfnmgaaGreatDoor.Ax

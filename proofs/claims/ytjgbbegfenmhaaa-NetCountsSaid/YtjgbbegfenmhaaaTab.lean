/- The types and functions of the seat's program, as instances of the calculus. Printed by wip/tools/show.py. -/
import Derived.Test.YtjgbbegfenmhaaaProg
import Derived.Test.YtjgbbegfenmhaaaEvDraw
import Derived.KernelRfl
namespace Go.Proofs
open Go Ev
theorem opt_getD {o : Option Value} {d : Value} (h : o.isSome = true) : o = some (o.getD d) := by
  cases o with
  | none => cases h
  | some x => rfl
instance ty2 : Ty Try.prog 2 (.int .i64) 1 8 (.int .i64 0) := ⟨⟨Try.t2, by kernel_rfl, rfl, rfl, rfl⟩, Try.underlying2⟩
instance ty3 : Ty Try.prog 3 (.int .i64) 1 8 (.int .i64 0) := ⟨⟨Try.t3, by kernel_rfl, rfl, rfl, rfl⟩, Try.underlying3⟩
instance ty4 : Ty Try.prog 4 .bool 1 1 (.bool false) := ⟨⟨Try.t4, by kernel_rfl, rfl, rfl, rfl⟩, Try.underlying4⟩
instance ty5 : Ty Try.prog 5 (.int .u8) 1 1 (.int .u8 0) := ⟨⟨Try.t5, by kernel_rfl, rfl, rfl, rfl⟩, Try.underlying5⟩
instance ty6 : Ty Try.prog 6 (.int .u8) 1 1 (.int .u8 0) := ⟨⟨Try.t6, by kernel_rfl, rfl, rfl, rfl⟩, Try.underlying6⟩
instance ty7 : Ty Try.prog 7 (.struct #[{ name := "x", type := 2, offset := 0, embedded := false, tag := "", pkgPath := "runtime", byteOffset := 0 }, { name := "y", type := 3, offset := 1, embedded := false, tag := "", pkgPath := "runtime", byteOffset := 8 }, { name := "signed", type := 4, offset := 2, embedded := false, tag := "", pkgPath := "runtime", byteOffset := 16 }, { name := "code", type := 6, offset := 3, embedded := false, tag := "", pkgPath := "runtime", byteOffset := 17 }]) 4 24 (.agg #[.int .i64 0, .int .i64 0, .bool false, .int .u8 0]) := ⟨⟨Try.t7, by kernel_rfl, rfl, rfl, rfl⟩, Try.underlying7⟩
instance lay7 : Lay Try.prog 7 [(0, 1), (1, 1), (2, 1), (3, 1)] := ⟨_, Try.underlying7, by kernel_rfl⟩
instance fld7_0 : Fld Try.prog 7 0 0 := ⟨_, _, Try.t2, Try.underlying7, rfl, rfl, by kernel_rfl, rfl⟩
instance fld7_1 : Fld Try.prog 7 1 1 := ⟨_, _, Try.t3, Try.underlying7, rfl, rfl, by kernel_rfl, rfl⟩
instance fld7_2 : Fld Try.prog 7 2 2 := ⟨_, _, Try.t4, Try.underlying7, rfl, rfl, by kernel_rfl, rfl⟩
instance fld7_3 : Fld Try.prog 7 3 3 := ⟨_, _, Try.t6, Try.underlying7, rfl, rfl, by kernel_rfl, rfl⟩
instance ty8 : Ty Try.prog 8 (.struct #[{ name := "x", type := 2, offset := 0, embedded := false, tag := "", pkgPath := "runtime", byteOffset := 0 }, { name := "y", type := 3, offset := 1, embedded := false, tag := "", pkgPath := "runtime", byteOffset := 8 }, { name := "signed", type := 4, offset := 2, embedded := false, tag := "", pkgPath := "runtime", byteOffset := 16 }, { name := "code", type := 6, offset := 3, embedded := false, tag := "", pkgPath := "runtime", byteOffset := 17 }]) 4 24 (.agg #[.int .i64 0, .int .i64 0, .bool false, .int .u8 0]) := ⟨⟨Try.t8, by kernel_rfl, rfl, rfl, rfl⟩, Try.underlying8⟩
instance lay8 : Lay Try.prog 8 [(0, 1), (1, 1), (2, 1), (3, 1)] := ⟨_, Try.underlying8, by kernel_rfl⟩
instance fld8_0 : Fld Try.prog 8 0 0 := ⟨_, _, Try.t2, Try.underlying8, rfl, rfl, by kernel_rfl, rfl⟩
instance fld8_1 : Fld Try.prog 8 1 1 := ⟨_, _, Try.t3, Try.underlying8, rfl, rfl, by kernel_rfl, rfl⟩
instance fld8_2 : Fld Try.prog 8 2 2 := ⟨_, _, Try.t4, Try.underlying8, rfl, rfl, by kernel_rfl, rfl⟩
instance fld8_3 : Fld Try.prog 8 3 3 := ⟨_, _, Try.t6, Try.underlying8, rfl, rfl, by kernel_rfl, rfl⟩
instance ty9 : Ty Try.prog 9 .string 1 16 (.string ({ data := #[] })) := ⟨⟨Try.t9, by kernel_rfl, rfl, rfl, rfl⟩, Try.underlying9⟩
instance ty10 : Ty Try.prog 10 .string 1 16 (.string ({ data := #[] })) := ⟨⟨Try.t10, by kernel_rfl, rfl, rfl, rfl⟩, Try.underlying10⟩
instance ty11 : Ty Try.prog 11 .string 1 16 (.string ({ data := #[] })) := ⟨⟨Try.t11, by kernel_rfl, rfl, rfl, rfl⟩, Try.underlying11⟩
instance ty12 : Ty Try.prog 12 (.int .u64) 1 8 (.int .u64 0) := ⟨⟨Try.t12, by kernel_rfl, rfl, rfl, rfl⟩, Try.underlying12⟩
instance ty13 : Ty Try.prog 13 (.struct #[{ name := "msg", type := 9, offset := 0, embedded := false, tag := "", pkgPath := "runtime", byteOffset := 0 }, { name := "addr", type := 12, offset := 1, embedded := false, tag := "", pkgPath := "runtime", byteOffset := 16 }]) 2 24 (.agg #[.string ({ data := #[] }), .int .u64 0]) := ⟨⟨Try.t13, by kernel_rfl, rfl, rfl, rfl⟩, Try.underlying13⟩
instance lay13 : Lay Try.prog 13 [(0, 1), (1, 1)] := ⟨_, Try.underlying13, by kernel_rfl⟩
instance fld13_0 : Fld Try.prog 13 0 0 := ⟨_, _, Try.t9, Try.underlying13, rfl, rfl, by kernel_rfl, rfl⟩
instance fld13_1 : Fld Try.prog 13 1 1 := ⟨_, _, Try.t12, Try.underlying13, rfl, rfl, by kernel_rfl, rfl⟩
instance ty14 : Ty Try.prog 14 (.struct #[{ name := "msg", type := 9, offset := 0, embedded := false, tag := "", pkgPath := "runtime", byteOffset := 0 }, { name := "addr", type := 12, offset := 1, embedded := false, tag := "", pkgPath := "runtime", byteOffset := 16 }]) 2 24 (.agg #[.string ({ data := #[] }), .int .u64 0]) := ⟨⟨Try.t14, by kernel_rfl, rfl, rfl, rfl⟩, Try.underlying14⟩
instance lay14 : Lay Try.prog 14 [(0, 1), (1, 1)] := ⟨_, Try.underlying14, by kernel_rfl⟩
instance fld14_0 : Fld Try.prog 14 0 0 := ⟨_, _, Try.t9, Try.underlying14, rfl, rfl, by kernel_rfl, rfl⟩
instance fld14_1 : Fld Try.prog 14 1 1 := ⟨_, _, Try.t12, Try.underlying14, rfl, rfl, by kernel_rfl, rfl⟩
instance ty15 : Ty Try.prog 15 (.pointer 69) 1 8 (.pointer none) := ⟨⟨Try.t15, by kernel_rfl, rfl, rfl, rfl⟩, Try.underlying15⟩
instance ty16 : Ty Try.prog 16 (.pointer 72) 1 8 (.pointer none) := ⟨⟨Try.t16, by kernel_rfl, rfl, rfl, rfl⟩, Try.underlying16⟩
instance ty17 : Ty Try.prog 17 (.pointer 82) 1 8 (.pointer none) := ⟨⟨Try.t17, by kernel_rfl, rfl, rfl, rfl⟩, Try.underlying17⟩
instance ty18 : Ty Try.prog 18 (.struct #[{ name := "typ", type := 17, offset := 0, embedded := false, tag := "", pkgPath := "internal/runtime/maps", byteOffset := 0 }]) 1 8 (.agg #[.pointer none]) := ⟨⟨Try.t18, by kernel_rfl, rfl, rfl, rfl⟩, Try.underlying18⟩
instance lay18 : Lay Try.prog 18 [(0, 1)] := ⟨_, Try.underlying18, by kernel_rfl⟩
instance fld18_0 : Fld Try.prog 18 0 0 := ⟨_, _, Try.t17, Try.underlying18, rfl, rfl, by kernel_rfl, rfl⟩
instance ty19 : Ty Try.prog 19 (.struct #[{ name := "typ", type := 17, offset := 0, embedded := false, tag := "", pkgPath := "internal/runtime/maps", byteOffset := 0 }]) 1 8 (.agg #[.pointer none]) := ⟨⟨Try.t19, by kernel_rfl, rfl, rfl, rfl⟩, Try.underlying19⟩
instance lay19 : Lay Try.prog 19 [(0, 1)] := ⟨_, Try.underlying19, by kernel_rfl⟩
instance fld19_0 : Fld Try.prog 19 0 0 := ⟨_, _, Try.t17, Try.underlying19, rfl, rfl, by kernel_rfl, rfl⟩
instance ty21 : Ty Try.prog 21 (.int .i32) 1 4 (.int .i32 0) := ⟨⟨Try.t21, by kernel_rfl, rfl, rfl, rfl⟩, Try.underlying21⟩
instance ty22 : Ty Try.prog 22 (.slice 30) 1 24 (.slice none 0 0) := ⟨⟨Try.t22, by kernel_rfl, rfl, rfl, rfl⟩, Try.underlying22⟩
instance ty23 : Ty Try.prog 23 (.pointer 57) 1 8 (.pointer none) := ⟨⟨Try.t23, by kernel_rfl, rfl, rfl, rfl⟩, Try.underlying23⟩
instance ty24 : Ty Try.prog 24 (.int .i64) 1 8 (.int .i64 0) := ⟨⟨Try.t24, by kernel_rfl, rfl, rfl, rfl⟩, Try.underlying24⟩
instance ty28 : Ty Try.prog 28 (.slice 5) 1 24 (.slice none 0 0) := ⟨⟨Try.t28, by kernel_rfl, rfl, rfl, rfl⟩, Try.underlying28⟩
instance ty29 : Ty Try.prog 29 (.struct #[{ name := "From", type := 3, offset := 0, embedded := false, tag := "", pkgPath := "", byteOffset := 0 }, { name := "To", type := 3, offset := 1, embedded := false, tag := "", pkgPath := "", byteOffset := 8 }, { name := "Epoch", type := 3, offset := 2, embedded := false, tag := "", pkgPath := "", byteOffset := 16 }, { name := "Peer", type := 3, offset := 3, embedded := false, tag := "", pkgPath := "", byteOffset := 24 }, { name := "Seq", type := 3, offset := 4, embedded := false, tag := "", pkgPath := "", byteOffset := 32 }, { name := "Ack", type := 3, offset := 5, embedded := false, tag := "", pkgPath := "", byteOffset := 40 }, { name := "Body", type := 28, offset := 6, embedded := false, tag := "", pkgPath := "", byteOffset := 48 }]) 7 72 (.agg #[.int .i64 0, .int .i64 0, .int .i64 0, .int .i64 0, .int .i64 0, .int .i64 0, .slice none 0 0]) := ⟨⟨Try.t29, by kernel_rfl, rfl, rfl, rfl⟩, Try.underlying29⟩
instance lay29 : Lay Try.prog 29 [(0, 1), (1, 1), (2, 1), (3, 1), (4, 1), (5, 1), (6, 1)] := ⟨_, Try.underlying29, by kernel_rfl⟩
instance fld29_0 : Fld Try.prog 29 0 0 := ⟨_, _, Try.t3, Try.underlying29, rfl, rfl, by kernel_rfl, rfl⟩
instance fld29_1 : Fld Try.prog 29 1 1 := ⟨_, _, Try.t3, Try.underlying29, rfl, rfl, by kernel_rfl, rfl⟩
instance fld29_2 : Fld Try.prog 29 2 2 := ⟨_, _, Try.t3, Try.underlying29, rfl, rfl, by kernel_rfl, rfl⟩
instance fld29_3 : Fld Try.prog 29 3 3 := ⟨_, _, Try.t3, Try.underlying29, rfl, rfl, by kernel_rfl, rfl⟩
instance fld29_4 : Fld Try.prog 29 4 4 := ⟨_, _, Try.t3, Try.underlying29, rfl, rfl, by kernel_rfl, rfl⟩
instance fld29_5 : Fld Try.prog 29 5 5 := ⟨_, _, Try.t3, Try.underlying29, rfl, rfl, by kernel_rfl, rfl⟩
instance fld29_6 : Fld Try.prog 29 6 6 := ⟨_, _, Try.t28, Try.underlying29, rfl, rfl, by kernel_rfl, rfl⟩
instance ty30 : Ty Try.prog 30 (.struct #[{ name := "From", type := 3, offset := 0, embedded := false, tag := "", pkgPath := "", byteOffset := 0 }, { name := "To", type := 3, offset := 1, embedded := false, tag := "", pkgPath := "", byteOffset := 8 }, { name := "Epoch", type := 3, offset := 2, embedded := false, tag := "", pkgPath := "", byteOffset := 16 }, { name := "Peer", type := 3, offset := 3, embedded := false, tag := "", pkgPath := "", byteOffset := 24 }, { name := "Seq", type := 3, offset := 4, embedded := false, tag := "", pkgPath := "", byteOffset := 32 }, { name := "Ack", type := 3, offset := 5, embedded := false, tag := "", pkgPath := "", byteOffset := 40 }, { name := "Body", type := 28, offset := 6, embedded := false, tag := "", pkgPath := "", byteOffset := 48 }]) 7 72 (.agg #[.int .i64 0, .int .i64 0, .int .i64 0, .int .i64 0, .int .i64 0, .int .i64 0, .slice none 0 0]) := ⟨⟨Try.t30, by kernel_rfl, rfl, rfl, rfl⟩, Try.underlying30⟩
instance lay30 : Lay Try.prog 30 [(0, 1), (1, 1), (2, 1), (3, 1), (4, 1), (5, 1), (6, 1)] := ⟨_, Try.underlying30, by kernel_rfl⟩
instance fld30_0 : Fld Try.prog 30 0 0 := ⟨_, _, Try.t3, Try.underlying30, rfl, rfl, by kernel_rfl, rfl⟩
instance fld30_1 : Fld Try.prog 30 1 1 := ⟨_, _, Try.t3, Try.underlying30, rfl, rfl, by kernel_rfl, rfl⟩
instance fld30_2 : Fld Try.prog 30 2 2 := ⟨_, _, Try.t3, Try.underlying30, rfl, rfl, by kernel_rfl, rfl⟩
instance fld30_3 : Fld Try.prog 30 3 3 := ⟨_, _, Try.t3, Try.underlying30, rfl, rfl, by kernel_rfl, rfl⟩
instance fld30_4 : Fld Try.prog 30 4 4 := ⟨_, _, Try.t3, Try.underlying30, rfl, rfl, by kernel_rfl, rfl⟩
instance fld30_5 : Fld Try.prog 30 5 5 := ⟨_, _, Try.t3, Try.underlying30, rfl, rfl, by kernel_rfl, rfl⟩
instance fld30_6 : Fld Try.prog 30 6 6 := ⟨_, _, Try.t28, Try.underlying30, rfl, rfl, by kernel_rfl, rfl⟩
instance ty38 : Ty Try.prog 38 (.int .u64) 1 8 (.int .u64 0) := ⟨⟨Try.t38, by kernel_rfl, rfl, rfl, rfl⟩, Try.underlying38⟩
instance ty41 : Ty Try.prog 41 (.slice 49) 1 24 (.slice none 0 0) := ⟨⟨Try.t41, by kernel_rfl, rfl, rfl, rfl⟩, Try.underlying41⟩
instance ty43 : Ty Try.prog 43 (.pointer 46) 1 8 (.pointer none) := ⟨⟨Try.t43, by kernel_rfl, rfl, rfl, rfl⟩, Try.underlying43⟩
instance ty44 : Ty Try.prog 44 (.slice 66) 1 24 (.slice none 0 0) := ⟨⟨Try.t44, by kernel_rfl, rfl, rfl, rfl⟩, Try.underlying44⟩
instance ty45 : Ty Try.prog 45 (.struct #[{ name := "N", type := 3, offset := 0, embedded := false, tag := "", pkgPath := "", byteOffset := 0 }, { name := "L", type := 22, offset := 1, embedded := false, tag := "", pkgPath := "", byteOffset := 8 }, { name := "Cuts", type := 44, offset := 2, embedded := false, tag := "", pkgPath := "", byteOffset := 32 }]) 3 56 (.agg #[.int .i64 0, .slice none 0 0, .slice none 0 0]) := ⟨⟨Try.t45, by kernel_rfl, rfl, rfl, rfl⟩, Try.underlying45⟩
instance lay45 : Lay Try.prog 45 [(0, 1), (1, 1), (2, 1)] := ⟨_, Try.underlying45, by kernel_rfl⟩
instance fld45_0 : Fld Try.prog 45 0 0 := ⟨_, _, Try.t3, Try.underlying45, rfl, rfl, by kernel_rfl, rfl⟩
instance fld45_1 : Fld Try.prog 45 1 1 := ⟨_, _, Try.t22, Try.underlying45, rfl, rfl, by kernel_rfl, rfl⟩
instance fld45_2 : Fld Try.prog 45 2 2 := ⟨_, _, Try.t44, Try.underlying45, rfl, rfl, by kernel_rfl, rfl⟩
instance ty46 : Ty Try.prog 46 (.struct #[{ name := "N", type := 3, offset := 0, embedded := false, tag := "", pkgPath := "", byteOffset := 0 }, { name := "L", type := 22, offset := 1, embedded := false, tag := "", pkgPath := "", byteOffset := 8 }, { name := "Cuts", type := 44, offset := 2, embedded := false, tag := "", pkgPath := "", byteOffset := 32 }]) 3 56 (.agg #[.int .i64 0, .slice none 0 0, .slice none 0 0]) := ⟨⟨Try.t46, by kernel_rfl, rfl, rfl, rfl⟩, Try.underlying46⟩
instance lay46 : Lay Try.prog 46 [(0, 1), (1, 1), (2, 1)] := ⟨_, Try.underlying46, by kernel_rfl⟩
instance fld46_0 : Fld Try.prog 46 0 0 := ⟨_, _, Try.t3, Try.underlying46, rfl, rfl, by kernel_rfl, rfl⟩
instance fld46_1 : Fld Try.prog 46 1 1 := ⟨_, _, Try.t22, Try.underlying46, rfl, rfl, by kernel_rfl, rfl⟩
instance fld46_2 : Fld Try.prog 46 2 2 := ⟨_, _, Try.t44, Try.underlying46, rfl, rfl, by kernel_rfl, rfl⟩
instance ty48 : Ty Try.prog 48 (.struct #[{ name := "Do", type := 3, offset := 0, embedded := false, tag := "", pkgPath := "", byteOffset := 0 }, { name := "A", type := 3, offset := 1, embedded := false, tag := "", pkgPath := "", byteOffset := 8 }, { name := "B", type := 3, offset := 2, embedded := false, tag := "", pkgPath := "", byteOffset := 16 }, { name := "F", type := 30, offset := 3, embedded := false, tag := "", pkgPath := "", byteOffset := 24 }]) 10 96 (.agg #[.int .i64 0, .int .i64 0, .int .i64 0, .int .i64 0, .int .i64 0, .int .i64 0, .int .i64 0, .int .i64 0, .int .i64 0, .slice none 0 0]) := ⟨⟨Try.t48, by kernel_rfl, rfl, rfl, rfl⟩, Try.underlying48⟩
instance lay48 : Lay Try.prog 48 [(0, 1), (1, 1), (2, 1), (3, 7)] := ⟨_, Try.underlying48, by kernel_rfl⟩
instance fld48_0 : Fld Try.prog 48 0 0 := ⟨_, _, Try.t3, Try.underlying48, rfl, rfl, by kernel_rfl, rfl⟩
instance fld48_1 : Fld Try.prog 48 1 1 := ⟨_, _, Try.t3, Try.underlying48, rfl, rfl, by kernel_rfl, rfl⟩
instance fld48_2 : Fld Try.prog 48 2 2 := ⟨_, _, Try.t3, Try.underlying48, rfl, rfl, by kernel_rfl, rfl⟩
instance fld48_3 : Fld Try.prog 48 3 3 := ⟨_, _, Try.t30, Try.underlying48, rfl, rfl, by kernel_rfl, rfl⟩
instance ty49 : Ty Try.prog 49 (.struct #[{ name := "Do", type := 3, offset := 0, embedded := false, tag := "", pkgPath := "", byteOffset := 0 }, { name := "A", type := 3, offset := 1, embedded := false, tag := "", pkgPath := "", byteOffset := 8 }, { name := "B", type := 3, offset := 2, embedded := false, tag := "", pkgPath := "", byteOffset := 16 }, { name := "F", type := 30, offset := 3, embedded := false, tag := "", pkgPath := "", byteOffset := 24 }]) 10 96 (.agg #[.int .i64 0, .int .i64 0, .int .i64 0, .int .i64 0, .int .i64 0, .int .i64 0, .int .i64 0, .int .i64 0, .int .i64 0, .slice none 0 0]) := ⟨⟨Try.t49, by kernel_rfl, rfl, rfl, rfl⟩, Try.underlying49⟩
instance lay49 : Lay Try.prog 49 [(0, 1), (1, 1), (2, 1), (3, 7)] := ⟨_, Try.underlying49, by kernel_rfl⟩
instance fld49_0 : Fld Try.prog 49 0 0 := ⟨_, _, Try.t3, Try.underlying49, rfl, rfl, by kernel_rfl, rfl⟩
instance fld49_1 : Fld Try.prog 49 1 1 := ⟨_, _, Try.t3, Try.underlying49, rfl, rfl, by kernel_rfl, rfl⟩
instance fld49_2 : Fld Try.prog 49 2 2 := ⟨_, _, Try.t3, Try.underlying49, rfl, rfl, by kernel_rfl, rfl⟩
instance fld49_3 : Fld Try.prog 49 3 3 := ⟨_, _, Try.t30, Try.underlying49, rfl, rfl, by kernel_rfl, rfl⟩
instance ty54 : Ty Try.prog 54 (.array 64 4) 64 64 (.agg #[.bool false, .bool false, .bool false, .bool false, .bool false, .bool false, .bool false, .bool false, .bool false, .bool false, .bool false, .bool false, .bool false, .bool false, .bool false, .bool false, .bool false, .bool false, .bool false, .bool false, .bool false, .bool false, .bool false, .bool false, .bool false, .bool false, .bool false, .bool false, .bool false, .bool false, .bool false, .bool false, .bool false, .bool false, .bool false, .bool false, .bool false, .bool false, .bool false, .bool false, .bool false, .bool false, .bool false, .bool false, .bool false, .bool false, .bool false, .bool false, .bool false, .bool false, .bool false, .bool false, .bool false, .bool false, .bool false, .bool false, .bool false, .bool false, .bool false, .bool false, .bool false, .bool false, .bool false, .bool false]) := ⟨⟨Try.t54, by kernel_rfl, rfl, rfl, rfl⟩, Try.underlying54⟩
noncomputable def zero55 : Value := (Try.t55.zero).getD (.bool false)
instance ty55 : Ty Try.prog 55 (.array 64 54) 4096 4096 zero55 := ⟨⟨Try.t55, by kernel_rfl, rfl, rfl, opt_getD (by kernel_rfl)⟩, Try.underlying55⟩
noncomputable def zero56 : Value := (Try.t56.zero).getD (.bool false)
instance ty56 : Ty Try.prog 56 (.struct #[{ name := "n", type := 3, offset := 0, embedded := false, tag := "", pkgPath := "hanse/net", byteOffset := 0 }, { name := "row", type := 22, offset := 1, embedded := false, tag := "", pkgPath := "hanse/net", byteOffset := 8 }, { name := "cuts", type := 55, offset := 2, embedded := false, tag := "", pkgPath := "hanse/net", byteOffset := 32 }]) 4098 4128 zero56 := ⟨⟨Try.t56, by kernel_rfl, rfl, rfl, opt_getD (by kernel_rfl)⟩, Try.underlying56⟩
instance lay56 : Lay Try.prog 56 [(0, 1), (1, 1), (2, 4096)] := ⟨_, Try.underlying56, by kernel_rfl⟩
instance fld56_0 : Fld Try.prog 56 0 0 := ⟨_, _, Try.t3, Try.underlying56, rfl, rfl, by kernel_rfl, rfl⟩
instance fld56_1 : Fld Try.prog 56 1 1 := ⟨_, _, Try.t22, Try.underlying56, rfl, rfl, by kernel_rfl, rfl⟩
instance fld56_2 : Fld Try.prog 56 2 2 := ⟨_, _, Try.t55, Try.underlying56, rfl, rfl, by kernel_rfl, rfl⟩
noncomputable def zero57 : Value := (Try.t57.zero).getD (.bool false)
instance ty57 : Ty Try.prog 57 (.struct #[{ name := "n", type := 3, offset := 0, embedded := false, tag := "", pkgPath := "hanse/net", byteOffset := 0 }, { name := "row", type := 22, offset := 1, embedded := false, tag := "", pkgPath := "hanse/net", byteOffset := 8 }, { name := "cuts", type := 55, offset := 2, embedded := false, tag := "", pkgPath := "hanse/net", byteOffset := 32 }]) 4098 4128 zero57 := ⟨⟨Try.t57, by kernel_rfl, rfl, rfl, opt_getD (by kernel_rfl)⟩, Try.underlying57⟩
instance lay57 : Lay Try.prog 57 [(0, 1), (1, 1), (2, 4096)] := ⟨_, Try.underlying57, by kernel_rfl⟩
instance fld57_0 : Fld Try.prog 57 0 0 := ⟨_, _, Try.t3, Try.underlying57, rfl, rfl, by kernel_rfl, rfl⟩
instance fld57_1 : Fld Try.prog 57 1 1 := ⟨_, _, Try.t22, Try.underlying57, rfl, rfl, by kernel_rfl, rfl⟩
instance fld57_2 : Fld Try.prog 57 2 2 := ⟨_, _, Try.t55, Try.underlying57, rfl, rfl, by kernel_rfl, rfl⟩
instance ty65 : Ty Try.prog 65 (.struct #[{ name := "A", type := 3, offset := 0, embedded := false, tag := "", pkgPath := "", byteOffset := 0 }, { name := "B", type := 3, offset := 1, embedded := false, tag := "", pkgPath := "", byteOffset := 8 }]) 2 16 (.agg #[.int .i64 0, .int .i64 0]) := ⟨⟨Try.t65, by kernel_rfl, rfl, rfl, rfl⟩, Try.underlying65⟩
instance lay65 : Lay Try.prog 65 [(0, 1), (1, 1)] := ⟨_, Try.underlying65, by kernel_rfl⟩
instance fld65_0 : Fld Try.prog 65 0 0 := ⟨_, _, Try.t3, Try.underlying65, rfl, rfl, by kernel_rfl, rfl⟩
instance fld65_1 : Fld Try.prog 65 1 1 := ⟨_, _, Try.t3, Try.underlying65, rfl, rfl, by kernel_rfl, rfl⟩
instance ty66 : Ty Try.prog 66 (.struct #[{ name := "A", type := 3, offset := 0, embedded := false, tag := "", pkgPath := "", byteOffset := 0 }, { name := "B", type := 3, offset := 1, embedded := false, tag := "", pkgPath := "", byteOffset := 8 }]) 2 16 (.agg #[.int .i64 0, .int .i64 0]) := ⟨⟨Try.t66, by kernel_rfl, rfl, rfl, rfl⟩, Try.underlying66⟩
instance lay66 : Lay Try.prog 66 [(0, 1), (1, 1)] := ⟨_, Try.underlying66, by kernel_rfl⟩
instance fld66_0 : Fld Try.prog 66 0 0 := ⟨_, _, Try.t3, Try.underlying66, rfl, rfl, by kernel_rfl, rfl⟩
instance fld66_1 : Fld Try.prog 66 1 1 := ⟨_, _, Try.t3, Try.underlying66, rfl, rfl, by kernel_rfl, rfl⟩
instance ty68 : Ty Try.prog 68 (.struct #[{ name := "_interface", type := 17, offset := 0, embedded := false, tag := "", pkgPath := "runtime", byteOffset := 0 }, { name := "concrete", type := 17, offset := 1, embedded := false, tag := "", pkgPath := "runtime", byteOffset := 8 }, { name := "asserted", type := 17, offset := 2, embedded := false, tag := "", pkgPath := "runtime", byteOffset := 16 }, { name := "missingMethod", type := 9, offset := 3, embedded := false, tag := "", pkgPath := "runtime", byteOffset := 24 }]) 4 40 (.agg #[.pointer none, .pointer none, .pointer none, .string ({ data := #[] })]) := ⟨⟨Try.t68, by kernel_rfl, rfl, rfl, rfl⟩, Try.underlying68⟩
instance lay68 : Lay Try.prog 68 [(0, 1), (1, 1), (2, 1), (3, 1)] := ⟨_, Try.underlying68, by kernel_rfl⟩
instance fld68_0 : Fld Try.prog 68 0 0 := ⟨_, _, Try.t17, Try.underlying68, rfl, rfl, by kernel_rfl, rfl⟩
instance fld68_1 : Fld Try.prog 68 1 1 := ⟨_, _, Try.t17, Try.underlying68, rfl, rfl, by kernel_rfl, rfl⟩
instance fld68_2 : Fld Try.prog 68 2 2 := ⟨_, _, Try.t17, Try.underlying68, rfl, rfl, by kernel_rfl, rfl⟩
instance fld68_3 : Fld Try.prog 68 3 3 := ⟨_, _, Try.t9, Try.underlying68, rfl, rfl, by kernel_rfl, rfl⟩
instance ty69 : Ty Try.prog 69 (.struct #[{ name := "_interface", type := 17, offset := 0, embedded := false, tag := "", pkgPath := "runtime", byteOffset := 0 }, { name := "concrete", type := 17, offset := 1, embedded := false, tag := "", pkgPath := "runtime", byteOffset := 8 }, { name := "asserted", type := 17, offset := 2, embedded := false, tag := "", pkgPath := "runtime", byteOffset := 16 }, { name := "missingMethod", type := 9, offset := 3, embedded := false, tag := "", pkgPath := "runtime", byteOffset := 24 }]) 4 40 (.agg #[.pointer none, .pointer none, .pointer none, .string ({ data := #[] })]) := ⟨⟨Try.t69, by kernel_rfl, rfl, rfl, rfl⟩, Try.underlying69⟩
instance lay69 : Lay Try.prog 69 [(0, 1), (1, 1), (2, 1), (3, 1)] := ⟨_, Try.underlying69, by kernel_rfl⟩
instance fld69_0 : Fld Try.prog 69 0 0 := ⟨_, _, Try.t17, Try.underlying69, rfl, rfl, by kernel_rfl, rfl⟩
instance fld69_1 : Fld Try.prog 69 1 1 := ⟨_, _, Try.t17, Try.underlying69, rfl, rfl, by kernel_rfl, rfl⟩
instance fld69_2 : Fld Try.prog 69 2 2 := ⟨_, _, Try.t17, Try.underlying69, rfl, rfl, by kernel_rfl, rfl⟩
instance fld69_3 : Fld Try.prog 69 3 3 := ⟨_, _, Try.t9, Try.underlying69, rfl, rfl, by kernel_rfl, rfl⟩
instance ty74 : Ty Try.prog 74 (.int .u32) 1 4 (.int .u32 0) := ⟨⟨Try.t74, by kernel_rfl, rfl, rfl, rfl⟩, Try.underlying74⟩
instance ty75 : Ty Try.prog 75 (.int .u8) 1 1 (.int .u8 0) := ⟨⟨Try.t75, by kernel_rfl, rfl, rfl, rfl⟩, Try.underlying75⟩
instance ty76 : Ty Try.prog 76 (.int .u8) 1 1 (.int .u8 0) := ⟨⟨Try.t76, by kernel_rfl, rfl, rfl, rfl⟩, Try.underlying76⟩
instance ty78 : Ty Try.prog 78 (.pointer 5) 1 8 (.pointer none) := ⟨⟨Try.t78, by kernel_rfl, rfl, rfl, rfl⟩, Try.underlying78⟩
instance ty79 : Ty Try.prog 79 (.int .i32) 1 4 (.int .i32 0) := ⟨⟨Try.t79, by kernel_rfl, rfl, rfl, rfl⟩, Try.underlying79⟩
instance ty80 : Ty Try.prog 80 (.int .i32) 1 4 (.int .i32 0) := ⟨⟨Try.t80, by kernel_rfl, rfl, rfl, rfl⟩, Try.underlying80⟩
instance ty81 : Ty Try.prog 81 (.struct #[{ name := "Size_", type := 12, offset := 0, embedded := false, tag := "", pkgPath := "", byteOffset := 0 }, { name := "PtrBytes", type := 12, offset := 1, embedded := false, tag := "", pkgPath := "", byteOffset := 8 }, { name := "Hash", type := 74, offset := 2, embedded := false, tag := "", pkgPath := "", byteOffset := 16 }, { name := "TFlag", type := 75, offset := 3, embedded := false, tag := "", pkgPath := "", byteOffset := 20 }, { name := "Align_", type := 5, offset := 4, embedded := false, tag := "", pkgPath := "", byteOffset := 21 }, { name := "FieldAlign_", type := 5, offset := 5, embedded := false, tag := "", pkgPath := "", byteOffset := 22 }, { name := "Kind_", type := 76, offset := 6, embedded := false, tag := "", pkgPath := "", byteOffset := 23 }, { name := "Equal", type := 77, offset := 7, embedded := false, tag := "", pkgPath := "", byteOffset := 24 }, { name := "GCData", type := 78, offset := 8, embedded := false, tag := "", pkgPath := "", byteOffset := 32 }, { name := "Str", type := 79, offset := 9, embedded := false, tag := "", pkgPath := "", byteOffset := 40 }, { name := "PtrToThis", type := 80, offset := 10, embedded := false, tag := "", pkgPath := "", byteOffset := 44 }]) 11 48 (.agg #[.int .u64 0, .int .u64 0, .int .u32 0, .int .u8 0, .int .u8 0, .int .u8 0, .int .u8 0, .nilFunc, .pointer none, .int .i32 0, .int .i32 0]) := ⟨⟨Try.t81, by kernel_rfl, rfl, rfl, rfl⟩, Try.underlying81⟩
instance lay81 : Lay Try.prog 81 [(0, 1), (1, 1), (2, 1), (3, 1), (4, 1), (5, 1), (6, 1), (7, 1), (8, 1), (9, 1), (10, 1)] := ⟨_, Try.underlying81, by kernel_rfl⟩
instance fld81_0 : Fld Try.prog 81 0 0 := ⟨_, _, Try.t12, Try.underlying81, rfl, rfl, by kernel_rfl, rfl⟩
instance fld81_1 : Fld Try.prog 81 1 1 := ⟨_, _, Try.t12, Try.underlying81, rfl, rfl, by kernel_rfl, rfl⟩
instance fld81_2 : Fld Try.prog 81 2 2 := ⟨_, _, Try.t74, Try.underlying81, rfl, rfl, by kernel_rfl, rfl⟩
instance fld81_3 : Fld Try.prog 81 3 3 := ⟨_, _, Try.t75, Try.underlying81, rfl, rfl, by kernel_rfl, rfl⟩
instance fld81_4 : Fld Try.prog 81 4 4 := ⟨_, _, Try.t5, Try.underlying81, rfl, rfl, by kernel_rfl, rfl⟩
instance fld81_5 : Fld Try.prog 81 5 5 := ⟨_, _, Try.t5, Try.underlying81, rfl, rfl, by kernel_rfl, rfl⟩
instance fld81_6 : Fld Try.prog 81 6 6 := ⟨_, _, Try.t76, Try.underlying81, rfl, rfl, by kernel_rfl, rfl⟩
instance fld81_7 : Fld Try.prog 81 7 7 := ⟨_, _, Try.t77, Try.underlying81, rfl, rfl, by kernel_rfl, rfl⟩
instance fld81_8 : Fld Try.prog 81 8 8 := ⟨_, _, Try.t78, Try.underlying81, rfl, rfl, by kernel_rfl, rfl⟩
instance fld81_9 : Fld Try.prog 81 9 9 := ⟨_, _, Try.t79, Try.underlying81, rfl, rfl, by kernel_rfl, rfl⟩
instance fld81_10 : Fld Try.prog 81 10 10 := ⟨_, _, Try.t80, Try.underlying81, rfl, rfl, by kernel_rfl, rfl⟩
instance ty82 : Ty Try.prog 82 (.struct #[{ name := "Size_", type := 12, offset := 0, embedded := false, tag := "", pkgPath := "", byteOffset := 0 }, { name := "PtrBytes", type := 12, offset := 1, embedded := false, tag := "", pkgPath := "", byteOffset := 8 }, { name := "Hash", type := 74, offset := 2, embedded := false, tag := "", pkgPath := "", byteOffset := 16 }, { name := "TFlag", type := 75, offset := 3, embedded := false, tag := "", pkgPath := "", byteOffset := 20 }, { name := "Align_", type := 5, offset := 4, embedded := false, tag := "", pkgPath := "", byteOffset := 21 }, { name := "FieldAlign_", type := 5, offset := 5, embedded := false, tag := "", pkgPath := "", byteOffset := 22 }, { name := "Kind_", type := 76, offset := 6, embedded := false, tag := "", pkgPath := "", byteOffset := 23 }, { name := "Equal", type := 77, offset := 7, embedded := false, tag := "", pkgPath := "", byteOffset := 24 }, { name := "GCData", type := 78, offset := 8, embedded := false, tag := "", pkgPath := "", byteOffset := 32 }, { name := "Str", type := 79, offset := 9, embedded := false, tag := "", pkgPath := "", byteOffset := 40 }, { name := "PtrToThis", type := 80, offset := 10, embedded := false, tag := "", pkgPath := "", byteOffset := 44 }]) 11 48 (.agg #[.int .u64 0, .int .u64 0, .int .u32 0, .int .u8 0, .int .u8 0, .int .u8 0, .int .u8 0, .nilFunc, .pointer none, .int .i32 0, .int .i32 0]) := ⟨⟨Try.t82, by kernel_rfl, rfl, rfl, rfl⟩, Try.underlying82⟩
instance lay82 : Lay Try.prog 82 [(0, 1), (1, 1), (2, 1), (3, 1), (4, 1), (5, 1), (6, 1), (7, 1), (8, 1), (9, 1), (10, 1)] := ⟨_, Try.underlying82, by kernel_rfl⟩
instance fld82_0 : Fld Try.prog 82 0 0 := ⟨_, _, Try.t12, Try.underlying82, rfl, rfl, by kernel_rfl, rfl⟩
instance fld82_1 : Fld Try.prog 82 1 1 := ⟨_, _, Try.t12, Try.underlying82, rfl, rfl, by kernel_rfl, rfl⟩
instance fld82_2 : Fld Try.prog 82 2 2 := ⟨_, _, Try.t74, Try.underlying82, rfl, rfl, by kernel_rfl, rfl⟩
instance fld82_3 : Fld Try.prog 82 3 3 := ⟨_, _, Try.t75, Try.underlying82, rfl, rfl, by kernel_rfl, rfl⟩
instance fld82_4 : Fld Try.prog 82 4 4 := ⟨_, _, Try.t5, Try.underlying82, rfl, rfl, by kernel_rfl, rfl⟩
instance fld82_5 : Fld Try.prog 82 5 5 := ⟨_, _, Try.t5, Try.underlying82, rfl, rfl, by kernel_rfl, rfl⟩
instance fld82_6 : Fld Try.prog 82 6 6 := ⟨_, _, Try.t76, Try.underlying82, rfl, rfl, by kernel_rfl, rfl⟩
instance fld82_7 : Fld Try.prog 82 7 7 := ⟨_, _, Try.t77, Try.underlying82, rfl, rfl, by kernel_rfl, rfl⟩
instance fld82_8 : Fld Try.prog 82 8 8 := ⟨_, _, Try.t78, Try.underlying82, rfl, rfl, by kernel_rfl, rfl⟩
instance fld82_9 : Fld Try.prog 82 9 9 := ⟨_, _, Try.t79, Try.underlying82, rfl, rfl, by kernel_rfl, rfl⟩
instance fld82_10 : Fld Try.prog 82 10 10 := ⟨_, _, Try.t80, Try.underlying82, rfl, rfl, by kernel_rfl, rfl⟩
instance fn2 : FnOk Try.prog 2 := ⟨Try.f2, Try.func2, by decide +kernel, rfl⟩
instance fn3 : FnOk Try.prog 3 := ⟨Try.f3, Try.func3, by decide +kernel, rfl⟩
instance fn4 : FnOk Try.prog 4 := ⟨Try.f4, Try.func4, by decide +kernel, rfl⟩
instance fn5 : FnOk Try.prog 5 := ⟨Try.f5, Try.func5, by decide +kernel, rfl⟩
instance fn6 : FnOk Try.prog 6 := ⟨Try.f6, Try.func6, by decide +kernel, rfl⟩
instance fn7 : FnOk Try.prog 7 := ⟨Try.f7, Try.func7, by decide +kernel, rfl⟩
instance fn8 : FnOk Try.prog 8 := ⟨Try.f8, Try.func8, by decide +kernel, rfl⟩
instance fn9 : FnOk Try.prog 9 := ⟨Try.f9, Try.func9, by decide +kernel, rfl⟩
instance fn10 : FnOk Try.prog 10 := ⟨Try.f10, Try.func10, by decide +kernel, rfl⟩
instance fn11 : FnOk Try.prog 11 := ⟨Try.f11, Try.func11, by decide +kernel, rfl⟩
instance fn12 : FnOk Try.prog 12 := ⟨Try.f12, Try.func12, by decide +kernel, rfl⟩
instance fn13 : FnOk Try.prog 13 := ⟨Try.f13, Try.func13, by decide +kernel, rfl⟩
instance fn14 : FnOk Try.prog 14 := ⟨Try.f14, Try.func14, by decide +kernel, rfl⟩
instance fn15 : FnOk Try.prog 15 := ⟨Try.f15, Try.func15, by decide +kernel, rfl⟩
instance fn16 : FnOk Try.prog 16 := ⟨Try.f16, Try.func16, by decide +kernel, rfl⟩
instance fn17 : FnOk Try.prog 17 := ⟨Try.f17, Try.func17, by decide +kernel, rfl⟩
instance fn18 : FnOk Try.prog 18 := ⟨Try.f18, Try.func18, by decide +kernel, rfl⟩
instance fn19 : FnOk Try.prog 19 := ⟨Try.f19, Try.func19, by decide +kernel, rfl⟩
instance fn20 : FnOk Try.prog 20 := ⟨Try.f20, Try.func20, by decide +kernel, rfl⟩
instance fn21 : FnOk Try.prog 21 := ⟨Try.f21, Try.func21, by decide +kernel, rfl⟩
instance fn22 : FnOk Try.prog 22 := ⟨Try.f22, Try.func22, by decide +kernel, rfl⟩
instance fn23 : FnOk Try.prog 23 := ⟨Try.f23, Try.func23, by decide +kernel, rfl⟩
instance fn24 : FnOk Try.prog 24 := ⟨Try.f24, Try.func24, by decide +kernel, rfl⟩
instance fn25 : FnOk Try.prog 25 := ⟨Try.f25, Try.func25, by decide +kernel, rfl⟩
instance fn26 : FnOk Try.prog 26 := ⟨Try.f26, Try.func26, by decide +kernel, rfl⟩
instance fn27 : FnOk Try.prog 27 := ⟨Try.f27, Try.func27, by decide +kernel, rfl⟩
instance fn28 : FnOk Try.prog 28 := ⟨Try.f28, Try.func28, by decide +kernel, rfl⟩
instance fn29 : FnOk Try.prog 29 := ⟨Try.f29, Try.func29, by decide +kernel, rfl⟩
instance fn30 : FnOk Try.prog 30 := ⟨Try.f30, Try.func30, by decide +kernel, rfl⟩
instance fn31 : FnOk Try.prog 31 := ⟨Try.f31, Try.func31, by decide +kernel, rfl⟩
instance fn32 : FnOk Try.prog 32 := ⟨Try.f32, Try.func32, by decide +kernel, rfl⟩
instance fn33 : FnOk Try.prog 33 := ⟨Try.f33, Try.func33, by decide +kernel, rfl⟩
instance fn34 : FnOk Try.prog 34 := ⟨Try.f34, Try.func34, by decide +kernel, rfl⟩
instance fn35 : FnOk Try.prog 35 := ⟨Try.f35, Try.func35, by decide +kernel, rfl⟩
theorem Try.mixed : Try.prog.follows .mixedOrders = true := by kernel_rfl
end Go.Proofs

/- The types and functions of the seat's program, as instances of the calculus. Printed by wip/tools/show.py. -/
import Derived.Test.YticgbdeoiihbmaaDoorProg
import Derived.Test.YticgbdeoiihbmaaDoorEvDraw
import Derived.KernelRfl
namespace Go.Proofs
open Go Ev
theorem opt_getD {o : Option Value} {d : Value} (h : o.isSome = true) : o = some (o.getD d) := by
  cases o with
  | none => cases h
  | some x => rfl
instance ty2 : Ty Tryd.prog 2 (.int .i64) 1 8 (.int .i64 0) := ⟨⟨Tryd.t2, by kernel_rfl, rfl, rfl, rfl⟩, Tryd.underlying2⟩
instance ty3 : Ty Tryd.prog 3 (.int .i64) 1 8 (.int .i64 0) := ⟨⟨Tryd.t3, by kernel_rfl, rfl, rfl, rfl⟩, Tryd.underlying3⟩
instance ty4 : Ty Tryd.prog 4 .bool 1 1 (.bool false) := ⟨⟨Tryd.t4, by kernel_rfl, rfl, rfl, rfl⟩, Tryd.underlying4⟩
instance ty5 : Ty Tryd.prog 5 (.int .u8) 1 1 (.int .u8 0) := ⟨⟨Tryd.t5, by kernel_rfl, rfl, rfl, rfl⟩, Tryd.underlying5⟩
instance ty6 : Ty Tryd.prog 6 (.int .u8) 1 1 (.int .u8 0) := ⟨⟨Tryd.t6, by kernel_rfl, rfl, rfl, rfl⟩, Tryd.underlying6⟩
instance ty7 : Ty Tryd.prog 7 (.struct #[{ name := "x", type := 2, offset := 0, embedded := false, tag := "", pkgPath := "runtime", byteOffset := 0 }, { name := "y", type := 3, offset := 1, embedded := false, tag := "", pkgPath := "runtime", byteOffset := 8 }, { name := "signed", type := 4, offset := 2, embedded := false, tag := "", pkgPath := "runtime", byteOffset := 16 }, { name := "code", type := 6, offset := 3, embedded := false, tag := "", pkgPath := "runtime", byteOffset := 17 }]) 4 24 (.agg #[.int .i64 0, .int .i64 0, .bool false, .int .u8 0]) := ⟨⟨Tryd.t7, by kernel_rfl, rfl, rfl, rfl⟩, Tryd.underlying7⟩
instance lay7 : Lay Tryd.prog 7 [(0, 1), (1, 1), (2, 1), (3, 1)] := ⟨_, Tryd.underlying7, by kernel_rfl⟩
instance fld7_0 : Fld Tryd.prog 7 0 0 := ⟨_, _, Tryd.t2, Tryd.underlying7, rfl, rfl, by kernel_rfl, rfl⟩
instance fld7_1 : Fld Tryd.prog 7 1 1 := ⟨_, _, Tryd.t3, Tryd.underlying7, rfl, rfl, by kernel_rfl, rfl⟩
instance fld7_2 : Fld Tryd.prog 7 2 2 := ⟨_, _, Tryd.t4, Tryd.underlying7, rfl, rfl, by kernel_rfl, rfl⟩
instance fld7_3 : Fld Tryd.prog 7 3 3 := ⟨_, _, Tryd.t6, Tryd.underlying7, rfl, rfl, by kernel_rfl, rfl⟩
instance ty8 : Ty Tryd.prog 8 (.struct #[{ name := "x", type := 2, offset := 0, embedded := false, tag := "", pkgPath := "runtime", byteOffset := 0 }, { name := "y", type := 3, offset := 1, embedded := false, tag := "", pkgPath := "runtime", byteOffset := 8 }, { name := "signed", type := 4, offset := 2, embedded := false, tag := "", pkgPath := "runtime", byteOffset := 16 }, { name := "code", type := 6, offset := 3, embedded := false, tag := "", pkgPath := "runtime", byteOffset := 17 }]) 4 24 (.agg #[.int .i64 0, .int .i64 0, .bool false, .int .u8 0]) := ⟨⟨Tryd.t8, by kernel_rfl, rfl, rfl, rfl⟩, Tryd.underlying8⟩
instance lay8 : Lay Tryd.prog 8 [(0, 1), (1, 1), (2, 1), (3, 1)] := ⟨_, Tryd.underlying8, by kernel_rfl⟩
instance fld8_0 : Fld Tryd.prog 8 0 0 := ⟨_, _, Tryd.t2, Tryd.underlying8, rfl, rfl, by kernel_rfl, rfl⟩
instance fld8_1 : Fld Tryd.prog 8 1 1 := ⟨_, _, Tryd.t3, Tryd.underlying8, rfl, rfl, by kernel_rfl, rfl⟩
instance fld8_2 : Fld Tryd.prog 8 2 2 := ⟨_, _, Tryd.t4, Tryd.underlying8, rfl, rfl, by kernel_rfl, rfl⟩
instance fld8_3 : Fld Tryd.prog 8 3 3 := ⟨_, _, Tryd.t6, Tryd.underlying8, rfl, rfl, by kernel_rfl, rfl⟩
instance ty9 : Ty Tryd.prog 9 .string 1 16 (.string ({ data := #[] })) := ⟨⟨Tryd.t9, by kernel_rfl, rfl, rfl, rfl⟩, Tryd.underlying9⟩
instance ty10 : Ty Tryd.prog 10 .string 1 16 (.string ({ data := #[] })) := ⟨⟨Tryd.t10, by kernel_rfl, rfl, rfl, rfl⟩, Tryd.underlying10⟩
instance ty11 : Ty Tryd.prog 11 .string 1 16 (.string ({ data := #[] })) := ⟨⟨Tryd.t11, by kernel_rfl, rfl, rfl, rfl⟩, Tryd.underlying11⟩
instance ty12 : Ty Tryd.prog 12 (.int .u64) 1 8 (.int .u64 0) := ⟨⟨Tryd.t12, by kernel_rfl, rfl, rfl, rfl⟩, Tryd.underlying12⟩
instance ty13 : Ty Tryd.prog 13 (.struct #[{ name := "msg", type := 9, offset := 0, embedded := false, tag := "", pkgPath := "runtime", byteOffset := 0 }, { name := "addr", type := 12, offset := 1, embedded := false, tag := "", pkgPath := "runtime", byteOffset := 16 }]) 2 24 (.agg #[.string ({ data := #[] }), .int .u64 0]) := ⟨⟨Tryd.t13, by kernel_rfl, rfl, rfl, rfl⟩, Tryd.underlying13⟩
instance lay13 : Lay Tryd.prog 13 [(0, 1), (1, 1)] := ⟨_, Tryd.underlying13, by kernel_rfl⟩
instance fld13_0 : Fld Tryd.prog 13 0 0 := ⟨_, _, Tryd.t9, Tryd.underlying13, rfl, rfl, by kernel_rfl, rfl⟩
instance fld13_1 : Fld Tryd.prog 13 1 1 := ⟨_, _, Tryd.t12, Tryd.underlying13, rfl, rfl, by kernel_rfl, rfl⟩
instance ty14 : Ty Tryd.prog 14 (.struct #[{ name := "msg", type := 9, offset := 0, embedded := false, tag := "", pkgPath := "runtime", byteOffset := 0 }, { name := "addr", type := 12, offset := 1, embedded := false, tag := "", pkgPath := "runtime", byteOffset := 16 }]) 2 24 (.agg #[.string ({ data := #[] }), .int .u64 0]) := ⟨⟨Tryd.t14, by kernel_rfl, rfl, rfl, rfl⟩, Tryd.underlying14⟩
instance lay14 : Lay Tryd.prog 14 [(0, 1), (1, 1)] := ⟨_, Tryd.underlying14, by kernel_rfl⟩
instance fld14_0 : Fld Tryd.prog 14 0 0 := ⟨_, _, Tryd.t9, Tryd.underlying14, rfl, rfl, by kernel_rfl, rfl⟩
instance fld14_1 : Fld Tryd.prog 14 1 1 := ⟨_, _, Tryd.t12, Tryd.underlying14, rfl, rfl, by kernel_rfl, rfl⟩
instance ty15 : Ty Tryd.prog 15 (.pointer 95) 1 8 (.pointer none) := ⟨⟨Tryd.t15, by kernel_rfl, rfl, rfl, rfl⟩, Tryd.underlying15⟩
instance ty16 : Ty Tryd.prog 16 (.pointer 98) 1 8 (.pointer none) := ⟨⟨Tryd.t16, by kernel_rfl, rfl, rfl, rfl⟩, Tryd.underlying16⟩
instance ty17 : Ty Tryd.prog 17 (.pointer 107) 1 8 (.pointer none) := ⟨⟨Tryd.t17, by kernel_rfl, rfl, rfl, rfl⟩, Tryd.underlying17⟩
instance ty18 : Ty Tryd.prog 18 (.struct #[{ name := "typ", type := 17, offset := 0, embedded := false, tag := "", pkgPath := "internal/runtime/maps", byteOffset := 0 }]) 1 8 (.agg #[.pointer none]) := ⟨⟨Tryd.t18, by kernel_rfl, rfl, rfl, rfl⟩, Tryd.underlying18⟩
instance lay18 : Lay Tryd.prog 18 [(0, 1)] := ⟨_, Tryd.underlying18, by kernel_rfl⟩
instance fld18_0 : Fld Tryd.prog 18 0 0 := ⟨_, _, Tryd.t17, Tryd.underlying18, rfl, rfl, by kernel_rfl, rfl⟩
instance ty19 : Ty Tryd.prog 19 (.struct #[{ name := "typ", type := 17, offset := 0, embedded := false, tag := "", pkgPath := "internal/runtime/maps", byteOffset := 0 }]) 1 8 (.agg #[.pointer none]) := ⟨⟨Tryd.t19, by kernel_rfl, rfl, rfl, rfl⟩, Tryd.underlying19⟩
instance lay19 : Lay Tryd.prog 19 [(0, 1)] := ⟨_, Tryd.underlying19, by kernel_rfl⟩
instance fld19_0 : Fld Tryd.prog 19 0 0 := ⟨_, _, Tryd.t17, Tryd.underlying19, rfl, rfl, by kernel_rfl, rfl⟩
instance ty21 : Ty Tryd.prog 21 (.int .i32) 1 4 (.int .i32 0) := ⟨⟨Tryd.t21, by kernel_rfl, rfl, rfl, rfl⟩, Tryd.underlying21⟩
instance ty22 : Ty Tryd.prog 22 (.struct #[{ name := "At", type := 3, offset := 0, embedded := false, tag := "", pkgPath := "", byteOffset := 0 }, { name := "N", type := 3, offset := 1, embedded := false, tag := "", pkgPath := "", byteOffset := 8 }]) 2 16 (.agg #[.int .i64 0, .int .i64 0]) := ⟨⟨Tryd.t22, by kernel_rfl, rfl, rfl, rfl⟩, Tryd.underlying22⟩
instance lay22 : Lay Tryd.prog 22 [(0, 1), (1, 1)] := ⟨_, Tryd.underlying22, by kernel_rfl⟩
instance fld22_0 : Fld Tryd.prog 22 0 0 := ⟨_, _, Tryd.t3, Tryd.underlying22, rfl, rfl, by kernel_rfl, rfl⟩
instance fld22_1 : Fld Tryd.prog 22 1 1 := ⟨_, _, Tryd.t3, Tryd.underlying22, rfl, rfl, by kernel_rfl, rfl⟩
instance ty23 : Ty Tryd.prog 23 (.struct #[{ name := "At", type := 3, offset := 0, embedded := false, tag := "", pkgPath := "", byteOffset := 0 }, { name := "N", type := 3, offset := 1, embedded := false, tag := "", pkgPath := "", byteOffset := 8 }]) 2 16 (.agg #[.int .i64 0, .int .i64 0]) := ⟨⟨Tryd.t23, by kernel_rfl, rfl, rfl, rfl⟩, Tryd.underlying23⟩
instance lay23 : Lay Tryd.prog 23 [(0, 1), (1, 1)] := ⟨_, Tryd.underlying23, by kernel_rfl⟩
instance fld23_0 : Fld Tryd.prog 23 0 0 := ⟨_, _, Tryd.t3, Tryd.underlying23, rfl, rfl, by kernel_rfl, rfl⟩
instance fld23_1 : Fld Tryd.prog 23 1 1 := ⟨_, _, Tryd.t3, Tryd.underlying23, rfl, rfl, by kernel_rfl, rfl⟩
instance ty24 : Ty Tryd.prog 24 (.complex .f64) 1 16 (.complex .f64 0 0) := ⟨⟨Tryd.t24, by kernel_rfl, rfl, rfl, rfl⟩, Tryd.underlying24⟩
instance ty25 : Ty Tryd.prog 25 (.slice 3) 1 24 (.slice none 0 0) := ⟨⟨Tryd.t25, by kernel_rfl, rfl, rfl, rfl⟩, Tryd.underlying25⟩
instance ty26 : Ty Tryd.prog 26 (.struct #[{ name := "ID", type := 23, offset := 0, embedded := false, tag := "", pkgPath := "", byteOffset := 0 }, { name := "User", type := 3, offset := 2, embedded := false, tag := "", pkgPath := "", byteOffset := 16 }, { name := "Need", type := 24, offset := 3, embedded := false, tag := "", pkgPath := "", byteOffset := 24 }, { name := "Wall", type := 3, offset := 4, embedded := false, tag := "", pkgPath := "", byteOffset := 40 }, { name := "Run", type := 3, offset := 5, embedded := false, tag := "", pkgPath := "", byteOffset := 48 }, { name := "Base", type := 3, offset := 6, embedded := false, tag := "", pkgPath := "", byteOffset := 56 }, { name := "After", type := 3, offset := 7, embedded := false, tag := "", pkgPath := "", byteOffset := 64 }, { name := "Sites", type := 25, offset := 8, embedded := false, tag := "", pkgPath := "", byteOffset := 72 }, { name := "Pact", type := 4, offset := 9, embedded := false, tag := "", pkgPath := "", byteOffset := 96 }]) 10 104 (.agg #[.int .i64 0, .int .i64 0, .int .i64 0, .complex .f64 0 0, .int .i64 0, .int .i64 0, .int .i64 0, .int .i64 0, .slice none 0 0, .bool false]) := ⟨⟨Tryd.t26, by kernel_rfl, rfl, rfl, rfl⟩, Tryd.underlying26⟩
instance lay26 : Lay Tryd.prog 26 [(0, 2), (2, 1), (3, 1), (4, 1), (5, 1), (6, 1), (7, 1), (8, 1), (9, 1)] := ⟨_, Tryd.underlying26, by kernel_rfl⟩
instance fld26_0 : Fld Tryd.prog 26 0 0 := ⟨_, _, Tryd.t23, Tryd.underlying26, rfl, rfl, by kernel_rfl, rfl⟩
instance fld26_1 : Fld Tryd.prog 26 1 2 := ⟨_, _, Tryd.t3, Tryd.underlying26, rfl, rfl, by kernel_rfl, rfl⟩
instance fld26_2 : Fld Tryd.prog 26 2 3 := ⟨_, _, Tryd.t24, Tryd.underlying26, rfl, rfl, by kernel_rfl, rfl⟩
instance fld26_3 : Fld Tryd.prog 26 3 4 := ⟨_, _, Tryd.t3, Tryd.underlying26, rfl, rfl, by kernel_rfl, rfl⟩
instance fld26_4 : Fld Tryd.prog 26 4 5 := ⟨_, _, Tryd.t3, Tryd.underlying26, rfl, rfl, by kernel_rfl, rfl⟩
instance fld26_5 : Fld Tryd.prog 26 5 6 := ⟨_, _, Tryd.t3, Tryd.underlying26, rfl, rfl, by kernel_rfl, rfl⟩
instance fld26_6 : Fld Tryd.prog 26 6 7 := ⟨_, _, Tryd.t3, Tryd.underlying26, rfl, rfl, by kernel_rfl, rfl⟩
instance fld26_7 : Fld Tryd.prog 26 7 8 := ⟨_, _, Tryd.t25, Tryd.underlying26, rfl, rfl, by kernel_rfl, rfl⟩
instance fld26_8 : Fld Tryd.prog 26 8 9 := ⟨_, _, Tryd.t4, Tryd.underlying26, rfl, rfl, by kernel_rfl, rfl⟩
instance ty27 : Ty Tryd.prog 27 (.struct #[{ name := "ID", type := 23, offset := 0, embedded := false, tag := "", pkgPath := "", byteOffset := 0 }, { name := "User", type := 3, offset := 2, embedded := false, tag := "", pkgPath := "", byteOffset := 16 }, { name := "Need", type := 24, offset := 3, embedded := false, tag := "", pkgPath := "", byteOffset := 24 }, { name := "Wall", type := 3, offset := 4, embedded := false, tag := "", pkgPath := "", byteOffset := 40 }, { name := "Run", type := 3, offset := 5, embedded := false, tag := "", pkgPath := "", byteOffset := 48 }, { name := "Base", type := 3, offset := 6, embedded := false, tag := "", pkgPath := "", byteOffset := 56 }, { name := "After", type := 3, offset := 7, embedded := false, tag := "", pkgPath := "", byteOffset := 64 }, { name := "Sites", type := 25, offset := 8, embedded := false, tag := "", pkgPath := "", byteOffset := 72 }, { name := "Pact", type := 4, offset := 9, embedded := false, tag := "", pkgPath := "", byteOffset := 96 }]) 10 104 (.agg #[.int .i64 0, .int .i64 0, .int .i64 0, .complex .f64 0 0, .int .i64 0, .int .i64 0, .int .i64 0, .int .i64 0, .slice none 0 0, .bool false]) := ⟨⟨Tryd.t27, by kernel_rfl, rfl, rfl, rfl⟩, Tryd.underlying27⟩
instance lay27 : Lay Tryd.prog 27 [(0, 2), (2, 1), (3, 1), (4, 1), (5, 1), (6, 1), (7, 1), (8, 1), (9, 1)] := ⟨_, Tryd.underlying27, by kernel_rfl⟩
instance fld27_0 : Fld Tryd.prog 27 0 0 := ⟨_, _, Tryd.t23, Tryd.underlying27, rfl, rfl, by kernel_rfl, rfl⟩
instance fld27_1 : Fld Tryd.prog 27 1 2 := ⟨_, _, Tryd.t3, Tryd.underlying27, rfl, rfl, by kernel_rfl, rfl⟩
instance fld27_2 : Fld Tryd.prog 27 2 3 := ⟨_, _, Tryd.t24, Tryd.underlying27, rfl, rfl, by kernel_rfl, rfl⟩
instance fld27_3 : Fld Tryd.prog 27 3 4 := ⟨_, _, Tryd.t3, Tryd.underlying27, rfl, rfl, by kernel_rfl, rfl⟩
instance fld27_4 : Fld Tryd.prog 27 4 5 := ⟨_, _, Tryd.t3, Tryd.underlying27, rfl, rfl, by kernel_rfl, rfl⟩
instance fld27_5 : Fld Tryd.prog 27 5 6 := ⟨_, _, Tryd.t3, Tryd.underlying27, rfl, rfl, by kernel_rfl, rfl⟩
instance fld27_6 : Fld Tryd.prog 27 6 7 := ⟨_, _, Tryd.t3, Tryd.underlying27, rfl, rfl, by kernel_rfl, rfl⟩
instance fld27_7 : Fld Tryd.prog 27 7 8 := ⟨_, _, Tryd.t25, Tryd.underlying27, rfl, rfl, by kernel_rfl, rfl⟩
instance fld27_8 : Fld Tryd.prog 27 8 9 := ⟨_, _, Tryd.t4, Tryd.underlying27, rfl, rfl, by kernel_rfl, rfl⟩
instance ty28 : Ty Tryd.prog 28 (.struct #[{ name := "From", type := 3, offset := 0, embedded := false, tag := "", pkgPath := "", byteOffset := 0 }, { name := "To", type := 3, offset := 1, embedded := false, tag := "", pkgPath := "", byteOffset := 8 }, { name := "Need", type := 24, offset := 2, embedded := false, tag := "", pkgPath := "", byteOffset := 16 }]) 3 32 (.agg #[.int .i64 0, .int .i64 0, .complex .f64 0 0]) := ⟨⟨Tryd.t28, by kernel_rfl, rfl, rfl, rfl⟩, Tryd.underlying28⟩
instance lay28 : Lay Tryd.prog 28 [(0, 1), (1, 1), (2, 1)] := ⟨_, Tryd.underlying28, by kernel_rfl⟩
instance fld28_0 : Fld Tryd.prog 28 0 0 := ⟨_, _, Tryd.t3, Tryd.underlying28, rfl, rfl, by kernel_rfl, rfl⟩
instance fld28_1 : Fld Tryd.prog 28 1 1 := ⟨_, _, Tryd.t3, Tryd.underlying28, rfl, rfl, by kernel_rfl, rfl⟩
instance fld28_2 : Fld Tryd.prog 28 2 2 := ⟨_, _, Tryd.t24, Tryd.underlying28, rfl, rfl, by kernel_rfl, rfl⟩
instance ty29 : Ty Tryd.prog 29 (.struct #[{ name := "From", type := 3, offset := 0, embedded := false, tag := "", pkgPath := "", byteOffset := 0 }, { name := "To", type := 3, offset := 1, embedded := false, tag := "", pkgPath := "", byteOffset := 8 }, { name := "Need", type := 24, offset := 2, embedded := false, tag := "", pkgPath := "", byteOffset := 16 }]) 3 32 (.agg #[.int .i64 0, .int .i64 0, .complex .f64 0 0]) := ⟨⟨Tryd.t29, by kernel_rfl, rfl, rfl, rfl⟩, Tryd.underlying29⟩
instance lay29 : Lay Tryd.prog 29 [(0, 1), (1, 1), (2, 1)] := ⟨_, Tryd.underlying29, by kernel_rfl⟩
instance fld29_0 : Fld Tryd.prog 29 0 0 := ⟨_, _, Tryd.t3, Tryd.underlying29, rfl, rfl, by kernel_rfl, rfl⟩
instance fld29_1 : Fld Tryd.prog 29 1 1 := ⟨_, _, Tryd.t3, Tryd.underlying29, rfl, rfl, by kernel_rfl, rfl⟩
instance fld29_2 : Fld Tryd.prog 29 2 2 := ⟨_, _, Tryd.t24, Tryd.underlying29, rfl, rfl, by kernel_rfl, rfl⟩
instance ty30 : Ty Tryd.prog 30 (.struct #[{ name := "Kind", type := 3, offset := 0, embedded := false, tag := "", pkgPath := "", byteOffset := 0 }, { name := "ID", type := 23, offset := 1, embedded := false, tag := "", pkgPath := "", byteOffset := 8 }, { name := "N", type := 3, offset := 3, embedded := false, tag := "", pkgPath := "", byteOffset := 24 }, { name := "On", type := 4, offset := 4, embedded := false, tag := "", pkgPath := "", byteOffset := 32 }, { name := "Job", type := 27, offset := 5, embedded := false, tag := "", pkgPath := "", byteOffset := 40 }, { name := "Busy", type := 29, offset := 15, embedded := false, tag := "", pkgPath := "", byteOffset := 144 }]) 18 176 (.agg #[.int .i64 0, .int .i64 0, .int .i64 0, .int .i64 0, .bool false, .int .i64 0, .int .i64 0, .int .i64 0, .complex .f64 0 0, .int .i64 0, .int .i64 0, .int .i64 0, .int .i64 0, .slice none 0 0, .bool false, .int .i64 0, .int .i64 0, .complex .f64 0 0]) := ⟨⟨Tryd.t30, by kernel_rfl, rfl, rfl, rfl⟩, Tryd.underlying30⟩
instance lay30 : Lay Tryd.prog 30 [(0, 1), (1, 2), (3, 1), (4, 1), (5, 10), (15, 3)] := ⟨_, Tryd.underlying30, by kernel_rfl⟩
instance fld30_0 : Fld Tryd.prog 30 0 0 := ⟨_, _, Tryd.t3, Tryd.underlying30, rfl, rfl, by kernel_rfl, rfl⟩
instance fld30_1 : Fld Tryd.prog 30 1 1 := ⟨_, _, Tryd.t23, Tryd.underlying30, rfl, rfl, by kernel_rfl, rfl⟩
instance fld30_2 : Fld Tryd.prog 30 2 3 := ⟨_, _, Tryd.t3, Tryd.underlying30, rfl, rfl, by kernel_rfl, rfl⟩
instance fld30_3 : Fld Tryd.prog 30 3 4 := ⟨_, _, Tryd.t4, Tryd.underlying30, rfl, rfl, by kernel_rfl, rfl⟩
instance fld30_4 : Fld Tryd.prog 30 4 5 := ⟨_, _, Tryd.t27, Tryd.underlying30, rfl, rfl, by kernel_rfl, rfl⟩
instance fld30_5 : Fld Tryd.prog 30 5 15 := ⟨_, _, Tryd.t29, Tryd.underlying30, rfl, rfl, by kernel_rfl, rfl⟩
instance ty31 : Ty Tryd.prog 31 (.struct #[{ name := "Kind", type := 3, offset := 0, embedded := false, tag := "", pkgPath := "", byteOffset := 0 }, { name := "ID", type := 23, offset := 1, embedded := false, tag := "", pkgPath := "", byteOffset := 8 }, { name := "N", type := 3, offset := 3, embedded := false, tag := "", pkgPath := "", byteOffset := 24 }, { name := "On", type := 4, offset := 4, embedded := false, tag := "", pkgPath := "", byteOffset := 32 }, { name := "Job", type := 27, offset := 5, embedded := false, tag := "", pkgPath := "", byteOffset := 40 }, { name := "Busy", type := 29, offset := 15, embedded := false, tag := "", pkgPath := "", byteOffset := 144 }]) 18 176 (.agg #[.int .i64 0, .int .i64 0, .int .i64 0, .int .i64 0, .bool false, .int .i64 0, .int .i64 0, .int .i64 0, .complex .f64 0 0, .int .i64 0, .int .i64 0, .int .i64 0, .int .i64 0, .slice none 0 0, .bool false, .int .i64 0, .int .i64 0, .complex .f64 0 0]) := ⟨⟨Tryd.t31, by kernel_rfl, rfl, rfl, rfl⟩, Tryd.underlying31⟩
instance lay31 : Lay Tryd.prog 31 [(0, 1), (1, 2), (3, 1), (4, 1), (5, 10), (15, 3)] := ⟨_, Tryd.underlying31, by kernel_rfl⟩
instance fld31_0 : Fld Tryd.prog 31 0 0 := ⟨_, _, Tryd.t3, Tryd.underlying31, rfl, rfl, by kernel_rfl, rfl⟩
instance fld31_1 : Fld Tryd.prog 31 1 1 := ⟨_, _, Tryd.t23, Tryd.underlying31, rfl, rfl, by kernel_rfl, rfl⟩
instance fld31_2 : Fld Tryd.prog 31 2 3 := ⟨_, _, Tryd.t3, Tryd.underlying31, rfl, rfl, by kernel_rfl, rfl⟩
instance fld31_3 : Fld Tryd.prog 31 3 4 := ⟨_, _, Tryd.t4, Tryd.underlying31, rfl, rfl, by kernel_rfl, rfl⟩
instance fld31_4 : Fld Tryd.prog 31 4 5 := ⟨_, _, Tryd.t27, Tryd.underlying31, rfl, rfl, by kernel_rfl, rfl⟩
instance fld31_5 : Fld Tryd.prog 31 5 15 := ⟨_, _, Tryd.t29, Tryd.underlying31, rfl, rfl, by kernel_rfl, rfl⟩
instance ty32 : Ty Tryd.prog 32 (.struct #[{ name := "Kind", type := 3, offset := 0, embedded := false, tag := "", pkgPath := "", byteOffset := 0 }, { name := "At", type := 3, offset := 1, embedded := false, tag := "", pkgPath := "", byteOffset := 8 }, { name := "To", type := 3, offset := 2, embedded := false, tag := "", pkgPath := "", byteOffset := 16 }, { name := "N", type := 3, offset := 3, embedded := false, tag := "", pkgPath := "", byteOffset := 24 }, { name := "On", type := 4, offset := 4, embedded := false, tag := "", pkgPath := "", byteOffset := 32 }, { name := "Cmd", type := 31, offset := 5, embedded := false, tag := "", pkgPath := "", byteOffset := 40 }]) 23 216 (.agg #[.int .i64 0, .int .i64 0, .int .i64 0, .int .i64 0, .bool false, .int .i64 0, .int .i64 0, .int .i64 0, .int .i64 0, .bool false, .int .i64 0, .int .i64 0, .int .i64 0, .complex .f64 0 0, .int .i64 0, .int .i64 0, .int .i64 0, .int .i64 0, .slice none 0 0, .bool false, .int .i64 0, .int .i64 0, .complex .f64 0 0]) := ⟨⟨Tryd.t32, by kernel_rfl, rfl, rfl, rfl⟩, Tryd.underlying32⟩
instance lay32 : Lay Tryd.prog 32 [(0, 1), (1, 1), (2, 1), (3, 1), (4, 1), (5, 18)] := ⟨_, Tryd.underlying32, by kernel_rfl⟩
instance fld32_0 : Fld Tryd.prog 32 0 0 := ⟨_, _, Tryd.t3, Tryd.underlying32, rfl, rfl, by kernel_rfl, rfl⟩
instance fld32_1 : Fld Tryd.prog 32 1 1 := ⟨_, _, Tryd.t3, Tryd.underlying32, rfl, rfl, by kernel_rfl, rfl⟩
instance fld32_2 : Fld Tryd.prog 32 2 2 := ⟨_, _, Tryd.t3, Tryd.underlying32, rfl, rfl, by kernel_rfl, rfl⟩
instance fld32_3 : Fld Tryd.prog 32 3 3 := ⟨_, _, Tryd.t3, Tryd.underlying32, rfl, rfl, by kernel_rfl, rfl⟩
instance fld32_4 : Fld Tryd.prog 32 4 4 := ⟨_, _, Tryd.t4, Tryd.underlying32, rfl, rfl, by kernel_rfl, rfl⟩
instance fld32_5 : Fld Tryd.prog 32 5 5 := ⟨_, _, Tryd.t31, Tryd.underlying32, rfl, rfl, by kernel_rfl, rfl⟩
instance ty33 : Ty Tryd.prog 33 (.struct #[{ name := "Kind", type := 3, offset := 0, embedded := false, tag := "", pkgPath := "", byteOffset := 0 }, { name := "At", type := 3, offset := 1, embedded := false, tag := "", pkgPath := "", byteOffset := 8 }, { name := "To", type := 3, offset := 2, embedded := false, tag := "", pkgPath := "", byteOffset := 16 }, { name := "N", type := 3, offset := 3, embedded := false, tag := "", pkgPath := "", byteOffset := 24 }, { name := "On", type := 4, offset := 4, embedded := false, tag := "", pkgPath := "", byteOffset := 32 }, { name := "Cmd", type := 31, offset := 5, embedded := false, tag := "", pkgPath := "", byteOffset := 40 }]) 23 216 (.agg #[.int .i64 0, .int .i64 0, .int .i64 0, .int .i64 0, .bool false, .int .i64 0, .int .i64 0, .int .i64 0, .int .i64 0, .bool false, .int .i64 0, .int .i64 0, .int .i64 0, .complex .f64 0 0, .int .i64 0, .int .i64 0, .int .i64 0, .int .i64 0, .slice none 0 0, .bool false, .int .i64 0, .int .i64 0, .complex .f64 0 0]) := ⟨⟨Tryd.t33, by kernel_rfl, rfl, rfl, rfl⟩, Tryd.underlying33⟩
instance lay33 : Lay Tryd.prog 33 [(0, 1), (1, 1), (2, 1), (3, 1), (4, 1), (5, 18)] := ⟨_, Tryd.underlying33, by kernel_rfl⟩
instance fld33_0 : Fld Tryd.prog 33 0 0 := ⟨_, _, Tryd.t3, Tryd.underlying33, rfl, rfl, by kernel_rfl, rfl⟩
instance fld33_1 : Fld Tryd.prog 33 1 1 := ⟨_, _, Tryd.t3, Tryd.underlying33, rfl, rfl, by kernel_rfl, rfl⟩
instance fld33_2 : Fld Tryd.prog 33 2 2 := ⟨_, _, Tryd.t3, Tryd.underlying33, rfl, rfl, by kernel_rfl, rfl⟩
instance fld33_3 : Fld Tryd.prog 33 3 3 := ⟨_, _, Tryd.t3, Tryd.underlying33, rfl, rfl, by kernel_rfl, rfl⟩
instance fld33_4 : Fld Tryd.prog 33 4 4 := ⟨_, _, Tryd.t4, Tryd.underlying33, rfl, rfl, by kernel_rfl, rfl⟩
instance fld33_5 : Fld Tryd.prog 33 5 5 := ⟨_, _, Tryd.t31, Tryd.underlying33, rfl, rfl, by kernel_rfl, rfl⟩
instance ty34 : Ty Tryd.prog 34 (.int .i64) 1 8 (.int .i64 0) := ⟨⟨Tryd.t34, by kernel_rfl, rfl, rfl, rfl⟩, Tryd.underlying34⟩
instance ty40 : Ty Tryd.prog 40 (.slice 9) 1 24 (.slice none 0 0) := ⟨⟨Tryd.t40, by kernel_rfl, rfl, rfl, rfl⟩, Tryd.underlying40⟩
instance ty59 : Ty Tryd.prog 59 (.float .f64) 1 8 (.float .f64 0) := ⟨⟨Tryd.t59, by kernel_rfl, rfl, rfl, rfl⟩, Tryd.underlying59⟩
instance ty68 : Ty Tryd.prog 68 (.int .u64) 1 8 (.int .u64 0) := ⟨⟨Tryd.t68, by kernel_rfl, rfl, rfl, rfl⟩, Tryd.underlying68⟩
noncomputable def zero70 : Value := (Tryd.t70.zero).getD (.bool false)
instance ty70 : Ty Tryd.prog 70 (.array 256 5) 256 256 zero70 := ⟨⟨Tryd.t70, by kernel_rfl, rfl, rfl, opt_getD (by kernel_rfl)⟩, Tryd.underlying70⟩
instance ty71 : Ty Tryd.prog 71 (.struct #[{ name := "lo", type := 5, offset := 0, embedded := false, tag := "", pkgPath := "unicode/utf8", byteOffset := 0 }, { name := "hi", type := 5, offset := 1, embedded := false, tag := "", pkgPath := "unicode/utf8", byteOffset := 1 }]) 2 2 (.agg #[.int .u8 0, .int .u8 0]) := ⟨⟨Tryd.t71, by kernel_rfl, rfl, rfl, rfl⟩, Tryd.underlying71⟩
instance lay71 : Lay Tryd.prog 71 [(0, 1), (1, 1)] := ⟨_, Tryd.underlying71, by kernel_rfl⟩
instance fld71_0 : Fld Tryd.prog 71 0 0 := ⟨_, _, Tryd.t5, Tryd.underlying71, rfl, rfl, by kernel_rfl, rfl⟩
instance fld71_1 : Fld Tryd.prog 71 1 1 := ⟨_, _, Tryd.t5, Tryd.underlying71, rfl, rfl, by kernel_rfl, rfl⟩
instance ty72 : Ty Tryd.prog 72 (.struct #[{ name := "lo", type := 5, offset := 0, embedded := false, tag := "", pkgPath := "unicode/utf8", byteOffset := 0 }, { name := "hi", type := 5, offset := 1, embedded := false, tag := "", pkgPath := "unicode/utf8", byteOffset := 1 }]) 2 2 (.agg #[.int .u8 0, .int .u8 0]) := ⟨⟨Tryd.t72, by kernel_rfl, rfl, rfl, rfl⟩, Tryd.underlying72⟩
instance lay72 : Lay Tryd.prog 72 [(0, 1), (1, 1)] := ⟨_, Tryd.underlying72, by kernel_rfl⟩
instance fld72_0 : Fld Tryd.prog 72 0 0 := ⟨_, _, Tryd.t5, Tryd.underlying72, rfl, rfl, by kernel_rfl, rfl⟩
instance fld72_1 : Fld Tryd.prog 72 1 1 := ⟨_, _, Tryd.t5, Tryd.underlying72, rfl, rfl, by kernel_rfl, rfl⟩
instance ty73 : Ty Tryd.prog 73 (.array 16 72) 32 32 (.agg #[.int .u8 0, .int .u8 0, .int .u8 0, .int .u8 0, .int .u8 0, .int .u8 0, .int .u8 0, .int .u8 0, .int .u8 0, .int .u8 0, .int .u8 0, .int .u8 0, .int .u8 0, .int .u8 0, .int .u8 0, .int .u8 0, .int .u8 0, .int .u8 0, .int .u8 0, .int .u8 0, .int .u8 0, .int .u8 0, .int .u8 0, .int .u8 0, .int .u8 0, .int .u8 0, .int .u8 0, .int .u8 0, .int .u8 0, .int .u8 0, .int .u8 0, .int .u8 0]) := ⟨⟨Tryd.t73, by kernel_rfl, rfl, rfl, rfl⟩, Tryd.underlying73⟩
instance ty74 : Ty Tryd.prog 74 (.int .u32) 1 4 (.int .u32 0) := ⟨⟨Tryd.t74, by kernel_rfl, rfl, rfl, rfl⟩, Tryd.underlying74⟩
instance ty78 : Ty Tryd.prog 78 (.array 24 5) 24 24 (.agg #[.int .u8 0, .int .u8 0, .int .u8 0, .int .u8 0, .int .u8 0, .int .u8 0, .int .u8 0, .int .u8 0, .int .u8 0, .int .u8 0, .int .u8 0, .int .u8 0, .int .u8 0, .int .u8 0, .int .u8 0, .int .u8 0, .int .u8 0, .int .u8 0, .int .u8 0, .int .u8 0, .int .u8 0, .int .u8 0, .int .u8 0, .int .u8 0]) := ⟨⟨Tryd.t78, by kernel_rfl, rfl, rfl, rfl⟩, Tryd.underlying78⟩
instance ty79 : Ty Tryd.prog 79 (.int .u64) 1 8 (.int .u64 0) := ⟨⟨Tryd.t79, by kernel_rfl, rfl, rfl, rfl⟩, Tryd.underlying79⟩
instance ty82 : Ty Tryd.prog 82 (.slice 5) 1 24 (.slice none 0 0) := ⟨⟨Tryd.t82, by kernel_rfl, rfl, rfl, rfl⟩, Tryd.underlying82⟩
instance ty86 : Ty Tryd.prog 86 (.array 20 79) 20 160 (.agg #[.int .u64 0, .int .u64 0, .int .u64 0, .int .u64 0, .int .u64 0, .int .u64 0, .int .u64 0, .int .u64 0, .int .u64 0, .int .u64 0, .int .u64 0, .int .u64 0, .int .u64 0, .int .u64 0, .int .u64 0, .int .u64 0, .int .u64 0, .int .u64 0, .int .u64 0, .int .u64 0]) := ⟨⟨Tryd.t86, by kernel_rfl, rfl, rfl, rfl⟩, Tryd.underlying86⟩
instance ty87 : Ty Tryd.prog 87 (.array 65 5) 65 65 (.agg #[.int .u8 0, .int .u8 0, .int .u8 0, .int .u8 0, .int .u8 0, .int .u8 0, .int .u8 0, .int .u8 0, .int .u8 0, .int .u8 0, .int .u8 0, .int .u8 0, .int .u8 0, .int .u8 0, .int .u8 0, .int .u8 0, .int .u8 0, .int .u8 0, .int .u8 0, .int .u8 0, .int .u8 0, .int .u8 0, .int .u8 0, .int .u8 0, .int .u8 0, .int .u8 0, .int .u8 0, .int .u8 0, .int .u8 0, .int .u8 0, .int .u8 0, .int .u8 0, .int .u8 0, .int .u8 0, .int .u8 0, .int .u8 0, .int .u8 0, .int .u8 0, .int .u8 0, .int .u8 0, .int .u8 0, .int .u8 0, .int .u8 0, .int .u8 0, .int .u8 0, .int .u8 0, .int .u8 0, .int .u8 0, .int .u8 0, .int .u8 0, .int .u8 0, .int .u8 0, .int .u8 0, .int .u8 0, .int .u8 0, .int .u8 0, .int .u8 0, .int .u8 0, .int .u8 0, .int .u8 0, .int .u8 0, .int .u8 0, .int .u8 0, .int .u8 0, .int .u8 0]) := ⟨⟨Tryd.t87, by kernel_rfl, rfl, rfl, rfl⟩, Tryd.underlying87⟩
instance ty91 : Ty Tryd.prog 91 (.array 32 5) 32 32 (.agg #[.int .u8 0, .int .u8 0, .int .u8 0, .int .u8 0, .int .u8 0, .int .u8 0, .int .u8 0, .int .u8 0, .int .u8 0, .int .u8 0, .int .u8 0, .int .u8 0, .int .u8 0, .int .u8 0, .int .u8 0, .int .u8 0, .int .u8 0, .int .u8 0, .int .u8 0, .int .u8 0, .int .u8 0, .int .u8 0, .int .u8 0, .int .u8 0, .int .u8 0, .int .u8 0, .int .u8 0, .int .u8 0, .int .u8 0, .int .u8 0, .int .u8 0, .int .u8 0]) := ⟨⟨Tryd.t91, by kernel_rfl, rfl, rfl, rfl⟩, Tryd.underlying91⟩
instance ty92 : Ty Tryd.prog 92 (.array 64 5) 64 64 (.agg #[.int .u8 0, .int .u8 0, .int .u8 0, .int .u8 0, .int .u8 0, .int .u8 0, .int .u8 0, .int .u8 0, .int .u8 0, .int .u8 0, .int .u8 0, .int .u8 0, .int .u8 0, .int .u8 0, .int .u8 0, .int .u8 0, .int .u8 0, .int .u8 0, .int .u8 0, .int .u8 0, .int .u8 0, .int .u8 0, .int .u8 0, .int .u8 0, .int .u8 0, .int .u8 0, .int .u8 0, .int .u8 0, .int .u8 0, .int .u8 0, .int .u8 0, .int .u8 0, .int .u8 0, .int .u8 0, .int .u8 0, .int .u8 0, .int .u8 0, .int .u8 0, .int .u8 0, .int .u8 0, .int .u8 0, .int .u8 0, .int .u8 0, .int .u8 0, .int .u8 0, .int .u8 0, .int .u8 0, .int .u8 0, .int .u8 0, .int .u8 0, .int .u8 0, .int .u8 0, .int .u8 0, .int .u8 0, .int .u8 0, .int .u8 0, .int .u8 0, .int .u8 0, .int .u8 0, .int .u8 0, .int .u8 0, .int .u8 0, .int .u8 0, .int .u8 0]) := ⟨⟨Tryd.t92, by kernel_rfl, rfl, rfl, rfl⟩, Tryd.underlying92⟩
instance ty94 : Ty Tryd.prog 94 (.struct #[{ name := "_interface", type := 17, offset := 0, embedded := false, tag := "", pkgPath := "runtime", byteOffset := 0 }, { name := "concrete", type := 17, offset := 1, embedded := false, tag := "", pkgPath := "runtime", byteOffset := 8 }, { name := "asserted", type := 17, offset := 2, embedded := false, tag := "", pkgPath := "runtime", byteOffset := 16 }, { name := "missingMethod", type := 9, offset := 3, embedded := false, tag := "", pkgPath := "runtime", byteOffset := 24 }]) 4 40 (.agg #[.pointer none, .pointer none, .pointer none, .string ({ data := #[] })]) := ⟨⟨Tryd.t94, by kernel_rfl, rfl, rfl, rfl⟩, Tryd.underlying94⟩
instance lay94 : Lay Tryd.prog 94 [(0, 1), (1, 1), (2, 1), (3, 1)] := ⟨_, Tryd.underlying94, by kernel_rfl⟩
instance fld94_0 : Fld Tryd.prog 94 0 0 := ⟨_, _, Tryd.t17, Tryd.underlying94, rfl, rfl, by kernel_rfl, rfl⟩
instance fld94_1 : Fld Tryd.prog 94 1 1 := ⟨_, _, Tryd.t17, Tryd.underlying94, rfl, rfl, by kernel_rfl, rfl⟩
instance fld94_2 : Fld Tryd.prog 94 2 2 := ⟨_, _, Tryd.t17, Tryd.underlying94, rfl, rfl, by kernel_rfl, rfl⟩
instance fld94_3 : Fld Tryd.prog 94 3 3 := ⟨_, _, Tryd.t9, Tryd.underlying94, rfl, rfl, by kernel_rfl, rfl⟩
instance ty95 : Ty Tryd.prog 95 (.struct #[{ name := "_interface", type := 17, offset := 0, embedded := false, tag := "", pkgPath := "runtime", byteOffset := 0 }, { name := "concrete", type := 17, offset := 1, embedded := false, tag := "", pkgPath := "runtime", byteOffset := 8 }, { name := "asserted", type := 17, offset := 2, embedded := false, tag := "", pkgPath := "runtime", byteOffset := 16 }, { name := "missingMethod", type := 9, offset := 3, embedded := false, tag := "", pkgPath := "runtime", byteOffset := 24 }]) 4 40 (.agg #[.pointer none, .pointer none, .pointer none, .string ({ data := #[] })]) := ⟨⟨Tryd.t95, by kernel_rfl, rfl, rfl, rfl⟩, Tryd.underlying95⟩
instance lay95 : Lay Tryd.prog 95 [(0, 1), (1, 1), (2, 1), (3, 1)] := ⟨_, Tryd.underlying95, by kernel_rfl⟩
instance fld95_0 : Fld Tryd.prog 95 0 0 := ⟨_, _, Tryd.t17, Tryd.underlying95, rfl, rfl, by kernel_rfl, rfl⟩
instance fld95_1 : Fld Tryd.prog 95 1 1 := ⟨_, _, Tryd.t17, Tryd.underlying95, rfl, rfl, by kernel_rfl, rfl⟩
instance fld95_2 : Fld Tryd.prog 95 2 2 := ⟨_, _, Tryd.t17, Tryd.underlying95, rfl, rfl, by kernel_rfl, rfl⟩
instance fld95_3 : Fld Tryd.prog 95 3 3 := ⟨_, _, Tryd.t9, Tryd.underlying95, rfl, rfl, by kernel_rfl, rfl⟩
instance ty100 : Ty Tryd.prog 100 (.int .u8) 1 1 (.int .u8 0) := ⟨⟨Tryd.t100, by kernel_rfl, rfl, rfl, rfl⟩, Tryd.underlying100⟩
instance ty101 : Ty Tryd.prog 101 (.int .u8) 1 1 (.int .u8 0) := ⟨⟨Tryd.t101, by kernel_rfl, rfl, rfl, rfl⟩, Tryd.underlying101⟩
instance ty103 : Ty Tryd.prog 103 (.pointer 5) 1 8 (.pointer none) := ⟨⟨Tryd.t103, by kernel_rfl, rfl, rfl, rfl⟩, Tryd.underlying103⟩
instance ty104 : Ty Tryd.prog 104 (.int .i32) 1 4 (.int .i32 0) := ⟨⟨Tryd.t104, by kernel_rfl, rfl, rfl, rfl⟩, Tryd.underlying104⟩
instance ty105 : Ty Tryd.prog 105 (.int .i32) 1 4 (.int .i32 0) := ⟨⟨Tryd.t105, by kernel_rfl, rfl, rfl, rfl⟩, Tryd.underlying105⟩
instance ty106 : Ty Tryd.prog 106 (.struct #[{ name := "Size_", type := 12, offset := 0, embedded := false, tag := "", pkgPath := "", byteOffset := 0 }, { name := "PtrBytes", type := 12, offset := 1, embedded := false, tag := "", pkgPath := "", byteOffset := 8 }, { name := "Hash", type := 74, offset := 2, embedded := false, tag := "", pkgPath := "", byteOffset := 16 }, { name := "TFlag", type := 100, offset := 3, embedded := false, tag := "", pkgPath := "", byteOffset := 20 }, { name := "Align_", type := 5, offset := 4, embedded := false, tag := "", pkgPath := "", byteOffset := 21 }, { name := "FieldAlign_", type := 5, offset := 5, embedded := false, tag := "", pkgPath := "", byteOffset := 22 }, { name := "Kind_", type := 101, offset := 6, embedded := false, tag := "", pkgPath := "", byteOffset := 23 }, { name := "Equal", type := 102, offset := 7, embedded := false, tag := "", pkgPath := "", byteOffset := 24 }, { name := "GCData", type := 103, offset := 8, embedded := false, tag := "", pkgPath := "", byteOffset := 32 }, { name := "Str", type := 104, offset := 9, embedded := false, tag := "", pkgPath := "", byteOffset := 40 }, { name := "PtrToThis", type := 105, offset := 10, embedded := false, tag := "", pkgPath := "", byteOffset := 44 }]) 11 48 (.agg #[.int .u64 0, .int .u64 0, .int .u32 0, .int .u8 0, .int .u8 0, .int .u8 0, .int .u8 0, .nilFunc, .pointer none, .int .i32 0, .int .i32 0]) := ⟨⟨Tryd.t106, by kernel_rfl, rfl, rfl, rfl⟩, Tryd.underlying106⟩
instance lay106 : Lay Tryd.prog 106 [(0, 1), (1, 1), (2, 1), (3, 1), (4, 1), (5, 1), (6, 1), (7, 1), (8, 1), (9, 1), (10, 1)] := ⟨_, Tryd.underlying106, by kernel_rfl⟩
instance fld106_0 : Fld Tryd.prog 106 0 0 := ⟨_, _, Tryd.t12, Tryd.underlying106, rfl, rfl, by kernel_rfl, rfl⟩
instance fld106_1 : Fld Tryd.prog 106 1 1 := ⟨_, _, Tryd.t12, Tryd.underlying106, rfl, rfl, by kernel_rfl, rfl⟩
instance fld106_2 : Fld Tryd.prog 106 2 2 := ⟨_, _, Tryd.t74, Tryd.underlying106, rfl, rfl, by kernel_rfl, rfl⟩
instance fld106_3 : Fld Tryd.prog 106 3 3 := ⟨_, _, Tryd.t100, Tryd.underlying106, rfl, rfl, by kernel_rfl, rfl⟩
instance fld106_4 : Fld Tryd.prog 106 4 4 := ⟨_, _, Tryd.t5, Tryd.underlying106, rfl, rfl, by kernel_rfl, rfl⟩
instance fld106_5 : Fld Tryd.prog 106 5 5 := ⟨_, _, Tryd.t5, Tryd.underlying106, rfl, rfl, by kernel_rfl, rfl⟩
instance fld106_6 : Fld Tryd.prog 106 6 6 := ⟨_, _, Tryd.t101, Tryd.underlying106, rfl, rfl, by kernel_rfl, rfl⟩
instance fld106_7 : Fld Tryd.prog 106 7 7 := ⟨_, _, Tryd.t102, Tryd.underlying106, rfl, rfl, by kernel_rfl, rfl⟩
instance fld106_8 : Fld Tryd.prog 106 8 8 := ⟨_, _, Tryd.t103, Tryd.underlying106, rfl, rfl, by kernel_rfl, rfl⟩
instance fld106_9 : Fld Tryd.prog 106 9 9 := ⟨_, _, Tryd.t104, Tryd.underlying106, rfl, rfl, by kernel_rfl, rfl⟩
instance fld106_10 : Fld Tryd.prog 106 10 10 := ⟨_, _, Tryd.t105, Tryd.underlying106, rfl, rfl, by kernel_rfl, rfl⟩
instance ty107 : Ty Tryd.prog 107 (.struct #[{ name := "Size_", type := 12, offset := 0, embedded := false, tag := "", pkgPath := "", byteOffset := 0 }, { name := "PtrBytes", type := 12, offset := 1, embedded := false, tag := "", pkgPath := "", byteOffset := 8 }, { name := "Hash", type := 74, offset := 2, embedded := false, tag := "", pkgPath := "", byteOffset := 16 }, { name := "TFlag", type := 100, offset := 3, embedded := false, tag := "", pkgPath := "", byteOffset := 20 }, { name := "Align_", type := 5, offset := 4, embedded := false, tag := "", pkgPath := "", byteOffset := 21 }, { name := "FieldAlign_", type := 5, offset := 5, embedded := false, tag := "", pkgPath := "", byteOffset := 22 }, { name := "Kind_", type := 101, offset := 6, embedded := false, tag := "", pkgPath := "", byteOffset := 23 }, { name := "Equal", type := 102, offset := 7, embedded := false, tag := "", pkgPath := "", byteOffset := 24 }, { name := "GCData", type := 103, offset := 8, embedded := false, tag := "", pkgPath := "", byteOffset := 32 }, { name := "Str", type := 104, offset := 9, embedded := false, tag := "", pkgPath := "", byteOffset := 40 }, { name := "PtrToThis", type := 105, offset := 10, embedded := false, tag := "", pkgPath := "", byteOffset := 44 }]) 11 48 (.agg #[.int .u64 0, .int .u64 0, .int .u32 0, .int .u8 0, .int .u8 0, .int .u8 0, .int .u8 0, .nilFunc, .pointer none, .int .i32 0, .int .i32 0]) := ⟨⟨Tryd.t107, by kernel_rfl, rfl, rfl, rfl⟩, Tryd.underlying107⟩
instance lay107 : Lay Tryd.prog 107 [(0, 1), (1, 1), (2, 1), (3, 1), (4, 1), (5, 1), (6, 1), (7, 1), (8, 1), (9, 1), (10, 1)] := ⟨_, Tryd.underlying107, by kernel_rfl⟩
instance fld107_0 : Fld Tryd.prog 107 0 0 := ⟨_, _, Tryd.t12, Tryd.underlying107, rfl, rfl, by kernel_rfl, rfl⟩
instance fld107_1 : Fld Tryd.prog 107 1 1 := ⟨_, _, Tryd.t12, Tryd.underlying107, rfl, rfl, by kernel_rfl, rfl⟩
instance fld107_2 : Fld Tryd.prog 107 2 2 := ⟨_, _, Tryd.t74, Tryd.underlying107, rfl, rfl, by kernel_rfl, rfl⟩
instance fld107_3 : Fld Tryd.prog 107 3 3 := ⟨_, _, Tryd.t100, Tryd.underlying107, rfl, rfl, by kernel_rfl, rfl⟩
instance fld107_4 : Fld Tryd.prog 107 4 4 := ⟨_, _, Tryd.t5, Tryd.underlying107, rfl, rfl, by kernel_rfl, rfl⟩
instance fld107_5 : Fld Tryd.prog 107 5 5 := ⟨_, _, Tryd.t5, Tryd.underlying107, rfl, rfl, by kernel_rfl, rfl⟩
instance fld107_6 : Fld Tryd.prog 107 6 6 := ⟨_, _, Tryd.t101, Tryd.underlying107, rfl, rfl, by kernel_rfl, rfl⟩
instance fld107_7 : Fld Tryd.prog 107 7 7 := ⟨_, _, Tryd.t102, Tryd.underlying107, rfl, rfl, by kernel_rfl, rfl⟩
instance fld107_8 : Fld Tryd.prog 107 8 8 := ⟨_, _, Tryd.t103, Tryd.underlying107, rfl, rfl, by kernel_rfl, rfl⟩
instance fld107_9 : Fld Tryd.prog 107 9 9 := ⟨_, _, Tryd.t104, Tryd.underlying107, rfl, rfl, by kernel_rfl, rfl⟩
instance fld107_10 : Fld Tryd.prog 107 10 10 := ⟨_, _, Tryd.t105, Tryd.underlying107, rfl, rfl, by kernel_rfl, rfl⟩
instance fn2 : FnOk Tryd.prog 2 := ⟨Tryd.f2, Tryd.func2, by decide +kernel, rfl⟩
instance fn3 : FnOk Tryd.prog 3 := ⟨Tryd.f3, Tryd.func3, by decide +kernel, rfl⟩
instance fn4 : FnOk Tryd.prog 4 := ⟨Tryd.f4, Tryd.func4, by decide +kernel, rfl⟩
instance fn5 : FnOk Tryd.prog 5 := ⟨Tryd.f5, Tryd.func5, by decide +kernel, rfl⟩
instance fn6 : FnOk Tryd.prog 6 := ⟨Tryd.f6, Tryd.func6, by decide +kernel, rfl⟩
instance fn7 : FnOk Tryd.prog 7 := ⟨Tryd.f7, Tryd.func7, by decide +kernel, rfl⟩
instance fn8 : FnOk Tryd.prog 8 := ⟨Tryd.f8, Tryd.func8, by decide +kernel, rfl⟩
instance fn9 : FnOk Tryd.prog 9 := ⟨Tryd.f9, Tryd.func9, by decide +kernel, rfl⟩
instance fn10 : FnOk Tryd.prog 10 := ⟨Tryd.f10, Tryd.func10, by decide +kernel, rfl⟩
instance fn11 : FnOk Tryd.prog 11 := ⟨Tryd.f11, Tryd.func11, by decide +kernel, rfl⟩
instance fn12 : FnOk Tryd.prog 12 := ⟨Tryd.f12, Tryd.func12, by decide +kernel, rfl⟩
instance fn13 : FnOk Tryd.prog 13 := ⟨Tryd.f13, Tryd.func13, by decide +kernel, rfl⟩
instance fn14 : FnOk Tryd.prog 14 := ⟨Tryd.f14, Tryd.func14, by decide +kernel, rfl⟩
instance fn15 : FnOk Tryd.prog 15 := ⟨Tryd.f15, Tryd.func15, by decide +kernel, rfl⟩
instance fn16 : FnOk Tryd.prog 16 := ⟨Tryd.f16, Tryd.func16, by decide +kernel, rfl⟩
instance fn17 : FnOk Tryd.prog 17 := ⟨Tryd.f17, Tryd.func17, by decide +kernel, rfl⟩
instance fn18 : FnOk Tryd.prog 18 := ⟨Tryd.f18, Tryd.func18, by decide +kernel, rfl⟩
instance fn19 : FnOk Tryd.prog 19 := ⟨Tryd.f19, Tryd.func19, by decide +kernel, rfl⟩
instance fn20 : FnOk Tryd.prog 20 := ⟨Tryd.f20, Tryd.func20, by decide +kernel, rfl⟩
instance fn21 : FnOk Tryd.prog 21 := ⟨Tryd.f21, Tryd.func21, by decide +kernel, rfl⟩
instance fn22 : FnOk Tryd.prog 22 := ⟨Tryd.f22, Tryd.func22, by decide +kernel, rfl⟩
instance fn23 : FnOk Tryd.prog 23 := ⟨Tryd.f23, Tryd.func23, by decide +kernel, rfl⟩
instance fn24 : FnOk Tryd.prog 24 := ⟨Tryd.f24, Tryd.func24, by decide +kernel, rfl⟩
instance fn25 : FnOk Tryd.prog 25 := ⟨Tryd.f25, Tryd.func25, by decide +kernel, rfl⟩
instance fn26 : FnOk Tryd.prog 26 := ⟨Tryd.f26, Tryd.func26, by decide +kernel, rfl⟩
instance fn27 : FnOk Tryd.prog 27 := ⟨Tryd.f27, Tryd.func27, by decide +kernel, rfl⟩
instance fn28 : FnOk Tryd.prog 28 := ⟨Tryd.f28, Tryd.func28, by decide +kernel, rfl⟩
instance fn29 : FnOk Tryd.prog 29 := ⟨Tryd.f29, Tryd.func29, by decide +kernel, rfl⟩
instance fn30 : FnOk Tryd.prog 30 := ⟨Tryd.f30, Tryd.func30, by decide +kernel, rfl⟩
instance fn31 : FnOk Tryd.prog 31 := ⟨Tryd.f31, Tryd.func31, by decide +kernel, rfl⟩
instance fn32 : FnOk Tryd.prog 32 := ⟨Tryd.f32, Tryd.func32, by decide +kernel, rfl⟩
instance fn33 : FnOk Tryd.prog 33 := ⟨Tryd.f33, Tryd.func33, by decide +kernel, rfl⟩
instance fn34 : FnOk Tryd.prog 34 := ⟨Tryd.f34, Tryd.func34, by decide +kernel, rfl⟩
instance fn35 : FnOk Tryd.prog 35 := ⟨Tryd.f35, Tryd.func35, by decide +kernel, rfl⟩
instance fn37 : FnOk Tryd.prog 37 := ⟨Tryd.f37, Tryd.func37, by decide +kernel, rfl⟩
instance fn38 : FnOk Tryd.prog 38 := ⟨Tryd.f38, Tryd.func38, by decide +kernel, rfl⟩
instance fn39 : FnOk Tryd.prog 39 := ⟨Tryd.f39, Tryd.func39, by decide +kernel, rfl⟩
instance fn40 : FnOk Tryd.prog 40 := ⟨Tryd.f40, Tryd.func40, by decide +kernel, rfl⟩
instance fn41 : FnOk Tryd.prog 41 := ⟨Tryd.f41, Tryd.func41, by decide +kernel, rfl⟩
instance fn43 : FnOk Tryd.prog 43 := ⟨Tryd.f43, Tryd.func43, by decide +kernel, rfl⟩
instance fn44 : FnOk Tryd.prog 44 := ⟨Tryd.f44, Tryd.func44, by decide +kernel, rfl⟩
instance fn45 : FnOk Tryd.prog 45 := ⟨Tryd.f45, Tryd.func45, by decide +kernel, rfl⟩
instance fn46 : FnOk Tryd.prog 46 := ⟨Tryd.f46, Tryd.func46, by decide +kernel, rfl⟩
instance fn48 : FnOk Tryd.prog 48 := ⟨Tryd.f48, Tryd.func48, by decide +kernel, rfl⟩
instance fn49 : FnOk Tryd.prog 49 := ⟨Tryd.f49, Tryd.func49, by decide +kernel, rfl⟩
instance fn50 : FnOk Tryd.prog 50 := ⟨Tryd.f50, Tryd.func50, by decide +kernel, rfl⟩
instance fn51 : FnOk Tryd.prog 51 := ⟨Tryd.f51, Tryd.func51, by decide +kernel, rfl⟩
instance fn52 : FnOk Tryd.prog 52 := ⟨Tryd.f52, Tryd.func52, by decide +kernel, rfl⟩
instance fn53 : FnOk Tryd.prog 53 := ⟨Tryd.f53, Tryd.func53, by decide +kernel, rfl⟩
instance fn54 : FnOk Tryd.prog 54 := ⟨Tryd.f54, Tryd.func54, by decide +kernel, rfl⟩
instance fn55 : FnOk Tryd.prog 55 := ⟨Tryd.f55, Tryd.func55, by decide +kernel, rfl⟩
instance fn56 : FnOk Tryd.prog 56 := ⟨Tryd.f56, Tryd.func56, by decide +kernel, rfl⟩
instance fn57 : FnOk Tryd.prog 57 := ⟨Tryd.f57, Tryd.func57, by decide +kernel, rfl⟩
instance fn58 : FnOk Tryd.prog 58 := ⟨Tryd.f58, Tryd.func58, by decide +kernel, rfl⟩
instance fn59 : FnOk Tryd.prog 59 := ⟨Tryd.f59, Tryd.func59, by decide +kernel, rfl⟩
instance fn60 : FnOk Tryd.prog 60 := ⟨Tryd.f60, Tryd.func60, by decide +kernel, rfl⟩
instance fn84 : FnOk Tryd.prog 84 := ⟨Tryd.f84, Tryd.func84, by decide +kernel, rfl⟩
theorem Tryd.mixed : Tryd.prog.follows .mixedOrders = true := by kernel_rfl
end Go.Proofs

/- The types and functions of the seat's program, as instances of the calculus. Printed by wip/tools/show.py. -/
import Derived.Test.YtdbmhcchgbpccaaProg
import Derived.Test.YtdbmhcchgbpccaaEvDraw
import Derived.KernelRfl
namespace Go.Proofs
open Go Ev
theorem opt_getD {o : Option Value} {d : Value} (h : o.isSome = true) : o = some (o.getD d) := by
  cases o with
  | none => cases h
  | some x => rfl
instance ty2 : Ty Try.prog 2 (.int .i64) 1 8 (.int .i64 0) := ⟨⟨Try.t2, by kernel_rfl, rfl, rfl, rfl⟩, Try.underlying2⟩
instance ty3 : Ty Try.prog 3 (.int .i64) 1 8 (.int .i64 0) := ⟨⟨Try.t3, by kernel_rfl, rfl, rfl, rfl⟩, Try.underlying3⟩
instance ty4 : Ty Try.prog 4 .bool 1 1 (.bool false) := ⟨⟨Try.t4, by kernel_rfl, rfl, rfl, rfl⟩, Try.underlying4⟩
instance ty5 : Ty Try.prog 5 (.int .u8) 1 1 (.int .u8 0) := ⟨⟨Try.t5, by kernel_rfl, rfl, rfl, rfl⟩, Try.underlying5⟩
instance ty6 : Ty Try.prog 6 (.int .u8) 1 1 (.int .u8 0) := ⟨⟨Try.t6, by kernel_rfl, rfl, rfl, rfl⟩, Try.underlying6⟩
instance ty7 : Ty Try.prog 7 (.struct #[{ name := "x", type := 2, offset := 0, embedded := false, tag := "", pkgPath := "runtime", byteOffset := 0 }, { name := "y", type := 3, offset := 1, embedded := false, tag := "", pkgPath := "runtime", byteOffset := 8 }, { name := "signed", type := 4, offset := 2, embedded := false, tag := "", pkgPath := "runtime", byteOffset := 16 }, { name := "code", type := 6, offset := 3, embedded := false, tag := "", pkgPath := "runtime", byteOffset := 17 }]) 4 24 (.agg #[.int .i64 0, .int .i64 0, .bool false, .int .u8 0]) := ⟨⟨Try.t7, by kernel_rfl, rfl, rfl, rfl⟩, Try.underlying7⟩
instance lay7 : Lay Try.prog 7 [(0, 1), (1, 1), (2, 1), (3, 1)] := ⟨_, Try.underlying7, by kernel_rfl⟩
instance fld7_0 : Fld Try.prog 7 0 0 := ⟨_, _, Try.t2, Try.underlying7, rfl, rfl, by kernel_rfl, rfl⟩
instance fld7_1 : Fld Try.prog 7 1 1 := ⟨_, _, Try.t3, Try.underlying7, rfl, rfl, by kernel_rfl, rfl⟩
instance fld7_2 : Fld Try.prog 7 2 2 := ⟨_, _, Try.t4, Try.underlying7, rfl, rfl, by kernel_rfl, rfl⟩
instance fld7_3 : Fld Try.prog 7 3 3 := ⟨_, _, Try.t6, Try.underlying7, rfl, rfl, by kernel_rfl, rfl⟩
instance ty8 : Ty Try.prog 8 (.struct #[{ name := "x", type := 2, offset := 0, embedded := false, tag := "", pkgPath := "runtime", byteOffset := 0 }, { name := "y", type := 3, offset := 1, embedded := false, tag := "", pkgPath := "runtime", byteOffset := 8 }, { name := "signed", type := 4, offset := 2, embedded := false, tag := "", pkgPath := "runtime", byteOffset := 16 }, { name := "code", type := 6, offset := 3, embedded := false, tag := "", pkgPath := "runtime", byteOffset := 17 }]) 4 24 (.agg #[.int .i64 0, .int .i64 0, .bool false, .int .u8 0]) := ⟨⟨Try.t8, by kernel_rfl, rfl, rfl, rfl⟩, Try.underlying8⟩
instance lay8 : Lay Try.prog 8 [(0, 1), (1, 1), (2, 1), (3, 1)] := ⟨_, Try.underlying8, by kernel_rfl⟩
instance fld8_0 : Fld Try.prog 8 0 0 := ⟨_, _, Try.t2, Try.underlying8, rfl, rfl, by kernel_rfl, rfl⟩
instance fld8_1 : Fld Try.prog 8 1 1 := ⟨_, _, Try.t3, Try.underlying8, rfl, rfl, by kernel_rfl, rfl⟩
instance fld8_2 : Fld Try.prog 8 2 2 := ⟨_, _, Try.t4, Try.underlying8, rfl, rfl, by kernel_rfl, rfl⟩
instance fld8_3 : Fld Try.prog 8 3 3 := ⟨_, _, Try.t6, Try.underlying8, rfl, rfl, by kernel_rfl, rfl⟩
instance ty9 : Ty Try.prog 9 .string 1 16 (.string ({ data := #[] })) := ⟨⟨Try.t9, by kernel_rfl, rfl, rfl, rfl⟩, Try.underlying9⟩
instance ty10 : Ty Try.prog 10 .string 1 16 (.string ({ data := #[] })) := ⟨⟨Try.t10, by kernel_rfl, rfl, rfl, rfl⟩, Try.underlying10⟩
instance ty11 : Ty Try.prog 11 .string 1 16 (.string ({ data := #[] })) := ⟨⟨Try.t11, by kernel_rfl, rfl, rfl, rfl⟩, Try.underlying11⟩
instance ty12 : Ty Try.prog 12 (.int .u64) 1 8 (.int .u64 0) := ⟨⟨Try.t12, by kernel_rfl, rfl, rfl, rfl⟩, Try.underlying12⟩
instance ty13 : Ty Try.prog 13 (.struct #[{ name := "msg", type := 9, offset := 0, embedded := false, tag := "", pkgPath := "runtime", byteOffset := 0 }, { name := "addr", type := 12, offset := 1, embedded := false, tag := "", pkgPath := "runtime", byteOffset := 16 }]) 2 24 (.agg #[.string ({ data := #[] }), .int .u64 0]) := ⟨⟨Try.t13, by kernel_rfl, rfl, rfl, rfl⟩, Try.underlying13⟩
instance lay13 : Lay Try.prog 13 [(0, 1), (1, 1)] := ⟨_, Try.underlying13, by kernel_rfl⟩
instance fld13_0 : Fld Try.prog 13 0 0 := ⟨_, _, Try.t9, Try.underlying13, rfl, rfl, by kernel_rfl, rfl⟩
instance fld13_1 : Fld Try.prog 13 1 1 := ⟨_, _, Try.t12, Try.underlying13, rfl, rfl, by kernel_rfl, rfl⟩
instance ty14 : Ty Try.prog 14 (.struct #[{ name := "msg", type := 9, offset := 0, embedded := false, tag := "", pkgPath := "runtime", byteOffset := 0 }, { name := "addr", type := 12, offset := 1, embedded := false, tag := "", pkgPath := "runtime", byteOffset := 16 }]) 2 24 (.agg #[.string ({ data := #[] }), .int .u64 0]) := ⟨⟨Try.t14, by kernel_rfl, rfl, rfl, rfl⟩, Try.underlying14⟩
instance lay14 : Lay Try.prog 14 [(0, 1), (1, 1)] := ⟨_, Try.underlying14, by kernel_rfl⟩
instance fld14_0 : Fld Try.prog 14 0 0 := ⟨_, _, Try.t9, Try.underlying14, rfl, rfl, by kernel_rfl, rfl⟩
instance fld14_1 : Fld Try.prog 14 1 1 := ⟨_, _, Try.t12, Try.underlying14, rfl, rfl, by kernel_rfl, rfl⟩
instance ty15 : Ty Try.prog 15 (.pointer 63) 1 8 (.pointer none) := ⟨⟨Try.t15, by kernel_rfl, rfl, rfl, rfl⟩, Try.underlying15⟩
instance ty16 : Ty Try.prog 16 (.pointer 66) 1 8 (.pointer none) := ⟨⟨Try.t16, by kernel_rfl, rfl, rfl, rfl⟩, Try.underlying16⟩
instance ty17 : Ty Try.prog 17 (.pointer 75) 1 8 (.pointer none) := ⟨⟨Try.t17, by kernel_rfl, rfl, rfl, rfl⟩, Try.underlying17⟩
instance ty18 : Ty Try.prog 18 (.struct #[{ name := "typ", type := 17, offset := 0, embedded := false, tag := "", pkgPath := "internal/runtime/maps", byteOffset := 0 }]) 1 8 (.agg #[.pointer none]) := ⟨⟨Try.t18, by kernel_rfl, rfl, rfl, rfl⟩, Try.underlying18⟩
instance lay18 : Lay Try.prog 18 [(0, 1)] := ⟨_, Try.underlying18, by kernel_rfl⟩
instance fld18_0 : Fld Try.prog 18 0 0 := ⟨_, _, Try.t17, Try.underlying18, rfl, rfl, by kernel_rfl, rfl⟩
instance ty19 : Ty Try.prog 19 (.struct #[{ name := "typ", type := 17, offset := 0, embedded := false, tag := "", pkgPath := "internal/runtime/maps", byteOffset := 0 }]) 1 8 (.agg #[.pointer none]) := ⟨⟨Try.t19, by kernel_rfl, rfl, rfl, rfl⟩, Try.underlying19⟩
instance lay19 : Lay Try.prog 19 [(0, 1)] := ⟨_, Try.underlying19, by kernel_rfl⟩
instance fld19_0 : Fld Try.prog 19 0 0 := ⟨_, _, Try.t17, Try.underlying19, rfl, rfl, by kernel_rfl, rfl⟩
instance ty21 : Ty Try.prog 21 (.int .i32) 1 4 (.int .i32 0) := ⟨⟨Try.t21, by kernel_rfl, rfl, rfl, rfl⟩, Try.underlying21⟩
instance ty22 : Ty Try.prog 22 (.slice 27) 1 24 (.slice none 0 0) := ⟨⟨Try.t22, by kernel_rfl, rfl, rfl, rfl⟩, Try.underlying22⟩
instance ty23 : Ty Try.prog 23 (.pointer 53) 1 8 (.pointer none) := ⟨⟨Try.t23, by kernel_rfl, rfl, rfl, rfl⟩, Try.underlying23⟩
instance ty24 : Ty Try.prog 24 (.int .i64) 1 8 (.int .i64 0) := ⟨⟨Try.t24, by kernel_rfl, rfl, rfl, rfl⟩, Try.underlying24⟩
instance ty27 : Ty Try.prog 27 (.slice 5) 1 24 (.slice none 0 0) := ⟨⟨Try.t27, by kernel_rfl, rfl, rfl, rfl⟩, Try.underlying27⟩
instance ty29 : Ty Try.prog 29 (.slice 34) 1 24 (.slice none 0 0) := ⟨⟨Try.t29, by kernel_rfl, rfl, rfl, rfl⟩, Try.underlying29⟩
instance ty33 : Ty Try.prog 33 (.struct #[{ name := "From", type := 3, offset := 0, embedded := false, tag := "", pkgPath := "", byteOffset := 0 }, { name := "To", type := 3, offset := 1, embedded := false, tag := "", pkgPath := "", byteOffset := 8 }, { name := "Epoch", type := 3, offset := 2, embedded := false, tag := "", pkgPath := "", byteOffset := 16 }, { name := "Peer", type := 3, offset := 3, embedded := false, tag := "", pkgPath := "", byteOffset := 24 }, { name := "Seq", type := 3, offset := 4, embedded := false, tag := "", pkgPath := "", byteOffset := 32 }, { name := "Ack", type := 3, offset := 5, embedded := false, tag := "", pkgPath := "", byteOffset := 40 }, { name := "Body", type := 27, offset := 6, embedded := false, tag := "", pkgPath := "", byteOffset := 48 }]) 7 72 (.agg #[.int .i64 0, .int .i64 0, .int .i64 0, .int .i64 0, .int .i64 0, .int .i64 0, .slice none 0 0]) := ⟨⟨Try.t33, by kernel_rfl, rfl, rfl, rfl⟩, Try.underlying33⟩
instance lay33 : Lay Try.prog 33 [(0, 1), (1, 1), (2, 1), (3, 1), (4, 1), (5, 1), (6, 1)] := ⟨_, Try.underlying33, by kernel_rfl⟩
instance fld33_0 : Fld Try.prog 33 0 0 := ⟨_, _, Try.t3, Try.underlying33, rfl, rfl, by kernel_rfl, rfl⟩
instance fld33_1 : Fld Try.prog 33 1 1 := ⟨_, _, Try.t3, Try.underlying33, rfl, rfl, by kernel_rfl, rfl⟩
instance fld33_2 : Fld Try.prog 33 2 2 := ⟨_, _, Try.t3, Try.underlying33, rfl, rfl, by kernel_rfl, rfl⟩
instance fld33_3 : Fld Try.prog 33 3 3 := ⟨_, _, Try.t3, Try.underlying33, rfl, rfl, by kernel_rfl, rfl⟩
instance fld33_4 : Fld Try.prog 33 4 4 := ⟨_, _, Try.t3, Try.underlying33, rfl, rfl, by kernel_rfl, rfl⟩
instance fld33_5 : Fld Try.prog 33 5 5 := ⟨_, _, Try.t3, Try.underlying33, rfl, rfl, by kernel_rfl, rfl⟩
instance fld33_6 : Fld Try.prog 33 6 6 := ⟨_, _, Try.t27, Try.underlying33, rfl, rfl, by kernel_rfl, rfl⟩
instance ty34 : Ty Try.prog 34 (.struct #[{ name := "From", type := 3, offset := 0, embedded := false, tag := "", pkgPath := "", byteOffset := 0 }, { name := "To", type := 3, offset := 1, embedded := false, tag := "", pkgPath := "", byteOffset := 8 }, { name := "Epoch", type := 3, offset := 2, embedded := false, tag := "", pkgPath := "", byteOffset := 16 }, { name := "Peer", type := 3, offset := 3, embedded := false, tag := "", pkgPath := "", byteOffset := 24 }, { name := "Seq", type := 3, offset := 4, embedded := false, tag := "", pkgPath := "", byteOffset := 32 }, { name := "Ack", type := 3, offset := 5, embedded := false, tag := "", pkgPath := "", byteOffset := 40 }, { name := "Body", type := 27, offset := 6, embedded := false, tag := "", pkgPath := "", byteOffset := 48 }]) 7 72 (.agg #[.int .i64 0, .int .i64 0, .int .i64 0, .int .i64 0, .int .i64 0, .int .i64 0, .slice none 0 0]) := ⟨⟨Try.t34, by kernel_rfl, rfl, rfl, rfl⟩, Try.underlying34⟩
instance lay34 : Lay Try.prog 34 [(0, 1), (1, 1), (2, 1), (3, 1), (4, 1), (5, 1), (6, 1)] := ⟨_, Try.underlying34, by kernel_rfl⟩
instance fld34_0 : Fld Try.prog 34 0 0 := ⟨_, _, Try.t3, Try.underlying34, rfl, rfl, by kernel_rfl, rfl⟩
instance fld34_1 : Fld Try.prog 34 1 1 := ⟨_, _, Try.t3, Try.underlying34, rfl, rfl, by kernel_rfl, rfl⟩
instance fld34_2 : Fld Try.prog 34 2 2 := ⟨_, _, Try.t3, Try.underlying34, rfl, rfl, by kernel_rfl, rfl⟩
instance fld34_3 : Fld Try.prog 34 3 3 := ⟨_, _, Try.t3, Try.underlying34, rfl, rfl, by kernel_rfl, rfl⟩
instance fld34_4 : Fld Try.prog 34 4 4 := ⟨_, _, Try.t3, Try.underlying34, rfl, rfl, by kernel_rfl, rfl⟩
instance fld34_5 : Fld Try.prog 34 5 5 := ⟨_, _, Try.t3, Try.underlying34, rfl, rfl, by kernel_rfl, rfl⟩
instance fld34_6 : Fld Try.prog 34 6 6 := ⟨_, _, Try.t27, Try.underlying34, rfl, rfl, by kernel_rfl, rfl⟩
instance ty38 : Ty Try.prog 38 (.slice 40) 1 24 (.slice none 0 0) := ⟨⟨Try.t38, by kernel_rfl, rfl, rfl, rfl⟩, Try.underlying38⟩
instance ty39 : Ty Try.prog 39 (.struct #[{ name := "Do", type := 3, offset := 0, embedded := false, tag := "", pkgPath := "", byteOffset := 0 }, { name := "N", type := 3, offset := 1, embedded := false, tag := "", pkgPath := "", byteOffset := 8 }, { name := "B", type := 27, offset := 2, embedded := false, tag := "", pkgPath := "", byteOffset := 16 }]) 3 40 (.agg #[.int .i64 0, .int .i64 0, .slice none 0 0]) := ⟨⟨Try.t39, by kernel_rfl, rfl, rfl, rfl⟩, Try.underlying39⟩
instance lay39 : Lay Try.prog 39 [(0, 1), (1, 1), (2, 1)] := ⟨_, Try.underlying39, by kernel_rfl⟩
instance fld39_0 : Fld Try.prog 39 0 0 := ⟨_, _, Try.t3, Try.underlying39, rfl, rfl, by kernel_rfl, rfl⟩
instance fld39_1 : Fld Try.prog 39 1 1 := ⟨_, _, Try.t3, Try.underlying39, rfl, rfl, by kernel_rfl, rfl⟩
instance fld39_2 : Fld Try.prog 39 2 2 := ⟨_, _, Try.t27, Try.underlying39, rfl, rfl, by kernel_rfl, rfl⟩
instance ty40 : Ty Try.prog 40 (.struct #[{ name := "Do", type := 3, offset := 0, embedded := false, tag := "", pkgPath := "", byteOffset := 0 }, { name := "N", type := 3, offset := 1, embedded := false, tag := "", pkgPath := "", byteOffset := 8 }, { name := "B", type := 27, offset := 2, embedded := false, tag := "", pkgPath := "", byteOffset := 16 }]) 3 40 (.agg #[.int .i64 0, .int .i64 0, .slice none 0 0]) := ⟨⟨Try.t40, by kernel_rfl, rfl, rfl, rfl⟩, Try.underlying40⟩
instance lay40 : Lay Try.prog 40 [(0, 1), (1, 1), (2, 1)] := ⟨_, Try.underlying40, by kernel_rfl⟩
instance fld40_0 : Fld Try.prog 40 0 0 := ⟨_, _, Try.t3, Try.underlying40, rfl, rfl, by kernel_rfl, rfl⟩
instance fld40_1 : Fld Try.prog 40 1 1 := ⟨_, _, Try.t3, Try.underlying40, rfl, rfl, by kernel_rfl, rfl⟩
instance fld40_2 : Fld Try.prog 40 2 2 := ⟨_, _, Try.t27, Try.underlying40, rfl, rfl, by kernel_rfl, rfl⟩
instance ty41 : Ty Try.prog 41 (.int .u64) 1 8 (.int .u64 0) := ⟨⟨Try.t41, by kernel_rfl, rfl, rfl, rfl⟩, Try.underlying41⟩
instance ty51 : Ty Try.prog 51 (.slice 55) 1 24 (.slice none 0 0) := ⟨⟨Try.t51, by kernel_rfl, rfl, rfl, rfl⟩, Try.underlying51⟩
instance ty52 : Ty Try.prog 52 (.struct #[{ name := "me", type := 3, offset := 0, embedded := false, tag := "", pkgPath := "hanse/link", byteOffset := 0 }, { name := "peer", type := 3, offset := 1, embedded := false, tag := "", pkgPath := "hanse/link", byteOffset := 8 }, { name := "epoch", type := 3, offset := 2, embedded := false, tag := "", pkgPath := "hanse/link", byteOffset := 16 }, { name := "other", type := 3, offset := 3, embedded := false, tag := "", pkgPath := "hanse/link", byteOffset := 24 }, { name := "waits", type := 51, offset := 4, embedded := false, tag := "", pkgPath := "hanse/link", byteOffset := 32 }, { name := "sent", type := 3, offset := 5, embedded := false, tag := "", pkgPath := "hanse/link", byteOffset := 56 }, { name := "came", type := 3, offset := 6, embedded := false, tag := "", pkgPath := "hanse/link", byteOffset := 64 }, { name := "owes", type := 4, offset := 7, embedded := false, tag := "", pkgPath := "hanse/link", byteOffset := 72 }]) 8 80 (.agg #[.int .i64 0, .int .i64 0, .int .i64 0, .int .i64 0, .slice none 0 0, .int .i64 0, .int .i64 0, .bool false]) := ⟨⟨Try.t52, by kernel_rfl, rfl, rfl, rfl⟩, Try.underlying52⟩
instance lay52 : Lay Try.prog 52 [(0, 1), (1, 1), (2, 1), (3, 1), (4, 1), (5, 1), (6, 1), (7, 1)] := ⟨_, Try.underlying52, by kernel_rfl⟩
instance fld52_0 : Fld Try.prog 52 0 0 := ⟨_, _, Try.t3, Try.underlying52, rfl, rfl, by kernel_rfl, rfl⟩
instance fld52_1 : Fld Try.prog 52 1 1 := ⟨_, _, Try.t3, Try.underlying52, rfl, rfl, by kernel_rfl, rfl⟩
instance fld52_2 : Fld Try.prog 52 2 2 := ⟨_, _, Try.t3, Try.underlying52, rfl, rfl, by kernel_rfl, rfl⟩
instance fld52_3 : Fld Try.prog 52 3 3 := ⟨_, _, Try.t3, Try.underlying52, rfl, rfl, by kernel_rfl, rfl⟩
instance fld52_4 : Fld Try.prog 52 4 4 := ⟨_, _, Try.t51, Try.underlying52, rfl, rfl, by kernel_rfl, rfl⟩
instance fld52_5 : Fld Try.prog 52 5 5 := ⟨_, _, Try.t3, Try.underlying52, rfl, rfl, by kernel_rfl, rfl⟩
instance fld52_6 : Fld Try.prog 52 6 6 := ⟨_, _, Try.t3, Try.underlying52, rfl, rfl, by kernel_rfl, rfl⟩
instance fld52_7 : Fld Try.prog 52 7 7 := ⟨_, _, Try.t4, Try.underlying52, rfl, rfl, by kernel_rfl, rfl⟩
instance ty53 : Ty Try.prog 53 (.struct #[{ name := "me", type := 3, offset := 0, embedded := false, tag := "", pkgPath := "hanse/link", byteOffset := 0 }, { name := "peer", type := 3, offset := 1, embedded := false, tag := "", pkgPath := "hanse/link", byteOffset := 8 }, { name := "epoch", type := 3, offset := 2, embedded := false, tag := "", pkgPath := "hanse/link", byteOffset := 16 }, { name := "other", type := 3, offset := 3, embedded := false, tag := "", pkgPath := "hanse/link", byteOffset := 24 }, { name := "waits", type := 51, offset := 4, embedded := false, tag := "", pkgPath := "hanse/link", byteOffset := 32 }, { name := "sent", type := 3, offset := 5, embedded := false, tag := "", pkgPath := "hanse/link", byteOffset := 56 }, { name := "came", type := 3, offset := 6, embedded := false, tag := "", pkgPath := "hanse/link", byteOffset := 64 }, { name := "owes", type := 4, offset := 7, embedded := false, tag := "", pkgPath := "hanse/link", byteOffset := 72 }]) 8 80 (.agg #[.int .i64 0, .int .i64 0, .int .i64 0, .int .i64 0, .slice none 0 0, .int .i64 0, .int .i64 0, .bool false]) := ⟨⟨Try.t53, by kernel_rfl, rfl, rfl, rfl⟩, Try.underlying53⟩
instance lay53 : Lay Try.prog 53 [(0, 1), (1, 1), (2, 1), (3, 1), (4, 1), (5, 1), (6, 1), (7, 1)] := ⟨_, Try.underlying53, by kernel_rfl⟩
instance fld53_0 : Fld Try.prog 53 0 0 := ⟨_, _, Try.t3, Try.underlying53, rfl, rfl, by kernel_rfl, rfl⟩
instance fld53_1 : Fld Try.prog 53 1 1 := ⟨_, _, Try.t3, Try.underlying53, rfl, rfl, by kernel_rfl, rfl⟩
instance fld53_2 : Fld Try.prog 53 2 2 := ⟨_, _, Try.t3, Try.underlying53, rfl, rfl, by kernel_rfl, rfl⟩
instance fld53_3 : Fld Try.prog 53 3 3 := ⟨_, _, Try.t3, Try.underlying53, rfl, rfl, by kernel_rfl, rfl⟩
instance fld53_4 : Fld Try.prog 53 4 4 := ⟨_, _, Try.t51, Try.underlying53, rfl, rfl, by kernel_rfl, rfl⟩
instance fld53_5 : Fld Try.prog 53 5 5 := ⟨_, _, Try.t3, Try.underlying53, rfl, rfl, by kernel_rfl, rfl⟩
instance fld53_6 : Fld Try.prog 53 6 6 := ⟨_, _, Try.t3, Try.underlying53, rfl, rfl, by kernel_rfl, rfl⟩
instance fld53_7 : Fld Try.prog 53 7 7 := ⟨_, _, Try.t4, Try.underlying53, rfl, rfl, by kernel_rfl, rfl⟩
instance ty54 : Ty Try.prog 54 (.struct #[{ name := "seq", type := 3, offset := 0, embedded := false, tag := "", pkgPath := "hanse/link", byteOffset := 0 }, { name := "body", type := 27, offset := 1, embedded := false, tag := "", pkgPath := "hanse/link", byteOffset := 8 }]) 2 32 (.agg #[.int .i64 0, .slice none 0 0]) := ⟨⟨Try.t54, by kernel_rfl, rfl, rfl, rfl⟩, Try.underlying54⟩
instance lay54 : Lay Try.prog 54 [(0, 1), (1, 1)] := ⟨_, Try.underlying54, by kernel_rfl⟩
instance fld54_0 : Fld Try.prog 54 0 0 := ⟨_, _, Try.t3, Try.underlying54, rfl, rfl, by kernel_rfl, rfl⟩
instance fld54_1 : Fld Try.prog 54 1 1 := ⟨_, _, Try.t27, Try.underlying54, rfl, rfl, by kernel_rfl, rfl⟩
instance ty55 : Ty Try.prog 55 (.struct #[{ name := "seq", type := 3, offset := 0, embedded := false, tag := "", pkgPath := "hanse/link", byteOffset := 0 }, { name := "body", type := 27, offset := 1, embedded := false, tag := "", pkgPath := "hanse/link", byteOffset := 8 }]) 2 32 (.agg #[.int .i64 0, .slice none 0 0]) := ⟨⟨Try.t55, by kernel_rfl, rfl, rfl, rfl⟩, Try.underlying55⟩
instance lay55 : Lay Try.prog 55 [(0, 1), (1, 1)] := ⟨_, Try.underlying55, by kernel_rfl⟩
instance fld55_0 : Fld Try.prog 55 0 0 := ⟨_, _, Try.t3, Try.underlying55, rfl, rfl, by kernel_rfl, rfl⟩
instance fld55_1 : Fld Try.prog 55 1 1 := ⟨_, _, Try.t27, Try.underlying55, rfl, rfl, by kernel_rfl, rfl⟩
instance ty62 : Ty Try.prog 62 (.struct #[{ name := "_interface", type := 17, offset := 0, embedded := false, tag := "", pkgPath := "runtime", byteOffset := 0 }, { name := "concrete", type := 17, offset := 1, embedded := false, tag := "", pkgPath := "runtime", byteOffset := 8 }, { name := "asserted", type := 17, offset := 2, embedded := false, tag := "", pkgPath := "runtime", byteOffset := 16 }, { name := "missingMethod", type := 9, offset := 3, embedded := false, tag := "", pkgPath := "runtime", byteOffset := 24 }]) 4 40 (.agg #[.pointer none, .pointer none, .pointer none, .string ({ data := #[] })]) := ⟨⟨Try.t62, by kernel_rfl, rfl, rfl, rfl⟩, Try.underlying62⟩
instance lay62 : Lay Try.prog 62 [(0, 1), (1, 1), (2, 1), (3, 1)] := ⟨_, Try.underlying62, by kernel_rfl⟩
instance fld62_0 : Fld Try.prog 62 0 0 := ⟨_, _, Try.t17, Try.underlying62, rfl, rfl, by kernel_rfl, rfl⟩
instance fld62_1 : Fld Try.prog 62 1 1 := ⟨_, _, Try.t17, Try.underlying62, rfl, rfl, by kernel_rfl, rfl⟩
instance fld62_2 : Fld Try.prog 62 2 2 := ⟨_, _, Try.t17, Try.underlying62, rfl, rfl, by kernel_rfl, rfl⟩
instance fld62_3 : Fld Try.prog 62 3 3 := ⟨_, _, Try.t9, Try.underlying62, rfl, rfl, by kernel_rfl, rfl⟩
instance ty63 : Ty Try.prog 63 (.struct #[{ name := "_interface", type := 17, offset := 0, embedded := false, tag := "", pkgPath := "runtime", byteOffset := 0 }, { name := "concrete", type := 17, offset := 1, embedded := false, tag := "", pkgPath := "runtime", byteOffset := 8 }, { name := "asserted", type := 17, offset := 2, embedded := false, tag := "", pkgPath := "runtime", byteOffset := 16 }, { name := "missingMethod", type := 9, offset := 3, embedded := false, tag := "", pkgPath := "runtime", byteOffset := 24 }]) 4 40 (.agg #[.pointer none, .pointer none, .pointer none, .string ({ data := #[] })]) := ⟨⟨Try.t63, by kernel_rfl, rfl, rfl, rfl⟩, Try.underlying63⟩
instance lay63 : Lay Try.prog 63 [(0, 1), (1, 1), (2, 1), (3, 1)] := ⟨_, Try.underlying63, by kernel_rfl⟩
instance fld63_0 : Fld Try.prog 63 0 0 := ⟨_, _, Try.t17, Try.underlying63, rfl, rfl, by kernel_rfl, rfl⟩
instance fld63_1 : Fld Try.prog 63 1 1 := ⟨_, _, Try.t17, Try.underlying63, rfl, rfl, by kernel_rfl, rfl⟩
instance fld63_2 : Fld Try.prog 63 2 2 := ⟨_, _, Try.t17, Try.underlying63, rfl, rfl, by kernel_rfl, rfl⟩
instance fld63_3 : Fld Try.prog 63 3 3 := ⟨_, _, Try.t9, Try.underlying63, rfl, rfl, by kernel_rfl, rfl⟩
instance ty67 : Ty Try.prog 67 (.int .u32) 1 4 (.int .u32 0) := ⟨⟨Try.t67, by kernel_rfl, rfl, rfl, rfl⟩, Try.underlying67⟩
instance ty68 : Ty Try.prog 68 (.int .u8) 1 1 (.int .u8 0) := ⟨⟨Try.t68, by kernel_rfl, rfl, rfl, rfl⟩, Try.underlying68⟩
instance ty69 : Ty Try.prog 69 (.int .u8) 1 1 (.int .u8 0) := ⟨⟨Try.t69, by kernel_rfl, rfl, rfl, rfl⟩, Try.underlying69⟩
instance ty71 : Ty Try.prog 71 (.pointer 5) 1 8 (.pointer none) := ⟨⟨Try.t71, by kernel_rfl, rfl, rfl, rfl⟩, Try.underlying71⟩
instance ty72 : Ty Try.prog 72 (.int .i32) 1 4 (.int .i32 0) := ⟨⟨Try.t72, by kernel_rfl, rfl, rfl, rfl⟩, Try.underlying72⟩
instance ty73 : Ty Try.prog 73 (.int .i32) 1 4 (.int .i32 0) := ⟨⟨Try.t73, by kernel_rfl, rfl, rfl, rfl⟩, Try.underlying73⟩
instance ty74 : Ty Try.prog 74 (.struct #[{ name := "Size_", type := 12, offset := 0, embedded := false, tag := "", pkgPath := "", byteOffset := 0 }, { name := "PtrBytes", type := 12, offset := 1, embedded := false, tag := "", pkgPath := "", byteOffset := 8 }, { name := "Hash", type := 67, offset := 2, embedded := false, tag := "", pkgPath := "", byteOffset := 16 }, { name := "TFlag", type := 68, offset := 3, embedded := false, tag := "", pkgPath := "", byteOffset := 20 }, { name := "Align_", type := 5, offset := 4, embedded := false, tag := "", pkgPath := "", byteOffset := 21 }, { name := "FieldAlign_", type := 5, offset := 5, embedded := false, tag := "", pkgPath := "", byteOffset := 22 }, { name := "Kind_", type := 69, offset := 6, embedded := false, tag := "", pkgPath := "", byteOffset := 23 }, { name := "Equal", type := 70, offset := 7, embedded := false, tag := "", pkgPath := "", byteOffset := 24 }, { name := "GCData", type := 71, offset := 8, embedded := false, tag := "", pkgPath := "", byteOffset := 32 }, { name := "Str", type := 72, offset := 9, embedded := false, tag := "", pkgPath := "", byteOffset := 40 }, { name := "PtrToThis", type := 73, offset := 10, embedded := false, tag := "", pkgPath := "", byteOffset := 44 }]) 11 48 (.agg #[.int .u64 0, .int .u64 0, .int .u32 0, .int .u8 0, .int .u8 0, .int .u8 0, .int .u8 0, .nilFunc, .pointer none, .int .i32 0, .int .i32 0]) := ⟨⟨Try.t74, by kernel_rfl, rfl, rfl, rfl⟩, Try.underlying74⟩
instance lay74 : Lay Try.prog 74 [(0, 1), (1, 1), (2, 1), (3, 1), (4, 1), (5, 1), (6, 1), (7, 1), (8, 1), (9, 1), (10, 1)] := ⟨_, Try.underlying74, by kernel_rfl⟩
instance fld74_0 : Fld Try.prog 74 0 0 := ⟨_, _, Try.t12, Try.underlying74, rfl, rfl, by kernel_rfl, rfl⟩
instance fld74_1 : Fld Try.prog 74 1 1 := ⟨_, _, Try.t12, Try.underlying74, rfl, rfl, by kernel_rfl, rfl⟩
instance fld74_2 : Fld Try.prog 74 2 2 := ⟨_, _, Try.t67, Try.underlying74, rfl, rfl, by kernel_rfl, rfl⟩
instance fld74_3 : Fld Try.prog 74 3 3 := ⟨_, _, Try.t68, Try.underlying74, rfl, rfl, by kernel_rfl, rfl⟩
instance fld74_4 : Fld Try.prog 74 4 4 := ⟨_, _, Try.t5, Try.underlying74, rfl, rfl, by kernel_rfl, rfl⟩
instance fld74_5 : Fld Try.prog 74 5 5 := ⟨_, _, Try.t5, Try.underlying74, rfl, rfl, by kernel_rfl, rfl⟩
instance fld74_6 : Fld Try.prog 74 6 6 := ⟨_, _, Try.t69, Try.underlying74, rfl, rfl, by kernel_rfl, rfl⟩
instance fld74_7 : Fld Try.prog 74 7 7 := ⟨_, _, Try.t70, Try.underlying74, rfl, rfl, by kernel_rfl, rfl⟩
instance fld74_8 : Fld Try.prog 74 8 8 := ⟨_, _, Try.t71, Try.underlying74, rfl, rfl, by kernel_rfl, rfl⟩
instance fld74_9 : Fld Try.prog 74 9 9 := ⟨_, _, Try.t72, Try.underlying74, rfl, rfl, by kernel_rfl, rfl⟩
instance fld74_10 : Fld Try.prog 74 10 10 := ⟨_, _, Try.t73, Try.underlying74, rfl, rfl, by kernel_rfl, rfl⟩
instance ty75 : Ty Try.prog 75 (.struct #[{ name := "Size_", type := 12, offset := 0, embedded := false, tag := "", pkgPath := "", byteOffset := 0 }, { name := "PtrBytes", type := 12, offset := 1, embedded := false, tag := "", pkgPath := "", byteOffset := 8 }, { name := "Hash", type := 67, offset := 2, embedded := false, tag := "", pkgPath := "", byteOffset := 16 }, { name := "TFlag", type := 68, offset := 3, embedded := false, tag := "", pkgPath := "", byteOffset := 20 }, { name := "Align_", type := 5, offset := 4, embedded := false, tag := "", pkgPath := "", byteOffset := 21 }, { name := "FieldAlign_", type := 5, offset := 5, embedded := false, tag := "", pkgPath := "", byteOffset := 22 }, { name := "Kind_", type := 69, offset := 6, embedded := false, tag := "", pkgPath := "", byteOffset := 23 }, { name := "Equal", type := 70, offset := 7, embedded := false, tag := "", pkgPath := "", byteOffset := 24 }, { name := "GCData", type := 71, offset := 8, embedded := false, tag := "", pkgPath := "", byteOffset := 32 }, { name := "Str", type := 72, offset := 9, embedded := false, tag := "", pkgPath := "", byteOffset := 40 }, { name := "PtrToThis", type := 73, offset := 10, embedded := false, tag := "", pkgPath := "", byteOffset := 44 }]) 11 48 (.agg #[.int .u64 0, .int .u64 0, .int .u32 0, .int .u8 0, .int .u8 0, .int .u8 0, .int .u8 0, .nilFunc, .pointer none, .int .i32 0, .int .i32 0]) := ⟨⟨Try.t75, by kernel_rfl, rfl, rfl, rfl⟩, Try.underlying75⟩
instance lay75 : Lay Try.prog 75 [(0, 1), (1, 1), (2, 1), (3, 1), (4, 1), (5, 1), (6, 1), (7, 1), (8, 1), (9, 1), (10, 1)] := ⟨_, Try.underlying75, by kernel_rfl⟩
instance fld75_0 : Fld Try.prog 75 0 0 := ⟨_, _, Try.t12, Try.underlying75, rfl, rfl, by kernel_rfl, rfl⟩
instance fld75_1 : Fld Try.prog 75 1 1 := ⟨_, _, Try.t12, Try.underlying75, rfl, rfl, by kernel_rfl, rfl⟩
instance fld75_2 : Fld Try.prog 75 2 2 := ⟨_, _, Try.t67, Try.underlying75, rfl, rfl, by kernel_rfl, rfl⟩
instance fld75_3 : Fld Try.prog 75 3 3 := ⟨_, _, Try.t68, Try.underlying75, rfl, rfl, by kernel_rfl, rfl⟩
instance fld75_4 : Fld Try.prog 75 4 4 := ⟨_, _, Try.t5, Try.underlying75, rfl, rfl, by kernel_rfl, rfl⟩
instance fld75_5 : Fld Try.prog 75 5 5 := ⟨_, _, Try.t5, Try.underlying75, rfl, rfl, by kernel_rfl, rfl⟩
instance fld75_6 : Fld Try.prog 75 6 6 := ⟨_, _, Try.t69, Try.underlying75, rfl, rfl, by kernel_rfl, rfl⟩
instance fld75_7 : Fld Try.prog 75 7 7 := ⟨_, _, Try.t70, Try.underlying75, rfl, rfl, by kernel_rfl, rfl⟩
instance fld75_8 : Fld Try.prog 75 8 8 := ⟨_, _, Try.t71, Try.underlying75, rfl, rfl, by kernel_rfl, rfl⟩
instance fld75_9 : Fld Try.prog 75 9 9 := ⟨_, _, Try.t72, Try.underlying75, rfl, rfl, by kernel_rfl, rfl⟩
instance fld75_10 : Fld Try.prog 75 10 10 := ⟨_, _, Try.t73, Try.underlying75, rfl, rfl, by kernel_rfl, rfl⟩
instance fn2 : FnOk Try.prog 2 := ⟨Try.f2, Try.func2, by decide +kernel, rfl⟩
instance fn3 : FnOk Try.prog 3 := ⟨Try.f3, Try.func3, by decide +kernel, rfl⟩
instance fn4 : FnOk Try.prog 4 := ⟨Try.f4, Try.func4, by decide +kernel, rfl⟩
instance fn5 : FnOk Try.prog 5 := ⟨Try.f5, Try.func5, by decide +kernel, rfl⟩
instance fn6 : FnOk Try.prog 6 := ⟨Try.f6, Try.func6, by decide +kernel, rfl⟩
instance fn7 : FnOk Try.prog 7 := ⟨Try.f7, Try.func7, by decide +kernel, rfl⟩
instance fn8 : FnOk Try.prog 8 := ⟨Try.f8, Try.func8, by decide +kernel, rfl⟩
instance fn9 : FnOk Try.prog 9 := ⟨Try.f9, Try.func9, by decide +kernel, rfl⟩
instance fn10 : FnOk Try.prog 10 := ⟨Try.f10, Try.func10, by decide +kernel, rfl⟩
instance fn11 : FnOk Try.prog 11 := ⟨Try.f11, Try.func11, by decide +kernel, rfl⟩
instance fn12 : FnOk Try.prog 12 := ⟨Try.f12, Try.func12, by decide +kernel, rfl⟩
instance fn13 : FnOk Try.prog 13 := ⟨Try.f13, Try.func13, by decide +kernel, rfl⟩
instance fn14 : FnOk Try.prog 14 := ⟨Try.f14, Try.func14, by decide +kernel, rfl⟩
instance fn15 : FnOk Try.prog 15 := ⟨Try.f15, Try.func15, by decide +kernel, rfl⟩
instance fn16 : FnOk Try.prog 16 := ⟨Try.f16, Try.func16, by decide +kernel, rfl⟩
instance fn17 : FnOk Try.prog 17 := ⟨Try.f17, Try.func17, by decide +kernel, rfl⟩
instance fn18 : FnOk Try.prog 18 := ⟨Try.f18, Try.func18, by decide +kernel, rfl⟩
instance fn19 : FnOk Try.prog 19 := ⟨Try.f19, Try.func19, by decide +kernel, rfl⟩
instance fn20 : FnOk Try.prog 20 := ⟨Try.f20, Try.func20, by decide +kernel, rfl⟩
instance fn21 : FnOk Try.prog 21 := ⟨Try.f21, Try.func21, by decide +kernel, rfl⟩
instance fn22 : FnOk Try.prog 22 := ⟨Try.f22, Try.func22, by decide +kernel, rfl⟩
instance fn23 : FnOk Try.prog 23 := ⟨Try.f23, Try.func23, by decide +kernel, rfl⟩
instance fn24 : FnOk Try.prog 24 := ⟨Try.f24, Try.func24, by decide +kernel, rfl⟩
instance fn25 : FnOk Try.prog 25 := ⟨Try.f25, Try.func25, by decide +kernel, rfl⟩
instance fn26 : FnOk Try.prog 26 := ⟨Try.f26, Try.func26, by decide +kernel, rfl⟩
theorem Try.mixed : Try.prog.follows .mixedOrders = true := by kernel_rfl
end Go.Proofs

/- What the row says of the program, piece by piece (the whole at once asks too much memory). -/
import Derived.Test.YtlaobecajieaaaaGreatRows
import Derived.JoinedOf
namespace Go.Proofs.YtlaobecajieaaaaGreat.nodeQuiet
open Go
set_option maxRecDepth 100000
theorem and2 {a b : Bool} (h : a = true) (k : b = true) : (a && b) = true := by rw [h, k]; rfl
theorem f1 : (Rows.nodeQuietRow.inPlace == Tryz.checked.prog.inPlace 3) = true := by kernel_rfl
theorem f2 : (Rows.nodeQuietRow.unfollowed == Tryz.checked.prog.unfollowed 3) = true := by kernel_rfl
theorem f3 : (Rows.nodeQuietRow.recurses == Tryz.checked.prog.recurses 3) = true := by kernel_rfl
theorem f4 : (Rows.nodeQuietRow.named == Tryz.checked.prog.varsNamed 3) = true := by kernel_rfl
theorem f5 : laidOutB Tryz.checked.prog = true := by kernel_rfl
theorem f6 : mapsRowed Tryz.checked.prog = true := by kernel_rfl
theorem f7 : (Rows.nodeQuietRow.plainKeys == Tryz.checked.prog.plainKeys) = true := by kernel_rfl
theorem f8 : Tryz.checked.prog.stopsHeard = true := by kernel_rfl
theorem f9 : Tryz.checked.prog.mayEnter = true := by kernel_rfl
theorem f10 : (Rows.nodeQuietRow.lifted == Tryz.checked.prog.liftsFinal) = true := by kernel_rfl
theorem facts : joinedFacts Tryz.checked.prog 3 Tryz.f3 Rows.nodeQuietSpec Rows.nodeQuietRow = true := by
  unfold joinedFacts
  repeat' (with_reducible refine and2 ?_ ?_)
  all_goals first
    | with_reducible exact f1
    | with_reducible exact f2
    | with_reducible exact f3
    | with_reducible exact f4
    | with_reducible exact f5
    | with_reducible exact f6
    | with_reducible exact f7
    | with_reducible exact f8
    | with_reducible exact f9
    | with_reducible exact f10
    | kernel_rfl
theorem named : Tryz.checked.prog.funcNamed Rows.nodeQuietRow.func = some 3 := by kernel_rfl
end Go.Proofs.YtlaobecajieaaaaGreat.nodeQuiet

/- Steps, opened out of the arguments of a law. -/
import Derived.Test.YtdbmhcchgbpccaaLinkS
import Derived.Test.YtdbmhcchgbpccaaEvLaw
namespace Go.Proofs.Ytdbmhcchgbpccaa
open Go Ev Go.ChangeShapes Go.WideShapes Go.ChangeAt Go.RowKit
set_option linter.unusedVariables false
theorem open_step {H : Type} {enc : TypeId × Value → H} {W : World} {sp : Nat → Bool} {n : Nat} {cs : List Value} {y : DataW H × List MemPlace} (hl : cs.length = 3) (h : DataW.trod enc Try.prog W 0 sp true n 40 cs = some y) : ∃ k : Sp, SRow (fun _ => True) W.heap k cs := by
  obtain ⟨xs, m, _, _, _, hlen, hf⟩ := DataW.trod_struct Try.underlying40 h
  have hc3 : Try.prog.cellsOf 3 = 1 := by kernel_rfl
  have hc27 : Try.prog.cellsOf 27 = 1 := by kernel_rfl
  match cs, hl with
  | [c0, c1, c2], _ =>
    match xs, hlen with
    | [y0, y1, y2], _ =>
      have gi : ∀ (c : Value) (z : DataW H × List MemPlace), DataW.trod enc Try.prog W 0 sp true m 3 [c] = some z → ∃ k, c = .int .i64 k := fun c z hz => by
        obtain ⟨k, e, _⟩ := DataW.trod_int Try.underlying3 hz
        exact ⟨k, by simpa using e⟩
      obtain ⟨k0, rfl⟩ := gi c0 y0 (by have := hf 0 _ rfl; simpa [hc3] using this)
      obtain ⟨k1, rfl⟩ := gi c1 y1 (by have := hf 1 _ rfl; simpa [hc3] using this)
      have h2 : DataW.trod enc Try.prog W 0 sp true m 27 [c2] = some y2 := by have := hf 2 _ rfl; simpa [hc27] using this
      obtain ⟨l, hb⟩ := open_bytes (e := 5) h2
      exact ⟨⟨k0, k1, l⟩, c2, rfl, hb⟩
end Go.Proofs.Ytdbmhcchgbpccaa

/- Acts, opened out of the arguments of a law. -/
import Derived.Test.YtjgbbegfenmhaaaNetJ
import Derived.Test.YtjgbbegfenmhaaaNetQ
namespace Go.Proofs.Ytjgbbegfenmhaaa
open Go Ev Go.ChangeShapes Go.WideShapes Go.ChangeAt Go.RowKit
set_option linter.unusedVariables false
theorem open_act {H : Type} {enc : TypeId × Value → H} {W : World} {sp : Nat → Bool} {n : Nat} {cs : List Value} {y : DataW H × List MemPlace} (hl : cs.length = 10) (h : DataW.trod enc Try.prog W 0 sp true n 49 cs = some y) : ∃ k : Ac, ARow (fun _ => True) W.heap k cs := by
  obtain ⟨xs, m, _, _, _, hlen, hf⟩ := DataW.trod_struct Try.underlying49 h
  have hc3 : Try.prog.cellsOf 3 = 1 := by kernel_rfl
  have hc30 : Try.prog.cellsOf 30 = 7 := by kernel_rfl
  match cs, hl with
  | [c0, c1, c2, c3, c4, c5, c6, c7, c8, c9], _ =>
    match xs, hlen with
    | [y0, y1, y2, y3], _ =>
      have gi : ∀ (c : Value) (z : DataW H × List MemPlace), DataW.trod enc Try.prog W 0 sp true m 3 [c] = some z → ∃ k, c = .int .i64 k := fun c z hz => by
        obtain ⟨k, e, _⟩ := DataW.trod_int Try.underlying3 hz
        exact ⟨k, by simpa using e⟩
      obtain ⟨k0, rfl⟩ := gi c0 y0 (by have := hf 0 _ rfl; simpa [hc3] using this)
      obtain ⟨k1, rfl⟩ := gi c1 y1 (by have := hf 1 _ rfl; simpa [hc3] using this)
      obtain ⟨k2, rfl⟩ := gi c2 y2 (by have := hf 2 _ rfl; simpa [hc3] using this)
      have h3 : DataW.trod enc Try.prog W 0 sp true m 30 [c3, c4, c5, c6, c7, c8, c9] = some y3 := by have := hf 3 _ rfl; simpa [hc30] using this
      obtain ⟨f, bv, e, hb⟩ := open_frame rfl h3
      exact ⟨⟨k0, k1, k2, f⟩, bv, by rw [e]; rfl, hb⟩
end Go.Proofs.Ytjgbbegfenmhaaa

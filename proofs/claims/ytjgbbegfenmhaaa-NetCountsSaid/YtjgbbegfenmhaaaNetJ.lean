/- Frames, opened out of the arguments of a law. -/
import Derived.Test.YtjgbbegfenmhaaaNetA
import Derived.Test.YtjgbbegfenmhaaaEvLaw
namespace Go.Proofs.Ytjgbbegfenmhaaa
open Go Ev Go.ChangeShapes Go.WideShapes Go.ChangeAt Go.RowKit
set_option linter.unusedVariables false
theorem open_frame {H : Type} {enc : TypeId × Value → H} {W : World} {sp : Nat → Bool} {n : Nat} {cs : List Value} {y : DataW H × List MemPlace} (hl : cs.length = 7) (h : DataW.trod enc Try.prog W 0 sp true n 30 cs = some y) : ∃ f : Fr, FRow (fun _ => True) W.heap f cs := by
  obtain ⟨xs, m, _, _, _, hlen, hf⟩ := DataW.trod_struct Try.underlying30 h
  have hc3 : Try.prog.cellsOf 3 = 1 := by kernel_rfl
  have hc28 : Try.prog.cellsOf 28 = 1 := by kernel_rfl
  match cs, hl with
  | [c0, c1, c2, c3, c4, c5, c6], _ =>
    match xs, hlen with
    | [y0, y1, y2, y3, y4, y5, y6], _ =>
      have gi : ∀ (c : Value) (z : DataW H × List MemPlace), DataW.trod enc Try.prog W 0 sp true m 3 [c] = some z → ∃ k, c = .int .i64 k := fun c z hz => by
        obtain ⟨k, e, _⟩ := DataW.trod_int Try.underlying3 hz
        exact ⟨k, by simpa using e⟩
      obtain ⟨k0, rfl⟩ := gi c0 y0 (by have := hf 0 _ rfl; simpa [hc3] using this)
      obtain ⟨k1, rfl⟩ := gi c1 y1 (by have := hf 1 _ rfl; simpa [hc3] using this)
      obtain ⟨k2, rfl⟩ := gi c2 y2 (by have := hf 2 _ rfl; simpa [hc3] using this)
      obtain ⟨k3, rfl⟩ := gi c3 y3 (by have := hf 3 _ rfl; simpa [hc3] using this)
      obtain ⟨k4, rfl⟩ := gi c4 y4 (by have := hf 4 _ rfl; simpa [hc3] using this)
      obtain ⟨k5, rfl⟩ := gi c5 y5 (by have := hf 5 _ rfl; simpa [hc3] using this)
      have h6 : DataW.trod enc Try.prog W 0 sp true m 28 [c6] = some y6 := by have := hf 6 _ rfl; simpa [hc28] using this
      obtain ⟨l, hb⟩ := open_bytes (e := 5) h6
      exact ⟨⟨k0, k1, k2, k3, k4, k5, l⟩, c6, rfl, hb⟩
end Go.Proofs.Ytjgbbegfenmhaaa

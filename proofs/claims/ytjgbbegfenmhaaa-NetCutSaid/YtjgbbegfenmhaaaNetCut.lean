/- NetCut: for every two numbers and every list of frames the law returns true, and its arguments read as they did. No condition. -/
import Derived.Test.YtjgbbegfenmhaaaRows
import Derived.Test.YtjgbbegfenmhaaaNetF
import Derived.Test.YtjgbbegfenmhaaaEvLaw
namespace Go.Proofs.Ytjgbbegfenmhaaa.netCut
open Go Ev Go.ChangeShapes Go.WideShapes Go.ChangeAt Go.RowKit
set_option linter.unusedVariables false
theorem own : ownKnob Try.prog.godebug = none := by kernel_rfl
theorem laid : laidOutB Try.prog = true := by kernel_rfl
theorem open_frame {H : Type} {enc : TypeId × Value → H} {W : World} {sp : Nat → Bool} {n : Nat} {cs : List Value} {y : DataW H × List MemPlace} (hl : cs.length = 7) (h : DataW.trod enc Try.prog W 0 sp true n 30 cs = some y) : ∃ f : Fr, FRow (fun _ => True) W.heap f cs := by
  obtain ⟨xs, m, _, _, _, hlen, hf⟩ := DataW.trod_struct Try.underlying30 h
  have hc3 : Try.prog.cellsOf 3 = 1 := by kernel_rfl
  have hc28 : Try.prog.cellsOf 28 = 1 := by kernel_rfl
  match cs, hl with
  | [c0, c1, c2, c3, c4, c5, c6], _ =>
    match xs, hlen with
    | [y0, y1, y2, y3, y4, y5, y6], _ =>
      have gi : ∀ (c : Value) (z : DataW H × List MemPlace), DataW.trod enc Try.prog W 0 sp true m 3 [c] = some z → ∃ k, c = .int .i64 k := fun c z hz => by
        obtain ⟨k, e, _⟩ := DataW.trod_int Try.underlying3 hz
        exact ⟨k, by simpa using e⟩
      obtain ⟨k0, rfl⟩ := gi c0 y0 (by have := hf 0 _ rfl; simpa [hc3] using this)
      obtain ⟨k1, rfl⟩ := gi c1 y1 (by have := hf 1 _ rfl; simpa [hc3] using this)
      obtain ⟨k2, rfl⟩ := gi c2 y2 (by have := hf 2 _ rfl; simpa [hc3] using this)
      obtain ⟨k3, rfl⟩ := gi c3 y3 (by have := hf 3 _ rfl; simpa [hc3] using this)
      obtain ⟨k4, rfl⟩ := gi c4 y4 (by have := hf 4 _ rfl; simpa [hc3] using this)
      obtain ⟨k5, rfl⟩ := gi c5 y5 (by have := hf 5 _ rfl; simpa [hc3] using this)
      have h6 : DataW.trod enc Try.prog W 0 sp true m 28 [c6] = some y6 := by have := hf 6 _ rfl; simpa [hc28] using this
      obtain ⟨l, hb⟩ := open_bytes (e := 5) h6
      exact ⟨⟨k0, k1, k2, k3, k4, k5, l⟩, c6, rfl, hb⟩
theorem contract (H : Type) (enc : TypeId × Value → H) (W : World) (base : Nat) (args : Array Value) (ds gs : List (DataW H)) (before : List MemPlace)
    (hval : ∀ (j : Nat) t v, Try.f3.params[j]? = some t → args[j]? = some v → Value.okWide Try.prog W .any base t v)
    (hW : DataW.Whole enc Try.prog Try.f3.params.toList Rows.netCutSpec.vars false W args.toList ds gs before) :
    Calls Try.prog 3 args W fun e W' => ∃ v, e = .returned v ∧ Rows.netCutSpec.post enc Try.prog Try.f3 false true false false W args v W' := by
  have hW' := hW
  obtain ⟨p, q, hA0, hV, rfl, hfz, hnd⟩ := hW
  have hA : DataW.TrodAll enc Try.prog W 0 (fun _ => true) true Try.f3.params.toList args.toList ds p := hA0
  rw [Try.params3] at hA hval
  obtain ⟨v0, vs0, d0, ds0, p0, q0, hargs, rfl, rfl, h0, r0⟩ := trodAll_cons hA
  obtain ⟨v1, vs1, d1, ds1, p1, q1, rfl, rfl, rfl, h1, r1⟩ := trodAll_cons r0
  obtain ⟨v2, vs2, d2, ds2, p2, q2, rfl, rfl, rfl, h2, r2⟩ := trodAll_cons r1
  obtain ⟨rfl, rfl, rfl⟩ := trodAll_nil r2
  obtain rfl : args = #[v0, v1, v2] := by cases args; simp_all
  obtain ⟨k0, rfl⟩ := okWide_int Try.underlying3 (hval 0 3 v0 rfl rfl)
  obtain ⟨k1, rfl⟩ := okWide_int Try.underlying3 (hval 1 3 v1 rfl rfl)
  obtain ⟨a0, l0, c0, rfl⟩ := okWide_slice Try.underlying22 (hval 2 22 v2 rfl rfl)
  obtain ⟨fuel, hf⟩ := h2
  haveI : Inhabited Fr := ⟨fr0⟩
  obtain ⟨fs, hfs⟩ := open_rows (P := Try.prog) (R := FRow (fun _ => True) W.heap) (t := 22) (e := 30) (by decide) (fun n cs y hl hy => open_frame hl hy) hf
  refine ((netCut_walk hfs) W rfl).mono fun e W' he => ?_
  cases e with
  | panicked c => exact he.elim
  | outgrown => exact he.elim
  | returned v =>
    obtain ⟨hl, hx, rfl⟩ := he
    refine ⟨_, rfl, law_post (tb := 4) (f := Try.f3) (s := Rows.netCutSpec) laid (by kernel_rfl) rfl Try.underlying4 rfl rfl hW' ⟨hl.os, hl.tape, hl.output, hx.size, fun k hk => hx.block k hk (fun f => f)⟩⟩
set_option maxRecDepth 100000 in
theorem lifted (os : Os) (started : os.Started) (H : Type) (enc : TypeId × Value → H) :
    ReturnsInHanded {} Try.checked os 3 .any (Rows.netCutSpec.pre6 enc Try.prog Try.f3 Rows.netCutRow.domain false) (Rows.netCutSpec.post enc Try.prog Try.f3 false true false false) := by
  refine returnsInHanded_of_change (C := Try.checked) own started (by kernel_rfl) Try.func3
    (ChangeSpec.witness6 (enc := enc) (C := Try.checked) false ⟨#[], #[.int .i64 0, .int .i64 0, .slice none 0 0], []⟩ 8 (by kernel_rfl) (by kernel_rfl) (by kernel_rfl) (by kernel_rfl)) ?_
  intro W base args ds gs before hval hW _ _
  exact contract H enc W base args ds gs before hval hW
theorem holds : Rows.NetCutSaid :=
  OpenClaim.holds_of_wide 3 Try.f3 rfl rfl rfl rfl rfl rfl rfl ⟨rfl, rfl, rfl, rfl, rfl⟩ rfl rfl rfl rfl rfl (by kernel_rfl) Try.func3 (by kernel_rfl)
    (of_decide_eq_true (by kernel_rfl)) (by unfold Func.isWrapper; first | (rw [if_pos (by decide +kernel)]; kernel_rfl) | (rw [if_neg (by decide +kernel)]; exact ⟨rfl, rfl⟩))
    (fun os started H enc _ => lifted os started H enc)
end Go.Proofs.Ytjgbbegfenmhaaa.netCut

/- 'wakes'; the walk of NetCut. -/
import Derived.Test.YtjgbbegfenmhaaaNetD
import Derived.Test.YtjgbbegfenmhaaaEvLaw
namespace Go.Proofs.Ytjgbbegfenmhaaa
open Go Ev
set_option linter.unusedVariables false
set_option linter.unusedSimpArgs false
attribute [local irreducible] Go.wpList Go.bodyPost Go.Code.wp Go.Exit.then Go.Exit.inBlock Go.Exit.noGoto Ev.wpAnyG Go.Oper.wp Ev.Back Ev.Left Ev.Spc Ev.At Ev.Pure Ev.Reads Ev.Runs Ev.Does Ev.Cell

set_option maxHeartbeats 1000000 in
theorem wakes_spec (H : Heap) : Spc Try.prog 13 #[] H fun r H' => Ext H H' ∧ r = .bool true := by
  refine spec_of Try.func13 rfl Try.ntmps13 rfl (fun W => ?_)
  repeat (first | refine codeA (k := ?_) | refine condA (k := ?_) | refine offA (k := ?_) | refine pureA (k := ?_) | refine readA (k := ?_))
  refine At_wp (W_call rfl rfl (new_spec 2 H (by decide) (by decide)) rfl rfl ?_) rfl
  rintro _ H1 ⟨b, rfl, hb, hx1, hD1⟩
  have hn := hD1 (fun i => i ≠ b) (fun i hi => hi)
  repeat (first | refine codeA (k := ?_) | refine condA (k := ?_) | refine offA (k := ?_) | refine pureA (k := ?_) | refine readA (k := ?_))
  refine At_pure (p_build (frCells ⟨0, 1, 1, 0, 0, 0, []⟩ (.slice none 0 0)) rfl rfl) rfl rfl rfl ?_
  refine At_wp (W_call rfl rfl (put_spec (f := ⟨0, 1, 1, 0, 0, 0, []⟩) hn (BytesAt.nil (fun _ => True) _) (by decide) (by decide)) rfl rfl ?_) rfl
  rintro _ H2 ⟨rfl, hk2, vr2, hn2, _⟩
  have e1 : putE ⟨2, [], fun _ _ => false⟩ ⟨0, 1, 1, 0, 0, 0, []⟩ = 0 := rfl
  rw [e1]
  repeat (first | refine codeA (k := ?_) | refine condA (k := ?_) | refine offA (k := ?_) | refine pureA (k := ?_) | refine readA (k := ?_))
  refine At_wp (W_call rfl rfl (list_spec hn2 (by decide) (by decide)) rfl rfl ?_) rfl
  rintro v H3 ⟨hx3, ho3, _⟩
  obtain ⟨q, c, rfl⟩ : ∃ q c, v = .slice q 1 c := by
    rcases ho3.form with ⟨e, h⟩ | ⟨g, c, e, _⟩
    · cases h
    · exact ⟨_, c, e⟩
  repeat (first | refine codeA (k := ?_) | refine condA (k := ?_) | refine offA (k := ?_) | refine pureA (k := ?_) | refine readA (k := ?_))
  have s1 := hx1.size
  have s2 := hk2.size
  refine At_ret1 rfl rfl ⟨Kept.then_ext (Kept.trans hx1 hk2 (fun _ f _ => f) (fun i e hl => ?_)) hx3, rfl⟩
  rcases e with e | e
  · omega
  · cases e
end Go.Proofs.Ytjgbbegfenmhaaa

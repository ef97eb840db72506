/- A network beside a list of frames that are wanted. -/
import Derived.Test.YtjgbbegfenmhaaaNetG
import Derived.Test.YtjgbbegfenmhaaaNetF
namespace Go.Proofs.Ytjgbbegfenmhaaa
open Go Ev
set_option linter.unusedVariables false
set_option linter.unusedSimpArgs false

section
variable {P : Program} {n : Nat} {env : Env} {ds : Option Tmp} {ty : TypeId} {pos : String} {af : Array Edge} {gd : Option (Nat × Bool)}
theorem p_convInt {x : Operand} {src dst : TypeId} {ks kd k : IntKind} {s1 s2 s3 s4 : Nat} {z1 z2 : Value} {a : Int} [h1 : Ty P src (.int ks) s1 s2 z1] [h2 : Ty P dst (.int kd) s3 s4 z2] (hx : ev env x = some (.int k a)) :
    Pure P n env ⟨ds, .convert src dst x, ty, pos, af, gd⟩ (.int kd (kd.wrap a)) := fun a' w f => by
  have hk : P.intKind dst = kd := by simp [Program.intKind, h2.und]
  have := run_convert_int (P := P) (w := w) src dst k a (by rw [h1.und]; rfl) (by rw [hk]; exact h2.und)
  rw [hk] at this
  simp [execOp, f.ev hx, this]
theorem u64_nonneg (a : Int) : 0 ≤ IntKind.u64.wrap a := by
  simp [IntKind.wrap, IntKind.bits, IntKind.signed]; omega
end

structure NW (H : Heap) (p : Nat) (vr vw : Value) (n : Int) (rs ws : List Fr) (H' : Heap) : Prop where
  net : NetD (fun i => H.size ≤ i ∧ i ≠ p ∧ vr.ownBlock ≠ some i ∧ vw.ownBlock ≠ some i) H' p vr ⟨n, rs, fun _ _ => false⟩
  want : OwnL H' 30 7 (FRow (fun b => b < H.size) H') vw ws
  ext : Ext H H'
  hp : H.size ≤ p
  ovr : ∀ g, vr.ownBlock = some g → H.size ≤ g
  ovw : ∀ g, vw.ownBlock = some g → H.size ≤ g ∧ g ≠ p ∧ vr.ownBlock ≠ some g
section
variable {H H1 H2 : Heap} {p : Nat} {vr vw vr' vw' : Value} {n : Int} {rs rs' ws ws' : List Fr}
/-- the network has moved on -/
theorem NW.step (h : NW H p vr vw n rs ws H1) (hk : Kept (Fn p vr) H1 H2) {D : Nat → Prop} (hn : NetD D H2 p vr' ⟨n, rs', fun _ _ => false⟩) (hD : ∀ b, D b → (b < H1.size ∧ H.size ≤ b ∧ vw.ownBlock ≠ some b) ∨ H1.size ≤ b)
    (hv : ∀ g, vr'.ownBlock = some g → vr.ownBlock = some g ∨ H1.size ≤ g) : NW H p vr' vw n rs' ws H2 := by
  have hs := h.ext.size
  have wlt : ∀ g, vw.ownBlock = some g → g < H1.size := fun g hg => own_lt h.want hg
  refine ⟨hn.to (fun b hb _ => ?_) (fun b hb => ⟨hb.2.1, hb.2.2.1⟩), h.want.keep hk (fun g hg e => ?_) (fun x row _ hr => hr.keep hk (fun b hb hl => ⟨fun e => ?_, hb⟩)), Kept.trans h.ext hk (fun _ f _ => f) (fun i e hl => ?_), h.hp, fun g hg => ?_, fun g hg => ?_⟩
  · obtain ⟨d1, d2⟩ := hn.dis b hb
    rcases hD b hb with ⟨e1, e2, e3⟩ | e1
    · exact ⟨e2, d1, d2, e3⟩
    · exact ⟨by omega, d1, d2, fun e => by have := wlt b e; omega⟩
  · obtain ⟨o1, o2, o3⟩ := h.ovw g hg
    rcases e with e | e
    · exact o2 e
    · exact o3 e
  · rcases e with e | e
    · have := h.hp; omega
    · have := h.ovr b e; omega
  · rcases e with e | e
    · have := h.hp; omega
    · have := h.ovr i e; omega
  · rcases hv g hg with e | e
    · exact h.ovr g e
    · omega
  · obtain ⟨o1, o2, o3⟩ := h.ovw g hg
    refine ⟨o1, o2, fun e => ?_⟩
    rcases hv g e with e | e
    · exact o3 e
    · have := wlt g hg; omega
/-- the list has moved on -/
theorem NW.wants (h : NW H p vr vw n rs ws H1) (hk : Kept (fun b => vw.ownBlock = some b) H1 H2) (hw : OwnL H2 30 7 (FRow (fun b => b < H.size) H2) vw' ws') (hv : ∀ g, vw'.ownBlock = some g → vw.ownBlock = some g ∨ H1.size ≤ g) : NW H p vr vw' n rs ws' H2 := by
  have hs := h.ext.size
  have rlt : ∀ g, vr.ownBlock = some g → g < H1.size := fun g hg => own_lt h.net.own hg
  have plt := h.net.lt
  refine ⟨h.net.lim.keep hk (fun e => (h.ovw p e).2.1 rfl) (fun g hg e => (h.ovw g e).2.2 hg) (fun b hb _ => ⟨hb.1.2.2.2, hb.1.1, hb.1.2.1, hb.1.2.2.1, fun e => ?_⟩) (fun b hb => ⟨hb.2.1, hb.2.2.1⟩), hw, Kept.trans h.ext hk (fun _ f _ => f) (fun i e hl => ?_), h.hp, h.ovr, fun g hg => ?_⟩
  · rcases hv b e with e | e
    · exact hb.1.2.2.2 e
    · have := hb.2; omega
  · have := (h.ovw i e).1; omega
  · rcases hv g hg with e | e
    · exact h.ovw g e
    · exact ⟨by omega, by omega, fun e2 => by have := rlt g e2; omega⟩
theorem NW.on (h : NW H p vr vw n rs ws H1) (hk : Ext H1 H2) : NW H p vr vw n rs ws H2 :=
  ⟨h.net.ext hk, h.want.keep hk (fun _ _ f => f) (fun x row _ hr => hr.keep hk (fun b hb _ => ⟨fun f => f, hb⟩)), h.ext.trans hk, h.hp, h.ovr, h.ovw⟩
end
theorem own_of_NW {H H1 : Heap} {p : Nat} {vr vw : Value} {n : Int} {rs ws : List Fr} (h : NW H p vr vw n rs ws H1) : ∃ q c, vw = .slice q ws.length c := by
  rcases h.want.form with ⟨e1, e2⟩ | ⟨g, c, e1, _⟩
  · exact ⟨none, 0, by rw [e1, e2]; rfl⟩
  · exact ⟨_, c, e1⟩
end Go.Proofs.Ytjgbbegfenmhaaa

/- A place held: the reservation, and the copy's record. -/
import Derived.Test.YtlaobecajieaaaaGreatG16
namespace Go.Proofs.YtlaobecajieaaaaGreat
open Go Ev
set_option linter.unusedVariables false
set_option linter.unusedSimpArgs false
theorem copC_one {sv : Value} (h : sv.oneCell' = true) (st since tok at_ : Int) : (copC sv st since tok at_).all (·.oneCell') = true := by
  simp only [copC, List.all_cons, List.all_nil, h]; rfl
theorem look1 {L : Bks} {b0 : Nat} {xs0 : List Value} (h : Look L b0 xs0) : ∀ b xs, Look [(b0, xs0)] b xs → Look L b xs := fun b xs hx => by
  cases hx with
  | here => exact h
  | there hx => cases hx
theorem drawS {P : Program} {n : Nat} {W : World} {env : Env} {H0 : Heap} {R L : Bks} {Q : Exit → Act → World → Prop} {id b0 : Nat} {xs0 : List Value} {l : List Oper} (needy : List Nat) (hl : Look L b0 xs0) (hm : P.follows .mixedOrders = true) (h : Am n W env H0 R L (wpAnyG P .any l.toArray Q needy (Kn R [(b0, xs0)]) l.length (Array.replicate l.length false))) : Am n W env H0 R L ((Code.region id l.toArray true).wp P Q) :=
  fun H hH => At_draw needy (Kn R [(b0, xs0)]) hm (h H hH)
attribute [local irreducible] Go.wpList Go.bodyPost Go.Code.wp Go.Exit.then Go.Exit.inBlock Go.Exit.noGoto Ev.wpAnyG Go.Oper.wp Ev.Back Ev.Left Ev.Spc Ev.At Ev.Pure Ev.Reads Ev.Runs Ev.Does Ev.Cell Ev.Am Ev.Has Ev.Kn Go.Code.rounds

set_option maxHeartbeats 2000000 in
theorem radd_spec (H : Heap) {f t n u : Int} (h0 : 0 ≤ f) (h : f < t) (ht : t < 1099511627776) : Spc Tryz.prog 279 #[amt 2, nil0, nil0, .agg (resvC f t n u).toArray] H fun r H' => ∃ g c, r = .tuple #[.slice (some ⟨g, 0, none⟩) 1 c, .int .i64 0] ∧ H.size ≤ g ∧ 1 ≤ c ∧ Mem H [] [(g, resvC f t n u)] H' := by
  refine spec_of Tryz.func279 rfl Tryz.ntmps279 rfl (fun W => ?_)
  refine Am.new ?_
  repeat (first | refine codeM (k := ?_) | refine condM (k := ?_) | refine offM (k := ?_) | refine offMn (k := ?_) | refine pureM (k := ?_) | refine loadM (k := ?_) | refine loadB (k := ?_) | refine storeM (k := ?_) | refine storeB (k := ?_))
  refine boxM rfl rfl rfl rfl (fun y hy => ?_)
  repeat (first | refine codeM (k := ?_) | refine condM (k := ?_) | refine offM (k := ?_) | refine offMn (k := ?_) | refine pureM (k := ?_) | refine loadM (k := ?_) | refine loadB (k := ?_) | refine storeM (k := ?_) | refine storeB (k := ?_))
  refine callM rfl rfl rfl rfl rfl (fun Hc hm => right_spec 1 Hc) ?_
  rintro Hc _ H1 hm ⟨rfl, rfl⟩
  refine Am.on hm ?_
  repeat (first | refine codeM (k := ?_) | refine condM (k := ?_) | refine offM (k := ?_) | refine offMn (k := ?_) | refine pureM (k := ?_) | refine loadM (k := ?_) | refine loadB (k := ?_) | refine storeM (k := ?_) | refine storeB (k := ?_))
  refine loadN [.int .i64 1, .int .i64 1] rfl (.l .here) rfl rfl rfl rfl rfl ?_
  repeat (first | refine codeM (k := ?_) | refine condM (k := ?_) | refine offM (k := ?_) | refine offMn (k := ?_) | refine pureM (k := ?_) | refine loadM (k := ?_) | refine loadB (k := ?_) | refine storeM (k := ?_) | refine storeB (k := ?_))
  refine callM rfl rfl rfl rfl rfl (fun Hc hm => find0 Hc 1 1 n) ?_
  rintro Hc _ H1 hm ⟨x1, rfl⟩
  refine Am.on (hm.ext x1) ?_
  repeat (first | refine codeM (k := ?_) | refine condM (k := ?_) | refine offM (k := ?_) | refine offMn (k := ?_) | refine pureM (k := ?_) | refine loadM (k := ?_) | refine loadB (k := ?_) | refine storeM (k := ?_) | refine storeB (k := ?_))
  refine drawM [4] Tryz.mixed ?_
  first | refine dpM 0 (k := ?_) | refine doffM 0 (k := ?_) | refine dldM 0 rfl (k := ?_) | refine doffNM 0 (k := ?_) | refine dldB 0 rfl (k := ?_)
  first | refine dpM 1 (k := ?_) | refine doffM 1 (k := ?_) | refine dldM 1 rfl (k := ?_) | refine doffNM 1 (k := ?_) | refine dldB 1 rfl (k := ?_)
  first | refine dpM 3 (k := ?_) | refine doffM 3 (k := ?_) | refine dldM 3 rfl (k := ?_) | refine doffNM 3 (k := ?_) | refine dldB 3 rfl (k := ?_)
  refine dldN 4 (busyC f t 1) rfl rfl (.l .here) rfl (k := ?_)
  refine dx2L 2 5 rfl rfl (by kernel_rfl) rfl rfl (fun Hx => ?_) (fun Hx => ?_)
  · refine callW rfl rfl rfl rfl (fun Hc hm => load0 Hc) ?_
    rintro Hc _ H1 hm ⟨b, rfl, hb, x1⟩
    have hb := Nat.le_trans hm.size hb
    refine Am.on (hm.ext x1) ?_
    first | refine leftA (k := ?_) | refine leftF (by kernel_rfl) ?_
    refine dxL 5 rfl (by kernel_rfl) rfl (fun Hx => ?_)
    refine bs1W rfl rfl rfl (by decide) rfl (fun g hg => ?_)
    first | refine leftA (k := ?_) | refine leftF (by kernel_rfl) ?_
    refine dxL 6 rfl (by kernel_rfl) rfl (fun Hx => ?_)
    refine bsNW [nil0, .slice (some ⟨b, 0, none⟩) 0 0, .slice (some ⟨g, 0, none⟩) 1 1] rfl (by kernel_rfl) (by decide) rfl (fun s3 hs3 => ?_)
    first | refine leftA (k := ?_) | refine leftF (by kernel_rfl) ?_
    refine dxL 7 rfl (by kernel_rfl) rfl (fun Hx => ?_)
    refine callW rfl rfl rfl rfl (fun Hc hm => concBusy (hm.has1 .here).ro (hm.has1 (.there .here)).ro rfl (by intro u hu; simp [busyC] at hu; rcases hu with rfl | rfl | rfl <;> rfl)) ?_
    rintro Hc _ H1 hm ⟨g', c', rfl, hg', x1, hh⟩
    have hg2 := Nat.le_trans hm.size hg'
    refine Am.on (hm.new x1 hg' hh) ?_
    first | refine leftA (k := ?_) | refine leftF (by kernel_rfl) ?_
    first | refine dpM 8 (k := ?_) | refine doffM 8 (k := ?_) | refine dldM 8 rfl (k := ?_) | refine doffNM 8 (k := ?_) | refine dldB 8 rfl (k := ?_)
    refine ddoneM (by kernel_rfl) ?_
    repeat (first | refine codeM (k := ?_) | refine condM (k := ?_) | refine offM (k := ?_) | refine offMn (k := ?_) | refine pureM (k := ?_) | refine loadM (k := ?_) | refine loadB (k := ?_) | refine storeM (k := ?_) | refine storeB (k := ?_))
    refine callM rfl rfl rfl rfl rfl (fun Hc hm => pnew1_spec (hm.has1 .here).ro h0 h ht) ?_
    rintro Hc _ H1 hm ⟨x1, v, rfl⟩
    refine Am.on (hm.ext x1) ?_
    repeat (first | refine codeM (k := ?_) | refine condM (k := ?_) | refine offM (k := ?_) | refine offMn (k := ?_) | refine pureM (k := ?_) | refine loadM (k := ?_) | refine loadB (k := ?_) | refine storeM (k := ?_) | refine storeB (k := ?_))
    refine drawM [] Tryz.mixed ?_
    first | refine dpM 0 (k := ?_) | refine doffM 0 (k := ?_) | refine dldM 0 rfl (k := ?_) | refine doffNM 0 (k := ?_) | refine dldB 0 rfl (k := ?_)
    first | refine dpM 1 (k := ?_) | refine doffM 1 (k := ?_) | refine dldM 1 rfl (k := ?_) | refine doffNM 1 (k := ?_) | refine dldB 1 rfl (k := ?_)
    first | refine dpM 2 (k := ?_) | refine doffM 2 (k := ?_) | refine dldM 2 rfl (k := ?_) | refine doffNM 2 (k := ?_) | refine dldB 2 rfl (k := ?_)
    first | refine dpM 3 (k := ?_) | refine doffM 3 (k := ?_) | refine dldM 3 rfl (k := ?_) | refine doffNM 3 (k := ?_) | refine dldB 3 rfl (k := ?_)
    first | refine dpM 4 (k := ?_) | refine doffM 4 (k := ?_) | refine dldM 4 rfl (k := ?_) | refine doffNM 4 (k := ?_) | refine dldB 4 rfl (k := ?_)
    first | refine dpM 5 (k := ?_) | refine doffM 5 (k := ?_) | refine dldM 5 rfl (k := ?_) | refine doffNM 5 (k := ?_) | refine dldB 5 rfl (k := ?_)
    first | refine dpM 6 (k := ?_) | refine doffM 6 (k := ?_) | refine dldM 6 rfl (k := ?_) | refine doffNM 6 (k := ?_) | refine dldB 6 rfl (k := ?_)
    first | refine dpM 7 (k := ?_) | refine doffM 7 (k := ?_) | refine dldM 7 rfl (k := ?_) | refine doffNM 7 (k := ?_) | refine dldB 7 rfl (k := ?_)
    first | refine dpM 8 (k := ?_) | refine doffM 8 (k := ?_) | refine dldM 8 rfl (k := ?_) | refine doffNM 8 (k := ?_) | refine dldB 8 rfl (k := ?_)
    first | refine dpM 9 (k := ?_) | refine doffM 9 (k := ?_) | refine dldM 9 rfl (k := ?_) | refine doffNM 9 (k := ?_) | refine dldB 9 rfl (k := ?_)
    first | refine dpM 10 (k := ?_) | refine doffM 10 (k := ?_) | refine dldM 10 rfl (k := ?_) | refine doffNM 10 (k := ?_) | refine dldB 10 rfl (k := ?_)
    first | refine dpM 11 (k := ?_) | refine doffM 11 (k := ?_) | refine dldM 11 rfl (k := ?_) | refine doffNM 11 (k := ?_) | refine dldB 11 rfl (k := ?_)
    refine ddoneM (by kernel_rfl) ?_
    repeat (first | refine codeM (k := ?_) | refine condM (k := ?_) | refine offM (k := ?_) | refine offMn (k := ?_) | refine pureM (k := ?_) | refine loadM (k := ?_) | refine loadB (k := ?_) | refine storeM (k := ?_) | refine storeB (k := ?_))
    refine drawM [3] Tryz.mixed ?_
    first | refine dpM 0 (k := ?_) | refine doffM 0 (k := ?_) | refine dldM 0 rfl (k := ?_) | refine doffNM 0 (k := ?_) | refine dldB 0 rfl (k := ?_)
    first | refine dpM 2 (k := ?_) | refine doffM 2 (k := ?_) | refine dldM 2 rfl (k := ?_) | refine doffNM 2 (k := ?_) | refine dldB 2 rfl (k := ?_)
    first | refine dpM 3 (k := ?_) | refine doffM 3 (k := ?_) | refine dldM 3 rfl (k := ?_) | refine doffNM 3 (k := ?_) | refine dldB 3 rfl (k := ?_)
    refine dx2L 1 4 rfl rfl (by kernel_rfl) rfl rfl (fun Hx => ?_) (fun Hx => ?_)
    · refine callW rfl rfl rfl rfl (fun Hc hm => cloneResv0 Hc) ?_
      rintro Hc _ H1 hm ⟨rfl, rfl⟩
      refine Am.on hm ?_
      first | refine leftA (k := ?_) | refine leftF (by kernel_rfl) ?_
      refine dxL 4 rfl (by kernel_rfl) rfl (fun Hx => ?_)
      refine bs1W rfl rfl rfl (by decide) rfl (fun r hr => ?_)
      first | refine leftA (k := ?_) | refine leftF (by kernel_rfl) ?_
      refine dxL 5 rfl (by kernel_rfl) rfl (fun Hx => ?_)
      refine callW rfl rfl rfl rfl (fun Hc hm => insResv0 (hm.has1 .here).ro rfl rfl) ?_
      rintro Hc _ H1 hm ⟨g3, c3, rfl, hg3, hc3, hm3⟩
      have hg4 := Nat.le_trans hm.size hg3
      refine Am.on (Mem.aft hm hm3 (.new (by first | assumption | omega) .nil)) ?_
      first | refine leftA (k := ?_) | refine leftF (by kernel_rfl) ?_
      first | refine dpM 6 (k := ?_) | refine doffM 6 (k := ?_) | refine dldM 6 rfl (k := ?_) | refine doffNM 6 (k := ?_) | refine dldB 6 rfl (k := ?_)
      first | refine dpM 7 (k := ?_) | refine doffM 7 (k := ?_) | refine dldM 7 rfl (k := ?_) | refine doffNM 7 (k := ?_) | refine dldB 7 rfl (k := ?_)
      refine ddoneM (by kernel_rfl) ?_
      repeat (first | refine codeM (k := ?_) | refine condM (k := ?_) | refine offM (k := ?_) | refine offMn (k := ?_) | refine pureM (k := ?_) | refine loadM (k := ?_) | refine loadB (k := ?_) | refine storeM (k := ?_) | refine storeB (k := ?_))
      exact ret2M rfl rfl rfl (fun H hm => ⟨g3, c3, rfl, hg4, hc3, hm.pick (by repeat (first | exact Pick.nil | refine Pick.keep ?_ | refine Pick.drop (by first | assumption | omega) ?_))⟩)
    · refine bs1W rfl rfl rfl (by decide) rfl (fun r hr => ?_)
      first | refine leftA (k := ?_) | refine leftF (by kernel_rfl) ?_
      refine dxL 1 rfl (by kernel_rfl) rfl (fun Hx => ?_)
      refine callW rfl rfl rfl rfl (fun Hc hm => cloneResv0 Hc) ?_
      rintro Hc _ H1 hm ⟨rfl, rfl⟩
      refine Am.on hm ?_
      first | refine leftA (k := ?_) | refine leftF (by kernel_rfl) ?_
      refine dxL 5 rfl (by kernel_rfl) rfl (fun Hx => ?_)
      refine callW rfl rfl rfl rfl (fun Hc hm => insResv0 (hm.has1 .here).ro rfl rfl) ?_
      rintro Hc _ H1 hm ⟨g3, c3, rfl, hg3, hc3, hm3⟩
      have hg4 := Nat.le_trans hm.size hg3
      refine Am.on (Mem.aft hm hm3 (.new (by first | assumption | omega) .nil)) ?_
      first | refine leftA (k := ?_) | refine leftF (by kernel_rfl) ?_
      first | refine dpM 6 (k := ?_) | refine doffM 6 (k := ?_) | refine dldM 6 rfl (k := ?_) | refine doffNM 6 (k := ?_) | refine dldB 6 rfl (k := ?_)
      first | refine dpM 7 (k := ?_) | refine doffM 7 (k := ?_) | refine dldM 7 rfl (k := ?_) | refine doffNM 7 (k := ?_) | refine dldB 7 rfl (k := ?_)
      refine ddoneM (by kernel_rfl) ?_
      repeat (first | refine codeM (k := ?_) | refine condM (k := ?_) | refine offM (k := ?_) | refine offMn (k := ?_) | refine pureM (k := ?_) | refine loadM (k := ?_) | refine loadB (k := ?_) | refine storeM (k := ?_) | refine storeB (k := ?_))
      exact ret2M rfl rfl rfl (fun H hm => ⟨g3, c3, rfl, hg4, hc3, hm.pick (by repeat (first | exact Pick.nil | refine Pick.keep ?_ | refine Pick.drop (by first | assumption | omega) ?_))⟩)
  · refine bs1W rfl rfl rfl (by decide) rfl (fun g hg => ?_)
    first | refine leftA (k := ?_) | refine leftF (by kernel_rfl) ?_
    refine dxL 2 rfl (by kernel_rfl) rfl (fun Hx => ?_)
    refine callW rfl rfl rfl rfl (fun Hc hm => load0 Hc) ?_
    rintro Hc _ H1 hm ⟨b, rfl, hb, x1⟩
    have hb := Nat.le_trans hm.size hb
    refine Am.on (hm.ext x1) ?_
    first | refine leftA (k := ?_) | refine leftF (by kernel_rfl) ?_
    refine dxL 6 rfl (by kernel_rfl) rfl (fun Hx => ?_)
    refine bsNW [nil0, .slice (some ⟨b, 0, none⟩) 0 0, .slice (some ⟨g, 0, none⟩) 1 1] rfl (by kernel_rfl) (by decide) rfl (fun s3 hs3 => ?_)
    first | refine leftA (k := ?_) | refine leftF (by kernel_rfl) ?_
    refine dxL 7 rfl (by kernel_rfl) rfl (fun Hx => ?_)
    refine callW rfl rfl rfl rfl (fun Hc hm => concBusy (hm.has1 .here).ro (hm.has1 (.there .here)).ro rfl (by intro u hu; simp [busyC] at hu; rcases hu with rfl | rfl | rfl <;> rfl)) ?_
    rintro Hc _ H1 hm ⟨g', c', rfl, hg', x1, hh⟩
    have hg2 := Nat.le_trans hm.size hg'
    refine Am.on (hm.new x1 hg' hh) ?_
    first | refine leftA (k := ?_) | refine leftF (by kernel_rfl) ?_
    first | refine dpM 8 (k := ?_) | refine doffM 8 (k := ?_) | refine dldM 8 rfl (k := ?_) | refine doffNM 8 (k := ?_) | refine dldB 8 rfl (k := ?_)
    refine ddoneM (by kernel_rfl) ?_
    repeat (first | refine codeM (k := ?_) | refine condM (k := ?_) | refine offM (k := ?_) | refine offMn (k := ?_) | refine pureM (k := ?_) | refine loadM (k := ?_) | refine loadB (k := ?_) | refine storeM (k := ?_) | refine storeB (k := ?_))
    refine callM rfl rfl rfl rfl rfl (fun Hc hm => pnew1_spec (hm.has1 .here).ro h0 h ht) ?_
    rintro Hc _ H1 hm ⟨x1, v, rfl⟩
    refine Am.on (hm.ext x1) ?_
    repeat (first | refine codeM (k := ?_) | refine condM (k := ?_) | refine offM (k := ?_) | refine offMn (k := ?_) | refine pureM (k := ?_) | refine loadM (k := ?_) | refine loadB (k := ?_) | refine storeM (k := ?_) | refine storeB (k := ?_))
    refine drawM [] Tryz.mixed ?_
    first | refine dpM 0 (k := ?_) | refine doffM 0 (k := ?_) | refine dldM 0 rfl (k := ?_) | refine doffNM 0 (k := ?_) | refine dldB 0 rfl (k := ?_)
    first | refine dpM 1 (k := ?_) | refine doffM 1 (k := ?_) | refine dldM 1 rfl (k := ?_) | refine doffNM 1 (k := ?_) | refine dldB 1 rfl (k := ?_)
    first | refine dpM 2 (k := ?_) | refine doffM 2 (k := ?_) | refine dldM 2 rfl (k := ?_) | refine doffNM 2 (k := ?_) | refine dldB 2 rfl (k := ?_)
    first | refine dpM 3 (k := ?_) | refine doffM 3 (k := ?_) | refine dldM 3 rfl (k := ?_) | refine doffNM 3 (k := ?_) | refine dldB 3 rfl (k := ?_)
    first | refine dpM 4 (k := ?_) | refine doffM 4 (k := ?_) | refine dldM 4 rfl (k := ?_) | refine doffNM 4 (k := ?_) | refine dldB 4 rfl (k := ?_)
    first | refine dpM 5 (k := ?_) | refine doffM 5 (k := ?_) | refine dldM 5 rfl (k := ?_) | refine doffNM 5 (k := ?_) | refine dldB 5 rfl (k := ?_)
    first | refine dpM 6 (k := ?_) | refine doffM 6 (k := ?_) | refine dldM 6 rfl (k := ?_) | refine doffNM 6 (k := ?_) | refine dldB 6 rfl (k := ?_)
    first | refine dpM 7 (k := ?_) | refine doffM 7 (k := ?_) | refine dldM 7 rfl (k := ?_) | refine doffNM 7 (k := ?_) | refine dldB 7 rfl (k := ?_)
    first | refine dpM 8 (k := ?_) | refine doffM 8 (k := ?_) | refine dldM 8 rfl (k := ?_) | refine doffNM 8 (k := ?_) | refine dldB 8 rfl (k := ?_)
    first | refine dpM 9 (k := ?_) | refine doffM 9 (k := ?_) | refine dldM 9 rfl (k := ?_) | refine doffNM 9 (k := ?_) | refine dldB 9 rfl (k := ?_)
    first | refine dpM 10 (k := ?_) | refine doffM 10 (k := ?_) | refine dldM 10 rfl (k := ?_) | refine doffNM 10 (k := ?_) | refine dldB 10 rfl (k := ?_)
    first | refine dpM 11 (k := ?_) | refine doffM 11 (k := ?_) | refine dldM 11 rfl (k := ?_) | refine doffNM 11 (k := ?_) | refine dldB 11 rfl (k := ?_)
    refine ddoneM (by kernel_rfl) ?_
    repeat (first | refine codeM (k := ?_) | refine condM (k := ?_) | refine offM (k := ?_) | refine offMn (k := ?_) | refine pureM (k := ?_) | refine loadM (k := ?_) | refine loadB (k := ?_) | refine storeM (k := ?_) | refine storeB (k := ?_))
    refine drawM [3] Tryz.mixed ?_
    first | refine dpM 0 (k := ?_) | refine doffM 0 (k := ?_) | refine dldM 0 rfl (k := ?_) | refine doffNM 0 (k := ?_) | refine dldB 0 rfl (k := ?_)
    first | refine dpM 2 (k := ?_) | refine doffM 2 (k := ?_) | refine dldM 2 rfl (k := ?_) | refine doffNM 2 (k := ?_) | refine dldB 2 rfl (k := ?_)
    first | refine dpM 3 (k := ?_) | refine doffM 3 (k := ?_) | refine dldM 3 rfl (k := ?_) | refine doffNM 3 (k := ?_) | refine dldB 3 rfl (k := ?_)
    refine dx2L 1 4 rfl rfl (by kernel_rfl) rfl rfl (fun Hx => ?_) (fun Hx => ?_)
    · refine callW rfl rfl rfl rfl (fun Hc hm => cloneResv0 Hc) ?_
      rintro Hc _ H1 hm ⟨rfl, rfl⟩
      refine Am.on hm ?_
      first | refine leftA (k := ?_) | refine leftF (by kernel_rfl) ?_
      refine dxL 4 rfl (by kernel_rfl) rfl (fun Hx => ?_)
      refine bs1W rfl rfl rfl (by decide) rfl (fun r hr => ?_)
      first | refine leftA (k := ?_) | refine leftF (by kernel_rfl) ?_
      refine dxL 5 rfl (by kernel_rfl) rfl (fun Hx => ?_)
      refine callW rfl rfl rfl rfl (fun Hc hm => insResv0 (hm.has1 .here).ro rfl rfl) ?_
      rintro Hc _ H1 hm ⟨g3, c3, rfl, hg3, hc3, hm3⟩
      have hg4 := Nat.le_trans hm.size hg3
      refine Am.on (Mem.aft hm hm3 (.new (by first | assumption | omega) .nil)) ?_
      first | refine leftA (k := ?_) | refine leftF (by kernel_rfl) ?_
      first | refine dpM 6 (k := ?_) | refine doffM 6 (k := ?_) | refine dldM 6 rfl (k := ?_) | refine doffNM 6 (k := ?_) | refine dldB 6 rfl (k := ?_)
      first | refine dpM 7 (k := ?_) | refine doffM 7 (k := ?_) | refine dldM 7 rfl (k := ?_) | refine doffNM 7 (k := ?_) | refine dldB 7 rfl (k := ?_)
      refine ddoneM (by kernel_rfl) ?_
      repeat (first | refine codeM (k := ?_) | refine condM (k := ?_) | refine offM (k := ?_) | refine offMn (k := ?_) | refine pureM (k := ?_) | refine loadM (k := ?_) | refine loadB (k := ?_) | refine storeM (k := ?_) | refine storeB (k := ?_))
      exact ret2M rfl rfl rfl (fun H hm => ⟨g3, c3, rfl, hg4, hc3, hm.pick (by repeat (first | exact Pick.nil | refine Pick.keep ?_ | refine Pick.drop (by first | assumption | omega) ?_))⟩)
    · refine bs1W rfl rfl rfl (by decide) rfl (fun r hr => ?_)
      first | refine leftA (k := ?_) | refine leftF (by kernel_rfl) ?_
      refine dxL 1 rfl (by kernel_rfl) rfl (fun Hx => ?_)
      refine callW rfl rfl rfl rfl (fun Hc hm => cloneResv0 Hc) ?_
      rintro Hc _ H1 hm ⟨rfl, rfl⟩
      refine Am.on hm ?_
      first | refine leftA (k := ?_) | refine leftF (by kernel_rfl) ?_
      refine dxL 5 rfl (by kernel_rfl) rfl (fun Hx => ?_)
      refine callW rfl rfl rfl rfl (fun Hc hm => insResv0 (hm.has1 .here).ro rfl rfl) ?_
      rintro Hc _ H1 hm ⟨g3, c3, rfl, hg3, hc3, hm3⟩
      have hg4 := Nat.le_trans hm.size hg3
      refine Am.on (Mem.aft hm hm3 (.new (by first | assumption | omega) .nil)) ?_
      first | refine leftA (k := ?_) | refine leftF (by kernel_rfl) ?_
      first | refine dpM 6 (k := ?_) | refine doffM 6 (k := ?_) | refine dldM 6 rfl (k := ?_) | refine doffNM 6 (k := ?_) | refine dldB 6 rfl (k := ?_)
      first | refine dpM 7 (k := ?_) | refine doffM 7 (k := ?_) | refine dldM 7 rfl (k := ?_) | refine doffNM 7 (k := ?_) | refine dldB 7 rfl (k := ?_)
      refine ddoneM (by kernel_rfl) ?_
      repeat (first | refine codeM (k := ?_) | refine condM (k := ?_) | refine offM (k := ?_) | refine offMn (k := ?_) | refine pureM (k := ?_) | refine loadM (k := ?_) | refine loadB (k := ?_) | refine storeM (k := ?_) | refine storeB (k := ?_))
      exact ret2M rfl rfl rfl (fun H hm => ⟨g3, c3, rfl, hg4, hc3, hm.pick (by repeat (first | exact Pick.nil | refine Pick.keep ?_ | refine Pick.drop (by first | assumption | omega) ?_))⟩)
set_option maxHeartbeats 2000000 in
theorem reserve_spec {H : Heap} {s c cc ep recs : Nat} {sv : Value} {since f t n u : Int} (hs : Has H s (stC 0 2 ep 0 recs (.slice (some ⟨c, 0, none⟩) 1 cc) nil0)) (hc : Ro H c (copC sv 1 since 0 0)) (hv : sv.oneCell' = true) (hsc : c ≠ s) (h0 : 0 ≤ f) (h : f < t) (ht : t < 1099511627776) :
    Spc Tryz.prog 211 #[ptr s, .agg (resvC f t n u).toArray] H fun r H' => r = .bool true ∧ ∃ g gc, H.size ≤ g ∧ 1 ≤ gc ∧ Mem H [] [(g, resvC f t n u), (s, stC 0 2 ep 0 recs (.slice (some ⟨c, 0, none⟩) 1 cc) (.slice (some ⟨g, 0, none⟩) 1 gc))] H' := by
  refine spec_of Tryz.func211 rfl Tryz.ntmps211 rfl (fun W => ?_)
  refine Am.on ((Mem.startL hs).andR1 hc hsc) ?_
  repeat (first | refine codeM (k := ?_) | refine condM (k := ?_) | refine offM (k := ?_) | refine offMn (k := ?_) | refine pureM (k := ?_) | refine loadM (k := ?_) | refine loadB (k := ?_) | refine storeM (k := ?_) | refine storeB (k := ?_))
  refine boxM rfl rfl rfl rfl (fun y hy => ?_)
  repeat (first | refine codeM (k := ?_) | refine condM (k := ?_) | refine offM (k := ?_) | refine offMn (k := ?_) | refine pureM (k := ?_) | refine loadM (k := ?_) | refine loadB (k := ?_) | refine storeM (k := ?_) | refine storeB (k := ?_))
  refine drawM [3, 7, 12, 13] Tryz.mixed ?_
  first | refine dpM 0 (k := ?_) | refine doffM 0 (k := ?_) | refine dldM 0 rfl (k := ?_) | refine doffNM 0 (k := ?_) | refine dldB 0 rfl (k := ?_)
  first | refine dpM 1 (k := ?_) | refine doffM 1 (k := ?_) | refine dldM 1 rfl (k := ?_) | refine doffNM 1 (k := ?_) | refine dldB 1 rfl (k := ?_)
  first | refine dpM 2 (k := ?_) | refine doffM 2 (k := ?_) | refine dldM 2 rfl (k := ?_) | refine doffNM 2 (k := ?_) | refine dldB 2 rfl (k := ?_)
  first | refine dpM 3 (k := ?_) | refine doffM 3 (k := ?_) | refine dldM 3 rfl (k := ?_) | refine doffNM 3 (k := ?_) | refine dldB 3 rfl (k := ?_)
  first | refine dpM 4 (k := ?_) | refine doffM 4 (k := ?_) | refine dldM 4 rfl (k := ?_) | refine doffNM 4 (k := ?_) | refine dldB 4 rfl (k := ?_)
  first | refine dpM 5 (k := ?_) | refine doffM 5 (k := ?_) | refine dldM 5 rfl (k := ?_) | refine doffNM 5 (k := ?_) | refine dldB 5 rfl (k := ?_)
  first | refine dpM 6 (k := ?_) | refine doffM 6 (k := ?_) | refine dldM 6 rfl (k := ?_) | refine doffNM 6 (k := ?_) | refine dldB 6 rfl (k := ?_)
  first | refine dpM 7 (k := ?_) | refine doffM 7 (k := ?_) | refine dldM 7 rfl (k := ?_) | refine doffNM 7 (k := ?_) | refine dldB 7 rfl (k := ?_)
  first | refine dpM 9 (k := ?_) | refine doffM 9 (k := ?_) | refine dldM 9 rfl (k := ?_) | refine doffNM 9 (k := ?_) | refine dldB 9 rfl (k := ?_)
  first | refine dpM 10 (k := ?_) | refine doffM 10 (k := ?_) | refine dldM 10 rfl (k := ?_) | refine doffNM 10 (k := ?_) | refine dldB 10 rfl (k := ?_)
  first | refine dpM 11 (k := ?_) | refine doffM 11 (k := ?_) | refine dldM 11 rfl (k := ?_) | refine doffNM 11 (k := ?_) | refine dldB 11 rfl (k := ?_)
  first | refine dpM 12 (k := ?_) | refine doffM 12 (k := ?_) | refine dldM 12 rfl (k := ?_) | refine doffNM 12 (k := ?_) | refine dldB 12 rfl (k := ?_)
  first | refine dpM 13 (k := ?_) | refine doffM 13 (k := ?_) | refine dldM 13 rfl (k := ?_) | refine doffNM 13 (k := ?_) | refine dldB 13 rfl (k := ?_)
  refine dxL 8 rfl (by kernel_rfl) rfl (fun Hx => ?_)
  refine callW rfl rfl rfl rfl (fun Hc hm => running1 (hm.roOf (.r .here)) hv) ?_
  rintro Hc _ H1 hm ⟨x1, rfl⟩
  refine Am.on (hm.ext x1) ?_
  first | refine leftA (k := ?_) | refine leftF (by kernel_rfl) ?_
  refine dxL 14 rfl (by kernel_rfl) rfl (fun Hx => ?_)
  refine callW rfl rfl rfl rfl (fun Hc hm => radd_spec Hc h0 h ht) ?_
  rintro Hc _ H1 hm ⟨g, gc, rfl, hg, hgc, hm1⟩
  have hg' := Nat.le_trans hm.size hg
  refine Am.on (Mem.aft hm hm1 (.new (by first | assumption | omega) .nil)) ?_
  first | refine leftA (k := ?_) | refine leftF (by kernel_rfl) ?_
  first | refine dpM 15 (k := ?_) | refine doffM 15 (k := ?_) | refine dldM 15 rfl (k := ?_) | refine doffNM 15 (k := ?_) | refine dldB 15 rfl (k := ?_)
  first | refine dpM 16 (k := ?_) | refine doffM 16 (k := ?_) | refine dldM 16 rfl (k := ?_) | refine doffNM 16 (k := ?_) | refine dldB 16 rfl (k := ?_)
  first | refine dpM 17 (k := ?_) | refine doffM 17 (k := ?_) | refine dldM 17 rfl (k := ?_) | refine doffNM 17 (k := ?_) | refine dldB 17 rfl (k := ?_)
  first | refine dpM 18 (k := ?_) | refine doffM 18 (k := ?_) | refine dldM 18 rfl (k := ?_) | refine doffNM 18 (k := ?_) | refine dldB 18 rfl (k := ?_)
  first | refine dpM 19 (k := ?_) | refine doffM 19 (k := ?_) | refine dldM 19 rfl (k := ?_) | refine doffNM 19 (k := ?_) | refine dldB 19 rfl (k := ?_)
  refine ddoneM (by kernel_rfl) ?_
  repeat (first | refine codeM (k := ?_) | refine condM (k := ?_) | refine offM (k := ?_) | refine offMn (k := ?_) | refine pureM (k := ?_) | refine loadM (k := ?_) | refine loadB (k := ?_) | refine storeM (k := ?_) | refine storeB (k := ?_))
  exact ret1M rfl rfl (fun H hm => ⟨rfl, g, gc, hg', hgc, hm.pick (by repeat (first | exact Pick.nil | refine Pick.keep ?_ | refine Pick.drop (by first | assumption | omega) ?_))⟩)
theorem span_spec {H : Heap} {c : Nat} {sv : Value} {st since tok at_ : Int} {t : Int} (hc : Ro H c (copC sv st since tok at_)) (h0 : 0 ≤ t) (h1 : t + 5 ≤ 1099511627776) :
    Spc Tryz.prog 210 #[ptr c, .int .i64 t] H fun r H' => Ext H H' ∧ r = .tuple #[.agg (busyC t (t + 5) 1).toArray, .bool true] := by
  refine spec_of Tryz.func210 rfl Tryz.ntmps210 rfl (fun W => ?_)
  refine Am.on (Mem.startR hc) ?_
  repeat (first | refine codeM (k := ?_) | refine condM (k := ?_) | refine offM (k := ?_) | refine offMn (k := ?_) | refine pureM (k := ?_) | refine loadM (k := ?_) | refine loadB (k := ?_) | refine storeM (k := ?_) | refine storeB (k := ?_))
  refine allocM rfl rfl rfl (fun y hy => ?_)
  repeat (first | refine codeM (k := ?_) | refine condM (k := ?_) | refine offM (k := ?_) | refine offMn (k := ?_) | refine pureM (k := ?_) | refine loadM (k := ?_) | refine loadB (k := ?_) | refine storeM (k := ?_) | refine storeB (k := ?_))
  refine callM rfl rfl rfl rfl rfl (fun Hc hm => tickAdd_spec Hc h0 (by decide) h1) ?_
  rintro Hc _ H1 hm ⟨rfl, rfl⟩
  refine Am.on hm ?_
  repeat (first | refine codeM (k := ?_) | refine condM (k := ?_) | refine offM (k := ?_) | refine offMn (k := ?_) | refine pureM (k := ?_) | refine loadM (k := ?_) | refine loadB (k := ?_) | refine storeM (k := ?_) | refine storeB (k := ?_))
  refine pM (p_build (busyC t (t + 5) 1) rfl rfl) rfl rfl rfl ?_
  repeat (first | refine codeM (k := ?_) | refine condM (k := ?_) | refine offM (k := ?_) | refine offMn (k := ?_) | refine pureM (k := ?_) | refine loadM (k := ?_) | refine loadB (k := ?_) | refine storeM (k := ?_) | refine storeB (k := ?_))
  exact retC2M rfl rfl rfl .here rfl rfl (fun H hm => ⟨hm.toExt (by repeat (first | exact Pick.nil | refine Pick.keep ?_ | refine Pick.drop (by first | assumption | omega) ?_)), rfl⟩)
set_option maxHeartbeats 4000000 in
theorem holdRec_spec {H : Heap} {s c cc ep recs : Nat} {sv : Value} {since t u : Int} (hs : Has H s (stC 0 2 ep 0 recs (.slice (some ⟨c, 0, none⟩) 1 cc) nil0)) (hc : Has H c (copC sv 1 since 0 0)) (hv : sv.oneCell' = true) (hsc : c ≠ s) (h0 : 0 ≤ t) (ht : t + 5 < 1099511627776) :
    Spc Tryz.prog 115 #[ptr s, ptr c, .agg (holdRC t u).toArray] H fun r H' => r = .bool true ∧ ∃ g gc, H.size ≤ g ∧ 1 ≤ gc ∧ Mem H [] [(g, resvC t (t + 5) 1 u), (c, copC sv 4 since 1 t), (s, stC 0 2 ep 0 recs (.slice (some ⟨c, 0, none⟩) 1 cc) (.slice (some ⟨g, 0, none⟩) 1 gc))] H' := by
  refine spec_of Tryz.func115 rfl Tryz.ntmps115 rfl (fun W => ?_)
  refine Am.on ((Mem.startL hs).take hc (by simpa [keys] using hsc) (by simp)) ?_
  repeat (first | refine codeM (k := ?_) | refine condM (k := ?_) | refine offM (k := ?_) | refine offMn (k := ?_) | refine pureM (k := ?_) | refine loadM (k := ?_) | refine loadB (k := ?_) | refine storeM (k := ?_) | refine storeB (k := ?_))
  refine boxM rfl rfl rfl rfl (fun y hy => ?_)
  repeat (first | refine codeM (k := ?_) | refine condM (k := ?_) | refine offM (k := ?_) | refine offMn (k := ?_) | refine pureM (k := ?_) | refine loadM (k := ?_) | refine loadB (k := ?_) | refine storeM (k := ?_) | refine storeB (k := ?_))
  refine callM rfl rfl rfl rfl rfl (fun Hc hm => span_spec (hm.has1 (.there .here)).ro h0 (by omega)) ?_
  rintro Hc _ H1 hm ⟨x1, rfl⟩
  refine Am.on (hm.ext x1) ?_
  repeat (first | refine codeM (k := ?_) | refine condM (k := ?_) | refine offM (k := ?_) | refine offMn (k := ?_) | refine pureM (k := ?_) | refine loadM (k := ?_) | refine loadB (k := ?_) | refine storeM (k := ?_) | refine storeB (k := ?_))
  refine allocM rfl rfl rfl (fun z hz => ?_)
  repeat (first | refine codeM (k := ?_) | refine condM (k := ?_) | refine offM (k := ?_) | refine offMn (k := ?_) | refine pureM (k := ?_) | refine loadM (k := ?_) | refine loadB (k := ?_) | refine storeM (k := ?_) | refine storeB (k := ?_))
  refine loadN [.int .i64 1, .int .i64 1] rfl (.l (.there .here)) rfl rfl rfl rfl rfl ?_
  repeat (first | refine codeM (k := ?_) | refine condM (k := ?_) | refine offM (k := ?_) | refine offMn (k := ?_) | refine pureM (k := ?_) | refine loadM (k := ?_) | refine loadB (k := ?_) | refine storeM (k := ?_) | refine storeB (k := ?_))
  refine pM (p_build (resvC t (t + 5) 1 u) rfl rfl) rfl rfl rfl ?_
  refine callM rfl rfl rfl rfl rfl (fun Hc hm => reserve_spec (hm.has1 (.there (.there (.there .here)))) (hm.has1 (.there (.there .here))).ro hv hsc h0 (by omega) ht) ?_
  rintro Hc _ H1 hm ⟨rfl, g, gc, hg, hgc, hm1⟩
  have hg' := Nat.le_trans hm.size hg
  refine Am.on (Mem.aft hm hm1 (.new (by first | assumption | omega) (.upd (by first | exact .here | exact .there .here | exact .there (.there .here) | exact .there (.there (.there .here)) | exact .there (.there (.there (.there .here))) | exact .there (.there (.there (.there (.there .here)))) | exact .there (.there (.there (.there (.there (.there .here)))))) .nil))) ?_
  repeat (first | refine codeM (k := ?_) | refine condM (k := ?_) | refine offM (k := ?_) | refine offMn (k := ?_) | refine pureM (k := ?_) | refine loadM (k := ?_) | refine loadB (k := ?_) | refine storeM (k := ?_) | refine storeB (k := ?_))
  refine drawS [4, 6] ( .there (.there .here)) Tryz.mixed ?_
  first | refine dpM 0 (k := ?_) | refine doffM 0 (k := ?_) | refine dldM 0 rfl (k := ?_) | refine doffNM 0 (k := ?_) | refine dldB 0 rfl (k := ?_)
  first | refine dpM 1 (k := ?_) | refine doffM 1 (k := ?_) | refine dldM 1 rfl (k := ?_) | refine doffNM 1 (k := ?_) | refine dldB 1 rfl (k := ?_)
  first | refine dpM 2 (k := ?_) | refine doffM 2 (k := ?_) | refine dldM 2 rfl (k := ?_) | refine doffNM 2 (k := ?_) | refine dldB 2 rfl (k := ?_)
  first | refine dpM 3 (k := ?_) | refine doffM 3 (k := ?_) | refine dldM 3 rfl (k := ?_) | refine doffNM 3 (k := ?_) | refine dldB 3 rfl (k := ?_)
  refine dldM 4 rfl (hk := look1 (by first | exact .here | exact .there .here | exact .there (.there .here) | exact .there (.there (.there .here)) | exact .there (.there (.there (.there .here))) | exact .there (.there (.there (.there (.there .here)))) | exact .there (.there (.there (.there (.there (.there .here))))))) (k := ?_)
  first | refine dpM 5 (k := ?_) | refine doffM 5 (k := ?_) | refine dldM 5 rfl (k := ?_) | refine doffNM 5 (k := ?_) | refine dldB 5 rfl (k := ?_)
  refine dldM 6 rfl (hk := look1 (by first | exact .here | exact .there .here | exact .there (.there .here) | exact .there (.there (.there .here)) | exact .there (.there (.there (.there .here))) | exact .there (.there (.there (.there (.there .here)))) | exact .there (.there (.there (.there (.there (.there .here))))))) (k := ?_)
  first | refine dpM 7 (k := ?_) | refine doffM 7 (k := ?_) | refine dldM 7 rfl (k := ?_) | refine doffNM 7 (k := ?_) | refine dldB 7 rfl (k := ?_)
  first | refine dpM 8 (k := ?_) | refine doffM 8 (k := ?_) | refine dldM 8 rfl (k := ?_) | refine doffNM 8 (k := ?_) | refine dldB 8 rfl (k := ?_)
  refine dxL 9 rfl (by kernel_rfl) rfl (fun Hx => ?_)
  refine storeW rfl rfl rfl rfl rfl (.there (.there (.there .here))) rfl ?_
  refine leftM (look1 (by first | exact .here | exact .there .here | exact .there (.there .here) | exact .there (.there (.there .here)) | exact .there (.there (.there (.there .here))) | exact .there (.there (.there (.there (.there .here)))) | exact .there (.there (.there (.there (.there (.there .here))))))) ?_
  first | refine dpM 10 (k := ?_) | refine doffM 10 (k := ?_) | refine dldM 10 rfl (k := ?_) | refine doffNM 10 (k := ?_) | refine dldB 10 rfl (k := ?_)
  first | refine dpM 11 (k := ?_) | refine doffM 11 (k := ?_) | refine dldM 11 rfl (k := ?_) | refine doffNM 11 (k := ?_) | refine dldB 11 rfl (k := ?_)
  refine dxL 12 rfl (by kernel_rfl) rfl (fun Hx => ?_)
  refine storeW rfl rfl rfl rfl rfl (.there (.there (.there .here))) rfl ?_
  refine leftM (look1 (by first | exact .here | exact .there .here | exact .there (.there .here) | exact .there (.there (.there .here)) | exact .there (.there (.there (.there .here))) | exact .there (.there (.there (.there (.there .here)))) | exact .there (.there (.there (.there (.there (.there .here))))))) ?_
  first | refine dpM 13 (k := ?_) | refine doffM 13 (k := ?_) | refine dldM 13 rfl (k := ?_) | refine doffNM 13 (k := ?_) | refine dldB 13 rfl (k := ?_)
  first | refine dpM 14 (k := ?_) | refine doffM 14 (k := ?_) | refine dldM 14 rfl (k := ?_) | refine doffNM 14 (k := ?_) | refine dldB 14 rfl (k := ?_)
  refine dxL 15 rfl (by kernel_rfl) rfl (fun Hx => ?_)
  refine storeW rfl rfl rfl rfl rfl (.there (.there (.there .here))) rfl ?_
  refine leftM (look1 (by first | exact .here | exact .there .here | exact .there (.there .here) | exact .there (.there (.there .here)) | exact .there (.there (.there (.there .here))) | exact .there (.there (.there (.there (.there .here)))) | exact .there (.there (.there (.there (.there (.there .here))))))) ?_
  refine ddoneM (by kernel_rfl) ?_
  repeat (first | refine codeM (k := ?_) | refine condM (k := ?_) | refine offM (k := ?_) | refine offMn (k := ?_) | refine pureM (k := ?_) | refine loadM (k := ?_) | refine loadB (k := ?_) | refine storeM (k := ?_) | refine storeB (k := ?_))
  exact ret1M rfl rfl (fun H hm => ⟨rfl, g, gc, hg', hgc, hm.pick (by repeat (first | exact Pick.nil | refine Pick.keep ?_ | refine Pick.drop (by first | assumption | omega) ?_))⟩)
end Go.Proofs.YtlaobecajieaaaaGreat
/- A state with one copy: its twin. -/
namespace Go.Proofs.YtlaobecajieaaaaGreat
open Go Ev
set_option linter.unusedVariables false
set_option linter.unusedSimpArgs false
/-- a slice that reads as the job's two sites -/
def Sv (H : Heap) (v : Value) : Prop := ∃ b o c, v = .slice (some ⟨b, o, none⟩) 2 c ∧ Cell H b (o + 0) (.int .i64 0) ∧ Cell H b (o + 1) (.int .i64 1)
theorem Sv.one {H : Heap} {v : Value} (h : Sv H v) : v.oneCell' = true := by
  obtain ⟨b, o, c, rfl, _⟩ := h; rfl
theorem Sv.cells {H : Heap} {v : Value} (h : Sv H v) : v.cells = #[v] := by
  obtain ⟨b, o, c, rfl, _⟩ := h; rfl
theorem Sv.keep {S : Nat → Prop} {H H' : Heap} {v : Value} (h : Sv H v) (hk : Kept S H H') (hS : ∀ b, v.ownBlock = some b → b < H.size → ¬ S b) : Sv H' v := by
  obtain ⟨b, o, c, rfl, h0, h1⟩ := h
  exact ⟨b, o, c, rfl, h0.keep hk (hS b rfl h0.lt), h1.keep hk (hS b rfl h0.lt)⟩
theorem Sv.on {H H' : Heap} {v : Value} (h : Sv H v) (hk : Ext H H') : Sv H' v := h.keep hk (fun _ _ _ f => f)
theorem Sv.of {H : Heap} {g c : Nat} (h : Has H g [.int .i64 0, .int .i64 1]) : Sv H (.slice (some ⟨g, 0, none⟩) 2 c) := ⟨g, 0, c, rfl, h.cell rfl, h.cell rfl⟩
theorem Sv.ofVs {H : Heap} {v : Value} (h : Vs nv H v [0, 1]) : Sv H v := by
  obtain ⟨p, c, rfl, _, hc⟩ := h
  obtain ⟨b, o, rfl, h0⟩ := hc 0 0 rfl
  obtain ⟨b', o', e, h1⟩ := hc 1 1 rfl
  simp only [Option.some.injEq, Addr.mk.injEq] at e
  obtain ⟨rfl, rfl, _⟩ := e
  exact ⟨b, o, c, rfl, h0, h1⟩
theorem Sv.vs {H : Heap} {v : Value} (h : Sv H v) (hc : ∀ p l c, v = .slice p l c → l ≤ c) : Vs nv H v [0, 1] := by
  obtain ⟨b, o, c, rfl, h0, h1⟩ := h
  refine ⟨_, c, rfl, hc _ _ _ rfl, fun i x hx => ⟨b, o, rfl, ?_⟩⟩
  match i with
  | 0 => simp at hx; subst hx; exact h0
  | 1 => simp at hx; subst hx; exact h1
  | i + 2 => simp at hx
section
variable {P : Program} {n : Nat} {W : World} {env : Env} {H0 H : Heap} {R L L' : Bks} {Q : Exit → Act → World → Prop} {K : Act → World → Prop} {ops : Array Oper} {rest : List Oper}
variable {ty : TypeId} {pos : String} {af : Array Edge} {gd : Option (Nat × Bool)}
/-- append of m elements to a slice of none, without room -/
theorem appEM {d b0 o0 b off m c sz sb es eb : Nat} {z ez : Value} {t e : TypeId} {dc : TypeDesc} {x y : Operand} (news : List Value) [h : Ty P t (.slice e) sz sb z] [he : Ty P e dc es eb ez] (hx : ev env x = some (.slice (some ⟨b0, o0, none⟩) 0 0)) (hy : ev env y = some (.slice (some ⟨b, off, none⟩) m c))
    (hcs : ∀ H, Mem H0 R L H → ∀ j u, news[j]? = some u → Cell H b (off + j) u) (hlen : Nat.beq news.length (m * es) = true) (h1 : news.all (·.oneCell') = true) (hz : ez.cells.size = es) (hes : Nat.blt 0 es = true) (hm0 : Nat.blt 0 m = true) (hm1 : Nat.ble m 1000 = true) (hby : Nat.ble eb 1000000 = true)
    (hw : want ops env ⟨some d, .call ⟨.builtin .append, #[x, y], #[t, t]⟩, ty, pos, af, gd⟩ = some true) (hn : Nat.blt d n = true)
    (k : ∀ g c', H0.size ≤ g → m ≤ c' → Am n W ((d, .slice (some ⟨g, 0, none⟩) m c') :: env) H0 R ((g, news) :: L) (wpList P ops Q rest)) : Am n W env H0 R L (wpList P ops Q (⟨some d, .call ⟨.builtin .append, #[x, y], #[t, t]⟩, ty, pos, af, gd⟩ :: rest)) := fun H hm => by
  have a2 : 0 < m := Nat.le_of_ble_eq_true hm0
  have a3 : m ≤ 1000 := Nat.le_of_ble_eq_true hm1
  have a4 : eb ≤ 1000000 := Nat.le_of_ble_eq_true hby
  obtain ⟨i, i1, i2, i3, i4⟩ := he.info
  have a5 : m * i.bytes ≤ 1000 * 1000000 := Nat.mul_le_mul a3 (by omega)
  have a6 := Nat.eq_of_beq_eq_true hlen
  refine At_wp (fun a w f eq hlike => ?_) hw
  subst eq
  have hr := run_append_grow (P := P) (w := w) t ty e i ez h.und i1 i4 ⟨b0, o0, none⟩ 0 0 [] (by simp) (by simp) ⟨b, off, none⟩ m c news (by rw [i2]; exact a6) (fun j v hj => by rw [add_none]; exact (hcs _ hm j v hj).cell?) (by omega) (by omega) (by rw [Nat.zero_add, nextslicecap_zero a2]; omega)
  simp only [Nat.zero_add] at hr
  have hge := grownCap_ge w m 0 e
  have hrun : (execOp a.eval ⟨some d, .call ⟨.builtin .append, #[x, y], #[t, t]⟩, ty, pos, af, gd⟩).run P w = .ok (.value (.slice (some ⟨w.heap.size, 0, none⟩) m (grownCap w m 0 e))) (w.drew.alloc (.cells (([] : List Value).toArray ++ news.toArray ++ Builtin.zeroCells ez.cells (grownCap w m 0 e - m)) e)) := by
    simp only [execOp, resolve, invoke, builtin, f.ev hx, f.ev hy, List.map_toArray, List.map_cons, List.map_nil, Sem.run_bind, Sem.run_pure, Result.andThen_ok, hr]
  unfold Oper.wp
  rw [hrun, Oper.upon_value]
  have hne := New.of w.heap (.cells (([] : List Value).toArray ++ news.toArray ++ Builtin.zeroCells ez.cells (grownCap w m 0 e - m)) e)
  refine k w.heap.size _ hm.size hge _ (hm.new hne.ext (Nat.le_refl _) ⟨_, _, hne.at_, ?_⟩) _ _ (f.put hn _) rfl (hlike.trans ⟨rfl, rfl, rfl⟩)
  simp
end
attribute [local irreducible] Go.wpList Go.bodyPost Go.Code.wp Go.Exit.then Go.Exit.inBlock Go.Exit.noGoto Ev.wpAnyG Go.Oper.wp Ev.Back Ev.Left Ev.Spc Ev.At Ev.Pure Ev.Reads Ev.Runs Ev.Does Ev.Cell Ev.Am Ev.Has Ev.Kn Go.Code.rounds

theorem cloneCopy1 {H : Heap} {c cc : Nat} {xs : List Value} (hc : Ro H c xs) (hl : Nat.beq xs.length (1 * 17) = true) (h1 : xs.all (·.oneCell') = true) :
    Spc Tryz.prog 102 #[.slice (some ⟨c, 0, none⟩) 1 cc] H fun r H' => ∃ g gc, r = .slice (some ⟨g, 0, none⟩) 1 gc ∧ H.size ≤ g ∧ 1 ≤ gc ∧ Mem H [] [(g, xs)] H' := by
  refine spec_of Tryz.func102 rfl Tryz.ntmps102 rfl (fun W => ?_)
  refine Am.on (Mem.startR hc) ?_
  repeat (first | refine codeM (k := ?_) | refine condM (k := ?_) | refine offM (k := ?_) | refine offMn (k := ?_) | refine pureM (k := ?_) | refine loadM (k := ?_) | refine loadB (k := ?_) | refine storeM (k := ?_) | refine storeB (k := ?_))
  refine bs0M rfl rfl (fun e he => ?_)
  repeat (first | refine codeM (k := ?_) | refine condM (k := ?_) | refine offM (k := ?_) | refine offMn (k := ?_) | refine pureM (k := ?_) | refine loadM (k := ?_) | refine loadB (k := ?_) | refine storeM (k := ?_) | refine storeB (k := ?_))
  refine appEM xs rfl rfl (fun H hm j u hj => by rw [Nat.zero_add]; exact hm.cell (.r .here) hj) hl h1 rfl rfl rfl rfl rfl rfl rfl (fun g gc hg hgc => ?_)
  repeat (first | refine codeM (k := ?_) | refine condM (k := ?_) | refine offM (k := ?_) | refine offMn (k := ?_) | refine pureM (k := ?_) | refine loadM (k := ?_) | refine loadB (k := ?_) | refine storeM (k := ?_) | refine storeB (k := ?_))
  exact ret1M rfl rfl (fun H hm => ⟨g, gc, rfl, hg, hgc, hm.pick (by repeat (first | exact Pick.nil | refine Pick.keep ?_ | refine Pick.drop (by first | assumption | omega) ?_))⟩)
theorem cloneResv1 {H : Heap} {c cc : Nat} {xs : List Value} (hc : Ro H c xs) (hl : Nat.beq xs.length (1 * 8) = true) (h1 : xs.all (·.oneCell') = true) :
    Spc Tryz.prog 103 #[.slice (some ⟨c, 0, none⟩) 1 cc] H fun r H' => ∃ g gc, r = .slice (some ⟨g, 0, none⟩) 1 gc ∧ H.size ≤ g ∧ 1 ≤ gc ∧ Mem H [] [(g, xs)] H' := by
  refine spec_of Tryz.func103 rfl Tryz.ntmps103 rfl (fun W => ?_)
  refine Am.on (Mem.startR hc) ?_
  repeat (first | refine codeM (k := ?_) | refine condM (k := ?_) | refine offM (k := ?_) | refine offMn (k := ?_) | refine pureM (k := ?_) | refine loadM (k := ?_) | refine loadB (k := ?_) | refine storeM (k := ?_) | refine storeB (k := ?_))
  refine bs0M rfl rfl (fun e he => ?_)
  repeat (first | refine codeM (k := ?_) | refine condM (k := ?_) | refine offM (k := ?_) | refine offMn (k := ?_) | refine pureM (k := ?_) | refine loadM (k := ?_) | refine loadB (k := ?_) | refine storeM (k := ?_) | refine storeB (k := ?_))
  refine appEM xs rfl rfl (fun H hm j u hj => by rw [Nat.zero_add]; exact hm.cell (.r .here) hj) hl h1 rfl rfl rfl rfl rfl rfl rfl (fun g gc hg hgc => ?_)
  repeat (first | refine codeM (k := ?_) | refine condM (k := ?_) | refine offM (k := ?_) | refine offMn (k := ?_) | refine pureM (k := ?_) | refine loadM (k := ?_) | refine loadB (k := ?_) | refine storeM (k := ?_) | refine storeB (k := ?_))
  exact ret1M rfl rfl (fun H hm => ⟨g, gc, rfl, hg, hgc, hm.pick (by repeat (first | exact Pick.nil | refine Pick.keep ?_ | refine Pick.drop (by first | assumption | omega) ?_))⟩)
theorem cloneSites {H : Heap} {v : Value} (hs : Sv H v) : Spc Tryz.prog 98 #[v] H fun r H' => ∃ g gc, r = .slice (some ⟨g, 0, none⟩) 2 gc ∧ H.size ≤ g ∧ 2 ≤ gc ∧ Mem H [] [(g, [.int .i64 0, .int .i64 1])] H' := by
  obtain ⟨b, o, c, rfl, h0, h1⟩ := hs
  refine spec_of Tryz.func98 rfl Tryz.ntmps98 rfl (fun W => ?_)
  refine Am.new ?_
  repeat (first | refine codeM (k := ?_) | refine condM (k := ?_) | refine offM (k := ?_) | refine offMn (k := ?_) | refine pureM (k := ?_) | refine loadM (k := ?_) | refine loadB (k := ?_) | refine storeM (k := ?_) | refine storeB (k := ?_))
  refine bs0M rfl rfl (fun e he => ?_)
  repeat (first | refine codeM (k := ?_) | refine condM (k := ?_) | refine offM (k := ?_) | refine offMn (k := ?_) | refine pureM (k := ?_) | refine loadM (k := ?_) | refine loadB (k := ?_) | refine storeM (k := ?_) | refine storeB (k := ?_))
  refine appEM [.int .i64 0, .int .i64 1] rfl rfl (fun H hm j u hj => ?_) (by rfl) rfl (by rfl) rfl rfl rfl (by rfl) rfl rfl (fun g gc hg hgc => ?_)
  · have hx := hm.toExt (by repeat (first | exact Pick.nil | refine Pick.keep ?_ | refine Pick.drop (by first | assumption | omega) ?_))
    match j with
    | 0 => simp at hj; subst hj; exact h0.keep hx (fun f => f)
    | 1 => simp at hj; subst hj; exact h1.keep hx (fun f => f)
    | j + 2 => simp at hj
  repeat (first | refine codeM (k := ?_) | refine condM (k := ?_) | refine offM (k := ?_) | refine offMn (k := ?_) | refine pureM (k := ?_) | refine loadM (k := ?_) | refine loadB (k := ?_) | refine storeM (k := ?_) | refine storeB (k := ?_))
  exact ret1M rfl rfl (fun H hm => ⟨g, gc, rfl, hg, hgc, hm.pick (by repeat (first | exact Pick.nil | refine Pick.keep ?_ | refine Pick.drop (by first | assumption | omega) ?_))⟩)
set_option maxHeartbeats 1000000 in
theorem jobTwin_spec {H : Heap} {sv : Value} (hs : Sv H sv) : Spc Tryz.prog 97 #[.agg (jobV sv).toArray] H fun r H' => ∃ g gc, r = .agg (jobV (.slice (some ⟨g, 0, none⟩) 2 gc)).toArray ∧ H.size ≤ g ∧ 2 ≤ gc ∧ Mem H [] [(g, [.int .i64 0, .int .i64 1])] H' := by
  have h1 := hs.one
  refine spec_of Tryz.func97 rfl Tryz.ntmps97 rfl (fun W => ?_)
  refine Am.new ?_
  repeat (first | refine codeM (k := ?_) | refine condM (k := ?_) | refine offM (k := ?_) | refine offMn (k := ?_) | refine pureM (k := ?_) | refine loadM (k := ?_) | refine loadB (k := ?_) | refine storeM (k := ?_) | refine storeB (k := ?_))
  refine boxM rfl rfl rfl rfl (fun a ha => ?_)
  refine allocM rfl rfl rfl (fun y hy => ?_)
  repeat (first | refine codeM (k := ?_) | refine condM (k := ?_) | refine offM (k := ?_) | refine offMn (k := ?_) | refine pureM (k := ?_) | refine loadM (k := ?_) | refine loadB (k := ?_) | refine storeM (k := ?_) | refine storeB (k := ?_))
  refine callM rfl rfl rfl rfl rfl (fun Hc hm => cloneSites (hs.on (hm.toExt (by repeat (first | exact Pick.nil | refine Pick.keep ?_ | refine Pick.drop (by first | assumption | omega) ?_))))) ?_
  rintro Hc _ H1 hm ⟨g, gc, rfl, hg, hgc, hm1⟩
  have hg2 := Nat.le_trans hm.size hg
  refine Am.on (Mem.aft hm hm1 (.new (by first | assumption | omega) .nil)) ?_
  repeat (first | refine codeM (k := ?_) | refine condM (k := ?_) | refine offM (k := ?_) | refine offMn (k := ?_) | refine pureM (k := ?_) | refine loadM (k := ?_) | refine loadB (k := ?_) | refine storeM (k := ?_) | refine storeB (k := ?_))
  exact retC1M rfl rfl (.there .here) rfl rfl (fun H hm => ⟨g, gc, rfl, hg2, hgc, hm.pick (by repeat (first | exact Pick.nil | refine Pick.keep ?_ | refine Pick.drop (by first | assumption | omega) ?_))⟩)
set_option maxHeartbeats 4000000 in
theorem twinB_spec {H : Heap} {ep recs c cc  : Nat} {sv : Value} {st since tok at_  : Int} (hc : Ro H c (copC sv st since tok at_)) (hsv : Sv H sv)  :
    Spc Tryz.prog 60 #[.agg (stC 0 2 ep 0 recs (.slice (some ⟨c, 0, none⟩) 1 cc) nil0).toArray] H fun r H' => ∃ c' cc' g gc, r = .agg (stC 0 2 ep 0 recs (.slice (some ⟨c', 0, none⟩) 1 cc') nil0).toArray ∧ H.size ≤ c' ∧ H.size ≤ g ∧ 1 ≤ cc'  ∧ Mem H [] [(g, [.int .i64 0, .int .i64 1]), (c', copC (.slice (some ⟨g, 0, none⟩) 2 gc) st since tok at_)] H' := by
  refine spec_of Tryz.func60 rfl Tryz.ntmps60 rfl (fun W => ?_)
  refine Am.on (Mem.startR hc) ?_
  repeat (first | refine codeM (k := ?_) | refine condM (k := ?_) | refine offM (k := ?_) | refine offMn (k := ?_) | refine pureM (k := ?_) | refine loadM (k := ?_) | refine loadB (k := ?_) | refine storeM (k := ?_) | refine storeB (k := ?_))
  refine boxM rfl rfl rfl rfl (fun s hs => ?_)
  refine allocM rfl rfl rfl (fun y hy => ?_)
  repeat (first | refine codeM (k := ?_) | refine condM (k := ?_) | refine offM (k := ?_) | refine offMn (k := ?_) | refine pureM (k := ?_) | refine loadM (k := ?_) | refine loadB (k := ?_) | refine storeM (k := ?_) | refine storeB (k := ?_))
  refine callM rfl rfl rfl rfl rfl (fun Hc hm => cloneOwn0 Hc) ?_
  rintro Hc _ H1 hm ⟨rfl, rfl⟩
  refine Am.on hm ?_
  repeat (first | refine codeM (k := ?_) | refine condM (k := ?_) | refine offM (k := ?_) | refine offMn (k := ?_) | refine pureM (k := ?_) | refine loadM (k := ?_) | refine loadB (k := ?_) | refine storeM (k := ?_) | refine storeB (k := ?_))
  refine callM rfl rfl rfl rfl rfl (fun Hc hm => cloneCopy1 (hm.roOf (.r .here)) rfl (copC_one hsv.one _ _ _ _)) ?_
  rintro Hc _ H1 hm ⟨c', cc', rfl, hc', hcc', hm1⟩
  have hc2 := Nat.le_trans hm.size hc'
  refine Am.on (Mem.aft hm hm1 (.new (by first | assumption | omega) .nil)) ?_
  repeat (first | refine codeM (k := ?_) | refine condM (k := ?_) | refine offM (k := ?_) | refine offMn (k := ?_) | refine pureM (k := ?_) | refine loadM (k := ?_) | refine loadB (k := ?_) | refine storeM (k := ?_) | refine storeB (k := ?_))
  refine drawM [1, 4, 8] Tryz.mixed ?_
  first | refine dpM 0 (k := ?_) | refine doffM 0 (k := ?_) | refine dldM 0 rfl (k := ?_) | refine doffNM 0 (k := ?_) | refine dldB 0 rfl (k := ?_)
  first | refine dpM 1 (k := ?_) | refine doffM 1 (k := ?_) | refine dldM 1 rfl (k := ?_) | refine doffNM 1 (k := ?_) | refine dldB 1 rfl (k := ?_)
  first | refine dpM 2 (k := ?_) | refine doffM 2 (k := ?_) | refine dldM 2 rfl (k := ?_) | refine doffNM 2 (k := ?_) | refine dldB 2 rfl (k := ?_)
  first | refine dpM 3 (k := ?_) | refine doffM 3 (k := ?_) | refine dldM 3 rfl (k := ?_) | refine doffNM 3 (k := ?_) | refine dldB 3 rfl (k := ?_)
  first | refine dpM 4 (k := ?_) | refine doffM 4 (k := ?_) | refine dldM 4 rfl (k := ?_) | refine doffNM 4 (k := ?_) | refine dldB 4 rfl (k := ?_)
  first | refine dpM 5 (k := ?_) | refine doffM 5 (k := ?_) | refine dldM 5 rfl (k := ?_) | refine doffNM 5 (k := ?_) | refine dldB 5 rfl (k := ?_)
  first | refine dpM 6 (k := ?_) | refine doffM 6 (k := ?_) | refine dldM 6 rfl (k := ?_) | refine doffNM 6 (k := ?_) | refine dldB 6 rfl (k := ?_)
  first | refine dpM 7 (k := ?_) | refine doffM 7 (k := ?_) | refine dldM 7 rfl (k := ?_) | refine doffNM 7 (k := ?_) | refine dldB 7 rfl (k := ?_)
  refine dldN 8 (jobV sv) rfl rfl (.l .here) rfl (k := ?_)
  refine dxL 9 rfl (by kernel_rfl) rfl (fun Hx => ?_)
  refine callW rfl rfl rfl rfl (fun Hc hm => jobTwin_spec (hsv.on (hm.toExt (by repeat (first | exact Pick.nil | refine Pick.keep ?_ | refine Pick.drop (by first | assumption | omega) ?_))))) ?_
  rintro Hc _ H1 hm ⟨g, gc, rfl, hg, hgc, hm1⟩
  have hg2 := Nat.le_trans hm.size hg
  refine Am.on (Mem.aft hm hm1 (.new (by first | assumption | omega) .nil)) ?_
  first | refine leftA (k := ?_) | refine leftF (by kernel_rfl) ?_
  first | refine dpM 10 (k := ?_) | refine doffM 10 (k := ?_) | refine dldM 10 rfl (k := ?_) | refine doffNM 10 (k := ?_) | refine dldB 10 rfl (k := ?_)
  first | refine dpM 11 (k := ?_) | refine doffM 11 (k := ?_) | refine dldM 11 rfl (k := ?_) | refine doffNM 11 (k := ?_) | refine dldB 11 rfl (k := ?_)
  refine dxL 12 rfl (by kernel_rfl) rfl (fun Hx => ?_)
  refine storeNW (copC (.slice (some ⟨g, 0, none⟩) 2 gc) st since tok at_) rfl rfl rfl rfl rfl (.there .here) rfl rfl ?_
  first | refine leftA (k := ?_) | refine leftF (by kernel_rfl) ?_
  refine ddoneM (by kernel_rfl) ?_
  repeat (first | refine codeM (k := ?_) | refine condM (k := ?_) | refine offM (k := ?_) | refine offMn (k := ?_) | refine pureM (k := ?_) | refine loadM (k := ?_) | refine loadB (k := ?_) | refine storeM (k := ?_) | refine storeB (k := ?_))
  refine callM rfl rfl rfl rfl rfl (fun Hc hm => cloneResv0 Hc) ?_
  rintro Hc _ H1 hm ⟨rfl, rfl⟩
  refine Am.on hm ?_
  repeat (first | refine codeM (k := ?_) | refine condM (k := ?_) | refine offM (k := ?_) | refine offMn (k := ?_) | refine pureM (k := ?_) | refine loadM (k := ?_) | refine loadB (k := ?_) | refine storeM (k := ?_) | refine storeB (k := ?_))
  refine callM rfl rfl rfl rfl rfl (fun Hc hm => cloneSlot0 Hc) ?_
  rintro Hc _ H1 hm ⟨rfl, rfl⟩
  refine Am.on hm ?_
  repeat (first | refine codeM (k := ?_) | refine condM (k := ?_) | refine offM (k := ?_) | refine offMn (k := ?_) | refine pureM (k := ?_) | refine loadM (k := ?_) | refine loadB (k := ?_) | refine storeM (k := ?_) | refine storeB (k := ?_))
  refine callM rfl rfl rfl rfl rfl (fun Hc hm => cloneUse0 Hc) ?_
  rintro Hc _ H1 hm ⟨rfl, rfl⟩
  refine Am.on hm ?_
  repeat (first | refine codeM (k := ?_) | refine condM (k := ?_) | refine offM (k := ?_) | refine offMn (k := ?_) | refine pureM (k := ?_) | refine loadM (k := ?_) | refine loadB (k := ?_) | refine storeM (k := ?_) | refine storeB (k := ?_))
  exact retC1M rfl rfl (.there (.there .here)) rfl rfl (fun H hm => ⟨c', cc', g, gc,  rfl, hc2, hg2, hcc' , hm.pick (by repeat (first | exact Pick.nil | refine Pick.keep ?_ | refine Pick.drop (by first | assumption | omega) ?_))⟩)
set_option maxHeartbeats 4000000 in
theorem twinC_spec {H : Heap} {ep recs c cc rb rc : Nat} {sv : Value} {st since tok at_ f t n u : Int} (hc : Ro H c (copC sv st since tok at_)) (hsv : Sv H sv) (hr : Ro H rb (resvC f t n u)) :
    Spc Tryz.prog 60 #[.agg (stC 0 2 ep 0 recs (.slice (some ⟨c, 0, none⟩) 1 cc) (.slice (some ⟨rb, 0, none⟩) 1 rc)).toArray] H fun r H' => ∃ c' cc' g gc r' rc', r = .agg (stC 0 2 ep 0 recs (.slice (some ⟨c', 0, none⟩) 1 cc') (.slice (some ⟨r', 0, none⟩) 1 rc')).toArray ∧ H.size ≤ c' ∧ H.size ≤ g ∧ 1 ≤ cc' ∧ H.size ≤ r' ∧ Mem H [] [(r', resvC f t n u), (g, [.int .i64 0, .int .i64 1]), (c', copC (.slice (some ⟨g, 0, none⟩) 2 gc) st since tok at_)] H' := by
  refine spec_of Tryz.func60 rfl Tryz.ntmps60 rfl (fun W => ?_)
  refine Am.on ((Mem.startR hc).andR hr) ?_
  repeat (first | refine codeM (k := ?_) | refine condM (k := ?_) | refine offM (k := ?_) | refine offMn (k := ?_) | refine pureM (k := ?_) | refine loadM (k := ?_) | refine loadB (k := ?_) | refine storeM (k := ?_) | refine storeB (k := ?_))
  refine boxM rfl rfl rfl rfl (fun s hs => ?_)
  refine allocM rfl rfl rfl (fun y hy => ?_)
  repeat (first | refine codeM (k := ?_) | refine condM (k := ?_) | refine offM (k := ?_) | refine offMn (k := ?_) | refine pureM (k := ?_) | refine loadM (k := ?_) | refine loadB (k := ?_) | refine storeM (k := ?_) | refine storeB (k := ?_))
  refine callM rfl rfl rfl rfl rfl (fun Hc hm => cloneOwn0 Hc) ?_
  rintro Hc _ H1 hm ⟨rfl, rfl⟩
  refine Am.on hm ?_
  repeat (first | refine codeM (k := ?_) | refine condM (k := ?_) | refine offM (k := ?_) | refine offMn (k := ?_) | refine pureM (k := ?_) | refine loadM (k := ?_) | refine loadB (k := ?_) | refine storeM (k := ?_) | refine storeB (k := ?_))
  refine callM rfl rfl rfl rfl rfl (fun Hc hm => cloneCopy1 (hm.roOf (.r (.there .here))) rfl (copC_one hsv.one _ _ _ _)) ?_
  rintro Hc _ H1 hm ⟨c', cc', rfl, hc', hcc', hm1⟩
  have hc2 := Nat.le_trans hm.size hc'
  refine Am.on (Mem.aft hm hm1 (.new (by first | assumption | omega) .nil)) ?_
  repeat (first | refine codeM (k := ?_) | refine condM (k := ?_) | refine offM (k := ?_) | refine offMn (k := ?_) | refine pureM (k := ?_) | refine loadM (k := ?_) | refine loadB (k := ?_) | refine storeM (k := ?_) | refine storeB (k := ?_))
  refine drawM [1, 4, 8] Tryz.mixed ?_
  first | refine dpM 0 (k := ?_) | refine doffM 0 (k := ?_) | refine dldM 0 rfl (k := ?_) | refine doffNM 0 (k := ?_) | refine dldB 0 rfl (k := ?_)
  first | refine dpM 1 (k := ?_) | refine doffM 1 (k := ?_) | refine dldM 1 rfl (k := ?_) | refine doffNM 1 (k := ?_) | refine dldB 1 rfl (k := ?_)
  first | refine dpM 2 (k := ?_) | refine doffM 2 (k := ?_) | refine dldM 2 rfl (k := ?_) | refine doffNM 2 (k := ?_) | refine dldB 2 rfl (k := ?_)
  first | refine dpM 3 (k := ?_) | refine doffM 3 (k := ?_) | refine dldM 3 rfl (k := ?_) | refine doffNM 3 (k := ?_) | refine dldB 3 rfl (k := ?_)
  first | refine dpM 4 (k := ?_) | refine doffM 4 (k := ?_) | refine dldM 4 rfl (k := ?_) | refine doffNM 4 (k := ?_) | refine dldB 4 rfl (k := ?_)
  first | refine dpM 5 (k := ?_) | refine doffM 5 (k := ?_) | refine dldM 5 rfl (k := ?_) | refine doffNM 5 (k := ?_) | refine dldB 5 rfl (k := ?_)
  first | refine dpM 6 (k := ?_) | refine doffM 6 (k := ?_) | refine dldM 6 rfl (k := ?_) | refine doffNM 6 (k := ?_) | refine dldB 6 rfl (k := ?_)
  first | refine dpM 7 (k := ?_) | refine doffM 7 (k := ?_) | refine dldM 7 rfl (k := ?_) | refine doffNM 7 (k := ?_) | refine dldB 7 rfl (k := ?_)
  refine dldN 8 (jobV sv) rfl rfl (.l .here) rfl (k := ?_)
  refine dxL 9 rfl (by kernel_rfl) rfl (fun Hx => ?_)
  refine callW rfl rfl rfl rfl (fun Hc hm => jobTwin_spec (hsv.on (hm.toExt (by repeat (first | exact Pick.nil | refine Pick.keep ?_ | refine Pick.drop (by first | assumption | omega) ?_))))) ?_
  rintro Hc _ H1 hm ⟨g, gc, rfl, hg, hgc, hm1⟩
  have hg2 := Nat.le_trans hm.size hg
  refine Am.on (Mem.aft hm hm1 (.new (by first | assumption | omega) .nil)) ?_
  first | refine leftA (k := ?_) | refine leftF (by kernel_rfl) ?_
  first | refine dpM 10 (k := ?_) | refine doffM 10 (k := ?_) | refine dldM 10 rfl (k := ?_) | refine doffNM 10 (k := ?_) | refine dldB 10 rfl (k := ?_)
  first | refine dpM 11 (k := ?_) | refine doffM 11 (k := ?_) | refine dldM 11 rfl (k := ?_) | refine doffNM 11 (k := ?_) | refine dldB 11 rfl (k := ?_)
  refine dxL 12 rfl (by kernel_rfl) rfl (fun Hx => ?_)
  refine storeNW (copC (.slice (some ⟨g, 0, none⟩) 2 gc) st since tok at_) rfl rfl rfl rfl rfl (.there .here) rfl rfl ?_
  first | refine leftA (k := ?_) | refine leftF (by kernel_rfl) ?_
  refine ddoneM (by kernel_rfl) ?_
  repeat (first | refine codeM (k := ?_) | refine condM (k := ?_) | refine offM (k := ?_) | refine offMn (k := ?_) | refine pureM (k := ?_) | refine loadM (k := ?_) | refine loadB (k := ?_) | refine storeM (k := ?_) | refine storeB (k := ?_))
  refine callM rfl rfl rfl rfl rfl (fun Hc hm => cloneResv1 (hm.roOf (.r .here)) rfl rfl) ?_
  rintro Hc _ H1 hm ⟨r', rc', rfl, hr', hrc', hm1⟩
  have hr2 := Nat.le_trans hm.size hr'
  refine Am.on (Mem.aft hm hm1 (.new (by first | assumption | omega) .nil)) ?_
  repeat (first | refine codeM (k := ?_) | refine condM (k := ?_) | refine offM (k := ?_) | refine offMn (k := ?_) | refine pureM (k := ?_) | refine loadM (k := ?_) | refine loadB (k := ?_) | refine storeM (k := ?_) | refine storeB (k := ?_))
  refine callM rfl rfl rfl rfl rfl (fun Hc hm => cloneSlot0 Hc) ?_
  rintro Hc _ H1 hm ⟨rfl, rfl⟩
  refine Am.on hm ?_
  repeat (first | refine codeM (k := ?_) | refine condM (k := ?_) | refine offM (k := ?_) | refine offMn (k := ?_) | refine pureM (k := ?_) | refine loadM (k := ?_) | refine loadB (k := ?_) | refine storeM (k := ?_) | refine storeB (k := ?_))
  refine callM rfl rfl rfl rfl rfl (fun Hc hm => cloneUse0 Hc) ?_
  rintro Hc _ H1 hm ⟨rfl, rfl⟩
  refine Am.on hm ?_
  repeat (first | refine codeM (k := ?_) | refine condM (k := ?_) | refine offM (k := ?_) | refine offMn (k := ?_) | refine pureM (k := ?_) | refine loadM (k := ?_) | refine loadB (k := ?_) | refine storeM (k := ?_) | refine storeB (k := ?_))
  exact retC1M rfl rfl (.there (.there (.there .here))) rfl rfl (fun H hm => ⟨c', cc', g, gc, r', rc', rfl, hc2, hg2, hcc' , hr2, hm.pick (by repeat (first | exact Pick.nil | refine Pick.keep ?_ | refine Pick.drop (by first | assumption | omega) ?_))⟩)
end Go.Proofs.YtlaobecajieaaaaGreat

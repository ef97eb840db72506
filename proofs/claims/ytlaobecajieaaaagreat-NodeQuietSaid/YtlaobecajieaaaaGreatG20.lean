/- A message heard: a copy sent. -/
import Derived.Test.YtlaobecajieaaaaGreatG19
namespace Go.Proofs.YtlaobecajieaaaaGreat
open Go Ev
set_option linter.unusedVariables false
set_option linter.unusedSimpArgs false
def job0C : List Value := [.int .i64 0, .int .i64 0, .int .i64 0, amt 0, .int .i64 0, .int .i64 0, .int .i64 0, .int .i64 0, nil0, .bool false]
def cop0C : List Value := [.int .i64 0, .int .i64 0, .int .i64 0, amt 0, .int .i64 0, .int .i64 0, .int .i64 0, .int .i64 0, nil0, .bool false, .int .i64 0, .int .i64 0, .int .i64 0, .int .i64 0, .int .i64 0, .int .i64 0, .int .i64 0]
def copyMC (sv : Value) : List Value := [.int .i64 1, .int .i64 0, .int .i64 0, .int .i64 0, .int .i64 0, .int .i64 0, .bool false, .int .i64 1, .int .i64 1, .int .i64 1, amt 1, .int .i64 5, .int .i64 3, .int .i64 0, .int .i64 0, sv, .bool true, nil0]
def plainMC (k tok t : Int) (on : Bool) : List Value := [.int .i64 k, .int .i64 1, .int .i64 1, .int .i64 tok, .int .i64 t, .int .i64 0, .bool on, .int .i64 0, .int .i64 0, .int .i64 0, amt 0, .int .i64 0, .int .i64 0, .int .i64 0, .int .i64 0, nil0, .bool false, nil0]
section
variable {P : Program} {n : Nat} {W : World} {env : Env} {H0 H : Heap} {R L L' : Bks} {Q : Exit → Act → World → Prop} {K : Act → World → Prop}
variable {ty : TypeId} {pos : String} {af : Array Edge} {gd : Option (Nat × Bool)}
theorem appNW {d nn c c2 sz sb es eb : Nat} {p q : Option Addr} {z ez : Value} {t e : TypeId} {dc : TypeDesc} {x y : Operand} [h : Ty P t (.slice e) sz sb z] [he : Ty P e dc es eb ez] (hx : ev env x = some (.slice p nn c)) (hy : ev env y = some (.slice q 0 c2)) (hl : nn ≤ c) (hn : Nat.blt d n = true)
    (k : Am n W ((d, .slice p nn c) :: env) H0 R L K) : Am n W env H0 R L (fun a w => Oper.wp P ⟨some d, .call ⟨.builtin .append, #[x, y], #[t, t]⟩, ty, pos, af, gd⟩ a w K Q) := fun H hm => W_run (r_append0 hx hy hl).runs rfl hn (k H hm)
end
theorem copyMC_one {sv : Value} (h : sv.oneCell' = true) : (copyMC sv).all (·.oneCell') = true := by
  simp only [copyMC, List.all_cons, List.all_nil, h]; rfl
attribute [local irreducible] Go.wpList Go.bodyPost Go.Code.wp Go.Exit.then Go.Exit.inBlock Go.Exit.noGoto Ev.wpAnyG Go.Oper.wp Ev.Back Ev.Left Ev.Spc Ev.At Ev.Pure Ev.Reads Ev.Runs Ev.Does Ev.Cell Ev.Am Ev.Has Ev.Kn Go.Code.rounds

theorem tcopyOf0 (H : Heap) (a b : Int) : Spc Tryz.prog 134 #[nil0, .agg #[.int .i64 a, .int .i64 b]] H fun r H' => Ext H H' ∧ r = .tuple #[.agg cop0C.toArray, .bool false] := by
  refine spec_of Tryz.func134 rfl Tryz.ntmps134 rfl (fun W => ?_)
  refine Am.new ?_
  repeat (first | refine codeM (k := ?_) | refine condM (k := ?_) | refine offM (k := ?_) | refine offMn (k := ?_) | refine pureM (k := ?_) | refine loadM (k := ?_) | refine loadB (k := ?_) | refine storeM (k := ?_) | refine storeB (k := ?_))
  refine boxM rfl rfl rfl rfl (fun x hx => ?_)
  refine allocM rfl rfl rfl (fun y hy => ?_)
  repeat (first | refine codeM (k := ?_) | refine condM (k := ?_) | refine offM (k := ?_) | refine offMn (k := ?_) | refine pureM (k := ?_) | refine loadM (k := ?_) | refine loadB (k := ?_) | refine storeM (k := ?_) | refine storeB (k := ?_))
  refine pM (p_build cop0C rfl rfl) rfl rfl rfl ?_
  repeat (first | refine codeM (k := ?_) | refine condM (k := ?_) | refine offM (k := ?_) | refine offMn (k := ?_) | refine pureM (k := ?_) | refine loadM (k := ?_) | refine loadB (k := ?_) | refine storeM (k := ?_) | refine storeB (k := ?_))
  exact retC2M rfl rfl rfl .here rfl rfl (fun H hm => ⟨hm.toExt (by repeat (first | exact Pick.nil | refine Pick.keep ?_ | refine Pick.drop (by first | assumption | omega) ?_)), rfl⟩)
set_option maxHeartbeats 2000000 in
theorem tcopyOf1 {H : Heap} {c cc : Nat} {sv : Value} {st since tok at_ : Int} (hc : Ro H c (copC sv st since tok at_)) (hv : sv.oneCell' = true) : Spc Tryz.prog 134 #[.slice (some ⟨c, 0, none⟩) 1 cc, .agg #[.int .i64 1, .int .i64 1]] H fun r H' => Ext H H' ∧ r = .tuple #[.agg (copC sv st since tok at_).toArray, .bool true] := by
  have hall := copC_one hv st since tok at_
  refine spec_of Tryz.func134 rfl Tryz.ntmps134 rfl (fun W => ?_)
  refine Am.on (Mem.startR hc) ?_
  repeat (first | refine codeM (k := ?_) | refine condM (k := ?_) | refine offM (k := ?_) | refine offMn (k := ?_) | refine pureM (k := ?_) | refine loadM (k := ?_) | refine loadB (k := ?_) | refine storeM (k := ?_) | refine storeB (k := ?_))
  refine boxM rfl rfl rfl rfl (fun x hx => ?_)
  refine allocM rfl rfl rfl (fun y hy => ?_)
  repeat (first | refine codeM (k := ?_) | refine condM (k := ?_) | refine offM (k := ?_) | refine offMn (k := ?_) | refine pureM (k := ?_) | refine loadM (k := ?_) | refine loadB (k := ?_) | refine storeM (k := ?_) | refine storeB (k := ?_))
  refine allocM rfl rfl rfl (fun z hz => ?_)
  refine storeB (h1 := hall) (k := ?_)
  repeat (first | refine codeM (k := ?_) | refine condM (k := ?_) | refine offM (k := ?_) | refine offMn (k := ?_) | refine pureM (k := ?_) | refine loadM (k := ?_) | refine loadB (k := ?_) | refine storeM (k := ?_) | refine storeB (k := ?_))
  refine loadN [.int .i64 1, .int .i64 1] rfl (.l .here) rfl rfl rfl rfl rfl ?_
  repeat (first | refine codeM (k := ?_) | refine condM (k := ?_) | refine offM (k := ?_) | refine offMn (k := ?_) | refine pureM (k := ?_) | refine loadM (k := ?_) | refine loadB (k := ?_) | refine storeM (k := ?_) | refine storeB (k := ?_))
  refine pX (p_true (p_eqID rfl rfl) ⟨rfl, rfl⟩) rfl rfl rfl ?_
  repeat (first | refine codeM (k := ?_) | refine condM (k := ?_) | refine offM (k := ?_) | refine offMn (k := ?_) | refine pureM (k := ?_) | refine loadM (k := ?_) | refine loadB (k := ?_) | refine storeM (k := ?_) | refine storeB (k := ?_))
  refine storeB (h1 := hall) (k := ?_)
  repeat (first | refine codeM (k := ?_) | refine condM (k := ?_) | refine offM (k := ?_) | refine offMn (k := ?_) | refine pureM (k := ?_) | refine loadM (k := ?_) | refine loadB (k := ?_) | refine storeM (k := ?_) | refine storeB (k := ?_))
  exact retC2M rfl rfl rfl (.there .here) rfl rfl (fun H hm => ⟨hm.toExt (by repeat (first | exact Pick.nil | refine Pick.keep ?_ | refine Pick.drop (by first | assumption | omega) ?_)), rfl⟩)
set_option maxHeartbeats 4000000 in
theorem sibCome_spec {H : Heap} {sv : Value} {now : Int} (hsv : Sv H sv) : Spc Tryz.prog 292 #[.bool false, .bool true, .agg (copyMC sv).toArray, .int .i64 now] H fun r H' => ∃ a b g gc, r = .tuple #[.slice (some ⟨a, 0, none⟩) 1 1, .slice (some ⟨b, 0, none⟩) 1 1] ∧ H.size ≤ a ∧ H.size ≤ b ∧ H.size ≤ g ∧ 2 ≤ gc ∧ Mem H [] [(a, copyRC (.slice (some ⟨g, 0, none⟩) 2 gc) now), (g, [.int .i64 0, .int .i64 1]), (b, plainMC 2 0 0 false)] H' := by
  have hv1 := hsv.one
  have hv2 := hsv.cells
  refine spec_of Tryz.func292 rfl Tryz.ntmps292 rfl (fun W => ?_)
  refine Am.new ?_
  repeat (first | refine codeM (k := ?_) | refine condM (k := ?_) | refine offM (k := ?_) | refine offMn (k := ?_) | refine pureM (k := ?_) | refine loadM (k := ?_) | refine loadB (k := ?_) | refine storeM (k := ?_) | refine storeB (k := ?_))
  refine boxM rfl rfl rfl rfl (fun x hx => ?_)
  repeat (first | refine codeM (k := ?_) | refine condM (k := ?_) | refine offM (k := ?_) | refine offMn (k := ?_) | refine pureM (k := ?_) | refine loadM (k := ?_) | refine loadB (k := ?_) | refine storeM (k := ?_) | refine storeB (k := ?_))
  refine loadN [.int .i64 1, .int .i64 1] rfl (.l .here) rfl rfl rfl rfl rfl ?_
  refine pM (p_build (plainMC 2 0 0 false) rfl rfl) rfl rfl rfl ?_
  refine bs1M rfl rfl rfl (by decide) rfl rfl (fun b hb => ?_)
  repeat (first | refine codeM (k := ?_) | refine condM (k := ?_) | refine offM (k := ?_) | refine offMn (k := ?_) | refine pureM (k := ?_) | refine loadM (k := ?_) | refine loadB (k := ?_) | refine storeM (k := ?_) | refine storeB (k := ?_))
  refine loadN (jobV sv) rfl (.l (.there .here)) rfl rfl rfl rfl rfl ?_
  refine allocM rfl rfl rfl (fun y hy => ?_)
  refine storeB (h1 := by simp only [jobV, List.all_cons, List.all_nil, hv1]; rfl) (k := ?_)
  repeat (first | refine codeM (k := ?_) | refine condM (k := ?_) | refine offM (k := ?_) | refine offMn (k := ?_) | refine pureM (k := ?_) | refine loadM (k := ?_) | refine loadB (k := ?_) | refine storeM (k := ?_) | refine storeB (k := ?_))
  refine callM rfl rfl rfl rfl rfl (fun Hc hm => cloneSites (hsv.on (hm.toExt (by repeat (first | exact Pick.nil | refine Pick.keep ?_ | refine Pick.drop (by first | assumption | omega) ?_))))) ?_
  rintro Hc _ H1 hm ⟨g, gc, rfl, hg, hgc, hm1⟩
  have hg2 := Nat.le_trans hm.size hg
  refine Am.on (Mem.aft hm hm1 (.new (by first | assumption | omega) .nil)) ?_
  repeat (first | refine codeM (k := ?_) | refine condM (k := ?_) | refine offM (k := ?_) | refine offMn (k := ?_) | refine pureM (k := ?_) | refine loadM (k := ?_) | refine loadB (k := ?_) | refine storeM (k := ?_) | refine storeB (k := ?_))
  refine pM (p_build (copyRC (.slice (some ⟨g, 0, none⟩) 2 gc) now) rfl rfl) rfl rfl rfl ?_
  refine bs1M rfl rfl rfl (by decide) rfl rfl (fun a ha => ?_)
  repeat (first | refine codeM (k := ?_) | refine condM (k := ?_) | refine offM (k := ?_) | refine offMn (k := ?_) | refine pureM (k := ?_) | refine loadM (k := ?_) | refine loadB (k := ?_) | refine storeM (k := ?_) | refine storeB (k := ?_))
  exact ret2M rfl rfl rfl (fun H hm => ⟨a, b, g, gc, rfl, ha, hb, hg2, hgc, hm.sel (.k (s := (.k (s := (.k (s := (by repeat (first | exact Sel.nil | refine Sel.drop (by first | assumption | omega) ?_))))))))⟩)
set_option maxHeartbeats 4000000 in
theorem sibHandle_spec {H : Heap} {sv : Value} {now : Int} (hsv : Sv H sv) : Spc Tryz.prog 229 #[.agg cop0C.toArray, .bool false, .bool true, .agg (copyMC sv).toArray, .int .i64 now] H fun r H' => ∃ a b g gc, r = .tuple #[.slice (some ⟨a, 0, none⟩) 1 1, .slice (some ⟨b, 0, none⟩) 1 1] ∧ H.size ≤ a ∧ H.size ≤ b ∧ H.size ≤ g ∧ 2 ≤ gc ∧ Mem H [] [(a, copyRC (.slice (some ⟨g, 0, none⟩) 2 gc) now), (g, [.int .i64 0, .int .i64 1]), (b, plainMC 2 0 0 false)] H' := by
  have hv1 := hsv.one
  refine spec_of Tryz.func229 rfl Tryz.ntmps229 rfl (fun W => ?_)
  refine Am.new ?_
  repeat (first | refine codeM (k := ?_) | refine condM (k := ?_) | refine offM (k := ?_) | refine offMn (k := ?_) | refine pureM (k := ?_) | refine loadM (k := ?_) | refine loadB (k := ?_) | refine storeM (k := ?_) | refine storeB (k := ?_))
  refine boxM rfl rfl rfl rfl (fun x hx => ?_)
  refine boxM rfl rfl rfl rfl (fun y hy => ?_)
  repeat (first | refine codeM (k := ?_) | refine condM (k := ?_) | refine offM (k := ?_) | refine offMn (k := ?_) | refine pureM (k := ?_) | refine loadM (k := ?_) | refine loadB (k := ?_) | refine storeM (k := ?_) | refine storeB (k := ?_))
  refine callM rfl rfl rfl rfl rfl (fun Hc hm => sibCome_spec (hsv.on (hm.toExt (by repeat (first | exact Pick.nil | refine Pick.keep ?_ | refine Pick.drop (by first | assumption | omega) ?_))))) ?_
  rintro Hc _ H1 hm ⟨a, b, g, gc, rfl, ha, hb, hg, hgc, hm1⟩
  have ha2 := Nat.le_trans hm.size ha
  have hb2 := Nat.le_trans hm.size hb
  have hg2 := Nat.le_trans hm.size hg
  refine Am.on (Mem.aft hm hm1 (.new (by first | assumption | omega) (.new (by first | assumption | omega) (.new (by first | assumption | omega) .nil)))) ?_
  repeat (first | refine codeM (k := ?_) | refine condM (k := ?_) | refine offM (k := ?_) | refine offMn (k := ?_) | refine pureM (k := ?_) | refine loadM (k := ?_) | refine loadB (k := ?_) | refine storeM (k := ?_) | refine storeB (k := ?_))
  exact ret2M rfl rfl rfl (fun H hm => ⟨a, b, g, gc, rfl, ha2, hb2, hg2, hgc, hm.sel (.k (s := (.k (s := (.k (s := (by repeat (first | exact Sel.nil | refine Sel.drop (by first | assumption | omega) ?_))))))))⟩)
set_option maxHeartbeats 4000000 in
theorem asSite_spec {H : Heap} {sv : Value} {now : Int} {ep recs : Nat} (hsv : Sv H sv) : Spc Tryz.prog 133 #[.agg (stC 0 2 ep 0 recs nil0 nil0).toArray, .int .i64 1, .agg (copyMC sv).toArray, .int .i64 now] H fun r H' => ∃ a b g gc, r = .tuple #[.slice (some ⟨a, 0, none⟩) 1 1, .slice (some ⟨b, 0, none⟩) 1 1] ∧ H.size ≤ a ∧ H.size ≤ b ∧ H.size ≤ g ∧ 2 ≤ gc ∧ Mem H [] [(a, copyRC (.slice (some ⟨g, 0, none⟩) 2 gc) now), (g, [.int .i64 0, .int .i64 1]), (b, plainMC 2 0 0 false)] H' := by
  have hv1 := hsv.one
  refine spec_of Tryz.func133 rfl Tryz.ntmps133 rfl (fun W => ?_)
  refine Am.new ?_
  repeat (first | refine codeM (k := ?_) | refine condM (k := ?_) | refine offM (k := ?_) | refine offMn (k := ?_) | refine pureM (k := ?_) | refine loadM (k := ?_) | refine loadB (k := ?_) | refine storeM (k := ?_) | refine storeB (k := ?_))
  refine boxM rfl rfl rfl rfl (fun x hx => ?_)
  repeat (first | refine codeM (k := ?_) | refine condM (k := ?_) | refine offM (k := ?_) | refine offMn (k := ?_) | refine pureM (k := ?_) | refine loadM (k := ?_) | refine loadB (k := ?_) | refine storeM (k := ?_) | refine storeB (k := ?_))
  refine boxM rfl rfl rfl rfl (fun y hy => ?_)
  repeat (first | refine codeM (k := ?_) | refine condM (k := ?_) | refine offM (k := ?_) | refine offMn (k := ?_) | refine pureM (k := ?_) | refine loadM (k := ?_) | refine loadB (k := ?_) | refine storeM (k := ?_) | refine storeB (k := ?_))
  refine loadN [.int .i64 0, .int .i64 0] rfl (.l .here) rfl rfl rfl rfl rfl ?_
  refine allocM rfl rfl rfl (fun z hz => ?_)
  repeat (first | refine codeM (k := ?_) | refine condM (k := ?_) | refine offM (k := ?_) | refine offMn (k := ?_) | refine pureM (k := ?_) | refine loadM (k := ?_) | refine loadB (k := ?_) | refine storeM (k := ?_) | refine storeB (k := ?_))
  refine loadN [.int .i64 1, .int .i64 1] rfl (.l (.there .here)) rfl rfl rfl rfl rfl ?_
  repeat (first | refine codeM (k := ?_) | refine condM (k := ?_) | refine offM (k := ?_) | refine offMn (k := ?_) | refine pureM (k := ?_) | refine loadM (k := ?_) | refine loadB (k := ?_) | refine storeM (k := ?_) | refine storeB (k := ?_))
  refine callM rfl rfl rfl rfl rfl (fun Hc hm => tcopyOf0 Hc 1 1) ?_
  rintro Hc _ H1 hm ⟨x1, rfl⟩
  refine Am.on (hm.ext x1) ?_
  repeat (first | refine codeM (k := ?_) | refine condM (k := ?_) | refine offM (k := ?_) | refine offMn (k := ?_) | refine pureM (k := ?_) | refine loadM (k := ?_) | refine loadB (k := ?_) | refine storeM (k := ?_) | refine storeB (k := ?_))
  refine allocM rfl rfl rfl (fun w hw => ?_)
  repeat (first | refine codeM (k := ?_) | refine condM (k := ?_) | refine offM (k := ?_) | refine offMn (k := ?_) | refine pureM (k := ?_) | refine loadM (k := ?_) | refine loadB (k := ?_) | refine storeM (k := ?_) | refine storeB (k := ?_))
  refine callM rfl rfl rfl rfl rfl (fun Hc hm => sibHandle_spec (hsv.on (hm.toExt (by repeat (first | exact Pick.nil | refine Pick.keep ?_ | refine Pick.drop (by first | assumption | omega) ?_))))) ?_
  rintro Hc _ H1 hm ⟨a, b, g, gc, rfl, ha, hb, hg, hgc, hm1⟩
  have ha2 := Nat.le_trans hm.size ha
  have hb2 := Nat.le_trans hm.size hb
  have hg2 := Nat.le_trans hm.size hg
  refine Am.on (Mem.aft hm hm1 (.new (by first | assumption | omega) (.new (by first | assumption | omega) (.new (by first | assumption | omega) .nil)))) ?_
  repeat (first | refine codeM (k := ?_) | refine condM (k := ?_) | refine offM (k := ?_) | refine offMn (k := ?_) | refine pureM (k := ?_) | refine loadM (k := ?_) | refine loadB (k := ?_) | refine storeM (k := ?_) | refine storeB (k := ?_))
  exact ret2M rfl rfl rfl (fun H hm => ⟨a, b, g, gc, rfl, ha2, hb2, hg2, hgc, hm.sel (.k (s := (.k (s := (.k (s := (by repeat (first | exact Sel.nil | refine Sel.drop (by first | assumption | omega) ?_))))))))⟩)
set_option maxHeartbeats 8000000 in
theorem heardC_spec {H : Heap} {sv : Value} {now : Int} {ep recs : Nat} (op : Bool) (hsv : Sv H sv) (h0 : 0 ≤ now) (h1 : now ≤ 1099511627776) (hr : recs < 1000000) : Spc Tryz.prog 67 #[.agg (stC 0 2 ep 0 recs nil0 nil0).toArray, .int .i64 1, .agg (copyMC sv).toArray, .int .i64 now, .bool op] H fun r H' => ∃ a ac b g gc, r = .tuple #[.slice (some ⟨a, 0, none⟩) 1 ac, .slice (some ⟨b, 0, none⟩) 1 1] ∧ H.size ≤ a ∧ H.size ≤ b ∧ H.size ≤ g ∧ 1 ≤ ac ∧ 2 ≤ gc ∧ Mem H [] [(a, copyRC (.slice (some ⟨g, 0, none⟩) 2 gc) now), (g, [.int .i64 0, .int .i64 1]), (b, plainMC 2 0 0 false)] H' := by
  have hv1 := hsv.one
  refine spec_of Tryz.func67 rfl Tryz.ntmps67 rfl (fun W => ?_)
  refine Am.new ?_
  repeat (first | refine codeM (k := ?_) | refine condM (k := ?_) | refine offM (k := ?_) | refine offMn (k := ?_) | refine pureM (k := ?_) | refine loadM (k := ?_) | refine loadB (k := ?_) | refine storeM (k := ?_) | refine storeB (k := ?_))
  refine boxM rfl rfl rfl rfl (fun x hx => ?_)
  refine boxM rfl rfl rfl rfl (fun y hy => ?_)
  repeat (first | refine codeM (k := ?_) | refine condM (k := ?_) | refine offM (k := ?_) | refine offMn (k := ?_) | refine pureM (k := ?_) | refine loadM (k := ?_) | refine loadB (k := ?_) | refine storeM (k := ?_) | refine storeB (k := ?_))
  refine callM rfl rfl rfl rfl rfl (fun Hc hm => asSite_spec (hsv.on (hm.toExt (by repeat (first | exact Pick.nil | refine Pick.keep ?_ | refine Pick.drop (by first | assumption | omega) ?_))))) ?_
  rintro Hc _ H1 hm ⟨a, b, g, gc, rfl, ha, hb, hg, hgc, hm1⟩
  have ha2 := Nat.le_trans hm.size ha
  have hb2 := Nat.le_trans hm.size hb
  have hg2 := Nat.le_trans hm.size hg
  refine Am.on (Mem.aft hm hm1 (.new (by first | assumption | omega) (.new (by first | assumption | omega) (.new (by first | assumption | omega) .nil)))) ?_
  repeat (first | refine codeM (k := ?_) | refine condM (k := ?_) | refine offM (k := ?_) | refine offMn (k := ?_) | refine pureM (k := ?_) | refine loadM (k := ?_) | refine loadB (k := ?_) | refine storeM (k := ?_) | refine storeB (k := ?_))
  refine pM (p_build (stC 0 2 ep 0 recs nil0 nil0 ++ [nil0]) rfl rfl) rfl rfl rfl ?_
  refine boxM (ys := stC 0 2 ep 0 recs nil0 nil0 ++ [nil0]) rfl rfl rfl rfl (fun m hmm => ?_)
  repeat (first | refine codeM (k := ?_) | refine condM (k := ?_) | refine offM (k := ?_) | refine offMn (k := ?_) | refine pureM (k := ?_) | refine loadM (k := ?_) | refine loadB (k := ?_) | refine storeM (k := ?_) | refine storeB (k := ?_))
  refine callM rfl rfl rfl rfl rfl (fun Hc hm => addC_spec (hm.has1 .here) (hm.has1 (.there (.there (.there .here)))).ro (Sv.of (hm.has1 (.there (.there .here)))) (fun e => by have h2 := hm.nd; subst e; simp [keys] at h2) (fun e => by have h2 := hm.nd; simp only [Value.ownBlock, Option.some.injEq] at e; subst e; simp [keys] at h2) h0 h1 hr) ?_
  rintro Hc _ H1 hm ⟨rfl, c2, cc2, g2, gc2, q, qc, hc2, hg3, hq, hqc, hm1⟩
  have hc3 := Nat.le_trans hm.size hc2
  have hg4 := Nat.le_trans hm.size hg3
  have hq2 := Nat.le_trans hm.size hq
  refine Am.on (Mem.aft hm hm1 (.new (by first | assumption | omega) (.new (by first | assumption | omega) (.new (by first | assumption | omega) (.upd (by first | exact .here | exact .there .here | exact .there (.there .here) | exact .there (.there (.there .here)) | exact .there (.there (.there (.there .here))) | exact .there (.there (.there (.there (.there .here)))) | exact .there (.there (.there (.there (.there (.there .here)))))) .nil))))) ?_
  repeat (first | refine codeM (k := ?_) | refine condM (k := ?_) | refine offM (k := ?_) | refine offMn (k := ?_) | refine pureM (k := ?_) | refine loadM (k := ?_) | refine loadB (k := ?_) | refine storeM (k := ?_) | refine storeB (k := ?_))
  exact ret2M rfl rfl rfl (fun H hm => ⟨q, qc, b, g, gc, rfl, hq2, hb2, hg2, hqc, hgc, hm.sel (.k (s := (.k (s := (.k (s := (by repeat (first | exact Sel.nil | refine Sel.drop (by first | assumption | omega) ?_))))))))⟩)
end Go.Proofs.YtlaobecajieaaaaGreat

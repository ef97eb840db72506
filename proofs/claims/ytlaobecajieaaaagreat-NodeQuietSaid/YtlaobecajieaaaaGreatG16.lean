/- A profile from which one place is taken; a reservation put to none. -/
import Derived.Test.YtlaobecajieaaaaGreatG15
import Derived.Test.YtlaobecajieaaaaGreatG14
import Derived.Test.YtlaobecajieaaaaGreatG13
namespace Go.Proofs.YtlaobecajieaaaaGreat
open Go Ev
set_option linter.unusedVariables false
set_option linter.unusedSimpArgs false
theorem Ro.ofOwn {H : Heap} {e : TypeId} {size g nn c : Nat} {xs : List Value} (h : Own H 0 e size (.slice (some ⟨g, 0, none⟩) nn c) nn xs) : Ro H g xs := (Has.own h).ro
theorem own_cap {H : Heap} {e : TypeId} {size g nn c : Nat} {xs : List Value} (h : Own H 0 e size (.slice (some ⟨g, 0, none⟩) nn c) nn xs) : nn ≤ c := by
  rcases h.form with ⟨e, _⟩ | ⟨_, _, e, _, _, h, _⟩
  · cases e
  · cases e; exact h
attribute [local irreducible] Go.wpList Go.bodyPost Go.Code.wp Go.Exit.then Go.Exit.inBlock Go.Exit.noGoto Ev.wpAnyG Go.Oper.wp Ev.Back Ev.Left Ev.Spc Ev.At Ev.Pure Ev.Reads Ev.Runs Ev.Does Ev.Cell Ev.Am Ev.Has Ev.Kn Go.Code.rounds

theorem search1 {H : Heap} {p g c : Nat} {f t : Int} {xs : List Value} (hp : Ro H p (profC (.slice (some ⟨g, 0, none⟩) 1 c))) (hg : Ro H g (.int .i64 f :: xs)) (h : f ≤ t) : Spc Tryz.prog 262 #[ptr p, .int .i64 t] H fun r H' => Ext H H' ∧ r = .int .i64 1 := by
  have cl : ∀ H a b, Ro H a [ptr p] → Ro H b [.int .i64 t] → Ro H p (profC (.slice (some ⟨g, 0, none⟩) 1 c)) → Ro H g (.int .i64 f :: xs) → Spc Tryz.prog 309 #[.int .i64 0, ptr a, ptr b] H fun r H' => Ext H H' ∧ r = .bool false := by
    intro H a b ha hb hp hg
    refine spec_of Tryz.func309 rfl Tryz.ntmps309 rfl (fun W => ?_)
    refine Am.on ((((Mem.startR ha).andR hb).andR hp).andR hg) ?_
    repeat (first | refine codeM (k := ?_) | refine condM (k := ?_) | refine offM (k := ?_) | refine offMn (k := ?_) | refine pureM (k := ?_) | refine loadM (k := ?_) | refine loadB (k := ?_) | refine storeM (k := ?_) | refine storeB (k := ?_))
    refine drawM [0, 3, 7, 8] Tryz.mixed ?_
    first | refine dpM 0 (k := ?_) | refine doffM 0 (k := ?_) | refine dldM 0 rfl (k := ?_) | refine doffNM 0 (k := ?_) | refine dldB 0 rfl (k := ?_)
    first | refine dpM 1 (k := ?_) | refine doffM 1 (k := ?_) | refine dldM 1 rfl (k := ?_) | refine doffNM 1 (k := ?_) | refine dldB 1 rfl (k := ?_)
    first | refine dpM 2 (k := ?_) | refine doffM 2 (k := ?_) | refine dldM 2 rfl (k := ?_) | refine doffNM 2 (k := ?_) | refine dldB 2 rfl (k := ?_)
    first | refine dpM 3 (k := ?_) | refine doffM 3 (k := ?_) | refine dldM 3 rfl (k := ?_) | refine doffNM 3 (k := ?_) | refine dldB 3 rfl (k := ?_)
    first | refine dpM 4 (k := ?_) | refine doffM 4 (k := ?_) | refine dldM 4 rfl (k := ?_) | refine doffNM 4 (k := ?_) | refine dldB 4 rfl (k := ?_)
    first | refine dpM 5 (k := ?_) | refine doffM 5 (k := ?_) | refine dldM 5 rfl (k := ?_) | refine doffNM 5 (k := ?_) | refine dldB 5 rfl (k := ?_)
    first | refine dpM 6 (k := ?_) | refine doffM 6 (k := ?_) | refine dldM 6 rfl (k := ?_) | refine doffNM 6 (k := ?_) | refine dldB 6 rfl (k := ?_)
    first | refine dpM 7 (k := ?_) | refine doffM 7 (k := ?_) | refine dldM 7 rfl (k := ?_) | refine doffNM 7 (k := ?_) | refine dldB 7 rfl (k := ?_)
    first | refine dpM 8 (k := ?_) | refine doffM 8 (k := ?_) | refine dldM 8 rfl (k := ?_) | refine doffNM 8 (k := ?_) | refine dldB 8 rfl (k := ?_)
    first | refine dpM 9 (k := ?_) | refine doffM 9 (k := ?_) | refine dldM 9 rfl (k := ?_) | refine doffNM 9 (k := ?_) | refine dldB 9 rfl (k := ?_)
    first | refine dpM 10 (k := ?_) | refine doffM 10 (k := ?_) | refine dldM 10 rfl (k := ?_) | refine doffNM 10 (k := ?_) | refine dldB 10 rfl (k := ?_)
    refine ddoneM (by kernel_rfl) ?_
    repeat (first | refine codeM (k := ?_) | refine condM (k := ?_) | refine offM (k := ?_) | refine offMn (k := ?_) | refine pureM (k := ?_) | refine loadM (k := ?_) | refine loadB (k := ?_) | refine storeM (k := ?_) | refine storeB (k := ?_))
    exact ret1M rfl rfl (fun H hm => ⟨hm.toExt (by repeat (first | exact Pick.nil | refine Pick.keep ?_ | refine Pick.drop (by first | assumption | omega) ?_)), rfl⟩)
  have se : ∀ H a b, Ro H a [ptr p] → Ro H b [.int .i64 t] → Ro H p (profC (.slice (some ⟨g, 0, none⟩) 1 c)) → Ro H g (.int .i64 f :: xs) → Spc Tryz.prog 308 #[.int .i64 1, .func (.func 309) #[] #[ptr a, ptr b]] H fun r H' => Ext H H' ∧ r = .int .i64 1 := by
    intro H a b ha hb hp hg
    refine spec_of Tryz.func308 rfl Tryz.ntmps308 rfl (fun W => ?_)
    refine Am.on ((((Mem.startR ha).andR hb).andR hp).andR hg) ?_
    repeat (first | refine codeM (k := ?_) | refine condM (k := ?_) | refine offM (k := ?_) | refine offMn (k := ?_) | refine pureM (k := ?_) | refine loadM (k := ?_) | refine loadB (k := ?_) | refine storeM (k := ?_) | refine storeB (k := ?_))
    refine pM (p_convInt rfl) rfl rfl rfl ?_
    refine tellM 15 (.int .u64 (1 : Nat)) rfl (by rw [IntWalk.u64_in _ (by omega)]; rfl) ?_
    refine pM (p_shr64 (a := 1) (b := 1) rfl rfl (by decide)) rfl rfl rfl ?_
    refine pM (p_convInt rfl) rfl rfl rfl ?_
    refine tellM 17 (.int .i64 0) rfl (by rw [IntWalk.i64_in _ (by omega)]; rfl) ?_
    repeat (first | refine codeM (k := ?_) | refine condM (k := ?_) | refine offM (k := ?_) | refine offMn (k := ?_) | refine pureM (k := ?_) | refine loadM (k := ?_) | refine loadB (k := ?_) | refine storeM (k := ?_) | refine storeB (k := ?_))
    refine callMv (first := []) (cap := [ptr a, ptr b]) rfl rfl rfl rfl rfl rfl (fun H hm => cl H a b (hm.roOf (.r (.there (.there (.there .here))))) (hm.roOf (.r (.there (.there .here)))) (hm.roOf (.r (.there .here))) (hm.roOf (.r .here))) ?_
    rintro Hc _ H1 hm ⟨x1, rfl⟩
    refine Am.on (hm.ext x1) ?_
    repeat (first | refine codeM (k := ?_) | refine condM (k := ?_) | refine offM (k := ?_) | refine offMn (k := ?_) | refine pureM (k := ?_) | refine loadM (k := ?_) | refine loadB (k := ?_) | refine storeM (k := ?_) | refine storeB (k := ?_))
    exact ret1M rfl rfl (fun H hm => ⟨hm.toExt (by repeat (first | exact Pick.nil | refine Pick.keep ?_ | refine Pick.drop (by first | assumption | omega) ?_)), rfl⟩)
  refine spec_of Tryz.func262 rfl Tryz.ntmps262 rfl (fun W => ?_)
  refine Am.on ((Mem.startR hp).andR hg) ?_
  repeat (first | refine codeM (k := ?_) | refine condM (k := ?_) | refine offM (k := ?_) | refine offMn (k := ?_) | refine pureM (k := ?_) | refine loadM (k := ?_) | refine loadB (k := ?_) | refine storeM (k := ?_) | refine storeB (k := ?_))
  refine boxM rfl rfl rfl rfl (fun a ha => ?_)
  refine boxM rfl rfl rfl rfl (fun b hb => ?_)
  repeat (first | refine codeM (k := ?_) | refine condM (k := ?_) | refine offM (k := ?_) | refine offMn (k := ?_) | refine pureM (k := ?_) | refine loadM (k := ?_) | refine loadB (k := ?_) | refine storeM (k := ?_) | refine storeB (k := ?_))
  refine callM rfl rfl rfl rfl rfl (fun Hc hm => se Hc a b (hm.roOf (.l (.there .here))) (hm.roOf (.l .here)) (hm.roOf (.r (.there .here))) (hm.roOf (.r .here))) ?_
  rintro Hc _ H1 hm ⟨x1, rfl⟩
  refine Am.on (hm.ext x1) ?_
  repeat (first | refine codeM (k := ?_) | refine condM (k := ?_) | refine offM (k := ?_) | refine offMn (k := ?_) | refine pureM (k := ?_) | refine loadM (k := ?_) | refine loadB (k := ?_) | refine storeM (k := ?_) | refine storeB (k := ?_))
  exact ret1M rfl rfl (fun H hm => ⟨hm.toExt (by repeat (first | exact Pick.nil | refine Pick.keep ?_ | refine Pick.drop (by first | assumption | omega) ?_)), rfl⟩)
theorem ahead1 {H : Heap} {p g c : Nat} {f : Int} {xs : List Value} (hp : Ro H p (profC (.slice (some ⟨g, 0, none⟩) 1 c))) (hg : Ro H g (.int .i64 f :: amt 2 :: xs)) : Spc Tryz.prog 264 #[ptr p, .int .i64 1] H fun r H' => Ext H H' ∧ r = amt 2 := by
  refine spec_of Tryz.func264 rfl Tryz.ntmps264 rfl (fun W => ?_)
  refine Am.on ((Mem.startR hp).andR hg) ?_
  repeat (first | refine codeM (k := ?_) | refine condM (k := ?_) | refine offM (k := ?_) | refine offMn (k := ?_) | refine pureM (k := ?_) | refine loadM (k := ?_) | refine loadB (k := ?_) | refine storeM (k := ?_) | refine storeB (k := ?_))
  exact ret1M rfl rfl (fun H hm => ⟨hm.toExt (by repeat (first | exact Pick.nil | refine Pick.keep ?_ | refine Pick.drop (by first | assumption | omega) ?_)), rfl⟩)
theorem split0 {H : Heap} {p : Nat} (t : Int) (hp : Has H p (profC nil0)) : Spc Tryz.prog 302 #[ptr p, .int .i64 t] H fun r H' => r = .int .i64 0 ∧ ∃ g c, H.size ≤ g ∧ 1 ≤ c ∧ Mem H [] [(g, [.int .i64 t, amt 2]), (p, profC (.slice (some ⟨g, 0, none⟩) 1 c))] H' ∧ Own H' 0 340 2 (.slice (some ⟨g, 0, none⟩) 1 c) 1 [.int .i64 t, amt 2] := by
  refine spec_of Tryz.func302 rfl Tryz.ntmps302 rfl (fun W => ?_)
  refine Am.on (Mem.startL hp) ?_
  repeat (first | refine codeM (k := ?_) | refine condM (k := ?_) | refine offM (k := ?_) | refine offMn (k := ?_) | refine pureM (k := ?_) | refine loadM (k := ?_) | refine loadB (k := ?_) | refine storeM (k := ?_) | refine storeB (k := ?_))
  refine callM rfl rfl rfl rfl rfl (fun Hc hm => behind0 (hm.has1 .here).ro t) ?_
  rintro Hc _ H1 hm ⟨x1, rfl⟩
  refine Am.on (hm.ext x1) ?_
  repeat (first | refine codeM (k := ?_) | refine condM (k := ?_) | refine offM (k := ?_) | refine offMn (k := ?_) | refine pureM (k := ?_) | refine loadM (k := ?_) | refine loadB (k := ?_) | refine storeM (k := ?_) | refine storeB (k := ?_))
  refine drawM [4] Tryz.mixed ?_
  first | refine dpM 0 (k := ?_) | refine doffM 0 (k := ?_) | refine dldM 0 rfl (k := ?_) | refine doffNM 0 (k := ?_) | refine dldB 0 rfl (k := ?_)
  first | refine dpM 1 (k := ?_) | refine doffM 1 (k := ?_) | refine dldM 1 rfl (k := ?_) | refine doffNM 1 (k := ?_) | refine dldB 1 rfl (k := ?_)
  first | refine dpM 2 (k := ?_) | refine doffM 2 (k := ?_) | refine dldM 2 rfl (k := ?_) | refine doffNM 2 (k := ?_) | refine dldB 2 rfl (k := ?_)
  first | refine dpM 3 (k := ?_) | refine doffM 3 (k := ?_) | refine dldM 3 rfl (k := ?_) | refine doffNM 3 (k := ?_) | refine dldB 3 rfl (k := ?_)
  first | refine dpM 4 (k := ?_) | refine doffM 4 (k := ?_) | refine dldM 4 rfl (k := ?_) | refine doffNM 4 (k := ?_) | refine dldB 4 rfl (k := ?_)
  first | refine dpM 5 (k := ?_) | refine doffM 5 (k := ?_) | refine dldM 5 rfl (k := ?_) | refine doffNM 5 (k := ?_) | refine dldB 5 rfl (k := ?_)
  first | refine dpM 6 (k := ?_) | refine doffM 6 (k := ?_) | refine dldM 6 rfl (k := ?_) | refine doffNM 6 (k := ?_) | refine dldB 6 rfl (k := ?_)
  first | refine dpM 7 (k := ?_) | refine doffM 7 (k := ?_) | refine dldM 7 rfl (k := ?_) | refine doffNM 7 (k := ?_) | refine dldB 7 rfl (k := ?_)
  first | refine dpM 8 (k := ?_) | refine doffM 8 (k := ?_) | refine dldM 8 rfl (k := ?_) | refine doffNM 8 (k := ?_) | refine dldB 8 rfl (k := ?_)
  refine dxL 9 rfl (by kernel_rfl) rfl (fun Hx => ?_)
  refine callW rfl rfl rfl rfl (fun Hc hm => ahead0 (hm.has1 .here).ro) ?_
  rintro Hc _ H1 hm ⟨x1, rfl⟩
  refine Am.on (hm.ext x1) ?_
  first | refine leftA (k := ?_) | refine leftF (by kernel_rfl) ?_
  refine dqM 10 rfl (p_build [.int .i64 t, amt 2] rfl rfl) (k := ?_)
  refine dxL 11 rfl (by kernel_rfl) rfl (fun Hx => ?_)
  refine bs1W rfl rfl rfl (by decide) rfl (fun b hb => ?_)
  first | refine leftA (k := ?_) | refine leftF (by kernel_rfl) ?_
  refine dxL 12 rfl (by kernel_rfl) rfl (fun Hx => ?_)
  refine callW rfl rfl rfl rfl (fun Hc hm => insStep0 (hm.has1 .here).ro rfl (by intro u hu; simp at hu; rcases hu with rfl | rfl <;> rfl)) ?_
  rintro H2 _ H1 hm ⟨g, c, rfl, hg, x1, own⟩
  have hpl := (hm.has1 (.there .here)).lt
  have hs2 := hm.size
  have hm1 := hm.ext x1
  have hp0 : Mem H [] [(p, profC nil0)] H1 := hm1.pick (by repeat (first | exact Pick.nil | refine Pick.keep ?_ | refine Pick.drop (by first | assumption | omega) ?_))
  refine G_free (by kernel_rfl) ?_
  refine Am.on (Mem.startL (hm1.has1 (.there .here))) ?_
  first | refine dpM 13 (k := ?_) | refine doffM 13 (k := ?_) | refine dldM 13 rfl (k := ?_) | refine doffNM 13 (k := ?_) | refine dldB 13 rfl (k := ?_)
  first | refine dpM 14 (k := ?_) | refine doffM 14 (k := ?_) | refine dldM 14 rfl (k := ?_) | refine doffNM 14 (k := ?_) | refine dldB 14 rfl (k := ?_)
  refine dxL 15 rfl (by kernel_rfl) rfl (fun Hx => ?_)
  refine storeW rfl rfl rfl rfl rfl (.here) rfl ?_
  refine leftF (by kernel_rfl) ?_
  refine ddoneM (by kernel_rfl) ?_
  repeat (first | refine codeM (k := ?_) | refine condM (k := ?_) | refine offM (k := ?_) | refine offMn (k := ?_) | refine pureM (k := ?_) | refine loadM (k := ?_) | refine loadB (k := ?_) | refine storeM (k := ?_) | refine storeB (k := ?_))
  refine ret1M rfl rfl (fun H3 hm3 => ?_)
  have hm3 : Mem H1 [] [(p, profC (.slice (some ⟨g, 0, none⟩) 1 c))] H3 := hm3
  have own3 := own.keep hm3.kept (fun g' e => by simp only [Value.ownBlock, Option.some.injEq] at e; simp [keys]; omega)
  have h0 : Mem H [] [(p, profC (.slice (some ⟨g, 0, none⟩) 1 c))] H3 := hp0.aft hm3 (.upd .here .nil)
  exact ⟨rfl, g, c, by omega, own_cap own, h0.take (Has.own own3) (by simp [keys]; omega) (by simp), own3⟩
theorem split1 {H : Heap} {p g c : Nat} (f t : Int) (hp : Has H p (profC (.slice (some ⟨g, 0, none⟩) 1 c))) (ho : Own H 0 340 2 (.slice (some ⟨g, 0, none⟩) 1 c) 1 [.int .i64 f, amt 2]) (hpg : p ≠ g) (h : f < t) :
    Spc Tryz.prog 302 #[ptr p, .int .i64 t] H fun r H' => r = .int .i64 1 ∧ ∃ g' c', (g' = g ∨ H.size ≤ g') ∧ 2 ≤ c' ∧ Kept (fun b => b = p ∨ b = g) H H' ∧ Has H' p (profC (.slice (some ⟨g', 0, none⟩) 2 c')) ∧ Has H' g' [.int .i64 f, amt 2, .int .i64 t, amt 2] := by
  have hg := Ro.ofOwn ho
  have hc := own_cap ho
  refine spec_of Tryz.func302 rfl Tryz.ntmps302 rfl (fun W => ?_)
  refine Am.on ((Mem.startL hp).andR1 hg (fun e => hpg e.symm)) ?_
  repeat (first | refine codeM (k := ?_) | refine condM (k := ?_) | refine offM (k := ?_) | refine offMn (k := ?_) | refine pureM (k := ?_) | refine loadM (k := ?_) | refine loadB (k := ?_) | refine storeM (k := ?_) | refine storeB (k := ?_))
  refine callM rfl rfl rfl rfl rfl (fun Hc hm => search1 (hm.has1 .here).ro (hm.roOf (.r .here)) (by omega)) ?_
  rintro Hc _ H1 hm ⟨x1, rfl⟩
  refine Am.on (hm.ext x1) ?_
  repeat (first | refine codeM (k := ?_) | refine condM (k := ?_) | refine offM (k := ?_) | refine offMn (k := ?_) | refine pureM (k := ?_) | refine loadM (k := ?_) | refine loadB (k := ?_) | refine storeM (k := ?_) | refine storeB (k := ?_))
  refine drawM [4] Tryz.mixed ?_
  first | refine dpM 0 (k := ?_) | refine doffM 0 (k := ?_) | refine dldM 0 rfl (k := ?_) | refine doffNM 0 (k := ?_) | refine dldB 0 rfl (k := ?_)
  first | refine dpM 1 (k := ?_) | refine doffM 1 (k := ?_) | refine dldM 1 rfl (k := ?_) | refine doffNM 1 (k := ?_) | refine dldB 1 rfl (k := ?_)
  first | refine dpM 2 (k := ?_) | refine doffM 2 (k := ?_) | refine dldM 2 rfl (k := ?_) | refine doffNM 2 (k := ?_) | refine dldB 2 rfl (k := ?_)
  first | refine dpM 3 (k := ?_) | refine doffM 3 (k := ?_) | refine dldM 3 rfl (k := ?_) | refine doffNM 3 (k := ?_) | refine dldB 3 rfl (k := ?_)
  first | refine dpM 4 (k := ?_) | refine doffM 4 (k := ?_) | refine dldM 4 rfl (k := ?_) | refine doffNM 4 (k := ?_) | refine dldB 4 rfl (k := ?_)
  first | refine dpM 5 (k := ?_) | refine doffM 5 (k := ?_) | refine dldM 5 rfl (k := ?_) | refine doffNM 5 (k := ?_) | refine dldB 5 rfl (k := ?_)
  first | refine dpM 6 (k := ?_) | refine doffM 6 (k := ?_) | refine dldM 6 rfl (k := ?_) | refine doffNM 6 (k := ?_) | refine dldB 6 rfl (k := ?_)
  first | refine dpM 7 (k := ?_) | refine doffM 7 (k := ?_) | refine dldM 7 rfl (k := ?_) | refine doffNM 7 (k := ?_) | refine dldB 7 rfl (k := ?_)
  first | refine dpM 8 (k := ?_) | refine doffM 8 (k := ?_) | refine dldM 8 rfl (k := ?_) | refine doffNM 8 (k := ?_) | refine dldB 8 rfl (k := ?_)
  refine dxL 9 rfl (by kernel_rfl) rfl (fun Hx => ?_)
  refine callW rfl rfl rfl rfl (fun Hc hm => ahead1 (hm.has1 .here).ro (hm.roOf (.r .here))) ?_
  rintro Hc _ H1 hm ⟨x1, rfl⟩
  refine Am.on (hm.ext x1) ?_
  first | refine leftA (k := ?_) | refine leftF (by kernel_rfl) ?_
  refine dqM 10 rfl (p_build [.int .i64 t, amt 2] rfl rfl) (k := ?_)
  refine dxL 11 rfl (by kernel_rfl) rfl (fun Hx => ?_)
  refine bs1W rfl rfl rfl (by decide) rfl (fun b hb => ?_)
  first | refine leftA (k := ?_) | refine leftF (by kernel_rfl) ?_
  refine dxL 12 rfl (by kernel_rfl) rfl (fun Hx => ?_)
  refine At_am ?_
  intro H1 hm
  have hx : Kept (· = p) H H1 := hm.kept.mono (fun i s hl => by
    simp only [keys, List.map_cons, List.map_nil, List.mem_cons, List.not_mem_nil, or_false] at s
    rcases s with rfl | s
    · omega
    · exact s)
  have ho1 := ho.keep hx (fun g' e => by simp only [Value.ownBlock, Option.some.injEq] at e; omega)
  refine W_call rfl rfl (insStep1 ho1 (hm.has1 .here).ro rfl (by intro u hu; simp at hu; rcases hu with rfl | rfl <;> rfl)) rfl rfl ?_
  rintro _ H2 ⟨g', c', rfl, own, k2, hg'⟩
  have hp1 := hm.has1 (.there .here)
  have hp2 := hp1.keep k2 (fun e => hpg e)
  have hpl := hp1.lt
  have s1 := hm.size
  refine G_free (by kernel_rfl) ?_
  refine Am.on (Mem.startL hp2) ?_
  first | refine dpM 13 (k := ?_) | refine doffM 13 (k := ?_) | refine dldM 13 rfl (k := ?_) | refine doffNM 13 (k := ?_) | refine dldB 13 rfl (k := ?_)
  first | refine dpM 14 (k := ?_) | refine doffM 14 (k := ?_) | refine dldM 14 rfl (k := ?_) | refine doffNM 14 (k := ?_) | refine dldB 14 rfl (k := ?_)
  refine dxL 15 rfl (by kernel_rfl) rfl (fun Hx => ?_)
  refine storeW rfl rfl rfl rfl rfl (.here) rfl ?_
  refine leftF (by kernel_rfl) ?_
  refine ddoneM (by kernel_rfl) ?_
  repeat (first | refine codeM (k := ?_) | refine condM (k := ?_) | refine offM (k := ?_) | refine offMn (k := ?_) | refine pureM (k := ?_) | refine loadM (k := ?_) | refine loadB (k := ?_) | refine storeM (k := ?_) | refine storeB (k := ?_))
  refine ret1M rfl rfl (fun H3 hm3 => ?_)
  have hm3 : Mem H2 [] [(p, profC (.slice (some ⟨g', 0, none⟩) 2 c'))] H3 := hm3
  have hk3 : Kept (· = p) H2 H3 := hm3.kept.mono (fun i s _ => by simpa [keys] using s)
  refine ⟨rfl, g', c', ?_, own_cap own, Kept.trans (Kept.trans hx k2 (fun i s _ => .inl s) (fun i s _ => .inr s)) hk3 (fun i s _ => s) (fun i s _ => .inl s), hm3.has1 .here, (Has.own own).keep hk3 (fun e => ?_)⟩
  · rcases hg' with e | e
    · exact .inl e
    · exact .inr (by omega)
  · rcases hg' with e2 | e2 <;> omega
end Go.Proofs.YtlaobecajieaaaaGreat
/- One place taken from a profile; a profile made beside one. -/
namespace Go.Proofs.YtlaobecajieaaaaGreat
open Go Ev
set_option linter.unusedVariables false
set_option linter.unusedSimpArgs false
def neg1 : Value := .complex .f64 13830554455654793216 9223372036854775808
attribute [local irreducible] Go.wpList Go.bodyPost Go.Code.wp Go.Exit.then Go.Exit.inBlock Go.Exit.noGoto Ev.wpAnyG Go.Oper.wp Ev.Back Ev.Left Ev.Spc Ev.At Ev.Pure Ev.Reads Ev.Runs Ev.Does Ev.Cell Ev.Am Ev.Has Ev.Kn Go.Code.rounds

set_option maxHeartbeats 1000000 in
theorem padd_spec {H : Heap} {p : Nat} {f t : Int} (hp : Has H p (profC nil0)) (h : f < t) (ht : t < 1099511627776) : Spc Tryz.prog 251 #[ptr p, .int .i64 f, .int .i64 t, neg1] H fun r H' => r = .tuple #[] ∧ Kept (· = p) H H' := by
  refine spec_of Tryz.func251 rfl Tryz.ntmps251 rfl (fun W => ?_)
  refine Am.on (Mem.startL hp) ?_
  repeat (first | refine codeM (k := ?_) | refine condM (k := ?_) | refine offM (k := ?_) | refine offMn (k := ?_) | refine pureM (k := ?_) | refine loadM (k := ?_) | refine loadB (k := ?_) | refine storeM (k := ?_) | refine storeB (k := ?_))
  refine callM rfl rfl rfl rfl rfl (fun Hc hm => split0 f (hm.has1 .here)) ?_
  rintro Hc _ H1 hm ⟨rfl, g, c, hg, hc, hm1, own⟩
  have hpl := (hm.has1 .here).lt
  have k1 : Kept (· = p) H H1 := by
    have k0 : Kept (· = p) H Hc := hm.kept.mono (fun i s _ => by simpa [keys] using s)
    refine Kept.trans k0 hm1.kept (fun i s _ => s) (fun i s hi => ?_)
    have := hm.size
    simp only [keys, List.map_cons, List.map_nil, List.mem_cons, List.not_mem_nil, or_false] at s
    rcases s with rfl | s
    · omega
    · exact s
  have hsz := hm.size
  refine Am.on (Mem.startL (hm1.has1 (.there .here))) ?_
  repeat (first | refine codeM (k := ?_) | refine condM (k := ?_) | refine offM (k := ?_) | refine offMn (k := ?_) | refine pureM (k := ?_) | refine loadM (k := ?_) | refine loadB (k := ?_) | refine storeM (k := ?_) | refine storeB (k := ?_))
  refine callM rfl rfl rfl rfl rfl (fun H2 hm2 => split1 f t (hm2.has1 .here) (own.keep hm2.kept (fun g' e => by simp only [Value.ownBlock, Option.some.injEq] at e; simp [keys]; omega)) (by omega) h) ?_
  rintro H2 _ H3 hm2 ⟨rfl, g', c', hg', hc', k3, hp3, hg3⟩
  have s1 := hm2.size
  have s0 := k1.size
  have s01 := hm1.size
  have k2 : Kept (· = p) H H3 := by
    refine Kept.trans (Kept.trans k1 hm2.kept (fun i s _ => s) (fun i s _ => by simpa [keys] using s)) k3 (fun i s _ => s) (fun i s hi => ?_)
    rcases s with s | s
    · exact s
    · omega
  refine Am.on ((Mem.startL hp3).take hg3 (by simp [keys]; omega) (by simp)) ?_
  repeat (first | refine codeM (k := ?_) | refine condM (k := ?_) | refine offM (k := ?_) | refine offMn (k := ?_) | refine pureM (k := ?_) | refine loadM (k := ?_) | refine loadB (k := ?_) | refine storeM (k := ?_) | refine storeB (k := ?_))
  refine pM (p_binC (amt 1) rfl rfl rfl (by kernel_rfl)) rfl rfl rfl ?_
  repeat (first | refine codeM (k := ?_) | refine condM (k := ?_) | refine offM (k := ?_) | refine offMn (k := ?_) | refine pureM (k := ?_) | refine loadM (k := ?_) | refine loadB (k := ?_) | refine storeM (k := ?_) | refine storeB (k := ?_))
  refine pM (p_slice_hi (j := 0) rfl rfl (by omega)) rfl rfl rfl ?_
  repeat (first | refine codeM (k := ?_) | refine condM (k := ?_) | refine offM (k := ?_) | refine offMn (k := ?_) | refine pureM (k := ?_) | refine loadM (k := ?_) | refine loadB (k := ?_) | refine storeM (k := ?_) | refine storeB (k := ?_))
  refine loadN [.int .i64 f, amt 1] rfl (.l .here) rfl rfl rfl rfl rfl ?_
  refine allocM rfl rfl rfl (fun a ha => ?_)
  repeat (first | refine codeM (k := ?_) | refine condM (k := ?_) | refine offM (k := ?_) | refine offMn (k := ?_) | refine pureM (k := ?_) | refine loadM (k := ?_) | refine loadB (k := ?_) | refine storeM (k := ?_) | refine storeB (k := ?_))
  refine bs1M rfl rfl rfl (by decide) rfl rfl (fun b hb => ?_)
  refine appInM [.int .i64 f, amt 1] [.int .i64 f, amt 1, .int .i64 t, amt 2] rfl rfl (.l .here) rfl rfl rfl (.there (.there .here)) rfl rfl (by omega) rfl rfl ?_
  repeat (first | refine codeM (k := ?_) | refine condM (k := ?_) | refine offM (k := ?_) | refine offMn (k := ?_) | refine pureM (k := ?_) | refine loadM (k := ?_) | refine loadB (k := ?_) | refine storeM (k := ?_) | refine storeB (k := ?_))
  refine loadN [.int .i64 t, amt 2] rfl (.l (.there (.there .here))) rfl rfl rfl rfl rfl ?_
  refine allocM rfl rfl rfl (fun a2 ha2 => ?_)
  repeat (first | refine codeM (k := ?_) | refine condM (k := ?_) | refine offM (k := ?_) | refine offMn (k := ?_) | refine pureM (k := ?_) | refine loadM (k := ?_) | refine loadB (k := ?_) | refine storeM (k := ?_) | refine storeB (k := ?_))
  refine bs1M rfl rfl rfl (by decide) rfl rfl (fun b2 hb2 => ?_)
  refine appInM [.int .i64 t, amt 2] [.int .i64 f, amt 1, .int .i64 t, amt 2] rfl rfl (.l .here) rfl rfl rfl (.there (.there (.there (.there .here)))) rfl rfl (by omega) rfl rfl ?_
  repeat (first | refine codeM (k := ?_) | refine condM (k := ?_) | refine offM (k := ?_) | refine offMn (k := ?_) | refine pureM (k := ?_) | refine loadM (k := ?_) | refine loadB (k := ?_) | refine storeM (k := ?_) | refine storeB (k := ?_))
  refine ret0M rfl (.inl rfl) (fun H4 hm4 => ⟨rfl, ?_⟩)
  refine Kept.trans k2 hm4.kept (fun i s _ => s) (fun i s hi => ?_)
  have := k3.size
  simp only [keys, List.map_cons, List.map_nil, List.mem_cons, List.not_mem_nil, or_false] at s
  omega
theorem ptake_spec {H : Heap} {p : Nat} {f t : Int} (hp : Has H p (profC nil0)) (h0 : 0 ≤ f) (h : f < t) (ht : t < 1099511627776) : Spc Tryz.prog 171 #[ptr p, .agg (busyC f t 1).toArray] H fun r H' => r = .int .i64 0 ∧ Kept (· = p) H H' := by
  refine spec_of Tryz.func171 rfl Tryz.ntmps171 rfl (fun W => ?_)
  refine Am.on (Mem.startL hp) ?_
  repeat (first | refine codeM (k := ?_) | refine condM (k := ?_) | refine offM (k := ?_) | refine offMn (k := ?_) | refine pureM (k := ?_) | refine loadM (k := ?_) | refine loadB (k := ?_) | refine storeM (k := ?_) | refine storeB (k := ?_))
  refine boxM rfl rfl rfl rfl (fun a ha => ?_)
  repeat (first | refine codeM (k := ?_) | refine condM (k := ?_) | refine offM (k := ?_) | refine offMn (k := ?_) | refine pureM (k := ?_) | refine loadM (k := ?_) | refine loadB (k := ?_) | refine storeM (k := ?_) | refine storeB (k := ?_))
  refine callM rfl rfl rfl rfl rfl (fun Hc hm => pmay0 (hm.has1 (.there .here)).ro h0 h (by omega)) ?_
  rintro Hc _ H1 hm ⟨x1, rfl⟩
  refine Am.on (hm.ext x1) ?_
  repeat (first | refine codeM (k := ?_) | refine condM (k := ?_) | refine offM (k := ?_) | refine offMn (k := ?_) | refine pureM (k := ?_) | refine loadM (k := ?_) | refine loadB (k := ?_) | refine storeM (k := ?_) | refine storeB (k := ?_))
  refine pM (p_unC neg1 rfl (by kernel_rfl)) rfl rfl rfl ?_
  refine callM rfl rfl rfl rfl rfl (fun Hc hm => padd_spec (hm.has1 (.there .here)) h ht) ?_
  rintro Hc _ H1 hm ⟨rfl, k1⟩
  have hs := hm.size
  have hx : Kept (· = p) H H1 := Kept.trans hm.kept k1 (fun i s hi => by simp only [keys, List.map_cons, List.map_nil, List.mem_cons, List.not_mem_nil, or_false] at s; omega) (fun i s _ => s)
  refine Am.on (Mem.start H1) ?_
  repeat (first | refine codeM (k := ?_) | refine condM (k := ?_) | refine offM (k := ?_) | refine offMn (k := ?_) | refine pureM (k := ?_) | refine loadM (k := ?_) | refine loadB (k := ?_) | refine storeM (k := ?_) | refine storeB (k := ?_))
  exact ret1M rfl rfl (fun H2 hm2 => ⟨rfl, hx.then_ext (hm2.toExt (by repeat (first | exact Pick.nil | refine Pick.keep ?_ | refine Pick.drop (by first | assumption | omega) ?_)))⟩)
theorem pnew1_spec {H : Heap} {b c : Nat} {f t : Int} (hb : Ro H b (busyC f t 1)) (h0 : 0 ≤ f) (h : f < t) (ht : t < 1099511627776) : Spc Tryz.prog 85 #[amt 2, .slice (some ⟨b, 0, none⟩) 1 c] H fun r H' => Ext H H' ∧ ∃ v, r = .tuple #[v, .int .i64 0] := by
  refine spec_of Tryz.func85 rfl Tryz.ntmps85 rfl (fun W => ?_)
  refine Am.on (Mem.startR hb) ?_
  repeat (first | refine codeM (k := ?_) | refine condM (k := ?_) | refine offM (k := ?_) | refine offMn (k := ?_) | refine pureM (k := ?_) | refine loadM (k := ?_) | refine loadB (k := ?_) | refine storeM (k := ?_) | refine storeB (k := ?_))
  refine bs1M rfl rfl rfl (by decide) rfl rfl (fun g hg => ?_)
  refine callM rfl rfl rfl rfl rfl (fun Hc hm => sumCap_spec (hm.cell (.l .here) rfl)) ?_
  rintro Hc _ H1 hm ⟨rfl, rfl⟩
  refine Am.on hm ?_
  repeat (first | refine codeM (k := ?_) | refine condM (k := ?_) | refine offM (k := ?_) | refine offMn (k := ?_) | refine pureM (k := ?_) | refine loadM (k := ?_) | refine loadB (k := ?_) | refine storeM (k := ?_) | refine storeB (k := ?_))
  refine pM (p_build (profC nil0) rfl rfl) rfl rfl rfl ?_
  refine boxM rfl rfl rfl rfl (fun p hp => ?_)
  repeat (first | refine codeM (k := ?_) | refine condM (k := ?_) | refine offM (k := ?_) | refine offMn (k := ?_) | refine pureM (k := ?_) | refine loadM (k := ?_) | refine loadB (k := ?_) | refine storeM (k := ?_) | refine storeB (k := ?_))
  refine allocM rfl rfl rfl (fun a ha => ?_)
  repeat (first | refine codeM (k := ?_) | refine condM (k := ?_) | refine offM (k := ?_) | refine offMn (k := ?_) | refine pureM (k := ?_) | refine loadM (k := ?_) | refine loadB (k := ?_) | refine storeM (k := ?_) | refine storeB (k := ?_))
  refine callM rfl rfl rfl rfl rfl (fun Hc hm => ptake_spec (hm.has1 (.there .here)) h0 h ht) ?_
  rintro Hc _ H1 hm ⟨rfl, k1⟩
  have hs := hm.size
  have hx : Ext H H1 := Kept.trans hm.kept k1 (fun i s hi => by simp only [keys, List.map_cons, List.map_nil, List.mem_cons, List.not_mem_nil, or_false] at s; omega) (fun i s _ => by omega)
  refine Am.on (Mem.start H1) ?_
  repeat (first | refine codeM (k := ?_) | refine condM (k := ?_) | refine offM (k := ?_) | refine offMn (k := ?_) | refine pureM (k := ?_) | refine loadM (k := ?_) | refine loadB (k := ?_) | refine storeM (k := ?_) | refine storeB (k := ?_))
  exact ret2M rfl rfl rfl (fun H2 hm2 => ⟨hx.trans (hm2.toExt (by repeat (first | exact Pick.nil | refine Pick.keep ?_ | refine Pick.drop (by first | assumption | omega) ?_))), _, rfl⟩)
end Go.Proofs.YtlaobecajieaaaaGreat
/- A reservation put to none. -/
namespace Go.Proofs.YtlaobecajieaaaaGreat
open Go Ev
set_option linter.unusedVariables false
set_option linter.unusedSimpArgs false
/-- the script's job, and its copy -/
def j1 : Jo := ⟨1, 1, 1, 1, 5, 3, 0, 0, [0, 1], true⟩
def jobV (sv : Value) : List Value := [.int .i64 1, .int .i64 1, .int .i64 1, amt 1, .int .i64 5, .int .i64 3, .int .i64 0, .int .i64 0, sv, .bool true]
def copC (sv : Value) (st since tok at_ : Int) : List Value := [.int .i64 1, .int .i64 1, .int .i64 1, amt 1, .int .i64 5, .int .i64 3, .int .i64 0, .int .i64 0, sv, .bool true, .int .i64 st, .int .i64 since, .int .i64 0, .int .i64 tok, .int .i64 at_, .int .i64 0, .int .i64 0]
def copyRC (sv : Value) (now : Int) : List Value := [.int .i64 15, .int .i64 0, .int .i64 0, .int .i64 0, .int .i64 0, .int .i64 now, .int .i64 0, .int .i64 0, .bool false, .int .i64 1, .int .i64 1, .int .i64 1, amt 1, .int .i64 5, .int .i64 3, .int .i64 0, .int .i64 0, sv, .bool true, .int .i64 0, .int .i64 0, amt 0, nil0, nil0]
def holdRC (t u : Int) : List Value := [.int .i64 19, .int .i64 1, .int .i64 1, .int .i64 0, .int .i64 1, .int .i64 t, .int .i64 u, .int .i64 0, .bool false, .int .i64 0, .int .i64 0, .int .i64 0, amt 0, .int .i64 0, .int .i64 0, .int .i64 0, .int .i64 0, nil0, .bool false, .int .i64 0, .int .i64 0, amt 0, nil0, nil0]
def resvC (f t n u : Int) : List Value := [.int .i64 1, .int .i64 1, .int .i64 n, .int .i64 f, .int .i64 t, amt 1, .bool false, .int .i64 u]
section
variable {P : Program} {n : Nat} {W : World} {env : Env} {H0 H : Heap} {R L L' : Bks} {Q : Exit → Act → World → Prop} {K : Act → World → Prop} {ops : Array Oper} {rest : List Oper}
variable {ds : Option Tmp} {ty : TypeId} {pos : String} {af : Array Edge} {gd : Option (Nat × Bool)}
theorem p_cap {x : Operand} {ats : Array TypeId} {p : Option Addr} {l c : Nat} (hx : ev env x = some (.slice p l c)) {t e : TypeId} {sz sb : Nat} {z : Value} [h : Ty P t (.slice e) sz sb z] (hats : ats = #[t]) : Pure P n env ⟨ds, .call ⟨.builtin .cap, #[x], ats⟩, ty, pos, af, gd⟩ (.int .i64 c) := fun a w f => by
  subst hats
  simp [execOp, resolve, invoke, builtin, f.ev hx, Builtin.cap_, goInt, run_underlying h.und]
theorem mk0M {d : Nat} {x y : Operand} {t e : TypeId} {dc : TypeDesc} {sz sb es eb : Nat} {z ez : Value} {kl kc : IntKind} [h : Ty P t (.slice e) sz sb z] [he : Ty P e dc es eb ez] (hx : ev env x = some (.int kl (0 : Nat))) (hy : ev env y = some (.int kc (0 : Nat)))
    (hw : want ops env ⟨some d, .makeSlice t x y, ty, pos, af, gd⟩ = some true) (hn : Nat.blt d n = true)
    (k : ∀ b, H0.size ≤ b → Am n W ((d, .slice (some ⟨b, 0, none⟩) 0 0) :: env) H0 R ((b, []) :: L) (wpList P ops Q rest)) : Am n W env H0 R L (wpList P ops Q (⟨some d, .makeSlice t x y, ty, pos, af, gd⟩ :: rest)) := fun H hm =>
  At_wp (W_make (nn := 0) hx hy (by omega) (by omega) hn (fun b H' hn => k b (by have := hn.blk; have := hm.size; omega) H' (hm.new hn.ext (by have := hn.blk; omega) ⟨_, _, hn.at_, rfl⟩))) hw
end
attribute [local irreducible] Go.wpList Go.bodyPost Go.Code.wp Go.Exit.then Go.Exit.inBlock Go.Exit.noGoto Ev.wpAnyG Go.Oper.wp Ev.Back Ev.Left Ev.Spc Ev.At Ev.Pure Ev.Reads Ev.Runs Ev.Does Ev.Cell Ev.Am Ev.Has Ev.Kn Go.Code.rounds

set_option maxHeartbeats 1000000 in
theorem growBusy (H : Heap) : Spc Tryz.prog 343 #[.slice none 0 0, .int .i64 (1 : Nat)] H fun r H' => ∃ g c, r = .slice (some ⟨g, 0, none⟩) 0 c ∧ 1 ≤ c ∧ H.size ≤ g ∧ Ext H H' ∧ Room H' g 73 3 c := by
  refine spec_of Tryz.func343 rfl Tryz.ntmps343 rfl (fun W => ?_)
  refine Am.new ?_
  repeat (first | refine codeM (k := ?_) | refine condM (k := ?_) | refine offM (k := ?_) | refine offMn (k := ?_) | refine pureM (k := ?_) | refine loadM (k := ?_) | refine loadB (k := ?_) | refine storeM (k := ?_) | refine storeB (k := ?_))
  refine pM (p_cap rfl rfl) rfl rfl rfl ?_
  repeat (first | refine codeM (k := ?_) | refine condM (k := ?_) | refine offM (k := ?_) | refine offMn (k := ?_) | refine pureM (k := ?_) | refine loadM (k := ?_) | refine loadB (k := ?_) | refine storeM (k := ?_) | refine storeB (k := ?_))
  refine pM (p_cap rfl rfl) rfl rfl rfl ?_
  refine pM (p_slice_hi (j := 0) rfl rfl (by omega)) rfl rfl rfl ?_
  repeat (first | refine codeM (k := ?_) | refine condM (k := ?_) | refine offM (k := ?_) | refine offMn (k := ?_) | refine pureM (k := ?_) | refine loadM (k := ?_) | refine loadB (k := ?_) | refine storeM (k := ?_) | refine storeB (k := ?_))
  refine At_am ?_
  intro H1 hm
  refine At_tell 21 (.int .i64 (1 : Nat)) rfl (by rfl) ?_
  refine At_wp (W_appendMk rfl rfl (by decide) (by decide) (by decide) (by decide) (by rfl) rfl ?_) rfl
  intro g c H2 x2 hg hc room
  have x1 : Ext H H1 := hm.toExt (by repeat (first | exact Pick.nil | refine Pick.keep ?_ | refine Pick.drop (by first | assumption | omega) ?_))
  refine Am.on (Mem.start H2) ?_
  repeat (first | refine codeM (k := ?_) | refine condM (k := ?_) | refine offM (k := ?_) | refine offMn (k := ?_) | refine pureM (k := ?_) | refine loadM (k := ?_) | refine loadB (k := ?_) | refine storeM (k := ?_) | refine storeB (k := ?_))
  refine pM (p_slice_hi (j := 0) rfl rfl (by omega)) rfl rfl rfl ?_
  repeat (first | refine codeM (k := ?_) | refine condM (k := ?_) | refine offM (k := ?_) | refine offMn (k := ?_) | refine pureM (k := ?_) | refine loadM (k := ?_) | refine loadB (k := ?_) | refine storeM (k := ?_) | refine storeB (k := ?_))
  exact ret1M rfl rfl (fun H3 hm3 => ⟨g, c, rfl, hc, by have := x1.size; omega, (x1.trans x2).trans (hm3.toExt (by repeat (first | exact Pick.nil | refine Pick.keep ?_ | refine Pick.drop (by first | assumption | omega) ?_))), room.keep hm3.kept (by simp [keys])⟩)
set_option maxHeartbeats 1000000 in
theorem concBusy {H : Heap} {s3 b g c c1 c2 : Nat} {xs : List Value} (h3 : Ro H s3 [nil0, .slice (some ⟨b, 0, none⟩) 0 c1, .slice (some ⟨g, 0, none⟩) 1 c]) (hg : Ro H g xs) (hl : xs.length = 3) (h1 : ∀ u ∈ xs, u.oneCell' = true) :
    Spc Tryz.prog 313 #[.slice (some ⟨s3, 0, none⟩) 3 c2] H fun r H' => ∃ g' c', r = .slice (some ⟨g', 0, none⟩) 1 c' ∧ H.size ≤ g' ∧ Ext H H' ∧ Has H' g' xs := by
  refine spec_of Tryz.func313 rfl Tryz.ntmps313 rfl (fun W => ?_)
  refine Am.on ((Mem.startR h3).andR hg) ?_
  repeat (first | refine codeM (k := ?_) | refine condM (k := ?_) | refine offM (k := ?_) | refine offMn (k := ?_) | refine pureM (k := ?_) | refine loadM (k := ?_) | refine loadB (k := ?_) | refine storeM (k := ?_) | refine storeB (k := ?_))
  refine pM (p_indexAddr (i := 2) rfl rfl (by omega)) rfl rfl rfl ?_
  repeat (first | refine codeM (k := ?_) | refine condM (k := ?_) | refine offM (k := ?_) | refine offMn (k := ?_) | refine pureM (k := ?_) | refine loadM (k := ?_) | refine loadB (k := ?_) | refine storeM (k := ?_) | refine storeB (k := ?_))
  refine tellM 23 (.int .i64 (1 : Nat)) rfl rfl ?_
  refine callM rfl rfl rfl rfl rfl (fun Hc hm => growBusy Hc) ?_
  rintro Hc _ H1 hm ⟨g', c', rfl, hc', hg', x1, room⟩
  have hm1 := hm.ext x1
  have xh : Ext H H1 := hm1.toExt (by repeat (first | exact Pick.nil | refine Pick.keep ?_ | refine Pick.drop (by first | assumption | omega) ?_))
  refine Am.on ((Mem.startR (hm1.roOf (.r (.there .here)))).andR (hm1.roOf (.r .here))) ?_
  repeat (first | refine codeM (k := ?_) | refine condM (k := ?_) | refine offM (k := ?_) | refine offMn (k := ?_) | refine pureM (k := ?_) | refine loadM (k := ?_) | refine loadB (k := ?_) | refine storeM (k := ?_) | refine storeB (k := ?_))
  refine appNM rfl rfl (Nat.zero_le _) rfl rfl ?_
  repeat (first | refine codeM (k := ?_) | refine condM (k := ?_) | refine offM (k := ?_) | refine offMn (k := ?_) | refine pureM (k := ?_) | refine loadM (k := ?_) | refine loadB (k := ?_) | refine storeM (k := ?_) | refine storeB (k := ?_))
  refine appNM rfl rfl (Nat.zero_le _) rfl rfl ?_
  repeat (first | refine codeM (k := ?_) | refine condM (k := ?_) | refine offM (k := ?_) | refine offMn (k := ?_) | refine pureM (k := ?_) | refine loadM (k := ?_) | refine loadB (k := ?_) | refine storeM (k := ?_) | refine storeB (k := ?_))
  refine pM (p_indexAddr (i := 2) rfl rfl (by omega)) rfl rfl rfl ?_
  repeat (first | refine codeM (k := ?_) | refine condM (k := ?_) | refine offM (k := ?_) | refine offMn (k := ?_) | refine pureM (k := ?_) | refine loadM (k := ?_) | refine loadB (k := ?_) | refine storeM (k := ?_) | refine storeB (k := ?_))
  refine At_am ?_
  intro H2 hm2
  have x2 : Ext H1 H2 := hm2.toExt (by repeat (first | exact Pick.nil | refine Pick.keep ?_ | refine Pick.drop (by first | assumption | omega) ?_))
  refine At_wp (W_append (news := xs) rfl rfl (room.keep x2 (fun f => f)).own (by rw [hl]) (fun j u hj => by rw [Nat.zero_add]; exact hm2.cell (.r .here) hj) h1 (Nat.zero_le _) rfl (by decide) (by decide) (by simp [maxLen]) (by decide) rfl ?_) rfl
  intro g2 c3 H3 own k3 hg2
  rw [List.nil_append] at own
  have hs := hm.size
  have hs1 := x1.size
  have hs2 := x2.size
  have hgl : g' < H1.size := by obtain ⟨_, cur, hb, _⟩ := room; exact lt_of_heap hb
  have x3 : Ext H H3 := Kept.trans (xh.trans x2) k3 (fun _ f _ => f) (fun i e hi => by simp only [Value.ownBlock, Option.some.injEq] at e; omega)
  have hg3 : Hc.size ≤ g2 := by
    rcases hg2 with e | e
    · simp only [Value.ownBlock, Option.some.injEq] at e; omega
    · omega
  refine Am.on (Mem.startL (Has.own own)) ?_
  repeat (first | refine codeM (k := ?_) | refine condM (k := ?_) | refine offM (k := ?_) | refine offMn (k := ?_) | refine pureM (k := ?_) | refine loadM (k := ?_) | refine loadB (k := ?_) | refine storeM (k := ?_) | refine storeB (k := ?_))
  exact ret1M rfl rfl (fun H4 hm4 => ⟨g2, c3, rfl, by omega, Kept.trans x3 hm4.kept (fun _ f _ => f) (fun i e hi => by simp only [keys, List.map_cons, List.map_nil, List.mem_cons, List.not_mem_nil, or_false] at e; omega), hm4.has1 .here⟩)
theorem load0 (H : Heap) : Spc Tryz.prog 173 #[nil0] H fun r H' => ∃ b, r = .slice (some ⟨b, 0, none⟩) 0 0 ∧ H.size ≤ b ∧ Ext H H' := by
  refine spec_of Tryz.func173 rfl Tryz.ntmps173 rfl (fun W => ?_)
  refine Am.new ?_
  repeat (first | refine codeM (k := ?_) | refine condM (k := ?_) | refine offM (k := ?_) | refine offMn (k := ?_) | refine pureM (k := ?_) | refine loadM (k := ?_) | refine loadB (k := ?_) | refine storeM (k := ?_) | refine storeB (k := ?_))
  refine mk0M rfl rfl rfl rfl (fun b hb => ?_)
  repeat (first | refine codeM (k := ?_) | refine condM (k := ?_) | refine offM (k := ?_) | refine offMn (k := ?_) | refine pureM (k := ?_) | refine loadM (k := ?_) | refine loadB (k := ?_) | refine storeM (k := ?_) | refine storeB (k := ?_))
  exact ret1M rfl rfl (fun H hm => ⟨b, rfl, hb, hm.toExt (by repeat (first | exact Pick.nil | refine Pick.keep ?_ | refine Pick.drop (by first | assumption | omega) ?_))⟩)
theorem running0 (H : Heap) : Spc Tryz.prog 172 #[nil0] H fun r H' => Ext H H' ∧ r = nil0 := by
  refine spec_of Tryz.func172 rfl Tryz.ntmps172 rfl (fun W => ?_)
  refine Am.new ?_
  repeat (first | refine codeM (k := ?_) | refine condM (k := ?_) | refine offM (k := ?_) | refine offMn (k := ?_) | refine pureM (k := ?_) | refine loadM (k := ?_) | refine loadB (k := ?_) | refine storeM (k := ?_) | refine storeB (k := ?_))
  exact ret1M rfl rfl (fun H hm => ⟨hm.toExt (by repeat (first | exact Pick.nil | refine Pick.keep ?_ | refine Pick.drop (by first | assumption | omega) ?_)), rfl⟩)
set_option maxHeartbeats 1000000 in
theorem running1 {H : Heap} {c cc : Nat} {sv : Value} {since tok at_ : Int} (hc : Ro H c (copC sv 1 since tok at_)) (hv : sv.oneCell' = true) : Spc Tryz.prog 172 #[.slice (some ⟨c, 0, none⟩) 1 cc] H fun r H' => Ext H H' ∧ r = nil0 := by
  have hall : (copC sv 1 since tok at_).all (·.oneCell') = true := by simp only [copC, List.cons_append, List.nil_append, List.all_cons, List.all_nil, hv]; rfl
  refine spec_of Tryz.func172 rfl Tryz.ntmps172 rfl (fun W => ?_)
  refine Am.on (Mem.startR hc) ?_
  repeat (first | refine codeM (k := ?_) | refine condM (k := ?_) | refine offM (k := ?_) | refine offMn (k := ?_) | refine pureM (k := ?_) | refine loadM (k := ?_) | refine loadB (k := ?_) | refine storeM (k := ?_) | refine storeB (k := ?_))
  refine allocM rfl rfl rfl (fun a ha => ?_)
  refine storeB (h1 := hall) (k := ?_)
  repeat (first | refine codeM (k := ?_) | refine condM (k := ?_) | refine offM (k := ?_) | refine offMn (k := ?_) | refine pureM (k := ?_) | refine loadM (k := ?_) | refine loadB (k := ?_) | refine storeM (k := ?_) | refine storeB (k := ?_))
  exact ret1M rfl rfl (fun H hm => ⟨hm.toExt (by repeat (first | exact Pick.nil | refine Pick.keep ?_ | refine Pick.drop (by first | assumption | omega) ?_)), rfl⟩)
theorem find0 (H : Heap) (a b n : Int) : Spc Tryz.prog 281 #[nil0, .agg #[.int .i64 a, .int .i64 b], .int .i64 n] H fun r H' => Ext H H' ∧ r = .int .i64 (-1) := by
  have hi : ∀ (H : Heap) (f : Value), Spc Tryz.prog 284 #[nil0, f] H fun r H' => Ext H H' ∧ r = .int .i64 (-1) := by
    intro H f
    refine spec_of Tryz.func284 rfl Tryz.ntmps284 rfl (fun W => ?_)
    refine Am.new ?_
    repeat (first | refine codeM (k := ?_) | refine condM (k := ?_) | refine offM (k := ?_) | refine offMn (k := ?_) | refine pureM (k := ?_) | refine loadM (k := ?_) | refine loadB (k := ?_) | refine storeM (k := ?_) | refine storeB (k := ?_))
    exact ret1M rfl rfl (fun H hm => ⟨hm.toExt (by repeat (first | exact Pick.nil | refine Pick.keep ?_ | refine Pick.drop (by first | assumption | omega) ?_)), rfl⟩)
  refine spec_of Tryz.func281 rfl Tryz.ntmps281 rfl (fun W => ?_)
  refine Am.new ?_
  repeat (first | refine codeM (k := ?_) | refine condM (k := ?_) | refine offM (k := ?_) | refine offMn (k := ?_) | refine pureM (k := ?_) | refine loadM (k := ?_) | refine loadB (k := ?_) | refine storeM (k := ?_) | refine storeB (k := ?_))
  refine boxM rfl rfl rfl rfl (fun a1 ha1 => ?_)
  refine boxM rfl rfl rfl rfl (fun a2 ha2 => ?_)
  repeat (first | refine codeM (k := ?_) | refine condM (k := ?_) | refine offM (k := ?_) | refine offMn (k := ?_) | refine pureM (k := ?_) | refine loadM (k := ?_) | refine loadB (k := ?_) | refine storeM (k := ?_) | refine storeB (k := ?_))
  refine callM rfl rfl rfl rfl rfl (fun Hc hm => hi Hc _) ?_
  rintro Hc _ H1 hm ⟨x1, rfl⟩
  refine Am.on (hm.ext x1) ?_
  repeat (first | refine codeM (k := ?_) | refine condM (k := ?_) | refine offM (k := ?_) | refine offMn (k := ?_) | refine pureM (k := ?_) | refine loadM (k := ?_) | refine loadB (k := ?_) | refine storeM (k := ?_) | refine storeB (k := ?_))
  exact ret1M rfl rfl (fun H hm => ⟨hm.toExt (by repeat (first | exact Pick.nil | refine Pick.keep ?_ | refine Pick.drop (by first | assumption | omega) ?_)), rfl⟩)
end Go.Proofs.YtlaobecajieaaaaGreat

/- A node opened. -/
import Derived.Test.YtlaobecajieaaaaGreatG25
namespace Go.Proofs.YtlaobecajieaaaaGreat
open Go Ev
set_option linter.unusedVariables false
set_option linter.unusedSimpArgs false
section
variable {P : Program} {n : Nat} {W : World} {env : Env} {H0 H : Heap} {R L L' : Bks} {Q : Exit → Act → World → Prop} {K : Act → World → Prop}
variable {ty : TypeId} {pos : String} {af : Array Edge} {gd : Option (Nat × Bool)}
theorem boxW {d : Nat} {v : Value} {t : TypeId} {x : Operand} {ys : List Value} (hx : ev env x = some v) (hz : v.cells = ys.toArray) (hn : Nat.blt d n = true)
    (k : ∀ b, H0.size ≤ b → Am n W ((d, .pointer (some ⟨b, 0, none⟩)) :: env) H0 R ((b, ys) :: L) K) : Am n W env H0 R L (fun a w => Oper.wp P ⟨some d, .box t x, ty, pos, af, gd⟩ a w K Q) := fun H hm =>
  W_box hx hz hn (fun b H' hn => k b (by have := hn.blk; have := hm.size; omega) H' (hm.new hn.ext (by have := hn.blk; omega) (Has.of hn.at_)))
end
theorem lkKeep {S : Nat → Prop} {H H' : Heap} {p : Nat} {L : Lk} (h : LinkD (fun _ => False) H p nil0 L) (hk : Kept S H H') (hS : ¬ S p) : LinkD (fun _ => False) H' p nil0 L :=
  h.keep hk hS (fun g e => by cases e) (fun b f _ => f.elim) (fun b f => f.elim)
theorem lkNew {H H' : Heap} {b : Nat} {me peer ep : Int} (hn : New H H' b (.cells #[.int .i64 me, .int .i64 peer, .int .i64 ep, .int .i64 0, .slice none 0 0, .int .i64 0, .int .i64 0, .bool false] 115)) : LinkD (fun _ => False) H' b nil0 ⟨me, peer, ep, 0, [], 0, 0, false⟩ :=
  ⟨hn.at_, OwnL.nil _ _ _ _, fun e => (by cases e), fun b f => f.elim⟩
section
variable {H0 H H1 : Heap} {F0 F F1 : Nat → Prop} {L L' : Bks} {x x1 : RD}
/-- hidden new blocks turned -/
theorem Nm.out {S : Nat → Prop} (h : Nm H0 F0 L H F x) (hk : Kept S H H1) (hF : ∀ b, F b → ¬ S b) (hL : ∀ b ∈ keys L, ¬ S b) (hS : ∀ b, S b → H0.size ≤ b) : Nm H0 F0 L H1 F x :=
  ⟨fun p hp => (h.has p hp).keep hk (hL _ (key_of hp)), h.nd, h.res.keep hk (fun b hb _ => ⟨hF b hb, hb⟩), h.dis, h.frs, Kept.trans h.kept hk (fun i s _ => s) (fun i s hi => by have := hS i s; omega)⟩
theorem Nm.take {b : Nat} {ys : List Value} (h : Nm H0 F0 L H F x) (hy : Has H b ys) (hb : b ∉ keys L) (hF : ¬ F b) : Nm H0 F0 ((b, ys) :: L) H F x :=
  ⟨fun p hp => by
    rcases List.mem_cons.1 hp with rfl | hp
    · exact hy
    · exact h.has p hp, by simp only [keys, List.map_cons, List.nodup_cons]; exact ⟨hb, h.nd⟩, h.res, fun c hc => by
    rcases List.mem_cons.1 hc with rfl | hc
    · exact hF
    · exact h.dis c hc, h.frs, h.kept.mono (fun i s _ => s.imp (List.mem_cons_of_mem _) id)⟩
theorem Nm.rise {p0 p1 : Nat} {L0 L1 : Lk} (h : Nm H0 F0 L H F x) (hF : ∀ b, F b → b < H.size) (hd : x.up = false) (h0 : LinkD (fun _ => False) H p0 nil0 L0) (h1 : LinkD (fun _ => False) H p1 nil0 L1) (n0 : ¬ F p0) (n1 : ¬ F p1) (hne : p0 ≠ p1) (k0 : p0 ∉ keys L) (k1 : p1 ∉ keys L) (f0 : H0.size ≤ p0) (f1 : H0.size ≤ p1) :
    Nm H0 F0 L H (fun b => F b ∨ b = p0 ∨ b = p1) { x with up := true, p0 := p0, v0 := nil0, L0 := L0, p1 := p1, v1 := nil0, L1 := L1 } :=
  ⟨h.has, h.nd, h.res.rise hF hd h0 h1 n0 n1 hne, fun b hb e => by
    rcases e with e | rfl | rfl
    · exact h.dis b hb e
    · exact k0 hb
    · exact k1 hb, fun b hb => by
    rcases hb with e | rfl | rfl
    · exact h.frs b e
    · exact .inr f0
    · exact .inr f1, h.kept⟩
end
def lkz (p e : Int) : Lk := ⟨0, p, e, 0, [], 0, 0, false⟩
def rdz (d lg : Nat) (recs : List (List UInt8)) (bs : List UInt8) : RD := ⟨false, lg, d, recs, bs, 0, nil0, lkz 0 0, 0, nil0, lkz 0 0⟩
def rdOf (d lg : Nat) (recs : List (List UInt8)) (bs : List UInt8) (p0 p1 : Nat) (e : Int) : RD := ⟨true, lg, d, recs, bs, p0, nil0, lkz 0 e, p1, nil0, lkz 1 e⟩
attribute [local irreducible] Go.wpList Go.bodyPost Go.Code.wp Go.Exit.then Go.Exit.inBlock Go.Exit.noGoto Ev.wpAnyG Go.Oper.wp Ev.Back Ev.Left Ev.Spc Ev.At Ev.Pure Ev.Reads Ev.Runs Ev.Does Ev.Cell Ev.Am Ev.Has Ev.Kn Go.Code.rounds

theorem cloneCaps2 {H : Heap} {c cc : Nat} (hc : Ro H c [amt 2, amt 2]) : Spc Tryz.prog 16 #[.slice (some ⟨c, 0, none⟩) 2 cc] H fun r H' => ∃ g gc, r = .slice (some ⟨g, 0, none⟩) 2 gc ∧ Ext H H' := by
  refine spec_of Tryz.func16 rfl Tryz.ntmps16 rfl (fun W => ?_)
  refine Am.on (Mem.startR hc) ?_
  repeat (first | refine codeM (k := ?_) | refine condM (k := ?_) | refine offM (k := ?_) | refine offMn (k := ?_) | refine pureM (k := ?_) | refine loadM (k := ?_) | refine loadB (k := ?_) | refine storeM (k := ?_) | refine storeB (k := ?_))
  refine bs0M rfl rfl (fun e he => ?_)
  repeat (first | refine codeM (k := ?_) | refine condM (k := ?_) | refine offM (k := ?_) | refine offMn (k := ?_) | refine pureM (k := ?_) | refine loadM (k := ?_) | refine loadB (k := ?_) | refine storeM (k := ?_) | refine storeB (k := ?_))
  refine appEM [amt 2, amt 2] rfl rfl (fun H hm j u hj => by rw [Nat.zero_add]; exact hm.cell (.r .here) hj) (by rfl) rfl (by rfl) rfl rfl rfl (by rfl) rfl rfl (fun g gc hg hgc => ?_)
  repeat (first | refine codeM (k := ?_) | refine condM (k := ?_) | refine offM (k := ?_) | refine offMn (k := ?_) | refine pureM (k := ?_) | refine loadM (k := ?_) | refine loadB (k := ?_) | refine storeM (k := ?_) | refine storeB (k := ?_))
  exact ret1M rfl rfl (fun H hm => ⟨g, gc, rfl, hm.toExt (by repeat (first | exact Pick.nil | refine Pick.keep ?_ | refine Pick.drop (by first | assumption | omega) ?_))⟩)
theorem cloneCaps1 {H : Heap} {c cc : Nat} (hc : Ro H c [amt 2]) : Spc Tryz.prog 16 #[.slice (some ⟨c, 0, none⟩) 1 cc] H fun r H' => ∃ g gc, r = .slice (some ⟨g, 0, none⟩) 1 gc ∧ Ext H H' := by
  refine spec_of Tryz.func16 rfl Tryz.ntmps16 rfl (fun W => ?_)
  refine Am.on (Mem.startR hc) ?_
  repeat (first | refine codeM (k := ?_) | refine condM (k := ?_) | refine offM (k := ?_) | refine offMn (k := ?_) | refine pureM (k := ?_) | refine loadM (k := ?_) | refine loadB (k := ?_) | refine storeM (k := ?_) | refine storeB (k := ?_))
  refine bs0M rfl rfl (fun e he => ?_)
  repeat (first | refine codeM (k := ?_) | refine condM (k := ?_) | refine offM (k := ?_) | refine offMn (k := ?_) | refine pureM (k := ?_) | refine loadM (k := ?_) | refine loadB (k := ?_) | refine storeM (k := ?_) | refine storeB (k := ?_))
  refine appEM [amt 2] rfl rfl (fun H hm j u hj => by rw [Nat.zero_add]; exact hm.cell (.r .here) hj) (by rfl) rfl (by rfl) rfl rfl rfl (by rfl) rfl rfl (fun g gc hg hgc => ?_)
  repeat (first | refine codeM (k := ?_) | refine condM (k := ?_) | refine offM (k := ?_) | refine offMn (k := ?_) | refine pureM (k := ?_) | refine loadM (k := ?_) | refine loadB (k := ?_) | refine storeM (k := ?_) | refine storeB (k := ?_))
  exact ret1M rfl rfl (fun H hm => ⟨g, gc, rfl, hm.toExt (by repeat (first | exact Pick.nil | refine Pick.keep ?_ | refine Pick.drop (by first | assumption | omega) ?_))⟩)
set_option maxHeartbeats 16000000 in
theorem open0_spec {H : Heap} {Fd : Nat → Prop} {d cb cc : Nat} {now : Int} (hd : Dk Fd H d (jb none)) (hFd : ∀ b, Fd b → b < H.size) (hcb : Ro H cb [amt 2, amt 2]) (hcF : ¬ Fd cb) (h0 : 0 ≤ now) (h1 : now ≤ 1073741824) :
    Spc Tryz.prog 5 #[ptr d, .slice (some ⟨cb, 0, none⟩) 2 cc, .int .i64 0, .int .i64 now] H fun r H' => ∃ n lb lc p0 p1 lg cvb cvc fv mv F', r = .tuple #[ptr n, .int .i64 0] ∧ H.size ≤ n ∧ H.size ≤ lb ∧ Nm H Fd [(n, ndC (rdOf d lg ([] ++ [uvs (recT (epochR (0 + 1)))]) (jb none ++ sealB (82 :: uvs (recT (epochR (0 + 1))))) p0 p1 (0 + 1)) (.slice (some ⟨cvb, 0, none⟩) 2 cvc) (.slice (some ⟨lb, 0, none⟩) 2 lc) fv mv now 0 (0 + 1) (0 + 1) nil0 nil0), (lb, [ptr p0, ptr p1])] H' F' (rdOf d lg ([] ++ [uvs (recT (epochR (0 + 1)))]) (jb none ++ sealB (82 :: uvs (recT (epochR (0 + 1))))) p0 p1 (0 + 1)) ∧ ∀ b, F' b → b < H'.size := by
  refine spec_of Tryz.func5 rfl Tryz.ntmps5 rfl (fun W => ?_)
  refine Am.on (Mem.startR hcb) ?_
  repeat (first | refine codeM (k := ?_) | refine condM (k := ?_) | refine offM (k := ?_) | refine offMn (k := ?_) | refine pureM (k := ?_) | refine loadM (k := ?_) | refine loadB (k := ?_) | refine storeM (k := ?_) | refine storeB (k := ?_))
  refine callM rfl rfl rfl rfl rfl (fun Hc hm => right_spec 2 Hc) ?_
  rintro Hc _ H1 hm ⟨rfl, rfl⟩
  refine Am.on hm ?_
  repeat (first | refine codeM (k := ?_) | refine condM (k := ?_) | refine offM (k := ?_) | refine offMn (k := ?_) | refine pureM (k := ?_) | refine loadM (k := ?_) | refine loadB (k := ?_) | refine storeM (k := ?_) | refine storeB (k := ?_))
  refine callM rfl rfl rfl rfl rfl (fun Hc hm => right_spec 2 Hc) ?_
  rintro Hc _ H1 hm ⟨rfl, rfl⟩
  refine Am.on hm ?_
  repeat (first | refine codeM (k := ?_) | refine condM (k := ?_) | refine offM (k := ?_) | refine offMn (k := ?_) | refine pureM (k := ?_) | refine loadM (k := ?_) | refine loadB (k := ?_) | refine storeM (k := ?_) | refine storeB (k := ?_))
  refine callM rfl rfl rfl rfl rfl (fun Hc hm => tickRight_ok Hc h0 (by omega)) ?_
  rintro Hc _ H1 hm ⟨rfl, rfl⟩
  refine Am.on hm ?_
  repeat (first | refine codeM (k := ?_) | refine condM (k := ?_) | refine offM (k := ?_) | refine offMn (k := ?_) | refine pureM (k := ?_) | refine loadM (k := ?_) | refine loadB (k := ?_) | refine storeM (k := ?_) | refine storeB (k := ?_))
  refine callM rfl rfl rfl rfl rfl (fun Hc hm => jopen_spec none (hd.keep (F' := Fd) (hm.toExt (by repeat (first | exact Pick.nil | refine Pick.keep ?_ | refine Pick.drop (by first | assumption | omega) ?_))) (fun b hb _ => ⟨fun f => f, hb⟩)) (fun l e => by cases e)) ?_
  rintro Hc _ H1 hm ⟨lg, rfl, x1, hlg, hLg⟩
  have hx0 : Ext H Hc := hm.toExt (by repeat (first | exact Pick.nil | refine Pick.keep ?_ | refine Pick.drop (by first | assumption | omega) ?_))
  have hs0 := hx0.size
  have hs1 := x1.size
  have hLg1 := hLg.keep (F' := fun b => (Fd b ∨ Hc.size ≤ b) ∧ b < H1.size) (Kept.refl (fun _ => False) H1) (fun b hb hl => ⟨fun f => f, hb, hl⟩)
  have nm0 : Nm H Fd [] H1 (fun b => (Fd b ∨ Hc.size ≤ b) ∧ b < H1.size) (rdz d lg [] (jb none)) := ⟨by simp, by simp [keys], ⟨_, fun _ => False, fun _ => False, hLg1, fun h => (by cases h), fun h => (by cases h), fun b hb => ⟨hb, hb.2, fun g => (by cases g.1), fun g => (by cases g.1)⟩, fun b hb => (by cases hb.1), fun b hb => (by cases hb.1)⟩, by simp [keys], fun b hb => by
    rcases hb.1 with e | e
    · exact .inl e
    · exact .inr (by omega), (hx0.trans x1).mono (fun _ f _ => f.elim)⟩
  have hcb1 := hcb.keep (hx0.trans x1) (fun f => f)
  refine Am.on (nm0.mem.read hcb1.1 hcb1.2 (by simp [keys])) ?_
  repeat (first | refine codeM (k := ?_) | refine condM (k := ?_) | refine offM (k := ?_) | refine offMn (k := ?_) | refine pureM (k := ?_) | refine loadM (k := ?_) | refine loadB (k := ?_) | refine storeM (k := ?_) | refine storeB (k := ?_))
  refine callM rfl rfl rfl rfl rfl (fun Hc hm => nread0_spec (hLg1.on (hm.noR.toExt (by repeat (first | exact Pick.nil | refine Pick.keep ?_ | refine Pick.drop (by first | assumption | omega) ?_))))) ?_
  rintro Hc _ H2 hm ⟨x2, rfl⟩
  refine Am.on (hm.ext x2) ?_
  repeat (first | refine codeM (k := ?_) | refine condM (k := ?_) | refine offM (k := ?_) | refine offMn (k := ?_) | refine pureM (k := ?_) | refine loadM (k := ?_) | refine loadB (k := ?_) | refine storeM (k := ?_) | refine storeB (k := ?_))
  refine allocM rfl rfl rfl (fun s hs => ?_)
  repeat (first | refine codeM (k := ?_) | refine condM (k := ?_) | refine offM (k := ?_) | refine offMn (k := ?_) | refine pureM (k := ?_) | refine loadM (k := ?_) | refine loadB (k := ?_) | refine storeM (k := ?_) | refine storeB (k := ?_))
  refine drawM [6] Tryz.mixed ?_
  first | refine dpM 0 (k := ?_) | refine doffM 0 (k := ?_) | refine dldM 0 rfl (k := ?_) | refine doffNM 0 (k := ?_) | refine dldB 0 rfl (k := ?_)
  first | refine dpM 1 (k := ?_) | refine doffM 1 (k := ?_) | refine dldM 1 rfl (k := ?_) | refine doffNM 1 (k := ?_) | refine dldB 1 rfl (k := ?_)
  first | refine dpM 2 (k := ?_) | refine doffM 2 (k := ?_) | refine dldM 2 rfl (k := ?_) | refine doffNM 2 (k := ?_) | refine dldB 2 rfl (k := ?_)
  first | refine dpM 4 (k := ?_) | refine doffM 4 (k := ?_) | refine dldM 4 rfl (k := ?_) | refine doffNM 4 (k := ?_) | refine dldB 4 rfl (k := ?_)
  first | refine dpM 5 (k := ?_) | refine doffM 5 (k := ?_) | refine dldM 5 rfl (k := ?_) | refine doffNM 5 (k := ?_) | refine dldB 5 rfl (k := ?_)
  first | refine dldB 6 rfl (k := ?_)
  first | refine dpM 7 (k := ?_) | refine doffM 7 (k := ?_) | refine dldM 7 rfl (k := ?_) | refine doffNM 7 (k := ?_) | refine dldB 7 rfl (k := ?_)
  refine dxL 3 rfl (by kernel_rfl) rfl (fun Hx => ?_)
  refine callW rfl rfl rfl rfl (fun Hc hm => cloneCaps2 (hm.roOf (.r .here))) ?_
  rintro Hc _ H2 hm ⟨cv, cvc, rfl, x2⟩
  refine Am.on (hm.ext x2) ?_
  first | refine leftA (k := ?_) | refine leftF (by kernel_rfl) ?_
  refine dqM 8 rfl (p_build (ndC (rdz d lg [] (jb none)) (.slice (some ⟨cv, 0, none⟩) 2 cvc) nil0 nil0 nil0 now 0 0 0 nil0 nil0) rfl rfl) (k := ?_)
  refine dxL 9 rfl (by kernel_rfl) rfl (fun Hx => ?_)
  refine boxW (ys := ndC (rdz d lg [] (jb none)) (.slice (some ⟨cv, 0, none⟩) 2 cvc) nil0 nil0 nil0 now 0 0 0 nil0 nil0) rfl rfl rfl (fun n hn => ?_)
  first | refine leftA (k := ?_) | refine leftF (by kernel_rfl) ?_
  first | refine dpM 10 (k := ?_) | refine doffM 10 (k := ?_) | refine dldM 10 rfl (k := ?_) | refine doffNM 10 (k := ?_) | refine dldB 10 rfl (k := ?_)
  refine ddoneM (by kernel_rfl) ?_
  repeat (first | refine codeM (k := ?_) | refine condM (k := ?_) | refine offM (k := ?_) | refine offMn (k := ?_) | refine pureM (k := ?_) | refine loadM (k := ?_) | refine loadB (k := ?_) | refine storeM (k := ?_) | refine storeB (k := ?_))
  refine pM (p_build (recC (epochR (0 + 1)) nilV) rfl rfl) rfl rfl rfl ?_
  refine bs1M rfl rfl rfl (by decide) rfl rfl (fun rb hrb => ?_)
  repeat (first | refine codeM (k := ?_) | refine condM (k := ?_) | refine offM (k := ?_) | refine offMn (k := ?_) | refine pureM (k := ?_) | refine loadM (k := ?_) | refine loadB (k := ?_) | refine storeM (k := ?_) | refine storeB (k := ?_))
  refine callM rfl rfl rfl rfl rfl (fun Hc hm => jnE_spec (x := rdz d lg [] (jb none)) (cv := .slice (some ⟨cv, 0, none⟩) 2 cvc) (lv := nil0) (fv := nil0) (mv := nil0) (clock := now) (quiet := 0) (ep := 0) (recs := 0) (hm.has1 (.there .here)) (nm0.seg hm.noR (by intro b hb; simp only [keys, List.map_cons, List.map_nil, List.mem_cons, List.not_mem_nil, or_false] at hb ⊢ <;> omega) (fun b hb => hb.2) (by intro b hb; simp only [keys, List.map_cons, List.map_nil, List.mem_cons, List.not_mem_nil, or_false] at hb ⊢ <;> omega)).res (fun b hb => by have := hm.size; have := hb.2; omega) (fun hb => by have := hb.2; omega) (hm.has1 .here).ro (fun e => by have h2 := hm.nd; subst e; simp [keys] at h2) (by decide) (by decide) (by show 0 ≤ 900; decide) (by show 0 ≤ 10000000; decide)) ?_
  rintro Hc _ H2 hm ⟨F', rfl, nmj⟩
  have hs2 := hm.size
  have hs3 := nmj.kept.size
  have hnl := hm.lt n (by simp [keys])
  have hrl := hm.lt rb (by simp [keys])
  have hsl := hm.lt s (by simp [keys])
  have nm2 := ((nm0.seg hm.noR (by intro b hb; simp only [keys, List.map_cons, List.map_nil, List.mem_cons, List.not_mem_nil, or_false] at hb ⊢ <;> omega) (fun b hb => hb.2) (by intro b hb; simp only [keys, List.map_cons, List.map_nil, List.mem_cons, List.not_mem_nil, or_false] at hb ⊢ <;> omega)).aft nmj (.upd (.there .here) .nil)).bound
  refine Am.on nm2.mem ?_
  repeat (first | refine codeM (k := ?_) | refine condM (k := ?_) | refine offM (k := ?_) | refine offMn (k := ?_) | refine pureM (k := ?_) | refine loadM (k := ?_) | refine loadB (k := ?_) | refine storeM (k := ?_) | refine storeB (k := ?_))
  refine storeN (ndC (rdz d lg [] (jb none)) (.slice (some ⟨cv, 0, none⟩) 2 cvc) nil0 nil0 nil0 now 0 (0 + 1) (0 + 1) nil0 nil0) rfl rfl rfl rfl rfl (.there .here) rfl rfl rfl ?_
  repeat (first | refine codeM (k := ?_) | refine condM (k := ?_) | refine offM (k := ?_) | refine offMn (k := ?_) | refine pureM (k := ?_) | refine loadM (k := ?_) | refine loadB (k := ?_) | refine storeM (k := ?_) | refine storeB (k := ?_))
  refine callM rfl rfl rfl rfl rfl (fun Hc hm => new_ok 0 0 (0 + 1) Hc (by decide) (by decide) (by decide)) ?_
  rintro Hk0 _ H3 hm ⟨p0, rfl, hn0⟩
  have hk0 := hm.size
  have hp0 := hn0.blk
  have hp0s := hn0.size
  have hnl := hm.lt n (by simp [keys])
  have hrl := hm.lt rb (by simp [keys])
  have hsl := hm.lt s (by simp [keys])
  have lk0 := lkNew hn0
  have nm3 := nm2.seg (hm.ext hn0.ext) (by intro b hb; simp only [keys, List.map_cons, List.map_nil, List.mem_cons, List.not_mem_nil, or_false] at hb ⊢ <;> omega) (fun b hb => hb.2) (by intro b hb; simp only [keys, List.map_cons, List.map_nil, List.mem_cons, List.not_mem_nil, or_false] at hb ⊢ <;> omega)
  refine Am.on nm3.mem ?_
  repeat (first | refine codeM (k := ?_) | refine condM (k := ?_) | refine offM (k := ?_) | refine offMn (k := ?_) | refine pureM (k := ?_) | refine loadM (k := ?_) | refine loadB (k := ?_) | refine storeM (k := ?_) | refine storeB (k := ?_))
  refine bs1M rfl rfl rfl (by decide) rfl rfl (fun b1 hb1 => ?_)
  refine At_am ?_
  intro H4 hm4
  have hs4 := hm4.size
  have hb1l := hm4.lt b1 (by simp [keys])
  have nm4 := nm3.seg hm4 (by intro b hb; simp only [keys, List.map_cons, List.map_nil, List.mem_cons, List.not_mem_nil, or_false] at hb ⊢ <;> omega) (fun b hb => by have := hb.2; omega) (by intro b hb; simp only [keys, List.map_cons, List.map_nil, List.mem_cons, List.not_mem_nil, or_false] at hb ⊢ <;> omega)
  have lk0 := lkKeep lk0 hm4.kept (by simp only [keys, List.map_cons, List.map_nil, List.mem_cons, List.not_mem_nil, or_false]; omega)
  refine At_wp (W_append (news := [ptr p0]) rfl rfl (Own.nil H4 0 _ 1) rfl (fun j u hj => by rw [Nat.zero_add]; exact (hm4.has1 .here).cell hj) (by intro u hu; simp at hu; subst hu; rfl) (Nat.zero_le _) rfl (by decide) (by decide) (by simp [maxLen]) (by decide) rfl ?_) rfl
  intro lb1 lc1 H5 own hk5 hlb1
  have x5 : Ext H4 H5 := hk5.mono (fun i e _ => by cases e)
  have hs5 := x5.size
  have hlb : H4.size ≤ lb1 := by
    rcases hlb1 with e | e
    · cases e
    · exact e
  have lk0 := lkKeep lk0 x5 (fun f => f)
  have hlbl : lb1 < H5.size := (own.lt (g := lb1) rfl).2
  have nm5 := nm4.seg (nm4.mem.ext x5) (by intro b hb; simp only [keys, List.map_cons, List.map_nil, List.mem_cons, List.not_mem_nil, or_false] at hb ⊢ <;> omega) (fun b hb => by have := hb.2; omega) (by intro b hb; simp only [keys, List.map_cons, List.map_nil, List.mem_cons, List.not_mem_nil, or_false] at hb ⊢ <;> omega)
  refine Am.on nm5.mem ?_
  repeat (first | refine codeM (k := ?_) | refine condM (k := ?_) | refine offM (k := ?_) | refine offMn (k := ?_) | refine pureM (k := ?_) | refine loadM (k := ?_) | refine loadB (k := ?_) | refine storeM (k := ?_) | refine storeB (k := ?_))
  refine callM rfl rfl rfl rfl rfl (fun Hc hm => new_ok 0 1 (0 + 1) Hc (by decide) (by decide) (by decide)) ?_
  rintro Hk1 _ H6 hm ⟨p1, rfl, hn1⟩
  have hk1 := hm.size
  have hp1 := hn1.blk
  have hp1s := hn1.size
  have lk1 := lkNew hn1
  have lk0 := lkKeep (lkKeep lk0 hm.kept (by simp only [keys, List.map_cons, List.map_nil, List.mem_cons, List.not_mem_nil, or_false]; omega)) hn1.ext (fun f => f)
  have own6 := (own.keep hm.kept (fun g e => by simp only [Value.ownBlock, Option.some.injEq] at e; simp only [keys, List.map_cons, List.map_nil, List.mem_cons, List.not_mem_nil, or_false]; omega)).keep hn1.ext (fun _ _ f => f)
  have nm6 := nm5.seg (hm.ext hn1.ext) (by intro b hb; simp only [keys, List.map_cons, List.map_nil, List.mem_cons, List.not_mem_nil, or_false] at hb ⊢ <;> omega) (fun b hb => by have := hb.2; omega) (by intro b hb; simp only [keys, List.map_cons, List.map_nil, List.mem_cons, List.not_mem_nil, or_false] at hb ⊢ <;> omega)
  refine Am.on nm6.mem ?_
  repeat (first | refine codeM (k := ?_) | refine condM (k := ?_) | refine offM (k := ?_) | refine offMn (k := ?_) | refine pureM (k := ?_) | refine loadM (k := ?_) | refine loadB (k := ?_) | refine storeM (k := ?_) | refine storeB (k := ?_))
  refine bs1M rfl rfl rfl (by decide) rfl rfl (fun b2 hb2 => ?_)
  refine At_am ?_
  intro H7 hm7
  have hs7 := hm7.size
  have hb2l := hm7.lt b2 (by simp [keys])
  have nm7 := nm6.seg hm7 (by intro b hb; simp only [keys, List.map_cons, List.map_nil, List.mem_cons, List.not_mem_nil, or_false] at hb ⊢ <;> omega) (fun b hb => by have := hb.2; omega) (by intro b hb; simp only [keys, List.map_cons, List.map_nil, List.mem_cons, List.not_mem_nil, or_false] at hb ⊢ <;> omega)
  have lk0 := lkKeep lk0 hm7.kept (by simp only [keys, List.map_cons, List.map_nil, List.mem_cons, List.not_mem_nil, or_false]; omega)
  have lk1 := lkKeep lk1 hm7.kept (by simp only [keys, List.map_cons, List.map_nil, List.mem_cons, List.not_mem_nil, or_false]; omega)
  have own7 := own6.keep hm7.kept (fun g e => by simp only [Value.ownBlock, Option.some.injEq] at e; simp only [keys, List.map_cons, List.map_nil, List.mem_cons, List.not_mem_nil, or_false]; omega)
  refine At_wp (W_append (news := [ptr p1]) rfl rfl own7 rfl (fun j u hj => by rw [Nat.zero_add]; exact (hm7.has1 .here).cell hj) (by intro u hu; simp at hu; subst hu; rfl) (Nat.zero_le _) rfl (by decide) (by decide) (by simp [maxLen]) (by decide) rfl ?_) rfl
  intro lb lc H8 own8 hk8 hlb8
  have hs8 := hk8.size
  have hS : ∀ i, (Value.slice (some ⟨lb1, 0, none⟩) (0 + 1) lc1).ownBlock = some i → i = lb1 := fun i e => by simp only [Value.ownBlock, Option.some.injEq] at e; omega
  have hlbr : lb = lb1 ∨ H7.size ≤ lb := by
    rcases hlb8 with e | e
    · exact .inl (hS lb e)
    · exact .inr e
  have nm8 := nm7.out hk8 (fun b hb e => by have := hS b e; have := hb.2; omega) (fun b hb e => by have := hS b e; simp only [keys, List.map_cons, List.map_nil, List.mem_cons, List.not_mem_nil, or_false] at hb; omega) (fun b e => by have := hS b e; omega)
  have lk0 := lkKeep lk0 hk8 (fun e => by have := hS p0 e; omega)
  have lk1 := lkKeep lk1 hk8 (fun e => by have := hS p1 e; omega)
  have nm9 := (nm8.take (Has.own own8) (by simp only [keys, List.map_cons, List.map_nil, List.mem_cons, List.not_mem_nil, or_false]; omega) (fun hb => by have := hb.2; omega)).rise (L0 := lkz 0 (0 + 1)) (L1 := lkz 1 (0 + 1)) (fun b hb => by have := hb.2; omega) rfl lk0 lk1 (fun hb => by have := hb.2; omega) (fun hb => by have := hb.2; omega) (by omega) (by simp only [keys, List.map_cons, List.map_nil, List.mem_cons, List.not_mem_nil, or_false]; omega) (by simp only [keys, List.map_cons, List.map_nil, List.mem_cons, List.not_mem_nil, or_false]; omega) (by omega) (by omega)
  have lkl0 := lt_of_heap lk0.blk
  have lkl1 := lt_of_heap lk1.blk
  refine Am.on nm9.mem ?_
  repeat (first | refine codeM (k := ?_) | refine condM (k := ?_) | refine offM (k := ?_) | refine offMn (k := ?_) | refine pureM (k := ?_) | refine loadM (k := ?_) | refine loadB (k := ?_) | refine storeM (k := ?_) | refine storeB (k := ?_))
  refine ret2M rfl rfl rfl (fun H9 hm9 => ?_)
  have nm10 := nm9.seg hm9 (by intro b hb; simp only [keys, List.map_cons, List.map_nil, List.mem_cons, List.not_mem_nil, or_false] at hb ⊢ <;> omega) (fun b hb => by rcases hb with hb | rfl | rfl <;> first | omega | (have := hb.2; omega)) (by intro b hb; simp only [keys, List.map_cons, List.map_nil, List.mem_cons, List.not_mem_nil, or_false] at hb ⊢ <;> omega)
  have hs9 := hm9.size
  exact ⟨n, lb, lc, p0, p1, lg, cv, cvc, _, _, _, rfl, by omega, by omega, nm10.sel (.k (s := (.k (s := (by repeat (first | exact Sel.nil | refine Sel.drop (by first | assumption | omega) ?_)))))), fun b hb => by rcases hb with hb | rfl | rfl <;> first | omega | (have := hb.2; omega)⟩
end Go.Proofs.YtlaobecajieaaaaGreat
/- A node opened anew; a node of one cluster. -/
namespace Go.Proofs.YtlaobecajieaaaaGreat
open Go Ev
set_option linter.unusedVariables false
set_option linter.unusedSimpArgs false
attribute [local irreducible] Go.wpList Go.bodyPost Go.Code.wp Go.Exit.then Go.Exit.inBlock Go.Exit.noGoto Ev.wpAnyG Go.Oper.wp Ev.Back Ev.Left Ev.Spc Ev.At Ev.Pure Ev.Reads Ev.Runs Ev.Does Ev.Cell Ev.Am Ev.Has Ev.Kn Go.Code.rounds

set_option maxHeartbeats 16000000 in
theorem open1_spec {H : Heap} {Fd : Nat → Prop} {d cb cc : Nat} {now : Int} (hd : Dk Fd H d (jb none)) (hFd : ∀ b, Fd b → b < H.size) (hcb : Ro H cb [amt 2]) (hcF : ¬ Fd cb) (h0 : 0 ≤ now) (h1 : now ≤ 1073741824) :
    Spc Tryz.prog 5 #[ptr d, .slice (some ⟨cb, 0, none⟩) 1 cc, .int .i64 0, .int .i64 now] H fun r H' => ∃ n x cv lv fv mv, r = .tuple #[ptr n, .int .i64 0] ∧ H.size ≤ n ∧ Ro H' n (ndC x cv lv fv mv now 0 1 1 nil0 nil0) ∧ Kept Fd H H' := by
  refine spec_of Tryz.func5 rfl Tryz.ntmps5 rfl (fun W => ?_)
  refine Am.on (Mem.startR hcb) ?_
  repeat (first | refine codeM (k := ?_) | refine condM (k := ?_) | refine offM (k := ?_) | refine offMn (k := ?_) | refine pureM (k := ?_) | refine loadM (k := ?_) | refine loadB (k := ?_) | refine storeM (k := ?_) | refine storeB (k := ?_))
  refine callM rfl rfl rfl rfl rfl (fun Hc hm => right_spec 2 Hc) ?_
  rintro Hc _ H1 hm ⟨rfl, rfl⟩
  refine Am.on hm ?_
  repeat (first | refine codeM (k := ?_) | refine condM (k := ?_) | refine offM (k := ?_) | refine offMn (k := ?_) | refine pureM (k := ?_) | refine loadM (k := ?_) | refine loadB (k := ?_) | refine storeM (k := ?_) | refine storeB (k := ?_))
  refine callM rfl rfl rfl rfl rfl (fun Hc hm => tickRight_ok Hc h0 (by omega)) ?_
  rintro Hc _ H1 hm ⟨rfl, rfl⟩
  refine Am.on hm ?_
  repeat (first | refine codeM (k := ?_) | refine condM (k := ?_) | refine offM (k := ?_) | refine offMn (k := ?_) | refine pureM (k := ?_) | refine loadM (k := ?_) | refine loadB (k := ?_) | refine storeM (k := ?_) | refine storeB (k := ?_))
  refine callM rfl rfl rfl rfl rfl (fun Hc hm => jopen_spec none (hd.keep (F' := Fd) (hm.toExt (by repeat (first | exact Pick.nil | refine Pick.keep ?_ | refine Pick.drop (by first | assumption | omega) ?_))) (fun b hb _ => ⟨fun f => f, hb⟩)) (fun l e => by cases e)) ?_
  rintro Hc _ H1 hm ⟨lg, rfl, x1, hlg, hLg⟩
  have hx0 : Ext H Hc := hm.toExt (by repeat (first | exact Pick.nil | refine Pick.keep ?_ | refine Pick.drop (by first | assumption | omega) ?_))
  have hs0 := hx0.size
  have hs1 := x1.size
  have hLg1 := hLg.keep (F' := fun b => (Fd b ∨ Hc.size ≤ b) ∧ b < H1.size) (Kept.refl (fun _ => False) H1) (fun b hb hl => ⟨fun f => f, hb, hl⟩)
  have nm0 : Nm H Fd [] H1 (fun b => (Fd b ∨ Hc.size ≤ b) ∧ b < H1.size) (rdz d lg [] (jb none)) := ⟨by simp, by simp [keys], ⟨_, fun _ => False, fun _ => False, hLg1, fun h => (by cases h), fun h => (by cases h), fun b hb => ⟨hb, hb.2, fun g => (by cases g.1), fun g => (by cases g.1)⟩, fun b hb => (by cases hb.1), fun b hb => (by cases hb.1)⟩, by simp [keys], fun b hb => by
    rcases hb.1 with e | e
    · exact .inl e
    · exact .inr (by omega), (hx0.trans x1).mono (fun _ f _ => f.elim)⟩
  have hcb1 := hcb.keep (hx0.trans x1) (fun f => f)
  refine Am.on (nm0.mem.read hcb1.1 hcb1.2 (by simp [keys])) ?_
  repeat (first | refine codeM (k := ?_) | refine condM (k := ?_) | refine offM (k := ?_) | refine offMn (k := ?_) | refine pureM (k := ?_) | refine loadM (k := ?_) | refine loadB (k := ?_) | refine storeM (k := ?_) | refine storeB (k := ?_))
  refine callM rfl rfl rfl rfl rfl (fun Hc hm => nread0_spec (hLg1.on (hm.noR.toExt (by repeat (first | exact Pick.nil | refine Pick.keep ?_ | refine Pick.drop (by first | assumption | omega) ?_))))) ?_
  rintro Hc _ H2 hm ⟨x2, rfl⟩
  refine Am.on (hm.ext x2) ?_
  repeat (first | refine codeM (k := ?_) | refine condM (k := ?_) | refine offM (k := ?_) | refine offMn (k := ?_) | refine pureM (k := ?_) | refine loadM (k := ?_) | refine loadB (k := ?_) | refine storeM (k := ?_) | refine storeB (k := ?_))
  refine allocM rfl rfl rfl (fun s hs => ?_)
  repeat (first | refine codeM (k := ?_) | refine condM (k := ?_) | refine offM (k := ?_) | refine offMn (k := ?_) | refine pureM (k := ?_) | refine loadM (k := ?_) | refine loadB (k := ?_) | refine storeM (k := ?_) | refine storeB (k := ?_))
  refine drawM [6] Tryz.mixed ?_
  first | refine dpM 0 (k := ?_) | refine doffM 0 (k := ?_) | refine dldM 0 rfl (k := ?_) | refine doffNM 0 (k := ?_) | refine dldB 0 rfl (k := ?_)
  first | refine dpM 1 (k := ?_) | refine doffM 1 (k := ?_) | refine dldM 1 rfl (k := ?_) | refine doffNM 1 (k := ?_) | refine dldB 1 rfl (k := ?_)
  first | refine dpM 2 (k := ?_) | refine doffM 2 (k := ?_) | refine dldM 2 rfl (k := ?_) | refine doffNM 2 (k := ?_) | refine dldB 2 rfl (k := ?_)
  first | refine dpM 4 (k := ?_) | refine doffM 4 (k := ?_) | refine dldM 4 rfl (k := ?_) | refine doffNM 4 (k := ?_) | refine dldB 4 rfl (k := ?_)
  first | refine dpM 5 (k := ?_) | refine doffM 5 (k := ?_) | refine dldM 5 rfl (k := ?_) | refine doffNM 5 (k := ?_) | refine dldB 5 rfl (k := ?_)
  first | refine dldB 6 rfl (k := ?_)
  first | refine dpM 7 (k := ?_) | refine doffM 7 (k := ?_) | refine dldM 7 rfl (k := ?_) | refine doffNM 7 (k := ?_) | refine dldB 7 rfl (k := ?_)
  refine dxL 3 rfl (by kernel_rfl) rfl (fun Hx => ?_)
  refine callW rfl rfl rfl rfl (fun Hc hm => cloneCaps1 (hm.roOf (.r .here))) ?_
  rintro Hc _ H2 hm ⟨cv, cvc, rfl, x2⟩
  refine Am.on (hm.ext x2) ?_
  first | refine leftA (k := ?_) | refine leftF (by kernel_rfl) ?_
  refine dqM 8 rfl (p_build (ndC (rdz d lg [] (jb none)) (.slice (some ⟨cv, 0, none⟩) 1 cvc) nil0 nil0 nil0 now 0 0 0 nil0 nil0) rfl rfl) (k := ?_)
  refine dxL 9 rfl (by kernel_rfl) rfl (fun Hx => ?_)
  refine boxW (ys := ndC (rdz d lg [] (jb none)) (.slice (some ⟨cv, 0, none⟩) 1 cvc) nil0 nil0 nil0 now 0 0 0 nil0 nil0) rfl rfl rfl (fun n hn => ?_)
  first | refine leftA (k := ?_) | refine leftF (by kernel_rfl) ?_
  first | refine dpM 10 (k := ?_) | refine doffM 10 (k := ?_) | refine dldM 10 rfl (k := ?_) | refine doffNM 10 (k := ?_) | refine dldB 10 rfl (k := ?_)
  refine ddoneM (by kernel_rfl) ?_
  repeat (first | refine codeM (k := ?_) | refine condM (k := ?_) | refine offM (k := ?_) | refine offMn (k := ?_) | refine pureM (k := ?_) | refine loadM (k := ?_) | refine loadB (k := ?_) | refine storeM (k := ?_) | refine storeB (k := ?_))
  refine pM (p_build (recC (epochR (0 + 1)) nilV) rfl rfl) rfl rfl rfl ?_
  refine bs1M rfl rfl rfl (by decide) rfl rfl (fun rb hrb => ?_)
  repeat (first | refine codeM (k := ?_) | refine condM (k := ?_) | refine offM (k := ?_) | refine offMn (k := ?_) | refine pureM (k := ?_) | refine loadM (k := ?_) | refine loadB (k := ?_) | refine storeM (k := ?_) | refine storeB (k := ?_))
  refine callM rfl rfl rfl rfl rfl (fun Hc hm => jnE_spec (x := rdz d lg [] (jb none)) (cv := .slice (some ⟨cv, 0, none⟩) 1 cvc) (lv := nil0) (fv := nil0) (mv := nil0) (clock := now) (quiet := 0) (ep := 0) (recs := 0) (hm.has1 (.there .here)) (nm0.seg hm.noR (by intro b hb; simp only [keys, List.map_cons, List.map_nil, List.mem_cons, List.not_mem_nil, or_false] at hb ⊢ <;> omega) (fun b hb => hb.2) (by intro b hb; simp only [keys, List.map_cons, List.map_nil, List.mem_cons, List.not_mem_nil, or_false] at hb ⊢ <;> omega)).res (fun b hb => by have := hm.size; have := hb.2; omega) (fun hb => by have := hb.2; omega) (hm.has1 .here).ro (fun e => by have h2 := hm.nd; subst e; simp [keys] at h2) (by decide) (by decide) (by show 0 ≤ 900; decide) (by show 0 ≤ 10000000; decide)) ?_
  rintro Hc _ H2 hm ⟨F', rfl, nmj⟩
  have hs2 := hm.size
  have hs3 := nmj.kept.size
  have hnl := hm.lt n (by simp [keys])
  have hrl := hm.lt rb (by simp [keys])
  have hsl := hm.lt s (by simp [keys])
  have nm2 := ((nm0.seg hm.noR (by intro b hb; simp only [keys, List.map_cons, List.map_nil, List.mem_cons, List.not_mem_nil, or_false] at hb ⊢ <;> omega) (fun b hb => hb.2) (by intro b hb; simp only [keys, List.map_cons, List.map_nil, List.mem_cons, List.not_mem_nil, or_false] at hb ⊢ <;> omega)).aft nmj (.upd (.there .here) .nil)).bound
  refine Am.on nm2.mem ?_
  repeat (first | refine codeM (k := ?_) | refine condM (k := ?_) | refine offM (k := ?_) | refine offMn (k := ?_) | refine pureM (k := ?_) | refine loadM (k := ?_) | refine loadB (k := ?_) | refine storeM (k := ?_) | refine storeB (k := ?_))
  refine storeN (ndC (rdz d lg [] (jb none)) (.slice (some ⟨cv, 0, none⟩) 1 cvc) nil0 nil0 nil0 now 0 (0 + 1) (0 + 1) nil0 nil0) rfl rfl rfl rfl rfl (.there .here) rfl rfl rfl ?_
  repeat (first | refine codeM (k := ?_) | refine condM (k := ?_) | refine offM (k := ?_) | refine offMn (k := ?_) | refine pureM (k := ?_) | refine loadM (k := ?_) | refine loadB (k := ?_) | refine storeM (k := ?_) | refine storeB (k := ?_))
  refine callM rfl rfl rfl rfl rfl (fun Hc hm => new_ok 0 0 (0 + 1) Hc (by decide) (by decide) (by decide)) ?_
  rintro Hk0 _ H3 hm ⟨p0, rfl, hn0⟩
  have hk0 := hm.size
  have hp0 := hn0.blk
  have hp0s := hn0.size
  have hnl := hm.lt n (by simp [keys])
  have hrl := hm.lt rb (by simp [keys])
  have hsl := hm.lt s (by simp [keys])
  have lk0 := lkNew hn0
  have nm3 := nm2.seg (hm.ext hn0.ext) (by intro b hb; simp only [keys, List.map_cons, List.map_nil, List.mem_cons, List.not_mem_nil, or_false] at hb ⊢ <;> omega) (fun b hb => hb.2) (by intro b hb; simp only [keys, List.map_cons, List.map_nil, List.mem_cons, List.not_mem_nil, or_false] at hb ⊢ <;> omega)
  refine Am.on nm3.mem ?_
  repeat (first | refine codeM (k := ?_) | refine condM (k := ?_) | refine offM (k := ?_) | refine offMn (k := ?_) | refine pureM (k := ?_) | refine loadM (k := ?_) | refine loadB (k := ?_) | refine storeM (k := ?_) | refine storeB (k := ?_))
  refine bs1M rfl rfl rfl (by decide) rfl rfl (fun b1 hb1 => ?_)
  refine At_am ?_
  intro H4 hm4
  have hs4 := hm4.size
  have hb1l := hm4.lt b1 (by simp [keys])
  have nm4 := nm3.seg hm4 (by intro b hb; simp only [keys, List.map_cons, List.map_nil, List.mem_cons, List.not_mem_nil, or_false] at hb ⊢ <;> omega) (fun b hb => by have := hb.2; omega) (by intro b hb; simp only [keys, List.map_cons, List.map_nil, List.mem_cons, List.not_mem_nil, or_false] at hb ⊢ <;> omega)
  have lk0 := lkKeep lk0 hm4.kept (by simp only [keys, List.map_cons, List.map_nil, List.mem_cons, List.not_mem_nil, or_false]; omega)
  refine At_wp (W_append (news := [ptr p0]) rfl rfl (Own.nil H4 0 _ 1) rfl (fun j u hj => by rw [Nat.zero_add]; exact (hm4.has1 .here).cell hj) (by intro u hu; simp at hu; subst hu; rfl) (Nat.zero_le _) rfl (by decide) (by decide) (by simp [maxLen]) (by decide) rfl ?_) rfl
  intro lb1 lc1 H5 own hk5 hlb1
  have x5 : Ext H4 H5 := hk5.mono (fun i e _ => by cases e)
  have hs5 := x5.size
  have hlb : H4.size ≤ lb1 := by
    rcases hlb1 with e | e
    · cases e
    · exact e
  have lk0 := lkKeep lk0 x5 (fun f => f)
  have hlbl : lb1 < H5.size := (own.lt (g := lb1) rfl).2
  have nm5 := nm4.seg (nm4.mem.ext x5) (by intro b hb; simp only [keys, List.map_cons, List.map_nil, List.mem_cons, List.not_mem_nil, or_false] at hb ⊢ <;> omega) (fun b hb => by have := hb.2; omega) (by intro b hb; simp only [keys, List.map_cons, List.map_nil, List.mem_cons, List.not_mem_nil, or_false] at hb ⊢ <;> omega)
  refine Am.on (nm5.take (Has.own own) (by simp only [keys, List.map_cons, List.map_nil, List.mem_cons, List.not_mem_nil, or_false]; omega) (fun hb => by have := hb.2; omega)).mem ?_
  repeat (first | refine codeM (k := ?_) | refine condM (k := ?_) | refine offM (k := ?_) | refine offMn (k := ?_) | refine pureM (k := ?_) | refine loadM (k := ?_) | refine loadB (k := ?_) | refine storeM (k := ?_) | refine storeB (k := ?_))
  exact ret2M rfl rfl rfl (fun H9 hm9 => ⟨n, _, _, _, _, _, rfl, by omega, (hm9.has1 (.there (.there (.there .here)))).ro, by
    have nm6 := (nm5.take (Has.own own) (by simp only [keys, List.map_cons, List.map_nil, List.mem_cons, List.not_mem_nil, or_false]; omega) (fun hb => by have := hb.2; omega)).seg hm9 (by intro b hb; simp only [keys, List.map_cons, List.map_nil, List.mem_cons, List.not_mem_nil, or_false] at hb ⊢ <;> omega) (fun b hb => by have := hb.2; omega) (by intro b hb; simp only [keys, List.map_cons, List.map_nil, List.mem_cons, List.not_mem_nil, or_false] at hb ⊢ <;> omega)
    exact nm6.kept.mono (fun i s hi => by
      rcases s with s | s
      · simp only [keys, List.map_cons, List.map_nil, List.mem_cons, List.not_mem_nil, or_false] at s
        omega
      · exact s)⟩)
set_option maxHeartbeats 16000000 in
theorem openA_spec {H : Heap} {Fd : Nat → Prop} {d cb cc : Nat} {now : Int} (hd : Dk Fd H d (jb (some rec1))) (hFd : ∀ b, Fd b → b < H.size) (hcb : Ro H cb [amt 2, amt 2]) (hcF : ¬ Fd cb) (h0 : 0 ≤ now) (h1 : now ≤ 1073741824) :
    Spc Tryz.prog 5 #[ptr d, .slice (some ⟨cb, 0, none⟩) 2 cc, .int .i64 0, .int .i64 now] H fun r H' => ∃ n lb lc p0 p1 lg cvb cvc fv mv F', r = .tuple #[ptr n, .int .i64 0] ∧ H.size ≤ n ∧ H.size ≤ lb ∧ Nm H Fd [(n, ndC (rdOf d lg ([rec1] ++ [uvs (recT (epochR (1 + 1)))]) (jb (some rec1) ++ sealB (82 :: uvs (recT (epochR (1 + 1))))) p0 p1 (1 + 1)) (.slice (some ⟨cvb, 0, none⟩) 2 cvc) (.slice (some ⟨lb, 0, none⟩) 2 lc) fv mv now (now + 69) (1 + 1) (1 + 1) nil0 nil0), (lb, [ptr p0, ptr p1])] H' F' (rdOf d lg ([rec1] ++ [uvs (recT (epochR (1 + 1)))]) (jb (some rec1) ++ sealB (82 :: uvs (recT (epochR (1 + 1))))) p0 p1 (1 + 1)) ∧ ∀ b, F' b → b < H'.size := by
  refine spec_of Tryz.func5 rfl Tryz.ntmps5 rfl (fun W => ?_)
  refine Am.on (Mem.startR hcb) ?_
  repeat (first | refine codeM (k := ?_) | refine condM (k := ?_) | refine offM (k := ?_) | refine offMn (k := ?_) | refine pureM (k := ?_) | refine loadM (k := ?_) | refine loadB (k := ?_) | refine storeM (k := ?_) | refine storeB (k := ?_))
  refine callM rfl rfl rfl rfl rfl (fun Hc hm => right_spec 2 Hc) ?_
  rintro Hc _ H1 hm ⟨rfl, rfl⟩
  refine Am.on hm ?_
  repeat (first | refine codeM (k := ?_) | refine condM (k := ?_) | refine offM (k := ?_) | refine offMn (k := ?_) | refine pureM (k := ?_) | refine loadM (k := ?_) | refine loadB (k := ?_) | refine storeM (k := ?_) | refine storeB (k := ?_))
  refine callM rfl rfl rfl rfl rfl (fun Hc hm => right_spec 2 Hc) ?_
  rintro Hc _ H1 hm ⟨rfl, rfl⟩
  refine Am.on hm ?_
  repeat (first | refine codeM (k := ?_) | refine condM (k := ?_) | refine offM (k := ?_) | refine offMn (k := ?_) | refine pureM (k := ?_) | refine loadM (k := ?_) | refine loadB (k := ?_) | refine storeM (k := ?_) | refine storeB (k := ?_))
  refine callM rfl rfl rfl rfl rfl (fun Hc hm => tickRight_ok Hc h0 (by omega)) ?_
  rintro Hc _ H1 hm ⟨rfl, rfl⟩
  refine Am.on hm ?_
  repeat (first | refine codeM (k := ?_) | refine condM (k := ?_) | refine offM (k := ?_) | refine offMn (k := ?_) | refine pureM (k := ?_) | refine loadM (k := ?_) | refine loadB (k := ?_) | refine storeM (k := ?_) | refine storeB (k := ?_))
  refine callM rfl rfl rfl rfl rfl (fun Hc hm => jopen_spec (some rec1) (hd.keep (F' := Fd) (hm.toExt (by repeat (first | exact Pick.nil | refine Pick.keep ?_ | refine Pick.drop (by first | assumption | omega) ?_))) (fun b hb _ => ⟨fun f => f, hb⟩)) (fun l e => by cases e; exact ⟨(recT_bytes (epochR_ok 1 (by decide))).1, Nat.le_trans (recT_bytes (epochR_ok 1 (by decide))).2 (by decide)⟩)) ?_
  rintro Hc _ H1 hm ⟨lg, rfl, x1, hlg, hLg⟩
  have hx0 : Ext H Hc := hm.toExt (by repeat (first | exact Pick.nil | refine Pick.keep ?_ | refine Pick.drop (by first | assumption | omega) ?_))
  have hs0 := hx0.size
  have hs1 := x1.size
  have hLg1 := hLg.keep (F' := fun b => (Fd b ∨ Hc.size ≤ b) ∧ b < H1.size) (Kept.refl (fun _ => False) H1) (fun b hb hl => ⟨fun f => f, hb, hl⟩)
  have nm0 : Nm H Fd [] H1 (fun b => (Fd b ∨ Hc.size ≤ b) ∧ b < H1.size) (rdz d lg [rec1] (jb (some rec1))) := ⟨by simp, by simp [keys], ⟨_, fun _ => False, fun _ => False, hLg1, fun h => (by cases h), fun h => (by cases h), fun b hb => ⟨hb, hb.2, fun g => (by cases g.1), fun g => (by cases g.1)⟩, fun b hb => (by cases hb.1), fun b hb => (by cases hb.1)⟩, by simp [keys], fun b hb => by
    rcases hb.1 with e | e
    · exact .inl e
    · exact .inr (by omega), (hx0.trans x1).mono (fun _ f _ => f.elim)⟩
  have hcb1 := hcb.keep (hx0.trans x1) (fun f => f)
  refine Am.on (nm0.mem.read hcb1.1 hcb1.2 (by simp [keys])) ?_
  repeat (first | refine codeM (k := ?_) | refine condM (k := ?_) | refine offM (k := ?_) | refine offMn (k := ?_) | refine pureM (k := ?_) | refine loadM (k := ?_) | refine loadB (k := ?_) | refine storeM (k := ?_) | refine storeB (k := ?_))
  refine callM rfl rfl rfl rfl rfl (fun Hc hm => nread1_spec (hLg1.on (hm.noR.toExt (by repeat (first | exact Pick.nil | refine Pick.keep ?_ | refine Pick.drop (by first | assumption | omega) ?_))))) ?_
  rintro Hc _ H2 hm ⟨x2, fe, fec, rfl⟩
  refine Am.on (hm.ext x2) ?_
  repeat (first | refine codeM (k := ?_) | refine condM (k := ?_) | refine offM (k := ?_) | refine offMn (k := ?_) | refine pureM (k := ?_) | refine loadM (k := ?_) | refine loadB (k := ?_) | refine storeM (k := ?_) | refine storeB (k := ?_))
  refine allocM rfl rfl rfl (fun s hs => ?_)
  repeat (first | refine codeM (k := ?_) | refine condM (k := ?_) | refine offM (k := ?_) | refine offMn (k := ?_) | refine pureM (k := ?_) | refine loadM (k := ?_) | refine loadB (k := ?_) | refine storeM (k := ?_) | refine storeB (k := ?_))
  refine drawM [6] Tryz.mixed ?_
  first | refine dpM 0 (k := ?_) | refine doffM 0 (k := ?_) | refine dldM 0 rfl (k := ?_) | refine doffNM 0 (k := ?_) | refine dldB 0 rfl (k := ?_)
  first | refine dpM 1 (k := ?_) | refine doffM 1 (k := ?_) | refine dldM 1 rfl (k := ?_) | refine doffNM 1 (k := ?_) | refine dldB 1 rfl (k := ?_)
  first | refine dpM 2 (k := ?_) | refine doffM 2 (k := ?_) | refine dldM 2 rfl (k := ?_) | refine doffNM 2 (k := ?_) | refine dldB 2 rfl (k := ?_)
  first | refine dpM 4 (k := ?_) | refine doffM 4 (k := ?_) | refine dldM 4 rfl (k := ?_) | refine doffNM 4 (k := ?_) | refine dldB 4 rfl (k := ?_)
  first | refine dpM 5 (k := ?_) | refine doffM 5 (k := ?_) | refine dldM 5 rfl (k := ?_) | refine doffNM 5 (k := ?_) | refine dldB 5 rfl (k := ?_)
  first | refine dldB 6 rfl (k := ?_)
  first | refine dpM 7 (k := ?_) | refine doffM 7 (k := ?_) | refine dldM 7 rfl (k := ?_) | refine doffNM 7 (k := ?_) | refine dldB 7 rfl (k := ?_)
  refine dxL 3 rfl (by kernel_rfl) rfl (fun Hx => ?_)
  refine callW rfl rfl rfl rfl (fun Hc hm => cloneCaps2 (hm.roOf (.r .here))) ?_
  rintro Hc _ H2 hm ⟨cv, cvc, rfl, x2⟩
  refine Am.on (hm.ext x2) ?_
  first | refine leftA (k := ?_) | refine leftF (by kernel_rfl) ?_
  refine dqM 8 rfl (p_build (ndC (rdz d lg [rec1] (jb (some rec1))) (.slice (some ⟨cv, 0, none⟩) 2 cvc) nil0 (.slice (some ⟨fe, 0, none⟩) 1 fec) nil0 now 0 1 1 nil0 nil0) rfl rfl) (k := ?_)
  refine dxL 9 rfl (by kernel_rfl) rfl (fun Hx => ?_)
  refine boxW (ys := ndC (rdz d lg [rec1] (jb (some rec1))) (.slice (some ⟨cv, 0, none⟩) 2 cvc) nil0 (.slice (some ⟨fe, 0, none⟩) 1 fec) nil0 now 0 1 1 nil0 nil0) rfl rfl rfl (fun n hn => ?_)
  first | refine leftA (k := ?_) | refine leftF (by kernel_rfl) ?_
  first | refine dpM 10 (k := ?_) | refine doffM 10 (k := ?_) | refine dldM 10 rfl (k := ?_) | refine doffNM 10 (k := ?_) | refine dldB 10 rfl (k := ?_)
  refine ddoneM (by kernel_rfl) ?_
  repeat (first | refine codeM (k := ?_) | refine condM (k := ?_) | refine offM (k := ?_) | refine offMn (k := ?_) | refine pureM (k := ?_) | refine loadM (k := ?_) | refine loadB (k := ?_) | refine storeM (k := ?_) | refine storeB (k := ?_))
  refine pM (p_build (recC (epochR (1 + 1)) nilV) rfl rfl) rfl rfl rfl ?_
  refine bs1M rfl rfl rfl (by decide) rfl rfl (fun rb hrb => ?_)
  repeat (first | refine codeM (k := ?_) | refine condM (k := ?_) | refine offM (k := ?_) | refine offMn (k := ?_) | refine pureM (k := ?_) | refine loadM (k := ?_) | refine loadB (k := ?_) | refine storeM (k := ?_) | refine storeB (k := ?_))
  refine callM rfl rfl rfl rfl rfl (fun Hc hm => jnE_spec (x := rdz d lg [rec1] (jb (some rec1))) (cv := .slice (some ⟨cv, 0, none⟩) 2 cvc) (lv := nil0) (fv := (.slice (some ⟨fe, 0, none⟩) 1 fec)) (mv := nil0) (clock := now) (quiet := 0) (ep := 1) (recs := 1) (hm.has1 (.there .here)) (nm0.seg hm.noR (by intro b hb; simp only [keys, List.map_cons, List.map_nil, List.mem_cons, List.not_mem_nil, or_false] at hb ⊢ <;> omega) (fun b hb => hb.2) (by intro b hb; simp only [keys, List.map_cons, List.map_nil, List.mem_cons, List.not_mem_nil, or_false] at hb ⊢ <;> omega)).res (fun b hb => by have := hm.size; have := hb.2; omega) (fun hb => by have := hb.2; omega) (hm.has1 .here).ro (fun e => by have h2 := hm.nd; subst e; simp [keys] at h2) (by decide) (by decide) (by show 1 ≤ 900; decide) (by have := (recT_bytes (epochR_ok 1 (by decide))).2; show (sealB (82 :: rec1)).length ≤ 10000000; rw [sealB_len]; simp only [List.length_cons]; show 8 + ((uvs (recT (epochR 1))).length + 1) ≤ _; omega)) ?_
  rintro Hc _ H2 hm ⟨F', rfl, nmj⟩
  have hs2 := hm.size
  have hs3 := nmj.kept.size
  have hnl := hm.lt n (by simp [keys])
  have hrl := hm.lt rb (by simp [keys])
  have hsl := hm.lt s (by simp [keys])
  have nm2 := ((nm0.seg hm.noR (by intro b hb; simp only [keys, List.map_cons, List.map_nil, List.mem_cons, List.not_mem_nil, or_false] at hb ⊢ <;> omega) (fun b hb => hb.2) (by intro b hb; simp only [keys, List.map_cons, List.map_nil, List.mem_cons, List.not_mem_nil, or_false] at hb ⊢ <;> omega)).aft nmj (.upd (.there .here) .nil)).bound
  refine Am.on nm2.mem ?_
  repeat (first | refine codeM (k := ?_) | refine condM (k := ?_) | refine offM (k := ?_) | refine offMn (k := ?_) | refine pureM (k := ?_) | refine loadM (k := ?_) | refine loadB (k := ?_) | refine storeM (k := ?_) | refine storeB (k := ?_))
  refine storeN (ndC (rdz d lg [rec1] (jb (some rec1))) (.slice (some ⟨cv, 0, none⟩) 2 cvc) nil0 (.slice (some ⟨fe, 0, none⟩) 1 fec) nil0 now 0 (1 + 1) (1 + 1) nil0 nil0) rfl rfl rfl rfl rfl (.there .here) rfl rfl rfl ?_
  repeat (first | refine codeM (k := ?_) | refine condM (k := ?_) | refine offM (k := ?_) | refine offMn (k := ?_) | refine pureM (k := ?_) | refine loadM (k := ?_) | refine loadB (k := ?_) | refine storeM (k := ?_) | refine storeB (k := ?_))
  refine callM rfl rfl rfl rfl rfl (fun Hc hm => new_ok 0 0 (1 + 1) Hc (by decide) (by decide) (by decide)) ?_
  rintro Hk0 _ H3 hm ⟨p0, rfl, hn0⟩
  have hk0 := hm.size
  have hp0 := hn0.blk
  have hp0s := hn0.size
  have hnl := hm.lt n (by simp [keys])
  have hrl := hm.lt rb (by simp [keys])
  have hsl := hm.lt s (by simp [keys])
  have lk0 := lkNew hn0
  have nm3 := nm2.seg (hm.ext hn0.ext) (by intro b hb; simp only [keys, List.map_cons, List.map_nil, List.mem_cons, List.not_mem_nil, or_false] at hb ⊢ <;> omega) (fun b hb => hb.2) (by intro b hb; simp only [keys, List.map_cons, List.map_nil, List.mem_cons, List.not_mem_nil, or_false] at hb ⊢ <;> omega)
  refine Am.on nm3.mem ?_
  repeat (first | refine codeM (k := ?_) | refine condM (k := ?_) | refine offM (k := ?_) | refine offMn (k := ?_) | refine pureM (k := ?_) | refine loadM (k := ?_) | refine loadB (k := ?_) | refine storeM (k := ?_) | refine storeB (k := ?_))
  refine bs1M rfl rfl rfl (by decide) rfl rfl (fun b1 hb1 => ?_)
  refine At_am ?_
  intro H4 hm4
  have hs4 := hm4.size
  have hb1l := hm4.lt b1 (by simp [keys])
  have nm4 := nm3.seg hm4 (by intro b hb; simp only [keys, List.map_cons, List.map_nil, List.mem_cons, List.not_mem_nil, or_false] at hb ⊢ <;> omega) (fun b hb => by have := hb.2; omega) (by intro b hb; simp only [keys, List.map_cons, List.map_nil, List.mem_cons, List.not_mem_nil, or_false] at hb ⊢ <;> omega)
  have lk0 := lkKeep lk0 hm4.kept (by simp only [keys, List.map_cons, List.map_nil, List.mem_cons, List.not_mem_nil, or_false]; omega)
  refine At_wp (W_append (news := [ptr p0]) rfl rfl (Own.nil H4 0 _ 1) rfl (fun j u hj => by rw [Nat.zero_add]; exact (hm4.has1 .here).cell hj) (by intro u hu; simp at hu; subst hu; rfl) (Nat.zero_le _) rfl (by decide) (by decide) (by simp [maxLen]) (by decide) rfl ?_) rfl
  intro lb1 lc1 H5 own hk5 hlb1
  have x5 : Ext H4 H5 := hk5.mono (fun i e _ => by cases e)
  have hs5 := x5.size
  have hlb : H4.size ≤ lb1 := by
    rcases hlb1 with e | e
    · cases e
    · exact e
  have lk0 := lkKeep lk0 x5 (fun f => f)
  have hlbl : lb1 < H5.size := (own.lt (g := lb1) rfl).2
  have nm5 := nm4.seg (nm4.mem.ext x5) (by intro b hb; simp only [keys, List.map_cons, List.map_nil, List.mem_cons, List.not_mem_nil, or_false] at hb ⊢ <;> omega) (fun b hb => by have := hb.2; omega) (by intro b hb; simp only [keys, List.map_cons, List.map_nil, List.mem_cons, List.not_mem_nil, or_false] at hb ⊢ <;> omega)
  refine Am.on nm5.mem ?_
  repeat (first | refine codeM (k := ?_) | refine condM (k := ?_) | refine offM (k := ?_) | refine offMn (k := ?_) | refine pureM (k := ?_) | refine loadM (k := ?_) | refine loadB (k := ?_) | refine storeM (k := ?_) | refine storeB (k := ?_))
  refine callM rfl rfl rfl rfl rfl (fun Hc hm => new_ok 0 1 (1 + 1) Hc (by decide) (by decide) (by decide)) ?_
  rintro Hk1 _ H6 hm ⟨p1, rfl, hn1⟩
  have hk1 := hm.size
  have hp1 := hn1.blk
  have hp1s := hn1.size
  have lk1 := lkNew hn1
  have lk0 := lkKeep (lkKeep lk0 hm.kept (by simp only [keys, List.map_cons, List.map_nil, List.mem_cons, List.not_mem_nil, or_false]; omega)) hn1.ext (fun f => f)
  have own6 := (own.keep hm.kept (fun g e => by simp only [Value.ownBlock, Option.some.injEq] at e; simp only [keys, List.map_cons, List.map_nil, List.mem_cons, List.not_mem_nil, or_false]; omega)).keep hn1.ext (fun _ _ f => f)
  have nm6 := nm5.seg (hm.ext hn1.ext) (by intro b hb; simp only [keys, List.map_cons, List.map_nil, List.mem_cons, List.not_mem_nil, or_false] at hb ⊢ <;> omega) (fun b hb => by have := hb.2; omega) (by intro b hb; simp only [keys, List.map_cons, List.map_nil, List.mem_cons, List.not_mem_nil, or_false] at hb ⊢ <;> omega)
  refine Am.on nm6.mem ?_
  repeat (first | refine codeM (k := ?_) | refine condM (k := ?_) | refine offM (k := ?_) | refine offMn (k := ?_) | refine pureM (k := ?_) | refine loadM (k := ?_) | refine loadB (k := ?_) | refine storeM (k := ?_) | refine storeB (k := ?_))
  refine bs1M rfl rfl rfl (by decide) rfl rfl (fun b2 hb2 => ?_)
  refine At_am ?_
  intro H7 hm7
  have hs7 := hm7.size
  have hb2l := hm7.lt b2 (by simp [keys])
  have nm7 := nm6.seg hm7 (by intro b hb; simp only [keys, List.map_cons, List.map_nil, List.mem_cons, List.not_mem_nil, or_false] at hb ⊢ <;> omega) (fun b hb => by have := hb.2; omega) (by intro b hb; simp only [keys, List.map_cons, List.map_nil, List.mem_cons, List.not_mem_nil, or_false] at hb ⊢ <;> omega)
  have lk0 := lkKeep lk0 hm7.kept (by simp only [keys, List.map_cons, List.map_nil, List.mem_cons, List.not_mem_nil, or_false]; omega)
  have lk1 := lkKeep lk1 hm7.kept (by simp only [keys, List.map_cons, List.map_nil, List.mem_cons, List.not_mem_nil, or_false]; omega)
  have own7 := own6.keep hm7.kept (fun g e => by simp only [Value.ownBlock, Option.some.injEq] at e; simp only [keys, List.map_cons, List.map_nil, List.mem_cons, List.not_mem_nil, or_false]; omega)
  refine At_wp (W_append (news := [ptr p1]) rfl rfl own7 rfl (fun j u hj => by rw [Nat.zero_add]; exact (hm7.has1 .here).cell hj) (by intro u hu; simp at hu; subst hu; rfl) (Nat.zero_le _) rfl (by decide) (by decide) (by simp [maxLen]) (by decide) rfl ?_) rfl
  intro lb lc H8 own8 hk8 hlb8
  have hs8 := hk8.size
  have hS : ∀ i, (Value.slice (some ⟨lb1, 0, none⟩) (0 + 1) lc1).ownBlock = some i → i = lb1 := fun i e => by simp only [Value.ownBlock, Option.some.injEq] at e; omega
  have hlbr : lb = lb1 ∨ H7.size ≤ lb := by
    rcases hlb8 with e | e
    · exact .inl (hS lb e)
    · exact .inr e
  have nm8 := nm7.out hk8 (fun b hb e => by have := hS b e; have := hb.2; omega) (fun b hb e => by have := hS b e; simp only [keys, List.map_cons, List.map_nil, List.mem_cons, List.not_mem_nil, or_false] at hb; omega) (fun b e => by have := hS b e; omega)
  have lk0 := lkKeep lk0 hk8 (fun e => by have := hS p0 e; omega)
  have lk1 := lkKeep lk1 hk8 (fun e => by have := hS p1 e; omega)
  have nm9 := (nm8.take (Has.own own8) (by simp only [keys, List.map_cons, List.map_nil, List.mem_cons, List.not_mem_nil, or_false]; omega) (fun hb => by have := hb.2; omega)).rise (L0 := lkz 0 (1 + 1)) (L1 := lkz 1 (1 + 1)) (fun b hb => by have := hb.2; omega) rfl lk0 lk1 (fun hb => by have := hb.2; omega) (fun hb => by have := hb.2; omega) (by omega) (by simp only [keys, List.map_cons, List.map_nil, List.mem_cons, List.not_mem_nil, or_false]; omega) (by simp only [keys, List.map_cons, List.map_nil, List.mem_cons, List.not_mem_nil, or_false]; omega) (by omega) (by omega)
  have lkl0 := lt_of_heap lk0.blk
  have lkl1 := lt_of_heap lk1.blk
  refine Am.on nm9.mem ?_
  repeat (first | refine codeM (k := ?_) | refine condM (k := ?_) | refine offM (k := ?_) | refine offMn (k := ?_) | refine pureM (k := ?_) | refine loadM (k := ?_) | refine loadB (k := ?_) | refine storeM (k := ?_) | refine storeB (k := ?_))
  refine callM rfl rfl rfl rfl rfl (fun Hc hm => guard_spec Hc) ?_
  rintro Hc _ H1 hm ⟨rfl, rfl⟩
  refine Am.on hm ?_
  repeat (first | refine codeM (k := ?_) | refine condM (k := ?_) | refine offM (k := ?_) | refine offMn (k := ?_) | refine pureM (k := ?_) | refine loadM (k := ?_) | refine loadB (k := ?_) | refine storeM (k := ?_) | refine storeB (k := ?_))
  refine ret2M rfl rfl rfl (fun H9 hm9 => ?_)
  have nm10 := nm9.seg hm9 (by intro b hb; simp only [keys, List.map_cons, List.map_nil, List.mem_cons, List.not_mem_nil, or_false] at hb ⊢ <;> omega) (fun b hb => by rcases hb with hb | rfl | rfl <;> first | omega | (have := hb.2; omega)) (by intro b hb; simp only [keys, List.map_cons, List.map_nil, List.mem_cons, List.not_mem_nil, or_false] at hb ⊢ <;> omega)
  have hs9 := hm9.size
  exact ⟨n, lb, lc, p0, p1, lg, cv, cvc, _, _, _, rfl, by omega, by omega, nm10.sel (.k (s := (.k (s := (by repeat (first | exact Sel.nil | refine Sel.drop (by first | assumption | omega) ?_)))))), fun b hb => by rcases hb with hb | rfl | rfl <;> first | omega | (have := hb.2; omega)⟩
end Go.Proofs.YtlaobecajieaaaaGreat

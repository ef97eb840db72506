/- The script's frames; a cluster that wakes. -/
import Derived.Test.YtlaobecajieaaaaGreatG28
import Derived.Test.YtlaobecajieaaaaGreatG29
import Derived.Test.YtlaobecajieaaaaGreatG30
import Derived.Test.YtlaobecajieaaaaGreatG26
namespace Go.Proofs.YtlaobecajieaaaaGreat
open Go Ev
set_option linter.unusedVariables false
set_option linter.unusedSimpArgs false
theorem p_field {P : Program} {n : Nat} {env : Env} {ds : Option Tmp} {ty : TypeId} {pos : String} {af : Array Edge} {gd : Option (Nat × Bool)} {x : Operand} {t : TypeId} {i : Nat} {fs : Array Field} {fl : Field} {cs : Array Value} {v : Value} (hu : P.underlying t = some (.struct fs)) (hf : fs[i]? = some fl) (hk : P.underlying fl.type = some (.int .i64)) (hx : ev env x = some (.agg cs)) (hv : cs[fl.offset]? = some v) :
    Ev.Pure P n env ⟨ds, .field t x i, ty, pos, af, gd⟩ v := fun a w f => by
  simp [execOp, f.ev hx, Instr.field, run_underlying hu, hf, asAgg, part, isAgg, run_underlying hk, hv]
theorem at1_bytes {D : Nat → Prop} {H : Heap} {p : Option Addr} {n c : Nat} {l : List UInt8} (h : BytesAt D H (.slice p n c) l) (hl : 0 < l.length) : ∃ b o, p = some ⟨b, o, none⟩ ∧ D b ∧ b < H.size ∧ BytesAt (· = b) H (.slice p n c) l := by
  obtain ⟨b, o, e, hD, hbl, hc⟩ := h.some hl
  obtain ⟨p', c', e1, h2, h3, h4, _⟩ := h
  cases e1
  exact ⟨b, o, e, hD, hbl, _, _, rfl, h2, h3, h4, fun i x hx => ⟨b, o, e, rfl, hc i x hx⟩⟩
theorem msgT_pos (m : Ms) : 0 < (uvs (1 :: msgT m)).length := by
  obtain ⟨b, r, e⟩ := uv_ne 1
  simp [uvs, e]
attribute [local irreducible] Go.wpList Go.bodyPost Go.Code.wp Go.Exit.then Go.Exit.inBlock Go.Exit.noGoto Ev.wpAnyG Go.Oper.wp Ev.Back Ev.Left Ev.Spc Ev.At Ev.Pure Ev.Reads Ev.Runs Ev.Does Ev.Cell Ev.Am Ev.Has Ev.Kn Go.Code.rounds

set_option maxHeartbeats 8000000 in
theorem wakes24_spec (H : Heap) : Spc Tryz.prog 11 #[] H fun r H' => Ext H H' ∧ r = .bool true := by
  refine spec_of Tryz.func11 rfl Tryz.ntmps11 rfl (fun W => ?_)
  refine Am.new ?_
  repeat (first | refine codeM (k := ?_) | refine condM (k := ?_) | refine offM (k := ?_) | refine offMn (k := ?_) | refine pureM (k := ?_) | refine loadM (k := ?_) | refine loadB (k := ?_) | refine storeM (k := ?_) | refine storeB (k := ?_))
  refine callM rfl rfl rfl rfl rfl (fun Hc hm => dnew_spec Hc) ?_
  rintro Hc _ H1 hm ⟨d, rfl, x1, hd, hDk⟩
  have hx0 : Ext H Hc := hm.toExt (by repeat (first | exact Pick.nil | refine Pick.keep ?_ | refine Pick.drop (by first | assumption | omega) ?_))
  have hs0 := hx0.size
  have hs1 := x1.size
  have hDk1 := hDk.keep (F' := fun b => Hc.size ≤ b ∧ b < H1.size) (Kept.refl (fun _ => False) H1) (fun b hb hl => ⟨fun f => f, hb, hl⟩)
  refine Am.on (Mem.start H1) ?_
  repeat (first | refine codeM (k := ?_) | refine condM (k := ?_) | refine offM (k := ?_) | refine offMn (k := ?_) | refine pureM (k := ?_) | refine loadM (k := ?_) | refine loadB (k := ?_) | refine storeM (k := ?_) | refine storeB (k := ?_))
  refine bs1M rfl rfl rfl (by decide) rfl rfl (fun cb hcb => ?_)
  repeat (first | refine codeM (k := ?_) | refine condM (k := ?_) | refine offM (k := ?_) | refine offMn (k := ?_) | refine pureM (k := ?_) | refine loadM (k := ?_) | refine loadB (k := ?_) | refine storeM (k := ?_) | refine storeB (k := ?_))
  refine callM rfl rfl rfl rfl rfl (fun Hd hm => open1_spec (Fd := fun b => Hc.size ≤ b ∧ b < H1.size) (hDk1.keep (hm.toExt (by repeat (first | exact Pick.nil | refine Pick.keep ?_ | refine Pick.drop (by first | assumption | omega) ?_))) (fun b hb _ => ⟨fun f => f, hb⟩)) (fun b hb => by have := hm.size; omega) (hm.has1 .here).ro (fun e => by omega) (by decide) (by decide)) ?_
  rintro Hd _ H2 hm ⟨n, x, cv, lv, fv, mv, rfl, hn, hro, hk⟩
  have x2 : Ext H1 Hd := hm.toExt (by repeat (first | exact Pick.nil | refine Pick.keep ?_ | refine Pick.drop (by first | assumption | omega) ?_))
  have hs2 := x2.size
  have hs3 := hk.size
  have hall : Ext H H2 := Kept.trans (((hx0.trans x1)).trans x2) hk (fun _ f _ => f) (fun i e hi => by omega)
  refine Am.on (Mem.startR hro) ?_
  repeat (first | refine codeM (k := ?_) | refine condM (k := ?_) | refine offM (k := ?_) | refine offMn (k := ?_) | refine pureM (k := ?_) | refine loadM (k := ?_) | refine loadB (k := ?_) | refine storeM (k := ?_) | refine storeB (k := ?_))
  refine callM rfl rfl rfl rfl rfl (fun Hc hm => clock_spec (hm.roOf (.r .here))) ?_
  rintro Hc _ H1 hm ⟨x1, rfl⟩
  refine Am.on (hm.ext x1) ?_
  repeat (first | refine codeM (k := ?_) | refine condM (k := ?_) | refine offM (k := ?_) | refine offMn (k := ?_) | refine pureM (k := ?_) | refine loadM (k := ?_) | refine loadB (k := ?_) | refine storeM (k := ?_) | refine storeB (k := ?_))
  refine callM rfl rfl rfl rfl rfl (fun Hc hm => stateE_spec (hm.roOf (.r .here))) ?_
  rintro Hc _ H1 hm ⟨x1, rfl⟩
  refine Am.on (hm.ext x1) ?_
  refine pX (p_field Tryz.underlying44 rfl Tryz.underlying3 rfl rfl) rfl rfl rfl ?_
  repeat (first | refine codeM (k := ?_) | refine condM (k := ?_) | refine offM (k := ?_) | refine offMn (k := ?_) | refine pureM (k := ?_) | refine loadM (k := ?_) | refine loadB (k := ?_) | refine storeM (k := ?_) | refine storeB (k := ?_))
  exact ret1M rfl rfl (fun H3 hm3 => ⟨hall.trans (hm3.toExt (by repeat (first | exact Pick.nil | refine Pick.keep ?_ | refine Pick.drop (by first | assumption | omega) ?_))), rfl⟩)
set_option maxHeartbeats 16000000 in
theorem htakeC_spec {H0 H : Heap} {F0 F : Nat → Prop} {n lb lc ep recs cvb cvc  : Nat} {x : RD} {fv mv sv : Value} {clock : Nat} {quiet : Int} (nm : Nm H0 F0 [(n, ndC x (.slice (some ⟨cvb, 0, none⟩) 2 cvc) (.slice (some ⟨lb, 0, none⟩) 2 lc) fv mv clock quiet ep recs nil0 nil0), (lb, [ptr x.p0, ptr x.p1])] H F x) (hF : ∀ b, F b → b < H.size)
    (hu : x.up = true) (hL : x.L1 = lkz 1 ep) (h1 : clock < 2000000000) (hrc : recs < 1000) (hx1 : x.recs.length ≤ 800) (hx2 : x.bs.length ≤ 9000000) (hsv : Sv H sv) (hcap : ∀ p l c, sv = .slice p l c → l ≤ c) (hsb : ∀ b, sv.ownBlock = some b → b ∉ keys [(n, ([] : List Value)), (lb, [])]) :
    Spc Tryz.prog 8 #[ptr n, .int .i64 1, .int .i64 ep, .int .i64 1, .agg (copyMC sv).toArray] H fun r H' => ∃ F' x' mv' c cc g gc, r = .tuple #[] ∧ Nm H0 F0 [(n, ndC x (.slice (some ⟨cvb, 0, none⟩) 2 cvc) (.slice (some ⟨lb, 0, none⟩) 2 lc) fv mv' clock quiet ep (recs + 1) (.slice (some ⟨c, 0, none⟩) 1 cc) nil0), (lb, [ptr x.p0, ptr x.p1]), (g, [.int .i64 0, .int .i64 1]), (c, copC (.slice (some ⟨g, 0, none⟩) 2 gc) 1 clock 0 0)] H' F' x' ∧ (∀ b, F' b → b < H'.size) ∧ x'.up = true ∧ x'.p0 = x.p0 ∧ x'.p1 = x.p1 ∧ x'.d = x.d ∧ x'.lg = x.lg ∧ x'.L1 = lkA ep (uvs (1 :: msgT haveM)) ∧ x'.recs.length ≤ 801 ∧ x'.bs.length ≤ 9002000 ∧ H.size ≤ c ∧ H.size ≤ g := by
  have hs00 := nm.kept.size
  have hnl := nm.lt n (by simp [keys])
  have hll := nm.lt lb (by simp [keys])
  have hv1 := hsv.one
  refine spec_of Tryz.func8 rfl Tryz.ntmps8 rfl (fun W => ?_)
  refine Am.on nm.mem ?_
  repeat (first | refine codeM (k := ?_) | refine condM (k := ?_) | refine offM (k := ?_) | refine offMn (k := ?_) | refine pureM (k := ?_) | refine loadM (k := ?_) | refine loadB (k := ?_) | refine storeM (k := ?_) | refine storeB (k := ?_))
  refine boxM rfl rfl rfl rfl (fun mm hmm => ?_)
  repeat (first | refine codeM (k := ?_) | refine condM (k := ?_) | refine offM (k := ?_) | refine offMn (k := ?_) | refine pureM (k := ?_) | refine loadM (k := ?_) | refine loadB (k := ?_) | refine storeM (k := ?_) | refine storeB (k := ?_))
  refine bs1M rfl rfl rfl (by decide) rfl rfl (fun w hw => ?_)
  repeat (first | refine codeM (k := ?_) | refine condM (k := ?_) | refine offM (k := ?_) | refine offMn (k := ?_) | refine pureM (k := ?_) | refine loadM (k := ?_) | refine loadB (k := ?_) | refine storeM (k := ?_) | refine storeB (k := ?_))
  refine callM rfl rfl rfl rfl rfl (fun Hc hm => bundle1_spec (sv := sv) copyMs copyMs_ok ((hsv.keep hm.kept (fun b e hl => by have h8 := hsb b e; simp only [keys, List.map_cons, List.map_nil, List.mem_cons, List.not_mem_nil, or_false] at h8 ⊢; omega)).vs hcap) (fun j u hj => by rw [show 0 + 0 * 18 + j = j by omega]; exact (hm.has1 .here).cell hj)) ?_
  rintro Hc _ H1 hm ⟨x1, v, rfl, hv⟩
  obtain ⟨vq, vc, rfl⟩ := hv.form
  have hs0 := hm.size
  have hs1 := x1.size
  have nm2 : Nm H0 F0 [(n, _), (lb, _)] H1 F x := (nm.seg (hm.ext x1) (by intro b hb; simp only [keys, List.map_cons, List.map_nil, List.mem_cons, List.not_mem_nil, or_false] at hb ⊢ <;> omega) hF (by intro b hb; simp only [keys, List.map_cons, List.map_nil, List.mem_cons, List.not_mem_nil, or_false] at hb ⊢ <;> omega)).sel (.k (s := (.k (s := (by repeat (first | exact Sel.nil | refine Sel.drop (by first | assumption | omega) ?_))))))
  obtain ⟨vb, vo, e, hvb, hvbl, hv1⟩ := at1_bytes hv (msgT_pos _)
  subst e
  refine Am.on nm2.mem ?_
  repeat (first | refine codeM (k := ?_) | refine condM (k := ?_) | refine offM (k := ?_) | refine offMn (k := ?_) | refine pureM (k := ?_) | refine loadM (k := ?_) | refine loadB (k := ?_) | refine storeM (k := ?_) | refine storeB (k := ?_))
  refine pM (p_build (frC ep 1 (.slice (some ⟨vb, vo, none⟩) (uvs (1 :: msgT copyMs)).length vc)) rfl rfl) rfl rfl rfl ?_
  refine callM rfl rfl rfl rfl rfl (fun Hd hm => takeC_spec (D := (· = vb)) (nm2.seg hm (by intro b hb; simp only [keys, List.map_cons, List.map_nil, List.mem_cons, List.not_mem_nil, or_false] at hb ⊢ <;> omega) (fun b hb => by have := hF b hb; omega) (by intro b hb; simp only [keys, List.map_cons, List.map_nil, List.mem_cons, List.not_mem_nil, or_false] at hb ⊢ <;> omega)) (fun b hb => by have := hF b hb; have := hm.size; omega) (hv1.keep (D' := (· = vb)) hm.kept (fun b hb hl => ⟨fun h => by simp only [keys, List.map_cons, List.map_nil, List.mem_cons, List.not_mem_nil, or_false] at h; omega, hb⟩)) (fun b e => by simp only [Value.ownBlock, Option.some.injEq] at e; exact e.symm) (fun b e => ⟨fun h => by have := hF b h; omega, fun h => by simp only [keys, List.map_cons, List.map_nil, List.mem_cons, List.not_mem_nil, or_false] at h; omega, by have := hm.size; omega, by omega⟩) hu hL h1 hrc hx1 hx2 ) ?_
  rintro Hd _ H2 hm ⟨F', x', mv', c, cc, g, gc, rfl, nm3, hF3, a1, a2, a3, a4, a5, a6, a7, a8 , f1, f2⟩
  have hs2 := hm.size
  refine Am.on nm3.mem ?_
  repeat (first | refine codeM (k := ?_) | refine condM (k := ?_) | refine offM (k := ?_) | refine offMn (k := ?_) | refine pureM (k := ?_) | refine loadM (k := ?_) | refine loadB (k := ?_) | refine storeM (k := ?_) | refine storeB (k := ?_))
  refine ret0M rfl (.inl rfl) (fun H4 hm4 => ?_)
  have hs4 := hm4.size
  have nm4 := nm3.seg hm4 (by intro b hb; simp only [keys, List.map_cons, List.map_nil, List.mem_cons, List.not_mem_nil, or_false] at hb ⊢ <;> omega) hF3 (by intro b hb; simp only [keys, List.map_cons, List.map_nil, List.mem_cons, List.not_mem_nil, or_false] at hb ⊢ <;> omega)
  exact ⟨F', x', mv', c, cc, g, gc, rfl, nm4, fun b hb => by have := hF3 b hb; omega, a1, a2, a3, a4, a5, a6, a7, a8 , by omega, by omega⟩
set_option maxHeartbeats 16000000 in
theorem htakeS_spec {H0 H : Heap} {F0 F : Nat → Prop} {n lb lc ep recs cvb cvc c0 cc0 g0 gc0 t since : Nat} {x : RD} {fv mv : Value} {clock : Nat} {quiet : Int} (nm : Nm H0 F0 [(n, ndC x (.slice (some ⟨cvb, 0, none⟩) 2 cvc) (.slice (some ⟨lb, 0, none⟩) 2 lc) fv mv clock quiet ep recs (.slice (some ⟨c0, 0, none⟩) 1 cc0) nil0), (lb, [ptr x.p0, ptr x.p1]), (g0, [.int .i64 0, .int .i64 1]), (c0, copC (.slice (some ⟨g0, 0, none⟩) 2 gc0) 1 since 0 0)] H F x) (hF : ∀ b, F b → b < H.size)
    (hu : x.up = true) (hL : x.L1 = (lkA ep (uvs (1 :: msgT haveM)))) (h1 : clock < 2000000000) (hrc : recs < 1000) (hx1 : x.recs.length ≤ 850) (hx2 : x.bs.length ≤ 9500000) (ht2 : t < 3000000000) (hq : clock < quiet) :
    Spc Tryz.prog 8 #[ptr n, .int .i64 1, .int .i64 ep, .int .i64 2, .agg (plainMC 13 1 t false).toArray] H fun r H' => ∃ F' x' mv' c cc g gc, r = .tuple #[] ∧ Nm H0 F0 [(n, ndC x (.slice (some ⟨cvb, 0, none⟩) 2 cvc) (.slice (some ⟨lb, 0, none⟩) 2 lc) fv mv' clock quiet ep recs (.slice (some ⟨c, 0, none⟩) 1 cc) nil0), (lb, [ptr x.p0, ptr x.p1]), (g, [.int .i64 0, .int .i64 1]), (c, copC (.slice (some ⟨g, 0, none⟩) 2 gc) 1 since 0 0), (g0, [.int .i64 0, .int .i64 1]), (c0, copC (.slice (some ⟨g0, 0, none⟩) 2 gc0) 1 since 0 0)] H' F' x' ∧ (∀ b, F' b → b < H'.size) ∧ x'.up = true ∧ x'.p0 = x.p0 ∧ x'.p1 = x.p1 ∧ x'.d = x.d ∧ x'.lg = x.lg ∧ x'.L1 = sentL (⟨0, 1, ep, 1, [(1, uvs (1 :: msgT haveM))], 1, 2, true⟩ : Lk) (uvs (1 :: msgT (heldM false))) ∧ x'.recs.length ≤ 851 ∧ x'.bs.length ≤ 9502000 ∧ H.size ≤ c ∧ H.size ≤ g := by
  have hs00 := nm.kept.size
  have hnl := nm.lt n (by simp [keys])
  have hll := nm.lt lb (by simp [keys])
  have hgl0 := nm.lt g0 (by simp [keys])
  have hcl0 := nm.lt c0 (by simp [keys])
  refine spec_of Tryz.func8 rfl Tryz.ntmps8 rfl (fun W => ?_)
  refine Am.on nm.mem ?_
  repeat (first | refine codeM (k := ?_) | refine condM (k := ?_) | refine offM (k := ?_) | refine offMn (k := ?_) | refine pureM (k := ?_) | refine loadM (k := ?_) | refine loadB (k := ?_) | refine storeM (k := ?_) | refine storeB (k := ?_))
  refine boxM rfl rfl rfl rfl (fun mm hmm => ?_)
  repeat (first | refine codeM (k := ?_) | refine condM (k := ?_) | refine offM (k := ?_) | refine offMn (k := ?_) | refine pureM (k := ?_) | refine loadM (k := ?_) | refine loadB (k := ?_) | refine storeM (k := ?_) | refine storeB (k := ?_))
  refine bs1M rfl rfl rfl (by decide) rfl rfl (fun w hw => ?_)
  repeat (first | refine codeM (k := ?_) | refine condM (k := ?_) | refine offM (k := ?_) | refine offMn (k := ?_) | refine pureM (k := ?_) | refine loadM (k := ?_) | refine loadB (k := ?_) | refine storeM (k := ?_) | refine storeB (k := ?_))
  refine callM rfl rfl rfl rfl rfl (fun Hc hm => bundle1_spec (sv := nilV) (holdMs t) (holdMs_ok t (by omega)) (Vs.nil nv Hc 0) (fun j u hj => by rw [show 0 + 0 * 18 + j = j by omega]; exact (hm.has1 .here).cell hj)) ?_
  rintro Hc _ H1 hm ⟨x1, v, rfl, hv⟩
  obtain ⟨vq, vc, rfl⟩ := hv.form
  have hs0 := hm.size
  have hs1 := x1.size
  have nm2 : Nm H0 F0 [(n, _), (lb, _), (g0, _), (c0, _)] H1 F x := (nm.seg (hm.ext x1) (by intro b hb; simp only [keys, List.map_cons, List.map_nil, List.mem_cons, List.not_mem_nil, or_false] at hb ⊢ <;> omega) hF (by intro b hb; simp only [keys, List.map_cons, List.map_nil, List.mem_cons, List.not_mem_nil, or_false] at hb ⊢ <;> omega)).sel (.k (s := (.k (s := (.k (s := (.k (s := (by repeat (first | exact Sel.nil | refine Sel.drop (by first | assumption | omega) ?_))))))))))
  obtain ⟨vb, vo, e, hvb, hvbl, hv1⟩ := at1_bytes hv (msgT_pos _)
  subst e
  refine Am.on nm2.mem ?_
  repeat (first | refine codeM (k := ?_) | refine condM (k := ?_) | refine offM (k := ?_) | refine offMn (k := ?_) | refine pureM (k := ?_) | refine loadM (k := ?_) | refine loadB (k := ?_) | refine storeM (k := ?_) | refine storeB (k := ?_))
  refine pM (p_build (frC ep 2 (.slice (some ⟨vb, vo, none⟩) (uvs (1 :: msgT (holdMs t))).length vc)) rfl rfl) rfl rfl rfl ?_
  refine callM rfl rfl rfl rfl rfl (fun Hd hm => takeS_spec (D := (· = vb)) (nm2.seg hm (by intro b hb; simp only [keys, List.map_cons, List.map_nil, List.mem_cons, List.not_mem_nil, or_false] at hb ⊢ <;> omega) (fun b hb => by have := hF b hb; omega) (by intro b hb; simp only [keys, List.map_cons, List.map_nil, List.mem_cons, List.not_mem_nil, or_false] at hb ⊢ <;> omega)) (fun b hb => by have := hF b hb; have := hm.size; omega) (hv1.keep (D' := (· = vb)) hm.kept (fun b hb hl => ⟨fun h => by simp only [keys, List.map_cons, List.map_nil, List.mem_cons, List.not_mem_nil, or_false] at h; omega, hb⟩)) (fun b e => by simp only [Value.ownBlock, Option.some.injEq] at e; exact e.symm) (fun b e => ⟨fun h => by have := hF b h; omega, fun h => by simp only [keys, List.map_cons, List.map_nil, List.mem_cons, List.not_mem_nil, or_false] at h; omega, by have := hm.size; omega, by omega⟩) hu hL h1 hrc hx1 hx2 ht2 hq) ?_
  rintro Hd _ H2 hm ⟨F', x', mv', c, cc, g, gc, rfl, nm3, hF3, a1, a2, a3, a4, a5, a6, a7, a8 , f1, f2⟩
  have hs2 := hm.size
  refine Am.on nm3.mem ?_
  repeat (first | refine codeM (k := ?_) | refine condM (k := ?_) | refine offM (k := ?_) | refine offMn (k := ?_) | refine pureM (k := ?_) | refine loadM (k := ?_) | refine loadB (k := ?_) | refine storeM (k := ?_) | refine storeB (k := ?_))
  refine ret0M rfl (.inl rfl) (fun H4 hm4 => ?_)
  have hs4 := hm4.size
  have nm4 := nm3.seg hm4 (by intro b hb; simp only [keys, List.map_cons, List.map_nil, List.mem_cons, List.not_mem_nil, or_false] at hb ⊢ <;> omega) hF3 (by intro b hb; simp only [keys, List.map_cons, List.map_nil, List.mem_cons, List.not_mem_nil, or_false] at hb ⊢ <;> omega)
  exact ⟨F', x', mv', c, cc, g, gc, rfl, nm4, fun b hb => by have := hF3 b hb; omega, a1, a2, a3, a4, a5, a6, a7, a8 , by omega, by omega⟩
set_option maxHeartbeats 16000000 in
theorem htakeO_spec {H0 H : Heap} {F0 F : Nat → Prop} {n lb lc ep recs cvb cvc c0 cc0 g0 gc0 t since : Nat} {x : RD} {fv mv : Value} {clock : Nat} {quiet : Int} (nm : Nm H0 F0 [(n, ndC x (.slice (some ⟨cvb, 0, none⟩) 2 cvc) (.slice (some ⟨lb, 0, none⟩) 2 lc) fv mv clock quiet ep recs (.slice (some ⟨c0, 0, none⟩) 1 cc0) nil0), (lb, [ptr x.p0, ptr x.p1]), (g0, [.int .i64 0, .int .i64 1]), (c0, copC (.slice (some ⟨g0, 0, none⟩) 2 gc0) 1 since 0 0)] H F x) (hF : ∀ b, F b → b < H.size)
    (hu : x.up = true) (hL : x.L1 = (lkA ep (uvs (1 :: msgT haveM)))) (h1 : clock < 2000000000) (hrc : recs < 1000) (hx1 : x.recs.length ≤ 850) (hx2 : x.bs.length ≤ 9500000) (ht2 : t < 2500000000) (ht : clock < t) (hq : quiet ≤ clock) :
    Spc Tryz.prog 8 #[ptr n, .int .i64 1, .int .i64 ep, .int .i64 2, .agg (plainMC 13 1 t false).toArray] H fun r H' => ∃ F' x' mv' c cc g gc p pc, r = .tuple #[] ∧ Nm H0 F0 [(n, ndC x (.slice (some ⟨cvb, 0, none⟩) 2 cvc) (.slice (some ⟨lb, 0, none⟩) 2 lc) fv mv' clock quiet ep (recs + 1) (.slice (some ⟨c, 0, none⟩) 1 cc) (.slice (some ⟨p, 0, none⟩) 1 pc)), (lb, [ptr x.p0, ptr x.p1]), (p, resvC t (t + 5) 1 (clock + 64 : Nat)), (g, [.int .i64 0, .int .i64 1]), (c, copC (.slice (some ⟨g, 0, none⟩) 2 gc) 4 since 1 t), (g0, [.int .i64 0, .int .i64 1]), (c0, copC (.slice (some ⟨g0, 0, none⟩) 2 gc0) 1 since 0 0)] H' F' x' ∧ (∀ b, F' b → b < H'.size) ∧ x'.up = true ∧ x'.p0 = x.p0 ∧ x'.p1 = x.p1 ∧ x'.d = x.d ∧ x'.lg = x.lg ∧ x'.L1 = sentL (⟨0, 1, ep, 1, [(1, uvs (1 :: msgT haveM))], 1, 2, true⟩ : Lk) (uvs (1 :: msgT (heldM true))) ∧ x'.recs.length ≤ 851 ∧ x'.bs.length ≤ 9502000 ∧ H.size ≤ c ∧ H.size ≤ g ∧ H.size ≤ p := by
  have hs00 := nm.kept.size
  have hnl := nm.lt n (by simp [keys])
  have hll := nm.lt lb (by simp [keys])
  have hgl0 := nm.lt g0 (by simp [keys])
  have hcl0 := nm.lt c0 (by simp [keys])
  refine spec_of Tryz.func8 rfl Tryz.ntmps8 rfl (fun W => ?_)
  refine Am.on nm.mem ?_
  repeat (first | refine codeM (k := ?_) | refine condM (k := ?_) | refine offM (k := ?_) | refine offMn (k := ?_) | refine pureM (k := ?_) | refine loadM (k := ?_) | refine loadB (k := ?_) | refine storeM (k := ?_) | refine storeB (k := ?_))
  refine boxM rfl rfl rfl rfl (fun mm hmm => ?_)
  repeat (first | refine codeM (k := ?_) | refine condM (k := ?_) | refine offM (k := ?_) | refine offMn (k := ?_) | refine pureM (k := ?_) | refine loadM (k := ?_) | refine loadB (k := ?_) | refine storeM (k := ?_) | refine storeB (k := ?_))
  refine bs1M rfl rfl rfl (by decide) rfl rfl (fun w hw => ?_)
  repeat (first | refine codeM (k := ?_) | refine condM (k := ?_) | refine offM (k := ?_) | refine offMn (k := ?_) | refine pureM (k := ?_) | refine loadM (k := ?_) | refine loadB (k := ?_) | refine storeM (k := ?_) | refine storeB (k := ?_))
  refine callM rfl rfl rfl rfl rfl (fun Hc hm => bundle1_spec (sv := nilV) (holdMs t) (holdMs_ok t (by omega)) (Vs.nil nv Hc 0) (fun j u hj => by rw [show 0 + 0 * 18 + j = j by omega]; exact (hm.has1 .here).cell hj)) ?_
  rintro Hc _ H1 hm ⟨x1, v, rfl, hv⟩
  obtain ⟨vq, vc, rfl⟩ := hv.form
  have hs0 := hm.size
  have hs1 := x1.size
  have nm2 : Nm H0 F0 [(n, _), (lb, _), (g0, _), (c0, _)] H1 F x := (nm.seg (hm.ext x1) (by intro b hb; simp only [keys, List.map_cons, List.map_nil, List.mem_cons, List.not_mem_nil, or_false] at hb ⊢ <;> omega) hF (by intro b hb; simp only [keys, List.map_cons, List.map_nil, List.mem_cons, List.not_mem_nil, or_false] at hb ⊢ <;> omega)).sel (.k (s := (.k (s := (.k (s := (.k (s := (by repeat (first | exact Sel.nil | refine Sel.drop (by first | assumption | omega) ?_))))))))))
  obtain ⟨vb, vo, e, hvb, hvbl, hv1⟩ := at1_bytes hv (msgT_pos _)
  subst e
  refine Am.on nm2.mem ?_
  repeat (first | refine codeM (k := ?_) | refine condM (k := ?_) | refine offM (k := ?_) | refine offMn (k := ?_) | refine pureM (k := ?_) | refine loadM (k := ?_) | refine loadB (k := ?_) | refine storeM (k := ?_) | refine storeB (k := ?_))
  refine pM (p_build (frC ep 2 (.slice (some ⟨vb, vo, none⟩) (uvs (1 :: msgT (holdMs t))).length vc)) rfl rfl) rfl rfl rfl ?_
  refine callM rfl rfl rfl rfl rfl (fun Hd hm => takeO_spec (D := (· = vb)) (nm2.seg hm (by intro b hb; simp only [keys, List.map_cons, List.map_nil, List.mem_cons, List.not_mem_nil, or_false] at hb ⊢ <;> omega) (fun b hb => by have := hF b hb; omega) (by intro b hb; simp only [keys, List.map_cons, List.map_nil, List.mem_cons, List.not_mem_nil, or_false] at hb ⊢ <;> omega)) (fun b hb => by have := hF b hb; have := hm.size; omega) (hv1.keep (D' := (· = vb)) hm.kept (fun b hb hl => ⟨fun h => by simp only [keys, List.map_cons, List.map_nil, List.mem_cons, List.not_mem_nil, or_false] at h; omega, hb⟩)) (fun b e => by simp only [Value.ownBlock, Option.some.injEq] at e; exact e.symm) (fun b e => ⟨fun h => by have := hF b h; omega, fun h => by simp only [keys, List.map_cons, List.map_nil, List.mem_cons, List.not_mem_nil, or_false] at h; omega, by have := hm.size; omega, by omega⟩) hu hL h1 hrc hx1 hx2 ht2 ht hq) ?_
  rintro Hd _ H2 hm ⟨F', x', mv', c, cc, g, gc, p, pc, rfl, nm3, hF3, a1, a2, a3, a4, a5, a6, a7, a8 , f1, f2, f3⟩
  have hs2 := hm.size
  refine Am.on nm3.mem ?_
  repeat (first | refine codeM (k := ?_) | refine condM (k := ?_) | refine offM (k := ?_) | refine offMn (k := ?_) | refine pureM (k := ?_) | refine loadM (k := ?_) | refine loadB (k := ?_) | refine storeM (k := ?_) | refine storeB (k := ?_))
  refine ret0M rfl (.inl rfl) (fun H4 hm4 => ?_)
  have hs4 := hm4.size
  have nm4 := nm3.seg hm4 (by intro b hb; simp only [keys, List.map_cons, List.map_nil, List.mem_cons, List.not_mem_nil, or_false] at hb ⊢ <;> omega) hF3 (by intro b hb; simp only [keys, List.map_cons, List.map_nil, List.mem_cons, List.not_mem_nil, or_false] at hb ⊢ <;> omega)
  exact ⟨F', x', mv', c, cc, g, gc, p, pc, rfl, nm4, fun b hb => by have := hF3 b hb; omega, a1, a2, a3, a4, a5, a6, a7, a8 , by omega, by omega, by omega⟩
end Go.Proofs.YtlaobecajieaaaaGreat

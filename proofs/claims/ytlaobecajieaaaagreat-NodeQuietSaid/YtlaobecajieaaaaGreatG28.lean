/- A frame taken by a node: a copy. -/
import Derived.Test.YtlaobecajieaaaaGreatG27
namespace Go.Proofs.YtlaobecajieaaaaGreat
open Go Ev
set_option linter.unusedVariables false
set_option linter.unusedSimpArgs false
attribute [local irreducible] Go.wpList Go.bodyPost Go.Code.wp Go.Exit.then Go.Exit.inBlock Go.Exit.noGoto Ev.wpAnyG Go.Oper.wp Ev.Back Ev.Left Ev.Spc Ev.At Ev.Pure Ev.Reads Ev.Runs Ev.Does Ev.Cell Ev.Am Ev.Has Ev.Kn Go.Code.rounds

set_option maxHeartbeats 32000000 in
theorem takeC_spec {H0 H : Heap} {F0 F D : Nat → Prop} {n lb lc ep recs cvb cvc  : Nat} {x : RD} {bv fv mv : Value} {clock : Nat} {quiet : Int} (nm : Nm H0 F0 [(n, ndC x (.slice (some ⟨cvb, 0, none⟩) 2 cvc) (.slice (some ⟨lb, 0, none⟩) 2 lc) fv mv clock quiet ep recs nil0 nil0), (lb, [ptr x.p0, ptr x.p1])] H F x) (hF : ∀ b, F b → b < H.size)
    (hbv : BytesAt D H bv (uvs (1 :: msgT copyMs))) (hown : ∀ b, bv.ownBlock = some b → D b) (hD : ∀ b, D b → ¬ F b ∧ b ∉ keys [(n, ([] : List Value)), (lb, [])] ∧ b < H.size ∧ H0.size ≤ b) (hu : x.up = true) (hL : x.L1 = lkz 1 ep) (h1 : clock < 2000000000) (hrc : recs < 1000) (hx1 : x.recs.length ≤ 800) (hx2 : x.bs.length ≤ 9000000)  :
    Spc Tryz.prog 29 #[ptr n, .agg (frC ep 1 bv).toArray] H fun r H' => ∃ F' x' mv' c cc g gc, r = .int .i64 0 ∧ Nm H0 F0 [(n, ndC x (.slice (some ⟨cvb, 0, none⟩) 2 cvc) (.slice (some ⟨lb, 0, none⟩) 2 lc) fv mv' clock quiet ep (recs + 1) (.slice (some ⟨c, 0, none⟩) 1 cc) nil0), (lb, [ptr x.p0, ptr x.p1]), (g, [.int .i64 0, .int .i64 1]), (c, copC (.slice (some ⟨g, 0, none⟩) 2 gc) 1 clock 0 0)] H' F' x' ∧ (∀ b, F' b → b < H'.size) ∧ x'.up = true ∧ x'.p0 = x.p0 ∧ x'.p1 = x.p1 ∧ x'.d = x.d ∧ x'.lg = x.lg ∧ x'.L1 = lkA ep (uvs (1 :: msgT haveM)) ∧ x'.recs.length ≤ 801 ∧ x'.bs.length ≤ 9002000 ∧ H.size ≤ c ∧ H.size ≤ g := by
  have hml := msgT_bytes copyMs_ok
  obtain ⟨vq, vc, rfl⟩ := hbv.form
  have hs00 := nm.kept.size
  have hnl := nm.lt n (by simp [keys])
  have hll := nm.lt lb (by simp [keys])
  skip
  refine spec_of Tryz.func29 rfl Tryz.ntmps29 rfl (fun W => ?_)
  refine Am.on nm.mem ?_
  repeat (first | refine codeM (k := ?_) | refine condM (k := ?_) | refine offM (k := ?_) | refine offMn (k := ?_) | refine pureM (k := ?_) | refine loadM (k := ?_) | refine loadB (k := ?_) | refine storeM (k := ?_) | refine storeB (k := ?_))
  refine boxM rfl rfl rfl rfl (fun y hy => ?_)
  repeat (first | refine codeM (k := ?_) | refine condM (k := ?_) | refine offM (k := ?_) | refine offMn (k := ?_) | refine pureM (k := ?_) | refine loadM (k := ?_) | refine loadB (k := ?_) | refine storeM (k := ?_) | refine storeB (k := ?_))
  refine callM rfl rfl rfl rfl rfl (fun Hc hm => off_spec (nm.seg hm (by intro b hb; simp only [keys, List.map_cons, List.map_nil, List.mem_cons, List.not_mem_nil, or_false] at hb ⊢ <;> omega) hF (by intro b hb; simp only [keys, List.map_cons, List.map_nil, List.mem_cons, List.not_mem_nil, or_false] at hb ⊢ <;> omega)).res) ?_
  rintro Hc _ H1 hm ⟨x1, rfl⟩
  refine Am.on (hm.ext x1) ?_
  repeat (first | refine codeM (k := ?_) | refine condM (k := ?_) | refine offM (k := ?_) | refine offMn (k := ?_) | refine pureM (k := ?_) | refine loadM (k := ?_) | refine loadB (k := ?_) | refine storeM (k := ?_) | refine storeB (k := ?_))
  refine drawM [1, 5, 9, 15, 19] Tryz.mixed ?_
  first | refine dpM 0 (k := ?_) | refine doffM 0 (k := ?_) | refine dldM 0 rfl (k := ?_) | refine doffNM 0 (k := ?_) | refine dldB 0 rfl (k := ?_)
  first | refine dpM 1 (k := ?_) | refine doffM 1 (k := ?_) | refine dldM 1 rfl (k := ?_) | refine doffNM 1 (k := ?_) | refine dldB 1 rfl (k := ?_)
  first | refine dpM 2 (k := ?_) | refine doffM 2 (k := ?_) | refine dldM 2 rfl (k := ?_) | refine doffNM 2 (k := ?_) | refine dldB 2 rfl (k := ?_)
  first | refine dpM 3 (k := ?_) | refine doffM 3 (k := ?_) | refine dldM 3 rfl (k := ?_) | refine doffNM 3 (k := ?_) | refine dldB 3 rfl (k := ?_)
  first | refine dpM 4 (k := ?_) | refine doffM 4 (k := ?_) | refine dldM 4 rfl (k := ?_) | refine doffNM 4 (k := ?_) | refine dldB 4 rfl (k := ?_)
  first | refine dpM 5 (k := ?_) | refine doffM 5 (k := ?_) | refine dldM 5 rfl (k := ?_) | refine doffNM 5 (k := ?_) | refine dldB 5 rfl (k := ?_)
  first | refine dpM 6 (k := ?_) | refine doffM 6 (k := ?_) | refine dldM 6 rfl (k := ?_) | refine doffNM 6 (k := ?_) | refine dldB 6 rfl (k := ?_)
  first | refine dpM 7 (k := ?_) | refine doffM 7 (k := ?_) | refine dldM 7 rfl (k := ?_) | refine doffNM 7 (k := ?_) | refine dldB 7 rfl (k := ?_)
  first | refine dpM 8 (k := ?_) | refine doffM 8 (k := ?_) | refine dldM 8 rfl (k := ?_) | refine doffNM 8 (k := ?_) | refine dldB 8 rfl (k := ?_)
  first | refine dpM 9 (k := ?_) | refine doffM 9 (k := ?_) | refine dldM 9 rfl (k := ?_) | refine doffNM 9 (k := ?_) | refine dldB 9 rfl (k := ?_)
  first | refine dpM 10 (k := ?_) | refine doffM 10 (k := ?_) | refine dldM 10 rfl (k := ?_) | refine doffNM 10 (k := ?_) | refine dldB 10 rfl (k := ?_)
  first | refine dpM 11 (k := ?_) | refine doffM 11 (k := ?_) | refine dldM 11 rfl (k := ?_) | refine doffNM 11 (k := ?_) | refine dldB 11 rfl (k := ?_)
  first | refine dpM 12 (k := ?_) | refine doffM 12 (k := ?_) | refine dldM 12 rfl (k := ?_) | refine doffNM 12 (k := ?_) | refine dldB 12 rfl (k := ?_)
  first | refine dpM 13 (k := ?_) | refine doffM 13 (k := ?_) | refine dldM 13 rfl (k := ?_) | refine doffNM 13 (k := ?_) | refine dldB 13 rfl (k := ?_)
  first | refine dpM 14 (k := ?_) | refine doffM 14 (k := ?_) | refine dldM 14 rfl (k := ?_) | refine doffNM 14 (k := ?_) | refine dldB 14 rfl (k := ?_)
  first | refine dpM 15 (k := ?_) | refine doffM 15 (k := ?_) | refine dldM 15 rfl (k := ?_) | refine doffNM 15 (k := ?_) | refine dldB 15 rfl (k := ?_)
  first | refine dpM 16 (k := ?_) | refine doffM 16 (k := ?_) | refine dldM 16 rfl (k := ?_) | refine doffNM 16 (k := ?_) | refine dldB 16 rfl (k := ?_)
  first | refine dpM 17 (k := ?_) | refine doffM 17 (k := ?_) | refine dldM 17 rfl (k := ?_) | refine doffNM 17 (k := ?_) | refine dldB 17 rfl (k := ?_)
  first | refine dpM 18 (k := ?_) | refine doffM 18 (k := ?_) | refine dldM 18 rfl (k := ?_) | refine doffNM 18 (k := ?_) | refine dldB 18 rfl (k := ?_)
  first | refine dpM 19 (k := ?_) | refine doffM 19 (k := ?_) | refine dldM 19 rfl (k := ?_) | refine doffNM 19 (k := ?_) | refine dldB 19 rfl (k := ?_)
  first | refine dpM 20 (k := ?_) | refine doffM 20 (k := ?_) | refine dldM 20 rfl (k := ?_) | refine doffNM 20 (k := ?_) | refine dldB 20 rfl (k := ?_)
  first | refine dpM 21 (k := ?_) | refine doffM 21 (k := ?_) | refine dldM 21 rfl (k := ?_) | refine doffNM 21 (k := ?_) | refine dldB 21 rfl (k := ?_)
  refine ddoneM (by kernel_rfl) ?_
  repeat (first | refine codeM (k := ?_) | refine condM (k := ?_) | refine offM (k := ?_) | refine offMn (k := ?_) | refine pureM (k := ?_) | refine loadM (k := ?_) | refine loadB (k := ?_) | refine storeM (k := ?_) | refine storeB (k := ?_))
  refine drawM [3, 5, 7, 8] Tryz.mixed ?_
  first | refine dpM 0 (k := ?_) | refine doffM 0 (k := ?_) | refine dldM 0 rfl (k := ?_) | refine doffNM 0 (k := ?_) | refine dldB 0 rfl (k := ?_)
  first | refine dpM 1 (k := ?_) | refine doffM 1 (k := ?_) | refine dldM 1 rfl (k := ?_) | refine doffNM 1 (k := ?_) | refine dldB 1 rfl (k := ?_)
  first | refine dpM 2 (k := ?_) | refine doffM 2 (k := ?_) | refine dldM 2 rfl (k := ?_) | refine doffNM 2 (k := ?_) | refine dldB 2 rfl (k := ?_)
  first | refine dpM 3 (k := ?_) | refine doffM 3 (k := ?_) | refine dldM 3 rfl (k := ?_) | refine doffNM 3 (k := ?_) | refine dldB 3 rfl (k := ?_)
  first | refine dpM 4 (k := ?_) | refine doffM 4 (k := ?_) | refine dldM 4 rfl (k := ?_) | refine doffNM 4 (k := ?_) | refine dldB 4 rfl (k := ?_)
  first | refine dpM 5 (k := ?_) | refine doffM 5 (k := ?_) | refine dldM 5 rfl (k := ?_) | refine doffNM 5 (k := ?_) | refine dldB 5 rfl (k := ?_)
  refine dqM 6 rfl (p_indexAddr (i := 1) rfl rfl (by omega)) (k := ?_)
  first | refine dpM 7 (k := ?_) | refine doffM 7 (k := ?_) | refine dldM 7 rfl (k := ?_) | refine doffNM 7 (k := ?_) | refine dldB 7 rfl (k := ?_)
  first | refine dpM 8 (k := ?_) | refine doffM 8 (k := ?_) | refine dldM 8 rfl (k := ?_) | refine doffNM 8 (k := ?_) | refine dldB 8 rfl (k := ?_)
  refine dxL 9 rfl (by kernel_rfl) rfl (fun Hx => ?_)
  refine At_am ?_
  intro H2 hm2
  have hs2 := hm2.size
  have hyl := hm2.lt y (by simp [keys])
  have nm2 := nm.seg hm2 (by intro b hb; simp only [keys, List.map_cons, List.map_nil, List.mem_cons, List.not_mem_nil, or_false] at hb ⊢ <;> omega) hF (by intro b hb; simp only [keys, List.map_cons, List.map_nil, List.mem_cons, List.not_mem_nil, or_false] at hb ⊢ <;> omega)
  have hbv2 : BytesAt (fun b => (Value.slice vq (uvs (1 :: msgT copyMs)).length vc).ownBlock = some b) H2 (.slice vq (uvs (1 :: msgT copyMs)).length vc) (uvs (1 :: msgT copyMs)) := by
    have h3 := hbv.keep (D' := D) hm2.kept (fun b hb hl => ⟨fun e => by
      have := (hD b hb).2.1
      simp only [keys, List.map_cons, List.map_nil, List.mem_cons, List.not_mem_nil, or_false] at e this
      omega, hb⟩)
    obtain ⟨q', c', e1, e2, e3, e4, e5⟩ := h3
    cases e1
    exact ⟨_, _, rfl, e2, e3, e4, fun i u hi => by
      obtain ⟨b, o, ee, _, hc⟩ := e5 i u hi
      exact ⟨b, o, ee, by rw [ee]; rfl, hc⟩⟩
  refine W_call rfl rfl (rtake1_spec (x := x) (f := ⟨1, 0, 1, ep, 1, 0, uvs (1 :: msgT copyMs)⟩) (l := uvs (1 :: msgT copyMs)) nm2.res hu hbv2 (fun b e => (hD b (hown b e)).1) (by rw [hL]; exact ⟨rfl, rfl, by show (1 : Int) ≤ 1; decide, by show (0 : Int) ≤ ep; omega, by show (0 : Int) ≤ 1; decide, by show (0 : Int) ≤ 0; decide, by show (uvs (1 :: msgT copyMs)).length ≤ 131072; omega, .inl (by show (0 : Int) < 1; decide)⟩) (by rw [hL]; exact ⟨(by show (0 : Int) ≤ 0; decide), (by show (0 : Int) ≤ 1000000000000; decide)⟩) (by rw [hL, take_1])) rfl rfl ?_
  rintro _ H3 ⟨bv3, v1', rfl, hbv3, k3, hr3⟩
  have hs3 := k3.size
  have hr3 := hr3.keep (F' := fun b => (F b ∨ D b) ∧ b < H.size) (Kept.refl (fun _ => False) H3) (fun b hb _ => ⟨fun f => f, by
    rcases hb with e | e
    · exact ⟨.inl e, hF b e⟩
    · exact ⟨.inr (hown b e.1), (hD b (hown b e.1)).2.2.1⟩⟩)
  rw [hL, take_1] at hr3
  have nm3 : Nm H0 F0 [(y, _), (n, _), (lb, _)] H3 (fun b => (F b ∨ D b) ∧ b < H.size) { x with v1 := v1', L1 := (⟨0, 1, ep, 1, [], 0, 1, true⟩ : Lk) } :=
    ⟨fun p hp => (nm2.has p hp).keep k3 (nm2.dis _ (key_of hp)), nm2.nd, hr3, fun b hb e => by
      rcases e.1 with e2 | e2
      · exact nm2.dis b hb e2
      · have h8 := (hD b e2).2.1
        have h9 := e.2
        simp only [keys, List.map_cons, List.map_nil, List.mem_cons, List.not_mem_nil, or_false] at hb h8
        omega, fun b hb => by
      rcases hb.1 with e | e
      · exact nm.frs b e
      · exact .inr (hD b e).2.2.2, Kept.trans nm2.kept k3 (fun i s _ => s) (fun i s hi => by
        rcases nm.frs i s with e | e
        · exact .inr e
        · omega)⟩
  obtain ⟨q3, c3, rfl⟩ := hbv3.form
  refine Am.on nm3.mem ?_
  first | refine leftA (k := ?_) | refine leftF (by kernel_rfl) ?_
  first | refine dpM 10 (k := ?_) | refine doffM 10 (k := ?_) | refine dldM 10 rfl (k := ?_) | refine doffNM 10 (k := ?_) | refine dldB 10 rfl (k := ?_)
  first | refine dpM 11 (k := ?_) | refine doffM 11 (k := ?_) | refine dldM 11 rfl (k := ?_) | refine doffNM 11 (k := ?_) | refine dldB 11 rfl (k := ?_)
  first | refine dpM 12 (k := ?_) | refine doffM 12 (k := ?_) | refine dldM 12 rfl (k := ?_) | refine doffNM 12 (k := ?_) | refine dldB 12 rfl (k := ?_)
  first | refine dpM 13 (k := ?_) | refine doffM 13 (k := ?_) | refine dldM 13 rfl (k := ?_) | refine doffNM 13 (k := ?_) | refine dldB 13 rfl (k := ?_)
  first | refine dpM 14 (k := ?_) | refine doffM 14 (k := ?_) | refine dldM 14 rfl (k := ?_) | refine doffNM 14 (k := ?_) | refine dldB 14 rfl (k := ?_)
  first | refine dpM 15 (k := ?_) | refine doffM 15 (k := ?_) | refine dldM 15 rfl (k := ?_) | refine doffNM 15 (k := ?_) | refine dldB 15 rfl (k := ?_)
  first | refine dpM 16 (k := ?_) | refine doffM 16 (k := ?_) | refine dldM 16 rfl (k := ?_) | refine doffNM 16 (k := ?_) | refine dldB 16 rfl (k := ?_)
  refine ddoneM (by kernel_rfl) ?_
  repeat (first | refine codeM (k := ?_) | refine condM (k := ?_) | refine offM (k := ?_) | refine offMn (k := ?_) | refine pureM (k := ?_) | refine loadM (k := ?_) | refine loadB (k := ?_) | refine storeM (k := ?_) | refine storeB (k := ?_))
  refine callM rfl rfl rfl rfl rfl (fun Hc hm => readBundle_spec (D := fun _ => True) (copyMs) copyMs_ok (hbv3.keep hm.kept (fun b hb hl => ⟨fun e => by simp only [keys, List.map_cons, List.map_nil, List.mem_cons, List.not_mem_nil, or_false] at e; omega, trivial⟩))) ?_
  rintro Hc _ H4 hm ⟨x4, mq, mn, mc, w, rfl, ⟨wb, wc, rfl, hwc, hcell⟩, hvs, hw1, hw2⟩
  have hsc := hm.size
  have hs4 := x4.size
  have hwb := hw1 wb rfl
  have hwl : wb < H4.size := (hcell 0 _ rfl).lt
  have nm4 := nm3.seg (hm.ext x4).noR (by intro b hb; simp only [keys, List.map_cons, List.map_nil, List.mem_cons, List.not_mem_nil, or_false] at hb ⊢ <;> omega) (fun b hb => by have := hb.2; omega) (by intro b hb; simp only [keys, List.map_cons, List.map_nil, List.mem_cons, List.not_mem_nil, or_false] at hb ⊢ <;> omega)
  have hsv := Sv.ofVs hvs
  have hsvb : ∀ b, (Value.slice mq mn mc).ownBlock = some b → Hc.size ≤ b := hw2
  refine Am.on (nm4.mem.read (b := wb) (ys := copyMC (.slice mq mn mc)) hwl (fun o v hv => by have := hcell o v hv; rwa [show 0 + 0 * 18 + o = o by omega] at this) (by simp only [keys, List.map_cons, List.map_nil, List.mem_cons, List.not_mem_nil, or_false]; omega)) ?_
  repeat (first | refine codeM (k := ?_) | refine condM (k := ?_) | refine offM (k := ?_) | refine offMn (k := ?_) | refine pureM (k := ?_) | refine loadM (k := ?_) | refine loadB (k := ?_) | refine storeM (k := ?_) | refine storeB (k := ?_))
  refine loadN (stC 0 2 ep 0 recs nil0 nil0) rfl (.l (.there .here)) rfl rfl rfl rfl rfl ?_
  refine allocM rfl rfl rfl (fun s hs => ?_)
  repeat (first | refine codeM (k := ?_) | refine condM (k := ?_) | refine offM (k := ?_) | refine offMn (k := ?_) | refine pureM (k := ?_) | refine loadM (k := ?_) | refine loadB (k := ?_) | refine storeM (k := ?_) | refine storeB (k := ?_))
  refine allocM rfl rfl rfl (fun m hm => ?_)
  skip
  repeat (first | refine codeM (k := ?_) | refine condM (k := ?_) | refine offM (k := ?_) | refine offMn (k := ?_) | refine pureM (k := ?_) | refine loadM (k := ?_) | refine loadB (k := ?_) | refine storeM (k := ?_) | refine storeB (k := ?_))
  refine drawM [0, 2, 3, 7, 11, 15] Tryz.mixed ?_
  first | refine dpM 0 (k := ?_) | refine doffM 0 (k := ?_) | refine dldM 0 rfl (k := ?_) | refine doffNM 0 (k := ?_) | refine dldB 0 rfl (k := ?_)
  first | refine dpM 1 (k := ?_) | refine doffM 1 (k := ?_) | refine dldM 1 rfl (k := ?_) | refine doffNM 1 (k := ?_) | refine dldB 1 rfl (k := ?_)
  first | refine dpM 2 (k := ?_) | refine doffM 2 (k := ?_) | refine dldM 2 rfl (k := ?_) | refine doffNM 2 (k := ?_) | refine dldB 2 rfl (k := ?_)
  first | refine dpM 3 (k := ?_) | refine doffM 3 (k := ?_) | refine dldM 3 rfl (k := ?_) | refine doffNM 3 (k := ?_) | refine dldB 3 rfl (k := ?_)
  first | refine dpM 4 (k := ?_) | refine doffM 4 (k := ?_) | refine dldM 4 rfl (k := ?_) | refine doffNM 4 (k := ?_) | refine dldB 4 rfl (k := ?_)
  first | refine dpM 5 (k := ?_) | refine doffM 5 (k := ?_) | refine dldM 5 rfl (k := ?_) | refine doffNM 5 (k := ?_) | refine dldB 5 rfl (k := ?_)
  first | refine dpM 6 (k := ?_) | refine doffM 6 (k := ?_) | refine dldM 6 rfl (k := ?_) | refine doffNM 6 (k := ?_) | refine dldB 6 rfl (k := ?_)
  first | refine dpM 7 (k := ?_) | refine doffM 7 (k := ?_) | refine dldM 7 rfl (k := ?_) | refine doffNM 7 (k := ?_) | refine dldB 7 rfl (k := ?_)
  first | refine dpM 8 (k := ?_) | refine doffM 8 (k := ?_) | refine dldM 8 rfl (k := ?_) | refine doffNM 8 (k := ?_) | refine dldB 8 rfl (k := ?_)
  first | refine dpM 9 (k := ?_) | refine doffM 9 (k := ?_) | refine dldM 9 rfl (k := ?_) | refine doffNM 9 (k := ?_) | refine dldB 9 rfl (k := ?_)
  first | refine dpM 10 (k := ?_) | refine doffM 10 (k := ?_) | refine dldM 10 rfl (k := ?_) | refine doffNM 10 (k := ?_) | refine dldB 10 rfl (k := ?_)
  first | refine dpM 11 (k := ?_) | refine doffM 11 (k := ?_) | refine dldM 11 rfl (k := ?_) | refine doffNM 11 (k := ?_) | refine dldB 11 rfl (k := ?_)
  first | refine dpM 12 (k := ?_) | refine doffM 12 (k := ?_) | refine dldM 12 rfl (k := ?_) | refine doffNM 12 (k := ?_) | refine dldB 12 rfl (k := ?_)
  first | refine dpM 13 (k := ?_) | refine doffM 13 (k := ?_) | refine dldM 13 rfl (k := ?_) | refine doffNM 13 (k := ?_) | refine dldB 13 rfl (k := ?_)
  first | refine dpM 14 (k := ?_) | refine doffM 14 (k := ?_) | refine dldM 14 rfl (k := ?_) | refine doffNM 14 (k := ?_) | refine dldB 14 rfl (k := ?_)
  first | refine dpM 15 (k := ?_) | refine doffM 15 (k := ?_) | refine dldM 15 rfl (k := ?_) | refine doffNM 15 (k := ?_) | refine dldB 15 rfl (k := ?_)
  refine dqM 16 rfl (p_geq rfl rfl) (k := ?_)
  refine dxL 17 rfl (by kernel_rfl) rfl (fun Hx => ?_)
  refine callW rfl rfl rfl rfl (fun Hd hm => heardC_spec _ (hsv.keep hm.kept (fun b e hl => by have := hsvb b e; (simp only [keys, List.map_cons, List.map_nil, List.mem_cons, List.not_mem_nil, or_false]; omega))) (by omega) (by omega) (by omega)) ?_
  rintro Hd _ H5 hm ⟨a, ac, b, g, gc, rfl, ha, hb, hg, hac, hgc, hm1⟩
  have ha2 := Nat.le_trans hm.size ha
  have hb2 := Nat.le_trans hm.size hb
  have hg2 := Nat.le_trans hm.size hg
  refine Am.on (Mem.aft hm hm1 (.new (by first | assumption | omega) (.new (by first | assumption | omega) (.new (by first | assumption | omega) .nil)))) ?_
  first | refine leftA (k := ?_) | refine leftF (by kernel_rfl) ?_
  first | refine dpM 18 (k := ?_) | refine doffM 18 (k := ?_) | refine dldM 18 rfl (k := ?_) | refine doffNM 18 (k := ?_) | refine dldB 18 rfl (k := ?_)
  first | refine dpM 19 (k := ?_) | refine doffM 19 (k := ?_) | refine dldM 19 rfl (k := ?_) | refine doffNM 19 (k := ?_) | refine dldB 19 rfl (k := ?_)
  first | refine dpM 20 (k := ?_) | refine doffM 20 (k := ?_) | refine dldM 20 rfl (k := ?_) | refine doffNM 20 (k := ?_) | refine dldB 20 rfl (k := ?_)
  first | refine dpM 21 (k := ?_) | refine doffM 21 (k := ?_) | refine dldM 21 rfl (k := ?_) | refine doffNM 21 (k := ?_) | refine dldB 21 rfl (k := ?_)
  first | refine dpM 22 (k := ?_) | refine doffM 22 (k := ?_) | refine dldM 22 rfl (k := ?_) | refine doffNM 22 (k := ?_) | refine dldB 22 rfl (k := ?_)
  refine ddoneM (by kernel_rfl) ?_
  repeat (first | refine codeM (k := ?_) | refine condM (k := ?_) | refine offM (k := ?_) | refine offMn (k := ?_) | refine pureM (k := ?_) | refine loadM (k := ?_) | refine loadB (k := ?_) | refine storeM (k := ?_) | refine storeB (k := ?_))
  refine callM rfl rfl rfl rfl rfl (fun Hd hm => applyC1_spec (hm.has1 (.there (.there .here))).ro (Sv.of (hm.has1 (.there .here))) (by omega) (by omega) (by omega)) ?_
  rintro Hd _ H5 hm ⟨ca, cca, ga, gca, rfl, hca, hga, hcca, hm1⟩
  have hca2 := Nat.le_trans hm.size hca
  have hga2 := Nat.le_trans hm.size hga
  refine Am.on (Mem.aft hm hm1 (.new (by first | assumption | omega) (.new (by first | assumption | omega) .nil))) ?_
  repeat (first | refine codeM (k := ?_) | refine condM (k := ?_) | refine offM (k := ?_) | refine offMn (k := ?_) | refine pureM (k := ?_) | refine loadM (k := ?_) | refine loadB (k := ?_) | refine storeM (k := ?_) | refine storeB (k := ?_))
  refine app0M (copyRC (.slice (some ⟨g, 0, none⟩) 2 gc) clock) rfl rfl (.l (.there (.there (.there (.there .here))))) rfl (by rfl) rfl (by rfl) (by rfl) rfl rfl (by rfl) rfl rfl (fun rr rrc hrr hrrc => ?_)
  repeat (first | refine codeM (k := ?_) | refine condM (k := ?_) | refine offM (k := ?_) | refine offMn (k := ?_) | refine pureM (k := ?_) | refine loadM (k := ?_) | refine loadB (k := ?_) | refine storeM (k := ?_) | refine storeB (k := ?_))
  refine app0M (plainMC 2 0 0 false) rfl rfl (.l (.there (.there (.there .here)))) rfl (by rfl) rfl (by rfl) (by rfl) rfl rfl (by rfl) rfl rfl (fun aa aac haa haac => ?_)
  repeat (first | refine codeM (k := ?_) | refine condM (k := ?_) | refine offM (k := ?_) | refine offMn (k := ?_) | refine pureM (k := ?_) | refine loadM (k := ?_) | refine loadB (k := ?_) | refine storeM (k := ?_) | refine storeB (k := ?_))
  refine callM rfl rfl rfl rfl rfl (fun Hd hm => jnC_spec (x := { x with v1 := v1', L1 := (⟨0, 1, ep, 1, [], 0, 1, true⟩ : Lk) }) (cv := .slice (some ⟨cvb, 0, none⟩) 2 cvc) (lv := .slice (some ⟨lb, 0, none⟩) 2 lc) (fv := fv) (mv := nil0) (clock := clock) (quiet := quiet) (ep := ep) (recs := recs) (now := clock) (hm.has1 (.there (.there (.there (.there (.there (.there (.there (.there (.there (.there .here))))))))))) (nm4.seg hm.noR (by intro b hb; simp only [keys, List.map_cons, List.map_nil, List.mem_cons, List.not_mem_nil, or_false] at hb ⊢ <;> omega) (fun b hb => by have := hb.2; omega) (by intro b hb; simp only [keys, List.map_cons, List.map_nil, List.mem_cons, List.not_mem_nil, or_false] at hb ⊢ <;> omega)).res (fun b hb => by have := hb.2; have := hm.size; omega) (fun hb => by have := hb.1; rcases this with e | e; exact nm.dis n (by simp [keys]) e; exact (hD n e).2.1 (by simp [keys])) (hm.has1 (.there .here)).ro (fun e => by omega) (Sv.of (hm.has1 (.there (.there (.there (.there (.there .here))))))) (fun e => by simp only [Value.ownBlock, Option.some.injEq] at e; omega) (fun p l c e => by cases e; exact hgc) (by omega) (by omega) (by show x.recs.length ≤ 900; omega) (by show x.bs.length ≤ 10000000; omega)) ?_
  rintro Hd _ H6 hm ⟨F6, c, cc, g2, gc2, rfl, hc, hg3, nmj⟩
  have hs6 := hm.size
  have hs6b := nmj.kept.size
  have hlts := hm.lt
  have nm5 := ((nm4.seg hm.noR (by intro b hb; simp only [keys, List.map_cons, List.map_nil, List.mem_cons, List.not_mem_nil, or_false] at hb ⊢ <;> omega) (fun b hb => by have := hb.2; omega) (by intro b hb; simp only [keys, List.map_cons, List.map_nil, List.mem_cons, List.not_mem_nil, or_false] at hb ⊢ <;> omega)).aft nmj (.new (by omega) (.new (by omega) (.upd (.there (.there (.there (.there (.there (.there (.there (.there (.there (.there (.there (.there .here)))))))))))) .nil)))).bound
  have nm5 : Nm H0 F0 [(s, _), (y, _), (n, _), (lb, _), (aa, plainMC 2 0 0 false), (g2, [.int .i64 0, .int .i64 1]), (c, copC (.slice (some ⟨g2, 0, none⟩) 2 gc2) 1 clock 0 0)] H6 _ { x with v1 := v1', L1 := (⟨0, 1, ep, 1, [], 0, 1, true⟩ : Lk), recs := x.recs ++ [uvs (recT (copyR clock))], bs := x.bs ++ sealB (82 :: uvs (recT (copyR clock))) } := nm5.sel (.k (s := (.k (s := (.k (s := (.k (s := (.k (s := (.k (s := (.k (s := (by repeat (first | exact Sel.nil | refine Sel.drop (by first | assumption | omega) ?_))))))))))))))))
  refine Am.on nm5.mem ?_
  repeat (first | refine codeM (k := ?_) | refine condM (k := ?_) | refine offM (k := ?_) | refine offMn (k := ?_) | refine pureM (k := ?_) | refine loadM (k := ?_) | refine loadB (k := ?_) | refine storeM (k := ?_) | refine storeB (k := ?_))
  refine storeN (ndC x (.slice (some ⟨cvb, 0, none⟩) 2 cvc) (.slice (some ⟨lb, 0, none⟩) 2 lc) fv nil0 clock quiet ep (recs + 1) (.slice (some ⟨c, 0, none⟩) 1 cc) nil0) rfl rfl rfl rfl rfl (.there (.there .here)) rfl rfl rfl ?_
  repeat (first | refine codeM (k := ?_) | refine condM (k := ?_) | refine offM (k := ?_) | refine offMn (k := ?_) | refine pureM (k := ?_) | refine loadM (k := ?_) | refine loadB (k := ?_) | refine storeM (k := ?_) | refine storeB (k := ?_))
  refine drawM [4, 6, 8] Tryz.mixed ?_
  first | refine dpM 0 (k := ?_) | refine doffM 0 (k := ?_) | refine dldM 0 rfl (k := ?_) | refine doffNM 0 (k := ?_) | refine dldB 0 rfl (k := ?_)
  first | refine dpM 1 (k := ?_) | refine doffM 1 (k := ?_) | refine dldM 1 rfl (k := ?_) | refine doffNM 1 (k := ?_) | refine dldB 1 rfl (k := ?_)
  first | refine dpM 2 (k := ?_) | refine doffM 2 (k := ?_) | refine dldM 2 rfl (k := ?_) | refine doffNM 2 (k := ?_) | refine dldB 2 rfl (k := ?_)
  first | refine dpM 3 (k := ?_) | refine doffM 3 (k := ?_) | refine dldM 3 rfl (k := ?_) | refine doffNM 3 (k := ?_) | refine dldB 3 rfl (k := ?_)
  first | refine dpM 4 (k := ?_) | refine doffM 4 (k := ?_) | refine dldM 4 rfl (k := ?_) | refine doffNM 4 (k := ?_) | refine dldB 4 rfl (k := ?_)
  first | refine dpM 5 (k := ?_) | refine doffM 5 (k := ?_) | refine dldM 5 rfl (k := ?_) | refine doffNM 5 (k := ?_) | refine dldB 5 rfl (k := ?_)
  first | refine dpM 6 (k := ?_) | refine doffM 6 (k := ?_) | refine dldM 6 rfl (k := ?_) | refine doffNM 6 (k := ?_) | refine dldB 6 rfl (k := ?_)
  refine dqM 7 rfl (p_indexAddr (i := 1) rfl rfl (by omega)) (k := ?_)
  first | refine dpM 8 (k := ?_) | refine doffM 8 (k := ?_) | refine dldM 8 rfl (k := ?_) | refine doffNM 8 (k := ?_) | refine dldB 8 rfl (k := ?_)
  first | refine dpM 9 (k := ?_) | refine doffM 9 (k := ?_) | refine dldM 9 rfl (k := ?_) | refine doffNM 9 (k := ?_) | refine dldB 9 rfl (k := ?_)
  refine dxL 10 rfl (by kernel_rfl) rfl (fun Hx => ?_)
  refine At_am ?_
  intro H7 hm7
  have hs7 := hm7.size
  have nm7 := nm5.seg hm7 (by intro b hb; simp only [keys, List.map_cons, List.map_nil, List.mem_cons, List.not_mem_nil, or_false] at hb ⊢ <;> omega) (fun b hb => by have := hb.2; omega) (by intro b hb; simp only [keys, List.map_cons, List.map_nil, List.mem_cons, List.not_mem_nil, or_false] at hb ⊢ <;> omega)
  refine W_call rfl rfl (send1_spec (x := { x with v1 := v1', L1 := (⟨0, 1, ep, 1, [], 0, 1, true⟩ : Lk), recs := x.recs ++ [uvs (recT (copyR clock))], bs := x.bs ++ sealB (82 :: uvs (recT (copyR clock))) }) haveM haveM_ok (hm7.has1 (.there (.there (.there (.there .here))))).ro (by omega) rfl nm7.res hu (fun b hb => by have := hb.2; omega) (by show 0 < 4; decide) (by exact ⟨(by show (-1000000000000 : Int) ≤ 0; decide), (by show (0 : Int) ≤ 1000000000000; decide)⟩)) rfl rfl ?_
  rintro _ H8 ⟨rfl, k8, F8, v8, hr8, hf8⟩
  have hs8 := k8.size
  have nm8 := nm7.op k8 hr8 (fun b hb => (hf8 b hb).1)
  refine Am.on nm8.mem ?_
  first | refine leftA (k := ?_) | refine leftF (by kernel_rfl) ?_
  refine ddoneM (by kernel_rfl) ?_
  repeat (first | refine codeM (k := ?_) | refine condM (k := ?_) | refine offM (k := ?_) | refine offMn (k := ?_) | refine pureM (k := ?_) | refine loadM (k := ?_) | refine loadB (k := ?_) | refine storeM (k := ?_) | refine storeB (k := ?_))
  refine ret1M rfl rfl (fun H9 hm9 => ?_)
  have hs9 := hm9.size
  have nm9 := nm8.seg hm9 (by intro b hb; simp only [keys, List.map_cons, List.map_nil, List.mem_cons, List.not_mem_nil, or_false] at hb ⊢ <;> omega) (fun b hb => (hf8 b hb).2) (by intro b hb; simp only [keys, List.map_cons, List.map_nil, List.mem_cons, List.not_mem_nil, or_false] at hb ⊢ <;> omega)
  exact ⟨_, _, _, c, cc, g2, gc2, rfl, nm9.sel (.k (s := (.k (s := (.k (s := (.k (s := (by repeat (first | exact Sel.nil | refine Sel.drop (by first | assumption | omega) ?_)))))))))), fun b hb => by have := (hf8 b hb).2; omega, hu, rfl, rfl, rfl, rfl, rfl, (by show (x.recs ++ [_]).length ≤ 801; simp; omega), (by have h9 := (recT_bytes (copyR_ok clock (by omega))).2; show (x.bs ++ sealB (82 :: uvs (recT (copyR clock)))).length ≤ 9002000; rw [List.length_append, sealB_len, List.length_cons]; omega) , by omega, by omega⟩
end Go.Proofs.YtlaobecajieaaaaGreat

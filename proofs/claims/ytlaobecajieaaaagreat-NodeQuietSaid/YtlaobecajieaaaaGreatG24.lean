/- A node's journal: one record written; none. -/
import Derived.Test.YtlaobecajieaaaaGreatG23
namespace Go.Proofs.YtlaobecajieaaaaGreat
open Go Ev
set_option linter.unusedVariables false
set_option linter.unusedSimpArgs false
def ndC (x : RD) (cv lv fv mv : Value) (clock quiet : Int) (ep recs : Nat) (cs rs : Value) : List Value := [ptr x.d, ptr x.lg, cv, .int .i64 0, .int .i64 clock, .int .i64 quiet] ++ stC 0 2 ep 0 recs cs rs ++ [lv, fv, mv]
def copyR (now : Nat) : Rc := { kind := 15, ia := 0, inn := 0, site := 0, tok := 0, tick := now, until_ := 0, how := 0, on := false, job := j1 }
def holdR (t u : Nat) : Rc := { kind := 19, ia := 1, inn := 1, site := 0, tok := 1, tick := t, until_ := u, how := 0, on := false, job := jo0 }
theorem jo0_ok : JoOk jo0 := ⟨by decide, by decide, by decide, by decide, by decide, by decide, by decide, by decide, by decide, by decide⟩
theorem j1_ok : JoOk j1 := ⟨by decide, by decide, by decide, by decide, by decide, by decide, by decide, by decide, by decide, by decide⟩
theorem copyR_ok (n : Nat) (h : n < 4000000000) : RcOk (copyR n) := ⟨by show 15 < _; decide, by show 0 < _; decide, by show 0 < _; decide, by show 0 < _; decide, by show 0 < _; decide, by show n < _; omega, by show 0 < _; decide, by show 0 < _; decide, j1_ok⟩
theorem holdR_ok (t u : Nat) (h : t < 4000000000) (h2 : u < 4000000000) : RcOk (holdR t u) := ⟨by show 19 < _; decide, by show 1 < _; decide, by show 1 < _; decide, by show 0 < _; decide, by show 1 < _; decide, by show t < _; omega, by show u < _; omega, by show 0 < _; decide, jo0_ok⟩
theorem epochR_ok (e : Nat) (h : e < 1000001) : RcOk (epochR e) := ⟨by show 29 < _; decide, by show 0 < _; decide, by show 0 < _; decide, by show 0 < _; decide, by show e < _; omega, by show 0 < _; decide, by show 0 < _; decide, by show 0 < _; decide, jo0_ok⟩
theorem recT_bytes {q : Rc} (ok : RcOk q) : 0 < (uvs (recT q)).length ∧ (uvs (recT q)).length ≤ 1000 := by
  have hall : ∀ x ∈ recT q, x < 18446744073709551616 := by
    intro x hx
    have h0 := ok.j
    simp only [recT, jobT, List.mem_append, List.mem_cons, List.not_mem_nil, or_false, List.mem_map] at hx
    have b1 : ∀ b : Bool, bt b ≤ 1 := fun b => by cases b <;> decide
    have := b1 q.on
    have := b1 q.job.pact
    have := ok.a; have := ok.b; have := ok.c; have := ok.d; have := ok.e; have := ok.f; have := ok.g; have := ok.h
    have := h0.a; have := h0.b; have := h0.c; have := h0.d; have := h0.e; have := h0.f; have := h0.g; have := h0.h; have := h0.i
    rcases hx with (hx | (hx | hx | ⟨s, hs, hx⟩) | hx) | hx
    · omega
    · omega
    · omega
    · have := h0.k s hs; omega
    · omega
    · omega
  have hln : (recT q).length ≤ 40 := by
    have := jobT_len ok.j
    simp [recT]; omega
  have h1 := uvs_len (recT q) hall
  refine ⟨?_, by omega⟩
  obtain ⟨b, r, e⟩ := uv_ne (2 * q.kind)
  simp [recT, uvs, e]
attribute [local irreducible] Go.wpList Go.bodyPost Go.Code.wp Go.Exit.then Go.Exit.inBlock Go.Exit.noGoto Ev.wpAnyG Go.Oper.wp Ev.Back Ev.Left Ev.Spc Ev.At Ev.Pure Ev.Reads Ev.Runs Ev.Does Ev.Cell Ev.Am Ev.Has Ev.Kn Go.Code.rounds

theorem jn0_spec {H : Heap} {n ep recs : Nat} {x : RD} {cv lv fv mv : Value} {clock quiet : Int} (hn : Ro H n (ndC x cv lv fv mv clock quiet ep recs nil0 nil0)) :
    Spc Tryz.prog 17 #[ptr n, nil0] H fun r H' => Ext H H' ∧ r = .tuple #[.agg (stC 0 2 ep 0 recs nil0 nil0).toArray, .int .i64 0] := by
  refine spec_of Tryz.func17 rfl Tryz.ntmps17 rfl (fun W => ?_)
  refine Am.on (Mem.startR hn) ?_
  repeat (first | refine codeM (k := ?_) | refine condM (k := ?_) | refine offM (k := ?_) | refine offMn (k := ?_) | refine pureM (k := ?_) | refine loadM (k := ?_) | refine loadB (k := ?_) | refine storeM (k := ?_) | refine storeB (k := ?_))
  refine allocM rfl rfl rfl (fun y hy => ?_)
  repeat (first | refine codeM (k := ?_) | refine condM (k := ?_) | refine offM (k := ?_) | refine offMn (k := ?_) | refine pureM (k := ?_) | refine loadM (k := ?_) | refine loadB (k := ?_) | refine storeM (k := ?_) | refine storeB (k := ?_))
  refine loadN (stC 0 2 ep 0 recs nil0 nil0) rfl (.r .here) rfl rfl rfl rfl rfl ?_
  repeat (first | refine codeM (k := ?_) | refine condM (k := ?_) | refine offM (k := ?_) | refine offMn (k := ?_) | refine pureM (k := ?_) | refine loadM (k := ?_) | refine loadB (k := ?_) | refine storeM (k := ?_) | refine storeB (k := ?_))
  refine callM rfl rfl rfl rfl rfl (fun Hc hm => apply0_spec Hc 0 2 ep 0 recs) ?_
  rintro Hc _ H1 hm ⟨x1, rfl⟩
  refine Am.on (hm.ext x1) ?_
  repeat (first | refine codeM (k := ?_) | refine condM (k := ?_) | refine offM (k := ?_) | refine offMn (k := ?_) | refine pureM (k := ?_) | refine loadM (k := ?_) | refine loadB (k := ?_) | refine storeM (k := ?_) | refine storeB (k := ?_))
  refine allocM rfl rfl rfl (fun s hs => ?_)
  repeat (first | refine codeM (k := ?_) | refine condM (k := ?_) | refine offM (k := ?_) | refine offMn (k := ?_) | refine pureM (k := ?_) | refine loadM (k := ?_) | refine loadB (k := ?_) | refine storeM (k := ?_) | refine storeB (k := ?_))
  exact retC2M rfl rfl rfl (.there .here) rfl rfl (fun H hm => ⟨hm.toExt (by repeat (first | exact Pick.nil | refine Pick.keep ?_ | refine Pick.drop (by first | assumption | omega) ?_)), rfl⟩)
theorem jn0B_spec {H : Heap} {n ep recs c cc : Nat} {x : RD} {cv lv fv mv sv : Value} {clock quiet since : Int} (hn : Ro H n (ndC x cv lv fv mv clock quiet ep recs (.slice (some ⟨c, 0, none⟩) 1 cc) nil0)) (hc : Ro H c (copC sv 1 since 0 0)) (hsv : Sv H sv) :
    Spc Tryz.prog 17 #[ptr n, nil0] H fun r H' => ∃ c' cc' g gc, r = .tuple #[.agg (stC 0 2 ep 0 recs (.slice (some ⟨c', 0, none⟩) 1 cc') nil0).toArray, .int .i64 0] ∧ H.size ≤ c' ∧ H.size ≤ g ∧ Mem H [] [(g, [.int .i64 0, .int .i64 1]), (c', copC (.slice (some ⟨g, 0, none⟩) 2 gc) 1 since 0 0)] H' := by
  refine spec_of Tryz.func17 rfl Tryz.ntmps17 rfl (fun W => ?_)
  refine Am.on ((Mem.startR hn).andR hc) ?_
  repeat (first | refine codeM (k := ?_) | refine condM (k := ?_) | refine offM (k := ?_) | refine offMn (k := ?_) | refine pureM (k := ?_) | refine loadM (k := ?_) | refine loadB (k := ?_) | refine storeM (k := ?_) | refine storeB (k := ?_))
  refine allocM rfl rfl rfl (fun y hy => ?_)
  repeat (first | refine codeM (k := ?_) | refine condM (k := ?_) | refine offM (k := ?_) | refine offMn (k := ?_) | refine pureM (k := ?_) | refine loadM (k := ?_) | refine loadB (k := ?_) | refine storeM (k := ?_) | refine storeB (k := ?_))
  refine loadN (stC 0 2 ep 0 recs (.slice (some ⟨c, 0, none⟩) 1 cc) nil0) rfl (.r (.there .here)) rfl rfl rfl rfl rfl ?_
  repeat (first | refine codeM (k := ?_) | refine condM (k := ?_) | refine offM (k := ?_) | refine offMn (k := ?_) | refine pureM (k := ?_) | refine loadM (k := ?_) | refine loadB (k := ?_) | refine storeM (k := ?_) | refine storeB (k := ?_))
  refine callM rfl rfl rfl rfl rfl (fun Hc hm => applyB0_spec (hm.roOf (.r .here)) (hsv.on (hm.toExt (by repeat (first | exact Pick.nil | refine Pick.keep ?_ | refine Pick.drop (by first | assumption | omega) ?_))))) ?_
  rintro Hc _ H1 hm ⟨c', cc', g, gc, rfl, hc', hg, hcc, hm1⟩
  have hc2 := Nat.le_trans hm.size hc'
  have hg2 := Nat.le_trans hm.size hg
  refine Am.on (Mem.aft hm hm1 (.new (by first | assumption | omega) (.new (by first | assumption | omega) .nil))) ?_
  repeat (first | refine codeM (k := ?_) | refine condM (k := ?_) | refine offM (k := ?_) | refine offMn (k := ?_) | refine pureM (k := ?_) | refine loadM (k := ?_) | refine loadB (k := ?_) | refine storeM (k := ?_) | refine storeB (k := ?_))
  refine allocM rfl rfl rfl (fun s hs => ?_)
  repeat (first | refine codeM (k := ?_) | refine condM (k := ?_) | refine offM (k := ?_) | refine offMn (k := ?_) | refine pureM (k := ?_) | refine loadM (k := ?_) | refine loadB (k := ?_) | refine storeM (k := ?_) | refine storeB (k := ?_))
  exact retC2M rfl rfl rfl (.there (.there (.there .here))) rfl rfl (fun H hm => ⟨c', cc', g, gc, rfl, hc2, hg2, (hm.sel (.k (s := (.k (s := (by repeat (first | exact Sel.nil | refine Sel.drop (by first | assumption | omega) ?_))))))).noR⟩)
set_option maxHeartbeats 8000000 in
theorem jnE_spec {H : Heap} {F : Nat → Prop} {n ep recs rb rc : Nat} {x : RD} {cv lv fv mv : Value} {clock quiet : Int} (hn : Has H n (ndC x cv lv fv mv clock quiet ep recs nil0 nil0)) (hr : Res F H x) (hF : ∀ b, F b → b < H.size) (hnF : ¬ F n) (hrb : Ro H rb (recC (epochR (ep + 1)) nilV)) (hrn : rb ≠ n) (he : ep < 1000000) (hrc : recs < 1000000) (hx1 : x.recs.length ≤ 900) (hx2 : x.bs.length ≤ 10000000) :
    Spc Tryz.prog 17 #[ptr n, .slice (some ⟨rb, 0, none⟩) 1 rc] H fun r H' => ∃ F', r = .tuple #[.agg (stC 0 2 (ep + 1) 0 (recs + 1) nil0 nil0).toArray, .int .i64 0]  ∧ Nm H F [(n, ndC x cv lv fv mv clock quiet ep recs nil0 nil0)] H' F' { x with recs := x.recs ++ [uvs (recT (epochR (ep + 1)))], bs := x.bs ++ sealB (82 :: uvs (recT (epochR (ep + 1)))) } := by
  have nm := Nm.start hn hr hnF
  have hq := recT_bytes (epochR_ok (ep + 1) (by omega))
  refine spec_of Tryz.func17 rfl Tryz.ntmps17 rfl (fun W => ?_)
  refine Am.on (nm.mem.read hrb.1 hrb.2 (by simpa [keys] using hrn)) ?_
  repeat (first | refine codeM (k := ?_) | refine condM (k := ?_) | refine offM (k := ?_) | refine offMn (k := ?_) | refine pureM (k := ?_) | refine loadM (k := ?_) | refine loadB (k := ?_) | refine storeM (k := ?_) | refine storeB (k := ?_))
  refine allocM rfl rfl rfl (fun y hy => ?_)
  repeat (first | refine codeM (k := ?_) | refine condM (k := ?_) | refine offM (k := ?_) | refine offMn (k := ?_) | refine pureM (k := ?_) | refine loadM (k := ?_) | refine loadB (k := ?_) | refine storeM (k := ?_) | refine storeB (k := ?_))
  refine loadN (stC 0 2 ep 0 recs nil0 nil0) rfl (.l (.there .here)) rfl rfl rfl rfl rfl ?_
  repeat (first | refine codeM (k := ?_) | refine condM (k := ?_) | refine offM (k := ?_) | refine offMn (k := ?_) | refine pureM (k := ?_) | refine loadM (k := ?_) | refine loadB (k := ?_) | refine storeM (k := ?_) | refine storeB (k := ?_))
  refine callM rfl rfl rfl rfl rfl (fun Hc hm => applyE1_spec 0 2 ep 0 recs he hrc (fun j u hj => by rw [show 0 + 0 * 24 + j = j by omega]; exact hm.cell (.r .here) hj)) ?_
  rintro Hc _ H1 hm ⟨x1, rfl⟩
  refine Am.on (hm.ext x1) ?_
  repeat (first | refine codeM (k := ?_) | refine condM (k := ?_) | refine offM (k := ?_) | refine offMn (k := ?_) | refine pureM (k := ?_) | refine loadM (k := ?_) | refine loadB (k := ?_) | refine storeM (k := ?_) | refine storeB (k := ?_))
  refine allocM rfl rfl rfl (fun s hs => ?_)
  repeat (first | refine codeM (k := ?_) | refine condM (k := ?_) | refine offM (k := ?_) | refine offMn (k := ?_) | refine pureM (k := ?_) | refine loadM (k := ?_) | refine loadB (k := ?_) | refine storeM (k := ?_) | refine storeB (k := ?_))
  refine allocM rfl rfl rfl (fun z hz => ?_)
  refine storeB (h1 := rfl) (k := ?_)
  repeat (first | refine codeM (k := ?_) | refine condM (k := ?_) | refine offM (k := ?_) | refine offMn (k := ?_) | refine pureM (k := ?_) | refine loadM (k := ?_) | refine loadB (k := ?_) | refine storeM (k := ?_) | refine storeB (k := ?_))
  refine callM rfl rfl rfl rfl rfl (fun Hc hm => rec_spec (epochR (ep + 1)) (epochR_ok (ep + 1) (by omega)) (Vs.nil _ _ _)) ?_
  rintro Hc _ H1 hm ⟨x1, v, rfl, hv⟩
  obtain ⟨vq, vc, rfl⟩ := hv.form
  have hs0 := hm.size
  have hs1 := x1.size
  have hnl : n < Hc.size := hm.lt n (by simp [keys])
  have hyl : y < Hc.size := hm.lt y (by simp [keys])
  have hsl : s < Hc.size := hm.lt s (by simp [keys])
  have hzl : z < Hc.size := hm.lt z (by simp [keys])
  
  have nm1 := nm.seg (hm.ext x1).noR (by intro b hb; simp only [keys, List.map_cons, List.map_nil, List.mem_cons, List.not_mem_nil, or_false] at hb ⊢; omega) hF (by intro b hb; simp only [keys, List.map_cons, List.map_nil, List.mem_cons, List.not_mem_nil, or_false] at hb ⊢; omega)
  refine Am.on nm1.mem ?_
  repeat (first | refine codeM (k := ?_) | refine condM (k := ?_) | refine offM (k := ?_) | refine offMn (k := ?_) | refine pureM (k := ?_) | refine loadM (k := ?_) | refine loadB (k := ?_) | refine storeM (k := ?_) | refine storeB (k := ?_))
  refine bs1M rfl rfl rfl (by decide) rfl rfl (fun w hw => ?_)
  repeat (first | refine codeM (k := ?_) | refine condM (k := ?_) | refine offM (k := ?_) | refine offMn (k := ?_) | refine pureM (k := ?_) | refine loadM (k := ?_) | refine loadB (k := ?_) | refine storeM (k := ?_) | refine storeB (k := ?_))
  refine app0M [.slice vq (uvs (recT (epochR (ep + 1)))).length vc] rfl rfl (.l .here) rfl (by rfl) rfl (by rfl) (by rfl) rfl rfl (by rfl) rfl rfl (fun e ec he hec => ?_)
  repeat (first | refine codeM (k := ?_) | refine condM (k := ?_) | refine offM (k := ?_) | refine offMn (k := ?_) | refine pureM (k := ?_) | refine loadM (k := ?_) | refine loadB (k := ?_) | refine storeM (k := ?_) | refine storeB (k := ?_))
  refine At_am ?_
  intro H2 hm2
  have hv2 := hv.keep (D' := fun _ => True) hm2.kept (fun b hb hl => ⟨fun h => by simp only [keys, List.map_cons, List.map_nil, List.mem_cons, List.not_mem_nil, or_false] at h; omega, trivial⟩)
  have nm2 := nm1.seg hm2 (by intro b hb; simp only [keys, List.map_cons, List.map_nil, List.mem_cons, List.not_mem_nil, or_false] at hb ⊢; omega) (fun b hb => by have := hF b hb; omega) (by intro b hb; simp only [keys, List.map_cons, List.map_nil, List.mem_cons, List.not_mem_nil, or_false] at hb ⊢; omega)
  refine At_wp (W_call rfl rfl (rappend_spec nm2.res hv2 hq.1 (by omega) (by omega) (by omega)) rfl rfl ?_) rfl
  rintro _ H3 ⟨rfl, k3, hr3⟩
  have nm3 := (nm2.op k3 hr3 (fun b hb => by rcases hb with hb | hb; exact .inl hb; exact .inr hb.1)).bound
  have hs2 := hm2.size
  have hs3 := k3.size
  refine Am.on nm3.mem ?_
  repeat (first | refine codeM (k := ?_) | refine condM (k := ?_) | refine offM (k := ?_) | refine offMn (k := ?_) | refine pureM (k := ?_) | refine loadM (k := ?_) | refine loadB (k := ?_) | refine storeM (k := ?_) | refine storeB (k := ?_))
  refine At_am ?_
  intro H4 hm4
  have nm4 := nm3.seg hm4 (by intro b hb; simp only [keys, List.map_cons, List.map_nil, List.mem_cons, List.not_mem_nil, or_false] at hb ⊢; omega) (fun b hb => hb.2) (by intro b hb; simp only [keys, List.map_cons, List.map_nil, List.mem_cons, List.not_mem_nil, or_false] at hb ⊢; omega)
  refine At_wp (W_call rfl rfl (rsync_spec (x := { x with recs := x.recs ++ [uvs (recT (epochR (ep + 1)))], bs := x.bs ++ sealB (82 :: uvs (recT (epochR (ep + 1)))) }) nm4.res) rfl rfl ?_) rfl
  rintro _ H5 ⟨rfl, k5, hr5⟩
  have hs4 := hm4.size
  have hs5 := k5.size
  have nm5 := nm4.op k5 hr5 (fun b hb => .inl hb)
  refine Am.on nm5.mem ?_
  repeat (first | refine codeM (k := ?_) | refine condM (k := ?_) | refine offM (k := ?_) | refine offMn (k := ?_) | refine pureM (k := ?_) | refine loadM (k := ?_) | refine loadB (k := ?_) | refine storeM (k := ?_) | refine storeB (k := ?_))
  refine retC2M rfl rfl rfl (.there (.there (.there (.there .here)))) rfl rfl (fun H6 hm6 => ?_)
  have hm6' : Mem H5 [] [(e, [.slice vq (uvs (recT (epochR (ep + 1)))).length vc]), (w, [.slice vq (uvs (recT (epochR (ep + 1)))).length vc]), (z, recC (epochR (ep + 1)) nilV), (s, stC 0 2 (ep + 1) 0 (recs + 1) nil0 nil0), (y, stC 0 2 (ep + 1) 0 (recs + 1) nil0 nil0), (n, ndC x cv lv fv mv clock quiet ep recs nil0 nil0)] H6 := hm6
  have nm6 := nm5.seg hm6' (by intro b hb; simp only [keys, List.map_cons, List.map_nil, List.mem_cons, List.not_mem_nil, or_false] at hb ⊢; omega) (fun b hb => by have := hb.2; omega) (by intro b hb; simp only [keys, List.map_cons, List.map_nil, List.mem_cons, List.not_mem_nil, or_false] at hb ⊢; omega)
  exact ⟨_, rfl, nm6.sel (.k (s := (by repeat (first | exact Sel.nil | refine Sel.drop (by first | assumption | omega) ?_))))⟩
set_option maxHeartbeats 8000000 in
theorem jnC_spec {H : Heap} {F : Nat → Prop} {n ep recs rb rc now : Nat} {x : RD} {cv lv fv mv sv : Value} {clock quiet : Int} (hn : Has H n (ndC x cv lv fv mv clock quiet ep recs nil0 nil0)) (hr : Res F H x) (hF : ∀ b, F b → b < H.size) (hnF : ¬ F n) (hrb : Ro H rb (copyRC sv now)) (hrn : rb ≠ n) (hsv : Sv H sv) (hsn : sv.ownBlock ≠ some n) (hcap : ∀ p l c, sv = .slice p l c → l ≤ c) (hnow : now < 4000000000) (hrc : recs < 1000000) (hx1 : x.recs.length ≤ 900) (hx2 : x.bs.length ≤ 10000000) :
    Spc Tryz.prog 17 #[ptr n, .slice (some ⟨rb, 0, none⟩) 1 rc] H fun r H' => ∃ F' c cc g gc, r = .tuple #[.agg (stC 0 2 ep 0 (recs + 1) (.slice (some ⟨c, 0, none⟩) 1 cc) nil0).toArray, .int .i64 0] ∧ H.size ≤ c ∧ H.size ≤ g ∧ Nm H F [(g, [.int .i64 0, .int .i64 1]), (c, copC (.slice (some ⟨g, 0, none⟩) 2 gc) 1 now 0 0), (n, ndC x cv lv fv mv clock quiet ep recs nil0 nil0)] H' F' { x with recs := x.recs ++ [uvs (recT (copyR now))], bs := x.bs ++ sealB (82 :: uvs (recT (copyR now))) } := by
  have nm := Nm.start hn hr hnF
  have hq := recT_bytes (copyR_ok now hnow)
  refine spec_of Tryz.func17 rfl Tryz.ntmps17 rfl (fun W => ?_)
  refine Am.on (nm.mem.read hrb.1 hrb.2 (by simpa [keys] using hrn)) ?_
  repeat (first | refine codeM (k := ?_) | refine condM (k := ?_) | refine offM (k := ?_) | refine offMn (k := ?_) | refine pureM (k := ?_) | refine loadM (k := ?_) | refine loadB (k := ?_) | refine storeM (k := ?_) | refine storeB (k := ?_))
  refine allocM rfl rfl rfl (fun y hy => ?_)
  repeat (first | refine codeM (k := ?_) | refine condM (k := ?_) | refine offM (k := ?_) | refine offMn (k := ?_) | refine pureM (k := ?_) | refine loadM (k := ?_) | refine loadB (k := ?_) | refine storeM (k := ?_) | refine storeB (k := ?_))
  refine loadN (stC 0 2 ep 0 recs nil0 nil0) rfl (.l (.there .here)) rfl rfl rfl rfl rfl ?_
  repeat (first | refine codeM (k := ?_) | refine condM (k := ?_) | refine offM (k := ?_) | refine offMn (k := ?_) | refine pureM (k := ?_) | refine loadM (k := ?_) | refine loadB (k := ?_) | refine storeM (k := ?_) | refine storeB (k := ?_))
  refine callM rfl rfl rfl rfl rfl (fun Hc hm => applyC1_spec (hm.roOf (.r .here)) (hsv.keep hm.kept (fun b e hl => by simp only [keys, List.map_cons, List.map_nil, List.mem_cons, List.not_mem_nil, or_false]; rintro (rfl | rfl) <;> first | omega | exact hsn e)) (by omega) (by omega) hrc) ?_
  rintro Hc _ H1 hm ⟨c, cc, g, gc, rfl, hc, hg, hcc, hm1⟩
  have hc2 := Nat.le_trans hm.size hc
  have hg2 := Nat.le_trans hm.size hg
  refine Am.on (Mem.aft hm hm1 (.new (by first | assumption | omega) (.new (by first | assumption | omega) .nil))) ?_
  repeat (first | refine codeM (k := ?_) | refine condM (k := ?_) | refine offM (k := ?_) | refine offMn (k := ?_) | refine pureM (k := ?_) | refine loadM (k := ?_) | refine loadB (k := ?_) | refine storeM (k := ?_) | refine storeB (k := ?_))
  refine allocM rfl rfl rfl (fun s hs => ?_)
  repeat (first | refine codeM (k := ?_) | refine condM (k := ?_) | refine offM (k := ?_) | refine offMn (k := ?_) | refine pureM (k := ?_) | refine loadM (k := ?_) | refine loadB (k := ?_) | refine storeM (k := ?_) | refine storeB (k := ?_))
  refine allocM rfl rfl rfl (fun z hz => ?_)
  refine storeB (h1 := copyRC_one hsv.one _) (k := ?_)
  repeat (first | refine codeM (k := ?_) | refine condM (k := ?_) | refine offM (k := ?_) | refine offMn (k := ?_) | refine pureM (k := ?_) | refine loadM (k := ?_) | refine loadB (k := ?_) | refine storeM (k := ?_) | refine storeB (k := ?_))
  refine callM rfl rfl rfl rfl rfl (fun Hc hm => rec_spec (copyR now) (copyR_ok now hnow) ((hsv.keep hm.kept (fun b e hl => by simp only [keys, List.map_cons, List.map_nil, List.mem_cons, List.not_mem_nil, or_false]; intro h; rcases h with h | h | h | h | h | h <;> first | omega | (subst h; exact hsn e))).vs hcap)) ?_
  rintro Hc _ H1 hm ⟨x1, v, rfl, hv⟩
  obtain ⟨vq, vc, rfl⟩ := hv.form
  have hs0 := hm.size
  have hs1 := x1.size
  have hnl : n < Hc.size := hm.lt n (by simp [keys])
  have hyl : y < Hc.size := hm.lt y (by simp [keys])
  have hsl : s < Hc.size := hm.lt s (by simp [keys])
  have hzl : z < Hc.size := hm.lt z (by simp [keys])
  have hcl : c < Hc.size := hm.lt c (by simp [keys])
  have hgl : g < Hc.size := hm.lt g (by simp [keys])
  have nm1 := nm.seg (hm.ext x1).noR (by intro b hb; simp only [keys, List.map_cons, List.map_nil, List.mem_cons, List.not_mem_nil, or_false] at hb ⊢; omega) hF (by intro b hb; simp only [keys, List.map_cons, List.map_nil, List.mem_cons, List.not_mem_nil, or_false] at hb ⊢; omega)
  refine Am.on nm1.mem ?_
  repeat (first | refine codeM (k := ?_) | refine condM (k := ?_) | refine offM (k := ?_) | refine offMn (k := ?_) | refine pureM (k := ?_) | refine loadM (k := ?_) | refine loadB (k := ?_) | refine storeM (k := ?_) | refine storeB (k := ?_))
  refine bs1M rfl rfl rfl (by decide) rfl rfl (fun w hw => ?_)
  repeat (first | refine codeM (k := ?_) | refine condM (k := ?_) | refine offM (k := ?_) | refine offMn (k := ?_) | refine pureM (k := ?_) | refine loadM (k := ?_) | refine loadB (k := ?_) | refine storeM (k := ?_) | refine storeB (k := ?_))
  refine app0M [.slice vq (uvs (recT (copyR now))).length vc] rfl rfl (.l .here) rfl (by rfl) rfl (by rfl) (by rfl) rfl rfl (by rfl) rfl rfl (fun e ec he hec => ?_)
  repeat (first | refine codeM (k := ?_) | refine condM (k := ?_) | refine offM (k := ?_) | refine offMn (k := ?_) | refine pureM (k := ?_) | refine loadM (k := ?_) | refine loadB (k := ?_) | refine storeM (k := ?_) | refine storeB (k := ?_))
  refine At_am ?_
  intro H2 hm2
  have hv2 := hv.keep (D' := fun _ => True) hm2.kept (fun b hb hl => ⟨fun h => by simp only [keys, List.map_cons, List.map_nil, List.mem_cons, List.not_mem_nil, or_false] at h; omega, trivial⟩)
  have nm2 := nm1.seg hm2 (by intro b hb; simp only [keys, List.map_cons, List.map_nil, List.mem_cons, List.not_mem_nil, or_false] at hb ⊢; omega) (fun b hb => by have := hF b hb; omega) (by intro b hb; simp only [keys, List.map_cons, List.map_nil, List.mem_cons, List.not_mem_nil, or_false] at hb ⊢; omega)
  refine At_wp (W_call rfl rfl (rappend_spec nm2.res hv2 hq.1 (by omega) (by omega) (by omega)) rfl rfl ?_) rfl
  rintro _ H3 ⟨rfl, k3, hr3⟩
  have nm3 := (nm2.op k3 hr3 (fun b hb => by rcases hb with hb | hb; exact .inl hb; exact .inr hb.1)).bound
  have hs2 := hm2.size
  have hs3 := k3.size
  refine Am.on nm3.mem ?_
  repeat (first | refine codeM (k := ?_) | refine condM (k := ?_) | refine offM (k := ?_) | refine offMn (k := ?_) | refine pureM (k := ?_) | refine loadM (k := ?_) | refine loadB (k := ?_) | refine storeM (k := ?_) | refine storeB (k := ?_))
  refine At_am ?_
  intro H4 hm4
  have nm4 := nm3.seg hm4 (by intro b hb; simp only [keys, List.map_cons, List.map_nil, List.mem_cons, List.not_mem_nil, or_false] at hb ⊢; omega) (fun b hb => hb.2) (by intro b hb; simp only [keys, List.map_cons, List.map_nil, List.mem_cons, List.not_mem_nil, or_false] at hb ⊢; omega)
  refine At_wp (W_call rfl rfl (rsync_spec (x := { x with recs := x.recs ++ [uvs (recT (copyR now))], bs := x.bs ++ sealB (82 :: uvs (recT (copyR now))) }) nm4.res) rfl rfl ?_) rfl
  rintro _ H5 ⟨rfl, k5, hr5⟩
  have hs4 := hm4.size
  have hs5 := k5.size
  have nm5 := nm4.op k5 hr5 (fun b hb => .inl hb)
  refine Am.on nm5.mem ?_
  repeat (first | refine codeM (k := ?_) | refine condM (k := ?_) | refine offM (k := ?_) | refine offMn (k := ?_) | refine pureM (k := ?_) | refine loadM (k := ?_) | refine loadB (k := ?_) | refine storeM (k := ?_) | refine storeB (k := ?_))
  refine retC2M rfl rfl rfl (.there (.there (.there (.there (.there (.there .here)))))) rfl rfl (fun H6 hm6 => ?_)
  have hm6' : Mem H5 [] [(e, [.slice vq (uvs (recT (copyR now))).length vc]), (w, [.slice vq (uvs (recT (copyR now))).length vc]), (z, copyRC sv now), (s, stC 0 2 ep 0 (recs + 1) (.slice (some ⟨c, 0, none⟩) 1 cc) nil0), (c, copC (.slice (some ⟨g, 0, none⟩) 2 gc) 1 now 0 0), (g, [.int .i64 0, .int .i64 1]), (y, stC 0 2 ep 0 (recs + 1) (.slice (some ⟨c, 0, none⟩) 1 cc) nil0), (n, ndC x cv lv fv mv clock quiet ep recs nil0 nil0)] H6 := hm6
  have nm6 := nm5.seg hm6' (by intro b hb; simp only [keys, List.map_cons, List.map_nil, List.mem_cons, List.not_mem_nil, or_false] at hb ⊢; omega) (fun b hb => by have := hb.2; omega) (by intro b hb; simp only [keys, List.map_cons, List.map_nil, List.mem_cons, List.not_mem_nil, or_false] at hb ⊢; omega)
  exact ⟨_, c, cc, g, gc, rfl, hc2, hg2, nm6.sel (.k (s := (.k (s := (.k (s := (by repeat (first | exact Sel.nil | refine Sel.drop (by first | assumption | omega) ?_))))))))⟩
set_option maxHeartbeats 8000000 in
theorem jnH_spec {H : Heap} {F : Nat → Prop} {n ep recs rb rc c0 cc0 t u : Nat} {x : RD} {cv lv fv mv sv : Value} {clock quiet since : Int} (hn : Has H n (ndC x cv lv fv mv clock quiet ep recs (.slice (some ⟨c0, 0, none⟩) 1 cc0) nil0)) (hr : Res F H x) (hF : ∀ b, F b → b < H.size) (hnF : ¬ F n) (hrb : Ro H rb (holdRC t u)) (hrn : rb ≠ n) (hc0 : Ro H c0 (copC sv 1 since 0 0)) (hcn : c0 ≠ n) (hsv : Sv H sv) (hsn : sv.ownBlock ≠ some n) (ht : t < 3000000000) (hu : u < 3000000000) (hrc : recs < 1000000) (hx1 : x.recs.length ≤ 900) (hx2 : x.bs.length ≤ 10000000) :
    Spc Tryz.prog 17 #[ptr n, .slice (some ⟨rb, 0, none⟩) 1 rc] H fun r H' => ∃ F' c cc g gc p pc, r = .tuple #[.agg (stC 0 2 ep 0 (recs + 1) (.slice (some ⟨c, 0, none⟩) 1 cc) (.slice (some ⟨p, 0, none⟩) 1 pc)).toArray, .int .i64 0] ∧ H.size ≤ c ∧ H.size ≤ g ∧ H.size ≤ p ∧ Nm H F [(p, resvC t (t + 5) 1 u), (g, [.int .i64 0, .int .i64 1]), (c, copC (.slice (some ⟨g, 0, none⟩) 2 gc) 4 since 1 t), (n, ndC x cv lv fv mv clock quiet ep recs (.slice (some ⟨c0, 0, none⟩) 1 cc0) nil0)] H' F' { x with recs := x.recs ++ [uvs (recT (holdR t u))], bs := x.bs ++ sealB (82 :: uvs (recT (holdR t u))) } := by
  have nm := Nm.start hn hr hnF
  have hq := recT_bytes (holdR_ok t u (by omega) (by omega))
  refine spec_of Tryz.func17 rfl Tryz.ntmps17 rfl (fun W => ?_)
  refine Am.on ((nm.mem.read hrb.1 hrb.2 (by simpa [keys] using hrn)).read hc0.1 hc0.2 (by simpa [keys] using hcn)) ?_
  repeat (first | refine codeM (k := ?_) | refine condM (k := ?_) | refine offM (k := ?_) | refine offMn (k := ?_) | refine pureM (k := ?_) | refine loadM (k := ?_) | refine loadB (k := ?_) | refine storeM (k := ?_) | refine storeB (k := ?_))
  refine allocM rfl rfl rfl (fun y hy => ?_)
  repeat (first | refine codeM (k := ?_) | refine condM (k := ?_) | refine offM (k := ?_) | refine offMn (k := ?_) | refine pureM (k := ?_) | refine loadM (k := ?_) | refine loadB (k := ?_) | refine storeM (k := ?_) | refine storeB (k := ?_))
  refine loadN (stC 0 2 ep 0 recs (.slice (some ⟨c0, 0, none⟩) 1 cc0) nil0) rfl (.l (.there .here)) rfl rfl rfl rfl rfl ?_
  repeat (first | refine codeM (k := ?_) | refine condM (k := ?_) | refine offM (k := ?_) | refine offMn (k := ?_) | refine pureM (k := ?_) | refine loadM (k := ?_) | refine loadB (k := ?_) | refine storeM (k := ?_) | refine storeB (k := ?_))
  refine callM rfl rfl rfl rfl rfl (fun Hc hm => applyH1_spec (hm.roOf (.r (.there .here))) (hm.roOf (.r .here)) (hsv.keep hm.kept (fun b e hl => by simp only [keys, List.map_cons, List.map_nil, List.mem_cons, List.not_mem_nil, or_false]; rintro (rfl | rfl) <;> first | omega | exact hsn e)) (by omega) (by omega) hrc) ?_
  rintro Hc _ H1 hm ⟨c, cc, g, gc, p, pc, rfl, hc, hg, hp, hcc, hm1⟩
  have hc2 := Nat.le_trans hm.size hc
  have hg2 := Nat.le_trans hm.size hg
  have hp2 := Nat.le_trans hm.size hp
  refine Am.on (Mem.aft hm hm1 (.new (by first | assumption | omega) (.new (by first | assumption | omega) (.new (by first | assumption | omega) .nil)))) ?_
  repeat (first | refine codeM (k := ?_) | refine condM (k := ?_) | refine offM (k := ?_) | refine offMn (k := ?_) | refine pureM (k := ?_) | refine loadM (k := ?_) | refine loadB (k := ?_) | refine storeM (k := ?_) | refine storeB (k := ?_))
  refine allocM rfl rfl rfl (fun s hs => ?_)
  repeat (first | refine codeM (k := ?_) | refine condM (k := ?_) | refine offM (k := ?_) | refine offMn (k := ?_) | refine pureM (k := ?_) | refine loadM (k := ?_) | refine loadB (k := ?_) | refine storeM (k := ?_) | refine storeB (k := ?_))
  refine allocM rfl rfl rfl (fun z hz => ?_)
  refine storeB (h1 := holdRC_one _ _) (k := ?_)
  repeat (first | refine codeM (k := ?_) | refine condM (k := ?_) | refine offM (k := ?_) | refine offMn (k := ?_) | refine pureM (k := ?_) | refine loadM (k := ?_) | refine loadB (k := ?_) | refine storeM (k := ?_) | refine storeB (k := ?_))
  refine callM rfl rfl rfl rfl rfl (fun Hc hm => rec_spec (holdR t u) (holdR_ok t u (by omega) (by omega)) (Vs.nil _ _ _)) ?_
  rintro Hc _ H1 hm ⟨x1, v, rfl, hv⟩
  obtain ⟨vq, vc, rfl⟩ := hv.form
  have hs0 := hm.size
  have hs1 := x1.size
  have hnl : n < Hc.size := hm.lt n (by simp [keys])
  have hyl : y < Hc.size := hm.lt y (by simp [keys])
  have hsl : s < Hc.size := hm.lt s (by simp [keys])
  have hzl : z < Hc.size := hm.lt z (by simp [keys])
  have hcl : c < Hc.size := hm.lt c (by simp [keys])
  have hgl : g < Hc.size := hm.lt g (by simp [keys])
  have hpl : p < Hc.size := hm.lt p (by simp [keys])
  have nm1 := nm.seg (hm.ext x1).noR (by intro b hb; simp only [keys, List.map_cons, List.map_nil, List.mem_cons, List.not_mem_nil, or_false] at hb ⊢; omega) hF (by intro b hb; simp only [keys, List.map_cons, List.map_nil, List.mem_cons, List.not_mem_nil, or_false] at hb ⊢; omega)
  refine Am.on nm1.mem ?_
  repeat (first | refine codeM (k := ?_) | refine condM (k := ?_) | refine offM (k := ?_) | refine offMn (k := ?_) | refine pureM (k := ?_) | refine loadM (k := ?_) | refine loadB (k := ?_) | refine storeM (k := ?_) | refine storeB (k := ?_))
  refine bs1M rfl rfl rfl (by decide) rfl rfl (fun w hw => ?_)
  repeat (first | refine codeM (k := ?_) | refine condM (k := ?_) | refine offM (k := ?_) | refine offMn (k := ?_) | refine pureM (k := ?_) | refine loadM (k := ?_) | refine loadB (k := ?_) | refine storeM (k := ?_) | refine storeB (k := ?_))
  refine app0M [.slice vq (uvs (recT (holdR t u))).length vc] rfl rfl (.l .here) rfl (by rfl) rfl (by rfl) (by rfl) rfl rfl (by rfl) rfl rfl (fun e ec he hec => ?_)
  repeat (first | refine codeM (k := ?_) | refine condM (k := ?_) | refine offM (k := ?_) | refine offMn (k := ?_) | refine pureM (k := ?_) | refine loadM (k := ?_) | refine loadB (k := ?_) | refine storeM (k := ?_) | refine storeB (k := ?_))
  refine At_am ?_
  intro H2 hm2
  have hv2 := hv.keep (D' := fun _ => True) hm2.kept (fun b hb hl => ⟨fun h => by simp only [keys, List.map_cons, List.map_nil, List.mem_cons, List.not_mem_nil, or_false] at h; omega, trivial⟩)
  have nm2 := nm1.seg hm2 (by intro b hb; simp only [keys, List.map_cons, List.map_nil, List.mem_cons, List.not_mem_nil, or_false] at hb ⊢; omega) (fun b hb => by have := hF b hb; omega) (by intro b hb; simp only [keys, List.map_cons, List.map_nil, List.mem_cons, List.not_mem_nil, or_false] at hb ⊢; omega)
  refine At_wp (W_call rfl rfl (rappend_spec nm2.res hv2 hq.1 (by omega) (by omega) (by omega)) rfl rfl ?_) rfl
  rintro _ H3 ⟨rfl, k3, hr3⟩
  have nm3 := (nm2.op k3 hr3 (fun b hb => by rcases hb with hb | hb; exact .inl hb; exact .inr hb.1)).bound
  have hs2 := hm2.size
  have hs3 := k3.size
  refine Am.on nm3.mem ?_
  repeat (first | refine codeM (k := ?_) | refine condM (k := ?_) | refine offM (k := ?_) | refine offMn (k := ?_) | refine pureM (k := ?_) | refine loadM (k := ?_) | refine loadB (k := ?_) | refine storeM (k := ?_) | refine storeB (k := ?_))
  refine At_am ?_
  intro H4 hm4
  have nm4 := nm3.seg hm4 (by intro b hb; simp only [keys, List.map_cons, List.map_nil, List.mem_cons, List.not_mem_nil, or_false] at hb ⊢; omega) (fun b hb => hb.2) (by intro b hb; simp only [keys, List.map_cons, List.map_nil, List.mem_cons, List.not_mem_nil, or_false] at hb ⊢; omega)
  refine At_wp (W_call rfl rfl (rsync_spec (x := { x with recs := x.recs ++ [uvs (recT (holdR t u))], bs := x.bs ++ sealB (82 :: uvs (recT (holdR t u))) }) nm4.res) rfl rfl ?_) rfl
  rintro _ H5 ⟨rfl, k5, hr5⟩
  have hs4 := hm4.size
  have hs5 := k5.size
  have nm5 := nm4.op k5 hr5 (fun b hb => .inl hb)
  refine Am.on nm5.mem ?_
  repeat (first | refine codeM (k := ?_) | refine condM (k := ?_) | refine offM (k := ?_) | refine offMn (k := ?_) | refine pureM (k := ?_) | refine loadM (k := ?_) | refine loadB (k := ?_) | refine storeM (k := ?_) | refine storeB (k := ?_))
  refine retC2M rfl rfl rfl (.there (.there (.there (.there (.there (.there (.there .here))))))) rfl rfl (fun H6 hm6 => ?_)
  have hm6' : Mem H5 [] [(e, [.slice vq (uvs (recT (holdR t u))).length vc]), (w, [.slice vq (uvs (recT (holdR t u))).length vc]), (z, holdRC t u), (s, stC 0 2 ep 0 (recs + 1) (.slice (some ⟨c, 0, none⟩) 1 cc) (.slice (some ⟨p, 0, none⟩) 1 pc)), (c, copC (.slice (some ⟨g, 0, none⟩) 2 gc) 4 since 1 t), (g, [.int .i64 0, .int .i64 1]), (p, resvC t (t + 5) 1 u), (y, stC 0 2 ep 0 (recs + 1) (.slice (some ⟨c, 0, none⟩) 1 cc) (.slice (some ⟨p, 0, none⟩) 1 pc)), (n, ndC x cv lv fv mv clock quiet ep recs (.slice (some ⟨c0, 0, none⟩) 1 cc0) nil0)] H6 := hm6
  have nm6 := nm5.seg hm6' (by intro b hb; simp only [keys, List.map_cons, List.map_nil, List.mem_cons, List.not_mem_nil, or_false] at hb ⊢; omega) (fun b hb => by have := hb.2; omega) (by intro b hb; simp only [keys, List.map_cons, List.map_nil, List.mem_cons, List.not_mem_nil, or_false] at hb ⊢; omega)
  exact ⟨_, c, cc, g, gc, p, pc, rfl, hc2, hg2, hp2, nm6.sel (.k (s := (.k (s := (.k (s := (.k (s := (by repeat (first | exact Sel.nil | refine Sel.drop (by first | assumption | omega) ?_))))))))))⟩
end Go.Proofs.YtlaobecajieaaaaGreat

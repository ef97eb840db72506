/- The law's walk: whatever the numbers, it returns true. -/
import Derived.Test.YtlaobecajieaaaaGreatG31
namespace Go.Proofs.YtlaobecajieaaaaGreat
open Go Ev
set_option linter.unusedVariables false
set_option linter.unusedSimpArgs false
section
variable {P : Program} {n : Nat} {W : World} {env : Env} {H0 H H1 : Heap} {R L L' L1 : Bks} {F0 F F1 Fd : Nat → Prop} {x x1 : RD} {Q : Exit → Act → World → Prop} {K : Act → World → Prop} {ops : Array Oper} {rest : List Oper}
variable {ty : TypeId} {pos : String} {af : Array Edge} {gd : Option (Nat × Bool)}
theorem bsNM {d sz sb es eb nn : Nat} {z ez : Value} {t e : TypeId} {dc : TypeDesc} {ps : List (Nat × Operand)} {vs : List (Nat × Value)} (ys : List Value) [h : Ty P t (.slice e) sz sb z] [he : Ty P e dc es eb ez] (hx : evps env ps = some vs)
    (hf : Instr.fill (fun i => some (i * es, es)) ((Array.range (nn * es)).map (ez.cells[· % ez.cells.size]!)) vs = some ys.toArray) (hes : nn * es ≠ 0 ∧ nn * es ≤ 16777216) (hw : want ops env ⟨some d, .buildSlice t nn ps.toArray, ty, pos, af, gd⟩ = some true) (hn : Nat.blt d n = true)
    (k : ∀ b, H0.size ≤ b → Am n W ((d, .slice (some ⟨b, 0, none⟩) nn nn) :: env) H0 R ((b, ys) :: L) (wpList P ops Q rest)) : Am n W env H0 R L (wpList P ops Q (⟨some d, .buildSlice t nn ps.toArray, ty, pos, af, gd⟩ :: rest)) := fun H hm => At_wp (bsNW ys hx hf hes hn k H hm) hw
theorem _root_.Ev.Mem.root (h : Mem H0 R L H) : Mem H R L H := ⟨h.has, h.ro, h.nd, h.apart, Kept.refl _ _⟩
/-- what a call made of known blocks beside hidden parts that it was given -/
theorem Nm.join (h : Mem H0 [] L H) (hd : ∀ b ∈ keys L, ¬ F b) (h1 : Nm H F L1 H1 F1 x1) (mg : Mg H.size L L1 L') : Nm H0 F L' H1 F1 x1 := by
  obtain ⟨a1, a2, a3, a4, a5⟩ := mg.facts h.nd h1.nd (fun p hp => .inl ((h.has p hp).lt))
  have hs := h.kept.size
  refine ⟨fun p hp => ?_, a1, h1.res, fun b hb e => ?_, fun b hb => ?_, ?_⟩
  · rcases a2 p hp with e | ⟨e, e2⟩
    · exact h1.has p e
    · refine (h.has p e).keep h1.kept (fun e3 => ?_)
      rcases e3 with e3 | e3
      · exact e2 e3
      · exact hd _ (key_of e) e3
  · obtain ⟨p, hp, rfl⟩ := List.mem_map.1 hb
    rcases a2 p hp with e2 | ⟨e2, e3⟩
    · exact h1.dis _ (key_of e2) e
    · rcases h1.frs _ e with e4 | e4
      · exact hd _ (key_of e2) e4
      · have := (h.has p e2).lt; omega
  · rcases h1.frs b hb with e | e
    · exact .inl e
    · exact .inr (by omega)
  · refine Kept.trans h.kept h1.kept (fun i s _ => .inl (a3 i s)) (fun i s hi => ?_)
    rcases s with s | s
    · exact .inl (a4 i s)
    · exact .inr s
theorem Nm.swap (h : Nm H0 F0 L H F x) (h1 : Nm H Fd L1 H1 F1 x1) (hsub : ∀ b, Fd b → F b) (mg : Mg H.size L L1 L') : Nm H0 F0 L' H1 F1 x1 := by
  obtain ⟨a1, a2, a3, a4, a5⟩ := mg.facts h.nd h1.nd (fun p hp => .inl ((h.has p hp).lt))
  have hs := h.kept.size
  refine ⟨fun p hp => ?_, a1, h1.res, fun b hb e => ?_, fun b hb => ?_, ?_⟩
  · rcases a2 p hp with e | ⟨e, e2⟩
    · exact h1.has p e
    · refine (h.has p e).keep h1.kept (fun e3 => ?_)
      rcases e3 with e3 | e3
      · exact e2 e3
      · exact h.dis _ (key_of e) (hsub _ e3)
  · obtain ⟨p, hp, rfl⟩ := List.mem_map.1 hb
    rcases a2 p hp with e2 | ⟨e2, e3⟩
    · exact h1.dis _ (key_of e2) e
    · rcases h1.frs _ e with e4 | e4
      · exact h.dis _ (key_of e2) (hsub _ e4)
      · have := (h.has p e2).lt; omega
  · rcases h1.frs b hb with e | e
    · exact h.frs b (hsub b e)
    · exact .inr (by omega)
  · refine Kept.trans h.kept h1.kept (fun i s _ => ?_) (fun i s hi => ?_)
    · rcases s with s | s
      · exact .inl (a3 i s)
      · exact .inr s
    · rcases s with s | s
      · exact .inl (a4 i s)
      · rcases h.frs i (hsub i s) with e | e
        · exact .inr e
        · omega
/-- some of the known blocks, seen from here on -/
theorem Nm.cut (h : Nm H0 F0 L H F x) (hs : Sel 0 L L1) : Nm H F L1 H F x := by
  obtain ⟨D, h1, _⟩ := hs.perm
  have hk := h1.map Prod.fst
  have hn : (keys (L1 ++ D)).Nodup := hk.nodup_iff.1 h.nd
  rw [keys, List.map_append] at hn
  have hin : ∀ b ∈ keys L1, b ∈ keys L := fun b hb => hk.mem_iff.2 (by rw [List.map_append]; exact List.mem_append_left _ hb)
  exact ⟨fun p hp => h.has p (h1.mem_iff.2 (List.mem_append_left _ hp)), (List.nodup_append.1 hn).1, h.res, fun b hb => h.dis b (hin b hb), fun b hb => .inl hb, Kept.refl _ _⟩
end
theorem leftH {P : Program} {n : Nat} {W : World} {env : Env} {H Hx : Heap} {Q : Exit → Act → World → Prop} {ops : Array Oper} {needy : List Nat} {fuel : Nat} {listed : Array Bool} {S : Heap → Prop} {i : Nat} (hS : S H) (k : At n W env H (wpAnyG P .any ops Q needy S fuel (listed.setIfInBounds i true))) : At n W env H (Ev.Left P ops Q needy S fuel listed i Hx) :=
  fun a w f e l => ⟨fun _ _ => by rw [e]; exact hS, k a w f e l⟩
theorem knj {H H1 : Heap} {S : Nat → Prop} {j : Nat} {xs : List Value} (h : Has H j xs) (hk : Kept S H H1) (hS : ¬ S j) : Kn [] [(j, xs)] H1 := fun b o v ys hx hv => by
  cases hx with
  | r hx => cases hx
  | l hx =>
    cases hx with
    | there hx => cases hx
    | here => exact ((h.keep hk hS).ro).2 o v hv
theorem Sv.ofRo {H : Heap} {g c : Nat} (h : Ro H g [.int .i64 0, .int .i64 1]) : Sv H (.slice (some ⟨g, 0, none⟩) 2 c) := ⟨g, 0, c, rfl, h.2 0 _ rfl, h.2 1 _ rfl⟩
theorem ndC_same {x y : RD} (hd : y.d = x.d) (hl : y.lg = x.lg) (cv lv fv mv : Value) (clock quiet : Int) (ep recs : Nat) (cs rs : Value) : ndC x cv lv fv mv clock quiet ep recs cs rs = ndC y cv lv fv mv clock quiet ep recs cs rs := by
  unfold ndC
  rw [hd, hl]
theorem stC_cells {ep recs c cc : Nat} {rv : Value} (h : rv.cells = #[rv]) : (Value.agg (stC 0 2 ep 0 recs (.slice (some ⟨c, 0, none⟩) 1 cc) rv).toArray).cells = (stC 0 2 ep 0 recs (.slice (some ⟨c, 0, none⟩) 1 cc) rv).toArray := rfl
theorem stC_one {ep recs c cc : Nat} {rv : Value} (h : rv.oneCell' = true) : (stC 0 2 ep 0 recs (.slice (some ⟨c, 0, none⟩) 1 cc) rv).all (·.oneCell') = true := by
  simp only [stC, List.all_cons, List.all_nil, h, Bool.and_true]
  rfl
structure QS where
  n : Nat
  lb : Nat
  lc : Nat
  ep : Nat
  cvb : Nat
  cvc : Nat
  x : RD
  fv : Value
  mv : Value
  F : Nat → Prop
  q : Nat
/-- the node before the script's frames -/
structure QJ (H0 : Heap) (Fd : Nat → Prop) (cb j sb : Nat) (now : Nat) (again : Bool) (clock : Nat) (s : QS) (H : Heap) : Prop where
  nm : Nm H0 Fd [(s.n, ndC s.x (.slice (some ⟨s.cvb, 0, none⟩) 2 s.cvc) (.slice (some ⟨s.lb, 0, none⟩) 2 s.lc) s.fv s.mv clock s.q s.ep s.ep nil0 nil0), (s.lb, [ptr s.x.p0, ptr s.x.p1]), (cb, [amt 2, amt 2]), (j, jobV (.slice (some ⟨sb, 0, none⟩) 2 2)), (sb, [.int .i64 0, .int .i64 1])] H s.F s.x
  hn : H0.size ≤ s.n
  hl : H0.size ≤ s.lb
  bd : ∀ b, s.F b → b < H.size
  up : s.x.up = true
  l0 : s.x.L0 = lkz 0 s.ep
  l1 : s.x.L1 = lkz 1 s.ep
  rl : s.x.recs.length ≤ 10
  rs : ∀ l ∈ s.x.recs, l.length ≤ 100000
  bl : s.x.bs.length ≤ 100000
  ag : (again = false ∧ s.q = 0 ∧ s.ep = 1) ∨ (again = true ∧ s.q = now + 69 ∧ s.ep = 2)
theorem QJ.seg {H0 H H' : Heap} {Fd : Nat → Prop} {cb j sb now clock : Nat} {again : Bool} {s : QS} (q : QJ H0 Fd cb j sb now again clock s H) (hm : Mem H [] [(s.n, ndC s.x (.slice (some ⟨s.cvb, 0, none⟩) 2 s.cvc) (.slice (some ⟨s.lb, 0, none⟩) 2 s.lc) s.fv s.mv clock s.q s.ep s.ep nil0 nil0), (s.lb, [ptr s.x.p0, ptr s.x.p1]), (cb, [amt 2, amt 2]), (j, jobV (.slice (some ⟨sb, 0, none⟩) 2 2)), (sb, [.int .i64 0, .int .i64 1])] H') : QJ H0 Fd cb j sb now again clock s H' :=
  ⟨q.nm.seg hm (fun b hb => .inl hb) q.bd (fun b hb => hb), q.hn, q.hl, fun b hb => by have := q.bd b hb; have := hm.size; omega, q.up, q.l0, q.l1, q.rl, q.rs, q.bl, q.ag⟩
theorem codeL {n : Nat} {W : World} {env : Env} {H0 : Heap} {R L : Bks} {X Y : Act → World → Prop} (h : ∀ (n : Nat) (W : World) (env : Env) (H : Heap), At n W env H Y → At n W env H X := by
  first
  | exact fun _ _ _ _ h => At_seq h
  | exact fun _ _ _ _ h => At_region h
  | exact fun _ _ _ _ h => At_then_normal h
  | exact fun _ _ _ _ h => At_nil h
  | exact fun _ _ _ _ h => At_skip h
  | exact fun _ _ _ _ h => At_scope h
  | exact fun _ _ _ _ h => At_label h
  | exact fun _ _ _ _ h => At_ret h
  | exact fun _ _ _ _ h => At_exit h
  | exact fun _ _ _ _ h => At_inBlock_normal h
  | exact fun _ _ _ _ h => At_inBlock_same h
  | exact fun _ _ _ _ h => At_then_exit h
  | exact fun _ _ _ _ h => At_inBlock_other rfl h) (k : Am n W env H0 R L Y) : Am n W env H0 R L X := fun H hm => h n W env H (k H hm)
attribute [local irreducible] Go.wpList Go.bodyPost Go.Code.wp Go.Exit.then Go.Exit.inBlock Go.Exit.noGoto Ev.wpAnyG Go.Oper.wp Ev.Back Ev.Left Ev.Spc Ev.At Ev.Pure Ev.Reads Ev.Runs Ev.Does Ev.Cell Ev.Am Ev.Has Ev.Kn Go.Code.rounds

set_option maxHeartbeats 64000000 in
theorem nodeQuiet_walk (H : Heap) (now ticks : Int) (again : Bool) : Spc Tryz.prog 3 #[.int .i64 now, .int .i64 ticks, .bool again] H fun r H' => Ext H H' ∧ r = .bool true := by
  by_cases hr : 0 ≤ now ∧ now ≤ 1073741824 ∧ 0 ≤ ticks ∧ ticks ≤ 100
  rotate_left
  · by_cases hr1 : 0 ≤ now
    · by_cases hr2 : now ≤ 1073741824
      · by_cases hr3 : 0 ≤ ticks
        · have hr4 : 100 < ticks := by omega
          refine spec_of Tryz.func3 rfl Tryz.ntmps3 rfl (fun W => ?_)
          refine Am.new ?_
          repeat (first | refine codeM (k := ?_) | refine condM (k := ?_) | refine offM (k := ?_) | refine offMn (k := ?_) | refine pureM (k := ?_) | refine loadM (k := ?_) | refine loadB (k := ?_) | refine storeM (k := ?_) | refine storeB (k := ?_))
          exact ret1M rfl rfl (fun H hm => ⟨hm.toExt (by repeat (first | exact Pick.nil | refine Pick.keep ?_ | refine Pick.drop (by first | assumption | omega) ?_)), rfl⟩)
        · refine spec_of Tryz.func3 rfl Tryz.ntmps3 rfl (fun W => ?_)
          refine Am.new ?_
          repeat (first | refine codeM (k := ?_) | refine condM (k := ?_) | refine offM (k := ?_) | refine offMn (k := ?_) | refine pureM (k := ?_) | refine loadM (k := ?_) | refine loadB (k := ?_) | refine storeM (k := ?_) | refine storeB (k := ?_))
          exact ret1M rfl rfl (fun H hm => ⟨hm.toExt (by repeat (first | exact Pick.nil | refine Pick.keep ?_ | refine Pick.drop (by first | assumption | omega) ?_)), rfl⟩)
      · refine spec_of Tryz.func3 rfl Tryz.ntmps3 rfl (fun W => ?_)
        refine Am.new ?_
        repeat (first | refine codeM (k := ?_) | refine condM (k := ?_) | refine offM (k := ?_) | refine offMn (k := ?_) | refine pureM (k := ?_) | refine loadM (k := ?_) | refine loadB (k := ?_) | refine storeM (k := ?_) | refine storeB (k := ?_))
        exact ret1M rfl rfl (fun H hm => ⟨hm.toExt (by repeat (first | exact Pick.nil | refine Pick.keep ?_ | refine Pick.drop (by first | assumption | omega) ?_)), rfl⟩)
    · refine spec_of Tryz.func3 rfl Tryz.ntmps3 rfl (fun W => ?_)
      refine Am.new ?_
      repeat (first | refine codeM (k := ?_) | refine condM (k := ?_) | refine offM (k := ?_) | refine offMn (k := ?_) | refine pureM (k := ?_) | refine loadM (k := ?_) | refine loadB (k := ?_) | refine storeM (k := ?_) | refine storeB (k := ?_))
      exact ret1M rfl rfl (fun H hm => ⟨hm.toExt (by repeat (first | exact Pick.nil | refine Pick.keep ?_ | refine Pick.drop (by first | assumption | omega) ?_)), rfl⟩)
  obtain ⟨hr1, hr2, hr3, hr4⟩ := hr
  obtain ⟨N, rfl⟩ := Int.eq_ofNat_of_zero_le hr1
  obtain ⟨T, rfl⟩ := Int.eq_ofNat_of_zero_le hr3
  refine spec_of Tryz.func3 rfl Tryz.ntmps3 rfl (fun W => ?_)
  refine Am.new ?_
  repeat (first | refine codeM (k := ?_) | refine condM (k := ?_) | refine offM (k := ?_) | refine offMn (k := ?_) | refine pureM (k := ?_) | refine loadM (k := ?_) | refine loadB (k := ?_) | refine storeM (k := ?_) | refine storeB (k := ?_))
  refine pM (p_build [.int .i64 1, .int .i64 1] rfl rfl) rfl rfl rfl ?_
  refine bsNM [.int .i64 0, .int .i64 1] rfl (by kernel_rfl) (by decide) rfl rfl (fun sb hsb => ?_)
  refine pM (p_build (jobV (.slice (some ⟨sb, 0, none⟩) 2 2)) rfl rfl) rfl rfl rfl ?_
  refine allocM rfl rfl rfl (fun j hj => ?_)
  repeat (first | refine codeM (k := ?_) | refine condM (k := ?_) | refine offM (k := ?_) | refine offMn (k := ?_) | refine pureM (k := ?_) | refine loadM (k := ?_) | refine loadB (k := ?_) | refine storeM (k := ?_) | refine storeB (k := ?_))
  refine bsNM [amt 2, amt 2] rfl (by kernel_rfl) (by decide) rfl rfl (fun cb hcb => ?_)
  repeat (first | refine codeM (k := ?_) | refine condM (k := ?_) | refine offM (k := ?_) | refine offMn (k := ?_) | refine pureM (k := ?_) | refine loadM (k := ?_) | refine loadB (k := ?_) | refine storeM (k := ?_) | refine storeB (k := ?_))
  refine callM rfl rfl rfl rfl rfl (fun Hc hm => dnew_spec Hc) ?_
  rintro Hc _ H1 hm ⟨d, rfl, x1, hd, hDk⟩
  have hx1 : Ext H H1 := (hm.ext x1).toExt (by repeat (first | exact Pick.nil | refine Pick.keep ?_ | refine Pick.drop (by first | assumption | omega) ?_))
  have hs0 := hm.size
  have hs1 := x1.size
  have hsbl := hm.lt sb (by simp [keys])
  have hjl := hm.lt j (by simp [keys])
  have hcbl := hm.lt cb (by simp [keys])
  have hDk1 := hDk.keep (F' := fun b => Hc.size ≤ b ∧ b < H1.size) (Kept.refl (fun _ => False) H1) (fun b hb hl => ⟨fun f => f, hb, hl⟩)
  refine Am.on (hm.ext x1).root ?_
  repeat (first | refine codeM (k := ?_) | refine condM (k := ?_) | refine offM (k := ?_) | refine offMn (k := ?_) | refine pureM (k := ?_) | refine loadM (k := ?_) | refine loadB (k := ?_) | refine storeM (k := ?_) | refine storeB (k := ?_))
  refine callM rfl rfl rfl rfl rfl (fun Hd hm => open0_spec (Fd := fun b => Hc.size ≤ b ∧ b < H1.size) (hDk1.keep hm.kept (fun b hb _ => ⟨fun e => by simp only [keys, List.map_cons, List.map_nil, List.mem_cons, List.not_mem_nil, or_false] at e; omega, hb⟩)) (fun b hb => by have := hm.size; omega) (hm.has1 .here).ro (fun e => by omega) hr1 hr2) ?_
  rintro Hd _ H2 hm ⟨n, lb, lc, p0, p1, lg, cvb, cvc, fv, mv, F', rfl, hn, hlb, nm0, hF0⟩
  have hs2 := hm.size
  have hs3 := nm0.kept.size
  have nm1 := (Nm.join hm (fun b hb e => by simp only [keys, List.map_cons, List.map_nil, List.mem_cons, List.not_mem_nil, or_false] at hb; omega) nm0 (.new (by omega) (.new (by omega) .nil)))
  have q1 := recT_bytes (epochR_ok 1 (by decide))
  have qj0 : QJ H1 (fun b => Hc.size ≤ b ∧ b < H1.size) cb j sb N false N ⟨n, lb, lc, 1, cvb, cvc, rdOf d lg [rec1] (jb (some rec1)) p0 p1 1, fv, mv, F', 0⟩ H2 := ⟨nm1.sel (.k (s := (.k (s := (.k (s := (.k (s := (.k (s := (by repeat (first | exact Sel.nil | refine Sel.drop (by first | assumption | omega) ?_)))))))))))), by show H1.size ≤ n; omega, by show H1.size ≤ lb; omega, hF0, rfl, rfl, rfl, by show 1 ≤ 10; decide, fun l hl => by rw [List.mem_singleton.1 hl]; exact Nat.le_trans q1.2 (by decide), by show (sealB (82 :: rec1)).length ≤ 100000; rw [sealB_len, List.length_cons]; show 8 + ((uvs (recT (epochR 1))).length + 1) ≤ _; omega, .inl ⟨rfl, rfl, rfl⟩⟩
  refine Am.on qj0.nm.mem ?_
  repeat (first | refine codeM (k := ?_) | refine condM (k := ?_) | refine offM (k := ?_) | refine offMn (k := ?_) | refine pureM (k := ?_) | refine loadM (k := ?_) | refine loadB (k := ?_) | refine storeM (k := ?_) | refine storeB (k := ?_))
  refine At_am ?_
  intro H3 hm3
  have qj1 := qj0.seg hm3
  have hs4 := hm3.size
  have q2 := recT_bytes (epochR_ok 2 (by decide))
  refine At_cut (σ := QS) (fun s => [(0, .int .i64 N), (1, .int .i64 T), (2, .bool again), (7, ptr j), (10, ptr s.n), (11, .int .i64 0)]) (fun s H' => QJ H1 (fun b => Hc.size ≤ b ∧ b < H1.size) cb j sb N again N s H') ?_ ?_
  · cases again with
    | false =>
      refine At_cond_false rfl ?_
      refine At_skip ?_
      refine At_then_normal ?_
      refine At_meet (E := fun s => [(0, .int .i64 N), (1, .int .i64 T), (2, .bool false), (7, ptr j), (10, ptr s.n), (11, .int .i64 0)]) (J := fun s H' => QJ H1 (fun b => Hc.size ≤ b ∧ b < H1.size) cb j sb N false N s H') _ ?_ qj1
      (repeat (first | exact Sub.nil | refine Sub.cons rfl ?_))
    | true =>
      refine At_cond_true rfl ?_
      obtain ⟨Fl, D0, D1, hX⟩ := qj1.nm.res
      obtain ⟨Fd', Fw, hDk', _, hFd', _⟩ := hX.log
      have hsub : ∀ b, Fd' b → F' b := fun b hb => (hX.fl b (hFd' b hb).1).1
      have hDk2 : Dk Fd' H3 d (jb (some rec1)) := hDk'
      refine Am.on qj1.nm.mem ?_
      repeat (first | refine codeM (k := ?_) | refine condM (k := ?_) | refine offM (k := ?_) | refine offMn (k := ?_) | refine pureM (k := ?_) | refine loadM (k := ?_) | refine loadB (k := ?_) | refine storeM (k := ?_) | refine storeB (k := ?_))
      refine callM rfl rfl rfl rfl rfl (fun He hm => openA_spec (Fd := Fd') (hDk2.keep hm.kept (fun b hb hl => ⟨fun e => qj1.nm.dis b e (hsub b hb), hb⟩)) (fun b hb => by have := qj1.bd b (hsub b hb); have := hm.size; omega) (hm.has1 (.there (.there .here))).ro (fun e => qj1.nm.dis cb (by simp [keys]) (hsub cb e)) hr1 hr2) ?_
      rintro He _ H4 hm ⟨n2, lb2, lc2, p02, p12, lg2, cvb2, cvc2, fv2, mv2, F2, rfl, hn2, hlb2, nmo, hF2⟩
      have hs5 := hm.size
      have hs6 := nmo.kept.size
      have hn3 : H1.size ≤ n := by omega
      have hl3 : H1.size ≤ lb := by omega
      have nm2 := Nm.swap (qj1.seg hm).nm nmo hsub (.new (by omega) (.new (by omega) .nil))
      have qj2 : QJ H1 (fun b => Hc.size ≤ b ∧ b < H1.size) cb j sb N true N ⟨n2, lb2, lc2, 2, cvb2, cvc2, rdOf d lg2 ([rec1] ++ [uvs (recT (epochR (1 + 1)))]) (jb (some rec1) ++ sealB (82 :: uvs (recT (epochR (1 + 1))))) p02 p12 2, fv2, mv2, F2, N + 69⟩ H4 := ⟨nm2.sel (.k (s := (.k (s := (.k (s := (.k (s := (.k (s := (by repeat (first | exact Sel.nil | refine Sel.drop (by first | assumption | omega) ?_)))))))))))), by show H1.size ≤ n2; omega, by show H1.size ≤ lb2; omega, hF2, rfl, rfl, rfl, by show 2 ≤ 10; decide, fun l hl => by
        rcases List.mem_cons.1 hl with rfl | hl
        · exact Nat.le_trans q1.2 (by decide)
        · rw [List.mem_singleton.1 hl]; exact Nat.le_trans q2.2 (by decide), by
        show (sealB (82 :: rec1) ++ sealB (82 :: uvs (recT (epochR 2)))).length ≤ 100000
        rw [List.length_append, sealB_len, sealB_len, List.length_cons, List.length_cons]
        show 8 + ((uvs (recT (epochR 1))).length + 1) + _ ≤ _
        omega, .inr ⟨rfl, rfl, rfl⟩⟩
      refine Am.on qj2.nm.mem ?_
      repeat (first | refine codeM (k := ?_) | refine condM (k := ?_) | refine offM (k := ?_) | refine offMn (k := ?_) | refine pureM (k := ?_) | refine loadM (k := ?_) | refine loadB (k := ?_) | refine storeM (k := ?_) | refine storeB (k := ?_))
      refine At_am ?_
      intro H5 hm5
      refine At_meet (E := fun s => [(0, .int .i64 N), (1, .int .i64 T), (2, .bool true), (7, ptr j), (10, ptr s.n), (11, .int .i64 0)]) (J := fun s H' => QJ H1 (fun b => Hc.size ≤ b ∧ b < H1.size) cb j sb N true N s H') _ ?_ (qj2.seg hm5)
      (repeat (first | exact Sub.nil | refine Sub.cons rfl ?_))
  rintro s H4 qj
  refine Am.on qj.nm.mem ?_
  repeat (first | refine codeL (k := ?_) | refine condM (k := ?_) | refine offM (k := ?_) | refine offMn (k := ?_) | refine pureM (k := ?_) | refine loadM (k := ?_) | refine loadB (k := ?_) | refine storeM (k := ?_) | refine storeB (k := ?_))
  refine At_am ?_
  intro H5 hm5
  have qj := qj.seg hm5
  refine At_cut (σ := Value) (fun _ => [(0, .int .i64 N), (1, .int .i64 T), (2, .bool again), (7, ptr j), (10, ptr s.n)]) (fun mv H' => QJ H1 (fun b => Hc.size ≤ b ∧ b < H1.size) cb j sb N again (N + T) { s with mv := mv } H') ?_ ?_
  · refine At_block ?_
    refine At_loop (σ := Nat × Value) (fun i => [(0, .int .i64 N), (1, .int .i64 T), (2, .bool again), (7, ptr j), (10, ptr s.n), (12, .int .i64 (i.1 : Nat))]) (fun i H' => i.1 ≤ T ∧ QJ H1 (fun b => Hc.size ≤ b ∧ b < H1.size) cb j sb N again (N + i.1) { s with mv := i.2 } H') (fun i => T - i.1) (0, s.mv) ?_ ⟨Nat.zero_le _, qj⟩ ?_
    · (repeat (first | exact Sub.nil | refine Sub.cons rfl ?_))
    rintro ⟨i, mvi⟩ H6 ⟨hi, qi⟩
    dsimp only at hi qi ⊢
    by_cases hlt : i < T
    rotate_left
    · refine Am.on qi.nm.mem ?_
      repeat (first | refine codeL (k := ?_) | refine condM (k := ?_) | refine offM (k := ?_) | refine offMn (k := ?_) | refine pureM (k := ?_) | refine loadM (k := ?_) | refine loadB (k := ?_) | refine storeM (k := ?_) | refine storeB (k := ?_))
      refine At_am ?_
      intro H7 hm7
      obtain rfl : i = T := by omega
      refine At_meet (E := fun _ => [(0, .int .i64 N), (1, .int .i64 i), (2, .bool again), (7, ptr j), (10, ptr s.n)]) (J := fun mv H' => QJ H1 (fun b => Hc.size ≤ b ∧ b < H1.size) cb j sb N again (N + i) { s with mv := mv } H') mvi ?_ (qi.seg hm7)
      (repeat (first | exact Sub.nil | refine Sub.cons rfl ?_))
    · refine Am.on qi.nm.mem ?_
      repeat (first | refine codeM (k := ?_) | refine condM (k := ?_) | refine offM (k := ?_) | refine offMn (k := ?_) | refine pureM (k := ?_) | refine loadM (k := ?_) | refine loadB (k := ?_) | refine storeM (k := ?_) | refine storeB (k := ?_))
      refine callM rfl rfl rfl rfl rfl (fun Hd hm => ntick_spec ((qi.seg hm).nm.cut (.k (s := (.k (s := (by repeat (first | exact Sel.nil | refine Sel.drop (by first | assumption | omega) ?_))))))) (qi.seg hm).bd (by omega) (by omega) (by have := qi.rl; show s.x.recs.length < 64; exact Nat.lt_of_le_of_lt this (by decide)) qi.rs (by rw [qi.l0]; rfl) (by rw [qi.l1]; rfl) (by rw [qi.l0]; rfl) (by rw [qi.l1]; rfl) qi.up) ?_
      rintro Hd _ H7 hm ⟨⟨v, rfl⟩, nmt, hsz⟩
      have q5 := qi.seg hm
      have nm8 := q5.nm.aft nmt (.upd .here (.upd (.there .here) .nil))
      have qi2 : QJ H1 (fun b => Hc.size ≤ b ∧ b < H1.size) cb j sb N again (N + (i + 1)) { s with mv := nil0 } H7 := ⟨nm8, q5.hn, q5.hl, fun b hb => by have := q5.bd b hb; omega, q5.up, q5.l0, q5.l1, q5.rl, q5.rs, q5.bl, q5.ag⟩
      refine Am.on qi2.nm.mem ?_
      repeat (first | refine codeM (k := ?_) | refine condM (k := ?_) | refine offM (k := ?_) | refine offMn (k := ?_) | refine pureM (k := ?_) | refine loadM (k := ?_) | refine loadB (k := ?_) | refine storeM (k := ?_) | refine storeB (k := ?_))
      refine tellM 12 (.int .i64 ((i + 1 : Nat) : Int)) rfl rfl ?_
      refine At_am ?_
      intro H8 hm8
      refine At_back (i + 1, nil0) ?_ ⟨hlt, qi2.seg hm8⟩ (by dsimp only; omega)
      (repeat (first | exact Sub.nil | refine Sub.cons rfl ?_))
  rintro mv9 H6 qj
  have hep : s.ep < 1000 := by rcases qj.ag with ⟨_, _, e⟩ | ⟨_, _, e⟩ <;> (have e : s.ep = _ := e; omega)
  refine Am.on qj.nm.mem ?_
  repeat (first | refine codeM (k := ?_) | refine condM (k := ?_) | refine offM (k := ?_) | refine offMn (k := ?_) | refine pureM (k := ?_) | refine loadM (k := ?_) | refine loadB (k := ?_) | refine storeM (k := ?_) | refine storeB (k := ?_))
  refine callM rfl rfl rfl rfl rfl (fun Hc hm => stateE_spec (hm.has1 .here).ro) ?_
  rintro Hz _ Hz1 hm ⟨xz, rfl⟩
  refine Am.on (hm.ext xz) ?_
  refine pX (p_field Tryz.underlying44 rfl Tryz.underlying3 rfl rfl) rfl rfl rfl ?_
  repeat (first | refine codeM (k := ?_) | refine condM (k := ?_) | refine offM (k := ?_) | refine offMn (k := ?_) | refine pureM (k := ?_) | refine loadM (k := ?_) | refine loadB (k := ?_) | refine storeM (k := ?_) | refine storeB (k := ?_))
  refine pM (p_build (copyMC (.slice (some ⟨sb, 0, none⟩) 2 2)) rfl rfl) rfl rfl rfl ?_
  refine callM rfl rfl rfl rfl rfl (fun Hd hm => htakeC_spec (clock := N + T) ((qj.seg hm).nm.cut (.k (s := (.k (s := (by repeat (first | exact Sel.nil | refine Sel.drop (by first | assumption | omega) ?_))))))) (qj.seg hm).bd qj.up qj.l1 (by omega) hep (by have := qj.rl; exact Nat.le_trans this (by decide)) (by have := qj.bl; exact Nat.le_trans this (by decide)) (Sv.of (hm.has1 (.there (.there (.there (.there .here)))))) (fun p l c e => by cases e; exact Nat.le_refl _) (fun b e hb => by
    have h8 := hm.nd
    simp only [Value.ownBlock, Option.some.injEq] at e
    subst e
    simp only [keys, List.map_cons, List.map_nil, List.nodup_cons, List.mem_cons, List.not_mem_nil, or_false] at h8 hb
    omega)) ?_
  rintro Hd _ H7 hm ⟨F7, x7, mv7, c, cc, g, gc, rfl, nmt, hF7, u1, u2, u3, u4, u5, u6, u7, u8, u9, u10⟩
  have hs7 := hm.size
  have hs8 := nmt.kept.size
  have q5 := qj.seg hm
  have nm8 := q5.nm.aft nmt (.upd .here (.upd (.there .here) (.new (by omega) (.new (by omega) .nil))))
  have hnd := ndC_same (x := s.x) (y := x7) u4 u5
  have hs61 := qj.nm.kept.size
  have nm9 : Nm H1 (fun b => Hc.size ≤ b ∧ b < H1.size) [(s.n, ndC x7 (.slice (some ⟨s.cvb, 0, none⟩) 2 s.cvc) (.slice (some ⟨s.lb, 0, none⟩) 2 s.lc) s.fv mv7 (N + T : Nat) s.q s.ep (s.ep + 1) (.slice (some ⟨c, 0, none⟩) 1 cc) nil0), (s.lb, [ptr x7.p0, ptr x7.p1]), (g, [.int .i64 0, .int .i64 1]), (c, copC (.slice (some ⟨g, 0, none⟩) 2 gc) 1 (N + T : Nat) 0 0), (j, jobV (.slice (some ⟨sb, 0, none⟩) 2 2)), (cb, [amt 2, amt 2]), (sb, [.int .i64 0, .int .i64 1])] H7 F7 x7 := by
    rw [← hnd, u2, u3]
    exact nm8.sel (.k (s := (.k (s := (.k (s := (.k (s := (.k (s := (.k (s := (.k (s := (by repeat (first | exact Sel.nil | refine Sel.drop (by first | assumption | omega) ?_))))))))))))))))
  have hkey : ∀ b ∈ keys [(s.n, ([] : List Value)), (s.lb, []), (j, []), (cb, []), (sb, [])], H.size ≤ b := fun b hb => by
    have e1 : H1.size ≤ s.n := qj.hn
    have e2 : H1.size ≤ s.lb := qj.hl
    simp only [keys, List.map_cons, List.map_nil, List.mem_cons, List.not_mem_nil, or_false] at hb
    omega
  have hn1 : H1.size ≤ s.n := qj.hn
  have hl1 : H1.size ≤ s.lb := qj.hl
  have hag := qj.ag
  have hag : (again = false ∧ s.q = 0 ∧ s.ep = 1) ∨ (again = true ∧ s.q = N + 69 ∧ s.ep = 2) := hag
  clear qj q5 nm8 nmt
  rcases hag with ⟨rfl, hq, _⟩ | ⟨rfl, hq, _⟩
  · have hop : s.q ≤ N + T := by omega
    have hj9 : Has H7 j (jobV (.slice (some ⟨sb, 0, none⟩) 2 2)) := nm9.mem.has1 (.there (.there (.there (.there .here))))
    have hjf : ¬ F7 j := nm9.dis j (by simp [keys])
    refine Am.on nm9.mem ?_
    repeat (first | refine codeM (k := ?_) | refine condM (k := ?_) | refine offM (k := ?_) | refine offMn (k := ?_) | refine pureM (k := ?_) | refine loadM (k := ?_) | refine loadB (k := ?_) | refine storeM (k := ?_) | refine storeB (k := ?_))
    refine drawS [3] ( .there (.there (.there (.there .here)))) Tryz.mixed ?_
    first | refine dpM 0 (k := ?_) | refine doffM 0 (k := ?_) | refine dldM 0 rfl (k := ?_) | refine doffNM 0 (k := ?_) | refine dldB 0 rfl (k := ?_)
    first | refine dpM 1 (k := ?_) | refine doffM 1 (k := ?_) | refine dldM 1 rfl (k := ?_) | refine doffNM 1 (k := ?_) | refine dldB 1 rfl (k := ?_)
    first | refine dpM 2 (k := ?_) | refine doffM 2 (k := ?_) | refine dldM 2 rfl (k := ?_) | refine doffNM 2 (k := ?_) | refine dldB 2 rfl (k := ?_)
    refine dldN 3 [.int .i64 1, .int .i64 1] rfl rfl (.l .here) rfl (hk := look1 (.there (.there (.there (.there .here))))) (k := ?_)
    first | refine dpM 4 (k := ?_) | refine doffM 4 (k := ?_) | refine dldM 4 rfl (k := ?_) | refine doffNM 4 (k := ?_) | refine dldB 4 rfl (k := ?_)
    refine dxL 5 rfl (by kernel_rfl) rfl (fun Hx => ?_)
    refine callW rfl rfl rfl rfl (fun Hc hm => clock_spec (x := x7) (hm.has1 .here).ro) ?_
    rintro Hz _ Hz1 hm ⟨xz, rfl⟩
    refine Am.on (hm.ext xz) ?_
    refine leftM (look1 (by first | exact .here | exact .there .here | exact .there (.there .here) | exact .there (.there (.there .here)) | exact .there (.there (.there (.there .here))) | exact .there (.there (.there (.there (.there .here)))) | exact .there (.there (.there (.there (.there (.there .here))))))) ?_
    first | refine dpM 6 (k := ?_) | refine doffM 6 (k := ?_) | refine dldM 6 rfl (k := ?_) | refine doffNM 6 (k := ?_) | refine dldB 6 rfl (k := ?_)
    refine dqM 7 rfl (p_build (plainMC 13 1 (N + T + 20 : Nat) false) rfl rfl) (k := ?_)
    refine dxL 8 rfl (by kernel_rfl) rfl (fun Hx => ?_)
    refine callW rfl rfl rfl rfl (fun He hm => htakeO_spec (t := N + T + 20) (since := N + T) (clock := N + T) (quiet := s.q) ((nm9.seg hm (fun b hb => .inl hb) hF7 (fun b hb => hb)).cut (.k (s := (.k (s := (.k (s := (.k (s := (by repeat (first | exact Sel.nil | refine Sel.drop (by first | assumption | omega) ?_))))))))))) (fun b hb => by have := hF7 b hb; have := hm.size; omega) u1 u6 (by omega) (by omega) (Nat.le_trans u7 (by decide)) (Nat.le_trans u8 (by decide)) (by omega) (by omega) (by omega)) ?_
    rintro He _ H8 hm ⟨F8, x8, mv8, c2, cc2, g2, gc2, p2, pc2, rfl, nmu, hF8, w1, w2, w3, w4, w5, w6, w7, w8, w9, w10, w11⟩
    have hs9 := hm.size
    have hs10 := nmu.kept.size
    have hjd : j ∉ keys [(s.n, ([] : List Value)), (s.lb, []), (p2, []), (g2, []), (c2, []), (g, []), (c, [])] := fun e => by
      simp only [keys, List.map_cons, List.map_nil, List.mem_cons, List.not_mem_nil, or_false] at e
      omega
    have hKn : Kn [] [(j, jobV (.slice (some ⟨sb, 0, none⟩) 2 2))] H8 := knj (hm.has1 (.there (.there (.there (.there .here))))) nmu.kept (fun e => by
      rcases e with e | e
      · exact hjd e
      · exact hjf e)
    have hfin : Ext H H8 := by
      have k1 := (nm9.seg hm (fun b hb => .inl hb) hF7 (fun b hb => hb)).kept
      refine Kept.trans (S' := fun b => H.size ≤ b) hx1 (Kept.trans (T := fun b => H.size ≤ b) k1 nmu.kept (fun i e hi => ?_) (fun i e hi => ?_)) (fun _ f _ => f) (fun i e hi => by omega)
      · rcases e with e | e
        · simp only [keys, List.map_cons, List.map_nil, List.mem_cons, List.not_mem_nil, or_false] at e
          omega
        · omega
      · rcases e with e | e
        · simp only [keys, List.map_cons, List.map_nil, List.mem_cons, List.not_mem_nil, or_false] at e
          omega
        · rcases nm9.frs i e with e | e <;> omega
    refine leftH hKn ?_
    refine Am.on ((((Mem.startR (nmu.mem.has1 (.here)).ro).andR (nmu.mem.has1 (.there (.there (.there (.there .here))))).ro).andR (nmu.mem.has1 (.there (.there (.there .here)))).ro).andR (nmu.mem.has1 (.there (.there .here))).ro) ?_
    refine ddoneM (by kernel_rfl) ?_
    repeat (first | refine codeM (k := ?_) | refine condM (k := ?_) | refine offM (k := ?_) | refine offMn (k := ?_) | refine pureM (k := ?_) | refine loadM (k := ?_) | refine loadB (k := ?_) | refine storeM (k := ?_) | refine storeB (k := ?_))
    refine callM rfl rfl rfl rfl rfl (fun Hc hm => guard_spec Hc) ?_
    rintro Hy _ H9 hm ⟨rfl, rfl⟩
    refine Am.on hm ?_
    repeat (first | refine codeM (k := ?_) | refine condM (k := ?_) | refine offM (k := ?_) | refine offMn (k := ?_) | refine pureM (k := ?_) | refine loadM (k := ?_) | refine loadB (k := ?_) | refine storeM (k := ?_) | refine storeB (k := ?_))
    refine callM rfl rfl rfl rfl rfl (fun Hc hm => stateC_spec (hm.roOf (.r (.there (.there (.there .here))))) (hm.roOf (.r (.there (.there .here)))) (Sv.ofRo (hm.roOf (.r (.there .here)))) (hm.roOf (.r .here))) ?_
    rintro Hy _ H10 hm ⟨c3, cc3, rv, g3, gc3, rfl, hrv, hrv1, hc3, hm1⟩
    have hs11 := hm.size
    refine Am.on (Mem.aft hm hm1 (.new (by first | assumption | omega) .nil)) ?_
    repeat (first | refine codeM (k := ?_) | refine condM (k := ?_) | refine offM (k := ?_) | refine offMn (k := ?_) | refine pureM (k := ?_) | refine loadM (k := ?_) | refine loadB (k := ?_) | refine storeM (k := ?_) | refine storeB (k := ?_))
    refine allocM rfl rfl rfl (fun e he => ?_)
    repeat (first | refine codeM (k := ?_) | refine condM (k := ?_) | refine offM (k := ?_) | refine offMn (k := ?_) | refine pureM (k := ?_) | refine loadM (k := ?_) | refine loadB (k := ?_) | refine storeM (k := ?_) | refine storeB (k := ?_))
    refine storeB (hv := stC_cells hrv) (h1 := stC_one hrv1) (k := ?_)
    repeat (first | refine codeM (k := ?_) | refine condM (k := ?_) | refine offM (k := ?_) | refine offMn (k := ?_) | refine pureM (k := ?_) | refine loadM (k := ?_) | refine loadB (k := ?_) | refine storeM (k := ?_) | refine storeB (k := ?_))
    refine callM rfl rfl rfl rfl rfl (fun Hc hm => wakes24_spec Hc) ?_
    rintro Hz _ Hz1 hm ⟨xz, rfl⟩
    refine Am.on (hm.ext xz) ?_
    repeat (first | refine codeM (k := ?_) | refine condM (k := ?_) | refine offM (k := ?_) | refine offMn (k := ?_) | refine pureM (k := ?_) | refine loadM (k := ?_) | refine loadB (k := ?_) | refine storeM (k := ?_) | refine storeB (k := ?_))
    exact ret1M rfl rfl (fun H hm => ⟨hfin.trans (hm.toExt (by repeat (first | exact Pick.nil | refine Pick.keep ?_ | refine Pick.drop (by first | assumption | omega) ?_))), rfl⟩)
  · by_cases hop : s.q ≤ N + T
    · have h69 : 69 ≤ T := by omega
      have hj9 : Has H7 j (jobV (.slice (some ⟨sb, 0, none⟩) 2 2)) := nm9.mem.has1 (.there (.there (.there (.there .here))))
      have hjf : ¬ F7 j := nm9.dis j (by simp [keys])
      refine Am.on nm9.mem ?_
      repeat (first | refine codeM (k := ?_) | refine condM (k := ?_) | refine offM (k := ?_) | refine offMn (k := ?_) | refine pureM (k := ?_) | refine loadM (k := ?_) | refine loadB (k := ?_) | refine storeM (k := ?_) | refine storeB (k := ?_))
      refine drawS [3] ( .there (.there (.there (.there .here)))) Tryz.mixed ?_
      first | refine dpM 0 (k := ?_) | refine doffM 0 (k := ?_) | refine dldM 0 rfl (k := ?_) | refine doffNM 0 (k := ?_) | refine dldB 0 rfl (k := ?_)
      first | refine dpM 1 (k := ?_) | refine doffM 1 (k := ?_) | refine dldM 1 rfl (k := ?_) | refine doffNM 1 (k := ?_) | refine dldB 1 rfl (k := ?_)
      first | refine dpM 2 (k := ?_) | refine doffM 2 (k := ?_) | refine dldM 2 rfl (k := ?_) | refine doffNM 2 (k := ?_) | refine dldB 2 rfl (k := ?_)
      refine dldN 3 [.int .i64 1, .int .i64 1] rfl rfl (.l .here) rfl (hk := look1 (.there (.there (.there (.there .here))))) (k := ?_)
      first | refine dpM 4 (k := ?_) | refine doffM 4 (k := ?_) | refine dldM 4 rfl (k := ?_) | refine doffNM 4 (k := ?_) | refine dldB 4 rfl (k := ?_)
      refine dxL 5 rfl (by kernel_rfl) rfl (fun Hx => ?_)
      refine callW rfl rfl rfl rfl (fun Hc hm => clock_spec (x := x7) (hm.has1 .here).ro) ?_
      rintro Hz _ Hz1 hm ⟨xz, rfl⟩
      refine Am.on (hm.ext xz) ?_
      refine leftM (look1 (by first | exact .here | exact .there .here | exact .there (.there .here) | exact .there (.there (.there .here)) | exact .there (.there (.there (.there .here))) | exact .there (.there (.there (.there (.there .here)))) | exact .there (.there (.there (.there (.there (.there .here))))))) ?_
      first | refine dpM 6 (k := ?_) | refine doffM 6 (k := ?_) | refine dldM 6 rfl (k := ?_) | refine doffNM 6 (k := ?_) | refine dldB 6 rfl (k := ?_)
      refine dqM 7 rfl (p_build (plainMC 13 1 (N + T + 20 : Nat) false) rfl rfl) (k := ?_)
      refine dxL 8 rfl (by kernel_rfl) rfl (fun Hx => ?_)
      refine callW rfl rfl rfl rfl (fun He hm => htakeO_spec (t := N + T + 20) (since := N + T) (clock := N + T) (quiet := s.q) ((nm9.seg hm (fun b hb => .inl hb) hF7 (fun b hb => hb)).cut (.k (s := (.k (s := (.k (s := (.k (s := (by repeat (first | exact Sel.nil | refine Sel.drop (by first | assumption | omega) ?_))))))))))) (fun b hb => by have := hF7 b hb; have := hm.size; omega) u1 u6 (by omega) (by omega) (Nat.le_trans u7 (by decide)) (Nat.le_trans u8 (by decide)) (by omega) (by omega) (by omega)) ?_
      rintro He _ H8 hm ⟨F8, x8, mv8, c2, cc2, g2, gc2, p2, pc2, rfl, nmu, hF8, w1, w2, w3, w4, w5, w6, w7, w8, w9, w10, w11⟩
      have hs9 := hm.size
      have hs10 := nmu.kept.size
      have hjd : j ∉ keys [(s.n, ([] : List Value)), (s.lb, []), (p2, []), (g2, []), (c2, []), (g, []), (c, [])] := fun e => by
        simp only [keys, List.map_cons, List.map_nil, List.mem_cons, List.not_mem_nil, or_false] at e
        omega
      have hKn : Kn [] [(j, jobV (.slice (some ⟨sb, 0, none⟩) 2 2))] H8 := knj (hm.has1 (.there (.there (.there (.there .here))))) nmu.kept (fun e => by
        rcases e with e | e
        · exact hjd e
        · exact hjf e)
      have hfin : Ext H H8 := by
        have k1 := (nm9.seg hm (fun b hb => .inl hb) hF7 (fun b hb => hb)).kept
        refine Kept.trans (S' := fun b => H.size ≤ b) hx1 (Kept.trans (T := fun b => H.size ≤ b) k1 nmu.kept (fun i e hi => ?_) (fun i e hi => ?_)) (fun _ f _ => f) (fun i e hi => by omega)
        · rcases e with e | e
          · simp only [keys, List.map_cons, List.map_nil, List.mem_cons, List.not_mem_nil, or_false] at e
            omega
          · omega
        · rcases e with e | e
          · simp only [keys, List.map_cons, List.map_nil, List.mem_cons, List.not_mem_nil, or_false] at e
            omega
          · rcases nm9.frs i e with e | e <;> omega
      refine leftH hKn ?_
      refine Am.on ((((Mem.startR (nmu.mem.has1 (.here)).ro).andR (nmu.mem.has1 (.there (.there (.there (.there .here))))).ro).andR (nmu.mem.has1 (.there (.there (.there .here)))).ro).andR (nmu.mem.has1 (.there (.there .here))).ro) ?_
      refine ddoneM (by kernel_rfl) ?_
      repeat (first | refine codeM (k := ?_) | refine condM (k := ?_) | refine offM (k := ?_) | refine offMn (k := ?_) | refine pureM (k := ?_) | refine loadM (k := ?_) | refine loadB (k := ?_) | refine storeM (k := ?_) | refine storeB (k := ?_))
      refine callM rfl rfl rfl rfl rfl (fun Hc hm => guard_spec Hc) ?_
      rintro Hy _ H9 hm ⟨rfl, rfl⟩
      refine Am.on hm ?_
      repeat (first | refine codeM (k := ?_) | refine condM (k := ?_) | refine offM (k := ?_) | refine offMn (k := ?_) | refine pureM (k := ?_) | refine loadM (k := ?_) | refine loadB (k := ?_) | refine storeM (k := ?_) | refine storeB (k := ?_))
      refine callM rfl rfl rfl rfl rfl (fun Hc hm => stateC_spec (hm.roOf (.r (.there (.there (.there .here))))) (hm.roOf (.r (.there (.there .here)))) (Sv.ofRo (hm.roOf (.r (.there .here)))) (hm.roOf (.r .here))) ?_
      rintro Hy _ H10 hm ⟨c3, cc3, rv, g3, gc3, rfl, hrv, hrv1, hc3, hm1⟩
      have hs11 := hm.size
      refine Am.on (Mem.aft hm hm1 (.new (by first | assumption | omega) .nil)) ?_
      repeat (first | refine codeM (k := ?_) | refine condM (k := ?_) | refine offM (k := ?_) | refine offMn (k := ?_) | refine pureM (k := ?_) | refine loadM (k := ?_) | refine loadB (k := ?_) | refine storeM (k := ?_) | refine storeB (k := ?_))
      refine allocM rfl rfl rfl (fun e he => ?_)
      repeat (first | refine codeM (k := ?_) | refine condM (k := ?_) | refine offM (k := ?_) | refine offMn (k := ?_) | refine pureM (k := ?_) | refine loadM (k := ?_) | refine loadB (k := ?_) | refine storeM (k := ?_) | refine storeB (k := ?_))
      refine storeB (hv := stC_cells hrv) (h1 := stC_one hrv1) (k := ?_)
      repeat (first | refine codeM (k := ?_) | refine condM (k := ?_) | refine offM (k := ?_) | refine offMn (k := ?_) | refine pureM (k := ?_) | refine loadM (k := ?_) | refine loadB (k := ?_) | refine storeM (k := ?_) | refine storeB (k := ?_))
      refine callM rfl rfl rfl rfl rfl (fun Hc hm => wakes24_spec Hc) ?_
      rintro Hz _ Hz1 hm ⟨xz, rfl⟩
      refine Am.on (hm.ext xz) ?_
      repeat (first | refine codeM (k := ?_) | refine condM (k := ?_) | refine offM (k := ?_) | refine offMn (k := ?_) | refine pureM (k := ?_) | refine loadM (k := ?_) | refine loadB (k := ?_) | refine storeM (k := ?_) | refine storeB (k := ?_))
      exact ret1M rfl rfl (fun H hm => ⟨hfin.trans (hm.toExt (by repeat (first | exact Pick.nil | refine Pick.keep ?_ | refine Pick.drop (by first | assumption | omega) ?_))), rfl⟩)
    · have h69 : T < 69 := by omega
      have hj9 : Has H7 j (jobV (.slice (some ⟨sb, 0, none⟩) 2 2)) := nm9.mem.has1 (.there (.there (.there (.there .here))))
      have hjf : ¬ F7 j := nm9.dis j (by simp [keys])
      refine Am.on nm9.mem ?_
      repeat (first | refine codeM (k := ?_) | refine condM (k := ?_) | refine offM (k := ?_) | refine offMn (k := ?_) | refine pureM (k := ?_) | refine loadM (k := ?_) | refine loadB (k := ?_) | refine storeM (k := ?_) | refine storeB (k := ?_))
      refine drawS [3] ( .there (.there (.there (.there .here)))) Tryz.mixed ?_
      first | refine dpM 0 (k := ?_) | refine doffM 0 (k := ?_) | refine dldM 0 rfl (k := ?_) | refine doffNM 0 (k := ?_) | refine dldB 0 rfl (k := ?_)
      first | refine dpM 1 (k := ?_) | refine doffM 1 (k := ?_) | refine dldM 1 rfl (k := ?_) | refine doffNM 1 (k := ?_) | refine dldB 1 rfl (k := ?_)
      first | refine dpM 2 (k := ?_) | refine doffM 2 (k := ?_) | refine dldM 2 rfl (k := ?_) | refine doffNM 2 (k := ?_) | refine dldB 2 rfl (k := ?_)
      refine dldN 3 [.int .i64 1, .int .i64 1] rfl rfl (.l .here) rfl (hk := look1 (.there (.there (.there (.there .here))))) (k := ?_)
      first | refine dpM 4 (k := ?_) | refine doffM 4 (k := ?_) | refine dldM 4 rfl (k := ?_) | refine doffNM 4 (k := ?_) | refine dldB 4 rfl (k := ?_)
      refine dxL 5 rfl (by kernel_rfl) rfl (fun Hx => ?_)
      refine callW rfl rfl rfl rfl (fun Hc hm => clock_spec (x := x7) (hm.has1 .here).ro) ?_
      rintro Hz _ Hz1 hm ⟨xz, rfl⟩
      refine Am.on (hm.ext xz) ?_
      refine leftM (look1 (by first | exact .here | exact .there .here | exact .there (.there .here) | exact .there (.there (.there .here)) | exact .there (.there (.there (.there .here))) | exact .there (.there (.there (.there (.there .here)))) | exact .there (.there (.there (.there (.there (.there .here))))))) ?_
      first | refine dpM 6 (k := ?_) | refine doffM 6 (k := ?_) | refine dldM 6 rfl (k := ?_) | refine doffNM 6 (k := ?_) | refine dldB 6 rfl (k := ?_)
      refine dqM 7 rfl (p_build (plainMC 13 1 (N + T + 20 : Nat) false) rfl rfl) (k := ?_)
      refine dxL 8 rfl (by kernel_rfl) rfl (fun Hx => ?_)
      refine callW rfl rfl rfl rfl (fun He hm => htakeS_spec (t := N + T + 20) (since := N + T) (clock := N + T) (quiet := s.q) ((nm9.seg hm (fun b hb => .inl hb) hF7 (fun b hb => hb)).cut (.k (s := (.k (s := (.k (s := (.k (s := (by repeat (first | exact Sel.nil | refine Sel.drop (by first | assumption | omega) ?_))))))))))) (fun b hb => by have := hF7 b hb; have := hm.size; omega) u1 u6 (by omega) (by omega) (Nat.le_trans u7 (by decide)) (Nat.le_trans u8 (by decide)) (by omega) (by omega)) ?_
      rintro He _ H8 hm ⟨F8, x8, mv8, c2, cc2, g2, gc2, rfl, nmu, hF8, w1, w2, w3, w4, w5, w6, w7, w8, w9, w10⟩
      have hs9 := hm.size
      have hs10 := nmu.kept.size
      have hjd : j ∉ keys [(s.n, ([] : List Value)), (s.lb, []), (g2, []), (c2, []), (g, []), (c, [])] := fun e => by
        simp only [keys, List.map_cons, List.map_nil, List.mem_cons, List.not_mem_nil, or_false] at e
        omega
      have hKn : Kn [] [(j, jobV (.slice (some ⟨sb, 0, none⟩) 2 2))] H8 := knj (hm.has1 (.there (.there (.there (.there .here))))) nmu.kept (fun e => by
        rcases e with e | e
        · exact hjd e
        · exact hjf e)
      have hfin : Ext H H8 := by
        have k1 := (nm9.seg hm (fun b hb => .inl hb) hF7 (fun b hb => hb)).kept
        refine Kept.trans (S' := fun b => H.size ≤ b) hx1 (Kept.trans (T := fun b => H.size ≤ b) k1 nmu.kept (fun i e hi => ?_) (fun i e hi => ?_)) (fun _ f _ => f) (fun i e hi => by omega)
        · rcases e with e | e
          · simp only [keys, List.map_cons, List.map_nil, List.mem_cons, List.not_mem_nil, or_false] at e
            omega
          · omega
        · rcases e with e | e
          · simp only [keys, List.map_cons, List.map_nil, List.mem_cons, List.not_mem_nil, or_false] at e
            omega
          · rcases nm9.frs i e with e | e <;> omega
      refine leftH hKn ?_
      refine Am.on (((Mem.startR (nmu.mem.has1 (.here)).ro).andR (nmu.mem.has1 (.there (.there (.there .here)))).ro).andR (nmu.mem.has1 (.there (.there .here))).ro) ?_
      refine ddoneM (by kernel_rfl) ?_
      repeat (first | refine codeM (k := ?_) | refine condM (k := ?_) | refine offM (k := ?_) | refine offMn (k := ?_) | refine pureM (k := ?_) | refine loadM (k := ?_) | refine loadB (k := ?_) | refine storeM (k := ?_) | refine storeB (k := ?_))
      refine callM rfl rfl rfl rfl rfl (fun Hc hm => guard_spec Hc) ?_
      rintro Hy _ H9 hm ⟨rfl, rfl⟩
      refine Am.on hm ?_
      repeat (first | refine codeM (k := ?_) | refine condM (k := ?_) | refine offM (k := ?_) | refine offMn (k := ?_) | refine pureM (k := ?_) | refine loadM (k := ?_) | refine loadB (k := ?_) | refine storeM (k := ?_) | refine storeB (k := ?_))
      refine callM rfl rfl rfl rfl rfl (fun Hc hm => stateB_spec (hm.roOf (.r (.there (.there .here)))) (hm.roOf (.r (.there .here))) (Sv.ofRo (hm.roOf (.r .here)))) ?_
      rintro Hy _ H10 hm ⟨c3, cc3, g3, gc3, rfl, hc3, hm1⟩
      have hs11 := hm.size
      refine Am.on (Mem.aft hm hm1 (.new (by first | assumption | omega) .nil)) ?_
      repeat (first | refine codeM (k := ?_) | refine condM (k := ?_) | refine offM (k := ?_) | refine offMn (k := ?_) | refine pureM (k := ?_) | refine loadM (k := ?_) | refine loadB (k := ?_) | refine storeM (k := ?_) | refine storeB (k := ?_))
      refine allocM rfl rfl rfl (fun e he => ?_)
      repeat (first | refine codeM (k := ?_) | refine condM (k := ?_) | refine offM (k := ?_) | refine offMn (k := ?_) | refine pureM (k := ?_) | refine loadM (k := ?_) | refine loadB (k := ?_) | refine storeM (k := ?_) | refine storeB (k := ?_))
      refine callM rfl rfl rfl rfl rfl (fun Hc hm => wakes24_spec Hc) ?_
      rintro Hz _ Hz1 hm ⟨xz, rfl⟩
      refine Am.on (hm.ext xz) ?_
      repeat (first | refine codeM (k := ?_) | refine condM (k := ?_) | refine offM (k := ?_) | refine offMn (k := ?_) | refine pureM (k := ?_) | refine loadM (k := ?_) | refine loadB (k := ?_) | refine storeM (k := ?_) | refine storeB (k := ?_))
      exact ret1M rfl rfl (fun H hm => ⟨hfin.trans (hm.toExt (by repeat (first | exact Pick.nil | refine Pick.keep ?_ | refine Pick.drop (by first | assumption | omega) ?_))), rfl⟩)
end Go.Proofs.YtlaobecajieaaaaGreat

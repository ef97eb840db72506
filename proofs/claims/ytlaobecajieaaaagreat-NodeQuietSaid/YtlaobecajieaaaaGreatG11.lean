/- A record's bytes, a bundle's bytes. -/
import Derived.Test.YtlaobecajieaaaaGreatG10
namespace Go.Proofs.YtlaobecajieaaaaGreat
open Go Ev
set_option linter.unusedVariables false
set_option linter.unusedSimpArgs false
attribute [local irreducible] Go.wpList Go.bodyPost Go.Code.wp Go.Exit.then Go.Exit.inBlock Go.Exit.noGoto Ev.wpAnyG Go.Oper.wp Ev.Back Ev.Left Ev.Spc Ev.At Ev.Pure Ev.Reads Ev.Runs Ev.Does Ev.Cell

theorem bclone_spec {D : Nat → Prop} {H : Heap} {v : Value} {l : List UInt8} (hb : BytesAt D H v l) (hl : l.length ≤ 70368744177664) :
    Spc Tryz.prog 70 #[v] H fun v' H' => Ext H H' ∧ BytesAt (fun b => H.size ≤ b) H' v' l := by
  refine spec_of Tryz.func70 rfl Tryz.ntmps70 rfl (fun W => ?_)
  obtain ⟨p, c, rfl⟩ := hb.form
  obtain ⟨_, hc0, hcm, hpn⟩ : ∃ u : Unit, l.length ≤ c ∧ c ≤ maxLen ∧ (p = none → c = 0) := by
    obtain ⟨p', c', e, h1, h2, h3, _⟩ := hb
    cases e
    exact ⟨(), h1, h2, h3⟩
  cases p with
  | none =>
    have hl0 : l = [] := List.eq_nil_of_length_eq_zero (by have := hpn rfl; omega)
    subst hl0
    repeat (first | refine codeA (k := ?_) | refine condA (k := ?_) | refine offA (k := ?_) | refine pureA (k := ?_) | refine readA (k := ?_))
    exact At_ret1 rfl rfl ⟨Kept.refl _ _, BytesAt.nil _ _⟩
  | some ad =>
    repeat (first | refine codeA (k := ?_) | refine condA (k := ?_) | refine offA (k := ?_) | refine pureA (k := ?_) | refine readA (k := ?_))
    refine At_wp (W_buildSlice0 rfl ?_) rfl
    intro g H1 hn
    repeat (first | refine codeA (k := ?_) | refine condA (k := ?_) | refine offA (k := ?_) | refine pureA (k := ?_) | refine readA (k := ?_))
    rcases Nat.eq_zero_or_pos l.length with h0 | hp
    · have hl0 : l = [] := List.eq_nil_of_length_eq_zero h0
      subst hl0
      refine At_read (r_append0 rfl rfl (Nat.le_refl _)) rfl rfl rfl ?_
      repeat (first | refine codeA (k := ?_) | refine condA (k := ?_) | refine offA (k := ?_) | refine pureA (k := ?_) | refine readA (k := ?_))
      refine At_ret1 rfl rfl ⟨hn.ext, BytesAt.mk (l := []) (Nat.le_refl _) (by simp [maxLen]) (by have := hn.blk; omega) (fun i x h => by simp at h)⟩
    · obtain ⟨b, o, e, _, h3, h5⟩ := hb.some hp
      simp only [Option.some.injEq] at e
      subst e
      have hgb : g ≠ b := by have := hn.blk; omega
      have hown : Own H1 0 5 1 (.slice (some ⟨g, 0, none⟩) 0 0) 0 [] := ⟨by simp, .inr ⟨g, 0, #[], rfl, Nat.zero_le _, hn.at_, Nat.le_refl _, by simp [maxLen], by simp, by simp⟩⟩
      refine At_wp (W_append (news := l.map fun x => .int .u8 x.toNat) rfl rfl hown ?_ ?_ ?_ (Nat.zero_le _) rfl (by decide) hp ?_ ?_ rfl ?_) rfl
      · simp
      · intro j u hj
        simp only [List.getElem?_map, Option.map_eq_some_iff] at hj
        obtain ⟨x, hx, rfl⟩ := hj
        exact (h5 j x hx).keep hn.ext (fun f => f)
      · intro u hu
        simp only [List.mem_map] at hu
        obtain ⟨x, _, rfl⟩ := hu
        rfl
      · simp only [maxLen]; omega
      · omega
      intro g2 c2 H2 hown2 hk2 hg2
      rw [List.nil_append, Nat.zero_add] at hown2
      repeat (first | refine codeA (k := ?_) | refine condA (k := ?_) | refine offA (k := ?_) | refine pureA (k := ?_) | refine readA (k := ?_))
      have hb2 := hn.blk
      have hs2 := hn.size
      have hk2s := hk2.size
      have hb3 : BytesAt (fun b => H.size ≤ b) H2 (.slice (some ⟨g2, 0, none⟩) l.length c2) l := by
        rcases hown2.form with ⟨h, _⟩ | ⟨g3, c3, h, _, _, h6, h7⟩
        · cases h
        · simp only [Value.slice.injEq, true_and] at h
          refine BytesAt.mk (by omega) (by omega) ?_ (fun i x hx => ?_)
          · simp only [Value.ownBlock, Option.some.injEq] at hg2
            omega
          · rw [Nat.zero_add]
            exact hown2.cell (by simp [hx])
      refine At_ret1 rfl rfl ⟨Kept.trans hn.ext hk2 (fun _ f _ => f) (fun i hi hlt => ?_), ?_⟩
      · simp only [Value.ownBlock, Option.some.injEq] at hi
        omega
      · rw [Nat.zero_add]
        exact hb3


/-- bytes answered, in new memory, and no error -/
def BytesOut (l : List UInt8) (H : Heap) (r : Value) (H' : Heap) : Prop := Ext H H' ∧ ∃ v, r = .tuple #[v, .int .i64 0] ∧ BytesAt (fun b => H.size ≤ b) H' v l
theorem wbytes_spec {D : Nat → Prop} {H : Heap} {g : Nat} {l : List Nat} (hw : Wt D H g l) (hl : l.length ≤ 9000) :
    Spc Tryz.prog 126 #[.pointer (some ⟨g, 0, none⟩)] H fun r H' => BytesOut (uvs l) H r H' := by
  obtain ⟨bv, hb, own, hne⟩ := hw.wr.blk
  have hbl := uvs_len l hw.all
  refine spec_of Tryz.func126 rfl Tryz.ntmps126 rfl (fun W => ?_)
  repeat (first | refine codeA (k := ?_) | refine condA (k := ?_) | refine offA (k := ?_) | refine pureA (k := ?_) | refine readA (k := ?_))
  refine At_read (r_load (v := .int .i64 0) rfl rfl (Cell.of hb rfl)) rfl rfl rfl ?_
  repeat (first | refine codeA (k := ?_) | refine condA (k := ?_) | refine offA (k := ?_) | refine pureA (k := ?_) | refine readA (k := ?_))
  refine At_read (r_load (v := bv) rfl rfl (Cell.of hb rfl)) rfl rfl rfl ?_
  refine At_wp (W_call rfl rfl (bclone_spec (own_bytes own) (by omega)) rfl rfl ?_) rfl
  rintro v H' ⟨hx, hv⟩
  repeat (first | refine codeA (k := ?_) | refine condA (k := ?_) | refine offA (k := ?_) | refine pureA (k := ?_) | refine readA (k := ?_))
  exact At_ret2 rfl rfl rfl ⟨hx, v, rfl, hv⟩
theorem wend_spec {D : Nat → Prop} {H : Heap} {g : Nat} {l : List Nat} (hw : Wt D H g l) (hl : l.length ≤ 9000) :
    Spc Tryz.prog 64 #[.pointer (some ⟨g, 0, none⟩)] H fun r H' => BytesOut (uvs l) H r H' := by
  obtain ⟨bv, hb, own, hne⟩ := hw.wr.blk
  refine spec_of Tryz.func64 rfl Tryz.ntmps64 rfl (fun W => ?_)
  repeat (first | refine codeA (k := ?_) | refine condA (k := ?_) | refine offA (k := ?_) | refine pureA (k := ?_) | refine readA (k := ?_))
  refine At_wp (W_call rfl rfl (wbytes_spec hw hl) rfl rfl ?_) rfl
  rintro _ H1 ⟨hx, v, rfl, hv⟩
  have hb := hx.keep hb (fun f => f)
  repeat (first | refine codeA (k := ?_) | refine condA (k := ?_) | refine offA (k := ?_) | refine pureA (k := ?_) | refine readA (k := ?_))
  refine At_read (r_load (v := .bool false) rfl rfl (Cell.of hb rfl)) rfl rfl rfl ?_
  repeat (first | refine codeA (k := ?_) | refine condA (k := ?_) | refine offA (k := ?_) | refine pureA (k := ?_) | refine readA (k := ?_))
  exact At_ret2 rfl rfl rfl ⟨hx, v, rfl, hv⟩
theorem vs_vsD {α : Type} {f : α → Value} {H : Heap} {v : Value} {xs : List α} (h : Vs f H v xs) : VsD (fun b => b < H.size) f H v xs := by
  obtain ⟨p, c, e, hc, h⟩ := h
  exact ⟨p, c, e, hc, fun i x hi => by
    obtain ⟨b, o, e, hb⟩ := h i x hi
    exact ⟨b, o, e, hb.lt, hb⟩⟩
/-- a new writer -/
theorem Wt.new {H H' : Heap} {g : Nat} (hn : New H H' g (.cells #[.slice none 0 0, .int .i64 0, .bool false] 142 (0, 0))) : Wt (fun b => b < H.size) H' g [] :=
  ⟨⟨fun b hb => by have := hn.size; omega, fun e => by have := hn.blk; omega, _, hn.at_, OwnL.nil _ _ _ _, fun b e => by cases e⟩, fun v h => by cases h⟩
theorem keptD_ext {H H' : Heap} (h : KeptD (fun b => b < H.size) H H') : Ext H H' := h.mono (fun i hi hl => hi hl)
theorem rec_spec (q : Rc) {sv : Value} {H : Heap} (ok : RcOk q) (hs : Vs nv H sv q.job.sites) : Spc Tryz.prog 41 #[.agg (recC q sv).toArray] H fun r H' => BytesOut (uvs (recT q)) H r H' := by
  refine spec_of Tryz.func41 rfl Tryz.ntmps41 rfl (fun W => ?_)
  repeat (first | refine codeA (k := ?_) | refine condA (k := ?_) | refine offA (k := ?_) | refine pureA (k := ?_) | refine readA (k := ?_))
  refine At_wp (W_box (cs := (recC q sv).toArray) rfl rfl rfl ?_) rfl
  intro p H1 n1
  repeat (first | refine codeA (k := ?_) | refine condA (k := ?_) | refine offA (k := ?_) | refine pureA (k := ?_) | refine readA (k := ?_))
  refine At_pure (p_build [.slice none 0 0, .int .i64 0, .bool false] rfl rfl) rfl rfl rfl ?_
  refine At_wp (W_box (cs := #[.slice none 0 0, .int .i64 0, .bool false]) rfl rfl rfl ?_) rfl
  intro g H2 n2
  have hw := Wt.new n2
  have x1 := n1.ext
  have x2 := n2.ext
  have rp := x2.keep n1.at_ (fun f => f)
  have hs2 : VsD (fun b => b < H1.size) nv H2 sv q.job.sites := by
    have := vs_vsD (hs.on x1)
    exact this.keep (x2.mono (fun _ f _ => f.elim))
  repeat (first | refine codeA (k := ?_) | refine condA (k := ?_) | refine offA (k := ?_) | refine pureA (k := ?_) | refine readA (k := ?_))
  refine At_read (r_loadB rfl rp rfl rfl) rfl rfl rfl ?_
  refine At_wp (W_call rfl rfl (wrec_spec q hw ok hs2 (by simp)) rfl rfl ?_) rfl
  rintro _ H3 ⟨rfl, hk, hw⟩
  have k13 : Ext H1 H3 := keptD_ext (KeptD.trans (KeptD.new n2) hk)
  have hln : (recT q).length ≤ 100 := by
    have := jobT_len ok.j
    simp [recT]; omega
  repeat (first | refine codeA (k := ?_) | refine condA (k := ?_) | refine offA (k := ?_) | refine pureA (k := ?_) | refine readA (k := ?_))
  refine At_wp (W_call rfl rfl (wend_spec hw (by simp; omega)) rfl rfl ?_) rfl
  rintro _ H4 ⟨x4, v, rfl, hv⟩
  have hx : Ext H H4 := (x1.trans k13).trans x4
  repeat (first | refine codeA (k := ?_) | refine condA (k := ?_) | refine offA (k := ?_) | refine pureA (k := ?_) | refine readA (k := ?_))
  exact At_ret2 rfl rfl rfl ⟨hx, v, rfl, hv.mono (fun b hb _ => Nat.le_trans (x1.trans k13).size hb)⟩
theorem vsD_one {α : Type} {D : Nat → Prop} {f : α → Value} {H : Heap} {v : Value} {xs : List α} (h : VsD D f H v xs) : v.oneCell' = true := by
  obtain ⟨_, _, e, _⟩ := h
  rw [e]
  rfl
theorem msgC_one (m : Ms) {sv : Value} (h : sv.oneCell' = true) : ((msgC m sv).toArray.toList.all fun x => x.oneCell') = true := by
  simp only [msgC, jobC, List.cons_append, List.nil_append, List.all_cons, List.all_nil, h, Bool.and_true]
  rfl
theorem wlist_msg1_spec (m : Ms) {sv : Value} {D : Nat → Prop} {H : Heap} {g b : Nat} {l : List Nat} {c : Nat} (hw : Wt D H g l) (ok : MsOk m) (hs : VsD D nv H sv m.job.sites) (hD : D b) (hm : ∀ (j : Nat) (u : Value), (msgC m sv)[j]? = some u → Cell H b (0 + 0 * 18 + j) u) (hl : l.length ≤ 7900) :
    Spc Tryz.prog 62 #[.pointer (some ⟨g, 0, none⟩), .slice (some ⟨b, 0, none⟩) 1 c, .int .i64 16, .func (.func 63) #[.pointer (some ⟨g, 0, none⟩)] #[]] H fun r H' => WP D g (l ++ [1] ++ msgT m) H r H' := by
  refine spec_of Tryz.func62 rfl Tryz.ntmps62 rfl (fun W => ?_)
  repeat (first | refine codeA (k := ?_) | refine condA (k := ?_) | refine offA (k := ?_) | refine pureA (k := ?_) | refine readA (k := ?_))
  refine At_pure (p_convInt rfl) rfl rfl rfl ?_
  refine At_tell 22 (.int .u64 (1 : Nat)) rfl rfl ?_
  refine At_wp (W_call rfl rfl (wuint_spec hw 1 (by decide) (by omega)) rfl rfl ?_) rfl
  rintro _ H1 ⟨rfl, hk1, hw⟩
  repeat (first | refine codeA (k := ?_) | refine condA (k := ?_) | refine offA (k := ?_) | refine pureA (k := ?_) | refine readA (k := ?_))
  refine At_block ?_
  refine At_loop (fun (s : Nat) => [(3, .func (.func 63) #[.pointer (some ⟨g, 0, none⟩)] #[]), (24, .slice (some ⟨b, 0, none⟩) 1 c), (25, .int .i64 1), (26, .int .i64 s)]) (fun s H' => KeptD D H H' ∧ ((s = 0 ∧ Wt D H' g (l ++ [1])) ∨ (s = 1 ∧ Wt D H' g (l ++ [1] ++ msgT m)))) (fun s => 1 - s) 0 ?_ ⟨hk1, .inl ⟨rfl, hw⟩⟩ ?_
  · (repeat (first | exact Sub.nil | refine Sub.cons rfl ?_))
  rintro i H2 ⟨hk2, ⟨rfl, hw⟩ | ⟨rfl, hw⟩⟩
  rotate_left
  · repeat (first | refine codeA (k := ?_) | refine condA (k := ?_) | refine offA (k := ?_) | refine pureA (k := ?_) | refine readA (k := ?_))
    exact At_ret0 rfl ⟨rfl, hk2, hw⟩ (.inl rfl)
  repeat (first | refine codeA (k := ?_) | refine condA (k := ?_) | refine offA (k := ?_) | refine pureA (k := ?_) | refine readA (k := ?_) | refine At_block ?_)
  refine At_read (r_loadN (cs := msgC m sv) rfl rfl rfl (fun j u hj => (hm j u hj).keep hk2 (fun f => f hD))) rfl rfl rfl ?_
  refine At_wp (W_alloc rfl rfl ?_) rfl
  intro p H3 n3
  have hw := hw.more n3
  refine At_wp (W_storeB (cs' := (msgC m sv).toArray) rfl rfl n3.at_ rfl rfl rfl (msgC_one m (vsD_one hs)) ?_) rfl
  intro H4 p4
  have hw : Wt (fun b => D b ∨ b = p) H4 g (l ++ [1]) := ⟨hw.wr.keepP p4.kept, hw.all⟩
  have hw := hw.weak (fun k (h : D k) => (.inl h : D k ∨ k = p))
  have k24 : KeptD D H2 H4 := Kept.trans (KeptD.new n3) p4.kept (fun _ s _ => s) (fun i e hi hD => by have := n3.blk; omega)
  have hs4 := hs.keep (hk2.trans k24)
  repeat (first | refine codeA (k := ?_) | refine condA (k := ?_) | refine offA (k := ?_) | refine pureA (k := ?_) | refine readA (k := ?_))
  refine At_read (r_loadB rfl p4.at_ rfl rfl) rfl rfl rfl ?_
  refine At_wp (W_call_bound (first := [.pointer (some ⟨g, 0, none⟩)]) (cap := []) rfl rfl rfl (wmsg_spec m hw ok hs4 (by simp; omega)) rfl rfl ?_) rfl
  rintro _ H5 ⟨rfl, hk5, hw⟩
  repeat (first | refine codeA (k := ?_) | refine condA (k := ?_) | refine offA (k := ?_) | refine pureA (k := ?_) | refine readA (k := ?_))
  refine At_tell 26 (.int .i64 (1 : Nat)) rfl rfl ?_
  refine At_back 1 ?_ ⟨(hk2.trans k24).trans hk5, .inr ⟨rfl, hw⟩⟩ (by omega)
  (repeat (first | exact Sub.nil | refine Sub.cons rfl ?_))
theorem bundle1_spec (m : Ms) {sv : Value} {H : Heap} {b c : Nat} (ok : MsOk m) (hs : Vs nv H sv m.job.sites) (hm : ∀ (j : Nat) (u : Value), (msgC m sv)[j]? = some u → Cell H b (0 + 0 * 18 + j) u) :
    Spc Tryz.prog 28 #[.slice (some ⟨b, 0, none⟩) 1 c] H fun r H' => BytesOut (uvs (1 :: msgT m)) H r H' := by
  have hbl : b < H.size := (hm 0 _ rfl).lt
  refine spec_of Tryz.func28 rfl Tryz.ntmps28 rfl (fun W => ?_)
  repeat (first | refine codeA (k := ?_) | refine condA (k := ?_) | refine offA (k := ?_) | refine pureA (k := ?_) | refine readA (k := ?_))
  refine At_pure (p_build [.slice none 0 0, .int .i64 0, .bool false] rfl rfl) rfl rfl rfl ?_
  refine At_wp (W_box (cs := #[.slice none 0 0, .int .i64 0, .bool false]) rfl rfl rfl ?_) rfl
  intro g H2 n2
  have hw := Wt.new n2
  have x2 := n2.ext
  have hs2 : VsD (fun b => b < H.size) nv H2 sv m.job.sites := (vs_vsD hs).keep (x2.mono (fun _ f _ => f.elim))
  repeat (first | refine codeA (k := ?_) | refine condA (k := ?_) | refine offA (k := ?_) | refine pureA (k := ?_) | refine readA (k := ?_))
  refine At_pure (p_makeFuncB (first := [.tmp 9]) (cap := []) rfl rfl) rfl rfl rfl ?_
  refine At_wp (W_call rfl rfl (wlist_msg1_spec m hw ok hs2 hbl (fun j u hj => (hm j u hj).keep x2 (fun f => f)) (by simp)) rfl rfl ?_) rfl
  rintro _ H3 ⟨rfl, hk, hw⟩
  have k13 : Ext H H3 := keptD_ext (KeptD.trans (KeptD.new n2) hk)
  have hln : (msgT m).length ≤ 100 := by
    have := jobT_len ok.j
    simp [msgT]; omega
  repeat (first | refine codeA (k := ?_) | refine condA (k := ?_) | refine offA (k := ?_) | refine pureA (k := ?_) | refine readA (k := ?_))
  refine At_wp (W_call rfl rfl (wend_spec hw (by simp; omega)) rfl rfl ?_) rfl
  rintro _ H4 ⟨x4, v, rfl, hv⟩
  repeat (first | refine codeA (k := ?_) | refine condA (k := ?_) | refine offA (k := ?_) | refine pureA (k := ?_) | refine readA (k := ?_))
  exact At_ret2 rfl rfl rfl ⟨k13.trans x4, v, rfl, hv.mono (fun b hb _ => Nat.le_trans k13.size hb)⟩
end Go.Proofs.YtlaobecajieaaaaGreat
/- A reader of numbers. -/
namespace Go.Proofs.YtlaobecajieaaaaGreat
open Go Ev
set_option linter.unusedVariables false
set_option linter.unusedSimpArgs false

theorem and127 : ∀ m : Nat, m < 256 → m &&& 127 = m % 128 := by decide +kernel
/-- a reader in block p, behind N, before these numbers; its bytes lie ahead of N -/
structure Rd (N : Nat) (H : Heap) (p : Nat) (l : List Nat) : Prop where
  le : N ≤ p
  all : ∀ v ∈ l, v < 18446744073709551616
  blk : ∃ bv, H[p]? = some (.cells #[bv, .int .i64 0] 322 (0, 0)) ∧ BytesAt (fun b => b < N) H bv (uvs l)
theorem Rd.keep {N : Nat} {H H' : Heap} {p : Nat} {l : List Nat} {S : Nat → Prop} (h : Rd N H p l) (hk : Kept S H H') (h1 : ∀ b, S b → N ≤ b ∧ b ≠ p) : Rd N H' p l := by
  obtain ⟨bv, hb, hv⟩ := h.blk
  exact ⟨h.le, h.all, bv, hk.keep hb (fun s => (h1 p s).2 rfl), hv.keep hk (fun b hb _ => ⟨fun s => by have := (h1 b s).1; omega, hb⟩)⟩
theorem uv_ne (v : Nat) : ∃ b r, uv v = b :: r := by
  by_cases h : v ≤ 127
  · exact ⟨_, _, uv_small h⟩
  · exact ⟨_, _, uv_big h⟩
section
variable {P : Program} {n : Nat} {W : World} {env : Env} {H : Heap} {Q : Exit → Act → World → Prop} {K : Act → World → Prop}
variable {ty : TypeId} {pos : String} {af : Array Edge} {gd : Option (Nat × Bool)}
theorem W_dropB {D : Nat → Prop} {dd : Nat} {x lo : Operand} {t e : TypeId} {d : TypeDesc} {sz sb eb : Nat} {z ez : Value} {kl : IntKind} (i : Nat) {v : Value} {xs : List UInt8} [h : Ty P t (.slice e) sz sb z] [he : Ty P e d 1 eb ez]
    (hv : BytesAt D H v xs) (hx : ev env x = some v) (hlo : ev env lo = some (.int kl i)) (h1 : i ≤ xs.length) (h0 : 1 ≤ xs.length) (hn : Nat.blt dd n = true) (k : ∀ v', BytesAt D H v' (xs.drop i) → At n W ((dd, v') :: env) H K) :
    At n W env H (fun a w => Oper.wp P ⟨some dd, .slice t x (some lo) none none, ty, pos, af, gd⟩ a w K Q) := by
  obtain ⟨p, c, rfl, hlc, hcm, hpn, hcell⟩ := hv
  obtain ⟨b, o, rfl, hD, _⟩ := hcell 0 xs[0] (by simp [show 0 < xs.length by omega])
  have hcell' : ∀ (j : Nat) (y : UInt8), xs[j]? = some y → Cell H b (o + j) (.int .u8 y.toNat) := fun j y hj => by
    obtain ⟨b', o', e, _, hc⟩ := hcell j y hj
    simp only [Option.some.injEq, Addr.mk.injEq] at e
    obtain ⟨rfl, rfl, _⟩ := e
    exact hc
  by_cases hic : i < c
  · refine W_run (p_slice_lo (P := P) (n := n) hx hlo h1 hic).reads.runs rfl hn (k _ ?_)
    have := BytesAt.mk (H := H) (b := b) (o := o + i * 1) (c := c - i) (l := xs.drop i) (D := D) (by simp; omega) (by omega) hD (fun j y hj => by
      rw [List.getElem?_drop] at hj
      have := hcell' _ y hj
      rw [show o + i * 1 + j = o + (i + j) by omega]
      exact this)
    simpa using this
  · have hci : c = i := by omega
    refine W_run (p_slice_lo_end (P := P) (n := n) hx hlo h1 hci).reads.runs rfl hn (k _ ?_)
    have hd : xs.drop i = [] := List.drop_eq_nil_of_le (by omega)
    have := BytesAt.mk (H := H) (b := b) (o := o) (c := c - i) (l := xs.drop i) (D := D) (by rw [hd]; simp) (by omega) hD (fun j y hj => by rw [hd] at hj; simp at hj)
    simpa using this
end
attribute [local irreducible] Go.wpList Go.bodyPost Go.Code.wp Go.Exit.then Go.Exit.inBlock Go.Exit.noGoto Ev.wpAnyG Go.Oper.wp Ev.Back Ev.Left Ev.Spc Ev.At Ev.Pure Ev.Reads Ev.Runs Ev.Does Ev.Cell

set_option maxHeartbeats 2000000 in
theorem ruint_spec {N : Nat} {H : Heap} {p v : Nat} {l : List Nat} (h : Rd N H p (v :: l)) (hlen : l.length ≤ 9000) :
    Spc Tryz.prog 237 #[.pointer (some ⟨p, 0, none⟩)] H fun r H' => r = .int .u64 v ∧ Kept (· = p) H H' ∧ Rd N H' p l := by
  obtain ⟨bv, hb, hv⟩ := h.blk
  have hv64 := h.all v (by simp)
  have hall : ∀ x ∈ l, x < 18446744073709551616 := fun x hx => h.all x (by simp [hx])
  have htot : (uvs (v :: l)).length ≤ 100000 := by have := uvs_len (v :: l) h.all; simp at this ⊢; omega
  have hbytes : uvs (v :: l) = uv v ++ uvs l := rfl
  obtain ⟨q, c, rfl⟩ := hv.form
  refine spec_of Tryz.func237 rfl Tryz.ntmps237 rfl (fun W => ?_)
  repeat (first | refine codeA (k := ?_) | refine condA (k := ?_) | refine offA (k := ?_) | refine pureA (k := ?_) | refine readA (k := ?_))
  refine At_read (r_load (v := .int .i64 0) rfl rfl (Cell.of hb rfl)) rfl rfl rfl ?_
  repeat (first | refine codeA (k := ?_) | refine condA (k := ?_) | refine offA (k := ?_) | refine pureA (k := ?_) | refine readA (k := ?_))
  refine At_read (r_load (v := .slice q (uvs (v :: l)).length c) rfl rfl (Cell.of hb rfl)) rfl rfl rfl ?_
  repeat (first | refine codeA (k := ?_) | refine condA (k := ?_) | refine offA (k := ?_) | refine pureA (k := ?_) | refine readA (k := ?_))
  refine At_cut (fun (s : Unit) => []) (fun s H' => False) ?_ ?_
  · refine At_block ?_
    refine At_loop (fun (i : Nat) => [(0, .pointer (some ⟨p, 0, none⟩)), (3, .int .u64 (v % 128 ^ i : Nat)), (14, .slice q (uvs (v :: l)).length c), (15, .int .i64 (uvs (v :: l)).length), (16, .int .i64 i)])
      (fun i H' => H' = H ∧ (uvs (v :: l)).drop i = uv (v / 128 ^ i) ++ uvs l ∧ (i = 0 ∨ v / 128 ^ i ≠ 0)) (fun i => 20 - i) 0 ?_ ⟨rfl, by simp [hbytes], .inl rfl⟩ ?_
    · have e0 : v % 128 ^ 0 = 0 := by simp [Nat.mod_one]
      rw [e0]
      (repeat (first | exact Sub.nil | refine Sub.cons rfl ?_))
    rintro i _ ⟨rfl, hd, hz⟩
    rename_i H
    have hi9 : i ≤ 9 := by
      rcases hz with rfl | hz
      · omega
      · rcases Nat.lt_or_ge 9 i with hc | hc
        · exfalso
          apply hz
          apply Nat.div_eq_of_lt
          have : (128 : Nat) ^ 10 ≤ 128 ^ i := Nat.pow_le_pow_right (by decide) hc
          omega
        · exact hc
    generalize hw : v / 128 ^ i = w at hd hz
    have hacc : v % 128 ^ i < 128 ^ i := Nat.mod_lt _ (Nat.pow_pos (by decide))
    have hstep : v % 128 ^ (i + 1) = v % 128 ^ i + 128 ^ i * (w % 128) := by rw [Nat.pow_succ, Nat.mod_mul, hw]
    have hle : 128 ^ i * (w % 128) < 18446744073709551616 := by
      have h1 : 128 ^ i * (w % 128) ≤ v % 128 ^ (i + 1) := by omega
      have h2 := Nat.mod_le v (128 ^ (i + 1))
      omega
    have hpow : (2 : Nat) ^ (7 * i) = 128 ^ i := by rw [Nat.pow_mul]
    have hor : (v % 128 ^ i) ||| ((w % 128) * 2 ^ (7 * i)) = v % 128 ^ (i + 1) := by
      rw [hstep, Nat.or_comm, hpow, Nat.mul_comm (w % 128), ← hpow, ← Nat.two_pow_add_eq_or_of_lt (by rw [hpow]; exact hacc), Nat.add_comm]
    obtain ⟨x, hx, hx1, hx2, hx3⟩ : ∃ x : UInt8, (uvs (v :: l))[i]? = some x ∧ x.toNat % 128 = w % 128 ∧ (127 < x.toNat ↔ 127 < w) ∧ (w ≤ 127 → x.toNat = w) := by
      have e : (uvs (v :: l))[i]? = (uv w ++ uvs l)[0]? := by rw [← hd, List.getElem?_drop]; rfl
      by_cases hs : w ≤ 127
      · refine ⟨UInt8.ofNat w, by rw [e, uv_small hs]; rfl, ?_, ?_, fun _ => ?_⟩ <;> simp <;> omega
      · refine ⟨UInt8.ofNat (w % 128 + 128), by rw [e, uv_big hs]; rfl, ?_, ?_, fun h => absurd h hs⟩ <;> simp <;> omega
    have h255 : x.toNat < 256 := x.toNat_lt
    have hil := (List.getElem?_eq_some_iff.1 hx).1
    obtain ⟨bb, oo, rfl, _, _, hcell⟩ := hv.some (by omega)
    have cx : Cell H bb (oo + i * 1) (.int .u8 x.toNat) := by rw [Nat.mul_one]; exact hcell i x hx
    have hx9 : i = 9 → x.toNat ≤ 1 := fun e => by
      subst e
      have : w ≤ 1 := by rw [← hw]; omega
      rw [hx3 (by omega)]
      exact this
    by_cases hbig : 127 < w
    · have hxb := hx2.2 hbig
      have hi8 : i ≠ 9 := fun e => by have := hx9 e; omega
      repeat (first | refine codeA (k := ?_) | refine condA (k := ?_) | refine offA (k := ?_) | refine pureA (k := ?_) | refine readA (k := ?_) | refine At_block ?_)
      repeat (first | refine codeA (k := ?_) | refine condA (k := ?_) | refine offA (k := ?_) | refine pureA (k := ?_) | refine readA (k := ?_))
      refine At_pure (p_and8 (a := x.toNat) (b := 127) rfl rfl h255 (by decide)) rfl rfl rfl ?_
      refine At_tell 29 (.int .u8 (w % 128 : Nat)) rfl (by rw [and127 _ h255, hx1]) ?_
      refine At_pure (p_convInt rfl) rfl rfl rfl ?_
      refine At_tell 30 (.int .u64 (w % 128 : Nat)) rfl (by rw [IntWalk.u64_in _ (by omega)]) ?_
      repeat (first | refine codeA (k := ?_) | refine condA (k := ?_) | refine offA (k := ?_) | refine pureA (k := ?_) | refine readA (k := ?_))
      refine At_pure (p_mul rfl rfl (by omega)) rfl rfl rfl ?_
      refine At_tell 32 (.int .i64 (7 * i : Nat)) rfl (by congr 1) ?_
      refine At_pure (p_shl64 (a := w % 128) (b := 7 * i) rfl rfl (by omega) (by rw [hpow, Nat.mul_comm]; exact hle)) rfl rfl rfl ?_
      refine At_pure (p_or64 (a := v % 128 ^ i) (b := w % 128 * 2 ^ (7 * i)) rfl rfl (by have := Nat.mod_le v (128 ^ i); omega) (by rw [hpow, Nat.mul_comm]; exact hle)) rfl rfl rfl ?_
      refine At_tell 34 (.int .u64 (v % 128 ^ (i + 1) : Nat)) rfl (by rw [hor]) ?_
      repeat (first | refine codeA (k := ?_) | refine condA (k := ?_) | refine offA (k := ?_) | refine pureA (k := ?_) | refine readA (k := ?_))
      refine At_tell 16 (.int .i64 (i + 1 : Nat)) rfl rfl ?_
      have hw1 : v / 128 ^ (i + 1) = w / 128 := by rw [Nat.pow_succ, ← Nat.div_div_eq_div_mul, hw]
      refine At_back (i + 1) ?_ ⟨rfl, ?_, .inr (by rw [hw1]; omega)⟩ (by omega)
      · (repeat (first | exact Sub.nil | refine Sub.cons rfl ?_))
      · rw [hw1, ← List.drop_drop, hd, uv_big (by omega)]
        rfl
    have hxw := hx3 (by omega)
    have hvv : v % 128 ^ (i + 1) = v := by
      apply Nat.mod_eq_of_lt
      have h1 := Nat.div_add_mod v (128 ^ i)
      rw [hw] at h1
      have h2 : 128 ^ i * w ≤ 128 ^ i * 127 := Nat.mul_le_mul_left _ (by omega)
      rw [Nat.pow_succ]
      omega
    have hdr : (uvs (v :: l)).drop (i + 1) = uvs l := by
      rw [← List.drop_drop, hd, uv_small (by omega)]
      rfl
    have hcase : (i = 9 ∧ x.toNat ≤ 1 ∧ x.toNat ≠ 0) ∨ (i = 0 ∧ x.toNat = 0) ∨ (i ≠ 9 ∧ x.toNat ≠ 0) := by
      have := hx9
      omega
    rcases hcase with ⟨e1, e2, e3⟩ | ⟨e1, e2⟩ | ⟨e1, e2⟩
    all_goals
      repeat (first | refine codeA (k := ?_) | refine condA (k := ?_) | refine offA (k := ?_) | refine pureA (k := ?_) | refine readA (k := ?_) | refine At_block ?_)
      repeat (first | refine codeA (k := ?_) | refine condA (k := ?_) | refine offA (k := ?_) | refine pureA (k := ?_) | refine readA (k := ?_))
      refine At_pure (p_and8 (a := x.toNat) (b := 127) rfl rfl h255 (by decide)) rfl rfl rfl ?_
      refine At_tell 29 (.int .u8 (w % 128 : Nat)) rfl (by rw [and127 _ h255, hx1]) ?_
      refine At_pure (p_convInt rfl) rfl rfl rfl ?_
      refine At_tell 30 (.int .u64 (w % 128 : Nat)) rfl (by rw [IntWalk.u64_in _ (by omega)]) ?_
      repeat (first | refine codeA (k := ?_) | refine condA (k := ?_) | refine offA (k := ?_) | refine pureA (k := ?_) | refine readA (k := ?_))
      refine At_pure (p_mul rfl rfl (by omega)) rfl rfl rfl ?_
      refine At_tell 32 (.int .i64 (7 * i : Nat)) rfl (by congr 1) ?_
      refine At_pure (p_shl64 (a := w % 128) (b := 7 * i) rfl rfl (by omega) (by rw [hpow, Nat.mul_comm]; exact hle)) rfl rfl rfl ?_
      refine At_pure (p_or64 (a := v % 128 ^ i) (b := w % 128 * 2 ^ (7 * i)) rfl rfl (by have := Nat.mod_le v (128 ^ i); omega) (by rw [hpow, Nat.mul_comm]; exact hle)) rfl rfl rfl ?_
      refine At_tell 34 (.int .u64 (v % 128 ^ (i + 1) : Nat)) rfl (by rw [hor]) ?_
      repeat (first | refine codeA (k := ?_) | refine condA (k := ?_) | refine offA (k := ?_) | refine pureA (k := ?_) | refine readA (k := ?_))
      refine At_read (r_load (v := .slice (some ⟨bb, oo, none⟩) (uvs (v :: l)).length c) rfl rfl (Cell.of hb rfl)) rfl rfl rfl ?_
      repeat (first | refine codeA (k := ?_) | refine condA (k := ?_) | refine offA (k := ?_) | refine pureA (k := ?_) | refine readA (k := ?_))
      refine At_tell 49 (.int .i64 (i + 1 : Nat)) rfl rfl ?_
      refine At_wp (W_dropB (i + 1) hv rfl rfl (by omega) (by omega) rfl ?_) rfl
      intro v' hv'
      rw [hdr] at hv'
      repeat (first | refine codeA (k := ?_) | refine condA (k := ?_) | refine offA (k := ?_) | refine pureA (k := ?_) | refine readA (k := ?_))
      refine At_wp (W_store rfl rfl hb hv'.one.1 hv'.one.2 rfl rfl ?_) rfl
      intro H4 p4
      repeat (first | refine codeA (k := ?_) | refine condA (k := ?_) | refine offA (k := ?_) | refine pureA (k := ?_) | refine readA (k := ?_))
      refine At_ret1 rfl rfl ⟨by rw [hvv], p4.kept, h.le, hall, v', p4.at_, hv'.keep p4.kept (fun b hb _ => ⟨fun e => by have := h.le; omega, hb⟩)⟩
  rintro _ _ hf
  exact hf.elim
end Go.Proofs.YtlaobecajieaaaaGreat
/- Reading what was written: numbers, lists, jobs, records, messages. -/
namespace Go.Proofs.YtlaobecajieaaaaGreat
open Go Ev
set_option linter.unusedVariables false
set_option linter.unusedSimpArgs false

/-- a wire's reader in block g, over the pack's in block p -/
structure Rr (N : Nat) (H : Heap) (g p : Nat) (l : List Nat) : Prop where
  blk : H[g]? = some (.cells #[.pointer (some ⟨p, 0, none⟩), .bool false] 234 (0, 0))
  le : N ≤ g
  ne : g ≠ p
  rd : Rd N H p l
theorem Rr.lt {N : Nat} {H : Heap} {g p : Nat} {l : List Nat} (h : Rr N H g p l) : p < H.size := by
  obtain ⟨bv, hb, _⟩ := h.rd.blk
  exact lt_of_heap hb
theorem Rr.keep {N : Nat} {H H' : Heap} {g p : Nat} {l : List Nat} {S : Nat → Prop} (h : Rr N H g p l) (hk : Kept S H H') (h1 : ∀ b, S b → N ≤ b ∧ b ≠ p ∧ b ≠ g) : Rr N H' g p l :=
  ⟨hk.keep h.blk (fun s => (h1 g s).2.2 rfl), h.le, h.ne, h.rd.keep hk (fun b s => ⟨(h1 b s).1, (h1 b s).2.1⟩)⟩
theorem Rr.ext {N : Nat} {H H' : Heap} {g p : Nat} {l : List Nat} (h : Rr N H g p l) (hk : Ext H H') : Rr N H' g p l := h.keep hk (fun _ f => f.elim)
theorem Rr.next {N : Nat} {H H' : Heap} {g p : Nat} {l l' : List Nat} (h : Rr N H g p l) (hk : Kept (· = p) H H') (hr : Rd N H' p l') : Rr N H' g p l' := ⟨hk.keep h.blk h.ne, h.le, h.ne, hr⟩
/-- reading v, with l left -/
def RP (N : Nat) (p : Nat) (l : List Nat) (v : Value) (H : Heap) (r : Value) (H' : Heap) : Prop := r = v ∧ Kept (· = p) H H' ∧ Rd N H' p l
def INR (x : Nat) (row : List Value) : Prop := row = [nv x]
theorem own_vs {H : Heap} {v : Value} {xs : List Nat} {e : TypeId} (h : OwnL H e 1 INR v xs) : Vs nv H v xs := by
  rcases h.form with ⟨rfl, rfl⟩ | ⟨g, c, rfl, h1, h2, h3⟩
  · exact Vs.nil _ _ _
  · refine ⟨_, c, rfl, h2, fun i x hx => ⟨g, 0, rfl, ?_⟩⟩
    obtain ⟨row, hr, hl, hc⟩ := h.cells hx
    rw [show row = [nv x] from hr] at hc
    have := hc 0 _ rfl
    rw [show 0 + i = i * 1 + 0 by omega]
    exact this
theorem Vs.keepS {α : Type} {f : α → Value} {H H' : Heap} {v : Value} {xs : List α} {S : Nat → Prop} (h : Vs f H v xs) (hk : Kept S H H') (hb : ∀ b, v.ownBlock = some b → ¬ S b) : Vs f H' v xs := by
  obtain ⟨p, c, e, hc, h⟩ := h
  refine ⟨p, c, e, hc, fun i x hi => ?_⟩
  obtain ⟨b, o, e2, hcell⟩ := h i x hi
  subst e2
  exact ⟨b, o, rfl, hcell.keep hk (hb b (by rw [e]; rfl))⟩
section
variable {P : Program} {n : Nat} {W : World} {env : Env} {H : Heap} {Q : Exit → Act → World → Prop} {K : Act → World → Prop}
variable {ds : Option Tmp} {ty : TypeId} {pos : String} {af : Array Edge} {gd : Option (Nat × Bool)}
theorem p_add64 {x y : Operand} {t t2 : TypeId} {a b : Nat} (hx : ev env x = some (.int .u64 a)) (hy : ev env y = some (.int .u64 b)) (h : a + b < 18446744073709551616) : Pure P n env ⟨ds, .binOp .add t x y t2, ty, pos, af, gd⟩ (.int .u64 (a + b : Nat)) := by
  have := p_addw (P := P) (n := n) (ds := ds) (ty := ty) (pos := pos) (af := af) (gd := gd) (t := t) (t2 := t2) hx hy
  have e : IntKind.u64.wrap ((a : Int) + b) = ((a + b : Nat) : Int) := by rw [IntWalk.u64_in _ (by omega)]; omega
  rwa [e] at this
end
attribute [local irreducible] Go.wpList Go.bodyPost Go.Code.wp Go.Exit.then Go.Exit.inBlock Go.Exit.noGoto Ev.wpAnyG Go.Oper.wp Ev.Back Ev.Left Ev.Spc Ev.At Ev.Pure Ev.Reads Ev.Runs Ev.Does Ev.Cell

theorem rint_spec {N : Nat} {H : Heap} {p v : Nat} {l : List Nat} (h : Rd N H p (2 * v :: l)) (hlen : l.length ≤ 9000) (hv : v < 4611686018427387904) :
    Spc Tryz.prog 143 #[.pointer (some ⟨p, 0, none⟩)] H fun r H' => RP N p l (.int .i64 v) H r H' := by
  have e1 : 2 * v &&& 1 = 0 := by
    rw [Nat.and_one_is_mod]
    omega
  refine spec_of Tryz.func143 rfl Tryz.ntmps143 rfl (fun W => ?_)
  repeat (first | refine codeA (k := ?_) | refine condA (k := ?_) | refine offA (k := ?_) | refine pureA (k := ?_) | refine readA (k := ?_))
  refine At_wp (W_call rfl rfl (ruint_spec h hlen) rfl rfl ?_) rfl
  rintro _ H1 ⟨rfl, hk, hr⟩
  repeat (first | refine codeA (k := ?_) | refine condA (k := ?_) | refine offA (k := ?_) | refine pureA (k := ?_) | refine readA (k := ?_))
  refine At_pure (p_and64 (a := 2 * v) (b := 1) rfl rfl (by omega) (by decide)) rfl rfl rfl ?_
  refine At_tell 7 (.int .u64 0) rfl (by rw [e1]; rfl) ?_
  repeat (first | refine codeA (k := ?_) | refine condA (k := ?_) | refine offA (k := ?_) | refine pureA (k := ?_) | refine readA (k := ?_))
  refine At_pure (p_shr64 (b := 1) rfl rfl (by decide)) rfl rfl rfl ?_
  refine At_tell 10 (.int .u64 (v : Nat)) rfl (by congr 2; omega) ?_
  refine At_pure (p_convInt rfl) rfl rfl rfl ?_
  refine At_tell 11 (.int .i64 (v : Nat)) rfl (by rw [IntWalk.i64_in _ (by omega)]) ?_
  repeat (first | refine codeA (k := ?_) | refine condA (k := ?_) | refine offA (k := ?_) | refine pureA (k := ?_) | refine readA (k := ?_))
  exact At_ret1 rfl rfl ⟨rfl, hk, hr⟩
theorem rmark_spec {N : Nat} {H : Heap} {p : Nat} {b : Bool} {l : List Nat} (h : Rd N H p (bt b :: l)) (hlen : l.length ≤ 9000) :
    Spc Tryz.prog 145 #[.pointer (some ⟨p, 0, none⟩)] H fun r H' => RP N p l (.bool b) H r H' := by
  refine spec_of Tryz.func145 rfl Tryz.ntmps145 rfl (fun W => ?_)
  repeat (first | refine codeA (k := ?_) | refine condA (k := ?_) | refine offA (k := ?_) | refine pureA (k := ?_) | refine readA (k := ?_))
  refine At_wp (W_call rfl rfl (ruint_spec h hlen) rfl rfl ?_) rfl
  rintro _ H1 ⟨rfl, hk, hr⟩
  cases b
  · refine At_tell 5 (.int .u64 0) rfl rfl ?_
    repeat (first | refine codeA (k := ?_) | refine condA (k := ?_) | refine offA (k := ?_) | refine pureA (k := ?_) | refine readA (k := ?_))
    exact At_ret1 rfl rfl ⟨rfl, hk, hr⟩
  · refine At_tell 5 (.int .u64 1) rfl rfl ?_
    repeat (first | refine codeA (k := ?_) | refine condA (k := ?_) | refine offA (k := ?_) | refine pureA (k := ?_) | refine readA (k := ?_))
    exact At_ret1 rfl rfl ⟨rfl, hk, hr⟩
theorem fl_fw (k : Nat) (hk : k ≤ 2) : fl (k : Int) = fw k := by
  have h : k = 0 ∨ k = 1 ∨ k = 2 := by omega
  rcases h with rfl | rfl | rfl
  · show fl 0 = 0; kernel_rfl
  · show fl 1 = 4607182418800017408; kernel_rfl
  · show fl 2 = 4611686018427387904; kernel_rfl
theorem make_spec (k : Nat) (hk : k ≤ 2) (H : Heap) : Spc Tryz.prog 238 #[.int .i64 k, .int .i64 0] H fun r H' => H = H' ∧ r = .tuple #[amt k, .int .i64 0] := by
  have h0 : fl 0 = 0 := fl_fw 0 (by decide)
  refine spec_of Tryz.func238 rfl Tryz.ntmps238 rfl (fun W => ?_)
  repeat (first | refine codeA (k := ?_) | refine condA (k := ?_) | refine offA (k := ?_) | refine pureA (k := ?_) | refine readA (k := ?_))
  refine At_pure (p_convFloat Tryz.underlying95 rfl) rfl rfl rfl ?_
  repeat (first | refine codeA (k := ?_) | refine condA (k := ?_) | refine offA (k := ?_) | refine pureA (k := ?_) | refine readA (k := ?_))
  refine At_pure (p_convFloat Tryz.underlying95 rfl) rfl rfl rfl ?_
  rw [fl_fw k hk, h0]
  refine At_pure (p_complex rfl rfl) rfl rfl rfl ?_
  repeat (first | refine codeA (k := ?_) | refine condA (k := ?_) | refine offA (k := ?_) | refine pureA (k := ?_) | refine readA (k := ?_))
  exact At_ret2 rfl rfl rfl ⟨rfl, rfl⟩
theorem ramount_spec {N : Nat} {H : Heap} {p k : Nat} {l : List Nat} (h : Rd N H p (k :: 0 :: l)) (hlen : l.length ≤ 8999) (hk : k ≤ 2) :
    Spc Tryz.prog 144 #[.pointer (some ⟨p, 0, none⟩)] H fun r H' => RP N p l (amt k) H r H' := by
  refine spec_of Tryz.func144 rfl Tryz.ntmps144 rfl (fun W => ?_)
  repeat (first | refine codeA (k := ?_) | refine condA (k := ?_) | refine offA (k := ?_) | refine pureA (k := ?_) | refine readA (k := ?_))
  refine At_wp (W_call rfl rfl (ruint_spec h (by simp; omega)) rfl rfl ?_) rfl
  rintro _ H1 ⟨rfl, hk1, hr⟩
  repeat (first | refine codeA (k := ?_) | refine condA (k := ?_) | refine offA (k := ?_) | refine pureA (k := ?_) | refine readA (k := ?_))
  refine At_wp (W_call rfl rfl (ruint_spec hr (by omega)) rfl rfl ?_) rfl
  rintro _ H2 ⟨rfl, hk2, hr⟩
  obtain ⟨bv, hb, _⟩ := hr.blk
  repeat (first | refine codeA (k := ?_) | refine condA (k := ?_) | refine offA (k := ?_) | refine pureA (k := ?_) | refine readA (k := ?_))
  refine At_read (r_load (v := .int .i64 0) rfl rfl (Cell.of hb rfl)) rfl rfl rfl ?_
  repeat (first | refine codeA (k := ?_) | refine condA (k := ?_) | refine offA (k := ?_) | refine pureA (k := ?_) | refine readA (k := ?_))
  refine At_pure (p_convInt rfl) rfl rfl rfl ?_
  refine At_tell 27 (.int .i64 (k : Nat)) rfl (by rw [IntWalk.i64_in _ (by omega)]) ?_
  repeat (first | refine codeA (k := ?_) | refine condA (k := ?_) | refine offA (k := ?_) | refine pureA (k := ?_) | refine readA (k := ?_))
  refine At_pure (p_convInt rfl) rfl rfl rfl ?_
  refine At_tell 29 (.int .i64 0) rfl (by rw [IntWalk.i64_in _ (by omega)]; rfl) ?_
  refine At_wp (W_call rfl rfl (make_spec k hk H2) rfl rfl ?_) rfl
  rintro _ _ ⟨rfl, rfl⟩
  repeat (first | refine codeA (k := ?_) | refine condA (k := ?_) | refine offA (k := ?_) | refine pureA (k := ?_) | refine readA (k := ?_))
  exact At_ret1 rfl rfl ⟨rfl, Kept.trans hk1 hk2 (fun _ s _ => s) (fun _ s _ => s), hr⟩
theorem rdone_spec {N : Nat} {H : Heap} {p : Nat} (h : Rd N H p []) : Spc Tryz.prog 142 #[.pointer (some ⟨p, 0, none⟩)] H fun r H' => H = H' ∧ r = .int .i64 0 := by
  obtain ⟨bv, hb, hv⟩ := h.blk
  obtain ⟨q, c, rfl⟩ := hv.form
  have e0 : (uvs []).length = 0 := rfl
  refine spec_of Tryz.func142 rfl Tryz.ntmps142 rfl (fun W => ?_)
  repeat (first | refine codeA (k := ?_) | refine condA (k := ?_) | refine offA (k := ?_) | refine pureA (k := ?_) | refine readA (k := ?_))
  refine At_read (r_load (v := .int .i64 0) rfl rfl (Cell.of hb rfl)) rfl rfl rfl ?_
  repeat (first | refine codeA (k := ?_) | refine condA (k := ?_) | refine offA (k := ?_) | refine pureA (k := ?_) | refine readA (k := ?_))
  refine At_read (r_load (v := .slice q (uvs []).length c) rfl rfl (Cell.of hb rfl)) rfl rfl rfl ?_
  repeat (first | refine codeA (k := ?_) | refine condA (k := ?_) | refine offA (k := ?_) | refine pureA (k := ?_) | refine readA (k := ?_))
  refine At_read (r_load (v := .int .i64 0) rfl rfl (Cell.of hb rfl)) rfl rfl rfl ?_
  repeat (first | refine codeA (k := ?_) | refine condA (k := ?_) | refine offA (k := ?_) | refine pureA (k := ?_) | refine readA (k := ?_))
  exact At_ret1 rfl rfl ⟨rfl, rfl⟩
/-- a list of numbers read: in new memory -/
def RL (N : Nat) (p : Nat) (l : List Nat) (xs : List Nat) (H : Heap) (r : Value) (H' : Heap) : Prop := Kept (· = p) H H' ∧ Rd N H' p l ∧ Vs nv H' r xs ∧ ∀ b, r.ownBlock = some b → H.size ≤ b
set_option maxHeartbeats 2000000 in
theorem rmany_int_spec {N : Nat} {H : Heap} {g p : Nat} (xs : List Nat) {l : List Nat} (h : Rr N H g p (xs.length :: (xs.map (2 * ·) ++ l))) (h8 : xs.length ≤ 8) (hx : ∀ x ∈ xs, x < 4611686018427387904) (hlen : l.length ≤ 8900) :
    Spc Tryz.prog 239 #[.pointer (some ⟨g, 0, none⟩), .int .i64 8, .func (.func 143) #[.pointer (some ⟨p, 0, none⟩)] #[]] H fun r H' => RL N p l xs H r H' := by
  have hpl := h.lt
  refine spec_of Tryz.func239 rfl Tryz.ntmps239 rfl (fun W => ?_)
  repeat (first | refine codeA (k := ?_) | refine condA (k := ?_) | refine offA (k := ?_) | refine pureA (k := ?_) | refine readA (k := ?_))
  refine At_read (r_load (v := .pointer (some ⟨p, 0, none⟩)) rfl rfl (Cell.of h.blk rfl)) rfl rfl rfl ?_
  refine At_wp (W_call rfl rfl (ruint_spec h.rd (by simp; omega)) rfl rfl ?_) rfl
  rintro _ H1 ⟨rfl, hk1, hr⟩
  repeat (first | refine codeA (k := ?_) | refine condA (k := ?_) | refine offA (k := ?_) | refine pureA (k := ?_) | refine readA (k := ?_))
  refine At_pure (p_convInt rfl) rfl rfl rfl ?_
  refine At_tell 16 (.int .u64 8) rfl (by rw [IntWalk.u64_in _ (by omega)]) ?_
  repeat (first | refine codeA (k := ?_) | refine condA (k := ?_) | refine offA (k := ?_) | refine pureA (k := ?_) | refine readA (k := ?_))
  refine At_cut (fun (s : Value) => [(8, s)]) (fun s H' => RL N p l xs H s H') ?_ ?_
  · refine At_block ?_
    refine At_loop (fun (s : Value × Nat) => [(2, .func (.func 143) #[.pointer (some ⟨p, 0, none⟩)] #[]), (8, s.1), (21, .int .u64 (xs.length : Nat)), (22, .int .u64 (s.2 : Nat))])
      (fun s H' => Kept (· = p) H H' ∧ s.2 ≤ xs.length ∧ Rd N H' p ((xs.drop s.2).map (2 * ·) ++ l) ∧ OwnL H' 3 1 INR s.1 (xs.take s.2) ∧ ∀ b, s.1.ownBlock = some b → H.size ≤ b) (fun s => xs.length - s.2) (.slice none 0 0, 0) ?_ ⟨hk1, Nat.zero_le _, hr, OwnL.nil _ _ _ _, fun b e => by cases e⟩ ?_
    · (repeat (first | exact Sub.nil | refine Sub.cons rfl ?_))
    rintro ⟨s, i⟩ H2 ⟨hk2, hi, hr, own, hnew⟩
    dsimp only at hi hr own hnew
    show At _ W [(2, .func (.func 143) #[.pointer (some ⟨p, 0, none⟩)] #[]), (8, s), (21, .int .u64 (xs.length : Nat)), (22, .int .u64 (i : Nat))] H2 _
    by_cases hil : i < xs.length
    rotate_left
    · obtain rfl : i = xs.length := by omega
      rw [List.take_length] at own
      repeat (first | refine codeA (k := ?_) | refine condA (k := ?_) | refine offA (k := ?_) | refine pureA (k := ?_) | refine readA (k := ?_))
      refine At_meet (E := fun (s : Value) => [(8, s)]) (J := fun s H' => RL N p l xs H s H') s ?_ ⟨hk2, by simpa using hr, own_vs own, hnew⟩
      (repeat (first | exact Sub.nil | refine Sub.cons rfl ?_))
    have hxi : xs[i]? = some xs[i] := by simp [hil]
    have hxl : xs[i] < 4611686018427387904 := hx _ (List.getElem_mem _)
    have htk : xs.take (i + 1) = xs.take i ++ [xs[i]] := by rw [List.take_add_one, hxi]; rfl
    have hdr : xs.drop i = xs[i] :: xs.drop (i + 1) := List.drop_eq_getElem_cons hil
    generalize xs[i] = x at hxi hxl htk hdr
    rw [hdr] at hr
    have hlt : ∀ b, s.ownBlock = some b → b < H2.size := fun b e => by
      rcases own.form with ⟨rfl, _⟩ | ⟨gg, c, rfl, hl, _⟩
      · cases e
      · simp only [Value.ownBlock, Option.some.injEq] at e; omega
    have s02 := hk2.size
    repeat (first | refine codeA (k := ?_) | refine condA (k := ?_) | refine offA (k := ?_) | refine pureA (k := ?_) | refine readA (k := ?_) | refine At_block ?_)
    refine At_wp (W_call_bound (first := [.pointer (some ⟨p, 0, none⟩)]) (cap := []) (vs := []) rfl rfl rfl (rint_spec (v := x) hr (by simp; omega) hxl) rfl rfl ?_) rfl
    rintro _ H3 ⟨rfl, hk3, hr⟩
    have own3 := own.keep hk3 (fun b e e2 => by have := hnew b e; omega) (fun _ _ _ r => r)
    have s23 := hk3.size
    refine At_wp (W_buildSlice1 rfl rfl rfl (by decide) rfl ?_) rfl
    intro g4 H4 n4
    have s34 := n4.size
    have own4 := own3.keep n4.ext (fun _ _ f => f) (fun _ _ _ r => r)
    refine At_wp (W_append1 (R := INR) (row := [nv x]) (a := x) (fun _ => INR) rfl rfl own4 n4.at_ rfl rfl rfl (fun u hu => by rw [List.mem_singleton.1 hu]; rfl) rfl (by decide) (by simp; omega) (by decide) rfl (fun _ _ _ _ _ _ _ r => r) ?_) rfl
    intro g5 c5 H5 own5 hk5 hg5
    have hr5 : Rd N H5 p ((xs.drop (i + 1)).map (2 * ·) ++ l) := (hr.keep n4.ext (fun _ f => f.elim)).keep hk5 (fun b e => ⟨by have := hnew b e; have := hr.le; omega, fun e2 => by have := hnew b e; omega⟩)
    have hk15 : Kept (· = p) H H5 := by
      have a1 : Kept (· = p) H H3 := Kept.trans hk2 hk3 (fun _ s _ => s) (fun _ s _ => s)
      exact Kept.trans (a1.then_ext n4.ext) hk5 (fun _ s _ => s) (fun b e hb => by have := hnew b e; omega)
    repeat (first | refine codeA (k := ?_) | refine condA (k := ?_) | refine offA (k := ?_) | refine pureA (k := ?_) | refine readA (k := ?_))
    refine At_pure (p_add64 (a := i) (b := 1) rfl rfl (by omega)) rfl rfl rfl ?_
    repeat (first | refine codeA (k := ?_) | refine condA (k := ?_) | refine offA (k := ?_) | refine pureA (k := ?_) | refine readA (k := ?_))
    refine At_back (.slice (some ⟨g5, 0, none⟩) ((xs.take i).length + 1) c5, i + 1) ?_ ⟨hk15, hil, hr5, by rw [htk]; exact own5, fun b e => ?_⟩ (by dsimp only; omega)
    · (repeat (first | exact Sub.nil | refine Sub.cons rfl ?_))
    · simp only [Value.ownBlock, Option.some.injEq] at e
      subst e
      rcases hg5 with e | e
      · exact hnew _ e
      · omega
  intro s H2 hres
  repeat (first | refine codeA (k := ?_) | refine condA (k := ?_) | refine offA (k := ?_) | refine pureA (k := ?_) | refine readA (k := ?_))
  exact At_ret1 rfl rfl hres
theorem rmany_span0_spec {N : Nat} {H : Heap} {g p : Nat} {l : List Nat} {fv : Value} (h : Rr N H g p (0 :: l)) (hlen : l.length ≤ 8900) :
    Spc Tryz.prog 159 #[.pointer (some ⟨g, 0, none⟩), .int .i64 8, fv] H fun r H' => RP N p l (.slice none 0 0) H r H' := by
  refine spec_of Tryz.func159 rfl Tryz.ntmps159 rfl (fun W => ?_)
  repeat (first | refine codeA (k := ?_) | refine condA (k := ?_) | refine offA (k := ?_) | refine pureA (k := ?_) | refine readA (k := ?_))
  refine At_read (r_load (v := .pointer (some ⟨p, 0, none⟩)) rfl rfl (Cell.of h.blk rfl)) rfl rfl rfl ?_
  refine At_wp (W_call rfl rfl (ruint_spec h.rd (by omega)) rfl rfl ?_) rfl
  rintro _ H1 ⟨rfl, hk1, hr⟩
  repeat (first | refine codeA (k := ?_) | refine condA (k := ?_) | refine offA (k := ?_) | refine pureA (k := ?_) | refine readA (k := ?_))
  refine At_pure (p_convInt rfl) rfl rfl rfl ?_
  refine At_tell 16 (.int .u64 8) rfl (by rw [IntWalk.u64_in _ (by omega)]) ?_
  repeat (first | refine codeA (k := ?_) | refine condA (k := ?_) | refine offA (k := ?_) | refine pureA (k := ?_) | refine readA (k := ?_))
  refine At_cut (fun (s : Unit) => [(8, .slice none 0 0)]) (fun s H' => H' = H1) ?_ ?_
  · refine At_block ?_
    refine At_loop (fun (s : Unit) => [(8, .slice none 0 0), (21, .int .u64 (0 : Nat)), (22, .int .u64 0)]) (fun s H' => H' = H1) (fun s => 0) () ?_ rfl ?_
    · (repeat (first | exact Sub.nil | refine Sub.cons rfl ?_))
    rintro _ _ rfl
    rename_i H1
    repeat (first | refine codeA (k := ?_) | refine condA (k := ?_) | refine offA (k := ?_) | refine pureA (k := ?_) | refine readA (k := ?_))
    refine At_meet (E := fun (s : Unit) => _) (J := fun s H' => H' = H1) () ?_ rfl
    (repeat (first | exact Sub.nil | refine Sub.cons rfl ?_))
  rintro _ _ rfl
  repeat (first | refine codeA (k := ?_) | refine condA (k := ?_) | refine offA (k := ?_) | refine pureA (k := ?_) | refine readA (k := ?_))
  exact At_ret1 rfl rfl ⟨rfl, hk1, hr⟩
theorem rmany_slot0_spec {N : Nat} {H : Heap} {g p : Nat} {l : List Nat} {fv : Value} (h : Rr N H g p (0 :: l)) (hlen : l.length ≤ 8900) :
    Spc Tryz.prog 152 #[.pointer (some ⟨g, 0, none⟩), .int .i64 256, fv] H fun r H' => RP N p l (.slice none 0 0) H r H' := by
  refine spec_of Tryz.func152 rfl Tryz.ntmps152 rfl (fun W => ?_)
  repeat (first | refine codeA (k := ?_) | refine condA (k := ?_) | refine offA (k := ?_) | refine pureA (k := ?_) | refine readA (k := ?_))
  refine At_read (r_load (v := .pointer (some ⟨p, 0, none⟩)) rfl rfl (Cell.of h.blk rfl)) rfl rfl rfl ?_
  refine At_wp (W_call rfl rfl (ruint_spec h.rd (by omega)) rfl rfl ?_) rfl
  rintro _ H1 ⟨rfl, hk1, hr⟩
  repeat (first | refine codeA (k := ?_) | refine condA (k := ?_) | refine offA (k := ?_) | refine pureA (k := ?_) | refine readA (k := ?_))
  refine At_pure (p_convInt rfl) rfl rfl rfl ?_
  refine At_tell 16 (.int .u64 256) rfl (by rw [IntWalk.u64_in _ (by omega)]) ?_
  repeat (first | refine codeA (k := ?_) | refine condA (k := ?_) | refine offA (k := ?_) | refine pureA (k := ?_) | refine readA (k := ?_))
  refine At_cut (fun (s : Unit) => [(8, .slice none 0 0)]) (fun s H' => H' = H1) ?_ ?_
  · refine At_block ?_
    refine At_loop (fun (s : Unit) => [(8, .slice none 0 0), (21, .int .u64 (0 : Nat)), (22, .int .u64 0)]) (fun s H' => H' = H1) (fun s => 0) () ?_ rfl ?_
    · (repeat (first | exact Sub.nil | refine Sub.cons rfl ?_))
    rintro _ _ rfl
    rename_i H1
    repeat (first | refine codeA (k := ?_) | refine condA (k := ?_) | refine offA (k := ?_) | refine pureA (k := ?_) | refine readA (k := ?_))
    refine At_meet (E := fun (s : Unit) => _) (J := fun s H' => H' = H1) () ?_ rfl
    (repeat (first | exact Sub.nil | refine Sub.cons rfl ?_))
  rintro _ _ rfl
  repeat (first | refine codeA (k := ?_) | refine condA (k := ?_) | refine offA (k := ?_) | refine pureA (k := ?_) | refine readA (k := ?_))
  exact At_ret1 rfl rfl ⟨rfl, hk1, hr⟩
end Go.Proofs.YtlaobecajieaaaaGreat

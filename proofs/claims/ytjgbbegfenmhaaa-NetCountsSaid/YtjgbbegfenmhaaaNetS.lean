/- The walk of NetExact. -/
import Derived.Test.YtjgbbegfenmhaaaNetR
namespace Go.Proofs.Ytjgbbegfenmhaaa
open Go Ev
set_option linter.unusedVariables false
set_option linter.unusedSimpArgs false
attribute [local irreducible] Go.wpList Go.bodyPost Go.Code.wp Go.Exit.then Go.Exit.inBlock Go.Exit.noGoto Ev.wpAnyG Go.Oper.wp Ev.Back Ev.Left Ev.Spc Ev.At Ev.Pure Ev.Reads Ev.Runs Ev.Does Ev.Cell

theorem heavy_spec {H : Heap} {v : Value} {acts : List Ac} (hs : SliceAt (fun _ => True) H 10 (ARow (fun _ => True) H) v acts) :
    Spc Try.prog 15 #[v] H fun r H' => H' = H ∧ ∃ hv : Bool, r = .bool hv ∧ (hv = false → acts.length ≤ 1000 ∧ ∀ i k, i < 80 → acts[i]? = some k → k.f.body.length ≤ 1000) := by
  have hlen := hs.len_le
  simp only [maxLen] at hlen
  obtain ⟨q, c, rfl⟩ := hs.form
  refine spec_of Try.func15 rfl Try.ntmps15 rfl (fun W => ?_)
  by_cases h1 : acts.length > 1000
  · repeat (first | refine codeA (k := ?_) | refine condA (k := ?_) | refine offA (k := ?_) | refine pureA (k := ?_) | refine readA (k := ?_))
    exact At_ret1 rfl rfl ⟨rfl, true, rfl, fun e => by cases e⟩
  repeat (first | refine codeA (k := ?_) | refine condA (k := ?_) | refine offA (k := ?_) | refine pureA (k := ?_) | refine readA (k := ?_) | refine At_block ?_)
  refine At_loop (fun (s : Nat) => [(0, .slice q acts.length c), (3, .int .i64 s)]) (fun s H' => H' = H ∧ s ≤ acts.length ∧ s ≤ 80 ∧ ∀ i k, i < s → acts[i]? = some k → k.f.body.length ≤ 1000) (fun s => acts.length - s) 0 ?_ ⟨rfl, Nat.zero_le _, Nat.zero_le _, fun i k h => by omega⟩ ?_
  · (repeat (first | exact Sub.nil | refine Sub.cons rfl ?_))
  rintro i H1 ⟨rfl, hi, hi8, hall⟩
  by_cases hil : i < acts.length
  rotate_left
  · repeat (first | refine codeA (k := ?_) | refine condA (k := ?_) | refine offA (k := ?_) | refine pureA (k := ?_) | refine readA (k := ?_))
    exact At_ret1 rfl rfl ⟨rfl, false, rfl, fun _ => ⟨by omega, fun j k _ hk => hall j k (by have := (List.getElem?_eq_some_iff.1 hk).1; omega) hk⟩⟩
  by_cases hi80 : i < 80
  rotate_left
  · repeat (first | refine codeA (k := ?_) | refine condA (k := ?_) | refine offA (k := ?_) | refine pureA (k := ?_) | refine readA (k := ?_))
    exact At_ret1 rfl rfl ⟨rfl, false, rfl, fun _ => ⟨by omega, fun j k hj hk => hall j k (by omega) hk⟩⟩
  have hx : acts[i]? = some acts[i] := by simp [hil]
  generalize acts[i] = k at hx
  obtain ⟨bb, o, row, hq, _, hbb, ⟨bv, e1, e2⟩, e3, e4⟩ := hs.at_ hx
  subst hq
  subst e1
  obtain ⟨pb, pc, rfl⟩ := e2.form
  have x6 : Cell H1 bb (o + i * 10 + 3 + 6) (.slice pb k.f.body.length pc) := e4 9 _ rfl
  repeat (first | refine codeA (k := ?_) | refine condA (k := ?_) | refine offA (k := ?_) | refine pureA (k := ?_) | refine readA (k := ?_) | refine At_block ?_)
  by_cases hbl : k.f.body.length > 1000
  · repeat (first | refine codeA (k := ?_) | refine condA (k := ?_) | refine offA (k := ?_) | refine pureA (k := ?_) | refine readA (k := ?_))
    exact At_ret1 rfl rfl ⟨rfl, true, rfl, fun e => by cases e⟩
  repeat (first | refine codeA (k := ?_) | refine condA (k := ?_) | refine offA (k := ?_) | refine pureA (k := ?_) | refine readA (k := ?_))
  refine At_back (i + 1) ?_ ⟨rfl, by omega, by omega, fun j x hj hx' => ?_⟩ (by omega)
  · (repeat (first | exact Sub.nil | refine Sub.cons rfl ?_))
  · by_cases e : j = i
    · subst e
      rw [hx] at hx'
      obtain rfl : k = x := by simpa using hx'
      omega
    · exact hall j x (by omega) hx'

theorem do_spec {H0 H : Heap} {T : Nat → Nat} {p q : Nat} {vr lv cv bv : Value} {n : Int} {row : List Fr} {cuts : List (Int × Int)} {k : Ac} (h : JJ H0 T p q vr lv cv n row cuts H) (hn : n ≤ 64) (hl : row.length ≤ 1000) (hc : cuts.length ≤ 1000) (hb : BytesAt (fun b => b < H0.size) H bv k.f.body) (hbl : k.f.body.length ≤ 1000) :
    Spc Try.prog 16 #[.pointer (some ⟨p, 0, none⟩), .pointer (some ⟨q, 0, none⟩), .agg (acCells k bv).toArray] H fun r H' => r = .bool true ∧ Nxt H0 p q n row.length cuts.length H' := by
  by_cases h3 : IntKind.u64.wrap k.doo % 8 = 3
  · exact do_carry h hn hl hc hb h3
  by_cases h4 : IntKind.u64.wrap k.doo % 8 = 4
  · exact do_lose h hl hc hb h4
  by_cases h5 : IntKind.u64.wrap k.doo % 8 = 5
  · exact do_twice h hl hc hb h5
  by_cases h6 : IntKind.u64.wrap k.doo % 8 = 6
  · exact do_cut h hn hl hc hb (.inl h6)
  by_cases h7 : IntKind.u64.wrap k.doo % 8 = 7
  · exact do_cut h hn hl hc hb (.inr h7)
  exact do_put h hl hc hb hbl ⟨h3, h4, h5, h6, h7⟩

theorem J.start {H H1 H2 : Heap} {p q : Nat} {n : Int} (hx1 : Ext H H1) (hp : p = H.size) (hp1 : p < H1.size) (hD : ∀ D : Nat → Prop, (∀ i, D i → i ≠ p) → NetD D H1 p (.slice none 0 0) ⟨n, [], fun _ _ => false⟩)
    (hn : New H1 H2 q (.cells #[.int .i64 n, .slice none 0 0, .slice none 0 0] 46 (0, 0))) : JJ H (fun b => if b = p then 1 else if b = q then 4 else 0) p q (.slice none 0 0) (.slice none 0 0) (.slice none 0 0) n [] [] H2 := by
  have hq := hn.blk
  have hs := hn.size
  have hs1 := hx1.size
  have hqp : q ≠ p := by omega
  have tp : ∀ b, (if b = p then 1 else if b = q then 4 else 0) = 3 → False := fun b e => by
    split at e
    · cases e
    · split at e <;> cases e
  have tq : ∀ b, (if b = p then 1 else if b = q then 4 else 0) = 7 → False := fun b e => by
    split at e
    · cases e
    · split at e <;> cases e
  refine ⟨⟨?_, ?_, hx1.trans hn.ext, if_pos rfl, by simp only [if_neg hqp, if_pos], (fun g e => by cases e), (fun g e => by cases e), (fun g e => by cases e), fun b hb => ?_, fun b hb => ?_⟩, fun f hf => by simp at hf⟩
  · exact (hD _ (fun i hi => (tp i hi).elim)).ext hn.ext
  · exact ⟨hn.at_, OwnL.nil _ _ _ _, OwnL.nil _ _ _ _, (fun e => by cases e), (fun e => by cases e), (fun g e => by cases e), fun b hb => (tq b hb).elim⟩
  · simp only [if_neg (show ¬ b = p by omega), if_neg (show ¬ b = q by omega)]
  · simp only [if_neg (show ¬ b = p by omega), if_neg (show ¬ b = q by omega)]

def Inv (H0 : Heap) (p q : Nat) (n : Int) (i : Nat) (H' : Heap) : Prop := ∃ T vr lv cv row cuts, JJ H0 T p q vr lv cv n row cuts H' ∧ row.length ≤ i ∧ cuts.length ≤ i
set_option maxHeartbeats 4000000 in
theorem netExact_walk {H : Heap} {v : Value} {n : Int} {acts : List Ac} (hs : SliceAt (fun _ => True) H 10 (ARow (fun _ => True) H) v acts) :
    Spc Try.prog 5 #[.int .i64 n, v] H fun r H' => Ext H H' ∧ r = .bool true := by
  have hlen := hs.len_le
  simp only [maxLen] at hlen
  obtain ⟨qa, c, rfl⟩ := hs.form
  refine spec_of Try.func5 rfl Try.ntmps5 rfl (fun W => ?_)
  repeat (first | refine codeA (k := ?_) | refine condA (k := ?_) | refine offA (k := ?_) | refine pureA (k := ?_) | refine readA (k := ?_))
  refine At_wp (W_call rfl rfl (heavy_spec hs) rfl rfl ?_) rfl
  rintro _ _ ⟨rfl, hv, rfl, hh⟩
  cases hv
  rotate_left
  · repeat (first | refine codeA (k := ?_) | refine condA (k := ?_) | refine offA (k := ?_) | refine pureA (k := ?_) | refine readA (k := ?_))
    exact At_ret1 rfl rfl ⟨Kept.refl _ _, rfl⟩
  obtain ⟨hal, hbody⟩ := hh rfl
  repeat (first | refine codeA (k := ?_) | refine condA (k := ?_) | refine offA (k := ?_) | refine pureA (k := ?_) | refine readA (k := ?_))
  by_cases hn1 : n < 1
  · refine At_wp (W_call rfl rfl (new_err n _ (.inl hn1)) rfl rfl ?_) rfl
    rintro _ _ ⟨rfl, rfl⟩
    repeat (first | refine codeA (k := ?_) | refine condA (k := ?_) | refine offA (k := ?_) | refine pureA (k := ?_) | refine readA (k := ?_))
    refine At_wp (W_call rfl rfl (wakes_spec _) rfl rfl ?_) rfl
    rintro _ H5 ⟨hx5, rfl⟩
    repeat (first | refine codeA (k := ?_) | refine condA (k := ?_) | refine offA (k := ?_) | refine pureA (k := ?_) | refine readA (k := ?_))
    exact At_ret1 rfl rfl ⟨hx5, rfl⟩
  by_cases hn2 : 64 < n
  · refine At_wp (W_call rfl rfl (new_err n _ (.inr hn2)) rfl rfl ?_) rfl
    rintro _ _ ⟨rfl, rfl⟩
    repeat (first | refine codeA (k := ?_) | refine condA (k := ?_) | refine offA (k := ?_) | refine pureA (k := ?_) | refine readA (k := ?_))
    refine At_wp (W_call rfl rfl (wakes_spec _) rfl rfl ?_) rfl
    rintro _ H5 ⟨hx5, rfl⟩
    repeat (first | refine codeA (k := ?_) | refine condA (k := ?_) | refine offA (k := ?_) | refine pureA (k := ?_) | refine readA (k := ?_))
    exact At_ret1 rfl rfl ⟨hx5, rfl⟩
  refine At_wp (W_call rfl rfl (new_spec n _ (by omega) (by omega)) rfl rfl ?_) rfl
  rename_i H
  rintro _ H1 ⟨p, rfl, hp, hx1, hD1⟩
  have hpl : p < H1.size := (hD1 (fun _ => False) (fun _ f => f.elim)).lt
  repeat (first | refine codeA (k := ?_) | refine condA (k := ?_) | refine offA (k := ?_) | refine pureA (k := ?_) | refine readA (k := ?_))
  refine At_pure (p_build [.int .i64 n, .slice none 0 0, .slice none 0 0] rfl rfl) rfl rfl rfl ?_
  refine At_wp (W_box (cs := #[.int .i64 n, .slice none 0 0, .slice none 0 0]) rfl rfl rfl ?_) rfl
  intro q H2 hnq
  have st := J.start hx1 hp hpl hD1 hnq
  repeat (first | refine codeA (k := ?_) | refine condA (k := ?_) | refine offA (k := ?_) | refine pureA (k := ?_) | refine readA (k := ?_))
  refine At_cut (fun (s : Nat) => [(5, .pointer (some ⟨p, 0, none⟩)), (7, .pointer (some ⟨q, 0, none⟩))]) (fun s H' => Inv H p q n 80 H') ?_ ?_
  · refine At_block ?_
    refine At_loop (fun (s : Nat) => [(1, .slice qa acts.length c), (5, .pointer (some ⟨p, 0, none⟩)), (7, .pointer (some ⟨q, 0, none⟩)), (8, .int .i64 s)]) (fun s H' => s ≤ acts.length ∧ s ≤ 80 ∧ Inv H p q n s H') (fun s => acts.length - s) 0 ?_ ⟨Nat.zero_le _, Nat.zero_le _, _, _, _, _, _, _, st, Nat.le_refl _, Nat.le_refl _⟩ ?_
    · (repeat (first | exact Sub.nil | refine Sub.cons rfl ?_))
    rintro i H3 ⟨hi, hi8, T, vr, lv, cv, row, cuts, jj, hrl, hcl⟩
    by_cases hil : i < acts.length
    rotate_left
    · repeat (first | refine codeA (k := ?_) | refine condA (k := ?_) | refine offA (k := ?_) | refine pureA (k := ?_) | refine readA (k := ?_))
      refine At_meet (E := fun (s : Nat) => [(5, .pointer (some ⟨p, 0, none⟩)), (7, .pointer (some ⟨q, 0, none⟩))]) (J := fun s H' => Inv H p q n 80 H') 0 ?_ ⟨T, vr, lv, cv, row, cuts, jj, by omega, by omega⟩
      (repeat (first | exact Sub.nil | refine Sub.cons rfl ?_))
    by_cases hi80 : i < 80
    rotate_left
    · repeat (first | refine codeA (k := ?_) | refine condA (k := ?_) | refine offA (k := ?_) | refine pureA (k := ?_) | refine readA (k := ?_))
      refine At_meet (E := fun (s : Nat) => [(5, .pointer (some ⟨p, 0, none⟩)), (7, .pointer (some ⟨q, 0, none⟩))]) (J := fun s H' => Inv H p q n 80 H') 0 ?_ ⟨T, vr, lv, cv, row, cuts, jj, by omega, by omega⟩
      (repeat (first | exact Sub.nil | refine Sub.cons rfl ?_))
    have hx : acts[i]? = some acts[i] := by simp [hil]
    generalize acts[i] = k at hx
    obtain ⟨bb, o, arow, hq, _, hbb, ⟨bv, e1, e2⟩, e3, e4⟩ := hs.at_ hx
    subst hq
    subst e1
    repeat (first | refine codeA (k := ?_) | refine condA (k := ?_) | refine offA (k := ?_) | refine pureA (k := ?_) | refine readA (k := ?_) | refine At_block ?_)
    refine At_read (r_loadN (b := bb) (o := o + i * 10) (cs := acCells k bv) rfl rfl rfl (fun j u hu => (e4 j u hu).keep jj.j.ext (fun f => f))) rfl rfl rfl ?_
    refine At_wp (W_call rfl rfl (do_spec jj (by omega) (by omega) (by omega) (e2.keep jj.j.ext (fun b _ hl => ⟨fun f => f, hl⟩)) (hbody i k hi80 hx)) rfl rfl ?_) rfl
    rintro _ H4 ⟨rfl, T, vr, lv, cv, row, cuts, jj, hrl, hcl⟩
    have hrl' : row.length ≤ i + 1 := by omega
    have hcl' : cuts.length ≤ i + 1 := by omega
    clear hrl hcl
    repeat (first | refine codeA (k := ?_) | refine condA (k := ?_) | refine offA (k := ?_) | refine pureA (k := ?_) | refine readA (k := ?_))
    refine At_wp (W_call rfl rfl (list_soft jj.j.net (by dsimp only; omega) (fun f hf => by have := (jj.ok f hf).2.2.2.2; omega)) rfl rfl ?_) rfl
    rintro vl H5 ⟨hx5, ho5, hg5⟩
    have j5 := jj.j.on hx5
    have c5 := j5.ref.c1
    obtain ⟨ql, cl, hvl⟩ : ∃ q c, vl = .slice q row.length c := by
      rcases ho5.form with ⟨e1, e2⟩ | ⟨g, c, e1, _⟩
      · have e2' : row = [] := e2
        exact ⟨none, 0, by rw [e1, e2']; rfl⟩
      · exact ⟨_, c, e1⟩
    repeat (first | refine codeA (k := ?_) | refine condA (k := ?_) | refine offA (k := ?_) | refine pureA (k := ?_) | refine readA (k := ?_))
    refine At_wp (W_call rfl rfl (hkframes_eq ho5 j5.ref.own) rfl rfl ?_) rfl
    rintro _ H6 ⟨hx6, rfl⟩
    have j6 := j5.on hx6
    have ho6 : OwnL H6 30 7 (FRow (fun b => (H4.size ≤ b ∧ vl.ownBlock ≠ some b) ∧ Soft H6 b) H6) vl row := ho5.keep hx6 (fun _ _ f => f) (fun x row _ hr => hr.keep hx6 (fun b hb _ => ⟨fun f => f, ⟨hb.1, hb.2.1⟩, hb.2.2.keep hx6 (fun f => f)⟩))
    have s5 := hx5.size
    have s6 := hx6.size
    repeat (first | refine codeA (k := ?_) | refine condA (k := ?_) | refine offA (k := ?_) | refine pureA (k := ?_) | refine readA (k := ?_))
    refine At_block ?_
    refine At_loop (fun (s : Nat) => [(1, .slice (some ⟨bb, o, none⟩) acts.length c), (5, .pointer (some ⟨p, 0, none⟩)), (7, .pointer (some ⟨q, 0, none⟩)), (8, .int .i64 i), (9, vl), (10, .int .i64 s)]) (fun s H' => s ≤ row.length ∧ Kept (fun b => H4.size ≤ b ∧ vl.ownBlock ≠ some b) H6 H' ∧ Byt H6 H') (fun s => row.length - s) 0 ?_ ⟨Nat.zero_le _, Kept.refl _ _, Byt.refl _⟩ ?_
    · (repeat (first | exact Sub.nil | refine Sub.cons rfl ?_))
    rintro k H7 ⟨hk, hk7, hb7⟩
    by_cases hkl : k < row.length
    rotate_left
    · subst hvl
      repeat (first | refine codeA (k := ?_) | refine condA (k := ?_) | refine offA (k := ?_) | refine pureA (k := ?_) | refine readA (k := ?_))
      refine At_back (i + 1) ?_ ⟨by omega, by omega, T, vr, lv, cv, row, cuts, ⟨jj.j.garb (Kept.trans (hx5.trans hx6) hk7 (fun _ f _ => f.elim) (fun b e hl => by omega)), jj.ok⟩, hrl', hcl'⟩ (by omega)
      (repeat (first | exact Sub.nil | refine Sub.cons rfl ?_))
    obtain ⟨gl, rfl⟩ : ∃ g, ql = some ⟨g, 0, none⟩ := by
      rcases ho6.form with ⟨e1, e2⟩ | ⟨g, c, e1, _⟩
      · rw [e2] at hkl; simp at hkl
      · rw [hvl] at e1
        simp only [Value.slice.injEq] at e1
        exact ⟨g, e1.1⟩
    have hxk : row[k]? = some row[k] := by simp [hkl]
    generalize row[k] = f at hxk
    subst hvl
    obtain ⟨rw6, ⟨bw, f1, f2⟩, f3, f4⟩ := ho6.cells hxk
    subst f1
    have f6 : Cell H7 gl (0 + k * 7 + 6) bw := by
      rw [Nat.zero_add]
      exact (f4 6 bw rfl).keep hk7 (fun e => e.2 rfl)
    obtain ⟨l', e5, hb'⟩ := BytesAt.byt f2 hb7
    have hb'' : BytesAt (fun b => (H4.size ≤ b ∧ (Value.slice (some ⟨gl, 0, none⟩) row.length cl).ownBlock ≠ some b) ∧ Soft H7 b) H7 bw l' := hb'.mono (fun b hb _ => ⟨hb.1, hb7.soft b hb.2⟩)
    repeat (first | refine codeA (k := ?_) | refine condA (k := ?_) | refine offA (k := ?_) | refine pureA (k := ?_) | refine readA (k := ?_) | refine At_block ?_)
    refine At_wp (W_call rfl rfl (spoil_spec hb'') rfl rfl ?_) rfl
    rintro _ H8 ⟨rfl, hk8, hs8, hb8⟩
    repeat (first | refine codeA (k := ?_) | refine condA (k := ?_) | refine offA (k := ?_) | refine pureA (k := ?_) | refine readA (k := ?_))
    refine At_back (k + 1) ?_ ⟨by omega, Kept.trans hk7 hk8 (fun _ e _ => e) (fun _ e _ => e), hb7.trans hb8⟩ (by omega)
    (repeat (first | exact Sub.nil | refine Sub.cons rfl ?_))
  · rintro _ H3 ⟨T, vr, lv, cv, row, cuts, jj, hrl, hcl⟩
    have cc := jj.j.ref.c1
    repeat (first | refine codeA (k := ?_) | refine condA (k := ?_) | refine offA (k := ?_) | refine pureA (k := ?_) | refine readA (k := ?_))
    refine At_draw [5] (fun H' => Cell H' q (0 + 1) lv) Try.mixed ?_
    first | refine gA 0 (k := ?_) | refine goffA 0 (k := ?_)
    first | refine gA 2 (k := ?_) | refine goffA 2 (k := ?_)
    first | refine gA 3 (k := ?_) | refine goffA 3 (k := ?_)
    first | refine gA 4 (k := ?_) | refine goffA 4 (k := ?_)
    refine grA 5 cc (fun H' hS' => r_load rfl rfl (hS')) (k := ?_)
    refine G_op 1 rfl (by kernel_rfl) rfl (W_call rfl rfl (list_spec jj.j.net (by dsimp only; omega) (fun f hf => by have := (jj.ok f hf).2.2.2.2; omega)) rfl rfl ?_) 
    rintro vl H5 ⟨hx5, ho5, _⟩
    refine G_next (fun _ s => s.keep hx5 (fun f => f)) ?_
    have j5 := jj.j.on hx5
    have c5 := j5.ref.c1
    refine G_op 6 rfl (by kernel_rfl) rfl (W_call rfl rfl (hkframes_eq ho5 j5.ref.own) rfl rfl ?_) 
    rintro _ H6 ⟨hx6, rfl⟩
    refine G_next (fun _ s => s.keep hx6 (fun f => f)) ?_
    first | refine gA 7 (k := ?_) | refine goffA 7 (k := ?_)
    refine G_op 8 rfl (by kernel_rfl) rfl (W_call rfl rfl (wakes_spec H6) rfl rfl ?_) 
    rintro _ H7 ⟨hx7, rfl⟩
    refine G_next (fun _ s => s.keep hx7 (fun f => f)) ?_
    first | refine gA 9 (k := ?_) | refine goffA 9 (k := ?_)
    first | refine gA 10 (k := ?_) | refine goffA 10 (k := ?_)
    refine G_done (by kernel_rfl) ?_
    repeat (first | refine codeA (k := ?_) | refine condA (k := ?_) | refine offA (k := ?_) | refine pureA (k := ?_) | refine readA (k := ?_))
    exact At_ret1 rfl rfl ⟨((jj.j.ext.trans hx5).trans hx6).trans hx7, rfl⟩
end Go.Proofs.Ytjgbbegfenmhaaa

/- Two ends in memory, with the plain law's invariant: Send, pass; lists that grow; Rows. -/
import Derived.Test.YtdbmhcchgbpccaaLinkI
import Derived.Test.YtdbmhcchgbpccaaLinkQ
import Derived.Test.YtdbmhcchgbpccaaEvMore
namespace Go.Proofs.Ytdbmhcchgbpccaa
open Go Ev
set_option linter.unusedVariables false
set_option linter.unusedSimpArgs false
attribute [local irreducible] Go.wpList Go.bodyPost Go.Code.wp Go.Exit.then Go.Exit.inBlock Go.Exit.noGoto Ev.wpAnyG Go.Oper.wp Ev.Back Ev.Left Ev.Spc Ev.At Ev.Pure Ev.Reads Ev.Runs Ev.Does Ev.Cell

theorem takeB_epoch (Z : Lk) (f : Fr) : (takeB Z f).1.epoch = Z.epoch := by
  unfold takeB
  split
  · rfl
  · split
    · rfl
    · split <;> rfl
theorem takeL_epoch (Y : Lk) (f : Fr) : (takeL Y f).1.epoch = Y.epoch := by
  unfold takeL
  split
  · rfl
  · rw [takeB_epoch, takeA_epoch]
section
variable {H0 H : Heap} {T : Nat → Nat} {t1 t2 p1 p2 : Nat} {v1 v2 bv : Value} {X Y : Lk} {SX SY TX TY TY' : List (List UInt8)} {F : List Fr} {N k i : Nat} {l : List UInt8} {Y' : Lk}
theorem ls_send (ba : Ba H0 T H) (hx : Lc T H t1 p1 v1 X) (hy : Lc T H t2 p2 v2 Y) (h12 : t1 ≠ t2) (inv : Inv X Y SX SY TX TY F N) (hN : N ≤ 1000000) (hb : BytesAt (fun b => T b = 0) H bv l) (hl : l.length ≤ 1000) :
    Spc Try.prog 8 #[.pointer (some ⟨p1, 0, none⟩), bv] H fun r H' => ∃ T' v1' X' SX', Stp (· = t1) T T' H H' ∧ Ba H0 T' H' ∧ Lc T' H' t1 p1 v1' X' ∧ Lc T' H' t2 p2 v2 Y ∧ Inv X' Y SX' SY TX TY F (N + 1) ∧ X'.epoch = X.epoch ∧ X'.other = X.other ∧ X'.waits ≠ [] ∧
      (X.waits.length < 4 → r = .int .i64 0 ∧ X' = sentL X l ∧ SX' = if 0 < X.other then SX ++ [l] else SX) ∧ (¬ X.waits.length < 4 → r = .int .i64 20 ∧ X' = X ∧ SX' = SX) := by
  have h10 := hx.t0
  by_cases hw : X.waits.length < 4
  · have hs := inv.xy.sent
    refine (send_c ba hx hb (by omega) hw (by omega)).mono ?_
    rintro r H' ⟨rfl, T', v', s, hx'⟩
    refine ⟨T', v', sentL X l, _, s, ba.stp s (fun e => h10 e.symm), hx', hy.stp s (fun e => h10 e.symm) (fun e => h12 e.symm), inv.send hl hw, rfl, rfl, ?_, fun _ => ⟨rfl, rfl, rfl⟩, fun h => absurd hw h⟩
    show X.waits ++ [(X.sent + 1, l)] ≠ []
    simp
  · refine (send_full hx.d.lnk hb (by omega) (by omega)).mono ?_
    rintro r H' ⟨rfl, rfl⟩
    refine ⟨T, v1, X, SX, Stp.of_ext ba (Kept.refl _ _), ba, hx, hy, inv.more, rfl, rfl, fun e => hw (by rw [e]; decide), fun h => absurd h hw, fun _ => ⟨rfl, rfl, rfl⟩⟩
theorem ls_pass {n : Int} (ba : Ba H0 T H) (hx : Lc T H t1 p1 v1 X) (hy : Lc T H t2 p2 v2 Y) (h12 : t1 ≠ t2) (inv : Inv X Y SX SY TX TY [] N) (hN : N ≤ 1000000) :
    Spc Try.prog 18 #[.pointer (some ⟨p1, 0, none⟩), .pointer (some ⟨p2, 0, none⟩), .int .i64 n] H fun r H' => r = .tuple #[] ∧ ∃ v2' Y' TY', Ba H0 T H' ∧ Lc T H' t1 p1 v1 { X with owes := false } ∧ Lc T H' t2 p2 v2' Y' ∧ Inv { X with owes := false } Y' SX SY TX TY' [] N ∧ Y'.epoch = Y.epoch := by
  have h10 := hx.t0
  have h20 := hy.t0
  refine (pass_c (n := n) ba hx hy h12 inv.xy.wlen (fun x hx => by have := (inv.xy.wbody x hx).2; omega) (fun i Y' => ∃ TY', Inv { X with owes := false } Y' SX SY TX TY' (framesOf X) N ∧ Y'.epoch = Y.epoch) ⟨TY, by simpa using inv.frames, rfl⟩ ?_).mono ?_
  · rintro i f Y' hf ⟨TY', hi, he⟩
    have hfm := List.mem_of_getElem? hf
    have hto : f.to = Y'.me := by
      have := hi.xy.ids
      rcases framesOf_mem hfm with rfl | ⟨x, _, rfl⟩ <;> exact this
    refine ⟨hi.may hfm hto, ?_, ?_⟩
    · have h1 := hi.xy.came
      have h2 := hi.xy.tle
      have h3 := hi.xy.slen
      omega
    · split
      · exact ⟨_, hi.take hfm hto, by rw [takeL_epoch]; exact he⟩
      · exact ⟨TY', hi, he⟩
  · rintro r H' ⟨h1, h2, h3, v2', Y', h4, TY', h5, h6⟩
    exact ⟨h1, v2', Y', TY', ba.stp h2 (fun e => by rcases e with e | e <;> omega), h3, h4, h5.fewer (fun f hf => by simp at hf), h6⟩
theorem ls_all (ba : Ba H0 T H) (hx : Lc T H t1 p1 v1 X) (hy : Lc T H t2 p2 v2 Y) (h12 : t1 ≠ t2) (inv : Inv X Y SX SY TX TY [] N) (hN : N ≤ 1000000) (hk : X.other ≠ 0 → X.waits = num k (SX.drop k) ∧ k ≤ TY.length) :
    Spc Try.prog 18 #[.pointer (some ⟨p1, 0, none⟩), .pointer (some ⟨p2, 0, none⟩), .int .i64 (-1)] H fun r H' => r = .tuple #[] ∧ ∃ v2' Y' TY', Stp (fun t => t = t1 ∨ t = t2) T T H H' ∧ Ba H0 T H' ∧ Lc T H' t1 p1 v1 { X with owes := false } ∧ Lc T H' t2 p2 v2' Y' ∧ PI X Y SX SY TX N k (framesOf X).length Y' TY' ∧ TY.length ≤ TY'.length ∧ Y'.epoch = Y.epoch := by
  have h10 := hx.t0
  have h20 := hy.t0
  refine (pass_c (n := -1) ba hx hy h12 inv.xy.wlen (fun x hx => by have := (inv.xy.wbody x hx).2; omega) (fun i Y' => ∃ TY', PI X Y SX SY TX N k i Y' TY' ∧ TY.length ≤ TY'.length ∧ Y'.epoch = Y.epoch) ⟨TY, PI.start inv (fun e => (hk e).2), Nat.le_refl _, rfl⟩ ?_).mono ?_
  · rintro i f Y' hf ⟨TY', hi, hle, he⟩
    obtain ⟨m1, m2⟩ := hi.step (fun e => (hk e).1) hf
    refine ⟨m1, hi.came hN, ?_⟩
    rw [if_pos (by omega)]
    exact ⟨_, m2, by rw [List.length_append]; omega, by rw [takeL_epoch]; exact he⟩
  · rintro r H' ⟨h1, h2, h3, v2', Y', h4, TY', h5, h6, h7⟩
    exact ⟨h1, v2', Y', TY', h2, ba.stp h2 (fun e => by rcases e with e | e <;> omega), h3, h4, h5, h6, h7⟩
theorem PI.done (h : PI X Y SX SY TX N k i Y' TY') : Inv { X with owes := false } Y' SX SY TX TY' [] N := h.inv.fewer (fun f hf => by simp at hf)
theorem inv_k (inv : Inv X Y SX SY TX TY F N) : ∃ k : Nat, X.other ≠ 0 → X.waits = num k (SX.drop k) ∧ k ≤ TY.length := by
  by_cases e : X.other = 0
  · exact ⟨0, fun h => absurd e h⟩
  · obtain ⟨k, k1, k2, _⟩ := inv.xy.wt e
    exact ⟨k, fun _ => ⟨k2, k1⟩⟩
theorem ls_half {j : Nat} (hj : j ≤ 5) (ba : Ba H0 T H) (hx : Lc T H t1 p1 v1 X) (hy : Lc T H t2 p2 v2 Y) (h12 : t1 ≠ t2) (inv : Inv X Y SX SY TX TY [] N) (hN : N ≤ 1000000) (hF : FF j X Y SX SY TX TY) :
    Spc Try.prog 18 #[.pointer (some ⟨p1, 0, none⟩), .pointer (some ⟨p2, 0, none⟩), .int .i64 (-1)] H fun r H' => r = .tuple #[] ∧ ∃ v2' Y' TY', Ba H0 T H' ∧ Lc T H' t1 p1 v1 { X with owes := false } ∧ Lc T H' t2 p2 v2' Y' ∧ Inv { X with owes := false } Y' SX SY TX TY' [] N ∧ Y'.epoch = Y.epoch ∧ FF (nextF j) Y' { X with owes := false } SY SX TY' TX := by
  obtain ⟨k, hk⟩ := inv_k inv
  refine (ls_all ba hx hy h12 inv hN hk).mono ?_
  rintro r H' ⟨h1, v2', Y', TY', _, h3, h4, h5, h6, h7, h8⟩
  exact ⟨h1, v2', Y', TY', h3, h4, h5, h6.done, h8, FF.next inv hj hF hk h7 h6⟩
end

section
variable {n : Nat} {W : World} {env : Env} {H0 H : Heap} {Q : Exit → Act → World → Prop} {K : Act → World → Prop}
variable {ty : TypeId} {pos : String} {af : Array Edge} {gd : Option (Nat × Bool)}
theorem ow_lt {α : Type} {T : Nat → Nat} {H : Heap} {t : Nat} {e : TypeId} {size : Nat} {R : (Nat → Prop) → Heap → α → List Value → Prop} {v : Value} {xs : List α} (h : Ow T H t e size R v xs) {g : Nat} (hg : v.ownBlock = some g) : g < H.size := by
  rcases h.d.form with ⟨e, _⟩ | ⟨g', cg, e, hl, _⟩
  · rw [e] at hg; cases hg
  · rw [e] at hg
    simp only [Value.ownBlock, Option.some.injEq] at hg
    omega
/-- one more element for a list that bears the tag tg -/
theorem W_appendOw {P : Program} {α : Type} {T : Nat → Nat} {tg : Nat} {R : (Nat → Prop) → Heap → α → List Value → Prop} {x y : Operand} {t e : TypeId} {de : TypeDesc} {sz sb size bytes : Nat} {z ez : Value} {dd b c : Nat} [h : Ty P t (.slice e) sz sb z] [he : Ty P e de size bytes ez] {v : Value} {xs : List α} {a : α} {row : List Value} {cs : Array Value} {bt : TypeId}
    (hR : ∀ (D D' S : Nat → Prop) (H H' : Heap) x row, R D H x row → Kept S H H' → (∀ b, D b → b < H.size → ¬ S b ∧ D' b) → R D' H' x row)
    (hba : Ba H0 T H) (ht : tg ≠ 0) (hx : ev env x = some v) (hy : ev env y = some (.slice (some ⟨b, 0, none⟩) 1 c)) (ho : Ow T H tg e size R v xs) (hb : H[b]? = some (.cells cs bt (0, 0))) (hcs : cs.toList = row) (ha : R (fun b => T b = 0) H a row) (hl : row.length = size) (h1 : ∀ u ∈ row, u.oneCell' = true) (hz : ez.cells.size = size) (hsz : 0 < size)
    (h63 : xs.length ≤ 1000000) (hby : bytes ≤ 100000) (hn : Nat.blt dd n = true)
    (k : ∀ g c' H' T', Stp (· = tg) T T' H H' → Ow T' H' tg e size R (.slice (some ⟨g, 0, none⟩) (xs.length + 1) c') (xs ++ [a]) → At n W ((dd, .slice (some ⟨g, 0, none⟩) (xs.length + 1) c') :: env) H' K) :
    At n W env H (fun a w => Oper.wp P ⟨some dd, .call ⟨.builtin .append, #[x, y], #[t, t]⟩, ty, pos, af, gd⟩ a w K Q) := by
  refine W_append1 (R := R (fun b => T b = 0) H) (a := a) (row := row) (fun H' => R (fun b => T b = 0 ∧ b < H.size) H') hx hy ho.d hb hcs ha hl h1 hz hsz h63 hby hn ?_ ?_
  · intro H' g hk hg hgl x row hr
    exact hR _ _ _ _ _ x row hr hk (fun b hb hl => ⟨fun e => ht (by rw [← ho.tv b e]; exact hb), hb, hl⟩)
  · intro g c' H' own hk hg
    have hgl : g < H'.size := by
      rcases own.form with ⟨e, _⟩ | ⟨g', cg, e, hl, _⟩
      · cases e
      · simp only [Value.slice.injEq, Option.some.injEq, Addr.mk.injEq] at e
        omega
    have hsame : ∀ b, b < H.size → tagNew T H (.slice (some ⟨g, 0, none⟩) (xs.length + 1) c') tg b = T b := fun b hl => if_neg (fun e => by omega)
    refine k g c' H' (tagNew T H (.slice (some ⟨g, 0, none⟩) (xs.length + 1) c') tg) (Stp.tagNew hba (hk.mono fun b hb _ => ho.tv b hb) (fun g' hg' => by simp only [Value.ownBlock, Option.some.injEq] at hg'; omega)) ⟨own.imp fun x row _ hr => hR _ _ (fun _ => False) _ _ x row hr (Kept.refl _ _) (fun b hb _ => ⟨fun f => f, by rw [hsame b hb.2]; exact hb.1⟩), fun g' hg' => ?_⟩
    simp only [Value.ownBlock, Option.some.injEq] at hg'
    subst hg'
    unfold tagNew
    split
    · rfl
    · rename_i e
      rcases hg with e2 | e2
      · exact ho.tv g e2
      · exact absurd ⟨e2, rfl⟩ e
end

set_option maxHeartbeats 1000000 in
theorem rows_eq {D1 D2 D3 D4 : Nat → Prop} {H : Heap} {v v' : Value} {xs : List (List UInt8)} (h1 : SliceAt D1 H 1 (BRow D2 H) v xs) (h2 : SliceAt D3 H 1 (BRow D4 H) v' xs) :
    Spc Try.prog 19 #[v, v'] H fun r H' => H' = H ∧ r = .bool true := by
  have hlen := h1.len_le
  simp only [maxLen] at hlen
  obtain ⟨q, c, rfl⟩ := h1.form
  obtain ⟨q', c', rfl⟩ := h2.form
  refine spec_of Try.func19 rfl Try.ntmps19 rfl (fun W => ?_)
  repeat (first | refine codeA (k := ?_) | refine condA (k := ?_) | refine offA (k := ?_) | refine pureA (k := ?_) | refine readA (k := ?_) | refine At_block ?_)
  refine At_loop (fun (s : Nat) => [(0, .slice q xs.length c), (1, .slice q' xs.length c'), (5, .int .i64 s)]) (fun s H' => s ≤ xs.length ∧ H' = H) (fun s => xs.length - s) 0 ?_ ⟨Nat.zero_le _, rfl⟩ ?_
  · (repeat (first | exact Sub.nil | refine Sub.cons rfl ?_))
  rintro k H1 ⟨hle, rfl⟩
  by_cases hk : k < xs.length
  · have hx : xs[k]? = some xs[k] := by simp [hk]
    generalize xs[k] = l at hx
    obtain ⟨b, o, row, hq, _, _, ⟨bv, e1, e2⟩, e3, e4⟩ := h1.at_ hx
    obtain ⟨b', o', row', hq', _, _, ⟨bv', e1', e2'⟩, e3', e4'⟩ := h2.at_ hx
    subst e1
    subst e1'
    subst hq
    subst hq'
    have c1 : Cell H1 b (o + k * 1) bv := e4 0 bv rfl
    have c2 : Cell H1 b' (o' + k * 1) bv' := e4' 0 bv' rfl
    repeat (first | refine codeA (k := ?_) | refine condA (k := ?_) | refine offA (k := ?_) | refine pureA (k := ?_) | refine readA (k := ?_) | refine At_block ?_)
    refine At_draw [3, 7] (fun H' => H' = H1) Try.mixed ?_
    first | refine gA 0 (k := ?_) | refine goffA 0 (k := ?_)
    first | refine gA 1 (k := ?_) | refine goffA 1 (k := ?_)
    first | refine gA 2 (k := ?_) | refine goffA 2 (k := ?_)
    refine grA 3 rfl (fun H' hS' => r_load rfl rfl (by subst hS'; exact c1)) (k := ?_)
    first | refine gA 4 (k := ?_) | refine goffA 4 (k := ?_)
    first | refine gA 5 (k := ?_) | refine goffA 5 (k := ?_)
    first | refine gA 6 (k := ?_) | refine goffA 6 (k := ?_)
    refine grA 7 rfl (fun H' hS' => r_load rfl rfl (by subst hS'; exact c2)) (k := ?_)
    refine G_op 8 rfl (by kernel_rfl) rfl (W_call rfl rfl (bytes_spec e2 e2') rfl rfl ?_) 
    rintro _ _ ⟨rfl, rfl⟩
    refine G_next (fun _ s => s) ?_
    rw [decide_eq_true (rfl : l = l)]
    first | refine gA 9 (k := ?_) | refine goffA 9 (k := ?_)
    refine G_done (by kernel_rfl) ?_
    repeat (first | refine codeA (k := ?_) | refine condA (k := ?_) | refine offA (k := ?_) | refine pureA (k := ?_) | refine readA (k := ?_))
    refine At_back (k + 1) ?_ ⟨by omega, rfl⟩ (by omega)
    (repeat (first | exact Sub.nil | refine Sub.cons rfl ?_))
  · obtain rfl : k = xs.length := by omega
    repeat (first | refine codeA (k := ?_) | refine condA (k := ?_) | refine offA (k := ?_) | refine pureA (k := ?_) | refine readA (k := ?_))
    exact At_ret1 rfl rfl ⟨rfl, rfl⟩
end Go.Proofs.Ytdbmhcchgbpccaa

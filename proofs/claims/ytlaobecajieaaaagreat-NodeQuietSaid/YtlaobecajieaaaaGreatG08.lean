/- Frames that are of a link: 'may'; rows thinned out: IndexFunc, DeleteFunc. -/
import Derived.Test.YtlaobecajieaaaaGreatG07
namespace Go.Proofs.YtlaobecajieaaaaGreat
open Go Ev
set_option linter.unusedVariables false
set_option linter.unusedSimpArgs false
attribute [local irreducible] Go.wpList Go.bodyPost Go.Code.wp Go.Exit.then Go.Exit.inBlock Go.Exit.noGoto Ev.wpAnyG Go.Oper.wp Ev.Back Ev.Left Ev.Spc Ev.At Ev.Pure Ev.Reads Ev.Runs Ev.Does Ev.Cell

def MayB (L : Lk) (f : Fr) : Prop := f.frm = L.peer ∧ f.to = L.me ∧ 1 ≤ f.epoch ∧ 0 ≤ f.peer ∧ 0 ≤ f.seq ∧ 0 ≤ f.ack ∧ f.body.length ≤ 131072 ∧ (0 < f.seq ∨ f.body = [])
set_option maxHeartbeats 1000000 in
theorem may_yes {D : Nat → Prop} {H : Heap} {p : Nat} {vw bv : Value} {L : Lk} {f : Fr} (h : LinkAt H p vw L) (hb : BytesAt D H bv f.body) (hm : MayB L f) :
    Spc Tryz.prog 127 #[.pointer (some ⟨p, 0, none⟩), .agg (frCells f bv).toArray] H fun r H' => Ext H H' ∧ r = .bool true := by
  obtain ⟨h1, h2, h3, h4, h5, h6, h7, h8⟩ := hm
  obtain ⟨q, c, rfl⟩ := hb.form
  have hbk := h.blk
  refine spec_of Tryz.func127 rfl Tryz.ntmps127 rfl (fun W => ?_)
  repeat (first | refine codeA (k := ?_) | refine condA (k := ?_) | refine offA (k := ?_) | refine pureA (k := ?_) | refine readA (k := ?_))
  refine At_wp (W_box (cs := #[.int .i64 f.frm, .int .i64 f.to, .int .i64 f.epoch, .int .i64 f.peer, .int .i64 f.seq, .int .i64 f.ack, .slice q f.body.length c]) rfl rfl rfl ?_) rfl
  intro bf H1 hn1
  have hx := hn1.ext
  have ha := hn1.at_
  have hb1 := hx.keep hbk (fun f => f)
  have c0 : Cell H1 bf (0 + 0) (.int .i64 f.frm) := Cell.of ha rfl
  have c1 : Cell H1 bf (0 + 1) (.int .i64 f.to) := Cell.of ha rfl
  have c2 : Cell H1 bf (0 + 2) (.int .i64 f.epoch) := Cell.of ha rfl
  have c3 : Cell H1 bf (0 + 3) (.int .i64 f.peer) := Cell.of ha rfl
  have c4 : Cell H1 bf (0 + 4) (.int .i64 f.seq) := Cell.of ha rfl
  have c5 : Cell H1 bf (0 + 5) (.int .i64 f.ack) := Cell.of ha rfl
  have c6 : Cell H1 bf (0 + 6) (.slice q f.body.length c) := Cell.of ha rfl
  have d0 : Cell H1 p (0 + 0) (.int .i64 L.me) := Cell.of hb1 rfl
  have d1 : Cell H1 p (0 + 1) (.int .i64 L.peer) := Cell.of hb1 rfl
  repeat (first | refine codeA (k := ?_) | refine condA (k := ?_) | refine offA (k := ?_) | refine pureA (k := ?_) | refine readA (k := ?_))
  refine At_draw [1, 5, 9, 13, 18] (fun H' => H' = H1) Tryz.mixed ?_
  first | refine gA 0 (k := ?_) | refine goffA 0 (k := ?_)
  refine grA 1 rfl (fun H' hS' => r_load rfl rfl (by subst hS'; exact c0)) (k := ?_)
  first | refine gA 2 (k := ?_) | refine goffA 2 (k := ?_)
  first | refine gA 3 (k := ?_) | refine goffA 3 (k := ?_)
  first | refine gA 4 (k := ?_) | refine goffA 4 (k := ?_)
  refine grA 5 rfl (fun H' hS' => r_load rfl rfl (by subst hS'; exact d1)) (k := ?_)
  first | refine gA 6 (k := ?_) | refine goffA 6 (k := ?_)
  first | refine gA 7 (k := ?_) | refine goffA 7 (k := ?_)
  first | refine gA 8 (k := ?_) | refine goffA 8 (k := ?_)
  refine grA 9 rfl (fun H' hS' => r_load rfl rfl (by subst hS'; exact c1)) (k := ?_)
  first | refine gA 10 (k := ?_) | refine goffA 10 (k := ?_)
  first | refine gA 11 (k := ?_) | refine goffA 11 (k := ?_)
  first | refine gA 12 (k := ?_) | refine goffA 12 (k := ?_)
  refine grA 13 rfl (fun H' hS' => r_load rfl rfl (by subst hS'; exact d0)) (k := ?_)
  first | refine gA 14 (k := ?_) | refine goffA 14 (k := ?_)
  first | refine gA 15 (k := ?_) | refine goffA 15 (k := ?_)
  first | refine gA 16 (k := ?_) | refine goffA 16 (k := ?_)
  first | refine gA 17 (k := ?_) | refine goffA 17 (k := ?_)
  refine grA 18 rfl (fun H' hS' => r_load rfl rfl (by subst hS'; exact c2)) (k := ?_)
  first | refine gA 19 (k := ?_) | refine goffA 19 (k := ?_)
  first | refine gA 20 (k := ?_) | refine goffA 20 (k := ?_)
  refine G_done (by kernel_rfl) ?_
  repeat (first | refine codeA (k := ?_) | refine condA (k := ?_) | refine offA (k := ?_) | refine pureA (k := ?_) | refine readA (k := ?_))
  rcases h8 with h8 | h8
  · repeat (first | refine codeA (k := ?_) | refine condA (k := ?_) | refine offA (k := ?_) | refine pureA (k := ?_) | refine readA (k := ?_))
    exact At_ret1 rfl rfl ⟨hx, rfl⟩
  · have h9 : f.body.length = 0 := by rw [h8]; rfl
    rcases Int.lt_or_le 0 f.seq with h8 | h8
    · repeat (first | refine codeA (k := ?_) | refine condA (k := ?_) | refine offA (k := ?_) | refine pureA (k := ?_) | refine readA (k := ?_))
      exact At_ret1 rfl rfl ⟨hx, rfl⟩
    · repeat (first | refine codeA (k := ?_) | refine condA (k := ?_) | refine offA (k := ?_) | refine pureA (k := ?_) | refine readA (k := ?_))
      exact At_ret1 rfl rfl ⟨hx, rfl⟩

theorem take1_spec {H : Heap} {bt : Nat} {sq ack : Int} {q : Option Addr} {m c : Nat} (hc : Cell H bt (0 + 5) (.int .i64 ack)) :
    Spc Tryz.prog 129 #[.agg #[.int .i64 sq, .slice q m c], .pointer (some ⟨bt, 0, none⟩)] H fun r H' => Ext H H' ∧ r = .bool (decide (sq ≤ ack)) := by
  refine spec_of Tryz.func129 rfl Tryz.ntmps129 rfl (fun W => ?_)
  repeat (first | refine codeA (k := ?_) | refine condA (k := ?_) | refine offA (k := ?_) | refine pureA (k := ?_) | refine readA (k := ?_))
  refine At_wp (W_box (cs := #[.int .i64 sq, .slice q m c]) rfl rfl rfl ?_) rfl
  intro b H1 hn1
  have c0 : Cell H1 b (0 + 0) (.int .i64 sq) := Cell.of hn1.at_ rfl
  have c1 : Cell H1 bt (0 + 5) (.int .i64 ack) := hc.keep hn1.ext (fun f => f)
  repeat (first | refine codeA (k := ?_) | refine condA (k := ?_) | refine offA (k := ?_) | refine pureA (k := ?_) | refine readA (k := ?_))
  refine undA (k := ?_)
  repeat (first | refine codeA (k := ?_) | refine condA (k := ?_) | refine offA (k := ?_) | refine pureA (k := ?_) | refine readA (k := ?_))
  exact At_ret1 rfl rfl ⟨hn1.ext, rfl⟩

/-- the first one that the closure takes -/
def FirstAt (ack : Int) (ws : List (Int × List UInt8)) (r : Int) : Prop :=
  (∃ (i : Nat) (x : Int × List UInt8), r = i ∧ ws[i]? = some x ∧ x.1 ≤ ack ∧ ∀ (j : Nat) (y : Int × List UInt8), j < i → ws[j]? = some y → ¬ y.1 ≤ ack) ∨ (r = -1 ∧ ∀ x ∈ ws, ¬ x.1 ≤ ack)
theorem index_spec {D : Nat → Prop} {H : Heap} {bt : Nat} {ack : Int} {v : Value} {ws : List (Int × List UInt8)} (hc : Cell H bt (0 + 5) (.int .i64 ack)) (h : OwnL H 133 2 (WRow D H) v ws) :
    Spc Tryz.prog 219 #[v, .func (.func 129) #[] #[.pointer (some ⟨bt, 0, none⟩)]] H fun r H' => Ext H H' ∧ ∃ i, r = .int .i64 i ∧ FirstAt ack ws i := by
  have hlen := h.len_le
  simp only [maxLen] at hlen
  obtain ⟨q, c, hv⟩ : ∃ q c, v = .slice q ws.length c := by
    rcases h.form with ⟨e1, e2⟩ | ⟨g, c, e1, _⟩
    · exact ⟨none, 0, by rw [e1, e2]; rfl⟩
    · exact ⟨_, _, e1⟩
  subst hv
  refine spec_of Tryz.func219 rfl Tryz.ntmps219 rfl (fun W => ?_)
  repeat (first | refine codeA (k := ?_) | refine condA (k := ?_) | refine offA (k := ?_) | refine pureA (k := ?_) | refine readA (k := ?_) | refine At_block ?_)
  refine At_loop (fun (s : Nat) => [(0, .slice q ws.length c), (1, .func (.func 129) #[] #[.pointer (some ⟨bt, 0, none⟩)]), (7, .int .i64 ws.length), (8, .int .i64 s)])
    (fun s H' => s ≤ ws.length ∧ Ext H H' ∧ ∀ (j : Nat) (y : Int × List UInt8), j < s → ws[j]? = some y → ¬ y.1 ≤ ack) (fun s => ws.length - s) 0 ?_ ⟨Nat.zero_le _, Kept.refl _ _, fun j y hj => by omega⟩ ?_
  · (repeat (first | exact Sub.nil | refine Sub.cons rfl ?_))
  rintro k H1 ⟨hle, hx1, hno⟩
  by_cases hk : k < ws.length
  · have hx : ws[k]? = some ws[k] := by simp [hk]
    generalize ws[k] = x at hx
    obtain ⟨sk, lk⟩ := x
    obtain ⟨g, rfl⟩ : ∃ g, q = some ⟨g, 0, none⟩ := by
      rcases h.form with ⟨e1, e2⟩ | ⟨g, c, e1, _⟩
      · rw [e2] at hk; simp at hk
      · simp only [Value.slice.injEq] at e1
        exact ⟨g, e1.1⟩
    obtain ⟨row, ⟨bv, e1, e2⟩, e3, e4⟩ := h.cells hx
    subst e1
    obtain ⟨p, pc, rfl⟩ := e2.form
    repeat (first | refine codeA (k := ?_) | refine condA (k := ?_) | refine offA (k := ?_) | refine pureA (k := ?_) | refine readA (k := ?_) | refine At_block ?_)
    refine At_read (r_loadN (b := g) (o := 0 + k * 2) (cs := [.int .i64 sk, .slice p lk.length pc]) rfl rfl rfl (fun j u hj => by rw [Nat.zero_add]; exact (e4 j u hj).keep hx1 (fun f => f))) rfl rfl rfl ?_
    refine At_wp (W_call_value rfl rfl rfl (take1_spec (hc.keep hx1 (fun f => f))) rfl rfl ?_) rfl
    rintro _ H2 ⟨hx2, rfl⟩
    by_cases hs : sk ≤ ack
    · rw [decide_eq_true hs]
      repeat (first | refine codeA (k := ?_) | refine condA (k := ?_) | refine offA (k := ?_) | refine pureA (k := ?_) | refine readA (k := ?_))
      exact At_ret1 rfl rfl ⟨hx1.trans hx2, k, rfl, .inl ⟨k, _, rfl, hx, hs, hno⟩⟩
    · rw [decide_eq_false hs]
      repeat (first | refine codeA (k := ?_) | refine condA (k := ?_) | refine offA (k := ?_) | refine pureA (k := ?_) | refine readA (k := ?_))
      refine At_back (k + 1) ?_ ⟨by omega, hx1.trans hx2, fun j y hj hy => ?_⟩ (by omega)
      · (repeat (first | exact Sub.nil | refine Sub.cons rfl ?_))
      · by_cases e : j = k
        · subst e
          rw [hx] at hy
          cases hy
          exact hs
        · exact hno j y (by omega) hy
  · obtain rfl : k = ws.length := by omega
    repeat (first | refine codeA (k := ?_) | refine condA (k := ?_) | refine offA (k := ?_) | refine pureA (k := ?_) | refine readA (k := ?_))
    refine At_ret1 rfl rfl ⟨hx1, -1, rfl, .inr ⟨rfl, fun x hx => ?_⟩⟩
    obtain ⟨j, hj⟩ := List.mem_iff_getElem?.1 hx
    exact hno j x (List.getElem?_eq_some_iff.1 hj).1 hj

-- a list thinned, and its rows likewise
theorem filter_rows {α β : Type} {p : α → Bool} {q : β → Bool} : ∀ {xs : List α} {rows : List β}, rows.length = xs.length → (∀ (i : Nat) (x : α) (r : β), xs[i]? = some x → rows[i]? = some r → p x = q r) →
    (rows.filter q).length = (xs.filter p).length ∧ ∀ (i : Nat) (x : α) (r : β), (xs.filter p)[i]? = some x → (rows.filter q)[i]? = some r → ∃ k : Nat, xs[k]? = some x ∧ rows[k]? = some r
  | [], [], _, _ => ⟨rfl, fun i x r h => by simp at h⟩
  | x :: xs, r :: rows, hl, h => by
    have h0 := h 0 x r rfl rfl
    obtain ⟨i1, i2⟩ := filter_rows (xs := xs) (rows := rows) (by simpa using hl) (fun i y s hy hs => h (i + 1) y s (by simpa using hy) (by simpa using hs))
    rw [List.filter_cons, List.filter_cons, h0]
    by_cases c : q r = true
    · rw [if_pos c, if_pos c]
      refine ⟨by simp [i1], fun i y s hy hs => ?_⟩
      cases i with
      | zero =>
        simp only [List.getElem?_cons_zero, Option.some.injEq] at hy hs
        exact ⟨0, by simp [hy], by simp [hs]⟩
      | succ i =>
        obtain ⟨k, h1, h2⟩ := i2 i y s (by simpa using hy) (by simpa using hs)
        exact ⟨k + 1, by simpa using h1, by simpa using h2⟩
    · rw [if_neg c, if_neg c]
      refine ⟨i1, fun i y s hy hs => ?_⟩
      obtain ⟨k, h1, h2⟩ := i2 i y s hy hs
      exact ⟨k + 1, by simpa using h1, by simpa using h2⟩
  | [], _ :: _, hl, _ => by simp at hl
  | _ :: _, [], hl, _ => by simp at hl
def keepRow (ack : Int) : List Value → Bool
  | .int _ s :: _ => decide (ack < s)
  | _ => false

set_option maxHeartbeats 2000000 in
theorem delete_spec {D : Nat → Prop} {H : Heap} {bt : Nat} {ack : Int} {v : Value} {ws : List (Int × List UInt8)} (hc : Cell H bt (0 + 5) (.int .i64 ack)) (h : OwnL H 133 2 (WRow D H) v ws) (hD : ∀ b, D b → v.ownBlock ≠ some b) (hbt : v.ownBlock ≠ some bt) :
    Spc Tryz.prog 128 #[v, .func (.func 129) #[] #[.pointer (some ⟨bt, 0, none⟩)]] H fun r H' => Kept (fun b => v.ownBlock = some b) H H' ∧
      OwnL H' 133 2 (WRow D H') r (ws.filter fun x => decide (ack < x.1)) ∧ r.ownBlock = v.ownBlock := by
  have hlen := h.len_le
  simp only [maxLen] at hlen
  have hR : ∀ {H' : Heap}, Kept (fun b => v.ownBlock = some b) H H' → ∀ x row, WRow D H x row → WRow D H' x row := fun hk x row hr => by
    obtain ⟨bv, e1, e2⟩ := hr
    exact ⟨bv, e1, e2.keep hk (fun b hb _ => ⟨fun e => hD b hb e, hb⟩)⟩
  refine spec_of Tryz.func128 rfl Tryz.ntmps128 rfl (fun W => ?_)
  repeat (first | refine codeA (k := ?_) | refine condA (k := ?_) | refine offA (k := ?_) | refine pureA (k := ?_) | refine readA (k := ?_))
  refine At_wp (W_call rfl rfl (index_spec hc h) rfl rfl ?_) rfl
  rintro _ H1 ⟨hx1, i0, rfl, hf | ⟨rfl, hall⟩⟩
  rotate_left
  · have hfe : ws.filter (fun x => decide (ack < x.1)) = ws := List.filter_eq_self.2 fun x hx => by
      have := hall x hx
      simp; omega
    repeat (first | refine codeA (k := ?_) | refine condA (k := ?_) | refine offA (k := ?_) | refine pureA (k := ?_) | refine readA (k := ?_))
    refine At_ret1 rfl rfl ⟨Kept.of_ext hx1, ?_, rfl⟩
    rw [hfe]
    exact h.keep hx1 (fun _ _ f => f) (fun x row _ hr => hR (Kept.of_ext hx1) x row hr)
  obtain ⟨i, x0, rfl, hi1, hi2, hi3⟩ := hf
  have hil : i < ws.length := (List.getElem?_eq_some_iff.1 hi1).1
  obtain ⟨g, c, hv, hg, hcl, hcm⟩ : ∃ g c, v = .slice (some ⟨g, 0, none⟩) ws.length c ∧ g < H.size ∧ ws.length ≤ c ∧ c ≤ maxLen := by
    rcases h.form with ⟨e1, e2⟩ | e
    · rw [e2] at hil; simp at hil
    · exact e
  subst hv
  simp only [Value.ownBlock, Option.some.injEq, ne_eq] at hD hbt hR ⊢
  obtain ⟨rows, ho, hrl, hrr⟩ := h.rowsR
  have ho1 := ho.keep hx1 (fun _ _ f => f)
  have hq : ∀ (k : Nat) (x : Int × List UInt8) (row : List Value), ws[k]? = some x → rows[k]? = some row → decide (ack < x.1) = keepRow ack row := fun k x row hx hr => by
    obtain ⟨bv, rfl, _⟩ := hrr k x row hx hr
    rfl
  rw [← hrl] at ho1 hil hcl ⊢
  have hall : ∀ r ∈ rows.take i, keepRow ack r = true := fun r hr => by
    obtain ⟨k, hk⟩ := List.mem_iff_getElem?.1 hr
    rw [List.getElem?_take] at hk
    split at hk
    · rename_i hki
      have hkw : k < ws.length := by omega
      have hx : ws[k]? = some ws[k] := by simp [hkw]
      rw [← hq k _ r hx hk]
      have := hi3 k _ hki hx
      simp; omega
    · cases hk
  have hrow0 : keepRow ack rows[i] = false := by
    rw [← hq i x0 rows[i] hi1 (by simp [hil])]
    simp; omega
  have hkept0 : (rows.take (i + 1)).filter (keepRow ack) = rows.take i := by
    rw [List.take_add_one, List.filter_append, List.filter_eq_self.2 hall]
    simp [hil, hrow0]
  have ei : (rows.take i).length = i := by simp; omega
  repeat (first | refine codeA (k := ?_) | refine condA (k := ?_) | refine offA (k := ?_) | refine pureA (k := ?_) | refine readA (k := ?_))
  refine At_cut (fun (s : Nat) => [(0, .slice (some ⟨g, 0, none⟩) rows.length c), (5, .int .i64 s)]) (fun s H' => s = (rows.filter (keepRow ack)).length ∧ Kept (· = g) H H' ∧ ∃ rows', OwnR H' 133 2 (.slice (some ⟨g, 0, none⟩) rows.length c) rows' ∧ rows'.length = rows.length ∧ rows'.take s = rows.filter (keepRow ack)) ?_ ?_
  · refine At_block ?_
    refine At_loop (fun (s : Nat × Nat) => [(0, .slice (some ⟨g, 0, none⟩) rows.length c), (1, .func (.func 129) #[] #[.pointer (some ⟨bt, 0, none⟩)]), (5, .int .i64 s.1), (6, .int .i64 s.2)])
      (fun s H' => s.1 = ((rows.take s.2).filter (keepRow ack)).length ∧ s.1 < s.2 ∧ s.2 ≤ rows.length ∧ Kept (· = g) H H' ∧ ∃ rows', OwnR H' 133 2 (.slice (some ⟨g, 0, none⟩) rows.length c) rows' ∧ rows'.length = rows.length ∧ rows'.take s.1 = (rows.take s.2).filter (keepRow ack) ∧ rows'.drop s.2 = rows.drop s.2)
      (fun s => rows.length - s.2) (i, i + 1) ?_ ⟨by rw [hkept0, ei], Nat.lt_succ_self i, hil, Kept.of_ext hx1, rows, ho1, rfl, by rw [hkept0], rfl⟩ ?_
    · (repeat (first | exact Sub.nil | refine Sub.cons rfl ?_))
    rintro ⟨a, j⟩ H2 ⟨ha, haj, hj, hk2, rows', ho2, hl2, ht2, hd2⟩
    dsimp only at ha haj hj ht2 hd2
    by_cases hjl : j < rows.length
    · have hjw : j < ws.length := by omega
      have hx : ws[j]? = some ws[j] := by simp [hjw]
      have hr : rows[j]? = some rows[j] := by simp [hjl]
      generalize ws[j] = x at hx
      generalize hrj : rows[j] = row at hr
      obtain ⟨sk, lk⟩ := x
      obtain ⟨bv, e1, e2⟩ := hrr j _ row hx hr
      dsimp only at e1 e2
      subst e1
      obtain ⟨p, pc, rfl⟩ := e2.form
      have hr2 : rows'[j]? = some [.int .i64 sk, .slice p lk.length pc] := by
        have := congrArg (·[0]?) hd2
        simpa [List.getElem?_drop, hr] using this
      have htj : (rows.take (j + 1)).filter (keepRow ack) = (rows.take j).filter (keepRow ack) ++ if ack < sk then [[.int .i64 sk, .slice p lk.length pc]] else [] := by
        rw [List.take_add_one, List.filter_append, hr]
        by_cases e : ack < sk <;> simp [keepRow, e]
      repeat (first | refine codeA (k := ?_) | refine condA (k := ?_) | refine offA (k := ?_) | refine pureA (k := ?_) | refine readA (k := ?_) | refine At_block ?_)
      refine At_read (r_loadN (b := g) (o := 0 + j * 2) (cs := [.int .i64 sk, .slice p lk.length pc]) rfl rfl rfl (fun k u hu => by rw [Nat.zero_add]; exact ho2.row hr2 k u hu)) rfl rfl rfl ?_
      refine At_wp (W_alloc rfl rfl ?_) rfl
      intro bw H3 hn3
      refine At_wp (W_storeB rfl rfl hn3.at_ rfl rfl rfl rfl ?_) rfl
      intro H4 h4
      have hb3 := hn3.blk
      have hs3 := hn3.size
      have hs4 := h4.size
      have hs2 := hk2.size
      have hx4 : Ext H2 H4 := Kept.trans hn3.ext h4.kept (fun _ f _ => f) (fun k e hl => by omega)
      have hc4 : Cell H4 bt (0 + 5) (.int .i64 ack) := (hc.keep hk2 (fun e => hbt e.symm)).keep hx4 (fun f => f)
      have hw4 := h4.at_
      repeat (first | refine codeA (k := ?_) | refine condA (k := ?_) | refine offA (k := ?_) | refine pureA (k := ?_) | refine readA (k := ?_))
      refine At_read (r_loadB rfl hw4 rfl rfl) rfl rfl rfl ?_
      refine At_wp (W_call_value rfl rfl rfl (take1_spec hc4) rfl rfl ?_) rfl
      rintro _ H5 ⟨hx5, rfl⟩
      have hx45 := hx4.trans hx5
      have ho5 := ho2.keep hx45 (fun _ _ f => f)
      have hk5 : Kept (· = g) H H5 := hk2.then_ext hx45
      have hw5 := hx5.keep hw4 (fun f => f)
      by_cases hs : sk ≤ ack
      · rw [decide_eq_true hs]
        have e : ¬ ack < sk := by omega
        rw [if_neg e, List.append_nil] at htj
        repeat (first | refine codeA (k := ?_) | refine condA (k := ?_) | refine offA (k := ?_) | refine pureA (k := ?_) | refine readA (k := ?_))
        refine At_back (a, j + 1) ?_ ⟨by dsimp only; rw [htj]; exact ha, by dsimp only; omega, by dsimp only; omega, hk5, rows', ho5, hl2, by dsimp only; rw [htj]; exact ht2, ?_⟩ (by dsimp only; omega)
        · (repeat (first | exact Sub.nil | refine Sub.cons rfl ?_))
        · dsimp only
          rw [← List.drop_drop, ← List.drop_drop, hd2]
      · rw [decide_eq_false hs]
        have e : ack < sk := by omega
        rw [if_pos e] at htj
        have hal : a < rows.length := by omega
        repeat (first | refine codeA (k := ?_) | refine condA (k := ?_) | refine offA (k := ?_) | refine pureA (k := ?_) | refine readA (k := ?_))
        refine At_read (r_loadB rfl hw5 rfl rfl) rfl rfl rfl ?_
        repeat (first | refine codeA (k := ?_) | refine condA (k := ?_) | refine offA (k := ?_) | refine pureA (k := ?_) | refine readA (k := ?_))
        have ho5' : OwnR H5 133 2 (.slice (some ⟨g, 0, none⟩) rows'.length c) rows' := by rw [hl2]; exact ho5
        refine At_wp (W_storeRow (row := [.int .i64 sk, .slice p lk.length pc]) rfl rfl rfl (by intro u hu; simp at hu; rcases hu with rfl | rfl <;> rfl) rfl ho5' (by omega) ?_) rfl
        intro H6 ho6 hk6 hs6
        rw [hl2] at ho6
        repeat (first | refine codeA (k := ?_) | refine condA (k := ?_) | refine offA (k := ?_) | refine pureA (k := ?_) | refine readA (k := ?_))
        refine At_back (a + 1, j + 1) ?_ ⟨?_, by dsimp only; omega, by dsimp only; omega, ?_, rows'.set a [.int .i64 sk, .slice p lk.length pc], ho6, by simpa using hl2, ?_, ?_⟩ (by dsimp only; omega)
        · (repeat (first | exact Sub.nil | refine Sub.cons rfl ?_))
        · dsimp only
          rw [htj]
          simp [ha]
        · exact Kept.trans hk5 hk6 (fun _ e _ => e) (fun _ e _ => e)
        · dsimp only
          rw [htj, List.take_add_one, List.take_set_of_le (Nat.le_refl a), ht2]
          have : a < rows'.length := by omega
          simp [this]
        · dsimp only
          rw [List.drop_set_of_lt (by omega), ← List.drop_drop, ← List.drop_drop, hd2]
    · obtain rfl : j = rows.length := by omega
      rw [List.take_length] at ha ht2
      repeat (first | refine codeA (k := ?_) | refine condA (k := ?_) | refine offA (k := ?_) | refine pureA (k := ?_) | refine readA (k := ?_))
      refine At_meet (J := fun s H' => s = (rows.filter (keepRow ack)).length ∧ Kept (· = g) H H' ∧ ∃ rows', OwnR H' 133 2 (.slice (some ⟨g, 0, none⟩) rows.length c) rows' ∧ rows'.length = rows.length ∧ rows'.take s = rows.filter (keepRow ack)) a ?_ ⟨ha, hk2, rows', ho2, hl2, ht2⟩
      (repeat (first | exact Sub.nil | refine Sub.cons rfl ?_))
  · rintro a H2 ⟨ha, hk2, rows', ho2, hl2, ht2⟩
    have hal : a < rows.length := by
      rw [ha]
      refine Nat.lt_of_le_of_ne (List.length_filter_le _ _) (fun e => ?_)
      have := List.length_filter_eq_length_iff.1 e rows[i] (by simp)
      rw [hrow0] at this
      cases this
    repeat (first | refine codeA (k := ?_) | refine condA (k := ?_) | refine offA (k := ?_) | refine pureA (k := ?_) | refine readA (k := ?_))
    refine At_pure (p_slice_lo rfl rfl (by omega) (by omega)) rfl rfl rfl ?_
    have ho2' : OwnR H2 133 2 (.slice (some ⟨g, 0, none⟩) rows'.length c) rows' := by rw [hl2]; exact ho2
    refine At_wp (W_clearRows (rows := rows') rfl (by omega) (by decide) rfl ho2' ?_) rfl
    intro H3 rows3 ho3 hl3 ht3 hk3 hs3
    repeat (first | refine codeA (k := ?_) | refine condA (k := ?_) | refine offA (k := ?_) | refine pureA (k := ?_) | refine readA (k := ?_))
    refine At_pure (p_slice_hi rfl rfl (by omega)) rfl rfl rfl ?_
    repeat (first | refine codeA (k := ?_) | refine condA (k := ?_) | refine offA (k := ?_) | refine pureA (k := ?_) | refine readA (k := ?_))
    have hk : Kept (· = g) H H3 := Kept.trans hk2 hk3 (fun _ e _ => e) (fun _ e _ => e)
    refine At_ret1 rfl rfl ⟨hk.mono (fun _ e _ => e.symm), ?_, rfl⟩
    obtain ⟨f1, f2⟩ := filter_rows (p := fun x : Int × List UInt8 => decide (ack < x.1)) (q := keepRow ack) hrl hq
    have ho4 := ho3.short (i := a) (by omega)
    rw [ht3, ht2] at ho4
    refine OwnR.toL ho4 f1 (fun k x row hx hr => ?_)
    obtain ⟨m, m1, m2⟩ := f2 k x row hx hr
    exact hR (hk.mono (fun _ e _ => e.symm)) x row (hrr m x row m1 m2)
end Go.Proofs.YtlaobecajieaaaaGreat
/- Take. -/
namespace Go.Proofs.YtlaobecajieaaaaGreat
open Go Ev
set_option linter.unusedVariables false
set_option linter.unusedSimpArgs false
attribute [local irreducible] Go.wpList Go.bodyPost Go.Code.wp Go.Exit.then Go.Exit.inBlock Go.Exit.noGoto Ev.wpAnyG Go.Oper.wp Ev.Back Ev.Left Ev.Spc Ev.At Ev.Pure Ev.Reads Ev.Runs Ev.Does Ev.Cell

def takeA (L : Lk) (f : Fr) : Lk := if L.other < f.epoch then { L with other := f.epoch, waits := [], sent := 0, came := 0 } else L
def takeB (L : Lk) (f : Fr) : Lk × Option (List UInt8) :=
  if f.peer ≠ L.epoch then ({ L with owes := true }, none) else
  if f.seq = 0 then ({ L with waits := L.waits.filter fun x => decide (f.ack < x.1) }, none) else
  if f.seq ≠ L.came + 1 then ({ L with waits := L.waits.filter fun x => decide (f.ack < x.1), owes := true }, none) else
  ({ L with waits := L.waits.filter fun x => decide (f.ack < x.1), owes := true, came := f.seq }, some f.body)
def takeL (L : Lk) (f : Fr) : Lk × Option (List UInt8) := if f.epoch < L.other then (L, none) else takeB (takeA L f) f

/-- a link whose waiting bodies lie in blocks that D lets -/
structure LinkD (D : Nat → Prop) (H : Heap) (p : Nat) (vw : Value) (L : Lk) : Prop where
  blk : H[p]? = some (.cells (lkCells L vw) 115 (0, 0))
  own : OwnL H 133 2 (WRow D H) vw L.waits
  ne : vw.ownBlock ≠ some p
  dis : ∀ b, D b → ¬ Ft p vw b
theorem WRow.keep {D D' S : Nat → Prop} {H H' : Heap} {x : Int × List UInt8} {row : List Value} (hr : WRow D H x row) (hk : Kept S H H') (h1 : ∀ b, D b → b < H.size → ¬ S b ∧ D' b) : WRow D' H' x row := by
  obtain ⟨bv, e1, e2⟩ := hr
  exact ⟨bv, e1, e2.keep hk h1⟩
theorem LinkD.lnk {D : Nat → Prop} {H : Heap} {p : Nat} {vw : Value} {L : Lk} (h : LinkD D H p vw L) : LinkAt H p vw L :=
  ⟨h.blk, h.own.imp (fun x row _ hr => hr.keep (Kept.refl (fun _ => False) H) (fun b hb _ => ⟨fun f => f, h.dis b hb⟩)), h.ne⟩
theorem LinkD.keep {D D' S : Nat → Prop} {H H' : Heap} {p : Nat} {vw : Value} {L : Lk} (h : LinkD D H p vw L) (hk : Kept S H H') (hp : ¬ S p) (hv : ∀ g, vw.ownBlock = some g → ¬ S g) (h1 : ∀ b, D b → b < H.size → ¬ S b ∧ D' b) (hd : ∀ b, D' b → ¬ Ft p vw b) : LinkD D' H' p vw L :=
  ⟨hk.keep h.blk hp, h.own.keep hk hv (fun x row _ hr => hr.keep hk h1), h.ne, hd⟩
theorem LinkD.ext {D : Nat → Prop} {H H' : Heap} {p : Nat} {vw : Value} {L : Lk} (h : LinkD D H p vw L) (hk : Ext H H') : LinkD D H' p vw L :=
  h.keep hk (fun f => f) (fun _ _ f => f) (fun b hb _ => ⟨fun f => f, hb⟩) h.dis
theorem LinkD.put {D : Nat → Prop} {H H' : Heap} {p : Nat} {vw : Value} {L : Lk} (L' : Lk) (h : LinkD D H p vw L) (hp : Put H H' p (.cells (lkCells L' vw) 115 (0, 0))) (hw : L'.waits = L.waits) : LinkD D H' p vw L' := by
  refine ⟨hp.at_, ?_, h.ne, h.dis⟩
  rw [hw]
  exact h.own.keep hp.kept (fun g hg e => h.ne (by rw [hg, e])) (fun x row _ hr => hr.keep hp.kept (fun b hb _ => ⟨fun e => h.dis b hb (.inl e), hb⟩))
theorem LinkD.putW {D : Nat → Prop} {H H' : Heap} {p : Nat} {vw r : Value} (L' : Lk) (h : OwnL H 133 2 (WRow D H) r L'.waits) (hne : vw.ownBlock ≠ some p) (hr : r.ownBlock = vw.ownBlock) (hd : ∀ b, D b → ¬ Ft p vw b) (hp : Put H H' p (.cells (lkCells L' r) 115 (0, 0))) : LinkD D H' p r L' := by
  refine ⟨hp.at_, ?_, by rw [hr]; exact hne, fun b hb => by simpa only [Ft, hr] using hd b hb⟩
  exact h.keep hp.kept (fun g hg e => hne (by rw [← hr, hg, e])) (fun x row _ hw => hw.keep hp.kept (fun b hb _ => ⟨fun e => hd b hb (.inl e), hb⟩))

theorem frames_specD {D : Nat → Prop} {H : Heap} {p : Nat} {vw : Value} {L : Lk} (h : LinkD D H p vw L) (hw : L.waits.length ≤ 1000) (hb : ∀ x ∈ L.waits, x.2.length ≤ 131072) :
    Spc Tryz.prog 26 #[.pointer (some ⟨p, 0, none⟩)] H fun v H' => LinkD D H' p vw { L with owes := false } ∧ Kept (· = p) H H' ∧ OwnL H' 92 7 (FRow (fun b => H.size ≤ b ∧ v.ownBlock ≠ some b) H') v (framesOf L) ∧ ∀ g, v.ownBlock = some g → H.size ≤ g :=
  (frames_spec h.lnk hw hb).mono fun v H' ⟨h1, h2, h3, h4⟩ => ⟨⟨h1.blk, h.own.keep h2 (fun g hg e => h.ne (by rw [hg, e])) (fun x row _ hr => hr.keep h2 (fun b hb _ => ⟨fun e => h.dis b hb (.inl e), hb⟩)), h.ne, h.dis⟩, h2, h3, h4⟩

/-- what Take leaves -/
structure TakeR (D : Nat → Prop) (H : Heap) (p : Nat) (vw : Value) (L : Lk) (f : Fr) (v : Value) (H' : Heap) : Prop where
  ex : ∃ bv vw', v = .tuple #[bv, .bool (takeL L f).2.isSome, .int .i64 0] ∧ BytesAt (fun b => H.size ≤ b) H' bv ((takeL L f).2.getD []) ∧ LinkD D H' p vw' (takeL L f).1 ∧ ∀ g, vw'.ownBlock = some g → vw.ownBlock = some g
  kept : Kept (Ft p vw) H H'

set_option maxHeartbeats 2000000 in
theorem take_spec {D : Nat → Prop} {H : Heap} {p : Nat} {vw bv : Value} {L : Lk} {f : Fr} (h : LinkD D H p vw L) (hb : BytesAt D H bv f.body) (hm : MayB L f) (hc : 0 ≤ L.came ∧ L.came ≤ 1000000000000) :
    Spc Tryz.prog 65 #[.pointer (some ⟨p, 0, none⟩), .agg (frCells f bv).toArray] H fun v H' => TakeR D H p vw L f v H' := by
  have hm' := hm
  obtain ⟨_, _, h3, h4, h5, h6, h7, _⟩ := hm'
  obtain ⟨q, c, rfl⟩ := hb.form
  have hbk := h.blk
  have hD := h.dis
  have hps := lt_of_heap hbk
  refine spec_of Tryz.func65 rfl Tryz.ntmps65 rfl (fun W => ?_)
  repeat (first | refine codeA (k := ?_) | refine condA (k := ?_) | refine offA (k := ?_) | refine pureA (k := ?_) | refine readA (k := ?_))
  refine At_wp (W_box (cs := #[.int .i64 f.frm, .int .i64 f.to, .int .i64 f.epoch, .int .i64 f.peer, .int .i64 f.seq, .int .i64 f.ack, .slice q f.body.length c]) rfl rfl rfl ?_) rfl
  intro bt H1 hn1
  have hx1 := hn1.ext
  have h1 : LinkD D H1 p vw L := h.ext hx1
  have hb1 : BytesAt D H1 (.slice q f.body.length c) f.body := hb.keep hx1 (fun b hb _ => ⟨fun f => f, hb⟩)
  have e1 := hn1.at_
  have hbt := hn1.blk
  repeat (first | refine codeA (k := ?_) | refine condA (k := ?_) | refine offA (k := ?_) | refine pureA (k := ?_) | refine readA (k := ?_))
  refine At_read (r_loadB rfl e1 rfl rfl) rfl rfl rfl ?_
  refine At_wp (W_call rfl rfl (may_yes h1.lnk hb1 hm) rfl rfl ?_) rfl
  rintro _ H2 ⟨hx2, rfl⟩
  have hx := hx1.trans hx2
  have h2 : LinkD D H2 p vw L := h.ext hx
  have e2 := hx2.keep e1 (fun f => f)
  have hbk2 := h2.blk
  have c2 : Cell H2 bt (0 + 2) (.int .i64 f.epoch) := Cell.of e2 rfl
  have d3 : Cell H2 p (0 + 3) (.int .i64 L.other) := Cell.of hbk2 rfl
  repeat (first | refine codeA (k := ?_) | refine condA (k := ?_) | refine offA (k := ?_) | refine pureA (k := ?_) | refine readA (k := ?_))
  by_cases hA : f.epoch < L.other
  · have eT : takeL L f = (L, none) := by unfold takeL; rw [if_pos hA]
    refine At_draw [1, 5] (fun H' => H' = H2) Tryz.mixed ?_
    first | refine gA 0 (k := ?_) | refine goffA 0 (k := ?_)
    refine grA 1 rfl (fun H' hS' => r_load rfl rfl (by subst hS'; exact c2)) (k := ?_)
    first | refine gA 2 (k := ?_) | refine goffA 2 (k := ?_)
    first | refine gA 3 (k := ?_) | refine goffA 3 (k := ?_)
    first | refine gA 4 (k := ?_) | refine goffA 4 (k := ?_)
    refine grA 5 rfl (fun H' hS' => r_load rfl rfl (by subst hS'; exact d3)) (k := ?_)
    first | refine gA 6 (k := ?_) | refine goffA 6 (k := ?_)
    refine G_done (by kernel_rfl) ?_
    repeat (first | refine codeA (k := ?_) | refine condA (k := ?_) | refine offA (k := ?_) | refine pureA (k := ?_) | refine readA (k := ?_))
    refine At_ret3 rfl rfl rfl rfl ⟨⟨.slice none 0 0, vw, ?_⟩, Kept.of_ext hx⟩
    rw [eT]
    exact ⟨rfl, BytesAt.nil _ _, h2, fun g hg => hg⟩
  · have eT : takeL L f = takeB (takeA L f) f := by unfold takeL; rw [if_neg hA]
    refine At_draw [1, 5] (fun H' => H' = H2) Tryz.mixed ?_
    first | refine gA 0 (k := ?_) | refine goffA 0 (k := ?_)
    refine grA 1 rfl (fun H' hS' => r_load rfl rfl (by subst hS'; exact c2)) (k := ?_)
    first | refine gA 2 (k := ?_) | refine goffA 2 (k := ?_)
    first | refine gA 3 (k := ?_) | refine goffA 3 (k := ?_)
    first | refine gA 4 (k := ?_) | refine goffA 4 (k := ?_)
    refine grA 5 rfl (fun H' hS' => r_load rfl rfl (by subst hS'; exact d3)) (k := ?_)
    first | refine gA 6 (k := ?_) | refine goffA 6 (k := ?_)
    refine G_done (by kernel_rfl) ?_
    repeat (first | refine codeA (k := ?_) | refine condA (k := ?_) | refine offA (k := ?_) | refine pureA (k := ?_) | refine readA (k := ?_))
    refine At_draw [1, 5] (fun H' => H' = H2) Tryz.mixed ?_
    first | refine gA 0 (k := ?_) | refine goffA 0 (k := ?_)
    refine grA 1 rfl (fun H' hS' => r_load rfl rfl (by subst hS'; exact c2)) (k := ?_)
    first | refine gA 2 (k := ?_) | refine goffA 2 (k := ?_)
    first | refine gA 3 (k := ?_) | refine goffA 3 (k := ?_)
    first | refine gA 4 (k := ?_) | refine goffA 4 (k := ?_)
    refine grA 5 rfl (fun H' hS' => r_load rfl rfl (by subst hS'; exact d3)) (k := ?_)
    refine gpA 6 (p_gtr rfl rfl) (k := ?_)
    refine G_done (by kernel_rfl) ?_
    refine At_then_normal ?_
    refine At_cut (fun (vw1 : Value) => [(0, .pointer (some ⟨p, 0, none⟩)), (3, .pointer (some ⟨bt, 0, none⟩))])
      (fun vw1 H' => LinkD D H' p vw1 (takeA L f) ∧ H'[bt]? = some (.cells #[.int .i64 f.frm, .int .i64 f.to, .int .i64 f.epoch, .int .i64 f.peer, .int .i64 f.seq, .int .i64 f.ack, .slice q f.body.length c] 92 (0, 0)) ∧ Kept (Ft p vw) H H' ∧ ∀ g, vw1.ownBlock = some g → vw.ownBlock = some g) ?_ ?_
    · refine At_cond_dec rfl (fun hB => ?_) (fun hB => ?_)
      · have hB' : L.other < f.epoch := hB
        repeat (first | refine codeA (k := ?_) | refine condA (k := ?_) | refine offA (k := ?_) | refine pureA (k := ?_) | refine readA (k := ?_))
        refine At_wp (W_store rfl rfl hbk2 rfl rfl rfl rfl ?_) rfl
        intro H3 p3
        repeat (first | refine codeA (k := ?_) | refine condA (k := ?_) | refine offA (k := ?_) | refine pureA (k := ?_) | refine readA (k := ?_))
        refine At_wp (W_store rfl rfl p3.at_ rfl rfl rfl rfl ?_) rfl
        intro H4 p4
        repeat (first | refine codeA (k := ?_) | refine condA (k := ?_) | refine offA (k := ?_) | refine pureA (k := ?_) | refine readA (k := ?_))
        refine At_wp (W_store rfl rfl p4.at_ rfl rfl rfl rfl ?_) rfl
        intro H5 p5
        repeat (first | refine codeA (k := ?_) | refine condA (k := ?_) | refine offA (k := ?_) | refine pureA (k := ?_) | refine readA (k := ?_))
        refine At_wp (W_store rfl rfl p5.at_ rfl rfl rfl rfl ?_) rfl
        intro H6 p6
        repeat (first | refine codeA (k := ?_) | refine condA (k := ?_) | refine offA (k := ?_) | refine pureA (k := ?_) | refine readA (k := ?_))
        have k6 : Kept (· = p) H2 H6 := Kept.trans (Kept.trans (Kept.trans p3.kept p4.kept (fun _ e _ => e) (fun _ e _ => e)) p5.kept (fun _ e _ => e) (fun _ e _ => e)) p6.kept (fun _ e _ => e) (fun _ e _ => e)
        refine At_meet (J := fun vw1 H' => LinkD D H' p vw1 (takeA L f) ∧ H'[bt]? = some (.cells #[.int .i64 f.frm, .int .i64 f.to, .int .i64 f.epoch, .int .i64 f.peer, .int .i64 f.seq, .int .i64 f.ack, .slice q f.body.length c] 92 (0, 0)) ∧ Kept (Ft p vw) H H' ∧ ∀ g, vw1.ownBlock = some g → vw.ownBlock = some g) (.slice none 0 0) ?_ ⟨?_, k6.keep e2 (fun e => by omega), Kept.trans hx k6 (fun _ f _ => f.elim) (fun i e _ => .inl e), fun g hg => by cases hg⟩
        · (repeat (first | exact Sub.nil | refine Sub.cons rfl ?_))
        · unfold takeA
          rw [if_pos hB']
          exact ⟨p6.at_, OwnL.nil _ _ _ _, (fun e => by cases e), fun b hb hf => hf.elim (fun e => hD b hb (.inl e)) (fun e => by cases e)⟩
      · have hB' : ¬ L.other < f.epoch := hB
        repeat (first | refine codeA (k := ?_) | refine condA (k := ?_) | refine offA (k := ?_) | refine pureA (k := ?_) | refine readA (k := ?_))
        refine At_meet (J := fun vw1 H' => LinkD D H' p vw1 (takeA L f) ∧ H'[bt]? = some (.cells #[.int .i64 f.frm, .int .i64 f.to, .int .i64 f.epoch, .int .i64 f.peer, .int .i64 f.seq, .int .i64 f.ack, .slice q f.body.length c] 92 (0, 0)) ∧ Kept (Ft p vw) H H' ∧ ∀ g, vw1.ownBlock = some g → vw.ownBlock = some g) vw ?_ ⟨?_, e2, Kept.of_ext hx, fun g hg => hg⟩
        · (repeat (first | exact Sub.nil | refine Sub.cons rfl ?_))
        · unfold takeA
          rw [if_neg hB']
          exact h2
    · rintro vw1 H3 ⟨h3', e3, hk3, hv1⟩
      have hcame : 0 ≤ (takeA L f).came ∧ (takeA L f).came ≤ 1000000000000 := by
        unfold takeA
        split
        · exact ⟨Int.le_refl 0, by show (0 : Int) ≤ 1000000000000; decide⟩
        · exact hc
      clear hA e1 e2 c2 d3 hbk2 h2 h1 hbk
      have hD3 : ∀ b, D b → ¬ Ft p vw1 b := fun b hb hf => by
        rcases hf with hf | hf
        · exact hD b hb (.inl hf)
        · exact hD b hb (.inr (hv1 b hf))
      have hb3 : BytesAt D H3 (.slice q f.body.length c) f.body := hb.keep hk3 (fun b hb _ => ⟨hD b hb, hb⟩)
      have hlt3 : bt < H3.size := lt_of_heap e3
      have hFt : ∀ i, Ft p vw1 i → Ft p vw i := fun i hf => hf.imp id (hv1 i)
      obtain ⟨q1, cap1, hvw1⟩ := h3'.lnk.vw
      have hblk := h3'.blk
      have hown := h3'.own
      have hne := h3'.ne
      have eT' : takeL L f = takeB (takeA L f) f := eT
      generalize takeA L f = L1 at *
      have hbt1 : ¬ Ft p vw bt := fun hf => by
        rcases hf with hf | hf
        · omega
        · rcases h.own.form with ⟨e, _⟩ | ⟨g, cg, e, hg, _⟩
          · rw [e] at hf; cases hf
          · rw [e] at hf
            simp only [Value.ownBlock, Option.some.injEq] at hf
            omega
      have c3 : Cell H3 bt (0 + 3) (.int .i64 f.peer) := Cell.of e3 rfl
      have d2 : Cell H3 p (0 + 2) (.int .i64 L1.epoch) := Cell.of hblk rfl
      by_cases hC : f.peer = L1.epoch
      rotate_left
      · have eU : takeL L f = ({ L1 with owes := true }, none) := by rw [eT']; unfold takeB; rw [if_pos hC]
        repeat (first | refine codeA (k := ?_) | refine condA (k := ?_) | refine offA (k := ?_) | refine pureA (k := ?_) | refine readA (k := ?_))
        refine At_draw [1, 5] (fun H' => H' = H3) Tryz.mixed ?_
        first | refine gA 0 (k := ?_) | refine goffA 0 (k := ?_)
        refine grA 1 rfl (fun H' hS' => r_load rfl rfl (by subst hS'; exact c3)) (k := ?_)
        first | refine gA 2 (k := ?_) | refine goffA 2 (k := ?_)
        first | refine gA 3 (k := ?_) | refine goffA 3 (k := ?_)
        first | refine gA 4 (k := ?_) | refine goffA 4 (k := ?_)
        refine grA 5 rfl (fun H' hS' => r_load rfl rfl (by subst hS'; exact d2)) (k := ?_)
        first | refine gA 6 (k := ?_) | refine goffA 6 (k := ?_)
        refine G_done (by kernel_rfl) ?_
        repeat (first | refine codeA (k := ?_) | refine condA (k := ?_) | refine offA (k := ?_) | refine pureA (k := ?_) | refine readA (k := ?_))
        refine At_wp (W_store rfl rfl hblk rfl rfl rfl rfl ?_) rfl
        intro H4 p4
        repeat (first | refine codeA (k := ?_) | refine condA (k := ?_) | refine offA (k := ?_) | refine pureA (k := ?_) | refine readA (k := ?_))
        refine At_ret3 rfl rfl rfl rfl ⟨⟨.slice none 0 0, vw1, ?_⟩, Kept.trans hk3 p4.kept (fun _ e _ => e) (fun _ e _ => .inl e)⟩
        rw [eU]
        exact ⟨rfl, BytesAt.nil _ _, h3'.put { L1 with owes := true } p4 rfl, hv1⟩
      repeat (first | refine codeA (k := ?_) | refine condA (k := ?_) | refine offA (k := ?_) | refine pureA (k := ?_) | refine readA (k := ?_))
      refine At_draw [1, 5] (fun H' => H' = H3) Tryz.mixed ?_
      first | refine gA 0 (k := ?_) | refine goffA 0 (k := ?_)
      refine grA 1 rfl (fun H' hS' => r_load rfl rfl (by subst hS'; exact c3)) (k := ?_)
      first | refine gA 2 (k := ?_) | refine goffA 2 (k := ?_)
      first | refine gA 3 (k := ?_) | refine goffA 3 (k := ?_)
      first | refine gA 4 (k := ?_) | refine goffA 4 (k := ?_)
      refine grA 5 rfl (fun H' hS' => r_load rfl rfl (by subst hS'; exact d2)) (k := ?_)
      first | refine gA 6 (k := ?_) | refine goffA 6 (k := ?_)
      refine G_done (by kernel_rfl) ?_
      repeat (first | refine codeA (k := ?_) | refine condA (k := ?_) | refine offA (k := ?_) | refine pureA (k := ?_) | refine readA (k := ?_))
      refine At_read (r_load rfl rfl (show Cell H3 p (0 + 4) vw1 from Cell.of hblk rfl)) rfl rfl rfl ?_
      refine At_pure (p_makeFunc0 (cap := [.tmp 3]) rfl) rfl rfl rfl ?_
      refine At_wp (W_call rfl rfl (delete_spec (bt := bt) (ack := f.ack) (Cell.of e3 rfl) hown (fun b hb e => hD3 b hb (.inr e)) (fun e => hbt1 (hFt _ (.inr e)))) rfl rfl ?_) rfl
      rintro r H4 ⟨hk4, ho4, hr4⟩
      have hblk4 := hk4.keep hblk hne
      have hlt4 := hk4.size
      have e4 := hk4.keep e3 (fun e => hbt1 (hFt _ (.inr e)))
      repeat (first | refine codeA (k := ?_) | refine condA (k := ?_) | refine offA (k := ?_) | refine pureA (k := ?_) | refine readA (k := ?_))
      refine At_wp (W_store rfl rfl hblk4 ?_ ?_ rfl rfl ?_) rfl
      · rcases ho4.form with ⟨e, _⟩ | ⟨g, cg, e, _⟩ <;> rw [e] <;> rfl
      · rcases ho4.form with ⟨e, _⟩ | ⟨g, cg, e, _⟩ <;> rw [e] <;> rfl
      intro H5 p5
      have h5' : LinkD D H5 p r { L1 with waits := L1.waits.filter fun x => decide (f.ack < x.1) } := LinkD.putW { L1 with waits := L1.waits.filter fun x => decide (f.ack < x.1) } ho4 hne hr4 hD3 p5
      have hbp : bt ≠ p := fun e => by omega
      have e5 := p5.kept.keep e4 hbp
      have hk5 : Kept (Ft p vw) H H5 := Kept.trans (Kept.trans hk3 hk4 (fun _ e _ => e) (fun i e _ => hFt i (.inr e))) p5.kept (fun _ e _ => e) (fun _ e _ => .inl e)
      have hv5 : ∀ g, r.ownBlock = some g → vw.ownBlock = some g := fun g hg => hv1 g (by rw [← hr4]; exact hg)
      have c4 : Cell H5 bt (0 + 4) (.int .i64 f.seq) := Cell.of e5 rfl
      have hblk5 := h5'.blk
      repeat (first | refine codeA (k := ?_) | refine condA (k := ?_) | refine offA (k := ?_) | refine pureA (k := ?_) | refine readA (k := ?_))
      by_cases hE : f.seq = 0
      · have eU : takeL L f = ({ L1 with waits := L1.waits.filter fun x => decide (f.ack < x.1) }, none) := by rw [eT']; unfold takeB; rw [if_neg (by simp [hC]), if_pos hE]
        repeat (first | refine codeA (k := ?_) | refine condA (k := ?_) | refine offA (k := ?_) | refine pureA (k := ?_) | refine readA (k := ?_))
        refine At_ret3 rfl rfl rfl rfl ⟨⟨.slice none 0 0, r, ?_⟩, hk5⟩
        rw [eU]
        exact ⟨rfl, BytesAt.nil _ _, h5', hv5⟩
      repeat (first | refine codeA (k := ?_) | refine condA (k := ?_) | refine offA (k := ?_) | refine pureA (k := ?_) | refine readA (k := ?_))
      refine At_wp (W_store rfl rfl hblk5 rfl rfl rfl rfl ?_) rfl
      intro H6 p6
      have h6' : LinkD D H6 p r { L1 with waits := L1.waits.filter fun x => decide (f.ack < x.1), owes := true } := h5'.put { L1 with waits := L1.waits.filter fun x => decide (f.ack < x.1), owes := true } p6 rfl
      have e6 := p6.kept.keep e5 hbp
      have hk6 : Kept (Ft p vw) H H6 := Kept.trans hk5 p6.kept (fun _ e _ => e) (fun _ e _ => .inl e)
      have hblk6 := h6'.blk
      have c6 : Cell H6 bt (0 + 4) (.int .i64 f.seq) := Cell.of e6 rfl
      have d6 : Cell H6 p (0 + 6) (.int .i64 L1.came) := Cell.of hblk6 rfl
      repeat (first | refine codeA (k := ?_) | refine condA (k := ?_) | refine offA (k := ?_) | refine pureA (k := ?_) | refine readA (k := ?_))
      by_cases hF : f.seq = L1.came + 1
      rotate_left
      · have eU : takeL L f = ({ L1 with waits := L1.waits.filter fun x => decide (f.ack < x.1), owes := true }, none) := by rw [eT']; unfold takeB; rw [if_neg (by simp [hC]), if_neg hE, if_pos hF]
        refine At_draw [1, 5] (fun H' => H' = H6) Tryz.mixed ?_
        first | refine gA 0 (k := ?_) | refine goffA 0 (k := ?_)
        refine grA 1 rfl (fun H' hS' => r_load rfl rfl (by subst hS'; exact c6)) (k := ?_)
        first | refine gA 2 (k := ?_) | refine goffA 2 (k := ?_)
        first | refine gA 3 (k := ?_) | refine goffA 3 (k := ?_)
        first | refine gA 4 (k := ?_) | refine goffA 4 (k := ?_)
        refine grA 5 rfl (fun H' hS' => r_load rfl rfl (by subst hS'; exact d6)) (k := ?_)
        first | refine gA 6 (k := ?_) | refine goffA 6 (k := ?_)
        first | refine gA 7 (k := ?_) | refine goffA 7 (k := ?_)
        refine G_done (by kernel_rfl) ?_
        repeat (first | refine codeA (k := ?_) | refine condA (k := ?_) | refine offA (k := ?_) | refine pureA (k := ?_) | refine readA (k := ?_))
        refine At_ret3 rfl rfl rfl rfl ⟨⟨.slice none 0 0, r, ?_⟩, hk6⟩
        rw [eU]
        exact ⟨rfl, BytesAt.nil _ _, h6', hv5⟩
      have eU : takeL L f = ({ L1 with waits := L1.waits.filter fun x => decide (f.ack < x.1), owes := true, came := f.seq }, some f.body) := by rw [eT']; unfold takeB; rw [if_neg (by simp [hC]), if_neg hE, if_neg (by simp [hF])]
      refine At_draw [1, 5] (fun H' => H' = H6) Tryz.mixed ?_
      first | refine gA 0 (k := ?_) | refine goffA 0 (k := ?_)
      refine grA 1 rfl (fun H' hS' => r_load rfl rfl (by subst hS'; exact c6)) (k := ?_)
      first | refine gA 2 (k := ?_) | refine goffA 2 (k := ?_)
      first | refine gA 3 (k := ?_) | refine goffA 3 (k := ?_)
      first | refine gA 4 (k := ?_) | refine goffA 4 (k := ?_)
      refine grA 5 rfl (fun H' hS' => r_load rfl rfl (by subst hS'; exact d6)) (k := ?_)
      first | refine gA 6 (k := ?_) | refine goffA 6 (k := ?_)
      first | refine gA 7 (k := ?_) | refine goffA 7 (k := ?_)
      refine G_done (by kernel_rfl) ?_
      repeat (first | refine codeA (k := ?_) | refine condA (k := ?_) | refine offA (k := ?_) | refine pureA (k := ?_) | refine readA (k := ?_))
      refine At_wp (W_store rfl rfl hblk6 rfl rfl rfl rfl ?_) rfl
      intro H7 p7
      have h7' : LinkD D H7 p r { L1 with waits := L1.waits.filter fun x => decide (f.ack < x.1), owes := true, came := f.seq } := h6'.put { L1 with waits := L1.waits.filter fun x => decide (f.ack < x.1), owes := true, came := f.seq } p7 rfl
      have e7 := p7.kept.keep e6 hbp
      have hk7 : Kept (Ft p vw) H H7 := Kept.trans hk6 p7.kept (fun _ e _ => e) (fun _ e _ => .inl e)
      have hb7 : BytesAt D H7 (.slice q f.body.length c) f.body := hb.keep hk7 (fun b hb _ => ⟨hD b hb, hb⟩)
      have hs7 := hk7.size
      repeat (first | refine codeA (k := ?_) | refine condA (k := ?_) | refine offA (k := ?_) | refine pureA (k := ?_) | refine readA (k := ?_))
      refine At_read (r_load rfl rfl (show Cell H7 bt (0 + 6) (.slice q f.body.length c) from Cell.of e7 rfl)) rfl rfl rfl ?_
      refine At_wp (W_call rfl rfl (clone_spec hb7 (by omega)) rfl rfl ?_) rfl
      rintro vb H8 ⟨hx8, hb8⟩
      repeat (first | refine codeA (k := ?_) | refine condA (k := ?_) | refine offA (k := ?_) | refine pureA (k := ?_) | refine readA (k := ?_))
      refine At_ret3 rfl rfl rfl rfl ⟨⟨vb, r, ?_⟩, hk7.then_ext hx8⟩
      rw [eU]
      exact ⟨rfl, hb8.mono (fun b hb _ => by omega), h7'.ext hx8, hv5⟩
end Go.Proofs.YtlaobecajieaaaaGreat

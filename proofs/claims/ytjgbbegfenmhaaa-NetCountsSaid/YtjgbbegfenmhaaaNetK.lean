/- Bytes spoilt, bytes twice; refusals of a network; Lose. -/
import Derived.Test.YtjgbbegfenmhaaaNetG
import Derived.Test.YtjgbbegfenmhaaaNetH
namespace Go.Proofs.Ytjgbbegfenmhaaa
open Go Ev
set_option linter.unusedVariables false
set_option linter.unusedSimpArgs false
theorem cell_dest {H : Heap} {b o : Nat} {v : Value} (h : Cell H b o v) : ∃ cs t fr, H[b]? = some (.cells cs t fr) ∧ cs[o]? = some v := h
attribute [local irreducible] Go.wpList Go.bodyPost Go.Code.wp Go.Exit.then Go.Exit.inBlock Go.Exit.noGoto Ev.wpAnyG Go.Oper.wp Ev.Back Ev.Left Ev.Spc Ev.At Ev.Pure Ev.Reads Ev.Runs Ev.Does Ev.Cell

/-- bytes stay bytes, and what may be written may be written still -/
structure Byt (H H' : Heap) : Prop where
  cell : ∀ b o (x : UInt8), Cell H b o (.int .u8 x.toNat) → ∃ y : UInt8, Cell H' b o (.int .u8 y.toNat)
  soft : ∀ b, Soft H b → Soft H' b
theorem Byt.refl (H : Heap) : Byt H H := ⟨fun _ _ x h => ⟨x, h⟩, fun _ h => h⟩
theorem Byt.trans {a b c : Heap} (h : Byt a b) (k : Byt b c) : Byt a c := ⟨fun g o x hc => by
  obtain ⟨y, hy⟩ := h.cell g o x hc
  exact k.cell g o y hy, fun b hb => k.soft b (h.soft b hb)⟩
theorem Byt.put {H H' : Heap} {b o : Nat} {cs : Array Value} {t : TypeId} {y : UInt8} (hb : H[b]? = some (.cells cs t (0, 0))) (hp : Put H H' b (.cells (cs.setIfInBounds o (.int .u8 y.toNat)) t (0, 0))) : Byt H H' := by
  refine ⟨fun b' o' x hc => ?_, fun b' hs => ?_⟩
  · by_cases e : b' = b
    · subst e
      obtain ⟨cs', t', fr', hb', hc'⟩ := cell_dest hc
      rw [hb] at hb'
      simp only [Option.some.injEq, Obj.cells.injEq] at hb'
      obtain ⟨rfl, rfl, rfl⟩ := hb'
      by_cases e2 : o = o'
      · subst e2
        refine ⟨y, Cell.of hp.at_ ?_⟩
        have := (Array.getElem?_eq_some_iff.1 hc').1
        simp [this]
      · exact ⟨x, Cell.of hp.at_ (by rw [Array.getElem?_setIfInBounds, if_neg e2]; exact hc')⟩
    · exact ⟨x, hc.keep hp.kept e⟩
  · by_cases e : b' = b
    · subst e; exact ⟨_, _, hp.at_⟩
    · exact hs.keep hp.kept e
theorem bytes_choose {Q : Nat → UInt8 → Prop} : ∀ (n : Nat), (∀ i, i < n → ∃ y, Q i y) → ∃ l : List UInt8, l.length = n ∧ ∀ i y, l[i]? = some y → Q i y
  | 0, _ => ⟨[], rfl, fun i y h => by simp at h⟩
  | n + 1, h => by
    obtain ⟨l, h1, h2⟩ := bytes_choose n (fun i hi => h i (by omega))
    obtain ⟨y, hy⟩ := h n (by omega)
    refine ⟨l ++ [y], by simp [h1], fun i z hz => ?_⟩
    by_cases e : i < n
    · rw [List.getElem?_append_left (by omega)] at hz
      exact h2 i z hz
    · have hi : i = n := by
        have := (List.getElem?_eq_some_iff.1 hz).1
        simp at this
        omega
      subst hi
      rw [List.getElem?_append_right (by omega)] at hz
      simp [h1] at hz
      rw [← hz]
      exact hy
theorem BytesAt.byt {D : Nat → Prop} {H H' : Heap} {v : Value} {l : List UInt8} (h : BytesAt D H v l) (hk : Byt H H') : ∃ l', l'.length = l.length ∧ BytesAt D H' v l' := by
  obtain ⟨p, c, e, h2, h3, h4, h5⟩ := h
  obtain ⟨l', e1, e2⟩ := bytes_choose (Q := fun i y => ∃ b o, p = some ⟨b, o, none⟩ ∧ D b ∧ Cell H' b (o + i) (.int .u8 y.toNat)) l.length (fun i hi => by
    obtain ⟨b, o, e, hD, hc⟩ := h5 i l[i] (by simp [hi])
    obtain ⟨y, hy⟩ := hk.cell _ _ _ hc
    exact ⟨y, b, o, e, hD, hy⟩)
  exact ⟨l', e1, p, c, by rw [e, e1], by omega, h3, h4, fun i x hx => e2 i x hx⟩
theorem u8_wrap (a : Int) : ∃ y : UInt8, IntKind.u8.wrap a = y.toNat := by
  have h : 0 ≤ IntKind.u8.wrap a ∧ IntKind.u8.wrap a < 256 := by
    simp [IntKind.wrap, IntKind.bits, IntKind.signed]; omega
  refine ⟨UInt8.ofNat (IntKind.u8.wrap a).toNat, ?_⟩
  have e : (UInt8.ofNat (IntKind.u8.wrap a).toNat).toNat = (IntKind.u8.wrap a).toNat := by
    simp only [UInt8.toNat_ofNat']
    omega
  rw [e]
  omega

set_option maxHeartbeats 1000000 in
theorem spoil_spec {D : Nat → Prop} {H : Heap} {v : Value} {l : List UInt8} (hb : BytesAt (fun b => D b ∧ Soft H b) H v l) :
    Spc Try.prog 18 #[v] H fun r H' => r = .tuple #[] ∧ Kept D H H' ∧ H'.size = H.size ∧ Byt H H' := by
  have hlen := hb.len_le
  simp only [maxLen] at hlen
  obtain ⟨p, c, rfl⟩ := hb.form
  refine spec_of Try.func18 rfl Try.ntmps18 rfl (fun W => ?_)
  repeat (first | refine codeA (k := ?_) | refine condA (k := ?_) | refine offA (k := ?_) | refine pureA (k := ?_) | refine readA (k := ?_))
  refine At_block ?_
  refine At_loop (fun (s : Nat) => [(0, .slice p l.length c), (2, .int .i64 s)]) (fun s H' => s ≤ l.length ∧ Kept D H H' ∧ H'.size = H.size ∧ Byt H H') (fun s => l.length - s) 0 ?_ ⟨Nat.zero_le _, Kept.refl _ _, rfl, Byt.refl _⟩ ?_
  · (repeat (first | exact Sub.nil | refine Sub.cons rfl ?_))
  rintro i H1 ⟨hi, hk1, hs1, hb1⟩
  by_cases hil : i < l.length
  rotate_left
  · repeat (first | refine codeA (k := ?_) | refine condA (k := ?_) | refine offA (k := ?_) | refine pureA (k := ?_) | refine readA (k := ?_))
    exact At_ret0 rfl ⟨rfl, hk1, hs1, hb1⟩ (.inl rfl)
  have hx : l[i]? = some l[i] := by simp [hil]
  generalize l[i] = x at hx
  obtain ⟨b, o, rfl, ⟨hD, hsf⟩, hlt, hcells⟩ := hb.some (by omega)
  obtain ⟨y, hy⟩ := hb1.cell _ _ _ (hcells i x hx)
  have hy' : Cell H1 b (o + i * 1) (.int .u8 y.toNat) := by rw [Nat.mul_one]; exact hy
  obtain ⟨cs, t, hcs⟩ := hb1.soft b hsf
  have hol : o + i < cs.size := by
    obtain ⟨cs', t', fr', hb', hc'⟩ := cell_dest hy
    rw [hcs] at hb'
    simp only [Option.some.injEq, Obj.cells.injEq] at hb'
    obtain ⟨rfl, _⟩ := hb'
    exact (Array.getElem?_eq_some_iff.1 hc').1
  obtain ⟨z, hz⟩ := u8_wrap (y.toNat + 77)
  repeat (first | refine codeA (k := ?_) | refine condA (k := ?_) | refine offA (k := ?_) | refine pureA (k := ?_) | refine readA (k := ?_) | refine At_block ?_)
  refine At_pure (p_addw rfl rfl) rfl rfl rfl ?_
  repeat (first | refine codeA (k := ?_) | refine condA (k := ?_) | refine offA (k := ?_) | refine pureA (k := ?_) | refine readA (k := ?_))
  refine At_tell 15 (.int .u8 z.toNat) rfl (by rw [← hz]) ?_
  repeat (first | refine codeA (k := ?_) | refine condA (k := ?_) | refine offA (k := ?_) | refine pureA (k := ?_) | refine readA (k := ?_))
  refine At_wp (W_store rfl rfl hcs rfl rfl rfl (Nat.ble_eq_true_of_le (by omega)) ?_) rfl
  intro H2 p2
  repeat (first | refine codeA (k := ?_) | refine condA (k := ?_) | refine offA (k := ?_) | refine pureA (k := ?_) | refine readA (k := ?_))
  refine At_back (i + 1) ?_ ⟨by omega, Kept.trans hk1 p2.kept (fun _ h _ => h) (fun j e _ => by subst e; exact hD), by rw [p2.size, hs1], hb1.trans (Byt.put hcs p2)⟩ (by omega)
  (repeat (first | exact Sub.nil | refine Sub.cons rfl ?_))

theorem keepTwin_spec {D : Nat → Prop} {H : Heap} {v : Value} {l : List UInt8} (hb : BytesAt D H v l) (hl : l.length ≤ 70368744177664) :
    Spc Try.prog 29 #[v] H fun v' H' => Ext H H' ∧ BytesAt (fun b => H.size ≤ b ∧ Soft H' b) H' v' l := by
  refine spec_of Try.func29 rfl Try.ntmps29 rfl (fun W => ?_)
  obtain ⟨p, c, rfl⟩ := hb.form
  repeat (first | refine codeA (k := ?_) | refine condA (k := ?_) | refine offA (k := ?_) | refine pureA (k := ?_) | refine readA (k := ?_))
  rcases Nat.eq_zero_or_pos l.length with h0 | hp
  · have hl0 : l = [] := List.eq_nil_of_length_eq_zero h0
    subst hl0
    refine At_read (r_append0 rfl rfl (Nat.le_refl _)) rfl rfl rfl ?_
    repeat (first | refine codeA (k := ?_) | refine condA (k := ?_) | refine offA (k := ?_) | refine pureA (k := ?_) | refine readA (k := ?_))
    exact At_ret1 rfl rfl ⟨Kept.refl _ _, BytesAt.nil _ _⟩
  · obtain ⟨b, o, rfl, _, h3, h5⟩ := hb.some hp
    refine At_wp (W_append (base := 0) (e := 5) (size := 1) (xs := []) (nn := 0) (news := l.map fun x => .int .u8 x.toNat) rfl rfl (Own.nil _ _ _ _) ?_ ?_ ?_ (Nat.zero_le _) rfl (by decide) hp ?_ ?_ rfl ?_) rfl
    · simp
    · intro j u hj
      simp only [List.getElem?_map, Option.map_eq_some_iff] at hj
      obtain ⟨x, hx, rfl⟩ := hj
      exact h5 j x hx
    · intro u hu
      simp only [List.mem_map] at hu
      obtain ⟨x, _, rfl⟩ := hu
      rfl
    · simp only [maxLen]; omega
    · omega
    intro g2 c2 H2 hown2 hk2 hg2
    rw [List.nil_append, Nat.zero_add] at hown2
    repeat (first | refine codeA (k := ?_) | refine condA (k := ?_) | refine offA (k := ?_) | refine pureA (k := ?_) | refine readA (k := ?_))
    refine At_ret1 rfl rfl ⟨hk2.mono (fun i e _ => by cases e), ?_⟩
    rw [Nat.zero_add]
    rcases hown2.form with ⟨h, _⟩ | ⟨g3, c3, h, _, _, h6, h7⟩
    · cases h
    · simp only [Value.slice.injEq, true_and] at h
      refine BytesAt.mk (by omega) (by omega) ⟨?_, own_soft hown2⟩ (fun i x hx => ?_)
      · rcases hg2 with e | e
        · cases e
        · exact e
      · rw [Nat.zero_add]
        exact hown2.cell (by simp [hx])

theorem new_err (n : Int) (H : Heap) (h : n < 1 ∨ 64 < n) : Spc Try.prog 7 #[.int .i64 n] H fun v H' => v = .tuple #[.pointer none, .int .i64 26] ∧ H' = H := by
  refine spec_of Try.func7 rfl Try.ntmps7 rfl (fun W => ?_)
  by_cases h1 : n < 1
  · repeat (first | refine codeA (k := ?_) | refine condA (k := ?_) | refine offA (k := ?_) | refine pureA (k := ?_) | refine readA (k := ?_))
    exact At_ret2 rfl rfl rfl ⟨rfl, rfl⟩
  · repeat (first | refine codeA (k := ?_) | refine condA (k := ?_) | refine offA (k := ?_) | refine pureA (k := ?_) | refine readA (k := ?_))
    exact At_ret2 rfl rfl rfl ⟨rfl, rfl⟩
theorem lose_miss {D : Nat → Prop} {H : Heap} {p : Nat} {vr : Value} {N : Nt} (h : NetD D H p vr N) {i : Int} (hi : ¬ (0 ≤ i ∧ i < N.row.length)) :
    Spc Try.prog 19 #[.pointer (some ⟨p, 0, none⟩), .int .i64 i] H fun r H' => H' = H ∧ r = .int .i64 12 := by
  refine spec_of Try.func19 rfl Try.ntmps19 rfl (fun W => ?_)
  repeat (first | refine codeA (k := ?_) | refine condA (k := ?_) | refine offA (k := ?_) | refine pureA (k := ?_) | refine readA (k := ?_))
  refine At_wp (W_call rfl rfl (place_spec h i) rfl rfl ?_) rfl
  rintro _ _ ⟨rfl, rfl⟩
  rw [decide_eq_false hi]
  repeat (first | refine codeA (k := ?_) | refine condA (k := ?_) | refine offA (k := ?_) | refine pureA (k := ?_) | refine readA (k := ?_))
  exact At_ret1 rfl rfl ⟨rfl, rfl⟩
theorem twice_miss {D : Nat → Prop} {H : Heap} {p : Nat} {vr : Value} {N : Nt} (h : NetD D H p vr N) {i : Int} (hi : ¬ (0 ≤ i ∧ i < N.row.length)) :
    Spc Try.prog 14 #[.pointer (some ⟨p, 0, none⟩), .int .i64 i] H fun r H' => H' = H ∧ r = .int .i64 12 := by
  refine spec_of Try.func14 rfl Try.ntmps14 rfl (fun W => ?_)
  repeat (first | refine codeA (k := ?_) | refine condA (k := ?_) | refine offA (k := ?_) | refine pureA (k := ?_) | refine readA (k := ?_))
  refine At_wp (W_call rfl rfl (place_spec h i) rfl rfl ?_) rfl
  rintro _ _ ⟨rfl, rfl⟩
  rw [decide_eq_false hi]
  repeat (first | refine codeA (k := ?_) | refine condA (k := ?_) | refine offA (k := ?_) | refine pureA (k := ?_) | refine readA (k := ?_))
  exact At_ret1 rfl rfl ⟨rfl, rfl⟩
theorem cut_miss {D : Nat → Prop} {H : Heap} {p : Nat} {vr : Value} {N : Nt} (h : NetD D H p vr N) {a b : Int} {on : Bool} (hi : ¬ (0 ≤ a ∧ a < N.n ∧ 0 ≤ b ∧ b < N.n)) :
    Spc Try.prog 8 #[.pointer (some ⟨p, 0, none⟩), .int .i64 a, .int .i64 b, .bool on] H fun r H' => H' = H ∧ r = .int .i64 26 := by
  refine spec_of Try.func8 rfl Try.ntmps8 rfl (fun W => ?_)
  repeat (first | refine codeA (k := ?_) | refine condA (k := ?_) | refine offA (k := ?_) | refine pureA (k := ?_) | refine readA (k := ?_))
  refine At_wp (W_call rfl rfl (is_spec h a) rfl rfl ?_) rfl
  rintro _ _ ⟨rfl, rfl⟩
  by_cases ha : 0 ≤ a ∧ a < N.n
  · rw [decide_eq_true ha]
    repeat (first | refine codeA (k := ?_) | refine condA (k := ?_) | refine offA (k := ?_) | refine pureA (k := ?_) | refine readA (k := ?_))
    refine At_wp (W_call rfl rfl (is_spec h b) rfl rfl ?_) rfl
    rintro _ _ ⟨rfl, rfl⟩
    rw [decide_eq_false (fun e => hi ⟨ha.1, ha.2, e.1, e.2⟩)]
    repeat (first | refine codeA (k := ?_) | refine condA (k := ?_) | refine offA (k := ?_) | refine pureA (k := ?_) | refine readA (k := ?_))
    exact At_ret1 rfl rfl ⟨rfl, rfl⟩
  · rw [decide_eq_false ha]
    repeat (first | refine codeA (k := ?_) | refine condA (k := ?_) | refine offA (k := ?_) | refine pureA (k := ?_) | refine readA (k := ?_))
    exact At_ret1 rfl rfl ⟨rfl, rfl⟩
set_option maxHeartbeats 1000000 in
theorem lose_hit {D : Nat → Prop} {H : Heap} {p : Nat} {vr : Value} {N : Nt} (h0 : NetD D H p vr N) (hlen : N.row.length ≤ 4096) {i : Nat} (hil : i < N.row.length) :
    Spc Try.prog 19 #[.pointer (some ⟨p, 0, none⟩), .int .i64 i] H fun r H' => r = .int .i64 0 ∧ Kept (Fn p vr) H H' ∧ ∃ vr', NetD D H' p vr' { N with row := N.row.eraseIdx i } ∧ vr'.ownBlock = vr.ownBlock := by
  have h := h0.lim
  obtain ⟨g, c, hvr, hgl⟩ : ∃ g c, vr = .slice (some ⟨g, 0, none⟩) N.row.length c ∧ g < H.size := by
    rcases h.own.form with ⟨e1, e2⟩ | ⟨g, c, e1, e2, _⟩
    · rw [e2] at hil; simp at hil
    · exact ⟨g, c, e1, e2⟩
  refine spec_of Try.func19 rfl Try.ntmps19 rfl (fun W => ?_)
  repeat (first | refine codeA (k := ?_) | refine condA (k := ?_) | refine offA (k := ?_) | refine pureA (k := ?_) | refine readA (k := ?_))
  refine At_wp (W_call rfl rfl (place_spec h i) rfl rfl ?_) rfl
  rintro _ _ ⟨rfl, rfl⟩
  rw [decide_eq_true ⟨by omega, by omega⟩]
  have d1 := h.c1
  rw [hvr] at d1
  have hdel := delete_spec h.own hil (fun b hb => (h.dis b hb).2)
  rw [hvr] at hdel
  repeat (first | refine codeA (k := ?_) | refine condA (k := ?_) | refine offA (k := ?_) | refine pureA (k := ?_) | refine readA (k := ?_))
  refine At_wp (W_call rfl rfl hdel rfl rfl ?_) rfl
  rw [← hvr]
  rintro r H3 ⟨hk3, hr3, ho3⟩
  obtain ⟨cs, k1, k2, k3⟩ := h.blk
  have k1' := hk3.keep k1 h.ne
  repeat (first | refine codeA (k := ?_) | refine condA (k := ?_) | refine offA (k := ?_) | refine pureA (k := ?_) | refine readA (k := ?_))
  refine At_wp (W_store rfl rfl k1' ?_ ?_ rfl (Nat.ble_eq_true_of_le (by simp)) ?_) rfl
  · rcases ho3.form with ⟨e, _⟩ | ⟨g, cg, e, _⟩ <;> rw [e] <;> rfl
  · rcases ho3.form with ⟨e, _⟩ | ⟨g, cg, e, _⟩ <;> rw [e] <;> rfl
  intro H4 p4
  have h4 : NetD (fun b => D b ∧ b < H.size) H4 p r { N with row := N.row.eraseIdx i } := by
    refine ⟨⟨cs, ?_, k2, k3⟩, ho3.keep p4.kept (fun g hg e => h.ne (by rw [← hr3, hg, e])) (fun x row _ hr => hr.keep p4.kept (fun b hb hl => ⟨(h.dis b hb).1, hb⟩)), by rw [hr3]; exact h.ne, fun b hb => by rw [hr3]; exact h.dis b hb⟩
    rw [p4.at_]
    congr 2
  repeat (first | refine codeA (k := ?_) | refine condA (k := ?_) | refine offA (k := ?_) | refine pureA (k := ?_) | refine readA (k := ?_))
  exact At_ret1 rfl rfl ⟨rfl, Kept.trans hk3 p4.kept (fun _ e _ => .inr e) (fun _ e _ => .inl e), r, h4.to (fun b hb _ => hb.1) (fun b hb => by rw [hr3]; exact h0.dis b hb), hr3⟩
end Go.Proofs.Ytjgbbegfenmhaaa

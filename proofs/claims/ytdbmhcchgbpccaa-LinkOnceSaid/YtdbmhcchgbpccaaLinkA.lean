/- Copies and comparisons of byte slices; a link's making and asking; Send. -/
import Derived.Test.YtdbmhcchgbpccaaTab
import Derived.Test.YtdbmhcchgbpccaaEvAuto
namespace Go.Proofs.Ytdbmhcchgbpccaa
open Go Ev
set_option linter.unusedVariables false
set_option linter.unusedSimpArgs false
attribute [local irreducible] Go.wpList Go.bodyPost Go.Code.wp Go.Exit.then Go.Exit.inBlock Go.Exit.noGoto Ev.wpAnyG Go.Oper.wp Ev.Back Ev.Left Ev.Spc Ev.At Ev.Pure Ev.Reads Ev.Runs Ev.Does Ev.Cell

theorem clone_spec {D : Nat → Prop} {H : Heap} {v : Value} {l : List UInt8} (hb : BytesAt D H v l) (hl : l.length ≤ 70368744177664) :
    Spc Try.prog 21 #[v] H fun v' H' => Ext H H' ∧ BytesAt (fun b => H.size ≤ b) H' v' l := by
  refine spec_of Try.func21 rfl Try.ntmps21 rfl (fun W => ?_)
  obtain ⟨p, c, rfl⟩ := hb.form
  obtain ⟨_, hc0, hcm, hpn⟩ : ∃ u : Unit, l.length ≤ c ∧ c ≤ maxLen ∧ (p = none → c = 0) := by
    obtain ⟨p', c', e, h1, h2, h3, _⟩ := hb
    cases e
    exact ⟨(), h1, h2, h3⟩
  cases p with
  | none =>
    have hl0 : l = [] := List.eq_nil_of_length_eq_zero (by have := hpn rfl; omega)
    subst hl0
    repeat (first | refine codeA (k := ?_) | refine condA (k := ?_) | refine offA (k := ?_) | refine pureA (k := ?_) | refine readA (k := ?_))
    exact At_ret1 rfl rfl ⟨Kept.refl _ _, BytesAt.nil _ _⟩
  | some ad =>
    repeat (first | refine codeA (k := ?_) | refine condA (k := ?_) | refine offA (k := ?_) | refine pureA (k := ?_) | refine readA (k := ?_))
    refine At_wp (W_buildSlice0 rfl ?_) rfl
    intro g H1 hn
    repeat (first | refine codeA (k := ?_) | refine condA (k := ?_) | refine offA (k := ?_) | refine pureA (k := ?_) | refine readA (k := ?_))
    rcases Nat.eq_zero_or_pos l.length with h0 | hp
    · have hl0 : l = [] := List.eq_nil_of_length_eq_zero h0
      subst hl0
      refine At_read (r_append0 rfl rfl (Nat.le_refl _)) rfl rfl rfl ?_
      repeat (first | refine codeA (k := ?_) | refine condA (k := ?_) | refine offA (k := ?_) | refine pureA (k := ?_) | refine readA (k := ?_))
      refine At_ret1 rfl rfl ⟨hn.ext, BytesAt.mk (l := []) (Nat.le_refl _) (by simp [maxLen]) (by have := hn.blk; omega) (fun i x h => by simp at h)⟩
    · obtain ⟨b, o, e, _, h3, h5⟩ := hb.some hp
      simp only [Option.some.injEq] at e
      subst e
      have hgb : g ≠ b := by have := hn.blk; omega
      have hown : Own H1 0 5 1 (.slice (some ⟨g, 0, none⟩) 0 0) 0 [] := ⟨by simp, .inr ⟨g, 0, #[], rfl, Nat.zero_le _, hn.at_, Nat.le_refl _, by simp [maxLen], by simp, by simp⟩⟩
      refine At_wp (W_append (news := l.map fun x => .int .u8 x.toNat) rfl rfl hown ?_ ?_ ?_ (Nat.zero_le _) rfl (by decide) hp ?_ ?_ rfl ?_) rfl
      · simp
      · intro j u hj
        simp only [List.getElem?_map, Option.map_eq_some_iff] at hj
        obtain ⟨x, hx, rfl⟩ := hj
        exact (h5 j x hx).keep hn.ext (fun f => f)
      · intro u hu
        simp only [List.mem_map] at hu
        obtain ⟨x, _, rfl⟩ := hu
        rfl
      · simp only [maxLen]; omega
      · omega
      intro g2 c2 H2 hown2 hk2 hg2
      rw [List.nil_append, Nat.zero_add] at hown2
      repeat (first | refine codeA (k := ?_) | refine condA (k := ?_) | refine offA (k := ?_) | refine pureA (k := ?_) | refine readA (k := ?_))
      have hb2 := hn.blk
      have hs2 := hn.size
      have hk2s := hk2.size
      have hb3 : BytesAt (fun b => H.size ≤ b) H2 (.slice (some ⟨g2, 0, none⟩) l.length c2) l := by
        rcases hown2.form with ⟨h, _⟩ | ⟨g3, c3, h, _, _, h6, h7⟩
        · cases h
        · simp only [Value.slice.injEq, true_and] at h
          refine BytesAt.mk (by omega) (by omega) ?_ (fun i x hx => ?_)
          · simp only [Value.ownBlock, Option.some.injEq] at hg2
            omega
          · rw [Nat.zero_add]
            exact hown2.cell (by simp [hx])
      refine At_ret1 rfl rfl ⟨Kept.trans hn.ext hk2 (fun _ f _ => f) (fun i hi hlt => ?_), ?_⟩
      · simp only [Value.ownBlock, Option.some.injEq] at hi
        omega
      · rw [Nat.zero_add]
        exact hb3

theorem bytes_spec {D D' : Nat → Prop} {H : Heap} {v v' : Value} {l l' : List UInt8} (h1 : BytesAt D H v l) (h2 : BytesAt D' H v' l') :
    Spc Try.prog 12 #[v, v'] H fun r H' => H = H' ∧ r = .bool (decide (l = l')) := by
  refine spec_of Try.func12 rfl Try.ntmps12 rfl (fun W => ?_)
  repeat (first | refine codeA (k := ?_) | refine condA (k := ?_) | refine offA (k := ?_) | refine pureA (k := ?_) | refine readA (k := ?_))
  refine At_read (r_bytesStr rfl h1) rfl rfl rfl ?_
  repeat (first | refine codeA (k := ?_) | refine condA (k := ?_) | refine offA (k := ?_) | refine pureA (k := ?_) | refine readA (k := ?_))
  refine At_read (r_bytesStr rfl h2) rfl rfl rfl ?_
  refine At_pure (p_eql_string rfl rfl) rfl rfl rfl ?_
  repeat (first | refine codeA (k := ?_) | refine condA (k := ?_) | refine offA (k := ?_) | refine pureA (k := ?_) | refine readA (k := ?_))
  exact At_ret1 rfl rfl ⟨rfl, rfl⟩

theorem cluster_spec (i : Int) (H : Heap) : Spc Try.prog 20 #[.int .i64 i] H fun v H' => H = H' ∧ v = .bool (decide (0 ≤ i ∧ i < 64)) := by
  refine spec_of Try.func20 rfl Try.ntmps20 rfl (fun W => ?_)
  by_cases h1 : 0 ≤ i
  · by_cases h2 : i < 64
    · repeat (first | refine codeA (k := ?_) | refine condA (k := ?_) | refine offA (k := ?_) | refine pureA (k := ?_) | refine readA (k := ?_))
      exact At_ret1 rfl rfl ⟨rfl, by simp [h1, h2]⟩
    · repeat (first | refine codeA (k := ?_) | refine condA (k := ?_) | refine offA (k := ?_) | refine pureA (k := ?_) | refine readA (k := ?_))
      exact At_ret1 rfl rfl ⟨rfl, by simp [h2]⟩
  · repeat (first | refine codeA (k := ?_) | refine condA (k := ?_) | refine offA (k := ?_) | refine pureA (k := ?_) | refine readA (k := ?_))
    exact At_ret1 rfl rfl ⟨rfl, by simp [h1]⟩
theorem cluster_yes (i : Int) (H : Heap) (h : 0 ≤ i ∧ i < 64) : Spc Try.prog 20 #[.int .i64 i] H fun v H' => H = H' ∧ v = .bool true :=
  (cluster_spec i H).mono fun v H' ⟨h1, h2⟩ => ⟨h1, by rw [h2, decide_eq_true h]⟩

theorem new_ok (me peer ep : Int) (H : Heap) (h1 : 0 ≤ me ∧ me < 64) (h2 : 0 ≤ peer ∧ peer < 64) (h3 : 1 ≤ ep) :
    Spc Try.prog 7 #[.int .i64 me, .int .i64 peer, .int .i64 ep] H fun v H' => ∃ b, v = .tuple #[.pointer (some ⟨b, 0, none⟩), .int .i64 0] ∧
      New H H' b (.cells #[.int .i64 me, .int .i64 peer, .int .i64 ep, .int .i64 0, .slice none 0 0, .int .i64 0, .int .i64 0, .bool false] 53) := by
  refine spec_of Try.func7 rfl Try.ntmps7 rfl (fun W => ?_)
  repeat (first | refine codeA (k := ?_) | refine condA (k := ?_) | refine offA (k := ?_) | refine pureA (k := ?_) | refine readA (k := ?_))
  refine At_wp (W_call rfl rfl (cluster_yes me H h1) rfl rfl ?_) rfl
  rintro _ _ ⟨rfl, rfl⟩
  repeat (first | refine codeA (k := ?_) | refine condA (k := ?_) | refine offA (k := ?_) | refine pureA (k := ?_) | refine readA (k := ?_))
  refine At_wp (W_call rfl rfl (cluster_yes peer H h2) rfl rfl ?_) rfl
  rintro _ _ ⟨rfl, rfl⟩
  repeat (first | refine codeA (k := ?_) | refine condA (k := ?_) | refine offA (k := ?_) | refine pureA (k := ?_) | refine readA (k := ?_))
  refine At_pure (p_build [.int .i64 me, .int .i64 peer, .int .i64 ep, .int .i64 0, .slice none 0 0, .int .i64 0, .int .i64 0, .bool false] rfl rfl) rfl rfl rfl ?_
  refine At_wp (W_box rfl rfl rfl ?_) rfl
  intro b H1 hn
  repeat (first | refine codeA (k := ?_) | refine condA (k := ?_) | refine offA (k := ?_) | refine pureA (k := ?_) | refine readA (k := ?_))
  exact At_ret2 rfl rfl rfl ⟨b, rfl, hn⟩
end Go.Proofs.Ytdbmhcchgbpccaa

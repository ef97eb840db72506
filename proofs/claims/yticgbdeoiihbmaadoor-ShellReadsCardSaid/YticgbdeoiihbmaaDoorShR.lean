/- The walk of the law. -/
import Derived.Test.YticgbdeoiihbmaaDoorShQ
namespace Go.Proofs.YticgbdeoiihbmaaDoor
open Go Ev
set_option linter.unusedVariables false
set_option linter.unusedSimpArgs false

theorem ite_or {q : Prop} [Decidable q] {x y : Option Ac} {a : Ac} (h : (if q then x else y) = some a) : x = some a ∨ y = some a := by
  split at h
  · exact .inl h
  · exact .inr h
theorem Wf.of0 {a : Ac} (h1 : a.nn = 0) (h2 : a.nl = 0) (h3 : a.bn = 0) (h4 : a.bl = 0) : Wf a := ⟨by rw [h1]; exact Nat.zero_le _, by rw [h2]; exact Nat.zero_le _, by rw [h3]; exact Nat.zero_le _, by rw [h4]; exact Nat.zero_le _⟩
theorem pl_cancel_wf {n : List Int} {a : Ac} (h : pl_cancel n = some a) : Wf a ∧ a.sites = [] := by
  unfold pl_cancel at h
  split at h
  · cases h
    exact ⟨Wf.of0 rfl rfl rfl rfl, rfl⟩
  · cases h
theorem pl_status_wf {n : List Int} {a : Ac} (h : pl_status n = some a) : Wf a ∧ a.sites = [] := by
  unfold pl_status at h
  split at h
  · cases h
    exact ⟨Wf.of0 rfl rfl rfl rfl, rfl⟩
  · cases h
theorem pl_reserve_wf {n : List Int} {a : Ac} (h : pl_reserve n = some a) : Wf a ∧ a.sites = [] := by
  unfold pl_reserve at h
  split at h
  · split at h
    · rename_i hok
      cases h
      exact ⟨⟨Nat.zero_le _, Nat.zero_le _, fl_le _ hok.1, fl_le _ hok.2.2.1⟩, rfl⟩
    · cases h
  · cases h
theorem pl_unreserve_wf {n : List Int} {a : Ac} (h : pl_unreserve n = some a) : Wf a ∧ a.sites = [] := by
  unfold pl_unreserve at h
  split at h
  · cases h
    exact ⟨Wf.of0 rfl rfl rfl rfl, rfl⟩
  · cases h
theorem pl_drain_wf {n : List Int} {a : Ac} (h : pl_drain n = some a) : Wf a ∧ a.sites = [] := by
  unfold pl_drain at h
  split at h
  · cases h
    exact ⟨Wf.of0 rfl rfl rfl rfl, rfl⟩
  · cases h
theorem pl_undrain_wf {n : List Int} {a : Ac} (h : pl_undrain n = some a) : Wf a ∧ a.sites = [] := by
  unfold pl_undrain at h
  split at h
  · cases h
    exact ⟨Wf.of0 rfl rfl rfl rfl, rfl⟩
  · cases h
theorem pl_tick_wf {n : List Int} {a : Ac} (h : pl_tick n = some a) : Wf a ∧ a.sites = [] := by
  unfold pl_tick at h
  split at h
  · cases h
    exact ⟨Wf.of0 rfl rfl rfl rfl, rfl⟩
  · cases h
theorem pl_carry_wf {n : List Int} {a : Ac} (h : pl_carry n = some a) : Wf a ∧ a.sites = [] := by
  unfold pl_carry at h
  split at h
  · cases h
    exact ⟨Wf.of0 rfl rfl rfl rfl, rfl⟩
  · cases h
theorem pl_lose_wf {n : List Int} {a : Ac} (h : pl_lose n = some a) : Wf a ∧ a.sites = [] := by
  unfold pl_lose at h
  split at h
  · cases h
    exact ⟨Wf.of0 rfl rfl rfl rfl, rfl⟩
  · cases h
theorem pl_twice_wf {n : List Int} {a : Ac} (h : pl_twice n = some a) : Wf a ∧ a.sites = [] := by
  unfold pl_twice at h
  split at h
  · cases h
    exact ⟨Wf.of0 rfl rfl rfl rfl, rfl⟩
  · cases h
theorem pl_cut_wf {n : List Int} {a : Ac} (h : pl_cut n = some a) : Wf a ∧ a.sites = [] := by
  unfold pl_cut at h
  split at h
  · cases h
    exact ⟨Wf.of0 rfl rfl rfl rfl, rfl⟩
  · cases h
theorem pl_mend_wf {n : List Int} {a : Ac} (h : pl_mend n = some a) : Wf a ∧ a.sites = [] := by
  unfold pl_mend at h
  split at h
  · cases h
    exact ⟨Wf.of0 rfl rfl rfl rfl, rfl⟩
  · cases h
theorem pl_crash_wf {n : List Int} {a : Ac} (h : pl_crash n = some a) : Wf a ∧ a.sites = [] := by
  unfold pl_crash at h
  split at h
  · cases h
    exact ⟨Wf.of0 rfl rfl rfl rfl, rfl⟩
  · cases h
theorem pl_trip_wf {n : List Int} {a : Ac} (h : pl_trip n = some a) : Wf a ∧ a.sites = [] := by
  unfold pl_trip at h
  split at h
  · cases h
    exact ⟨Wf.of0 rfl rfl rfl rfl, rfl⟩
  · cases h
theorem pl_start_wf {n : List Int} {a : Ac} (h : pl_start n = some a) : Wf a ∧ a.sites = [] := by
  unfold pl_start at h
  split at h
  · cases h
    exact ⟨Wf.of0 rfl rfl rfl rfl, rfl⟩
  · cases h
theorem pl_wf {w : List UInt8} {n : List Int} {a : Ac} (h : pl w n = some a) : Wf a ∧ a.sites = [] := by
  unfold pl at h
  rcases ite_or h with h | h
  · exact pl_cancel_wf h
  rcases ite_or h with h | h
  · exact pl_status_wf h
  rcases ite_or h with h | h
  · exact pl_reserve_wf h
  rcases ite_or h with h | h
  · exact pl_unreserve_wf h
  rcases ite_or h with h | h
  · exact pl_drain_wf h
  rcases ite_or h with h | h
  · exact pl_undrain_wf h
  rcases ite_or h with h | h
  · exact pl_tick_wf h
  rcases ite_or h with h | h
  · exact pl_carry_wf h
  rcases ite_or h with h | h
  · exact pl_lose_wf h
  rcases ite_or h with h | h
  · exact pl_twice_wf h
  rcases ite_or h with h | h
  · exact pl_cut_wf h
  rcases ite_or h with h | h
  · exact pl_mend_wf h
  rcases ite_or h with h | h
  · exact pl_crash_wf h
  rcases ite_or h with h | h
  · exact pl_trip_wf h
  rcases ite_or h with h | h
  · exact pl_start_wf h
  cases h
theorem sub_wf {ws : List (List UInt8)} {a : Ac} (h : sub ws = some a) : Wf a ∧ a.sites.length ≤ ws.length := by
  unfold sub at h
  split at h
  · cases h
  · split at h
    · rename_i n s hn hs
      unfold subAct at h
      split at h
      · split at h
        · rename_i hok
          cases h
          have := nums_len hs
          refine ⟨⟨fl_le _ hok.1, fl_le _ hok.2.2.1, Nat.zero_le _, Nat.zero_le _⟩, ?_⟩
          show s.length ≤ _
          rw [this]
          simp
        · cases h
      · cases h
    · cases h
theorem rd_wf {l : List UInt8} {a : Ac} (h : rd l = some a) : Wf a ∧ a.sites.length ≤ l.length + 1 := by
  have hw := wordsFrom_len l []
  unfold rd at h
  split at h
  · cases h
  · rename_i w0 r e
    have e' : wordsFrom [] l = w0 :: r := e
    rw [e'] at hw
    split at h
    · obtain ⟨h1, h2⟩ := sub_wf h
      exact ⟨h1, by omega⟩
    · split at h
      · cases h
      · obtain ⟨h1, h2⟩ := pl_wf h
        exact ⟨h1, by rw [h2]; simp⟩
theorem rd_wf' (l : List UInt8) : Wf ((rd l).getD Ac0) ∧ ((rd l).getD Ac0).sites.length ≤ l.length + 1 := by
  cases h : rd l with
  | none => exact ⟨Wf.of0 rfl rfl rfl rfl, by simp [Ac0]⟩
  | some a => exact rd_wf h
theorem rd_wake : rd [116, 105, 99, 107, 32, 51] = some { Ac0 with k := 2, at_ := 3 } := by kernel_rfl
attribute [local irreducible] Go.wpList Go.bodyPost Go.Code.wp Go.Exit.then Go.Exit.inBlock Go.Exit.noGoto Ev.wpAnyG Go.Oper.wp Ev.Back Ev.Left Ev.Spc Ev.At Ev.Pure Ev.Reads Ev.Runs Ev.Does Ev.Cell

theorem wakes_spec {H : Heap} (hL : Lb H) : Spc Tryd.prog 7 #[] H fun r H' => Ext H H' ∧ r = .bool true := by
  refine spec_of Tryd.func7 rfl Tryd.ntmps7 rfl (fun W => ?_)
  repeat (first | refine codeA (k := ?_) | refine condA (k := ?_) | refine offA (k := ?_) | refine pureA (k := ?_) | refine readA (k := ?_))
  refine At_wp (W_call rfl rfl (read_spec (l := [116, 105, 99, 107, 32, 51]) hL (by decide)) rfl rfl ?_) rfl
  rintro r H1 ⟨hx1, p, l, c, e, hv⟩
  rw [rd_wake] at e hv
  have e' : r = .tuple #[.agg (acC { Ac0 with k := 2, at_ := 3 } (.slice p l c)).toArray, .int .i64 0] := e
  subst e'
  repeat (first | refine codeA (k := ?_) | refine condA (k := ?_) | refine offA (k := ?_) | refine pureA (k := ?_) | refine readA (k := ?_))
  refine At_wp (W_alloc rfl rfl ?_) rfl
  intro g1 H2 n2
  refine At_wp (W_storeB rfl rfl n2.at_ rfl rfl rfl rfl ?_) rfl
  intro H3 p3
  have x3 : Ext H1 H3 := ext_put n2.ext p3.kept n2.blk
  have r3 := p3.at_
  repeat (first | refine codeA (k := ?_) | refine condA (k := ?_) | refine offA (k := ?_) | refine pureA (k := ?_) | refine readA (k := ?_))
  refine At_read (r_load (v := .int .i64 2) rfl rfl (Cell.of r3 rfl)) rfl rfl rfl ?_
  repeat (first | refine codeA (k := ?_) | refine condA (k := ?_) | refine offA (k := ?_) | refine pureA (k := ?_) | refine readA (k := ?_))
  refine At_read (r_load (v := .int .i64 3) rfl rfl (Cell.of r3 rfl)) rfl rfl rfl ?_
  repeat (first | refine codeA (k := ?_) | refine condA (k := ?_) | refine offA (k := ?_) | refine pureA (k := ?_) | refine readA (k := ?_))
  exact At_ret1 rfl rfl ⟨hx1.trans x3, rfl⟩
theorem shellReads_walk {l : List UInt8} {H : Heap} (hL : Lb H) (hl : l.length ≤ 9223372036854775807) : Spc Tryd.prog 3 #[sv l] H fun r H' => Ext H H' ∧ r = .bool true := by
  refine spec_of Tryd.func3 rfl Tryd.ntmps3 rfl (fun W => ?_)
  repeat (first | refine codeA (k := ?_) | refine condA (k := ?_) | refine offA (k := ?_) | refine pureA (k := ?_) | refine readA (k := ?_))
  refine At_pure (p_lenS rfl rfl) rfl rfl rfl ?_
  by_cases hs : l.length > 3000
  · repeat (first | refine codeA (k := ?_) | refine condA (k := ?_) | refine offA (k := ?_) | refine pureA (k := ?_) | refine readA (k := ?_))
    exact At_ret1 rfl rfl ⟨Kept.refl _ _, rfl⟩
  repeat (first | refine codeA (k := ?_) | refine condA (k := ?_) | refine offA (k := ?_) | refine pureA (k := ?_) | refine readA (k := ?_))
  refine At_wp (W_call rfl rfl (read_spec hL (by omega)) rfl rfl ?_) rfl
  rintro _ H1 ⟨hx1, p, m, c, rfl, hv⟩
  repeat (first | refine codeA (k := ?_) | refine condA (k := ?_) | refine offA (k := ?_) | refine pureA (k := ?_) | refine readA (k := ?_))
  refine At_wp (W_alloc rfl rfl ?_) rfl
  intro g3 H2 n2
  refine At_wp (W_storeB rfl rfl n2.at_ rfl rfl rfl rfl ?_) rfl
  intro H3 p3
  have x3 : Ext H1 H3 := ext_put n2.ext p3.kept n2.blk
  have r3 := p3.at_
  have hL3 := (hL.on hx1).on x3
  repeat (first | refine codeA (k := ?_) | refine condA (k := ?_) | refine offA (k := ?_) | refine pureA (k := ?_) | refine readA (k := ?_))
  refine At_wp (W_call rfl rfl (refRead_spec (l := l) hL3 (by omega)) rfl rfl ?_) rfl
  rintro _ H4 ⟨hx4, p', m', c', rfl, hv'⟩
  repeat (first | refine codeA (k := ?_) | refine condA (k := ?_) | refine offA (k := ?_) | refine pureA (k := ?_) | refine readA (k := ?_))
  refine At_wp (W_alloc rfl rfl ?_) rfl
  intro g5 H5 n5
  refine At_wp (W_storeB rfl rfl n5.at_ rfl rfl rfl rfl ?_) rfl
  intro H6 p6
  have x6 : Ext H4 H6 := ext_put n5.ext p6.kept n5.blk
  have r3 := (hx4.trans x6).keep r3 (fun f => f)
  have r6 := p6.at_
  have hv := ((hv.on x3).on hx4).on x6
  have hv' := hv'.on x6
  obtain ⟨wf, hsl⟩ := rd_wf' l
  generalize (if (rd l).isSome = true then (0 : Int) else 29) = code
  generalize (rd l).getD Ac0 = a at *
  repeat (first | refine codeA (k := ?_) | refine condA (k := ?_) | refine offA (k := ?_) | refine pureA (k := ?_) | refine readA (k := ?_))
  refine At_read (r_loadB rfl r3 rfl rfl) rfl rfl rfl ?_
  refine At_read (r_loadB rfl r6 rfl rfl) rfl rfl rfl ?_
  refine At_wp (W_call rfl rfl (act_spec a wf hv hv' (by omega)) rfl rfl ?_) rfl
  rintro _ H7 ⟨hx7, rfl⟩
  repeat (first | refine codeA (k := ?_) | refine condA (k := ?_) | refine offA (k := ?_) | refine pureA (k := ?_) | refine readA (k := ?_))
  refine At_wp (W_call rfl rfl (wakes_spec (((hL3.on hx4).on x6).on hx7)) rfl rfl ?_) rfl
  rintro _ H8 ⟨hx8, rfl⟩
  repeat (first | refine codeA (k := ?_) | refine condA (k := ?_) | refine offA (k := ?_) | refine pureA (k := ?_) | refine readA (k := ?_))
  exact At_ret1 rfl rfl ⟨((((hx1.trans x3).trans hx4).trans x6).trans hx7).trans hx8, rfl⟩
end Go.Proofs.YticgbdeoiihbmaaDoor

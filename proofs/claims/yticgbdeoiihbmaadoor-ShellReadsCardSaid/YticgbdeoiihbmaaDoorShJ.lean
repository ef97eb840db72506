/- The walks of shell.readPlain and hanseref26.plain. Printed by wip/tools/shell_gen.py. -/
import Derived.Test.YticgbdeoiihbmaaDoorShIa
import Derived.Test.YticgbdeoiihbmaaDoorShIb
import Derived.Test.YticgbdeoiihbmaaDoorShJa
import Derived.Test.YticgbdeoiihbmaaDoorShJb
namespace Go.Proofs.YticgbdeoiihbmaaDoor
open Go Ev
set_option linter.unusedVariables false
set_option linter.unusedSimpArgs false
theorem ite_nn {q : Prop} [Decidable q] {a b : Option Ac} (h : q → a = Option.none) (k : b = Option.none) : (if q then a else b) = Option.none := by
  split
  · rename_i e; exact h e
  · exact k

attribute [local irreducible] Go.wpList Go.bodyPost Go.Code.wp Go.Exit.then Go.Exit.inBlock Go.Exit.noGoto Ev.wpAnyG Go.Oper.wp Ev.Back Ev.Left Ev.Spc Ev.At Ev.Pure Ev.Reads Ev.Runs Ev.Does Ev.Cell

set_option maxHeartbeats 4000000 in
theorem readPlain_spec {H : Heap} {v : Value} {ns : List Int} (w : List UInt8) (hv : Vs iv H v ns) : Spc Tryd.prog 11 #[sv w, v] H fun r H' => PR (pl w ns) H r H' := by
  by_cases e0 : w = [99, 97, 110, 99, 101, 108]
  · subst e0
    exact rp_cancel_spec hv
  by_cases e1 : w = [115, 116, 97, 116, 117, 115]
  · subst e1
    exact rp_status_spec hv
  by_cases e2 : w = [114, 101, 115, 101, 114, 118, 101]
  · subst e2
    exact rp_reserve_spec hv
  by_cases e3 : w = [117, 110, 114, 101, 115, 101, 114, 118, 101]
  · subst e3
    exact rp_unreserve_spec hv
  by_cases e4 : w = [100, 114, 97, 105, 110]
  · subst e4
    exact rp_drain_spec hv
  by_cases e5 : w = [117, 110, 100, 114, 97, 105, 110]
  · subst e5
    exact rp_undrain_spec hv
  by_cases e6 : w = [116, 105, 99, 107]
  · subst e6
    exact rp_tick_spec hv
  by_cases e7 : w = [99, 97, 114, 114, 121]
  · subst e7
    exact rp_carry_spec hv
  by_cases e8 : w = [108, 111, 115, 101]
  · subst e8
    exact rp_lose_spec hv
  by_cases e9 : w = [116, 119, 105, 99, 101]
  · subst e9
    exact rp_twice_spec hv
  by_cases e10 : w = [99, 117, 116]
  · subst e10
    exact rp_cut_spec hv
  by_cases e11 : w = [109, 101, 110, 100]
  · subst e11
    exact rp_mend_spec hv
  by_cases e12 : w = [99, 114, 97, 115, 104]
  · subst e12
    exact rp_crash_spec hv
  by_cases e13 : w = [116, 114, 105, 112]
  · subst e13
    exact rp_trip_spec hv
  by_cases e14 : w = [115, 116, 97, 114, 116]
  · subst e14
    exact rp_start_spec hv
  have hp : pl w ns = none := by
    unfold pl
    rw [if_neg e0]
    rw [if_neg e1]
    rw [if_neg e2]
    rw [if_neg e3]
    rw [if_neg e4]
    rw [if_neg e5]
    rw [if_neg e6]
    rw [if_neg e7]
    rw [if_neg e8]
    rw [if_neg e9]
    rw [if_neg e10]
    rw [if_neg e11]
    rw [if_neg e12]
    rw [if_neg e13]
    rw [if_neg e14]
  rw [hp]
  refine spec_of Tryd.func11 rfl Tryd.ntmps11 rfl (fun W => ?_)
  repeat (first | refine codeA (k := ?_) | refine condA (k := ?_) | refine offA (k := ?_) | refine pureA (k := ?_) | refine readA (k := ?_))
  refine At_wp (W_alloc rfl rfl ?_) rfl
  intro g4 H1 n4
  have hv := hv.on n4.ext
  obtain ⟨p, c, rfl, hc, hcell⟩ := hv
  have hz : sz w = -1 := by
    unfold sz
    rw [if_neg e0, if_neg e1, if_neg e2, if_neg e3, if_neg e4, if_neg e5, if_neg e6, if_neg e7, if_neg e8, if_neg e9, if_neg e10, if_neg e11, if_neg e12, if_neg e13, if_neg e14]
  repeat (first | refine codeA (k := ?_) | refine condA (k := ?_) | refine offA (k := ?_) | refine pureA (k := ?_) | refine readA (k := ?_))
  refine At_wp (W_call rfl rfl (size_spec w H1) rfl rfl ?_) rfl
  rintro _ _ ⟨rfl, rfl⟩
  rw [show sz w = -1 from hz]
  repeat (first | refine codeA (k := ?_) | refine condA (k := ?_) | refine offA (k := ?_) | refine pureA (k := ?_) | refine readA (k := ?_))
  refine At_pure (p_build (acC Ac0 (.slice none 0 0)) rfl rfl) rfl rfl rfl ?_
  refine At_wp (W_storeB rfl rfl n4.at_ rfl rfl rfl rfl ?_) rfl
  intro H5 p5
  repeat (first | refine codeA (k := ?_) | refine condA (k := ?_) | refine offA (k := ?_) | refine pureA (k := ?_) | refine readA (k := ?_))
  exact At_retC2 rfl rfl p5.at_ rfl rfl rfl (PR.none (ext_put n4.ext p5.kept n4.blk))
set_option maxHeartbeats 4000000 in
theorem plain_spec {H : Heap} {v : Value} {ns : List Int} (w : List UInt8) (hv : Vs iv H v ns) : Spc Tryd.prog 15 #[sv w, v] H fun r H' => PR (pl w ns) H r H' := by
  by_cases e0 : w = [99, 97, 110, 99, 101, 108] ∧ ns.length = 3
  · obtain ⟨rfl, hl⟩ := e0
    exact pl_cancel_spec hv hl
  by_cases e1 : w = [115, 116, 97, 116, 117, 115] ∧ ns.length = 3
  · obtain ⟨rfl, hl⟩ := e1
    exact pl_status_spec hv hl
  by_cases e2 : w = [114, 101, 115, 101, 114, 118, 101] ∧ ns.length = 5
  · obtain ⟨rfl, hl⟩ := e2
    exact pl_reserve_spec hv hl
  by_cases e3 : w = [117, 110, 114, 101, 115, 101, 114, 118, 101] ∧ ns.length = 2
  · obtain ⟨rfl, hl⟩ := e3
    exact pl_unreserve_spec hv hl
  by_cases e4 : w = [100, 114, 97, 105, 110] ∧ ns.length = 1
  · obtain ⟨rfl, hl⟩ := e4
    exact pl_drain_spec hv hl
  by_cases e5 : w = [117, 110, 100, 114, 97, 105, 110] ∧ ns.length = 1
  · obtain ⟨rfl, hl⟩ := e5
    exact pl_undrain_spec hv hl
  by_cases e6 : w = [116, 105, 99, 107] ∧ ns.length = 1
  · obtain ⟨rfl, hl⟩ := e6
    exact pl_tick_spec hv hl
  by_cases e7 : w = [99, 97, 114, 114, 121] ∧ ns.length = 1
  · obtain ⟨rfl, hl⟩ := e7
    exact pl_carry_spec hv hl
  by_cases e8 : w = [108, 111, 115, 101] ∧ ns.length = 1
  · obtain ⟨rfl, hl⟩ := e8
    exact pl_lose_spec hv hl
  by_cases e9 : w = [116, 119, 105, 99, 101] ∧ ns.length = 1
  · obtain ⟨rfl, hl⟩ := e9
    exact pl_twice_spec hv hl
  by_cases e10 : w = [99, 117, 116] ∧ ns.length = 2
  · obtain ⟨rfl, hl⟩ := e10
    exact pl_cut_spec hv hl
  by_cases e11 : w = [109, 101, 110, 100] ∧ ns.length = 2
  · obtain ⟨rfl, hl⟩ := e11
    exact pl_mend_spec hv hl
  by_cases e12 : w = [99, 114, 97, 115, 104] ∧ ns.length = 2
  · obtain ⟨rfl, hl⟩ := e12
    exact pl_crash_spec hv hl
  by_cases e13 : w = [116, 114, 105, 112] ∧ ns.length = 2
  · obtain ⟨rfl, hl⟩ := e13
    exact pl_trip_spec hv hl
  by_cases e14 : w = [115, 116, 97, 114, 116] ∧ ns.length = 1
  · obtain ⟨rfl, hl⟩ := e14
    exact pl_start_spec hv hl
  have hp : pl w ns = none := by
    unfold pl
    refine ite_nn (fun e => pl_cancel_none (fun h => e0 ⟨e, h⟩)) ?_
    refine ite_nn (fun e => pl_status_none (fun h => e1 ⟨e, h⟩)) ?_
    refine ite_nn (fun e => pl_reserve_none (fun h => e2 ⟨e, h⟩)) ?_
    refine ite_nn (fun e => pl_unreserve_none (fun h => e3 ⟨e, h⟩)) ?_
    refine ite_nn (fun e => pl_drain_none (fun h => e4 ⟨e, h⟩)) ?_
    refine ite_nn (fun e => pl_undrain_none (fun h => e5 ⟨e, h⟩)) ?_
    refine ite_nn (fun e => pl_tick_none (fun h => e6 ⟨e, h⟩)) ?_
    refine ite_nn (fun e => pl_carry_none (fun h => e7 ⟨e, h⟩)) ?_
    refine ite_nn (fun e => pl_lose_none (fun h => e8 ⟨e, h⟩)) ?_
    refine ite_nn (fun e => pl_twice_none (fun h => e9 ⟨e, h⟩)) ?_
    refine ite_nn (fun e => pl_cut_none (fun h => e10 ⟨e, h⟩)) ?_
    refine ite_nn (fun e => pl_mend_none (fun h => e11 ⟨e, h⟩)) ?_
    refine ite_nn (fun e => pl_crash_none (fun h => e12 ⟨e, h⟩)) ?_
    refine ite_nn (fun e => pl_trip_none (fun h => e13 ⟨e, h⟩)) ?_
    refine ite_nn (fun e => pl_start_none (fun h => e14 ⟨e, h⟩)) ?_
    rfl
  rw [hp]
  refine spec_of Tryd.func15 rfl Tryd.ntmps15 rfl (fun W => ?_)
  repeat (first | refine codeA (k := ?_) | refine condA (k := ?_) | refine offA (k := ?_) | refine pureA (k := ?_) | refine readA (k := ?_))
  refine At_wp (W_alloc rfl rfl ?_) rfl
  intro g4 H1 n4
  have hv := hv.on n4.ext
  obtain ⟨p, c, rfl, hc, hcell⟩ := hv
  (repeat (first | refine codeA (k := ?_) | refine pureA (k := ?_)))
  refine At_block ?_
  refine At_seq ?_
  refine At_cut (fun (s : Unit) => [(0, sv w), (1, .slice p ns.length c), (4, .pointer (some ⟨g4, 0, none⟩)), (8, .bool false)]) (fun s H' => H' = H1) ?_ ?_
  · by_cases e : w = [99, 97, 110, 99, 101, 108]
    · have hl : ¬ ns.length = 3 := fun h => e0 ⟨e, h⟩
      subst e
      repeat (first | refine codeA (k := ?_) | refine condA (k := ?_) | refine offA (k := ?_) | refine stqA (k := ?_) | refine pureA (k := ?_) | refine readA (k := ?_) | refine strA (k := ?_) | refine At_block ?_)
      refine At_meet (E := fun (s : Unit) => _) (J := fun s H' => H' = H1) () ?_ rfl
      (repeat (first | exact Sub.nil | refine Sub.cons rfl ?_))
    · repeat (first | refine codeA (k := ?_) | refine condA (k := ?_) | refine offA (k := ?_) | refine stqA (k := ?_) | refine pureA (k := ?_) | refine readA (k := ?_) | refine strA (k := ?_) | refine At_block ?_)
      refine At_meet (E := fun (s : Unit) => _) (J := fun s H' => H' = H1) () ?_ rfl
      (repeat (first | exact Sub.nil | refine Sub.cons rfl ?_))
  rintro _ _ rfl
  rename_i H1
  (repeat (first | refine condA (k := ?_)))
  refine At_seq ?_
  refine At_cut (fun (s : Unit) => [(0, sv w), (1, .slice p ns.length c), (4, .pointer (some ⟨g4, 0, none⟩)), (28, .bool false)]) (fun s H' => H' = H1) ?_ ?_
  · by_cases e : w = [115, 116, 97, 116, 117, 115]
    · have hl : ¬ ns.length = 3 := fun h => e1 ⟨e, h⟩
      subst e
      repeat (first | refine codeA (k := ?_) | refine condA (k := ?_) | refine offA (k := ?_) | refine stqA (k := ?_) | refine pureA (k := ?_) | refine readA (k := ?_) | refine strA (k := ?_) | refine At_block ?_)
      refine At_meet (E := fun (s : Unit) => _) (J := fun s H' => H' = H1) () ?_ rfl
      (repeat (first | exact Sub.nil | refine Sub.cons rfl ?_))
    · repeat (first | refine codeA (k := ?_) | refine condA (k := ?_) | refine offA (k := ?_) | refine stqA (k := ?_) | refine pureA (k := ?_) | refine readA (k := ?_) | refine strA (k := ?_) | refine At_block ?_)
      refine At_meet (E := fun (s : Unit) => _) (J := fun s H' => H' = H1) () ?_ rfl
      (repeat (first | exact Sub.nil | refine Sub.cons rfl ?_))
  rintro _ _ rfl
  rename_i H1
  (repeat (first | refine condA (k := ?_)))
  refine At_seq ?_
  refine At_cut (fun (s : Unit) => [(0, sv w), (1, .slice p ns.length c), (4, .pointer (some ⟨g4, 0, none⟩)), (48, .bool false)]) (fun s H' => H' = H1) ?_ ?_
  · by_cases e : w = [114, 101, 115, 101, 114, 118, 101]
    · have hl : ¬ ns.length = 5 := fun h => e2 ⟨e, h⟩
      subst e
      repeat (first | refine codeA (k := ?_) | refine condA (k := ?_) | refine offA (k := ?_) | refine stqA (k := ?_) | refine pureA (k := ?_) | refine readA (k := ?_) | refine strA (k := ?_) | refine At_block ?_)
      refine At_meet (E := fun (s : Unit) => _) (J := fun s H' => H' = H1) () ?_ rfl
      (repeat (first | exact Sub.nil | refine Sub.cons rfl ?_))
    · repeat (first | refine codeA (k := ?_) | refine condA (k := ?_) | refine offA (k := ?_) | refine stqA (k := ?_) | refine pureA (k := ?_) | refine readA (k := ?_) | refine strA (k := ?_) | refine At_block ?_)
      refine At_meet (E := fun (s : Unit) => _) (J := fun s H' => H' = H1) () ?_ rfl
      (repeat (first | exact Sub.nil | refine Sub.cons rfl ?_))
  rintro _ _ rfl
  rename_i H1
  (repeat (first | refine condA (k := ?_)))
  refine At_seq ?_
  refine At_cut (fun (s : Unit) => [(0, sv w), (1, .slice p ns.length c), (4, .pointer (some ⟨g4, 0, none⟩)), (81, .bool false)]) (fun s H' => H' = H1) ?_ ?_
  · by_cases e : w = [117, 110, 114, 101, 115, 101, 114, 118, 101]
    · have hl : ¬ ns.length = 2 := fun h => e3 ⟨e, h⟩
      subst e
      repeat (first | refine codeA (k := ?_) | refine condA (k := ?_) | refine offA (k := ?_) | refine stqA (k := ?_) | refine pureA (k := ?_) | refine readA (k := ?_) | refine strA (k := ?_) | refine At_block ?_)
      refine At_meet (E := fun (s : Unit) => _) (J := fun s H' => H' = H1) () ?_ rfl
      (repeat (first | exact Sub.nil | refine Sub.cons rfl ?_))
    · repeat (first | refine codeA (k := ?_) | refine condA (k := ?_) | refine offA (k := ?_) | refine stqA (k := ?_) | refine pureA (k := ?_) | refine readA (k := ?_) | refine strA (k := ?_) | refine At_block ?_)
      refine At_meet (E := fun (s : Unit) => _) (J := fun s H' => H' = H1) () ?_ rfl
      (repeat (first | exact Sub.nil | refine Sub.cons rfl ?_))
  rintro _ _ rfl
  rename_i H1
  (repeat (first | refine condA (k := ?_)))
  refine At_seq ?_
  refine At_cut (fun (s : Unit) => [(0, sv w), (1, .slice p ns.length c), (4, .pointer (some ⟨g4, 0, none⟩)), (97, .bool false)]) (fun s H' => H' = H1) ?_ ?_
  · by_cases e : w = [100, 114, 97, 105, 110]
    · have hl : ¬ ns.length = 1 := fun h => e4 ⟨e, h⟩
      subst e
      repeat (first | refine codeA (k := ?_) | refine condA (k := ?_) | refine offA (k := ?_) | refine stqA (k := ?_) | refine pureA (k := ?_) | refine readA (k := ?_) | refine strA (k := ?_) | refine At_block ?_)
      refine At_meet (E := fun (s : Unit) => _) (J := fun s H' => H' = H1) () ?_ rfl
      (repeat (first | exact Sub.nil | refine Sub.cons rfl ?_))
    · repeat (first | refine codeA (k := ?_) | refine condA (k := ?_) | refine offA (k := ?_) | refine stqA (k := ?_) | refine pureA (k := ?_) | refine readA (k := ?_) | refine strA (k := ?_) | refine At_block ?_)
      refine At_meet (E := fun (s : Unit) => _) (J := fun s H' => H' = H1) () ?_ rfl
      (repeat (first | exact Sub.nil | refine Sub.cons rfl ?_))
  rintro _ _ rfl
  rename_i H1
  (repeat (first | refine condA (k := ?_)))
  refine At_seq ?_
  refine At_cut (fun (s : Unit) => [(0, sv w), (1, .slice p ns.length c), (4, .pointer (some ⟨g4, 0, none⟩)), (110, .bool false)]) (fun s H' => H' = H1) ?_ ?_
  · by_cases e : w = [117, 110, 100, 114, 97, 105, 110]
    · have hl : ¬ ns.length = 1 := fun h => e5 ⟨e, h⟩
      subst e
      repeat (first | refine codeA (k := ?_) | refine condA (k := ?_) | refine offA (k := ?_) | refine stqA (k := ?_) | refine pureA (k := ?_) | refine readA (k := ?_) | refine strA (k := ?_) | refine At_block ?_)
      refine At_meet (E := fun (s : Unit) => _) (J := fun s H' => H' = H1) () ?_ rfl
      (repeat (first | exact Sub.nil | refine Sub.cons rfl ?_))
    · repeat (first | refine codeA (k := ?_) | refine condA (k := ?_) | refine offA (k := ?_) | refine stqA (k := ?_) | refine pureA (k := ?_) | refine readA (k := ?_) | refine strA (k := ?_) | refine At_block ?_)
      refine At_meet (E := fun (s : Unit) => _) (J := fun s H' => H' = H1) () ?_ rfl
      (repeat (first | exact Sub.nil | refine Sub.cons rfl ?_))
  rintro _ _ rfl
  rename_i H1
  (repeat (first | refine condA (k := ?_)))
  refine At_seq ?_
  refine At_cut (fun (s : Unit) => [(0, sv w), (1, .slice p ns.length c), (4, .pointer (some ⟨g4, 0, none⟩)), (123, .bool false)]) (fun s H' => H' = H1) ?_ ?_
  · by_cases e : w = [116, 105, 99, 107]
    · have hl : ¬ ns.length = 1 := fun h => e6 ⟨e, h⟩
      subst e
      repeat (first | refine codeA (k := ?_) | refine condA (k := ?_) | refine offA (k := ?_) | refine stqA (k := ?_) | refine pureA (k := ?_) | refine readA (k := ?_) | refine strA (k := ?_) | refine At_block ?_)
      refine At_meet (E := fun (s : Unit) => _) (J := fun s H' => H' = H1) () ?_ rfl
      (repeat (first | exact Sub.nil | refine Sub.cons rfl ?_))
    · repeat (first | refine codeA (k := ?_) | refine condA (k := ?_) | refine offA (k := ?_) | refine stqA (k := ?_) | refine pureA (k := ?_) | refine readA (k := ?_) | refine strA (k := ?_) | refine At_block ?_)
      refine At_meet (E := fun (s : Unit) => _) (J := fun s H' => H' = H1) () ?_ rfl
      (repeat (first | exact Sub.nil | refine Sub.cons rfl ?_))
  rintro _ _ rfl
  rename_i H1
  (repeat (first | refine condA (k := ?_)))
  refine At_seq ?_
  refine At_cut (fun (s : Unit) => [(0, sv w), (1, .slice p ns.length c), (4, .pointer (some ⟨g4, 0, none⟩)), (135, .bool false)]) (fun s H' => H' = H1) ?_ ?_
  · by_cases e : w = [99, 97, 114, 114, 121]
    · have hl : ¬ ns.length = 1 := fun h => e7 ⟨e, h⟩
      subst e
      repeat (first | refine codeA (k := ?_) | refine condA (k := ?_) | refine offA (k := ?_) | refine stqA (k := ?_) | refine pureA (k := ?_) | refine readA (k := ?_) | refine strA (k := ?_) | refine At_block ?_)
      refine At_meet (E := fun (s : Unit) => _) (J := fun s H' => H' = H1) () ?_ rfl
      (repeat (first | exact Sub.nil | refine Sub.cons rfl ?_))
    · repeat (first | refine codeA (k := ?_) | refine condA (k := ?_) | refine offA (k := ?_) | refine stqA (k := ?_) | refine pureA (k := ?_) | refine readA (k := ?_) | refine strA (k := ?_) | refine At_block ?_)
      refine At_meet (E := fun (s : Unit) => _) (J := fun s H' => H' = H1) () ?_ rfl
      (repeat (first | exact Sub.nil | refine Sub.cons rfl ?_))
  rintro _ _ rfl
  rename_i H1
  (repeat (first | refine condA (k := ?_)))
  refine At_seq ?_
  refine At_cut (fun (s : Unit) => [(0, sv w), (1, .slice p ns.length c), (4, .pointer (some ⟨g4, 0, none⟩)), (147, .bool false)]) (fun s H' => H' = H1) ?_ ?_
  · by_cases e : w = [108, 111, 115, 101]
    · have hl : ¬ ns.length = 1 := fun h => e8 ⟨e, h⟩
      subst e
      repeat (first | refine codeA (k := ?_) | refine condA (k := ?_) | refine offA (k := ?_) | refine stqA (k := ?_) | refine pureA (k := ?_) | refine readA (k := ?_) | refine strA (k := ?_) | refine At_block ?_)
      refine At_meet (E := fun (s : Unit) => _) (J := fun s H' => H' = H1) () ?_ rfl
      (repeat (first | exact Sub.nil | refine Sub.cons rfl ?_))
    · repeat (first | refine codeA (k := ?_) | refine condA (k := ?_) | refine offA (k := ?_) | refine stqA (k := ?_) | refine pureA (k := ?_) | refine readA (k := ?_) | refine strA (k := ?_) | refine At_block ?_)
      refine At_meet (E := fun (s : Unit) => _) (J := fun s H' => H' = H1) () ?_ rfl
      (repeat (first | exact Sub.nil | refine Sub.cons rfl ?_))
  rintro _ _ rfl
  rename_i H1
  (repeat (first | refine condA (k := ?_)))
  refine At_seq ?_
  refine At_cut (fun (s : Unit) => [(0, sv w), (1, .slice p ns.length c), (4, .pointer (some ⟨g4, 0, none⟩)), (159, .bool false)]) (fun s H' => H' = H1) ?_ ?_
  · by_cases e : w = [116, 119, 105, 99, 101]
    · have hl : ¬ ns.length = 1 := fun h => e9 ⟨e, h⟩
      subst e
      repeat (first | refine codeA (k := ?_) | refine condA (k := ?_) | refine offA (k := ?_) | refine stqA (k := ?_) | refine pureA (k := ?_) | refine readA (k := ?_) | refine strA (k := ?_) | refine At_block ?_)
      refine At_meet (E := fun (s : Unit) => _) (J := fun s H' => H' = H1) () ?_ rfl
      (repeat (first | exact Sub.nil | refine Sub.cons rfl ?_))
    · repeat (first | refine codeA (k := ?_) | refine condA (k := ?_) | refine offA (k := ?_) | refine stqA (k := ?_) | refine pureA (k := ?_) | refine readA (k := ?_) | refine strA (k := ?_) | refine At_block ?_)
      refine At_meet (E := fun (s : Unit) => _) (J := fun s H' => H' = H1) () ?_ rfl
      (repeat (first | exact Sub.nil | refine Sub.cons rfl ?_))
  rintro _ _ rfl
  rename_i H1
  (repeat (first | refine condA (k := ?_)))
  refine At_seq ?_
  refine At_cut (fun (s : Unit) => [(0, sv w), (1, .slice p ns.length c), (4, .pointer (some ⟨g4, 0, none⟩)), (171, .bool false)]) (fun s H' => H' = H1) ?_ ?_
  · by_cases e : w = [99, 117, 116]
    · have hl : ¬ ns.length = 2 := fun h => e10 ⟨e, h⟩
      subst e
      repeat (first | refine codeA (k := ?_) | refine condA (k := ?_) | refine offA (k := ?_) | refine stqA (k := ?_) | refine pureA (k := ?_) | refine readA (k := ?_) | refine strA (k := ?_) | refine At_block ?_)
      refine At_meet (E := fun (s : Unit) => _) (J := fun s H' => H' = H1) () ?_ rfl
      (repeat (first | exact Sub.nil | refine Sub.cons rfl ?_))
    · repeat (first | refine codeA (k := ?_) | refine condA (k := ?_) | refine offA (k := ?_) | refine stqA (k := ?_) | refine pureA (k := ?_) | refine readA (k := ?_) | refine strA (k := ?_) | refine At_block ?_)
      refine At_meet (E := fun (s : Unit) => _) (J := fun s H' => H' = H1) () ?_ rfl
      (repeat (first | exact Sub.nil | refine Sub.cons rfl ?_))
  rintro _ _ rfl
  rename_i H1
  (repeat (first | refine condA (k := ?_)))
  refine At_seq ?_
  refine At_cut (fun (s : Unit) => [(0, sv w), (1, .slice p ns.length c), (4, .pointer (some ⟨g4, 0, none⟩)), (186, .bool false)]) (fun s H' => H' = H1) ?_ ?_
  · by_cases e : w = [109, 101, 110, 100]
    · have hl : ¬ ns.length = 2 := fun h => e11 ⟨e, h⟩
      subst e
      repeat (first | refine codeA (k := ?_) | refine condA (k := ?_) | refine offA (k := ?_) | refine stqA (k := ?_) | refine pureA (k := ?_) | refine readA (k := ?_) | refine strA (k := ?_) | refine At_block ?_)
      refine At_meet (E := fun (s : Unit) => _) (J := fun s H' => H' = H1) () ?_ rfl
      (repeat (first | exact Sub.nil | refine Sub.cons rfl ?_))
    · repeat (first | refine codeA (k := ?_) | refine condA (k := ?_) | refine offA (k := ?_) | refine stqA (k := ?_) | refine pureA (k := ?_) | refine readA (k := ?_) | refine strA (k := ?_) | refine At_block ?_)
      refine At_meet (E := fun (s : Unit) => _) (J := fun s H' => H' = H1) () ?_ rfl
      (repeat (first | exact Sub.nil | refine Sub.cons rfl ?_))
  rintro _ _ rfl
  rename_i H1
  (repeat (first | refine condA (k := ?_)))
  refine At_seq ?_
  refine At_cut (fun (s : Unit) => [(0, sv w), (1, .slice p ns.length c), (4, .pointer (some ⟨g4, 0, none⟩)), (201, .bool false)]) (fun s H' => H' = H1) ?_ ?_
  · by_cases e : w = [99, 114, 97, 115, 104]
    · have hl : ¬ ns.length = 2 := fun h => e12 ⟨e, h⟩
      subst e
      repeat (first | refine codeA (k := ?_) | refine condA (k := ?_) | refine offA (k := ?_) | refine stqA (k := ?_) | refine pureA (k := ?_) | refine readA (k := ?_) | refine strA (k := ?_) | refine At_block ?_)
      refine At_meet (E := fun (s : Unit) => _) (J := fun s H' => H' = H1) () ?_ rfl
      (repeat (first | exact Sub.nil | refine Sub.cons rfl ?_))
    · repeat (first | refine codeA (k := ?_) | refine condA (k := ?_) | refine offA (k := ?_) | refine stqA (k := ?_) | refine pureA (k := ?_) | refine readA (k := ?_) | refine strA (k := ?_) | refine At_block ?_)
      refine At_meet (E := fun (s : Unit) => _) (J := fun s H' => H' = H1) () ?_ rfl
      (repeat (first | exact Sub.nil | refine Sub.cons rfl ?_))
  rintro _ _ rfl
  rename_i H1
  (repeat (first | refine condA (k := ?_)))
  refine At_seq ?_
  refine At_cut (fun (s : Unit) => [(0, sv w), (1, .slice p ns.length c), (4, .pointer (some ⟨g4, 0, none⟩)), (216, .bool false)]) (fun s H' => H' = H1) ?_ ?_
  · by_cases e : w = [116, 114, 105, 112]
    · have hl : ¬ ns.length = 2 := fun h => e13 ⟨e, h⟩
      subst e
      repeat (first | refine codeA (k := ?_) | refine condA (k := ?_) | refine offA (k := ?_) | refine stqA (k := ?_) | refine pureA (k := ?_) | refine readA (k := ?_) | refine strA (k := ?_) | refine At_block ?_)
      refine At_meet (E := fun (s : Unit) => _) (J := fun s H' => H' = H1) () ?_ rfl
      (repeat (first | exact Sub.nil | refine Sub.cons rfl ?_))
    · repeat (first | refine codeA (k := ?_) | refine condA (k := ?_) | refine offA (k := ?_) | refine stqA (k := ?_) | refine pureA (k := ?_) | refine readA (k := ?_) | refine strA (k := ?_) | refine At_block ?_)
      refine At_meet (E := fun (s : Unit) => _) (J := fun s H' => H' = H1) () ?_ rfl
      (repeat (first | exact Sub.nil | refine Sub.cons rfl ?_))
  rintro _ _ rfl
  rename_i H1
  (repeat (first | refine condA (k := ?_)))
  refine At_seq ?_
  refine At_cut (fun (s : Unit) => [(0, sv w), (1, .slice p ns.length c), (4, .pointer (some ⟨g4, 0, none⟩)), (231, .bool false)]) (fun s H' => H' = H1) ?_ ?_
  · by_cases e : w = [115, 116, 97, 114, 116]
    · have hl : ¬ ns.length = 1 := fun h => e14 ⟨e, h⟩
      subst e
      repeat (first | refine codeA (k := ?_) | refine condA (k := ?_) | refine offA (k := ?_) | refine stqA (k := ?_) | refine pureA (k := ?_) | refine readA (k := ?_) | refine strA (k := ?_) | refine At_block ?_)
      refine At_meet (E := fun (s : Unit) => _) (J := fun s H' => H' = H1) () ?_ rfl
      (repeat (first | exact Sub.nil | refine Sub.cons rfl ?_))
    · repeat (first | refine codeA (k := ?_) | refine condA (k := ?_) | refine offA (k := ?_) | refine stqA (k := ?_) | refine pureA (k := ?_) | refine readA (k := ?_) | refine strA (k := ?_) | refine At_block ?_)
      refine At_meet (E := fun (s : Unit) => _) (J := fun s H' => H' = H1) () ?_ rfl
      (repeat (first | exact Sub.nil | refine Sub.cons rfl ?_))
  rintro _ _ rfl
  rename_i H1
  (repeat (first | refine condA (k := ?_)))
  repeat (first | refine codeA (k := ?_) | refine condA (k := ?_) | refine offA (k := ?_) | refine pureA (k := ?_) | refine readA (k := ?_))
  refine At_pure (p_build (acC Ac0 (.slice none 0 0)) rfl rfl) rfl rfl rfl ?_
  refine At_wp (W_storeB rfl rfl n4.at_ rfl rfl rfl rfl ?_) rfl
  intro H5 p5
  repeat (first | refine codeA (k := ?_) | refine condA (k := ?_) | refine offA (k := ?_) | refine pureA (k := ?_) | refine readA (k := ?_))
  exact At_retC2 rfl rfl p5.at_ rfl rfl rfl (PR.none (ext_put n4.ext p5.kept n4.blk))
end Go.Proofs.YticgbdeoiihbmaaDoor

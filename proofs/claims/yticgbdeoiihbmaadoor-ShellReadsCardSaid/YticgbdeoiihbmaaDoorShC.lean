/- Words and numbers, walked. -/
import Derived.Test.YticgbdeoiihbmaaDoorShA
import Derived.Test.YticgbdeoiihbmaaDoorShB
import Derived.Test.YticgbdeoiihbmaaDoorShL
namespace Go.Proofs.YticgbdeoiihbmaaDoor
open Go Ev
set_option linter.unusedVariables false
set_option linter.unusedSimpArgs false

/-- what the library leans on -/
def Lb (H : Heap) : Prop := (∀ w : World, w.heap = H → Lib.TabIs Tryd.prog w "internal/strconv.uint64pow10" .u64 Lib.pow10Tab) ∧ ∃ m, Cell H 0 0 (.int .i64 m)
theorem Lb.on {H H' : Heap} (h : Lb H) (hx : Ext H H') : Lb H' := by
  obtain ⟨h1, m, h2⟩ := h
  refine ⟨fun w e => ?_, m, h2.keep hx (fun f => f)⟩
  have := h1 { w with heap := H } rfl
  unfold Lib.TabIs World.var? at *
  cases hg : Tryd.prog.globalNamed "internal/strconv.uint64pow10" with
  | none => rw [hg] at this; cases this
  | some g =>
    rw [hg] at this
    simp only [Option.bind_some] at this ⊢
    cases hc : H[g]? with
    | none => rw [hc] at this; cases this
    | some o =>
      rw [hc] at this
      have := hx.keep hc (fun f => f)
      rw [e, this]
      assumption
theorem itoa_spec {H : Heap} (h : Lb H) (n : Int) (h0 : -9223372036854775808 ≤ n) (h1 : n ≤ 9223372036854775807) :
    Spc Tryd.prog 39 #[.int .i64 n] H fun r H' => Ext H H' ∧ r = sv (Lib.itoa n) := fun w e =>
  (Tryd.strconv_Itoa n h0 h1 w (h.1 w e)).mono fun e' w' ⟨he, k, os, hw⟩ => by
    subst he
    subst hw
    refine ⟨⟨rfl, rfl, rfl⟩, ?_, rfl⟩
    show Ext H (w.heap ++ os)
    rw [e]
    exact ⟨by simp, fun i hi _ => by rw [Array.getElem?_append_left hi]⟩

theorem words_index : ∀ (s cur : List UInt8), (Lib.index s [32] = -1 → wordsFrom cur s = [cur ++ s]) ∧ ∀ i : Nat, Lib.index s [32] = i → wordsFrom cur s = (cur ++ s.take i) :: wordsFrom [] (s.drop (i + 1)) ∧ s.count 32 = (s.drop (i + 1)).count 32 + 1
  | [], cur => ⟨fun _ => by simp [wordsFrom], fun i h => by simp [Lib.index] at h⟩
  | b :: r, cur => by
    by_cases hb : b = 32
    · subst hb
      have e : Lib.index ((32 : UInt8) :: r) [32] = 0 := by simp [Lib.index, List.isPrefixOf]
      refine ⟨fun h => by rw [e] at h; exact absurd h (by decide), fun i h => ?_⟩
      rw [e] at h
      have hi : i = 0 := by omega
      subst hi
      exact ⟨by simp [wordsFrom], by simp⟩
    · have hp : ([32] : List UInt8).isPrefixOf (b :: r) = false := by simp [List.isPrefixOf, Ne.symm hb]
      have e : Lib.index (b :: r) [32] = if Lib.index r [32] == -1 then -1 else Lib.index r [32] + 1 := by rw [Lib.index, hp]; simp
      obtain ⟨h1, h2⟩ := words_index r (cur ++ [b])
      have hw : wordsFrom cur (b :: r) = wordsFrom (cur ++ [b]) r := by rw [wordsFrom, if_neg hb]
      have hge := Lib.index_ge r [32]
      by_cases hm : Lib.index r [32] = -1
      · rw [if_pos (beq_iff_eq.2 hm)] at e
        refine ⟨fun _ => by rw [hw, h1 hm]; simp, fun i h => by rw [e] at h; omega⟩
      · rw [if_neg (fun c => hm (beq_iff_eq.1 c))] at e
        refine ⟨fun h => by rw [e] at h; omega, fun i h => ?_⟩
        obtain ⟨j, rfl⟩ : ∃ j, i = j + 1 := ⟨i - 1, by omega⟩
        obtain ⟨g1, g2⟩ := h2 j (by omega)
        refine ⟨by rw [hw, g1]; simp, ?_⟩
        rw [List.count_cons_of_ne (by simpa using hb), g2]
        simp
theorem splitK_words : ∀ (k : Nat) (s : List UInt8), s.count 32 ≤ k → Lib.splitK [32] 0 k s = words s
  | 0, s, h => by
    unfold words
    rw [Lib.splitK]
    obtain ⟨h1, h2⟩ := words_index s []
    have hge := Lib.index_ge s [32]
    by_cases hm : Lib.index s [32] = -1
    · rw [h1 hm]; rfl
    · obtain ⟨_, g2⟩ := h2 (Lib.index s [32]).toNat (by omega)
      omega
  | k + 1, s, h => by
    unfold words
    rw [Lib.splitK]
    obtain ⟨h1, h2⟩ := words_index s []
    have hge := Lib.index_ge s [32]
    by_cases hm : Lib.index s [32] = -1
    · rw [if_pos (beq_iff_eq.2 hm), h1 hm]; rfl
    · obtain ⟨g1, g2⟩ := h2 (Lib.index s [32]).toNat (by omega)
      rw [if_neg (fun c => hm (beq_iff_eq.1 c)), g1]
      have := splitK_words k (s.drop ((Lib.index s [32]).toNat + 1)) (by omega)
      unfold words at this
      simp only [List.nil_append, List.length_singleton, Nat.add_zero]
      rw [this]
/-- rows of strings -/
def SR (x : List UInt8) (row : List Value) : Prop := row = [sv x]
theorem words_ne : ∀ (s cur : List UInt8), wordsFrom cur s ≠ []
  | [], cur => by simp [wordsFrom]
  | b :: r, cur => by
    rw [wordsFrom]
    split
    · simp
    · exact words_ne r _
theorem split_spec {H : Heap} (h : Lb H) (l : List UInt8) (hl : l.length ≤ 1000000) :
    Spc Tryd.prog 8 #[sv l, sv [32]] H fun r H' => Ext H H' ∧ OwnL H' 9 1 SR r (words l) := fun w e => by
  obtain ⟨_, m, hm⟩ := h
  refine (Tryd.strings_Split ⟨l.toArray⟩ ⟨[32].toArray⟩ m w (by rw [ba_size]; omega) (by subst e; exact hm.cell?) (by decide)).mono ?_
  rintro e' w' ⟨rfl, rfl⟩
  have hdat := Lib.splitB_data ⟨[32].toArray⟩ 0 (Lib.countB ⟨l.toArray⟩ ⟨[32].toArray⟩) ⟨l.toArray⟩
  have hcnt : Lib.countB (⟨l.toArray⟩ : ByteArray) ⟨[32].toArray⟩ = l.count 32 := by
    show Lib.count l [32] = _
    exact Lib.count_one 32 l
  have hlen := Lib.splitB_all ⟨[32].toArray⟩ (by decide) 0 _ ⟨l.toArray⟩ rfl
  have hw : (Lib.splitB ⟨[32].toArray⟩ 0 (Lib.countB ⟨l.toArray⟩ ⟨[32].toArray⟩) ⟨l.toArray⟩).map (·.data.toList) = words l := by
    rw [hdat]
    have := splitK_words (l.count 32) l (Nat.le_refl _)
    rw [← this, hcnt]
  generalize hps : Lib.splitB ⟨[32].toArray⟩ 0 (Lib.countB ⟨l.toArray⟩ ⟨[32].toArray⟩) ⟨l.toArray⟩ = ps at *
  have hwl : (words l).length = Lib.countB (⟨l.toArray⟩ : ByteArray) ⟨[32].toArray⟩ + 1 := by rw [← hw, List.length_map, hlen]
  have hcl : l.count 32 ≤ l.length := List.count_le_length
  refine ⟨⟨rfl, rfl, rfl⟩, ?_, ?_⟩
  · subst e
    exact (New.of w.heap _).ext
  · have hn : New H (w.alloc (Obj.cells (ps.map Value.string).toArray 9)).heap H.size (Obj.cells (ps.map Value.string).toArray 9) := by
      subst e
      exact New.of w.heap _
    rw [← hwl, e]
    refine ⟨(words l).map fun x => [sv x], ⟨?_, .inr ⟨H.size, (words l).length, _, rfl, Nat.zero_le _, hn.at_, Nat.le_refl _, by simp only [maxLen]; omega, ?_, ?_⟩⟩, by simp, fun i x row hx hr => ?_⟩
    · rw [flatten_length (size := 1) (fun r hr => by obtain ⟨x, _, rfl⟩ := List.mem_map.1 hr; rfl)]
      simp
    · simp [hlen, hwl]
    · have e1 : ((words l).map fun x => [sv x]).flatten = ps.map Value.string := by
        rw [← hw, List.map_map]
        clear hw hwl hn hps hlen hdat
        induction ps with
        | nil => rfl
        | cons p r ih =>
          rw [List.map_cons, List.flatten_cons, ih, List.map_cons]
          rfl
      rw [e1]
      exact List.take_of_length_le (by simp [hlen, hwl])
    · rw [List.getElem?_map, hx] at hr
      simp only [Option.map_some, Option.some.injEq] at hr
      exact ⟨hr.symm, by rw [← hr]; rfl⟩
attribute [local irreducible] Go.wpList Go.bodyPost Go.Code.wp Go.Exit.then Go.Exit.inBlock Go.Exit.noGoto Ev.wpAnyG Go.Oper.wp Ev.Back Ev.Left Ev.Spc Ev.At Ev.Pure Ev.Reads Ev.Runs Ev.Does Ev.Cell

def numRes (o : Option Int) : Value := .tuple #[.int .i64 (o.getD 0), .bool o.isSome]
set_option maxHeartbeats 2000000 in
theorem number_spec (l : List UInt8) (H : Heap) (hl : l.length ≤ 1000000) : Spc Tryd.prog 20 #[sv l] H fun r H' => H = H' ∧ r = numRes (num l) := by
  have hcp := cutPrefix_spec l [45] H hl (by decide)
  have hres : (if l.take ([45] : List UInt8).length = [45] then Value.tuple #[sv (l.drop ([45] : List UInt8).length), .bool true] else .tuple #[sv l, .bool false]) = .tuple #[sv (digs l), .bool (neg1 l)] := by
    show (if l.take 1 = [45] then Value.tuple #[sv (l.drop 1), .bool true] else .tuple #[sv l, .bool false]) = _
    unfold digs neg1
    by_cases c : l.take 1 = [45]
    · rw [if_pos c, decide_eq_true c, if_pos rfl]
    · rw [if_neg c, decide_eq_false c]; rfl
  rw [hres] at hcp
  have hdl : (digs l).length ≤ 1000000 := by
    unfold digs
    split
    · simp; omega
    · exact hl
  unfold num
  generalize neg1 l = neg at *
  generalize digs l = ds at *
  have hb48 : ∀ b : UInt8, b.toNat = 48 ↔ b = 48 := fun b => ⟨fun e => by rw [byte_eq e]; rfl, fun e => by rw [e]; rfl⟩
  refine spec_of Tryd.func20 rfl Tryd.ntmps20 rfl (fun W => ?_)
  repeat (first | refine codeA (k := ?_) | refine condA (k := ?_) | refine offA (k := ?_) | refine pureA (k := ?_) | refine readA (k := ?_))
  refine At_wp (W_call rfl rfl hcp rfl rfl ?_) rfl
  rintro _ _ ⟨rfl, rfl⟩
  (repeat (first | refine pureA (k := ?_)))
  refine At_nil ?_
  refine At_then_normal ?_
  refine At_seq ?_
  refine At_seq ?_
  refine At_cut (fun (s : Unit) => [(4, sv ds), (5, .bool neg), (34, .bool (decide (ds.length < 1 ∨ 13 < ds.length ∨ (ds.take 1 = [48] ∧ (neg = true ∨ 1 < ds.length)))))]) (fun s H' => H' = H) ?_ ?_
  · repeat (first | refine codeA (k := ?_) | refine condA (k := ?_) | refine offA (k := ?_) | refine pureA (k := ?_) | refine readA (k := ?_))
    refine At_pure (p_lenS rfl rfl) rfl rfl rfl ?_
    by_cases h1 : ds.length < 1
    · rw [decide_eq_true (.inl h1)]
      repeat (first | refine codeA (k := ?_) | refine condA (k := ?_) | refine offA (k := ?_) | refine pureA (k := ?_) | refine readA (k := ?_))
      refine At_meet (E := fun (s : Unit) => _) (J := fun s H' => H' = H) () ?_ rfl
      (repeat (first | exact Sub.nil | refine Sub.cons rfl ?_))
    by_cases h2 : 13 < ds.length
    · rw [decide_eq_true (.inr (.inl h2))]
      repeat (first | refine codeA (k := ?_) | refine condA (k := ?_) | refine offA (k := ?_) | refine pureA (k := ?_) | refine readA (k := ?_))
      refine At_pure (p_lenS rfl rfl) rfl rfl rfl ?_
      repeat (first | refine codeA (k := ?_) | refine condA (k := ?_) | refine offA (k := ?_) | refine pureA (k := ?_) | refine readA (k := ?_))
      refine At_meet (E := fun (s : Unit) => _) (J := fun s H' => H' = H) () ?_ rfl
      (repeat (first | exact Sub.nil | refine Sub.cons rfl ?_))
    obtain ⟨b0, r0, rfl⟩ : ∃ b r, ds = b :: r := by
      cases ds with
      | nil => simp at h1
      | cons b r => exact ⟨b, r, rfl⟩
    have hbb := hb48 b0
    repeat (first | refine codeA (k := ?_) | refine condA (k := ?_) | refine offA (k := ?_) | refine pureA (k := ?_) | refine readA (k := ?_))
    refine At_pure (p_lenS rfl rfl) rfl rfl rfl ?_
    repeat (first | refine codeA (k := ?_) | refine condA (k := ?_) | refine offA (k := ?_) | refine pureA (k := ?_) | refine readA (k := ?_))
    refine At_pure (p_indexS (i := 0) (b := b0) rfl rfl rfl) rfl rfl rfl ?_
    by_cases h3 : b0.toNat = 48
    rotate_left
    · rw [decide_eq_false (by
        rintro (e | e | ⟨e, _⟩)
        · exact h1 e
        · exact h2 e
        · exact h3 (hbb.2 (by simpa using e)))]
      repeat (first | refine codeA (k := ?_) | refine condA (k := ?_) | refine offA (k := ?_) | refine pureA (k := ?_) | refine readA (k := ?_))
      refine At_meet (E := fun (s : Unit) => _) (J := fun s H' => H' = H) () ?_ rfl
      (repeat (first | exact Sub.nil | refine Sub.cons rfl ?_))
    have h48 : b0 = 48 := hbb.1 h3
    cases neg
    · by_cases h4 : 1 < (b0 :: r0).length
      · rw [decide_eq_true (.inr (.inr ⟨by rw [h48]; rfl, .inr h4⟩))]
        repeat (first | refine codeA (k := ?_) | refine condA (k := ?_) | refine offA (k := ?_) | refine pureA (k := ?_) | refine readA (k := ?_))
        refine At_pure (p_lenS rfl rfl) rfl rfl rfl ?_
        repeat (first | refine codeA (k := ?_) | refine condA (k := ?_) | refine offA (k := ?_) | refine pureA (k := ?_) | refine readA (k := ?_))
        refine At_meet (E := fun (s : Unit) => _) (J := fun s H' => H' = H) () ?_ rfl
        (repeat (first | exact Sub.nil | refine Sub.cons rfl ?_))
      · rw [decide_eq_false (by
          rintro (e | e | ⟨_, e | e⟩)
          · exact h1 e
          · exact h2 e
          · cases e
          · exact h4 e)]
        repeat (first | refine codeA (k := ?_) | refine condA (k := ?_) | refine offA (k := ?_) | refine pureA (k := ?_) | refine readA (k := ?_))
        refine At_pure (p_lenS rfl rfl) rfl rfl rfl ?_
        repeat (first | refine codeA (k := ?_) | refine condA (k := ?_) | refine offA (k := ?_) | refine pureA (k := ?_) | refine readA (k := ?_))
        refine At_meet (E := fun (s : Unit) => _) (J := fun s H' => H' = H) () ?_ rfl
        (repeat (first | exact Sub.nil | refine Sub.cons rfl ?_))
    · rw [decide_eq_true (.inr (.inr ⟨by rw [h48]; rfl, .inl rfl⟩))]
      repeat (first | refine codeA (k := ?_) | refine condA (k := ?_) | refine offA (k := ?_) | refine pureA (k := ?_) | refine readA (k := ?_))
      refine At_meet (E := fun (s : Unit) => _) (J := fun s H' => H' = H) () ?_ rfl
      (repeat (first | exact Sub.nil | refine Sub.cons rfl ?_))
  rintro _ _ rfl
  rename_i H
  refine At_cond_dec rfl (fun hbad => ?_) (fun hbad => ?_)
  · rw [if_pos hbad]
    repeat (first | refine codeA (k := ?_) | refine condA (k := ?_) | refine offA (k := ?_) | refine pureA (k := ?_) | refine readA (k := ?_))
    exact At_ret2 rfl rfl rfl ⟨rfl, rfl⟩
  rw [if_neg hbad]
  have h13 : ds.length ≤ 13 := by
    rcases Nat.lt_or_ge 13 ds.length with e | e
    · exact absurd (.inr (.inl e)) hbad
    · exact e
  repeat (first | refine codeA (k := ?_) | refine condA (k := ?_) | refine offA (k := ?_) | refine pureA (k := ?_) | refine readA (k := ?_))
  refine At_pure (p_lenS rfl rfl) rfl rfl rfl ?_
  repeat (first | refine codeA (k := ?_) | refine condA (k := ?_) | refine offA (k := ?_) | refine pureA (k := ?_) | refine readA (k := ?_))
  refine At_cut (fun (s : Unit) => [(5, .bool neg), (6, .int .i64 (dval ds))]) (fun s H' => H' = H ∧ ds.all isD = true) ?_ ?_
  · refine At_block ?_
    refine At_loop (fun (s : Nat) => [(4, sv ds), (5, .bool neg), (6, .int .i64 (dval (ds.take s))), (36, .int .i64 ds.length), (37, .int .i64 s)]) (fun s H' => H' = H ∧ s ≤ ds.length ∧ (ds.take s).all isD = true) (fun s => ds.length - s) 0 ?_ ⟨rfl, Nat.zero_le _, rfl⟩ ?_
    · (repeat (first | exact Sub.nil | refine Sub.cons rfl ?_))
    rintro i H1 ⟨rfl, hi, hall⟩
    by_cases hil : i < ds.length
    rotate_left
    · obtain rfl : i = ds.length := by omega
      rw [List.take_length] at *
      repeat (first | refine codeA (k := ?_) | refine condA (k := ?_) | refine offA (k := ?_) | refine pureA (k := ?_) | refine readA (k := ?_))
      refine At_meet (E := fun (s : Unit) => [(5, .bool neg), (6, .int .i64 (dval ds))]) (J := fun s H' => H' = H1 ∧ ds.all isD = true) () ?_ ⟨rfl, hall⟩
      (repeat (first | exact Sub.nil | refine Sub.cons rfl ?_))
    have hx : ds[i]? = some ds[i] := by simp [hil]
    generalize ds[i] = b at hx
    have htk : ds.take (i + 1) = ds.take i ++ [b] := by rw [List.take_add_one, hx]; rfl
    have hdv : dval (ds.take (i + 1)) = 10 * dval (ds.take i) + (b.toNat - 48) := by rw [htk, dval_snoc]
    have hlt := dval_lt _ hall
    have hlt2 : 10 ^ (ds.take i).length ≤ 10 ^ 13 := Nat.pow_le_pow_right (by decide) (by simp; omega)
    repeat (first | refine codeA (k := ?_) | refine condA (k := ?_) | refine offA (k := ?_) | refine pureA (k := ?_) | refine readA (k := ?_) | refine At_block ?_)
    refine At_pure (p_indexS (i := i) (b := b) rfl rfl hx) rfl rfl rfl ?_
    have hnd : ¬ (48 ≤ b.toNat ∧ b.toNat ≤ 57) → ¬ ds.all isD = true := fun h e => h (all_digit e (List.mem_of_getElem? hx))
    by_cases hb1 : b.toNat < 48
    · rw [if_neg (hnd (by omega))]
      repeat (first | refine codeA (k := ?_) | refine condA (k := ?_) | refine offA (k := ?_) | refine pureA (k := ?_) | refine readA (k := ?_))
      exact At_ret2 rfl rfl rfl ⟨rfl, rfl⟩
    by_cases hb2 : 57 < b.toNat
    · rw [if_neg (hnd (by omega))]
      repeat (first | refine codeA (k := ?_) | refine condA (k := ?_) | refine offA (k := ?_) | refine pureA (k := ?_) | refine readA (k := ?_))
      exact At_ret2 rfl rfl rfl ⟨rfl, rfl⟩
    repeat (first | refine codeA (k := ?_) | refine condA (k := ?_) | refine offA (k := ?_) | refine pureA (k := ?_) | refine readA (k := ?_))
    refine At_pure (p_mul rfl rfl (by omega)) rfl rfl rfl ?_
    repeat (first | refine codeA (k := ?_) | refine condA (k := ?_) | refine offA (k := ?_) | refine pureA (k := ?_) | refine readA (k := ?_))
    refine At_pure (p_subw rfl rfl) rfl rfl rfl ?_
    refine At_tell 52 (.int .u8 ((b.toNat : Int) - 48)) rfl (by rw [IntWalk.u8_in _ (by omega)]) ?_
    refine At_pure (p_convInt rfl) rfl rfl rfl ?_
    refine At_tell 53 (.int .i64 ((b.toNat : Int) - 48)) rfl (by rw [IntWalk.i64_in _ (by omega)]) ?_
    repeat (first | refine codeA (k := ?_) | refine condA (k := ?_) | refine offA (k := ?_) | refine pureA (k := ?_) | refine readA (k := ?_))
    refine At_tell 6 (.int .i64 (dval (ds.take (i + 1)))) rfl (by rw [hdv]; congr 1; omega) ?_
    refine At_back (i + 1) ?_ ⟨rfl, by omega, ?_⟩ (by omega)
    · (repeat (first | exact Sub.nil | refine Sub.cons rfl ?_))
    · rw [htk, List.all_append, hall]
      simp [isD]
      omega
  rintro _ _ ⟨rfl, hall⟩
  have hlt := dval_lt _ hall
  have hlt2 : 10 ^ ds.length ≤ 10 ^ 13 := Nat.pow_le_pow_right (by decide) h13
  rw [if_pos hall]
  cases neg
  · repeat (first | refine codeA (k := ?_) | refine condA (k := ?_) | refine offA (k := ?_) | refine pureA (k := ?_) | refine readA (k := ?_))
    exact At_ret2 rfl rfl rfl ⟨rfl, rfl⟩
  · repeat (first | refine codeA (k := ?_) | refine condA (k := ?_) | refine offA (k := ?_) | refine pureA (k := ?_) | refine readA (k := ?_))
    refine At_pure (p_negw rfl (by omega)) rfl rfl rfl ?_
    repeat (first | refine codeA (k := ?_) | refine condA (k := ?_) | refine offA (k := ?_) | refine pureA (k := ?_) | refine readA (k := ?_))
    exact At_ret2 rfl rfl rfl ⟨rfl, rfl⟩
end Go.Proofs.YticgbdeoiihbmaaDoor

/- A turn's maker: records added. -/
import Derived.Test.YtlaobecajieaaaaGreatG18
namespace Go.Proofs.YtlaobecajieaaaaGreat
open Go Ev
set_option linter.unusedVariables false
set_option linter.unusedSimpArgs false
section
variable {P : Program} {n : Nat} {W : World} {env : Env} {H0 H : Heap} {R L L' : Bks} {Q : Exit → Act → World → Prop} {K : Act → World → Prop}
variable {ty : TypeId} {pos : String} {af : Array Edge} {gd : Option (Nat × Bool)}
theorem app0W {d b off m c sz sb es eb : Nat} {z ez : Value} {t e : TypeId} {dc : TypeDesc} {x y : Operand} {xs : List Value} (news : List Value) [h : Ty P t (.slice e) sz sb z] [he : Ty P e dc es eb ez] (hx : ev env x = some (.slice none 0 0)) (hy : ev env y = some (.slice (some ⟨b, off, none⟩) m c)) (hl : LookR R L b xs)
    (hcs : (xs.drop off).take news.length = news) (hlen : Nat.beq news.length (m * es) = true) (h1 : news.all (·.oneCell') = true) (hz : ez.cells.size = es) (hes : Nat.blt 0 es = true) (hm0 : Nat.blt 0 m = true) (hm1 : Nat.ble m 1000 = true) (hby : Nat.ble eb 1000000 = true) (hn : Nat.blt d n = true)
    (k : ∀ g c', H0.size ≤ g → m ≤ c' → Am n W ((d, .slice (some ⟨g, 0, none⟩) m c') :: env) H0 R ((g, news) :: L) K) : Am n W env H0 R L (fun a w => Oper.wp P ⟨some d, .call ⟨.builtin .append, #[x, y], #[t, t]⟩, ty, pos, af, gd⟩ a w K Q) := fun H hm => by
  have a1 : 0 < es := Nat.le_of_ble_eq_true hes
  have a2 : 0 < m := Nat.le_of_ble_eq_true hm0
  have a3 : m ≤ 1000 := Nat.le_of_ble_eq_true hm1
  have a4 : eb ≤ 1000000 := Nat.le_of_ble_eq_true hby
  have a5 : (0 + m) * eb ≤ 1000 * 1000000 := Nat.mul_le_mul (by omega) a4
  refine W_append (news := news) (m := m) hx hy (Own.nil H 0 e es) (Nat.eq_of_beq_eq_true hlen) (fun j u hj => hm.cell hl (by
    rw [← hcs, List.getElem?_take] at hj
    split at hj
    · rw [List.getElem?_drop] at hj
      exact hj
    · cases hj)) (fun u hu => List.all_eq_true.1 h1 u hu) (Nat.zero_le _) hz a1 a2 (by simp only [maxLen]; omega) (by omega) hn ?_
  intro g c' H' own hk hg
  rw [Nat.zero_add, List.nil_append] at own
  have hx' : Ext H H' := hk.mono (fun i e _ => by cases e)
  have hgH : H.size ≤ g := by
    rcases hg with e | e
    · cases e
    · exact e
  have hc : m ≤ c' := by
    rcases own.form with ⟨e, _⟩ | ⟨g2, c2, e, _, _, h6, _⟩
    · cases e
    · cases e; exact h6
  have := k g c' (by have := hm.size; omega) hc H' (hm.new hx' hgH (Has.own own))
  rw [Nat.zero_add]
  exact this
end
theorem _root_.Ev.Mem.noR {H0 H : Heap} {R L : Bks} (h : Mem H0 R L H) : Mem H0 [] L H := ⟨h.has, by simp, h.nd, by simp, h.kept⟩
theorem holdRC_one (t u : Int) : (holdRC t u).all (·.oneCell') = true := rfl
attribute [local irreducible] Go.wpList Go.bodyPost Go.Code.wp Go.Exit.then Go.Exit.inBlock Go.Exit.noGoto Ev.wpAnyG Go.Oper.wp Ev.Back Ev.Left Ev.Spc Ev.At Ev.Pure Ev.Reads Ev.Runs Ev.Does Ev.Cell Ev.Am Ev.Has Ev.Kn Go.Code.rounds

theorem add0_spec (H : Heap) (m : Nat) : Spc Tryz.prog 82 #[ptr m, nil0] H fun r H' => Ext H H' ∧ r = .bool true := by
  refine spec_of Tryz.func82 rfl Tryz.ntmps82 rfl (fun W => ?_)
  refine Am.new ?_
  repeat (first | refine codeM (k := ?_) | refine condM (k := ?_) | refine offM (k := ?_) | refine offMn (k := ?_) | refine pureM (k := ?_) | refine loadM (k := ?_) | refine loadB (k := ?_) | refine storeM (k := ?_) | refine storeB (k := ?_))
  exact ret1M rfl rfl (fun H hm => ⟨hm.toExt (by repeat (first | exact Pick.nil | refine Pick.keep ?_ | refine Pick.drop (by first | assumption | omega) ?_)), rfl⟩)
set_option maxHeartbeats 8000000 in
theorem addC_spec {H : Heap} {m rb rc ep recs  : Nat} {sv : Value} {now : Int} (hm0 : Has H m (stC 0 2 ep 0 recs nil0 nil0 ++ [nil0])) (hrb : Ro H rb (copyRC sv now)) (hsv : Sv H sv) (hne : rb ≠ m) (hnv : sv.ownBlock ≠ some m) (h0 : 0 ≤ now) (h1 : now ≤ 1099511627776) (hr : recs < 1000000) :
    Spc Tryz.prog 82 #[ptr m, .slice (some ⟨rb, 0, none⟩) 1 rc] H fun r H' => r = .bool true ∧ ∃ c cc g gc  q qc, H.size ≤ c ∧ H.size ≤ g ∧ H.size ≤ q  ∧ 1 ≤ qc ∧ Mem H [] [(q, copyRC sv now), (g, [.int .i64 0, .int .i64 1]), (c, copC (.slice (some ⟨g, 0, none⟩) 2 gc) 1 now 0 0), (m, stC 0 2 ep 0 (recs + 1) (.slice (some ⟨c, 0, none⟩) 1 cc) nil0 ++ [.slice (some ⟨q, 0, none⟩) 1 qc])] H' := by
  have hv1 := hsv.one
  refine spec_of Tryz.func82 rfl Tryz.ntmps82 rfl (fun W => ?_)
  refine Am.on ((Mem.startL hm0).andR1 hrb hne) ?_
  repeat (first | refine codeM (k := ?_) | refine condM (k := ?_) | refine offM (k := ?_) | refine offMn (k := ?_) | refine pureM (k := ?_) | refine loadM (k := ?_) | refine loadB (k := ?_) | refine storeM (k := ?_) | refine storeB (k := ?_))
  refine allocM rfl rfl rfl (fun z hz => ?_)
  refine storeB (h1 := copyRC_one hv1 now) (k := ?_)
  repeat (first | refine codeM (k := ?_) | refine condM (k := ?_) | refine offM (k := ?_) | refine offMn (k := ?_) | refine pureM (k := ?_) | refine loadM (k := ?_) | refine loadB (k := ?_) | refine storeM (k := ?_) | refine storeB (k := ?_))
  refine cutM (σ := Nat × Nat × Nat × Nat × Nat) (fun x => [(0, ptr m), (6, ptr z), (7, ptr x.1), (8, .int .i64 0), (9, .slice (some ⟨rb, 0, none⟩) 1 rc), (10, .int .i64 1), (11, .int .i64 0)]) (fun x => [(x.1, stC 0 2 ep 0 (recs + 1) (.slice (some ⟨x.2.1, 0, none⟩) 1 x.2.2.1) nil0), (z, copyRC sv now), (m, stC 0 2 ep 0 recs nil0 nil0 ++ [nil0]), (x.2.2.2.1, [.int .i64 0, .int .i64 1]), (x.2.1, copC (.slice (some ⟨x.2.2.2.1, 0, none⟩) 2 x.2.2.2.2) 1 now 0 0)]) (fun x => H.size ≤ x.1 ∧ H.size ≤ x.2.1 ∧ H.size ≤ x.2.2.2.1) ?_ ?_
  · refine drawM [3, 4] Tryz.mixed ?_
    first | refine dpM 0 (k := ?_) | refine doffM 0 (k := ?_) | refine dldM 0 rfl (k := ?_) | refine doffNM 0 (k := ?_) | refine dldB 0 rfl (k := ?_)
    first | refine dpM 1 (k := ?_) | refine doffM 1 (k := ?_) | refine dldM 1 rfl (k := ?_) | refine doffNM 1 (k := ?_) | refine dldB 1 rfl (k := ?_)
    first | refine dpM 2 (k := ?_) | refine doffM 2 (k := ?_) | refine dldM 2 rfl (k := ?_) | refine doffNM 2 (k := ?_) | refine dldB 2 rfl (k := ?_)
    refine dldN 3 (stC 0 2 ep 0 recs nil0 nil0) rfl rfl (.l (.there .here)) rfl (k := ?_)
    first | refine dpM 4 (k := ?_) | refine doffM 4 (k := ?_) | refine dldM 4 rfl (k := ?_) | refine doffNM 4 (k := ?_) | refine dldB 4 rfl (k := ?_)
    refine dx2L 5 10 rfl rfl (by kernel_rfl) rfl rfl (fun Hx => ?_) (fun Hx => ?_)
    · refine bs1W rfl rfl rfl (by decide) rfl (fun v hv => ?_)
      first | refine leftA (k := ?_) | refine leftF (by kernel_rfl) ?_
      refine dx2L 6 10 rfl rfl (by kernel_rfl) rfl rfl (fun Hx => ?_) (fun Hx => ?_)
      · refine callW rfl rfl rfl rfl (fun Hc hm => applyC1_spec (hm.roOf (.l .here)) (hsv.keep hm.kept (fun b e hl => by have hb := hsv.lt e; simp only [keys, List.map_cons, List.map_nil, List.mem_cons, List.not_mem_nil, or_false]; rintro hh; rcases hh with hh | hh | hh <;> first | omega | (subst hh; exact hnv e))) h0 h1 hr) ?_
        rintro Hc _ H1 hm ⟨c, cc, g, gc, rfl, hc, hg, hcc, hm1⟩
        have hc2 := Nat.le_trans hm.size hc
        have hg2 := Nat.le_trans hm.size hg
        refine Am.on (Mem.aft hm hm1 (.new (by first | assumption | omega) (.new (by first | assumption | omega) .nil))) ?_
        first | refine leftA (k := ?_) | refine leftF (by kernel_rfl) ?_
        first | refine dpM 7 (k := ?_) | refine doffM 7 (k := ?_) | refine dldM 7 rfl (k := ?_) | refine doffNM 7 (k := ?_) | refine dldB 7 rfl (k := ?_)
        first | refine dpM 8 (k := ?_) | refine doffM 8 (k := ?_) | refine dldM 8 rfl (k := ?_) | refine doffNM 8 (k := ?_) | refine dldB 8 rfl (k := ?_)
        first | refine dpM 9 (k := ?_) | refine doffM 9 (k := ?_) | refine dldM 9 rfl (k := ?_) | refine doffNM 9 (k := ?_) | refine dldB 9 rfl (k := ?_)
        refine dxL 10 rfl (by kernel_rfl) rfl (fun Hx => ?_)
        refine allocW rfl rfl (fun z7 hz7 => ?_)
        first | refine leftA (k := ?_) | refine leftF (by kernel_rfl) ?_
        refine dxL 11 rfl (by kernel_rfl) rfl (fun Hx => ?_)
        refine storeNW (stC 0 2 ep 0 (recs + 1) (.slice (some ⟨c, 0, none⟩) 1 cc) nil0) rfl rfl rfl rfl rfl .here rfl rfl ?_
        first | refine leftA (k := ?_) | refine leftF (by kernel_rfl) ?_
        first | refine dpM 12 (k := ?_) | refine doffM 12 (k := ?_) | refine dldM 12 rfl (k := ?_) | refine doffNM 12 (k := ?_) | refine dldB 12 rfl (k := ?_)
        refine ddoneM (by kernel_rfl) ?_
        refine codeM (k := ?_)
        refine meetM (z7, c, cc, g, gc) ?_ ⟨hz7, hc2, hg2⟩ (fun H hm => hm.sel (.k (s := (.k (s := (.k (s := (.k (s := (.k (s := (by repeat (first | exact Sel.nil | refine Sel.drop (by first | assumption | omega) ?_)))))))))))))
        (repeat (first | exact Sub.nil | refine Sub.cons rfl ?_))
      · refine allocW rfl rfl (fun z7 hz7 => ?_)
        first | refine leftA (k := ?_) | refine leftF (by kernel_rfl) ?_
        refine dxL 6 rfl (by kernel_rfl) rfl (fun Hx => ?_)
        refine callW rfl rfl rfl rfl (fun Hc hm => applyC1_spec (hm.roOf (.l (.there .here))) (hsv.keep hm.kept (fun b e hl => by have hb := hsv.lt e; simp only [keys, List.map_cons, List.map_nil, List.mem_cons, List.not_mem_nil, or_false]; rintro hh; rcases hh with hh | hh | hh | hh <;> first | omega | (subst hh; exact hnv e))) h0 h1 hr) ?_
        rintro Hc _ H1 hm ⟨c, cc, g, gc, rfl, hc, hg, hcc, hm1⟩
        have hc2 := Nat.le_trans hm.size hc
        have hg2 := Nat.le_trans hm.size hg
        refine Am.on (Mem.aft hm hm1 (.new (by first | assumption | omega) (.new (by first | assumption | omega) .nil))) ?_
        first | refine leftA (k := ?_) | refine leftF (by kernel_rfl) ?_
        first | refine dpM 7 (k := ?_) | refine doffM 7 (k := ?_) | refine dldM 7 rfl (k := ?_) | refine doffNM 7 (k := ?_) | refine dldB 7 rfl (k := ?_)
        first | refine dpM 8 (k := ?_) | refine doffM 8 (k := ?_) | refine dldM 8 rfl (k := ?_) | refine doffNM 8 (k := ?_) | refine dldB 8 rfl (k := ?_)
        first | refine dpM 9 (k := ?_) | refine doffM 9 (k := ?_) | refine dldM 9 rfl (k := ?_) | refine doffNM 9 (k := ?_) | refine dldB 9 rfl (k := ?_)
        refine dxL 11 rfl (by kernel_rfl) rfl (fun Hx => ?_)
        refine storeNW (stC 0 2 ep 0 (recs + 1) (.slice (some ⟨c, 0, none⟩) 1 cc) nil0) rfl rfl rfl rfl rfl (.there (.there .here)) rfl rfl ?_
        first | refine leftA (k := ?_) | refine leftF (by kernel_rfl) ?_
        first | refine dpM 12 (k := ?_) | refine doffM 12 (k := ?_) | refine dldM 12 rfl (k := ?_) | refine doffNM 12 (k := ?_) | refine dldB 12 rfl (k := ?_)
        refine ddoneM (by kernel_rfl) ?_
        refine codeM (k := ?_)
        refine meetM (z7, c, cc, g, gc) ?_ ⟨hz7, hc2, hg2⟩ (fun H hm => hm.sel (.k (s := (.k (s := (.k (s := (.k (s := (.k (s := (by repeat (first | exact Sel.nil | refine Sel.drop (by first | assumption | omega) ?_)))))))))))))
        (repeat (first | exact Sub.nil | refine Sub.cons rfl ?_))
    · refine allocW rfl rfl (fun z7 hz7 => ?_)
      first | refine leftA (k := ?_) | refine leftF (by kernel_rfl) ?_
      refine dxL 5 rfl (by kernel_rfl) rfl (fun Hx => ?_)
      refine bs1W rfl rfl rfl (by decide) rfl (fun v hv => ?_)
      first | refine leftA (k := ?_) | refine leftF (by kernel_rfl) ?_
      refine dxL 6 rfl (by kernel_rfl) rfl (fun Hx => ?_)
      refine callW rfl rfl rfl rfl (fun Hc hm => applyC1_spec (hm.roOf (.l .here)) (hsv.keep hm.kept (fun b e hl => by have hb := hsv.lt e; simp only [keys, List.map_cons, List.map_nil, List.mem_cons, List.not_mem_nil, or_false]; rintro hh; rcases hh with hh | hh | hh | hh <;> first | omega | (subst hh; exact hnv e))) h0 h1 hr) ?_
      rintro Hc _ H1 hm ⟨c, cc, g, gc, rfl, hc, hg, hcc, hm1⟩
      have hc2 := Nat.le_trans hm.size hc
      have hg2 := Nat.le_trans hm.size hg
      refine Am.on (Mem.aft hm hm1 (.new (by first | assumption | omega) (.new (by first | assumption | omega) .nil))) ?_
      first | refine leftA (k := ?_) | refine leftF (by kernel_rfl) ?_
      first | refine dpM 7 (k := ?_) | refine doffM 7 (k := ?_) | refine dldM 7 rfl (k := ?_) | refine doffNM 7 (k := ?_) | refine dldB 7 rfl (k := ?_)
      first | refine dpM 8 (k := ?_) | refine doffM 8 (k := ?_) | refine dldM 8 rfl (k := ?_) | refine doffNM 8 (k := ?_) | refine dldB 8 rfl (k := ?_)
      first | refine dpM 9 (k := ?_) | refine doffM 9 (k := ?_) | refine dldM 9 rfl (k := ?_) | refine doffNM 9 (k := ?_) | refine dldB 9 rfl (k := ?_)
      refine dxL 11 rfl (by kernel_rfl) rfl (fun Hx => ?_)
      refine storeNW (stC 0 2 ep 0 (recs + 1) (.slice (some ⟨c, 0, none⟩) 1 cc) nil0) rfl rfl rfl rfl rfl (.there (.there (.there .here))) rfl rfl ?_
      first | refine leftA (k := ?_) | refine leftF (by kernel_rfl) ?_
      first | refine dpM 12 (k := ?_) | refine doffM 12 (k := ?_) | refine dldM 12 rfl (k := ?_) | refine doffNM 12 (k := ?_) | refine dldB 12 rfl (k := ?_)
      refine ddoneM (by kernel_rfl) ?_
      refine codeM (k := ?_)
      refine meetM (z7, c, cc, g, gc) ?_ ⟨hz7, hc2, hg2⟩ (fun H hm => hm.sel (.k (s := (.k (s := (.k (s := (.k (s := (.k (s := (by repeat (first | exact Sel.nil | refine Sel.drop (by first | assumption | omega) ?_)))))))))))))
      (repeat (first | exact Sub.nil | refine Sub.cons rfl ?_))
  rintro ⟨z7, c, cc, g, gc⟩ ⟨hz7, hc, hg⟩
  dsimp only at hz7 hc hg ⊢
  repeat (first | refine codeM (k := ?_) | refine condM (k := ?_) | refine offM (k := ?_) | refine offMn (k := ?_) | refine pureM (k := ?_) | refine loadM (k := ?_) | refine loadB (k := ?_) | refine storeM (k := ?_))
  refine storeN (stC 0 2 ep 0 (recs + 1) (.slice (some ⟨c, 0, none⟩) 1 cc) nil0 ++ [nil0]) rfl rfl rfl rfl rfl (.there (.there .here)) rfl rfl rfl ?_
  repeat (first | refine codeM (k := ?_) | refine condM (k := ?_) | refine offM (k := ?_) | refine offMn (k := ?_) | refine pureM (k := ?_) | refine loadM (k := ?_) | refine loadB (k := ?_) | refine storeM (k := ?_) | refine storeB (k := ?_))
  refine drawM [4, 5] Tryz.mixed ?_
  first | refine dpM 0 (k := ?_) | refine doffM 0 (k := ?_) | refine dldM 0 rfl (k := ?_) | refine doffNM 0 (k := ?_) | refine dldB 0 rfl (k := ?_)
  first | refine dpM 1 (k := ?_) | refine doffM 1 (k := ?_) | refine dldM 1 rfl (k := ?_) | refine doffNM 1 (k := ?_) | refine dldB 1 rfl (k := ?_)
  first | refine dpM 2 (k := ?_) | refine doffM 2 (k := ?_) | refine dldM 2 rfl (k := ?_) | refine doffNM 2 (k := ?_) | refine dldB 2 rfl (k := ?_)
  first | refine dpM 3 (k := ?_) | refine doffM 3 (k := ?_) | refine dldM 3 rfl (k := ?_) | refine doffNM 3 (k := ?_) | refine dldB 3 rfl (k := ?_)
  first | refine dpM 4 (k := ?_) | refine doffM 4 (k := ?_) | refine dldM 4 rfl (k := ?_) | refine doffNM 4 (k := ?_) | refine dldB 4 rfl (k := ?_)
  first | refine dpM 5 (k := ?_) | refine doffM 5 (k := ?_) | refine dldM 5 rfl (k := ?_) | refine doffNM 5 (k := ?_) | refine dldB 5 rfl (k := ?_)
  refine dxL 6 rfl (by kernel_rfl) rfl (fun Hx => ?_)
  refine bs1W rfl rfl rfl (by decide) rfl (fun w hw => ?_)
  first | refine leftA (k := ?_) | refine leftF (by kernel_rfl) ?_
  refine dxL 7 rfl (by kernel_rfl) rfl (fun Hx => ?_)
  refine app0W (copyRC sv now) rfl rfl (.l .here) rfl (by rfl) (copyRC_one hv1 now) (by rfl) (by rfl) rfl rfl (by rfl) rfl (fun q qc hq hqc => ?_)
  first | refine leftA (k := ?_) | refine leftF (by kernel_rfl) ?_
  first | refine dpM 8 (k := ?_) | refine doffM 8 (k := ?_) | refine dldM 8 rfl (k := ?_) | refine doffNM 8 (k := ?_) | refine dldB 8 rfl (k := ?_)
  first | refine dpM 9 (k := ?_) | refine doffM 9 (k := ?_) | refine dldM 9 rfl (k := ?_) | refine doffNM 9 (k := ?_) | refine dldB 9 rfl (k := ?_)
  refine dxL 10 rfl (by kernel_rfl) rfl (fun Hx => ?_)
  refine storeW rfl rfl rfl rfl rfl (.there (.there (.there (.there .here)))) rfl ?_
  first | refine leftA (k := ?_) | refine leftF (by kernel_rfl) ?_
  refine ddoneM (by kernel_rfl) ?_
  repeat (first | refine codeM (k := ?_) | refine condM (k := ?_) | refine offM (k := ?_) | refine offMn (k := ?_) | refine pureM (k := ?_) | refine loadM (k := ?_) | refine loadB (k := ?_) | refine storeM (k := ?_) | refine storeB (k := ?_))
  exact ret1M rfl rfl (fun H hm => ⟨rfl, c, cc, g, gc, q, qc, hc, hg, hq, hqc, (hm.sel (.k (s := (.k (s := (.k (s := (.k (s := (by repeat (first | exact Sel.nil | refine Sel.drop (by first | assumption | omega) ?_))))))))))).noR⟩)
set_option maxHeartbeats 8000000 in
theorem addH_spec {H : Heap} {m rb rc ep recs c0 cc0 : Nat} {sv : Value} {since t u : Int} (hm0 : Has H m (stC 0 2 ep 0 recs (.slice (some ⟨c0, 0, none⟩) 1 cc0) nil0 ++ [nil0])) (hrb : Ro H rb (holdRC t u)) (hsv : Sv H sv) (hne : rb ≠ m) (hnv : sv.ownBlock ≠ some m) (hc0 : Ro H c0 (copC sv 1 since 0 0)) (hnc : c0 ≠ m) (h0 : 0 ≤ t) (ht : t + 5 < 1099511627776) (hr : recs < 1000000) :
    Spc Tryz.prog 82 #[ptr m, .slice (some ⟨rb, 0, none⟩) 1 rc] H fun r H' => r = .bool true ∧ ∃ c cc g gc p pc q qc, H.size ≤ c ∧ H.size ≤ g ∧ H.size ≤ q ∧ H.size ≤ p ∧ 1 ≤ qc ∧ Mem H [] [(q, holdRC t u), (p, resvC t (t + 5) 1 u), (g, [.int .i64 0, .int .i64 1]), (c, copC (.slice (some ⟨g, 0, none⟩) 2 gc) 4 since 1 t), (m, stC 0 2 ep 0 (recs + 1) (.slice (some ⟨c, 0, none⟩) 1 cc) (.slice (some ⟨p, 0, none⟩) 1 pc) ++ [.slice (some ⟨q, 0, none⟩) 1 qc])] H' := by
  have hv1 := hsv.one
  refine spec_of Tryz.func82 rfl Tryz.ntmps82 rfl (fun W => ?_)
  refine Am.on (((Mem.startL hm0).andR1 hrb hne).read hc0.1 hc0.2 (by simpa [keys] using hnc)) ?_
  repeat (first | refine codeM (k := ?_) | refine condM (k := ?_) | refine offM (k := ?_) | refine offMn (k := ?_) | refine pureM (k := ?_) | refine loadM (k := ?_) | refine loadB (k := ?_) | refine storeM (k := ?_) | refine storeB (k := ?_))
  refine allocM rfl rfl rfl (fun z hz => ?_)
  refine storeB (h1 := holdRC_one t u) (k := ?_)
  repeat (first | refine codeM (k := ?_) | refine condM (k := ?_) | refine offM (k := ?_) | refine offMn (k := ?_) | refine pureM (k := ?_) | refine loadM (k := ?_) | refine loadB (k := ?_) | refine storeM (k := ?_) | refine storeB (k := ?_))
  refine cutM (σ := Nat × Nat × Nat × Nat × Nat × Nat × Nat) (fun x => [(0, ptr m), (6, ptr z), (7, ptr x.1), (8, .int .i64 0), (9, .slice (some ⟨rb, 0, none⟩) 1 rc), (10, .int .i64 1), (11, .int .i64 0)]) (fun x => [(x.1, stC 0 2 ep 0 (recs + 1) (.slice (some ⟨x.2.1, 0, none⟩) 1 x.2.2.1) (.slice (some ⟨x.2.2.2.2.2.1, 0, none⟩) 1 x.2.2.2.2.2.2)), (z, holdRC t u), (m, stC 0 2 ep 0 recs (.slice (some ⟨c0, 0, none⟩) 1 cc0) nil0 ++ [nil0]), (x.2.2.2.2.2.1, resvC t (t + 5) 1 u), (x.2.2.2.1, [.int .i64 0, .int .i64 1]), (x.2.1, copC (.slice (some ⟨x.2.2.2.1, 0, none⟩) 2 x.2.2.2.2.1) 4 since 1 t)]) (fun x => H.size ≤ x.1 ∧ H.size ≤ x.2.1 ∧ H.size ≤ x.2.2.2.1 ∧ H.size ≤ x.2.2.2.2.2.1) ?_ ?_
  · refine drawM [3, 4] Tryz.mixed ?_
    first | refine dpM 0 (k := ?_) | refine doffM 0 (k := ?_) | refine dldM 0 rfl (k := ?_) | refine doffNM 0 (k := ?_) | refine dldB 0 rfl (k := ?_)
    first | refine dpM 1 (k := ?_) | refine doffM 1 (k := ?_) | refine dldM 1 rfl (k := ?_) | refine doffNM 1 (k := ?_) | refine dldB 1 rfl (k := ?_)
    first | refine dpM 2 (k := ?_) | refine doffM 2 (k := ?_) | refine dldM 2 rfl (k := ?_) | refine doffNM 2 (k := ?_) | refine dldB 2 rfl (k := ?_)
    refine dldN 3 (stC 0 2 ep 0 recs (.slice (some ⟨c0, 0, none⟩) 1 cc0) nil0) rfl rfl (.l (.there .here)) rfl (k := ?_)
    first | refine dpM 4 (k := ?_) | refine doffM 4 (k := ?_) | refine dldM 4 rfl (k := ?_) | refine doffNM 4 (k := ?_) | refine dldB 4 rfl (k := ?_)
    refine dx2L 5 10 rfl rfl (by kernel_rfl) rfl rfl (fun Hx => ?_) (fun Hx => ?_)
    · refine bs1W rfl rfl rfl (by decide) rfl (fun v hv => ?_)
      first | refine leftA (k := ?_) | refine leftF (by kernel_rfl) ?_
      refine dx2L 6 10 rfl rfl (by kernel_rfl) rfl rfl (fun Hx => ?_) (fun Hx => ?_)
      · refine callW rfl rfl rfl rfl (fun Hc hm => applyH1_spec (hm.roOf (.l .here)) (hm.roOf (.r .here)) (hsv.keep hm.kept (fun b e hl => by have hb := hsv.lt e; simp only [keys, List.map_cons, List.map_nil, List.mem_cons, List.not_mem_nil, or_false]; rintro hh; rcases hh with hh | hh | hh <;> first | omega | (subst hh; exact hnv e))) h0 ht hr) ?_
        rintro Hc _ H1 hm ⟨c, cc, g, gc, p, pc, rfl, hc, hg, hp, hcc, hm1⟩
        have hc2 := Nat.le_trans hm.size hc
        have hg2 := Nat.le_trans hm.size hg
        have hp2 := Nat.le_trans hm.size hp
        refine Am.on (Mem.aft hm hm1 (.new (by first | assumption | omega) (.new (by first | assumption | omega) (.new (by first | assumption | omega) .nil)))) ?_
        first | refine leftA (k := ?_) | refine leftF (by kernel_rfl) ?_
        first | refine dpM 7 (k := ?_) | refine doffM 7 (k := ?_) | refine dldM 7 rfl (k := ?_) | refine doffNM 7 (k := ?_) | refine dldB 7 rfl (k := ?_)
        first | refine dpM 8 (k := ?_) | refine doffM 8 (k := ?_) | refine dldM 8 rfl (k := ?_) | refine doffNM 8 (k := ?_) | refine dldB 8 rfl (k := ?_)
        first | refine dpM 9 (k := ?_) | refine doffM 9 (k := ?_) | refine dldM 9 rfl (k := ?_) | refine doffNM 9 (k := ?_) | refine dldB 9 rfl (k := ?_)
        refine dxL 10 rfl (by kernel_rfl) rfl (fun Hx => ?_)
        refine allocW rfl rfl (fun z7 hz7 => ?_)
        first | refine leftA (k := ?_) | refine leftF (by kernel_rfl) ?_
        refine dxL 11 rfl (by kernel_rfl) rfl (fun Hx => ?_)
        refine storeNW (stC 0 2 ep 0 (recs + 1) (.slice (some ⟨c, 0, none⟩) 1 cc) (.slice (some ⟨p, 0, none⟩) 1 pc)) rfl rfl rfl rfl rfl .here rfl rfl ?_
        first | refine leftA (k := ?_) | refine leftF (by kernel_rfl) ?_
        first | refine dpM 12 (k := ?_) | refine doffM 12 (k := ?_) | refine dldM 12 rfl (k := ?_) | refine doffNM 12 (k := ?_) | refine dldB 12 rfl (k := ?_)
        refine ddoneM (by kernel_rfl) ?_
        refine codeM (k := ?_)
        refine meetM (z7, c, cc, g, gc, p, pc) ?_ ⟨hz7, hc2, hg2, hp2⟩ (fun H hm => hm.sel (.k (s := (.k (s := (.k (s := (.k (s := (.k (s := (.k (s := (by repeat (first | exact Sel.nil | refine Sel.drop (by first | assumption | omega) ?_)))))))))))))))
        (repeat (first | exact Sub.nil | refine Sub.cons rfl ?_))
      · refine allocW rfl rfl (fun z7 hz7 => ?_)
        first | refine leftA (k := ?_) | refine leftF (by kernel_rfl) ?_
        refine dxL 6 rfl (by kernel_rfl) rfl (fun Hx => ?_)
        refine callW rfl rfl rfl rfl (fun Hc hm => applyH1_spec (hm.roOf (.l (.there .here))) (hm.roOf (.r .here)) (hsv.keep hm.kept (fun b e hl => by have hb := hsv.lt e; simp only [keys, List.map_cons, List.map_nil, List.mem_cons, List.not_mem_nil, or_false]; rintro hh; rcases hh with hh | hh | hh | hh <;> first | omega | (subst hh; exact hnv e))) h0 ht hr) ?_
        rintro Hc _ H1 hm ⟨c, cc, g, gc, p, pc, rfl, hc, hg, hp, hcc, hm1⟩
        have hc2 := Nat.le_trans hm.size hc
        have hg2 := Nat.le_trans hm.size hg
        have hp2 := Nat.le_trans hm.size hp
        refine Am.on (Mem.aft hm hm1 (.new (by first | assumption | omega) (.new (by first | assumption | omega) (.new (by first | assumption | omega) .nil)))) ?_
        first | refine leftA (k := ?_) | refine leftF (by kernel_rfl) ?_
        first | refine dpM 7 (k := ?_) | refine doffM 7 (k := ?_) | refine dldM 7 rfl (k := ?_) | refine doffNM 7 (k := ?_) | refine dldB 7 rfl (k := ?_)
        first | refine dpM 8 (k := ?_) | refine doffM 8 (k := ?_) | refine dldM 8 rfl (k := ?_) | refine doffNM 8 (k := ?_) | refine dldB 8 rfl (k := ?_)
        first | refine dpM 9 (k := ?_) | refine doffM 9 (k := ?_) | refine dldM 9 rfl (k := ?_) | refine doffNM 9 (k := ?_) | refine dldB 9 rfl (k := ?_)
        refine dxL 11 rfl (by kernel_rfl) rfl (fun Hx => ?_)
        refine storeNW (stC 0 2 ep 0 (recs + 1) (.slice (some ⟨c, 0, none⟩) 1 cc) (.slice (some ⟨p, 0, none⟩) 1 pc)) rfl rfl rfl rfl rfl (.there (.there (.there .here))) rfl rfl ?_
        first | refine leftA (k := ?_) | refine leftF (by kernel_rfl) ?_
        first | refine dpM 12 (k := ?_) | refine doffM 12 (k := ?_) | refine dldM 12 rfl (k := ?_) | refine doffNM 12 (k := ?_) | refine dldB 12 rfl (k := ?_)
        refine ddoneM (by kernel_rfl) ?_
        refine codeM (k := ?_)
        refine meetM (z7, c, cc, g, gc, p, pc) ?_ ⟨hz7, hc2, hg2, hp2⟩ (fun H hm => hm.sel (.k (s := (.k (s := (.k (s := (.k (s := (.k (s := (.k (s := (by repeat (first | exact Sel.nil | refine Sel.drop (by first | assumption | omega) ?_)))))))))))))))
        (repeat (first | exact Sub.nil | refine Sub.cons rfl ?_))
    · refine allocW rfl rfl (fun z7 hz7 => ?_)
      first | refine leftA (k := ?_) | refine leftF (by kernel_rfl) ?_
      refine dxL 5 rfl (by kernel_rfl) rfl (fun Hx => ?_)
      refine bs1W rfl rfl rfl (by decide) rfl (fun v hv => ?_)
      first | refine leftA (k := ?_) | refine leftF (by kernel_rfl) ?_
      refine dxL 6 rfl (by kernel_rfl) rfl (fun Hx => ?_)
      refine callW rfl rfl rfl rfl (fun Hc hm => applyH1_spec (hm.roOf (.l .here)) (hm.roOf (.r .here)) (hsv.keep hm.kept (fun b e hl => by have hb := hsv.lt e; simp only [keys, List.map_cons, List.map_nil, List.mem_cons, List.not_mem_nil, or_false]; rintro hh; rcases hh with hh | hh | hh | hh <;> first | omega | (subst hh; exact hnv e))) h0 ht hr) ?_
      rintro Hc _ H1 hm ⟨c, cc, g, gc, p, pc, rfl, hc, hg, hp, hcc, hm1⟩
      have hc2 := Nat.le_trans hm.size hc
      have hg2 := Nat.le_trans hm.size hg
      have hp2 := Nat.le_trans hm.size hp
      refine Am.on (Mem.aft hm hm1 (.new (by first | assumption | omega) (.new (by first | assumption | omega) (.new (by first | assumption | omega) .nil)))) ?_
      first | refine leftA (k := ?_) | refine leftF (by kernel_rfl) ?_
      first | refine dpM 7 (k := ?_) | refine doffM 7 (k := ?_) | refine dldM 7 rfl (k := ?_) | refine doffNM 7 (k := ?_) | refine dldB 7 rfl (k := ?_)
      first | refine dpM 8 (k := ?_) | refine doffM 8 (k := ?_) | refine dldM 8 rfl (k := ?_) | refine doffNM 8 (k := ?_) | refine dldB 8 rfl (k := ?_)
      first | refine dpM 9 (k := ?_) | refine doffM 9 (k := ?_) | refine dldM 9 rfl (k := ?_) | refine doffNM 9 (k := ?_) | refine dldB 9 rfl (k := ?_)
      refine dxL 11 rfl (by kernel_rfl) rfl (fun Hx => ?_)
      refine storeNW (stC 0 2 ep 0 (recs + 1) (.slice (some ⟨c, 0, none⟩) 1 cc) (.slice (some ⟨p, 0, none⟩) 1 pc)) rfl rfl rfl rfl rfl (.there (.there (.there (.there .here)))) rfl rfl ?_
      first | refine leftA (k := ?_) | refine leftF (by kernel_rfl) ?_
      first | refine dpM 12 (k := ?_) | refine doffM 12 (k := ?_) | refine dldM 12 rfl (k := ?_) | refine doffNM 12 (k := ?_) | refine dldB 12 rfl (k := ?_)
      refine ddoneM (by kernel_rfl) ?_
      refine codeM (k := ?_)
      refine meetM (z7, c, cc, g, gc, p, pc) ?_ ⟨hz7, hc2, hg2, hp2⟩ (fun H hm => hm.sel (.k (s := (.k (s := (.k (s := (.k (s := (.k (s := (.k (s := (by repeat (first | exact Sel.nil | refine Sel.drop (by first | assumption | omega) ?_)))))))))))))))
      (repeat (first | exact Sub.nil | refine Sub.cons rfl ?_))
  rintro ⟨z7, c, cc, g, gc, p, pc⟩ ⟨hz7, hc, hg, hp⟩
  dsimp only at hz7 hc hg hp ⊢
  repeat (first | refine codeM (k := ?_) | refine condM (k := ?_) | refine offM (k := ?_) | refine offMn (k := ?_) | refine pureM (k := ?_) | refine loadM (k := ?_) | refine loadB (k := ?_) | refine storeM (k := ?_))
  refine storeN (stC 0 2 ep 0 (recs + 1) (.slice (some ⟨c, 0, none⟩) 1 cc) (.slice (some ⟨p, 0, none⟩) 1 pc) ++ [nil0]) rfl rfl rfl rfl rfl (.there (.there .here)) rfl rfl rfl ?_
  repeat (first | refine codeM (k := ?_) | refine condM (k := ?_) | refine offM (k := ?_) | refine offMn (k := ?_) | refine pureM (k := ?_) | refine loadM (k := ?_) | refine loadB (k := ?_) | refine storeM (k := ?_) | refine storeB (k := ?_))
  refine drawM [4, 5] Tryz.mixed ?_
  first | refine dpM 0 (k := ?_) | refine doffM 0 (k := ?_) | refine dldM 0 rfl (k := ?_) | refine doffNM 0 (k := ?_) | refine dldB 0 rfl (k := ?_)
  first | refine dpM 1 (k := ?_) | refine doffM 1 (k := ?_) | refine dldM 1 rfl (k := ?_) | refine doffNM 1 (k := ?_) | refine dldB 1 rfl (k := ?_)
  first | refine dpM 2 (k := ?_) | refine doffM 2 (k := ?_) | refine dldM 2 rfl (k := ?_) | refine doffNM 2 (k := ?_) | refine dldB 2 rfl (k := ?_)
  first | refine dpM 3 (k := ?_) | refine doffM 3 (k := ?_) | refine dldM 3 rfl (k := ?_) | refine doffNM 3 (k := ?_) | refine dldB 3 rfl (k := ?_)
  first | refine dpM 4 (k := ?_) | refine doffM 4 (k := ?_) | refine dldM 4 rfl (k := ?_) | refine doffNM 4 (k := ?_) | refine dldB 4 rfl (k := ?_)
  first | refine dpM 5 (k := ?_) | refine doffM 5 (k := ?_) | refine dldM 5 rfl (k := ?_) | refine doffNM 5 (k := ?_) | refine dldB 5 rfl (k := ?_)
  refine dxL 6 rfl (by kernel_rfl) rfl (fun Hx => ?_)
  refine bs1W rfl rfl rfl (by decide) rfl (fun w hw => ?_)
  first | refine leftA (k := ?_) | refine leftF (by kernel_rfl) ?_
  refine dxL 7 rfl (by kernel_rfl) rfl (fun Hx => ?_)
  refine app0W (holdRC t u) rfl rfl (.l .here) rfl (by rfl) (holdRC_one t u) (by rfl) (by rfl) rfl rfl (by rfl) rfl (fun q qc hq hqc => ?_)
  first | refine leftA (k := ?_) | refine leftF (by kernel_rfl) ?_
  first | refine dpM 8 (k := ?_) | refine doffM 8 (k := ?_) | refine dldM 8 rfl (k := ?_) | refine doffNM 8 (k := ?_) | refine dldB 8 rfl (k := ?_)
  first | refine dpM 9 (k := ?_) | refine doffM 9 (k := ?_) | refine dldM 9 rfl (k := ?_) | refine doffNM 9 (k := ?_) | refine dldB 9 rfl (k := ?_)
  refine dxL 10 rfl (by kernel_rfl) rfl (fun Hx => ?_)
  refine storeW rfl rfl rfl rfl rfl (.there (.there (.there (.there .here)))) rfl ?_
  first | refine leftA (k := ?_) | refine leftF (by kernel_rfl) ?_
  refine ddoneM (by kernel_rfl) ?_
  repeat (first | refine codeM (k := ?_) | refine condM (k := ?_) | refine offM (k := ?_) | refine offMn (k := ?_) | refine pureM (k := ?_) | refine loadM (k := ?_) | refine loadB (k := ?_) | refine storeM (k := ?_) | refine storeB (k := ?_))
  exact ret1M rfl rfl (fun H hm => ⟨rfl, c, cc, g, gc, p, pc, q, qc, hc, hg, hq, hp, hqc, (hm.sel (.k (s := (.k (s := (.k (s := (.k (s := (.k (s := (by repeat (first | exact Sel.nil | refine Sel.drop (by first | assumption | omega) ?_))))))))))))).noR⟩)
end Go.Proofs.YtlaobecajieaaaaGreat

/- A copy that comes; records applied. -/
import Derived.Test.YtlaobecajieaaaaGreatG17
import Derived.Test.YtlaobecajieaaaaGreatG15
namespace Go.Proofs.YtlaobecajieaaaaGreat
open Go Ev
set_option linter.unusedVariables false
set_option linter.unusedSimpArgs false
inductive Rem : Bks → Nat → List Value → Bks → Prop
  | here {b : Nat} {xs : List Value} {r : Bks} : Rem ((b, xs) :: r) b xs r
  | there {p : Nat × List Value} {b : Nat} {xs : List Value} {r r' : Bks} : Rem r b xs r' → Rem (p :: r) b xs (p :: r')
theorem Rem.perm {L Lr : Bks} {b : Nat} {xs : List Value} (h : Rem L b xs Lr) : L.Perm ((b, xs) :: Lr) := by
  induction h with
  | here => exact List.Perm.refl _
  | there _ ih => exact (ih.cons _).trans (List.Perm.swap _ _ _)
/-- some of the blocks, in any order; those that are left are new -/
inductive Sel (N : Nat) : Bks → Bks → Prop
  | nil : Sel N [] []
  | drop {L L' : Bks} {b : Nat} {xs : List Value} : N ≤ b → Sel N L L' → Sel N ((b, xs) :: L) L'
  | keep {L Lr L' : Bks} {b : Nat} {xs : List Value} : Rem L b xs Lr → Sel N Lr L' → Sel N L ((b, xs) :: L')
/-- one more kept, looked for from the front -/
theorem Sel.k {N : Nat} {L Lr L' : Bks} {b : Nat} {xs : List Value} (h : Rem L b xs Lr := by
  first
  | exact .here
  | exact .there .here
  | exact .there (.there .here)
  | exact .there (.there (.there .here))
  | exact .there (.there (.there (.there .here)))
  | exact .there (.there (.there (.there (.there .here))))
  | exact .there (.there (.there (.there (.there (.there .here)))))
  | exact .there (.there (.there (.there (.there (.there (.there .here))))))
  | exact .there (.there (.there (.there (.there (.there (.there (.there .here)))))))
  | exact .there (.there (.there (.there (.there (.there (.there (.there (.there .here))))))))
  | exact .there (.there (.there (.there (.there (.there (.there (.there (.there (.there .here)))))))))
  | exact .there (.there (.there (.there (.there (.there (.there (.there (.there (.there (.there .here))))))))))
  | exact .there (.there (.there (.there (.there (.there (.there (.there (.there (.there (.there (.there .here)))))))))))
  | exact .there (.there (.there (.there (.there (.there (.there (.there (.there (.there (.there (.there (.there .here))))))))))))
  | exact .there (.there (.there (.there (.there (.there (.there (.there (.there (.there (.there (.there (.there (.there .here)))))))))))))
  | exact .there (.there (.there (.there (.there (.there (.there (.there (.there (.there (.there (.there (.there (.there (.there .here))))))))))))))) (s : Sel N Lr L') : Sel N L ((b, xs) :: L') := .keep h s
theorem Sel.perm {N : Nat} {L L' : Bks} (h : Sel N L L') : ∃ D : Bks, L.Perm (L' ++ D) ∧ ∀ p ∈ D, N ≤ p.1 := by
  induction h with
  | nil => exact ⟨[], List.Perm.refl _, by simp⟩
  | drop hb _ ih =>
    obtain ⟨D, h1, h2⟩ := ih
    refine ⟨(_, _) :: D, (h1.cons _).trans List.perm_middle.symm, fun p hp => ?_⟩
    rcases List.mem_cons.1 hp with rfl | hp
    · exact hb
    · exact h2 p hp
  | keep hr _ ih =>
    obtain ⟨D, h1, h2⟩ := ih
    exact ⟨D, hr.perm.trans (h1.cons _), h2⟩
theorem _root_.Ev.Mem.sel {H0 H : Heap} {R L L' : Bks} (h : Mem H0 R L H) (hs : Sel H0.size L L') : Mem H0 R L' H := by
  obtain ⟨D, h1, h2⟩ := hs.perm
  have hk := h1.map Prod.fst
  have hn : (keys (L' ++ D)).Nodup := hk.nodup_iff.1 h.nd
  rw [keys, List.map_append] at hn
  refine ⟨fun p hp => h.has p (h1.mem_iff.2 (List.mem_append_left _ hp)), h.ro, (List.nodup_append.1 hn).1, fun p hp e => h.apart p hp (hk.mem_iff.2 (by rw [List.map_append]; exact List.mem_append_left _ e)), ⟨h.kept.size, fun k hk' hS => h.kept.block k hk' (fun e => ?_)⟩⟩
  have := hk.mem_iff.1 e
  rw [List.map_append] at this
  rcases List.mem_append.1 this with e | e
  · exact hS e
  · obtain ⟨p, hp, rfl⟩ := List.mem_map.1 e
    have := h2 p hp
    omega
section
variable {P : Program} {n : Nat} {W : World} {env : Env} {H0 H : Heap} {R L L' : Bks} {Q : Exit → Act → World → Prop} {K : Act → World → Prop}
theorem pX {ops : Array Oper} {rest : List Oper} {o : Oper} {d : Nat} {v : Value} (hr : Ev.Pure P n env o v) (hw : want ops env o = some true) (hd : o.dst = some d) (hn : Nat.blt d n = true) (k : Am n W ((d, v) :: env) H0 R L (wpList P ops Q rest)) : Am n W env H0 R L (wpList P ops Q (o :: rest)) := fun H hm => At_pure hr hw hd hn (k H hm)
theorem cutM {σ : Type} (E : σ → Env) (Lf : σ → Bks) (J : σ → Prop) {c : Code} (h : Am n W env H0 R L (c.wp P (Exit.then (fun a w => ∃ s, Fits n (E s) a ∧ (J s ∧ Mem H0 R (Lf s) w.heap) ∧ Like W w) Q)))
    (k : ∀ s, J s → Am n W (E s) H0 R (Lf s) K) : Am n W env H0 R L (c.wp P (Exit.then K Q)) := fun H hm => At_cut E (fun s H => J s ∧ Mem H0 R (Lf s) H) (h H hm) (fun s H' hj => k s hj.1 H' hj.2)
theorem meetM {σ : Type} {E : σ → Env} {Lf : σ → Bks} {J : σ → Prop} (s : σ) (hs : Sub (E s) env) (hj : J s) (hm : ∀ H, Mem H0 R L H → Mem H0 R (Lf s) H) : Am n W env H0 R L (fun a w => ∃ s, Fits n (E s) a ∧ (J s ∧ Mem H0 R (Lf s) w.heap) ∧ Like W w) := fun H h => At_meet (J := fun s H => J s ∧ Mem H0 R (Lf s) H) s hs ⟨hj, hm H h⟩
end
theorem p_eqID {n : Nat} {env : Env} {ds : Option Tmp} {ty : TypeId} {pos : String} {af : Array Edge} {gd : Option (Nat × Bool)} {x y : Operand} {t2 : TypeId} {a b a' b' : Int} (hx : ev env x = some (.agg #[.int .i64 a, .int .i64 b])) (hy : ev env y = some (.agg #[.int .i64 a', .int .i64 b'])) :
    Ev.Pure Tryz.prog n env ⟨ds, .binOp .eql 23 x y t2, ty, pos, af, gd⟩ (.bool (decide (a = a' ∧ b = b'))) :=
  p_eqlPair (P := Tryz.prog) (t := 23) (h := ty23) Tryz.underlying3 Tryz.underlying3 rfl rfl rfl rfl (by kernel_rfl) (by kernel_rfl) hx hy
attribute [local irreducible] Go.wpList Go.bodyPost Go.Code.wp Go.Exit.then Go.Exit.inBlock Go.Exit.noGoto Ev.wpAnyG Go.Oper.wp Ev.Back Ev.Left Ev.Spc Ev.At Ev.Pure Ev.Reads Ev.Runs Ev.Does Ev.Cell Ev.Am Ev.Has Ev.Kn Go.Code.rounds

theorem index0 (H : Heap) (f : Value) : Spc Tryz.prog 205 #[nil0, f] H fun r H' => Ext H H' ∧ r = .int .i64 (-1) := by
  refine spec_of Tryz.func205 rfl Tryz.ntmps205 rfl (fun W => ?_)
  refine Am.new ?_
  repeat (first | refine codeM (k := ?_) | refine condM (k := ?_) | refine offM (k := ?_) | refine offMn (k := ?_) | refine pureM (k := ?_) | refine loadM (k := ?_) | refine loadB (k := ?_) | refine storeM (k := ?_) | refine storeB (k := ?_))
  exact ret1M rfl rfl (fun H hm => ⟨hm.toExt (by repeat (first | exact Pick.nil | refine Pick.keep ?_ | refine Pick.drop (by first | assumption | omega) ?_)), rfl⟩)
set_option maxHeartbeats 1000000 in
theorem index1 {H : Heap} {c cc a : Nat} {sv : Value} {st since tok at_ : Int} (hc : Ro H c (copC sv st since tok at_)) (ha : Ro H a [.int .i64 1, .int .i64 1]) (hv : sv.oneCell' = true) : Spc Tryz.prog 205 #[.slice (some ⟨c, 0, none⟩) 1 cc, .func (.func 276) #[] #[ptr a]] H fun r H' => Ext H H' ∧ r = .int .i64 0 := by
  have cl : ∀ H, Ro H a [.int .i64 1, .int .i64 1] → Spc Tryz.prog 276 #[.agg (copC sv st since tok at_).toArray, ptr a] H fun r H' => Ext H H' ∧ r = .bool true := by
    intro H ha
    refine spec_of Tryz.func276 rfl Tryz.ntmps276 rfl (fun W => ?_)
    refine Am.on (Mem.startR ha) ?_
    repeat (first | refine codeM (k := ?_) | refine condM (k := ?_) | refine offM (k := ?_) | refine offMn (k := ?_) | refine pureM (k := ?_) | refine loadM (k := ?_) | refine loadB (k := ?_) | refine storeM (k := ?_) | refine storeB (k := ?_))
    refine boxM rfl rfl rfl rfl (fun x hx => ?_)
    repeat (first | refine codeM (k := ?_) | refine condM (k := ?_) | refine offM (k := ?_) | refine offMn (k := ?_) | refine pureM (k := ?_) | refine loadM (k := ?_) | refine loadB (k := ?_) | refine storeM (k := ?_) | refine storeB (k := ?_))
    refine loadN [.int .i64 1, .int .i64 1] rfl (.l .here) rfl rfl rfl rfl rfl ?_
    repeat (first | refine codeM (k := ?_) | refine condM (k := ?_) | refine offM (k := ?_) | refine offMn (k := ?_) | refine pureM (k := ?_) | refine loadM (k := ?_) | refine loadB (k := ?_) | refine storeM (k := ?_) | refine storeB (k := ?_))
    refine pX (p_true (p_eqID rfl rfl) ⟨rfl, rfl⟩) rfl rfl rfl ?_
    repeat (first | refine codeM (k := ?_) | refine condM (k := ?_) | refine offM (k := ?_) | refine offMn (k := ?_) | refine pureM (k := ?_) | refine loadM (k := ?_) | refine loadB (k := ?_) | refine storeM (k := ?_) | refine storeB (k := ?_))
    exact ret1M rfl rfl (fun H hm => ⟨hm.toExt (by repeat (first | exact Pick.nil | refine Pick.keep ?_ | refine Pick.drop (by first | assumption | omega) ?_)), rfl⟩)
  refine spec_of Tryz.func205 rfl Tryz.ntmps205 rfl (fun W => ?_)
  refine Am.on ((Mem.startR hc).andR ha) ?_
  repeat (first | refine codeM (k := ?_) | refine condM (k := ?_) | refine offM (k := ?_) | refine offMn (k := ?_) | refine pureM (k := ?_) | refine loadM (k := ?_) | refine loadB (k := ?_) | refine storeM (k := ?_) | refine storeB (k := ?_))
  refine callMv (first := []) (cap := [ptr a]) rfl rfl rfl rfl rfl rfl (fun H hm => cl H (hm.roOf (.r .here))) ?_
  rintro Hc _ H1 hm ⟨x1, rfl⟩
  refine Am.on (hm.ext x1) ?_
  repeat (first | refine codeM (k := ?_) | refine condM (k := ?_) | refine offM (k := ?_) | refine offMn (k := ?_) | refine pureM (k := ?_) | refine loadM (k := ?_) | refine loadB (k := ?_) | refine storeM (k := ?_) | refine storeB (k := ?_))
  exact ret1M rfl rfl (fun H hm => ⟨hm.toExt (by repeat (first | exact Pick.nil | refine Pick.keep ?_ | refine Pick.drop (by first | assumption | omega) ?_)), rfl⟩)
theorem copyAt0 {H : Heap} {s ep recs : Nat} {rv : Value} {a b : Int} (hs : Ro H s (stC 0 2 ep 0 recs nil0 rv)) : Spc Tryz.prog 203 #[ptr s, .agg #[.int .i64 a, .int .i64 b]] H fun r H' => Ext H H' ∧ r = .int .i64 (-1) := by
  refine spec_of Tryz.func203 rfl Tryz.ntmps203 rfl (fun W => ?_)
  refine Am.on (Mem.startR hs) ?_
  repeat (first | refine codeM (k := ?_) | refine condM (k := ?_) | refine offM (k := ?_) | refine offMn (k := ?_) | refine pureM (k := ?_) | refine loadM (k := ?_) | refine loadB (k := ?_) | refine storeM (k := ?_) | refine storeB (k := ?_))
  refine boxM rfl rfl rfl rfl (fun x hx => ?_)
  repeat (first | refine codeM (k := ?_) | refine condM (k := ?_) | refine offM (k := ?_) | refine offMn (k := ?_) | refine pureM (k := ?_) | refine loadM (k := ?_) | refine loadB (k := ?_) | refine storeM (k := ?_) | refine storeB (k := ?_))
  refine callM rfl rfl rfl rfl rfl (fun Hc hm => index0 Hc _) ?_
  rintro Hc _ H1 hm ⟨x1, rfl⟩
  refine Am.on (hm.ext x1) ?_
  repeat (first | refine codeM (k := ?_) | refine condM (k := ?_) | refine offM (k := ?_) | refine offMn (k := ?_) | refine pureM (k := ?_) | refine loadM (k := ?_) | refine loadB (k := ?_) | refine storeM (k := ?_) | refine storeB (k := ?_))
  exact ret1M rfl rfl (fun H hm => ⟨hm.toExt (by repeat (first | exact Pick.nil | refine Pick.keep ?_ | refine Pick.drop (by first | assumption | omega) ?_)), rfl⟩)
theorem copyAt1 {H : Heap} {s c cc ep recs : Nat} {rv sv : Value} {st since tok at_ : Int} (hs : Ro H s (stC 0 2 ep 0 recs (.slice (some ⟨c, 0, none⟩) 1 cc) rv)) (hc : Ro H c (copC sv st since tok at_)) (hv : sv.oneCell' = true) : Spc Tryz.prog 203 #[ptr s, .agg #[.int .i64 1, .int .i64 1]] H fun r H' => Ext H H' ∧ r = .int .i64 0 := by
  refine spec_of Tryz.func203 rfl Tryz.ntmps203 rfl (fun W => ?_)
  refine Am.on ((Mem.startR hs).andR hc) ?_
  repeat (first | refine codeM (k := ?_) | refine condM (k := ?_) | refine offM (k := ?_) | refine offMn (k := ?_) | refine pureM (k := ?_) | refine loadM (k := ?_) | refine loadB (k := ?_) | refine storeM (k := ?_) | refine storeB (k := ?_))
  refine boxM rfl rfl rfl rfl (fun x hx => ?_)
  repeat (first | refine codeM (k := ?_) | refine condM (k := ?_) | refine offM (k := ?_) | refine offMn (k := ?_) | refine pureM (k := ?_) | refine loadM (k := ?_) | refine loadB (k := ?_) | refine storeM (k := ?_) | refine storeB (k := ?_))
  refine callM rfl rfl rfl rfl rfl (fun Hc hm => index1 (hm.roOf (.r .here)) (hm.has1 .here).ro hv) ?_
  rintro Hc _ H1 hm ⟨x1, rfl⟩
  refine Am.on (hm.ext x1) ?_
  repeat (first | refine codeM (k := ?_) | refine condM (k := ?_) | refine offM (k := ?_) | refine offMn (k := ?_) | refine pureM (k := ?_) | refine loadM (k := ?_) | refine loadB (k := ?_) | refine storeM (k := ?_) | refine storeB (k := ?_))
  exact ret1M rfl rfl (fun H hm => ⟨hm.toExt (by repeat (first | exact Pick.nil | refine Pick.keep ?_ | refine Pick.drop (by first | assumption | omega) ?_)), rfl⟩)
theorem copyOf1 {H : Heap} {s c cc ep recs : Nat} {rv sv : Value} {st since tok at_ : Int} (hs : Ro H s (stC 0 2 ep 0 recs (.slice (some ⟨c, 0, none⟩) 1 cc) rv)) (hc : Ro H c (copC sv st since tok at_)) (hv : sv.oneCell' = true) : Spc Tryz.prog 113 #[ptr s, .agg #[.int .i64 1, .int .i64 1]] H fun r H' => Ext H H' ∧ r = ptr c := by
  refine spec_of Tryz.func113 rfl Tryz.ntmps113 rfl (fun W => ?_)
  refine Am.on ((Mem.startR hs).andR hc) ?_
  repeat (first | refine codeM (k := ?_) | refine condM (k := ?_) | refine offM (k := ?_) | refine offMn (k := ?_) | refine pureM (k := ?_) | refine loadM (k := ?_) | refine loadB (k := ?_) | refine storeM (k := ?_) | refine storeB (k := ?_))
  refine boxM rfl rfl rfl rfl (fun x hx => ?_)
  repeat (first | refine codeM (k := ?_) | refine condM (k := ?_) | refine offM (k := ?_) | refine offMn (k := ?_) | refine pureM (k := ?_) | refine loadM (k := ?_) | refine loadB (k := ?_) | refine storeM (k := ?_) | refine storeB (k := ?_))
  refine callM rfl rfl rfl rfl rfl (fun Hc hm => copyAt1 (hm.roOf (.r (.there .here))) (hm.roOf (.r .here)) hv) ?_
  rintro Hc _ H1 hm ⟨x1, rfl⟩
  refine Am.on (hm.ext x1) ?_
  repeat (first | refine codeM (k := ?_) | refine condM (k := ?_) | refine offM (k := ?_) | refine offMn (k := ?_) | refine pureM (k := ?_) | refine loadM (k := ?_) | refine loadB (k := ?_) | refine storeM (k := ?_) | refine storeB (k := ?_))
  exact ret1M rfl rfl (fun H hm => ⟨hm.toExt (by repeat (first | exact Pick.nil | refine Pick.keep ?_ | refine Pick.drop (by first | assumption | omega) ?_)), rfl⟩)
set_option maxHeartbeats 4000000 in
theorem come_spec {H : Heap} {s ep recs : Nat} {sv : Value} {now : Int} (hs : Has H s (stC 0 2 ep 0 recs nil0 nil0)) (hsv : Sv H sv) (hne : sv.ownBlock ≠ some s) (h0 : 0 ≤ now) (h1 : now ≤ 1099511627776) :
    Spc Tryz.prog 111 #[ptr s, .agg (copyRC sv now).toArray] H fun r H' => r = .bool true ∧ ∃ c cc g gc, H.size ≤ c ∧ H.size ≤ g ∧ 1 ≤ cc ∧ Mem H [] [(g, [.int .i64 0, .int .i64 1]), (c, copC (.slice (some ⟨g, 0, none⟩) 2 gc) 1 now 0 0), (s, stC 0 2 ep 0 recs (.slice (some ⟨c, 0, none⟩) 1 cc) nil0)] H' := by
  have hv1 := hsv.one
  refine spec_of Tryz.func111 rfl Tryz.ntmps111 rfl (fun W => ?_)
  refine Am.on (Mem.startL hs) ?_
  repeat (first | refine codeM (k := ?_) | refine condM (k := ?_) | refine offM (k := ?_) | refine offMn (k := ?_) | refine pureM (k := ?_) | refine loadM (k := ?_) | refine loadB (k := ?_) | refine storeM (k := ?_) | refine storeB (k := ?_))
  refine boxM rfl rfl rfl rfl (fun y hy => ?_)
  repeat (first | refine codeM (k := ?_) | refine condM (k := ?_) | refine offM (k := ?_) | refine offMn (k := ?_) | refine pureM (k := ?_) | refine loadM (k := ?_) | refine loadB (k := ?_) | refine storeM (k := ?_) | refine storeB (k := ?_))
  refine loadN [.int .i64 1, .int .i64 1] rfl (.l .here) rfl rfl rfl rfl rfl ?_
  refine callM rfl rfl rfl rfl rfl (fun Hc hm => copyAt0 (hm.has1 (.there .here)).ro) ?_
  rintro Hc _ H1 hm ⟨x1, rfl⟩
  refine Am.on (hm.ext x1) ?_
  repeat (first | refine codeM (k := ?_) | refine condM (k := ?_) | refine offM (k := ?_) | refine offMn (k := ?_) | refine pureM (k := ?_) | refine loadM (k := ?_) | refine loadB (k := ?_) | refine storeM (k := ?_) | refine storeB (k := ?_))
  refine callM rfl rfl rfl rfl rfl (fun Hc hm => parts_spec 1 (by decide) Hc) ?_
  rintro Hc _ H1 hm ⟨rfl, rfl⟩
  refine Am.on hm ?_
  repeat (first | refine codeM (k := ?_) | refine condM (k := ?_) | refine offM (k := ?_) | refine offMn (k := ?_) | refine pureM (k := ?_) | refine loadM (k := ?_) | refine loadB (k := ?_) | refine storeM (k := ?_) | refine storeB (k := ?_))
  refine callM rfl rfl rfl rfl rfl (fun Hc hm => tickRight_ok Hc h0 h1) ?_
  rintro Hc _ H1 hm ⟨rfl, rfl⟩
  refine Am.on hm ?_
  repeat (first | refine codeM (k := ?_) | refine condM (k := ?_) | refine offM (k := ?_) | refine offMn (k := ?_) | refine pureM (k := ?_) | refine loadM (k := ?_) | refine loadB (k := ?_) | refine storeM (k := ?_) | refine storeB (k := ?_))
  refine cutM (σ := Nat × Nat × Nat) (fun x => [(0, ptr s), (3, ptr y), (8, ptr x.1)]) (fun x => [(x.1, copC (.slice (some ⟨x.2.1, 0, none⟩) 2 x.2.2) 1 now 0 0), (x.2.1, [.int .i64 0, .int .i64 1]), (y, copyRC sv now), (s, stC 0 2 ep 0 recs nil0 nil0)]) (fun x => H.size ≤ x.1 ∧ H.size ≤ x.2.1) ?_ ?_
  · refine drawM [1, 4, 6] Tryz.mixed ?_
    first | refine dpM 0 (k := ?_) | refine doffM 0 (k := ?_) | refine dldM 0 rfl (k := ?_) | refine doffNM 0 (k := ?_) | refine dldB 0 rfl (k := ?_)
    refine dldN 1 (jobV sv) rfl rfl (.l .here) rfl (k := ?_)
    first | refine dpM 3 (k := ?_) | refine doffM 3 (k := ?_) | refine dldM 3 rfl (k := ?_) | refine doffNM 3 (k := ?_) | refine dldB 3 rfl (k := ?_)
    first | refine dpM 4 (k := ?_) | refine doffM 4 (k := ?_) | refine dldM 4 rfl (k := ?_) | refine doffNM 4 (k := ?_) | refine dldB 4 rfl (k := ?_)
    first | refine dpM 5 (k := ?_) | refine doffM 5 (k := ?_) | refine dldM 5 rfl (k := ?_) | refine doffNM 5 (k := ?_) | refine dldB 5 rfl (k := ?_)
    first | refine dpM 6 (k := ?_) | refine doffM 6 (k := ?_) | refine dldM 6 rfl (k := ?_) | refine doffNM 6 (k := ?_) | refine dldB 6 rfl (k := ?_)
    refine dx2L 2 8 rfl rfl (by kernel_rfl) rfl rfl (fun Hx => ?_) (fun Hx => ?_)
    · refine callW rfl rfl rfl rfl (fun Hc hm => jobTwin_spec (hsv.keep hm.kept (fun b e hl => by have := hne; simp only [keys, List.map_cons, List.map_nil, List.mem_cons, List.not_mem_nil, or_false]; rintro (rfl | rfl) <;> first | omega | exact hne e))) ?_
      rintro Hc _ H1 hm ⟨g, gc, rfl, hg, hgc, hm1⟩
      have hg2 := Nat.le_trans hm.size hg
      refine Am.on (Mem.aft hm hm1 (.new (by first | assumption | omega) .nil)) ?_
      first | refine leftA (k := ?_) | refine leftF (by kernel_rfl) ?_
      refine dqM 7 rfl (p_build (copC (.slice (some ⟨g, 0, none⟩) 2 gc) 1 now 0 0) rfl rfl) (k := ?_)
      refine dxL 8 rfl (by kernel_rfl) rfl (fun Hx => ?_)
      refine allocW rfl rfl (fun z hz => ?_)
      first | refine leftA (k := ?_) | refine leftF (by kernel_rfl) ?_
      refine dxL 9 rfl (by kernel_rfl) rfl (fun Hx => ?_)
      refine storeNW (copC (.slice (some ⟨g, 0, none⟩) 2 gc) 1 now 0 0) rfl rfl rfl rfl rfl .here rfl rfl ?_
      first | refine leftA (k := ?_) | refine leftF (by kernel_rfl) ?_
      refine ddoneM (by kernel_rfl) ?_
      refine codeM (k := ?_)
      refine meetM (z, g, gc) ?_ ⟨hz, hg2⟩ (fun H hm => hm.sel (.k (s := (.k (s := (.k (s := (.k (s := (by repeat (first | exact Sel.nil | refine Sel.drop (by first | assumption | omega) ?_)))))))))))
      (repeat (first | exact Sub.nil | refine Sub.cons rfl ?_))
    · refine allocW rfl rfl (fun z hz => ?_)
      first | refine leftA (k := ?_) | refine leftF (by kernel_rfl) ?_
      refine dxL 2 rfl (by kernel_rfl) rfl (fun Hx => ?_)
      refine callW rfl rfl rfl rfl (fun Hc hm => jobTwin_spec (hsv.keep hm.kept (fun b e hl => by have := hne; simp only [keys, List.map_cons, List.map_nil, List.mem_cons, List.not_mem_nil, or_false]; rintro (rfl | rfl | rfl) <;> first | omega | exact hne e))) ?_
      rintro Hc _ H1 hm ⟨g, gc, rfl, hg, hgc, hm1⟩
      have hg2 := Nat.le_trans hm.size hg
      refine Am.on (Mem.aft hm hm1 (.new (by first | assumption | omega) .nil)) ?_
      first | refine leftA (k := ?_) | refine leftF (by kernel_rfl) ?_
      refine dqM 7 rfl (p_build (copC (.slice (some ⟨g, 0, none⟩) 2 gc) 1 now 0 0) rfl rfl) (k := ?_)
      refine dxL 9 rfl (by kernel_rfl) rfl (fun Hx => ?_)
      refine storeNW (copC (.slice (some ⟨g, 0, none⟩) 2 gc) 1 now 0 0) rfl rfl rfl rfl rfl (.there .here) rfl rfl ?_
      first | refine leftA (k := ?_) | refine leftF (by kernel_rfl) ?_
      refine ddoneM (by kernel_rfl) ?_
      refine codeM (k := ?_)
      refine meetM (z, g, gc) ?_ ⟨hz, hg2⟩ (fun H hm => hm.sel (.k (s := (.k (s := (.k (s := (.k (s := (by repeat (first | exact Sel.nil | refine Sel.drop (by first | assumption | omega) ?_)))))))))))
      (repeat (first | exact Sub.nil | refine Sub.cons rfl ?_))
  rintro ⟨z, g, gc⟩ ⟨hz, hg⟩
  dsimp only at hz hg ⊢
  repeat (first | refine codeM (k := ?_) | refine condM (k := ?_) | refine offM (k := ?_) | refine offMn (k := ?_) | refine pureM (k := ?_) | refine loadM (k := ?_) | refine loadB (k := ?_) | refine storeM (k := ?_) | refine storeB (k := ?_))
  refine callM rfl rfl rfl rfl rfl (fun Hc hm => index0 Hc _) ?_
  rintro Hc _ H1 hm ⟨x1, rfl⟩
  refine Am.on (hm.ext x1) ?_
  repeat (first | refine codeM (k := ?_) | refine condM (k := ?_) | refine offM (k := ?_) | refine offMn (k := ?_) | refine pureM (k := ?_) | refine loadM (k := ?_) | refine loadB (k := ?_) | refine storeM (k := ?_) | refine storeB (k := ?_))
  refine drawM [4, 6] Tryz.mixed ?_
  first | refine dpM 0 (k := ?_) | refine doffM 0 (k := ?_) | refine dldM 0 rfl (k := ?_) | refine doffNM 0 (k := ?_) | refine dldB 0 rfl (k := ?_)
  first | refine dpM 1 (k := ?_) | refine doffM 1 (k := ?_) | refine dldM 1 rfl (k := ?_) | refine doffNM 1 (k := ?_) | refine dldB 1 rfl (k := ?_)
  first | refine dpM 2 (k := ?_) | refine doffM 2 (k := ?_) | refine dldM 2 rfl (k := ?_) | refine doffNM 2 (k := ?_) | refine dldB 2 rfl (k := ?_)
  first | refine dpM 3 (k := ?_) | refine doffM 3 (k := ?_) | refine dldM 3 rfl (k := ?_) | refine doffNM 3 (k := ?_) | refine dldB 3 rfl (k := ?_)
  first | refine dpM 4 (k := ?_) | refine doffM 4 (k := ?_) | refine dldM 4 rfl (k := ?_) | refine doffNM 4 (k := ?_) | refine dldB 4 rfl (k := ?_)
  first | refine dpM 5 (k := ?_) | refine doffM 5 (k := ?_) | refine dldM 5 rfl (k := ?_) | refine doffNM 5 (k := ?_) | refine dldB 5 rfl (k := ?_)
  first | refine dpM 6 (k := ?_) | refine doffM 6 (k := ?_) | refine dldM 6 rfl (k := ?_) | refine doffNM 6 (k := ?_) | refine dldB 6 rfl (k := ?_)
  refine dxL 7 rfl (by kernel_rfl) rfl (fun Hx => ?_)
  refine bs1W rfl rfl rfl (by decide) rfl (fun w hw => ?_)
  first | refine leftA (k := ?_) | refine leftF (by kernel_rfl) ?_
  refine dxL 8 rfl (by kernel_rfl) rfl (fun Hx => ?_)
  refine callW rfl rfl rfl rfl (fun Hc hm => insCopy0 (hm.has1 .here).ro rfl rfl) ?_
  rintro Hc _ H1 hm ⟨c, cc, rfl, hc, hcc, hm1⟩
  have hc2 := Nat.le_trans hm.size hc
  refine Am.on (Mem.aft hm hm1 (.new (by first | assumption | omega) .nil)) ?_
  first | refine leftA (k := ?_) | refine leftF (by kernel_rfl) ?_
  first | refine dpM 9 (k := ?_) | refine doffM 9 (k := ?_) | refine dldM 9 rfl (k := ?_) | refine doffNM 9 (k := ?_) | refine dldB 9 rfl (k := ?_)
  first | refine dpM 10 (k := ?_) | refine doffM 10 (k := ?_) | refine dldM 10 rfl (k := ?_) | refine doffNM 10 (k := ?_) | refine dldB 10 rfl (k := ?_)
  refine dxL 11 rfl (by kernel_rfl) rfl (fun Hx => ?_)
  refine storeW rfl rfl rfl rfl rfl (.there (.there (.there (.there (.there .here))))) rfl ?_
  first | refine leftA (k := ?_) | refine leftF (by kernel_rfl) ?_
  refine ddoneM (by kernel_rfl) ?_
  repeat (first | refine codeM (k := ?_) | refine condM (k := ?_) | refine offM (k := ?_) | refine offMn (k := ?_) | refine pureM (k := ?_) | refine loadM (k := ?_) | refine loadB (k := ?_) | refine storeM (k := ?_) | refine storeB (k := ?_))
  exact ret1M rfl rfl (fun H hm => ⟨rfl, c, cc, g, gc, hc2, hg, hcc, hm.sel (.k (s := (.k (s := (.k (s := (by repeat (first | exact Sel.nil | refine Sel.drop (by first | assumption | omega) ?_))))))))⟩)
end Go.Proofs.YtlaobecajieaaaaGreat
/- Records applied to a state: a copy's, a hold's, none. -/
namespace Go.Proofs.YtlaobecajieaaaaGreat
open Go Ev
set_option linter.unusedVariables false
set_option linter.unusedSimpArgs false
theorem Sv.lt {H : Heap} {v : Value} (h : Sv H v) {b : Nat} (e : v.ownBlock = some b) : b < H.size := by
  obtain ⟨b', o, c, rfl, h0, _⟩ := h
  simp only [Value.ownBlock, Option.some.injEq] at e
  subst e
  exact h0.lt
theorem copyRC_one {sv : Value} (h : sv.oneCell' = true) (now : Int) : (copyRC sv now).all (·.oneCell') = true := by
  simp only [copyRC, List.all_cons, List.all_nil, h]; rfl
attribute [local irreducible] Go.wpList Go.bodyPost Go.Code.wp Go.Exit.then Go.Exit.inBlock Go.Exit.noGoto Ev.wpAnyG Go.Oper.wp Ev.Back Ev.Left Ev.Spc Ev.At Ev.Pure Ev.Reads Ev.Runs Ev.Does Ev.Cell Ev.Am Ev.Has Ev.Kn Go.Code.rounds

theorem applyCopy_spec {H : Heap} {s ep recs : Nat} {sv : Value} {now : Int} (hs : Has H s (stC 0 2 ep 0 recs nil0 nil0)) (hsv : Sv H sv) (hne : sv.ownBlock ≠ some s) (h0 : 0 ≤ now) (h1 : now ≤ 1099511627776) :
    Spc Tryz.prog 61 #[ptr s, .agg (copyRC sv now).toArray] H fun r H' => r = .bool true ∧ ∃ c cc g gc, H.size ≤ c ∧ H.size ≤ g ∧ 1 ≤ cc ∧ Mem H [] [(g, [.int .i64 0, .int .i64 1]), (c, copC (.slice (some ⟨g, 0, none⟩) 2 gc) 1 now 0 0), (s, stC 0 2 ep 0 recs (.slice (some ⟨c, 0, none⟩) 1 cc) nil0)] H' := by
  refine spec_of Tryz.func61 rfl Tryz.ntmps61 rfl (fun W => ?_)
  refine Am.on (Mem.startL hs) ?_
  repeat (first | refine codeM (k := ?_) | refine condM (k := ?_) | refine offM (k := ?_) | refine offMn (k := ?_) | refine pureM (k := ?_) | refine loadM (k := ?_) | refine loadB (k := ?_) | refine storeM (k := ?_) | refine storeB (k := ?_))
  refine boxM rfl rfl rfl rfl (fun y hy => ?_)
  repeat (first | refine codeM (k := ?_) | refine condM (k := ?_) | refine offM (k := ?_) | refine offMn (k := ?_) | refine pureM (k := ?_) | refine loadM (k := ?_) | refine loadB (k := ?_) | refine storeM (k := ?_) | refine storeB (k := ?_))
  refine callM rfl rfl rfl rfl rfl (fun Hc hm => come_spec (hm.has1 (.there .here)) (hsv.keep hm.kept (fun b e hl => by simp only [keys, List.map_cons, List.map_nil, List.mem_cons, List.not_mem_nil, or_false]; rintro (rfl | rfl) <;> first | omega | exact hne e)) hne h0 h1) ?_
  rintro Hc _ H1 hm ⟨rfl, c, cc, g, gc, hc, hg, hcc, hm1⟩
  have hc2 := Nat.le_trans hm.size hc
  have hg2 := Nat.le_trans hm.size hg
  refine Am.on (Mem.aft hm hm1 (.new (by first | assumption | omega) (.new (by first | assumption | omega) (.upd (by first | exact .here | exact .there .here | exact .there (.there .here) | exact .there (.there (.there .here)) | exact .there (.there (.there (.there .here))) | exact .there (.there (.there (.there (.there .here)))) | exact .there (.there (.there (.there (.there (.there .here)))))) .nil)))) ?_
  repeat (first | refine codeM (k := ?_) | refine condM (k := ?_) | refine offM (k := ?_) | refine offMn (k := ?_) | refine pureM (k := ?_) | refine loadM (k := ?_) | refine loadB (k := ?_) | refine storeM (k := ?_) | refine storeB (k := ?_))
  exact ret1M rfl rfl (fun H hm => ⟨rfl, c, cc, g, gc, hc2, hg2, hcc, hm.sel (.k (s := (.k (s := (.k (s := (by repeat (first | exact Sel.nil | refine Sel.drop (by first | assumption | omega) ?_))))))))⟩)
theorem applyHold_spec {H : Heap} {s c cc ep recs : Nat} {sv : Value} {since t u : Int} (hs : Has H s (stC 0 2 ep 0 recs (.slice (some ⟨c, 0, none⟩) 1 cc) nil0)) (hc : Has H c (copC sv 1 since 0 0)) (hv : sv.oneCell' = true) (hsc : c ≠ s) (h0 : 0 ≤ t) (ht : t + 5 < 1099511627776) :
    Spc Tryz.prog 61 #[ptr s, .agg (holdRC t u).toArray] H fun r H' => r = .bool true ∧ ∃ g gc, H.size ≤ g ∧ 1 ≤ gc ∧ Mem H [] [(g, resvC t (t + 5) 1 u), (c, copC sv 4 since 1 t), (s, stC 0 2 ep 0 recs (.slice (some ⟨c, 0, none⟩) 1 cc) (.slice (some ⟨g, 0, none⟩) 1 gc))] H' := by
  refine spec_of Tryz.func61 rfl Tryz.ntmps61 rfl (fun W => ?_)
  refine Am.on ((Mem.startL hs).take hc (by simpa [keys] using hsc) (by simp)) ?_
  repeat (first | refine codeM (k := ?_) | refine condM (k := ?_) | refine offM (k := ?_) | refine offMn (k := ?_) | refine pureM (k := ?_) | refine loadM (k := ?_) | refine loadB (k := ?_) | refine storeM (k := ?_) | refine storeB (k := ?_))
  refine boxM rfl rfl rfl rfl (fun y hy => ?_)
  repeat (first | refine codeM (k := ?_) | refine condM (k := ?_) | refine offM (k := ?_) | refine offMn (k := ?_) | refine pureM (k := ?_) | refine loadM (k := ?_) | refine loadB (k := ?_) | refine storeM (k := ?_) | refine storeB (k := ?_))
  refine loadN [.int .i64 1, .int .i64 1] rfl (.l .here) rfl rfl rfl rfl rfl ?_
  refine callM rfl rfl rfl rfl rfl (fun Hc hm => copyOf1 (hm.has1 (.there (.there .here))).ro (hm.has1 (.there .here)).ro hv) ?_
  rintro Hc _ H1 hm ⟨x1, rfl⟩
  refine Am.on (hm.ext x1) ?_
  repeat (first | refine codeM (k := ?_) | refine condM (k := ?_) | refine offM (k := ?_) | refine offMn (k := ?_) | refine pureM (k := ?_) | refine loadM (k := ?_) | refine loadB (k := ?_) | refine storeM (k := ?_) | refine storeB (k := ?_))
  refine callM rfl rfl rfl rfl rfl (fun Hc hm => holdRec_spec (hm.has1 (.there (.there .here))) (hm.has1 (.there .here)) hv hsc h0 ht) ?_
  rintro Hc _ H1 hm ⟨rfl, g, gc, hg, hgc, hm1⟩
  have hg2 := Nat.le_trans hm.size hg
  refine Am.on (Mem.aft hm hm1 (.new (by first | assumption | omega) (.upd (by first | exact .here | exact .there .here | exact .there (.there .here) | exact .there (.there (.there .here)) | exact .there (.there (.there (.there .here))) | exact .there (.there (.there (.there (.there .here)))) | exact .there (.there (.there (.there (.there (.there .here)))))) (.upd (by first | exact .here | exact .there .here | exact .there (.there .here) | exact .there (.there (.there .here)) | exact .there (.there (.there (.there .here))) | exact .there (.there (.there (.there (.there .here)))) | exact .there (.there (.there (.there (.there (.there .here)))))) .nil)))) ?_
  repeat (first | refine codeM (k := ?_) | refine condM (k := ?_) | refine offM (k := ?_) | refine offMn (k := ?_) | refine pureM (k := ?_) | refine loadM (k := ?_) | refine loadB (k := ?_) | refine storeM (k := ?_) | refine storeB (k := ?_))
  exact ret1M rfl rfl (fun H hm => ⟨rfl, g, gc, hg2, hgc, hm.sel (.k (s := (.k (s := (.k (s := (by repeat (first | exact Sel.nil | refine Sel.drop (by first | assumption | omega) ?_))))))))⟩)
set_option maxHeartbeats 4000000 in
theorem applyC1_spec {H : Heap} {rb rc ep recs : Nat} {sv : Value} {now : Int} (hrb : Ro H rb (copyRC sv now)) (hsv : Sv H sv) (h0 : 0 ≤ now) (h1 : now ≤ 1099511627776) (hr : recs < 1000000) :
    Spc Tryz.prog 27 #[.agg (stC 0 2 ep 0 recs nil0 nil0).toArray, .slice (some ⟨rb, 0, none⟩) 1 rc] H fun r H' => ∃ c cc g gc, r = .tuple #[.agg (stC 0 2 ep 0 (recs + 1) (.slice (some ⟨c, 0, none⟩) 1 cc) nil0).toArray, .int .i64 0] ∧ H.size ≤ c ∧ H.size ≤ g ∧ 1 ≤ cc ∧ Mem H [] [(g, [.int .i64 0, .int .i64 1]), (c, copC (.slice (some ⟨g, 0, none⟩) 2 gc) 1 now 0 0)] H' := by
  have hv1 := hsv.one
  refine spec_of Tryz.func27 rfl Tryz.ntmps27 rfl (fun W => ?_)
  refine Am.on (Mem.startR hrb) ?_
  repeat (first | refine codeM (k := ?_) | refine condM (k := ?_) | refine offM (k := ?_) | refine offMn (k := ?_) | refine pureM (k := ?_) | refine loadM (k := ?_) | refine loadB (k := ?_) | refine storeM (k := ?_) | refine storeB (k := ?_))
  refine boxM rfl rfl rfl rfl (fun s hs => ?_)
  refine allocM rfl rfl rfl (fun y hy => ?_)
  repeat (first | refine codeM (k := ?_) | refine condM (k := ?_) | refine offM (k := ?_) | refine offMn (k := ?_) | refine pureM (k := ?_) | refine loadM (k := ?_) | refine loadB (k := ?_) | refine storeM (k := ?_) | refine storeB (k := ?_))
  refine callM rfl rfl rfl rfl rfl (fun Hc hm => twin0_spec Hc 0 2 ep 0 recs) ?_
  rintro Hc _ H1 hm ⟨x1, rfl⟩
  refine Am.on (hm.ext x1) ?_
  repeat (first | refine codeM (k := ?_) | refine condM (k := ?_) | refine offM (k := ?_) | refine offMn (k := ?_) | refine pureM (k := ?_) | refine loadM (k := ?_) | refine loadB (k := ?_) | refine storeM (k := ?_) | refine storeB (k := ?_))
  refine allocM rfl rfl rfl (fun z hz => ?_)
  refine storeB (h1 := copyRC_one hv1 now) (k := ?_)
  repeat (first | refine codeM (k := ?_) | refine condM (k := ?_) | refine offM (k := ?_) | refine offMn (k := ?_) | refine pureM (k := ?_) | refine loadM (k := ?_) | refine loadB (k := ?_) | refine storeM (k := ?_) | refine storeB (k := ?_))
  refine callM rfl rfl rfl rfl rfl (fun Hc hm => applyCopy_spec (hm.has1 (.there (.there .here))) (hsv.on (hm.toExt (by repeat (first | exact Pick.nil | refine Pick.keep ?_ | refine Pick.drop (by first | assumption | omega) ?_)))) (fun e => by have := hsv.lt e; omega) h0 h1) ?_
  rintro Hc _ H1 hm ⟨rfl, c, cc, g, gc, hc, hg, hcc, hm1⟩
  have hc2 := Nat.le_trans hm.size hc
  have hg2 := Nat.le_trans hm.size hg
  refine Am.on (Mem.aft hm hm1 (.new (by first | assumption | omega) (.new (by first | assumption | omega) (.upd (by first | exact .here | exact .there .here | exact .there (.there .here) | exact .there (.there (.there .here)) | exact .there (.there (.there (.there .here))) | exact .there (.there (.there (.there (.there .here)))) | exact .there (.there (.there (.there (.there (.there .here)))))) .nil)))) ?_
  repeat (first | refine codeM (k := ?_) | refine condM (k := ?_) | refine offM (k := ?_) | refine offMn (k := ?_) | refine pureM (k := ?_) | refine loadM (k := ?_) | refine loadB (k := ?_) | refine storeM (k := ?_) | refine storeB (k := ?_))
  exact retC2M rfl rfl rfl (.there (.there (.there .here))) rfl rfl (fun H hm => ⟨c, cc, g, gc, rfl, hc2, hg2, hcc, (hm.pick (L' := [(c, _), (g, _)]) (.keep (.keep (by repeat (first | exact Pick.nil | refine Pick.keep ?_ | refine Pick.drop (by first | assumption | omega) ?_))))).sel (.k (s := (.k (s := (by repeat (first | exact Sel.nil | refine Sel.drop (by first | assumption | omega) ?_))))))⟩)
set_option maxHeartbeats 4000000 in
theorem applyH1_spec {H : Heap} {rb rc c cc ep recs : Nat} {sv : Value} {since t u : Int} (hrb : Ro H rb (holdRC t u)) (hc : Ro H c (copC sv 1 since 0 0)) (hsv : Sv H sv) (h0 : 0 ≤ t) (ht : t + 5 < 1099511627776) (hr : recs < 1000000) :
    Spc Tryz.prog 27 #[.agg (stC 0 2 ep 0 recs (.slice (some ⟨c, 0, none⟩) 1 cc) nil0).toArray, .slice (some ⟨rb, 0, none⟩) 1 rc] H fun r H' => ∃ c' cc' g gc q qc, r = .tuple #[.agg (stC 0 2 ep 0 (recs + 1) (.slice (some ⟨c', 0, none⟩) 1 cc') (.slice (some ⟨q, 0, none⟩) 1 qc)).toArray, .int .i64 0] ∧ H.size ≤ c' ∧ H.size ≤ g ∧ H.size ≤ q ∧ 1 ≤ cc' ∧ Mem H [] [(q, resvC t (t + 5) 1 u), (g, [.int .i64 0, .int .i64 1]), (c', copC (.slice (some ⟨g, 0, none⟩) 2 gc) 4 since 1 t)] H' := by
  have hv1 := hsv.one
  refine spec_of Tryz.func27 rfl Tryz.ntmps27 rfl (fun W => ?_)
  refine Am.on ((Mem.startR hrb).andR hc) ?_
  repeat (first | refine codeM (k := ?_) | refine condM (k := ?_) | refine offM (k := ?_) | refine offMn (k := ?_) | refine pureM (k := ?_) | refine loadM (k := ?_) | refine loadB (k := ?_) | refine storeM (k := ?_) | refine storeB (k := ?_))
  refine boxM rfl rfl rfl rfl (fun s hs => ?_)
  refine allocM rfl rfl rfl (fun y hy => ?_)
  repeat (first | refine codeM (k := ?_) | refine condM (k := ?_) | refine offM (k := ?_) | refine offMn (k := ?_) | refine pureM (k := ?_) | refine loadM (k := ?_) | refine loadB (k := ?_) | refine storeM (k := ?_) | refine storeB (k := ?_))
  refine callM rfl rfl rfl rfl rfl (fun Hc hm => twinB_spec (hm.roOf (.r .here)) (hsv.on (hm.toExt (by repeat (first | exact Pick.nil | refine Pick.keep ?_ | refine Pick.drop (by first | assumption | omega) ?_))))) ?_
  rintro Hc _ H1 hm ⟨c', cc', g, gc, rfl, hc', hg, hcc, hm1⟩
  have hc2 := Nat.le_trans hm.size hc'
  have hg2 := Nat.le_trans hm.size hg
  refine Am.on (Mem.aft hm hm1 (.new (by first | assumption | omega) (.new (by first | assumption | omega) .nil))) ?_
  repeat (first | refine codeM (k := ?_) | refine condM (k := ?_) | refine offM (k := ?_) | refine offMn (k := ?_) | refine pureM (k := ?_) | refine loadM (k := ?_) | refine loadB (k := ?_) | refine storeM (k := ?_) | refine storeB (k := ?_))
  refine allocM rfl rfl rfl (fun z hz => ?_)
  repeat (first | refine codeM (k := ?_) | refine condM (k := ?_) | refine offM (k := ?_) | refine offMn (k := ?_) | refine pureM (k := ?_) | refine loadM (k := ?_) | refine loadB (k := ?_) | refine storeM (k := ?_) | refine storeB (k := ?_))
  refine callM rfl rfl rfl rfl rfl (fun Hc hm => applyHold_spec (hm.has1 (.there (.there (.there (.there .here))))) (hm.has1 (.there .here)) rfl (fun e => by have h2 := hm.nd; subst e; simp [keys] at h2) h0 ht) ?_
  rintro Hc _ H1 hm ⟨rfl, q, qc, hq, hqc, hm1⟩
  have hq2 := Nat.le_trans hm.size hq
  refine Am.on (Mem.aft hm hm1 (.new (by first | assumption | omega) (.upd (by first | exact .here | exact .there .here | exact .there (.there .here) | exact .there (.there (.there .here)) | exact .there (.there (.there (.there .here))) | exact .there (.there (.there (.there (.there .here)))) | exact .there (.there (.there (.there (.there (.there .here)))))) (.upd (by first | exact .here | exact .there .here | exact .there (.there .here) | exact .there (.there (.there .here)) | exact .there (.there (.there (.there .here))) | exact .there (.there (.there (.there (.there .here)))) | exact .there (.there (.there (.there (.there (.there .here)))))) .nil)))) ?_
  repeat (first | refine codeM (k := ?_) | refine condM (k := ?_) | refine offM (k := ?_) | refine offMn (k := ?_) | refine pureM (k := ?_) | refine loadM (k := ?_) | refine loadB (k := ?_) | refine storeM (k := ?_) | refine storeB (k := ?_))
  exact retC2M rfl rfl rfl (.there (.there (.there (.there .here)))) rfl rfl (fun H hm => ⟨c', cc', g, gc, q, qc, rfl, hc2, hg2, hq2, hcc, (hm.pick (L' := [(q, _), (c', _), (g, _)]) (.keep (.drop hz (.keep (.keep (by repeat (first | exact Pick.nil | refine Pick.keep ?_ | refine Pick.drop (by first | assumption | omega) ?_))))))).sel (.k (s := (.k (s := (.k (s := (by repeat (first | exact Sel.nil | refine Sel.drop (by first | assumption | omega) ?_))))))))⟩)
set_option maxHeartbeats 4000000 in
theorem applyB0_spec {H : Heap} {c cc ep recs : Nat} {sv : Value} {st since tok at_ : Int} (hc : Ro H c (copC sv st since tok at_)) (hsv : Sv H sv) :
    Spc Tryz.prog 27 #[.agg (stC 0 2 ep 0 recs (.slice (some ⟨c, 0, none⟩) 1 cc) nil0).toArray, nil0] H fun r H' => ∃ c' cc' g gc, r = .tuple #[.agg (stC 0 2 ep 0 recs (.slice (some ⟨c', 0, none⟩) 1 cc') nil0).toArray, .int .i64 0] ∧ H.size ≤ c' ∧ H.size ≤ g ∧ 1 ≤ cc' ∧ Mem H [] [(g, [.int .i64 0, .int .i64 1]), (c', copC (.slice (some ⟨g, 0, none⟩) 2 gc) st since tok at_)] H' := by
  refine spec_of Tryz.func27 rfl Tryz.ntmps27 rfl (fun W => ?_)
  refine Am.on (Mem.startR hc) ?_
  repeat (first | refine codeM (k := ?_) | refine condM (k := ?_) | refine offM (k := ?_) | refine offMn (k := ?_) | refine pureM (k := ?_) | refine loadM (k := ?_) | refine loadB (k := ?_) | refine storeM (k := ?_) | refine storeB (k := ?_))
  refine boxM rfl rfl rfl rfl (fun s hs => ?_)
  refine allocM rfl rfl rfl (fun y hy => ?_)
  repeat (first | refine codeM (k := ?_) | refine condM (k := ?_) | refine offM (k := ?_) | refine offMn (k := ?_) | refine pureM (k := ?_) | refine loadM (k := ?_) | refine loadB (k := ?_) | refine storeM (k := ?_) | refine storeB (k := ?_))
  refine callM rfl rfl rfl rfl rfl (fun Hc hm => twinB_spec (hm.roOf (.r .here)) (hsv.on (hm.toExt (by repeat (first | exact Pick.nil | refine Pick.keep ?_ | refine Pick.drop (by first | assumption | omega) ?_))))) ?_
  rintro Hc _ H1 hm ⟨c', cc', g, gc, rfl, hc', hg, hcc, hm1⟩
  have hc2 := Nat.le_trans hm.size hc'
  have hg2 := Nat.le_trans hm.size hg
  refine Am.on (Mem.aft hm hm1 (.new (by first | assumption | omega) (.new (by first | assumption | omega) .nil))) ?_
  repeat (first | refine codeM (k := ?_) | refine condM (k := ?_) | refine offM (k := ?_) | refine offMn (k := ?_) | refine pureM (k := ?_) | refine loadM (k := ?_) | refine loadB (k := ?_) | refine storeM (k := ?_) | refine storeB (k := ?_))
  exact retC2M rfl rfl rfl (.there (.there .here)) rfl rfl (fun H hm => ⟨c', cc', g, gc, rfl, hc2, hg2, hcc, (hm.pick (L' := [(c', _), (g, _)]) (.keep (.keep (by repeat (first | exact Pick.nil | refine Pick.keep ?_ | refine Pick.drop (by first | assumption | omega) ?_))))).sel (.k (s := (.k (s := (by repeat (first | exact Sel.nil | refine Sel.drop (by first | assumption | omega) ?_))))))⟩)
set_option maxHeartbeats 4000000 in
theorem applyC0_spec {H : Heap} {c cc rb rc ep recs : Nat} {sv : Value} {st since tok at_ f t n u : Int} (hc : Ro H c (copC sv st since tok at_)) (hsv : Sv H sv) (hr : Ro H rb (resvC f t n u)) :
    Spc Tryz.prog 27 #[.agg (stC 0 2 ep 0 recs (.slice (some ⟨c, 0, none⟩) 1 cc) (.slice (some ⟨rb, 0, none⟩) 1 rc)).toArray, nil0] H fun r H' => ∃ c' cc' g gc rv, r = .tuple #[.agg (stC 0 2 ep 0 recs (.slice (some ⟨c', 0, none⟩) 1 cc') rv).toArray, .int .i64 0] ∧ H.size ≤ c' ∧ H.size ≤ g ∧ 1 ≤ cc' ∧ Mem H [] [(g, [.int .i64 0, .int .i64 1]), (c', copC (.slice (some ⟨g, 0, none⟩) 2 gc) st since tok at_)] H' := by
  refine spec_of Tryz.func27 rfl Tryz.ntmps27 rfl (fun W => ?_)
  refine Am.on ((Mem.startR hc).andR hr) ?_
  repeat (first | refine codeM (k := ?_) | refine condM (k := ?_) | refine offM (k := ?_) | refine offMn (k := ?_) | refine pureM (k := ?_) | refine loadM (k := ?_) | refine loadB (k := ?_) | refine storeM (k := ?_) | refine storeB (k := ?_))
  refine boxM rfl rfl rfl rfl (fun s hs => ?_)
  refine allocM rfl rfl rfl (fun y hy => ?_)
  repeat (first | refine codeM (k := ?_) | refine condM (k := ?_) | refine offM (k := ?_) | refine offMn (k := ?_) | refine pureM (k := ?_) | refine loadM (k := ?_) | refine loadB (k := ?_) | refine storeM (k := ?_) | refine storeB (k := ?_))
  refine callM rfl rfl rfl rfl rfl (fun Hc hm => twinC_spec (hm.roOf (.r (.there .here))) (hsv.on (hm.toExt (by repeat (first | exact Pick.nil | refine Pick.keep ?_ | refine Pick.drop (by first | assumption | omega) ?_)))) (hm.roOf (.r .here))) ?_
  rintro Hc _ H1 hm ⟨c', cc', g, gc, r', rc', rfl, hc', hg, hcc, hr', hm1⟩
  have hc2 := Nat.le_trans hm.size hc'
  have hg2 := Nat.le_trans hm.size hg
  have hr2 := Nat.le_trans hm.size hr'
  refine Am.on (Mem.aft hm hm1 (.new (by first | assumption | omega) (.new (by first | assumption | omega) (.new (by first | assumption | omega) .nil)))) ?_
  repeat (first | refine codeM (k := ?_) | refine condM (k := ?_) | refine offM (k := ?_) | refine offMn (k := ?_) | refine pureM (k := ?_) | refine loadM (k := ?_) | refine loadB (k := ?_) | refine storeM (k := ?_) | refine storeB (k := ?_))
  exact retC2M rfl rfl rfl (.there (.there (.there .here))) rfl rfl (fun H hm => ⟨c', cc', g, gc, _, rfl, hc2, hg2, hcc, (hm.pick (L' := [(c', _), (g, _)]) (.keep (.keep (by repeat (first | exact Pick.nil | refine Pick.keep ?_ | refine Pick.drop (by first | assumption | omega) ?_))))).sel (.k (s := (.k (s := (by repeat (first | exact Sel.nil | refine Sel.drop (by first | assumption | omega) ?_))))))⟩)
end Go.Proofs.YtlaobecajieaaaaGreat

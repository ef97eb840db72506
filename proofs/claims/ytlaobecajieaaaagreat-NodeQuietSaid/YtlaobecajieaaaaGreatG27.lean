/- A place asked for, by a message with whatever slice of no sites. -/
import Derived.Test.YtlaobecajieaaaaGreatG21
import Derived.Test.YtlaobecajieaaaaGreatG26
namespace Go.Proofs.YtlaobecajieaaaaGreat
open Go Ev
set_option linter.unusedVariables false
set_option linter.unusedSimpArgs false
def plainMCs (k tok t : Int) (on : Bool) (q : Option Addr) (n c : Nat) : List Value := [.int .i64 k, .int .i64 1, .int .i64 1, .int .i64 tok, .int .i64 t, .int .i64 0, .bool on, .int .i64 0, .int .i64 0, .int .i64 0, amt 0, .int .i64 0, .int .i64 0, .int .i64 0, .int .i64 0, .slice q n c, .bool false, nil0]
attribute [local irreducible] Go.wpList Go.bodyPost Go.Code.wp Go.Exit.then Go.Exit.inBlock Go.Exit.noGoto Ev.wpAnyG Go.Oper.wp Ev.Back Ev.Left Ev.Spc Ev.At Ev.Pure Ev.Reads Ev.Runs Ev.Does Ev.Cell Ev.Am Ev.Has Ev.Kn Go.Code.rounds

set_option maxHeartbeats 4000000 in
theorem holdSG_spec {mq : Option Addr} {mn mc : Nat} {H : Heap} {p : Nat} {sv : Value} {since t now : Int} (hsv : Sv H sv) : Spc Tryz.prog 231 #[.agg (copC sv 1 since 0 0).toArray, .bool true, .agg (plainMCs 13 1 t false mq mn mc).toArray, ptr p, .int .i64 now, .bool false] H fun r H' => ∃ b, r = .tuple #[nil0, .slice (some ⟨b, 0, none⟩) 1 1] ∧ H.size ≤ b ∧ Mem H [] [(b, plainMC 14 1 0 false)] H' := by
  refine spec_of Tryz.func231 rfl Tryz.ntmps231 rfl (fun W => ?_)
  refine Am.new ?_
  repeat (first | refine codeM (k := ?_) | refine condM (k := ?_) | refine offM (k := ?_) | refine offMn (k := ?_) | refine pureM (k := ?_) | refine loadM (k := ?_) | refine loadB (k := ?_) | refine storeM (k := ?_) | refine storeB (k := ?_))
  refine boxM rfl rfl rfl rfl (fun x hx => ?_)
  refine boxM rfl rfl rfl rfl (fun y hy => ?_)
  repeat (first | refine codeM (k := ?_) | refine condM (k := ?_) | refine offM (k := ?_) | refine offMn (k := ?_) | refine pureM (k := ?_) | refine loadM (k := ?_) | refine loadB (k := ?_) | refine storeM (k := ?_) | refine storeB (k := ?_))
  refine loadN [.int .i64 1, .int .i64 1] rfl (.l .here) rfl rfl rfl rfl rfl ?_
  repeat (first | refine codeM (k := ?_) | refine condM (k := ?_) | refine offM (k := ?_) | refine offMn (k := ?_) | refine pureM (k := ?_) | refine loadM (k := ?_) | refine loadB (k := ?_) | refine storeM (k := ?_) | refine storeB (k := ?_))
  refine pM (p_build (plainMC 14 1 0 false) rfl rfl) rfl rfl rfl ?_
  refine allocM rfl rfl rfl (fun z hz => ?_)
  repeat (first | refine codeM (k := ?_) | refine condM (k := ?_) | refine offM (k := ?_) | refine offMn (k := ?_) | refine pureM (k := ?_) | refine loadM (k := ?_) | refine loadB (k := ?_) | refine storeM (k := ?_) | refine storeB (k := ?_))
  refine drawM [0] Tryz.mixed ?_
  first | refine dpM 0 (k := ?_) | refine doffM 0 (k := ?_) | refine dldM 0 rfl (k := ?_) | refine doffNM 0 (k := ?_) | refine dldB 0 rfl (k := ?_)
  first | refine dpM 2 (k := ?_) | refine doffM 2 (k := ?_) | refine dldM 2 rfl (k := ?_) | refine doffNM 2 (k := ?_) | refine dldB 2 rfl (k := ?_)
  refine dxL 1 rfl (by kernel_rfl) rfl (fun Hx => ?_)
  refine bs1W rfl rfl rfl (by decide) rfl (fun b hb => ?_)
  first | refine leftA (k := ?_) | refine leftF (by kernel_rfl) ?_
  first | refine dpM 3 (k := ?_) | refine doffM 3 (k := ?_) | refine dldM 3 rfl (k := ?_) | refine doffNM 3 (k := ?_) | refine dldB 3 rfl (k := ?_)
  refine ddoneM (by kernel_rfl) ?_
  repeat (first | refine codeM (k := ?_) | refine condM (k := ?_) | refine offM (k := ?_) | refine offMn (k := ?_) | refine pureM (k := ?_) | refine loadM (k := ?_) | refine loadB (k := ?_) | refine storeM (k := ?_) | refine storeB (k := ?_))
  exact ret2M rfl rfl rfl (fun H hm => ⟨b, rfl, hb, hm.sel (.k (s := (by repeat (first | exact Sel.nil | refine Sel.drop (by first | assumption | omega) ?_))))⟩)
set_option maxHeartbeats 4000000 in
theorem holdOG_spec {mq : Option Addr} {mn mc : Nat} {H : Heap} {p : Nat} {sv : Value} {since t now : Int} (hp : Ro H p (profC nil0)) (hsv : Sv H sv) (hn : 0 ≤ now) (ht : now < t) (ht2 : t + 5 < 1099511627776) : Spc Tryz.prog 231 #[.agg (copC sv 1 since 0 0).toArray, .bool true, .agg (plainMCs 13 1 t false mq mn mc).toArray, ptr p, .int .i64 now, .bool true] H fun r H' => ∃ a b, r = .tuple #[.slice (some ⟨a, 0, none⟩) 1 1, .slice (some ⟨b, 0, none⟩) 1 1] ∧ H.size ≤ a ∧ H.size ≤ b ∧ Mem H [] [(a, holdRC t (now + 64)), (b, plainMC 14 1 0 true)] H' := by
  refine spec_of Tryz.func231 rfl Tryz.ntmps231 rfl (fun W => ?_)
  refine Am.on (Mem.startR hp) ?_
  repeat (first | refine codeM (k := ?_) | refine condM (k := ?_) | refine offM (k := ?_) | refine offMn (k := ?_) | refine pureM (k := ?_) | refine loadM (k := ?_) | refine loadB (k := ?_) | refine storeM (k := ?_) | refine storeB (k := ?_))
  refine boxM rfl rfl rfl rfl (fun x hx => ?_)
  refine boxM rfl rfl rfl rfl (fun y hy => ?_)
  repeat (first | refine codeM (k := ?_) | refine condM (k := ?_) | refine offM (k := ?_) | refine offMn (k := ?_) | refine pureM (k := ?_) | refine loadM (k := ?_) | refine loadB (k := ?_) | refine storeM (k := ?_) | refine storeB (k := ?_))
  refine loadN [.int .i64 1, .int .i64 1] rfl (.l .here) rfl rfl rfl rfl rfl ?_
  repeat (first | refine codeM (k := ?_) | refine condM (k := ?_) | refine offM (k := ?_) | refine offMn (k := ?_) | refine pureM (k := ?_) | refine loadM (k := ?_) | refine loadB (k := ?_) | refine storeM (k := ?_) | refine storeB (k := ?_))
  refine pM (p_build (plainMC 14 1 0 false) rfl rfl) rfl rfl rfl ?_
  refine allocM rfl rfl rfl (fun z hz => ?_)
  repeat (first | refine codeM (k := ?_) | refine condM (k := ?_) | refine offM (k := ?_) | refine offMn (k := ?_) | refine pureM (k := ?_) | refine loadM (k := ?_) | refine loadB (k := ?_) | refine storeM (k := ?_) | refine storeB (k := ?_))
  refine callM rfl rfl rfl rfl rfl (fun Hc hm => tickAdd_spec Hc (by omega : (0 : Int) ≤ t) (by decide) (by omega : t + 5 ≤ 1099511627776)) ?_
  rintro Hc _ H1 hm ⟨rfl, rfl⟩
  refine Am.on hm ?_
  repeat (first | refine codeM (k := ?_) | refine condM (k := ?_) | refine offM (k := ?_) | refine offMn (k := ?_) | refine pureM (k := ?_) | refine loadM (k := ?_) | refine loadB (k := ?_) | refine storeM (k := ?_) | refine storeB (k := ?_))
  refine pM (p_build (busyC t (t + 5) 1) rfl rfl) rfl rfl rfl ?_
  refine callM rfl rfl rfl rfl rfl (fun Hc hm => pfits0 (hm.roOf (.r .here)) (by omega) (by omega) (by omega)) ?_
  rintro Hc _ H1 hm ⟨x1, rfl⟩
  refine Am.on (hm.ext x1) ?_
  repeat (first | refine codeM (k := ?_) | refine condM (k := ?_) | refine offM (k := ?_) | refine offMn (k := ?_) | refine pureM (k := ?_) | refine loadM (k := ?_) | refine loadB (k := ?_) | refine storeM (k := ?_) | refine storeB (k := ?_))
  refine loadN [.int .i64 1, .int .i64 1] rfl (.l (.there .here)) rfl rfl rfl rfl rfl ?_
  repeat (first | refine codeM (k := ?_) | refine condM (k := ?_) | refine offM (k := ?_) | refine offMn (k := ?_) | refine pureM (k := ?_) | refine loadM (k := ?_) | refine loadB (k := ?_) | refine storeM (k := ?_) | refine storeB (k := ?_))
  refine pM (p_build (holdRC t (now + 64)) rfl rfl) rfl rfl rfl ?_
  refine allocM rfl rfl rfl (fun w hw => ?_)
  repeat (first | refine codeM (k := ?_) | refine condM (k := ?_) | refine offM (k := ?_) | refine offMn (k := ?_) | refine pureM (k := ?_) | refine loadM (k := ?_) | refine loadB (k := ?_) | refine storeM (k := ?_) | refine storeB (k := ?_))
  refine drawM [0, 2] Tryz.mixed ?_
  first | refine dpM 0 (k := ?_) | refine doffM 0 (k := ?_) | refine dldM 0 rfl (k := ?_) | refine doffNM 0 (k := ?_) | refine dldB 0 rfl (k := ?_)
  first | refine dpM 2 (k := ?_) | refine doffM 2 (k := ?_) | refine dldM 2 rfl (k := ?_) | refine doffNM 2 (k := ?_) | refine dldB 2 rfl (k := ?_)
  refine dx2L 1 3 rfl rfl (by kernel_rfl) rfl rfl (fun Hx => ?_) (fun Hx => ?_)
  · refine bs1W rfl rfl rfl (by decide) rfl (fun a ha => ?_)
    first | refine leftA (k := ?_) | refine leftF (by kernel_rfl) ?_
    first | refine dpM 4 (k := ?_) | refine doffM 4 (k := ?_) | refine dldM 4 rfl (k := ?_) | refine doffNM 4 (k := ?_) | refine dldB 4 rfl (k := ?_)
    refine dxL 3 rfl (by kernel_rfl) rfl (fun Hx => ?_)
    refine bs1W rfl rfl rfl (by decide) rfl (fun b hb => ?_)
    first | refine leftA (k := ?_) | refine leftF (by kernel_rfl) ?_
    first | refine dpM 5 (k := ?_) | refine doffM 5 (k := ?_) | refine dldM 5 rfl (k := ?_) | refine doffNM 5 (k := ?_) | refine dldB 5 rfl (k := ?_)
    refine ddoneM (by kernel_rfl) ?_
    repeat (first | refine codeM (k := ?_) | refine condM (k := ?_) | refine offM (k := ?_) | refine offMn (k := ?_) | refine pureM (k := ?_) | refine loadM (k := ?_) | refine loadB (k := ?_) | refine storeM (k := ?_) | refine storeB (k := ?_))
    exact ret2M rfl rfl rfl (fun H hm => ⟨a, b, rfl, ha, hb, (hm.sel (.k (s := (.k (s := (by repeat (first | exact Sel.nil | refine Sel.drop (by first | assumption | omega) ?_))))))).noR⟩)
  · refine bs1W rfl rfl rfl (by decide) rfl (fun b hb => ?_)
    first | refine leftA (k := ?_) | refine leftF (by kernel_rfl) ?_
    refine dxL 1 rfl (by kernel_rfl) rfl (fun Hx => ?_)
    refine bs1W rfl rfl rfl (by decide) rfl (fun a ha => ?_)
    first | refine leftA (k := ?_) | refine leftF (by kernel_rfl) ?_
    first | refine dpM 4 (k := ?_) | refine doffM 4 (k := ?_) | refine dldM 4 rfl (k := ?_) | refine doffNM 4 (k := ?_) | refine dldB 4 rfl (k := ?_)
    first | refine dpM 5 (k := ?_) | refine doffM 5 (k := ?_) | refine dldM 5 rfl (k := ?_) | refine doffNM 5 (k := ?_) | refine dldB 5 rfl (k := ?_)
    refine ddoneM (by kernel_rfl) ?_
    repeat (first | refine codeM (k := ?_) | refine condM (k := ?_) | refine offM (k := ?_) | refine offMn (k := ?_) | refine pureM (k := ?_) | refine loadM (k := ?_) | refine loadB (k := ?_) | refine storeM (k := ?_) | refine storeB (k := ?_))
    exact ret2M rfl rfl rfl (fun H hm => ⟨a, b, rfl, ha, hb, (hm.sel (.k (s := (.k (s := (by repeat (first | exact Sel.nil | refine Sel.drop (by first | assumption | omega) ?_))))))).noR⟩)
set_option maxHeartbeats 4000000 in
theorem handleSG_spec {mq : Option Addr} {mn mc : Nat} {H : Heap} {p : Nat} {sv : Value} {since t now : Int} (hsv : Sv H sv) : Spc Tryz.prog 135 #[.agg (copC sv 1 since 0 0).toArray, .bool true, .agg (plainMCs 13 1 t false mq mn mc).toArray, ptr p, .int .i64 now, .bool false] H fun r H' => ∃ b, r = .tuple #[nil0, .slice (some ⟨b, 0, none⟩) 1 1] ∧ H.size ≤ b ∧ Mem H [] [(b, plainMC 14 1 0 false)] H' := by
  have hv1 := hsv.one
  refine spec_of Tryz.func135 rfl Tryz.ntmps135 rfl (fun W => ?_)
  refine Am.new ?_
  repeat (first | refine codeM (k := ?_) | refine condM (k := ?_) | refine offM (k := ?_) | refine offMn (k := ?_) | refine pureM (k := ?_) | refine loadM (k := ?_) | refine loadB (k := ?_) | refine storeM (k := ?_) | refine storeB (k := ?_))
  refine boxM rfl rfl rfl rfl (fun x hx => ?_)
  refine boxM rfl rfl rfl rfl (fun y hy => ?_)
  repeat (first | refine codeM (k := ?_) | refine condM (k := ?_) | refine offM (k := ?_) | refine offMn (k := ?_) | refine pureM (k := ?_) | refine loadM (k := ?_) | refine loadB (k := ?_) | refine storeM (k := ?_) | refine storeB (k := ?_))
  refine callM rfl rfl rfl rfl rfl (fun Hc hm => holdSG_spec (hsv.on (hm.toExt (by repeat (first | exact Pick.nil | refine Pick.keep ?_ | refine Pick.drop (by first | assumption | omega) ?_))))) ?_
  rintro Hc _ H1 hm ⟨b, rfl, hb, hm1⟩
  have hb2 := Nat.le_trans hm.size hb
  refine Am.on (Mem.aft hm hm1 (.new (by first | assumption | omega) .nil)) ?_
  repeat (first | refine codeM (k := ?_) | refine condM (k := ?_) | refine offM (k := ?_) | refine offMn (k := ?_) | refine pureM (k := ?_) | refine loadM (k := ?_) | refine loadB (k := ?_) | refine storeM (k := ?_) | refine storeB (k := ?_))
  exact ret2M rfl rfl rfl (fun H hm => ⟨b, rfl, hb2, (hm.sel (.k (s := (by repeat (first | exact Sel.nil | refine Sel.drop (by first | assumption | omega) ?_))))).noR⟩)
set_option maxHeartbeats 4000000 in
theorem handleOG_spec {mq : Option Addr} {mn mc : Nat} {H : Heap} {p : Nat} {sv : Value} {since t now : Int} (hp : Ro H p (profC nil0)) (hsv : Sv H sv) (hn : 0 ≤ now) (ht : now < t) (ht2 : t + 5 < 1099511627776) : Spc Tryz.prog 135 #[.agg (copC sv 1 since 0 0).toArray, .bool true, .agg (plainMCs 13 1 t false mq mn mc).toArray, ptr p, .int .i64 now, .bool true] H fun r H' => ∃ a b, r = .tuple #[.slice (some ⟨a, 0, none⟩) 1 1, .slice (some ⟨b, 0, none⟩) 1 1] ∧ H.size ≤ a ∧ H.size ≤ b ∧ Mem H [] [(a, holdRC t (now + 64)), (b, plainMC 14 1 0 true)] H' := by
  have hv1 := hsv.one
  refine spec_of Tryz.func135 rfl Tryz.ntmps135 rfl (fun W => ?_)
  refine Am.on (Mem.startR hp) ?_
  repeat (first | refine codeM (k := ?_) | refine condM (k := ?_) | refine offM (k := ?_) | refine offMn (k := ?_) | refine pureM (k := ?_) | refine loadM (k := ?_) | refine loadB (k := ?_) | refine storeM (k := ?_) | refine storeB (k := ?_))
  refine boxM rfl rfl rfl rfl (fun x hx => ?_)
  refine boxM rfl rfl rfl rfl (fun y hy => ?_)
  repeat (first | refine codeM (k := ?_) | refine condM (k := ?_) | refine offM (k := ?_) | refine offMn (k := ?_) | refine pureM (k := ?_) | refine loadM (k := ?_) | refine loadB (k := ?_) | refine storeM (k := ?_) | refine storeB (k := ?_))
  refine callM rfl rfl rfl rfl rfl (fun Hc hm => holdOG_spec (hm.roOf (.r .here)) (hsv.on (hm.toExt (by repeat (first | exact Pick.nil | refine Pick.keep ?_ | refine Pick.drop (by first | assumption | omega) ?_)))) hn ht ht2) ?_
  rintro Hc _ H1 hm ⟨a, b, rfl, ha, hb, hm1⟩
  have ha2 := Nat.le_trans hm.size ha
  have hb2 := Nat.le_trans hm.size hb
  refine Am.on (Mem.aft hm hm1 (.new (by first | assumption | omega) (.new (by first | assumption | omega) .nil))) ?_
  repeat (first | refine codeM (k := ?_) | refine condM (k := ?_) | refine offM (k := ?_) | refine offMn (k := ?_) | refine pureM (k := ?_) | refine loadM (k := ?_) | refine loadB (k := ?_) | refine storeM (k := ?_) | refine storeB (k := ?_))
  exact ret2M rfl rfl rfl (fun H hm => ⟨a, b, rfl, ha2, hb2, (hm.sel (.k (s := (.k (s := (by repeat (first | exact Sel.nil | refine Sel.drop (by first | assumption | omega) ?_))))))).noR⟩)
set_option maxHeartbeats 8000000 in
theorem heardSG_spec {mq : Option Addr} {mn mc : Nat} {H : Heap} {c cc ep recs : Nat} {sv : Value} {since t now : Int} (hc : Ro H c (copC sv 1 since 0 0)) (hsv : Sv H sv) : Spc Tryz.prog 67 #[.agg (stC 0 2 ep 0 recs (.slice (some ⟨c, 0, none⟩) 1 cc) nil0).toArray, .int .i64 1, .agg (plainMCs 13 1 t false mq mn mc).toArray, .int .i64 now, .bool false] H fun r H' => ∃ b, r = .tuple #[nil0, .slice (some ⟨b, 0, none⟩) 1 1] ∧ H.size ≤ b ∧ Mem H [] [(b, plainMC 14 1 0 false)] H' := by
  have hv1 := hsv.one
  refine spec_of Tryz.func67 rfl Tryz.ntmps67 rfl (fun W => ?_)
  refine Am.on (Mem.startR hc) ?_
  repeat (first | refine codeM (k := ?_) | refine condM (k := ?_) | refine offM (k := ?_) | refine offMn (k := ?_) | refine pureM (k := ?_) | refine loadM (k := ?_) | refine loadB (k := ?_) | refine storeM (k := ?_) | refine storeB (k := ?_))
  refine boxM rfl rfl rfl rfl (fun x hx => ?_)
  refine boxM rfl rfl rfl rfl (fun y hy => ?_)
  repeat (first | refine codeM (k := ?_) | refine condM (k := ?_) | refine offM (k := ?_) | refine offMn (k := ?_) | refine pureM (k := ?_) | refine loadM (k := ?_) | refine loadB (k := ?_) | refine storeM (k := ?_) | refine storeB (k := ?_))
  refine loadN [.int .i64 1, .int .i64 1] rfl (.l .here) rfl rfl rfl rfl rfl ?_
  refine callM rfl rfl rfl rfl rfl (fun Hc hm => tcopyOf1 (hm.roOf (.r .here)) hv1) ?_
  rintro Hc _ H1 hm ⟨x1, rfl⟩
  refine Am.on (hm.ext x1) ?_
  repeat (first | refine codeM (k := ?_) | refine condM (k := ?_) | refine offM (k := ?_) | refine offMn (k := ?_) | refine pureM (k := ?_) | refine loadM (k := ?_) | refine loadB (k := ?_) | refine storeM (k := ?_) | refine storeB (k := ?_))
  refine allocM rfl rfl rfl (fun z hz => ?_)
  refine storeB (h1 := copC_one hv1 _ _ _ _) (k := ?_)
  repeat (first | refine codeM (k := ?_) | refine condM (k := ?_) | refine offM (k := ?_) | refine offMn (k := ?_) | refine pureM (k := ?_) | refine loadM (k := ?_) | refine loadB (k := ?_) | refine storeM (k := ?_) | refine storeB (k := ?_))
  refine drawM [0, 2, 3] Tryz.mixed ?_
  first | refine dpM 0 (k := ?_) | refine doffM 0 (k := ?_) | refine dldM 0 rfl (k := ?_) | refine doffNM 0 (k := ?_) | refine dldB 0 rfl (k := ?_)
  first | refine dpM 1 (k := ?_) | refine doffM 1 (k := ?_) | refine dldM 1 rfl (k := ?_) | refine doffNM 1 (k := ?_) | refine dldB 1 rfl (k := ?_)
  first | refine dpM 2 (k := ?_) | refine doffM 2 (k := ?_) | refine dldM 2 rfl (k := ?_) | refine doffNM 2 (k := ?_) | refine dldB 2 rfl (k := ?_)
  first | refine dpM 3 (k := ?_) | refine doffM 3 (k := ?_) | refine dldM 3 rfl (k := ?_) | refine doffNM 3 (k := ?_) | refine dldB 3 rfl (k := ?_)
  first | refine dpM 5 (k := ?_) | refine doffM 5 (k := ?_) | refine dldM 5 rfl (k := ?_) | refine doffNM 5 (k := ?_) | refine dldB 5 rfl (k := ?_)
  first | refine dpM 6 (k := ?_) | refine doffM 6 (k := ?_) | refine dldM 6 rfl (k := ?_) | refine doffNM 6 (k := ?_) | refine dldB 6 rfl (k := ?_)
  refine dxL 4 rfl (by kernel_rfl) rfl (fun Hx => ?_)
  refine callW rfl rfl rfl rfl (fun Hc hm => beside_spec (hm.roOf (.r .here)) hv1) ?_
  rintro Hc _ H1 hm ⟨p, rfl, hp, hm1⟩
  have hp2 := Nat.le_trans hm.size hp
  refine Am.on (Mem.aft hm hm1 (.new (by first | assumption | omega) .nil)) ?_
  first | refine leftA (k := ?_) | refine leftF (by kernel_rfl) ?_
  first | refine dpM 7 (k := ?_) | refine doffM 7 (k := ?_) | refine dldM 7 rfl (k := ?_) | refine doffNM 7 (k := ?_) | refine dldB 7 rfl (k := ?_)
  first | refine dpM 8 (k := ?_) | refine doffM 8 (k := ?_) | refine dldM 8 rfl (k := ?_) | refine doffNM 8 (k := ?_) | refine dldB 8 rfl (k := ?_)
  first | refine dpM 9 (k := ?_) | refine doffM 9 (k := ?_) | refine dldM 9 rfl (k := ?_) | refine doffNM 9 (k := ?_) | refine dldB 9 rfl (k := ?_)
  first | refine dpM 10 (k := ?_) | refine doffM 10 (k := ?_) | refine dldM 10 rfl (k := ?_) | refine doffNM 10 (k := ?_) | refine dldB 10 rfl (k := ?_)
  first | refine dpM 11 (k := ?_) | refine doffM 11 (k := ?_) | refine dldM 11 rfl (k := ?_) | refine doffNM 11 (k := ?_) | refine dldB 11 rfl (k := ?_)
  refine dxL 12 rfl (by kernel_rfl) rfl (fun Hx => ?_)
  refine callW rfl rfl rfl rfl (fun Hc hm => handleSG_spec (hsv.on (hm.toExt (by repeat (first | exact Pick.nil | refine Pick.keep ?_ | refine Pick.drop (by first | assumption | omega) ?_))))) ?_
  rintro Hc _ H1 hm ⟨b, rfl, hb, hm1⟩
  have hb2 := Nat.le_trans hm.size hb
  refine Am.on (Mem.aft hm hm1 (.new (by first | assumption | omega) .nil)) ?_
  first | refine leftA (k := ?_) | refine leftF (by kernel_rfl) ?_
  first | refine dpM 13 (k := ?_) | refine doffM 13 (k := ?_) | refine dldM 13 rfl (k := ?_) | refine doffNM 13 (k := ?_) | refine dldB 13 rfl (k := ?_)
  first | refine dpM 14 (k := ?_) | refine doffM 14 (k := ?_) | refine dldM 14 rfl (k := ?_) | refine doffNM 14 (k := ?_) | refine dldB 14 rfl (k := ?_)
  first | refine dpM 15 (k := ?_) | refine doffM 15 (k := ?_) | refine dldM 15 rfl (k := ?_) | refine doffNM 15 (k := ?_) | refine dldB 15 rfl (k := ?_)
  first | refine dpM 16 (k := ?_) | refine doffM 16 (k := ?_) | refine dldM 16 rfl (k := ?_) | refine doffNM 16 (k := ?_) | refine dldB 16 rfl (k := ?_)
  first | refine dpM 17 (k := ?_) | refine doffM 17 (k := ?_) | refine dldM 17 rfl (k := ?_) | refine doffNM 17 (k := ?_) | refine dldB 17 rfl (k := ?_)
  refine ddoneM (by kernel_rfl) ?_
  repeat (first | refine codeM (k := ?_) | refine condM (k := ?_) | refine offM (k := ?_) | refine offMn (k := ?_) | refine pureM (k := ?_) | refine loadM (k := ?_) | refine loadB (k := ?_) | refine storeM (k := ?_) | refine storeB (k := ?_))
  refine pM (p_build (stC 0 2 ep 0 recs (.slice (some ⟨c, 0, none⟩) 1 cc) nil0 ++ [nil0]) rfl rfl) rfl rfl rfl ?_
  refine boxM (ys := stC 0 2 ep 0 recs (.slice (some ⟨c, 0, none⟩) 1 cc) nil0 ++ [nil0]) rfl rfl rfl rfl (fun m hmm => ?_)
  repeat (first | refine codeM (k := ?_) | refine condM (k := ?_) | refine offM (k := ?_) | refine offMn (k := ?_) | refine pureM (k := ?_) | refine loadM (k := ?_) | refine loadB (k := ?_) | refine storeM (k := ?_) | refine storeB (k := ?_))
  refine callM rfl rfl rfl rfl rfl (fun Hc hm => add0_spec Hc m) ?_
  rintro Hc _ H1 hm ⟨x1, rfl⟩
  refine Am.on (hm.ext x1) ?_
  repeat (first | refine codeM (k := ?_) | refine condM (k := ?_) | refine offM (k := ?_) | refine offMn (k := ?_) | refine pureM (k := ?_) | refine loadM (k := ?_) | refine loadB (k := ?_) | refine storeM (k := ?_) | refine storeB (k := ?_))
  exact ret2M rfl rfl rfl (fun H hm => ⟨b, rfl, hb2, (hm.sel (.k (s := (by repeat (first | exact Sel.nil | refine Sel.drop (by first | assumption | omega) ?_))))).noR⟩)
set_option maxHeartbeats 8000000 in
theorem heardOG_spec {mq : Option Addr} {mn mc : Nat} {H : Heap} {c cc ep recs : Nat} {sv : Value} {since t now : Int} (hc : Ro H c (copC sv 1 since 0 0)) (hsv : Sv H sv) (hn : 0 ≤ now) (ht : now < t) (ht2 : t + 5 < 1099511627776) (hr : recs < 1000000) : Spc Tryz.prog 67 #[.agg (stC 0 2 ep 0 recs (.slice (some ⟨c, 0, none⟩) 1 cc) nil0).toArray, .int .i64 1, .agg (plainMCs 13 1 t false mq mn mc).toArray, .int .i64 now, .bool true] H fun r H' => ∃ q qc b, r = .tuple #[.slice (some ⟨q, 0, none⟩) 1 qc, .slice (some ⟨b, 0, none⟩) 1 1] ∧ H.size ≤ q ∧ H.size ≤ b ∧ 1 ≤ qc ∧ Mem H [] [(q, holdRC t (now + 64)), (b, plainMC 14 1 0 true)] H' := by
  have hv1 := hsv.one
  refine spec_of Tryz.func67 rfl Tryz.ntmps67 rfl (fun W => ?_)
  refine Am.on (Mem.startR hc) ?_
  repeat (first | refine codeM (k := ?_) | refine condM (k := ?_) | refine offM (k := ?_) | refine offMn (k := ?_) | refine pureM (k := ?_) | refine loadM (k := ?_) | refine loadB (k := ?_) | refine storeM (k := ?_) | refine storeB (k := ?_))
  refine boxM rfl rfl rfl rfl (fun x hx => ?_)
  refine boxM rfl rfl rfl rfl (fun y hy => ?_)
  repeat (first | refine codeM (k := ?_) | refine condM (k := ?_) | refine offM (k := ?_) | refine offMn (k := ?_) | refine pureM (k := ?_) | refine loadM (k := ?_) | refine loadB (k := ?_) | refine storeM (k := ?_) | refine storeB (k := ?_))
  refine loadN [.int .i64 1, .int .i64 1] rfl (.l .here) rfl rfl rfl rfl rfl ?_
  refine callM rfl rfl rfl rfl rfl (fun Hc hm => tcopyOf1 (hm.roOf (.r .here)) hv1) ?_
  rintro Hc _ H1 hm ⟨x1, rfl⟩
  refine Am.on (hm.ext x1) ?_
  repeat (first | refine codeM (k := ?_) | refine condM (k := ?_) | refine offM (k := ?_) | refine offMn (k := ?_) | refine pureM (k := ?_) | refine loadM (k := ?_) | refine loadB (k := ?_) | refine storeM (k := ?_) | refine storeB (k := ?_))
  refine allocM rfl rfl rfl (fun z hz => ?_)
  refine storeB (h1 := copC_one hv1 _ _ _ _) (k := ?_)
  repeat (first | refine codeM (k := ?_) | refine condM (k := ?_) | refine offM (k := ?_) | refine offMn (k := ?_) | refine pureM (k := ?_) | refine loadM (k := ?_) | refine loadB (k := ?_) | refine storeM (k := ?_) | refine storeB (k := ?_))
  refine drawM [0, 2, 3, 9] Tryz.mixed ?_
  first | refine dpM 0 (k := ?_) | refine doffM 0 (k := ?_) | refine dldM 0 rfl (k := ?_) | refine doffNM 0 (k := ?_) | refine dldB 0 rfl (k := ?_)
  first | refine dpM 1 (k := ?_) | refine doffM 1 (k := ?_) | refine dldM 1 rfl (k := ?_) | refine doffNM 1 (k := ?_) | refine dldB 1 rfl (k := ?_)
  first | refine dpM 2 (k := ?_) | refine doffM 2 (k := ?_) | refine dldM 2 rfl (k := ?_) | refine doffNM 2 (k := ?_) | refine dldB 2 rfl (k := ?_)
  first | refine dpM 3 (k := ?_) | refine doffM 3 (k := ?_) | refine dldM 3 rfl (k := ?_) | refine doffNM 3 (k := ?_) | refine dldB 3 rfl (k := ?_)
  first | refine dpM 5 (k := ?_) | refine doffM 5 (k := ?_) | refine dldM 5 rfl (k := ?_) | refine doffNM 5 (k := ?_) | refine dldB 5 rfl (k := ?_)
  first | refine dpM 6 (k := ?_) | refine doffM 6 (k := ?_) | refine dldM 6 rfl (k := ?_) | refine doffNM 6 (k := ?_) | refine dldB 6 rfl (k := ?_)
  refine dxL 4 rfl (by kernel_rfl) rfl (fun Hx => ?_)
  refine callW rfl rfl rfl rfl (fun Hc hm => beside_spec (hm.roOf (.r .here)) hv1) ?_
  rintro Hc _ H1 hm ⟨p, rfl, hp, hm1⟩
  have hp2 := Nat.le_trans hm.size hp
  refine Am.on (Mem.aft hm hm1 (.new (by first | assumption | omega) .nil)) ?_
  first | refine leftA (k := ?_) | refine leftF (by kernel_rfl) ?_
  first | refine dpM 7 (k := ?_) | refine doffM 7 (k := ?_) | refine dldM 7 rfl (k := ?_) | refine doffNM 7 (k := ?_) | refine dldB 7 rfl (k := ?_)
  first | refine dpM 8 (k := ?_) | refine doffM 8 (k := ?_) | refine dldM 8 rfl (k := ?_) | refine doffNM 8 (k := ?_) | refine dldB 8 rfl (k := ?_)
  first | refine dpM 9 (k := ?_) | refine doffM 9 (k := ?_) | refine dldM 9 rfl (k := ?_) | refine doffNM 9 (k := ?_) | refine dldB 9 rfl (k := ?_)
  first | refine dpM 10 (k := ?_) | refine doffM 10 (k := ?_) | refine dldM 10 rfl (k := ?_) | refine doffNM 10 (k := ?_) | refine dldB 10 rfl (k := ?_)
  first | refine dpM 11 (k := ?_) | refine doffM 11 (k := ?_) | refine dldM 11 rfl (k := ?_) | refine doffNM 11 (k := ?_) | refine dldB 11 rfl (k := ?_)
  refine dxL 12 rfl (by kernel_rfl) rfl (fun Hx => ?_)
  refine callW rfl rfl rfl rfl (fun Hc hm => handleOG_spec (hm.has1 .here).ro (hsv.on (hm.toExt (by repeat (first | exact Pick.nil | refine Pick.keep ?_ | refine Pick.drop (by first | assumption | omega) ?_)))) hn ht ht2) ?_
  rintro Hc _ H1 hm ⟨a, b, rfl, ha, hb, hm1⟩
  have ha2 := Nat.le_trans hm.size ha
  have hb2 := Nat.le_trans hm.size hb
  refine Am.on (Mem.aft hm hm1 (.new (by first | assumption | omega) (.new (by first | assumption | omega) .nil))) ?_
  first | refine leftA (k := ?_) | refine leftF (by kernel_rfl) ?_
  first | refine dpM 13 (k := ?_) | refine doffM 13 (k := ?_) | refine dldM 13 rfl (k := ?_) | refine doffNM 13 (k := ?_) | refine dldB 13 rfl (k := ?_)
  first | refine dpM 14 (k := ?_) | refine doffM 14 (k := ?_) | refine dldM 14 rfl (k := ?_) | refine doffNM 14 (k := ?_) | refine dldB 14 rfl (k := ?_)
  first | refine dpM 15 (k := ?_) | refine doffM 15 (k := ?_) | refine dldM 15 rfl (k := ?_) | refine doffNM 15 (k := ?_) | refine dldB 15 rfl (k := ?_)
  first | refine dpM 16 (k := ?_) | refine doffM 16 (k := ?_) | refine dldM 16 rfl (k := ?_) | refine doffNM 16 (k := ?_) | refine dldB 16 rfl (k := ?_)
  first | refine dpM 17 (k := ?_) | refine doffM 17 (k := ?_) | refine dldM 17 rfl (k := ?_) | refine doffNM 17 (k := ?_) | refine dldB 17 rfl (k := ?_)
  refine ddoneM (by kernel_rfl) ?_
  repeat (first | refine codeM (k := ?_) | refine condM (k := ?_) | refine offM (k := ?_) | refine offMn (k := ?_) | refine pureM (k := ?_) | refine loadM (k := ?_) | refine loadB (k := ?_) | refine storeM (k := ?_) | refine storeB (k := ?_))
  refine pM (p_build (stC 0 2 ep 0 recs (.slice (some ⟨c, 0, none⟩) 1 cc) nil0 ++ [nil0]) rfl rfl) rfl rfl rfl ?_
  refine boxM (ys := stC 0 2 ep 0 recs (.slice (some ⟨c, 0, none⟩) 1 cc) nil0 ++ [nil0]) rfl rfl rfl rfl (fun m hmm => ?_)
  repeat (first | refine codeM (k := ?_) | refine condM (k := ?_) | refine offM (k := ?_) | refine offMn (k := ?_) | refine pureM (k := ?_) | refine loadM (k := ?_) | refine loadB (k := ?_) | refine storeM (k := ?_) | refine storeB (k := ?_))
  refine callM rfl rfl rfl rfl rfl (fun Hc hm => addH_spec (hm.has1 .here) (hm.has1 (.there (.there .here))).ro (hsv.on (hm.toExt (by repeat (first | exact Pick.nil | refine Pick.keep ?_ | refine Pick.drop (by first | assumption | omega) ?_)))) (fun e => by have h2 := hm.nd; subst e; simp [keys] at h2) (fun e => by have := hsv.lt e; omega) (hm.roOf (.r .here)) (fun e => by have := hc.1; omega) (by omega) ht2 hr) ?_
  rintro Hc _ H1 hm ⟨rfl, c2, cc2, g2, gc2, p3, pc3, q, qc, hc2, hg3, hq, hp3, hqc, hm1⟩
  have hc3 := Nat.le_trans hm.size hc2
  have hg4 := Nat.le_trans hm.size hg3
  have hq2 := Nat.le_trans hm.size hq
  have hp4 := Nat.le_trans hm.size hp3
  refine Am.on (Mem.aft hm hm1 (.new (by first | assumption | omega) (.new (by first | assumption | omega) (.new (by first | assumption | omega) (.new (by first | assumption | omega) (.upd (by first | exact .here | exact .there .here | exact .there (.there .here) | exact .there (.there (.there .here)) | exact .there (.there (.there (.there .here))) | exact .there (.there (.there (.there (.there .here)))) | exact .there (.there (.there (.there (.there (.there .here)))))) .nil)))))) ?_
  repeat (first | refine codeM (k := ?_) | refine condM (k := ?_) | refine offM (k := ?_) | refine offMn (k := ?_) | refine pureM (k := ?_) | refine loadM (k := ?_) | refine loadB (k := ?_) | refine storeM (k := ?_) | refine storeB (k := ?_))
  exact ret2M rfl rfl rfl (fun H hm => ⟨q, qc, b, rfl, hq2, hb2, hqc, (hm.sel (.k (s := (.k (s := (by repeat (first | exact Sel.nil | refine Sel.drop (by first | assumption | omega) ?_))))))).noR⟩)
end Go.Proofs.YtlaobecajieaaaaGreat
/- What a node's taking of a frame needs. -/
namespace Go.Proofs.YtlaobecajieaaaaGreat
open Go Ev
set_option linter.unusedVariables false
set_option linter.unusedSimpArgs false
def frC (e s : Int) (bv : Value) : List Value := [.int .i64 1, .int .i64 0, .int .i64 1, .int .i64 e, .int .i64 s, .int .i64 0, bv]
def copyMs : Ms := { kind := 1, ia := 0, inn := 0, tok := 0, tick := 0, how := 0, on := false, job := j1 }
def holdMs (t : Nat) : Ms := { kind := 13, ia := 1, inn := 1, tok := 1, tick := t, how := 0, on := false, job := jo0 }
theorem copyMs_ok : MsOk copyMs := ⟨by show 1 < _; decide, by show 0 < _; decide, by show 0 < _; decide, by show 0 < _; decide, by show 0 < _; decide, by show 0 < _; decide, j1_ok⟩
theorem holdMs_ok (t : Nat) (h : t < 4000000000) : MsOk (holdMs t) := ⟨by show 13 < _; decide, by show 1 < _; decide, by show 1 < _; decide, by show 1 < _; decide, by show t < _; omega, by show 0 < _; decide, jo0_ok⟩
/-- the link before, between and behind the two frames -/
def lkA (e : Int) (b : List UInt8) : Lk := ⟨0, 1, e, 1, [(1, b)], 1, 1, true⟩
theorem take_1 (e : Int) (l : List UInt8) : takeL (lkz 1 e) ⟨1, 0, 1, e, 1, 0, l⟩ = (⟨0, 1, e, 1, [], 0, 1, true⟩, some l) := by
  simp [takeL, takeB, takeA, lkz]
theorem take_2 (e : Int) (b l : List UInt8) : takeL (lkA e b) ⟨1, 0, 1, e, 2, 0, l⟩ = (⟨0, 1, e, 1, [(1, b)], 1, 2, true⟩, some l) := by
  simp [takeL, takeB, takeA, lkA]
theorem BytesAt.own {D : Nat → Prop} {H : Heap} {p : Option Addr} {n c : Nat} {l : List UInt8} (h : BytesAt D H (.slice p n c) l) : BytesAt (fun b => (Value.slice p n c).ownBlock = some b ∨ D b) H (.slice p n c) l := h.mono (fun b hb _ => .inr hb)
end Go.Proofs.YtlaobecajieaaaaGreat

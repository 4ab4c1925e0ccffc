/- The walk of skew.befores: for each deed, the deed before it at its machine. -/
import Derived.Shelf.Slices.Delete
import Derived.StillTailTactics
import Derived.Test.YtobcecgcegoooaaCSrS0
import Derived.Test.YtobcecgcegoooaaCSrV0
namespace Go.Proofs.Ytobcecgcegoooaa.Sk
open Go.RowKit Go.Proofs.YtobcecgcegoooaaW.PrintWords Go.Proofs.YtobcecgcegoooaaW.PrintLast Go.Proofs.YtobcecgcegoooaaW.PrintMore
attribute [local go_sem] max2_int min2_int max_two min_two
set_option linter.unusedVariables false
set_option linter.unusedSimpArgs false
mutual
def skew_isHist.j0 : Nat → Bool → List (S27) → List (S86) → Option (Bool)
 | 0, _, _, _ => none
 | k + 1, x20, x141000, x141001 => if x20 = true then (some false) else (skew_isHist.l0 k x141001 (x141001.length : Int) 0 x141000 x141001)
def skew_isHist.l0 : Nat → List (S86) → Int → Int → List (S27) → List (S86) → Option (Bool)
 | 0, _, _, _, _, _ => none
 | k + 1, x22, x23, x24, x141000, x141001 => if x24 < x23 then (if 0 ≤ x24 then (if x24 < (x22.length : Int) then ((skew_within.f ((rd_T86 x22 x24).f0) 0 (wrap64 ((x141000.length : Int) - 1))).bind fun t144 => (if t144 = true then ((skew_within.f ((rd_T86 x22 x24).f1) 0 (wrap64 ((x141000.length : Int) - 1))).bind fun t145 => (if t145 = true then (if ((rd_T86 x22 x24).f0) = ((rd_T86 x22 x24).f1) then (some false) else (if ((rd_T86 x22 x24).f2) > ((rd_T86 x22 x24).f3) then (some false) else (if ((rd_T86 x22 x24).f2) < (-2000000) then (some false) else (if ((rd_T86 x22 x24).f3) > 2000000 then (some false) else (skew_isHist.l0 k x22 x23 (wrap64 (x24 + 1)) x141000 x141001))))) else (some false))) else (some false))) else (none)) else (none)) else (some true)
end
def skew_isHist.f (k : Nat) (l0_0 : List (S27)) (l0_1 : List (S86)) : Option (Bool) := if (l0_0.length : Int) > 10 then (skew_isHist.j0 k true l0_0 l0_1) else (if (l0_1.length : Int) > 20 then (skew_isHist.j0 k true l0_0 l0_1) else ((skew_all.f l0_0).bind fun t141 => (skew_isHist.j0 k (!t141) l0_0 l0_1)))
set_option maxHeartbeats 8000000 in
set_option maxRecDepth 100000 in
theorem skew_isHist.calls (k : Nat) (A0_0 : Option Addr) (c0_0 : Nat) (l0_0 : List (S27)) (A0_1 : Option Addr) (c0_1 : Nat) (l0_1 : List (S86)) (r : Bool) (w : World) (hr0_0 : Kd.C k27 w A0_0 l0_0.length l0_0) (hc0_0 : l0_0.length ≤ c0_0) (hr0_1 : Kd.C k86 w A0_1 l0_1.length l0_1) (hc0_1 : l0_1.length ≤ c0_1) (h : skew_isHist.f k l0_0 l0_1 = some r) :
  Calls Try.prog 75 #[.agg #[.slice A0_0 l0_0.length c0_0, .slice A0_1 l0_1.length c0_1]] w fun e w' => e = .returned (.bool r) ∧ Below w.heap.size w w' := by
 have hu39 := Try.underlying39; have hu86 := Try.underlying86; have HR0_0 := Aa hr0_0; have HC0_0 := Aa hc0_0; clear hr0_0 hc0_0; have HR0_1 := Aa hr0_1; have HC0_1 := Aa hc0_1; clear hr0_1 hc0_1; have HB := Aa (Below.refl w.heap.size w); have H : (if (l0_0.length : Int) > 10 then (skew_isHist.j0 k true l0_0 l0_1) else (if (l0_1.length : Int) > 20 then (skew_isHist.j0 k true l0_0 l0_1) else ((skew_all.f l0_0).bind fun t141 => (skew_isHist.j0 k (!t141) l0_0 l0_1)))) = some r := h; clear h; have HC2 := Aa H; clear H
 go_enter Try.func75, Try.ntmps75
 go_upto_region 1 with (first | ((with_reducible refine gate_dst (N := 1) rfl ?_); (try (refine gate_guard (by rfl) ?_; dsimp only)); refine box_event ?hg (N := 1) ?hd (cs := #[.slice A0_0 l0_0.length c0_0, .slice A0_1 l0_1.length c0_1]) (t := 39) ?hr ?_; (case hd => rfl); (case hg => rfl); (case hr => first | (go_simp; done) | (go_simp; rfl)); intro gb140 hg w3 hbox hb; have n0_ := Aa (Bp (by repeat (first | (with_reducible first | exact HB.out | apply Ba | apply Pn | apply Dn) | exact HB.out)) hb); have n1_ := Aa (hbox); have n2_ := Aa ((by rw [hg]; exact (below_size (by repeat (first | (with_reducible first | exact HB.out | apply Ba | apply Pn | apply Dn) | exact HB.out))) : w.heap.size ≤ gb140)); have n3_ := Aa ((by rw [hg]; exact (below_size (by repeat (first | (with_reducible first | exact HB.out | apply Ba | apply Pn | apply Dn) | exact HB.out))) : w.heap.size ≤ gb140)); clear HB; have HB := n0_; have BK140 := n1_; have GW140 := n2_; have GE140 := n3_; clear n0_ n1_ n2_ n3_; clear hb hbox hg))
 (try simp only [Act.put, Sa, Sb, Sc])
 go_cut [20] (fun v20 wc => ∃ (kq : Nat) (x20_1 : Bool), v20 = .bool x20_1 ∧ Aside0 (skew_isHist.j0 kq x20_1 l0_0 l0_1 = some r) ∧ Aside0 (kq ≤ k) ∧ Aside0 (wc.heap[gb140]? = some (.cells #[(.slice A0_0 l0_0.length c0_0), (.slice A0_1 l0_1.length c0_1)] 39 (0, 0))) ∧ Aside0 (Below w.heap.size w wc))
 case first =>
  have H := HC2.out; clear HC2
  by_cases c4 : (l0_0.length : Int) > 10
  ·rw [if_pos c4] at H; have c4b0 : decide (10 < (l0_0.length : Int)) = true := decide_eq_true c4; have c4b1 : decide (10 < l0_0.length) = true := decide_eq_true (by omega); clear c4
   (first | rw [c4b0] | (simp only [i64_w, i32_w]; rw [c4b0]) | skip)
   have H' := Aa H; clear H; have hcz5_0 : w3.cell? ⟨gb140, 0, none⟩ = some (.slice A0_0 l0_0.length c0_0) := (Bc BK140.out 0).trans rfl; have hcz5_1 : w3.cell? ⟨gb140, 1, none⟩ = some (.slice A0_1 l0_1.length c0_1) := (Bc BK140.out 1).trans rfl; have hfz5_0 := Bf BK140.out 0; have hfz5_1 := Bf BK140.out 1; go_wp2
   go_meet
   case rel => exact ⟨_, (true), (by first | rfl | (simp; done) | (simp [*]; done)), H', ⟨by first | omega | exact Nat.le_refl _⟩, ⟨by (with_reducible repeat (first | refine Kn ?_ _ | refine Kw ?_ | refine Ka ?_ _)); exact BK140.out⟩, ⟨by repeat (first | (with_reducible first | exact HB.out | apply Ba | apply Pn | apply Dn | refine Bz ?_ GE140.out) | exact HB.out)⟩⟩
  ·rw [if_neg c4] at H; have c4b0 : decide (10 < (l0_0.length : Int)) = false := decide_eq_false c4; have c4b1 : decide (10 < l0_0.length) = false := decide_eq_false (by omega); clear c4
   (first | rw [c4b0] | (simp only [i64_w, i32_w]; rw [c4b0]) | skip)
   by_cases c6 : (l0_1.length : Int) > 20
   ·rw [if_pos c6] at H; have c6b0 : decide (20 < (l0_1.length : Int)) = true := decide_eq_true c6; have c6b1 : decide (20 < l0_1.length) = true := decide_eq_true (by omega); clear c6; have H' := Aa H; clear H; have hcz7_0 : w3.cell? ⟨gb140, 0, none⟩ = some (.slice A0_0 l0_0.length c0_0) := (Bc BK140.out 0).trans rfl; have hcz7_1 : w3.cell? ⟨gb140, 1, none⟩ = some (.slice A0_1 l0_1.length c0_1) := (Bc BK140.out 1).trans rfl; have hfz7_0 := Bf BK140.out 0; have hfz7_1 := Bf BK140.out 1; go_wp2
    go_meet
    case rel => exact ⟨_, (true), (by first | rfl | (simp; done) | (simp [*]; done)), H', ⟨by first | omega | exact Nat.le_refl _⟩, ⟨by (with_reducible repeat (first | refine Kn ?_ _ | refine Kw ?_ | refine Ka ?_ _)); exact BK140.out⟩, ⟨by repeat (first | (with_reducible first | exact HB.out | apply Ba | apply Pn | apply Dn | refine Bz ?_ GE140.out) | exact HB.out)⟩⟩
   ·rw [if_neg c6] at H; have c6b0 : decide (20 < (l0_1.length : Int)) = false := decide_eq_false c6; have c6b1 : decide (20 < l0_1.length) = false := decide_eq_false (by omega); clear c6; replace H := Option.bind_eq_some_iff.mp H; obtain ⟨t141, A80, H⟩ := H; replace H : (skew_isHist.j0 k (!t141) l0_0 l0_1) = some r := H; have A8 := Aa A80; clear A80; have H' := Aa H; clear H; have hcz9_0 : w3.cell? ⟨gb140, 0, none⟩ = some (.slice A0_0 l0_0.length c0_0) := (Bc BK140.out 0).trans rfl; have hcz9_1 : w3.cell? ⟨gb140, 1, none⟩ = some (.slice A0_1 l0_1.length c0_1) := (Bc BK140.out 1).trans rfl; have hfz9_0 := Bf BK140.out 0; have hfz9_1 := Bf BK140.out 1
    go_wp2_with (first | (go_at_call 99; (with_reducible refine (skew_all.calls _ _ l0_0 t141 _ ?side1 ?side2 A8.out).mono ?_); (case side1 => repeat (first | exact (Kd.C_below HR0_0.out HB.out) | (with_reducible refine Kd.C_alloc ?_ _) | (with_reducible refine Kd.C_drewN ?_ _) | (with_reducible refine Kd.C_drew ?_))); (case side2 => exact HC0_0.out); rintro e w10 ⟨rfl, hb⟩; have n0_ := Aa (blk_below (g := gb140) (o := .cells #[.slice A0_0 l0_0.length c0_0, .slice A0_1 l0_1.length c0_1] 39 (0, 0)) (by (with_reducible repeat (first | refine Kn ?_ _ | refine Kw ?_ | refine Ka ?_ _)); exact BK140.out) hb); have n1_ := Aa (Bp (by repeat (first | (with_reducible first | exact HB.out | apply Ba | apply Pn | apply Dn | refine Bz ?_ GE140.out) | exact HB.out)) hb); clear BK140; clear HB; have BK140 := n0_; have HB := n1_; clear n0_ n1_; (try clear hb); (try clear hb2); (try clear hk); (try clear hi)))
    go_meet
    case rel => exact ⟨_, (!t141), (by first | rfl | (simp; done) | (simp [*]; done)), H', ⟨by first | omega | exact Nat.le_refl _⟩, ⟨by (with_reducible repeat (first | refine Kn ?_ _ | refine Kw ?_ | refine Ka ?_ _)); exact BK140.out⟩, ⟨by repeat (first | (with_reducible first | exact HB.out | apply Ba | apply Pn | apply Dn | refine Bz ?_ GE140.out) | exact HB.out)⟩⟩
 case rest =>
  clear HC2; try clear p2
  try clear c4
  try clear c4b0
  try clear c4b1
  try clear c6
  try clear c6b0
  try clear c6b1
  try clear c7
  try clear hcz5_0
  try clear hcz5_1
  try clear hcz7_0
  try clear hcz7_1
  try clear hcz9_0
  try clear hcz9_1
  try clear hfz5_0
  try clear hfz5_1
  try clear hfz7_0
  try clear hfz7_1
  try clear hfz9_0
  try clear hfz9_1
  obtain ⟨kq, x20_1, rfl, HA, HJ1, BK140, HB⟩ := hcut
  cases kq with
  | zero => exact absurd HA.out (by simp [skew_isHist.j0])
  | succ kj1 =>
   have H := HA.out; clear HA; simp only [skew_isHist.j0] at H
   by_cases c11 : x20_1 = true
   ·subst c11
    have H1 : (some false) = some r := by rw [if_pos rfl] at H; exact H
    clear H; have H := H1; clear H1; obtain rfl := Option.some.inj H; go_wp2; go_ret; exact ⟨by first | rfl | (simp [errW_none, errW_some] <;> rfl) | (simp [*, errW_none, errW_some] <;> rfl), by repeat (first | (with_reducible first | exact HB.out | apply Ba | apply Pn | apply Dn | refine Bz ?_ GE140.out) | exact HB.out)⟩
   ·replace c11 := Bool.eq_false_iff.mpr c11; subst c11
    have H1 : (skew_isHist.l0 kj1 l0_1 (l0_1.length : Int) 0 l0_0 l0_1) = some r := by rw [if_neg (show ¬ (false = true) by decide)] at H; exact H
    clear H; have H := H1; clear H1; have H' := Aa H; clear H; have hcz12_0 : wc.cell? ⟨gb140, 0, none⟩ = some (.slice A0_0 l0_0.length c0_0) := (Bc BK140.out 0).trans rfl; have hcz12_1 : wc.cell? ⟨gb140, 1, none⟩ = some (.slice A0_1 l0_1.length c0_1) := (Bc BK140.out 1).trans rfl; have hfz12_0 := Bf BK140.out 0; have hfz12_1 := Bf BK140.out 1; go_wp2
    go_loopg [24] kj1 (fun kq v24 w' => ∃ (x24_2 : Int), v24 = .int .i64 x24_2 ∧ Aside0 (skew_isHist.l0 kq l0_1 (l0_1.length : Int) x24_2 l0_0 l0_1 = some r) ∧ Aside0 (kq ≤ kj1) ∧ Aside0 (w'.heap[gb140]? = some (.cells #[(.slice A0_0 l0_0.length c0_0), (.slice A0_1 l0_1.length c0_1)] 39 (0, 0))) ∧ Aside0 (Below w.heap.size w w'))
    case atStart => exact ⟨(0), (by first | rfl | (simp; done) | (simp [*]; done)), H', ⟨Nat.le_refl _⟩, ⟨by (with_reducible repeat (first | refine Kn ?_ _ | refine Kw ?_ | refine Ka ?_ _)); exact BK140.out⟩, ⟨by repeat (first | (with_reducible first | exact HB.out | apply Ba | apply Pn | apply Dn | refine Bz ?_ GE140.out) | exact HB.out)⟩⟩
    case round =>
     clear H'; try clear c1
     try clear p2
     try clear c4
     try clear c4b0
     try clear c4b1
     try clear c6
     try clear c6b0
     try clear c6b1
     try clear c7
     try clear c11
     try clear hcz12_0
     try clear hcz12_1
     try clear hcz5_0
     try clear hcz5_1
     try clear hcz7_0
     try clear hcz7_1
     try clear hcz9_0
     try clear hcz9_1
     try clear hfz12_0
     try clear hfz12_1
     try clear hfz5_0
     try clear hfz5_1
     try clear hfz7_0
     try clear hfz7_1
     try clear hfz9_0
     try clear hfz9_1
     try clear p2
     obtain ⟨x24_2, rfl, HA, HK2, BK140, HB⟩ := hrel
     cases gk with
     | zero => exact absurd HA.out (by simp [skew_isHist.l0])
     | succ k2 =>
      have H := HA.out; clear HA; simp only [skew_isHist.l0] at H
      by_cases c13 : x24_2 < (l0_1.length : Int)
      ·rw [if_pos c13] at H; have c13b0 : decide (x24_2 < (l0_1.length : Int)) = true := decide_eq_true c13; clear c13
       by_cases c14 : 0 ≤ x24_2
       ·rw [if_pos c14] at H; have c14b0 : decide (0 ≤ x24_2) = true := decide_eq_true c14; clear c14
        by_cases c15 : x24_2 < (l0_1.length : Int)
        ·rw [if_pos c15] at H; have c15b0 : decide (x24_2 < (l0_1.length : Int)) = true := decide_eq_true c15; clear c15; replace H := Option.bind_eq_some_iff.mp H; obtain ⟨t144, A160, H⟩ := H; replace H : (if t144 = true then ((skew_within.f ((rd_T86 l0_1 x24_2).f1) 0 (wrap64 ((l0_0.length : Int) - 1))).bind fun t145 => (if t145 = true then (if ((rd_T86 l0_1 x24_2).f0) = ((rd_T86 l0_1 x24_2).f1) then (some false) else (if ((rd_T86 l0_1 x24_2).f2) > ((rd_T86 l0_1 x24_2).f3) then (some false) else (if ((rd_T86 l0_1 x24_2).f2) < (-2000000) then (some false) else (if ((rd_T86 l0_1 x24_2).f3) > 2000000 then (some false) else (skew_isHist.l0 k2 l0_1 (l0_1.length : Int) (wrap64 (x24_2 + 1)) l0_0 l0_1))))) else (some false))) else (some false)) = some r := H; have A16 := Aa A160; clear A160
         by_cases c17 : t144 = true
         ·subst c17
          have H1 : ((skew_within.f ((rd_T86 l0_1 x24_2).f1) 0 (wrap64 ((l0_0.length : Int) - 1))).bind fun t145 => (if t145 = true then (if ((rd_T86 l0_1 x24_2).f0) = ((rd_T86 l0_1 x24_2).f1) then (some false) else (if ((rd_T86 l0_1 x24_2).f2) > ((rd_T86 l0_1 x24_2).f3) then (some false) else (if ((rd_T86 l0_1 x24_2).f2) < (-2000000) then (some false) else (if ((rd_T86 l0_1 x24_2).f3) > 2000000 then (some false) else (skew_isHist.l0 k2 l0_1 (l0_1.length : Int) (wrap64 (x24_2 + 1)) l0_0 l0_1))))) else (some false))) = some r := by rw [if_pos rfl] at H; exact H
          clear H; have H := H1; clear H1; replace H := Option.bind_eq_some_iff.mp H; obtain ⟨t145, A180, H⟩ := H; replace H : (if t145 = true then (if ((rd_T86 l0_1 x24_2).f0) = ((rd_T86 l0_1 x24_2).f1) then (some false) else (if ((rd_T86 l0_1 x24_2).f2) > ((rd_T86 l0_1 x24_2).f3) then (some false) else (if ((rd_T86 l0_1 x24_2).f2) < (-2000000) then (some false) else (if ((rd_T86 l0_1 x24_2).f3) > 2000000 then (some false) else (skew_isHist.l0 k2 l0_1 (l0_1.length : Int) (wrap64 (x24_2 + 1)) l0_0 l0_1))))) else (some false)) = some r := H; have A18 := Aa A180; clear A180
          by_cases c19 : t145 = true
          ·subst c19
           have H1 : (if ((rd_T86 l0_1 x24_2).f0) = ((rd_T86 l0_1 x24_2).f1) then (some false) else (if ((rd_T86 l0_1 x24_2).f2) > ((rd_T86 l0_1 x24_2).f3) then (some false) else (if ((rd_T86 l0_1 x24_2).f2) < (-2000000) then (some false) else (if ((rd_T86 l0_1 x24_2).f3) > 2000000 then (some false) else (skew_isHist.l0 k2 l0_1 (l0_1.length : Int) (wrap64 (x24_2 + 1)) l0_0 l0_1))))) = some r := by rw [if_pos rfl] at H; exact H
           clear H; have H := H1; clear H1
           by_cases c20 : ((rd_T86 l0_1 x24_2).f0) = ((rd_T86 l0_1 x24_2).f1)
           ·rw [if_pos c20] at H; have c20b0 : (((rd_T86 l0_1 x24_2).f0) == ((rd_T86 l0_1 x24_2).f1)) = true := beq_iff_eq.mpr c20; have c20b1 : (((rd_T86 l0_1 x24_2).f0) != ((rd_T86 l0_1 x24_2).f1)) = false := bne_eq_false_iff_eq.mpr c20; clear c20; obtain rfl := Option.some.inj H; have p142 : 0 ≤ (x24_2 : Int) := Od (by first | (with_reducible assumption) | assumption); have q142 : x24_2 < (l0_1.length : Int) := Od (by first | (with_reducible assumption) | assumption); obtain ⟨ad142, e142, hx142_0, hx142_1, hx142_2, hx142_3⟩ := at_T86 HR0_1.out x24_2 p142 q142; cases e142; replace hx142_0 := (HB.out.cell (Wb w _ hx142_0)).trans hx142_0; replace hx142_1 := (HB.out.cell (Wb w _ hx142_1)).trans hx142_1; replace hx142_2 := (HB.out.cell (Wb w _ hx142_2)).trans hx142_2; replace hx142_3 := (HB.out.cell (Wb w _ hx142_3)).trans hx142_3; replace p142 := eq_true p142; replace q142 := eq_true q142
            go_wp2_with (first | ((with_reducible refine gate_dst (N := 4) rfl ?_); (try (refine gate_guard (by rfl) ?_; dsimp only)); refine box_event ?hg (N := 4) ?hd (cs := #[.int .i64 0, .int .i64 0, .int .i64 0, .int .i64 0]) (t := 86) ?hr ?_; (case hd => rfl); (case hg => rfl); (case hr => first | (go_simp; done) | (go_simp; rfl)); intro gb143 hg w21 hbox hb; have n0_ := Aa (blk_below (g := gb140) (o := .cells #[.slice A0_0 l0_0.length c0_0, .slice (some ad142) l0_1.length c0_1] 39 (0, 0)) (by (with_reducible repeat (first | refine Kn ?_ _ | refine Kw ?_ | refine Ka ?_ _)); exact BK140.out) hb); have n1_ := Aa (Bp (by repeat (first | (with_reducible first | exact HB.out | apply Ba | apply Pn | apply Dn | refine Bz ?_ GE140.out) | exact HB.out)) hb); have n2_ := Aa (hbox); have n3_ := Aa ((by rw [hg]; exact (below_size (by repeat (first | (with_reducible first | exact HB.out | apply Ba | apply Pn | apply Dn | refine Bz ?_ GE140.out) | exact HB.out))) : w.heap.size ≤ gb143)); have n4_ := Aa ((by rw [hg]; exact (below_size (by repeat (first | (with_reducible first | exact HB.out | apply Ba | apply Pn | apply Dn | refine Bz ?_ GE140.out) | exact HB.out))) : w.heap.size ≤ gb143)); have n5_ := Aa ((by rw [hg]; exact Nat.ne_of_lt (blk_lt (g := gb140) (o := .cells #[.slice A0_0 l0_0.length c0_0, .slice (some ad142) l0_1.length c0_1] 39 (0, 0)) (by (with_reducible repeat (first | refine Kn ?_ _ | refine Kw ?_ | refine Ka ?_ _)); exact BK140.out)) : gb140 ≠ gb143)); have n6_ := Aa ((by rw [hg]; exact Nat.ne_of_gt (blk_lt (g := gb140) (o := .cells #[.slice A0_0 l0_0.length c0_0, .slice (some ad142) l0_1.length c0_1] 39 (0, 0)) (by (with_reducible repeat (first | refine Kn ?_ _ | refine Kw ?_ | refine Ka ?_ _)); exact BK140.out)) : gb143 ≠ gb140)); clear BK140; clear HB; have BK140 := n0_; have HB := n1_; have BK143 := n2_; have GW143 := n3_; have GE143 := n4_; have NB140_143 := n5_; have NB143_140 := n6_; clear n0_ n1_ n2_ n3_ n4_ n5_ n6_; clear hb hbox hg; have hnb22 := NB143_140.out; have hnc22 := NB140_143.out; have hcz23_0 : w21.cell? ⟨gb143, 0, none⟩ = some (.int .i64 0) := (Bc BK143.out 0).trans rfl; have hcz23_1 : w21.cell? ⟨gb143, 1, none⟩ = some (.int .i64 0) := (Bc BK143.out 1).trans rfl; have hcz23_2 : w21.cell? ⟨gb143, 2, none⟩ = some (.int .i64 0) := (Bc BK143.out 2).trans rfl; have hcz23_3 : w21.cell? ⟨gb143, 3, none⟩ = some (.int .i64 0) := (Bc BK143.out 3).trans rfl; have hfz23_0 := Bf BK143.out 0; have hfz23_1 := Bf BK143.out 1; have hfz23_2 := Bf BK143.out 2; have hfz23_3 := Bf BK143.out 3; have hcz24_0 : w21.cell? ⟨gb140, 0, none⟩ = some (.slice A0_0 l0_0.length c0_0) := (Bc BK140.out 0).trans rfl; have hcz24_1 : w21.cell? ⟨gb140, 1, none⟩ = some (.slice (some ad142) l0_1.length c0_1) := (Bc BK140.out 1).trans rfl; have hfz24_0 := Bf BK140.out 0; have hfz24_1 := Bf BK140.out 1) | ((with_reducible refine gate_callee (f := 68) rfl ?_); refine goesL_ (some 34) rfl rfl Try.func68 (by kernel_rfl) rfl #[.int .i64 ((rd_T86 l0_1 x24_2).f0), .int .i64 0, .int .i64 (wrap64 ((l0_0.length : Int) - 1))] rfl (by (try simp only [List.map_toArray, List.map_cons, List.map_nil]); first | done | rfl | (simp only [List.length_drop, List.length_take]; rfl)) ?_; (with_reducible refine (skew_within.calls ((rd_T86 l0_1 x24_2).f0) 0 (wrap64 ((l0_0.length : Int) - 1)) true _ A16.out).mono ?_); rintro e w' ⟨rfl, ⟨nd, rfl⟩⟩; refine ⟨_, rfl, ?_⟩) | (go_at_call 68; (with_reducible refine (skew_within.calls ((rd_T86 l0_1 x24_2).f1) 0 (wrap64 ((l0_0.length : Int) - 1)) true _ A18.out).mono ?_); rintro e w' ⟨rfl, ⟨nd, rfl⟩⟩))
            go_ret; exact ⟨by first | rfl | (simp [errW_none, errW_some] <;> rfl) | (simp [*, errW_none, errW_some] <;> rfl), by repeat (first | (with_reducible first | exact HB.out | apply Ba | apply Pn | apply Dn | refine Bz ?_ GE140.out | refine Bz ?_ GE143.out) | exact HB.out)⟩
           ·rw [if_neg c20] at H; have c20b0 : (((rd_T86 l0_1 x24_2).f0) == ((rd_T86 l0_1 x24_2).f1)) = false := beq_eq_false_iff_ne.mpr c20; have c20b1 : (((rd_T86 l0_1 x24_2).f0) != ((rd_T86 l0_1 x24_2).f1)) = true := bne_iff_ne.mpr c20
            by_cases c25 : ((rd_T86 l0_1 x24_2).f2) > ((rd_T86 l0_1 x24_2).f3)
            ·rw [if_pos c25] at H; have c25b0 : decide (((rd_T86 l0_1 x24_2).f3) < ((rd_T86 l0_1 x24_2).f2)) = true := decide_eq_true c25; clear c25; obtain rfl := Option.some.inj H; have p142 : 0 ≤ (x24_2 : Int) := Od (by first | (with_reducible assumption) | assumption); have q142 : x24_2 < (l0_1.length : Int) := Od (by first | (with_reducible assumption) | assumption); obtain ⟨ad142, e142, hx142_0, hx142_1, hx142_2, hx142_3⟩ := at_T86 HR0_1.out x24_2 p142 q142; cases e142; replace hx142_0 := (HB.out.cell (Wb w _ hx142_0)).trans hx142_0; replace hx142_1 := (HB.out.cell (Wb w _ hx142_1)).trans hx142_1; replace hx142_2 := (HB.out.cell (Wb w _ hx142_2)).trans hx142_2; replace hx142_3 := (HB.out.cell (Wb w _ hx142_3)).trans hx142_3; replace p142 := eq_true p142; replace q142 := eq_true q142
             go_wp2_with (first | ((with_reducible refine gate_dst (N := 4) rfl ?_); (try (refine gate_guard (by rfl) ?_; dsimp only)); refine box_event ?hg (N := 4) ?hd (cs := #[.int .i64 0, .int .i64 0, .int .i64 0, .int .i64 0]) (t := 86) ?hr ?_; (case hd => rfl); (case hg => rfl); (case hr => first | (go_simp; done) | (go_simp; rfl)); intro gb143 hg w26 hbox hb; have n0_ := Aa (blk_below (g := gb140) (o := .cells #[.slice A0_0 l0_0.length c0_0, .slice (some ad142) l0_1.length c0_1] 39 (0, 0)) (by (with_reducible repeat (first | refine Kn ?_ _ | refine Kw ?_ | refine Ka ?_ _)); exact BK140.out) hb); have n1_ := Aa (Bp (by repeat (first | (with_reducible first | exact HB.out | apply Ba | apply Pn | apply Dn | refine Bz ?_ GE140.out) | exact HB.out)) hb); have n2_ := Aa (hbox); have n3_ := Aa ((by rw [hg]; exact (below_size (by repeat (first | (with_reducible first | exact HB.out | apply Ba | apply Pn | apply Dn | refine Bz ?_ GE140.out) | exact HB.out))) : w.heap.size ≤ gb143)); have n4_ := Aa ((by rw [hg]; exact (below_size (by repeat (first | (with_reducible first | exact HB.out | apply Ba | apply Pn | apply Dn | refine Bz ?_ GE140.out) | exact HB.out))) : w.heap.size ≤ gb143)); have n5_ := Aa ((by rw [hg]; exact Nat.ne_of_lt (blk_lt (g := gb140) (o := .cells #[.slice A0_0 l0_0.length c0_0, .slice (some ad142) l0_1.length c0_1] 39 (0, 0)) (by (with_reducible repeat (first | refine Kn ?_ _ | refine Kw ?_ | refine Ka ?_ _)); exact BK140.out)) : gb140 ≠ gb143)); have n6_ := Aa ((by rw [hg]; exact Nat.ne_of_gt (blk_lt (g := gb140) (o := .cells #[.slice A0_0 l0_0.length c0_0, .slice (some ad142) l0_1.length c0_1] 39 (0, 0)) (by (with_reducible repeat (first | refine Kn ?_ _ | refine Kw ?_ | refine Ka ?_ _)); exact BK140.out)) : gb143 ≠ gb140)); clear BK140; clear HB; have BK140 := n0_; have HB := n1_; have BK143 := n2_; have GW143 := n3_; have GE143 := n4_; have NB140_143 := n5_; have NB143_140 := n6_; clear n0_ n1_ n2_ n3_ n4_ n5_ n6_; clear hb hbox hg; have hnb27 := NB143_140.out; have hnc27 := NB140_143.out; have hcz28_0 : w26.cell? ⟨gb143, 0, none⟩ = some (.int .i64 0) := (Bc BK143.out 0).trans rfl; have hcz28_1 : w26.cell? ⟨gb143, 1, none⟩ = some (.int .i64 0) := (Bc BK143.out 1).trans rfl; have hcz28_2 : w26.cell? ⟨gb143, 2, none⟩ = some (.int .i64 0) := (Bc BK143.out 2).trans rfl; have hcz28_3 : w26.cell? ⟨gb143, 3, none⟩ = some (.int .i64 0) := (Bc BK143.out 3).trans rfl; have hfz28_0 := Bf BK143.out 0; have hfz28_1 := Bf BK143.out 1; have hfz28_2 := Bf BK143.out 2; have hfz28_3 := Bf BK143.out 3; have hcz29_0 : w26.cell? ⟨gb140, 0, none⟩ = some (.slice A0_0 l0_0.length c0_0) := (Bc BK140.out 0).trans rfl; have hcz29_1 : w26.cell? ⟨gb140, 1, none⟩ = some (.slice (some ad142) l0_1.length c0_1) := (Bc BK140.out 1).trans rfl; have hfz29_0 := Bf BK140.out 0; have hfz29_1 := Bf BK140.out 1) | ((with_reducible refine gate_callee (f := 68) rfl ?_); refine goesL_ (some 34) rfl rfl Try.func68 (by kernel_rfl) rfl #[.int .i64 ((rd_T86 l0_1 x24_2).f0), .int .i64 0, .int .i64 (wrap64 ((l0_0.length : Int) - 1))] rfl (by (try simp only [List.map_toArray, List.map_cons, List.map_nil]); first | done | rfl | (simp only [List.length_drop, List.length_take]; rfl)) ?_; (with_reducible refine (skew_within.calls ((rd_T86 l0_1 x24_2).f0) 0 (wrap64 ((l0_0.length : Int) - 1)) true _ A16.out).mono ?_); rintro e w' ⟨rfl, ⟨nd, rfl⟩⟩; refine ⟨_, rfl, ?_⟩) | (go_at_call 68; (with_reducible refine (skew_within.calls ((rd_T86 l0_1 x24_2).f1) 0 (wrap64 ((l0_0.length : Int) - 1)) true _ A18.out).mono ?_); rintro e w' ⟨rfl, ⟨nd, rfl⟩⟩))
             go_ret; exact ⟨by first | rfl | (simp [errW_none, errW_some] <;> rfl) | (simp [*, errW_none, errW_some] <;> rfl), by repeat (first | (with_reducible first | exact HB.out | apply Ba | apply Pn | apply Dn | refine Bz ?_ GE140.out | refine Bz ?_ GE143.out) | exact HB.out)⟩
            ·rw [if_neg c25] at H; have c25b0 : decide (((rd_T86 l0_1 x24_2).f3) < ((rd_T86 l0_1 x24_2).f2)) = false := decide_eq_false c25; clear c25
             by_cases c30 : ((rd_T86 l0_1 x24_2).f2) < (-2000000)
             ·rw [if_pos c30] at H; have c30b0 : decide (((rd_T86 l0_1 x24_2).f2) < (-2000000)) = true := decide_eq_true c30; clear c30; obtain rfl := Option.some.inj H; have p142 : 0 ≤ (x24_2 : Int) := Od (by first | (with_reducible assumption) | assumption); have q142 : x24_2 < (l0_1.length : Int) := Od (by first | (with_reducible assumption) | assumption); obtain ⟨ad142, e142, hx142_0, hx142_1, hx142_2, hx142_3⟩ := at_T86 HR0_1.out x24_2 p142 q142; cases e142; replace hx142_0 := (HB.out.cell (Wb w _ hx142_0)).trans hx142_0; replace hx142_1 := (HB.out.cell (Wb w _ hx142_1)).trans hx142_1; replace hx142_2 := (HB.out.cell (Wb w _ hx142_2)).trans hx142_2; replace hx142_3 := (HB.out.cell (Wb w _ hx142_3)).trans hx142_3; replace p142 := eq_true p142; replace q142 := eq_true q142
              go_wp2_with (first | ((with_reducible refine gate_dst (N := 4) rfl ?_); (try (refine gate_guard (by rfl) ?_; dsimp only)); refine box_event ?hg (N := 4) ?hd (cs := #[.int .i64 0, .int .i64 0, .int .i64 0, .int .i64 0]) (t := 86) ?hr ?_; (case hd => rfl); (case hg => rfl); (case hr => first | (go_simp; done) | (go_simp; rfl)); intro gb143 hg w31 hbox hb; have n0_ := Aa (blk_below (g := gb140) (o := .cells #[.slice A0_0 l0_0.length c0_0, .slice (some ad142) l0_1.length c0_1] 39 (0, 0)) (by (with_reducible repeat (first | refine Kn ?_ _ | refine Kw ?_ | refine Ka ?_ _)); exact BK140.out) hb); have n1_ := Aa (Bp (by repeat (first | (with_reducible first | exact HB.out | apply Ba | apply Pn | apply Dn | refine Bz ?_ GE140.out) | exact HB.out)) hb); have n2_ := Aa (hbox); have n3_ := Aa ((by rw [hg]; exact (below_size (by repeat (first | (with_reducible first | exact HB.out | apply Ba | apply Pn | apply Dn | refine Bz ?_ GE140.out) | exact HB.out))) : w.heap.size ≤ gb143)); have n4_ := Aa ((by rw [hg]; exact (below_size (by repeat (first | (with_reducible first | exact HB.out | apply Ba | apply Pn | apply Dn | refine Bz ?_ GE140.out) | exact HB.out))) : w.heap.size ≤ gb143)); have n5_ := Aa ((by rw [hg]; exact Nat.ne_of_lt (blk_lt (g := gb140) (o := .cells #[.slice A0_0 l0_0.length c0_0, .slice (some ad142) l0_1.length c0_1] 39 (0, 0)) (by (with_reducible repeat (first | refine Kn ?_ _ | refine Kw ?_ | refine Ka ?_ _)); exact BK140.out)) : gb140 ≠ gb143)); have n6_ := Aa ((by rw [hg]; exact Nat.ne_of_gt (blk_lt (g := gb140) (o := .cells #[.slice A0_0 l0_0.length c0_0, .slice (some ad142) l0_1.length c0_1] 39 (0, 0)) (by (with_reducible repeat (first | refine Kn ?_ _ | refine Kw ?_ | refine Ka ?_ _)); exact BK140.out)) : gb143 ≠ gb140)); clear BK140; clear HB; have BK140 := n0_; have HB := n1_; have BK143 := n2_; have GW143 := n3_; have GE143 := n4_; have NB140_143 := n5_; have NB143_140 := n6_; clear n0_ n1_ n2_ n3_ n4_ n5_ n6_; clear hb hbox hg; have hnb32 := NB143_140.out; have hnc32 := NB140_143.out; have hcz33_0 : w31.cell? ⟨gb143, 0, none⟩ = some (.int .i64 0) := (Bc BK143.out 0).trans rfl; have hcz33_1 : w31.cell? ⟨gb143, 1, none⟩ = some (.int .i64 0) := (Bc BK143.out 1).trans rfl; have hcz33_2 : w31.cell? ⟨gb143, 2, none⟩ = some (.int .i64 0) := (Bc BK143.out 2).trans rfl; have hcz33_3 : w31.cell? ⟨gb143, 3, none⟩ = some (.int .i64 0) := (Bc BK143.out 3).trans rfl; have hfz33_0 := Bf BK143.out 0; have hfz33_1 := Bf BK143.out 1; have hfz33_2 := Bf BK143.out 2; have hfz33_3 := Bf BK143.out 3; have hcz34_0 : w31.cell? ⟨gb140, 0, none⟩ = some (.slice A0_0 l0_0.length c0_0) := (Bc BK140.out 0).trans rfl; have hcz34_1 : w31.cell? ⟨gb140, 1, none⟩ = some (.slice (some ad142) l0_1.length c0_1) := (Bc BK140.out 1).trans rfl; have hfz34_0 := Bf BK140.out 0; have hfz34_1 := Bf BK140.out 1) | ((with_reducible refine gate_callee (f := 68) rfl ?_); refine goesL_ (some 34) rfl rfl Try.func68 (by kernel_rfl) rfl #[.int .i64 ((rd_T86 l0_1 x24_2).f0), .int .i64 0, .int .i64 (wrap64 ((l0_0.length : Int) - 1))] rfl (by (try simp only [List.map_toArray, List.map_cons, List.map_nil]); first | done | rfl | (simp only [List.length_drop, List.length_take]; rfl)) ?_; (with_reducible refine (skew_within.calls ((rd_T86 l0_1 x24_2).f0) 0 (wrap64 ((l0_0.length : Int) - 1)) true _ A16.out).mono ?_); rintro e w' ⟨rfl, ⟨nd, rfl⟩⟩; refine ⟨_, rfl, ?_⟩) | (go_at_call 68; (with_reducible refine (skew_within.calls ((rd_T86 l0_1 x24_2).f1) 0 (wrap64 ((l0_0.length : Int) - 1)) true _ A18.out).mono ?_); rintro e w' ⟨rfl, ⟨nd, rfl⟩⟩))
              go_ret; exact ⟨by first | rfl | (simp [errW_none, errW_some] <;> rfl) | (simp [*, errW_none, errW_some] <;> rfl), by repeat (first | (with_reducible first | exact HB.out | apply Ba | apply Pn | apply Dn | refine Bz ?_ GE140.out | refine Bz ?_ GE143.out) | exact HB.out)⟩
             ·rw [if_neg c30] at H; have c30b0 : decide (((rd_T86 l0_1 x24_2).f2) < (-2000000)) = false := decide_eq_false c30; clear c30
              by_cases c35 : ((rd_T86 l0_1 x24_2).f3) > 2000000
              ·rw [if_pos c35] at H; have c35b0 : decide (2000000 < ((rd_T86 l0_1 x24_2).f3)) = true := decide_eq_true c35; clear c35; obtain rfl := Option.some.inj H; have p142 : 0 ≤ (x24_2 : Int) := Od (by first | (with_reducible assumption) | assumption); have q142 : x24_2 < (l0_1.length : Int) := Od (by first | (with_reducible assumption) | assumption); obtain ⟨ad142, e142, hx142_0, hx142_1, hx142_2, hx142_3⟩ := at_T86 HR0_1.out x24_2 p142 q142; cases e142; replace hx142_0 := (HB.out.cell (Wb w _ hx142_0)).trans hx142_0; replace hx142_1 := (HB.out.cell (Wb w _ hx142_1)).trans hx142_1; replace hx142_2 := (HB.out.cell (Wb w _ hx142_2)).trans hx142_2; replace hx142_3 := (HB.out.cell (Wb w _ hx142_3)).trans hx142_3; replace p142 := eq_true p142; replace q142 := eq_true q142
               go_wp2_with (first | ((with_reducible refine gate_dst (N := 4) rfl ?_); (try (refine gate_guard (by rfl) ?_; dsimp only)); refine box_event ?hg (N := 4) ?hd (cs := #[.int .i64 0, .int .i64 0, .int .i64 0, .int .i64 0]) (t := 86) ?hr ?_; (case hd => rfl); (case hg => rfl); (case hr => first | (go_simp; done) | (go_simp; rfl)); intro gb143 hg w36 hbox hb; have n0_ := Aa (blk_below (g := gb140) (o := .cells #[.slice A0_0 l0_0.length c0_0, .slice (some ad142) l0_1.length c0_1] 39 (0, 0)) (by (with_reducible repeat (first | refine Kn ?_ _ | refine Kw ?_ | refine Ka ?_ _)); exact BK140.out) hb); have n1_ := Aa (Bp (by repeat (first | (with_reducible first | exact HB.out | apply Ba | apply Pn | apply Dn | refine Bz ?_ GE140.out) | exact HB.out)) hb); have n2_ := Aa (hbox); have n3_ := Aa ((by rw [hg]; exact (below_size (by repeat (first | (with_reducible first | exact HB.out | apply Ba | apply Pn | apply Dn | refine Bz ?_ GE140.out) | exact HB.out))) : w.heap.size ≤ gb143)); have n4_ := Aa ((by rw [hg]; exact (below_size (by repeat (first | (with_reducible first | exact HB.out | apply Ba | apply Pn | apply Dn | refine Bz ?_ GE140.out) | exact HB.out))) : w.heap.size ≤ gb143)); have n5_ := Aa ((by rw [hg]; exact Nat.ne_of_lt (blk_lt (g := gb140) (o := .cells #[.slice A0_0 l0_0.length c0_0, .slice (some ad142) l0_1.length c0_1] 39 (0, 0)) (by (with_reducible repeat (first | refine Kn ?_ _ | refine Kw ?_ | refine Ka ?_ _)); exact BK140.out)) : gb140 ≠ gb143)); have n6_ := Aa ((by rw [hg]; exact Nat.ne_of_gt (blk_lt (g := gb140) (o := .cells #[.slice A0_0 l0_0.length c0_0, .slice (some ad142) l0_1.length c0_1] 39 (0, 0)) (by (with_reducible repeat (first | refine Kn ?_ _ | refine Kw ?_ | refine Ka ?_ _)); exact BK140.out)) : gb143 ≠ gb140)); clear BK140; clear HB; have BK140 := n0_; have HB := n1_; have BK143 := n2_; have GW143 := n3_; have GE143 := n4_; have NB140_143 := n5_; have NB143_140 := n6_; clear n0_ n1_ n2_ n3_ n4_ n5_ n6_; clear hb hbox hg; have hnb37 := NB143_140.out; have hnc37 := NB140_143.out; have hcz38_0 : w36.cell? ⟨gb143, 0, none⟩ = some (.int .i64 0) := (Bc BK143.out 0).trans rfl; have hcz38_1 : w36.cell? ⟨gb143, 1, none⟩ = some (.int .i64 0) := (Bc BK143.out 1).trans rfl; have hcz38_2 : w36.cell? ⟨gb143, 2, none⟩ = some (.int .i64 0) := (Bc BK143.out 2).trans rfl; have hcz38_3 : w36.cell? ⟨gb143, 3, none⟩ = some (.int .i64 0) := (Bc BK143.out 3).trans rfl; have hfz38_0 := Bf BK143.out 0; have hfz38_1 := Bf BK143.out 1; have hfz38_2 := Bf BK143.out 2; have hfz38_3 := Bf BK143.out 3; have hcz39_0 : w36.cell? ⟨gb140, 0, none⟩ = some (.slice A0_0 l0_0.length c0_0) := (Bc BK140.out 0).trans rfl; have hcz39_1 : w36.cell? ⟨gb140, 1, none⟩ = some (.slice (some ad142) l0_1.length c0_1) := (Bc BK140.out 1).trans rfl; have hfz39_0 := Bf BK140.out 0; have hfz39_1 := Bf BK140.out 1) | ((with_reducible refine gate_callee (f := 68) rfl ?_); refine goesL_ (some 34) rfl rfl Try.func68 (by kernel_rfl) rfl #[.int .i64 ((rd_T86 l0_1 x24_2).f0), .int .i64 0, .int .i64 (wrap64 ((l0_0.length : Int) - 1))] rfl (by (try simp only [List.map_toArray, List.map_cons, List.map_nil]); first | done | rfl | (simp only [List.length_drop, List.length_take]; rfl)) ?_; (with_reducible refine (skew_within.calls ((rd_T86 l0_1 x24_2).f0) 0 (wrap64 ((l0_0.length : Int) - 1)) true _ A16.out).mono ?_); rintro e w' ⟨rfl, ⟨nd, rfl⟩⟩; refine ⟨_, rfl, ?_⟩) | (go_at_call 68; (with_reducible refine (skew_within.calls ((rd_T86 l0_1 x24_2).f1) 0 (wrap64 ((l0_0.length : Int) - 1)) true _ A18.out).mono ?_); rintro e w' ⟨rfl, ⟨nd, rfl⟩⟩))
               go_ret; exact ⟨by first | rfl | (simp [errW_none, errW_some] <;> rfl) | (simp [*, errW_none, errW_some] <;> rfl), by repeat (first | (with_reducible first | exact HB.out | apply Ba | apply Pn | apply Dn | refine Bz ?_ GE140.out | refine Bz ?_ GE143.out) | exact HB.out)⟩
              ·rw [if_neg c35] at H; have c35b0 : decide (2000000 < ((rd_T86 l0_1 x24_2).f3)) = false := decide_eq_false c35; clear c35; have H' := Aa H; clear H; have p142 : 0 ≤ (x24_2 : Int) := Od (by first | (with_reducible assumption) | assumption); have q142 : x24_2 < (l0_1.length : Int) := Od (by first | (with_reducible assumption) | assumption); obtain ⟨ad142, e142, hx142_0, hx142_1, hx142_2, hx142_3⟩ := at_T86 HR0_1.out x24_2 p142 q142; cases e142; replace hx142_0 := (HB.out.cell (Wb w _ hx142_0)).trans hx142_0; replace hx142_1 := (HB.out.cell (Wb w _ hx142_1)).trans hx142_1; replace hx142_2 := (HB.out.cell (Wb w _ hx142_2)).trans hx142_2; replace hx142_3 := (HB.out.cell (Wb w _ hx142_3)).trans hx142_3; replace p142 := eq_true p142; replace q142 := eq_true q142
               go_wp2_with (first | ((with_reducible refine gate_dst (N := 4) rfl ?_); (try (refine gate_guard (by rfl) ?_; dsimp only)); refine box_event ?hg (N := 4) ?hd (cs := #[.int .i64 0, .int .i64 0, .int .i64 0, .int .i64 0]) (t := 86) ?hr ?_; (case hd => rfl); (case hg => rfl); (case hr => first | (go_simp; done) | (go_simp; rfl)); intro gb143 hg w40 hbox hb; have n0_ := Aa (blk_below (g := gb140) (o := .cells #[.slice A0_0 l0_0.length c0_0, .slice (some ad142) l0_1.length c0_1] 39 (0, 0)) (by (with_reducible repeat (first | refine Kn ?_ _ | refine Kw ?_ | refine Ka ?_ _)); exact BK140.out) hb); have n1_ := Aa (Bp (by repeat (first | (with_reducible first | exact HB.out | apply Ba | apply Pn | apply Dn | refine Bz ?_ GE140.out) | exact HB.out)) hb); have n2_ := Aa (hbox); have n3_ := Aa ((by rw [hg]; exact (below_size (by repeat (first | (with_reducible first | exact HB.out | apply Ba | apply Pn | apply Dn | refine Bz ?_ GE140.out) | exact HB.out))) : w.heap.size ≤ gb143)); have n4_ := Aa ((by rw [hg]; exact (below_size (by repeat (first | (with_reducible first | exact HB.out | apply Ba | apply Pn | apply Dn | refine Bz ?_ GE140.out) | exact HB.out))) : w.heap.size ≤ gb143)); have n5_ := Aa ((by rw [hg]; exact Nat.ne_of_lt (blk_lt (g := gb140) (o := .cells #[.slice A0_0 l0_0.length c0_0, .slice (some ad142) l0_1.length c0_1] 39 (0, 0)) (by (with_reducible repeat (first | refine Kn ?_ _ | refine Kw ?_ | refine Ka ?_ _)); exact BK140.out)) : gb140 ≠ gb143)); have n6_ := Aa ((by rw [hg]; exact Nat.ne_of_gt (blk_lt (g := gb140) (o := .cells #[.slice A0_0 l0_0.length c0_0, .slice (some ad142) l0_1.length c0_1] 39 (0, 0)) (by (with_reducible repeat (first | refine Kn ?_ _ | refine Kw ?_ | refine Ka ?_ _)); exact BK140.out)) : gb143 ≠ gb140)); clear BK140; clear HB; have BK140 := n0_; have HB := n1_; have BK143 := n2_; have GW143 := n3_; have GE143 := n4_; have NB140_143 := n5_; have NB143_140 := n6_; clear n0_ n1_ n2_ n3_ n4_ n5_ n6_; clear hb hbox hg; have hnb41 := NB143_140.out; have hnc41 := NB140_143.out; have hcz42_0 : w40.cell? ⟨gb143, 0, none⟩ = some (.int .i64 0) := (Bc BK143.out 0).trans rfl; have hcz42_1 : w40.cell? ⟨gb143, 1, none⟩ = some (.int .i64 0) := (Bc BK143.out 1).trans rfl; have hcz42_2 : w40.cell? ⟨gb143, 2, none⟩ = some (.int .i64 0) := (Bc BK143.out 2).trans rfl; have hcz42_3 : w40.cell? ⟨gb143, 3, none⟩ = some (.int .i64 0) := (Bc BK143.out 3).trans rfl; have hfz42_0 := Bf BK143.out 0; have hfz42_1 := Bf BK143.out 1; have hfz42_2 := Bf BK143.out 2; have hfz42_3 := Bf BK143.out 3; have hcz43_0 : w40.cell? ⟨gb140, 0, none⟩ = some (.slice A0_0 l0_0.length c0_0) := (Bc BK140.out 0).trans rfl; have hcz43_1 : w40.cell? ⟨gb140, 1, none⟩ = some (.slice (some ad142) l0_1.length c0_1) := (Bc BK140.out 1).trans rfl; have hfz43_0 := Bf BK140.out 0; have hfz43_1 := Bf BK140.out 1) | ((with_reducible refine gate_callee (f := 68) rfl ?_); refine goesL_ (some 34) rfl rfl Try.func68 (by kernel_rfl) rfl #[.int .i64 ((rd_T86 l0_1 x24_2).f0), .int .i64 0, .int .i64 (wrap64 ((l0_0.length : Int) - 1))] rfl (by (try simp only [List.map_toArray, List.map_cons, List.map_nil]); first | done | rfl | (simp only [List.length_drop, List.length_take]; rfl)) ?_; (with_reducible refine (skew_within.calls ((rd_T86 l0_1 x24_2).f0) 0 (wrap64 ((l0_0.length : Int) - 1)) true _ A16.out).mono ?_); rintro e w' ⟨rfl, ⟨nd, rfl⟩⟩; refine ⟨_, rfl, ?_⟩) | (go_at_call 68; (with_reducible refine (skew_within.calls ((rd_T86 l0_1 x24_2).f1) 0 (wrap64 ((l0_0.length : Int) - 1)) true _ A18.out).mono ?_); rintro e w' ⟨rfl, ⟨nd, rfl⟩⟩))
               go_roundg k2
               case measure => have := HJ1.out; have := HK2.out; omega
               case rel => exact ⟨(wrap64 (x24_2 + 1)), (by first | rfl | (simp; done) | (simp [*]; done)), H', ⟨by have := HJ1.out; have := HK2.out; omega⟩, ⟨by (with_reducible repeat (first | refine Kn ?_ _ | refine Kw ?_ | refine Ka ?_ _)); refine blk_far ?_ NB140_143.out _; (with_reducible repeat (first | refine Kn ?_ _ | refine Kw ?_ | refine Ka ?_ _)); refine blk_far ?_ NB140_143.out _; (with_reducible repeat (first | refine Kn ?_ _ | refine Kw ?_ | refine Ka ?_ _)); refine blk_far ?_ NB140_143.out _; (with_reducible repeat (first | refine Kn ?_ _ | refine Kw ?_ | refine Ka ?_ _)); refine blk_far ?_ NB140_143.out _; (with_reducible repeat (first | refine Kn ?_ _ | refine Kw ?_ | refine Ka ?_ _)); exact BK140.out⟩, ⟨by repeat (first | (with_reducible first | exact HB.out | apply Ba | apply Pn | apply Dn | refine Bz ?_ GE140.out | refine Bz ?_ GE143.out) | exact HB.out)⟩⟩
          ·replace c19 := Bool.eq_false_iff.mpr c19; subst c19
           have H1 : (some false) = some r := by rw [if_neg (show ¬ (false = true) by decide)] at H; exact H
           clear H; have H := H1; clear H1; obtain rfl := Option.some.inj H; have p142 : 0 ≤ (x24_2 : Int) := Od (by first | (with_reducible assumption) | assumption); have q142 : x24_2 < (l0_1.length : Int) := Od (by first | (with_reducible assumption) | assumption); obtain ⟨ad142, e142, hx142_0, hx142_1, hx142_2, hx142_3⟩ := at_T86 HR0_1.out x24_2 p142 q142; cases e142; replace hx142_0 := (HB.out.cell (Wb w _ hx142_0)).trans hx142_0; replace hx142_1 := (HB.out.cell (Wb w _ hx142_1)).trans hx142_1; replace hx142_2 := (HB.out.cell (Wb w _ hx142_2)).trans hx142_2; replace hx142_3 := (HB.out.cell (Wb w _ hx142_3)).trans hx142_3; replace p142 := eq_true p142; replace q142 := eq_true q142
           go_wp2_with (first | ((with_reducible refine gate_dst (N := 4) rfl ?_); (try (refine gate_guard (by rfl) ?_; dsimp only)); refine box_event ?hg (N := 4) ?hd (cs := #[.int .i64 0, .int .i64 0, .int .i64 0, .int .i64 0]) (t := 86) ?hr ?_; (case hd => rfl); (case hg => rfl); (case hr => first | (go_simp; done) | (go_simp; rfl)); intro gb143 hg w44 hbox hb; have n0_ := Aa (blk_below (g := gb140) (o := .cells #[.slice A0_0 l0_0.length c0_0, .slice (some ad142) l0_1.length c0_1] 39 (0, 0)) (by (with_reducible repeat (first | refine Kn ?_ _ | refine Kw ?_ | refine Ka ?_ _)); exact BK140.out) hb); have n1_ := Aa (Bp (by repeat (first | (with_reducible first | exact HB.out | apply Ba | apply Pn | apply Dn | refine Bz ?_ GE140.out) | exact HB.out)) hb); have n2_ := Aa (hbox); have n3_ := Aa ((by rw [hg]; exact (below_size (by repeat (first | (with_reducible first | exact HB.out | apply Ba | apply Pn | apply Dn | refine Bz ?_ GE140.out) | exact HB.out))) : w.heap.size ≤ gb143)); have n4_ := Aa ((by rw [hg]; exact (below_size (by repeat (first | (with_reducible first | exact HB.out | apply Ba | apply Pn | apply Dn | refine Bz ?_ GE140.out) | exact HB.out))) : w.heap.size ≤ gb143)); have n5_ := Aa ((by rw [hg]; exact Nat.ne_of_lt (blk_lt (g := gb140) (o := .cells #[.slice A0_0 l0_0.length c0_0, .slice (some ad142) l0_1.length c0_1] 39 (0, 0)) (by (with_reducible repeat (first | refine Kn ?_ _ | refine Kw ?_ | refine Ka ?_ _)); exact BK140.out)) : gb140 ≠ gb143)); have n6_ := Aa ((by rw [hg]; exact Nat.ne_of_gt (blk_lt (g := gb140) (o := .cells #[.slice A0_0 l0_0.length c0_0, .slice (some ad142) l0_1.length c0_1] 39 (0, 0)) (by (with_reducible repeat (first | refine Kn ?_ _ | refine Kw ?_ | refine Ka ?_ _)); exact BK140.out)) : gb143 ≠ gb140)); clear BK140; clear HB; have BK140 := n0_; have HB := n1_; have BK143 := n2_; have GW143 := n3_; have GE143 := n4_; have NB140_143 := n5_; have NB143_140 := n6_; clear n0_ n1_ n2_ n3_ n4_ n5_ n6_; clear hb hbox hg; have hnb45 := NB143_140.out; have hnc45 := NB140_143.out; have hcz46_0 : w44.cell? ⟨gb143, 0, none⟩ = some (.int .i64 0) := (Bc BK143.out 0).trans rfl; have hcz46_1 : w44.cell? ⟨gb143, 1, none⟩ = some (.int .i64 0) := (Bc BK143.out 1).trans rfl; have hcz46_2 : w44.cell? ⟨gb143, 2, none⟩ = some (.int .i64 0) := (Bc BK143.out 2).trans rfl; have hcz46_3 : w44.cell? ⟨gb143, 3, none⟩ = some (.int .i64 0) := (Bc BK143.out 3).trans rfl; have hfz46_0 := Bf BK143.out 0; have hfz46_1 := Bf BK143.out 1; have hfz46_2 := Bf BK143.out 2; have hfz46_3 := Bf BK143.out 3; have hcz47_0 : w44.cell? ⟨gb140, 0, none⟩ = some (.slice A0_0 l0_0.length c0_0) := (Bc BK140.out 0).trans rfl; have hcz47_1 : w44.cell? ⟨gb140, 1, none⟩ = some (.slice (some ad142) l0_1.length c0_1) := (Bc BK140.out 1).trans rfl; have hfz47_0 := Bf BK140.out 0; have hfz47_1 := Bf BK140.out 1) | ((with_reducible refine gate_callee (f := 68) rfl ?_); refine goesL_ (some 34) rfl rfl Try.func68 (by kernel_rfl) rfl #[.int .i64 ((rd_T86 l0_1 x24_2).f0), .int .i64 0, .int .i64 (wrap64 ((l0_0.length : Int) - 1))] rfl (by (try simp only [List.map_toArray, List.map_cons, List.map_nil]); first | done | rfl | (simp only [List.length_drop, List.length_take]; rfl)) ?_; (with_reducible refine (skew_within.calls ((rd_T86 l0_1 x24_2).f0) 0 (wrap64 ((l0_0.length : Int) - 1)) true _ A16.out).mono ?_); rintro e w' ⟨rfl, ⟨nd, rfl⟩⟩; refine ⟨_, rfl, ?_⟩) | (go_at_call 68; (with_reducible refine (skew_within.calls ((rd_T86 l0_1 x24_2).f1) 0 (wrap64 ((l0_0.length : Int) - 1)) false _ A18.out).mono ?_); rintro e w' ⟨rfl, ⟨nd, rfl⟩⟩))
           go_ret; exact ⟨by first | rfl | (simp [errW_none, errW_some] <;> rfl) | (simp [*, errW_none, errW_some] <;> rfl), by repeat (first | (with_reducible first | exact HB.out | apply Ba | apply Pn | apply Dn | refine Bz ?_ GE140.out | refine Bz ?_ GE143.out) | exact HB.out)⟩
         ·replace c17 := Bool.eq_false_iff.mpr c17; subst c17
          have H1 : (some false) = some r := by rw [if_neg (show ¬ (false = true) by decide)] at H; exact H
          clear H; have H := H1; clear H1; obtain rfl := Option.some.inj H; have p142 : 0 ≤ (x24_2 : Int) := Od (by first | (with_reducible assumption) | assumption); have q142 : x24_2 < (l0_1.length : Int) := Od (by first | (with_reducible assumption) | assumption); obtain ⟨ad142, e142, hx142_0, hx142_1, hx142_2, hx142_3⟩ := at_T86 HR0_1.out x24_2 p142 q142; cases e142; replace hx142_0 := (HB.out.cell (Wb w _ hx142_0)).trans hx142_0; replace hx142_1 := (HB.out.cell (Wb w _ hx142_1)).trans hx142_1; replace hx142_2 := (HB.out.cell (Wb w _ hx142_2)).trans hx142_2; replace hx142_3 := (HB.out.cell (Wb w _ hx142_3)).trans hx142_3; replace p142 := eq_true p142; replace q142 := eq_true q142
          go_wp2_with (first | ((with_reducible refine gate_dst (N := 4) rfl ?_); (try (refine gate_guard (by rfl) ?_; dsimp only)); refine box_event ?hg (N := 4) ?hd (cs := #[.int .i64 0, .int .i64 0, .int .i64 0, .int .i64 0]) (t := 86) ?hr ?_; (case hd => rfl); (case hg => rfl); (case hr => first | (go_simp; done) | (go_simp; rfl)); intro gb143 hg w48 hbox hb; have n0_ := Aa (blk_below (g := gb140) (o := .cells #[.slice A0_0 l0_0.length c0_0, .slice (some ad142) l0_1.length c0_1] 39 (0, 0)) (by (with_reducible repeat (first | refine Kn ?_ _ | refine Kw ?_ | refine Ka ?_ _)); exact BK140.out) hb); have n1_ := Aa (Bp (by repeat (first | (with_reducible first | exact HB.out | apply Ba | apply Pn | apply Dn | refine Bz ?_ GE140.out) | exact HB.out)) hb); have n2_ := Aa (hbox); have n3_ := Aa ((by rw [hg]; exact (below_size (by repeat (first | (with_reducible first | exact HB.out | apply Ba | apply Pn | apply Dn | refine Bz ?_ GE140.out) | exact HB.out))) : w.heap.size ≤ gb143)); have n4_ := Aa ((by rw [hg]; exact (below_size (by repeat (first | (with_reducible first | exact HB.out | apply Ba | apply Pn | apply Dn | refine Bz ?_ GE140.out) | exact HB.out))) : w.heap.size ≤ gb143)); have n5_ := Aa ((by rw [hg]; exact Nat.ne_of_lt (blk_lt (g := gb140) (o := .cells #[.slice A0_0 l0_0.length c0_0, .slice (some ad142) l0_1.length c0_1] 39 (0, 0)) (by (with_reducible repeat (first | refine Kn ?_ _ | refine Kw ?_ | refine Ka ?_ _)); exact BK140.out)) : gb140 ≠ gb143)); have n6_ := Aa ((by rw [hg]; exact Nat.ne_of_gt (blk_lt (g := gb140) (o := .cells #[.slice A0_0 l0_0.length c0_0, .slice (some ad142) l0_1.length c0_1] 39 (0, 0)) (by (with_reducible repeat (first | refine Kn ?_ _ | refine Kw ?_ | refine Ka ?_ _)); exact BK140.out)) : gb143 ≠ gb140)); clear BK140; clear HB; have BK140 := n0_; have HB := n1_; have BK143 := n2_; have GW143 := n3_; have GE143 := n4_; have NB140_143 := n5_; have NB143_140 := n6_; clear n0_ n1_ n2_ n3_ n4_ n5_ n6_; clear hb hbox hg; have hnb49 := NB143_140.out; have hnc49 := NB140_143.out; have hcz50_0 : w48.cell? ⟨gb143, 0, none⟩ = some (.int .i64 0) := (Bc BK143.out 0).trans rfl; have hcz50_1 : w48.cell? ⟨gb143, 1, none⟩ = some (.int .i64 0) := (Bc BK143.out 1).trans rfl; have hcz50_2 : w48.cell? ⟨gb143, 2, none⟩ = some (.int .i64 0) := (Bc BK143.out 2).trans rfl; have hcz50_3 : w48.cell? ⟨gb143, 3, none⟩ = some (.int .i64 0) := (Bc BK143.out 3).trans rfl; have hfz50_0 := Bf BK143.out 0; have hfz50_1 := Bf BK143.out 1; have hfz50_2 := Bf BK143.out 2; have hfz50_3 := Bf BK143.out 3; have hcz51_0 : w48.cell? ⟨gb140, 0, none⟩ = some (.slice A0_0 l0_0.length c0_0) := (Bc BK140.out 0).trans rfl; have hcz51_1 : w48.cell? ⟨gb140, 1, none⟩ = some (.slice (some ad142) l0_1.length c0_1) := (Bc BK140.out 1).trans rfl; have hfz51_0 := Bf BK140.out 0; have hfz51_1 := Bf BK140.out 1) | ((with_reducible refine gate_callee (f := 68) rfl ?_); refine goesL_ (some 34) rfl rfl Try.func68 (by kernel_rfl) rfl #[.int .i64 ((rd_T86 l0_1 x24_2).f0), .int .i64 0, .int .i64 (wrap64 ((l0_0.length : Int) - 1))] rfl (by (try simp only [List.map_toArray, List.map_cons, List.map_nil]); first | done | rfl | (simp only [List.length_drop, List.length_take]; rfl)) ?_; (with_reducible refine (skew_within.calls ((rd_T86 l0_1 x24_2).f0) 0 (wrap64 ((l0_0.length : Int) - 1)) false _ A16.out).mono ?_); rintro e w' ⟨rfl, ⟨nd, rfl⟩⟩; refine ⟨_, rfl, ?_⟩))
          go_ret; exact ⟨by first | rfl | (simp [errW_none, errW_some] <;> rfl) | (simp [*, errW_none, errW_some] <;> rfl), by repeat (first | (with_reducible first | exact HB.out | apply Ba | apply Pn | apply Dn | refine Bz ?_ GE140.out | refine Bz ?_ GE143.out) | exact HB.out)⟩
        ·rw [if_neg c15] at H; exact absurd H (by simp)
       ·rw [if_neg c14] at H; exact absurd H (by simp)
      ·rw [if_neg c13] at H; have c13b0 : decide (x24_2 < (l0_1.length : Int)) = false := decide_eq_false c13; clear c13; obtain rfl := Option.some.inj H; go_wp2; go_ret; exact ⟨by first | rfl | (simp [errW_none, errW_some] <;> rfl) | (simp [*, errW_none, errW_some] <;> rfl), by repeat (first | (with_reducible first | exact HB.out | apply Ba | apply Pn | apply Dn | refine Bz ?_ GE140.out) | exact HB.out)⟩
end Go.Proofs.Ytobcecgcegoooaa.Sk
namespace Go.Proofs.Ytobcecgcegoooaa.Sk
open Go.RowKit Go.Proofs.YtobcecgcegoooaaW.PrintWords Go.Proofs.YtobcecgcegoooaaW.PrintLast Go.Proofs.YtobcecgcegoooaaW.PrintMore
set_option linter.unusedVariables false
set_option linter.unusedSimpArgs false
def saidL (evs : List S27) (gaps : List S86) : List (Int × S158) :=
 ((List.range evs.length).map fun (i : Nat) => ((i : Int), (⟨10, (i : Int), (rd_T27 evs i).f0, (rd_T27 evs i).f1⟩ : S158))) ++
  (List.range gaps.length).map fun (i : Nat) => ((evs.length : Int) + i, (⟨(rd_T86 gaps i).f0, (rd_T86 gaps i).f1, (rd_T86 gaps i).f2, (rd_T86 gaps i).f3⟩ : S158))
def bindP (om : Int → Bool) (L : List (Int × S158)) : Int → Int → Int := L.foldl (fun B x => if om x.1 = true then B else sayF B x.2) (fillN 11)
def histOk (evs : List S27) (gaps : List S86) : Prop := evs.length ≤ 10 ∧ gaps.length ≤ 20 ∧ ∀ g ∈ gaps, (0 ≤ g.f0 ∧ g.f0 < 11) ∧ 0 ≤ g.f1 ∧ g.f1 < 11
instance (evs : List S27) (gaps : List S86) : Decidable (histOk evs gaps) := by unfold histOk; infer_instance
theorem lift_facts : ∀ L : List (Int × S158), (∀ x ∈ L, (0 ≤ x.1 ∧ x.1 < 100) ∧ (0 ≤ x.2.f0 ∧ x.2.f0 < 11) ∧ 0 ≤ x.2.f1 ∧ x.2.f1 < 11) → ∃ fs : List Fc, fs.map (·.1) = L
 | [], _ => ⟨[], rfl⟩
 | x :: L, h => by
  obtain ⟨fs, hf⟩ := lift_facts L (fun y hy => h y (List.mem_cons_of_mem _ hy)); exact ⟨⟨x, h x List.mem_cons_self⟩ :: fs, by rw [List.map_cons, hf]⟩
theorem rd86_mem' (l : List S86) (i : Nat) (h1 : i < l.length) : rd_T86 l (i : Int) ∈ l := by
 have er : rd_T86 l (i : Int) = l[i] := by simp [rd_T86, rdOf, List.getD_eq_getElem?_getD, h1]
 rw [er]; exact List.getElem_mem h1
theorem facts_ex0 (evs : List S27) (gaps : List S86) (h : histOk evs gaps) : ∃ fs : List Fc, IsFacts evs gaps fs ∧ (∀ om, bindF om fs = bindP om (saidL evs gaps)) ∧ fs.map (·.1) = saidL evs gaps := by
 obtain ⟨h1, h2, h3⟩ := h
 obtain ⟨fs, hf⟩ := lift_facts (saidL evs gaps) (fun x hx => by
  unfold saidL at hx
  rcases List.mem_append.mp hx with hx | hx
  ·obtain ⟨i, hi, rfl⟩ := List.mem_map.mp hx; have := List.mem_range.mp hi; exact ⟨⟨by omega, by show (i : Int) < 100; omega⟩, ⟨by show (0 : Int) ≤ 10; omega, by show (10 : Int) < 11; omega⟩, by show 0 ≤ (i : Int); omega, by show (i : Int) < 11; omega⟩
  ·obtain ⟨i, hi, rfl⟩ := List.mem_map.mp hx; have hi := List.mem_range.mp hi
   exact ⟨⟨by show 0 ≤ (evs.length : Int) + i; omega, by show (evs.length : Int) + i < 100; omega⟩, h3 _ (rd86_mem' gaps i hi)⟩)
 have hlen : fs.length = evs.length + gaps.length := by
  have := congrArg List.length hf; rw [List.length_map] at this; rw [this]; unfold saidL; simp
 have hget : ∀ (k : Nat) (hk : k < fs.length), (fs[k]).1 = (saidL evs gaps)[k]'(by rw [← hf, List.length_map]; exact hk) := by
  intro k hk
  have : (fs.map (·.1))[k]'(by rw [List.length_map]; exact hk) = (fs[k]).1 := by rw [List.getElem_map]
  rw [← this]; simp only [hf]
 refine ⟨fs, ⟨hlen, fun i hi hie => ?_, fun i hi hig => ?_⟩, fun om => ?_, hf⟩
 ·rw [hget i hi]; unfold saidL; rw [List.getElem_append_left (by simp; exact hie)]
  simp
 ·rw [hget _ hi]; unfold saidL; rw [List.getElem_append_right (by simp)]
  simp
 ·unfold bindF bindP; rw [← hf, List.foldl_map]
theorem facts_ex (evs : List S27) (gaps : List S86) (h : histOk evs gaps) : ∃ fs : List Fc, IsFacts evs gaps fs ∧ ∀ om, bindF om fs = bindP om (saidL evs gaps) := by
 obtain ⟨fs, h1, h2, _⟩ := facts_ex0 evs gaps h; exact ⟨fs, h1, h2⟩
theorem sure_calls (b : Nat) (e g : Value) (B : Int → Int → Int) (x y : Int) (w : World) (h : Bd w b e g B) (x0 : 0 ≤ x) (x1 : x < 11) (y0 : 0 ≤ y) (y1 : y < 11) :
  Calls Try.prog 112 #[.pointer (some ⟨b, 0, none⟩), .int .i64 x, .int .i64 y] w fun ee w' => ee = .returned (.bool (decide (B y x < 0))) ∧ w' = w := by
 have c1 := h.at' y x y0 y1 x0 x1
 go_enter Try.func112, Try.ntmps112
 go_wp2; go_ret; exact ⟨rfl, rfl⟩
theorem look_nil (W : World) (k : Int) (h0 : 0 ≤ k) (h1 : k < 100) : (Instr.lookup 114 (.map none) (.int .i64 k) false).run Try.prog W = .ok (.bool false) W := by
 kernel_rfl
def tightR (evs : List S27) (gaps : List S86) : Option (Option (Int → Int → Int) × Int) :=
 (skew_isHist.f 1000 evs gaps).bind fun t => if t = true then
  if histOk evs gaps then match tightenF (bindP (fun _ => false) (saidL evs gaps)) with | some B => some (some B, 0) | none => some (none, 5)
  else none
 else some (none, 2)
def TightPost (ev gv : Value) (R : Option (Int → Int → Int)) (r : Int) (w : World) (e : Ending) (w' : World) : Prop :=
 ∃ p : Option Nat, e = .returned (.tuple #[.pointer (p.map fun b => ⟨b, 0, none⟩), .int .i64 r]) ∧ (∀ B, R = some B → ∃ b, p = some b ∧ w.heap.size ≤ b ∧ Bd w' b ev gv B) ∧ (R = none → r ≠ 0) ∧ (∀ B, R = some B → r = 0) ∧ Below w.heap.size w w'
set_option maxHeartbeats 2000000 in
set_option maxRecDepth 100000 in
theorem tight_calls (A0 A1 : Option Addr) (c0 c1 : Nat) (evs : List S27) (gaps : List S86) (R : Option (Int → Int → Int)) (r : Int) (w : World) (hC0 : Kd.C k27 w A0 evs.length evs) (hc0 : evs.length ≤ c0) (hC1 : Kd.C k86 w A1 gaps.length gaps) (hc1 : gaps.length ≤ c1) (h : tightR evs gaps = some (R, r)) :
  Calls Try.prog 107 #[.agg #[.slice A0 evs.length c0, .slice A1 gaps.length c1]] w fun e w' => TightPost (.slice A0 evs.length c0) (.slice A1 gaps.length c1) R r w e w' := by
 unfold tightR at h; obtain ⟨t, ht, h⟩ := Option.bind_eq_some_iff.mp h; have hb0 := Ba (Below.refl w.heap.size w) (.cells #[.slice A0 evs.length c0, .slice A1 gaps.length c1] 39); have hk0 := blk_new w (.cells #[.slice A0 evs.length c0, .slice A1 gaps.length c1] 39); have HIs := Aa (skew_isHist.calls 1000 A0 c0 evs A1 c1 gaps t _ (Kd.C_below hC0 hb0) hc0 (Kd.C_below hC1 hb0) hc1 ht); have x0 := cell_at hk0 0 (.slice A0 evs.length c0) rfl; have x1 := cell_at hk0 1 (.slice A1 gaps.length c1) rfl; have HB0 := Aa hb0; have HK0 := Aa hk0; clear hb0 hk0 ht
 cases t with
 | false =>
  rw [if_neg (by simp)] at h; simp only [Option.some.injEq, Prod.mk.injEq] at h; obtain ⟨rfl, rfl⟩ := h
  go_enter Try.func107, Try.ntmps107
  go_wp2_with (go_at_call 75; refine HIs.out.mono ?_; rintro e w1 ⟨rfl, hb⟩; have HB1 := Aa (Bp HB0.out hb); clear hb)
  go_ret2
  exact ⟨none, rfl, fun B h => (by cases h), fun _ => (by decide), fun B h => (by cases h), HB1.out⟩
 | true =>
  rw [if_pos rfl] at h
  by_cases hok : histOk evs gaps
  ·rw [if_pos hok] at h; obtain ⟨fs, hfs, hbp⟩ := facts_ex evs gaps hok; have hb2 := hbp (fun _ => false)
   go_enter Try.func107, Try.ntmps107
   go_wp2_with fail
   refine HIs.out.mono ?_; rintro e w1 ⟨rfl, hb⟩; have HB1 := Aa (Bp HB0.out hb); have hk1 := blk_below HK0.out hb; have y0 := cell_at hk1 0 (.slice A0 evs.length c0) rfl; have y1 := cell_at hk1 1 (.slice A1 gaps.length c1) rfl; have HC := Aa (bind_calls A0 A1 c0 c1 evs gaps fs hfs none (fun _ => false) w1 (Kd.C_below hC0 HB1.out) (Kd.C_below hC1 HB1.out) hok.1 hok.2.1 (fun W _ k h0 h1 => look_nil W k h0 h1)); clear hb HIs x0 x1 hk1
   go_wp2_with (go_at_call 76; refine HC.out.mono ?_; rintro e w2 ⟨rfl, hbd, hb⟩; have HBd := Aa hbd; have HB2 := Aa (Bp HB1.out hb); have HT := Aa (tighten_calls _ w1.heap.size _ _ _ _ hbd (by omega)); clear hbd hb HC)
   cases hT : tightenF (bindP (fun _ => false) (saidL evs gaps)) with
   | none =>
    rw [hT] at h; simp only [Option.some.injEq, Prod.mk.injEq] at h; obtain ⟨rfl, rfl⟩ := h; have ht := HT.out; rw [hb2, hT] at ht; have HT2 := Aa ht; clear ht HT hb2 hbp; refine HT2.out.mono ?_; rintro e w3 ⟨rfl, _, hb⟩; have HB3 := Aa (HB2.out.trans (below_weak hb HB1.out.size)); clear hb HT2; go_wp2; go_ret2
    exact ⟨none, rfl, fun B h => (by cases h), fun _ => (by decide), fun B h => (by cases h), HB3.out⟩
   | some B =>
    rw [hT] at h; simp only [Option.some.injEq, Prod.mk.injEq] at h; obtain ⟨rfl, rfl⟩ := h; have ht := HT.out; rw [hb2, hT] at ht; have HT2 := Aa ht; clear ht HT hb2 hbp; refine HT2.out.mono ?_; rintro e w3 ⟨rfl, hbd, hb⟩; have HB3 := Aa (HB2.out.trans (below_weak hb HB1.out.size)); have HD := Aa (hbd B rfl); clear hb HT2 hbd; go_wp2; go_ret2; exact ⟨some (w1.heap.size + 2), rfl, fun B' h => (by cases h; exact ⟨_, rfl, (by have := HB1.out.size; omega), HD.out⟩), fun h => (by cases h), fun _ _ => rfl, HB3.out⟩
  ·rw [if_neg hok] at h; cases h
end Go.Proofs.Ytobcecgcegoooaa.Sk
namespace Go.Proofs.Ytobcecgcegoooaa.Sk
open Go.RowKit Go.Proofs.YtobcecgcegoooaaW.PrintWords Go.Proofs.YtobcecgcegoooaaW.PrintLast Go.Proofs.YtobcecgcegoooaaW.PrintMore
set_option linter.unusedVariables false
set_option linter.unusedSimpArgs false
def idxGo (p : Int → Bool) : List Int → Int → Int
 | x :: l, i => if p x = true then i else idxGo p l (i + 1)
 | [], _ => -1
theorem drop_rdi (l : List Int) (i : Nat) (h1 : i < l.length) : l.drop i = rd l (i : Int) :: l.drop (i + 1) := by
 have er : rd l (i : Int) = l[i] := by simp [rd, List.getD_eq_getElem?_getD, h1]
 rw [List.drop_eq_getElem_cons h1, er]
theorem rdi_mem (l : List Int) (i : Nat) (h1 : i < l.length) : rd l (i : Int) ∈ l := by
 have er : rd l (i : Int) = l[i] := by simp [rd, List.getD_eq_getElem?_getD, h1]
 rw [er]; exact List.getElem_mem h1
set_option maxHeartbeats 2000000 in
set_option maxRecDepth 100000 in
theorem idx114_116 (caps : Array Value) (A0 : Option Addr) (c0 : Nat) (l : List Int) (p : Int → Bool) (w : World) (hr0 : Kd.C (Kd.int .i64) w A0 l.length l) (hl : l.length ≤ 1000) (Inv : World → Prop) (hI : Inv w)
  (hp : ∀ (x : Int) (W : World), x ∈ l → Inv W → Below w.heap.size w W → Calls Try.prog 119 (#[.int .i64 x] ++ caps) W fun e W' => e = .returned (.bool (p x)) ∧ Inv W' ∧ Below W.heap.size W W') :
  Calls Try.prog 118 #[.slice A0 l.length c0, .func (.func 119) #[] caps] w fun e w' => e = .returned (.int .i64 (idxGo p l 0)) ∧ Inv w' ∧ Below w.heap.size w w' := by
 have HR0 := Aa hr0; have HP := Aa hp; have HI := Aa hI; have HL := Aa hl; clear hr0 hp hI hl
 go_enter Try.func118, Try.ntmps118
 go_wp2
 go_loopw [8] (fun v W => ∃ i : Nat, i ≤ l.length ∧ v = .int .i64 (i : Int) ∧ Aside0 (idxGo p (l.drop i) i = idxGo p l 0) ∧ Aside0 (Inv W) ∧ Aside0 (Below w.heap.size w W)) (fun v _ => l.length - (intOf v).toNat)
 case atStart => exact ⟨0, by omega, rfl, ⟨rfl⟩, HI, ⟨Below.refl _ _⟩⟩
 case round =>
  clear HI; obtain ⟨i, hi, rfl, HA, HI, HB⟩ := hrel
  by_cases hlt : (i : Int) < l.length
  ·have hB : Below w.heap.size w wr := HB.out; have hlen := HL.out
   have hi1000 : (i : Int) < 1000 := by omega
   obtain ⟨ad, e1, hx0⟩ := Kd.at_int (Kd.C_below HR0.out hB) (i : Int) (by omega) hlt; cases e1; rw [Int.toNat_natCast] at hx0; have hA := HA.out; rw [drop_rdi l i (by omega)] at hA; simp only [idxGo] at hA
   obtain ⟨x, hx⟩ : ∃ x, rd l (i : Int) = x := ⟨_, rfl⟩
   have hc := HP.out (rd l (i : Int)) wr (rdi_mem l i (by omega)) HI.out hB; rw [hx] at hx0 hA hc; have HBr := Aa hB; clear HA hx HB hB HI hlen
   cases hpx : p x with
   | true =>
    rw [hpx] at hA hc; rw [if_pos rfl] at hA; have HA := Aa hA; have HC := Aa hc; clear hA hc hpx
    go_wp2_with (go_at_call 119; refine HC.out.mono ?_; rintro e w' ⟨rfl, hi, hb⟩; have HI2 := Aa hi; have HB2 := Aa (Bp HBr.out hb); clear hi hb)
    go_ret
    exact ⟨by rw [← HA.out]; rfl, HI2.out, HB2.out⟩
   | false =>
    rw [hpx] at hA hc; rw [if_neg (by simp)] at hA; have HA := Aa hA; have HC := Aa hc; clear hA hc hpx
    go_wp2_with (go_at_call 119; refine HC.out.mono ?_; rintro e w' ⟨rfl, hi, hb⟩; have HI2 := Aa hi; have HB2 := Aa (Bp HBr.out hb); clear hi hb)
    go_roundw
    case rel => exact ⟨i + 1, by omega, by simp, ⟨by rw [← HA.out]; simp⟩, HI2, HB2⟩
    case measure => simp [intOf]; omega
  ·obtain rfl : i = l.length := by omega
   have hA := HA.out; rw [List.drop_length] at hA; simp only [idxGo] at hA; have HA := Aa hA; have HBr := Aa (show Below w.heap.size w wr from HB.out); have HIr := Aa (show Inv wr from HI.out); clear hA HB HI; go_wp2; go_ret; exact ⟨by rw [← HA.out]; rfl, HIr.out, HBr.out⟩
set_option maxHeartbeats 2000000 in
set_option maxRecDepth 100000 in
theorem idx114_118 (caps : Array Value) (A0 : Option Addr) (c0 : Nat) (l : List Int) (p : Int → Bool) (w : World) (hr0 : Kd.C (Kd.int .i64) w A0 l.length l) (hl : l.length ≤ 1000) (Inv : World → Prop) (hI : Inv w)
  (hp : ∀ (x : Int) (W : World), x ∈ l → Inv W → Below w.heap.size w W → Calls Try.prog 121 (#[.int .i64 x] ++ caps) W fun e W' => e = .returned (.bool (p x)) ∧ Inv W' ∧ Below W.heap.size W W') :
  Calls Try.prog 118 #[.slice A0 l.length c0, .func (.func 121) #[] caps] w fun e w' => e = .returned (.int .i64 (idxGo p l 0)) ∧ Inv w' ∧ Below w.heap.size w w' := by
 have HR0 := Aa hr0; have HP := Aa hp; have HI := Aa hI; have HL := Aa hl; clear hr0 hp hI hl
 go_enter Try.func118, Try.ntmps118
 go_wp2
 go_loopw [8] (fun v W => ∃ i : Nat, i ≤ l.length ∧ v = .int .i64 (i : Int) ∧ Aside0 (idxGo p (l.drop i) i = idxGo p l 0) ∧ Aside0 (Inv W) ∧ Aside0 (Below w.heap.size w W)) (fun v _ => l.length - (intOf v).toNat)
 case atStart => exact ⟨0, by omega, rfl, ⟨rfl⟩, HI, ⟨Below.refl _ _⟩⟩
 case round =>
  clear HI; obtain ⟨i, hi, rfl, HA, HI, HB⟩ := hrel
  by_cases hlt : (i : Int) < l.length
  ·have hB : Below w.heap.size w wr := HB.out; have hlen := HL.out
   have hi1000 : (i : Int) < 1000 := by omega
   obtain ⟨ad, e1, hx0⟩ := Kd.at_int (Kd.C_below HR0.out hB) (i : Int) (by omega) hlt; cases e1; rw [Int.toNat_natCast] at hx0; have hA := HA.out; rw [drop_rdi l i (by omega)] at hA; simp only [idxGo] at hA
   obtain ⟨x, hx⟩ : ∃ x, rd l (i : Int) = x := ⟨_, rfl⟩
   have hc := HP.out (rd l (i : Int)) wr (rdi_mem l i (by omega)) HI.out hB; rw [hx] at hx0 hA hc; have HBr := Aa hB; clear HA hx HB hB HI hlen
   cases hpx : p x with
   | true =>
    rw [hpx] at hA hc; rw [if_pos rfl] at hA; have HA := Aa hA; have HC := Aa hc; clear hA hc hpx
    go_wp2_with (go_at_call 121; refine HC.out.mono ?_; rintro e w' ⟨rfl, hi, hb⟩; have HI2 := Aa hi; have HB2 := Aa (Bp HBr.out hb); clear hi hb)
    go_ret
    exact ⟨by rw [← HA.out]; rfl, HI2.out, HB2.out⟩
   | false =>
    rw [hpx] at hA hc; rw [if_neg (by simp)] at hA; have HA := Aa hA; have HC := Aa hc; clear hA hc hpx
    go_wp2_with (go_at_call 121; refine HC.out.mono ?_; rintro e w' ⟨rfl, hi, hb⟩; have HI2 := Aa hi; have HB2 := Aa (Bp HBr.out hb); clear hi hb)
    go_roundw
    case rel => exact ⟨i + 1, by omega, by simp, ⟨by rw [← HA.out]; simp⟩, HI2, HB2⟩
    case measure => simp [intOf]; omega
  ·obtain rfl : i = l.length := by omega
   have hA := HA.out; rw [List.drop_length] at hA; simp only [idxGo] at hA; have HA := Aa hA; have HBr := Aa (show Below w.heap.size w wr from HB.out); have HIr := Aa (show Inv wr from HI.out); clear hA HB HI; go_wp2; go_ret; exact ⟨by rw [← HA.out]; rfl, HIr.out, HBr.out⟩
theorem cl118_calls (b bb yb : Nat) (e g : Value) (B : Int → Int → Int) (x y : Int) (w : World) (h : Bd w b e g B) (hbb : w.heap[bb]? = some (.cells #[.pointer (some ⟨b, 0, none⟩)] 107 (0, 0))) (hyb : w.heap[yb]? = some (.cells #[.int .i64 y] 3 (0, 0))) (x0 : 0 ≤ x) (x1 : x < 11) (y0 : 0 ≤ y) (y1 : y < 11) :
  Calls Try.prog 121 #[.int .i64 x, .pointer (some ⟨bb, 0, none⟩), .pointer (some ⟨yb, 0, none⟩)] w fun ee w' => ee = .returned (.bool (decide (B y x < 0))) ∧ w' = w := by
 have c1 := cell_at hbb 0 (.pointer (some ⟨b, 0, none⟩)) rfl; have c2 := cell_at hyb 0 (.int .i64 y) rfl; have HS := Aa (sure_calls b e g B x y w h x0 x1 y0 y1)
 go_enter Try.func121, Try.ntmps121
 go_wp2_with (go_at_call 112; refine HS.out.mono ?_; rintro ee w' ⟨rfl, rfl⟩)
 go_ret; exact ⟨rfl, rfl⟩
def hasBefore (B : Int → Int → Int) (l : List Int) (y : Int) : Bool := decide (idxGo (fun x => decide (B y x < 0)) l 0 ≥ 0)
theorem cont117_calls (A0 : Option Addr) (c0 : Nat) (l : List Int) (b bb yb : Nat) (e g : Value) (B : Int → Int → Int) (y : Int) (w : World) (hr0 : Kd.C (Kd.int .i64) w A0 l.length l) (hl : l.length ≤ 1000) (hr : ∀ x ∈ l, 0 ≤ x ∧ x < 11) (h : Bd w b e g B)
  (hbb : w.heap[bb]? = some (.cells #[.pointer (some ⟨b, 0, none⟩)] 107 (0, 0))) (hyb : w.heap[yb]? = some (.cells #[.int .i64 y] 3 (0, 0))) (y0 : 0 ≤ y) (y1 : y < 11) :
  Calls Try.prog 120 #[.slice A0 l.length c0, .func (.func 121) #[] #[.pointer (some ⟨bb, 0, none⟩), .pointer (some ⟨yb, 0, none⟩)]] w fun ee w' => ee = .returned (.bool (hasBefore B l y)) ∧ Below w.heap.size w w' := by
 have HC := Aa (idx114_118 #[.pointer (some ⟨bb, 0, none⟩), .pointer (some ⟨yb, 0, none⟩)] A0 c0 l (fun x => decide (B y x < 0)) w hr0 hl (fun _ => True) trivial (fun x W hx _ hB => (cl118_calls b bb yb e g B x y W (h.below hB) (blk_below hbb hB) (blk_below hyb hB) (hr x hx).1 (hr x hx).2 y0 y1).mono fun ee w' ⟨h1, h2⟩ => ⟨h1, trivial, by rw [h2]; exact Below.refl _ _⟩)); clear hr0 hr
 go_enter Try.func120, Try.ntmps120
 go_wp2_with (go_at_call 118; refine HC.out.mono ?_; rintro ee w' ⟨rfl, _, hb⟩; have HB := Aa hb; clear hb)
 go_ret; exact ⟨rfl, HB.out⟩
set_option maxHeartbeats 2000000 in
set_option maxRecDepth 100000 in
theorem cl116_calls (A0 : Option Addr) (c0 : Nat) (l : List Int) (b bb lb : Nat) (e g : Value) (B : Int → Int → Int) (y : Int) (w : World) (hr0 : Kd.C (Kd.int .i64) w A0 l.length l) (hl : l.length ≤ 1000) (hr : ∀ x ∈ l, 0 ≤ x ∧ x < 11) (h : Bd w b e g B)
  (hbb : w.heap[bb]? = some (.cells #[.pointer (some ⟨b, 0, none⟩)] 107 (0, 0))) (hlb : w.heap[lb]? = some (.cells #[.slice A0 l.length c0] 40 (0, 0))) (y0 : 0 ≤ y) (y1 : y < 11) :
  Calls Try.prog 119 #[.int .i64 y, .pointer (some ⟨lb, 0, none⟩), .pointer (some ⟨bb, 0, none⟩)] w fun ee w' => ee = .returned (.bool (!hasBefore B l y)) ∧ Below w.heap.size w w' := by
 have hb0 := Ba (Below.refl w.heap.size w) (.cells #[.int .i64 y] 3); have HC := Aa (cont117_calls A0 c0 l b bb w.heap.size e g B y (w.alloc (.cells #[.int .i64 y] 3)) (Kd.C_below hr0 hb0) hl hr (h.below hb0) (blk_below hbb hb0) (blk_new w _) y0 y1); have HB0 := Aa hb0; have x0 := cell_at (blk_below hlb hb0) 0 (.slice A0 l.length c0) rfl; clear hr0 hr h hbb hlb hb0
 go_enter Try.func119, Try.ntmps119
 go_wp2_with (go_at_call 120; refine HC.out.mono ?_; rintro ee w' ⟨rfl, hb⟩; have HB := Aa (Bp HB0.out hb); clear hb)
 go_ret; exact ⟨rfl, HB.out⟩
end Go.Proofs.Ytobcecgcegoooaa.Sk
namespace Go.Proofs
open Go.Shelf
def Try.lays2_23_ren : Go.Shelf.Ren := ⟨fun | 23 => 122 | n => n, fun | 22 => 40 | 3 => 3 | 4 => 4 | 0 => 0 | n => n, fun | n => n⟩
theorem Try.lays2_23 : Go.Proofs.Lays2.n23 Try.prog Try.lays2_23_ren := {
 mixed := by kernel_rfl
 f23 := Try.func122.trans (congrArg some (by kernel_rfl))
 t0 := Try.underlying0
 a0 := Try.isAgg0
 z0 := Try.sizeOf0
 v0 := Try.zeroValue0
 t3 := Try.underlying3
 a3 := Try.isAgg3
 z3 := Try.sizeOf3
 v3 := Try.zeroValue3
 t4 := Try.underlying4
 a4 := Try.isAgg4
 z4 := Try.sizeOf4
 v4 := Try.zeroValue4
 t22 := Try.underlying40
 a22 := Try.isAgg40
 z22 := Try.sizeOf40
 v22 := Try.zeroValue40
 i3 := by kernel_rfl }
end Go.Proofs
namespace Go.Proofs.Ytobcecgcegoooaa.Sk
open Go.RowKit Go.Shelf Go.Sort Go.Proofs.YtobcecgcegoooaaW.PrintWords Go.Proofs.YtobcecgcegoooaaW.PrintLast Go.Proofs.YtobcecgcegoooaaW.PrintMore
set_option linter.unusedVariables false
set_option linter.unusedSimpArgs false
theorem putRow_block (w : World) (g n : Nat) (d : Array Int) (cur : Array Value) (e : TypeId) (fr : Nat × Nat) (h : w.heap[g]? = some (.cells cur e fr)) : (putRow (Value.int .i64) (Sort.ahead w n) g 0 d).heap[g]? = some (.cells (putCells (Value.int .i64) 0 d cur) e fr) := by
 unfold putRow mapBlock Sort.ahead
 simp [Array.getElem?_modify, h, onCells]
theorem putRow_far (w : World) (g n k : Nat) (d : Array Int) (hk : k ≠ g) : (putRow (Value.int .i64) (Sort.ahead w n) g 0 d).heap[k]? = w.heap[k]? := by
 unfold putRow mapBlock Sort.ahead; simp only [Array.getElem?_modify]; rw [if_neg (fun e => hk e.symm)]
theorem putCells_take (d : List Int) (cur : Array Value) (n : Nat) (hn : n ≤ d.length) (hc : d.length ≤ cur.size) : (putCells (Value.int .i64) 0 d.toArray cur).toList.take n = encs (Value.int .i64) (d.take n) := by
 apply List.ext_getElem?; intro j; rw [List.getElem?_take]
 by_cases hj : j < n
 ·rw [if_pos hj, Array.getElem?_toList]; simp only [putCells, Array.getElem?_mapIdx, encs, List.getElem?_map, List.getElem?_take, if_pos hj]; rw [Array.getElem?_eq_getElem (by omega), Option.map_some, if_pos ⟨by omega, by simp; omega⟩, List.getElem?_eq_getElem (by omega), Option.map_some]
  simp [getElem!_pos, show j < d.length by omega]
 ·rw [if_neg hj, List.getElem?_eq_none (by rw [encs_length]; simp; omega)]
theorem del119 (w : World) (base : Nat) (ok : Nat → Prop) (v : Value) (l : List Int) (k : Nat) (hk : k < l.length) (h : (Kd.int .i64).R 3 w base ok v l) :
  Calls Try.prog 122 #[v, .int .i64 (k : Int), .int .i64 ((k + 1 : Nat) : Int)] w fun e w' => ∃ v', e = .returned v' ∧ (Kd.int .i64).R 3 w' base ok v' (l.take k ++ l.drop (k + 1)) ∧ v'.ownBlock = v.ownBlock ∧ w.grownBy w' v.ownBlock ∧ w'.heap.size = w.heap.size := by
 have hown := Kd.own_of_R (enc := Value.int .i64) (h1 := fun _ => rfl) h; have hok := h.1; obtain ⟨hl, ⟨_, hn⟩ | ⟨g, cap, cur, rfl, hbg, hh, hcap, hmax, hsz, htk⟩⟩ := hown
 ·omega
 ·rw [Nat.mul_one] at hsz htk
  have hcell : ∀ j, j < l.length → cur[j]? = some (.int .i64 (l.getD j 0)) := by
   intro j hj; have h1 := congrArg (·[j]?) htk; simp only [List.getElem?_take, if_pos hj, Array.getElem?_toList] at h1; rw [h1, encs_get (d := 0) l j hj]
  have hH : Holds (Value.int .i64) w g 0 l.toArray := by
   intro j hj
   have hj' : j < l.length := by simpa using hj
   refine ⟨?_, Bf hh _⟩; rw [Nat.zero_add]; refine cell_at hh j _ ?_; rw [hcell j hj']
   simp [hj', List.getD_eq_getElem?_getD]
  have hm : cap ≤ 9223372036854775807 := by simpa [maxLen] using hmax
  have hC := Any.slices_Delete_int_arr Try.lays2_23 g 0 cap k (k + 1) l.toArray w hH (by simpa using hcap) hm (by omega) (by simp; omega); have hf : Try.lays2_23_ren.f 23 = 122 := rfl; rw [hf] at hC; refine Calls.mono (by simpa using hC) ?_; rintro e w' ⟨rfl, q, rfl⟩
  have hsl : (l.take k ++ l.drop (k + 1) ++ List.replicate (k + 1 - k) (0 : Int)).length = l.length := by simp; omega
  have hlen2 : (l.take k ++ l.drop (k + 1)).length = l.length - 1 := by simp; omega
  refine ⟨_, rfl, ?_, rfl, ⟨rfl, rfl, rfl, by simp [Sort.ahead], fun i hi hne => putRow_far w g q i _ (fun e => hne (by subst e; rfl))⟩, by simp [Sort.ahead]⟩; refine Kd.R_of_own (enc := Value.int .i64) (h1 := fun _ => rfl) ?_ (fun k hk => hok k hk); refine ⟨by rw [encs_length, Nat.mul_one], .inr ⟨g, cap, _, ?_, hbg, putRow_block w g q _ cur 3 (0, 0) hh, by omega, hmax, ?_, ?_⟩⟩
  ·rw [hlen2]
  ·simp [putCells]; omega
  ·have hsl' : (l.take k ++ (l.drop (k + 1) ++ [(0 : Int)])).length = l.length := by simp; omega
   have := putCells_take (l.take k ++ (l.drop (k + 1) ++ [(0 : Int)])) cur (l.length - 1) (by omega) (by omega); rw [hlen2, Nat.mul_one, this, ← List.append_assoc, List.take_append_of_le_length (by omega), List.take_of_length_le (by omega)]
end Go.Proofs.Ytobcecgcegoooaa.Sk
namespace Go.Proofs.Ytobcecgcegoooaa.Sk
open Go.RowKit Go.Proofs.YtobcecgcegoooaaW.PrintWords Go.Proofs.YtobcecgcegoooaaW.PrintLast Go.Proofs.YtobcecgcegoooaaW.PrintMore
set_option linter.unusedVariables false
set_option linter.unusedSimpArgs false
def mineGo : List S71 → Int → List Int → List Int
 | [], _, ms => ms
 | d :: l, i, ms => mineGo l (i + 1) (ms.set d.f0.toNat (bits .or .u64 (ms.getD d.f0.toNat 0) (IntKind.u64.wrap (2 ^ i.toNat))))
def mineF (l : List S71) : List Int := mineGo l 0 [0, 0, 0, 0, 0, 0]
theorem drop_rd71' (l : List S71) (i : Int) (h0 : 0 ≤ i) (h1 : i < l.length) : l.drop i.toNat = rd_T71 l i :: l.drop (i + 1).toNat := by
 have hl : i.toNat < l.length := by omega
 have e : (i + 1).toNat = i.toNat + 1 := by omega
 have er : rd_T71 l i = l[i.toNat] := by simp [rd_T71, List.getD_eq_getElem?_getD, hl]
 rw [List.drop_eq_getElem_cons hl, e, er]
theorem rd71_mem' (l : List S71) (i : Int) (h0 : 0 ≤ i) (h1 : i < l.length) : rd_T71 l i ∈ l := by
 have hl : i.toNat < l.length := by omega
 have er : rd_T71 l i = l[i.toNat] := by simp [rd_T71, List.getD_eq_getElem?_getD, hl]
 rw [er]; exact List.getElem_mem hl
def blk6 (a b c d e f : Int) : Obj := .cells #[.int .u64 a, .int .u64 b, .int .u64 c, .int .u64 d, .int .u64 e, .int .u64 f] 123 (0, 0)
set_option maxHeartbeats 4000000 in
set_option maxRecDepth 100000 in
theorem mine_calls (A0 : Option Addr) (c0 : Nat) (l0 : List S71) (w : World) (hr0 : Kd.C k71 w A0 l0.length l0) (hl : l0.length ≤ 40) (hm : ∀ d ∈ l0, 0 ≤ d.f0 ∧ d.f0 ≤ 5) :
  Calls Try.prog 84 #[.slice A0 l0.length c0] w fun e w' => ∃ a b c d f g : Int, e = .returned (.agg #[.int .u64 a, .int .u64 b, .int .u64 c, .int .u64 d, .int .u64 f, .int .u64 g]) ∧ mineF l0 = [a, b, c, d, f, g] ∧ Below w.heap.size w w' := by
 have hu71 := Try.underlying71; have hu119 := Try.underlying123; have HR0 := Aa hr0; have HM := Aa hm; clear hr0 hm
 have k2 : ((w.alloc (blk6 0 0 0 0 0 0)).alloc (blk6 0 0 0 0 0 0)).heap[w.heap.size + 1]? = some (blk6 0 0 0 0 0 0) := by
  have := blk_new (w.alloc (blk6 0 0 0 0 0 0)) (blk6 0 0 0 0 0 0); rwa [World.size_alloc] at this
 have K2 := Aa k2; have K1 := Aa (Ka (blk_new w (blk6 0 0 0 0 0 0)) (blk6 0 0 0 0 0 0)); have KB := Aa (Ba (Ba (Below.refl w.heap.size w) (blk6 0 0 0 0 0 0)) (blk6 0 0 0 0 0 0)); clear k2
 go_enter Try.func84, Try.ntmps84
 go_wp2_with fail
 go_loopw [8] (fun v8 W => ∃ (i a b c d f g : Int), 0 ≤ i ∧ i ≤ l0.length ∧ v8 = .int .i64 i ∧ Aside0 (mineGo (l0.drop i.toNat) i [a, b, c, d, f, g] = mineF l0) ∧ Aside0 (W.heap[w.heap.size + 1]? = some (blk6 a b c d f g)) ∧ Aside0 (W.heap[w.heap.size]? = some (blk6 0 0 0 0 0 0)) ∧ Aside0 (Below w.heap.size w W)) (fun v _ => l0.length - (intOf v).toNat)
 case atStart => exact ⟨0, 0, 0, 0, 0, 0, 0, by omega, by omega, rfl, ⟨rfl⟩, K2, K1, KB⟩
 case round =>
  clear K2 K1 KB; obtain ⟨i, a, b, c, d, f, g, h0, hk, rfl, HA, H2, H1, HB⟩ := hrel
  by_cases hlt : i < l0.length
  ·obtain ⟨ad, e217, hx0, hx1, hx2⟩ := at_T71 (Kd.C_below HR0.out HB.out) i h0 hlt; cases e217; have hA := HA.out; rw [drop_rd71' l0 i h0 hlt] at hA; have hkd := HM.out _ (rd71_mem' l0 i h0 hlt); clear HA
   obtain ⟨x, hx⟩ : ∃ x, rd_T71 l0 i = x := ⟨_, rfl⟩
   rw [hx] at hx0 hx1 hx2 hA hkd; clear hx; obtain ⟨x0, x1, x2⟩ := x; simp only [mineGo] at hA hx0 hx1 hx2 hkd; have HBk := Aa (Ka H2.out (.cells #[.int .i64 x0, .int .i64 x1, .int .i64 x2] 71)); have HBz := Aa (Ka H1.out (.cells #[.int .i64 x0, .int .i64 x1, .int .i64 x2] 71)); have HB2 := Aa (Ba HB.out (.cells #[.int .i64 x0, .int .i64 x1, .int .i64 x2] 71)); have p0 := cell_at (blk_new wr (.cells #[.int .i64 x0, .int .i64 x1, .int .i64 x2] 71)) 0 (.int .i64 x0) rfl; have q0 := cell_at HBk.out 0 (.int .u64 a) rfl; have q1 := cell_at HBk.out 1 (.int .u64 b) rfl; have q2 := cell_at HBk.out 2 (.int .u64 c) rfl; have q3 := cell_at HBk.out 3 (.int .u64 d) rfl; have q4 := cell_at HBk.out 4 (.int .u64 f) rfl; have q5 := cell_at HBk.out 5 (.int .u64 g) rfl
   obtain rfl | rfl | rfl | rfl | rfl | rfl : x0 = 0 ∨ x0 = 1 ∨ x0 = 2 ∨ x0 = 3 ∨ x0 = 4 ∨ x0 = 5 := by omega
   ·have z0 := Bf HBk.out 0
    go_wp2_with fail
    generalize wr.alloc (.cells #[.int .i64 0, .int .i64 x1, .int .i64 x2] 71) = W1 at HBk HBz HB2 p0 q0 q1 q2 q3 q4 q5 z0 ⊢
    go_still_tail 8, (by kernel_rfl)
    (show wpList _ _ _ _ _ W1.drew)
    go_wp2
    go_roundw
    case rel => exact ⟨i + 1, (bits .or .u64 a (IntKind.u64.wrap (2 ^ i.toNat))), b, c, d, f, g, by omega, by omega, rfl, ⟨hA⟩, ⟨blk_put HBk.out 0 _ rfl⟩, ⟨blk_far HBz.out (by omega) _⟩, ⟨Dn (Bz HB2.out (by omega))⟩⟩
    case measure => simp [intOf]; omega
   ·have z0 := Bf HBk.out 1
    go_wp2_with fail
    generalize wr.alloc (.cells #[.int .i64 1, .int .i64 x1, .int .i64 x2] 71) = W1 at HBk HBz HB2 p0 q0 q1 q2 q3 q4 q5 z0 ⊢
    go_still_tail 8, (by kernel_rfl)
    (show wpList _ _ _ _ _ W1.drew)
    go_wp2
    go_roundw
    case rel => exact ⟨i + 1, a, (bits .or .u64 b (IntKind.u64.wrap (2 ^ i.toNat))), c, d, f, g, by omega, by omega, rfl, ⟨hA⟩, ⟨blk_put HBk.out 1 _ rfl⟩, ⟨blk_far HBz.out (by omega) _⟩, ⟨Dn (Bz HB2.out (by omega))⟩⟩
    case measure => simp [intOf]; omega
   ·have z0 := Bf HBk.out 2
    go_wp2_with fail
    generalize wr.alloc (.cells #[.int .i64 2, .int .i64 x1, .int .i64 x2] 71) = W1 at HBk HBz HB2 p0 q0 q1 q2 q3 q4 q5 z0 ⊢
    go_still_tail 8, (by kernel_rfl)
    (show wpList _ _ _ _ _ W1.drew)
    go_wp2
    go_roundw
    case rel => exact ⟨i + 1, a, b, (bits .or .u64 c (IntKind.u64.wrap (2 ^ i.toNat))), d, f, g, by omega, by omega, rfl, ⟨hA⟩, ⟨blk_put HBk.out 2 _ rfl⟩, ⟨blk_far HBz.out (by omega) _⟩, ⟨Dn (Bz HB2.out (by omega))⟩⟩
    case measure => simp [intOf]; omega
   ·have z0 := Bf HBk.out 3
    go_wp2_with fail
    generalize wr.alloc (.cells #[.int .i64 3, .int .i64 x1, .int .i64 x2] 71) = W1 at HBk HBz HB2 p0 q0 q1 q2 q3 q4 q5 z0 ⊢
    go_still_tail 8, (by kernel_rfl)
    (show wpList _ _ _ _ _ W1.drew)
    go_wp2
    go_roundw
    case rel => exact ⟨i + 1, a, b, c, (bits .or .u64 d (IntKind.u64.wrap (2 ^ i.toNat))), f, g, by omega, by omega, rfl, ⟨hA⟩, ⟨blk_put HBk.out 3 _ rfl⟩, ⟨blk_far HBz.out (by omega) _⟩, ⟨Dn (Bz HB2.out (by omega))⟩⟩
    case measure => simp [intOf]; omega
   ·have z0 := Bf HBk.out 4
    go_wp2_with fail
    generalize wr.alloc (.cells #[.int .i64 4, .int .i64 x1, .int .i64 x2] 71) = W1 at HBk HBz HB2 p0 q0 q1 q2 q3 q4 q5 z0 ⊢
    go_still_tail 8, (by kernel_rfl)
    (show wpList _ _ _ _ _ W1.drew)
    go_wp2
    go_roundw
    case rel => exact ⟨i + 1, a, b, c, d, (bits .or .u64 f (IntKind.u64.wrap (2 ^ i.toNat))), g, by omega, by omega, rfl, ⟨hA⟩, ⟨blk_put HBk.out 4 _ rfl⟩, ⟨blk_far HBz.out (by omega) _⟩, ⟨Dn (Bz HB2.out (by omega))⟩⟩
    case measure => simp [intOf]; omega
   ·have z0 := Bf HBk.out 5
    go_wp2_with fail
    generalize wr.alloc (.cells #[.int .i64 5, .int .i64 x1, .int .i64 x2] 71) = W1 at HBk HBz HB2 p0 q0 q1 q2 q3 q4 q5 z0 ⊢
    go_still_tail 8, (by kernel_rfl)
    (show wpList _ _ _ _ _ W1.drew)
    go_wp2
    go_roundw
    case rel => exact ⟨i + 1, a, b, c, d, f, (bits .or .u64 g (IntKind.u64.wrap (2 ^ i.toNat))), by omega, by omega, rfl, ⟨hA⟩, ⟨blk_put HBk.out 5 _ rfl⟩, ⟨blk_far HBz.out (by omega) _⟩, ⟨Dn (Bz HB2.out (by omega))⟩⟩
    case measure => simp [intOf]; omega
  ·have hA := HA.out; rw [List.drop_of_length_le (by omega)] at hA; have HA2 := Aa (show mineF l0 = [a, b, c, d, f, g] from hA.symm); clear hA HA; have q0 := cell_at H2.out 0 (.int .u64 a) rfl; have q1 := cell_at H2.out 1 (.int .u64 b) rfl; have q2 := cell_at H2.out 2 (.int .u64 c) rfl; have q3 := cell_at H2.out 3 (.int .u64 d) rfl; have q4 := cell_at H2.out 4 (.int .u64 f) rfl; have q5 := cell_at H2.out 5 (.int .u64 g) rfl; have s0 := cell_at H1.out 0 (.int .u64 0) rfl; have s1 := cell_at H1.out 1 (.int .u64 0) rfl; have s2 := cell_at H1.out 2 (.int .u64 0) rfl; have s3 := cell_at H1.out 3 (.int .u64 0) rfl; have s4 := cell_at H1.out 4 (.int .u64 0) rfl; have s5 := cell_at H1.out 5 (.int .u64 0) rfl; have z0 := Bf H1.out 0; have z1 := Bf H1.out 1; have z2 := Bf H1.out 2; have z3 := Bf H1.out 3; have z4 := Bf H1.out 4; have z5 := Bf H1.out 5; go_wp2; refine bodyPost_ret (results_cell_row rfl _ _ w.heap.size 123 #[.int .u64 a, .int .u64 b, .int .u64 c, .int .u64 d, .int .u64 f, .int .u64 g] (0, 0) _ rfl (blk_put (cs := #[.int .u64 a, .int .u64 b, .int .u64 c, .int .u64 d, .int .u64 f, .int .u64 0]) (blk_put (cs := #[.int .u64 a, .int .u64 b, .int .u64 c, .int .u64 d, .int .u64 0, .int .u64 0]) (blk_put (cs := #[.int .u64 a, .int .u64 b, .int .u64 c, .int .u64 0, .int .u64 0, .int .u64 0]) (blk_put (cs := #[.int .u64 a, .int .u64 b, .int .u64 0, .int .u64 0, .int .u64 0, .int .u64 0]) (blk_put (cs := #[.int .u64 a, .int .u64 0, .int .u64 0, .int .u64 0, .int .u64 0, .int .u64 0]) (blk_put (cs := #[.int .u64 0, .int .u64 0, .int .u64 0, .int .u64 0, .int .u64 0, .int .u64 0]) H1.out 0 _ rfl) 1 _ rfl) 2 _ rfl) 3 _ rfl) 4 _ rfl) 5 _ rfl) Try.underlying123 rfl (by kernel_rfl)) rfl ?_; exact ⟨a, b, c, d, f, g, rfl, HA2.out, Bz (Bz (Bz (Bz (Bz (Bz HB.out (Nat.le_refl _)) (Nat.le_refl _)) (Nat.le_refl _)) (Nat.le_refl _)) (Nat.le_refl _)) (Nat.le_refl _)⟩
end Go.Proofs.Ytobcecgcegoooaa.Sk
namespace Go.Proofs.Ytobcecgcegoooaa.Sk
open Go.RowKit Go.Proofs.YtobcecgcegoooaaW.PrintWords Go.Proofs.YtobcecgcegoooaaW.PrintLast Go.Proofs.YtobcecgcegoooaaW.PrintMore
set_option linter.unusedVariables false
set_option linter.unusedSimpArgs false
def befGo : List S71 → (Int → Option Int) → Int → List Int
 | [], _, _ => []
 | d :: l, f, i => (f d.f0).getD (-1) :: befGo l (upd f d.f0 i) (i + 1)
def skew_befores.f (l0 : List S71) : Option (List Int) := if (∀ d ∈ l0, -9223372036854775808 ≤ d.f0 ∧ d.f0 ≤ 9223372036854775807) ∧ l0.length < 1000000000 then some (befGo l0 (fun _ => none) 0) else none
theorem drop_rd71 (l : List S71) (i : Int) (h0 : 0 ≤ i) (h1 : i < l.length) : l.drop i.toNat = rd_T71 l i :: l.drop (i + 1).toNat := by
 have hl : i.toNat < l.length := by omega
 have e : (i + 1).toNat = i.toNat + 1 := by omega
 have er : rd_T71 l i = l[i.toNat] := by simp [rd_T71, List.getD_eq_getElem?_getD, hl]
 rw [List.drop_eq_getElem_cons hl, e, er]
theorem rd71_mem (l : List S71) (i : Int) (h0 : 0 ≤ i) (h1 : i < l.length) : rd_T71 l i ∈ l := by
 have hl : i.toNat < l.length := by omega
 have er : rd_T71 l i = l[i.toNat] := by simp [rd_T71, List.getD_eq_getElem?_getD, hl]
 rw [er]; exact List.getElem_mem hl
def befOk (f : Int → Option Int) (i : Int) : Prop := ∀ m x, f m = some x → 0 ≤ x ∧ x < i
theorem befOk_upd {f : Int → Option Int} {i : Int} (h : befOk f i) (h0 : 0 ≤ i) (m : Int) : befOk (upd f m i) (i + 1) := by
 intro k x hk; unfold upd at hk
 split at hk
 ·cases hk; omega
 ·have := h k x hk; omega
set_option maxHeartbeats 4000000 in
set_option maxRecDepth 100000 in
theorem skew_befores.calls (A0 : Option Addr) (c0 : Nat) (l0 : List S71) (r : List Int) (w : World) (hr0 : Kd.C k71 w A0 l0.length l0) (hc0 : l0.length ≤ c0) (h : skew_befores.f l0 = some r) :
  Calls Try.prog 124 #[.slice A0 l0.length c0] w fun e w' => ∃ v0_ : Value, e = .returned v0_ ∧ Kd.R (Kd.int .i64) 3 w' w.heap.size (fun _ => True) v0_ r ∧ Below w.heap.size w w' := by
 have hu71 := Try.underlying71; have hmm := @run_makeMap Try.prog; unfold skew_befores.f at h
 by_cases hc : (∀ d ∈ l0, -9223372036854775808 ≤ d.f0 ∧ d.f0 ≤ 9223372036854775807) ∧ l0.length < 1000000000
 ·rw [if_pos hc] at h; obtain ⟨hk, hl⟩ := hc; have H := Aa (Option.some.inj h); have HR0 := Aa hr0; have HKs := Aa hk; have HL := Aa hl
  have hm : l0.length ≤ 9223372036854775807 := by omega
  clear h hk hr0 hl
  go_enter Try.func124, Try.ntmps124
  go_wp2
  go_loopw [4, 12] (fun v4 v12 W => ∃ (i : Int) (xs : List Int) (f : Int → Option Int), 0 ≤ i ∧ i ≤ l0.length ∧ v12 = .int .i64 i ∧ Aside0 ((xs.length : Int) = i) ∧ Aside0 (befOk f i) ∧ Aside0 (xs ++ befGo (l0.drop i.toNat) f i = r) ∧ Aside0 (MapIs elI W w.heap.size i.toNat f) ∧ Aside0 (Kd.R (Kd.int .i64) 3 W w.heap.size (fun k => k ≠ w.heap.size) v4 xs) ∧ Aside0 (Below w.heap.size w W) ∧ Aside0 (w.heap.size < W.heap.size)) (fun _ v _ => l0.length - (intOf v).toNat)
  case atStart => exact ⟨0, [], fun _ => none, by omega, by omega, rfl, ⟨rfl⟩, ⟨fun _ _ h => by cases h⟩, ⟨H.out⟩, ⟨MapIs.made w⟩, ⟨Kd.R_nil _ _ _ _ _⟩, ⟨Ba (Below.refl _ _) _⟩, ⟨by simp⟩⟩
  case round =>
   obtain ⟨i, xs, f, h0, hk, rfl, HX, HF, HA, HM, HO, HB, HW⟩ := hrel
   by_cases hlt : i < l0.length
   ·obtain ⟨ad, e217, hx0, hx1, hx2⟩ := at_T71 (Kd.C_below HR0.out HB.out) i h0 hlt; cases e217; have hA := HA.out; rw [drop_rd71 l0 i h0 hlt] at hA; have hkd := HKs.out _ (rd71_mem l0 i h0 hlt); clear HA
    obtain ⟨x, hx⟩ : ∃ x, rd_T71 l0 i = x := ⟨_, rfl⟩
    rw [hx] at hx0 hx1 hx2 hA hkd; clear hx; simp only [befGo] at hA; have HKx := Aa (okI_of hkd); clear hkd; have HM2 := Aa (HM.out.alloc (.cells #[.int .i64 x.f0, .int .i64 x.f1, .int .i64 x.f2] 71)); have HBx := Aa (blk_new wr (.cells #[.int .i64 x.f0, .int .i64 x.f1, .int .i64 x.f2] 71)); have HSz := Aa (show w.heap.size < (wr.alloc (.cells #[.int .i64 x.f0, .int .i64 x.f1, .int .i64 x.f2] 71)).heap.size by rw [World.size_alloc]; have := HW.out; omega)
    cases hf : f x.f0 with
    | none =>
     rw [hf] at hA; have HA := Aa hA; have HFx := Aa hf; clear hA hf
     go_wp2_with (first
      | (at_lookup; refine wpList_mapIs_look _ rfl _ _ 170 true rfl Try.underlying170 _ _ f HM2.out rfl x.f0 rfl HKx.out (.tuple #[.int .i64 0, .bool false]) (by rw [HFx.out]; rfl) ?_)
      | (at_builtin; refine Kd.R_append (Kd.int .i64) (w0 := w) w.heap.size rfl (.tmp 26) (.tmp 28) 40 3 (.int .i64 0) 8 rfl Try.underlying40 info3 rfl (by decide) (by decide) u4 xs (-1) [.int .i64 (-1)] (fun k => k ≠ w.heap.size) (fun _ => False) rfl (by rw [World.size_alloc]; rfl) rfl (fun _ hk => hk.elim) (fun k hk => Nat.ne_of_gt (Nat.lt_of_lt_of_le HSz.out hk)) (Kd.R_alloc HO.out _) (Ba HB.out _) (Nat.le_of_lt HSz.out) (by have := HX.out; have := HL.out; omega) ?_; intro v1 w1 ho hb hg hat; have hne := (show some w.heap.size ≠ u4.ownBlock from fun e => HO.out.1 _ e.symm rfl); have HM3 := Aa (HM2.out.kept hg hne); have hbx := blk_grown HBx.out hg (fun e => by have := Kd.R_lt HO.out _ e.symm; omega); have ex0 := cell_at hbx 0 (.int .i64 x.f0) rfl; have HO1 := Aa ho; have HB1 := Aa hb; have HZ1 := Aa (Nat.lt_of_lt_of_le HSz.out hg.size); clear ho hb hg hat hne hbx)
      | (at_mapUpdate; refine wpList_mapIs_store (E := elI) _ rfl _ _ _ 170 rfl Try.underlying170 _ _ f HM3.out (by unfold maxLen; have := HL.out; omega) rfl x.f0 rfl HKx.out i (okI_of (by omega)) rfl ?_; intro w2 hm2 hg2))
     go_roundw
     case rel => exact ⟨i + 1, xs ++ [-1], upd f x.f0 i, by omega, by omega, rfl, ⟨by have := HX.out; simp; omega⟩, ⟨befOk_upd HF.out h0 _⟩, ⟨by have := HA.out; rw [List.append_assoc]; exact this⟩, ⟨by rw [show (i + 1).toNat = i.toNat + 1 by omega]; exact hm2⟩, ⟨Kd.R_grown HO1.out hg2 (fun k hk e => hk (by injection e))⟩, ⟨HB1.out.grown hg2 (Nat.le_of_lt HZ1.out) (fun k hk => by cases hk; exact Nat.le_refl _)⟩, ⟨Nat.lt_of_lt_of_le HZ1.out hg2.size⟩⟩
     case measure => simp [intOf]; omega
    | some q =>
     rw [hf] at hA; have HA := Aa hA; have HFx := Aa hf; clear hA hf
     go_wp2_with (first
      | (at_lookup; refine wpList_mapIs_look _ rfl _ _ 170 true rfl Try.underlying170 _ _ f HM2.out rfl x.f0 rfl HKx.out (.tuple #[.int .i64 q, .bool true]) (by rw [HFx.out]; rfl) ?_)
      | (at_builtin; refine Kd.R_append (Kd.int .i64) (w0 := w) w.heap.size rfl (.tmp 26) (.tmp 28) 40 3 (.int .i64 0) 8 rfl Try.underlying40 info3 rfl (by decide) (by decide) u4 xs q [.int .i64 q] (fun k => k ≠ w.heap.size) (fun _ => False) rfl (by rw [World.size_alloc]; rfl) rfl (fun _ hk => hk.elim) (fun k hk => Nat.ne_of_gt (Nat.lt_of_lt_of_le HSz.out hk)) (Kd.R_alloc HO.out _) (Ba HB.out _) (Nat.le_of_lt HSz.out) (by have := HX.out; have := HL.out; omega) ?_; intro v1 w1 ho hb hg hat; have hne := (show some w.heap.size ≠ u4.ownBlock from fun e => HO.out.1 _ e.symm rfl); have HM3 := Aa (HM2.out.kept hg hne); have hbx := blk_grown HBx.out hg (fun e => by have := Kd.R_lt HO.out _ e.symm; omega); have ex0 := cell_at hbx 0 (.int .i64 x.f0) rfl; have HO1 := Aa ho; have HB1 := Aa hb; have HZ1 := Aa (Nat.lt_of_lt_of_le HSz.out hg.size); clear ho hb hg hat hne hbx)
      | (at_mapUpdate; refine wpList_mapIs_store (E := elI) _ rfl _ _ _ 170 rfl Try.underlying170 _ _ f HM3.out (by unfold maxLen; have := HL.out; omega) rfl x.f0 rfl HKx.out i (okI_of (by omega)) rfl ?_; intro w2 hm2 hg2))
     go_roundw
     case rel => exact ⟨i + 1, xs ++ [q], upd f x.f0 i, by omega, by omega, rfl, ⟨by have := HX.out; simp; omega⟩, ⟨befOk_upd HF.out h0 _⟩, ⟨by have := HA.out; rw [List.append_assoc]; exact this⟩, ⟨by rw [show (i + 1).toNat = i.toNat + 1 by omega]; exact hm2⟩, ⟨Kd.R_grown HO1.out hg2 (fun k hk e => hk (by injection e))⟩, ⟨HB1.out.grown hg2 (Nat.le_of_lt HZ1.out) (fun k hk => by cases hk; exact Nat.le_refl _)⟩, ⟨Nat.lt_of_lt_of_le HZ1.out hg2.size⟩⟩
     case measure => simp [intOf]; omega
   ·have hA := HA.out; rw [List.drop_of_length_le (by omega)] at hA; have HA2 := Aa (show xs = r by rw [← hA]; simp [befGo]); clear hA HA; go_wp2; go_ret; exact ⟨_, rfl, by rw [← HA2.out]; exact Kd.R_mono HO.out (fun _ _ => trivial), HB.out⟩
 ·rw [if_neg hc] at h; cases h
end Go.Proofs.Ytobcecgcegoooaa.Sk

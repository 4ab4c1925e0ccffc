/- The walks of skew.far: the farthest of a number and those of a list. -/
import Derived.Test.YtobcecgcegoooaaGreatCSuS0
import Derived.Test.YtobcecgcegoooaaGreatCSuV0
namespace Go.Proofs.YtobcecgcegoooaaGreat.Sk
open Go.RowKit Go.Proofs.YtobcecgcegoooaaGreatW.PrintWords Go.Proofs.YtobcecgcegoooaaGreatW.PrintLast Go.Proofs.YtobcecgcegoooaaGreatW.PrintMore
set_option linter.unusedVariables false
set_option linter.unusedSimpArgs false
section
attribute [local go_sem] max2_int min2_int max_two min_two
mutual
def skew_isHist.j0 : Nat → Bool → List (S65) → List (S82) → Option (Bool)
 | 0, _, _, _ => none
 | k + 1, x20, x102000, x102001 => if x20 = true then (some false) else (skew_isHist.l0 k x102001 (x102001.length : Int) 0 x102000 x102001)
def skew_isHist.l0 : Nat → List (S82) → Int → Int → List (S65) → List (S82) → Option (Bool)
 | 0, _, _, _, _, _ => none
 | k + 1, x22, x23, x24, x102000, x102001 => if x24 < x23 then (if 0 ≤ x24 then (if x24 < (x22.length : Int) then ((skew_within.f ((rd_T82 x22 x24).f0) 0 (wrap64 ((x102000.length : Int) - 1))).bind fun t105 => (if t105 = true then ((skew_within.f ((rd_T82 x22 x24).f1) 0 (wrap64 ((x102000.length : Int) - 1))).bind fun t106 => (if t106 = true then (if ((rd_T82 x22 x24).f0) = ((rd_T82 x22 x24).f1) then (some false) else (if ((rd_T82 x22 x24).f2) > ((rd_T82 x22 x24).f3) then (some false) else (if ((rd_T82 x22 x24).f2) < (-2000000) then (some false) else (if ((rd_T82 x22 x24).f3) > 2000000 then (some false) else (skew_isHist.l0 k x22 x23 (wrap64 (x24 + 1)) x102000 x102001))))) else (some false))) else (some false))) else (none)) else (none)) else (some true)
end
def skew_isHist.f (k : Nat) (l0_0 : List (S65)) (l0_1 : List (S82)) : Option (Bool) := if (l0_0.length : Int) > 10 then (skew_isHist.j0 k true l0_0 l0_1) else (if (l0_1.length : Int) > 20 then (skew_isHist.j0 k true l0_0 l0_1) else ((skew_all.f l0_0).bind fun t102 => (skew_isHist.j0 k (!t102) l0_0 l0_1)))
set_option maxHeartbeats 8000000 in
set_option maxRecDepth 100000 in
theorem skew_isHist.calls (k : Nat) (A0_0 : Option Addr) (c0_0 : Nat) (l0_0 : List (S65)) (A0_1 : Option Addr) (c0_1 : Nat) (l0_1 : List (S82)) (r : Bool) (w : World) (hr0_0 : Kd.C k65 w A0_0 l0_0.length l0_0) (hc0_0 : l0_0.length ≤ c0_0) (hr0_1 : Kd.C k82 w A0_1 l0_1.length l0_1) (hc0_1 : l0_1.length ≤ c0_1) (h : skew_isHist.f k l0_0 l0_1 = some r) :
  Calls Tryz.prog 12 #[.agg #[.slice A0_0 l0_0.length c0_0, .slice A0_1 l0_1.length c0_1]] w fun e w' => e = .returned (.bool r) ∧ Below w.heap.size w w' := by
 have hu25 := Tryz.underlying25; have hu82 := Tryz.underlying82; have HR0_0 := Aa hr0_0; have HC0_0 := Aa hc0_0; clear hr0_0 hc0_0; have HR0_1 := Aa hr0_1; have HC0_1 := Aa hc0_1; clear hr0_1 hc0_1; have HB := Aa (Below.refl w.heap.size w); have H : (if (l0_0.length : Int) > 10 then (skew_isHist.j0 k true l0_0 l0_1) else (if (l0_1.length : Int) > 20 then (skew_isHist.j0 k true l0_0 l0_1) else ((skew_all.f l0_0).bind fun t102 => (skew_isHist.j0 k (!t102) l0_0 l0_1)))) = some r := h; clear h; have HC2 := Aa H; clear H
 go_enter Tryz.func12, Tryz.ntmps12
 go_upto_region 1 with (first | ((with_reducible refine gate_dst (N := 1) rfl ?_); (try (refine gate_guard (by rfl) ?_; dsimp only)); refine box_event ?hg (N := 1) ?hd (cs := #[.slice A0_0 l0_0.length c0_0, .slice A0_1 l0_1.length c0_1]) (t := 25) ?hr ?_; (case hd => rfl); (case hg => rfl); (case hr => first | (go_simp; done) | (go_simp; rfl)); intro gb101 hg w3 hbox hb; have n0_ := Aa (Bp (by repeat (first | (with_reducible first | exact HB.out | apply Ba | apply Pn | apply Dn) | exact HB.out)) hb); have n1_ := Aa (hbox); have n2_ := Aa ((by rw [hg]; exact (below_size (by repeat (first | (with_reducible first | exact HB.out | apply Ba | apply Pn | apply Dn) | exact HB.out))) : w.heap.size ≤ gb101)); have n3_ := Aa ((by rw [hg]; exact (below_size (by repeat (first | (with_reducible first | exact HB.out | apply Ba | apply Pn | apply Dn) | exact HB.out))) : w.heap.size ≤ gb101)); clear HB; have HB := n0_; have BK101 := n1_; have GW101 := n2_; have GE101 := n3_; clear n0_ n1_ n2_ n3_; clear hb hbox hg))
 (try simp only [Act.put, Sa, Sb, Sc])
 go_cut [20] (fun v20 wc => ∃ (kq : Nat) (x20_1 : Bool), v20 = .bool x20_1 ∧ Aside0 (skew_isHist.j0 kq x20_1 l0_0 l0_1 = some r) ∧ Aside0 (kq ≤ k) ∧ Aside0 (wc.heap[gb101]? = some (.cells #[(.slice A0_0 l0_0.length c0_0), (.slice A0_1 l0_1.length c0_1)] 25 (0, 0))) ∧ Aside0 (Below w.heap.size w wc))
 case first =>
  have H := HC2.out; clear HC2
  by_cases c4 : (l0_0.length : Int) > 10
  ·rw [if_pos c4] at H; have c4b0 : decide (10 < (l0_0.length : Int)) = true := decide_eq_true c4; have c4b1 : decide (10 < l0_0.length) = true := decide_eq_true (by omega); clear c4
   (first | rw [c4b0] | (simp only [i64_w, i32_w]; rw [c4b0]) | skip)
   have H' := Aa H; clear H; have hcz5_0 : w3.cell? ⟨gb101, 0, none⟩ = some (.slice A0_0 l0_0.length c0_0) := (Bc BK101.out 0).trans rfl; have hcz5_1 : w3.cell? ⟨gb101, 1, none⟩ = some (.slice A0_1 l0_1.length c0_1) := (Bc BK101.out 1).trans rfl; have hfz5_0 := Bf BK101.out 0; have hfz5_1 := Bf BK101.out 1; go_wp2
   go_meet
   case rel => exact ⟨_, (true), (by first | rfl | (simp; done) | (simp [*]; done)), H', ⟨by first | omega | exact Nat.le_refl _⟩, ⟨by (with_reducible repeat (first | refine Kn ?_ _ | refine Kw ?_ | refine Ka ?_ _)); exact BK101.out⟩, ⟨by repeat (first | (with_reducible first | exact HB.out | apply Ba | apply Pn | apply Dn | refine Bz ?_ GE101.out) | exact HB.out)⟩⟩
  ·rw [if_neg c4] at H; have c4b0 : decide (10 < (l0_0.length : Int)) = false := decide_eq_false c4; have c4b1 : decide (10 < l0_0.length) = false := decide_eq_false (by omega); clear c4
   (first | rw [c4b0] | (simp only [i64_w, i32_w]; rw [c4b0]) | skip)
   by_cases c6 : (l0_1.length : Int) > 20
   ·rw [if_pos c6] at H; have c6b0 : decide (20 < (l0_1.length : Int)) = true := decide_eq_true c6; have c6b1 : decide (20 < l0_1.length) = true := decide_eq_true (by omega); clear c6; have H' := Aa H; clear H; have hcz7_0 : w3.cell? ⟨gb101, 0, none⟩ = some (.slice A0_0 l0_0.length c0_0) := (Bc BK101.out 0).trans rfl; have hcz7_1 : w3.cell? ⟨gb101, 1, none⟩ = some (.slice A0_1 l0_1.length c0_1) := (Bc BK101.out 1).trans rfl; have hfz7_0 := Bf BK101.out 0; have hfz7_1 := Bf BK101.out 1; go_wp2
    go_meet
    case rel => exact ⟨_, (true), (by first | rfl | (simp; done) | (simp [*]; done)), H', ⟨by first | omega | exact Nat.le_refl _⟩, ⟨by (with_reducible repeat (first | refine Kn ?_ _ | refine Kw ?_ | refine Ka ?_ _)); exact BK101.out⟩, ⟨by repeat (first | (with_reducible first | exact HB.out | apply Ba | apply Pn | apply Dn | refine Bz ?_ GE101.out) | exact HB.out)⟩⟩
   ·rw [if_neg c6] at H; have c6b0 : decide (20 < (l0_1.length : Int)) = false := decide_eq_false c6; have c6b1 : decide (20 < l0_1.length) = false := decide_eq_false (by omega); clear c6; replace H := Option.bind_eq_some_iff.mp H; obtain ⟨t102, A80, H⟩ := H; replace H : (skew_isHist.j0 k (!t102) l0_0 l0_1) = some r := H; have A8 := Aa A80; clear A80; have H' := Aa H; clear H; have hcz9_0 : w3.cell? ⟨gb101, 0, none⟩ = some (.slice A0_0 l0_0.length c0_0) := (Bc BK101.out 0).trans rfl; have hcz9_1 : w3.cell? ⟨gb101, 1, none⟩ = some (.slice A0_1 l0_1.length c0_1) := (Bc BK101.out 1).trans rfl; have hfz9_0 := Bf BK101.out 0; have hfz9_1 := Bf BK101.out 1
    go_wp2_with (first | (go_at_call 47; (with_reducible refine (skew_all.calls _ _ l0_0 t102 _ ?side1 ?side2 A8.out).mono ?_); (case side1 => repeat (first | exact (Kd.C_below HR0_0.out HB.out) | (with_reducible refine Kd.C_alloc ?_ _) | (with_reducible refine Kd.C_drewN ?_ _) | (with_reducible refine Kd.C_drew ?_))); (case side2 => exact HC0_0.out); rintro e w10 ⟨rfl, hb⟩; have n0_ := Aa (blk_below (g := gb101) (o := .cells #[.slice A0_0 l0_0.length c0_0, .slice A0_1 l0_1.length c0_1] 25 (0, 0)) (by (with_reducible repeat (first | refine Kn ?_ _ | refine Kw ?_ | refine Ka ?_ _)); exact BK101.out) hb); have n1_ := Aa (Bp (by repeat (first | (with_reducible first | exact HB.out | apply Ba | apply Pn | apply Dn | refine Bz ?_ GE101.out) | exact HB.out)) hb); clear BK101; clear HB; have BK101 := n0_; have HB := n1_; clear n0_ n1_; (try clear hb); (try clear hb2); (try clear hk); (try clear hi)))
    go_meet
    case rel => exact ⟨_, (!t102), (by first | rfl | (simp; done) | (simp [*]; done)), H', ⟨by first | omega | exact Nat.le_refl _⟩, ⟨by (with_reducible repeat (first | refine Kn ?_ _ | refine Kw ?_ | refine Ka ?_ _)); exact BK101.out⟩, ⟨by repeat (first | (with_reducible first | exact HB.out | apply Ba | apply Pn | apply Dn | refine Bz ?_ GE101.out) | exact HB.out)⟩⟩
 case rest =>
  clear HC2; try clear c1
  try clear p2
  try clear c4
  try clear c4b0
  try clear c4b1
  try clear c6
  try clear c6b0
  try clear c6b1
  try clear hcz5_0
  try clear hcz5_1
  try clear hcz7_0
  try clear hcz7_1
  try clear hcz9_0
  try clear hcz9_1
  try clear hfz5_0
  try clear hfz5_1
  try clear hfz7_0
  try clear hfz7_1
  try clear hfz9_0
  try clear hfz9_1
  obtain ⟨kq, x20_1, rfl, HA, HJ1, BK101, HB⟩ := hcut
  cases kq with
  | zero => exact absurd HA.out (by simp [skew_isHist.j0])
  | succ kj1 =>
   have H := HA.out; clear HA; simp only [skew_isHist.j0] at H
   by_cases c11 : x20_1 = true
   ·subst c11
    have H1 : (some false) = some r := by rw [if_pos rfl] at H; exact H
    clear H; have H := H1; clear H1; obtain rfl := Option.some.inj H; go_wp2; go_ret; exact ⟨by first | rfl | (simp [errW_none, errW_some] <;> rfl) | (simp [*, errW_none, errW_some] <;> rfl), by repeat (first | (with_reducible first | exact HB.out | apply Ba | apply Pn | apply Dn | refine Bz ?_ GE101.out) | exact HB.out)⟩
   ·replace c11 := Bool.eq_false_iff.mpr c11; subst c11
    have H1 : (skew_isHist.l0 kj1 l0_1 (l0_1.length : Int) 0 l0_0 l0_1) = some r := by rw [if_neg (show ¬ (false = true) by decide)] at H; exact H
    clear H; have H := H1; clear H1; have H' := Aa H; clear H; have hcz12_0 : wc.cell? ⟨gb101, 0, none⟩ = some (.slice A0_0 l0_0.length c0_0) := (Bc BK101.out 0).trans rfl; have hcz12_1 : wc.cell? ⟨gb101, 1, none⟩ = some (.slice A0_1 l0_1.length c0_1) := (Bc BK101.out 1).trans rfl; have hfz12_0 := Bf BK101.out 0; have hfz12_1 := Bf BK101.out 1; go_wp2
    go_loopg [24] kj1 (fun kq v24 w' => ∃ (x24_2 : Int), v24 = .int .i64 x24_2 ∧ Aside0 (skew_isHist.l0 kq l0_1 (l0_1.length : Int) x24_2 l0_0 l0_1 = some r) ∧ Aside0 (kq ≤ kj1) ∧ Aside0 (w'.heap[gb101]? = some (.cells #[(.slice A0_0 l0_0.length c0_0), (.slice A0_1 l0_1.length c0_1)] 25 (0, 0))) ∧ Aside0 (Below w.heap.size w w'))
    case atStart => exact ⟨(0), (by first | rfl | (simp; done) | (simp [*]; done)), H', ⟨Nat.le_refl _⟩, ⟨by (with_reducible repeat (first | refine Kn ?_ _ | refine Kw ?_ | refine Ka ?_ _)); exact BK101.out⟩, ⟨by repeat (first | (with_reducible first | exact HB.out | apply Ba | apply Pn | apply Dn | refine Bz ?_ GE101.out) | exact HB.out)⟩⟩
    case round =>
     clear H'; try clear c1
     try clear p2
     try clear c4
     try clear c4b0
     try clear c4b1
     try clear c6
     try clear c6b0
     try clear c6b1
     try clear c11
     try clear c12
     try clear hcz12_0
     try clear hcz12_1
     try clear hcz5_0
     try clear hcz5_1
     try clear hcz7_0
     try clear hcz7_1
     try clear hcz9_0
     try clear hcz9_1
     try clear hfz12_0
     try clear hfz12_1
     try clear hfz5_0
     try clear hfz5_1
     try clear hfz7_0
     try clear hfz7_1
     try clear hfz9_0
     try clear hfz9_1
     try clear p2
     obtain ⟨x24_2, rfl, HA, HK2, BK101, HB⟩ := hrel
     cases gk with
     | zero => exact absurd HA.out (by simp [skew_isHist.l0])
     | succ k2 =>
      have H := HA.out; clear HA; simp only [skew_isHist.l0] at H
      by_cases c13 : x24_2 < (l0_1.length : Int)
      ·rw [if_pos c13] at H; have c13b0 : decide (x24_2 < (l0_1.length : Int)) = true := decide_eq_true c13; clear c13
       by_cases c14 : 0 ≤ x24_2
       ·rw [if_pos c14] at H; have c14b0 : decide (0 ≤ x24_2) = true := decide_eq_true c14; clear c14
        by_cases c15 : x24_2 < (l0_1.length : Int)
        ·rw [if_pos c15] at H; have c15b0 : decide (x24_2 < (l0_1.length : Int)) = true := decide_eq_true c15; clear c15; replace H := Option.bind_eq_some_iff.mp H; obtain ⟨t105, A160, H⟩ := H; replace H : (if t105 = true then ((skew_within.f ((rd_T82 l0_1 x24_2).f1) 0 (wrap64 ((l0_0.length : Int) - 1))).bind fun t106 => (if t106 = true then (if ((rd_T82 l0_1 x24_2).f0) = ((rd_T82 l0_1 x24_2).f1) then (some false) else (if ((rd_T82 l0_1 x24_2).f2) > ((rd_T82 l0_1 x24_2).f3) then (some false) else (if ((rd_T82 l0_1 x24_2).f2) < (-2000000) then (some false) else (if ((rd_T82 l0_1 x24_2).f3) > 2000000 then (some false) else (skew_isHist.l0 k2 l0_1 (l0_1.length : Int) (wrap64 (x24_2 + 1)) l0_0 l0_1))))) else (some false))) else (some false)) = some r := H; have A16 := Aa A160; clear A160
         by_cases c17 : t105 = true
         ·subst c17
          have H1 : ((skew_within.f ((rd_T82 l0_1 x24_2).f1) 0 (wrap64 ((l0_0.length : Int) - 1))).bind fun t106 => (if t106 = true then (if ((rd_T82 l0_1 x24_2).f0) = ((rd_T82 l0_1 x24_2).f1) then (some false) else (if ((rd_T82 l0_1 x24_2).f2) > ((rd_T82 l0_1 x24_2).f3) then (some false) else (if ((rd_T82 l0_1 x24_2).f2) < (-2000000) then (some false) else (if ((rd_T82 l0_1 x24_2).f3) > 2000000 then (some false) else (skew_isHist.l0 k2 l0_1 (l0_1.length : Int) (wrap64 (x24_2 + 1)) l0_0 l0_1))))) else (some false))) = some r := by rw [if_pos rfl] at H; exact H
          clear H; have H := H1; clear H1; replace H := Option.bind_eq_some_iff.mp H; obtain ⟨t106, A180, H⟩ := H; replace H : (if t106 = true then (if ((rd_T82 l0_1 x24_2).f0) = ((rd_T82 l0_1 x24_2).f1) then (some false) else (if ((rd_T82 l0_1 x24_2).f2) > ((rd_T82 l0_1 x24_2).f3) then (some false) else (if ((rd_T82 l0_1 x24_2).f2) < (-2000000) then (some false) else (if ((rd_T82 l0_1 x24_2).f3) > 2000000 then (some false) else (skew_isHist.l0 k2 l0_1 (l0_1.length : Int) (wrap64 (x24_2 + 1)) l0_0 l0_1))))) else (some false)) = some r := H; have A18 := Aa A180; clear A180
          by_cases c19 : t106 = true
          ·subst c19
           have H1 : (if ((rd_T82 l0_1 x24_2).f0) = ((rd_T82 l0_1 x24_2).f1) then (some false) else (if ((rd_T82 l0_1 x24_2).f2) > ((rd_T82 l0_1 x24_2).f3) then (some false) else (if ((rd_T82 l0_1 x24_2).f2) < (-2000000) then (some false) else (if ((rd_T82 l0_1 x24_2).f3) > 2000000 then (some false) else (skew_isHist.l0 k2 l0_1 (l0_1.length : Int) (wrap64 (x24_2 + 1)) l0_0 l0_1))))) = some r := by rw [if_pos rfl] at H; exact H
           clear H; have H := H1; clear H1
           by_cases c20 : ((rd_T82 l0_1 x24_2).f0) = ((rd_T82 l0_1 x24_2).f1)
           ·rw [if_pos c20] at H; have c20b0 : (((rd_T82 l0_1 x24_2).f0) == ((rd_T82 l0_1 x24_2).f1)) = true := beq_iff_eq.mpr c20; have c20b1 : (((rd_T82 l0_1 x24_2).f0) != ((rd_T82 l0_1 x24_2).f1)) = false := bne_eq_false_iff_eq.mpr c20; clear c20; obtain rfl := Option.some.inj H; have p103 : 0 ≤ (x24_2 : Int) := Od (by first | (with_reducible assumption) | assumption); have q103 : x24_2 < (l0_1.length : Int) := Od (by first | (with_reducible assumption) | assumption); obtain ⟨ad103, e103, hx103_0, hx103_1, hx103_2, hx103_3⟩ := at_T82 HR0_1.out x24_2 p103 q103; cases e103; replace hx103_0 := (HB.out.cell (Wb w _ hx103_0)).trans hx103_0; replace hx103_1 := (HB.out.cell (Wb w _ hx103_1)).trans hx103_1; replace hx103_2 := (HB.out.cell (Wb w _ hx103_2)).trans hx103_2; replace hx103_3 := (HB.out.cell (Wb w _ hx103_3)).trans hx103_3; replace p103 := eq_true p103; replace q103 := eq_true q103
            go_wp2_with (first | ((with_reducible refine gate_dst (N := 4) rfl ?_); (try (refine gate_guard (by rfl) ?_; dsimp only)); refine box_event ?hg (N := 4) ?hd (cs := #[.int .i64 0, .int .i64 0, .int .i64 0, .int .i64 0]) (t := 82) ?hr ?_; (case hd => rfl); (case hg => rfl); (case hr => first | (go_simp; done) | (go_simp; rfl)); intro gb104 hg w21 hbox hb; have n0_ := Aa (blk_below (g := gb101) (o := .cells #[.slice A0_0 l0_0.length c0_0, .slice (some ad103) l0_1.length c0_1] 25 (0, 0)) (by (with_reducible repeat (first | refine Kn ?_ _ | refine Kw ?_ | refine Ka ?_ _)); exact BK101.out) hb); have n1_ := Aa (Bp (by repeat (first | (with_reducible first | exact HB.out | apply Ba | apply Pn | apply Dn | refine Bz ?_ GE101.out) | exact HB.out)) hb); have n2_ := Aa (hbox); have n3_ := Aa ((by rw [hg]; exact (below_size (by repeat (first | (with_reducible first | exact HB.out | apply Ba | apply Pn | apply Dn | refine Bz ?_ GE101.out) | exact HB.out))) : w.heap.size ≤ gb104)); have n4_ := Aa ((by rw [hg]; exact (below_size (by repeat (first | (with_reducible first | exact HB.out | apply Ba | apply Pn | apply Dn | refine Bz ?_ GE101.out) | exact HB.out))) : w.heap.size ≤ gb104)); have n5_ := Aa ((by rw [hg]; exact Nat.ne_of_lt (blk_lt (g := gb101) (o := .cells #[.slice A0_0 l0_0.length c0_0, .slice (some ad103) l0_1.length c0_1] 25 (0, 0)) (by (with_reducible repeat (first | refine Kn ?_ _ | refine Kw ?_ | refine Ka ?_ _)); exact BK101.out)) : gb101 ≠ gb104)); have n6_ := Aa ((by rw [hg]; exact Nat.ne_of_gt (blk_lt (g := gb101) (o := .cells #[.slice A0_0 l0_0.length c0_0, .slice (some ad103) l0_1.length c0_1] 25 (0, 0)) (by (with_reducible repeat (first | refine Kn ?_ _ | refine Kw ?_ | refine Ka ?_ _)); exact BK101.out)) : gb104 ≠ gb101)); clear BK101; clear HB; have BK101 := n0_; have HB := n1_; have BK104 := n2_; have GW104 := n3_; have GE104 := n4_; have NB101_104 := n5_; have NB104_101 := n6_; clear n0_ n1_ n2_ n3_ n4_ n5_ n6_; clear hb hbox hg; have hnb22 := NB104_101.out; have hnc22 := NB101_104.out; have hcz23_0 : w21.cell? ⟨gb104, 0, none⟩ = some (.int .i64 0) := (Bc BK104.out 0).trans rfl; have hcz23_1 : w21.cell? ⟨gb104, 1, none⟩ = some (.int .i64 0) := (Bc BK104.out 1).trans rfl; have hcz23_2 : w21.cell? ⟨gb104, 2, none⟩ = some (.int .i64 0) := (Bc BK104.out 2).trans rfl; have hcz23_3 : w21.cell? ⟨gb104, 3, none⟩ = some (.int .i64 0) := (Bc BK104.out 3).trans rfl; have hfz23_0 := Bf BK104.out 0; have hfz23_1 := Bf BK104.out 1; have hfz23_2 := Bf BK104.out 2; have hfz23_3 := Bf BK104.out 3; have hcz24_0 : w21.cell? ⟨gb101, 0, none⟩ = some (.slice A0_0 l0_0.length c0_0) := (Bc BK101.out 0).trans rfl; have hcz24_1 : w21.cell? ⟨gb101, 1, none⟩ = some (.slice (some ad103) l0_1.length c0_1) := (Bc BK101.out 1).trans rfl; have hfz24_0 := Bf BK101.out 0; have hfz24_1 := Bf BK101.out 1) | ((with_reducible refine gate_callee (f := 13) rfl ?_); refine goesL_ (some 34) rfl rfl Tryz.func13 (by kernel_rfl) rfl #[.int .i64 ((rd_T82 l0_1 x24_2).f0), .int .i64 0, .int .i64 (wrap64 ((l0_0.length : Int) - 1))] rfl (by (try simp only [List.map_toArray, List.map_cons, List.map_nil]); first | done | rfl | (simp only [List.length_drop, List.length_take]; rfl)) ?_; (with_reducible refine (skew_within.calls ((rd_T82 l0_1 x24_2).f0) 0 (wrap64 ((l0_0.length : Int) - 1)) true _ A16.out).mono ?_); rintro e w' ⟨rfl, ⟨nd, rfl⟩⟩; refine ⟨_, rfl, ?_⟩) | (go_at_call 13; (with_reducible refine (skew_within.calls ((rd_T82 l0_1 x24_2).f1) 0 (wrap64 ((l0_0.length : Int) - 1)) true _ A18.out).mono ?_); rintro e w' ⟨rfl, ⟨nd, rfl⟩⟩))
            go_ret; exact ⟨by first | rfl | (simp [errW_none, errW_some] <;> rfl) | (simp [*, errW_none, errW_some] <;> rfl), by repeat (first | (with_reducible first | exact HB.out | apply Ba | apply Pn | apply Dn | refine Bz ?_ GE101.out | refine Bz ?_ GE104.out) | exact HB.out)⟩
           ·rw [if_neg c20] at H; have c20b0 : (((rd_T82 l0_1 x24_2).f0) == ((rd_T82 l0_1 x24_2).f1)) = false := beq_eq_false_iff_ne.mpr c20; have c20b1 : (((rd_T82 l0_1 x24_2).f0) != ((rd_T82 l0_1 x24_2).f1)) = true := bne_iff_ne.mpr c20
            by_cases c25 : ((rd_T82 l0_1 x24_2).f2) > ((rd_T82 l0_1 x24_2).f3)
            ·rw [if_pos c25] at H; have c25b0 : decide (((rd_T82 l0_1 x24_2).f3) < ((rd_T82 l0_1 x24_2).f2)) = true := decide_eq_true c25; clear c25; obtain rfl := Option.some.inj H; have p103 : 0 ≤ (x24_2 : Int) := Od (by first | (with_reducible assumption) | assumption); have q103 : x24_2 < (l0_1.length : Int) := Od (by first | (with_reducible assumption) | assumption); obtain ⟨ad103, e103, hx103_0, hx103_1, hx103_2, hx103_3⟩ := at_T82 HR0_1.out x24_2 p103 q103; cases e103; replace hx103_0 := (HB.out.cell (Wb w _ hx103_0)).trans hx103_0; replace hx103_1 := (HB.out.cell (Wb w _ hx103_1)).trans hx103_1; replace hx103_2 := (HB.out.cell (Wb w _ hx103_2)).trans hx103_2; replace hx103_3 := (HB.out.cell (Wb w _ hx103_3)).trans hx103_3; replace p103 := eq_true p103; replace q103 := eq_true q103
             go_wp2_with (first | ((with_reducible refine gate_dst (N := 4) rfl ?_); (try (refine gate_guard (by rfl) ?_; dsimp only)); refine box_event ?hg (N := 4) ?hd (cs := #[.int .i64 0, .int .i64 0, .int .i64 0, .int .i64 0]) (t := 82) ?hr ?_; (case hd => rfl); (case hg => rfl); (case hr => first | (go_simp; done) | (go_simp; rfl)); intro gb104 hg w26 hbox hb; have n0_ := Aa (blk_below (g := gb101) (o := .cells #[.slice A0_0 l0_0.length c0_0, .slice (some ad103) l0_1.length c0_1] 25 (0, 0)) (by (with_reducible repeat (first | refine Kn ?_ _ | refine Kw ?_ | refine Ka ?_ _)); exact BK101.out) hb); have n1_ := Aa (Bp (by repeat (first | (with_reducible first | exact HB.out | apply Ba | apply Pn | apply Dn | refine Bz ?_ GE101.out) | exact HB.out)) hb); have n2_ := Aa (hbox); have n3_ := Aa ((by rw [hg]; exact (below_size (by repeat (first | (with_reducible first | exact HB.out | apply Ba | apply Pn | apply Dn | refine Bz ?_ GE101.out) | exact HB.out))) : w.heap.size ≤ gb104)); have n4_ := Aa ((by rw [hg]; exact (below_size (by repeat (first | (with_reducible first | exact HB.out | apply Ba | apply Pn | apply Dn | refine Bz ?_ GE101.out) | exact HB.out))) : w.heap.size ≤ gb104)); have n5_ := Aa ((by rw [hg]; exact Nat.ne_of_lt (blk_lt (g := gb101) (o := .cells #[.slice A0_0 l0_0.length c0_0, .slice (some ad103) l0_1.length c0_1] 25 (0, 0)) (by (with_reducible repeat (first | refine Kn ?_ _ | refine Kw ?_ | refine Ka ?_ _)); exact BK101.out)) : gb101 ≠ gb104)); have n6_ := Aa ((by rw [hg]; exact Nat.ne_of_gt (blk_lt (g := gb101) (o := .cells #[.slice A0_0 l0_0.length c0_0, .slice (some ad103) l0_1.length c0_1] 25 (0, 0)) (by (with_reducible repeat (first | refine Kn ?_ _ | refine Kw ?_ | refine Ka ?_ _)); exact BK101.out)) : gb104 ≠ gb101)); clear BK101; clear HB; have BK101 := n0_; have HB := n1_; have BK104 := n2_; have GW104 := n3_; have GE104 := n4_; have NB101_104 := n5_; have NB104_101 := n6_; clear n0_ n1_ n2_ n3_ n4_ n5_ n6_; clear hb hbox hg; have hnb27 := NB104_101.out; have hnc27 := NB101_104.out; have hcz28_0 : w26.cell? ⟨gb104, 0, none⟩ = some (.int .i64 0) := (Bc BK104.out 0).trans rfl; have hcz28_1 : w26.cell? ⟨gb104, 1, none⟩ = some (.int .i64 0) := (Bc BK104.out 1).trans rfl; have hcz28_2 : w26.cell? ⟨gb104, 2, none⟩ = some (.int .i64 0) := (Bc BK104.out 2).trans rfl; have hcz28_3 : w26.cell? ⟨gb104, 3, none⟩ = some (.int .i64 0) := (Bc BK104.out 3).trans rfl; have hfz28_0 := Bf BK104.out 0; have hfz28_1 := Bf BK104.out 1; have hfz28_2 := Bf BK104.out 2; have hfz28_3 := Bf BK104.out 3; have hcz29_0 : w26.cell? ⟨gb101, 0, none⟩ = some (.slice A0_0 l0_0.length c0_0) := (Bc BK101.out 0).trans rfl; have hcz29_1 : w26.cell? ⟨gb101, 1, none⟩ = some (.slice (some ad103) l0_1.length c0_1) := (Bc BK101.out 1).trans rfl; have hfz29_0 := Bf BK101.out 0; have hfz29_1 := Bf BK101.out 1) | ((with_reducible refine gate_callee (f := 13) rfl ?_); refine goesL_ (some 34) rfl rfl Tryz.func13 (by kernel_rfl) rfl #[.int .i64 ((rd_T82 l0_1 x24_2).f0), .int .i64 0, .int .i64 (wrap64 ((l0_0.length : Int) - 1))] rfl (by (try simp only [List.map_toArray, List.map_cons, List.map_nil]); first | done | rfl | (simp only [List.length_drop, List.length_take]; rfl)) ?_; (with_reducible refine (skew_within.calls ((rd_T82 l0_1 x24_2).f0) 0 (wrap64 ((l0_0.length : Int) - 1)) true _ A16.out).mono ?_); rintro e w' ⟨rfl, ⟨nd, rfl⟩⟩; refine ⟨_, rfl, ?_⟩) | (go_at_call 13; (with_reducible refine (skew_within.calls ((rd_T82 l0_1 x24_2).f1) 0 (wrap64 ((l0_0.length : Int) - 1)) true _ A18.out).mono ?_); rintro e w' ⟨rfl, ⟨nd, rfl⟩⟩))
             go_ret; exact ⟨by first | rfl | (simp [errW_none, errW_some] <;> rfl) | (simp [*, errW_none, errW_some] <;> rfl), by repeat (first | (with_reducible first | exact HB.out | apply Ba | apply Pn | apply Dn | refine Bz ?_ GE101.out | refine Bz ?_ GE104.out) | exact HB.out)⟩
            ·rw [if_neg c25] at H; have c25b0 : decide (((rd_T82 l0_1 x24_2).f3) < ((rd_T82 l0_1 x24_2).f2)) = false := decide_eq_false c25; clear c25
             by_cases c30 : ((rd_T82 l0_1 x24_2).f2) < (-2000000)
             ·rw [if_pos c30] at H; have c30b0 : decide (((rd_T82 l0_1 x24_2).f2) < (-2000000)) = true := decide_eq_true c30; clear c30; obtain rfl := Option.some.inj H; have p103 : 0 ≤ (x24_2 : Int) := Od (by first | (with_reducible assumption) | assumption); have q103 : x24_2 < (l0_1.length : Int) := Od (by first | (with_reducible assumption) | assumption); obtain ⟨ad103, e103, hx103_0, hx103_1, hx103_2, hx103_3⟩ := at_T82 HR0_1.out x24_2 p103 q103; cases e103; replace hx103_0 := (HB.out.cell (Wb w _ hx103_0)).trans hx103_0; replace hx103_1 := (HB.out.cell (Wb w _ hx103_1)).trans hx103_1; replace hx103_2 := (HB.out.cell (Wb w _ hx103_2)).trans hx103_2; replace hx103_3 := (HB.out.cell (Wb w _ hx103_3)).trans hx103_3; replace p103 := eq_true p103; replace q103 := eq_true q103
              go_wp2_with (first | ((with_reducible refine gate_dst (N := 4) rfl ?_); (try (refine gate_guard (by rfl) ?_; dsimp only)); refine box_event ?hg (N := 4) ?hd (cs := #[.int .i64 0, .int .i64 0, .int .i64 0, .int .i64 0]) (t := 82) ?hr ?_; (case hd => rfl); (case hg => rfl); (case hr => first | (go_simp; done) | (go_simp; rfl)); intro gb104 hg w31 hbox hb; have n0_ := Aa (blk_below (g := gb101) (o := .cells #[.slice A0_0 l0_0.length c0_0, .slice (some ad103) l0_1.length c0_1] 25 (0, 0)) (by (with_reducible repeat (first | refine Kn ?_ _ | refine Kw ?_ | refine Ka ?_ _)); exact BK101.out) hb); have n1_ := Aa (Bp (by repeat (first | (with_reducible first | exact HB.out | apply Ba | apply Pn | apply Dn | refine Bz ?_ GE101.out) | exact HB.out)) hb); have n2_ := Aa (hbox); have n3_ := Aa ((by rw [hg]; exact (below_size (by repeat (first | (with_reducible first | exact HB.out | apply Ba | apply Pn | apply Dn | refine Bz ?_ GE101.out) | exact HB.out))) : w.heap.size ≤ gb104)); have n4_ := Aa ((by rw [hg]; exact (below_size (by repeat (first | (with_reducible first | exact HB.out | apply Ba | apply Pn | apply Dn | refine Bz ?_ GE101.out) | exact HB.out))) : w.heap.size ≤ gb104)); have n5_ := Aa ((by rw [hg]; exact Nat.ne_of_lt (blk_lt (g := gb101) (o := .cells #[.slice A0_0 l0_0.length c0_0, .slice (some ad103) l0_1.length c0_1] 25 (0, 0)) (by (with_reducible repeat (first | refine Kn ?_ _ | refine Kw ?_ | refine Ka ?_ _)); exact BK101.out)) : gb101 ≠ gb104)); have n6_ := Aa ((by rw [hg]; exact Nat.ne_of_gt (blk_lt (g := gb101) (o := .cells #[.slice A0_0 l0_0.length c0_0, .slice (some ad103) l0_1.length c0_1] 25 (0, 0)) (by (with_reducible repeat (first | refine Kn ?_ _ | refine Kw ?_ | refine Ka ?_ _)); exact BK101.out)) : gb104 ≠ gb101)); clear BK101; clear HB; have BK101 := n0_; have HB := n1_; have BK104 := n2_; have GW104 := n3_; have GE104 := n4_; have NB101_104 := n5_; have NB104_101 := n6_; clear n0_ n1_ n2_ n3_ n4_ n5_ n6_; clear hb hbox hg; have hnb32 := NB104_101.out; have hnc32 := NB101_104.out; have hcz33_0 : w31.cell? ⟨gb104, 0, none⟩ = some (.int .i64 0) := (Bc BK104.out 0).trans rfl; have hcz33_1 : w31.cell? ⟨gb104, 1, none⟩ = some (.int .i64 0) := (Bc BK104.out 1).trans rfl; have hcz33_2 : w31.cell? ⟨gb104, 2, none⟩ = some (.int .i64 0) := (Bc BK104.out 2).trans rfl; have hcz33_3 : w31.cell? ⟨gb104, 3, none⟩ = some (.int .i64 0) := (Bc BK104.out 3).trans rfl; have hfz33_0 := Bf BK104.out 0; have hfz33_1 := Bf BK104.out 1; have hfz33_2 := Bf BK104.out 2; have hfz33_3 := Bf BK104.out 3; have hcz34_0 : w31.cell? ⟨gb101, 0, none⟩ = some (.slice A0_0 l0_0.length c0_0) := (Bc BK101.out 0).trans rfl; have hcz34_1 : w31.cell? ⟨gb101, 1, none⟩ = some (.slice (some ad103) l0_1.length c0_1) := (Bc BK101.out 1).trans rfl; have hfz34_0 := Bf BK101.out 0; have hfz34_1 := Bf BK101.out 1) | ((with_reducible refine gate_callee (f := 13) rfl ?_); refine goesL_ (some 34) rfl rfl Tryz.func13 (by kernel_rfl) rfl #[.int .i64 ((rd_T82 l0_1 x24_2).f0), .int .i64 0, .int .i64 (wrap64 ((l0_0.length : Int) - 1))] rfl (by (try simp only [List.map_toArray, List.map_cons, List.map_nil]); first | done | rfl | (simp only [List.length_drop, List.length_take]; rfl)) ?_; (with_reducible refine (skew_within.calls ((rd_T82 l0_1 x24_2).f0) 0 (wrap64 ((l0_0.length : Int) - 1)) true _ A16.out).mono ?_); rintro e w' ⟨rfl, ⟨nd, rfl⟩⟩; refine ⟨_, rfl, ?_⟩) | (go_at_call 13; (with_reducible refine (skew_within.calls ((rd_T82 l0_1 x24_2).f1) 0 (wrap64 ((l0_0.length : Int) - 1)) true _ A18.out).mono ?_); rintro e w' ⟨rfl, ⟨nd, rfl⟩⟩))
              go_ret; exact ⟨by first | rfl | (simp [errW_none, errW_some] <;> rfl) | (simp [*, errW_none, errW_some] <;> rfl), by repeat (first | (with_reducible first | exact HB.out | apply Ba | apply Pn | apply Dn | refine Bz ?_ GE101.out | refine Bz ?_ GE104.out) | exact HB.out)⟩
             ·rw [if_neg c30] at H; have c30b0 : decide (((rd_T82 l0_1 x24_2).f2) < (-2000000)) = false := decide_eq_false c30; clear c30
              by_cases c35 : ((rd_T82 l0_1 x24_2).f3) > 2000000
              ·rw [if_pos c35] at H; have c35b0 : decide (2000000 < ((rd_T82 l0_1 x24_2).f3)) = true := decide_eq_true c35; clear c35; obtain rfl := Option.some.inj H; have p103 : 0 ≤ (x24_2 : Int) := Od (by first | (with_reducible assumption) | assumption); have q103 : x24_2 < (l0_1.length : Int) := Od (by first | (with_reducible assumption) | assumption); obtain ⟨ad103, e103, hx103_0, hx103_1, hx103_2, hx103_3⟩ := at_T82 HR0_1.out x24_2 p103 q103; cases e103; replace hx103_0 := (HB.out.cell (Wb w _ hx103_0)).trans hx103_0; replace hx103_1 := (HB.out.cell (Wb w _ hx103_1)).trans hx103_1; replace hx103_2 := (HB.out.cell (Wb w _ hx103_2)).trans hx103_2; replace hx103_3 := (HB.out.cell (Wb w _ hx103_3)).trans hx103_3; replace p103 := eq_true p103; replace q103 := eq_true q103
               go_wp2_with (first | ((with_reducible refine gate_dst (N := 4) rfl ?_); (try (refine gate_guard (by rfl) ?_; dsimp only)); refine box_event ?hg (N := 4) ?hd (cs := #[.int .i64 0, .int .i64 0, .int .i64 0, .int .i64 0]) (t := 82) ?hr ?_; (case hd => rfl); (case hg => rfl); (case hr => first | (go_simp; done) | (go_simp; rfl)); intro gb104 hg w36 hbox hb; have n0_ := Aa (blk_below (g := gb101) (o := .cells #[.slice A0_0 l0_0.length c0_0, .slice (some ad103) l0_1.length c0_1] 25 (0, 0)) (by (with_reducible repeat (first | refine Kn ?_ _ | refine Kw ?_ | refine Ka ?_ _)); exact BK101.out) hb); have n1_ := Aa (Bp (by repeat (first | (with_reducible first | exact HB.out | apply Ba | apply Pn | apply Dn | refine Bz ?_ GE101.out) | exact HB.out)) hb); have n2_ := Aa (hbox); have n3_ := Aa ((by rw [hg]; exact (below_size (by repeat (first | (with_reducible first | exact HB.out | apply Ba | apply Pn | apply Dn | refine Bz ?_ GE101.out) | exact HB.out))) : w.heap.size ≤ gb104)); have n4_ := Aa ((by rw [hg]; exact (below_size (by repeat (first | (with_reducible first | exact HB.out | apply Ba | apply Pn | apply Dn | refine Bz ?_ GE101.out) | exact HB.out))) : w.heap.size ≤ gb104)); have n5_ := Aa ((by rw [hg]; exact Nat.ne_of_lt (blk_lt (g := gb101) (o := .cells #[.slice A0_0 l0_0.length c0_0, .slice (some ad103) l0_1.length c0_1] 25 (0, 0)) (by (with_reducible repeat (first | refine Kn ?_ _ | refine Kw ?_ | refine Ka ?_ _)); exact BK101.out)) : gb101 ≠ gb104)); have n6_ := Aa ((by rw [hg]; exact Nat.ne_of_gt (blk_lt (g := gb101) (o := .cells #[.slice A0_0 l0_0.length c0_0, .slice (some ad103) l0_1.length c0_1] 25 (0, 0)) (by (with_reducible repeat (first | refine Kn ?_ _ | refine Kw ?_ | refine Ka ?_ _)); exact BK101.out)) : gb104 ≠ gb101)); clear BK101; clear HB; have BK101 := n0_; have HB := n1_; have BK104 := n2_; have GW104 := n3_; have GE104 := n4_; have NB101_104 := n5_; have NB104_101 := n6_; clear n0_ n1_ n2_ n3_ n4_ n5_ n6_; clear hb hbox hg; have hnb37 := NB104_101.out; have hnc37 := NB101_104.out; have hcz38_0 : w36.cell? ⟨gb104, 0, none⟩ = some (.int .i64 0) := (Bc BK104.out 0).trans rfl; have hcz38_1 : w36.cell? ⟨gb104, 1, none⟩ = some (.int .i64 0) := (Bc BK104.out 1).trans rfl; have hcz38_2 : w36.cell? ⟨gb104, 2, none⟩ = some (.int .i64 0) := (Bc BK104.out 2).trans rfl; have hcz38_3 : w36.cell? ⟨gb104, 3, none⟩ = some (.int .i64 0) := (Bc BK104.out 3).trans rfl; have hfz38_0 := Bf BK104.out 0; have hfz38_1 := Bf BK104.out 1; have hfz38_2 := Bf BK104.out 2; have hfz38_3 := Bf BK104.out 3; have hcz39_0 : w36.cell? ⟨gb101, 0, none⟩ = some (.slice A0_0 l0_0.length c0_0) := (Bc BK101.out 0).trans rfl; have hcz39_1 : w36.cell? ⟨gb101, 1, none⟩ = some (.slice (some ad103) l0_1.length c0_1) := (Bc BK101.out 1).trans rfl; have hfz39_0 := Bf BK101.out 0; have hfz39_1 := Bf BK101.out 1) | ((with_reducible refine gate_callee (f := 13) rfl ?_); refine goesL_ (some 34) rfl rfl Tryz.func13 (by kernel_rfl) rfl #[.int .i64 ((rd_T82 l0_1 x24_2).f0), .int .i64 0, .int .i64 (wrap64 ((l0_0.length : Int) - 1))] rfl (by (try simp only [List.map_toArray, List.map_cons, List.map_nil]); first | done | rfl | (simp only [List.length_drop, List.length_take]; rfl)) ?_; (with_reducible refine (skew_within.calls ((rd_T82 l0_1 x24_2).f0) 0 (wrap64 ((l0_0.length : Int) - 1)) true _ A16.out).mono ?_); rintro e w' ⟨rfl, ⟨nd, rfl⟩⟩; refine ⟨_, rfl, ?_⟩) | (go_at_call 13; (with_reducible refine (skew_within.calls ((rd_T82 l0_1 x24_2).f1) 0 (wrap64 ((l0_0.length : Int) - 1)) true _ A18.out).mono ?_); rintro e w' ⟨rfl, ⟨nd, rfl⟩⟩))
               go_ret; exact ⟨by first | rfl | (simp [errW_none, errW_some] <;> rfl) | (simp [*, errW_none, errW_some] <;> rfl), by repeat (first | (with_reducible first | exact HB.out | apply Ba | apply Pn | apply Dn | refine Bz ?_ GE101.out | refine Bz ?_ GE104.out) | exact HB.out)⟩
              ·rw [if_neg c35] at H; have c35b0 : decide (2000000 < ((rd_T82 l0_1 x24_2).f3)) = false := decide_eq_false c35; clear c35; have H' := Aa H; clear H; have p103 : 0 ≤ (x24_2 : Int) := Od (by first | (with_reducible assumption) | assumption); have q103 : x24_2 < (l0_1.length : Int) := Od (by first | (with_reducible assumption) | assumption); obtain ⟨ad103, e103, hx103_0, hx103_1, hx103_2, hx103_3⟩ := at_T82 HR0_1.out x24_2 p103 q103; cases e103; replace hx103_0 := (HB.out.cell (Wb w _ hx103_0)).trans hx103_0; replace hx103_1 := (HB.out.cell (Wb w _ hx103_1)).trans hx103_1; replace hx103_2 := (HB.out.cell (Wb w _ hx103_2)).trans hx103_2; replace hx103_3 := (HB.out.cell (Wb w _ hx103_3)).trans hx103_3; replace p103 := eq_true p103; replace q103 := eq_true q103
               go_wp2_with (first | ((with_reducible refine gate_dst (N := 4) rfl ?_); (try (refine gate_guard (by rfl) ?_; dsimp only)); refine box_event ?hg (N := 4) ?hd (cs := #[.int .i64 0, .int .i64 0, .int .i64 0, .int .i64 0]) (t := 82) ?hr ?_; (case hd => rfl); (case hg => rfl); (case hr => first | (go_simp; done) | (go_simp; rfl)); intro gb104 hg w40 hbox hb; have n0_ := Aa (blk_below (g := gb101) (o := .cells #[.slice A0_0 l0_0.length c0_0, .slice (some ad103) l0_1.length c0_1] 25 (0, 0)) (by (with_reducible repeat (first | refine Kn ?_ _ | refine Kw ?_ | refine Ka ?_ _)); exact BK101.out) hb); have n1_ := Aa (Bp (by repeat (first | (with_reducible first | exact HB.out | apply Ba | apply Pn | apply Dn | refine Bz ?_ GE101.out) | exact HB.out)) hb); have n2_ := Aa (hbox); have n3_ := Aa ((by rw [hg]; exact (below_size (by repeat (first | (with_reducible first | exact HB.out | apply Ba | apply Pn | apply Dn | refine Bz ?_ GE101.out) | exact HB.out))) : w.heap.size ≤ gb104)); have n4_ := Aa ((by rw [hg]; exact (below_size (by repeat (first | (with_reducible first | exact HB.out | apply Ba | apply Pn | apply Dn | refine Bz ?_ GE101.out) | exact HB.out))) : w.heap.size ≤ gb104)); have n5_ := Aa ((by rw [hg]; exact Nat.ne_of_lt (blk_lt (g := gb101) (o := .cells #[.slice A0_0 l0_0.length c0_0, .slice (some ad103) l0_1.length c0_1] 25 (0, 0)) (by (with_reducible repeat (first | refine Kn ?_ _ | refine Kw ?_ | refine Ka ?_ _)); exact BK101.out)) : gb101 ≠ gb104)); have n6_ := Aa ((by rw [hg]; exact Nat.ne_of_gt (blk_lt (g := gb101) (o := .cells #[.slice A0_0 l0_0.length c0_0, .slice (some ad103) l0_1.length c0_1] 25 (0, 0)) (by (with_reducible repeat (first | refine Kn ?_ _ | refine Kw ?_ | refine Ka ?_ _)); exact BK101.out)) : gb104 ≠ gb101)); clear BK101; clear HB; have BK101 := n0_; have HB := n1_; have BK104 := n2_; have GW104 := n3_; have GE104 := n4_; have NB101_104 := n5_; have NB104_101 := n6_; clear n0_ n1_ n2_ n3_ n4_ n5_ n6_; clear hb hbox hg; have hnb41 := NB104_101.out; have hnc41 := NB101_104.out; have hcz42_0 : w40.cell? ⟨gb104, 0, none⟩ = some (.int .i64 0) := (Bc BK104.out 0).trans rfl; have hcz42_1 : w40.cell? ⟨gb104, 1, none⟩ = some (.int .i64 0) := (Bc BK104.out 1).trans rfl; have hcz42_2 : w40.cell? ⟨gb104, 2, none⟩ = some (.int .i64 0) := (Bc BK104.out 2).trans rfl; have hcz42_3 : w40.cell? ⟨gb104, 3, none⟩ = some (.int .i64 0) := (Bc BK104.out 3).trans rfl; have hfz42_0 := Bf BK104.out 0; have hfz42_1 := Bf BK104.out 1; have hfz42_2 := Bf BK104.out 2; have hfz42_3 := Bf BK104.out 3; have hcz43_0 : w40.cell? ⟨gb101, 0, none⟩ = some (.slice A0_0 l0_0.length c0_0) := (Bc BK101.out 0).trans rfl; have hcz43_1 : w40.cell? ⟨gb101, 1, none⟩ = some (.slice (some ad103) l0_1.length c0_1) := (Bc BK101.out 1).trans rfl; have hfz43_0 := Bf BK101.out 0; have hfz43_1 := Bf BK101.out 1) | ((with_reducible refine gate_callee (f := 13) rfl ?_); refine goesL_ (some 34) rfl rfl Tryz.func13 (by kernel_rfl) rfl #[.int .i64 ((rd_T82 l0_1 x24_2).f0), .int .i64 0, .int .i64 (wrap64 ((l0_0.length : Int) - 1))] rfl (by (try simp only [List.map_toArray, List.map_cons, List.map_nil]); first | done | rfl | (simp only [List.length_drop, List.length_take]; rfl)) ?_; (with_reducible refine (skew_within.calls ((rd_T82 l0_1 x24_2).f0) 0 (wrap64 ((l0_0.length : Int) - 1)) true _ A16.out).mono ?_); rintro e w' ⟨rfl, ⟨nd, rfl⟩⟩; refine ⟨_, rfl, ?_⟩) | (go_at_call 13; (with_reducible refine (skew_within.calls ((rd_T82 l0_1 x24_2).f1) 0 (wrap64 ((l0_0.length : Int) - 1)) true _ A18.out).mono ?_); rintro e w' ⟨rfl, ⟨nd, rfl⟩⟩))
               go_roundg k2
               case measure => have := HJ1.out; have := HK2.out; omega
               case rel => exact ⟨(wrap64 (x24_2 + 1)), (by first | rfl | (simp; done) | (simp [*]; done)), H', ⟨by have := HJ1.out; have := HK2.out; omega⟩, ⟨by (with_reducible repeat (first | refine Kn ?_ _ | refine Kw ?_ | refine Ka ?_ _)); refine blk_far ?_ NB101_104.out _; (with_reducible repeat (first | refine Kn ?_ _ | refine Kw ?_ | refine Ka ?_ _)); refine blk_far ?_ NB101_104.out _; (with_reducible repeat (first | refine Kn ?_ _ | refine Kw ?_ | refine Ka ?_ _)); refine blk_far ?_ NB101_104.out _; (with_reducible repeat (first | refine Kn ?_ _ | refine Kw ?_ | refine Ka ?_ _)); refine blk_far ?_ NB101_104.out _; (with_reducible repeat (first | refine Kn ?_ _ | refine Kw ?_ | refine Ka ?_ _)); exact BK101.out⟩, ⟨by repeat (first | (with_reducible first | exact HB.out | apply Ba | apply Pn | apply Dn | refine Bz ?_ GE101.out | refine Bz ?_ GE104.out) | exact HB.out)⟩⟩
          ·replace c19 := Bool.eq_false_iff.mpr c19; subst c19
           have H1 : (some false) = some r := by rw [if_neg (show ¬ (false = true) by decide)] at H; exact H
           clear H; have H := H1; clear H1; obtain rfl := Option.some.inj H; have p103 : 0 ≤ (x24_2 : Int) := Od (by first | (with_reducible assumption) | assumption); have q103 : x24_2 < (l0_1.length : Int) := Od (by first | (with_reducible assumption) | assumption); obtain ⟨ad103, e103, hx103_0, hx103_1, hx103_2, hx103_3⟩ := at_T82 HR0_1.out x24_2 p103 q103; cases e103; replace hx103_0 := (HB.out.cell (Wb w _ hx103_0)).trans hx103_0; replace hx103_1 := (HB.out.cell (Wb w _ hx103_1)).trans hx103_1; replace hx103_2 := (HB.out.cell (Wb w _ hx103_2)).trans hx103_2; replace hx103_3 := (HB.out.cell (Wb w _ hx103_3)).trans hx103_3; replace p103 := eq_true p103; replace q103 := eq_true q103
           go_wp2_with (first | ((with_reducible refine gate_dst (N := 4) rfl ?_); (try (refine gate_guard (by rfl) ?_; dsimp only)); refine box_event ?hg (N := 4) ?hd (cs := #[.int .i64 0, .int .i64 0, .int .i64 0, .int .i64 0]) (t := 82) ?hr ?_; (case hd => rfl); (case hg => rfl); (case hr => first | (go_simp; done) | (go_simp; rfl)); intro gb104 hg w44 hbox hb; have n0_ := Aa (blk_below (g := gb101) (o := .cells #[.slice A0_0 l0_0.length c0_0, .slice (some ad103) l0_1.length c0_1] 25 (0, 0)) (by (with_reducible repeat (first | refine Kn ?_ _ | refine Kw ?_ | refine Ka ?_ _)); exact BK101.out) hb); have n1_ := Aa (Bp (by repeat (first | (with_reducible first | exact HB.out | apply Ba | apply Pn | apply Dn | refine Bz ?_ GE101.out) | exact HB.out)) hb); have n2_ := Aa (hbox); have n3_ := Aa ((by rw [hg]; exact (below_size (by repeat (first | (with_reducible first | exact HB.out | apply Ba | apply Pn | apply Dn | refine Bz ?_ GE101.out) | exact HB.out))) : w.heap.size ≤ gb104)); have n4_ := Aa ((by rw [hg]; exact (below_size (by repeat (first | (with_reducible first | exact HB.out | apply Ba | apply Pn | apply Dn | refine Bz ?_ GE101.out) | exact HB.out))) : w.heap.size ≤ gb104)); have n5_ := Aa ((by rw [hg]; exact Nat.ne_of_lt (blk_lt (g := gb101) (o := .cells #[.slice A0_0 l0_0.length c0_0, .slice (some ad103) l0_1.length c0_1] 25 (0, 0)) (by (with_reducible repeat (first | refine Kn ?_ _ | refine Kw ?_ | refine Ka ?_ _)); exact BK101.out)) : gb101 ≠ gb104)); have n6_ := Aa ((by rw [hg]; exact Nat.ne_of_gt (blk_lt (g := gb101) (o := .cells #[.slice A0_0 l0_0.length c0_0, .slice (some ad103) l0_1.length c0_1] 25 (0, 0)) (by (with_reducible repeat (first | refine Kn ?_ _ | refine Kw ?_ | refine Ka ?_ _)); exact BK101.out)) : gb104 ≠ gb101)); clear BK101; clear HB; have BK101 := n0_; have HB := n1_; have BK104 := n2_; have GW104 := n3_; have GE104 := n4_; have NB101_104 := n5_; have NB104_101 := n6_; clear n0_ n1_ n2_ n3_ n4_ n5_ n6_; clear hb hbox hg; have hnb45 := NB104_101.out; have hnc45 := NB101_104.out; have hcz46_0 : w44.cell? ⟨gb104, 0, none⟩ = some (.int .i64 0) := (Bc BK104.out 0).trans rfl; have hcz46_1 : w44.cell? ⟨gb104, 1, none⟩ = some (.int .i64 0) := (Bc BK104.out 1).trans rfl; have hcz46_2 : w44.cell? ⟨gb104, 2, none⟩ = some (.int .i64 0) := (Bc BK104.out 2).trans rfl; have hcz46_3 : w44.cell? ⟨gb104, 3, none⟩ = some (.int .i64 0) := (Bc BK104.out 3).trans rfl; have hfz46_0 := Bf BK104.out 0; have hfz46_1 := Bf BK104.out 1; have hfz46_2 := Bf BK104.out 2; have hfz46_3 := Bf BK104.out 3; have hcz47_0 : w44.cell? ⟨gb101, 0, none⟩ = some (.slice A0_0 l0_0.length c0_0) := (Bc BK101.out 0).trans rfl; have hcz47_1 : w44.cell? ⟨gb101, 1, none⟩ = some (.slice (some ad103) l0_1.length c0_1) := (Bc BK101.out 1).trans rfl; have hfz47_0 := Bf BK101.out 0; have hfz47_1 := Bf BK101.out 1) | ((with_reducible refine gate_callee (f := 13) rfl ?_); refine goesL_ (some 34) rfl rfl Tryz.func13 (by kernel_rfl) rfl #[.int .i64 ((rd_T82 l0_1 x24_2).f0), .int .i64 0, .int .i64 (wrap64 ((l0_0.length : Int) - 1))] rfl (by (try simp only [List.map_toArray, List.map_cons, List.map_nil]); first | done | rfl | (simp only [List.length_drop, List.length_take]; rfl)) ?_; (with_reducible refine (skew_within.calls ((rd_T82 l0_1 x24_2).f0) 0 (wrap64 ((l0_0.length : Int) - 1)) true _ A16.out).mono ?_); rintro e w' ⟨rfl, ⟨nd, rfl⟩⟩; refine ⟨_, rfl, ?_⟩) | (go_at_call 13; (with_reducible refine (skew_within.calls ((rd_T82 l0_1 x24_2).f1) 0 (wrap64 ((l0_0.length : Int) - 1)) false _ A18.out).mono ?_); rintro e w' ⟨rfl, ⟨nd, rfl⟩⟩))
           go_ret; exact ⟨by first | rfl | (simp [errW_none, errW_some] <;> rfl) | (simp [*, errW_none, errW_some] <;> rfl), by repeat (first | (with_reducible first | exact HB.out | apply Ba | apply Pn | apply Dn | refine Bz ?_ GE101.out | refine Bz ?_ GE104.out) | exact HB.out)⟩
         ·replace c17 := Bool.eq_false_iff.mpr c17; subst c17
          have H1 : (some false) = some r := by rw [if_neg (show ¬ (false = true) by decide)] at H; exact H
          clear H; have H := H1; clear H1; obtain rfl := Option.some.inj H; have p103 : 0 ≤ (x24_2 : Int) := Od (by first | (with_reducible assumption) | assumption); have q103 : x24_2 < (l0_1.length : Int) := Od (by first | (with_reducible assumption) | assumption); obtain ⟨ad103, e103, hx103_0, hx103_1, hx103_2, hx103_3⟩ := at_T82 HR0_1.out x24_2 p103 q103; cases e103; replace hx103_0 := (HB.out.cell (Wb w _ hx103_0)).trans hx103_0; replace hx103_1 := (HB.out.cell (Wb w _ hx103_1)).trans hx103_1; replace hx103_2 := (HB.out.cell (Wb w _ hx103_2)).trans hx103_2; replace hx103_3 := (HB.out.cell (Wb w _ hx103_3)).trans hx103_3; replace p103 := eq_true p103; replace q103 := eq_true q103
          go_wp2_with (first | ((with_reducible refine gate_dst (N := 4) rfl ?_); (try (refine gate_guard (by rfl) ?_; dsimp only)); refine box_event ?hg (N := 4) ?hd (cs := #[.int .i64 0, .int .i64 0, .int .i64 0, .int .i64 0]) (t := 82) ?hr ?_; (case hd => rfl); (case hg => rfl); (case hr => first | (go_simp; done) | (go_simp; rfl)); intro gb104 hg w48 hbox hb; have n0_ := Aa (blk_below (g := gb101) (o := .cells #[.slice A0_0 l0_0.length c0_0, .slice (some ad103) l0_1.length c0_1] 25 (0, 0)) (by (with_reducible repeat (first | refine Kn ?_ _ | refine Kw ?_ | refine Ka ?_ _)); exact BK101.out) hb); have n1_ := Aa (Bp (by repeat (first | (with_reducible first | exact HB.out | apply Ba | apply Pn | apply Dn | refine Bz ?_ GE101.out) | exact HB.out)) hb); have n2_ := Aa (hbox); have n3_ := Aa ((by rw [hg]; exact (below_size (by repeat (first | (with_reducible first | exact HB.out | apply Ba | apply Pn | apply Dn | refine Bz ?_ GE101.out) | exact HB.out))) : w.heap.size ≤ gb104)); have n4_ := Aa ((by rw [hg]; exact (below_size (by repeat (first | (with_reducible first | exact HB.out | apply Ba | apply Pn | apply Dn | refine Bz ?_ GE101.out) | exact HB.out))) : w.heap.size ≤ gb104)); have n5_ := Aa ((by rw [hg]; exact Nat.ne_of_lt (blk_lt (g := gb101) (o := .cells #[.slice A0_0 l0_0.length c0_0, .slice (some ad103) l0_1.length c0_1] 25 (0, 0)) (by (with_reducible repeat (first | refine Kn ?_ _ | refine Kw ?_ | refine Ka ?_ _)); exact BK101.out)) : gb101 ≠ gb104)); have n6_ := Aa ((by rw [hg]; exact Nat.ne_of_gt (blk_lt (g := gb101) (o := .cells #[.slice A0_0 l0_0.length c0_0, .slice (some ad103) l0_1.length c0_1] 25 (0, 0)) (by (with_reducible repeat (first | refine Kn ?_ _ | refine Kw ?_ | refine Ka ?_ _)); exact BK101.out)) : gb104 ≠ gb101)); clear BK101; clear HB; have BK101 := n0_; have HB := n1_; have BK104 := n2_; have GW104 := n3_; have GE104 := n4_; have NB101_104 := n5_; have NB104_101 := n6_; clear n0_ n1_ n2_ n3_ n4_ n5_ n6_; clear hb hbox hg; have hnb49 := NB104_101.out; have hnc49 := NB101_104.out; have hcz50_0 : w48.cell? ⟨gb104, 0, none⟩ = some (.int .i64 0) := (Bc BK104.out 0).trans rfl; have hcz50_1 : w48.cell? ⟨gb104, 1, none⟩ = some (.int .i64 0) := (Bc BK104.out 1).trans rfl; have hcz50_2 : w48.cell? ⟨gb104, 2, none⟩ = some (.int .i64 0) := (Bc BK104.out 2).trans rfl; have hcz50_3 : w48.cell? ⟨gb104, 3, none⟩ = some (.int .i64 0) := (Bc BK104.out 3).trans rfl; have hfz50_0 := Bf BK104.out 0; have hfz50_1 := Bf BK104.out 1; have hfz50_2 := Bf BK104.out 2; have hfz50_3 := Bf BK104.out 3; have hcz51_0 : w48.cell? ⟨gb101, 0, none⟩ = some (.slice A0_0 l0_0.length c0_0) := (Bc BK101.out 0).trans rfl; have hcz51_1 : w48.cell? ⟨gb101, 1, none⟩ = some (.slice (some ad103) l0_1.length c0_1) := (Bc BK101.out 1).trans rfl; have hfz51_0 := Bf BK101.out 0; have hfz51_1 := Bf BK101.out 1) | ((with_reducible refine gate_callee (f := 13) rfl ?_); refine goesL_ (some 34) rfl rfl Tryz.func13 (by kernel_rfl) rfl #[.int .i64 ((rd_T82 l0_1 x24_2).f0), .int .i64 0, .int .i64 (wrap64 ((l0_0.length : Int) - 1))] rfl (by (try simp only [List.map_toArray, List.map_cons, List.map_nil]); first | done | rfl | (simp only [List.length_drop, List.length_take]; rfl)) ?_; (with_reducible refine (skew_within.calls ((rd_T82 l0_1 x24_2).f0) 0 (wrap64 ((l0_0.length : Int) - 1)) false _ A16.out).mono ?_); rintro e w' ⟨rfl, ⟨nd, rfl⟩⟩; refine ⟨_, rfl, ?_⟩))
          go_ret; exact ⟨by first | rfl | (simp [errW_none, errW_some] <;> rfl) | (simp [*, errW_none, errW_some] <;> rfl), by repeat (first | (with_reducible first | exact HB.out | apply Ba | apply Pn | apply Dn | refine Bz ?_ GE101.out | refine Bz ?_ GE104.out) | exact HB.out)⟩
        ·rw [if_neg c15] at H; exact absurd H (by simp)
       ·rw [if_neg c14] at H; exact absurd H (by simp)
      ·rw [if_neg c13] at H; have c13b0 : decide (x24_2 < (l0_1.length : Int)) = false := decide_eq_false c13; clear c13; obtain rfl := Option.some.inj H; go_wp2; go_ret; exact ⟨by first | rfl | (simp [errW_none, errW_some] <;> rfl) | (simp [*, errW_none, errW_some] <;> rfl), by repeat (first | (with_reducible first | exact HB.out | apply Ba | apply Pn | apply Dn | refine Bz ?_ GE101.out) | exact HB.out)⟩
end
section
def saidL (evs : List S65) (gaps : List S82) : List (Int × S61) :=
 ((List.range evs.length).map fun (i : Nat) => ((i : Int), (⟨10, (i : Int), (rd_T65 evs i).f0, (rd_T65 evs i).f1⟩ : S61))) ++
  (List.range gaps.length).map fun (i : Nat) => ((evs.length : Int) + i, (⟨(rd_T82 gaps i).f0, (rd_T82 gaps i).f1, (rd_T82 gaps i).f2, (rd_T82 gaps i).f3⟩ : S61))
def bindP (om : Int → Bool) (L : List (Int × S61)) : Int → Int → Int := L.foldl (fun B x => if om x.1 = true then B else sayF B x.2) (fillN 11)
def histOk (evs : List S65) (gaps : List S82) : Prop := evs.length ≤ 10 ∧ gaps.length ≤ 20 ∧ ∀ g ∈ gaps, (0 ≤ g.f0 ∧ g.f0 < 11) ∧ 0 ≤ g.f1 ∧ g.f1 < 11
instance (evs : List S65) (gaps : List S82) : Decidable (histOk evs gaps) := by unfold histOk; infer_instance
theorem lift_facts : ∀ L : List (Int × S61), (∀ x ∈ L, (0 ≤ x.1 ∧ x.1 < 100) ∧ (0 ≤ x.2.f0 ∧ x.2.f0 < 11) ∧ 0 ≤ x.2.f1 ∧ x.2.f1 < 11) → ∃ fs : List Fc, fs.map (·.1) = L
 | [], _ => ⟨[], rfl⟩
 | x :: L, h => by
  obtain ⟨fs, hf⟩ := lift_facts L (fun y hy => h y (List.mem_cons_of_mem _ hy)); exact ⟨⟨x, h x List.mem_cons_self⟩ :: fs, by rw [List.map_cons, hf]⟩
theorem rd86_mem' (l : List S82) (i : Nat) (h1 : i < l.length) : rd_T82 l (i : Int) ∈ l := by
 have er : rd_T82 l (i : Int) = l[i] := by simp [rd_T82, rdOf, List.getD_eq_getElem?_getD, h1]
 rw [er]; exact List.getElem_mem h1
theorem facts_ex0 (evs : List S65) (gaps : List S82) (h : histOk evs gaps) : ∃ fs : List Fc, IsFacts evs gaps fs ∧ (∀ om, bindF om fs = bindP om (saidL evs gaps)) ∧ fs.map (·.1) = saidL evs gaps := by
 obtain ⟨h1, h2, h3⟩ := h
 obtain ⟨fs, hf⟩ := lift_facts (saidL evs gaps) (fun x hx => by
  unfold saidL at hx
  rcases List.mem_append.mp hx with hx | hx
  ·obtain ⟨i, hi, rfl⟩ := List.mem_map.mp hx; have := List.mem_range.mp hi; exact ⟨⟨by omega, by show (i : Int) < 100; omega⟩, ⟨by show (0 : Int) ≤ 10; omega, by show (10 : Int) < 11; omega⟩, by show 0 ≤ (i : Int); omega, by show (i : Int) < 11; omega⟩
  ·obtain ⟨i, hi, rfl⟩ := List.mem_map.mp hx; have hi := List.mem_range.mp hi
   exact ⟨⟨by show 0 ≤ (evs.length : Int) + i; omega, by show (evs.length : Int) + i < 100; omega⟩, h3 _ (rd86_mem' gaps i hi)⟩)
 have hlen : fs.length = evs.length + gaps.length := by
  have := congrArg List.length hf; rw [List.length_map] at this; rw [this]; unfold saidL; simp
 have hget : ∀ (k : Nat) (hk : k < fs.length), (fs[k]).1 = (saidL evs gaps)[k]'(by rw [← hf, List.length_map]; exact hk) := by
  intro k hk
  have : (fs.map (·.1))[k]'(by rw [List.length_map]; exact hk) = (fs[k]).1 := by rw [List.getElem_map]
  rw [← this]; simp only [hf]
 refine ⟨fs, ⟨hlen, fun i hi hie => ?_, fun i hi hig => ?_⟩, fun om => ?_, hf⟩
 ·rw [hget i hi]; unfold saidL; rw [List.getElem_append_left (by simp; exact hie)]
  simp
 ·rw [hget _ hi]; unfold saidL; rw [List.getElem_append_right (by simp)]
  simp
 ·unfold bindF bindP; rw [← hf, List.foldl_map]
theorem facts_ex (evs : List S65) (gaps : List S82) (h : histOk evs gaps) : ∃ fs : List Fc, IsFacts evs gaps fs ∧ ∀ om, bindF om fs = bindP om (saidL evs gaps) := by
 obtain ⟨fs, h1, h2, _⟩ := facts_ex0 evs gaps h; exact ⟨fs, h1, h2⟩
theorem sure_calls (b : Nat) (e g : Value) (B : Int → Int → Int) (x y : Int) (w : World) (h : Bd w b e g B) (x0 : 0 ≤ x) (x1 : x < 11) (y0 : 0 ≤ y) (y1 : y < 11) :
  Calls Tryz.prog 15 #[.pointer (some ⟨b, 0, none⟩), .int .i64 x, .int .i64 y] w fun ee w' => ee = .returned (.bool (decide (B y x < 0))) ∧ w' = w := by
 have c1 := h.at' y x y0 y1 x0 x1
 go_enter Tryz.func15, Tryz.ntmps15
 go_wp2; go_ret; exact ⟨rfl, rfl⟩
theorem look_nil (W : World) (k : Int) (h0 : 0 ≤ k) (h1 : k < 100) : (Instr.lookup 111 (.map none) (.int .i64 k) false).run Tryz.prog W = .ok (.bool false) W := by
 kernel_rfl
def tightR (evs : List S65) (gaps : List S82) : Option (Option (Int → Int → Int) × Int) :=
 (skew_isHist.f 1000 evs gaps).bind fun t => if t = true then
  if histOk evs gaps then match tightenF (bindP (fun _ => false) (saidL evs gaps)) with | some B => some (some B, 0) | none => some (none, 5)
  else none
 else some (none, 2)
def TightPost (ev gv : Value) (R : Option (Int → Int → Int)) (r : Int) (w : World) (e : Ending) (w' : World) : Prop :=
 ∃ p : Option Nat, e = .returned (.tuple #[.pointer (p.map fun b => ⟨b, 0, none⟩), .int .i64 r]) ∧ (∀ B, R = some B → ∃ b, p = some b ∧ w.heap.size ≤ b ∧ Bd w' b ev gv B) ∧ (R = none → r ≠ 0) ∧ (∀ B, R = some B → r = 0) ∧ Below w.heap.size w w'
set_option maxHeartbeats 2000000 in
set_option maxRecDepth 100000 in
theorem tight_calls (A0 A1 : Option Addr) (c0 c1 : Nat) (evs : List S65) (gaps : List S82) (R : Option (Int → Int → Int)) (r : Int) (w : World) (hC0 : Kd.C k65 w A0 evs.length evs) (hc0 : evs.length ≤ c0) (hC1 : Kd.C k82 w A1 gaps.length gaps) (hc1 : gaps.length ≤ c1) (h : tightR evs gaps = some (R, r)) :
  Calls Tryz.prog 14 #[.agg #[.slice A0 evs.length c0, .slice A1 gaps.length c1]] w fun e w' => TightPost (.slice A0 evs.length c0) (.slice A1 gaps.length c1) R r w e w' := by
 unfold tightR at h; obtain ⟨t, ht, h⟩ := Option.bind_eq_some_iff.mp h; have hb0 := Ba (Below.refl w.heap.size w) (.cells #[.slice A0 evs.length c0, .slice A1 gaps.length c1] 25); have hk0 := blk_new w (.cells #[.slice A0 evs.length c0, .slice A1 gaps.length c1] 25); have HIs := Aa (skew_isHist.calls 1000 A0 c0 evs A1 c1 gaps t _ (Kd.C_below hC0 hb0) hc0 (Kd.C_below hC1 hb0) hc1 ht); have x0 := cell_at hk0 0 (.slice A0 evs.length c0) rfl; have x1 := cell_at hk0 1 (.slice A1 gaps.length c1) rfl; have HB0 := Aa hb0; have HK0 := Aa hk0; clear hb0 hk0 ht
 cases t with
 | false =>
  rw [if_neg (by simp)] at h; simp only [Option.some.injEq, Prod.mk.injEq] at h; obtain ⟨rfl, rfl⟩ := h
  go_enter Tryz.func14, Tryz.ntmps14
  go_wp2_with (go_at_call 12; refine HIs.out.mono ?_; rintro e w1 ⟨rfl, hb⟩; have HB1 := Aa (Bp HB0.out hb); clear hb)
  go_ret2
  exact ⟨none, rfl, fun B h => (by cases h), fun _ => (by decide), fun B h => (by cases h), HB1.out⟩
 | true =>
  rw [if_pos rfl] at h
  by_cases hok : histOk evs gaps
  ·rw [if_pos hok] at h; obtain ⟨fs, hfs, hbp⟩ := facts_ex evs gaps hok; have hb2 := hbp (fun _ => false)
   go_enter Tryz.func14, Tryz.ntmps14
   go_wp2_with fail
   refine HIs.out.mono ?_; rintro e w1 ⟨rfl, hb⟩; have HB1 := Aa (Bp HB0.out hb); have hk1 := blk_below HK0.out hb; have y0 := cell_at hk1 0 (.slice A0 evs.length c0) rfl; have y1 := cell_at hk1 1 (.slice A1 gaps.length c1) rfl; have HC := Aa (bind_calls A0 A1 c0 c1 evs gaps fs hfs none (fun _ => false) w1 (Kd.C_below hC0 HB1.out) (Kd.C_below hC1 HB1.out) hok.1 hok.2.1 (fun W _ k h0 h1 => look_nil W k h0 h1)); clear hb HIs x0 x1 hk1
   go_wp2_with (go_at_call 48; refine HC.out.mono ?_; rintro e w2 ⟨rfl, hbd, hb⟩; have HBd := Aa hbd; have HB2 := Aa (Bp HB1.out hb); have HT := Aa (tighten_calls _ w1.heap.size _ _ _ _ hbd (by omega)); clear hbd hb HC)
   cases hT : tightenF (bindP (fun _ => false) (saidL evs gaps)) with
   | none =>
    rw [hT] at h; simp only [Option.some.injEq, Prod.mk.injEq] at h; obtain ⟨rfl, rfl⟩ := h; have ht := HT.out; rw [hb2, hT] at ht; have HT2 := Aa ht; clear ht HT hb2 hbp; refine HT2.out.mono ?_; rintro e w3 ⟨rfl, _, hb⟩; have HB3 := Aa (HB2.out.trans (below_weak hb HB1.out.size)); clear hb HT2; go_wp2; go_ret2
    exact ⟨none, rfl, fun B h => (by cases h), fun _ => (by decide), fun B h => (by cases h), HB3.out⟩
   | some B =>
    rw [hT] at h; simp only [Option.some.injEq, Prod.mk.injEq] at h; obtain ⟨rfl, rfl⟩ := h; have ht := HT.out; rw [hb2, hT] at ht; have HT2 := Aa ht; clear ht HT hb2 hbp; refine HT2.out.mono ?_; rintro e w3 ⟨rfl, hbd, hb⟩; have HB3 := Aa (HB2.out.trans (below_weak hb HB1.out.size)); have HD := Aa (hbd B rfl); clear hb HT2 hbd; go_wp2; go_ret2; exact ⟨some (w1.heap.size + 2), rfl, fun B' h => (by cases h; exact ⟨_, rfl, (by have := HB1.out.size; omega), HD.out⟩), fun h => (by cases h), fun _ _ => rfl, HB3.out⟩
  ·rw [if_neg hok] at h; cases h
end
section
def In (i : Int) : Prop := 0 ≤ i ∧ i < 11
instance (i : Int) : Decidable (In i) := inferInstanceAs (Decidable (0 ≤ i ∧ i < 11))
structure BInv (M : Int) (B : Int → Int → Int) : Prop where
 diag : ∀ i, In i → B i i = 0
 bd : ∀ i j, In i → In j → B i j = FREE ∨ (-M ≤ B i j ∧ B i j ≤ M)
 sym : ∀ i j, In i → In j → B i j ≠ FREE → B j i ≠ FREE
def Sat (B : Int → Int → Int) (t : Int → Int) : Prop := ∀ i j, In i → In j → B i j ≠ FREE → t j - t i ≤ B i j
def ph (k : Int) (B : Int → Int → Int) (i j : Int) : Int := if B i k = FREE ∨ B k j = FREE then B i j else mn (B i j) (B i k + B k j)
theorem mn_le1 (x y : Int) : mn x y ≤ x := by rw [mn_eq]; omega
theorem mn_le2 (x y : Int) : mn x y ≤ y := by rw [mn_eq]; omega
theorem mn_or (x y : Int) : mn x y = x ∨ mn x y = y := by rw [mn_eq]; omega
theorem w64_id {x : Int} (h : -549755813888 ≤ x) (h' : x ≤ 549755813888) : wrap64 x = x := by unfold wrap64; omega
section
variable {M : Int} {B : Int → Int → Int}
theorem ph_col (h : BInv M B) (hM : M ≤ 274877906944) {k i : Int} (hk : In k) (hi : In i) : ph k B i k = B i k := by
 unfold ph
 split
 ·rfl
 ·rw [h.diag k hk, Int.add_zero]; rcases mn_or (B i k) (B i k) with e | e <;> exact e
theorem ph_row (h : BInv M B) (hM : M ≤ 274877906944) {k j : Int} (hk : In k) (hj : In j) : ph k B k j = B k j := by
 unfold ph
 split
 ·rfl
 ·rw [h.diag k hk, Int.zero_add]; rcases mn_or (B k j) (B k j) with e | e <;> exact e
theorem ph_le (h : BInv M B) (hM : M ≤ 274877906944) {k i j : Int} (hk : In k) (hi : In i) (hj : In j) : ph k B i j ≠ FREE → (B i j ≠ FREE → ph k B i j ≤ B i j) := by
 intro _ _; unfold ph
 split
 ·exact Int.le_refl _
 ·exact mn_le1 _ _
theorem ph_free (h : BInv M B) (hM : M ≤ 274877906944) {k i j : Int} (hk : In k) (hi : In i) (hj : In j) : ph k B i j = FREE ↔ B i j = FREE ∧ (B i k = FREE ∨ B k j = FREE) := by
 unfold ph
 by_cases c : B i k = FREE ∨ B k j = FREE
 ·rw [if_pos c]; exact ⟨fun h => ⟨h, c⟩, fun h => h.1⟩
 ·rw [if_neg c]; have c1 := h.bd i k hi hk; have c2 := h.bd k j hk hj; have c3 := h.bd i j hi hj; have e := mn_eq (B i j) (B i k + B k j); constructor
  ·intro hf; exfalso; rw [e] at hf; unfold FREE at *; omega
  ·intro hf; exact absurd hf.2 c
theorem ph_val (h : BInv M B) (hM : M ≤ 274877906944) {k i j : Int} (hk : In k) (hi : In i) (hj : In j) (a : B i k ≠ FREE) (b : B k j ≠ FREE) : ph k B i j = mn (B i j) (B i k + B k j) := by
 unfold ph; rw [if_neg (fun c => c.elim a b)]
theorem ph_bd (h : BInv M B) (hM : M ≤ 274877906944) {k i j : Int} (hk : In k) (hi : In i) (hj : In j) : ph k B i j = FREE ∨ (-(2 * M) ≤ ph k B i j ∧ ph k B i j ≤ 2 * M) := by
 have c1 := h.bd i k hi hk; have c2 := h.bd k j hk hj; have c3 := h.bd i j hi hj; have hd := h.bd i i hi hi; rw [h.diag i hi] at hd
 have h0 : (0 : Int) ≤ M := by unfold FREE at hd; omega
 unfold ph
 by_cases c : B i k = FREE ∨ B k j = FREE
 ·rw [if_pos c]
  rcases c3 with c3 | c3
  ·exact .inl c3
  ·right; omega
 ·rw [if_neg c, mn_eq]; right
  have a := fun hh => c (.inl hh)
  have b := fun hh => c (.inr hh)
  have c1 := c1.resolve_left a; have c2 := c2.resolve_left b; unfold FREE at *; omega
theorem jN_eq (h : BInv M B) (hM : M ≤ 274877906944) {D : Int → Int → Int} {k i : Int} (hk : In k) (hi : In i) (hr : ∀ c, In c → D k c = B k c) (hr2 : ∀ c, In c → D i c = B i c) (hf : B i k ≠ FREE) :
  ∀ n : Nat, n ≤ 11 → jN k i D n = fun (a c : Int) => if a = i ∧ 0 ≤ c ∧ c < n then ph k B i c else D a c
 | 0, _ => by funext a c; rw [if_neg (by omega)]; rfl
 | n + 1, hn => by
  have ih := jN_eq h hM hk hi hr hr2 hf n (by omega); show stepJ k i n (jN k i D n) = _
  have hnI : In (n : Int) := ⟨by omega, by omega⟩
  have hc := ph_col h hM hk hi
  have ekn : jN k i D n k n = B k n := by rw [ih]; show (if _ then _ else _) = _; rw [if_neg (by omega)]; exact hr n hnI
  have ein : jN k i D n i n = B i n := by rw [ih]; show (if _ then _ else _) = _; rw [if_neg (by omega)]; exact hr2 n hnI
  have eik : jN k i D n i k = B i k := by
   rw [ih]; show (if _ then _ else _) = _
   by_cases c : 0 ≤ k ∧ k < n
   ·rw [if_pos ⟨rfl, c⟩]; exact hc
   ·rw [if_neg (by omega)]; exact hr2 k hk
  unfold stepJ
  by_cases c : B k n = FREE
  ·rw [if_pos (by rw [ekn]; exact c), ih]
   funext a b
   by_cases e : a = i ∧ b = (n : Int)
   ·obtain ⟨rfl, rfl⟩ := e; rw [if_neg (by omega), if_pos (by omega)]; unfold ph; rw [if_pos (.inr c)]; exact hr2 _ hnI
   ·show (if _ then _ else _) = _
    by_cases e2 : a = i ∧ 0 ≤ b ∧ b < (n : Int)
    ·rw [if_pos e2, if_pos (by omega)]
    ·rw [if_neg e2, if_neg (by omega)]
  ·rw [if_neg (by rw [ekn]; exact c), ekn, ein, eik]; have b1 := (h.bd i k hi hk).resolve_left hf; have b2 := (h.bd k n hk hnI).resolve_left c; rw [w64_id (by omega) (by omega), ← ph_val h hM hk hi hnI hf c, ih]
   funext a b
   unfold set2
   by_cases e : a = i ∧ b = (n : Int)
   ·obtain ⟨rfl, rfl⟩ := e; rw [if_pos ⟨rfl, rfl⟩, if_pos (by omega)]
   ·rw [if_neg e]; show (if _ then _ else _) = _
    by_cases e2 : a = i ∧ 0 ≤ b ∧ b < (n : Int)
    ·rw [if_pos e2, if_pos (by omega)]
    ·rw [if_neg e2, if_neg (by omega)]
theorem iN_eq (h : BInv M B) (hM : M ≤ 274877906944) {k : Int} (hk : In k) :
  ∀ n : Nat, n ≤ 11 → (∀ i : Int, 0 ≤ i → i < n → 0 ≤ ph k B i i) → iN k B n = some fun (a c : Int) => if (0 ≤ a ∧ a < n) ∧ In c then ph k B a c else B a c
 | 0, _, _ => by show some B = _; congr 1; funext a c; rw [if_neg (by omega)]
 | n + 1, hn, hp => by
  have ih := iN_eq h hM hk n (by omega) (fun i h0 h1 => hp i h0 (by omega)); show (iN k B n).bind (stepI k n) = _; rw [ih, Option.bind_some]
  have hnI : In (n : Int) := ⟨by omega, by omega⟩
  obtain ⟨D, hD⟩ : ∃ D : Int → Int → Int, (fun (a c : Int) => if (0 ≤ a ∧ a < n) ∧ In c then ph k B a c else B a c) = D := ⟨_, rfl⟩
  have hDv : ∀ a c, D a c = if (0 ≤ a ∧ a < n) ∧ In c then ph k B a c else B a c := fun a c => by rw [← hD]
  rw [hD]
  have hr : ∀ c, In c → D k c = B k c := fun c hc => by
   rw [hDv]; split
   ·exact ph_row h hM hk hc
   ·rfl
  have hr2 : ∀ c, In c → D n c = B n c := fun c hc => by rw [hDv, if_neg (by omega)]
  unfold stepI; rw [hr2 k hk]
  by_cases c : B n k = FREE
  ·rw [if_pos c]
   congr 1
   funext a b
   rw [hDv]
   by_cases e : a = (n : Int) ∧ In b
   ·obtain ⟨rfl, hb⟩ := e; rw [if_neg (by omega), if_pos ⟨by omega, hb⟩]; unfold ph; rw [if_pos (.inl c)]
   ·by_cases e2 : (0 ≤ a ∧ a < (n : Int)) ∧ In b
    ·rw [if_pos e2, if_pos ⟨by omega, e2.2⟩]
    ·rw [if_neg e2, if_neg (fun hh => by
      by_cases ea : a = (n : Int)
      ·exact e ⟨ea, hh.2⟩
      ·exact e2 ⟨by omega, hh.2⟩)]
  ·rw [if_neg c]; have hj := jN_eq h hM (D := D) hk hnI hr hr2 c 11 (Nat.le_refl _)
   have hnn : jN k n D 11 n n = ph k B n n := by
    rw [hj]; show (if _ then _ else _) = _; rw [if_pos ⟨rfl, by omega, by omega⟩]
   rw [hnn, if_neg (by have := hp n (by omega) (by omega); omega), hj]
   congr 1
   funext a b
   by_cases e : a = (n : Int) ∧ In b
   ·obtain ⟨rfl, hb⟩ := e; rw [if_pos ⟨rfl, hb.1, by have := hb.2; omega⟩, if_pos ⟨by omega, hb⟩]
   ·rw [if_neg (fun hh => e ⟨hh.1, hh.2.1, by have := hh.2.2; omega⟩), hDv]
    by_cases e2 : (0 ≤ a ∧ a < (n : Int)) ∧ In b
    ·rw [if_pos e2, if_pos ⟨by omega, e2.2⟩]
    ·rw [if_neg e2, if_neg (fun hh => by
      by_cases ea : a = (n : Int)
      ·exact e ⟨ea, hh.2⟩
      ·exact e2 ⟨by omega, hh.2⟩)]
theorem iN_nonneg (h : BInv M B) (hM : M ≤ 274877906944) {k : Int} (hk : In k) : ∀ (n : Nat) (D : Int → Int → Int), n ≤ 11 → iN k B n = some D → ∀ i : Int, 0 ≤ i → i < n → 0 ≤ ph k B i i
 | 0, _, _, _ => fun i h0 h1 => by omega
 | n + 1, D, hn, h0 => by
  intro i hi0 hi1; have hs : (iN k B n).bind (stepI k n) = some D := h0; obtain ⟨D', hD', hs⟩ := Option.bind_eq_some_iff.mp hs; have ih := iN_nonneg h hM hk n D' (by omega) hD'
  by_cases hlt : i < n
  ·exact ih i hi0 hlt
  ·obtain rfl : i = (n : Int) := by omega
   have hnI : In (n : Int) := ⟨by omega, by omega⟩
   have e := iN_eq h hM hk n (by omega) ih; rw [hD'] at e
   injection e with e
   have hr : ∀ c, In c → D' k c = B k c := fun c hc => by
    rw [e]; show (if _ then _ else _) = _
    split
    ·exact ph_row h hM hk hc
    ·rfl
   have hr2 : ∀ c, In c → D' n c = B n c := fun c hc => by rw [e]; show (if _ then _ else _) = _; rw [if_neg (by omega)]
   unfold stepI at hs; rw [hr2 k hk] at hs
   by_cases c : B n k = FREE
   ·unfold ph; rw [if_pos (.inl c), h.diag _ hnI]; exact Int.le_refl _
   ·rw [if_neg c] at hs; have hj := jN_eq h hM (D := D') hk hnI hr hr2 c 11 (Nat.le_refl _)
    have hnn : jN k n D' 11 n n = ph k B n n := by
     rw [hj]; show (if _ then _ else _) = _; rw [if_pos ⟨rfl, by omega, by omega⟩]
    rw [hnn] at hs
    by_cases hlt : ph k B n n < 0
    ·rw [if_pos hlt] at hs; cases hs
    ·omega
theorem ph_neg (h : BInv M B) (hM : M ≤ 274877906944) {k i : Int} (hk : In k) (hi : In i) (hn : ph k B i i < 0) : ¬ ∃ t, Sat B t := by
 rintro ⟨t, ht⟩; unfold ph at hn
 split at hn
 ·rw [h.diag i hi] at hn; omega
 ·rename_i c
  have a := ht i k hi hk (fun hh => c (.inl hh)); have b := ht k i hk hi (fun hh => c (.inr hh)); rw [h.diag i hi] at hn
  rcases mn_or 0 (B i k + B k i) with e | e <;> rw [e] at hn <;> omega
def Clo (B : Int → Int → Int) (n : Int) : Prop := ∀ k i j, In k → k < n → In i → In j → B i k ≠ FREE → B k j ≠ FREE → B i j ≠ FREE ∧ B i j ≤ B i k + B k j
def full (k : Int) (B : Int → Int → Int) : Int → Int → Int := fun a c => if (0 ≤ a ∧ a < ((11 : Nat) : Int)) ∧ In c then ph k B a c else B a c
theorem full_at {k i j : Int} (hi : In i) (hj : In j) : full k B i j = ph k B i j := if_pos ⟨⟨hi.1, by have := hi.2; omega⟩, hj⟩
theorem full_inv (h : BInv M B) (hM : M ≤ 274877906944) {k : Int} (hk : In k) (hp : ∀ i, In i → 0 ≤ ph k B i i) : BInv (2 * M) (full k B) := by
 refine ⟨fun i hi => ?_, fun i j hi hj => ?_, fun i j hi hj => ?_⟩
 ·rw [full_at hi hi]; have h1 := hp i hi; have hd := h.diag i hi; unfold ph at h1 ⊢
  split
  ·exact hd
  ·rename_i c
   rw [if_neg c, hd] at h1; rw [hd]; have := mn_le1 0 (B i k + B k i); omega
 ·rw [full_at hi hj]; exact ph_bd h hM hk hi hj
 ·rw [full_at hi hj, full_at hj hi]; intro h1 h2; have h2 := (ph_free h hM hk hj hi).mp h2; apply h1; rw [ph_free h hM hk hi hj]; refine ⟨Classical.byContradiction fun c => h.sym i j hi hj c h2.1, ?_⟩
  rcases h2.2 with e | e
  ·right; exact Classical.byContradiction fun c => h.sym k j hk hj c e
  ·left; exact Classical.byContradiction fun c => h.sym i k hi hk c e
theorem full_sat (h : BInv M B) (hM : M ≤ 274877906944) {k : Int} (hk : In k) (t : Int → Int) : Sat (full k B) t ↔ Sat B t := by
 constructor
 ·intro ht i j hi hj hf
  have hf' : ph k B i j ≠ FREE := fun hh => hf ((ph_free h hM hk hi hj).mp hh).1
  have a := ht i j hi hj (by rw [full_at hi hj]; exact hf'); rw [full_at hi hj] at a; have := ph_le h hM hk hi hj hf' hf; omega
 ·intro ht i j hi hj hf; rw [full_at hi hj] at hf ⊢
  by_cases c : B i k = FREE ∨ B k j = FREE
  ·have e : ph k B i j = B i j := by unfold ph; rw [if_pos c]
   rw [e] at hf ⊢; exact ht i j hi hj hf
  ·have a := ht i k hi hk (fun hh => c (.inl hh)); have b := ht k j hk hj (fun hh => c (.inr hh))
   have e : ph k B i j = mn (B i j) (B i k + B k j) := by unfold ph; rw [if_neg c]
   rw [e]
   by_cases d : B i j = FREE
   ·have b1 := (h.bd i k hi hk).resolve_left (fun hh => c (.inl hh)); have b2 := (h.bd k j hk hj).resolve_left (fun hh => c (.inr hh)); rw [d, mn_eq]; unfold FREE; omega
   ·have f := ht i j hi hj d
    rcases mn_or (B i j) (B i k + B k j) with e | e <;> rw [e] <;> omega
theorem full_clo (h : BInv M B) (hM : M ≤ 274877906944) {k : Int} (hk : In k) (hc : Clo B k) : Clo (full k B) (k + 1) := by
 intro m i j hm hmk hi hj; rw [full_at hi hm, full_at hm hj, full_at hi hj]
 by_cases e : m = k
 ·subst e; rw [ph_col h hM hm hi, ph_row h hM hm hj]; intro a b; refine ⟨fun hh => ((ph_free h hM hm hi hj).mp hh).2.elim a b, ?_⟩; rw [ph_val h hM hm hi hj a b]; exact mn_le2 _ _
 ·have hlt : m < k := by omega
  intro a b; have hkk := hc m k k hm hlt hk hk; rw [h.diag k hk] at hkk
  have A : (B i m ≠ FREE ∧ ph k B i m = B i m) ∨ (B i k ≠ FREE ∧ B k m ≠ FREE ∧ ph k B i m = B i k + B k m) := by
   by_cases c : B i k = FREE ∨ B k m = FREE
   ·have e : ph k B i m = B i m := by unfold ph; rw [if_pos c]
    exact .inl ⟨by rw [← e]; exact a, e⟩
   ·have c1 := fun hh => c (.inl hh)
    have c2 := fun hh => c (.inr hh)
    have e := ph_val h hM hk hi hm c1 c2
    by_cases d : B i m = FREE
    ·right; refine ⟨c1, c2, ?_⟩; rw [e, d, mn_eq]; have b1 := (h.bd i k hi hk).resolve_left c1; have b2 := (h.bd k m hk hm).resolve_left c2; unfold FREE; omega
    ·rcases mn_or (B i m) (B i k + B k m) with f | f
     ·left; exact ⟨d, e.trans f⟩
     ·right; exact ⟨c1, c2, e.trans f⟩
  have A' : (B m j ≠ FREE ∧ ph k B m j = B m j) ∨ (B m k ≠ FREE ∧ B k j ≠ FREE ∧ ph k B m j = B m k + B k j) := by
   by_cases c : B m k = FREE ∨ B k j = FREE
   ·have e : ph k B m j = B m j := by unfold ph; rw [if_pos c]
    exact .inl ⟨by rw [← e]; exact b, e⟩
   ·have c1 := fun hh => c (.inl hh)
    have c2 := fun hh => c (.inr hh)
    have e := ph_val h hM hk hm hj c1 c2
    by_cases d : B m j = FREE
    ·right; refine ⟨c1, c2, ?_⟩; rw [e, d, mn_eq]; have b1 := (h.bd m k hm hk).resolve_left c1; have b2 := (h.bd k j hk hj).resolve_left c2; unfold FREE; omega
    ·rcases mn_or (B m j) (B m k + B k j) with f | f
     ·left; exact ⟨d, e.trans f⟩
     ·right; exact ⟨c1, c2, e.trans f⟩
  have viaK : B i k ≠ FREE → B k j ≠ FREE → ph k B i j ≠ FREE ∧ ph k B i j ≤ B i k + B k j := fun c1 c2 => by
   refine ⟨fun hh => ((ph_free h hM hk hi hj).mp hh).2.elim c1 c2, ?_⟩; rw [ph_val h hM hk hi hj c1 c2]; exact mn_le2 _ _
  rcases A with ⟨a1, a2⟩ | ⟨a1, a2, a3⟩
  ·rcases A' with ⟨b1, b2⟩ | ⟨b1, b2, b3⟩
   ·have w := hc m i j hm hlt hi hj a1 b1
    have f : ph k B i j ≠ FREE := fun hh => w.1 ((ph_free h hM hk hi hj).mp hh).1
    have := ph_le h hM hk hi hj f w.1; exact ⟨f, by omega⟩
   ·have w := hc m i k hm hlt hi hk a1 b1; have v := viaK w.1 b2; exact ⟨v.1, by omega⟩
  ·rcases A' with ⟨b1, b2⟩ | ⟨b1, b2, b3⟩
   ·have w := hc m k j hm hlt hk hj a2 b1; have v := viaK a1 w.1; exact ⟨v.1, by omega⟩
   ·have v := viaK a1 b2; have w := hkk a2 b1; exact ⟨v.1, by omega⟩
end
def pow2 : Nat → Int
 | 0 => 1
 | n + 1 => 2 * pow2 n
theorem kN_spec {M : Int} {B : Int → Int → Int} (h : BInv M B) (h0 : 0 ≤ M) (hM : M ≤ 134217728) : ∀ n : Nat, n ≤ 11 →
  (∀ C, kN B n = some C → BInv (pow2 n * M) C ∧ (∀ t, Sat C t ↔ Sat B t) ∧ Clo C n) ∧ (kN B n = none → ¬ ∃ t, Sat B t)
 | 0, _ => ⟨fun C hC => by
   injection hC with hC
   subst hC
   exact ⟨by show BInv (1 * M) B; rw [Int.one_mul]; exact h, fun t => Iff.rfl, fun k i j hk hlt => by have := hk.1; omega⟩, fun hC => by cases hC⟩
 | n + 1, hn => by
  obtain ⟨ih1, ih2⟩ := kN_spec h h0 hM n (by omega)
  have hp2 : ∀ m : Nat, m ≤ 11 → pow2 m * M ≤ 274877906944 ∧ 0 ≤ pow2 m * M := by
   intro m hm
   have : m = 0 ∨ m = 1 ∨ m = 2 ∨ m = 3 ∨ m = 4 ∨ m = 5 ∨ m = 6 ∨ m = 7 ∨ m = 8 ∨ m = 9 ∨ m = 10 ∨ m = 11 := by omega
   rcases this with e | e | e | e | e | e | e | e | e | e | e | e <;> subst e <;> simp only [pow2] <;> omega
  have hkn : kN B (n + 1) = (kN B n).bind fun C => iN n C 11 := rfl
  have hnI : In (n : Int) := ⟨by omega, by omega⟩
  cases hC : kN B n with
  | none =>
   rw [hkn, hC]
   exact ⟨fun C h => (by cases h), fun _ => ih2 hC⟩
  | some C =>
   obtain ⟨a1, a2, a3⟩ := ih1 C hC; have hMn := (hp2 n (by omega)).1; rw [hkn, hC, Option.bind_some]
   by_cases hp : ∀ i, In i → 0 ≤ ph n C i i
   ·have e := iN_eq a1 hMn hnI 11 (Nat.le_refl _) (fun i h0 h1 => hp i ⟨h0, by omega⟩); rw [e]; refine ⟨fun D hD => ?_, fun hD => by cases hD⟩
    injection hD with hD
    subst hD; refine ⟨?_, fun t => ?_, ?_⟩
    ·have := full_inv a1 hMn hnI hp; rw [show pow2 (n + 1) * M = 2 * (pow2 n * M) by show 2 * pow2 n * M = _; rw [Int.mul_assoc]]; exact this
    ·exact (full_sat a1 hMn hnI t).trans (a2 t)
    ·have := full_clo a1 hMn hnI a3; rw [show ((n + 1 : Nat) : Int) = (n : Int) + 1 by omega]; exact this
   ·have hnot : ¬ ∃ t, Sat B t := by
     rintro ⟨t, ht⟩
     refine hp fun i hi => Int.not_lt.mp fun hlt => ph_neg a1 hMn hnI hi hlt ⟨t, (a2 t).mpr ht⟩
    refine ⟨fun D hD => ?_, fun _ => hnot⟩; exact absurd (fun i hi => iN_nonneg a1 hMn hnI 11 D (Nat.le_refl _) hD i hi.1 (by have := hi.2; omega)) hp
end
section
theorem rowN_at (i : Int) (B : Int → Int → Int) : ∀ n : Nat, rowN i B n = fun (a c : Int) => if a = i ∧ 0 ≤ c ∧ c < n ∧ c ≠ i then FREE else B a c
 | 0 => by funext a c; rw [if_neg (by omega)]; rfl
 | n + 1 => by
  show (if i = n then rowN i B n else set2 (rowN i B n) i n FREE) = _; rw [rowN_at i B n]
  funext a c
  by_cases hi : i = n
  ·rw [if_pos hi]; show (if _ then _ else _) = _
   by_cases h : a = i ∧ 0 ≤ c ∧ c < n ∧ c ≠ i
   ·rw [if_pos h, if_pos (by omega)]
   ·rw [if_neg h, if_neg (by omega)]
  ·rw [if_neg hi]; unfold set2
   by_cases h1 : a = i ∧ c = n
   ·rw [if_pos h1, if_pos (by omega)]
   ·rw [if_neg h1]; show (if _ then _ else _) = _
    by_cases h : a = i ∧ 0 ≤ c ∧ c < n ∧ c ≠ i
    ·rw [if_pos h, if_pos (by omega)]
    ·rw [if_neg h, if_neg (by omega)]
theorem fillN_at : ∀ n : Nat, fillN n = fun (a c : Int) => if 0 ≤ a ∧ a < n ∧ 0 ≤ c ∧ c < 11 ∧ c ≠ a then FREE else 0
 | 0 => by funext a c; rw [if_neg (by omega)]; rfl
 | n + 1 => by
  show rowN n (fillN n) 11 = _; rw [rowN_at, fillN_at n]
  funext a c
  by_cases h : a = (n : Int) ∧ 0 ≤ c ∧ c < ((11 : Nat) : Int) ∧ c ≠ (n : Int)
  ·rw [if_pos h, if_pos (by omega)]
  ·rw [if_neg h]; show (if _ then _ else _) = _
   by_cases h2 : 0 ≤ a ∧ a < n ∧ 0 ≤ c ∧ c < 11 ∧ c ≠ a
   ·rw [if_pos h2, if_pos (by omega)]
   ·rw [if_neg h2, if_neg (by omega)]
theorem fill_inv : BInv 2000000 (fillN 11) := by
 rw [fillN_at]; refine ⟨fun i hi => ?_, fun i j hi hj => ?_, fun i j hi hj => ?_⟩
 ·exact if_neg (by omega)
 ·show (if _ then _ else _) = _ ∨ _
  split
  ·exact .inl rfl
  ·right; omega
 ·show (if _ then _ else _) ≠ _ → (if _ then _ else _) ≠ _; intro h; obtain ⟨i0, i1⟩ := hi; obtain ⟨j0, j1⟩ := hj
  by_cases e : i = j
  ·rw [if_neg (by omega)]; unfold FREE; omega
  ·rw [if_pos (by omega)] at h; exact absurd rfl h
theorem fill_sat (t : Int → Int) : Sat (fillN 11) t := by
 rw [fillN_at]; intro i j hi hj h; obtain ⟨i0, i1⟩ := hi; obtain ⟨j0, j1⟩ := hj
 by_cases e : i = j
 ·subst e
  show _ ≤ (if _ then _ else _)
  rw [if_neg (by omega)]; omega
 ·exact absurd (if_pos (by omega)) h
structure FactOk (f : S61) : Prop where
 i0 : In f.f0
 i1 : In f.f1
 ne : f.f0 ≠ f.f1
 lo : -2000000 ≤ f.f2 ∧ f.f2 ≤ 2000000
 hi : -2000000 ≤ f.f3 ∧ f.f3 ≤ 2000000
def Keeps (f : S61) (t : Int → Int) : Prop := f.f2 ≤ t f.f1 - t f.f0 ∧ t f.f1 - t f.f0 ≤ f.f3
section
variable {B : Int → Int → Int} {f : S61}
theorem say_at (hf : FactOk f) (a c : Int) : sayF B f a c = if a = f.f1 ∧ c = f.f0 then mn (B f.f1 f.f0) (-f.f2) else if a = f.f0 ∧ c = f.f1 then mn (B f.f0 f.f1) f.f3 else B a c := by
 have hne := hf.ne; have hlo := hf.lo
 have hw : wrap64 (-f.f2) = -f.f2 := by unfold wrap64; omega
 have e : sayF B f = set2 (set2 B f.f0 f.f1 (mn (B f.f0 f.f1) f.f3)) f.f1 f.f0 (mn (set2 B f.f0 f.f1 (mn (B f.f0 f.f1) f.f3) f.f1 f.f0) (wrap64 (-f.f2))) := rfl; have e2 : set2 B f.f0 f.f1 (mn (B f.f0 f.f1) f.f3) f.f1 f.f0 = B f.f1 f.f0 := if_neg (by omega); rw [e, hw, e2]; rfl
theorem say_inv (h : BInv 2000000 B) (hf : FactOk f) : BInv 2000000 (sayF B f) := by
 have hne := hf.ne; have hlo := hf.lo; have hhi := hf.hi; have b1 := h.bd f.f1 f.f0 hf.i1 hf.i0; have b2 := h.bd f.f0 f.f1 hf.i0 hf.i1
 have v1 : -2000000 ≤ mn (B f.f1 f.f0) (-f.f2) ∧ mn (B f.f1 f.f0) (-f.f2) ≤ 2000000 := by rw [mn_eq]; unfold FREE at b1; omega
 have v2 : -2000000 ≤ mn (B f.f0 f.f1) f.f3 ∧ mn (B f.f0 f.f1) f.f3 ≤ 2000000 := by rw [mn_eq]; unfold FREE at b2; omega
 have n1 : mn (B f.f1 f.f0) (-f.f2) ≠ FREE := by unfold FREE; omega
 have n2 : mn (B f.f0 f.f1) f.f3 ≠ FREE := by unfold FREE; omega
 refine ⟨fun i hi => ?_, fun i j hi hj => ?_, fun i j hi hj => ?_⟩
 ·rw [say_at hf, if_neg (by omega), if_neg (by omega)]; exact h.diag i hi
 ·rw [say_at hf]
  split
  ·exact .inr v1
  ·split
   ·exact .inr v2
   ·exact h.bd i j hi hj
 ·rw [say_at hf, say_at hf]; intro hh
  by_cases c1 : j = f.f1 ∧ i = f.f0
  ·rw [if_pos c1]; exact n1
  ·rw [if_neg c1]
   by_cases c2 : j = f.f0 ∧ i = f.f1
   ·rw [if_pos c2]; exact n2
   ·rw [if_neg c2]; rw [if_neg (by omega), if_neg (by omega)] at hh; exact h.sym i j hi hj hh
theorem say_sat (h : BInv 2000000 B) (hf : FactOk f) (t : Int → Int) : Sat (sayF B f) t ↔ Sat B t ∧ Keeps f t := by
 have hne := hf.ne; have hlo := hf.lo; have hhi := hf.hi; have b1 := h.bd f.f1 f.f0 hf.i1 hf.i0; have b2 := h.bd f.f0 f.f1 hf.i0 hf.i1
 have v1 : mn (B f.f1 f.f0) (-f.f2) ≤ 2000000 := by rw [mn_eq]; omega
 have v2 : mn (B f.f0 f.f1) f.f3 ≤ 2000000 := by rw [mn_eq]; omega
 have n1 : mn (B f.f1 f.f0) (-f.f2) ≠ FREE := by unfold FREE; omega
 have n2 : mn (B f.f0 f.f1) f.f3 ≠ FREE := by unfold FREE; omega
 have l1 := mn_le1 (B f.f1 f.f0) (-f.f2); have l2 := mn_le2 (B f.f1 f.f0) (-f.f2); have m1 := mn_le1 (B f.f0 f.f1) f.f3; have m2 := mn_le2 (B f.f0 f.f1) f.f3; constructor
 ·intro ht; refine ⟨fun i j hi hj hb => ?_, ?_⟩
  ·have := ht i j hi hj; rw [say_at hf] at this
   by_cases c1 : i = f.f1 ∧ j = f.f0
   ·rw [if_pos c1] at this; have := this n1; obtain ⟨rfl, rfl⟩ := c1; omega
   ·rw [if_neg c1] at this
    by_cases c2 : i = f.f0 ∧ j = f.f1
    ·rw [if_pos c2] at this; have := this n2; obtain ⟨rfl, rfl⟩ := c2; omega
    ·rw [if_neg c2] at this; exact this hb
  ·have a := ht f.f1 f.f0 hf.i1 hf.i0; have b := ht f.f0 f.f1 hf.i0 hf.i1; rw [say_at hf, if_pos ⟨rfl, rfl⟩] at a; rw [say_at hf, if_neg (by omega), if_pos ⟨rfl, rfl⟩] at b; have a := a n1; have b := b n2; exact ⟨by omega, by omega⟩
 ·rintro ⟨ht, k1, k2⟩ i j hi hj hb; rw [say_at hf] at hb ⊢
  by_cases c1 : i = f.f1 ∧ j = f.f0
  ·rw [if_pos c1]; obtain ⟨rfl, rfl⟩ := c1
   by_cases c : B f.f1 f.f0 = FREE
   ·rw [c, mn_eq]; unfold FREE; omega
   ·have := ht _ _ hi hj c; rw [mn_eq]; omega
  ·rw [if_neg c1] at hb ⊢
   by_cases c2 : i = f.f0 ∧ j = f.f1
   ·rw [if_pos c2]; obtain ⟨rfl, rfl⟩ := c2
    by_cases c : B f.f0 f.f1 = FREE
    ·rw [c, mn_eq]; unfold FREE; omega
    ·have := ht _ _ hi hj c; rw [mn_eq]; omega
   ·rw [if_neg c2] at hb ⊢; exact ht i j hi hj hb
end
theorem fold_spec (om : Int → Bool) : ∀ (L : List (Int × S61)) (B : Int → Int → Int), BInv 2000000 B → (∀ x ∈ L, FactOk x.2) →
  BInv 2000000 (L.foldl (fun B x => if om x.1 = true then B else sayF B x.2) B) ∧ ∀ t, Sat (L.foldl (fun B x => if om x.1 = true then B else sayF B x.2) B) t ↔ Sat B t ∧ ∀ x ∈ L, om x.1 = false → Keeps x.2 t
 | [], B, h, _ => ⟨h, fun t => ⟨fun ht => ⟨ht, fun x hx => by cases hx⟩, fun ht => ht.1⟩⟩
 | x :: L, B, h, hL => by
  have hx := hL x List.mem_cons_self
  have hr := fun y hy => hL y (List.mem_cons_of_mem _ hy)
  rw [List.foldl_cons]
  by_cases c : om x.1 = true
  ·rw [if_pos c]; obtain ⟨a, b⟩ := fold_spec om L B h hr; refine ⟨a, fun t => (b t).trans ⟨fun k => ⟨k.1, fun y hy ho => ?_⟩, fun k => ⟨k.1, fun y hy => k.2 y (List.mem_cons_of_mem _ hy)⟩⟩⟩
   rcases List.mem_cons.mp hy with rfl | hy
   ·rw [c] at ho; cases ho
   ·exact k.2 y hy ho
  ·rw [if_neg c]; obtain ⟨a, b⟩ := fold_spec om L (sayF B x.2) (say_inv h hx) hr; refine ⟨a, fun t => (b t).trans ?_⟩; rw [say_sat h hx]; constructor
   ·rintro ⟨⟨k1, k2⟩, k3⟩; refine ⟨k1, fun y hy ho => ?_⟩
    rcases List.mem_cons.mp hy with rfl | hy
    ·exact k2
    ·exact k3 y hy ho
   ·rintro ⟨k1, k2⟩; exact ⟨⟨k1, k2 x List.mem_cons_self (by cases h : om x.1 with | true => exact absurd h c | false => rfl)⟩, fun y hy => k2 y (List.mem_cons_of_mem _ hy)⟩
theorem bind_spec (om : Int → Bool) (L : List (Int × S61)) (hL : ∀ x ∈ L, FactOk x.2) : BInv 2000000 (bindP om L) ∧ ∀ t, Sat (bindP om L) t ↔ ∀ x ∈ L, om x.1 = false → Keeps x.2 t := by
 obtain ⟨a, b⟩ := fold_spec om L (fillN 11) fill_inv hL; exact ⟨a, fun t => (b t).trans ⟨fun h => h.2, fun h => ⟨fill_sat t, h⟩⟩⟩
def repN (C : Int → Int → Int) (j : Int) : Nat → Int
 | 0 => 0
 | n + 1 => if C n j = FREE then repN C j n else n
theorem rep_in (C : Int → Int → Int) (j : Int) : ∀ n : Nat, n ≤ 11 → In (repN C j n)
 | 0, _ => ⟨by show (0 : Int) ≤ 0; omega, by show (0 : Int) < 11; omega⟩
 | n + 1, hn => by
  unfold repN
  split
  ·exact rep_in C j n (by omega)
  ·exact ⟨by omega, by omega⟩
theorem rep_ne (C : Int → Int → Int) (j : Int) : ∀ n : Nat, (∃ m : Int, 0 ≤ m ∧ m < n ∧ C m j ≠ FREE) → C (repN C j n) j ≠ FREE
 | 0, ⟨m, h0, h1, _⟩ => by omega
 | n + 1, ⟨m, h0, h1, h2⟩ => by
  unfold repN
  split
  ·rename_i c
   refine rep_ne C j n ⟨m, h0, ?_, h2⟩
   have : m ≠ (n : Int) := fun e => h2 (e ▸ c)
   omega
  ·rename_i c; exact c
theorem rep_congr (C : Int → Int → Int) (i j : Int) : ∀ n : Nat, n ≤ 11 → (∀ m, In m → (C m i = FREE ↔ C m j = FREE)) → repN C i n = repN C j n
 | 0, _, _ => rfl
 | n + 1, hn, h => by
  unfold repN; have := h n ⟨by omega, by omega⟩
  by_cases c : C n i = FREE
  ·rw [if_pos c, if_pos (this.mp c)]; exact rep_congr C i j n (by omega) h
  ·rw [if_neg c, if_neg (fun hh => c (this.mpr hh))]
def timesOf (C : Int → Int → Int) (r j : Int) : Int := if C r j = FREE then C (repN C j 11) j else C r j
theorem times_sat {M : Int} {C : Int → Int → Int} (h : BInv M C) (hc : Clo C 11) {r : Int} (hr : In r) : Sat C (timesOf C r) := by
 intro i j hi hj hf; unfold timesOf
 by_cases c : C r i = FREE
 ·have cj : C r j = FREE := Classical.byContradiction fun cj => (hc j r i hj hj.2 hr hi cj (h.sym i j hi hj hf)).1 c
  rw [if_pos c, if_pos cj]; have e := rep_congr C i j 11 (Nat.le_refl _) (fun m hm => ⟨fun hh => Classical.byContradiction fun cj => (hc j m i hj hj.2 hm hi cj (h.sym i j hi hj hf)).1 hh, fun hh => Classical.byContradiction fun ci => (hc i m j hi hi.2 hm hj ci hf).1 hh⟩); have hp := rep_in C i 11 (Nat.le_refl _); have hne := rep_ne C i 11 ⟨i, hi.1, by have := hi.2; omega, by rw [h.diag i hi]; unfold FREE; omega⟩; rw [← e]; have := (hc i _ j hi hi.2 hp hj hne hf).2; omega
 ·have w := hc i r j hi hi.2 hr hj c hf; rw [if_neg c, if_neg w.1]; omega
theorem times_at {C : Int → Int → Int} {r j : Int} (hf : C r j ≠ FREE) : timesOf C r j = C r j := if_neg hf
theorem clo_last {M : Int} {C : Int → Int → Int} (h : BInv M C) (hc : Clo C 11) {r : Int} (hr : In r) : ∃ t, Sat C t ∧ t r = 0 ∧ ∀ j, In j → C r j ≠ FREE → t j = C r j :=
 ⟨timesOf C r, times_sat h hc hr, by
  have e := h.diag r hr
  rw [times_at (by rw [e]; unfold FREE; omega)]; exact e, fun j _ hf => times_at hf⟩
theorem tighten_iff {B : Int → Int → Int} (h : BInv 2000000 B) : (tightenF B).isSome = true ↔ ∃ t, Sat B t := by
 obtain ⟨a, b⟩ := kN_spec h (by omega) (by omega) 11 (Nat.le_refl _); unfold tightenF
 cases hC : kN B 11 with
 | none => exact ⟨fun h => (by cases h), fun h => absurd h (b hC)⟩
 | some C =>
  obtain ⟨h1, h2, h3⟩ := a C hC; exact ⟨fun _ => ⟨timesOf C 0, (h2 _).mp (times_sat h1 h3 ⟨by omega, by omega⟩)⟩, fun _ => rfl⟩
theorem tighten_some {B C : Int → Int → Int} (h : BInv 2000000 B) (hC : tightenF B = some C) : BInv 4096000000 C ∧ (∀ t, Sat C t ↔ Sat B t) ∧ Clo C 11 := by
 obtain ⟨a, b⟩ := kN_spec h (by omega) (by omega) 11 (Nat.le_refl _); exact a C hC
end
section
def farF (num : S65 → Int) (bey : Int → Int → Bool) (b : Int) (l : List S65) : Int := l.foldl (fun b x => if bey (num x) b = true then num x else b) b
theorem farF_cons (num : S65 → Int) (bey : Int → Int → Bool) (b : Int) (l : List S65) (i : Int) (h0 : 0 ≤ i) (h1 : i < l.length) :
  farF num bey b (l.drop i.toNat) = farF num bey (if bey (num (rd_T65 l i)) b = true then num (rd_T65 l i) else b) (l.drop (i + 1).toNat) := by
 have hl : i.toNat < l.length := by omega
 have e : (i + 1).toNat = i.toNat + 1 := by omega
 have er : rd_T65 l i = l[i.toNat] := by simp [rd_T65, List.getD_eq_getElem?_getD, hl]
 rw [List.drop_eq_getElem_cons hl, e, er]; rfl
set_option maxHeartbeats 2000000 in
set_option maxRecDepth 100000 in
theorem far_vote (A0 : Option Addr) (c0 : Nat) (l0 : List S65) (b0 : Int) (w : World) (cb : Nat) (Inv : World → Prop) (num : S65 → Int) (hI : Inv w) (hs : ∀ W W', Inv W → Below W.heap.size W W' → Inv W')
  (hC : ∀ W, Inv W → Kd.C k65 W A0 l0.length l0)
  (hn : ∀ (s : S65) (W : World), Inv W → Calls Tryz.prog 61 #[.agg #[.int .i64 s.f0, .int .i64 s.f1], .pointer (some ⟨cb, 0, none⟩)] W fun e W' => e = .returned (.int .i64 (num s)) ∧ Below W.heap.size W W') :
  Calls Tryz.prog 60 #[.int .i64 b0, .slice A0 l0.length c0, .func (.func 61) #[] #[.pointer (some ⟨cb, 0, none⟩)], .func (.func 62) #[] #[]] w fun e w' => e = .returned (.int .i64 (farF num (fun a b => decide (a > b)) b0 l0)) ∧ Inv w' ∧ Below w.heap.size w w' := by
 have hu27 := Tryz.underlying65; have HM := Aa (hC _ hI).2.1; have HI := Aa hI; have HS := Aa hs; have HC := Aa hC; have HN := Aa hn; clear hI hs hC hn; have hm := HM.out
 go_enter Tryz.func60, Tryz.ntmps60
 go_wp2
 go_loopw [0, 10, 14] (fun v0 _ v14 W => ∃ (i b : Int), 0 ≤ i ∧ i ≤ l0.length ∧ v0 = .int .i64 b ∧ v14 = .int .i64 i ∧ Aside0 (farF num (fun a b => decide (a > b)) b (l0.drop i.toNat) = farF num (fun a b => decide (a > b)) b0 l0) ∧ Aside0 (Inv W) ∧ Aside0 (Below w.heap.size w W)) (fun _ _ v _ => l0.length - (intOf v).toNat)
 case atStart => exact ⟨0, b0, by omega, by omega, rfl, rfl, ⟨rfl⟩, HI, ⟨Below.refl _ _⟩⟩
 case round =>
  obtain ⟨i, b, h0, hk, rfl, rfl, HA, HI, HB⟩ := hrel
  by_cases hlt : i < l0.length
  ·obtain ⟨ad, e217, hx0, hx1⟩ := at_T65 (HC.out _ HI.out) i h0 hlt; cases e217; have hA := HA.out; rw [farF_cons _ _ _ _ i h0 hlt] at hA; clear HA; have HA := Aa hA; clear hA
   obtain ⟨x, hx⟩ : ∃ x, rd_T65 l0 i = x := ⟨_, rfl⟩
   rw [hx] at hx0 hx1 HA
   obtain ⟨q, hq⟩ : ∃ q, num x = q := ⟨_, rfl⟩
   have hc := HN.out x; rw [hq] at hc HA; have HCx := Aa hc; clear hc hq hx; have HI2 := Aa (HS.out _ _ HI.out (Ba (Below.refl _ _) (.cells #[.int .i64 x.f0, .int .i64 x.f1] 65))); have HB2 := Aa (Ba HB.out (.cells #[.int .i64 x.f0, .int .i64 x.f1] 65)); clear HI HB
   by_cases hg : q > b
   ·have hA := HA.out; rw [if_pos (by simp only [decide_eq_true_eq]; exact hg)] at hA; clear HA; have HA := Aa hA; clear hA
    go_wp2_with (first | (go_at_call 61; refine (HCx.out _ HI2.out).mono ?_; rintro e w1 ⟨rfl, hb⟩; have HI3 := Aa (HS.out _ _ HI2.out hb); have HB3 := Aa (Bp HB2.out hb); clear HI2 HB2 hb) | (go_at_call 62; refine (skew_greater.calls _ _ _ _ rfl).mono ?_; rintro e w2 ⟨rfl, ⟨nd, rfl⟩⟩))
    go_roundw
    case rel => exact ⟨i + 1, q, by omega, by omega, rfl, rfl, HA, ⟨HS.out _ _ HI3.out (Pn (Below.refl _ _) nd)⟩, ⟨Pn HB3.out nd⟩⟩
    case measure => simp [intOf]; omega
   ·have hA := HA.out; rw [if_neg (by simp only [decide_eq_true_eq]; exact hg)] at hA; clear HA; have HA := Aa hA; clear hA
    go_wp2_with (first | (go_at_call 61; refine (HCx.out _ HI2.out).mono ?_; rintro e w1 ⟨rfl, hb⟩; have HI3 := Aa (HS.out _ _ HI2.out hb); have HB3 := Aa (Bp HB2.out hb); clear HI2 HB2 hb) | (go_at_call 62; refine (skew_greater.calls _ _ _ _ rfl).mono ?_; rintro e w2 ⟨rfl, ⟨nd, rfl⟩⟩))
    go_roundw
    case rel => exact ⟨i + 1, b, by omega, by omega, rfl, rfl, HA, ⟨HS.out _ _ HI3.out (Pn (Below.refl _ _) nd)⟩, ⟨Pn HB3.out nd⟩⟩
    case measure => simp [intOf]; omega
  ·have hA := HA.out; rw [List.drop_of_length_le (by omega)] at hA; have HA2 := Aa hA; clear hA HA; go_wp2; go_ret; exact ⟨by rw [← HA2.out]; rfl, HI.out, HB.out⟩
end
end Go.Proofs.YtobcecgcegoooaaGreat.Sk

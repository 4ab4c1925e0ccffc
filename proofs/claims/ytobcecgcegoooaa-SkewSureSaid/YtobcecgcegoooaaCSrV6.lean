/- Words and walks of this claim, merged. -/
import Derived.Test.YtobcecgcegoooaaCSrS0
import Derived.Test.YtobcecgcegoooaaCSrV1
namespace Go.Proofs.Ytobcecgcegoooaa.Sk
open Go.RowKit Go.Proofs.YtobcecgcegoooaaW.PrintWords Go.Proofs.YtobcecgcegoooaaW.PrintLast Go.Proofs.YtobcecgcegoooaaW.PrintMore
attribute [local go_sem] max2_int min2_int max_two min_two
set_option linter.unusedVariables false
set_option linter.unusedSimpArgs false
mutual
def skew_stamps.l0 : Nat → List (S71) → List (S130) → List Int → Int → Int → Option ((List (S130)))
 | 0, _, _, _, _, _ => none
 | k + 1, x0, x3, x11, x12, x13 => if x13 < x12 then (if 0 ≤ x13 then (if x13 < (x11.length : Int) then (if x13 < (x0.length : Int) then ((some (([rd x11 x13, (rd_T71 x0 x13).f2] : List Int) : List Int)).bind fun y162 => (skew_stamps.l1 k x0 x3 x11 x12 x13 y162 (y162.length : Int) 0 ((rd_T71 x0 x13).f1) 0)) else (none)) else (none)) else (none)) else (some x3)
def skew_stamps.l1 : Nat → List (S71) → List (S130) → List Int → Int → Int → List Int → Int → Int → Int → Int → Option ((List (S130)))
 | 0, _, _, _, _, _, _, _, _, _, _ => none
 | k + 1, x0, x3, x11, x12, x13, x30, x31, x32, x161000, x161001 => if x32 < x31 then (if 0 ≤ x32 then (if x32 < (x30.length : Int) then (if (rd x30 x32) ≥ 0 then (if 0 ≤ (rd x30 x32) then (if (rd x30 x32) < (x3.length : Int) then (skew_stamps.j2 k x0 x3 (rd x30 x32) x11 x12 x13 x30 x31 x32 (decide (((rd_T130 x3 (rd x30 x32)).f0) ≥ x161000)) x161000 x161001) else (none)) else (none)) else (skew_stamps.j2 k x0 x3 (rd x30 x32) x11 x12 x13 x30 x31 x32 false x161000 x161001)) else (none)) else (none)) else (if x3.length < 8796093022208 then (skew_stamps.l0 k x0 (x3 ++ [(⟨x161000, x161001⟩ : S130)]) x11 x12 (wrap64 (x13 + 1))) else (none))
def skew_stamps.j2 : Nat → List (S71) → List (S130) → Int → List Int → Int → Int → List Int → Int → Int → Bool → Int → Int → Option ((List (S130)))
 | 0, _, _, _, _, _, _, _, _, _, _, _, _ => none
 | k + 1, x0, x3, x8, x11, x12, x13, x30, x31, x32, x47, x161000, x161001 => if x47 = true then (if 0 ≤ x8 then (if x8 < (x3.length : Int) then ((skew_stamp_compare.f ((rd_T130 x3 x8).f0) (wrap64 (((rd_T130 x3 x8).f1) + 1)) x161000 x161001).bind fun t173 => (if t173 > 0 then (skew_stamps.l1 k x0 x3 x11 x12 x13 x30 x31 (wrap64 (x32 + 1)) ((rd_T130 x3 x8).f0) (wrap64 (((rd_T130 x3 x8).f1) + 1))) else (skew_stamps.l1 k x0 x3 x11 x12 x13 x30 x31 (wrap64 (x32 + 1)) x161000 x161001))) else (none)) else (none)) else (skew_stamps.l1 k x0 x3 x11 x12 x13 x30 x31 (wrap64 (x32 + 1)) x161000 x161001)
end
def skew_stamps.f (k : Nat) (l0 : List (S71)) : Option ((List (S130))) := (skew_befores.f l0).bind fun t155 => (skew_stamps.l0 k l0 ([] : List (S130)) t155 (t155.length : Int) 0)
def skew_stamps.T9 : Bool × List (List Nat × List Nat) := (true, [([], []), ([0], [0]), ([1], [1]), ([2], [2]), ([2], [2]), ([3, 4, 2], [2, 3, 4]), ([5, 2], [2, 5]), ([6, 2], [2, 6]), ([2], [2]), ([8, 2], [2, 8]), ([7, 9, 2], [2, 7, 9]), ([2, 10], [2, 10])])
def skew_stamps.B9 : List Nat := [0, 1, 3, 7, 7, 31, 63, 127, 7, 263, 1023, 2047]
theorem skew_stamps.tab9 : rtab .any (opsOf Try.f90 9) = skew_stamps.T9 := by kernel_rfl
theorem skew_stamps.bits9 : waitsOk skew_stamps.T9.2 skew_stamps.B9 = true := by kernel_rfl
def skew_stamps.T10 : Bool × List (List Nat × List Nat) := (true, [([], []), ([], []), ([0, 1], [0, 1]), ([2], [2]), ([3], [3]), ([], []), ([], []), ([5, 6], [5, 6]), ([7], [7]), ([8], [8]), ([9], [9]), ([4, 10], [4, 10]), ([], []), ([12, 11, 0, 1, 2, 3, 4, 5, 6, 7, 8, 9, 10, 11, 12], [11, 12])])
def skew_stamps.B10 : List Nat := [0, 0, 3, 7, 15, 0, 0, 96, 224, 480, 992, 2047, 0, 8191]
theorem skew_stamps.tab10 : rtab .any (opsOf Try.f90 10) = skew_stamps.T10 := by kernel_rfl
theorem skew_stamps.bits10 : waitsOk skew_stamps.T10.2 skew_stamps.B10 = true := by kernel_rfl
set_option maxHeartbeats 8000000 in
set_option maxRecDepth 100000 in
theorem skew_stamps.calls (k : Nat) (A0 : Option Addr) (c0 : Nat) (l0 : List (S71)) (r : List (S130)) (w : World) (hr0 : Kd.C k71 w A0 l0.length l0) (hc0 : l0.length ≤ c0) (h : skew_stamps.f k l0 = some r) :
  Calls Try.prog 90 #[.slice A0 l0.length c0] w fun e w' => ∃ v0_ : Value, e = .returned (v0_) ∧ Kd.R k130 130 w' w.heap.size (fun _ => True) v0_ r ∧ Below w.heap.size w w' := by
 have hu130 := Try.underlying130; have HR0 := Aa hr0; have HC0 := Aa hc0; clear hr0 hc0; have HB := Aa (Below.refl w.heap.size w); have H : ((skew_befores.f l0).bind fun t155 => (skew_stamps.l0 k l0 ([] : List (S130)) t155 (t155.length : Int) 0)) = some r := h; clear h; replace H := Option.bind_eq_some_iff.mp H; obtain ⟨t155, A20, H⟩ := H; replace H : (skew_stamps.l0 k l0 ([] : List (S130)) t155 (t155.length : Int) 0) = some r := H; have A2 := Aa A20; clear A20; have H' := Aa H; clear H
 go_enter Try.func90, Try.ntmps90
 go_wp2_with (first | ((with_reducible refine gate_callee (f := 124) rfl ?_); refine goesL_ (some 11) rfl rfl Try.func124 (by kernel_rfl) rfl #[.slice A0 l0.length c0] rfl (by (try simp only [List.map_toArray, List.map_cons, List.map_nil]); first | done | rfl | (simp only [List.length_drop, List.length_take]; rfl)) ?_; (with_reducible refine (skew_befores.calls _ _ l0 t155 _ ?side1 ?side2 A2.out).mono ?_); (case side1 => repeat (first | exact HR0.out | (with_reducible refine Kd.C_alloc ?_ _) | (with_reducible refine Kd.C_drewN ?_ _) | (with_reducible refine Kd.C_drew ?_))); (case side2 => exact HC0.out); rintro e w3 ⟨v156, rfl, ho0, hb⟩; refine ⟨_, rfl, ?_⟩; have n0_ := Aa (Kd.R_lower ho0 (below_size (by repeat (first | (with_reducible first | exact HB.out | apply Ba | apply Pn | apply Dn) | exact HB.out)))); have n1_ := Aa (Bp (by repeat (first | (with_reducible first | exact HB.out | apply Ba | apply Pn | apply Dn) | exact HB.out)) hb); clear HB; have HO157 := n0_; have HB := n1_; clear n0_ n1_; (try clear hb); (try clear hb2); (try clear hk); (try clear hi); (try clear ho0); obtain ⟨Ao4, co4, eo4⟩ := Kd.R_slice HO157.out; subst eo4))
 go_loopg [3, 13] k (fun kq v3 v13 w' => ∃ (x3_1 : List (S130)) (x13_1 : Int), v13 = .int .i64 x13_1 ∧ Aside0 (skew_stamps.l0 kq l0 x3_1 t155 (t155.length : Int) x13_1 = some r) ∧ Aside0 (kq ≤ k) ∧ Aside0 (Kd.R k130 130 w' w.heap.size (fun _ => True) v3 x3_1) ∧ Aside0 (Kd.R (Kd.int .i64) 3 w' w.heap.size (fun _ => True) (.slice Ao4 t155.length co4) t155) ∧ Aside0 (Below w.heap.size w w'))
 case atStart => exact ⟨(([] : List (S130))), (0), (by first | rfl | (simp; done) | (simp [*]; done)), H', ⟨Nat.le_refl _⟩, ⟨by first | exact Kd.R_nil _ _ _ _ _ | exact Kd.N_nil _ _ _ _ _ | exact Kd.V_nil _ _ _ _ _ | exact Kd.Q_nil _ _ _ _ _ | exact Kd.S_nil _ _ _ _ _⟩, ⟨by (with_reducible repeat (first | apply Kd.R_alloc | apply Kd.R_drewN | apply Kd.R_drew)); exact HO157.out⟩, ⟨by repeat (first | (with_reducible first | exact HB.out | apply Ba | apply Pn | apply Dn) | exact HB.out)⟩⟩
 case round =>
  clear H'; try clear c1
  try clear p2
  obtain ⟨x3_1, x13_1, rfl, HA, HK1, HO_3, HO_11, HB⟩ := hrel
  cases gk with
  | zero => exact absurd HA.out (by simp [skew_stamps.l0])
  | succ k1 =>
   have H := HA.out; clear HA; simp only [skew_stamps.l0] at H
   by_cases c5 : x13_1 < (t155.length : Int)
   ·rw [if_pos c5] at H; have c5b0 : decide (x13_1 < (t155.length : Int)) = true := decide_eq_true c5; clear c5
    by_cases c6 : 0 ≤ x13_1
    ·rw [if_pos c6] at H; have c6b0 : decide (0 ≤ x13_1) = true := decide_eq_true c6; clear c6
     by_cases c7 : x13_1 < (t155.length : Int)
     ·rw [if_pos c7] at H; have c7b0 : decide (x13_1 < (t155.length : Int)) = true := decide_eq_true c7; clear c7
      by_cases c8 : x13_1 < (l0.length : Int)
      ·rw [if_pos c8] at H; have c8b0 : decide (x13_1 < (l0.length : Int)) = true := decide_eq_true c8; clear c8
       obtain ⟨y162, hy162⟩ : ∃ y_ : List Int, y_ = (([rd t155 x13_1, (rd_T71 l0 x13_1).f2] : List Int)) := ⟨_, rfl⟩
       replace H : (skew_stamps.l1 k1 l0 x3_1 t155 (t155.length : Int) x13_1 y162 (y162.length : Int) 0 ((rd_T71 l0 x13_1).f1) 0) = some r := by first | (rw [hy162]; with_reducible exact H) | (have H2_ := (Option.bind_some _ _).symm.trans H; rw [hy162]; with_reducible exact H2_) | (have H2_ := (Option.bind_some _ _).symm.trans H; with_reducible exact H2_) | with_reducible exact H | (rw [hy162]; exact H) | exact H
       have Ny162 := Aa hy162; clear hy162; have H' := Aa H; clear H; have p158 : 0 ≤ (x13_1 : Int) := Od (by first | (with_reducible assumption) | assumption); have q158 : x13_1 < (t155.length : Int) := Od (by first | (with_reducible assumption) | assumption); obtain ⟨ad158, e158, hx158_0⟩ := Kd.at_int (Kd.R_reads' HO_11.out).2.2 x13_1 p158 q158; cases e158; replace p158 := eq_true p158; replace q158 := eq_true q158; have p159 : 0 ≤ (x13_1 : Int) := Od (by first | (with_reducible assumption) | assumption); have q159 : x13_1 < (l0.length : Int) := Od (by first | (with_reducible assumption) | assumption); obtain ⟨ad159, e159, hx159_0, hx159_1, hx159_2⟩ := at_T71 HR0.out x13_1 p159 q159; cases e159; replace hx159_0 := (HB.out.cell (Wb w _ hx159_0)).trans hx159_0; replace hx159_1 := (HB.out.cell (Wb w _ hx159_1)).trans hx159_1; replace hx159_2 := (HB.out.cell (Wb w _ hx159_2)).trans hx159_2; replace p159 := eq_true p159; replace q159 := eq_true q159
       go_wp2_with (first | ((with_reducible refine gate_dst (N := 6) rfl ?_); refine box_event ?hg (N := 6) ?hd (cs := #[.int .i64 0, .int .i64 0]) (t := 130) ?hr ?_; (case hd => rfl); (case hg => rfl); (case hr => first | (go_simp; done) | (go_simp; rfl)); intro gb160 hg w9 hbox hb; have n0_ := Aa (Kd.R_below (Kd.R_elderB (by (with_reducible repeat (first | apply Kd.R_alloc | apply Kd.R_drewN | apply Kd.R_drew)); exact HO_3.out) gb160 (Nat.le_of_eq hg.symm)) hb); have n1_ := Aa (Kd.R_below (by (with_reducible repeat (first | apply Kd.R_alloc | apply Kd.R_drewN | apply Kd.R_drew)); exact HO_11.out) hb); have n2_ := Aa (Bp (by repeat (first | (with_reducible first | exact HB.out | apply Ba | apply Pn | apply Dn) | exact HB.out)) hb); have n3_ := Aa (hbox); have n4_ := Aa ((by rw [hg]; exact (below_size (by repeat (first | (with_reducible first | exact HB.out | apply Ba | apply Pn | apply Dn) | exact HB.out))) : w.heap.size ≤ gb160)); have n5_ := Aa ((by rw [hg]; exact (below_size (by repeat (first | (with_reducible first | exact HB.out | apply Ba | apply Pn | apply Dn) | exact HB.out))) : w.heap.size ≤ gb160)); clear HO_3; clear HO_11; clear HB; have HO_3 := n0_; have HO_11 := n1_; have HB := n2_; have BK160 := n3_; have GW160 := n4_; have GE160 := n5_; clear n0_ n1_ n2_ n3_ n4_ n5_; clear hb hbox hg; have hcz10_0 : w9.cell? ⟨gb160, 0, none⟩ = some (.int .i64 0) := (Bc BK160.out 0).trans rfl; have hcz10_1 : w9.cell? ⟨gb160, 1, none⟩ = some (.int .i64 0) := (Bc BK160.out 1).trans rfl; have hfz10_0 := Bf BK160.out 0; have hfz10_1 := Bf BK160.out 1; have p161 : 0 ≤ (x13_1 : Int) := Od (by first | (with_reducible assumption) | assumption); have q161 : x13_1 < (l0.length : Int) := Od (by first | (with_reducible assumption) | assumption); obtain ⟨ad161, e161, hx161_0, hx161_1, hx161_2⟩ := at_T71 HR0.out x13_1 p161 q161; obtain rfl : ad159 = ad161 := (by injection e161); have hn161_0 : ad159.block ≠ gb160 := Nat.ne_of_lt (Nat.lt_of_lt_of_le (by have := Wb _ _ hx161_0; first | rwa [add_block] at this | exact this) GW160.out); have hn161_1 : ad159.block ≠ gb160 := Nat.ne_of_lt (Nat.lt_of_lt_of_le (by have := Wb _ _ hx161_0; first | rwa [add_block] at this | exact this) GW160.out); replace hx161_0 := (HB.out.cell (Wb w _ hx161_0)).trans hx161_0; replace hx161_1 := (HB.out.cell (Wb w _ hx161_1)).trans hx161_1; replace hx161_2 := (HB.out.cell (Wb w _ hx161_2)).trans hx161_2; replace hx161_0 := (cell_far (p := ⟨gb160, 0, none⟩) (by first | (rw [add_block]; exact hn161_0) | (show (Addr.add _ _).block ≠ _; rw [add_block]; exact hn161_0) | exact hn161_0) (.int .i64 ((rd_T71 l0 x13_1).f1))).trans hx161_0; replace hx161_1 := (cell_far (p := ⟨gb160, 0, none⟩) (by first | (rw [add_block]; exact hn161_0) | (show (Addr.add _ _).block ≠ _; rw [add_block]; exact hn161_0) | exact hn161_0) (.int .i64 ((rd_T71 l0 x13_1).f1))).trans hx161_1; replace hx161_2 := (cell_far (p := ⟨gb160, 0, none⟩) (by first | (rw [add_block]; exact hn161_0) | (show (Addr.add _ _).block ≠ _; rw [add_block]; exact hn161_0) | exact hn161_0) (.int .i64 ((rd_T71 l0 x13_1).f1))).trans hx161_2; replace hx161_0 := (cell_far (p := ⟨gb160, 1, none⟩) (by first | (rw [add_block]; exact hn161_1) | (show (Addr.add _ _).block ≠ _; rw [add_block]; exact hn161_1) | exact hn161_1) (.int .i64 0)).trans hx161_0; replace hx161_1 := (cell_far (p := ⟨gb160, 1, none⟩) (by first | (rw [add_block]; exact hn161_1) | (show (Addr.add _ _).block ≠ _; rw [add_block]; exact hn161_1) | exact hn161_1) (.int .i64 0)).trans hx161_1; replace hx161_2 := (cell_far (p := ⟨gb160, 1, none⟩) (by first | (rw [add_block]; exact hn161_1) | (show (Addr.add _ _).block ≠ _; rw [add_block]; exact hn161_1) | exact hn161_1) (.int .i64 0)).trans hx161_2; clear hn161_0; clear hn161_1; replace p161 := eq_true p161; replace q161 := eq_true q161) | ((with_reducible refine gate_dst (N := 30) rfl ?_); refine Kd.R_lit (Kd.int .i64) _ 3 ?hg (N := 30) ?hd (xs := ([rd t155 x13_1, (rd_T71 l0 x13_1).f2] : List Int)) (inner := [.int .i64 (rd t155 x13_1), .int .i64 ((rd_T71 l0 x13_1).f2)]) (ok := fun _ => True) (okp := fun _ => True) ?hr ?hp (fun _ hk => hk) trivial (Below.refl _ _) (Nat.le_refl _) (by simp) ?_; (case hd => rfl); (case hg => rfl); (case hr => first | (go_simp; done) | (go_simp; rfl)); (case hp => exact (Reps.one (show Kd.M (Kd.int .i64) _ _ _ (rd t155 x13_1) [.int .i64 (rd t155 x13_1)] from rfl) (Reps.one (show Kd.M (Kd.int .i64) _ _ _ ((rd_T71 l0 x13_1).f2) [.int .i64 ((rd_T71 l0 x13_1).f2)] from rfl) (Reps.none _ _)))); intro v163 w11 ho12 hb hg_ hnew_; clear hg_ hnew_; (first | rw [← Ny162.out] at ho12 | (simp only [Int.reduceToNat] at ho12; rw [← Ny162.out] at ho12)); have n0_ := Aa (Kd.R_below (by (with_reducible repeat (first | apply Kd.R_alloc | apply Kd.R_drewN | apply Kd.R_drew)); exact (Kd.R_mono (Kd.R_far (p := ⟨gb160, 1, none⟩) (Kd.R_far (p := ⟨gb160, 0, none⟩) (Kd.R_mono HO_3.out (fun k_ hk => (⟨hk, hk.2⟩ : _ ∧ k_ ≠ gb160))) (fun _ hk => hk.2) (.int .i64 ((rd_T71 l0 x13_1).f1))) (fun _ hk => hk.2) (.int .i64 0)) (fun _ h_ => h_.1))) hb); have n1_ := Aa (Kd.R_elder' (by (with_reducible repeat (first | apply Kd.R_alloc | apply Kd.R_drewN | apply Kd.R_drew)); exact (Kd.R_mono (Kd.R_far (p := ⟨gb160, 1, none⟩) (Kd.R_far (p := ⟨gb160, 0, none⟩) (Kd.R_types HO_11.out BK160.out (by decide)) (fun _ hk => hk.2) (.int .i64 ((rd_T71 l0 x13_1).f1))) (fun _ hk => hk.2) (.int .i64 0)) (fun _ h_ => h_.1))) (Kd.R_base ho12) hb); have n2_ := Aa (Kd.R_lower (Kd.R_new' ho12 (Kd.R_lt (by (with_reducible repeat (first | apply Kd.R_alloc | apply Kd.R_drewN | apply Kd.R_drew)); exact (Kd.R_mono (Kd.R_far (p := ⟨gb160, 1, none⟩) (Kd.R_far (p := ⟨gb160, 0, none⟩) (Kd.R_types HO_11.out BK160.out (by decide)) (fun _ hk => hk.2) (.int .i64 ((rd_T71 l0 x13_1).f1))) (fun _ hk => hk.2) (.int .i64 0)) (fun _ h_ => h_.1))))) (below_size (by repeat (first | (with_reducible first | exact HB.out | apply Ba | apply Pn | apply Dn | refine Bz ?_ GE160.out) | exact HB.out)))); have n3_ := Aa (blk_below (g := gb160) (o := .cells #[.int .i64 ((rd_T71 l0 x13_1).f1), .int .i64 0] 130 (0, 0)) (by (with_reducible repeat (first | refine Kn ?_ _ | refine Kw ?_ | refine Ka ?_ _)); refine blk_put (cs := #[.int .i64 ((rd_T71 l0 x13_1).f1), .int .i64 0]) ?_ 1 _ rfl; (with_reducible repeat (first | refine Kn ?_ _ | refine Kw ?_ | refine Ka ?_ _)); refine blk_put (cs := #[.int .i64 0, .int .i64 0]) ?_ 0 _ rfl; (with_reducible repeat (first | refine Kn ?_ _ | refine Kw ?_ | refine Ka ?_ _)); exact BK160.out) hb); have n4_ := Aa (Bp (by repeat (first | (with_reducible first | exact HB.out | apply Ba | apply Pn | apply Dn | refine Bz ?_ GE160.out) | exact HB.out)) hb); clear HO_3; clear HO_11; clear BK160; clear HB; have HO_3 := n0_; have HO_11 := n1_; have HO164 := n2_; have BK160 := n3_; have HB := n4_; clear n0_ n1_ n2_ n3_ n4_; clear hb ho12; obtain ⟨Ao13, co13, eo13⟩ := Kd.R_slice HO164.out; subst eo13))
       go_loopg [32] k1 (fun kq v32 w' => ∃ (x32_2 : Int) (x161000_2 : Int) (x161001_2 : Int), v32 = .int .i64 x32_2 ∧ Aside0 (skew_stamps.l1 kq l0 x3_1 t155 (t155.length : Int) x13_1 y162 (y162.length : Int) x32_2 x161000_2 x161001_2 = some r) ∧ Aside0 (kq ≤ k1) ∧ Aside0 (Kd.R k130 130 w' w.heap.size (fun k_ => k_ ≠ gb160) u3 x3_1) ∧ Aside0 (Kd.R (Kd.int .i64) 3 w' w.heap.size (fun k_ => some k_ ≠ ((.slice Ao13 y162.length co13) : Value).ownBlock) (.slice (some ad158) t155.length co4) t155) ∧ Aside0 (Kd.R (Kd.int .i64) 3 w' w.heap.size (fun k_ => some k_ ≠ ((.slice (some ad158) t155.length co4) : Value).ownBlock) (.slice Ao13 y162.length co13) y162) ∧ Aside0 (w'.heap[gb160]? = some (.cells #[.int .i64 x161000_2, .int .i64 x161001_2] 130 (0, 0))) ∧ Aside0 (Below w.heap.size w w'))
       case atStart => exact ⟨(0), ((rd_T71 l0 x13_1).f1), (0), (by first | rfl | (simp; done) | (simp [*]; done)), H', ⟨Nat.le_refl _⟩, ⟨by (with_reducible repeat (first | apply Kd.R_alloc | apply Kd.R_drewN | apply Kd.R_drew)); exact Kd.R_mono HO_3.out (fun _ hk => hk.2)⟩, ⟨by (with_reducible repeat (first | apply Kd.R_alloc | apply Kd.R_drewN | apply Kd.R_drew)); exact Kd.R_mono HO_11.out (fun _ hk => hk.2)⟩, ⟨by (with_reducible repeat (first | apply Kd.R_alloc | apply Kd.R_drewN | apply Kd.R_drew)); exact Kd.R_mono HO164.out (fun _ hk => hk.2)⟩, ⟨by (with_reducible repeat (first | refine Kn ?_ _ | refine Kw ?_ | refine Ka ?_ _)); exact BK160.out⟩, ⟨by repeat (first | (with_reducible first | exact HB.out | apply Ba | apply Pn | apply Dn | refine Bz ?_ GE160.out) | exact HB.out)⟩⟩
       case round =>
        clear H'; try clear c1
        try clear p1
        try clear q1
        try clear hx1
        try clear p2
        try clear c5
        try clear c5b0
        try clear c6
        try clear c6b0
        try clear c7
        try clear c7b0
        try clear c8
        try clear c8b0
        try clear c9
        try clear c12
        try clear hcz10_0
        try clear hcz10_1
        try clear hfz10_0
        try clear hfz10_1
        try clear hx158_0
        try clear hx159_0
        try clear hx159_1
        try clear hx159_2
        try clear hx161_0
        try clear hx161_1
        try clear hx161_2
        try clear p158
        try clear p159
        try clear p161
        try clear p2
        try clear q158
        try clear q159
        try clear q161
        obtain ⟨x32_2, x161000_2, x161001_2, rfl, HA, HK2, HO_3, HO_11, HO_30, BK160, HB⟩ := hrel
        cases gk with
        | zero => exact absurd HA.out (by simp [skew_stamps.l1])
        | succ k2 =>
         have H := HA.out; clear HA; simp only [skew_stamps.l1] at H
         by_cases c14 : x32_2 < (y162.length : Int)
         ·rw [if_pos c14] at H; have c14b0 : decide (x32_2 < (y162.length : Int)) = true := decide_eq_true c14; clear c14
          by_cases c15 : 0 ≤ x32_2
          ·rw [if_pos c15] at H; have c15b0 : decide (0 ≤ x32_2) = true := decide_eq_true c15; clear c15
           by_cases c16 : x32_2 < (y162.length : Int)
           ·rw [if_pos c16] at H; have c16b0 : decide (x32_2 < (y162.length : Int)) = true := decide_eq_true c16; clear c16; have HC17 := Aa H; clear H; have p168 : 0 ≤ (x32_2 : Int) := Od (by first | (with_reducible assumption) | assumption); have q168 : x32_2 < (y162.length : Int) := Od (by first | (with_reducible assumption) | assumption); obtain ⟨ad168, e168, hx168_0⟩ := Kd.at_int (Kd.R_reads' HO_30.out).2.2 x32_2 p168 q168; cases e168; replace p168 := eq_true p168; replace q168 := eq_true q168
            go_upto_region 9 with (fail)
            go_cut [47] (fun v47 wc => ∃ (kq : Nat) (x47_16 : Bool), v47 = .bool x47_16 ∧ Aside0 (skew_stamps.j2 kq l0 x3_1 (rd y162 x32_2) t155 (t155.length : Int) x13_1 y162 (y162.length : Int) x32_2 x47_16 x161000_2 x161001_2 = some r) ∧ Aside0 (kq ≤ k2) ∧ Aside0 (Kd.R k130 130 wc w.heap.size (fun k_ => k_ ≠ gb160) u3 x3_1) ∧ Aside0 (Kd.R (Kd.int .i64) 3 wc w.heap.size (fun k_ => some k_ ≠ ((.slice (some ad168) y162.length co13) : Value).ownBlock) (.slice (some ad158) t155.length co4) t155) ∧ Aside0 (Kd.R (Kd.int .i64) 3 wc w.heap.size (fun k_ => some k_ ≠ ((.slice (some ad158) t155.length co4) : Value).ownBlock) (.slice (some ad168) y162.length co13) y162) ∧ Aside0 (wc.heap[gb160]? = some (.cells #[.int .i64 x161000_2, .int .i64 x161001_2] 130 (0, 0))) ∧ Aside0 (Below w.heap.size w wc))
            case first =>
             have H := HC17.out; clear HC17
             by_cases c18 : (rd y162 x32_2) ≥ 0
             ·rw [if_pos c18] at H; have c18b0 : decide (0 ≤ (rd y162 x32_2)) = true := decide_eq_true c18; clear c18
              (first | rw [c18b0] | (simp only [i64_w, i32_w]; rw [c18b0]) | skip)
              by_cases c19 : 0 ≤ (rd y162 x32_2)
              ·rw [if_pos c19] at H; have c19b0 : decide (0 ≤ (rd y162 x32_2)) = true := decide_eq_true c19; clear c19
               by_cases c20 : (rd y162 x32_2) < (x3_1.length : Int)
               ·rw [if_pos c20] at H; have c20b0 : decide ((rd y162 x32_2) < (x3_1.length : Int)) = true := decide_eq_true c20; clear c20; have H' := Aa H; clear H; try go_wp2
                have n0_ := Aa (Kd.R_drew HO_3.out); have n1_ := Aa (Kd.R_drew HO_11.out); have n2_ := Aa (Kd.R_drew HO_30.out); have n3_ := Aa (Kw BK160.out); have n4_ := Aa (Dn HB.out); clear HO_3; clear HO_11; clear HO_30; clear BK160; clear HB; have HO_3 := n0_; have HO_11 := n1_; have HO_30 := n2_; have BK160 := n3_; have HB := n4_; clear n0_ n1_ n2_ n3_ n4_; obtain ⟨Ao22, co22, eo22⟩ := Kd.R_slice HO_3.out
                (first | subst eo22 | (injection eo22 with f1_ f2_ f3_; have f4_ := f1_.symm; have f5_ := f3_.symm; clear f1_ f2_ f3_; subst f4_; subst f5_))
                have p169 : 0 ≤ ((rd y162 x32_2) : Int) := Od (by first | (with_reducible assumption) | assumption); have q169 : (rd y162 x32_2) < (x3_1.length : Int) := Od (by first | (with_reducible assumption) | assumption); obtain ⟨ad169, e169, hx169_0, hx169_1⟩ := at_T130 (Kd.R_reads' HO_3.out).2.2 (rd y162 x32_2) p169 q169; cases e169; replace p169 := eq_true p169; replace q169 := eq_true q169; refine start_ (n := 12) (S := fun w' => w'.cell? ⟨gb160, 0, none⟩ = some (.int .i64 x161000_2) ∧ w'.cell? ⟨gb160, 1, none⟩ = some (.int .i64 x161001_2) ∧ w'.cell? (ad169.add (((rd y162 x32_2)).toNat * 2)) = some (.int .i64 ((rd_T130 x3_1 (rd y162 x32_2)).f0)) ∧ w'.cell? ⟨(ad169.add (((rd y162 x32_2)).toNat * 2)).block, (ad169.add (((rd y162 x32_2)).toNat * 2)).off + 1, none⟩ = some (.int .i64 ((rd_T130 x3_1 (rd y162 x32_2)).f1))) (ds := []) #[false, false, false, false, false, false, false, false, false, false, false, false] (by kernel_rfl) rfl rfl ⟨(Bc BK160.out 0).trans rfl, (Bc BK160.out 1).trans rfl, hx169_0, hx169_1⟩ (fun hHeld => ?_); refine with_tabW skew_stamps.tab9 skew_stamps.bits9 (fun HT_ HW_ => ?_); generalize wr.drew = w21 at HO_3 HO_11 HO_30 BK160 HB hx169_0 hx169_1 hHeld ⊢; refine pure_ (i := 0) (N := some 36) (v := ?_) (a' := ?_) #[true, false, false, false, false, false, false, false, false, false, false, false] rfl rfl (any_of HT_.out (by kernel_rfl)) (fun _ _ _ h => h) (Or.inl ⟨by rfl, ?_⟩) ?_ ?_; rotate_left
                ·intro w'; go_simp; with_reducible rfl
                rotate_left
                ·simp only [Act.put, Sa, Sb, Sc, i64_w, i32_w]; rfl
                refine pure_ (i := 1) (N := some 37) (v := ?_) (a' := ?_) #[true, true, false, false, false, false, false, false, false, false, false, false] rfl rfl (any_of HT_.out (by kernel_rfl)) (fun _ _ _ h => h) (Or.inl ⟨by rfl, ?_⟩) ?_ ?_; rotate_left
                ·intro w'; go_simp; with_reducible rfl
                rotate_left
                ·simp only [Act.put, Sa, Sb, Sc, i64_w, i32_w]; rfl
                refine pure_ (i := 2) (N := some 38) (v := ?_) (a' := ?_) #[true, true, true, false, false, false, false, false, false, false, false, false] rfl rfl (any_of HT_.out (by kernel_rfl)) (fun _ _ _ h => h) (Or.inl ⟨by rfl, ?_⟩) ?_ ?_; rotate_left
                ·intro w'; go_simp; with_reducible rfl
                rotate_left
                ·simp only [Act.put, Sa, Sb, Sc, i64_w, i32_w]; rfl
                refine pure_ (i := 3) (N := some 39) (v := ?_) (a' := ?_) #[true, true, true, true, false, false, false, false, false, false, false, false] rfl rfl (any_of HT_.out (by kernel_rfl)) (fun _ _ _ h => h) (Or.inl ⟨by rfl, ?_⟩) ?_ ?_; rotate_left
                ·intro w'; go_simp; with_reducible rfl
                rotate_left
                ·simp only [Act.put, Sa, Sb, Sc, i64_w, i32_w]; rfl
                refine pure_ (i := 4) (N := some 40) (v := ?_) (a' := ?_) #[true, true, true, true, true, false, false, false, false, false, false, false] rfl rfl (any_of HT_.out (by kernel_rfl)) (fun _ _ _ h => h) (Or.inl ⟨by rfl, ?_⟩) ?_ ?_; rotate_left
                ·intro w'; go_simp; with_reducible rfl
                rotate_left
                ·simp only [Act.put, Sa, Sb, Sc, i64_w, i32_w]; rfl
                refine pure_ (i := 5) (N := some 41) (v := ?_) (a' := ?_) #[true, true, true, true, true, true, false, false, false, false, false, false] rfl rfl (any_of HT_.out (by kernel_rfl)) (fun _ _ _ h => h) (Or.inl ⟨by rfl, ?_⟩) ?_ ?_; rotate_left
                ·intro w'; go_simp; with_reducible rfl
                rotate_left
                ·simp only [Act.put, Sa, Sb, Sc, i64_w, i32_w]; rfl
                refine pure_ (i := 6) (N := some 42) (v := ?_) (a' := ?_) #[true, true, true, true, true, true, true, false, false, false, false, false] rfl rfl (any_of HT_.out (by kernel_rfl)) (fun _ _ _ h => h) (Or.inl ⟨by rfl, ?_⟩) ?_ ?_; rotate_left
                ·intro w'; go_simp; with_reducible rfl
                rotate_left
                ·simp only [Act.put, Sa, Sb, Sc, i64_w, i32_w]; rfl
                refine pure_ (i := 8) (N := some 44) (v := ?_) (a' := ?_) #[true, true, true, true, true, true, true, false, true, false, false, false] rfl rfl (any_of HT_.out (by kernel_rfl)) (fun _ _ _ h => h) (Or.inl ⟨by rfl, ?_⟩) ?_ ?_; rotate_left
                ·intro w'; go_simp; with_reducible rfl
                rotate_left
                ·simp only [Act.put, Sa, Sb, Sc, i64_w, i32_w]; rfl
                refine take_ (i := 7) (N := some 43) (v := ?_) (a' := ?_) #[true, true, true, true, true, true, true, true, true, false, false, false] rfl rfl (take_ofW HT_.out HW_.out (by kernel_rfl)) (fun _ _ _ h => h) (Or.inl ⟨by rfl, ?_⟩) hHeld ?_ ?_; rotate_left
                ·rintro w' ⟨s0, s1, s2, s3⟩; go_simp; with_reducible rfl
                rotate_left
                ·simp only [Act.put, Sa, Sb, Sc, i64_w, i32_w]; rfl
                refine take_ (i := 9) (N := some 45) (v := ?_) (a' := ?_) #[true, true, true, true, true, true, true, true, true, true, false, false] rfl rfl (take_ofW HT_.out HW_.out (by kernel_rfl)) (fun _ _ _ h => h) (Or.inl ⟨by rfl, ?_⟩) hHeld ?_ ?_; rotate_left
                ·rintro w' ⟨s0, s1, s2, s3⟩; go_simp; with_reducible rfl
                rotate_left
                ·simp only [Act.put, Sa, Sb, Sc, i64_w, i32_w]; rfl
                refine pure_ (i := 10) (N := some 46) (v := ?_) (a' := ?_) #[true, true, true, true, true, true, true, true, true, true, true, false] rfl rfl (any_of HT_.out (by kernel_rfl)) (fun _ _ _ h => h) (Or.inl ⟨by rfl, ?_⟩) ?_ ?_; rotate_left
                ·intro w'; go_simp; with_reducible rfl
                rotate_left
                ·simp only [Act.put, Sa, Sb, Sc, i64_w, i32_w]; rfl
                refine pure_ (i := 11) (N := some 47) (v := ?_) (a' := ?_) #[true, true, true, true, true, true, true, true, true, true, true, true] rfl rfl (any_of HT_.out (by kernel_rfl)) (fun _ _ _ h => h) (Or.inl ⟨by rfl, ?_⟩) ?_ ?_; rotate_left
                ·intro w'; go_simp; with_reducible rfl
                rotate_left
                ·simp only [Act.put, Sa, Sb, Sc, i64_w, i32_w]; rfl
                refine done_ (done_of HT_.out (by kernel_rfl)) ?_; try go_wp2
                go_meet
                case rel => exact ⟨_, (decide (((rd_T130 x3_1 (rd y162 x32_2)).f0) ≥ x161000_2)), (by first | rfl | (simp; done) | (simp [*]; done)), H', ⟨by have := HK1.out; have := HK2.out; first | omega | exact Nat.le_refl _⟩, ⟨by (with_reducible repeat (first | apply Kd.R_alloc | apply Kd.R_drewN | apply Kd.R_drew)); exact HO_3.out⟩, ⟨by (with_reducible repeat (first | apply Kd.R_alloc | apply Kd.R_drewN | apply Kd.R_drew)); exact HO_11.out⟩, ⟨by (with_reducible repeat (first | apply Kd.R_alloc | apply Kd.R_drewN | apply Kd.R_drew)); exact HO_30.out⟩, ⟨by (with_reducible repeat (first | refine Kn ?_ _ | refine Kw ?_ | refine Ka ?_ _)); exact BK160.out⟩, ⟨by repeat (first | (with_reducible first | exact HB.out | apply Ba | apply Pn | apply Dn | refine Bz ?_ GE160.out) | exact HB.out)⟩⟩
               ·rw [if_neg c20] at H; exact absurd H (by simp)
              ·rw [if_neg c19] at H; exact absurd H (by simp)
             ·rw [if_neg c18] at H; have c18b0 : decide (0 ≤ (rd y162 x32_2)) = false := decide_eq_false c18; clear c18
              (first | rw [c18b0] | (simp only [i64_w, i32_w]; rw [c18b0]) | skip)
              have H' := Aa H; clear H; try go_wp2
              have n0_ := Aa (Kd.R_drew HO_3.out); have n1_ := Aa (Kd.R_drew HO_11.out); have n2_ := Aa (Kd.R_drew HO_30.out); have n3_ := Aa (Kw BK160.out); have n4_ := Aa (Dn HB.out); clear HO_3; clear HO_11; clear HO_30; clear BK160; clear HB; have HO_3 := n0_; have HO_11 := n1_; have HO_30 := n2_; have BK160 := n3_; have HB := n4_; clear n0_ n1_ n2_ n3_ n4_; refine start_ (n := 12) (S := fun w' => True) (ds := []) #[false, false, false, false, false, false, false, false, false, false, false, false] (by kernel_rfl) rfl rfl trivial (fun hHeld => ?_); refine with_tabW skew_stamps.tab9 skew_stamps.bits9 (fun HT_ HW_ => ?_); generalize wr.drew = w23 at HO_3 HO_11 HO_30 BK160 HB hHeld ⊢; refine pure_ (i := 0) (N := some 36) (v := ?_) (a' := ?_) #[true, false, false, false, false, false, false, false, false, false, false, false] rfl rfl (any_of HT_.out (by kernel_rfl)) (fun _ _ _ h => h) (Or.inl ⟨by rfl, ?_⟩) ?_ ?_; rotate_left
              ·intro w'; go_simp; with_reducible rfl
              rotate_left
              ·simp only [Act.put, Sa, Sb, Sc, i64_w, i32_w]; rfl
              refine pure_ (i := 1) (N := some 37) (v := ?_) (a' := ?_) #[true, true, false, false, false, false, false, false, false, false, false, false] rfl rfl (any_of HT_.out (by kernel_rfl)) (fun _ _ _ h => h) (Or.inl ⟨by rfl, ?_⟩) ?_ ?_; rotate_left
              ·intro w'; go_simp; with_reducible rfl
              rotate_left
              ·simp only [Act.put, Sa, Sb, Sc, i64_w, i32_w]; rfl
              refine pure_ (i := 2) (N := some 38) (v := ?_) (a' := ?_) #[true, true, true, false, false, false, false, false, false, false, false, false] rfl rfl (any_of HT_.out (by kernel_rfl)) (fun _ _ _ h => h) (Or.inl ⟨by rfl, ?_⟩) ?_ ?_; rotate_left
              ·intro w'; go_simp; with_reducible rfl
              rotate_left
              ·simp only [Act.put, Sa, Sb, Sc, i64_w, i32_w]; rfl
              refine pure_ (i := 3) (N := some 39) (v := undef) (a' := ?_) #[true, true, true, true, false, false, false, false, false, false, false, false] rfl rfl (any_of HT_.out (by kernel_rfl)) (fun _ _ _ h => h) (Or.inr ⟨by rfl, rfl⟩) ?_ ?_; rotate_left
              ·simp only [Act.put, Sa, Sb, Sc, i64_w, i32_w]; rfl
              refine pure_ (i := 4) (N := some 40) (v := undef) (a' := ?_) #[true, true, true, true, true, false, false, false, false, false, false, false] rfl rfl (any_of HT_.out (by kernel_rfl)) (fun _ _ _ h => h) (Or.inr ⟨by rfl, rfl⟩) ?_ ?_; rotate_left
              ·simp only [Act.put, Sa, Sb, Sc, i64_w, i32_w]; rfl
              refine pure_ (i := 5) (N := some 41) (v := undef) (a' := ?_) #[true, true, true, true, true, true, false, false, false, false, false, false] rfl rfl (any_of HT_.out (by kernel_rfl)) (fun _ _ _ h => h) (Or.inr ⟨by rfl, rfl⟩) ?_ ?_; rotate_left
              ·simp only [Act.put, Sa, Sb, Sc, i64_w, i32_w]; rfl
              refine pure_ (i := 6) (N := some 42) (v := undef) (a' := ?_) #[true, true, true, true, true, true, true, false, false, false, false, false] rfl rfl (any_of HT_.out (by kernel_rfl)) (fun _ _ _ h => h) (Or.inr ⟨by rfl, rfl⟩) ?_ ?_; rotate_left
              ·simp only [Act.put, Sa, Sb, Sc, i64_w, i32_w]; rfl
              refine pure_ (i := 7) (N := some 43) (v := undef) (a' := ?_) #[true, true, true, true, true, true, true, true, false, false, false, false] rfl rfl (any_of HT_.out (by kernel_rfl)) (fun _ _ _ h => h) (Or.inr ⟨by rfl, rfl⟩) ?_ ?_; rotate_left
              ·simp only [Act.put, Sa, Sb, Sc, i64_w, i32_w]; rfl
              refine pure_ (i := 8) (N := some 44) (v := undef) (a' := ?_) #[true, true, true, true, true, true, true, true, true, false, false, false] rfl rfl (any_of HT_.out (by kernel_rfl)) (fun _ _ _ h => h) (Or.inr ⟨by rfl, rfl⟩) ?_ ?_; rotate_left
              ·simp only [Act.put, Sa, Sb, Sc, i64_w, i32_w]; rfl
              refine pure_ (i := 9) (N := some 45) (v := undef) (a' := ?_) #[true, true, true, true, true, true, true, true, true, true, false, false] rfl rfl (any_of HT_.out (by kernel_rfl)) (fun _ _ _ h => h) (Or.inr ⟨by rfl, rfl⟩) ?_ ?_; rotate_left
              ·simp only [Act.put, Sa, Sb, Sc, i64_w, i32_w]; rfl
              refine pure_ (i := 10) (N := some 46) (v := undef) (a' := ?_) #[true, true, true, true, true, true, true, true, true, true, true, false] rfl rfl (any_of HT_.out (by kernel_rfl)) (fun _ _ _ h => h) (Or.inr ⟨by rfl, rfl⟩) ?_ ?_; rotate_left
              ·simp only [Act.put, Sa, Sb, Sc, i64_w, i32_w]; rfl
              refine pure_ (i := 11) (N := some 47) (v := ?_) (a' := ?_) #[true, true, true, true, true, true, true, true, true, true, true, true] rfl rfl (any_of HT_.out (by kernel_rfl)) (fun _ _ _ h => h) (Or.inl ⟨by rfl, ?_⟩) ?_ ?_; rotate_left
              ·intro w'; go_simp; with_reducible rfl
              rotate_left
              ·simp only [Act.put, Sa, Sb, Sc, i64_w, i32_w]; rfl
              refine done_ (done_of HT_.out (by kernel_rfl)) ?_; try go_wp2
              go_meet
              case rel => exact ⟨_, (false), (by first | rfl | (simp; done) | (simp [*]; done)), H', ⟨by have := HK1.out; have := HK2.out; first | omega | exact Nat.le_refl _⟩, ⟨by (with_reducible repeat (first | apply Kd.R_alloc | apply Kd.R_drewN | apply Kd.R_drew)); exact HO_3.out⟩, ⟨by (with_reducible repeat (first | apply Kd.R_alloc | apply Kd.R_drewN | apply Kd.R_drew)); exact HO_11.out⟩, ⟨by (with_reducible repeat (first | apply Kd.R_alloc | apply Kd.R_drewN | apply Kd.R_drew)); exact HO_30.out⟩, ⟨by (with_reducible repeat (first | refine Kn ?_ _ | refine Kw ?_ | refine Ka ?_ _)); exact BK160.out⟩, ⟨by repeat (first | (with_reducible first | exact HB.out | apply Ba | apply Pn | apply Dn | refine Bz ?_ GE160.out) | exact HB.out)⟩⟩
            case rest =>
             clear HC17; try clear c1
             try clear p1
             try clear q1
             try clear hx1
             try clear c2
             try clear p2
             try clear c5
             try clear c5b0
             try clear c6
             try clear c6b0
             try clear c7
             try clear c7b0
             try clear c8
             try clear c8b0
             try clear c9
             try clear c12
             try clear c14
             try clear c14b0
             try clear c15
             try clear c15b0
             try clear p15
             try clear q15
             try clear hx15
             try clear c16
             try clear c16b0
             try clear p16
             try clear q16
             try clear hx16
             try clear c18
             try clear c18b0
             try clear c19
             try clear c19b0
             try clear c20
             try clear c20b0
             try clear hcz10_0
             try clear hcz10_1
             try clear hfz10_0
             try clear hfz10_1
             try clear hx158_0
             try clear hx159_0
             try clear hx159_1
             try clear hx159_2
             try clear hx161_0
             try clear hx161_1
             try clear hx161_2
             try clear hx168_0
             try clear hx169_0
             try clear hx169_1
             try clear p1
             try clear p158
             try clear p159
             try clear p161
             try clear p168
             try clear p169
             try clear p2
             try clear q1
             try clear q158
             try clear q159
             try clear q161
             try clear q168
             try clear q169
             obtain ⟨kq, x47_16, rfl, HA, HJ16, HO_3, HO_11, HO_30, BK160, HB⟩ := hcut
             cases kq with
             | zero => exact absurd HA.out (by simp [skew_stamps.j2])
             | succ kj16 =>
              have H := HA.out; clear HA; simp only [skew_stamps.j2] at H
              by_cases c24 : x47_16 = true
              ·subst c24
               have H1 : (if 0 ≤ (rd y162 x32_2) then (if (rd y162 x32_2) < (x3_1.length : Int) then ((skew_stamp_compare.f ((rd_T130 x3_1 (rd y162 x32_2)).f0) (wrap64 (((rd_T130 x3_1 (rd y162 x32_2)).f1) + 1)) x161000_2 x161001_2).bind fun t173 => (if t173 > 0 then (skew_stamps.l1 kj16 l0 x3_1 t155 (t155.length : Int) x13_1 y162 (y162.length : Int) (wrap64 (x32_2 + 1)) ((rd_T130 x3_1 (rd y162 x32_2)).f0) (wrap64 (((rd_T130 x3_1 (rd y162 x32_2)).f1) + 1))) else (skew_stamps.l1 kj16 l0 x3_1 t155 (t155.length : Int) x13_1 y162 (y162.length : Int) (wrap64 (x32_2 + 1)) x161000_2 x161001_2))) else (none)) else (none)) = some r := by rw [if_pos rfl] at H; exact H
               clear H; have H := H1; clear H1
               by_cases c25 : 0 ≤ (rd y162 x32_2)
               ·rw [if_pos c25] at H; have c25b0 : decide (0 ≤ (rd y162 x32_2)) = true := decide_eq_true c25; clear c25
                by_cases c26 : (rd y162 x32_2) < (x3_1.length : Int)
                ·rw [if_pos c26] at H; have c26b0 : decide ((rd y162 x32_2) < (x3_1.length : Int)) = true := decide_eq_true c26; clear c26; replace H := Option.bind_eq_some_iff.mp H; obtain ⟨t173, A270, H⟩ := H; replace H : (if t173 > 0 then (skew_stamps.l1 kj16 l0 x3_1 t155 (t155.length : Int) x13_1 y162 (y162.length : Int) (wrap64 (x32_2 + 1)) ((rd_T130 x3_1 (rd y162 x32_2)).f0) (wrap64 (((rd_T130 x3_1 (rd y162 x32_2)).f1) + 1))) else (skew_stamps.l1 kj16 l0 x3_1 t155 (t155.length : Int) x13_1 y162 (y162.length : Int) (wrap64 (x32_2 + 1)) x161000_2 x161001_2)) = some r := H; have A27 := Aa A270; clear A270
                 by_cases c28 : t173 > 0
                 ·rw [if_pos c28] at H; have c28b0 : decide (0 < t173) = true := decide_eq_true c28; clear c28; have H' := Aa H; clear H; try go_wp2
                  have n0_ := Aa (Kd.R_drew HO_3.out); have n1_ := Aa (Kd.R_drew HO_11.out); have n2_ := Aa (Kd.R_drew HO_30.out); have n3_ := Aa (Kw BK160.out); have n4_ := Aa (Dn HB.out); clear HO_3; clear HO_11; clear HO_30; clear BK160; clear HB; have HO_3 := n0_; have HO_11 := n1_; have HO_30 := n2_; have BK160 := n3_; have HB := n4_; clear n0_ n1_ n2_ n3_ n4_; obtain ⟨Ao30, co30, eo30⟩ := Kd.R_slice HO_3.out
                  (first | subst eo30 | (injection eo30 with f1_ f2_ f3_; have f4_ := f1_.symm; have f5_ := f3_.symm; clear f1_ f2_ f3_; subst f4_; subst f5_))
                  have p170 : 0 ≤ ((rd y162 x32_2) : Int) := Od (by first | (with_reducible assumption) | assumption); have q170 : (rd y162 x32_2) < (x3_1.length : Int) := Od (by first | (with_reducible assumption) | assumption); obtain ⟨ad170, e170, hx170_0, hx170_1⟩ := at_T130 (Kd.R_reads' HO_3.out).2.2 (rd y162 x32_2) p170 q170; cases e170; replace p170 := eq_true p170; replace q170 := eq_true q170; have p171 : 0 ≤ ((rd y162 x32_2) : Int) := Od (by first | (with_reducible assumption) | assumption); have q171 : (rd y162 x32_2) < (x3_1.length : Int) := Od (by first | (with_reducible assumption) | assumption); obtain ⟨ad171, e171, hx171_0, hx171_1⟩ := at_T130 (Kd.R_reads' HO_3.out).2.2 (rd y162 x32_2) p171 q171
                  obtain rfl : ad170 = ad171 := (by injection e171)
                  replace p171 := eq_true p171; replace q171 := eq_true q171; refine start_ (n := 14) (S := fun w' => w'.cell? (ad170.add (((rd y162 x32_2)).toNat * 2)) = some (.int .i64 ((rd_T130 x3_1 (rd y162 x32_2)).f0)) ∧ w'.cell? ⟨(ad170.add (((rd y162 x32_2)).toNat * 2)).block, (ad170.add (((rd y162 x32_2)).toNat * 2)).off + 1, none⟩ = some (.int .i64 ((rd_T130 x3_1 (rd y162 x32_2)).f1)) ∧ w'.cell? (ad170.add (((rd y162 x32_2)).toNat * 2)) = some (.int .i64 ((rd_T130 x3_1 (rd y162 x32_2)).f0)) ∧ w'.cell? ⟨(ad170.add (((rd y162 x32_2)).toNat * 2)).block, (ad170.add (((rd y162 x32_2)).toNat * 2)).off + 1, none⟩ = some (.int .i64 ((rd_T130 x3_1 (rd y162 x32_2)).f1))) (ds := []) #[false, false, false, false, false, false, false, false, false, false, false, false, false, false] (by kernel_rfl) rfl rfl ⟨hx170_0, hx170_1, hx171_0, hx171_1⟩ (fun hHeld => ?_); refine with_tabW skew_stamps.tab10 skew_stamps.bits10 (fun HT_ HW_ => ?_); generalize wc.drew = w29 at HO_3 HO_11 HO_30 BK160 HB hx170_0 hx170_1 hx171_0 hx171_1 hHeld ⊢; refine pure_ (i := 0) (N := some 48) (v := ?_) (a' := ?_) #[true, false, false, false, false, false, false, false, false, false, false, false, false, false] rfl rfl (any_of HT_.out (by kernel_rfl)) (fun _ _ _ h => h) (Or.inl ⟨by rfl, ?_⟩) ?_ ?_; rotate_left
                  ·intro w'; go_simp; with_reducible rfl
                  rotate_left
                  ·simp only [Act.put, Sa, Sb, Sc, i64_w, i32_w]; rfl
                  refine pure_ (i := 1) (N := some 49) (v := ?_) (a' := ?_) #[true, true, false, false, false, false, false, false, false, false, false, false, false, false] rfl rfl (any_of HT_.out (by kernel_rfl)) (fun _ _ _ h => h) (Or.inl ⟨by rfl, ?_⟩) ?_ ?_; rotate_left
                  ·intro w'; go_simp; with_reducible rfl
                  rotate_left
                  ·simp only [Act.put, Sa, Sb, Sc, i64_w, i32_w]; rfl
                  refine pure_ (i := 2) (N := some 50) (v := ?_) (a' := ?_) #[true, true, true, false, false, false, false, false, false, false, false, false, false, false] rfl rfl (any_of HT_.out (by kernel_rfl)) (fun _ _ _ h => h) (Or.inl ⟨by rfl, ?_⟩) ?_ ?_; rotate_left
                  ·intro w'; go_simp; with_reducible rfl
                  rotate_left
                  ·simp only [Act.put, Sa, Sb, Sc, i64_w, i32_w]; rfl
                  refine pure_ (i := 3) (N := some 51) (v := ?_) (a' := ?_) #[true, true, true, true, false, false, false, false, false, false, false, false, false, false] rfl rfl (any_of HT_.out (by kernel_rfl)) (fun _ _ _ h => h) (Or.inl ⟨by rfl, ?_⟩) ?_ ?_; rotate_left
                  ·intro w'; go_simp; with_reducible rfl
                  rotate_left
                  ·simp only [Act.put, Sa, Sb, Sc, i64_w, i32_w]; rfl
                  refine pure_ (i := 5) (N := some 53) (v := ?_) (a' := ?_) #[true, true, true, true, false, true, false, false, false, false, false, false, false, false] rfl rfl (any_of HT_.out (by kernel_rfl)) (fun _ _ _ h => h) (Or.inl ⟨by rfl, ?_⟩) ?_ ?_; rotate_left
                  ·intro w'; go_simp; with_reducible rfl
                  rotate_left
                  ·simp only [Act.put, Sa, Sb, Sc, i64_w, i32_w]; rfl
                  refine pure_ (i := 6) (N := some 54) (v := ?_) (a' := ?_) #[true, true, true, true, false, true, true, false, false, false, false, false, false, false] rfl rfl (any_of HT_.out (by kernel_rfl)) (fun _ _ _ h => h) (Or.inl ⟨by rfl, ?_⟩) ?_ ?_; rotate_left
                  ·intro w'; go_simp; with_reducible rfl
                  rotate_left
                  ·simp only [Act.put, Sa, Sb, Sc, i64_w, i32_w]; rfl
                  refine pure_ (i := 7) (N := some 55) (v := ?_) (a' := ?_) #[true, true, true, true, false, true, true, true, false, false, false, false, false, false] rfl rfl (any_of HT_.out (by kernel_rfl)) (fun _ _ _ h => h) (Or.inl ⟨by rfl, ?_⟩) ?_ ?_; rotate_left
                  ·intro w'; go_simp; with_reducible rfl
                  rotate_left
                  ·simp only [Act.put, Sa, Sb, Sc, i64_w, i32_w]; rfl
                  refine pure_ (i := 8) (N := some 56) (v := ?_) (a' := ?_) #[true, true, true, true, false, true, true, true, true, false, false, false, false, false] rfl rfl (any_of HT_.out (by kernel_rfl)) (fun _ _ _ h => h) (Or.inl ⟨by rfl, ?_⟩) ?_ ?_; rotate_left
                  ·intro w'; go_simp; with_reducible rfl
                  rotate_left
                  ·simp only [Act.put, Sa, Sb, Sc, i64_w, i32_w]; rfl
                  refine take_ (i := 4) (N := some 52) (v := ?_) (a' := ?_) #[true, true, true, true, true, true, true, true, true, false, false, false, false, false] rfl rfl (take_ofW HT_.out HW_.out (by kernel_rfl)) (fun _ _ _ h => h) (Or.inl ⟨by rfl, ?_⟩) hHeld ?_ ?_; rotate_left
                  ·rintro w' ⟨s0, s1, s2, s3⟩; go_simp; with_reducible rfl
                  rotate_left
                  ·simp only [Act.put, Sa, Sb, Sc, i64_w, i32_w]; rfl
                  refine take_ (i := 9) (N := some 57) (v := ?_) (a' := ?_) #[true, true, true, true, true, true, true, true, true, true, false, false, false, false] rfl rfl (take_ofW HT_.out HW_.out (by kernel_rfl)) (fun _ _ _ h => h) (Or.inl ⟨by rfl, ?_⟩) hHeld ?_ ?_; rotate_left
                  ·rintro w' ⟨s0, s1, s2, s3⟩; go_simp; with_reducible rfl
                  rotate_left
                  ·simp only [Act.put, Sa, Sb, Sc, i64_w, i32_w]; rfl
                  refine pure_ (i := 10) (N := some 58) (v := ?_) (a' := ?_) #[true, true, true, true, true, true, true, true, true, true, true, false, false, false] rfl rfl (any_of HT_.out (by kernel_rfl)) (fun _ _ _ h => h) (Or.inl ⟨by rfl, ?_⟩) ?_ ?_; rotate_left
                  ·intro w'; go_simp; with_reducible rfl
                  rotate_left
                  ·simp only [Act.put, Sa, Sb, Sc, i64_w, i32_w]; rfl
                  refine pure_ (i := 11) (N := some 59) (v := ?_) (a' := ?_) #[true, true, true, true, true, true, true, true, true, true, true, true, false, false] rfl rfl (any_of HT_.out (by kernel_rfl)) (fun _ _ _ h => h) (Or.inl ⟨by rfl, ?_⟩) ?_ ?_; rotate_left
                  ·intro w'; go_simp; with_reducible rfl
                  rotate_left
                  ·simp only [Act.put, Sa, Sb, Sc, i64_w, i32_w]; rfl
                  refine one_ (i := 12) (N := some 9) #[true, true, true, true, true, true, true, true, true, true, true, true, true, false] rfl rfl (one_of HT_.out (by kernel_rfl)) (by decide) (fun K hK => ?_); refine box_step ?hg (N := 9) ?hd (cs := #[.int .i64 0, .int .i64 0]) (t := 130) ?hr ?_; (case hd => rfl); (case hg => rfl); (case hr => first | (go_simp; done) | (go_simp; rfl)); intro gb172 hg w31 hbox hb; have HS0_ := (hb.cell (Wb _ _ (hHeld.1))).trans (hHeld.1); have HS1_ := (hb.cell (Wb _ _ (hHeld.2.1))).trans (hHeld.2.1); have HS2_ := (hb.cell (Wb _ _ (hHeld.2.2.1))).trans (hHeld.2.2.1); have HS3_ := (hb.cell (Wb _ _ (hHeld.2.2.2))).trans (hHeld.2.2.2); have n0_ := Aa (Kd.R_below (Kd.R_elderB (by (with_reducible repeat (first | apply Kd.R_alloc | apply Kd.R_drewN | apply Kd.R_drew)); exact HO_3.out) gb172 (Nat.le_of_eq hg.symm)) hb); have n1_ := Aa (Kd.R_below (by (with_reducible repeat (first | apply Kd.R_alloc | apply Kd.R_drewN | apply Kd.R_drew)); exact HO_11.out) hb); have n2_ := Aa (Kd.R_below (by (with_reducible repeat (first | apply Kd.R_alloc | apply Kd.R_drewN | apply Kd.R_drew)); exact HO_30.out) hb); have n3_ := Aa (blk_below (g := gb160) (o := .cells #[.int .i64 x161000_2, .int .i64 x161001_2] 130 (0, 0)) (by (with_reducible repeat (first | refine Kn ?_ _ | refine Kw ?_ | refine Ka ?_ _)); exact BK160.out) hb); have n4_ := Aa (Bp (by repeat (first | (with_reducible first | exact HB.out | apply Ba | apply Pn | apply Dn | refine Bz ?_ GE160.out) | exact HB.out)) hb); have n5_ := Aa (hbox); have n6_ := Aa ((by rw [hg]; exact (below_size (by repeat (first | (with_reducible first | exact HB.out | apply Ba | apply Pn | apply Dn | refine Bz ?_ GE160.out) | exact HB.out))) : w.heap.size ≤ gb172)); have n7_ := Aa ((by rw [hg]; exact (below_size (by repeat (first | (with_reducible first | exact HB.out | apply Ba | apply Pn | apply Dn | refine Bz ?_ GE160.out) | exact HB.out))) : w.heap.size ≤ gb172)); have n8_ := Aa ((by rw [hg]; exact Nat.ne_of_lt (blk_lt (g := gb160) (o := .cells #[.int .i64 x161000_2, .int .i64 x161001_2] 130 (0, 0)) (by (with_reducible repeat (first | refine Kn ?_ _ | refine Kw ?_ | refine Ka ?_ _)); exact BK160.out)) : gb160 ≠ gb172)); have n9_ := Aa ((by rw [hg]; exact Nat.ne_of_gt (blk_lt (g := gb160) (o := .cells #[.int .i64 x161000_2, .int .i64 x161001_2] 130 (0, 0)) (by (with_reducible repeat (first | refine Kn ?_ _ | refine Kw ?_ | refine Ka ?_ _)); exact BK160.out)) : gb172 ≠ gb160)); clear HO_3; clear HO_11; clear HO_30; clear BK160; clear HB; have HO_3 := n0_; have HO_11 := n1_; have HO_30 := n2_; have BK160 := n3_; have HB := n4_; have BK172 := n5_; have GW172 := n6_; have GE172 := n7_; have NB160_172 := n8_; have NB172_160 := n9_; clear n0_ n1_ n2_ n3_ n4_ n5_ n6_ n7_ n8_ n9_; clear hb hbox hg
                  refine hK.out _ _ ⟨HS0_, HS1_, HS2_, HS3_⟩ (fun hHeld => ?_); clear hK K; refine norm_ (a' := ?_) ?_ ?_; rotate_left
                  ·show Act.put _ (some 9) _ = _; simp only [Act.put, Sa, Sb, Sc, i64_w, i32_w]; rfl
                  refine one_ (i := 13) (N := none) #[true, true, true, true, true, true, true, true, true, true, true, true, true, true] rfl rfl (one_of HT_.out (by kernel_rfl)) (by decide) (fun K hK => ?_); have hs32 : w31.cell? ⟨gb172, 0, none⟩ = some (.int .i64 0) := (Bc BK172.out 0).trans rfl; have hfs32 := Bf BK172.out 0; have hns32_0 := NB160_172.out; have hms32_0 := NB172_160.out; have hs33 : w31.cell? ⟨gb172, 1, none⟩ = some (.int .i64 0) := (Bc BK172.out 1).trans rfl; have hfs33 := Bf BK172.out 1; have hns33_0 := NB160_172.out; have hms33_0 := NB172_160.out; refine skip_ (w1 := ?_) (by rfl) rfl ?_ ?_; rotate_left
                  ·go_simp; rfl
                  refine hK.out _ _ ⟨((cell_far (p := ⟨gb172, _, none⟩) (by first | exact Kd.own_blk (Kd.R_away HO_3.out (fun _ hk => hk.2)) | (rw [add_block]; exact Kd.own_blk (Kd.R_away HO_3.out (fun _ hk => hk.2))) | (show (Addr.add _ _).block ≠ _; rw [add_block]; exact Kd.own_blk (Kd.R_away HO_3.out (fun _ hk => hk.2))) | (dsimp only; exact Kd.own_blk (Kd.R_away HO_3.out (fun _ hk => hk.2)))) _).trans (((cell_far (p := ⟨gb172, _, none⟩) (by first | exact Kd.own_blk (Kd.R_away HO_3.out (fun _ hk => hk.2)) | (rw [add_block]; exact Kd.own_blk (Kd.R_away HO_3.out (fun _ hk => hk.2))) | (show (Addr.add _ _).block ≠ _; rw [add_block]; exact Kd.own_blk (Kd.R_away HO_3.out (fun _ hk => hk.2))) | (dsimp only; exact Kd.own_blk (Kd.R_away HO_3.out (fun _ hk => hk.2)))) _).trans (hHeld.1)))), ((cell_far (p := ⟨gb172, _, none⟩) (by first | exact Kd.own_blk (Kd.R_away HO_3.out (fun _ hk => hk.2)) | (rw [add_block]; exact Kd.own_blk (Kd.R_away HO_3.out (fun _ hk => hk.2))) | (show (Addr.add _ _).block ≠ _; rw [add_block]; exact Kd.own_blk (Kd.R_away HO_3.out (fun _ hk => hk.2))) | (dsimp only; exact Kd.own_blk (Kd.R_away HO_3.out (fun _ hk => hk.2)))) _).trans (((cell_far (p := ⟨gb172, _, none⟩) (by first | exact Kd.own_blk (Kd.R_away HO_3.out (fun _ hk => hk.2)) | (rw [add_block]; exact Kd.own_blk (Kd.R_away HO_3.out (fun _ hk => hk.2))) | (show (Addr.add _ _).block ≠ _; rw [add_block]; exact Kd.own_blk (Kd.R_away HO_3.out (fun _ hk => hk.2))) | (dsimp only; exact Kd.own_blk (Kd.R_away HO_3.out (fun _ hk => hk.2)))) _).trans (hHeld.2.1)))), ((cell_far (p := ⟨gb172, _, none⟩) (by first | exact Kd.own_blk (Kd.R_away HO_3.out (fun _ hk => hk.2)) | (rw [add_block]; exact Kd.own_blk (Kd.R_away HO_3.out (fun _ hk => hk.2))) | (show (Addr.add _ _).block ≠ _; rw [add_block]; exact Kd.own_blk (Kd.R_away HO_3.out (fun _ hk => hk.2))) | (dsimp only; exact Kd.own_blk (Kd.R_away HO_3.out (fun _ hk => hk.2)))) _).trans (((cell_far (p := ⟨gb172, _, none⟩) (by first | exact Kd.own_blk (Kd.R_away HO_3.out (fun _ hk => hk.2)) | (rw [add_block]; exact Kd.own_blk (Kd.R_away HO_3.out (fun _ hk => hk.2))) | (show (Addr.add _ _).block ≠ _; rw [add_block]; exact Kd.own_blk (Kd.R_away HO_3.out (fun _ hk => hk.2))) | (dsimp only; exact Kd.own_blk (Kd.R_away HO_3.out (fun _ hk => hk.2)))) _).trans (hHeld.2.2.1)))), ((cell_far (p := ⟨gb172, _, none⟩) (by first | exact Kd.own_blk (Kd.R_away HO_3.out (fun _ hk => hk.2)) | (rw [add_block]; exact Kd.own_blk (Kd.R_away HO_3.out (fun _ hk => hk.2))) | (show (Addr.add _ _).block ≠ _; rw [add_block]; exact Kd.own_blk (Kd.R_away HO_3.out (fun _ hk => hk.2))) | (dsimp only; exact Kd.own_blk (Kd.R_away HO_3.out (fun _ hk => hk.2)))) _).trans (((cell_far (p := ⟨gb172, _, none⟩) (by first | exact Kd.own_blk (Kd.R_away HO_3.out (fun _ hk => hk.2)) | (rw [add_block]; exact Kd.own_blk (Kd.R_away HO_3.out (fun _ hk => hk.2))) | (show (Addr.add _ _).block ≠ _; rw [add_block]; exact Kd.own_blk (Kd.R_away HO_3.out (fun _ hk => hk.2))) | (dsimp only; exact Kd.own_blk (Kd.R_away HO_3.out (fun _ hk => hk.2)))) _).trans (hHeld.2.2.2))))⟩ (fun hHeld => ?_)
                  clear hK K; refine done_ (done_of HT_.out (by kernel_rfl)) ?_; have hnb34 := NB172_160.out; have hnc34 := NB160_172.out; have hcz35_0 : w31.cell? ⟨gb172, 0, none⟩ = some (.int .i64 0) := (Bc BK172.out 0).trans rfl; have hcz35_1 : w31.cell? ⟨gb172, 1, none⟩ = some (.int .i64 0) := (Bc BK172.out 1).trans rfl; have hfz35_0 := Bf BK172.out 0; have hfz35_1 := Bf BK172.out 1; have hcz36_0 : w31.cell? ⟨gb160, 0, none⟩ = some (.int .i64 x161000_2) := (Bc BK160.out 0).trans rfl; have hcz36_1 : w31.cell? ⟨gb160, 1, none⟩ = some (.int .i64 x161001_2) := (Bc BK160.out 1).trans rfl; have hfz36_0 := Bf BK160.out 0; have hfz36_1 := Bf BK160.out 1
                  try go_wp2_with (first | ((with_reducible refine gate_callee (f := 92) rfl ?_); refine goesL_ (some 62) rfl rfl Try.func92 (by kernel_rfl) rfl #[.agg #[.int .i64 ((rd_T130 x3_1 (rd y162 x32_2)).f0), .int .i64 (wrap64 (((rd_T130 x3_1 (rd y162 x32_2)).f1) + 1))], .agg #[.int .i64 x161000_2, .int .i64 x161001_2]] rfl (by (try simp only [List.map_toArray, List.map_cons, List.map_nil]); first | done | rfl | (simp only [List.length_drop, List.length_take]; rfl)) ?_; (with_reducible refine (skew_stamp_compare.calls ((rd_T130 x3_1 (rd y162 x32_2)).f0) (wrap64 (((rd_T130 x3_1 (rd y162 x32_2)).f1) + 1)) x161000_2 x161001_2 t173 _ A27.out).mono ?_); rintro e w37 ⟨rfl, hb⟩; refine ⟨_, rfl, ?_⟩; have n0_ := Aa (Kd.R_below (by (with_reducible repeat (first | apply Kd.R_alloc | apply Kd.R_drewN | apply Kd.R_drew)); exact (Kd.R_mono (Kd.R_far (p := ⟨gb172, 1, none⟩) (Kd.R_far (p := ⟨gb172, 0, none⟩) (Kd.R_mono HO_3.out (fun k_ hk => (⟨hk, hk.2⟩ : _ ∧ k_ ≠ gb172))) (fun _ hk => hk.2) (.int .i64 ((rd_T130 x3_1 (rd y162 x32_2)).f0))) (fun _ hk => hk.2) (.int .i64 (wrap64 (((rd_T130 x3_1 (rd y162 x32_2)).f1) + 1)))) (fun _ h_ => h_.1))) hb); have n1_ := Aa (Kd.R_below (by (with_reducible repeat (first | apply Kd.R_alloc | apply Kd.R_drewN | apply Kd.R_drew)); exact (Kd.R_mono (Kd.R_far (p := ⟨gb172, 1, none⟩) (Kd.R_far (p := ⟨gb172, 0, none⟩) (Kd.R_types HO_11.out BK172.out (by decide)) (fun _ hk => hk.2) (.int .i64 ((rd_T130 x3_1 (rd y162 x32_2)).f0))) (fun _ hk => hk.2) (.int .i64 (wrap64 (((rd_T130 x3_1 (rd y162 x32_2)).f1) + 1)))) (fun _ h_ => h_.1))) hb); have n2_ := Aa (Kd.R_below (by (with_reducible repeat (first | apply Kd.R_alloc | apply Kd.R_drewN | apply Kd.R_drew)); exact (Kd.R_mono (Kd.R_far (p := ⟨gb172, 1, none⟩) (Kd.R_far (p := ⟨gb172, 0, none⟩) (Kd.R_types HO_30.out BK172.out (by decide)) (fun _ hk => hk.2) (.int .i64 ((rd_T130 x3_1 (rd y162 x32_2)).f0))) (fun _ hk => hk.2) (.int .i64 (wrap64 (((rd_T130 x3_1 (rd y162 x32_2)).f1) + 1)))) (fun _ h_ => h_.1))) hb); have n3_ := Aa (blk_below (g := gb160) (o := .cells #[.int .i64 x161000_2, .int .i64 x161001_2] 130 (0, 0)) (by (with_reducible repeat (first | refine Kn ?_ _ | refine Kw ?_ | refine Ka ?_ _)); refine blk_far ?_ NB160_172.out _; (with_reducible repeat (first | refine Kn ?_ _ | refine Kw ?_ | refine Ka ?_ _)); refine blk_far ?_ NB160_172.out _; (with_reducible repeat (first | refine Kn ?_ _ | refine Kw ?_ | refine Ka ?_ _)); exact BK160.out) hb); have n4_ := Aa (blk_below (g := gb172) (o := .cells #[.int .i64 ((rd_T130 x3_1 (rd y162 x32_2)).f0), .int .i64 (wrap64 (((rd_T130 x3_1 (rd y162 x32_2)).f1) + 1))] 130 (0, 0)) (by (with_reducible repeat (first | refine Kn ?_ _ | refine Kw ?_ | refine Ka ?_ _)); refine blk_put (cs := #[.int .i64 ((rd_T130 x3_1 (rd y162 x32_2)).f0), .int .i64 0]) ?_ 1 _ rfl; (with_reducible repeat (first | refine Kn ?_ _ | refine Kw ?_ | refine Ka ?_ _)); refine blk_put (cs := #[.int .i64 0, .int .i64 0]) ?_ 0 _ rfl; (with_reducible repeat (first | refine Kn ?_ _ | refine Kw ?_ | refine Ka ?_ _)); exact BK172.out) hb); have n5_ := Aa (Bp (by repeat (first | (with_reducible first | exact HB.out | apply Ba | apply Pn | apply Dn | refine Bz ?_ GE160.out | refine Bz ?_ GE172.out) | exact HB.out)) hb); clear HO_3; clear HO_11; clear HO_30; clear BK160; clear BK172; clear HB; have HO_3 := n0_; have HO_11 := n1_; have HO_30 := n2_; have BK160 := n3_; have BK172 := n4_; have HB := n5_; clear n0_ n1_ n2_ n3_ n4_ n5_; (try clear hb); (try clear hb2); (try clear hk); (try clear hi); have hcz38_0 : w37.cell? ⟨gb172, 0, none⟩ = some (.int .i64 ((rd_T130 x3_1 (rd y162 x32_2)).f0)) := (Bc BK172.out 0).trans rfl; have hcz38_1 : w37.cell? ⟨gb172, 1, none⟩ = some (.int .i64 (wrap64 (((rd_T130 x3_1 (rd y162 x32_2)).f1) + 1))) := (Bc BK172.out 1).trans rfl; have hfz38_0 := Bf BK172.out 0; have hfz38_1 := Bf BK172.out 1; have hcz39_0 : w37.cell? ⟨gb160, 0, none⟩ = some (.int .i64 x161000_2) := (Bc BK160.out 0).trans rfl; have hcz39_1 : w37.cell? ⟨gb160, 1, none⟩ = some (.int .i64 x161001_2) := (Bc BK160.out 1).trans rfl; have hfz39_0 := Bf BK160.out 0; have hfz39_1 := Bf BK160.out 1))
                  go_roundg kj16
                  case measure => have := HK1.out; have := HK2.out; have := HJ16.out; omega
                  case rel => exact ⟨(wrap64 (x32_2 + 1)), ((rd_T130 x3_1 (rd y162 x32_2)).f0), (wrap64 (((rd_T130 x3_1 (rd y162 x32_2)).f1) + 1)), (by first | rfl | (simp; done) | (simp [*]; done)), H', ⟨by have := HK1.out; have := HK2.out; have := HJ16.out; omega⟩, ⟨by (with_reducible repeat (first | apply Kd.R_alloc | apply Kd.R_drewN | apply Kd.R_drew)); exact Kd.R_mono (Kd.R_far (p := ⟨gb160, 1, none⟩) (Kd.R_far (p := ⟨gb160, 0, none⟩) (Kd.R_mono HO_3.out (fun k_ hk => (⟨hk, hk.1⟩ : _ ∧ k_ ≠ gb160))) (fun _ hk => hk.2) (.int .i64 ((rd_T130 x3_1 (rd y162 x32_2)).f0))) (fun _ hk => hk.2) (.int .i64 (wrap64 (((rd_T130 x3_1 (rd y162 x32_2)).f1) + 1)))) (fun _ hk => hk.1.1)⟩, ⟨by (with_reducible repeat (first | apply Kd.R_alloc | apply Kd.R_drewN | apply Kd.R_drew)); exact Kd.R_mono (Kd.R_far (p := ⟨gb160, 1, none⟩) (Kd.R_far (p := ⟨gb160, 0, none⟩) (Kd.R_types HO_11.out BK160.out (by decide)) (fun _ hk => hk.2) (.int .i64 ((rd_T130 x3_1 (rd y162 x32_2)).f0))) (fun _ hk => hk.2) (.int .i64 (wrap64 (((rd_T130 x3_1 (rd y162 x32_2)).f1) + 1)))) (fun _ hk => hk.1)⟩, ⟨by (with_reducible repeat (first | apply Kd.R_alloc | apply Kd.R_drewN | apply Kd.R_drew)); exact Kd.R_mono (Kd.R_far (p := ⟨gb160, 1, none⟩) (Kd.R_far (p := ⟨gb160, 0, none⟩) (Kd.R_types HO_30.out BK160.out (by decide)) (fun _ hk => hk.2) (.int .i64 ((rd_T130 x3_1 (rd y162 x32_2)).f0))) (fun _ hk => hk.2) (.int .i64 (wrap64 (((rd_T130 x3_1 (rd y162 x32_2)).f1) + 1)))) (fun _ hk => hk.1)⟩, ⟨by (with_reducible repeat (first | refine Kn ?_ _ | refine Kw ?_ | refine Ka ?_ _)); refine blk_put (cs := #[.int .i64 ((rd_T130 x3_1 (rd y162 x32_2)).f0), .int .i64 x161001_2]) ?_ 1 _ rfl; (with_reducible repeat (first | refine Kn ?_ _ | refine Kw ?_ | refine Ka ?_ _)); refine blk_put (cs := #[.int .i64 x161000_2, .int .i64 x161001_2]) ?_ 0 _ rfl; (with_reducible repeat (first | refine Kn ?_ _ | refine Kw ?_ | refine Ka ?_ _)); exact BK160.out⟩, ⟨by repeat (first | (with_reducible first | exact HB.out | apply Ba | apply Pn | apply Dn | refine Bz ?_ GE160.out | refine Bz ?_ GE172.out) | exact HB.out)⟩⟩
                 ·rw [if_neg c28] at H; have c28b0 : decide (0 < t173) = false := decide_eq_false c28; clear c28; have H' := Aa H; clear H; try go_wp2
                  have n0_ := Aa (Kd.R_drew HO_3.out); have n1_ := Aa (Kd.R_drew HO_11.out); have n2_ := Aa (Kd.R_drew HO_30.out); have n3_ := Aa (Kw BK160.out); have n4_ := Aa (Dn HB.out); clear HO_3; clear HO_11; clear HO_30; clear BK160; clear HB; have HO_3 := n0_; have HO_11 := n1_; have HO_30 := n2_; have BK160 := n3_; have HB := n4_; clear n0_ n1_ n2_ n3_ n4_; obtain ⟨Ao41, co41, eo41⟩ := Kd.R_slice HO_3.out
                  (first | subst eo41 | (injection eo41 with f1_ f2_ f3_; have f4_ := f1_.symm; have f5_ := f3_.symm; clear f1_ f2_ f3_; subst f4_; subst f5_))
                  have p170 : 0 ≤ ((rd y162 x32_2) : Int) := Od (by first | (with_reducible assumption) | assumption); have q170 : (rd y162 x32_2) < (x3_1.length : Int) := Od (by first | (with_reducible assumption) | assumption); obtain ⟨ad170, e170, hx170_0, hx170_1⟩ := at_T130 (Kd.R_reads' HO_3.out).2.2 (rd y162 x32_2) p170 q170; cases e170; replace p170 := eq_true p170; replace q170 := eq_true q170; have p171 : 0 ≤ ((rd y162 x32_2) : Int) := Od (by first | (with_reducible assumption) | assumption); have q171 : (rd y162 x32_2) < (x3_1.length : Int) := Od (by first | (with_reducible assumption) | assumption); obtain ⟨ad171, e171, hx171_0, hx171_1⟩ := at_T130 (Kd.R_reads' HO_3.out).2.2 (rd y162 x32_2) p171 q171
                  obtain rfl : ad170 = ad171 := (by injection e171)
                  replace p171 := eq_true p171; replace q171 := eq_true q171; refine start_ (n := 14) (S := fun w' => w'.cell? (ad170.add (((rd y162 x32_2)).toNat * 2)) = some (.int .i64 ((rd_T130 x3_1 (rd y162 x32_2)).f0)) ∧ w'.cell? ⟨(ad170.add (((rd y162 x32_2)).toNat * 2)).block, (ad170.add (((rd y162 x32_2)).toNat * 2)).off + 1, none⟩ = some (.int .i64 ((rd_T130 x3_1 (rd y162 x32_2)).f1)) ∧ w'.cell? (ad170.add (((rd y162 x32_2)).toNat * 2)) = some (.int .i64 ((rd_T130 x3_1 (rd y162 x32_2)).f0)) ∧ w'.cell? ⟨(ad170.add (((rd y162 x32_2)).toNat * 2)).block, (ad170.add (((rd y162 x32_2)).toNat * 2)).off + 1, none⟩ = some (.int .i64 ((rd_T130 x3_1 (rd y162 x32_2)).f1))) (ds := []) #[false, false, false, false, false, false, false, false, false, false, false, false, false, false] (by kernel_rfl) rfl rfl ⟨hx170_0, hx170_1, hx171_0, hx171_1⟩ (fun hHeld => ?_); refine with_tabW skew_stamps.tab10 skew_stamps.bits10 (fun HT_ HW_ => ?_); generalize wc.drew = w40 at HO_3 HO_11 HO_30 BK160 HB hx170_0 hx170_1 hx171_0 hx171_1 hHeld ⊢; refine pure_ (i := 0) (N := some 48) (v := ?_) (a' := ?_) #[true, false, false, false, false, false, false, false, false, false, false, false, false, false] rfl rfl (any_of HT_.out (by kernel_rfl)) (fun _ _ _ h => h) (Or.inl ⟨by rfl, ?_⟩) ?_ ?_; rotate_left
                  ·intro w'; go_simp; with_reducible rfl
                  rotate_left
                  ·simp only [Act.put, Sa, Sb, Sc, i64_w, i32_w]; rfl
                  refine pure_ (i := 1) (N := some 49) (v := ?_) (a' := ?_) #[true, true, false, false, false, false, false, false, false, false, false, false, false, false] rfl rfl (any_of HT_.out (by kernel_rfl)) (fun _ _ _ h => h) (Or.inl ⟨by rfl, ?_⟩) ?_ ?_; rotate_left
                  ·intro w'; go_simp; with_reducible rfl
                  rotate_left
                  ·simp only [Act.put, Sa, Sb, Sc, i64_w, i32_w]; rfl
                  refine pure_ (i := 2) (N := some 50) (v := ?_) (a' := ?_) #[true, true, true, false, false, false, false, false, false, false, false, false, false, false] rfl rfl (any_of HT_.out (by kernel_rfl)) (fun _ _ _ h => h) (Or.inl ⟨by rfl, ?_⟩) ?_ ?_; rotate_left
                  ·intro w'; go_simp; with_reducible rfl
                  rotate_left
                  ·simp only [Act.put, Sa, Sb, Sc, i64_w, i32_w]; rfl
                  refine pure_ (i := 3) (N := some 51) (v := ?_) (a' := ?_) #[true, true, true, true, false, false, false, false, false, false, false, false, false, false] rfl rfl (any_of HT_.out (by kernel_rfl)) (fun _ _ _ h => h) (Or.inl ⟨by rfl, ?_⟩) ?_ ?_; rotate_left
                  ·intro w'; go_simp; with_reducible rfl
                  rotate_left
                  ·simp only [Act.put, Sa, Sb, Sc, i64_w, i32_w]; rfl
                  refine pure_ (i := 5) (N := some 53) (v := ?_) (a' := ?_) #[true, true, true, true, false, true, false, false, false, false, false, false, false, false] rfl rfl (any_of HT_.out (by kernel_rfl)) (fun _ _ _ h => h) (Or.inl ⟨by rfl, ?_⟩) ?_ ?_; rotate_left
                  ·intro w'; go_simp; with_reducible rfl
                  rotate_left
                  ·simp only [Act.put, Sa, Sb, Sc, i64_w, i32_w]; rfl
                  refine pure_ (i := 6) (N := some 54) (v := ?_) (a' := ?_) #[true, true, true, true, false, true, true, false, false, false, false, false, false, false] rfl rfl (any_of HT_.out (by kernel_rfl)) (fun _ _ _ h => h) (Or.inl ⟨by rfl, ?_⟩) ?_ ?_; rotate_left
                  ·intro w'; go_simp; with_reducible rfl
                  rotate_left
                  ·simp only [Act.put, Sa, Sb, Sc, i64_w, i32_w]; rfl
                  refine pure_ (i := 7) (N := some 55) (v := ?_) (a' := ?_) #[true, true, true, true, false, true, true, true, false, false, false, false, false, false] rfl rfl (any_of HT_.out (by kernel_rfl)) (fun _ _ _ h => h) (Or.inl ⟨by rfl, ?_⟩) ?_ ?_; rotate_left
                  ·intro w'; go_simp; with_reducible rfl
                  rotate_left
                  ·simp only [Act.put, Sa, Sb, Sc, i64_w, i32_w]; rfl
                  refine pure_ (i := 8) (N := some 56) (v := ?_) (a' := ?_) #[true, true, true, true, false, true, true, true, true, false, false, false, false, false] rfl rfl (any_of HT_.out (by kernel_rfl)) (fun _ _ _ h => h) (Or.inl ⟨by rfl, ?_⟩) ?_ ?_; rotate_left
                  ·intro w'; go_simp; with_reducible rfl
                  rotate_left
                  ·simp only [Act.put, Sa, Sb, Sc, i64_w, i32_w]; rfl
                  refine take_ (i := 4) (N := some 52) (v := ?_) (a' := ?_) #[true, true, true, true, true, true, true, true, true, false, false, false, false, false] rfl rfl (take_ofW HT_.out HW_.out (by kernel_rfl)) (fun _ _ _ h => h) (Or.inl ⟨by rfl, ?_⟩) hHeld ?_ ?_; rotate_left
                  ·rintro w' ⟨s0, s1, s2, s3⟩; go_simp; with_reducible rfl
                  rotate_left
                  ·simp only [Act.put, Sa, Sb, Sc, i64_w, i32_w]; rfl
                  refine take_ (i := 9) (N := some 57) (v := ?_) (a' := ?_) #[true, true, true, true, true, true, true, true, true, true, false, false, false, false] rfl rfl (take_ofW HT_.out HW_.out (by kernel_rfl)) (fun _ _ _ h => h) (Or.inl ⟨by rfl, ?_⟩) hHeld ?_ ?_; rotate_left
                  ·rintro w' ⟨s0, s1, s2, s3⟩; go_simp; with_reducible rfl
                  rotate_left
                  ·simp only [Act.put, Sa, Sb, Sc, i64_w, i32_w]; rfl
                  refine pure_ (i := 10) (N := some 58) (v := ?_) (a' := ?_) #[true, true, true, true, true, true, true, true, true, true, true, false, false, false] rfl rfl (any_of HT_.out (by kernel_rfl)) (fun _ _ _ h => h) (Or.inl ⟨by rfl, ?_⟩) ?_ ?_; rotate_left
                  ·intro w'; go_simp; with_reducible rfl
                  rotate_left
                  ·simp only [Act.put, Sa, Sb, Sc, i64_w, i32_w]; rfl
                  refine pure_ (i := 11) (N := some 59) (v := ?_) (a' := ?_) #[true, true, true, true, true, true, true, true, true, true, true, true, false, false] rfl rfl (any_of HT_.out (by kernel_rfl)) (fun _ _ _ h => h) (Or.inl ⟨by rfl, ?_⟩) ?_ ?_; rotate_left
                  ·intro w'; go_simp; with_reducible rfl
                  rotate_left
                  ·simp only [Act.put, Sa, Sb, Sc, i64_w, i32_w]; rfl
                  refine one_ (i := 12) (N := some 9) #[true, true, true, true, true, true, true, true, true, true, true, true, true, false] rfl rfl (one_of HT_.out (by kernel_rfl)) (by decide) (fun K hK => ?_); refine box_step ?hg (N := 9) ?hd (cs := #[.int .i64 0, .int .i64 0]) (t := 130) ?hr ?_; (case hd => rfl); (case hg => rfl); (case hr => first | (go_simp; done) | (go_simp; rfl)); intro gb172 hg w42 hbox hb; have HS0_ := (hb.cell (Wb _ _ (hHeld.1))).trans (hHeld.1); have HS1_ := (hb.cell (Wb _ _ (hHeld.2.1))).trans (hHeld.2.1); have HS2_ := (hb.cell (Wb _ _ (hHeld.2.2.1))).trans (hHeld.2.2.1); have HS3_ := (hb.cell (Wb _ _ (hHeld.2.2.2))).trans (hHeld.2.2.2); have n0_ := Aa (Kd.R_below (Kd.R_elderB (by (with_reducible repeat (first | apply Kd.R_alloc | apply Kd.R_drewN | apply Kd.R_drew)); exact HO_3.out) gb172 (Nat.le_of_eq hg.symm)) hb); have n1_ := Aa (Kd.R_below (by (with_reducible repeat (first | apply Kd.R_alloc | apply Kd.R_drewN | apply Kd.R_drew)); exact HO_11.out) hb); have n2_ := Aa (Kd.R_below (by (with_reducible repeat (first | apply Kd.R_alloc | apply Kd.R_drewN | apply Kd.R_drew)); exact HO_30.out) hb); have n3_ := Aa (blk_below (g := gb160) (o := .cells #[.int .i64 x161000_2, .int .i64 x161001_2] 130 (0, 0)) (by (with_reducible repeat (first | refine Kn ?_ _ | refine Kw ?_ | refine Ka ?_ _)); exact BK160.out) hb); have n4_ := Aa (Bp (by repeat (first | (with_reducible first | exact HB.out | apply Ba | apply Pn | apply Dn | refine Bz ?_ GE160.out) | exact HB.out)) hb); have n5_ := Aa (hbox); have n6_ := Aa ((by rw [hg]; exact (below_size (by repeat (first | (with_reducible first | exact HB.out | apply Ba | apply Pn | apply Dn | refine Bz ?_ GE160.out) | exact HB.out))) : w.heap.size ≤ gb172)); have n7_ := Aa ((by rw [hg]; exact (below_size (by repeat (first | (with_reducible first | exact HB.out | apply Ba | apply Pn | apply Dn | refine Bz ?_ GE160.out) | exact HB.out))) : w.heap.size ≤ gb172)); have n8_ := Aa ((by rw [hg]; exact Nat.ne_of_lt (blk_lt (g := gb160) (o := .cells #[.int .i64 x161000_2, .int .i64 x161001_2] 130 (0, 0)) (by (with_reducible repeat (first | refine Kn ?_ _ | refine Kw ?_ | refine Ka ?_ _)); exact BK160.out)) : gb160 ≠ gb172)); have n9_ := Aa ((by rw [hg]; exact Nat.ne_of_gt (blk_lt (g := gb160) (o := .cells #[.int .i64 x161000_2, .int .i64 x161001_2] 130 (0, 0)) (by (with_reducible repeat (first | refine Kn ?_ _ | refine Kw ?_ | refine Ka ?_ _)); exact BK160.out)) : gb172 ≠ gb160)); clear HO_3; clear HO_11; clear HO_30; clear BK160; clear HB; have HO_3 := n0_; have HO_11 := n1_; have HO_30 := n2_; have BK160 := n3_; have HB := n4_; have BK172 := n5_; have GW172 := n6_; have GE172 := n7_; have NB160_172 := n8_; have NB172_160 := n9_; clear n0_ n1_ n2_ n3_ n4_ n5_ n6_ n7_ n8_ n9_; clear hb hbox hg
                  refine hK.out _ _ ⟨HS0_, HS1_, HS2_, HS3_⟩ (fun hHeld => ?_); clear hK K; refine norm_ (a' := ?_) ?_ ?_; rotate_left
                  ·show Act.put _ (some 9) _ = _; simp only [Act.put, Sa, Sb, Sc, i64_w, i32_w]; rfl
                  refine one_ (i := 13) (N := none) #[true, true, true, true, true, true, true, true, true, true, true, true, true, true] rfl rfl (one_of HT_.out (by kernel_rfl)) (by decide) (fun K hK => ?_); have hs43 : w42.cell? ⟨gb172, 0, none⟩ = some (.int .i64 0) := (Bc BK172.out 0).trans rfl; have hfs43 := Bf BK172.out 0; have hns43_0 := NB160_172.out; have hms43_0 := NB172_160.out; have hs44 : w42.cell? ⟨gb172, 1, none⟩ = some (.int .i64 0) := (Bc BK172.out 1).trans rfl; have hfs44 := Bf BK172.out 1; have hns44_0 := NB160_172.out; have hms44_0 := NB172_160.out; refine skip_ (w1 := ?_) (by rfl) rfl ?_ ?_; rotate_left
                  ·go_simp; rfl
                  refine hK.out _ _ ⟨((cell_far (p := ⟨gb172, _, none⟩) (by first | exact Kd.own_blk (Kd.R_away HO_3.out (fun _ hk => hk.2)) | (rw [add_block]; exact Kd.own_blk (Kd.R_away HO_3.out (fun _ hk => hk.2))) | (show (Addr.add _ _).block ≠ _; rw [add_block]; exact Kd.own_blk (Kd.R_away HO_3.out (fun _ hk => hk.2))) | (dsimp only; exact Kd.own_blk (Kd.R_away HO_3.out (fun _ hk => hk.2)))) _).trans (((cell_far (p := ⟨gb172, _, none⟩) (by first | exact Kd.own_blk (Kd.R_away HO_3.out (fun _ hk => hk.2)) | (rw [add_block]; exact Kd.own_blk (Kd.R_away HO_3.out (fun _ hk => hk.2))) | (show (Addr.add _ _).block ≠ _; rw [add_block]; exact Kd.own_blk (Kd.R_away HO_3.out (fun _ hk => hk.2))) | (dsimp only; exact Kd.own_blk (Kd.R_away HO_3.out (fun _ hk => hk.2)))) _).trans (hHeld.1)))), ((cell_far (p := ⟨gb172, _, none⟩) (by first | exact Kd.own_blk (Kd.R_away HO_3.out (fun _ hk => hk.2)) | (rw [add_block]; exact Kd.own_blk (Kd.R_away HO_3.out (fun _ hk => hk.2))) | (show (Addr.add _ _).block ≠ _; rw [add_block]; exact Kd.own_blk (Kd.R_away HO_3.out (fun _ hk => hk.2))) | (dsimp only; exact Kd.own_blk (Kd.R_away HO_3.out (fun _ hk => hk.2)))) _).trans (((cell_far (p := ⟨gb172, _, none⟩) (by first | exact Kd.own_blk (Kd.R_away HO_3.out (fun _ hk => hk.2)) | (rw [add_block]; exact Kd.own_blk (Kd.R_away HO_3.out (fun _ hk => hk.2))) | (show (Addr.add _ _).block ≠ _; rw [add_block]; exact Kd.own_blk (Kd.R_away HO_3.out (fun _ hk => hk.2))) | (dsimp only; exact Kd.own_blk (Kd.R_away HO_3.out (fun _ hk => hk.2)))) _).trans (hHeld.2.1)))), ((cell_far (p := ⟨gb172, _, none⟩) (by first | exact Kd.own_blk (Kd.R_away HO_3.out (fun _ hk => hk.2)) | (rw [add_block]; exact Kd.own_blk (Kd.R_away HO_3.out (fun _ hk => hk.2))) | (show (Addr.add _ _).block ≠ _; rw [add_block]; exact Kd.own_blk (Kd.R_away HO_3.out (fun _ hk => hk.2))) | (dsimp only; exact Kd.own_blk (Kd.R_away HO_3.out (fun _ hk => hk.2)))) _).trans (((cell_far (p := ⟨gb172, _, none⟩) (by first | exact Kd.own_blk (Kd.R_away HO_3.out (fun _ hk => hk.2)) | (rw [add_block]; exact Kd.own_blk (Kd.R_away HO_3.out (fun _ hk => hk.2))) | (show (Addr.add _ _).block ≠ _; rw [add_block]; exact Kd.own_blk (Kd.R_away HO_3.out (fun _ hk => hk.2))) | (dsimp only; exact Kd.own_blk (Kd.R_away HO_3.out (fun _ hk => hk.2)))) _).trans (hHeld.2.2.1)))), ((cell_far (p := ⟨gb172, _, none⟩) (by first | exact Kd.own_blk (Kd.R_away HO_3.out (fun _ hk => hk.2)) | (rw [add_block]; exact Kd.own_blk (Kd.R_away HO_3.out (fun _ hk => hk.2))) | (show (Addr.add _ _).block ≠ _; rw [add_block]; exact Kd.own_blk (Kd.R_away HO_3.out (fun _ hk => hk.2))) | (dsimp only; exact Kd.own_blk (Kd.R_away HO_3.out (fun _ hk => hk.2)))) _).trans (((cell_far (p := ⟨gb172, _, none⟩) (by first | exact Kd.own_blk (Kd.R_away HO_3.out (fun _ hk => hk.2)) | (rw [add_block]; exact Kd.own_blk (Kd.R_away HO_3.out (fun _ hk => hk.2))) | (show (Addr.add _ _).block ≠ _; rw [add_block]; exact Kd.own_blk (Kd.R_away HO_3.out (fun _ hk => hk.2))) | (dsimp only; exact Kd.own_blk (Kd.R_away HO_3.out (fun _ hk => hk.2)))) _).trans (hHeld.2.2.2))))⟩ (fun hHeld => ?_)
                  clear hK K; refine done_ (done_of HT_.out (by kernel_rfl)) ?_; have hnb45 := NB172_160.out; have hnc45 := NB160_172.out; have hcz46_0 : w42.cell? ⟨gb172, 0, none⟩ = some (.int .i64 0) := (Bc BK172.out 0).trans rfl; have hcz46_1 : w42.cell? ⟨gb172, 1, none⟩ = some (.int .i64 0) := (Bc BK172.out 1).trans rfl; have hfz46_0 := Bf BK172.out 0; have hfz46_1 := Bf BK172.out 1; have hcz47_0 : w42.cell? ⟨gb160, 0, none⟩ = some (.int .i64 x161000_2) := (Bc BK160.out 0).trans rfl; have hcz47_1 : w42.cell? ⟨gb160, 1, none⟩ = some (.int .i64 x161001_2) := (Bc BK160.out 1).trans rfl; have hfz47_0 := Bf BK160.out 0; have hfz47_1 := Bf BK160.out 1
                  try go_wp2_with (first | ((with_reducible refine gate_callee (f := 92) rfl ?_); refine goesL_ (some 62) rfl rfl Try.func92 (by kernel_rfl) rfl #[.agg #[.int .i64 ((rd_T130 x3_1 (rd y162 x32_2)).f0), .int .i64 (wrap64 (((rd_T130 x3_1 (rd y162 x32_2)).f1) + 1))], .agg #[.int .i64 x161000_2, .int .i64 x161001_2]] rfl (by (try simp only [List.map_toArray, List.map_cons, List.map_nil]); first | done | rfl | (simp only [List.length_drop, List.length_take]; rfl)) ?_; (with_reducible refine (skew_stamp_compare.calls ((rd_T130 x3_1 (rd y162 x32_2)).f0) (wrap64 (((rd_T130 x3_1 (rd y162 x32_2)).f1) + 1)) x161000_2 x161001_2 t173 _ A27.out).mono ?_); rintro e w48 ⟨rfl, hb⟩; refine ⟨_, rfl, ?_⟩; have n0_ := Aa (Kd.R_below (by (with_reducible repeat (first | apply Kd.R_alloc | apply Kd.R_drewN | apply Kd.R_drew)); exact (Kd.R_mono (Kd.R_far (p := ⟨gb172, 1, none⟩) (Kd.R_far (p := ⟨gb172, 0, none⟩) (Kd.R_mono HO_3.out (fun k_ hk => (⟨hk, hk.2⟩ : _ ∧ k_ ≠ gb172))) (fun _ hk => hk.2) (.int .i64 ((rd_T130 x3_1 (rd y162 x32_2)).f0))) (fun _ hk => hk.2) (.int .i64 (wrap64 (((rd_T130 x3_1 (rd y162 x32_2)).f1) + 1)))) (fun _ h_ => h_.1))) hb); have n1_ := Aa (Kd.R_below (by (with_reducible repeat (first | apply Kd.R_alloc | apply Kd.R_drewN | apply Kd.R_drew)); exact (Kd.R_mono (Kd.R_far (p := ⟨gb172, 1, none⟩) (Kd.R_far (p := ⟨gb172, 0, none⟩) (Kd.R_types HO_11.out BK172.out (by decide)) (fun _ hk => hk.2) (.int .i64 ((rd_T130 x3_1 (rd y162 x32_2)).f0))) (fun _ hk => hk.2) (.int .i64 (wrap64 (((rd_T130 x3_1 (rd y162 x32_2)).f1) + 1)))) (fun _ h_ => h_.1))) hb); have n2_ := Aa (Kd.R_below (by (with_reducible repeat (first | apply Kd.R_alloc | apply Kd.R_drewN | apply Kd.R_drew)); exact (Kd.R_mono (Kd.R_far (p := ⟨gb172, 1, none⟩) (Kd.R_far (p := ⟨gb172, 0, none⟩) (Kd.R_types HO_30.out BK172.out (by decide)) (fun _ hk => hk.2) (.int .i64 ((rd_T130 x3_1 (rd y162 x32_2)).f0))) (fun _ hk => hk.2) (.int .i64 (wrap64 (((rd_T130 x3_1 (rd y162 x32_2)).f1) + 1)))) (fun _ h_ => h_.1))) hb); have n3_ := Aa (blk_below (g := gb160) (o := .cells #[.int .i64 x161000_2, .int .i64 x161001_2] 130 (0, 0)) (by (with_reducible repeat (first | refine Kn ?_ _ | refine Kw ?_ | refine Ka ?_ _)); refine blk_far ?_ NB160_172.out _; (with_reducible repeat (first | refine Kn ?_ _ | refine Kw ?_ | refine Ka ?_ _)); refine blk_far ?_ NB160_172.out _; (with_reducible repeat (first | refine Kn ?_ _ | refine Kw ?_ | refine Ka ?_ _)); exact BK160.out) hb); have n4_ := Aa (blk_below (g := gb172) (o := .cells #[.int .i64 ((rd_T130 x3_1 (rd y162 x32_2)).f0), .int .i64 (wrap64 (((rd_T130 x3_1 (rd y162 x32_2)).f1) + 1))] 130 (0, 0)) (by (with_reducible repeat (first | refine Kn ?_ _ | refine Kw ?_ | refine Ka ?_ _)); refine blk_put (cs := #[.int .i64 ((rd_T130 x3_1 (rd y162 x32_2)).f0), .int .i64 0]) ?_ 1 _ rfl; (with_reducible repeat (first | refine Kn ?_ _ | refine Kw ?_ | refine Ka ?_ _)); refine blk_put (cs := #[.int .i64 0, .int .i64 0]) ?_ 0 _ rfl; (with_reducible repeat (first | refine Kn ?_ _ | refine Kw ?_ | refine Ka ?_ _)); exact BK172.out) hb); have n5_ := Aa (Bp (by repeat (first | (with_reducible first | exact HB.out | apply Ba | apply Pn | apply Dn | refine Bz ?_ GE160.out | refine Bz ?_ GE172.out) | exact HB.out)) hb); clear HO_3; clear HO_11; clear HO_30; clear BK160; clear BK172; clear HB; have HO_3 := n0_; have HO_11 := n1_; have HO_30 := n2_; have BK160 := n3_; have BK172 := n4_; have HB := n5_; clear n0_ n1_ n2_ n3_ n4_ n5_; (try clear hb); (try clear hb2); (try clear hk); (try clear hi)))
                  go_roundg kj16
                  case measure => have := HK1.out; have := HK2.out; have := HJ16.out; omega
                  case rel => exact ⟨(wrap64 (x32_2 + 1)), (x161000_2), (x161001_2), (by first | rfl | (simp; done) | (simp [*]; done)), H', ⟨by have := HK1.out; have := HK2.out; have := HJ16.out; omega⟩, ⟨by (with_reducible repeat (first | apply Kd.R_alloc | apply Kd.R_drewN | apply Kd.R_drew)); exact Kd.R_mono HO_3.out (fun _ hk => hk.1)⟩, ⟨by (with_reducible repeat (first | apply Kd.R_alloc | apply Kd.R_drewN | apply Kd.R_drew)); exact HO_11.out⟩, ⟨by (with_reducible repeat (first | apply Kd.R_alloc | apply Kd.R_drewN | apply Kd.R_drew)); exact HO_30.out⟩, ⟨by (with_reducible repeat (first | refine Kn ?_ _ | refine Kw ?_ | refine Ka ?_ _)); exact BK160.out⟩, ⟨by repeat (first | (with_reducible first | exact HB.out | apply Ba | apply Pn | apply Dn | refine Bz ?_ GE160.out | refine Bz ?_ GE172.out) | exact HB.out)⟩⟩
                ·rw [if_neg c26] at H; exact absurd H (by simp)
               ·rw [if_neg c25] at H; exact absurd H (by simp)
              ·replace c24 := Bool.eq_false_iff.mpr c24; subst c24
               have H1 : (skew_stamps.l1 kj16 l0 x3_1 t155 (t155.length : Int) x13_1 y162 (y162.length : Int) (wrap64 (x32_2 + 1)) x161000_2 x161001_2) = some r := by rw [if_neg (show ¬ (false = true) by decide)] at H; exact H
               clear H; have H := H1; clear H1; have H' := Aa H; clear H; go_wp2
               go_roundg kj16
               case measure => have := HK1.out; have := HK2.out; have := HJ16.out; omega
               case rel => exact ⟨(wrap64 (x32_2 + 1)), (x161000_2), (x161001_2), (by first | rfl | (simp; done) | (simp [*]; done)), H', ⟨by have := HK1.out; have := HK2.out; have := HJ16.out; omega⟩, ⟨by (with_reducible repeat (first | apply Kd.R_alloc | apply Kd.R_drewN | apply Kd.R_drew)); exact HO_3.out⟩, ⟨by (with_reducible repeat (first | apply Kd.R_alloc | apply Kd.R_drewN | apply Kd.R_drew)); exact HO_11.out⟩, ⟨by (with_reducible repeat (first | apply Kd.R_alloc | apply Kd.R_drewN | apply Kd.R_drew)); exact HO_30.out⟩, ⟨by (with_reducible repeat (first | refine Kn ?_ _ | refine Kw ?_ | refine Ka ?_ _)); exact BK160.out⟩, ⟨by repeat (first | (with_reducible first | exact HB.out | apply Ba | apply Pn | apply Dn | refine Bz ?_ GE160.out) | exact HB.out)⟩⟩
           ·rw [if_neg c16] at H; exact absurd H (by simp)
          ·rw [if_neg c15] at H; exact absurd H (by simp)
         ·rw [if_neg c14] at H; have c14b0 : decide (x32_2 < (y162.length : Int)) = false := decide_eq_false c14; clear c14
          by_cases c49 : x3_1.length < 8796093022208
          ·rw [if_pos c49] at H; have LMc49 := Aa c49; clear c49
           obtain ⟨y165, hy165⟩ : ∃ y_ : List (S130), y_ = (x3_1 ++ [(⟨x161000_2, x161001_2⟩ : S130)]) := ⟨_, rfl⟩
           replace H : (skew_stamps.l0 k2 l0 y165 t155 (t155.length : Int) (wrap64 (x13_1 + 1))) = some r := by first | (rw [hy165]; with_reducible exact H) | (have H2_ := (Option.bind_some _ _).symm.trans H; rw [hy165]; with_reducible exact H2_) | (have H2_ := (Option.bind_some _ _).symm.trans H; with_reducible exact H2_) | with_reducible exact H | (rw [hy165]; exact H) | exact H
           have Ny165 := Aa hy165; clear hy165; have H' := Aa H; clear H; have hcz50_0 : wr.cell? ⟨gb160, 0, none⟩ = some (.int .i64 x161000_2) := (Bc BK160.out 0).trans rfl; have hcz50_1 : wr.cell? ⟨gb160, 1, none⟩ = some (.int .i64 x161001_2) := (Bc BK160.out 1).trans rfl; have hfz50_0 := Bf BK160.out 0; have hfz50_1 := Bf BK160.out 1
           go_wp2_with (first | ((with_reducible refine gate_builtin (b := .append) (xs := #[.tmp 66, .tmp 68]) rfl ?_); at_builtin; refine Kd.R_append k130 (w0 := w) w.heap.size rfl (.tmp 66) (.tmp 68) 128 130 (.agg #[(.int .i64 0), (.int .i64 0)]) 16 rfl Try.underlying128 info130 rfl (by decide) (by omega) u3 x3_1 (⟨x161000_2, x161001_2⟩ : S130) [.int .i64 x161000_2, .int .i64 x161001_2] (fun k_ => k_ ≠ gb160) (fun _ => False) rfl rfl ?aP (fun _ hk => hk.elim) ?aF ?aO ?aB ?aS ?aL ?_; (case aP => exact k130_mkM _ _ _ (⟨x161000_2, x161001_2⟩ : S130)); (case aB => exact (by repeat (first | (with_reducible first | exact HB.out | apply Ba | apply Pn | apply Dn | refine Bz ?_ GE160.out) | exact HB.out))); (case aF => exact (fun k_ hk => Kd.freshB (g := gb160) (o := .cells #[.int .i64 x161000_2, .int .i64 x161001_2] 130 (0, 0)) (by (with_reducible repeat (first | refine Kn ?_ _ | refine Kw ?_ | refine Ka ?_ _)); exact BK160.out) k_ hk)); (case aO => exact (by (with_reducible repeat (first | apply Kd.R_alloc | apply Kd.R_drewN | apply Kd.R_drew)); exact HO_3.out)); (case aS => exact (below_size (by repeat (first | (with_reducible first | exact HB.out | apply Ba | apply Pn | apply Dn | refine Bz ?_ GE160.out) | exact HB.out)))); (case aL => have := LMc49.out; omega); intro v166 w51 ho hb hg hat; rw [← Ny165.out] at ho; have n0_ := Aa (Kd.R_over' (by (with_reducible repeat (first | apply Kd.R_alloc | apply Kd.R_drewN | apply Kd.R_drew)); exact HO_11.out) (Kd.R_typed (by (with_reducible repeat (first | apply Kd.R_alloc | apply Kd.R_drewN | apply Kd.R_drew)); exact HO_3.out)) (by decide) hg); have n1_ := Aa (Kd.R_over' (by (with_reducible repeat (first | apply Kd.R_alloc | apply Kd.R_drewN | apply Kd.R_drew)); exact HO_30.out) (Kd.R_typed (by (with_reducible repeat (first | apply Kd.R_alloc | apply Kd.R_drewN | apply Kd.R_drew)); exact HO_3.out)) (by decide) hg); have n2_ := Aa (blk_grown (g := gb160) (o := .cells #[.int .i64 x161000_2, .int .i64 x161001_2] 130 (0, 0)) (by (with_reducible repeat (first | refine Kn ?_ _ | refine Kw ?_ | refine Ka ?_ _)); exact BK160.out) hg (Kd.R_away HO_3.out (fun _ hk => hk))); have n3_ := Aa (hb); have n4_ := Aa (ho); clear HO_11; clear HO_30; clear BK160; clear HB; clear HO_3; have HO_11 := n0_; have HO_30 := n1_; have BK160 := n2_; have HB := n3_; have HO167 := n4_; clear n0_ n1_ n2_ n3_ n4_; clear ho hb hg hat))
           go_roundg k2
           case measure => have := HK1.out; have := HK2.out; omega
           case rel => exact ⟨(y165), (wrap64 (x13_1 + 1)), (by first | rfl | (simp; done) | (simp [*]; done)), H', ⟨by have := HK1.out; have := HK2.out; omega⟩, ⟨by (with_reducible repeat (first | apply Kd.R_alloc | apply Kd.R_drewN | apply Kd.R_drew)); exact Kd.R_mono HO167.out (fun _ hk => trivial)⟩, ⟨by (with_reducible repeat (first | apply Kd.R_alloc | apply Kd.R_drewN | apply Kd.R_drew)); exact Kd.R_mono HO_11.out (fun _ hk => trivial)⟩, ⟨by repeat (first | (with_reducible first | exact HB.out | apply Ba | apply Pn | apply Dn | refine Bz ?_ GE160.out) | exact HB.out)⟩⟩
          ·rw [if_neg c49] at H; exact absurd H (by simp)
      ·rw [if_neg c8] at H; exact absurd H (by simp)
     ·rw [if_neg c7] at H; exact absurd H (by simp)
    ·rw [if_neg c6] at H; exact absurd H (by simp)
   ·rw [if_neg c5] at H; have c5b0 : decide (x13_1 < (t155.length : Int)) = false := decide_eq_false c5; clear c5; obtain rfl := Option.some.inj H; go_wp2; go_ret; exact ⟨_, by first | rfl | (simp [errW_none, errW_some] <;> rfl) | (simp [*, errW_none, errW_some] <;> rfl), by (with_reducible repeat (first | apply Kd.R_alloc | apply Kd.R_drewN | apply Kd.R_drew)); exact HO_3.out, by repeat (first | (with_reducible first | exact HB.out | apply Ba | apply Pn | apply Dn) | exact HB.out)⟩
end Go.Proofs.Ytobcecgcegoooaa.Sk

/- Words and walks of this claim, merged. -/
import Derived.Test.YtobcecgcegoooaaGreatCSuS0
namespace Go.Proofs.YtobcecgcegoooaaGreat.Sk
open Go.RowKit Go.Proofs.YtobcecgcegoooaaGreatW.PrintWords Go.Proofs.YtobcecgcegoooaaGreatW.PrintLast Go.Proofs.YtobcecgcegoooaaGreatW.PrintMore
set_option linter.unusedVariables false
set_option linter.unusedSimpArgs false
section
attribute [local go_sem] max2_int min2_int max_two min_two
mutual
def rf_Solve.l0 : Nat → List (S65) → List (S82) → List Int → List Int → Int → Option ((List (S65)) × Bool)
 | 0, _, _, _, _, _ => none
 | k + 1, x0, x1, x6, x7, x8 => if x8 < (x0.length : Int) then (if 0 ≤ x8 then (if x6.length < 17592186044416 then (if x7.length < 17592186044416 then (rf_Solve.l0 k x0 x1 (x6 ++ [(rd_T65 x0 x8).f0]) (x7 ++ [wrap64 (-((rd_T65 x0 x8).f1))]) (wrap64 (x8 + 1))) else (none)) else (none)) else (none)) else ((rf_least.f k x6 x1).bind fun bt149 => ((rf_turned.f k x1).bind fun t153 => ((rf_least.f k x7 t153).bind fun bt156 => (if bt149.2 = true then (rf_Solve.j1 k x0 bt149.1 bt156.1 (!bt156.2)) else (rf_Solve.j1 k x0 bt149.1 bt156.1 true)))))
def rf_Solve.j1 : Nat → List (S65) → List Int → List Int → Bool → Option ((List (S65)) × Bool)
 | 0, _, _, _, _ => none
 | k + 1, x0, x9, x11, x57 => if x57 = true then (some (([] : List (S65)), false)) else (rf_Solve.l1 k x0 x9 x11 ([] : List (S65)) 0)
def rf_Solve.l1 : Nat → List (S65) → List Int → List Int → List (S65) → Int → Option ((List (S65)) × Bool)
 | 0, _, _, _, _, _ => none
 | k + 1, x0, x9, x11, x13, x14 => if x14 < (x0.length : Int) then (if 0 ≤ x14 then (if x14 < (x9.length : Int) then (if x14 < (x11.length : Int) then (if (rd x9 x14) > ((rd_T65 x0 x14).f1) then (some (([] : List (S65)), false)) else (if x13.length < 8796093022208 then (rf_Solve.l1 k x0 x9 x11 (x13 ++ [(⟨rd x9 x14, wrap64 (-(rd x11 x14))⟩ : S65)]) (wrap64 (x14 + 1))) else (none))) else (none)) else (none)) else (none)) else (some (x13, true))
end
def rf_Solve.f (k : Nat) (l0 : List (S65)) (l1 : List (S82)) : Option ((List (S65)) × Bool) := rf_Solve.l0 k l0 l1 ([] : List Int) ([] : List Int) 0
def rf_Solve.T15 : Bool × List (List Nat × List Nat) := (true, [([], []), ([], []), ([0, 1], [0, 1]), ([2], [2]), ([], []), ([], []), ([4, 5], [4, 5]), ([6], [6]), ([7], [7]), ([3, 8], [3, 8]), ([], []), ([10, 9, 0, 1, 2, 3, 4, 5, 6, 7, 8, 9, 10], [9, 10])])
def rf_Solve.B15 : List Nat := [0, 0, 3, 7, 0, 0, 48, 112, 240, 511, 0, 2047]
theorem rf_Solve.tab15 : rtab .any (opsOf Tryz.f50 15) = rf_Solve.T15 := by kernel_rfl
theorem rf_Solve.bits15 : waitsOk rf_Solve.T15.2 rf_Solve.B15 = true := by kernel_rfl
def rf_Solve.T16 : Bool × List (List Nat × List Nat) := (true, [([], []), ([0], [0]), ([], []), ([], []), ([2, 3], [2, 3]), ([4], [4]), ([5], [5]), ([1, 6], [1, 6])])
def rf_Solve.B16 : List Nat := [0, 1, 0, 0, 12, 28, 60, 127]
theorem rf_Solve.tab16 : rtab .any (opsOf Tryz.f50 16) = rf_Solve.T16 := by kernel_rfl
theorem rf_Solve.bits16 : waitsOk rf_Solve.T16.2 rf_Solve.B16 = true := by kernel_rfl
set_option maxHeartbeats 8000000 in
set_option maxRecDepth 100000 in
theorem rf_Solve.calls (k : Nat) (A0 : Option Addr) (c0 : Nat) (l0 : List (S65)) (A1 : Option Addr) (c1 : Nat) (l1 : List (S82)) (r1 : List (S65)) (r2 : Bool) (w : World) (hr0 : Kd.C k65 w A0 l0.length l0) (hc0 : l0.length ≤ c0) (hr1 : Kd.C k82 w A1 l1.length l1) (hc1 : l1.length ≤ c1) (h : rf_Solve.f k l0 l1 = some (r1, r2)) :
  Calls Tryz.prog 50 #[.slice A0 l0.length c0, .slice A1 l1.length c1] w fun e w' => ∃ v0_ : Value, e = .returned (.tuple #[v0_, .bool r2]) ∧ Kd.R k65 65 w' w.heap.size (fun _ => True) v0_ r1 ∧ Below w.heap.size w w' := by
 have hu65 := Tryz.underlying65; have HR0 := Aa hr0; have HC0 := Aa hc0; clear hr0 hc0; have HR1 := Aa hr1; have HC1 := Aa hc1; clear hr1 hc1; have HB := Aa (Below.refl w.heap.size w); have H : (rf_Solve.l0 k l0 l1 ([] : List Int) ([] : List Int) 0) = some (r1, r2) := h; clear h; have H' := Aa H; clear H
 go_enter Tryz.func50, Tryz.ntmps50
 go_wp2
 go_loopg [6, 7, 8] k (fun kq v6 v7 v8 w' => ∃ (x6_1 : List Int) (x7_1 : List Int) (x8_1 : Int), v8 = .int .i64 x8_1 ∧ Aside0 (rf_Solve.l0 kq l0 l1 x6_1 x7_1 x8_1 = some (r1, r2)) ∧ Aside0 (kq ≤ k) ∧ Aside0 (Kd.R (Kd.int .i64) 3 w' w.heap.size (fun k_ => some k_ ≠ (v7 : Value).ownBlock) v6 x6_1) ∧ Aside0 (Kd.R (Kd.int .i64) 3 w' w.heap.size (fun k_ => some k_ ≠ (v6 : Value).ownBlock) v7 x7_1) ∧ Aside0 (Below w.heap.size w w'))
 case atStart => exact ⟨(([] : List Int)), (([] : List Int)), (0), (by first | rfl | (simp; done) | (simp [*]; done)), H', ⟨Nat.le_refl _⟩, ⟨by first | exact Kd.R_nil _ _ _ _ _ | exact Kd.N_nil _ _ _ _ _ | exact Kd.V_nil _ _ _ _ _ | exact Kd.Q_nil _ _ _ _ _ | exact Kd.S_nil _ _ _ _ _⟩, ⟨by first | exact Kd.R_nil _ _ _ _ _ | exact Kd.N_nil _ _ _ _ _ | exact Kd.V_nil _ _ _ _ _ | exact Kd.Q_nil _ _ _ _ _ | exact Kd.S_nil _ _ _ _ _⟩, ⟨by repeat (first | (with_reducible first | exact HB.out | apply Ba | apply Pn | apply Dn) | exact HB.out)⟩⟩
 case round =>
  clear H'; try clear c1
  try clear p2
  obtain ⟨x6_1, x7_1, x8_1, rfl, HA, HK1, HO_6, HO_7, HB⟩ := hrel
  cases gk with
  | zero => exact absurd HA.out (by simp [rf_Solve.l0])
  | succ k1 =>
   have H := HA.out; clear HA; simp only [rf_Solve.l0] at H
   by_cases c3 : x8_1 < (l0.length : Int)
   ·rw [if_pos c3] at H; have c3b0 : decide (x8_1 < (l0.length : Int)) = true := decide_eq_true c3; clear c3
    by_cases c4 : 0 ≤ x8_1
    ·rw [if_pos c4] at H; have c4b0 : decide (0 ≤ x8_1) = true := decide_eq_true c4; clear c4
     by_cases c5 : x6_1.length < 17592186044416
     ·rw [if_pos c5] at H; have LMc5 := Aa c5; clear c5
      obtain ⟨y142, hy142⟩ : ∃ y_ : List Int, y_ = (x6_1 ++ [(rd_T65 l0 x8_1).f0]) := ⟨_, rfl⟩
      replace H : (if x7_1.length < 17592186044416 then (rf_Solve.l0 k1 l0 l1 y142 (x7_1 ++ [wrap64 (-((rd_T65 l0 x8_1).f1))]) (wrap64 (x8_1 + 1))) else (none)) = some (r1, r2) := by first | (rw [hy142]; with_reducible exact H) | (have H2_ := (Option.bind_some _ _).symm.trans H; rw [hy142]; with_reducible exact H2_) | (have H2_ := (Option.bind_some _ _).symm.trans H; with_reducible exact H2_) | with_reducible exact H | (rw [hy142]; exact H) | exact H
      have Ny142 := Aa hy142; clear hy142
      by_cases c6 : x7_1.length < 17592186044416
      ·rw [if_pos c6] at H; have LMc6 := Aa c6; clear c6
       obtain ⟨y146, hy146⟩ : ∃ y_ : List Int, y_ = (x7_1 ++ [wrap64 (-((rd_T65 l0 x8_1).f1))]) := ⟨_, rfl⟩
       replace H : (rf_Solve.l0 k1 l0 l1 y142 y146 (wrap64 (x8_1 + 1))) = some (r1, r2) := by first | (rw [hy146]; with_reducible exact H) | (have H2_ := (Option.bind_some _ _).symm.trans H; rw [hy146]; with_reducible exact H2_) | (have H2_ := (Option.bind_some _ _).symm.trans H; with_reducible exact H2_) | with_reducible exact H | (rw [hy146]; exact H) | exact H
       have Ny146 := Aa hy146; clear hy146; have H' := Aa H; clear H; have p141 : 0 ≤ (x8_1 : Int) := Od (by first | (with_reducible assumption) | assumption); have q141 : x8_1 < (l0.length : Int) := Od (by first | (with_reducible assumption) | assumption); obtain ⟨ad141, e141, hx141_0, hx141_1⟩ := at_T65 HR0.out x8_1 p141 q141; cases e141; replace hx141_0 := (HB.out.cell (Wb w _ hx141_0)).trans hx141_0; replace hx141_1 := (HB.out.cell (Wb w _ hx141_1)).trans hx141_1; replace p141 := eq_true p141; replace q141 := eq_true q141
       go_wp2_with (first | ((with_reducible refine gate_builtin (b := .append) (xs := #[.tmp 22, .tmp 28]) rfl ?_); at_builtin; refine Kd.R_append (Kd.int .i64) (w0 := w) w.heap.size rfl (.tmp 22) (.tmp 28) 26 3 (.int .i64 0) 8 rfl Tryz.underlying26 info3 rfl (by decide) (by omega) u6 x6_1 ((rd_T65 l0 x8_1).f0) [.int .i64 ((rd_T65 l0 x8_1).f0)] (fun k_ => some k_ ≠ (u7 : Value).ownBlock) (fun _ => False) rfl rfl ?aP (fun _ hk => hk.elim) ?aF ?aO ?aB ?aS ?aL ?_; (case aP => exact rfl); (case aB => exact (by repeat (first | (with_reducible first | exact HB.out | apply Ba | apply Pn | apply Dn) | exact HB.out))); (case aF => exact (fun k_ hk => Kd.fresh' (Kd.R_lt (by (with_reducible repeat (first | apply Kd.R_alloc | apply Kd.R_drewN | apply Kd.R_drew)); exact HO_7.out)) k_ hk)); (case aO => exact (by (with_reducible repeat (first | apply Kd.R_alloc | apply Kd.R_drewN | apply Kd.R_drew)); exact HO_6.out)); (case aS => exact (below_size (by repeat (first | (with_reducible first | exact HB.out | apply Ba | apply Pn | apply Dn) | exact HB.out)))); (case aL => have := LMc5.out; omega); intro v143 w7 ho hb hg hat; rw [← Ny142.out] at ho; have n0_ := Aa (Kd.R_after (ok := (fun _ => True)) (by (with_reducible repeat (first | apply Kd.R_alloc | apply Kd.R_drewN | apply Kd.R_drew)); exact Kd.R_mono HO_7.out (fun _ hk => ⟨trivial, hk⟩)) hg hat); have n1_ := Aa (hb); have n2_ := Aa (ho); clear HO_7; clear HB; clear HO_6; have HO_7 := n0_; have HB := n1_; have HO144 := n2_; clear n0_ n1_ n2_; clear ho hb hg hat; have p145 : 0 ≤ (x8_1 : Int) := Od (by first | (with_reducible assumption) | assumption); have q145 : x8_1 < (l0.length : Int) := Od (by first | (with_reducible assumption) | assumption); obtain ⟨ad145, e145, hx145_0, hx145_1⟩ := at_T65 HR0.out x8_1 p145 q145; obtain rfl : ad141 = ad145 := (by injection e145); replace hx145_0 := (HB.out.cell (Wb w _ hx145_0)).trans hx145_0; replace hx145_1 := (HB.out.cell (Wb w _ hx145_1)).trans hx145_1; replace p145 := eq_true p145; replace q145 := eq_true q145) | ((with_reducible refine gate_builtin (b := .append) (xs := #[.tmp 30, .tmp 37]) rfl ?_); at_builtin; refine Kd.R_append (Kd.int .i64) (w0 := w) w.heap.size rfl (.tmp 30) (.tmp 37) 26 3 (.int .i64 0) 8 rfl Tryz.underlying26 info3 rfl (by decide) (by omega) u7 x7_1 (wrap64 (-((rd_T65 l0 x8_1).f1))) [.int .i64 (wrap64 (-((rd_T65 l0 x8_1).f1)))] (fun k_ => some k_ ≠ (v143 : Value).ownBlock) (fun _ => False) rfl rfl ?aP (fun _ hk => hk.elim) ?aF ?aO ?aB ?aS ?aL ?_; (case aP => exact rfl); (case aB => exact (by repeat (first | (with_reducible first | exact HB.out | apply Ba | apply Pn | apply Dn) | exact HB.out))); (case aF => exact (fun k_ hk => Kd.fresh' (Kd.R_lt (by (with_reducible repeat (first | apply Kd.R_alloc | apply Kd.R_drewN | apply Kd.R_drew)); exact HO144.out)) k_ hk)); (case aO => exact (by (with_reducible repeat (first | apply Kd.R_alloc | apply Kd.R_drewN | apply Kd.R_drew)); exact Kd.R_mono HO_7.out (fun _ hk => hk.2))); (case aS => exact (below_size (by repeat (first | (with_reducible first | exact HB.out | apply Ba | apply Pn | apply Dn) | exact HB.out)))); (case aL => have := LMc6.out; omega); intro v147 w8 ho hb hg hat; rw [← Ny146.out] at ho; have n0_ := Aa (Kd.R_after (ok := (fun _ => True)) (by (with_reducible repeat (first | apply Kd.R_alloc | apply Kd.R_drewN | apply Kd.R_drew)); exact Kd.R_mono HO144.out (fun _ hk => ⟨trivial, hk⟩)) hg hat); have n1_ := Aa (hb); have n2_ := Aa (ho); clear HO144; clear HB; clear HO_7; have HO144 := n0_; have HB := n1_; have HO148 := n2_; clear n0_ n1_ n2_; clear ho hb hg hat))
       go_roundg k1
       case measure => have := HK1.out; omega
       case rel => exact ⟨(y142), (y146), (wrap64 (x8_1 + 1)), (by first | rfl | (simp; done) | (simp [*]; done)), H', ⟨by have := HK1.out; omega⟩, ⟨by (with_reducible repeat (first | apply Kd.R_alloc | apply Kd.R_drewN | apply Kd.R_drew)); exact Kd.R_mono HO144.out (fun _ hk => hk.2)⟩, ⟨by (with_reducible repeat (first | apply Kd.R_alloc | apply Kd.R_drewN | apply Kd.R_drew)); exact HO148.out⟩, ⟨by repeat (first | (with_reducible first | exact HB.out | apply Ba | apply Pn | apply Dn) | exact HB.out)⟩⟩
      ·rw [if_neg c6] at H; exact absurd H (by simp)
     ·rw [if_neg c5] at H; exact absurd H (by simp)
    ·rw [if_neg c4] at H; exact absurd H (by simp)
   ·rw [if_neg c3] at H; have c3b0 : decide (x8_1 < (l0.length : Int)) = false := decide_eq_false c3; clear c3; replace H := Option.bind_eq_some_iff.mp H; obtain ⟨⟨t149, t150⟩, A90, H⟩ := H; replace H : ((rf_turned.f k1 l1).bind fun t153 => ((rf_least.f k1 x7_1 t153).bind fun bt156 => (if t150 = true then (rf_Solve.j1 k1 l0 t149 bt156.1 (!bt156.2)) else (rf_Solve.j1 k1 l0 t149 bt156.1 true)))) = some (r1, r2) := H; have A9 := Aa A90; clear A90; replace H := Option.bind_eq_some_iff.mp H; obtain ⟨t153, A100, H⟩ := H; replace H : ((rf_least.f k1 x7_1 t153).bind fun bt156 => (if t150 = true then (rf_Solve.j1 k1 l0 t149 bt156.1 (!bt156.2)) else (rf_Solve.j1 k1 l0 t149 bt156.1 true))) = some (r1, r2) := H; have A10 := Aa A100; clear A100; replace H := Option.bind_eq_some_iff.mp H; obtain ⟨⟨t156, t157⟩, A110, H⟩ := H; replace H : (if t150 = true then (rf_Solve.j1 k1 l0 t149 t156 (!t157)) else (rf_Solve.j1 k1 l0 t149 t156 true)) = some (r1, r2) := H; have A11 := Aa A110; clear A110; have HC12 := Aa H; clear H; obtain ⟨Ao13, co13, eo13⟩ := Kd.R_slice HO_6.out; subst eo13
    go_upto_region 9 with (first | ((with_reducible refine gate_callee (f := 80) rfl ?_); refine goesL_ (some 42) rfl rfl Tryz.func80 (by kernel_rfl) rfl #[.slice Ao13 x6_1.length co13, .slice A1 l1.length c1] rfl (by (try simp only [List.map_toArray, List.map_cons, List.map_nil]); first | done | rfl | (simp only [List.length_drop, List.length_take]; rfl)) ?_; (with_reducible refine (rf_least.calls k1 _ _ x6_1 _ _ l1 t149 t150 _ ?side1 ?side2 ?side3 ?side4 A9.out).mono ?_); (case side1 => repeat (first | exact (Kd.R_reads' HO_6.out).2.2 | (with_reducible refine Kd.C_alloc ?_ _) | (with_reducible refine Kd.C_drewN ?_ _) | (with_reducible refine Kd.C_drew ?_))); (case side2 => exact (Kd.R_reads' HO_6.out).2.1); (case side3 => repeat (first | exact (Kd.C_below HR1.out HB.out) | (with_reducible refine Kd.C_alloc ?_ _) | (with_reducible refine Kd.C_drewN ?_ _) | (with_reducible refine Kd.C_drew ?_))); (case side4 => exact HC1.out); rintro e w14 ⟨v151, rfl, ho0, hb⟩; refine ⟨_, rfl, ?_⟩; have n0_ := Aa (Kd.R_elder' (by (with_reducible repeat (first | apply Kd.R_alloc | apply Kd.R_drewN | apply Kd.R_drew)); exact HO_6.out) (Kd.R_base ho0) hb); have n1_ := Aa (Kd.R_elder' (by (with_reducible repeat (first | apply Kd.R_alloc | apply Kd.R_drewN | apply Kd.R_drew)); exact HO_7.out) (Kd.R_base ho0) hb); have n2_ := Aa (Kd.R_lower (Kd.R_new' (Kd.R_new' ho0 (Kd.R_lt (by (with_reducible repeat (first | apply Kd.R_alloc | apply Kd.R_drewN | apply Kd.R_drew)); exact HO_6.out))) (Kd.R_lt (by (with_reducible repeat (first | apply Kd.R_alloc | apply Kd.R_drewN | apply Kd.R_drew)); exact HO_7.out))) (below_size (by repeat (first | (with_reducible first | exact HB.out | apply Ba | apply Pn | apply Dn) | exact HB.out)))); have n3_ := Aa (Bp (by repeat (first | (with_reducible first | exact HB.out | apply Ba | apply Pn | apply Dn) | exact HB.out)) hb); clear HO_6; clear HO_7; clear HB; have HO_6 := n0_; have HO_7 := n1_; have HO152 := n2_; have HB := n3_; clear n0_ n1_ n2_ n3_; (try clear hb); (try clear hb2); (try clear hk); (try clear hi); (try clear ho0)) | ((with_reducible refine gate_callee (f := 81) rfl ?_); refine goesL_ (some 48) rfl rfl Tryz.func81 (by kernel_rfl) rfl #[.slice A1 l1.length c1] rfl (by (try simp only [List.map_toArray, List.map_cons, List.map_nil]); first | done | rfl | (simp only [List.length_drop, List.length_take]; rfl)) ?_; (with_reducible refine (rf_turned.calls k1 _ _ l1 t153 _ ?side1 ?side2 A10.out).mono ?_); (case side1 => repeat (first | exact (Kd.C_below HR1.out HB.out) | (with_reducible refine Kd.C_alloc ?_ _) | (with_reducible refine Kd.C_drewN ?_ _) | (with_reducible refine Kd.C_drew ?_))); (case side2 => exact HC1.out); rintro e w15 ⟨v154, rfl, ho0, hb⟩; refine ⟨_, rfl, ?_⟩; have n0_ := Aa (Kd.R_below (by (with_reducible repeat (first | apply Kd.R_alloc | apply Kd.R_drewN | apply Kd.R_drew)); exact HO_6.out) hb); have n1_ := Aa (Kd.R_below (by (with_reducible repeat (first | apply Kd.R_alloc | apply Kd.R_drewN | apply Kd.R_drew)); exact HO_7.out) hb); have n2_ := Aa (Kd.R_below (by (with_reducible repeat (first | apply Kd.R_alloc | apply Kd.R_drewN | apply Kd.R_drew)); exact HO152.out) hb); have n3_ := Aa (Kd.R_lower ho0 (below_size (by repeat (first | (with_reducible first | exact HB.out | apply Ba | apply Pn | apply Dn) | exact HB.out)))); have n4_ := Aa (Bp (by repeat (first | (with_reducible first | exact HB.out | apply Ba | apply Pn | apply Dn) | exact HB.out)) hb); clear HO_6; clear HO_7; clear HO152; clear HB; have HO_6 := n0_; have HO_7 := n1_; have HO152 := n2_; have HO155 := n3_; have HB := n4_; clear n0_ n1_ n2_ n3_ n4_; (try clear hb); (try clear hb2); (try clear hk); (try clear hi); (try clear ho0); obtain ⟨Ao16, co16, eo16⟩ := Kd.R_slice HO_7.out; subst eo16; obtain ⟨Ao17, co17, eo17⟩ := Kd.R_slice HO155.out; subst eo17) | ((with_reducible refine gate_callee (f := 80) rfl ?_); refine goesL_ (some 49) rfl rfl Tryz.func80 (by kernel_rfl) rfl #[.slice Ao16 x7_1.length co16, .slice Ao17 t153.length co17] rfl (by (try simp only [List.map_toArray, List.map_cons, List.map_nil]); first | done | rfl | (simp only [List.length_drop, List.length_take]; rfl)) ?_; (with_reducible refine (rf_least.calls k1 _ _ x7_1 _ _ t153 t156 t157 _ ?side1 ?side2 ?side3 ?side4 A11.out).mono ?_); (case side1 => repeat (first | exact (Kd.R_reads' HO_7.out).2.2 | (with_reducible refine Kd.C_alloc ?_ _) | (with_reducible refine Kd.C_drewN ?_ _) | (with_reducible refine Kd.C_drew ?_))); (case side2 => exact (Kd.R_reads' HO_7.out).2.1); (case side3 => repeat (first | exact (Kd.R_reads' HO155.out).2.2 | (with_reducible refine Kd.C_alloc ?_ _) | (with_reducible refine Kd.C_drewN ?_ _) | (with_reducible refine Kd.C_drew ?_))); (case side4 => exact (Kd.R_reads' HO155.out).2.1); rintro e w18 ⟨v158, rfl, ho0, hb⟩; refine ⟨_, rfl, ?_⟩; have n0_ := Aa (Kd.R_elder' (by (with_reducible repeat (first | apply Kd.R_alloc | apply Kd.R_drewN | apply Kd.R_drew)); exact HO_6.out) (Kd.R_base ho0) hb); have n1_ := Aa (Kd.R_elder' (by (with_reducible repeat (first | apply Kd.R_alloc | apply Kd.R_drewN | apply Kd.R_drew)); exact HO_7.out) (Kd.R_base ho0) hb); have n2_ := Aa (Kd.R_elder' (by (with_reducible repeat (first | apply Kd.R_alloc | apply Kd.R_drewN | apply Kd.R_drew)); exact HO152.out) (Kd.R_base ho0) hb); have n3_ := Aa (Kd.R_below (by (with_reducible repeat (first | apply Kd.R_alloc | apply Kd.R_drewN | apply Kd.R_drew)); exact HO155.out) hb); have n4_ := Aa (Kd.R_lower (Kd.R_new' (Kd.R_new' (Kd.R_new' ho0 (Kd.R_lt (by (with_reducible repeat (first | apply Kd.R_alloc | apply Kd.R_drewN | apply Kd.R_drew)); exact HO_6.out))) (Kd.R_lt (by (with_reducible repeat (first | apply Kd.R_alloc | apply Kd.R_drewN | apply Kd.R_drew)); exact HO_7.out))) (Kd.R_lt (by (with_reducible repeat (first | apply Kd.R_alloc | apply Kd.R_drewN | apply Kd.R_drew)); exact HO152.out))) (below_size (by repeat (first | (with_reducible first | exact HB.out | apply Ba | apply Pn | apply Dn) | exact HB.out)))); have n5_ := Aa (Bp (by repeat (first | (with_reducible first | exact HB.out | apply Ba | apply Pn | apply Dn) | exact HB.out)) hb); clear HO_6; clear HO_7; clear HO152; clear HO155; clear HB; have HO_6 := n0_; have HO_7 := n1_; have HO152 := n2_; have HO155 := n3_; have HO159 := n4_; have HB := n5_; clear n0_ n1_ n2_ n3_ n4_ n5_; (try clear hb); (try clear hb2); (try clear hk); (try clear hi); (try clear ho0)))
    (try simp only [Act.put, Sa, Sb, Sc])
    go_cut [57] (fun v57 wc => ∃ (kq : Nat) (x57_11 : Bool), v57 = .bool x57_11 ∧ Aside0 (rf_Solve.j1 kq l0 t149 t156 x57_11 = some (r1, r2)) ∧ Aside0 (kq ≤ k1) ∧ Aside0 (Kd.R (Kd.int .i64) 3 wc w.heap.size (fun k_ => some k_ ≠ (v158 : Value).ownBlock) v151 t149) ∧ Aside0 (Kd.R (Kd.int .i64) 3 wc w.heap.size (fun k_ => some k_ ≠ (v151 : Value).ownBlock) v158 t156) ∧ Aside0 (Below w.heap.size w wc))
    case first =>
     have H := HC12.out; clear HC12
     by_cases c19 : t150 = true
     ·subst c19
      have H1 : (rf_Solve.j1 k1 l0 t149 t156 (!t157)) = some (r1, r2) := by rw [if_pos rfl] at H; exact H
      clear H; have H := H1; clear H1; have H' := Aa H; clear H; go_wp2
      go_meet
      case rel => exact ⟨_, (!t157), (by first | rfl | (simp; done) | (simp [*]; done)), H', ⟨by have := HK1.out; first | omega | exact Nat.le_refl _⟩, ⟨by (with_reducible repeat (first | apply Kd.R_alloc | apply Kd.R_drewN | apply Kd.R_drew)); exact Kd.R_mono HO152.out (fun _ hk => hk.2)⟩, ⟨by (with_reducible repeat (first | apply Kd.R_alloc | apply Kd.R_drewN | apply Kd.R_drew)); exact Kd.R_mono HO159.out (fun _ hk => hk.2)⟩, ⟨by repeat (first | (with_reducible first | exact HB.out | apply Ba | apply Pn | apply Dn) | exact HB.out)⟩⟩
     ·replace c19 := Bool.eq_false_iff.mpr c19; subst c19
      have H1 : (rf_Solve.j1 k1 l0 t149 t156 true) = some (r1, r2) := by rw [if_neg (show ¬ (false = true) by decide)] at H; exact H
      clear H; have H := H1; clear H1; have H' := Aa H; clear H; go_wp2
      go_meet
      case rel => exact ⟨_, (true), (by first | rfl | (simp; done) | (simp [*]; done)), H', ⟨by have := HK1.out; first | omega | exact Nat.le_refl _⟩, ⟨by (with_reducible repeat (first | apply Kd.R_alloc | apply Kd.R_drewN | apply Kd.R_drew)); exact Kd.R_mono HO152.out (fun _ hk => hk.2)⟩, ⟨by (with_reducible repeat (first | apply Kd.R_alloc | apply Kd.R_drewN | apply Kd.R_drew)); exact Kd.R_mono HO159.out (fun _ hk => hk.2)⟩, ⟨by repeat (first | (with_reducible first | exact HB.out | apply Ba | apply Pn | apply Dn) | exact HB.out)⟩⟩
    case rest =>
     clear HC12; try clear c1
     try clear p1
     try clear q1
     try clear hx1
     try clear p2
     try clear c3
     try clear c3b0
     try clear c4
     try clear c4b0
     try clear c5
     try clear c6
     try clear p6
     try clear c8
     try clear p14
     try clear q14
     try clear hx14
     try clear c19
     try clear hx141_0
     try clear hx141_1
     try clear hx145_0
     try clear hx145_1
     try clear p141
     try clear p145
     try clear p2
     try clear q141
     try clear q145
     obtain ⟨kq, x57_11, rfl, HA, HJ11, HO_9, HO_11, HB⟩ := hcut
     cases kq with
     | zero => exact absurd HA.out (by simp [rf_Solve.j1])
     | succ kj11 =>
      have H := HA.out; clear HA; simp only [rf_Solve.j1] at H
      by_cases c20 : x57_11 = true
      ·subst c20
       have H1 : (some (([] : List (S65)), false)) = some (r1, r2) := by rw [if_pos rfl] at H; exact H
       clear H; have H := H1; clear H1; simp only [Option.some.injEq, Prod.mk.injEq] at H; obtain ⟨rfl, rfl⟩ := H; go_wp2; go_ret2; exact ⟨_, by first | rfl | (simp [errW_none, errW_some] <;> rfl) | (simp [*, errW_none, errW_some] <;> rfl), by first | exact Kd.R_nil _ _ _ _ _ | exact Kd.N_nil _ _ _ _ _ | exact Kd.V_nil _ _ _ _ _ | exact Kd.Q_nil _ _ _ _ _ | exact Kd.S_nil _ _ _ _ _, by repeat (first | (with_reducible first | exact HB.out | apply Ba | apply Pn | apply Dn) | exact HB.out)⟩
      ·replace c20 := Bool.eq_false_iff.mpr c20; subst c20
       have H1 : (rf_Solve.l1 kj11 l0 t149 t156 ([] : List (S65)) 0) = some (r1, r2) := by rw [if_neg (show ¬ (false = true) by decide)] at H; exact H
       clear H; have H := H1; clear H1; have H' := Aa H; clear H; go_wp2
       go_loopg [13, 14] kj11 (fun kq v13 v14 w' => ∃ (x13_3 : List (S65)) (x14_3 : Int), v14 = .int .i64 x14_3 ∧ Aside0 (rf_Solve.l1 kq l0 t149 t156 x13_3 x14_3 = some (r1, r2)) ∧ Aside0 (kq ≤ kj11) ∧ Aside0 (Kd.R (Kd.int .i64) 3 w' w.heap.size (fun k_ => some k_ ≠ (v158 : Value).ownBlock) v151 t149) ∧ Aside0 (Kd.R (Kd.int .i64) 3 w' w.heap.size (fun k_ => some k_ ≠ (v151 : Value).ownBlock) v158 t156) ∧ Aside0 (Kd.R k65 65 w' w.heap.size (fun _ => True) v13 x13_3) ∧ Aside0 (Below w.heap.size w w'))
       case atStart => exact ⟨(([] : List (S65))), (0), (by first | rfl | (simp; done) | (simp [*]; done)), H', ⟨Nat.le_refl _⟩, ⟨by (with_reducible repeat (first | apply Kd.R_alloc | apply Kd.R_drewN | apply Kd.R_drew)); exact HO_9.out⟩, ⟨by (with_reducible repeat (first | apply Kd.R_alloc | apply Kd.R_drewN | apply Kd.R_drew)); exact HO_11.out⟩, ⟨by first | exact Kd.R_nil _ _ _ _ _ | exact Kd.N_nil _ _ _ _ _ | exact Kd.V_nil _ _ _ _ _ | exact Kd.Q_nil _ _ _ _ _ | exact Kd.S_nil _ _ _ _ _⟩, ⟨by repeat (first | (with_reducible first | exact HB.out | apply Ba | apply Pn | apply Dn) | exact HB.out)⟩⟩
       case round =>
        clear H'; try clear c1
        try clear p1
        try clear q1
        try clear hx1
        try clear c2
        try clear p2
        try clear c3
        try clear c3b0
        try clear c4
        try clear c4b0
        try clear c5
        try clear c6
        try clear p6
        try clear c8
        try clear p14
        try clear q14
        try clear hx14
        try clear c19
        try clear c20
        try clear hx141_0
        try clear hx141_1
        try clear hx145_0
        try clear hx145_1
        try clear p1
        try clear p14
        try clear p141
        try clear p145
        try clear p2
        try clear p6
        try clear q1
        try clear q14
        try clear q141
        try clear q145
        obtain ⟨x13_3, x14_3, rfl, HA, HK3, HO_9, HO_11, HO_13, HB⟩ := hrel
        cases gk with
        | zero => exact absurd HA.out (by simp [rf_Solve.l1])
        | succ k3 =>
         have H := HA.out; clear HA; simp only [rf_Solve.l1] at H
         by_cases c21 : x14_3 < (l0.length : Int)
         ·rw [if_pos c21] at H; have c21b0 : decide (x14_3 < (l0.length : Int)) = true := decide_eq_true c21; clear c21
          by_cases c22 : 0 ≤ x14_3
          ·rw [if_pos c22] at H; have c22b0 : decide (0 ≤ x14_3) = true := decide_eq_true c22; clear c22
           by_cases c23 : x14_3 < (t149.length : Int)
           ·rw [if_pos c23] at H; have c23b0 : decide (x14_3 < (t149.length : Int)) = true := decide_eq_true c23; clear c23
            by_cases c24 : x14_3 < (t156.length : Int)
            ·rw [if_pos c24] at H; have c24b0 : decide (x14_3 < (t156.length : Int)) = true := decide_eq_true c24; clear c24
             by_cases c25 : (rd t149 x14_3) > ((rd_T65 l0 x14_3).f1)
             ·rw [if_pos c25] at H; have c25b0 : decide (((rd_T65 l0 x14_3).f1) < (rd t149 x14_3)) = true := decide_eq_true c25; clear c25; simp only [Option.some.injEq, Prod.mk.injEq] at H; obtain ⟨rfl, rfl⟩ := H; try go_wp2
              have n0_ := Aa (Kd.R_drew HO_9.out); have n1_ := Aa (Kd.R_drew HO_11.out); have n2_ := Aa (Kd.R_drew HO_13.out); have n3_ := Aa (Dn HB.out); clear HO_9; clear HO_11; clear HO_13; clear HB; have HO_9 := n0_; have HO_11 := n1_; have HO_13 := n2_; have HB := n3_; clear n0_ n1_ n2_ n3_; obtain ⟨Ao27, co27, eo27⟩ := Kd.R_slice HO_9.out
              (first | subst eo27 | (injection eo27 with f1_ f2_ f3_; have f4_ := f1_.symm; have f5_ := f3_.symm; clear f1_ f2_ f3_; subst f4_; subst f5_))
              have p160 : 0 ≤ (x14_3 : Int) := Od (by first | (with_reducible assumption) | assumption); have q160 : x14_3 < (t149.length : Int) := Od (by first | (with_reducible assumption) | assumption); obtain ⟨ad160, e160, hx160_0⟩ := Kd.at_int (Kd.R_reads' HO_9.out).2.2 x14_3 p160 q160; cases e160; replace p160 := eq_true p160; replace q160 := eq_true q160; obtain ⟨Ao28, co28, eo28⟩ := Kd.R_slice HO_11.out
              (first | subst eo28 | (injection eo28 with f1_ f2_ f3_; have f4_ := f1_.symm; have f5_ := f3_.symm; clear f1_ f2_ f3_; subst f4_; subst f5_))
              have p161 : 0 ≤ (x14_3 : Int) := Od (by first | (with_reducible assumption) | assumption); have q161 : x14_3 < (t156.length : Int) := Od (by first | (with_reducible assumption) | assumption); obtain ⟨ad161, e161, hx161_0⟩ := Kd.at_int (Kd.R_reads' HO_11.out).2.2 x14_3 p161 q161; cases e161; replace p161 := eq_true p161; replace q161 := eq_true q161; refine start_ (n := 12) (S := fun w' => w'.cell? (ad160.add (x14_3).toNat) = some (.int .i64 (rd t149 x14_3)) ∧ w'.cell? (ad161.add (x14_3).toNat) = some (.int .i64 (rd t156 x14_3))) (ds := []) #[false, false, false, false, false, false, false, false, false, false, false, false] (by kernel_rfl) rfl rfl ⟨hx160_0, hx161_0⟩ (fun hHeld => ?_); refine with_tabW rf_Solve.tab15 rf_Solve.bits15 (fun HT_ HW_ => ?_); generalize wr.drew = w26 at HO_9 HO_11 HO_13 HB hx160_0 hx161_0 hHeld ⊢; refine pure_ (i := 0) (N := some 64) (v := ?_) (a' := ?_) #[true, false, false, false, false, false, false, false, false, false, false, false] rfl rfl (any_of HT_.out (by kernel_rfl)) (fun _ _ _ h => h) (Or.inl ⟨by rfl, ?_⟩) ?_ ?_; rotate_left
              ·intro w'; go_simp; with_reducible rfl
              rotate_left
              ·simp only [Act.put, Sa, Sb, Sc, i64_w, i32_w]; rfl
              refine pure_ (i := 1) (N := some 65) (v := ?_) (a' := ?_) #[true, true, false, false, false, false, false, false, false, false, false, false] rfl rfl (any_of HT_.out (by kernel_rfl)) (fun _ _ _ h => h) (Or.inl ⟨by rfl, ?_⟩) ?_ ?_; rotate_left
              ·intro w'; go_simp; with_reducible rfl
              rotate_left
              ·simp only [Act.put, Sa, Sb, Sc, i64_w, i32_w]; rfl
              refine pure_ (i := 2) (N := some 66) (v := ?_) (a' := ?_) #[true, true, true, false, false, false, false, false, false, false, false, false] rfl rfl (any_of HT_.out (by kernel_rfl)) (fun _ _ _ h => h) (Or.inl ⟨by rfl, ?_⟩) ?_ ?_; rotate_left
              ·intro w'; go_simp; with_reducible rfl
              rotate_left
              ·simp only [Act.put, Sa, Sb, Sc, i64_w, i32_w]; rfl
              refine pure_ (i := 4) (N := some 68) (v := ?_) (a' := ?_) #[true, true, true, false, true, false, false, false, false, false, false, false] rfl rfl (any_of HT_.out (by kernel_rfl)) (fun _ _ _ h => h) (Or.inl ⟨by rfl, ?_⟩) ?_ ?_; rotate_left
              ·intro w'; go_simp; with_reducible rfl
              rotate_left
              ·simp only [Act.put, Sa, Sb, Sc, i64_w, i32_w]; rfl
              refine pure_ (i := 5) (N := some 69) (v := ?_) (a' := ?_) #[true, true, true, false, true, true, false, false, false, false, false, false] rfl rfl (any_of HT_.out (by kernel_rfl)) (fun _ _ _ h => h) (Or.inl ⟨by rfl, ?_⟩) ?_ ?_; rotate_left
              ·intro w'; go_simp; with_reducible rfl
              rotate_left
              ·simp only [Act.put, Sa, Sb, Sc, i64_w, i32_w]; rfl
              refine pure_ (i := 6) (N := some 70) (v := ?_) (a' := ?_) #[true, true, true, false, true, true, true, false, false, false, false, false] rfl rfl (any_of HT_.out (by kernel_rfl)) (fun _ _ _ h => h) (Or.inl ⟨by rfl, ?_⟩) ?_ ?_; rotate_left
              ·intro w'; go_simp; with_reducible rfl
              rotate_left
              ·simp only [Act.put, Sa, Sb, Sc, i64_w, i32_w]; rfl
              refine take_ (i := 3) (N := some 67) (v := ?_) (a' := ?_) #[true, true, true, true, true, true, true, false, false, false, false, false] rfl rfl (take_ofW HT_.out HW_.out (by kernel_rfl)) (fun _ _ _ h => h) (Or.inl ⟨by rfl, ?_⟩) hHeld ?_ ?_; rotate_left
              ·rintro w' ⟨s0, s1⟩; go_simp; with_reducible rfl
              rotate_left
              ·simp only [Act.put, Sa, Sb, Sc, i64_w, i32_w]; rfl
              refine take_ (i := 7) (N := some 71) (v := ?_) (a' := ?_) #[true, true, true, true, true, true, true, true, false, false, false, false] rfl rfl (take_ofW HT_.out HW_.out (by kernel_rfl)) (fun _ _ _ h => h) (Or.inl ⟨by rfl, ?_⟩) hHeld ?_ ?_; rotate_left
              ·rintro w' ⟨s0, s1⟩; go_simp; with_reducible rfl
              rotate_left
              ·simp only [Act.put, Sa, Sb, Sc, i64_w, i32_w]; rfl
              refine pure_ (i := 8) (N := some 72) (v := ?_) (a' := ?_) #[true, true, true, true, true, true, true, true, true, false, false, false] rfl rfl (any_of HT_.out (by kernel_rfl)) (fun _ _ _ h => h) (Or.inl ⟨by rfl, ?_⟩) ?_ ?_; rotate_left
              ·intro w'; go_simp; with_reducible rfl
              rotate_left
              ·simp only [Act.put, Sa, Sb, Sc, i64_w, i32_w]; rfl
              refine pure_ (i := 9) (N := some 73) (v := ?_) (a' := ?_) #[true, true, true, true, true, true, true, true, true, true, false, false] rfl rfl (any_of HT_.out (by kernel_rfl)) (fun _ _ _ h => h) (Or.inl ⟨by rfl, ?_⟩) ?_ ?_; rotate_left
              ·intro w'; go_simp; with_reducible rfl
              rotate_left
              ·simp only [Act.put, Sa, Sb, Sc, i64_w, i32_w]; rfl
              refine one_ (i := 10) (N := some 15) #[true, true, true, true, true, true, true, true, true, true, true, false] rfl rfl (one_of HT_.out (by kernel_rfl)) (by decide) (fun K hK => ?_); refine box_step ?hg (N := 15) ?hd (cs := #[.int .i64 0, .int .i64 0]) (t := 65) ?hr ?_; (case hd => rfl); (case hg => rfl); (case hr => first | (go_simp; done) | (go_simp; rfl)); intro gb162 hg w29 hbox hb; have HS0_ := (hb.cell (Wb _ _ (hHeld.1))).trans (hHeld.1); have HS1_ := (hb.cell (Wb _ _ (hHeld.2))).trans (hHeld.2); have n0_ := Aa (Kd.R_below (by (with_reducible repeat (first | apply Kd.R_alloc | apply Kd.R_drewN | apply Kd.R_drew)); exact HO_9.out) hb); have n1_ := Aa (Kd.R_below (by (with_reducible repeat (first | apply Kd.R_alloc | apply Kd.R_drewN | apply Kd.R_drew)); exact HO_11.out) hb); have n2_ := Aa (Kd.R_below (Kd.R_elderB (by (with_reducible repeat (first | apply Kd.R_alloc | apply Kd.R_drewN | apply Kd.R_drew)); exact HO_13.out) gb162 (Nat.le_of_eq hg.symm)) hb); have n3_ := Aa (Bp (by repeat (first | (with_reducible first | exact HB.out | apply Ba | apply Pn | apply Dn) | exact HB.out)) hb); have n4_ := Aa (hbox); have n5_ := Aa ((by rw [hg]; exact (below_size (by repeat (first | (with_reducible first | exact HB.out | apply Ba | apply Pn | apply Dn) | exact HB.out))) : w.heap.size ≤ gb162)); have n6_ := Aa ((by rw [hg]; exact (below_size (by repeat (first | (with_reducible first | exact HB.out | apply Ba | apply Pn | apply Dn) | exact HB.out))) : w.heap.size ≤ gb162)); clear HO_9; clear HO_11; clear HO_13; clear HB; have HO_9 := n0_; have HO_11 := n1_; have HO_13 := n2_; have HB := n3_; have BK162 := n4_; have GW162 := n5_; have GE162 := n6_; clear n0_ n1_ n2_ n3_ n4_ n5_ n6_; clear hb hbox hg; refine hK.out _ _ ⟨HS0_, HS1_⟩ (fun hHeld => ?_); clear hK K; refine norm_ (a' := ?_) ?_ ?_; rotate_left
              ·show Act.put _ (some 15) _ = _; simp only [Act.put, Sa, Sb, Sc, i64_w, i32_w]; rfl
              refine one_ (i := 11) (N := none) #[true, true, true, true, true, true, true, true, true, true, true, true] rfl rfl (one_of HT_.out (by kernel_rfl)) (by decide) (fun K hK => ?_); have hs30 : w29.cell? ⟨gb162, 0, none⟩ = some (.int .i64 0) := (Bc BK162.out 0).trans rfl; have hfs30 := Bf BK162.out 0; have hs31 : w29.cell? ⟨gb162, 1, none⟩ = some (.int .i64 0) := (Bc BK162.out 1).trans rfl; have hfs31 := Bf BK162.out 1; refine skip_ (w1 := ?_) (by rfl) rfl ?_ ?_; rotate_left
              ·go_simp; rfl
              refine hK.out _ _ ⟨((cell_far (p := ⟨gb162, _, none⟩) (by first | exact Kd.own_blk (Kd.R_ne HO_9.out BK162.out (by decide)) | (rw [add_block]; exact Kd.own_blk (Kd.R_ne HO_9.out BK162.out (by decide))) | (show (Addr.add _ _).block ≠ _; rw [add_block]; exact Kd.own_blk (Kd.R_ne HO_9.out BK162.out (by decide))) | (dsimp only; exact Kd.own_blk (Kd.R_ne HO_9.out BK162.out (by decide)))) _).trans (((cell_far (p := ⟨gb162, _, none⟩) (by first | exact Kd.own_blk (Kd.R_ne HO_9.out BK162.out (by decide)) | (rw [add_block]; exact Kd.own_blk (Kd.R_ne HO_9.out BK162.out (by decide))) | (show (Addr.add _ _).block ≠ _; rw [add_block]; exact Kd.own_blk (Kd.R_ne HO_9.out BK162.out (by decide))) | (dsimp only; exact Kd.own_blk (Kd.R_ne HO_9.out BK162.out (by decide)))) _).trans (hHeld.1)))), ((cell_far (p := ⟨gb162, _, none⟩) (by first | exact Kd.own_blk (Kd.R_ne HO_11.out BK162.out (by decide)) | (rw [add_block]; exact Kd.own_blk (Kd.R_ne HO_11.out BK162.out (by decide))) | (show (Addr.add _ _).block ≠ _; rw [add_block]; exact Kd.own_blk (Kd.R_ne HO_11.out BK162.out (by decide))) | (dsimp only; exact Kd.own_blk (Kd.R_ne HO_11.out BK162.out (by decide)))) _).trans (((cell_far (p := ⟨gb162, _, none⟩) (by first | exact Kd.own_blk (Kd.R_ne HO_11.out BK162.out (by decide)) | (rw [add_block]; exact Kd.own_blk (Kd.R_ne HO_11.out BK162.out (by decide))) | (show (Addr.add _ _).block ≠ _; rw [add_block]; exact Kd.own_blk (Kd.R_ne HO_11.out BK162.out (by decide))) | (dsimp only; exact Kd.own_blk (Kd.R_ne HO_11.out BK162.out (by decide)))) _).trans (hHeld.2))))⟩ (fun hHeld => ?_); clear hK K; refine done_ (done_of HT_.out (by kernel_rfl)) ?_; try go_wp2
              have n0_ : Aside0 (Kd.R (Kd.int .i64) 3 ((w29.setCell ⟨gb162, 0, none⟩ (.int .i64 (rd t149 x14_3))).setCell ⟨gb162, 1, none⟩ (.int .i64 (wrap64 (-(rd t156 x14_3))))) w.heap.size (fun k_ => some k_ ≠ (.slice (some ad161) t156.length co28 : Value).ownBlock) (.slice (some ad160) t149.length co27) t149) := ⟨by (with_reducible repeat (first | apply Kd.R_alloc | apply Kd.R_drewN | apply Kd.R_drew)); exact Kd.R_mono (Kd.R_far (p := ⟨gb162, 1, none⟩) (Kd.R_far (p := ⟨gb162, 0, none⟩) (Kd.R_types HO_9.out BK162.out (by decide)) (fun _ hk => hk.2) (.int .i64 (rd t149 x14_3))) (fun _ hk => hk.2) (.int .i64 (wrap64 (-(rd t156 x14_3))))) (fun _ hk => hk.1)⟩
              have n1_ : Aside0 (Kd.R (Kd.int .i64) 3 ((w29.setCell ⟨gb162, 0, none⟩ (.int .i64 (rd t149 x14_3))).setCell ⟨gb162, 1, none⟩ (.int .i64 (wrap64 (-(rd t156 x14_3))))) w.heap.size (fun k_ => some k_ ≠ (.slice (some ad160) t149.length co27 : Value).ownBlock) (.slice (some ad161) t156.length co28) t156) := ⟨by (with_reducible repeat (first | apply Kd.R_alloc | apply Kd.R_drewN | apply Kd.R_drew)); exact Kd.R_mono (Kd.R_far (p := ⟨gb162, 1, none⟩) (Kd.R_far (p := ⟨gb162, 0, none⟩) (Kd.R_types HO_11.out BK162.out (by decide)) (fun _ hk => hk.2) (.int .i64 (rd t149 x14_3))) (fun _ hk => hk.2) (.int .i64 (wrap64 (-(rd t156 x14_3))))) (fun _ hk => hk.1)⟩
              have n2_ : Aside0 (Kd.R k65 65 ((w29.setCell ⟨gb162, 0, none⟩ (.int .i64 (rd t149 x14_3))).setCell ⟨gb162, 1, none⟩ (.int .i64 (wrap64 (-(rd t156 x14_3))))) w.heap.size (fun k_ => k_ ≠ gb162) u13 x13_3) := ⟨by (with_reducible repeat (first | apply Kd.R_alloc | apply Kd.R_drewN | apply Kd.R_drew)); exact Kd.R_mono (Kd.R_far (p := ⟨gb162, 1, none⟩) (Kd.R_far (p := ⟨gb162, 0, none⟩) (Kd.R_mono HO_13.out (fun k_ hk => (⟨hk, hk.2⟩ : _ ∧ k_ ≠ gb162))) (fun _ hk => hk.2) (.int .i64 (rd t149 x14_3))) (fun _ hk => hk.2) (.int .i64 (wrap64 (-(rd t156 x14_3))))) (fun _ hk => hk.1.2)⟩
              have n3_ : Aside0 (((w29.setCell ⟨gb162, 0, none⟩ (.int .i64 (rd t149 x14_3))).setCell ⟨gb162, 1, none⟩ (.int .i64 (wrap64 (-(rd t156 x14_3))))).heap[gb162]? = some (.cells #[.int .i64 (rd t149 x14_3), .int .i64 (wrap64 (-(rd t156 x14_3)))] 65 (0, 0))) := ⟨by (with_reducible repeat (first | refine Kn ?_ _ | refine Kw ?_ | refine Ka ?_ _)); refine blk_put (cs := #[.int .i64 (rd t149 x14_3), .int .i64 0]) ?_ 1 _ rfl; (with_reducible repeat (first | refine Kn ?_ _ | refine Kw ?_ | refine Ka ?_ _)); refine blk_put (cs := #[.int .i64 0, .int .i64 0]) ?_ 0 _ rfl; (with_reducible repeat (first | refine Kn ?_ _ | refine Kw ?_ | refine Ka ?_ _)); exact BK162.out⟩
              have n4_ : Aside0 (Below w.heap.size w ((w29.setCell ⟨gb162, 0, none⟩ (.int .i64 (rd t149 x14_3))).setCell ⟨gb162, 1, none⟩ (.int .i64 (wrap64 (-(rd t156 x14_3)))))) := ⟨by repeat (first | (with_reducible first | exact HB.out | apply Ba | apply Pn | apply Dn | refine Bz ?_ GE162.out) | exact HB.out)⟩
              (try clear HO_9)
              (try clear HO_11)
              (try clear HO_13)
              (try clear BK162)
              (try clear HB)
              generalize ((w29.setCell ⟨gb162, 0, none⟩ (.int .i64 (rd t149 x14_3))).setCell ⟨gb162, 1, none⟩ (.int .i64 (wrap64 (-(rd t156 x14_3))))) = w32 at n0_ n1_ n2_ n3_ n4_ ⊢; have HO_9 := n0_; have HO_11 := n1_; have HO_13 := n2_; have BK162 := n3_; have HB := n4_; clear n0_ n1_ n2_ n3_ n4_; have n0_ := Aa (Kd.R_drew HO_9.out); have n1_ := Aa (Kd.R_drew HO_11.out); have n2_ := Aa (Kd.R_drew HO_13.out); have n3_ := Aa (Kw BK162.out); have n4_ := Aa (Dn HB.out); clear HO_9; clear HO_11; clear HO_13; clear BK162; clear HB; have HO_9 := n0_; have HO_11 := n1_; have HO_13 := n2_; have BK162 := n3_; have HB := n4_; clear n0_ n1_ n2_ n3_ n4_; have p163 : 0 ≤ (x14_3 : Int) := Od (by first | (with_reducible assumption) | assumption); have q163 : x14_3 < (l0.length : Int) := Od (by first | (with_reducible assumption) | assumption); obtain ⟨ad163, e163, hx163_0, hx163_1⟩ := at_T65 HR0.out x14_3 p163 q163; have hw163_1 := hx163_1; have hw163_0 := hx163_0; cases e163; replace hx163_0 := (HB.out.cell (Wb w _ hx163_0)).trans hx163_0; replace hx163_1 := (HB.out.cell (Wb w _ hx163_1)).trans hx163_1; replace p163 := eq_true p163; replace q163 := eq_true q163; refine start_ (n := 8) (S := fun w' => w'.cell? ⟨gb162, 0, none⟩ = some (.int .i64 (rd t149 x14_3)) ∧ w'.cell? ⟨gb162, 1, none⟩ = some (.int .i64 (wrap64 (-(rd t156 x14_3)))) ∧ w'.cell? (ad163.add ((x14_3).toNat * 2)) = some (.int .i64 ((rd_T65 l0 x14_3).f0)) ∧ w'.cell? ⟨(ad163.add ((x14_3).toNat * 2)).block, (ad163.add ((x14_3).toNat * 2)).off + 1, none⟩ = some (.int .i64 ((rd_T65 l0 x14_3).f1))) (ds := []) #[false, false, false, false, false, false, false, false] (by kernel_rfl) rfl rfl ⟨(Bc BK162.out 0).trans rfl, (Bc BK162.out 1).trans rfl, ((HB.out.cell (Wb w _ hw163_0)).trans hw163_0), ((HB.out.cell (Wb w _ hw163_1)).trans hw163_1)⟩ (fun hHeld => ?_); refine with_tabW rf_Solve.tab16 rf_Solve.bits16 (fun HT_ HW_ => ?_); generalize w32.drew = w33 at HO_9 HO_11 HO_13 BK162 HB hx163_0 hx163_1 hHeld ⊢; refine pure_ (i := 0) (N := some 74) (v := ?_) (a' := ?_) #[true, false, false, false, false, false, false, false] rfl rfl (any_of HT_.out (by kernel_rfl)) (fun _ _ _ h => h) (Or.inl ⟨by rfl, ?_⟩) ?_ ?_; rotate_left
              ·intro w'; go_simp; with_reducible rfl
              rotate_left
              ·simp only [Act.put, Sa, Sb, Sc, i64_w, i32_w]; rfl
              refine pure_ (i := 2) (N := some 76) (v := ?_) (a' := ?_) #[true, false, true, false, false, false, false, false] rfl rfl (any_of HT_.out (by kernel_rfl)) (fun _ _ _ h => h) (Or.inl ⟨by rfl, ?_⟩) ?_ ?_; rotate_left
              ·intro w'; go_simp; with_reducible rfl
              rotate_left
              ·simp only [Act.put, Sa, Sb, Sc, i64_w, i32_w]; rfl
              refine pure_ (i := 3) (N := some 77) (v := ?_) (a' := ?_) #[true, false, true, true, false, false, false, false] rfl rfl (any_of HT_.out (by kernel_rfl)) (fun _ _ _ h => h) (Or.inl ⟨by rfl, ?_⟩) ?_ ?_; rotate_left
              ·intro w'; go_simp; with_reducible rfl
              rotate_left
              ·simp only [Act.put, Sa, Sb, Sc, i64_w, i32_w]; rfl
              refine pure_ (i := 4) (N := some 78) (v := ?_) (a' := ?_) #[true, false, true, true, true, false, false, false] rfl rfl (any_of HT_.out (by kernel_rfl)) (fun _ _ _ h => h) (Or.inl ⟨by rfl, ?_⟩) ?_ ?_; rotate_left
              ·intro w'; go_simp; with_reducible rfl
              rotate_left
              ·simp only [Act.put, Sa, Sb, Sc, i64_w, i32_w]; rfl
              refine pure_ (i := 5) (N := some 79) (v := ?_) (a' := ?_) #[true, false, true, true, true, true, false, false] rfl rfl (any_of HT_.out (by kernel_rfl)) (fun _ _ _ h => h) (Or.inl ⟨by rfl, ?_⟩) ?_ ?_; rotate_left
              ·intro w'; go_simp; with_reducible rfl
              rotate_left
              ·simp only [Act.put, Sa, Sb, Sc, i64_w, i32_w]; rfl
              refine take_ (i := 1) (N := some 75) (v := ?_) (a' := ?_) #[true, true, true, true, true, true, false, false] rfl rfl (take_ofW HT_.out HW_.out (by kernel_rfl)) (fun _ _ _ h => h) (Or.inl ⟨by rfl, ?_⟩) hHeld ?_ ?_; rotate_left
              ·rintro w' ⟨s0, s1, s2, s3⟩; go_simp; with_reducible rfl
              rotate_left
              ·simp only [Act.put, Sa, Sb, Sc, i64_w, i32_w]; rfl
              refine take_ (i := 6) (N := some 80) (v := ?_) (a' := ?_) #[true, true, true, true, true, true, true, false] rfl rfl (take_ofW HT_.out HW_.out (by kernel_rfl)) (fun _ _ _ h => h) (Or.inl ⟨by rfl, ?_⟩) hHeld ?_ ?_; rotate_left
              ·rintro w' ⟨s0, s1, s2, s3⟩; go_simp; with_reducible rfl
              rotate_left
              ·simp only [Act.put, Sa, Sb, Sc, i64_w, i32_w]; rfl
              refine pure_ (i := 7) (N := some 81) (v := ?_) (a' := ?_) #[true, true, true, true, true, true, true, true] rfl rfl (any_of HT_.out (by kernel_rfl)) (fun _ _ _ h => h) (Or.inl ⟨by rfl, ?_⟩) ?_ ?_; rotate_left
              ·intro w'; go_simp; with_reducible rfl
              rotate_left
              ·simp only [Act.put, Sa, Sb, Sc, i64_w, i32_w]; rfl
              refine done_ (done_of HT_.out (by kernel_rfl)) ?_; try go_wp2
              go_ret2; exact ⟨_, by first | rfl | (simp [errW_none, errW_some] <;> rfl) | (simp [*, errW_none, errW_some] <;> rfl), by first | exact Kd.R_nil _ _ _ _ _ | exact Kd.N_nil _ _ _ _ _ | exact Kd.V_nil _ _ _ _ _ | exact Kd.Q_nil _ _ _ _ _ | exact Kd.S_nil _ _ _ _ _, by repeat (first | (with_reducible first | exact HB.out | apply Ba | apply Pn | apply Dn | refine Bz ?_ GE162.out) | exact HB.out)⟩
             ·rw [if_neg c25] at H; have c25b0 : decide (((rd_T65 l0 x14_3).f1) < (rd t149 x14_3)) = false := decide_eq_false c25; clear c25
              by_cases c34 : x13_3.length < 8796093022208
              ·rw [if_pos c34] at H; have LMc34 := Aa c34; clear c34
               obtain ⟨y164, hy164⟩ : ∃ y_ : List (S65), y_ = (x13_3 ++ [(⟨rd t149 x14_3, wrap64 (-(rd t156 x14_3))⟩ : S65)]) := ⟨_, rfl⟩
               replace H : (rf_Solve.l1 k3 l0 t149 t156 y164 (wrap64 (x14_3 + 1))) = some (r1, r2) := by first | (rw [hy164]; with_reducible exact H) | (have H2_ := (Option.bind_some _ _).symm.trans H; rw [hy164]; with_reducible exact H2_) | (have H2_ := (Option.bind_some _ _).symm.trans H; with_reducible exact H2_) | with_reducible exact H | (rw [hy164]; exact H) | exact H
               have Ny164 := Aa hy164; clear hy164; have H' := Aa H; clear H; try go_wp2
               have n0_ := Aa (Kd.R_drew HO_9.out); have n1_ := Aa (Kd.R_drew HO_11.out); have n2_ := Aa (Kd.R_drew HO_13.out); have n3_ := Aa (Dn HB.out); clear HO_9; clear HO_11; clear HO_13; clear HB; have HO_9 := n0_; have HO_11 := n1_; have HO_13 := n2_; have HB := n3_; clear n0_ n1_ n2_ n3_; obtain ⟨Ao36, co36, eo36⟩ := Kd.R_slice HO_9.out
               (first | subst eo36 | (injection eo36 with f1_ f2_ f3_; have f4_ := f1_.symm; have f5_ := f3_.symm; clear f1_ f2_ f3_; subst f4_; subst f5_))
               have p160 : 0 ≤ (x14_3 : Int) := Od (by first | (with_reducible assumption) | assumption); have q160 : x14_3 < (t149.length : Int) := Od (by first | (with_reducible assumption) | assumption); obtain ⟨ad160, e160, hx160_0⟩ := Kd.at_int (Kd.R_reads' HO_9.out).2.2 x14_3 p160 q160; cases e160; replace p160 := eq_true p160; replace q160 := eq_true q160; obtain ⟨Ao37, co37, eo37⟩ := Kd.R_slice HO_11.out
               (first | subst eo37 | (injection eo37 with f1_ f2_ f3_; have f4_ := f1_.symm; have f5_ := f3_.symm; clear f1_ f2_ f3_; subst f4_; subst f5_))
               have p161 : 0 ≤ (x14_3 : Int) := Od (by first | (with_reducible assumption) | assumption); have q161 : x14_3 < (t156.length : Int) := Od (by first | (with_reducible assumption) | assumption); obtain ⟨ad161, e161, hx161_0⟩ := Kd.at_int (Kd.R_reads' HO_11.out).2.2 x14_3 p161 q161; cases e161; replace p161 := eq_true p161; replace q161 := eq_true q161; refine start_ (n := 12) (S := fun w' => w'.cell? (ad160.add (x14_3).toNat) = some (.int .i64 (rd t149 x14_3)) ∧ w'.cell? (ad161.add (x14_3).toNat) = some (.int .i64 (rd t156 x14_3))) (ds := []) #[false, false, false, false, false, false, false, false, false, false, false, false] (by kernel_rfl) rfl rfl ⟨hx160_0, hx161_0⟩ (fun hHeld => ?_); refine with_tabW rf_Solve.tab15 rf_Solve.bits15 (fun HT_ HW_ => ?_); generalize wr.drew = w35 at HO_9 HO_11 HO_13 HB hx160_0 hx161_0 hHeld ⊢; refine pure_ (i := 0) (N := some 64) (v := ?_) (a' := ?_) #[true, false, false, false, false, false, false, false, false, false, false, false] rfl rfl (any_of HT_.out (by kernel_rfl)) (fun _ _ _ h => h) (Or.inl ⟨by rfl, ?_⟩) ?_ ?_; rotate_left
               ·intro w'; go_simp; with_reducible rfl
               rotate_left
               ·simp only [Act.put, Sa, Sb, Sc, i64_w, i32_w]; rfl
               refine pure_ (i := 1) (N := some 65) (v := ?_) (a' := ?_) #[true, true, false, false, false, false, false, false, false, false, false, false] rfl rfl (any_of HT_.out (by kernel_rfl)) (fun _ _ _ h => h) (Or.inl ⟨by rfl, ?_⟩) ?_ ?_; rotate_left
               ·intro w'; go_simp; with_reducible rfl
               rotate_left
               ·simp only [Act.put, Sa, Sb, Sc, i64_w, i32_w]; rfl
               refine pure_ (i := 2) (N := some 66) (v := ?_) (a' := ?_) #[true, true, true, false, false, false, false, false, false, false, false, false] rfl rfl (any_of HT_.out (by kernel_rfl)) (fun _ _ _ h => h) (Or.inl ⟨by rfl, ?_⟩) ?_ ?_; rotate_left
               ·intro w'; go_simp; with_reducible rfl
               rotate_left
               ·simp only [Act.put, Sa, Sb, Sc, i64_w, i32_w]; rfl
               refine pure_ (i := 4) (N := some 68) (v := ?_) (a' := ?_) #[true, true, true, false, true, false, false, false, false, false, false, false] rfl rfl (any_of HT_.out (by kernel_rfl)) (fun _ _ _ h => h) (Or.inl ⟨by rfl, ?_⟩) ?_ ?_; rotate_left
               ·intro w'; go_simp; with_reducible rfl
               rotate_left
               ·simp only [Act.put, Sa, Sb, Sc, i64_w, i32_w]; rfl
               refine pure_ (i := 5) (N := some 69) (v := ?_) (a' := ?_) #[true, true, true, false, true, true, false, false, false, false, false, false] rfl rfl (any_of HT_.out (by kernel_rfl)) (fun _ _ _ h => h) (Or.inl ⟨by rfl, ?_⟩) ?_ ?_; rotate_left
               ·intro w'; go_simp; with_reducible rfl
               rotate_left
               ·simp only [Act.put, Sa, Sb, Sc, i64_w, i32_w]; rfl
               refine pure_ (i := 6) (N := some 70) (v := ?_) (a' := ?_) #[true, true, true, false, true, true, true, false, false, false, false, false] rfl rfl (any_of HT_.out (by kernel_rfl)) (fun _ _ _ h => h) (Or.inl ⟨by rfl, ?_⟩) ?_ ?_; rotate_left
               ·intro w'; go_simp; with_reducible rfl
               rotate_left
               ·simp only [Act.put, Sa, Sb, Sc, i64_w, i32_w]; rfl
               refine take_ (i := 3) (N := some 67) (v := ?_) (a' := ?_) #[true, true, true, true, true, true, true, false, false, false, false, false] rfl rfl (take_ofW HT_.out HW_.out (by kernel_rfl)) (fun _ _ _ h => h) (Or.inl ⟨by rfl, ?_⟩) hHeld ?_ ?_; rotate_left
               ·rintro w' ⟨s0, s1⟩; go_simp; with_reducible rfl
               rotate_left
               ·simp only [Act.put, Sa, Sb, Sc, i64_w, i32_w]; rfl
               refine take_ (i := 7) (N := some 71) (v := ?_) (a' := ?_) #[true, true, true, true, true, true, true, true, false, false, false, false] rfl rfl (take_ofW HT_.out HW_.out (by kernel_rfl)) (fun _ _ _ h => h) (Or.inl ⟨by rfl, ?_⟩) hHeld ?_ ?_; rotate_left
               ·rintro w' ⟨s0, s1⟩; go_simp; with_reducible rfl
               rotate_left
               ·simp only [Act.put, Sa, Sb, Sc, i64_w, i32_w]; rfl
               refine pure_ (i := 8) (N := some 72) (v := ?_) (a' := ?_) #[true, true, true, true, true, true, true, true, true, false, false, false] rfl rfl (any_of HT_.out (by kernel_rfl)) (fun _ _ _ h => h) (Or.inl ⟨by rfl, ?_⟩) ?_ ?_; rotate_left
               ·intro w'; go_simp; with_reducible rfl
               rotate_left
               ·simp only [Act.put, Sa, Sb, Sc, i64_w, i32_w]; rfl
               refine pure_ (i := 9) (N := some 73) (v := ?_) (a' := ?_) #[true, true, true, true, true, true, true, true, true, true, false, false] rfl rfl (any_of HT_.out (by kernel_rfl)) (fun _ _ _ h => h) (Or.inl ⟨by rfl, ?_⟩) ?_ ?_; rotate_left
               ·intro w'; go_simp; with_reducible rfl
               rotate_left
               ·simp only [Act.put, Sa, Sb, Sc, i64_w, i32_w]; rfl
               refine one_ (i := 10) (N := some 15) #[true, true, true, true, true, true, true, true, true, true, true, false] rfl rfl (one_of HT_.out (by kernel_rfl)) (by decide) (fun K hK => ?_); refine box_step ?hg (N := 15) ?hd (cs := #[.int .i64 0, .int .i64 0]) (t := 65) ?hr ?_; (case hd => rfl); (case hg => rfl); (case hr => first | (go_simp; done) | (go_simp; rfl)); intro gb162 hg w38 hbox hb; have HS0_ := (hb.cell (Wb _ _ (hHeld.1))).trans (hHeld.1); have HS1_ := (hb.cell (Wb _ _ (hHeld.2))).trans (hHeld.2); have n0_ := Aa (Kd.R_below (by (with_reducible repeat (first | apply Kd.R_alloc | apply Kd.R_drewN | apply Kd.R_drew)); exact HO_9.out) hb); have n1_ := Aa (Kd.R_below (by (with_reducible repeat (first | apply Kd.R_alloc | apply Kd.R_drewN | apply Kd.R_drew)); exact HO_11.out) hb); have n2_ := Aa (Kd.R_below (Kd.R_elderB (by (with_reducible repeat (first | apply Kd.R_alloc | apply Kd.R_drewN | apply Kd.R_drew)); exact HO_13.out) gb162 (Nat.le_of_eq hg.symm)) hb); have n3_ := Aa (Bp (by repeat (first | (with_reducible first | exact HB.out | apply Ba | apply Pn | apply Dn) | exact HB.out)) hb); have n4_ := Aa (hbox); have n5_ := Aa ((by rw [hg]; exact (below_size (by repeat (first | (with_reducible first | exact HB.out | apply Ba | apply Pn | apply Dn) | exact HB.out))) : w.heap.size ≤ gb162)); have n6_ := Aa ((by rw [hg]; exact (below_size (by repeat (first | (with_reducible first | exact HB.out | apply Ba | apply Pn | apply Dn) | exact HB.out))) : w.heap.size ≤ gb162)); clear HO_9; clear HO_11; clear HO_13; clear HB; have HO_9 := n0_; have HO_11 := n1_; have HO_13 := n2_; have HB := n3_; have BK162 := n4_; have GW162 := n5_; have GE162 := n6_; clear n0_ n1_ n2_ n3_ n4_ n5_ n6_; clear hb hbox hg; refine hK.out _ _ ⟨HS0_, HS1_⟩ (fun hHeld => ?_); clear hK K; refine norm_ (a' := ?_) ?_ ?_; rotate_left
               ·show Act.put _ (some 15) _ = _; simp only [Act.put, Sa, Sb, Sc, i64_w, i32_w]; rfl
               refine one_ (i := 11) (N := none) #[true, true, true, true, true, true, true, true, true, true, true, true] rfl rfl (one_of HT_.out (by kernel_rfl)) (by decide) (fun K hK => ?_); have hs39 : w38.cell? ⟨gb162, 0, none⟩ = some (.int .i64 0) := (Bc BK162.out 0).trans rfl; have hfs39 := Bf BK162.out 0; have hs40 : w38.cell? ⟨gb162, 1, none⟩ = some (.int .i64 0) := (Bc BK162.out 1).trans rfl; have hfs40 := Bf BK162.out 1; refine skip_ (w1 := ?_) (by rfl) rfl ?_ ?_; rotate_left
               ·go_simp; rfl
               refine hK.out _ _ ⟨((cell_far (p := ⟨gb162, _, none⟩) (by first | exact Kd.own_blk (Kd.R_ne HO_9.out BK162.out (by decide)) | (rw [add_block]; exact Kd.own_blk (Kd.R_ne HO_9.out BK162.out (by decide))) | (show (Addr.add _ _).block ≠ _; rw [add_block]; exact Kd.own_blk (Kd.R_ne HO_9.out BK162.out (by decide))) | (dsimp only; exact Kd.own_blk (Kd.R_ne HO_9.out BK162.out (by decide)))) _).trans (((cell_far (p := ⟨gb162, _, none⟩) (by first | exact Kd.own_blk (Kd.R_ne HO_9.out BK162.out (by decide)) | (rw [add_block]; exact Kd.own_blk (Kd.R_ne HO_9.out BK162.out (by decide))) | (show (Addr.add _ _).block ≠ _; rw [add_block]; exact Kd.own_blk (Kd.R_ne HO_9.out BK162.out (by decide))) | (dsimp only; exact Kd.own_blk (Kd.R_ne HO_9.out BK162.out (by decide)))) _).trans (hHeld.1)))), ((cell_far (p := ⟨gb162, _, none⟩) (by first | exact Kd.own_blk (Kd.R_ne HO_11.out BK162.out (by decide)) | (rw [add_block]; exact Kd.own_blk (Kd.R_ne HO_11.out BK162.out (by decide))) | (show (Addr.add _ _).block ≠ _; rw [add_block]; exact Kd.own_blk (Kd.R_ne HO_11.out BK162.out (by decide))) | (dsimp only; exact Kd.own_blk (Kd.R_ne HO_11.out BK162.out (by decide)))) _).trans (((cell_far (p := ⟨gb162, _, none⟩) (by first | exact Kd.own_blk (Kd.R_ne HO_11.out BK162.out (by decide)) | (rw [add_block]; exact Kd.own_blk (Kd.R_ne HO_11.out BK162.out (by decide))) | (show (Addr.add _ _).block ≠ _; rw [add_block]; exact Kd.own_blk (Kd.R_ne HO_11.out BK162.out (by decide))) | (dsimp only; exact Kd.own_blk (Kd.R_ne HO_11.out BK162.out (by decide)))) _).trans (hHeld.2))))⟩ (fun hHeld => ?_); clear hK K; refine done_ (done_of HT_.out (by kernel_rfl)) ?_; try go_wp2
               have n0_ : Aside0 (Kd.R (Kd.int .i64) 3 ((w38.setCell ⟨gb162, 0, none⟩ (.int .i64 (rd t149 x14_3))).setCell ⟨gb162, 1, none⟩ (.int .i64 (wrap64 (-(rd t156 x14_3))))) w.heap.size (fun k_ => some k_ ≠ (.slice (some ad161) t156.length co37 : Value).ownBlock) (.slice (some ad160) t149.length co36) t149) := ⟨by (with_reducible repeat (first | apply Kd.R_alloc | apply Kd.R_drewN | apply Kd.R_drew)); exact Kd.R_mono (Kd.R_far (p := ⟨gb162, 1, none⟩) (Kd.R_far (p := ⟨gb162, 0, none⟩) (Kd.R_types HO_9.out BK162.out (by decide)) (fun _ hk => hk.2) (.int .i64 (rd t149 x14_3))) (fun _ hk => hk.2) (.int .i64 (wrap64 (-(rd t156 x14_3))))) (fun _ hk => hk.1)⟩
               have n1_ : Aside0 (Kd.R (Kd.int .i64) 3 ((w38.setCell ⟨gb162, 0, none⟩ (.int .i64 (rd t149 x14_3))).setCell ⟨gb162, 1, none⟩ (.int .i64 (wrap64 (-(rd t156 x14_3))))) w.heap.size (fun k_ => some k_ ≠ (.slice (some ad160) t149.length co36 : Value).ownBlock) (.slice (some ad161) t156.length co37) t156) := ⟨by (with_reducible repeat (first | apply Kd.R_alloc | apply Kd.R_drewN | apply Kd.R_drew)); exact Kd.R_mono (Kd.R_far (p := ⟨gb162, 1, none⟩) (Kd.R_far (p := ⟨gb162, 0, none⟩) (Kd.R_types HO_11.out BK162.out (by decide)) (fun _ hk => hk.2) (.int .i64 (rd t149 x14_3))) (fun _ hk => hk.2) (.int .i64 (wrap64 (-(rd t156 x14_3))))) (fun _ hk => hk.1)⟩
               have n2_ : Aside0 (Kd.R k65 65 ((w38.setCell ⟨gb162, 0, none⟩ (.int .i64 (rd t149 x14_3))).setCell ⟨gb162, 1, none⟩ (.int .i64 (wrap64 (-(rd t156 x14_3))))) w.heap.size (fun k_ => k_ ≠ gb162) u13 x13_3) := ⟨by (with_reducible repeat (first | apply Kd.R_alloc | apply Kd.R_drewN | apply Kd.R_drew)); exact Kd.R_mono (Kd.R_far (p := ⟨gb162, 1, none⟩) (Kd.R_far (p := ⟨gb162, 0, none⟩) (Kd.R_mono HO_13.out (fun k_ hk => (⟨hk, hk.2⟩ : _ ∧ k_ ≠ gb162))) (fun _ hk => hk.2) (.int .i64 (rd t149 x14_3))) (fun _ hk => hk.2) (.int .i64 (wrap64 (-(rd t156 x14_3))))) (fun _ hk => hk.1.2)⟩
               have n3_ : Aside0 (((w38.setCell ⟨gb162, 0, none⟩ (.int .i64 (rd t149 x14_3))).setCell ⟨gb162, 1, none⟩ (.int .i64 (wrap64 (-(rd t156 x14_3))))).heap[gb162]? = some (.cells #[.int .i64 (rd t149 x14_3), .int .i64 (wrap64 (-(rd t156 x14_3)))] 65 (0, 0))) := ⟨by (with_reducible repeat (first | refine Kn ?_ _ | refine Kw ?_ | refine Ka ?_ _)); refine blk_put (cs := #[.int .i64 (rd t149 x14_3), .int .i64 0]) ?_ 1 _ rfl; (with_reducible repeat (first | refine Kn ?_ _ | refine Kw ?_ | refine Ka ?_ _)); refine blk_put (cs := #[.int .i64 0, .int .i64 0]) ?_ 0 _ rfl; (with_reducible repeat (first | refine Kn ?_ _ | refine Kw ?_ | refine Ka ?_ _)); exact BK162.out⟩
               have n4_ : Aside0 (Below w.heap.size w ((w38.setCell ⟨gb162, 0, none⟩ (.int .i64 (rd t149 x14_3))).setCell ⟨gb162, 1, none⟩ (.int .i64 (wrap64 (-(rd t156 x14_3)))))) := ⟨by repeat (first | (with_reducible first | exact HB.out | apply Ba | apply Pn | apply Dn | refine Bz ?_ GE162.out) | exact HB.out)⟩
               (try clear HO_9)
               (try clear HO_11)
               (try clear HO_13)
               (try clear BK162)
               (try clear HB)
               generalize ((w38.setCell ⟨gb162, 0, none⟩ (.int .i64 (rd t149 x14_3))).setCell ⟨gb162, 1, none⟩ (.int .i64 (wrap64 (-(rd t156 x14_3))))) = w41 at n0_ n1_ n2_ n3_ n4_ ⊢; have HO_9 := n0_; have HO_11 := n1_; have HO_13 := n2_; have BK162 := n3_; have HB := n4_; clear n0_ n1_ n2_ n3_ n4_; have n0_ := Aa (Kd.R_drew HO_9.out); have n1_ := Aa (Kd.R_drew HO_11.out); have n2_ := Aa (Kd.R_drew HO_13.out); have n3_ := Aa (Kw BK162.out); have n4_ := Aa (Dn HB.out); clear HO_9; clear HO_11; clear HO_13; clear BK162; clear HB; have HO_9 := n0_; have HO_11 := n1_; have HO_13 := n2_; have BK162 := n3_; have HB := n4_; clear n0_ n1_ n2_ n3_ n4_; have p163 : 0 ≤ (x14_3 : Int) := Od (by first | (with_reducible assumption) | assumption); have q163 : x14_3 < (l0.length : Int) := Od (by first | (with_reducible assumption) | assumption); obtain ⟨ad163, e163, hx163_0, hx163_1⟩ := at_T65 HR0.out x14_3 p163 q163; have hw163_1 := hx163_1; have hw163_0 := hx163_0; cases e163; replace hx163_0 := (HB.out.cell (Wb w _ hx163_0)).trans hx163_0; replace hx163_1 := (HB.out.cell (Wb w _ hx163_1)).trans hx163_1; replace p163 := eq_true p163; replace q163 := eq_true q163; refine start_ (n := 8) (S := fun w' => w'.cell? ⟨gb162, 0, none⟩ = some (.int .i64 (rd t149 x14_3)) ∧ w'.cell? ⟨gb162, 1, none⟩ = some (.int .i64 (wrap64 (-(rd t156 x14_3)))) ∧ w'.cell? (ad163.add ((x14_3).toNat * 2)) = some (.int .i64 ((rd_T65 l0 x14_3).f0)) ∧ w'.cell? ⟨(ad163.add ((x14_3).toNat * 2)).block, (ad163.add ((x14_3).toNat * 2)).off + 1, none⟩ = some (.int .i64 ((rd_T65 l0 x14_3).f1))) (ds := []) #[false, false, false, false, false, false, false, false] (by kernel_rfl) rfl rfl ⟨(Bc BK162.out 0).trans rfl, (Bc BK162.out 1).trans rfl, ((HB.out.cell (Wb w _ hw163_0)).trans hw163_0), ((HB.out.cell (Wb w _ hw163_1)).trans hw163_1)⟩ (fun hHeld => ?_); refine with_tabW rf_Solve.tab16 rf_Solve.bits16 (fun HT_ HW_ => ?_); generalize w41.drew = w42 at HO_9 HO_11 HO_13 BK162 HB hx163_0 hx163_1 hHeld ⊢; refine pure_ (i := 0) (N := some 74) (v := ?_) (a' := ?_) #[true, false, false, false, false, false, false, false] rfl rfl (any_of HT_.out (by kernel_rfl)) (fun _ _ _ h => h) (Or.inl ⟨by rfl, ?_⟩) ?_ ?_; rotate_left
               ·intro w'; go_simp; with_reducible rfl
               rotate_left
               ·simp only [Act.put, Sa, Sb, Sc, i64_w, i32_w]; rfl
               refine pure_ (i := 2) (N := some 76) (v := ?_) (a' := ?_) #[true, false, true, false, false, false, false, false] rfl rfl (any_of HT_.out (by kernel_rfl)) (fun _ _ _ h => h) (Or.inl ⟨by rfl, ?_⟩) ?_ ?_; rotate_left
               ·intro w'; go_simp; with_reducible rfl
               rotate_left
               ·simp only [Act.put, Sa, Sb, Sc, i64_w, i32_w]; rfl
               refine pure_ (i := 3) (N := some 77) (v := ?_) (a' := ?_) #[true, false, true, true, false, false, false, false] rfl rfl (any_of HT_.out (by kernel_rfl)) (fun _ _ _ h => h) (Or.inl ⟨by rfl, ?_⟩) ?_ ?_; rotate_left
               ·intro w'; go_simp; with_reducible rfl
               rotate_left
               ·simp only [Act.put, Sa, Sb, Sc, i64_w, i32_w]; rfl
               refine pure_ (i := 4) (N := some 78) (v := ?_) (a' := ?_) #[true, false, true, true, true, false, false, false] rfl rfl (any_of HT_.out (by kernel_rfl)) (fun _ _ _ h => h) (Or.inl ⟨by rfl, ?_⟩) ?_ ?_; rotate_left
               ·intro w'; go_simp; with_reducible rfl
               rotate_left
               ·simp only [Act.put, Sa, Sb, Sc, i64_w, i32_w]; rfl
               refine pure_ (i := 5) (N := some 79) (v := ?_) (a' := ?_) #[true, false, true, true, true, true, false, false] rfl rfl (any_of HT_.out (by kernel_rfl)) (fun _ _ _ h => h) (Or.inl ⟨by rfl, ?_⟩) ?_ ?_; rotate_left
               ·intro w'; go_simp; with_reducible rfl
               rotate_left
               ·simp only [Act.put, Sa, Sb, Sc, i64_w, i32_w]; rfl
               refine take_ (i := 1) (N := some 75) (v := ?_) (a' := ?_) #[true, true, true, true, true, true, false, false] rfl rfl (take_ofW HT_.out HW_.out (by kernel_rfl)) (fun _ _ _ h => h) (Or.inl ⟨by rfl, ?_⟩) hHeld ?_ ?_; rotate_left
               ·rintro w' ⟨s0, s1, s2, s3⟩; go_simp; with_reducible rfl
               rotate_left
               ·simp only [Act.put, Sa, Sb, Sc, i64_w, i32_w]; rfl
               refine take_ (i := 6) (N := some 80) (v := ?_) (a' := ?_) #[true, true, true, true, true, true, true, false] rfl rfl (take_ofW HT_.out HW_.out (by kernel_rfl)) (fun _ _ _ h => h) (Or.inl ⟨by rfl, ?_⟩) hHeld ?_ ?_; rotate_left
               ·rintro w' ⟨s0, s1, s2, s3⟩; go_simp; with_reducible rfl
               rotate_left
               ·simp only [Act.put, Sa, Sb, Sc, i64_w, i32_w]; rfl
               refine pure_ (i := 7) (N := some 81) (v := ?_) (a' := ?_) #[true, true, true, true, true, true, true, true] rfl rfl (any_of HT_.out (by kernel_rfl)) (fun _ _ _ h => h) (Or.inl ⟨by rfl, ?_⟩) ?_ ?_; rotate_left
               ·intro w'; go_simp; with_reducible rfl
               rotate_left
               ·simp only [Act.put, Sa, Sb, Sc, i64_w, i32_w]; rfl
               refine done_ (done_of HT_.out (by kernel_rfl)) ?_; have hcz43_0 : w42.cell? ⟨gb162, 0, none⟩ = some (.int .i64 (rd t149 x14_3)) := (Bc BK162.out 0).trans rfl; have hcz43_1 : w42.cell? ⟨gb162, 1, none⟩ = some (.int .i64 (wrap64 (-(rd t156 x14_3)))) := (Bc BK162.out 1).trans rfl; have hfz43_0 := Bf BK162.out 0; have hfz43_1 := Bf BK162.out 1; try go_wp2_with (first | ((with_reducible refine gate_builtin (b := .append) (xs := #[.tmp 82, .tmp 84]) rfl ?_); at_builtin; refine Kd.R_append k65 (w0 := w) w.heap.size rfl (.tmp 82) (.tmp 84) 22 65 (.agg #[(.int .i64 0), (.int .i64 0)]) 16 rfl Tryz.underlying22 info65 rfl (by decide) (by omega) u13 x13_3 (⟨rd t149 x14_3, wrap64 (-(rd t156 x14_3))⟩ : S65) [.int .i64 (rd t149 x14_3), .int .i64 (wrap64 (-(rd t156 x14_3)))] (fun k_ => k_ ≠ gb162) (fun _ => False) rfl rfl ?aP (fun _ hk => hk.elim) ?aF ?aO ?aB ?aS ?aL ?_; (case aP => exact k65_mkM _ _ _ (⟨rd t149 x14_3, wrap64 (-(rd t156 x14_3))⟩ : S65)); (case aB => exact (by repeat (first | (with_reducible first | exact HB.out | apply Ba | apply Pn | apply Dn | refine Bz ?_ GE162.out) | exact HB.out))); (case aF => exact (fun k_ hk => Kd.freshB (g := gb162) (o := .cells #[.int .i64 (rd t149 x14_3), .int .i64 (wrap64 (-(rd t156 x14_3)))] 65 (0, 0)) (by (with_reducible repeat (first | refine Kn ?_ _ | refine Kw ?_ | refine Ka ?_ _)); exact BK162.out) k_ hk)); (case aO => exact (by (with_reducible repeat (first | apply Kd.R_alloc | apply Kd.R_drewN | apply Kd.R_drew)); exact HO_13.out)); (case aS => exact (below_size (by repeat (first | (with_reducible first | exact HB.out | apply Ba | apply Pn | apply Dn | refine Bz ?_ GE162.out) | exact HB.out)))); (case aL => have := LMc34.out; omega); intro v165 w44 ho hb hg hat; rw [← Ny164.out] at ho; have n0_ := Aa (Kd.R_over' (by (with_reducible repeat (first | apply Kd.R_alloc | apply Kd.R_drewN | apply Kd.R_drew)); exact HO_9.out) (Kd.R_typed (by (with_reducible repeat (first | apply Kd.R_alloc | apply Kd.R_drewN | apply Kd.R_drew)); exact HO_13.out)) (by decide) hg); have n1_ := Aa (Kd.R_over' (by (with_reducible repeat (first | apply Kd.R_alloc | apply Kd.R_drewN | apply Kd.R_drew)); exact HO_11.out) (Kd.R_typed (by (with_reducible repeat (first | apply Kd.R_alloc | apply Kd.R_drewN | apply Kd.R_drew)); exact HO_13.out)) (by decide) hg); have n2_ := Aa (blk_grown (g := gb162) (o := .cells #[.int .i64 (rd t149 x14_3), .int .i64 (wrap64 (-(rd t156 x14_3)))] 65 (0, 0)) (by (with_reducible repeat (first | refine Kn ?_ _ | refine Kw ?_ | refine Ka ?_ _)); exact BK162.out) hg (Kd.R_away HO_13.out (fun _ hk => hk))); have n3_ := Aa (hb); have n4_ := Aa (ho); clear HO_9; clear HO_11; clear BK162; clear HB; clear HO_13; have HO_9 := n0_; have HO_11 := n1_; have BK162 := n2_; have HB := n3_; have HO166 := n4_; clear n0_ n1_ n2_ n3_ n4_; clear ho hb hg hat))
               go_roundg k3
               case measure => have := HK1.out; have := HJ11.out; have := HK3.out; omega
               case rel => exact ⟨(y164), (wrap64 (x14_3 + 1)), (by first | rfl | (simp; done) | (simp [*]; done)), H', ⟨by have := HK1.out; have := HJ11.out; have := HK3.out; omega⟩, ⟨by (with_reducible repeat (first | apply Kd.R_alloc | apply Kd.R_drewN | apply Kd.R_drew)); exact HO_9.out⟩, ⟨by (with_reducible repeat (first | apply Kd.R_alloc | apply Kd.R_drewN | apply Kd.R_drew)); exact HO_11.out⟩, ⟨by (with_reducible repeat (first | apply Kd.R_alloc | apply Kd.R_drewN | apply Kd.R_drew)); exact Kd.R_mono HO166.out (fun _ hk => trivial)⟩, ⟨by repeat (first | (with_reducible first | exact HB.out | apply Ba | apply Pn | apply Dn | refine Bz ?_ GE162.out) | exact HB.out)⟩⟩
              ·rw [if_neg c34] at H; exact absurd H (by simp)
            ·rw [if_neg c24] at H; exact absurd H (by simp)
           ·rw [if_neg c23] at H; exact absurd H (by simp)
          ·rw [if_neg c22] at H; exact absurd H (by simp)
         ·rw [if_neg c21] at H; have c21b0 : decide (x14_3 < (l0.length : Int)) = false := decide_eq_false c21; clear c21; simp only [Option.some.injEq, Prod.mk.injEq] at H; obtain ⟨rfl, rfl⟩ := H; go_wp2; go_ret2; exact ⟨_, by first | rfl | (simp [errW_none, errW_some] <;> rfl) | (simp [*, errW_none, errW_some] <;> rfl), by (with_reducible repeat (first | apply Kd.R_alloc | apply Kd.R_drewN | apply Kd.R_drew)); exact HO_13.out, by repeat (first | (with_reducible first | exact HB.out | apply Ba | apply Pn | apply Dn) | exact HB.out)⟩
end
section
attribute [local go_sem] max2_int min2_int max_two min_two
mutual
def rf_Hist.j0 : Nat → Bool → List (S65) → List (S82) → Option (Bool)
 | 0, _, _, _ => none
 | k + 1, x14, x113000, x113001 => if x14 = true then (some false) else (rf_Hist.l0 k 0 x113000 x113001)
def rf_Hist.l0 : Nat → Int → List (S65) → List (S82) → Option (Bool)
 | 0, _, _, _ => none
 | k + 1, x3, x113000, x113001 => if x3 < (x113001.length : Int) then (if 0 ≤ x3 then (if ((rd_T82 x113001 x3).f0) < 0 then (rf_Hist.j2 k x3 true x113000 x113001 ((rd_T82 x113001 x3).f0) ((rd_T82 x113001 x3).f1) ((rd_T82 x113001 x3).f2) ((rd_T82 x113001 x3).f3)) else (if ((rd_T82 x113001 x3).f0) ≥ (x113000.length : Int) then (rf_Hist.j2 k x3 true x113000 x113001 ((rd_T82 x113001 x3).f0) ((rd_T82 x113001 x3).f1) ((rd_T82 x113001 x3).f2) ((rd_T82 x113001 x3).f3)) else (if ((rd_T82 x113001 x3).f1) < 0 then (rf_Hist.j2 k x3 true x113000 x113001 ((rd_T82 x113001 x3).f0) ((rd_T82 x113001 x3).f1) ((rd_T82 x113001 x3).f2) ((rd_T82 x113001 x3).f3)) else (if ((rd_T82 x113001 x3).f1) ≥ (x113000.length : Int) then (rf_Hist.j2 k x3 true x113000 x113001 ((rd_T82 x113001 x3).f0) ((rd_T82 x113001 x3).f1) ((rd_T82 x113001 x3).f2) ((rd_T82 x113001 x3).f3)) else (rf_Hist.j2 k x3 (((rd_T82 x113001 x3).f0) == ((rd_T82 x113001 x3).f1)) x113000 x113001 ((rd_T82 x113001 x3).f0) ((rd_T82 x113001 x3).f1) ((rd_T82 x113001 x3).f2) ((rd_T82 x113001 x3).f3)))))) else (none)) else (some true)
def rf_Hist.j2 : Nat → Int → Bool → List (S65) → List (S82) → Int → Int → Int → Int → Option (Bool)
 | 0, _, _, _, _, _, _, _, _ => none
 | k + 1, x3, x57, x113000, x113001, x116000, x116001, x116002, x116003 => if x57 = true then (some false) else (if x116002 > x116003 then (some false) else (if x116002 < (-2000000) then (some false) else (if x116003 > 2000000 then (some false) else (rf_Hist.l0 k (wrap64 (x3 + 1)) x113000 x113001))))
end
def rf_Hist.f (k : Nat) (l0_0 : List (S65)) (l0_1 : List (S82)) : Option (Bool) := (rf_Goods.f k l0_0 10).bind fun t113 => (if t113 = true then (rf_Hist.j0 k (decide ((l0_1.length : Int) > 20)) l0_0 l0_1) else (rf_Hist.j0 k true l0_0 l0_1))
set_option maxHeartbeats 8000000 in
set_option maxRecDepth 100000 in
theorem rf_Hist.calls (k : Nat) (A0_0 : Option Addr) (c0_0 : Nat) (l0_0 : List (S65)) (A0_1 : Option Addr) (c0_1 : Nat) (l0_1 : List (S82)) (r : Bool) (w : World) (hr0_0 : Kd.C k65 w A0_0 l0_0.length l0_0) (hc0_0 : l0_0.length ≤ c0_0) (hr0_1 : Kd.C k82 w A0_1 l0_1.length l0_1) (hc0_1 : l0_1.length ≤ c0_1) (h : rf_Hist.f k l0_0 l0_1 = some r) :
  Calls Tryz.prog 16 #[.agg #[.slice A0_0 l0_0.length c0_0, .slice A0_1 l0_1.length c0_1]] w fun e w' => e = .returned (.bool r) ∧ Below w.heap.size w w' := by
 have hu25 := Tryz.underlying25; have hu82 := Tryz.underlying82; have HR0_0 := Aa hr0_0; have HC0_0 := Aa hc0_0; clear hr0_0 hc0_0; have HR0_1 := Aa hr0_1; have HC0_1 := Aa hc0_1; clear hr0_1 hc0_1; have HB := Aa (Below.refl w.heap.size w); have H : ((rf_Goods.f k l0_0 10).bind fun t113 => (if t113 = true then (rf_Hist.j0 k (decide ((l0_1.length : Int) > 20)) l0_0 l0_1) else (rf_Hist.j0 k true l0_0 l0_1))) = some r := h; clear h; have HC2 := Aa H; clear H
 go_enter Tryz.func16, Tryz.ntmps16
 go_upto_region 1 with (first | ((with_reducible refine gate_dst (N := 1) rfl ?_); (try (refine gate_guard (by rfl) ?_; dsimp only)); refine box_event ?hg (N := 1) ?hd (cs := #[.slice A0_0 l0_0.length c0_0, .slice A0_1 l0_1.length c0_1]) (t := 25) ?hr ?_; (case hd => rfl); (case hg => rfl); (case hr => first | (go_simp; done) | (go_simp; rfl)); intro gb112 hg w3 hbox hb; have n0_ := Aa (Bp (by repeat (first | (with_reducible first | exact HB.out | apply Ba | apply Pn | apply Dn) | exact HB.out)) hb); have n1_ := Aa (hbox); have n2_ := Aa ((by rw [hg]; exact (below_size (by repeat (first | (with_reducible first | exact HB.out | apply Ba | apply Pn | apply Dn) | exact HB.out))) : w.heap.size ≤ gb112)); have n3_ := Aa ((by rw [hg]; exact (below_size (by repeat (first | (with_reducible first | exact HB.out | apply Ba | apply Pn | apply Dn) | exact HB.out))) : w.heap.size ≤ gb112)); clear HB; have HB := n0_; have BK112 := n1_; have GW112 := n2_; have GE112 := n3_; clear n0_ n1_ n2_ n3_; clear hb hbox hg))
 (try simp only [Act.put, Sa, Sb, Sc])
 go_cut [14] (fun v14 wc => ∃ (kq : Nat) (x14_1 : Bool), v14 = .bool x14_1 ∧ Aside0 (rf_Hist.j0 kq x14_1 l0_0 l0_1 = some r) ∧ Aside0 (kq ≤ k) ∧ Aside0 (wc.heap[gb112]? = some (.cells #[(.slice A0_0 l0_0.length c0_0), (.slice A0_1 l0_1.length c0_1)] 25 (0, 0))) ∧ Aside0 (Below w.heap.size w wc))
 case first =>
  have H := HC2.out; clear HC2; replace H := Option.bind_eq_some_iff.mp H; obtain ⟨t113, A40, H⟩ := H; replace H : (if t113 = true then (rf_Hist.j0 k (decide ((l0_1.length : Int) > 20)) l0_0 l0_1) else (rf_Hist.j0 k true l0_0 l0_1)) = some r := H; have A4 := Aa A40; clear A40
  by_cases c5 : t113 = true
  ·subst c5
   have H1 : (rf_Hist.j0 k (decide ((l0_1.length : Int) > 20)) l0_0 l0_1) = some r := by rw [if_pos rfl] at H; exact H
   clear H; have H := H1; clear H1; have H' := Aa H; clear H; have hcz6_0 : w3.cell? ⟨gb112, 0, none⟩ = some (.slice A0_0 l0_0.length c0_0) := (Bc BK112.out 0).trans rfl; have hcz6_1 : w3.cell? ⟨gb112, 1, none⟩ = some (.slice A0_1 l0_1.length c0_1) := (Bc BK112.out 1).trans rfl; have hfz6_0 := Bf BK112.out 0; have hfz6_1 := Bf BK112.out 1
   go_wp2_with (first | ((with_reducible refine gate_callee (f := 49) rfl ?_); refine goesL_ (some 7) rfl rfl Tryz.func49 (by kernel_rfl) rfl #[.slice A0_0 l0_0.length c0_0, .int .i64 10] rfl (by (try simp only [List.map_toArray, List.map_cons, List.map_nil]); first | done | rfl | (simp only [List.length_drop, List.length_take]; rfl)) ?_; (with_reducible refine (rf_Goods.calls k _ _ l0_0 10 true _ ?side1 ?side2 A4.out).mono ?_); (case side1 => repeat (first | exact (Kd.C_below HR0_0.out HB.out) | (with_reducible refine Kd.C_alloc ?_ _) | (with_reducible refine Kd.C_drewN ?_ _) | (with_reducible refine Kd.C_drew ?_))); (case side2 => exact HC0_0.out); rintro e w7 ⟨rfl, hb⟩; refine ⟨_, rfl, ?_⟩; have n0_ := Aa (blk_below (g := gb112) (o := .cells #[.slice A0_0 l0_0.length c0_0, .slice A0_1 l0_1.length c0_1] 25 (0, 0)) (by (with_reducible repeat (first | refine Kn ?_ _ | refine Kw ?_ | refine Ka ?_ _)); exact BK112.out) hb); have n1_ := Aa (Bp (by repeat (first | (with_reducible first | exact HB.out | apply Ba | apply Pn | apply Dn | refine Bz ?_ GE112.out) | exact HB.out)) hb); clear BK112; clear HB; have BK112 := n0_; have HB := n1_; clear n0_ n1_; (try clear hb); (try clear hb2); (try clear hk); (try clear hi); have hcz8_0 : w7.cell? ⟨gb112, 0, none⟩ = some (.slice A0_0 l0_0.length c0_0) := (Bc BK112.out 0).trans rfl; have hcz8_1 : w7.cell? ⟨gb112, 1, none⟩ = some (.slice A0_1 l0_1.length c0_1) := (Bc BK112.out 1).trans rfl; have hfz8_0 := Bf BK112.out 0; have hfz8_1 := Bf BK112.out 1))
   go_meet
   case rel => exact ⟨_, (decide ((l0_1.length : Int) > 20)), (by first | rfl | (simp; done) | (simp [*]; done)), H', ⟨by first | omega | exact Nat.le_refl _⟩, ⟨by (with_reducible repeat (first | refine Kn ?_ _ | refine Kw ?_ | refine Ka ?_ _)); exact BK112.out⟩, ⟨by repeat (first | (with_reducible first | exact HB.out | apply Ba | apply Pn | apply Dn | refine Bz ?_ GE112.out) | exact HB.out)⟩⟩
  ·replace c5 := Bool.eq_false_iff.mpr c5; subst c5
   have H1 : (rf_Hist.j0 k true l0_0 l0_1) = some r := by rw [if_neg (show ¬ (false = true) by decide)] at H; exact H
   clear H; have H := H1; clear H1; have H' := Aa H; clear H; have hcz9_0 : w3.cell? ⟨gb112, 0, none⟩ = some (.slice A0_0 l0_0.length c0_0) := (Bc BK112.out 0).trans rfl; have hcz9_1 : w3.cell? ⟨gb112, 1, none⟩ = some (.slice A0_1 l0_1.length c0_1) := (Bc BK112.out 1).trans rfl; have hfz9_0 := Bf BK112.out 0; have hfz9_1 := Bf BK112.out 1
   go_wp2_with (first | ((with_reducible refine gate_callee (f := 49) rfl ?_); refine goesL_ (some 7) rfl rfl Tryz.func49 (by kernel_rfl) rfl #[.slice A0_0 l0_0.length c0_0, .int .i64 10] rfl (by (try simp only [List.map_toArray, List.map_cons, List.map_nil]); first | done | rfl | (simp only [List.length_drop, List.length_take]; rfl)) ?_; (with_reducible refine (rf_Goods.calls k _ _ l0_0 10 false _ ?side1 ?side2 A4.out).mono ?_); (case side1 => repeat (first | exact (Kd.C_below HR0_0.out HB.out) | (with_reducible refine Kd.C_alloc ?_ _) | (with_reducible refine Kd.C_drewN ?_ _) | (with_reducible refine Kd.C_drew ?_))); (case side2 => exact HC0_0.out); rintro e w10 ⟨rfl, hb⟩; refine ⟨_, rfl, ?_⟩; have n0_ := Aa (blk_below (g := gb112) (o := .cells #[.slice A0_0 l0_0.length c0_0, .slice A0_1 l0_1.length c0_1] 25 (0, 0)) (by (with_reducible repeat (first | refine Kn ?_ _ | refine Kw ?_ | refine Ka ?_ _)); exact BK112.out) hb); have n1_ := Aa (Bp (by repeat (first | (with_reducible first | exact HB.out | apply Ba | apply Pn | apply Dn | refine Bz ?_ GE112.out) | exact HB.out)) hb); clear BK112; clear HB; have BK112 := n0_; have HB := n1_; clear n0_ n1_; (try clear hb); (try clear hb2); (try clear hk); (try clear hi)))
   go_meet
   case rel => exact ⟨_, (true), (by first | rfl | (simp; done) | (simp [*]; done)), H', ⟨by first | omega | exact Nat.le_refl _⟩, ⟨by (with_reducible repeat (first | refine Kn ?_ _ | refine Kw ?_ | refine Ka ?_ _)); exact BK112.out⟩, ⟨by repeat (first | (with_reducible first | exact HB.out | apply Ba | apply Pn | apply Dn | refine Bz ?_ GE112.out) | exact HB.out)⟩⟩
 case rest =>
  clear HC2; try clear c1
  try clear p2
  try clear c4
  try clear c5
  try clear hcz6_0
  try clear hcz6_1
  try clear hcz8_0
  try clear hcz8_1
  try clear hcz9_0
  try clear hcz9_1
  try clear hfz6_0
  try clear hfz6_1
  try clear hfz8_0
  try clear hfz8_1
  try clear hfz9_0
  try clear hfz9_1
  obtain ⟨kq, x14_1, rfl, HA, HJ1, BK112, HB⟩ := hcut
  cases kq with
  | zero => exact absurd HA.out (by simp [rf_Hist.j0])
  | succ kj1 =>
   have H := HA.out; clear HA; simp only [rf_Hist.j0] at H
   by_cases c11 : x14_1 = true
   ·subst c11
    have H1 : (some false) = some r := by rw [if_pos rfl] at H; exact H
    clear H; have H := H1; clear H1; obtain rfl := Option.some.inj H; go_wp2; go_ret; exact ⟨by first | rfl | (simp [errW_none, errW_some] <;> rfl) | (simp [*, errW_none, errW_some] <;> rfl), by repeat (first | (with_reducible first | exact HB.out | apply Ba | apply Pn | apply Dn | refine Bz ?_ GE112.out) | exact HB.out)⟩
   ·replace c11 := Bool.eq_false_iff.mpr c11; subst c11
    have H1 : (rf_Hist.l0 kj1 0 l0_0 l0_1) = some r := by rw [if_neg (show ¬ (false = true) by decide)] at H; exact H
    clear H; have H := H1; clear H1; have H' := Aa H; clear H; go_wp2
    go_loopg [3] kj1 (fun kq v3 w' => ∃ (x3_2 : Int), v3 = .int .i64 x3_2 ∧ Aside0 (rf_Hist.l0 kq x3_2 l0_0 l0_1 = some r) ∧ Aside0 (kq ≤ kj1) ∧ Aside0 (w'.heap[gb112]? = some (.cells #[(.slice A0_0 l0_0.length c0_0), (.slice A0_1 l0_1.length c0_1)] 25 (0, 0))) ∧ Aside0 (Below w.heap.size w w'))
    case atStart => exact ⟨(0), (by first | rfl | (simp; done) | (simp [*]; done)), H', ⟨Nat.le_refl _⟩, ⟨by (with_reducible repeat (first | refine Kn ?_ _ | refine Kw ?_ | refine Ka ?_ _)); exact BK112.out⟩, ⟨by repeat (first | (with_reducible first | exact HB.out | apply Ba | apply Pn | apply Dn | refine Bz ?_ GE112.out) | exact HB.out)⟩⟩
    case round =>
     clear H'; try clear c1
     try clear p2
     try clear c4
     try clear c5
     try clear c11
     try clear hcz6_0
     try clear hcz6_1
     try clear hcz8_0
     try clear hcz8_1
     try clear hcz9_0
     try clear hcz9_1
     try clear hfz6_0
     try clear hfz6_1
     try clear hfz8_0
     try clear hfz8_1
     try clear hfz9_0
     try clear hfz9_1
     try clear p2
     obtain ⟨x3_2, rfl, HA, HK2, BK112, HB⟩ := hrel
     cases gk with
     | zero => exact absurd HA.out (by simp [rf_Hist.l0])
     | succ k2 =>
      have H := HA.out; clear HA; simp only [rf_Hist.l0] at H
      by_cases c12 : x3_2 < (l0_1.length : Int)
      ·rw [if_pos c12] at H; have c12b0 : decide (x3_2 < (l0_1.length : Int)) = true := decide_eq_true c12; clear c12
       by_cases c13 : 0 ≤ x3_2
       ·rw [if_pos c13] at H; have c13b0 : decide (0 ≤ x3_2) = true := decide_eq_true c13; clear c13; have HC14 := Aa H; clear H; have hcz15_0 : wr.cell? ⟨gb112, 0, none⟩ = some (.slice A0_0 l0_0.length c0_0) := (Bc BK112.out 0).trans rfl; have hcz15_1 : wr.cell? ⟨gb112, 1, none⟩ = some (.slice A0_1 l0_1.length c0_1) := (Bc BK112.out 1).trans rfl; have hfz15_0 := Bf BK112.out 0; have hfz15_1 := Bf BK112.out 1; have p114 : 0 ≤ (x3_2 : Int) := Od (by first | (with_reducible assumption) | assumption); have q114 : x3_2 < (l0_1.length : Int) := Od (by first | (with_reducible assumption) | assumption); obtain ⟨ad114, e114, hx114_0, hx114_1, hx114_2, hx114_3⟩ := at_T82 HR0_1.out x3_2 p114 q114; cases e114; replace hx114_0 := (HB.out.cell (Wb w _ hx114_0)).trans hx114_0; replace hx114_1 := (HB.out.cell (Wb w _ hx114_1)).trans hx114_1; replace hx114_2 := (HB.out.cell (Wb w _ hx114_2)).trans hx114_2; replace hx114_3 := (HB.out.cell (Wb w _ hx114_3)).trans hx114_3; replace p114 := eq_true p114; replace q114 := eq_true q114
        go_upto_region 7 with (first | ((with_reducible refine gate_dst (N := 4) rfl ?_); (try (refine gate_guard (by rfl) ?_; dsimp only)); refine box_event ?hg (N := 4) ?hd (cs := #[.int .i64 0, .int .i64 0, .int .i64 0, .int .i64 0]) (t := 82) ?hr ?_; (case hd => rfl); (case hg => rfl); (case hr => first | (go_simp; done) | (go_simp; rfl)); intro gb115 hg w16 hbox hb; have n0_ := Aa (blk_below (g := gb112) (o := .cells #[.slice A0_0 l0_0.length c0_0, .slice (some ad114) l0_1.length c0_1] 25 (0, 0)) (by (with_reducible repeat (first | refine Kn ?_ _ | refine Kw ?_ | refine Ka ?_ _)); exact BK112.out) hb); have n1_ := Aa (Bp (by repeat (first | (with_reducible first | exact HB.out | apply Ba | apply Pn | apply Dn | refine Bz ?_ GE112.out) | exact HB.out)) hb); have n2_ := Aa (hbox); have n3_ := Aa ((by rw [hg]; exact (below_size (by repeat (first | (with_reducible first | exact HB.out | apply Ba | apply Pn | apply Dn | refine Bz ?_ GE112.out) | exact HB.out))) : w.heap.size ≤ gb115)); have n4_ := Aa ((by rw [hg]; exact (below_size (by repeat (first | (with_reducible first | exact HB.out | apply Ba | apply Pn | apply Dn | refine Bz ?_ GE112.out) | exact HB.out))) : w.heap.size ≤ gb115)); have n5_ := Aa ((by rw [hg]; exact Nat.ne_of_lt (blk_lt (g := gb112) (o := .cells #[.slice A0_0 l0_0.length c0_0, .slice (some ad114) l0_1.length c0_1] 25 (0, 0)) (by (with_reducible repeat (first | refine Kn ?_ _ | refine Kw ?_ | refine Ka ?_ _)); exact BK112.out)) : gb112 ≠ gb115)); have n6_ := Aa ((by rw [hg]; exact Nat.ne_of_gt (blk_lt (g := gb112) (o := .cells #[.slice A0_0 l0_0.length c0_0, .slice (some ad114) l0_1.length c0_1] 25 (0, 0)) (by (with_reducible repeat (first | refine Kn ?_ _ | refine Kw ?_ | refine Ka ?_ _)); exact BK112.out)) : gb115 ≠ gb112)); clear BK112; clear HB; have BK112 := n0_; have HB := n1_; have BK115 := n2_; have GW115 := n3_; have GE115 := n4_; have NB112_115 := n5_; have NB115_112 := n6_; clear n0_ n1_ n2_ n3_ n4_ n5_ n6_; clear hb hbox hg; have hnb17 := NB115_112.out; have hnc17 := NB112_115.out; have hcz18_0 : w16.cell? ⟨gb115, 0, none⟩ = some (.int .i64 0) := (Bc BK115.out 0).trans rfl; have hcz18_1 : w16.cell? ⟨gb115, 1, none⟩ = some (.int .i64 0) := (Bc BK115.out 1).trans rfl; have hcz18_2 : w16.cell? ⟨gb115, 2, none⟩ = some (.int .i64 0) := (Bc BK115.out 2).trans rfl; have hcz18_3 : w16.cell? ⟨gb115, 3, none⟩ = some (.int .i64 0) := (Bc BK115.out 3).trans rfl; have hfz18_0 := Bf BK115.out 0; have hfz18_1 := Bf BK115.out 1; have hfz18_2 := Bf BK115.out 2; have hfz18_3 := Bf BK115.out 3))
        (try simp only [Act.put, Sa, Sb, Sc])
        go_cut [57] (fun v57 wc => ∃ (kq : Nat) (x57_13 : Bool), v57 = .bool x57_13 ∧ Aside0 (rf_Hist.j2 kq x3_2 x57_13 l0_0 l0_1 ((rd_T82 l0_1 x3_2).f0) ((rd_T82 l0_1 x3_2).f1) ((rd_T82 l0_1 x3_2).f2) ((rd_T82 l0_1 x3_2).f3) = some r) ∧ Aside0 (kq ≤ k2) ∧ Aside0 (wc.heap[gb112]? = some (.cells #[(.slice A0_0 l0_0.length c0_0), (.slice (some ad114) l0_1.length c0_1)] 25 (0, 0))) ∧ Aside0 (wc.heap[gb115]? = some (.cells #[.int .i64 ((rd_T82 l0_1 x3_2).f0), .int .i64 ((rd_T82 l0_1 x3_2).f1), .int .i64 ((rd_T82 l0_1 x3_2).f2), .int .i64 ((rd_T82 l0_1 x3_2).f3)] 82 (0, 0))) ∧ Aside0 (Below w.heap.size w wc))
        case first =>
         have H := HC14.out; clear HC14
         by_cases c19 : ((rd_T82 l0_1 x3_2).f0) < 0
         ·rw [if_pos c19] at H; have c19b0 : decide (((rd_T82 l0_1 x3_2).f0) < 0) = true := decide_eq_true c19; clear c19
          (first | rw [c19b0] | (simp only [i64_w, i32_w]; rw [c19b0]) | skip)
          have H' := Aa H; clear H; have hnb20 := NB115_112.out; have hnc20 := NB112_115.out; have hcz21_0 : w16.cell? ⟨gb115, 0, none⟩ = some (.int .i64 0) := (Bc BK115.out 0).trans rfl; have hcz21_1 : w16.cell? ⟨gb115, 1, none⟩ = some (.int .i64 0) := (Bc BK115.out 1).trans rfl; have hcz21_2 : w16.cell? ⟨gb115, 2, none⟩ = some (.int .i64 0) := (Bc BK115.out 2).trans rfl; have hcz21_3 : w16.cell? ⟨gb115, 3, none⟩ = some (.int .i64 0) := (Bc BK115.out 3).trans rfl; have hfz21_0 := Bf BK115.out 0; have hfz21_1 := Bf BK115.out 1; have hfz21_2 := Bf BK115.out 2; have hfz21_3 := Bf BK115.out 3; go_wp2
          go_meet
          case rel => exact ⟨_, (true), (by first | rfl | (simp; done) | (simp [*]; done)), H', ⟨by have := HJ1.out; have := HK2.out; first | omega | exact Nat.le_refl _⟩, ⟨by (with_reducible repeat (first | refine Kn ?_ _ | refine Kw ?_ | refine Ka ?_ _)); refine blk_far ?_ NB112_115.out _; (with_reducible repeat (first | refine Kn ?_ _ | refine Kw ?_ | refine Ka ?_ _)); refine blk_far ?_ NB112_115.out _; (with_reducible repeat (first | refine Kn ?_ _ | refine Kw ?_ | refine Ka ?_ _)); refine blk_far ?_ NB112_115.out _; (with_reducible repeat (first | refine Kn ?_ _ | refine Kw ?_ | refine Ka ?_ _)); refine blk_far ?_ NB112_115.out _; (with_reducible repeat (first | refine Kn ?_ _ | refine Kw ?_ | refine Ka ?_ _)); exact BK112.out⟩, ⟨by (with_reducible repeat (first | refine Kn ?_ _ | refine Kw ?_ | refine Ka ?_ _)); refine blk_put (cs := #[.int .i64 ((rd_T82 l0_1 x3_2).f0), .int .i64 ((rd_T82 l0_1 x3_2).f1), .int .i64 ((rd_T82 l0_1 x3_2).f2), .int .i64 0]) ?_ 3 _ rfl; (with_reducible repeat (first | refine Kn ?_ _ | refine Kw ?_ | refine Ka ?_ _)); refine blk_put (cs := #[.int .i64 ((rd_T82 l0_1 x3_2).f0), .int .i64 ((rd_T82 l0_1 x3_2).f1), .int .i64 0, .int .i64 0]) ?_ 2 _ rfl; (with_reducible repeat (first | refine Kn ?_ _ | refine Kw ?_ | refine Ka ?_ _)); refine blk_put (cs := #[.int .i64 ((rd_T82 l0_1 x3_2).f0), .int .i64 0, .int .i64 0, .int .i64 0]) ?_ 1 _ rfl; (with_reducible repeat (first | refine Kn ?_ _ | refine Kw ?_ | refine Ka ?_ _)); refine blk_put (cs := #[.int .i64 0, .int .i64 0, .int .i64 0, .int .i64 0]) ?_ 0 _ rfl; (with_reducible repeat (first | refine Kn ?_ _ | refine Kw ?_ | refine Ka ?_ _)); exact BK115.out⟩, ⟨by repeat (first | (with_reducible first | exact HB.out | apply Ba | apply Pn | apply Dn | refine Bz ?_ GE112.out | refine Bz ?_ GE115.out) | exact HB.out)⟩⟩
         ·rw [if_neg c19] at H; have c19b0 : decide (((rd_T82 l0_1 x3_2).f0) < 0) = false := decide_eq_false c19; clear c19
          (first | rw [c19b0] | (simp only [i64_w, i32_w]; rw [c19b0]) | skip)
          by_cases c22 : ((rd_T82 l0_1 x3_2).f0) ≥ (l0_0.length : Int)
          ·rw [if_pos c22] at H; have c22b0 : decide ((l0_0.length : Int) ≤ ((rd_T82 l0_1 x3_2).f0)) = true := decide_eq_true c22; clear c22; have H' := Aa H; clear H; have hnb23 := NB115_112.out; have hnc23 := NB112_115.out; have hcz24_0 : w16.cell? ⟨gb115, 0, none⟩ = some (.int .i64 0) := (Bc BK115.out 0).trans rfl; have hcz24_1 : w16.cell? ⟨gb115, 1, none⟩ = some (.int .i64 0) := (Bc BK115.out 1).trans rfl; have hcz24_2 : w16.cell? ⟨gb115, 2, none⟩ = some (.int .i64 0) := (Bc BK115.out 2).trans rfl; have hcz24_3 : w16.cell? ⟨gb115, 3, none⟩ = some (.int .i64 0) := (Bc BK115.out 3).trans rfl; have hfz24_0 := Bf BK115.out 0; have hfz24_1 := Bf BK115.out 1; have hfz24_2 := Bf BK115.out 2; have hfz24_3 := Bf BK115.out 3; have hcz25_0 : w16.cell? ⟨gb112, 0, none⟩ = some (.slice A0_0 l0_0.length c0_0) := (Bc BK112.out 0).trans rfl; have hcz25_1 : w16.cell? ⟨gb112, 1, none⟩ = some (.slice (some ad114) l0_1.length c0_1) := (Bc BK112.out 1).trans rfl; have hfz25_0 := Bf BK112.out 0; have hfz25_1 := Bf BK112.out 1; go_wp2
           go_meet
           case rel => exact ⟨_, (true), (by first | rfl | (simp; done) | (simp [*]; done)), H', ⟨by have := HJ1.out; have := HK2.out; first | omega | exact Nat.le_refl _⟩, ⟨by (with_reducible repeat (first | refine Kn ?_ _ | refine Kw ?_ | refine Ka ?_ _)); refine blk_far ?_ NB112_115.out _; (with_reducible repeat (first | refine Kn ?_ _ | refine Kw ?_ | refine Ka ?_ _)); refine blk_far ?_ NB112_115.out _; (with_reducible repeat (first | refine Kn ?_ _ | refine Kw ?_ | refine Ka ?_ _)); refine blk_far ?_ NB112_115.out _; (with_reducible repeat (first | refine Kn ?_ _ | refine Kw ?_ | refine Ka ?_ _)); refine blk_far ?_ NB112_115.out _; (with_reducible repeat (first | refine Kn ?_ _ | refine Kw ?_ | refine Ka ?_ _)); exact BK112.out⟩, ⟨by (with_reducible repeat (first | refine Kn ?_ _ | refine Kw ?_ | refine Ka ?_ _)); refine blk_put (cs := #[.int .i64 ((rd_T82 l0_1 x3_2).f0), .int .i64 ((rd_T82 l0_1 x3_2).f1), .int .i64 ((rd_T82 l0_1 x3_2).f2), .int .i64 0]) ?_ 3 _ rfl; (with_reducible repeat (first | refine Kn ?_ _ | refine Kw ?_ | refine Ka ?_ _)); refine blk_put (cs := #[.int .i64 ((rd_T82 l0_1 x3_2).f0), .int .i64 ((rd_T82 l0_1 x3_2).f1), .int .i64 0, .int .i64 0]) ?_ 2 _ rfl; (with_reducible repeat (first | refine Kn ?_ _ | refine Kw ?_ | refine Ka ?_ _)); refine blk_put (cs := #[.int .i64 ((rd_T82 l0_1 x3_2).f0), .int .i64 0, .int .i64 0, .int .i64 0]) ?_ 1 _ rfl; (with_reducible repeat (first | refine Kn ?_ _ | refine Kw ?_ | refine Ka ?_ _)); refine blk_put (cs := #[.int .i64 0, .int .i64 0, .int .i64 0, .int .i64 0]) ?_ 0 _ rfl; (with_reducible repeat (first | refine Kn ?_ _ | refine Kw ?_ | refine Ka ?_ _)); exact BK115.out⟩, ⟨by repeat (first | (with_reducible first | exact HB.out | apply Ba | apply Pn | apply Dn | refine Bz ?_ GE112.out | refine Bz ?_ GE115.out) | exact HB.out)⟩⟩
          ·rw [if_neg c22] at H; have c22b0 : decide ((l0_0.length : Int) ≤ ((rd_T82 l0_1 x3_2).f0)) = false := decide_eq_false c22; clear c22
           by_cases c26 : ((rd_T82 l0_1 x3_2).f1) < 0
           ·rw [if_pos c26] at H; have c26b0 : decide (((rd_T82 l0_1 x3_2).f1) < 0) = true := decide_eq_true c26; clear c26; have H' := Aa H; clear H; have hnb27 := NB115_112.out; have hnc27 := NB112_115.out; have hcz28_0 : w16.cell? ⟨gb115, 0, none⟩ = some (.int .i64 0) := (Bc BK115.out 0).trans rfl; have hcz28_1 : w16.cell? ⟨gb115, 1, none⟩ = some (.int .i64 0) := (Bc BK115.out 1).trans rfl; have hcz28_2 : w16.cell? ⟨gb115, 2, none⟩ = some (.int .i64 0) := (Bc BK115.out 2).trans rfl; have hcz28_3 : w16.cell? ⟨gb115, 3, none⟩ = some (.int .i64 0) := (Bc BK115.out 3).trans rfl; have hfz28_0 := Bf BK115.out 0; have hfz28_1 := Bf BK115.out 1; have hfz28_2 := Bf BK115.out 2; have hfz28_3 := Bf BK115.out 3; have hcz29_0 : w16.cell? ⟨gb112, 0, none⟩ = some (.slice A0_0 l0_0.length c0_0) := (Bc BK112.out 0).trans rfl; have hcz29_1 : w16.cell? ⟨gb112, 1, none⟩ = some (.slice (some ad114) l0_1.length c0_1) := (Bc BK112.out 1).trans rfl; have hfz29_0 := Bf BK112.out 0; have hfz29_1 := Bf BK112.out 1; go_wp2
            go_meet
            case rel => exact ⟨_, (true), (by first | rfl | (simp; done) | (simp [*]; done)), H', ⟨by have := HJ1.out; have := HK2.out; first | omega | exact Nat.le_refl _⟩, ⟨by (with_reducible repeat (first | refine Kn ?_ _ | refine Kw ?_ | refine Ka ?_ _)); refine blk_far ?_ NB112_115.out _; (with_reducible repeat (first | refine Kn ?_ _ | refine Kw ?_ | refine Ka ?_ _)); refine blk_far ?_ NB112_115.out _; (with_reducible repeat (first | refine Kn ?_ _ | refine Kw ?_ | refine Ka ?_ _)); refine blk_far ?_ NB112_115.out _; (with_reducible repeat (first | refine Kn ?_ _ | refine Kw ?_ | refine Ka ?_ _)); refine blk_far ?_ NB112_115.out _; (with_reducible repeat (first | refine Kn ?_ _ | refine Kw ?_ | refine Ka ?_ _)); exact BK112.out⟩, ⟨by (with_reducible repeat (first | refine Kn ?_ _ | refine Kw ?_ | refine Ka ?_ _)); refine blk_put (cs := #[.int .i64 ((rd_T82 l0_1 x3_2).f0), .int .i64 ((rd_T82 l0_1 x3_2).f1), .int .i64 ((rd_T82 l0_1 x3_2).f2), .int .i64 0]) ?_ 3 _ rfl; (with_reducible repeat (first | refine Kn ?_ _ | refine Kw ?_ | refine Ka ?_ _)); refine blk_put (cs := #[.int .i64 ((rd_T82 l0_1 x3_2).f0), .int .i64 ((rd_T82 l0_1 x3_2).f1), .int .i64 0, .int .i64 0]) ?_ 2 _ rfl; (with_reducible repeat (first | refine Kn ?_ _ | refine Kw ?_ | refine Ka ?_ _)); refine blk_put (cs := #[.int .i64 ((rd_T82 l0_1 x3_2).f0), .int .i64 0, .int .i64 0, .int .i64 0]) ?_ 1 _ rfl; (with_reducible repeat (first | refine Kn ?_ _ | refine Kw ?_ | refine Ka ?_ _)); refine blk_put (cs := #[.int .i64 0, .int .i64 0, .int .i64 0, .int .i64 0]) ?_ 0 _ rfl; (with_reducible repeat (first | refine Kn ?_ _ | refine Kw ?_ | refine Ka ?_ _)); exact BK115.out⟩, ⟨by repeat (first | (with_reducible first | exact HB.out | apply Ba | apply Pn | apply Dn | refine Bz ?_ GE112.out | refine Bz ?_ GE115.out) | exact HB.out)⟩⟩
           ·rw [if_neg c26] at H; have c26b0 : decide (((rd_T82 l0_1 x3_2).f1) < 0) = false := decide_eq_false c26; clear c26
            by_cases c30 : ((rd_T82 l0_1 x3_2).f1) ≥ (l0_0.length : Int)
            ·rw [if_pos c30] at H; have c30b0 : decide ((l0_0.length : Int) ≤ ((rd_T82 l0_1 x3_2).f1)) = true := decide_eq_true c30; clear c30; have H' := Aa H; clear H; have hnb31 := NB115_112.out; have hnc31 := NB112_115.out; have hcz32_0 : w16.cell? ⟨gb115, 0, none⟩ = some (.int .i64 0) := (Bc BK115.out 0).trans rfl; have hcz32_1 : w16.cell? ⟨gb115, 1, none⟩ = some (.int .i64 0) := (Bc BK115.out 1).trans rfl; have hcz32_2 : w16.cell? ⟨gb115, 2, none⟩ = some (.int .i64 0) := (Bc BK115.out 2).trans rfl; have hcz32_3 : w16.cell? ⟨gb115, 3, none⟩ = some (.int .i64 0) := (Bc BK115.out 3).trans rfl; have hfz32_0 := Bf BK115.out 0; have hfz32_1 := Bf BK115.out 1; have hfz32_2 := Bf BK115.out 2; have hfz32_3 := Bf BK115.out 3; have hcz33_0 : w16.cell? ⟨gb112, 0, none⟩ = some (.slice A0_0 l0_0.length c0_0) := (Bc BK112.out 0).trans rfl; have hcz33_1 : w16.cell? ⟨gb112, 1, none⟩ = some (.slice (some ad114) l0_1.length c0_1) := (Bc BK112.out 1).trans rfl; have hfz33_0 := Bf BK112.out 0; have hfz33_1 := Bf BK112.out 1; go_wp2
             go_meet
             case rel => exact ⟨_, (true), (by first | rfl | (simp; done) | (simp [*]; done)), H', ⟨by have := HJ1.out; have := HK2.out; first | omega | exact Nat.le_refl _⟩, ⟨by (with_reducible repeat (first | refine Kn ?_ _ | refine Kw ?_ | refine Ka ?_ _)); refine blk_far ?_ NB112_115.out _; (with_reducible repeat (first | refine Kn ?_ _ | refine Kw ?_ | refine Ka ?_ _)); refine blk_far ?_ NB112_115.out _; (with_reducible repeat (first | refine Kn ?_ _ | refine Kw ?_ | refine Ka ?_ _)); refine blk_far ?_ NB112_115.out _; (with_reducible repeat (first | refine Kn ?_ _ | refine Kw ?_ | refine Ka ?_ _)); refine blk_far ?_ NB112_115.out _; (with_reducible repeat (first | refine Kn ?_ _ | refine Kw ?_ | refine Ka ?_ _)); exact BK112.out⟩, ⟨by (with_reducible repeat (first | refine Kn ?_ _ | refine Kw ?_ | refine Ka ?_ _)); refine blk_put (cs := #[.int .i64 ((rd_T82 l0_1 x3_2).f0), .int .i64 ((rd_T82 l0_1 x3_2).f1), .int .i64 ((rd_T82 l0_1 x3_2).f2), .int .i64 0]) ?_ 3 _ rfl; (with_reducible repeat (first | refine Kn ?_ _ | refine Kw ?_ | refine Ka ?_ _)); refine blk_put (cs := #[.int .i64 ((rd_T82 l0_1 x3_2).f0), .int .i64 ((rd_T82 l0_1 x3_2).f1), .int .i64 0, .int .i64 0]) ?_ 2 _ rfl; (with_reducible repeat (first | refine Kn ?_ _ | refine Kw ?_ | refine Ka ?_ _)); refine blk_put (cs := #[.int .i64 ((rd_T82 l0_1 x3_2).f0), .int .i64 0, .int .i64 0, .int .i64 0]) ?_ 1 _ rfl; (with_reducible repeat (first | refine Kn ?_ _ | refine Kw ?_ | refine Ka ?_ _)); refine blk_put (cs := #[.int .i64 0, .int .i64 0, .int .i64 0, .int .i64 0]) ?_ 0 _ rfl; (with_reducible repeat (first | refine Kn ?_ _ | refine Kw ?_ | refine Ka ?_ _)); exact BK115.out⟩, ⟨by repeat (first | (with_reducible first | exact HB.out | apply Ba | apply Pn | apply Dn | refine Bz ?_ GE112.out | refine Bz ?_ GE115.out) | exact HB.out)⟩⟩
            ·rw [if_neg c30] at H; have c30b0 : decide ((l0_0.length : Int) ≤ ((rd_T82 l0_1 x3_2).f1)) = false := decide_eq_false c30; clear c30; have H' := Aa H; clear H; have hnb34 := NB115_112.out; have hnc34 := NB112_115.out; have hcz35_0 : w16.cell? ⟨gb115, 0, none⟩ = some (.int .i64 0) := (Bc BK115.out 0).trans rfl; have hcz35_1 : w16.cell? ⟨gb115, 1, none⟩ = some (.int .i64 0) := (Bc BK115.out 1).trans rfl; have hcz35_2 : w16.cell? ⟨gb115, 2, none⟩ = some (.int .i64 0) := (Bc BK115.out 2).trans rfl; have hcz35_3 : w16.cell? ⟨gb115, 3, none⟩ = some (.int .i64 0) := (Bc BK115.out 3).trans rfl; have hfz35_0 := Bf BK115.out 0; have hfz35_1 := Bf BK115.out 1; have hfz35_2 := Bf BK115.out 2; have hfz35_3 := Bf BK115.out 3; have hcz36_0 : w16.cell? ⟨gb112, 0, none⟩ = some (.slice A0_0 l0_0.length c0_0) := (Bc BK112.out 0).trans rfl; have hcz36_1 : w16.cell? ⟨gb112, 1, none⟩ = some (.slice (some ad114) l0_1.length c0_1) := (Bc BK112.out 1).trans rfl; have hfz36_0 := Bf BK112.out 0; have hfz36_1 := Bf BK112.out 1; go_wp2
             go_meet
             case rel => exact ⟨_, ((((rd_T82 l0_1 x3_2).f0) == ((rd_T82 l0_1 x3_2).f1))), (by first | rfl | (simp; done) | (simp [*]; done)), H', ⟨by have := HJ1.out; have := HK2.out; first | omega | exact Nat.le_refl _⟩, ⟨by (with_reducible repeat (first | refine Kn ?_ _ | refine Kw ?_ | refine Ka ?_ _)); refine blk_far ?_ NB112_115.out _; (with_reducible repeat (first | refine Kn ?_ _ | refine Kw ?_ | refine Ka ?_ _)); refine blk_far ?_ NB112_115.out _; (with_reducible repeat (first | refine Kn ?_ _ | refine Kw ?_ | refine Ka ?_ _)); refine blk_far ?_ NB112_115.out _; (with_reducible repeat (first | refine Kn ?_ _ | refine Kw ?_ | refine Ka ?_ _)); refine blk_far ?_ NB112_115.out _; (with_reducible repeat (first | refine Kn ?_ _ | refine Kw ?_ | refine Ka ?_ _)); exact BK112.out⟩, ⟨by (with_reducible repeat (first | refine Kn ?_ _ | refine Kw ?_ | refine Ka ?_ _)); refine blk_put (cs := #[.int .i64 ((rd_T82 l0_1 x3_2).f0), .int .i64 ((rd_T82 l0_1 x3_2).f1), .int .i64 ((rd_T82 l0_1 x3_2).f2), .int .i64 0]) ?_ 3 _ rfl; (with_reducible repeat (first | refine Kn ?_ _ | refine Kw ?_ | refine Ka ?_ _)); refine blk_put (cs := #[.int .i64 ((rd_T82 l0_1 x3_2).f0), .int .i64 ((rd_T82 l0_1 x3_2).f1), .int .i64 0, .int .i64 0]) ?_ 2 _ rfl; (with_reducible repeat (first | refine Kn ?_ _ | refine Kw ?_ | refine Ka ?_ _)); refine blk_put (cs := #[.int .i64 ((rd_T82 l0_1 x3_2).f0), .int .i64 0, .int .i64 0, .int .i64 0]) ?_ 1 _ rfl; (with_reducible repeat (first | refine Kn ?_ _ | refine Kw ?_ | refine Ka ?_ _)); refine blk_put (cs := #[.int .i64 0, .int .i64 0, .int .i64 0, .int .i64 0]) ?_ 0 _ rfl; (with_reducible repeat (first | refine Kn ?_ _ | refine Kw ?_ | refine Ka ?_ _)); exact BK115.out⟩, ⟨by repeat (first | (with_reducible first | exact HB.out | apply Ba | apply Pn | apply Dn | refine Bz ?_ GE112.out | refine Bz ?_ GE115.out) | exact HB.out)⟩⟩
        case rest =>
         clear HC14; try clear c1
         try clear p1
         try clear q1
         try clear hx1
         try clear c2
         try clear p2
         try clear c3
         try clear c4
         try clear c5
         try clear c11
         try clear p11
         try clear q11
         try clear hx11
         try clear c12
         try clear c12b0
         try clear c13
         try clear c13b0
         try clear c16
         try clear c17
         try clear c19
         try clear c19b0
         try clear c20
         try clear c22
         try clear c22b0
         try clear c23
         try clear c26
         try clear c26b0
         try clear c27
         try clear c30
         try clear c30b0
         try clear c31
         try clear c34
         try clear hcz15_0
         try clear hcz15_1
         try clear hcz18_0
         try clear hcz18_1
         try clear hcz18_2
         try clear hcz18_3
         try clear hcz21_0
         try clear hcz21_1
         try clear hcz21_2
         try clear hcz21_3
         try clear hcz24_0
         try clear hcz24_1
         try clear hcz24_2
         try clear hcz24_3
         try clear hcz25_0
         try clear hcz25_1
         try clear hcz28_0
         try clear hcz28_1
         try clear hcz28_2
         try clear hcz28_3
         try clear hcz29_0
         try clear hcz29_1
         try clear hcz32_0
         try clear hcz32_1
         try clear hcz32_2
         try clear hcz32_3
         try clear hcz33_0
         try clear hcz33_1
         try clear hcz35_0
         try clear hcz35_1
         try clear hcz35_2
         try clear hcz35_3
         try clear hcz36_0
         try clear hcz36_1
         try clear hcz6_0
         try clear hcz6_1
         try clear hcz8_0
         try clear hcz8_1
         try clear hcz9_0
         try clear hcz9_1
         try clear hfz15_0
         try clear hfz15_1
         try clear hfz18_0
         try clear hfz18_1
         try clear hfz18_2
         try clear hfz18_3
         try clear hfz21_0
         try clear hfz21_1
         try clear hfz21_2
         try clear hfz21_3
         try clear hfz24_0
         try clear hfz24_1
         try clear hfz24_2
         try clear hfz24_3
         try clear hfz25_0
         try clear hfz25_1
         try clear hfz28_0
         try clear hfz28_1
         try clear hfz28_2
         try clear hfz28_3
         try clear hfz29_0
         try clear hfz29_1
         try clear hfz32_0
         try clear hfz32_1
         try clear hfz32_2
         try clear hfz32_3
         try clear hfz33_0
         try clear hfz33_1
         try clear hfz35_0
         try clear hfz35_1
         try clear hfz35_2
         try clear hfz35_3
         try clear hfz36_0
         try clear hfz36_1
         try clear hfz6_0
         try clear hfz6_1
         try clear hfz8_0
         try clear hfz8_1
         try clear hfz9_0
         try clear hfz9_1
         try clear hx114_0
         try clear hx114_1
         try clear hx114_2
         try clear hx114_3
         try clear p114
         try clear p2
         try clear q114
         obtain ⟨kq, x57_13, rfl, HA, HJ13, BK112, BK115, HB⟩ := hcut
         cases kq with
         | zero => exact absurd HA.out (by simp [rf_Hist.j2])
         | succ kj13 =>
          have H := HA.out; clear HA; simp only [rf_Hist.j2] at H
          by_cases c37 : x57_13 = true
          ·subst c37
           have H1 : (some false) = some r := by rw [if_pos rfl] at H; exact H
           clear H; have H := H1; clear H1; obtain rfl := Option.some.inj H; go_wp2; go_ret; exact ⟨by first | rfl | (simp [errW_none, errW_some] <;> rfl) | (simp [*, errW_none, errW_some] <;> rfl), by repeat (first | (with_reducible first | exact HB.out | apply Ba | apply Pn | apply Dn | refine Bz ?_ GE112.out | refine Bz ?_ GE115.out) | exact HB.out)⟩
          ·replace c37 := Bool.eq_false_iff.mpr c37; subst c37
           have H1 : (if ((rd_T82 l0_1 x3_2).f2) > ((rd_T82 l0_1 x3_2).f3) then (some false) else (if ((rd_T82 l0_1 x3_2).f2) < (-2000000) then (some false) else (if ((rd_T82 l0_1 x3_2).f3) > 2000000 then (some false) else (rf_Hist.l0 kj13 (wrap64 (x3_2 + 1)) l0_0 l0_1)))) = some r := by rw [if_neg (show ¬ (false = true) by decide)] at H; exact H
           clear H; have H := H1; clear H1
           by_cases c38 : ((rd_T82 l0_1 x3_2).f2) > ((rd_T82 l0_1 x3_2).f3)
           ·rw [if_pos c38] at H; have c38b0 : decide (((rd_T82 l0_1 x3_2).f3) < ((rd_T82 l0_1 x3_2).f2)) = true := decide_eq_true c38; clear c38; obtain rfl := Option.some.inj H; have hnb39 := NB115_112.out; have hnc39 := NB112_115.out; have hcz40_0 : wc.cell? ⟨gb115, 0, none⟩ = some (.int .i64 ((rd_T82 l0_1 x3_2).f0)) := (Bc BK115.out 0).trans rfl; have hcz40_1 : wc.cell? ⟨gb115, 1, none⟩ = some (.int .i64 ((rd_T82 l0_1 x3_2).f1)) := (Bc BK115.out 1).trans rfl; have hcz40_2 : wc.cell? ⟨gb115, 2, none⟩ = some (.int .i64 ((rd_T82 l0_1 x3_2).f2)) := (Bc BK115.out 2).trans rfl; have hcz40_3 : wc.cell? ⟨gb115, 3, none⟩ = some (.int .i64 ((rd_T82 l0_1 x3_2).f3)) := (Bc BK115.out 3).trans rfl; have hfz40_0 := Bf BK115.out 0; have hfz40_1 := Bf BK115.out 1; have hfz40_2 := Bf BK115.out 2; have hfz40_3 := Bf BK115.out 3; go_wp2; go_ret; exact ⟨by first | rfl | (simp [errW_none, errW_some] <;> rfl) | (simp [*, errW_none, errW_some] <;> rfl), by repeat (first | (with_reducible first | exact HB.out | apply Ba | apply Pn | apply Dn | refine Bz ?_ GE112.out | refine Bz ?_ GE115.out) | exact HB.out)⟩
           ·rw [if_neg c38] at H; have c38b0 : decide (((rd_T82 l0_1 x3_2).f3) < ((rd_T82 l0_1 x3_2).f2)) = false := decide_eq_false c38; clear c38
            by_cases c41 : ((rd_T82 l0_1 x3_2).f2) < (-2000000)
            ·rw [if_pos c41] at H; have c41b0 : decide (((rd_T82 l0_1 x3_2).f2) < (-2000000)) = true := decide_eq_true c41; clear c41; obtain rfl := Option.some.inj H; have hnb42 := NB115_112.out; have hnc42 := NB112_115.out; have hcz43_0 : wc.cell? ⟨gb115, 0, none⟩ = some (.int .i64 ((rd_T82 l0_1 x3_2).f0)) := (Bc BK115.out 0).trans rfl; have hcz43_1 : wc.cell? ⟨gb115, 1, none⟩ = some (.int .i64 ((rd_T82 l0_1 x3_2).f1)) := (Bc BK115.out 1).trans rfl; have hcz43_2 : wc.cell? ⟨gb115, 2, none⟩ = some (.int .i64 ((rd_T82 l0_1 x3_2).f2)) := (Bc BK115.out 2).trans rfl; have hcz43_3 : wc.cell? ⟨gb115, 3, none⟩ = some (.int .i64 ((rd_T82 l0_1 x3_2).f3)) := (Bc BK115.out 3).trans rfl; have hfz43_0 := Bf BK115.out 0; have hfz43_1 := Bf BK115.out 1; have hfz43_2 := Bf BK115.out 2; have hfz43_3 := Bf BK115.out 3; go_wp2; go_ret; exact ⟨by first | rfl | (simp [errW_none, errW_some] <;> rfl) | (simp [*, errW_none, errW_some] <;> rfl), by repeat (first | (with_reducible first | exact HB.out | apply Ba | apply Pn | apply Dn | refine Bz ?_ GE112.out | refine Bz ?_ GE115.out) | exact HB.out)⟩
            ·rw [if_neg c41] at H; have c41b0 : decide (((rd_T82 l0_1 x3_2).f2) < (-2000000)) = false := decide_eq_false c41; clear c41
             by_cases c44 : ((rd_T82 l0_1 x3_2).f3) > 2000000
             ·rw [if_pos c44] at H; have c44b0 : decide (2000000 < ((rd_T82 l0_1 x3_2).f3)) = true := decide_eq_true c44; clear c44; obtain rfl := Option.some.inj H; have hnb45 := NB115_112.out; have hnc45 := NB112_115.out; have hcz46_0 : wc.cell? ⟨gb115, 0, none⟩ = some (.int .i64 ((rd_T82 l0_1 x3_2).f0)) := (Bc BK115.out 0).trans rfl; have hcz46_1 : wc.cell? ⟨gb115, 1, none⟩ = some (.int .i64 ((rd_T82 l0_1 x3_2).f1)) := (Bc BK115.out 1).trans rfl; have hcz46_2 : wc.cell? ⟨gb115, 2, none⟩ = some (.int .i64 ((rd_T82 l0_1 x3_2).f2)) := (Bc BK115.out 2).trans rfl; have hcz46_3 : wc.cell? ⟨gb115, 3, none⟩ = some (.int .i64 ((rd_T82 l0_1 x3_2).f3)) := (Bc BK115.out 3).trans rfl; have hfz46_0 := Bf BK115.out 0; have hfz46_1 := Bf BK115.out 1; have hfz46_2 := Bf BK115.out 2; have hfz46_3 := Bf BK115.out 3; go_wp2; go_ret; exact ⟨by first | rfl | (simp [errW_none, errW_some] <;> rfl) | (simp [*, errW_none, errW_some] <;> rfl), by repeat (first | (with_reducible first | exact HB.out | apply Ba | apply Pn | apply Dn | refine Bz ?_ GE112.out | refine Bz ?_ GE115.out) | exact HB.out)⟩
             ·rw [if_neg c44] at H; have c44b0 : decide (2000000 < ((rd_T82 l0_1 x3_2).f3)) = false := decide_eq_false c44; clear c44; have H' := Aa H; clear H; have hnb47 := NB115_112.out; have hnc47 := NB112_115.out; have hcz48_0 : wc.cell? ⟨gb115, 0, none⟩ = some (.int .i64 ((rd_T82 l0_1 x3_2).f0)) := (Bc BK115.out 0).trans rfl; have hcz48_1 : wc.cell? ⟨gb115, 1, none⟩ = some (.int .i64 ((rd_T82 l0_1 x3_2).f1)) := (Bc BK115.out 1).trans rfl; have hcz48_2 : wc.cell? ⟨gb115, 2, none⟩ = some (.int .i64 ((rd_T82 l0_1 x3_2).f2)) := (Bc BK115.out 2).trans rfl; have hcz48_3 : wc.cell? ⟨gb115, 3, none⟩ = some (.int .i64 ((rd_T82 l0_1 x3_2).f3)) := (Bc BK115.out 3).trans rfl; have hfz48_0 := Bf BK115.out 0; have hfz48_1 := Bf BK115.out 1; have hfz48_2 := Bf BK115.out 2; have hfz48_3 := Bf BK115.out 3; go_wp2
              go_roundg kj13
              case measure => have := HJ1.out; have := HK2.out; have := HJ13.out; omega
              case rel => exact ⟨(wrap64 (x3_2 + 1)), (by first | rfl | (simp; done) | (simp [*]; done)), H', ⟨by have := HJ1.out; have := HK2.out; have := HJ13.out; omega⟩, ⟨by (with_reducible repeat (first | refine Kn ?_ _ | refine Kw ?_ | refine Ka ?_ _)); exact BK112.out⟩, ⟨by repeat (first | (with_reducible first | exact HB.out | apply Ba | apply Pn | apply Dn | refine Bz ?_ GE112.out | refine Bz ?_ GE115.out) | exact HB.out)⟩⟩
       ·rw [if_neg c13] at H; exact absurd H (by simp)
      ·rw [if_neg c12] at H; have c12b0 : decide (x3_2 < (l0_1.length : Int)) = false := decide_eq_false c12; clear c12; obtain rfl := Option.some.inj H; have hcz49_0 : wr.cell? ⟨gb112, 0, none⟩ = some (.slice A0_0 l0_0.length c0_0) := (Bc BK112.out 0).trans rfl; have hcz49_1 : wr.cell? ⟨gb112, 1, none⟩ = some (.slice A0_1 l0_1.length c0_1) := (Bc BK112.out 1).trans rfl; have hfz49_0 := Bf BK112.out 0; have hfz49_1 := Bf BK112.out 1; go_wp2; go_ret; exact ⟨by first | rfl | (simp [errW_none, errW_some] <;> rfl) | (simp [*, errW_none, errW_some] <;> rfl), by repeat (first | (with_reducible first | exact HB.out | apply Ba | apply Pn | apply Dn | refine Bz ?_ GE112.out) | exact HB.out)⟩
end
section
attribute [local go_sem] max2_int min2_int max_two min_two
def skew_isRun.l0 : Nat → List (S121) → List (S121) → Int → Int → Option (Bool)
 | 0, _, _, _, _ => none
 | k + 1, x0, x5, x6, x7 => if x7 < x6 then (if 0 ≤ x7 then (if x7 < (x5.length : Int) then ((skew_within.f ((rd_T121 x5 x7).f0) 0 5).bind fun t379 => (if t379 = true then ((skew_within.f ((rd_T121 x5 x7).f1) 0 100000).bind fun t380 => (if t380 = true then ((skew_within.f ((rd_T121 x5 x7).f2) (-1) (wrap64 (x7 - 1))).bind fun t381 => (if t381 = true then (skew_isRun.l0 k x0 x5 x6 (wrap64 (x7 + 1))) else (some false))) else (some false))) else (some false))) else (none)) else (none)) else (some (decide ((x0.length : Int) ≤ 40)))
def skew_isRun.f (k : Nat) (l0 : List (S121)) : Option (Bool) := skew_isRun.l0 k l0 l0 (l0.length : Int) 0
set_option maxHeartbeats 8000000 in
set_option maxRecDepth 100000 in
theorem skew_isRun.calls (k : Nat) (A0 : Option Addr) (c0 : Nat) (l0 : List (S121)) (r : Bool) (w : World) (hr0 : Kd.C k121 w A0 l0.length l0) (hc0 : l0.length ≤ c0) (h : skew_isRun.f k l0 = some r) :
  Calls Tryz.prog 65 #[.slice A0 l0.length c0] w fun e w' => e = .returned (.bool r) ∧ Below w.heap.size w w' := by
 have hu121 := Tryz.underlying121; have HR0 := Aa hr0; have HC0 := Aa hc0; clear hr0 hc0; have HB := Aa (Below.refl w.heap.size w); have H : (skew_isRun.l0 k l0 l0 (l0.length : Int) 0) = some r := h; clear h; have H' := Aa H; clear H
 go_enter Tryz.func65, Tryz.ntmps65
 go_wp2
 go_loopg [7] k (fun kq v7 w' => ∃ (x7_1 : Int), v7 = .int .i64 x7_1 ∧ Aside0 (skew_isRun.l0 kq l0 l0 (l0.length : Int) x7_1 = some r) ∧ Aside0 (kq ≤ k) ∧ Aside0 (Below w.heap.size w w'))
 case atStart => exact ⟨(0), (by first | rfl | (simp; done) | (simp [*]; done)), H', ⟨Nat.le_refl _⟩, ⟨by repeat (first | (with_reducible first | exact HB.out | apply Ba | apply Pn | apply Dn) | exact HB.out)⟩⟩
 case round =>
  clear H'; obtain ⟨x7_1, rfl, HA, HK1, HB⟩ := hrel
  cases gk with
  | zero => exact absurd HA.out (by simp [skew_isRun.l0])
  | succ k1 =>
   have H := HA.out; clear HA; simp only [skew_isRun.l0] at H
   by_cases c2 : x7_1 < (l0.length : Int)
   ·rw [if_pos c2] at H; have c2b0 : decide (x7_1 < (l0.length : Int)) = true := decide_eq_true c2; clear c2
    by_cases c3 : 0 ≤ x7_1
    ·rw [if_pos c3] at H; have c3b0 : decide (0 ≤ x7_1) = true := decide_eq_true c3; clear c3
     by_cases c4 : x7_1 < (l0.length : Int)
     ·rw [if_pos c4] at H; have c4b0 : decide (x7_1 < (l0.length : Int)) = true := decide_eq_true c4; clear c4; replace H := Option.bind_eq_some_iff.mp H; obtain ⟨t379, A50, H⟩ := H; replace H : (if t379 = true then ((skew_within.f ((rd_T121 l0 x7_1).f1) 0 100000).bind fun t380 => (if t380 = true then ((skew_within.f ((rd_T121 l0 x7_1).f2) (-1) (wrap64 (x7_1 - 1))).bind fun t381 => (if t381 = true then (skew_isRun.l0 k1 l0 l0 (l0.length : Int) (wrap64 (x7_1 + 1))) else (some false))) else (some false))) else (some false)) = some r := H; have A5 := Aa A50; clear A50
      by_cases c6 : t379 = true
      ·subst c6
       have H1 : ((skew_within.f ((rd_T121 l0 x7_1).f1) 0 100000).bind fun t380 => (if t380 = true then ((skew_within.f ((rd_T121 l0 x7_1).f2) (-1) (wrap64 (x7_1 - 1))).bind fun t381 => (if t381 = true then (skew_isRun.l0 k1 l0 l0 (l0.length : Int) (wrap64 (x7_1 + 1))) else (some false))) else (some false))) = some r := by rw [if_pos rfl] at H; exact H
       clear H; have H := H1; clear H1; replace H := Option.bind_eq_some_iff.mp H; obtain ⟨t380, A70, H⟩ := H; replace H : (if t380 = true then ((skew_within.f ((rd_T121 l0 x7_1).f2) (-1) (wrap64 (x7_1 - 1))).bind fun t381 => (if t381 = true then (skew_isRun.l0 k1 l0 l0 (l0.length : Int) (wrap64 (x7_1 + 1))) else (some false))) else (some false)) = some r := H; have A7 := Aa A70; clear A70
       by_cases c8 : t380 = true
       ·subst c8
        have H1 : ((skew_within.f ((rd_T121 l0 x7_1).f2) (-1) (wrap64 (x7_1 - 1))).bind fun t381 => (if t381 = true then (skew_isRun.l0 k1 l0 l0 (l0.length : Int) (wrap64 (x7_1 + 1))) else (some false))) = some r := by rw [if_pos rfl] at H; exact H
        clear H; have H := H1; clear H1; replace H := Option.bind_eq_some_iff.mp H; obtain ⟨t381, A90, H⟩ := H; replace H : (if t381 = true then (skew_isRun.l0 k1 l0 l0 (l0.length : Int) (wrap64 (x7_1 + 1))) else (some false)) = some r := H; have A9 := Aa A90; clear A90
        by_cases c10 : t381 = true
        ·subst c10
         have H1 : (skew_isRun.l0 k1 l0 l0 (l0.length : Int) (wrap64 (x7_1 + 1))) = some r := by rw [if_pos rfl] at H; exact H
         clear H; have H := H1; clear H1; have H' := Aa H; clear H; have p377 : 0 ≤ (x7_1 : Int) := Od (by first | (with_reducible assumption) | assumption); have q377 : x7_1 < (l0.length : Int) := Od (by first | (with_reducible assumption) | assumption); obtain ⟨ad377, e377, hx377_0, hx377_1, hx377_2⟩ := at_T121 HR0.out x7_1 p377 q377; cases e377; replace hx377_0 := (HB.out.cell (Wb w _ hx377_0)).trans hx377_0; replace hx377_1 := (HB.out.cell (Wb w _ hx377_1)).trans hx377_1; replace hx377_2 := (HB.out.cell (Wb w _ hx377_2)).trans hx377_2; replace p377 := eq_true p377; replace q377 := eq_true q377
         go_wp2_with (first | ((with_reducible refine gate_dst (N := 4) rfl ?_); refine box_event ?hg (N := 4) ?hd (cs := #[.int .i64 0, .int .i64 0, .int .i64 0]) (t := 121) ?hr ?_; (case hd => rfl); (case hg => rfl); (case hr => first | (go_simp; done) | (go_simp; rfl)); intro gb378 hg w11 hbox hb; have n0_ := Aa (Bp (by repeat (first | (with_reducible first | exact HB.out | apply Ba | apply Pn | apply Dn) | exact HB.out)) hb); have n1_ := Aa (hbox); have n2_ := Aa ((by rw [hg]; exact (below_size (by repeat (first | (with_reducible first | exact HB.out | apply Ba | apply Pn | apply Dn) | exact HB.out))) : w.heap.size ≤ gb378)); have n3_ := Aa ((by rw [hg]; exact (below_size (by repeat (first | (with_reducible first | exact HB.out | apply Ba | apply Pn | apply Dn) | exact HB.out))) : w.heap.size ≤ gb378)); clear HB; have HB := n0_; have BK378 := n1_; have GW378 := n2_; have GE378 := n3_; clear n0_ n1_ n2_ n3_; clear hb hbox hg; have hcz12_0 : w11.cell? ⟨gb378, 0, none⟩ = some (.int .i64 0) := (Bc BK378.out 0).trans rfl; have hcz12_1 : w11.cell? ⟨gb378, 1, none⟩ = some (.int .i64 0) := (Bc BK378.out 1).trans rfl; have hcz12_2 : w11.cell? ⟨gb378, 2, none⟩ = some (.int .i64 0) := (Bc BK378.out 2).trans rfl; have hfz12_0 := Bf BK378.out 0; have hfz12_1 := Bf BK378.out 1; have hfz12_2 := Bf BK378.out 2) | ((with_reducible refine gate_callee (f := 13) rfl ?_); refine goesL_ (some 14) rfl rfl Tryz.func13 (by kernel_rfl) rfl #[.int .i64 ((rd_T121 l0 x7_1).f0), .int .i64 0, .int .i64 5] rfl (by (try simp only [List.map_toArray, List.map_cons, List.map_nil]); first | done | rfl | (simp only [List.length_drop, List.length_take]; rfl)) ?_; (with_reducible refine (skew_within.calls ((rd_T121 l0 x7_1).f0) 0 5 true _ A5.out).mono ?_); rintro e w' ⟨rfl, ⟨nd, rfl⟩⟩; refine ⟨_, rfl, ?_⟩) | (go_at_call 13; (with_reducible refine (skew_within.calls ((rd_T121 l0 x7_1).f1) 0 100000 true _ A7.out).mono ?_); rintro e w' ⟨rfl, ⟨nd, rfl⟩⟩) | (go_at_call 13; (with_reducible refine (skew_within.calls ((rd_T121 l0 x7_1).f2) (-1) (wrap64 (x7_1 - 1)) true _ A9.out).mono ?_); rintro e w' ⟨rfl, ⟨nd, rfl⟩⟩))
         go_roundg k1
         case measure => have := HK1.out; omega
         case rel => exact ⟨(wrap64 (x7_1 + 1)), (by first | rfl | (simp; done) | (simp [*]; done)), H', ⟨by have := HK1.out; omega⟩, ⟨by repeat (first | (with_reducible first | exact HB.out | apply Ba | apply Pn | apply Dn | refine Bz ?_ GE378.out) | exact HB.out)⟩⟩
        ·replace c10 := Bool.eq_false_iff.mpr c10; subst c10
         have H1 : (some false) = some r := by rw [if_neg (show ¬ (false = true) by decide)] at H; exact H
         clear H; have H := H1; clear H1; obtain rfl := Option.some.inj H; have p377 : 0 ≤ (x7_1 : Int) := Od (by first | (with_reducible assumption) | assumption); have q377 : x7_1 < (l0.length : Int) := Od (by first | (with_reducible assumption) | assumption); obtain ⟨ad377, e377, hx377_0, hx377_1, hx377_2⟩ := at_T121 HR0.out x7_1 p377 q377; cases e377; replace hx377_0 := (HB.out.cell (Wb w _ hx377_0)).trans hx377_0; replace hx377_1 := (HB.out.cell (Wb w _ hx377_1)).trans hx377_1; replace hx377_2 := (HB.out.cell (Wb w _ hx377_2)).trans hx377_2; replace p377 := eq_true p377; replace q377 := eq_true q377
         go_wp2_with (first | ((with_reducible refine gate_dst (N := 4) rfl ?_); refine box_event ?hg (N := 4) ?hd (cs := #[.int .i64 0, .int .i64 0, .int .i64 0]) (t := 121) ?hr ?_; (case hd => rfl); (case hg => rfl); (case hr => first | (go_simp; done) | (go_simp; rfl)); intro gb378 hg w13 hbox hb; have n0_ := Aa (Bp (by repeat (first | (with_reducible first | exact HB.out | apply Ba | apply Pn | apply Dn) | exact HB.out)) hb); have n1_ := Aa (hbox); have n2_ := Aa ((by rw [hg]; exact (below_size (by repeat (first | (with_reducible first | exact HB.out | apply Ba | apply Pn | apply Dn) | exact HB.out))) : w.heap.size ≤ gb378)); have n3_ := Aa ((by rw [hg]; exact (below_size (by repeat (first | (with_reducible first | exact HB.out | apply Ba | apply Pn | apply Dn) | exact HB.out))) : w.heap.size ≤ gb378)); clear HB; have HB := n0_; have BK378 := n1_; have GW378 := n2_; have GE378 := n3_; clear n0_ n1_ n2_ n3_; clear hb hbox hg; have hcz14_0 : w13.cell? ⟨gb378, 0, none⟩ = some (.int .i64 0) := (Bc BK378.out 0).trans rfl; have hcz14_1 : w13.cell? ⟨gb378, 1, none⟩ = some (.int .i64 0) := (Bc BK378.out 1).trans rfl; have hcz14_2 : w13.cell? ⟨gb378, 2, none⟩ = some (.int .i64 0) := (Bc BK378.out 2).trans rfl; have hfz14_0 := Bf BK378.out 0; have hfz14_1 := Bf BK378.out 1; have hfz14_2 := Bf BK378.out 2) | ((with_reducible refine gate_callee (f := 13) rfl ?_); refine goesL_ (some 14) rfl rfl Tryz.func13 (by kernel_rfl) rfl #[.int .i64 ((rd_T121 l0 x7_1).f0), .int .i64 0, .int .i64 5] rfl (by (try simp only [List.map_toArray, List.map_cons, List.map_nil]); first | done | rfl | (simp only [List.length_drop, List.length_take]; rfl)) ?_; (with_reducible refine (skew_within.calls ((rd_T121 l0 x7_1).f0) 0 5 true _ A5.out).mono ?_); rintro e w' ⟨rfl, ⟨nd, rfl⟩⟩; refine ⟨_, rfl, ?_⟩) | (go_at_call 13; (with_reducible refine (skew_within.calls ((rd_T121 l0 x7_1).f1) 0 100000 true _ A7.out).mono ?_); rintro e w' ⟨rfl, ⟨nd, rfl⟩⟩) | (go_at_call 13; (with_reducible refine (skew_within.calls ((rd_T121 l0 x7_1).f2) (-1) (wrap64 (x7_1 - 1)) false _ A9.out).mono ?_); rintro e w' ⟨rfl, ⟨nd, rfl⟩⟩))
         go_ret; exact ⟨by first | rfl | (simp [errW_none, errW_some] <;> rfl) | (simp [*, errW_none, errW_some] <;> rfl), by repeat (first | (with_reducible first | exact HB.out | apply Ba | apply Pn | apply Dn | refine Bz ?_ GE378.out) | exact HB.out)⟩
       ·replace c8 := Bool.eq_false_iff.mpr c8; subst c8
        have H1 : (some false) = some r := by rw [if_neg (show ¬ (false = true) by decide)] at H; exact H
        clear H; have H := H1; clear H1; obtain rfl := Option.some.inj H; have p377 : 0 ≤ (x7_1 : Int) := Od (by first | (with_reducible assumption) | assumption); have q377 : x7_1 < (l0.length : Int) := Od (by first | (with_reducible assumption) | assumption); obtain ⟨ad377, e377, hx377_0, hx377_1, hx377_2⟩ := at_T121 HR0.out x7_1 p377 q377; cases e377; replace hx377_0 := (HB.out.cell (Wb w _ hx377_0)).trans hx377_0; replace hx377_1 := (HB.out.cell (Wb w _ hx377_1)).trans hx377_1; replace hx377_2 := (HB.out.cell (Wb w _ hx377_2)).trans hx377_2; replace p377 := eq_true p377; replace q377 := eq_true q377
        go_wp2_with (first | ((with_reducible refine gate_dst (N := 4) rfl ?_); refine box_event ?hg (N := 4) ?hd (cs := #[.int .i64 0, .int .i64 0, .int .i64 0]) (t := 121) ?hr ?_; (case hd => rfl); (case hg => rfl); (case hr => first | (go_simp; done) | (go_simp; rfl)); intro gb378 hg w15 hbox hb; have n0_ := Aa (Bp (by repeat (first | (with_reducible first | exact HB.out | apply Ba | apply Pn | apply Dn) | exact HB.out)) hb); have n1_ := Aa (hbox); have n2_ := Aa ((by rw [hg]; exact (below_size (by repeat (first | (with_reducible first | exact HB.out | apply Ba | apply Pn | apply Dn) | exact HB.out))) : w.heap.size ≤ gb378)); have n3_ := Aa ((by rw [hg]; exact (below_size (by repeat (first | (with_reducible first | exact HB.out | apply Ba | apply Pn | apply Dn) | exact HB.out))) : w.heap.size ≤ gb378)); clear HB; have HB := n0_; have BK378 := n1_; have GW378 := n2_; have GE378 := n3_; clear n0_ n1_ n2_ n3_; clear hb hbox hg; have hcz16_0 : w15.cell? ⟨gb378, 0, none⟩ = some (.int .i64 0) := (Bc BK378.out 0).trans rfl; have hcz16_1 : w15.cell? ⟨gb378, 1, none⟩ = some (.int .i64 0) := (Bc BK378.out 1).trans rfl; have hcz16_2 : w15.cell? ⟨gb378, 2, none⟩ = some (.int .i64 0) := (Bc BK378.out 2).trans rfl; have hfz16_0 := Bf BK378.out 0; have hfz16_1 := Bf BK378.out 1; have hfz16_2 := Bf BK378.out 2) | ((with_reducible refine gate_callee (f := 13) rfl ?_); refine goesL_ (some 14) rfl rfl Tryz.func13 (by kernel_rfl) rfl #[.int .i64 ((rd_T121 l0 x7_1).f0), .int .i64 0, .int .i64 5] rfl (by (try simp only [List.map_toArray, List.map_cons, List.map_nil]); first | done | rfl | (simp only [List.length_drop, List.length_take]; rfl)) ?_; (with_reducible refine (skew_within.calls ((rd_T121 l0 x7_1).f0) 0 5 true _ A5.out).mono ?_); rintro e w' ⟨rfl, ⟨nd, rfl⟩⟩; refine ⟨_, rfl, ?_⟩) | (go_at_call 13; (with_reducible refine (skew_within.calls ((rd_T121 l0 x7_1).f1) 0 100000 false _ A7.out).mono ?_); rintro e w' ⟨rfl, ⟨nd, rfl⟩⟩))
        go_ret; exact ⟨by first | rfl | (simp [errW_none, errW_some] <;> rfl) | (simp [*, errW_none, errW_some] <;> rfl), by repeat (first | (with_reducible first | exact HB.out | apply Ba | apply Pn | apply Dn | refine Bz ?_ GE378.out) | exact HB.out)⟩
      ·replace c6 := Bool.eq_false_iff.mpr c6; subst c6
       have H1 : (some false) = some r := by rw [if_neg (show ¬ (false = true) by decide)] at H; exact H
       clear H; have H := H1; clear H1; obtain rfl := Option.some.inj H; have p377 : 0 ≤ (x7_1 : Int) := Od (by first | (with_reducible assumption) | assumption); have q377 : x7_1 < (l0.length : Int) := Od (by first | (with_reducible assumption) | assumption); obtain ⟨ad377, e377, hx377_0, hx377_1, hx377_2⟩ := at_T121 HR0.out x7_1 p377 q377; cases e377; replace hx377_0 := (HB.out.cell (Wb w _ hx377_0)).trans hx377_0; replace hx377_1 := (HB.out.cell (Wb w _ hx377_1)).trans hx377_1; replace hx377_2 := (HB.out.cell (Wb w _ hx377_2)).trans hx377_2; replace p377 := eq_true p377; replace q377 := eq_true q377
       go_wp2_with (first | ((with_reducible refine gate_dst (N := 4) rfl ?_); refine box_event ?hg (N := 4) ?hd (cs := #[.int .i64 0, .int .i64 0, .int .i64 0]) (t := 121) ?hr ?_; (case hd => rfl); (case hg => rfl); (case hr => first | (go_simp; done) | (go_simp; rfl)); intro gb378 hg w17 hbox hb; have n0_ := Aa (Bp (by repeat (first | (with_reducible first | exact HB.out | apply Ba | apply Pn | apply Dn) | exact HB.out)) hb); have n1_ := Aa (hbox); have n2_ := Aa ((by rw [hg]; exact (below_size (by repeat (first | (with_reducible first | exact HB.out | apply Ba | apply Pn | apply Dn) | exact HB.out))) : w.heap.size ≤ gb378)); have n3_ := Aa ((by rw [hg]; exact (below_size (by repeat (first | (with_reducible first | exact HB.out | apply Ba | apply Pn | apply Dn) | exact HB.out))) : w.heap.size ≤ gb378)); clear HB; have HB := n0_; have BK378 := n1_; have GW378 := n2_; have GE378 := n3_; clear n0_ n1_ n2_ n3_; clear hb hbox hg; have hcz18_0 : w17.cell? ⟨gb378, 0, none⟩ = some (.int .i64 0) := (Bc BK378.out 0).trans rfl; have hcz18_1 : w17.cell? ⟨gb378, 1, none⟩ = some (.int .i64 0) := (Bc BK378.out 1).trans rfl; have hcz18_2 : w17.cell? ⟨gb378, 2, none⟩ = some (.int .i64 0) := (Bc BK378.out 2).trans rfl; have hfz18_0 := Bf BK378.out 0; have hfz18_1 := Bf BK378.out 1; have hfz18_2 := Bf BK378.out 2) | ((with_reducible refine gate_callee (f := 13) rfl ?_); refine goesL_ (some 14) rfl rfl Tryz.func13 (by kernel_rfl) rfl #[.int .i64 ((rd_T121 l0 x7_1).f0), .int .i64 0, .int .i64 5] rfl (by (try simp only [List.map_toArray, List.map_cons, List.map_nil]); first | done | rfl | (simp only [List.length_drop, List.length_take]; rfl)) ?_; (with_reducible refine (skew_within.calls ((rd_T121 l0 x7_1).f0) 0 5 false _ A5.out).mono ?_); rintro e w' ⟨rfl, ⟨nd, rfl⟩⟩; refine ⟨_, rfl, ?_⟩))
       go_ret; exact ⟨by first | rfl | (simp [errW_none, errW_some] <;> rfl) | (simp [*, errW_none, errW_some] <;> rfl), by repeat (first | (with_reducible first | exact HB.out | apply Ba | apply Pn | apply Dn | refine Bz ?_ GE378.out) | exact HB.out)⟩
     ·rw [if_neg c4] at H; exact absurd H (by simp)
    ·rw [if_neg c3] at H; exact absurd H (by simp)
   ·rw [if_neg c2] at H; have c2b0 : decide (x7_1 < (l0.length : Int)) = false := decide_eq_false c2; clear c2; obtain rfl := Option.some.inj H; go_wp2; go_ret; exact ⟨by first | rfl | (simp [errW_none, errW_some] <;> rfl) | (simp [*, errW_none, errW_some] <;> rfl), by repeat (first | (with_reducible first | exact HB.out | apply Ba | apply Pn | apply Dn) | exact HB.out)⟩
end
section
attribute [local go_sem] max2_int min2_int max_two min_two
def bits_OnesCount64.f (a0 : Int) : Option (Int) := some (Go.bits .and .i64 (wrap64 (IntKind.u64.wrap ((IntKind.u64.wrap ((IntKind.u64.wrap ((Go.bits .and .u64 (IntKind.u64.wrap (((IntKind.u64.wrap ((Go.bits .and .u64 ((IntKind.u64.wrap ((Go.bits .and .u64 (a0 / 2) 6148914691236517205) + (Go.bits .and .u64 a0 6148914691236517205))) / 4) 3689348814741910323) + (Go.bits .and .u64 (IntKind.u64.wrap ((Go.bits .and .u64 (a0 / 2) 6148914691236517205) + (Go.bits .and .u64 a0 6148914691236517205))) 3689348814741910323))) / 16) + (IntKind.u64.wrap ((Go.bits .and .u64 ((IntKind.u64.wrap ((Go.bits .and .u64 (a0 / 2) 6148914691236517205) + (Go.bits .and .u64 a0 6148914691236517205))) / 4) 3689348814741910323) + (Go.bits .and .u64 (IntKind.u64.wrap ((Go.bits .and .u64 (a0 / 2) 6148914691236517205) + (Go.bits .and .u64 a0 6148914691236517205))) 3689348814741910323))))) 1085102592571150095) + ((Go.bits .and .u64 (IntKind.u64.wrap (((IntKind.u64.wrap ((Go.bits .and .u64 ((IntKind.u64.wrap ((Go.bits .and .u64 (a0 / 2) 6148914691236517205) + (Go.bits .and .u64 a0 6148914691236517205))) / 4) 3689348814741910323) + (Go.bits .and .u64 (IntKind.u64.wrap ((Go.bits .and .u64 (a0 / 2) 6148914691236517205) + (Go.bits .and .u64 a0 6148914691236517205))) 3689348814741910323))) / 16) + (IntKind.u64.wrap ((Go.bits .and .u64 ((IntKind.u64.wrap ((Go.bits .and .u64 (a0 / 2) 6148914691236517205) + (Go.bits .and .u64 a0 6148914691236517205))) / 4) 3689348814741910323) + (Go.bits .and .u64 (IntKind.u64.wrap ((Go.bits .and .u64 (a0 / 2) 6148914691236517205) + (Go.bits .and .u64 a0 6148914691236517205))) 3689348814741910323))))) 1085102592571150095) / 256))) + ((IntKind.u64.wrap ((Go.bits .and .u64 (IntKind.u64.wrap (((IntKind.u64.wrap ((Go.bits .and .u64 ((IntKind.u64.wrap ((Go.bits .and .u64 (a0 / 2) 6148914691236517205) + (Go.bits .and .u64 a0 6148914691236517205))) / 4) 3689348814741910323) + (Go.bits .and .u64 (IntKind.u64.wrap ((Go.bits .and .u64 (a0 / 2) 6148914691236517205) + (Go.bits .and .u64 a0 6148914691236517205))) 3689348814741910323))) / 16) + (IntKind.u64.wrap ((Go.bits .and .u64 ((IntKind.u64.wrap ((Go.bits .and .u64 (a0 / 2) 6148914691236517205) + (Go.bits .and .u64 a0 6148914691236517205))) / 4) 3689348814741910323) + (Go.bits .and .u64 (IntKind.u64.wrap ((Go.bits .and .u64 (a0 / 2) 6148914691236517205) + (Go.bits .and .u64 a0 6148914691236517205))) 3689348814741910323))))) 1085102592571150095) + ((Go.bits .and .u64 (IntKind.u64.wrap (((IntKind.u64.wrap ((Go.bits .and .u64 ((IntKind.u64.wrap ((Go.bits .and .u64 (a0 / 2) 6148914691236517205) + (Go.bits .and .u64 a0 6148914691236517205))) / 4) 3689348814741910323) + (Go.bits .and .u64 (IntKind.u64.wrap ((Go.bits .and .u64 (a0 / 2) 6148914691236517205) + (Go.bits .and .u64 a0 6148914691236517205))) 3689348814741910323))) / 16) + (IntKind.u64.wrap ((Go.bits .and .u64 ((IntKind.u64.wrap ((Go.bits .and .u64 (a0 / 2) 6148914691236517205) + (Go.bits .and .u64 a0 6148914691236517205))) / 4) 3689348814741910323) + (Go.bits .and .u64 (IntKind.u64.wrap ((Go.bits .and .u64 (a0 / 2) 6148914691236517205) + (Go.bits .and .u64 a0 6148914691236517205))) 3689348814741910323))))) 1085102592571150095) / 256))) / 65536))) + ((IntKind.u64.wrap ((IntKind.u64.wrap ((Go.bits .and .u64 (IntKind.u64.wrap (((IntKind.u64.wrap ((Go.bits .and .u64 ((IntKind.u64.wrap ((Go.bits .and .u64 (a0 / 2) 6148914691236517205) + (Go.bits .and .u64 a0 6148914691236517205))) / 4) 3689348814741910323) + (Go.bits .and .u64 (IntKind.u64.wrap ((Go.bits .and .u64 (a0 / 2) 6148914691236517205) + (Go.bits .and .u64 a0 6148914691236517205))) 3689348814741910323))) / 16) + (IntKind.u64.wrap ((Go.bits .and .u64 ((IntKind.u64.wrap ((Go.bits .and .u64 (a0 / 2) 6148914691236517205) + (Go.bits .and .u64 a0 6148914691236517205))) / 4) 3689348814741910323) + (Go.bits .and .u64 (IntKind.u64.wrap ((Go.bits .and .u64 (a0 / 2) 6148914691236517205) + (Go.bits .and .u64 a0 6148914691236517205))) 3689348814741910323))))) 1085102592571150095) + ((Go.bits .and .u64 (IntKind.u64.wrap (((IntKind.u64.wrap ((Go.bits .and .u64 ((IntKind.u64.wrap ((Go.bits .and .u64 (a0 / 2) 6148914691236517205) + (Go.bits .and .u64 a0 6148914691236517205))) / 4) 3689348814741910323) + (Go.bits .and .u64 (IntKind.u64.wrap ((Go.bits .and .u64 (a0 / 2) 6148914691236517205) + (Go.bits .and .u64 a0 6148914691236517205))) 3689348814741910323))) / 16) + (IntKind.u64.wrap ((Go.bits .and .u64 ((IntKind.u64.wrap ((Go.bits .and .u64 (a0 / 2) 6148914691236517205) + (Go.bits .and .u64 a0 6148914691236517205))) / 4) 3689348814741910323) + (Go.bits .and .u64 (IntKind.u64.wrap ((Go.bits .and .u64 (a0 / 2) 6148914691236517205) + (Go.bits .and .u64 a0 6148914691236517205))) 3689348814741910323))))) 1085102592571150095) / 256))) + ((IntKind.u64.wrap ((Go.bits .and .u64 (IntKind.u64.wrap (((IntKind.u64.wrap ((Go.bits .and .u64 ((IntKind.u64.wrap ((Go.bits .and .u64 (a0 / 2) 6148914691236517205) + (Go.bits .and .u64 a0 6148914691236517205))) / 4) 3689348814741910323) + (Go.bits .and .u64 (IntKind.u64.wrap ((Go.bits .and .u64 (a0 / 2) 6148914691236517205) + (Go.bits .and .u64 a0 6148914691236517205))) 3689348814741910323))) / 16) + (IntKind.u64.wrap ((Go.bits .and .u64 ((IntKind.u64.wrap ((Go.bits .and .u64 (a0 / 2) 6148914691236517205) + (Go.bits .and .u64 a0 6148914691236517205))) / 4) 3689348814741910323) + (Go.bits .and .u64 (IntKind.u64.wrap ((Go.bits .and .u64 (a0 / 2) 6148914691236517205) + (Go.bits .and .u64 a0 6148914691236517205))) 3689348814741910323))))) 1085102592571150095) + ((Go.bits .and .u64 (IntKind.u64.wrap (((IntKind.u64.wrap ((Go.bits .and .u64 ((IntKind.u64.wrap ((Go.bits .and .u64 (a0 / 2) 6148914691236517205) + (Go.bits .and .u64 a0 6148914691236517205))) / 4) 3689348814741910323) + (Go.bits .and .u64 (IntKind.u64.wrap ((Go.bits .and .u64 (a0 / 2) 6148914691236517205) + (Go.bits .and .u64 a0 6148914691236517205))) 3689348814741910323))) / 16) + (IntKind.u64.wrap ((Go.bits .and .u64 ((IntKind.u64.wrap ((Go.bits .and .u64 (a0 / 2) 6148914691236517205) + (Go.bits .and .u64 a0 6148914691236517205))) / 4) 3689348814741910323) + (Go.bits .and .u64 (IntKind.u64.wrap ((Go.bits .and .u64 (a0 / 2) 6148914691236517205) + (Go.bits .and .u64 a0 6148914691236517205))) 3689348814741910323))))) 1085102592571150095) / 256))) / 65536))) / 4294967296)))) 127)
end
section
attribute [local go_sem] max2_int min2_int max_two min_two
def skew_set_has.f (a0 : Int) (a1 : Int) : Option (Bool) := if 0 ≤ a1 then (some ((Go.bits .and .u64 (shr .u64 a0 a1) 1) == 1)) else (none)
set_option maxHeartbeats 8000000 in
set_option maxRecDepth 100000 in
theorem skew_set_has.calls (a0 : Int) (a1 : Int) (r : Bool) (w : World) (h : skew_set_has.f a0 a1 = some r) :
  Calls Tryz.prog 72 #[.int .u64 a0, .int .i64 a1] w fun e w' => e = .returned (.bool r) ∧ Drawn0 w w' := by
 have H : (if 0 ≤ a1 then (some ((Go.bits .and .u64 (shr .u64 a0 a1) 1) == 1)) else (none)) = some r := h; clear h
 by_cases c3 : 0 ≤ a1
 ·rw [if_pos c3] at H; have c3b0 := eq_true c3; have c3b1 : decide (0 ≤ a1) = true := decide_eq_true c3; clear c3
  obtain ⟨ji4, hji4⟩ : ∃ j_ : Int, (shr .u64 a0 a1) = j_ := ⟨_, rfl⟩
  replace H : (some ((Go.bits .and .u64 (ji4) 1) == 1)) = some r := by first | (rw [hji4] at H; exact H) | (simp only [hji4] at H ⊢; exact H)
  have hji4_ : (a0 / 2 ^ min a1.toNat 64) = ji4 := hji4; have hji4z : a1 ≤ 64 → (a0 / 2 ^ a1.toNat) = ji4 := shr_small hji4; obtain rfl := Option.some.inj H
  go_enter Tryz.func72, Tryz.ntmps72
  go_wp2; go_ret; exact ⟨by first | rfl | (simp; done) | (simp only [← hji4] <;> (first | rfl | simp)) | (simp [*]; done), by repeat (first | exact Drawn0.refl _ | apply Drawn0.step)⟩
 ·rw [if_neg c3] at H; exact absurd H (by simp)
end
section
attribute [local go_sem] max2_int min2_int max_two min_two
def rf_IsOrder.l0 : Nat → List Int → Int → List Bool → Int → Option (Bool)
 | 0, _, _, _, _ => none
 | k + 1, x0, x1, x5, x6 => if x6 < x1 then (if 0 ≤ x6 then (if x6 < (x0.length : Int) then (if (rd x0 x6) < 0 then (some false) else (if (rd x0 x6) ≥ x1 then (some false) else (if 0 ≤ (rd x0 x6) then (if (rd x0 x6) < (x5.length : Int) then (if rdOf false x5 (rd x0 x6) = true then (some false) else (rf_IsOrder.l0 k x0 x1 (x5.set ((rd x0 x6) : Int).toNat true) (wrap64 (x6 + 1)))) else (none)) else (none)))) else (none)) else (none)) else (some true)
def rf_IsOrder.f (k : Nat) (l0 : List Int) (a1 : Int) : Option (Bool) := if (l0.length : Int) = a1 then (if 0 ≤ a1 then (if (a1 : Int).toNat ≤ 281474976710656 then (rf_IsOrder.l0 k l0 a1 (List.replicate (a1 : Int).toNat false) 0) else (none)) else (none)) else (some false)
set_option maxHeartbeats 8000000 in
set_option maxRecDepth 100000 in
theorem rf_IsOrder.calls (k : Nat) (A0 : Option Addr) (c0 : Nat) (l0 : List Int) (a1 : Int) (r : Bool) (w : World) (hr0 : Kd.C (Kd.int .i64) w A0 l0.length l0) (hc0 : l0.length ≤ c0) (h : rf_IsOrder.f k l0 a1 = some r) :
  Calls Tryz.prog 29 #[.slice A0 l0.length c0, .int .i64 a1] w fun e w' => e = .returned (.bool r) ∧ Below w.heap.size w w' := by
 have HR0 := Aa hr0; have HC0 := Aa hc0; clear hr0 hc0; have HB := Aa (Below.refl w.heap.size w); have H : (if (l0.length : Int) = a1 then (if 0 ≤ a1 then (if (a1 : Int).toNat ≤ 281474976710656 then (rf_IsOrder.l0 k l0 a1 (List.replicate (a1 : Int).toNat false) 0) else (none)) else (none)) else (some false)) = some r := h; clear h
 by_cases c3 : (l0.length : Int) = a1
 ·rw [if_pos c3] at H; have c3b0 : ((l0.length : Int) == a1) = true := beq_iff_eq.mpr c3; have c3b1 : ((l0.length : Int) != a1) = false := bne_eq_false_iff_eq.mpr c3; clear c3
  by_cases c4 : 0 ≤ a1
  ·rw [if_pos c4] at H; have c4b0 := eq_true c4; have c4b1 : decide (0 ≤ a1) = true := decide_eq_true c4; clear c4
   by_cases c5 : (a1 : Int).toNat ≤ 281474976710656
   ·rw [if_pos c5] at H; have c5b0 := eq_true c5; have c5b1 : decide ((a1 : Int).toNat ≤ 281474976710656) = true := decide_eq_true c5; clear c5
    obtain ⟨y326, hy326⟩ : ∃ y_ : List Bool, y_ = (List.replicate (a1 : Int).toNat false) := ⟨_, rfl⟩
    replace H : (rf_IsOrder.l0 k l0 a1 y326 0) = some r := by first | (rw [hy326]; with_reducible exact H) | (have H2_ := (Option.bind_some _ _).symm.trans H; rw [hy326]; with_reducible exact H2_) | (have H2_ := (Option.bind_some _ _).symm.trans H; with_reducible exact H2_) | with_reducible exact H | (rw [hy326]; exact H) | exact H
    have Ny326 := Aa hy326; clear hy326; have H' := Aa H; clear H
    go_enter Tryz.func29, Tryz.ntmps29
    go_wp2_with (first | ((with_reducible refine gate_dst (N := 12) rfl ?_); refine Kd.R_make Kd.bool _ 4 rfl (N := 12) rfl 54 _ _ rfl a1 rfl rfl Tryz.underlying54 (.bool false) 1 info4 rfl (by decide) (by omega) false (ok := fun _ => True) (okp := fun _ => True) rfl (fun _ hk => hk) trivial (Od (by first | (with_reducible assumption) | assumption)) (Nat.le_trans (Nat.mul_le_mul_right _ (Od (by first | (with_reducible assumption) | assumption) : a1.toNat ≤ 281474976710656)) (by omega)) (Below.refl _ _) (Nat.le_refl _) ?_; intro v327 w6 ho7 hb hg_ hnew_; clear hg_ hnew_; (first | rw [← Ny326.out] at ho7 | (simp only [Int.reduceToNat] at ho7; rw [← Ny326.out] at ho7)); have n0_ := Aa (Kd.R_lower ho7 (below_size (by repeat (first | (with_reducible first | exact HB.out | apply Ba | apply Pn | apply Dn) | exact HB.out)))); have n1_ := Aa (Bp (by repeat (first | (with_reducible first | exact HB.out | apply Ba | apply Pn | apply Dn) | exact HB.out)) hb); clear HB; have HO328 := n0_; have HB := n1_; clear n0_ n1_; clear hb ho7))
    go_loopg [6] k (fun kq v6 w' => ∃ (x5_1 : List Bool) (x6_1 : Int), v6 = .int .i64 x6_1 ∧ Aside0 (rf_IsOrder.l0 kq l0 a1 x5_1 x6_1 = some r) ∧ Aside0 (kq ≤ k) ∧ Aside0 (Kd.R Kd.bool 4 w' w.heap.size (fun _ => True) v327 x5_1) ∧ Aside0 (Below w.heap.size w w'))
    case atStart => exact ⟨(y326), (0), (by first | rfl | (simp; done) | (simp [*]; done)), H', ⟨Nat.le_refl _⟩, ⟨by (with_reducible repeat (first | apply Kd.R_alloc | apply Kd.R_drewN | apply Kd.R_drew)); exact HO328.out⟩, ⟨by repeat (first | (with_reducible first | exact HB.out | apply Ba | apply Pn | apply Dn) | exact HB.out)⟩⟩
    case round =>
     clear H'; try clear c2
     try clear p2
     try clear c3
     try clear c3b0
     try clear c3b1
     try clear c4
     try clear c4b0
     try clear c4b1
     try clear c5
     try clear c5b0
     try clear c5b1
     obtain ⟨x5_1, x6_1, rfl, HA, HK1, HO_5, HB⟩ := hrel
     cases gk with
     | zero => exact absurd HA.out (by simp [rf_IsOrder.l0])
     | succ k1 =>
      have H := HA.out; clear HA; simp only [rf_IsOrder.l0] at H
      by_cases c8 : x6_1 < a1
      ·rw [if_pos c8] at H; have c8b0 : decide (x6_1 < a1) = true := decide_eq_true c8; clear c8
       by_cases c9 : 0 ≤ x6_1
       ·rw [if_pos c9] at H; have c9b0 : decide (0 ≤ x6_1) = true := decide_eq_true c9; clear c9
        by_cases c10 : x6_1 < (l0.length : Int)
        ·rw [if_pos c10] at H; have c10b0 : decide (x6_1 < (l0.length : Int)) = true := decide_eq_true c10; clear c10
         by_cases c11 : (rd l0 x6_1) < 0
         ·rw [if_pos c11] at H; have c11b0 : decide ((rd l0 x6_1) < 0) = true := decide_eq_true c11; clear c11; obtain rfl := Option.some.inj H; have p329 : 0 ≤ (x6_1 : Int) := Od (by first | (with_reducible assumption) | assumption); have q329 : x6_1 < (l0.length : Int) := Od (by first | (with_reducible assumption) | assumption); obtain ⟨ad329, e329, hx329_0⟩ := Kd.at_int HR0.out x6_1 p329 q329; cases e329; replace hx329_0 := (HB.out.cell (Wb w _ hx329_0)).trans hx329_0; replace p329 := eq_true p329; replace q329 := eq_true q329; go_wp2; go_ret; exact ⟨by first | rfl | (simp [errW_none, errW_some] <;> rfl) | (simp [*, errW_none, errW_some] <;> rfl), by repeat (first | (with_reducible first | exact HB.out | apply Ba | apply Pn | apply Dn) | exact HB.out)⟩
         ·rw [if_neg c11] at H; have c11b0 : decide ((rd l0 x6_1) < 0) = false := decide_eq_false c11; clear c11
          by_cases c12 : (rd l0 x6_1) ≥ a1
          ·rw [if_pos c12] at H; have c12b0 : decide (a1 ≤ (rd l0 x6_1)) = true := decide_eq_true c12; clear c12; obtain rfl := Option.some.inj H; have p329 : 0 ≤ (x6_1 : Int) := Od (by first | (with_reducible assumption) | assumption); have q329 : x6_1 < (l0.length : Int) := Od (by first | (with_reducible assumption) | assumption); obtain ⟨ad329, e329, hx329_0⟩ := Kd.at_int HR0.out x6_1 p329 q329; cases e329; replace hx329_0 := (HB.out.cell (Wb w _ hx329_0)).trans hx329_0; replace p329 := eq_true p329; replace q329 := eq_true q329; have p330 : 0 ≤ (x6_1 : Int) := Od (by first | (with_reducible assumption) | assumption); have q330 : x6_1 < (l0.length : Int) := Od (by first | (with_reducible assumption) | assumption); obtain ⟨ad330, e330, hx330_0⟩ := Kd.at_int HR0.out x6_1 p330 q330
           obtain rfl : ad329 = ad330 := (by injection e330)
           replace hx330_0 := (HB.out.cell (Wb w _ hx330_0)).trans hx330_0; replace p330 := eq_true p330; replace q330 := eq_true q330; go_wp2; go_ret; exact ⟨by first | rfl | (simp [errW_none, errW_some] <;> rfl) | (simp [*, errW_none, errW_some] <;> rfl), by repeat (first | (with_reducible first | exact HB.out | apply Ba | apply Pn | apply Dn) | exact HB.out)⟩
          ·rw [if_neg c12] at H; have c12b0 : decide (a1 ≤ (rd l0 x6_1)) = false := decide_eq_false c12; clear c12
           by_cases c13 : 0 ≤ (rd l0 x6_1)
           ·rw [if_pos c13] at H; have c13b0 : decide (0 ≤ (rd l0 x6_1)) = true := decide_eq_true c13; clear c13
            by_cases c14 : (rd l0 x6_1) < (x5_1.length : Int)
            ·rw [if_pos c14] at H; have c14b0 : decide ((rd l0 x6_1) < (x5_1.length : Int)) = true := decide_eq_true c14; clear c14
             obtain ⟨bq15, hbq15⟩ : ∃ b_ : Bool, b_ = (rdOf false x5_1 (rd l0 x6_1)) := ⟨_, rfl⟩
             replace H : (if bq15 = true then (some false) else (rf_IsOrder.l0 k1 l0 a1 (x5_1.set ((rd l0 x6_1) : Int).toNat true) (wrap64 (x6_1 + 1)))) = some r := by rw [← hbq15] at H; exact H
             have Nbq15 := Aa hbq15; clear hbq15
             by_cases c16 : bq15 = true
             ·subst c16
              have H1 : (some false) = some r := by rw [if_pos rfl] at H; exact H
              clear H; have H := H1; clear H1; obtain rfl := Option.some.inj H; have p329 : 0 ≤ (x6_1 : Int) := Od (by first | (with_reducible assumption) | assumption); have q329 : x6_1 < (l0.length : Int) := Od (by first | (with_reducible assumption) | assumption); obtain ⟨ad329, e329, hx329_0⟩ := Kd.at_int HR0.out x6_1 p329 q329; cases e329; replace hx329_0 := (HB.out.cell (Wb w _ hx329_0)).trans hx329_0; replace p329 := eq_true p329; replace q329 := eq_true q329; have p330 : 0 ≤ (x6_1 : Int) := Od (by first | (with_reducible assumption) | assumption); have q330 : x6_1 < (l0.length : Int) := Od (by first | (with_reducible assumption) | assumption); obtain ⟨ad330, e330, hx330_0⟩ := Kd.at_int HR0.out x6_1 p330 q330
              obtain rfl : ad329 = ad330 := (by injection e330)
              replace hx330_0 := (HB.out.cell (Wb w _ hx330_0)).trans hx330_0; replace p330 := eq_true p330; replace q330 := eq_true q330; have p331 : 0 ≤ (x6_1 : Int) := Od (by first | (with_reducible assumption) | assumption); have q331 : x6_1 < (l0.length : Int) := Od (by first | (with_reducible assumption) | assumption); obtain ⟨ad331, e331, hx331_0⟩ := Kd.at_int HR0.out x6_1 p331 q331
              obtain rfl : ad329 = ad331 := (by injection e331)
              replace hx331_0 := (HB.out.cell (Wb w _ hx331_0)).trans hx331_0; replace p331 := eq_true p331; replace q331 := eq_true q331; obtain ⟨Ao17, co17, eo17⟩ := Kd.R_slice HO_5.out; subst eo17; have p332 : 0 ≤ ((rd l0 x6_1) : Int) := Od (by first | (with_reducible assumption) | assumption); have q332 : (rd l0 x6_1) < (x5_1.length : Int) := Od (by first | (with_reducible assumption) | assumption); obtain ⟨ad332, e332, hx332_0⟩ := Kd.at_bool (Kd.R_reads' HO_5.out).2.2 (rd l0 x6_1) p332 q332
              (try rw [← Nbq15.out] at hx332_0)
              cases e332; replace p332 := eq_true p332; replace q332 := eq_true q332; go_wp2; go_ret; exact ⟨by first | rfl | (simp [errW_none, errW_some] <;> rfl) | (simp [*, errW_none, errW_some] <;> rfl), by repeat (first | (with_reducible first | exact HB.out | apply Ba | apply Pn | apply Dn) | exact HB.out)⟩
             ·replace c16 := Bool.eq_false_iff.mpr c16; subst c16
              have H1 : (rf_IsOrder.l0 k1 l0 a1 (x5_1.set ((rd l0 x6_1) : Int).toNat true) (wrap64 (x6_1 + 1))) = some r := by rw [if_neg (show ¬ (false = true) by decide)] at H; exact H
              clear H; have H := H1; clear H1
              obtain ⟨y334, hy334⟩ : ∃ y_ : List Bool, y_ = (x5_1.set ((rd l0 x6_1) : Int).toNat true) := ⟨_, rfl⟩
              replace H : (rf_IsOrder.l0 k1 l0 a1 y334 (wrap64 (x6_1 + 1))) = some r := by first | (rw [hy334]; with_reducible exact H) | (have H2_ := (Option.bind_some _ _).symm.trans H; rw [hy334]; with_reducible exact H2_) | (have H2_ := (Option.bind_some _ _).symm.trans H; with_reducible exact H2_) | with_reducible exact H | (rw [hy334]; exact H) | exact H
              have Ny334 := Aa hy334; clear hy334; have H' := Aa H; clear H; have p329 : 0 ≤ (x6_1 : Int) := Od (by first | (with_reducible assumption) | assumption); have q329 : x6_1 < (l0.length : Int) := Od (by first | (with_reducible assumption) | assumption); obtain ⟨ad329, e329, hx329_0⟩ := Kd.at_int HR0.out x6_1 p329 q329; cases e329; replace hx329_0 := (HB.out.cell (Wb w _ hx329_0)).trans hx329_0; replace p329 := eq_true p329; replace q329 := eq_true q329; have p330 : 0 ≤ (x6_1 : Int) := Od (by first | (with_reducible assumption) | assumption); have q330 : x6_1 < (l0.length : Int) := Od (by first | (with_reducible assumption) | assumption); obtain ⟨ad330, e330, hx330_0⟩ := Kd.at_int HR0.out x6_1 p330 q330
              obtain rfl : ad329 = ad330 := (by injection e330)
              replace hx330_0 := (HB.out.cell (Wb w _ hx330_0)).trans hx330_0; replace p330 := eq_true p330; replace q330 := eq_true q330; have p331 : 0 ≤ (x6_1 : Int) := Od (by first | (with_reducible assumption) | assumption); have q331 : x6_1 < (l0.length : Int) := Od (by first | (with_reducible assumption) | assumption); obtain ⟨ad331, e331, hx331_0⟩ := Kd.at_int HR0.out x6_1 p331 q331
              obtain rfl : ad329 = ad331 := (by injection e331)
              replace hx331_0 := (HB.out.cell (Wb w _ hx331_0)).trans hx331_0; replace p331 := eq_true p331; replace q331 := eq_true q331; obtain ⟨Ao19, co19, eo19⟩ := Kd.R_slice HO_5.out; subst eo19; have p332 : 0 ≤ ((rd l0 x6_1) : Int) := Od (by first | (with_reducible assumption) | assumption); have q332 : (rd l0 x6_1) < (x5_1.length : Int) := Od (by first | (with_reducible assumption) | assumption); obtain ⟨ad332, e332, hx332_0⟩ := Kd.at_bool (Kd.R_reads' HO_5.out).2.2 (rd l0 x6_1) p332 q332
              (try rw [← Nbq15.out] at hx332_0)
              cases e332; replace p332 := eq_true p332; replace q332 := eq_true q332; have p333 : 0 ≤ (x6_1 : Int) := Od (by first | (with_reducible assumption) | assumption); have q333 : x6_1 < (l0.length : Int) := Od (by first | (with_reducible assumption) | assumption); obtain ⟨ad333, e333, hx333_0⟩ := Kd.at_int HR0.out x6_1 p333 q333
              obtain rfl : ad329 = ad333 := (by injection e333)
              replace hx333_0 := (HB.out.cell (Wb w _ hx333_0)).trans hx333_0; replace p333 := eq_true p333; replace q333 := eq_true q333; have p18 : 0 ≤ ((rd l0 x6_1) : Int) := Od (by first | (with_reducible assumption) | assumption); have q18 : ((rd l0 x6_1) : Int) < ((x5_1.length : Int) : Int) := Od (by first | (with_reducible assumption) | assumption); obtain ⟨go18, co18, eo18, gb18, gl18, cl18, HG18⟩ := Kd.R_form HO_5.out (by omega)
              (first | cases eo18 | (injection eo18 with ea_ en_ ec_; (first | subst ea_ | (injection ea_ with ea_; subst ea_)); subst ec_; clear en_))
              have GB18 := Aa gb18; have GG18 := Aa HG18; clear gb18 gl18 HG18
              (first | simp only [add_plain] at hx332_0 | skip)
              obtain ⟨hx18_0, hf18_0⟩ := Kd.R_celln false HO_5.out ((rd l0 x6_1) : Int) p18 q18; replace p18 := eq_true p18; replace q18 := eq_true q18; have HP20 := Kd.R_putg HO_5.out ((rd l0 x6_1) : Int) true
              go_wp2_with (first | ((with_reducible refine gate_store (t := 4) (p := 45) rfl ?_); refine store_event (t := 4) (p := 45) (v := ?vo_w21) (w1 := (wr.setCell ⟨go18, ((rd l0 x6_1) : Int).toNat, none⟩ (.bool true))) ?hg ?ho ?hn ?hr ?_; (case ho => rfl); (case hg => rfl); (case hn => rfl); (case hr => first | (go_simp; done) | (go_simp; rfl)); intro w21 hw; have hg : wr.grownBy w21 (some go18) := (by rw [hw]; exact HP20.2); have hp_ : Kd.R Kd.bool 4 w21 w.heap.size (fun _ => True) (.slice (some ⟨go18, 0, none⟩) x5_1.length co19) y334 := (by rw [hw, Ny334.out]; exact HP20.1); clear HP20; have n0_ := Aa (hp_); have n1_ := Aa ((by rw [hw]; exact Bz (HB.out) GB18.out : Below w.heap.size w w21)); clear HO_5; clear HB; have HO_5 := n0_; have HB := n1_; clear n0_ n1_; clear hg hw hp_))
              go_roundg k1
              case measure => have := HK1.out; omega
              case rel => exact ⟨(y334), (wrap64 (x6_1 + 1)), (by first | rfl | (simp; done) | (simp [*]; done)), H', ⟨by have := HK1.out; omega⟩, ⟨by (with_reducible repeat (first | apply Kd.R_alloc | apply Kd.R_drewN | apply Kd.R_drew)); exact HO_5.out⟩, ⟨by repeat (first | (with_reducible first | exact HB.out | apply Ba | apply Pn | apply Dn) | exact HB.out)⟩⟩
            ·rw [if_neg c14] at H; exact absurd H (by simp)
           ·rw [if_neg c13] at H; exact absurd H (by simp)
        ·rw [if_neg c10] at H; exact absurd H (by simp)
       ·rw [if_neg c9] at H; exact absurd H (by simp)
      ·rw [if_neg c8] at H; have c8b0 : decide (x6_1 < a1) = false := decide_eq_false c8; clear c8; obtain rfl := Option.some.inj H; go_wp2; go_ret; exact ⟨by first | rfl | (simp [errW_none, errW_some] <;> rfl) | (simp [*, errW_none, errW_some] <;> rfl), by repeat (first | (with_reducible first | exact HB.out | apply Ba | apply Pn | apply Dn) | exact HB.out)⟩
   ·rw [if_neg c5] at H; exact absurd H (by simp)
  ·rw [if_neg c4] at H; exact absurd H (by simp)
 ·rw [if_neg c3] at H; have c3b0 : ((l0.length : Int) == a1) = false := beq_eq_false_iff_ne.mpr c3; have c3b1 : ((l0.length : Int) != a1) = true := bne_iff_ne.mpr c3; obtain rfl := Option.some.inj H
  go_enter Tryz.func29, Tryz.ntmps29
  go_wp2; go_ret; exact ⟨by first | rfl | (simp [errW_none, errW_some] <;> rfl) | (simp [*, errW_none, errW_some] <;> rfl), by repeat (first | (with_reducible first | exact HB.out | apply Ba | apply Pn | apply Dn) | exact HB.out)⟩
end
section
attribute [local go_sem] max2_int min2_int max_two min_two
def rf_more.f (l0 : List (S82)) (a1 : Int) (a2 : Int) : Option ((List (S82))) := (some (([] : List (S82)) : List (S82))).bind fun y172 => (if y172.length + l0.length < 4398046511104 then ((some (y172 ++ l0 : List (S82))).bind fun y175 => (if y175.length < 4398046511104 then (some (y175 ++ [(⟨a1, a2, 0, 2000000⟩ : S82)])) else (none))) else (none))
set_option maxHeartbeats 8000000 in
set_option maxRecDepth 100000 in
theorem rf_more.calls (A0 : Option Addr) (c0 : Nat) (l0 : List (S82)) (a1 : Int) (a2 : Int) (r : List (S82)) (w : World) (hr0 : Kd.C k82 w A0 l0.length l0) (hc0 : l0.length ≤ c0) (h : rf_more.f l0 a1 a2 = some r) :
  Calls Tryz.prog 51 #[.slice A0 l0.length c0, .int .i64 a1, .int .i64 a2] w fun e w' => ∃ v0_ : Value, e = .returned (v0_) ∧ Kd.R k82 82 w' w.heap.size (fun _ => True) v0_ r ∧ Below w.heap.size w w' := by
 have hu82 := Tryz.underlying82; have HR0 := Aa hr0; have HC0 := Aa hc0; clear hr0 hc0; have HB := Aa (Below.refl w.heap.size w); have H : ((some (([] : List (S82)) : List (S82))).bind fun y172 => (if y172.length + l0.length < 4398046511104 then ((some (y172 ++ l0 : List (S82))).bind fun y175 => (if y175.length < 4398046511104 then (some (y175 ++ [(⟨a1, a2, 0, 2000000⟩ : S82)])) else (none))) else (none))) = some r := h; clear h
 obtain ⟨y172, hy172⟩ : ∃ y_ : List (S82), y_ = (([] : List (S82))) := ⟨_, rfl⟩
 replace H : (if y172.length + l0.length < 4398046511104 then ((some (y172 ++ l0 : List (S82))).bind fun y175 => (if y175.length < 4398046511104 then (some (y175 ++ [(⟨a1, a2, 0, 2000000⟩ : S82)])) else (none))) else (none)) = some r := by first | (rw [hy172]; with_reducible exact H) | (have H2_ := (Option.bind_some _ _).symm.trans H; rw [hy172]; with_reducible exact H2_) | (have H2_ := (Option.bind_some _ _).symm.trans H; with_reducible exact H2_) | with_reducible exact H | (rw [hy172]; exact H) | exact H
 have Ny172 := Aa hy172; clear hy172
 by_cases c4 : y172.length + l0.length < 4398046511104
 ·rw [if_pos c4] at H; have LMc4 := Aa c4; clear c4
  obtain ⟨y175, hy175⟩ : ∃ y_ : List (S82), y_ = (y172 ++ l0) := ⟨_, rfl⟩
  replace H : (if y175.length < 4398046511104 then (some (y175 ++ [(⟨a1, a2, 0, 2000000⟩ : S82)])) else (none)) = some r := by first | (rw [hy175]; with_reducible exact H) | (have H2_ := (Option.bind_some _ _).symm.trans H; rw [hy175]; with_reducible exact H2_) | (have H2_ := (Option.bind_some _ _).symm.trans H; with_reducible exact H2_) | with_reducible exact H | (rw [hy175]; exact H) | exact H
  have Ny175 := Aa hy175; clear hy175
  by_cases c5 : y175.length < 4398046511104
  ·rw [if_pos c5] at H; have LMc5 := Aa c5; clear c5
   obtain ⟨y178, hy178⟩ : ∃ y_ : List (S82), y_ = (y175 ++ [(⟨a1, a2, 0, 2000000⟩ : S82)]) := ⟨_, rfl⟩
   replace H : (some y178) = some r := by first | (rw [hy178]; with_reducible exact H) | (have H2_ := (Option.bind_some _ _).symm.trans H; rw [hy178]; with_reducible exact H2_) | (have H2_ := (Option.bind_some _ _).symm.trans H; with_reducible exact H2_) | with_reducible exact H | (rw [hy178]; exact H) | exact H
   have Ny178 := Aa hy178; clear hy178; obtain rfl := Option.some.inj H
   go_enter Tryz.func51, Tryz.ntmps51
   go_wp2_with (first | ((with_reducible refine gate_dst (N := 7) rfl ?_); refine Kd.R_lit k82 _ 82 ?hg (N := 7) ?hd (xs := ([] : List (S82))) (inner := []) (ok := fun _ => True) (okp := fun _ => True) ?hr ?hp (fun _ hk => hk) trivial (Below.refl _ _) (Nat.le_refl _) (by simp) ?_; (case hd => rfl); (case hg => rfl); (case hr => first | (go_simp; done) | (go_simp; rfl)); (case hp => exact (Reps.none _ _)); intro v173 w6 ho7 hb hg_ hnew_; clear hg_ hnew_; (first | rw [← Ny172.out] at ho7 | (simp only [Int.reduceToNat] at ho7; rw [← Ny172.out] at ho7)); have n0_ := Aa (Kd.R_lower ho7 (below_size (by repeat (first | (with_reducible first | exact HB.out | apply Ba | apply Pn | apply Dn) | exact HB.out)))); have n1_ := Aa (Bp (by repeat (first | (with_reducible first | exact HB.out | apply Ba | apply Pn | apply Dn) | exact HB.out)) hb); clear HB; have HO174 := n0_; have HB := n1_; clear n0_ n1_; clear hb ho7) | ((with_reducible refine gate_builtin (b := .append) (xs := #[.tmp 7, .tmp 8]) rfl ?_); at_builtin; refine Kd.R_append_rows k82 (w0 := w) w.heap.size rfl (.tmp 7) (.tmp 8) 23 82 (.agg #[(.int .i64 0), (.int .i64 0), (.int .i64 0), (.int .i64 0)]) 32 rfl Tryz.underlying23 info82 rfl (by decide) (by omega) v173 y172 l0 _ _ _ (fun _ => True) (fun _ => False) rfl rfl ?aO ?aR (fun _ _ h => h) (fun _ h => h.elim) ?aF ?aB ?aS ?aL ?_; (case aR => repeat (first | exact (Kd.C_below HR0.out HB.out) | (with_reducible refine Kd.C_alloc ?_ _) | (with_reducible refine Kd.C_drewN ?_ _) | (with_reducible refine Kd.C_drew ?_))); (case aB => exact (by repeat (first | (with_reducible first | exact HB.out | apply Ba | apply Pn | apply Dn) | exact HB.out))); (case aF => exact (fun _ _ => trivial)); (case aO => exact (by (with_reducible repeat (first | apply Kd.R_alloc | apply Kd.R_drewN | apply Kd.R_drew)); exact HO174.out)); (case aS => exact (below_size (by repeat (first | (with_reducible first | exact HB.out | apply Ba | apply Pn | apply Dn) | exact HB.out)))); (case aL => have := LMc4.out; omega); intro v176 w8 ho hb hg hat; rw [← Ny175.out] at ho; have n0_ := Aa (hb); have n1_ := Aa (ho); clear HB; clear HO174; have HB := n0_; have HO177 := n1_; clear n0_ n1_; clear ho hb hg hat) | ((with_reducible refine gate_builtin (b := .append) (xs := #[.tmp 9, .tmp 13]) rfl ?_); at_builtin; refine Kd.R_append k82 (w0 := w) w.heap.size rfl (.tmp 9) (.tmp 13) 23 82 (.agg #[(.int .i64 0), (.int .i64 0), (.int .i64 0), (.int .i64 0)]) 32 rfl Tryz.underlying23 info82 rfl (by decide) (by omega) v176 y175 (⟨a1, a2, 0, 2000000⟩ : S82) [.int .i64 a1, .int .i64 a2, .int .i64 0, .int .i64 2000000] (fun _ => True) (fun _ => False) rfl rfl ?aP (fun _ hk => hk.elim) ?aF ?aO ?aB ?aS ?aL ?_; (case aP => exact k82_mkM _ _ _ (⟨a1, a2, 0, 2000000⟩ : S82)); (case aB => exact (by repeat (first | (with_reducible first | exact HB.out | apply Ba | apply Pn | apply Dn) | exact HB.out))); (case aF => exact (fun _ _ => trivial)); (case aO => exact (by (with_reducible repeat (first | apply Kd.R_alloc | apply Kd.R_drewN | apply Kd.R_drew)); exact HO177.out)); (case aS => exact (below_size (by repeat (first | (with_reducible first | exact HB.out | apply Ba | apply Pn | apply Dn) | exact HB.out)))); (case aL => have := LMc5.out; omega); intro v179 w9 ho hb hg hat; rw [← Ny178.out] at ho; have n0_ := Aa (hb); have n1_ := Aa (ho); clear HB; clear HO177; have HB := n0_; have HO180 := n1_; clear n0_ n1_; clear ho hb hg hat))
   go_ret; exact ⟨_, by first | rfl | (simp [errW_none, errW_some] <;> rfl) | (simp [*, errW_none, errW_some] <;> rfl), by (with_reducible repeat (first | apply Kd.R_alloc | apply Kd.R_drewN | apply Kd.R_drew)); exact HO180.out, by repeat (first | (with_reducible first | exact HB.out | apply Ba | apply Pn | apply Dn) | exact HB.out)⟩
  ·rw [if_neg c5] at H; exact absurd H (by simp)
 ·rw [if_neg c4] at H; exact absurd H (by simp)
end
section
attribute [local go_sem] max2_int min2_int max_two min_two
def rf_some.f (k : Nat) (l0_0 : List (S65)) (l0_1 : List (S82)) : Option (Int) := (rf_Solve.f k l0_0 l0_1).bind fun bt168 => (if bt168.2 = true then (some 0) else (some 5))
set_option maxHeartbeats 8000000 in
set_option maxRecDepth 100000 in
theorem rf_some.calls (k : Nat) (A0_0 : Option Addr) (c0_0 : Nat) (l0_0 : List (S65)) (A0_1 : Option Addr) (c0_1 : Nat) (l0_1 : List (S82)) (r : Int) (w : World) (hr0_0 : Kd.C k65 w A0_0 l0_0.length l0_0) (hc0_0 : l0_0.length ≤ c0_0) (hr0_1 : Kd.C k82 w A0_1 l0_1.length l0_1) (hc0_1 : l0_1.length ≤ c0_1) (h : rf_some.f k l0_0 l0_1 = some r) :
  Calls Tryz.prog 17 #[.agg #[.slice A0_0 l0_0.length c0_0, .slice A0_1 l0_1.length c0_1]] w fun e w' => e = .returned (.int .i64 r) ∧ Below w.heap.size w w' := by
 have hu25 := Tryz.underlying25; have HR0_0 := Aa hr0_0; have HC0_0 := Aa hc0_0; clear hr0_0 hc0_0; have HR0_1 := Aa hr0_1; have HC0_1 := Aa hc0_1; clear hr0_1 hc0_1; have HB := Aa (Below.refl w.heap.size w); have H : ((rf_Solve.f k l0_0 l0_1).bind fun bt168 => (if bt168.2 = true then (some 0) else (some 5))) = some r := h; clear h; replace H := Option.bind_eq_some_iff.mp H; obtain ⟨⟨t168, t169⟩, A20, H⟩ := H; replace H : (if t169 = true then (some 0) else (some 5)) = some r := H; have A2 := Aa A20; clear A20
 by_cases c3 : t169 = true
 ·subst c3
  have H1 : (some 0) = some r := by rw [if_pos rfl] at H; exact H
  clear H; have H := H1; clear H1; obtain rfl := Option.some.inj H
  go_enter Tryz.func17, Tryz.ntmps17
  go_wp2_with (first | ((with_reducible refine gate_dst (N := 1) rfl ?_); refine box_event ?hg (N := 1) ?hd (cs := #[.slice A0_0 l0_0.length c0_0, .slice A0_1 l0_1.length c0_1]) (t := 25) ?hr ?_; (case hd => rfl); (case hg => rfl); (case hr => first | (go_simp; done) | (go_simp; rfl)); intro gb167 hg w4 hbox hb; have n0_ := Aa (Bp (by repeat (first | (with_reducible first | exact HB.out | apply Ba | apply Pn | apply Dn) | exact HB.out)) hb); have n1_ := Aa (hbox); have n2_ := Aa ((by rw [hg]; exact (below_size (by repeat (first | (with_reducible first | exact HB.out | apply Ba | apply Pn | apply Dn) | exact HB.out))) : w.heap.size ≤ gb167)); have n3_ := Aa ((by rw [hg]; exact (below_size (by repeat (first | (with_reducible first | exact HB.out | apply Ba | apply Pn | apply Dn) | exact HB.out))) : w.heap.size ≤ gb167)); clear HB; have HB := n0_; have BK167 := n1_; have GW167 := n2_; have GE167 := n3_; clear n0_ n1_ n2_ n3_; clear hb hbox hg; have hcz5_0 : w4.cell? ⟨gb167, 0, none⟩ = some (.slice A0_0 l0_0.length c0_0) := (Bc BK167.out 0).trans rfl; have hcz5_1 : w4.cell? ⟨gb167, 1, none⟩ = some (.slice A0_1 l0_1.length c0_1) := (Bc BK167.out 1).trans rfl; have hfz5_0 := Bf BK167.out 0; have hfz5_1 := Bf BK167.out 1) | ((with_reducible refine gate_callee (f := 50) rfl ?_); refine goesL_ (some 10) rfl rfl Tryz.func50 (by kernel_rfl) rfl #[.slice A0_0 l0_0.length c0_0, .slice A0_1 l0_1.length c0_1] rfl (by (try simp only [List.map_toArray, List.map_cons, List.map_nil]); first | done | rfl | (simp only [List.length_drop, List.length_take]; rfl)) ?_; (with_reducible refine (rf_Solve.calls k _ _ l0_0 _ _ l0_1 t168 true _ ?side1 ?side2 ?side3 ?side4 A2.out).mono ?_); (case side1 => repeat (first | exact (Kd.C_below HR0_0.out HB.out) | (with_reducible refine Kd.C_alloc ?_ _) | (with_reducible refine Kd.C_drewN ?_ _) | (with_reducible refine Kd.C_drew ?_))); (case side2 => exact HC0_0.out); (case side3 => repeat (first | exact (Kd.C_below HR0_1.out HB.out) | (with_reducible refine Kd.C_alloc ?_ _) | (with_reducible refine Kd.C_drewN ?_ _) | (with_reducible refine Kd.C_drew ?_))); (case side4 => exact HC0_1.out); rintro e w6 ⟨v170, rfl, ho0, hb⟩; refine ⟨_, rfl, ?_⟩; have n0_ := Aa (Kd.R_lower ho0 (below_size (by repeat (first | (with_reducible first | exact HB.out | apply Ba | apply Pn | apply Dn | refine Bz ?_ GE167.out) | exact HB.out)))); have n1_ := Aa (blk_below (g := gb167) (o := .cells #[.slice A0_0 l0_0.length c0_0, .slice A0_1 l0_1.length c0_1] 25 (0, 0)) (by (with_reducible repeat (first | refine Kn ?_ _ | refine Kw ?_ | refine Ka ?_ _)); exact BK167.out) hb); have n2_ := Aa (Bp (by repeat (first | (with_reducible first | exact HB.out | apply Ba | apply Pn | apply Dn | refine Bz ?_ GE167.out) | exact HB.out)) hb); clear BK167; clear HB; have HO171 := n0_; have BK167 := n1_; have HB := n2_; clear n0_ n1_ n2_; (try clear hb); (try clear hb2); (try clear hk); (try clear hi); (try clear ho0)))
  go_ret; exact ⟨by first | rfl | (simp [errW_none, errW_some] <;> rfl) | (simp [*, errW_none, errW_some] <;> rfl), by repeat (first | (with_reducible first | exact HB.out | apply Ba | apply Pn | apply Dn | refine Bz ?_ GE167.out) | exact HB.out)⟩
 ·replace c3 := Bool.eq_false_iff.mpr c3; subst c3
  have H1 : (some 5) = some r := by rw [if_neg (show ¬ (false = true) by decide)] at H; exact H
  clear H; have H := H1; clear H1; obtain rfl := Option.some.inj H
  go_enter Tryz.func17, Tryz.ntmps17
  go_wp2_with (first | ((with_reducible refine gate_dst (N := 1) rfl ?_); refine box_event ?hg (N := 1) ?hd (cs := #[.slice A0_0 l0_0.length c0_0, .slice A0_1 l0_1.length c0_1]) (t := 25) ?hr ?_; (case hd => rfl); (case hg => rfl); (case hr => first | (go_simp; done) | (go_simp; rfl)); intro gb167 hg w7 hbox hb; have n0_ := Aa (Bp (by repeat (first | (with_reducible first | exact HB.out | apply Ba | apply Pn | apply Dn) | exact HB.out)) hb); have n1_ := Aa (hbox); have n2_ := Aa ((by rw [hg]; exact (below_size (by repeat (first | (with_reducible first | exact HB.out | apply Ba | apply Pn | apply Dn) | exact HB.out))) : w.heap.size ≤ gb167)); have n3_ := Aa ((by rw [hg]; exact (below_size (by repeat (first | (with_reducible first | exact HB.out | apply Ba | apply Pn | apply Dn) | exact HB.out))) : w.heap.size ≤ gb167)); clear HB; have HB := n0_; have BK167 := n1_; have GW167 := n2_; have GE167 := n3_; clear n0_ n1_ n2_ n3_; clear hb hbox hg; have hcz8_0 : w7.cell? ⟨gb167, 0, none⟩ = some (.slice A0_0 l0_0.length c0_0) := (Bc BK167.out 0).trans rfl; have hcz8_1 : w7.cell? ⟨gb167, 1, none⟩ = some (.slice A0_1 l0_1.length c0_1) := (Bc BK167.out 1).trans rfl; have hfz8_0 := Bf BK167.out 0; have hfz8_1 := Bf BK167.out 1) | ((with_reducible refine gate_callee (f := 50) rfl ?_); refine goesL_ (some 10) rfl rfl Tryz.func50 (by kernel_rfl) rfl #[.slice A0_0 l0_0.length c0_0, .slice A0_1 l0_1.length c0_1] rfl (by (try simp only [List.map_toArray, List.map_cons, List.map_nil]); first | done | rfl | (simp only [List.length_drop, List.length_take]; rfl)) ?_; (with_reducible refine (rf_Solve.calls k _ _ l0_0 _ _ l0_1 t168 false _ ?side1 ?side2 ?side3 ?side4 A2.out).mono ?_); (case side1 => repeat (first | exact (Kd.C_below HR0_0.out HB.out) | (with_reducible refine Kd.C_alloc ?_ _) | (with_reducible refine Kd.C_drewN ?_ _) | (with_reducible refine Kd.C_drew ?_))); (case side2 => exact HC0_0.out); (case side3 => repeat (first | exact (Kd.C_below HR0_1.out HB.out) | (with_reducible refine Kd.C_alloc ?_ _) | (with_reducible refine Kd.C_drewN ?_ _) | (with_reducible refine Kd.C_drew ?_))); (case side4 => exact HC0_1.out); rintro e w9 ⟨v170, rfl, ho0, hb⟩; refine ⟨_, rfl, ?_⟩; have n0_ := Aa (Kd.R_lower ho0 (below_size (by repeat (first | (with_reducible first | exact HB.out | apply Ba | apply Pn | apply Dn | refine Bz ?_ GE167.out) | exact HB.out)))); have n1_ := Aa (blk_below (g := gb167) (o := .cells #[.slice A0_0 l0_0.length c0_0, .slice A0_1 l0_1.length c0_1] 25 (0, 0)) (by (with_reducible repeat (first | refine Kn ?_ _ | refine Kw ?_ | refine Ka ?_ _)); exact BK167.out) hb); have n2_ := Aa (Bp (by repeat (first | (with_reducible first | exact HB.out | apply Ba | apply Pn | apply Dn | refine Bz ?_ GE167.out) | exact HB.out)) hb); clear BK167; clear HB; have HO171 := n0_; have BK167 := n1_; have HB := n2_; clear n0_ n1_ n2_; (try clear hb); (try clear hb2); (try clear hk); (try clear hi); (try clear ho0)))
  go_ret; exact ⟨by first | rfl | (simp [errW_none, errW_some] <;> rfl) | (simp [*, errW_none, errW_some] <;> rfl), by repeat (first | (with_reducible first | exact HB.out | apply Ba | apply Pn | apply Dn | refine Bz ?_ GE167.out) | exact HB.out)⟩
end
section
attribute [local go_sem] max2_int min2_int max_two min_two
def rf_SureOf.f (k : Nat) (l0_0 : List (S65)) (l0_1 : List (S82)) (a1 : Int) (a2 : Int) : Option (Bool) := if a1 = a2 then (some false) else ((rf_more.f l0_1 a2 a1).bind fun t182 => ((rf_Solve.f k l0_0 t182).bind fun bt185 => (some (!bt185.2))))
def rf_SureOf.T3 : Bool × List (List Nat × List Nat) := (true, [([], []), ([0], [0]), ([], []), ([2], [2]), ([], []), ([], []), ([3, 4, 5], [3, 4, 5]), ([1, 6, 6], [1, 6]), ([7], [7]), ([8], [8]), ([8], [8]), ([9, 7, 0, 1, 2, 3, 4, 5, 6, 7, 8, 9], [9]), ([10, 11, 0, 1, 2, 3, 4, 5, 6, 7, 8, 9, 10, 11], [10])])
def rf_SureOf.B3 : List Nat := [0, 1, 0, 4, 0, 0, 60, 127, 255, 511, 511, 1023, 4095]
theorem rf_SureOf.tab3 : rtab .any (opsOf Tryz.f18 3) = rf_SureOf.T3 := by kernel_rfl
theorem rf_SureOf.bits3 : waitsOk rf_SureOf.T3.2 rf_SureOf.B3 = true := by kernel_rfl
set_option maxHeartbeats 8000000 in
set_option maxRecDepth 100000 in
theorem rf_SureOf.calls (k : Nat) (A0_0 : Option Addr) (c0_0 : Nat) (l0_0 : List (S65)) (A0_1 : Option Addr) (c0_1 : Nat) (l0_1 : List (S82)) (a1 : Int) (a2 : Int) (r : Bool) (w : World) (hr0_0 : Kd.C k65 w A0_0 l0_0.length l0_0) (hc0_0 : l0_0.length ≤ c0_0) (hr0_1 : Kd.C k82 w A0_1 l0_1.length l0_1) (hc0_1 : l0_1.length ≤ c0_1) (h : rf_SureOf.f k l0_0 l0_1 a1 a2 = some r) :
  Calls Tryz.prog 18 #[.agg #[.slice A0_0 l0_0.length c0_0, .slice A0_1 l0_1.length c0_1], .int .i64 a1, .int .i64 a2] w fun e w' => e = .returned (.bool r) ∧ Below w.heap.size w w' := by
 have hu25 := Tryz.underlying25; have HR0_0 := Aa hr0_0; have HC0_0 := Aa hc0_0; clear hr0_0 hc0_0; have HR0_1 := Aa hr0_1; have HC0_1 := Aa hc0_1; clear hr0_1 hc0_1; have HB := Aa (Below.refl w.heap.size w); have H : (if a1 = a2 then (some false) else ((rf_more.f l0_1 a2 a1).bind fun t182 => ((rf_Solve.f k l0_0 t182).bind fun bt185 => (some (!bt185.2))))) = some r := h; clear h
 by_cases c4 : a1 = a2
 ·rw [if_pos c4] at H; have c4b0 : (a1 == a2) = true := beq_iff_eq.mpr c4; have c4b1 : (a1 != a2) = false := bne_eq_false_iff_eq.mpr c4; clear c4; obtain rfl := Option.some.inj H
  go_enter Tryz.func18, Tryz.ntmps18
  go_wp2_with (first | ((with_reducible refine gate_dst (N := 3) rfl ?_); refine box_event ?hg (N := 3) ?hd (cs := #[.slice A0_0 l0_0.length c0_0, .slice A0_1 l0_1.length c0_1]) (t := 25) ?hr ?_; (case hd => rfl); (case hg => rfl); (case hr => first | (go_simp; done) | (go_simp; rfl)); intro gb181 hg w5 hbox hb; have n0_ := Aa (Bp (by repeat (first | (with_reducible first | exact HB.out | apply Ba | apply Pn | apply Dn) | exact HB.out)) hb); have n1_ := Aa (hbox); have n2_ := Aa ((by rw [hg]; exact (below_size (by repeat (first | (with_reducible first | exact HB.out | apply Ba | apply Pn | apply Dn) | exact HB.out))) : w.heap.size ≤ gb181)); have n3_ := Aa ((by rw [hg]; exact (below_size (by repeat (first | (with_reducible first | exact HB.out | apply Ba | apply Pn | apply Dn) | exact HB.out))) : w.heap.size ≤ gb181)); clear HB; have HB := n0_; have BK181 := n1_; have GW181 := n2_; have GE181 := n3_; clear n0_ n1_ n2_ n3_; clear hb hbox hg))
  go_ret; exact ⟨by first | rfl | (simp [errW_none, errW_some] <;> rfl) | (simp [*, errW_none, errW_some] <;> rfl), by repeat (first | (with_reducible first | exact HB.out | apply Ba | apply Pn | apply Dn | refine Bz ?_ GE181.out) | exact HB.out)⟩
 ·rw [if_neg c4] at H; have c4b0 : (a1 == a2) = false := beq_eq_false_iff_ne.mpr c4; have c4b1 : (a1 != a2) = true := bne_iff_ne.mpr c4; replace H := Option.bind_eq_some_iff.mp H; obtain ⟨t182, A60, H⟩ := H; replace H : ((rf_Solve.f k l0_0 t182).bind fun bt185 => (some (!bt185.2))) = some r := H; have A6 := Aa A60; clear A60; replace H := Option.bind_eq_some_iff.mp H; obtain ⟨⟨t185, t186⟩, A70, H⟩ := H; replace H : (some (!t186)) = some r := H; have A7 := Aa A70; clear A70; obtain rfl := Option.some.inj H
  go_enter Tryz.func18, Tryz.ntmps18
  try go_wp2_with (first | ((with_reducible refine gate_dst (N := 3) rfl ?_); refine box_event ?hg (N := 3) ?hd (cs := #[.slice A0_0 l0_0.length c0_0, .slice A0_1 l0_1.length c0_1]) (t := 25) ?hr ?_; (case hd => rfl); (case hg => rfl); (case hr => first | (go_simp; done) | (go_simp; rfl)); intro gb181 hg w8 hbox hb; have n0_ := Aa (Bp (by repeat (first | (with_reducible first | exact HB.out | apply Ba | apply Pn | apply Dn) | exact HB.out)) hb); have n1_ := Aa (hbox); have n2_ := Aa ((by rw [hg]; exact (below_size (by repeat (first | (with_reducible first | exact HB.out | apply Ba | apply Pn | apply Dn) | exact HB.out))) : w.heap.size ≤ gb181)); have n3_ := Aa ((by rw [hg]; exact (below_size (by repeat (first | (with_reducible first | exact HB.out | apply Ba | apply Pn | apply Dn) | exact HB.out))) : w.heap.size ≤ gb181)); clear HB; have HB := n0_; have BK181 := n1_; have GW181 := n2_; have GE181 := n3_; clear n0_ n1_ n2_ n3_; clear hb hbox hg))
  have n0_ := Aa (Kw BK181.out); have n1_ := Aa (Dn HB.out); clear BK181; clear HB; have BK181 := n0_; have HB := n1_; clear n0_ n1_; refine start_ (n := 13) (S := fun w' => w'.cell? ⟨gb181, 0, none⟩ = some (.slice A0_0 l0_0.length c0_0) ∧ w'.cell? ⟨gb181, 1, none⟩ = some (.slice A0_1 l0_1.length c0_1)) (ds := []) #[false, false, false, false, false, false, false, false, false, false, false, false, false] (by kernel_rfl) rfl rfl ⟨(Bc BK181.out 0).trans rfl, (Bc BK181.out 1).trans rfl⟩ (fun hHeld => ?_); refine with_tabW rf_SureOf.tab3 rf_SureOf.bits3 (fun HT_ HW_ => ?_); generalize w8.drew = w9 at BK181 HB hHeld ⊢; refine pure_ (i := 0) (N := some 13) (v := ?_) (a' := ?_) #[true, false, false, false, false, false, false, false, false, false, false, false, false] rfl rfl (any_of HT_.out (by kernel_rfl)) (fun _ _ _ h => h) (Or.inl ⟨by rfl, ?_⟩) ?_ ?_; rotate_left
  ·intro w'; go_simp; with_reducible rfl
  rotate_left
  ·simp only [Act.put, Sa, Sb, Sc, i64_w, i32_w]; rfl
  refine pure_ (i := 2) (N := some 15) (v := ?_) (a' := ?_) #[true, false, true, false, false, false, false, false, false, false, false, false, false] rfl rfl (any_of HT_.out (by kernel_rfl)) (fun _ _ _ h => h) (Or.inl ⟨by rfl, ?_⟩) ?_ ?_; rotate_left
  ·intro w'; go_simp; with_reducible rfl
  rotate_left
  ·simp only [Act.put, Sa, Sb, Sc, i64_w, i32_w]; rfl
  refine pure_ (i := 4) (N := some 17) (v := ?_) (a' := ?_) #[true, false, true, false, true, false, false, false, false, false, false, false, false] rfl rfl (any_of HT_.out (by kernel_rfl)) (fun _ _ _ h => h) (Or.inl ⟨by rfl, ?_⟩) ?_ ?_; rotate_left
  ·intro w'; go_simp; with_reducible rfl
  rotate_left
  ·simp only [Act.put, Sa, Sb, Sc, i64_w, i32_w]; rfl
  refine pure_ (i := 5) (N := some 18) (v := ?_) (a' := ?_) #[true, false, true, false, true, true, false, false, false, false, false, false, false] rfl rfl (any_of HT_.out (by kernel_rfl)) (fun _ _ _ h => h) (Or.inl ⟨by rfl, ?_⟩) ?_ ?_; rotate_left
  ·intro w'; go_simp; with_reducible rfl
  rotate_left
  ·simp only [Act.put, Sa, Sb, Sc, i64_w, i32_w]; rfl
  refine take_ (i := 1) (N := some 14) (v := ?_) (a' := ?_) #[true, true, true, false, true, true, false, false, false, false, false, false, false] rfl rfl (take_ofW HT_.out HW_.out (by kernel_rfl)) (fun _ _ _ h => h) (Or.inl ⟨by rfl, ?_⟩) hHeld ?_ ?_; rotate_left
  ·rintro w' ⟨s0, s1⟩; go_simp; with_reducible rfl
  rotate_left
  ·simp only [Act.put, Sa, Sb, Sc, i64_w, i32_w]; rfl
  refine take_ (i := 3) (N := some 16) (v := ?_) (a' := ?_) #[true, true, true, true, true, true, false, false, false, false, false, false, false] rfl rfl (take_ofW HT_.out HW_.out (by kernel_rfl)) (fun _ _ _ h => h) (Or.inl ⟨by rfl, ?_⟩) hHeld ?_ ?_; rotate_left
  ·rintro w' ⟨s0, s1⟩; go_simp; with_reducible rfl
  rotate_left
  ·simp only [Act.put, Sa, Sb, Sc, i64_w, i32_w]; rfl
  refine one_ (i := 6) (N := some 19) #[true, true, true, true, true, true, true, false, false, false, false, false, false] rfl rfl (one_of HT_.out (by kernel_rfl)) (by decide) (fun K hK => ?_); refine goes_ Tryz.func51 (by kernel_rfl) rfl #[.slice A0_1 l0_1.length c0_1, .int .i64 a2, .int .i64 a1] (by rfl) rfl rfl (by (try simp only [List.map_toArray, List.map_cons, List.map_nil]); first | done | rfl | (simp only [List.length_drop, List.length_take]; rfl)) ?_; with_reducible refine (rf_more.calls _ _ l0_1 a2 a1 t182 _ ?side1 ?side2 A6.out).mono ?_
  (case side1 => repeat (first | exact (Kd.C_below HR0_1.out HB.out) | (with_reducible refine Kd.C_alloc ?_ _) | (with_reducible refine Kd.C_drewN ?_ _) | (with_reducible refine Kd.C_drew ?_)))
  (case side2 => exact HC0_1.out)
  rintro e w10 ⟨v183, rfl, ho0, hb⟩; refine ⟨_, rfl, ?_⟩; have n0_ := Aa (Kd.R_lower ho0 (below_size (by repeat (first | (with_reducible first | exact HB.out | apply Ba | apply Pn | apply Dn | refine Bz ?_ GE181.out) | exact HB.out)))); have n1_ := Aa (blk_below (g := gb181) (o := .cells #[.slice A0_0 l0_0.length c0_0, .slice A0_1 l0_1.length c0_1] 25 (0, 0)) (by (with_reducible repeat (first | refine Kn ?_ _ | refine Kw ?_ | refine Ka ?_ _)); exact BK181.out) hb); have n2_ := Aa (Bp (by repeat (first | (with_reducible first | exact HB.out | apply Ba | apply Pn | apply Dn | refine Bz ?_ GE181.out) | exact HB.out)) hb); clear BK181; clear HB; have HO184 := n0_; have BK181 := n1_; have HB := n2_; clear n0_ n1_ n2_
  (try clear hb)
  (try clear hb2)
  (try clear hk)
  (try clear hi)
  (try clear ho0)
  obtain ⟨Ao11, co11, eo11⟩ := Kd.R_slice HO184.out
  (first | subst eo11 | (injection eo11 with f1_ f2_ f3_; have f4_ := f1_.symm; have f5_ := f3_.symm; clear f1_ f2_ f3_; subst f4_; subst f5_))
  refine hK.out _ _ ⟨(Bc BK181.out 0).trans rfl, (Bc BK181.out 1).trans rfl⟩ (fun hHeld => ?_); clear hK K; refine norm_ (a' := ?_) ?_ ?_; rotate_left
  ·show Act.put _ (some 19) _ = _; simp only [Act.put, Sa, Sb, Sc, i64_w, i32_w]; rfl
  refine one_ (i := 7) (N := some 20) #[true, true, true, true, true, true, true, true, false, false, false, false, false] rfl rfl (one_of HT_.out (by kernel_rfl)) (by decide) (fun K hK => ?_); refine goes_ Tryz.func50 (by kernel_rfl) rfl #[.slice A0_0 l0_0.length c0_0, .slice Ao11 t182.length co11] (by rfl) rfl rfl (by (try simp only [List.map_toArray, List.map_cons, List.map_nil]); first | done | rfl | (simp only [List.length_drop, List.length_take]; rfl)) ?_; with_reducible refine (rf_Solve.calls k _ _ l0_0 _ _ t182 t185 t186 _ ?side1 ?side2 ?side3 ?side4 A7.out).mono ?_
  (case side1 => repeat (first | exact (Kd.C_below HR0_0.out HB.out) | (with_reducible refine Kd.C_alloc ?_ _) | (with_reducible refine Kd.C_drewN ?_ _) | (with_reducible refine Kd.C_drew ?_)))
  (case side2 => exact HC0_0.out)
  (case side3 => repeat (first | exact (Kd.R_reads' HO184.out).2.2 | (with_reducible refine Kd.C_alloc ?_ _) | (with_reducible refine Kd.C_drewN ?_ _) | (with_reducible refine Kd.C_drew ?_)))
  (case side4 => exact (Kd.R_reads' HO184.out).2.1)
  rintro e w12 ⟨v187, rfl, ho0, hb⟩; refine ⟨_, rfl, ?_⟩; have n0_ := Aa (Kd.R_below (by (with_reducible repeat (first | apply Kd.R_alloc | apply Kd.R_drewN | apply Kd.R_drew)); exact HO184.out) hb); have n1_ := Aa (Kd.R_lower ho0 (below_size (by repeat (first | (with_reducible first | exact HB.out | apply Ba | apply Pn | apply Dn | refine Bz ?_ GE181.out) | exact HB.out)))); have n2_ := Aa (blk_below (g := gb181) (o := .cells #[.slice A0_0 l0_0.length c0_0, .slice A0_1 l0_1.length c0_1] 25 (0, 0)) (by (with_reducible repeat (first | refine Kn ?_ _ | refine Kw ?_ | refine Ka ?_ _)); exact BK181.out) hb); have n3_ := Aa (Bp (by repeat (first | (with_reducible first | exact HB.out | apply Ba | apply Pn | apply Dn | refine Bz ?_ GE181.out) | exact HB.out)) hb); clear HO184; clear BK181; clear HB; have HO184 := n0_; have HO188 := n1_; have BK181 := n2_; have HB := n3_; clear n0_ n1_ n2_ n3_
  (try clear hb)
  (try clear hb2)
  (try clear hk)
  (try clear hi)
  (try clear ho0)
  refine hK.out _ _ ⟨(Bc BK181.out 0).trans rfl, (Bc BK181.out 1).trans rfl⟩ (fun hHeld => ?_); clear hK K; refine norm_ (a' := ?_) ?_ ?_; rotate_left
  ·show Act.put _ (some 20) _ = _; simp only [Act.put, Sa, Sb, Sc, i64_w, i32_w]; rfl
  refine pure_ (i := 8) (N := some 12) (v := ?_) (a' := ?_) #[true, true, true, true, true, true, true, true, true, false, false, false, false] rfl rfl (any_of HT_.out (by kernel_rfl)) (fun _ _ _ h => h) (Or.inl ⟨by rfl, ?_⟩) ?_ ?_; rotate_left
  ·intro w'; go_simp; with_reducible rfl
  rotate_left
  ·simp only [Act.put, Sa, Sb, Sc, i64_w, i32_w]; rfl
  refine pure_ (i := 9) (N := some 21) (v := ?_) (a' := ?_) #[true, true, true, true, true, true, true, true, true, true, false, false, false] rfl rfl (any_of HT_.out (by kernel_rfl)) (fun _ _ _ h => h) (Or.inl ⟨by rfl, ?_⟩) ?_ ?_; rotate_left
  ·intro w'; go_simp; with_reducible rfl
  rotate_left
  ·simp only [Act.put, Sa, Sb, Sc, i64_w, i32_w]; rfl
  refine pure_ (i := 10) (N := some 22) (v := ?_) (a' := ?_) #[true, true, true, true, true, true, true, true, true, true, true, false, false] rfl rfl (any_of HT_.out (by kernel_rfl)) (fun _ _ _ h => h) (Or.inl ⟨by rfl, ?_⟩) ?_ ?_; rotate_left
  ·intro w'; go_simp; with_reducible rfl
  rotate_left
  ·simp only [Act.put, Sa, Sb, Sc, i64_w, i32_w]; rfl
  refine pure_ (i := 11) (N := some 7) (v := ?_) (a' := ?_) #[true, true, true, true, true, true, true, true, true, true, true, true, false] rfl rfl (any_of HT_.out (by kernel_rfl)) (fun _ _ _ h => h) (Or.inl ⟨by rfl, ?_⟩) ?_ ?_; rotate_left
  ·intro w'; go_simp; with_reducible rfl
  rotate_left
  ·simp only [Act.put, Sa, Sb, Sc, i64_w, i32_w]; rfl
  refine pure_ (i := 12) (N := some 8) (v := ?_) (a' := ?_) #[true, true, true, true, true, true, true, true, true, true, true, true, true] rfl rfl (any_of HT_.out (by kernel_rfl)) (fun _ _ _ h => h) (Or.inl ⟨by rfl, ?_⟩) ?_ ?_; rotate_left
  ·intro w'; go_simp; with_reducible rfl
  rotate_left
  ·simp only [Act.put, Sa, Sb, Sc, i64_w, i32_w]; rfl
  refine done_ (done_of HT_.out (by kernel_rfl)) ?_; try go_wp2
  go_ret; exact ⟨by first | rfl | (simp [errW_none, errW_some] <;> rfl) | (simp [*, errW_none, errW_some] <;> rfl), by repeat (first | (with_reducible first | exact HB.out | apply Ba | apply Pn | apply Dn | refine Bz ?_ GE181.out) | exact HB.out)⟩
end
section
attribute [local go_sem] max2_int min2_int max_two min_two
def rf_Sure.j0 : Nat → Int → Int → Bool → List (S65) → List (S82) → Option (Bool × Int)
 | 0, _, _, _, _, _ => none
 | k + 1, x1, x2, x33, x190000, x190001 => if x33 = true then (some (false, 2)) else ((rf_some.f k x190000 x190001).bind fun t191 => (if t191 = 0 then ((rf_SureOf.f k x190000 x190001 x1 x2).bind fun t192 => (some (t192, 0))) else (some (false, t191))))
def rf_Sure.f (k : Nat) (l0_0 : List (S65)) (l0_1 : List (S82)) (a1 : Int) (a2 : Int) : Option (Bool × Int) := (rf_Hist.f k l0_0 l0_1).bind fun t190 => (if t190 = true then (if a1 < 0 then (rf_Sure.j0 k a1 a2 true l0_0 l0_1) else (if a1 ≥ (l0_0.length : Int) then (rf_Sure.j0 k a1 a2 true l0_0 l0_1) else (if a2 < 0 then (rf_Sure.j0 k a1 a2 true l0_0 l0_1) else (rf_Sure.j0 k a1 a2 (decide (a2 ≥ (l0_0.length : Int))) l0_0 l0_1)))) else (rf_Sure.j0 k a1 a2 true l0_0 l0_1))
set_option maxHeartbeats 8000000 in
set_option maxRecDepth 100000 in
theorem rf_Sure.calls (k : Nat) (A0_0 : Option Addr) (c0_0 : Nat) (l0_0 : List (S65)) (A0_1 : Option Addr) (c0_1 : Nat) (l0_1 : List (S82)) (a1 : Int) (a2 : Int) (r1 : Bool) (r2 : Int) (w : World) (hr0_0 : Kd.C k65 w A0_0 l0_0.length l0_0) (hc0_0 : l0_0.length ≤ c0_0) (hr0_1 : Kd.C k82 w A0_1 l0_1.length l0_1) (hc0_1 : l0_1.length ≤ c0_1) (h : rf_Sure.f k l0_0 l0_1 a1 a2 = some (r1, r2)) :
  Calls Tryz.prog 5 #[.agg #[.slice A0_0 l0_0.length c0_0, .slice A0_1 l0_1.length c0_1], .int .i64 a1, .int .i64 a2] w fun e w' => e = .returned (.tuple #[.bool r1, .int .i64 r2]) ∧ Below w.heap.size w w' := by
 have hu25 := Tryz.underlying25; have HR0_0 := Aa hr0_0; have HC0_0 := Aa hc0_0; clear hr0_0 hc0_0; have HR0_1 := Aa hr0_1; have HC0_1 := Aa hc0_1; clear hr0_1 hc0_1; have HB := Aa (Below.refl w.heap.size w); have H : ((rf_Hist.f k l0_0 l0_1).bind fun t190 => (if t190 = true then (if a1 < 0 then (rf_Sure.j0 k a1 a2 true l0_0 l0_1) else (if a1 ≥ (l0_0.length : Int) then (rf_Sure.j0 k a1 a2 true l0_0 l0_1) else (if a2 < 0 then (rf_Sure.j0 k a1 a2 true l0_0 l0_1) else (rf_Sure.j0 k a1 a2 (decide (a2 ≥ (l0_0.length : Int))) l0_0 l0_1)))) else (rf_Sure.j0 k a1 a2 true l0_0 l0_1))) = some (r1, r2) := h; clear h; have HC4 := Aa H; clear H
 go_enter Tryz.func5, Tryz.ntmps5
 go_upto_region 1 with (first | ((with_reducible refine gate_dst (N := 3) rfl ?_); (try (refine gate_guard (by rfl) ?_; dsimp only)); refine box_event ?hg (N := 3) ?hd (cs := #[.slice A0_0 l0_0.length c0_0, .slice A0_1 l0_1.length c0_1]) (t := 25) ?hr ?_; (case hd => rfl); (case hg => rfl); (case hr => first | (go_simp; done) | (go_simp; rfl)); intro gb189 hg w5 hbox hb; have n0_ := Aa (Bp (by repeat (first | (with_reducible first | exact HB.out | apply Ba | apply Pn | apply Dn) | exact HB.out)) hb); have n1_ := Aa (hbox); have n2_ := Aa ((by rw [hg]; exact (below_size (by repeat (first | (with_reducible first | exact HB.out | apply Ba | apply Pn | apply Dn) | exact HB.out))) : w.heap.size ≤ gb189)); have n3_ := Aa ((by rw [hg]; exact (below_size (by repeat (first | (with_reducible first | exact HB.out | apply Ba | apply Pn | apply Dn) | exact HB.out))) : w.heap.size ≤ gb189)); clear HB; have HB := n0_; have BK189 := n1_; have GW189 := n2_; have GE189 := n3_; clear n0_ n1_ n2_ n3_; clear hb hbox hg))
 (try simp only [Act.put, Sa, Sb, Sc])
 go_cut [33] (fun v33 wc => ∃ (kq : Nat) (x33_3 : Bool), v33 = .bool x33_3 ∧ Aside0 (rf_Sure.j0 kq a1 a2 x33_3 l0_0 l0_1 = some (r1, r2)) ∧ Aside0 (kq ≤ k) ∧ Aside0 (wc.heap[gb189]? = some (.cells #[(.slice A0_0 l0_0.length c0_0), (.slice A0_1 l0_1.length c0_1)] 25 (0, 0))) ∧ Aside0 (Below w.heap.size w wc))
 case first =>
  have H := HC4.out; clear HC4; replace H := Option.bind_eq_some_iff.mp H; obtain ⟨t190, A60, H⟩ := H; replace H : (if t190 = true then (if a1 < 0 then (rf_Sure.j0 k a1 a2 true l0_0 l0_1) else (if a1 ≥ (l0_0.length : Int) then (rf_Sure.j0 k a1 a2 true l0_0 l0_1) else (if a2 < 0 then (rf_Sure.j0 k a1 a2 true l0_0 l0_1) else (rf_Sure.j0 k a1 a2 (decide (a2 ≥ (l0_0.length : Int))) l0_0 l0_1)))) else (rf_Sure.j0 k a1 a2 true l0_0 l0_1)) = some (r1, r2) := H; have A6 := Aa A60; clear A60
  by_cases c7 : t190 = true
  ·subst c7
   have H1 : (if a1 < 0 then (rf_Sure.j0 k a1 a2 true l0_0 l0_1) else (if a1 ≥ (l0_0.length : Int) then (rf_Sure.j0 k a1 a2 true l0_0 l0_1) else (if a2 < 0 then (rf_Sure.j0 k a1 a2 true l0_0 l0_1) else (rf_Sure.j0 k a1 a2 (decide (a2 ≥ (l0_0.length : Int))) l0_0 l0_1)))) = some (r1, r2) := by rw [if_pos rfl] at H; exact H
   clear H; have H := H1; clear H1
   by_cases c8 : a1 < 0
   ·rw [if_pos c8] at H; have c8b0 : decide (a1 < 0) = true := decide_eq_true c8; clear c8
    (first | rw [c8b0] | (simp only [i64_w, i32_w]; rw [c8b0]) | skip)
    have H' := Aa H; clear H; have hcz9_0 : w5.cell? ⟨gb189, 0, none⟩ = some (.slice A0_0 l0_0.length c0_0) := (Bc BK189.out 0).trans rfl; have hcz9_1 : w5.cell? ⟨gb189, 1, none⟩ = some (.slice A0_1 l0_1.length c0_1) := (Bc BK189.out 1).trans rfl; have hfz9_0 := Bf BK189.out 0; have hfz9_1 := Bf BK189.out 1
    go_wp2_with (first | ((with_reducible refine gate_callee (f := 16) rfl ?_); refine goesL_ (some 10) rfl rfl Tryz.func16 (by kernel_rfl) rfl #[.agg #[.slice A0_0 l0_0.length c0_0, .slice A0_1 l0_1.length c0_1]] rfl (by (try simp only [List.map_toArray, List.map_cons, List.map_nil]); first | done | rfl | (simp only [List.length_drop, List.length_take]; rfl)) ?_; (with_reducible refine (rf_Hist.calls k _ _ l0_0 _ _ l0_1 true _ ?side1 ?side2 ?side3 ?side4 A6.out).mono ?_); (case side1 => repeat (first | exact (Kd.C_below HR0_0.out HB.out) | (with_reducible refine Kd.C_alloc ?_ _) | (with_reducible refine Kd.C_drewN ?_ _) | (with_reducible refine Kd.C_drew ?_))); (case side2 => exact HC0_0.out); (case side3 => repeat (first | exact (Kd.C_below HR0_1.out HB.out) | (with_reducible refine Kd.C_alloc ?_ _) | (with_reducible refine Kd.C_drewN ?_ _) | (with_reducible refine Kd.C_drew ?_))); (case side4 => exact HC0_1.out); rintro e w10 ⟨rfl, hb⟩; refine ⟨_, rfl, ?_⟩; have n0_ := Aa (blk_below (g := gb189) (o := .cells #[.slice A0_0 l0_0.length c0_0, .slice A0_1 l0_1.length c0_1] 25 (0, 0)) (by (with_reducible repeat (first | refine Kn ?_ _ | refine Kw ?_ | refine Ka ?_ _)); exact BK189.out) hb); have n1_ := Aa (Bp (by repeat (first | (with_reducible first | exact HB.out | apply Ba | apply Pn | apply Dn | refine Bz ?_ GE189.out) | exact HB.out)) hb); clear BK189; clear HB; have BK189 := n0_; have HB := n1_; clear n0_ n1_; (try clear hb); (try clear hb2); (try clear hk); (try clear hi)))
    go_meet
    case rel => exact ⟨_, (true), (by first | rfl | (simp; done) | (simp [*]; done)), H', ⟨by first | omega | exact Nat.le_refl _⟩, ⟨by (with_reducible repeat (first | refine Kn ?_ _ | refine Kw ?_ | refine Ka ?_ _)); exact BK189.out⟩, ⟨by repeat (first | (with_reducible first | exact HB.out | apply Ba | apply Pn | apply Dn | refine Bz ?_ GE189.out) | exact HB.out)⟩⟩
   ·rw [if_neg c8] at H; have c8b0 : decide (a1 < 0) = false := decide_eq_false c8; clear c8
    (first | rw [c8b0] | (simp only [i64_w, i32_w]; rw [c8b0]) | skip)
    by_cases c11 : a1 ≥ (l0_0.length : Int)
    ·rw [if_pos c11] at H; have c11b0 : decide ((l0_0.length : Int) ≤ a1) = true := decide_eq_true c11; clear c11; have H' := Aa H; clear H; have hcz12_0 : w5.cell? ⟨gb189, 0, none⟩ = some (.slice A0_0 l0_0.length c0_0) := (Bc BK189.out 0).trans rfl; have hcz12_1 : w5.cell? ⟨gb189, 1, none⟩ = some (.slice A0_1 l0_1.length c0_1) := (Bc BK189.out 1).trans rfl; have hfz12_0 := Bf BK189.out 0; have hfz12_1 := Bf BK189.out 1
     go_wp2_with (first | ((with_reducible refine gate_callee (f := 16) rfl ?_); refine goesL_ (some 10) rfl rfl Tryz.func16 (by kernel_rfl) rfl #[.agg #[.slice A0_0 l0_0.length c0_0, .slice A0_1 l0_1.length c0_1]] rfl (by (try simp only [List.map_toArray, List.map_cons, List.map_nil]); first | done | rfl | (simp only [List.length_drop, List.length_take]; rfl)) ?_; (with_reducible refine (rf_Hist.calls k _ _ l0_0 _ _ l0_1 true _ ?side1 ?side2 ?side3 ?side4 A6.out).mono ?_); (case side1 => repeat (first | exact (Kd.C_below HR0_0.out HB.out) | (with_reducible refine Kd.C_alloc ?_ _) | (with_reducible refine Kd.C_drewN ?_ _) | (with_reducible refine Kd.C_drew ?_))); (case side2 => exact HC0_0.out); (case side3 => repeat (first | exact (Kd.C_below HR0_1.out HB.out) | (with_reducible refine Kd.C_alloc ?_ _) | (with_reducible refine Kd.C_drewN ?_ _) | (with_reducible refine Kd.C_drew ?_))); (case side4 => exact HC0_1.out); rintro e w13 ⟨rfl, hb⟩; refine ⟨_, rfl, ?_⟩; have n0_ := Aa (blk_below (g := gb189) (o := .cells #[.slice A0_0 l0_0.length c0_0, .slice A0_1 l0_1.length c0_1] 25 (0, 0)) (by (with_reducible repeat (first | refine Kn ?_ _ | refine Kw ?_ | refine Ka ?_ _)); exact BK189.out) hb); have n1_ := Aa (Bp (by repeat (first | (with_reducible first | exact HB.out | apply Ba | apply Pn | apply Dn | refine Bz ?_ GE189.out) | exact HB.out)) hb); clear BK189; clear HB; have BK189 := n0_; have HB := n1_; clear n0_ n1_; (try clear hb); (try clear hb2); (try clear hk); (try clear hi); have hcz14_0 : w13.cell? ⟨gb189, 0, none⟩ = some (.slice A0_0 l0_0.length c0_0) := (Bc BK189.out 0).trans rfl; have hcz14_1 : w13.cell? ⟨gb189, 1, none⟩ = some (.slice A0_1 l0_1.length c0_1) := (Bc BK189.out 1).trans rfl; have hfz14_0 := Bf BK189.out 0; have hfz14_1 := Bf BK189.out 1))
     go_meet
     case rel => exact ⟨_, (true), (by first | rfl | (simp; done) | (simp [*]; done)), H', ⟨by first | omega | exact Nat.le_refl _⟩, ⟨by (with_reducible repeat (first | refine Kn ?_ _ | refine Kw ?_ | refine Ka ?_ _)); exact BK189.out⟩, ⟨by repeat (first | (with_reducible first | exact HB.out | apply Ba | apply Pn | apply Dn | refine Bz ?_ GE189.out) | exact HB.out)⟩⟩
    ·rw [if_neg c11] at H; have c11b0 : decide ((l0_0.length : Int) ≤ a1) = false := decide_eq_false c11; clear c11
     by_cases c15 : a2 < 0
     ·rw [if_pos c15] at H; have c15b0 : decide (a2 < 0) = true := decide_eq_true c15; clear c15; have H' := Aa H; clear H; have hcz16_0 : w5.cell? ⟨gb189, 0, none⟩ = some (.slice A0_0 l0_0.length c0_0) := (Bc BK189.out 0).trans rfl; have hcz16_1 : w5.cell? ⟨gb189, 1, none⟩ = some (.slice A0_1 l0_1.length c0_1) := (Bc BK189.out 1).trans rfl; have hfz16_0 := Bf BK189.out 0; have hfz16_1 := Bf BK189.out 1
      go_wp2_with (first | ((with_reducible refine gate_callee (f := 16) rfl ?_); refine goesL_ (some 10) rfl rfl Tryz.func16 (by kernel_rfl) rfl #[.agg #[.slice A0_0 l0_0.length c0_0, .slice A0_1 l0_1.length c0_1]] rfl (by (try simp only [List.map_toArray, List.map_cons, List.map_nil]); first | done | rfl | (simp only [List.length_drop, List.length_take]; rfl)) ?_; (with_reducible refine (rf_Hist.calls k _ _ l0_0 _ _ l0_1 true _ ?side1 ?side2 ?side3 ?side4 A6.out).mono ?_); (case side1 => repeat (first | exact (Kd.C_below HR0_0.out HB.out) | (with_reducible refine Kd.C_alloc ?_ _) | (with_reducible refine Kd.C_drewN ?_ _) | (with_reducible refine Kd.C_drew ?_))); (case side2 => exact HC0_0.out); (case side3 => repeat (first | exact (Kd.C_below HR0_1.out HB.out) | (with_reducible refine Kd.C_alloc ?_ _) | (with_reducible refine Kd.C_drewN ?_ _) | (with_reducible refine Kd.C_drew ?_))); (case side4 => exact HC0_1.out); rintro e w17 ⟨rfl, hb⟩; refine ⟨_, rfl, ?_⟩; have n0_ := Aa (blk_below (g := gb189) (o := .cells #[.slice A0_0 l0_0.length c0_0, .slice A0_1 l0_1.length c0_1] 25 (0, 0)) (by (with_reducible repeat (first | refine Kn ?_ _ | refine Kw ?_ | refine Ka ?_ _)); exact BK189.out) hb); have n1_ := Aa (Bp (by repeat (first | (with_reducible first | exact HB.out | apply Ba | apply Pn | apply Dn | refine Bz ?_ GE189.out) | exact HB.out)) hb); clear BK189; clear HB; have BK189 := n0_; have HB := n1_; clear n0_ n1_; (try clear hb); (try clear hb2); (try clear hk); (try clear hi); have hcz18_0 : w17.cell? ⟨gb189, 0, none⟩ = some (.slice A0_0 l0_0.length c0_0) := (Bc BK189.out 0).trans rfl; have hcz18_1 : w17.cell? ⟨gb189, 1, none⟩ = some (.slice A0_1 l0_1.length c0_1) := (Bc BK189.out 1).trans rfl; have hfz18_0 := Bf BK189.out 0; have hfz18_1 := Bf BK189.out 1))
      go_meet
      case rel => exact ⟨_, (true), (by first | rfl | (simp; done) | (simp [*]; done)), H', ⟨by first | omega | exact Nat.le_refl _⟩, ⟨by (with_reducible repeat (first | refine Kn ?_ _ | refine Kw ?_ | refine Ka ?_ _)); exact BK189.out⟩, ⟨by repeat (first | (with_reducible first | exact HB.out | apply Ba | apply Pn | apply Dn | refine Bz ?_ GE189.out) | exact HB.out)⟩⟩
     ·rw [if_neg c15] at H; have c15b0 : decide (a2 < 0) = false := decide_eq_false c15; clear c15; have H' := Aa H; clear H; have hcz19_0 : w5.cell? ⟨gb189, 0, none⟩ = some (.slice A0_0 l0_0.length c0_0) := (Bc BK189.out 0).trans rfl; have hcz19_1 : w5.cell? ⟨gb189, 1, none⟩ = some (.slice A0_1 l0_1.length c0_1) := (Bc BK189.out 1).trans rfl; have hfz19_0 := Bf BK189.out 0; have hfz19_1 := Bf BK189.out 1
      go_wp2_with (first | ((with_reducible refine gate_callee (f := 16) rfl ?_); refine goesL_ (some 10) rfl rfl Tryz.func16 (by kernel_rfl) rfl #[.agg #[.slice A0_0 l0_0.length c0_0, .slice A0_1 l0_1.length c0_1]] rfl (by (try simp only [List.map_toArray, List.map_cons, List.map_nil]); first | done | rfl | (simp only [List.length_drop, List.length_take]; rfl)) ?_; (with_reducible refine (rf_Hist.calls k _ _ l0_0 _ _ l0_1 true _ ?side1 ?side2 ?side3 ?side4 A6.out).mono ?_); (case side1 => repeat (first | exact (Kd.C_below HR0_0.out HB.out) | (with_reducible refine Kd.C_alloc ?_ _) | (with_reducible refine Kd.C_drewN ?_ _) | (with_reducible refine Kd.C_drew ?_))); (case side2 => exact HC0_0.out); (case side3 => repeat (first | exact (Kd.C_below HR0_1.out HB.out) | (with_reducible refine Kd.C_alloc ?_ _) | (with_reducible refine Kd.C_drewN ?_ _) | (with_reducible refine Kd.C_drew ?_))); (case side4 => exact HC0_1.out); rintro e w20 ⟨rfl, hb⟩; refine ⟨_, rfl, ?_⟩; have n0_ := Aa (blk_below (g := gb189) (o := .cells #[.slice A0_0 l0_0.length c0_0, .slice A0_1 l0_1.length c0_1] 25 (0, 0)) (by (with_reducible repeat (first | refine Kn ?_ _ | refine Kw ?_ | refine Ka ?_ _)); exact BK189.out) hb); have n1_ := Aa (Bp (by repeat (first | (with_reducible first | exact HB.out | apply Ba | apply Pn | apply Dn | refine Bz ?_ GE189.out) | exact HB.out)) hb); clear BK189; clear HB; have BK189 := n0_; have HB := n1_; clear n0_ n1_; (try clear hb); (try clear hb2); (try clear hk); (try clear hi); have hcz21_0 : w20.cell? ⟨gb189, 0, none⟩ = some (.slice A0_0 l0_0.length c0_0) := (Bc BK189.out 0).trans rfl; have hcz21_1 : w20.cell? ⟨gb189, 1, none⟩ = some (.slice A0_1 l0_1.length c0_1) := (Bc BK189.out 1).trans rfl; have hfz21_0 := Bf BK189.out 0; have hfz21_1 := Bf BK189.out 1))
      go_meet
      case rel => exact ⟨_, (decide (a2 ≥ (l0_0.length : Int))), (by first | rfl | (simp; done) | (simp [*]; done)), H', ⟨by first | omega | exact Nat.le_refl _⟩, ⟨by (with_reducible repeat (first | refine Kn ?_ _ | refine Kw ?_ | refine Ka ?_ _)); exact BK189.out⟩, ⟨by repeat (first | (with_reducible first | exact HB.out | apply Ba | apply Pn | apply Dn | refine Bz ?_ GE189.out) | exact HB.out)⟩⟩
  ·replace c7 := Bool.eq_false_iff.mpr c7; subst c7
   have H1 : (rf_Sure.j0 k a1 a2 true l0_0 l0_1) = some (r1, r2) := by rw [if_neg (show ¬ (false = true) by decide)] at H; exact H
   clear H; have H := H1; clear H1; have H' := Aa H; clear H; have hcz22_0 : w5.cell? ⟨gb189, 0, none⟩ = some (.slice A0_0 l0_0.length c0_0) := (Bc BK189.out 0).trans rfl; have hcz22_1 : w5.cell? ⟨gb189, 1, none⟩ = some (.slice A0_1 l0_1.length c0_1) := (Bc BK189.out 1).trans rfl; have hfz22_0 := Bf BK189.out 0; have hfz22_1 := Bf BK189.out 1
   go_wp2_with (first | ((with_reducible refine gate_callee (f := 16) rfl ?_); refine goesL_ (some 10) rfl rfl Tryz.func16 (by kernel_rfl) rfl #[.agg #[.slice A0_0 l0_0.length c0_0, .slice A0_1 l0_1.length c0_1]] rfl (by (try simp only [List.map_toArray, List.map_cons, List.map_nil]); first | done | rfl | (simp only [List.length_drop, List.length_take]; rfl)) ?_; (with_reducible refine (rf_Hist.calls k _ _ l0_0 _ _ l0_1 false _ ?side1 ?side2 ?side3 ?side4 A6.out).mono ?_); (case side1 => repeat (first | exact (Kd.C_below HR0_0.out HB.out) | (with_reducible refine Kd.C_alloc ?_ _) | (with_reducible refine Kd.C_drewN ?_ _) | (with_reducible refine Kd.C_drew ?_))); (case side2 => exact HC0_0.out); (case side3 => repeat (first | exact (Kd.C_below HR0_1.out HB.out) | (with_reducible refine Kd.C_alloc ?_ _) | (with_reducible refine Kd.C_drewN ?_ _) | (with_reducible refine Kd.C_drew ?_))); (case side4 => exact HC0_1.out); rintro e w23 ⟨rfl, hb⟩; refine ⟨_, rfl, ?_⟩; have n0_ := Aa (blk_below (g := gb189) (o := .cells #[.slice A0_0 l0_0.length c0_0, .slice A0_1 l0_1.length c0_1] 25 (0, 0)) (by (with_reducible repeat (first | refine Kn ?_ _ | refine Kw ?_ | refine Ka ?_ _)); exact BK189.out) hb); have n1_ := Aa (Bp (by repeat (first | (with_reducible first | exact HB.out | apply Ba | apply Pn | apply Dn | refine Bz ?_ GE189.out) | exact HB.out)) hb); clear BK189; clear HB; have BK189 := n0_; have HB := n1_; clear n0_ n1_; (try clear hb); (try clear hb2); (try clear hk); (try clear hi)))
   go_meet
   case rel => exact ⟨_, (true), (by first | rfl | (simp; done) | (simp [*]; done)), H', ⟨by first | omega | exact Nat.le_refl _⟩, ⟨by (with_reducible repeat (first | refine Kn ?_ _ | refine Kw ?_ | refine Ka ?_ _)); exact BK189.out⟩, ⟨by repeat (first | (with_reducible first | exact HB.out | apply Ba | apply Pn | apply Dn | refine Bz ?_ GE189.out) | exact HB.out)⟩⟩
 case rest =>
  clear HC4; try clear c1
  try clear p2
  try clear c5
  try clear c7
  try clear c8
  try clear c8b0
  try clear c11
  try clear c11b0
  try clear c15
  try clear c15b0
  try clear c16
  try clear hcz12_0
  try clear hcz12_1
  try clear hcz14_0
  try clear hcz14_1
  try clear hcz16_0
  try clear hcz16_1
  try clear hcz18_0
  try clear hcz18_1
  try clear hcz19_0
  try clear hcz19_1
  try clear hcz21_0
  try clear hcz21_1
  try clear hcz22_0
  try clear hcz22_1
  try clear hcz9_0
  try clear hcz9_1
  try clear hfz12_0
  try clear hfz12_1
  try clear hfz14_0
  try clear hfz14_1
  try clear hfz16_0
  try clear hfz16_1
  try clear hfz18_0
  try clear hfz18_1
  try clear hfz19_0
  try clear hfz19_1
  try clear hfz21_0
  try clear hfz21_1
  try clear hfz22_0
  try clear hfz22_1
  try clear hfz9_0
  try clear hfz9_1
  obtain ⟨kq, x33_3, rfl, HA, HJ3, BK189, HB⟩ := hcut
  cases kq with
  | zero => exact absurd HA.out (by simp [rf_Sure.j0])
  | succ kj3 =>
   have H := HA.out; clear HA; simp only [rf_Sure.j0] at H
   by_cases c24 : x33_3 = true
   ·subst c24
    have H1 : (some (false, 2)) = some (r1, r2) := by rw [if_pos rfl] at H; exact H
    clear H; have H := H1; clear H1; simp only [Option.some.injEq, Prod.mk.injEq] at H; obtain ⟨rfl, rfl⟩ := H; go_wp2; go_ret2; exact ⟨by first | rfl | (simp [errW_none, errW_some] <;> rfl) | (simp [*, errW_none, errW_some] <;> rfl), by repeat (first | (with_reducible first | exact HB.out | apply Ba | apply Pn | apply Dn | refine Bz ?_ GE189.out) | exact HB.out)⟩
   ·replace c24 := Bool.eq_false_iff.mpr c24; subst c24
    have H1 : ((rf_some.f kj3 l0_0 l0_1).bind fun t191 => (if t191 = 0 then ((rf_SureOf.f kj3 l0_0 l0_1 a1 a2).bind fun t192 => (some (t192, 0))) else (some (false, t191)))) = some (r1, r2) := by rw [if_neg (show ¬ (false = true) by decide)] at H; exact H
    clear H; have H := H1; clear H1; replace H := Option.bind_eq_some_iff.mp H; obtain ⟨t191, A250, H⟩ := H; replace H : (if t191 = 0 then ((rf_SureOf.f kj3 l0_0 l0_1 a1 a2).bind fun t192 => (some (t192, 0))) else (some (false, t191))) = some (r1, r2) := H; have A25 := Aa A250; clear A250
    by_cases c26 : t191 = 0
    ·rw [if_pos c26] at H; have c26b0 : (t191 == 0) = true := beq_iff_eq.mpr c26; have c26b1 : (t191 != 0) = false := bne_eq_false_iff_eq.mpr c26; clear c26; replace H := Option.bind_eq_some_iff.mp H; obtain ⟨t192, A270, H⟩ := H; replace H : (some (t192, 0)) = some (r1, r2) := H; have A27 := Aa A270; clear A270; simp only [Option.some.injEq, Prod.mk.injEq] at H; obtain ⟨rfl, rfl⟩ := H; have hcz28_0 : wc.cell? ⟨gb189, 0, none⟩ = some (.slice A0_0 l0_0.length c0_0) := (Bc BK189.out 0).trans rfl; have hcz28_1 : wc.cell? ⟨gb189, 1, none⟩ = some (.slice A0_1 l0_1.length c0_1) := (Bc BK189.out 1).trans rfl; have hfz28_0 := Bf BK189.out 0; have hfz28_1 := Bf BK189.out 1
     go_wp2_with (first | ((with_reducible refine gate_callee (f := 17) rfl ?_); refine goesL_ (some 35) rfl rfl Tryz.func17 (by kernel_rfl) rfl #[.agg #[.slice A0_0 l0_0.length c0_0, .slice A0_1 l0_1.length c0_1]] rfl (by (try simp only [List.map_toArray, List.map_cons, List.map_nil]); first | done | rfl | (simp only [List.length_drop, List.length_take]; rfl)) ?_; (with_reducible refine (rf_some.calls kj3 _ _ l0_0 _ _ l0_1 t191 _ ?side1 ?side2 ?side3 ?side4 A25.out).mono ?_); (case side1 => repeat (first | exact (Kd.C_below HR0_0.out HB.out) | (with_reducible refine Kd.C_alloc ?_ _) | (with_reducible refine Kd.C_drewN ?_ _) | (with_reducible refine Kd.C_drew ?_))); (case side2 => exact HC0_0.out); (case side3 => repeat (first | exact (Kd.C_below HR0_1.out HB.out) | (with_reducible refine Kd.C_alloc ?_ _) | (with_reducible refine Kd.C_drewN ?_ _) | (with_reducible refine Kd.C_drew ?_))); (case side4 => exact HC0_1.out); rintro e w29 ⟨rfl, hb⟩; refine ⟨_, rfl, ?_⟩; have n0_ := Aa (blk_below (g := gb189) (o := .cells #[.slice A0_0 l0_0.length c0_0, .slice A0_1 l0_1.length c0_1] 25 (0, 0)) (by (with_reducible repeat (first | refine Kn ?_ _ | refine Kw ?_ | refine Ka ?_ _)); exact BK189.out) hb); have n1_ := Aa (Bp (by repeat (first | (with_reducible first | exact HB.out | apply Ba | apply Pn | apply Dn | refine Bz ?_ GE189.out) | exact HB.out)) hb); clear BK189; clear HB; have BK189 := n0_; have HB := n1_; clear n0_ n1_; (try clear hb); (try clear hb2); (try clear hk); (try clear hi); have hcz30_0 : w29.cell? ⟨gb189, 0, none⟩ = some (.slice A0_0 l0_0.length c0_0) := (Bc BK189.out 0).trans rfl; have hcz30_1 : w29.cell? ⟨gb189, 1, none⟩ = some (.slice A0_1 l0_1.length c0_1) := (Bc BK189.out 1).trans rfl; have hfz30_0 := Bf BK189.out 0; have hfz30_1 := Bf BK189.out 1) | ((with_reducible refine gate_callee (f := 18) rfl ?_); refine goesL_ (some 42) rfl rfl Tryz.func18 (by kernel_rfl) rfl #[.agg #[.slice A0_0 l0_0.length c0_0, .slice A0_1 l0_1.length c0_1], .int .i64 a1, .int .i64 a2] rfl (by (try simp only [List.map_toArray, List.map_cons, List.map_nil]); first | done | rfl | (simp only [List.length_drop, List.length_take]; rfl)) ?_; (with_reducible refine (rf_SureOf.calls kj3 _ _ l0_0 _ _ l0_1 a1 a2 t192 _ ?side1 ?side2 ?side3 ?side4 A27.out).mono ?_); (case side1 => repeat (first | exact (Kd.C_below HR0_0.out HB.out) | (with_reducible refine Kd.C_alloc ?_ _) | (with_reducible refine Kd.C_drewN ?_ _) | (with_reducible refine Kd.C_drew ?_))); (case side2 => exact HC0_0.out); (case side3 => repeat (first | exact (Kd.C_below HR0_1.out HB.out) | (with_reducible refine Kd.C_alloc ?_ _) | (with_reducible refine Kd.C_drewN ?_ _) | (with_reducible refine Kd.C_drew ?_))); (case side4 => exact HC0_1.out); rintro e w31 ⟨rfl, hb⟩; refine ⟨_, rfl, ?_⟩; have n0_ := Aa (blk_below (g := gb189) (o := .cells #[.slice A0_0 l0_0.length c0_0, .slice A0_1 l0_1.length c0_1] 25 (0, 0)) (by (with_reducible repeat (first | refine Kn ?_ _ | refine Kw ?_ | refine Ka ?_ _)); exact BK189.out) hb); have n1_ := Aa (Bp (by repeat (first | (with_reducible first | exact HB.out | apply Ba | apply Pn | apply Dn | refine Bz ?_ GE189.out) | exact HB.out)) hb); clear BK189; clear HB; have BK189 := n0_; have HB := n1_; clear n0_ n1_; (try clear hb); (try clear hb2); (try clear hk); (try clear hi)))
     go_ret2; exact ⟨by first | rfl | (simp [errW_none, errW_some] <;> rfl) | (simp [*, errW_none, errW_some] <;> rfl), by repeat (first | (with_reducible first | exact HB.out | apply Ba | apply Pn | apply Dn | refine Bz ?_ GE189.out) | exact HB.out)⟩
    ·rw [if_neg c26] at H; have c26b0 : (t191 == 0) = false := beq_eq_false_iff_ne.mpr c26; have c26b1 : (t191 != 0) = true := bne_iff_ne.mpr c26; simp only [Option.some.injEq, Prod.mk.injEq] at H; obtain ⟨rfl, rfl⟩ := H; have hcz32_0 : wc.cell? ⟨gb189, 0, none⟩ = some (.slice A0_0 l0_0.length c0_0) := (Bc BK189.out 0).trans rfl; have hcz32_1 : wc.cell? ⟨gb189, 1, none⟩ = some (.slice A0_1 l0_1.length c0_1) := (Bc BK189.out 1).trans rfl; have hfz32_0 := Bf BK189.out 0; have hfz32_1 := Bf BK189.out 1
     go_wp2_with (first | ((with_reducible refine gate_callee (f := 17) rfl ?_); refine goesL_ (some 35) rfl rfl Tryz.func17 (by kernel_rfl) rfl #[.agg #[.slice A0_0 l0_0.length c0_0, .slice A0_1 l0_1.length c0_1]] rfl (by (try simp only [List.map_toArray, List.map_cons, List.map_nil]); first | done | rfl | (simp only [List.length_drop, List.length_take]; rfl)) ?_; (with_reducible refine (rf_some.calls kj3 _ _ l0_0 _ _ l0_1 t191 _ ?side1 ?side2 ?side3 ?side4 A25.out).mono ?_); (case side1 => repeat (first | exact (Kd.C_below HR0_0.out HB.out) | (with_reducible refine Kd.C_alloc ?_ _) | (with_reducible refine Kd.C_drewN ?_ _) | (with_reducible refine Kd.C_drew ?_))); (case side2 => exact HC0_0.out); (case side3 => repeat (first | exact (Kd.C_below HR0_1.out HB.out) | (with_reducible refine Kd.C_alloc ?_ _) | (with_reducible refine Kd.C_drewN ?_ _) | (with_reducible refine Kd.C_drew ?_))); (case side4 => exact HC0_1.out); rintro e w33 ⟨rfl, hb⟩; refine ⟨_, rfl, ?_⟩; have n0_ := Aa (blk_below (g := gb189) (o := .cells #[.slice A0_0 l0_0.length c0_0, .slice A0_1 l0_1.length c0_1] 25 (0, 0)) (by (with_reducible repeat (first | refine Kn ?_ _ | refine Kw ?_ | refine Ka ?_ _)); exact BK189.out) hb); have n1_ := Aa (Bp (by repeat (first | (with_reducible first | exact HB.out | apply Ba | apply Pn | apply Dn | refine Bz ?_ GE189.out) | exact HB.out)) hb); clear BK189; clear HB; have BK189 := n0_; have HB := n1_; clear n0_ n1_; (try clear hb); (try clear hb2); (try clear hk); (try clear hi)))
     go_ret2; exact ⟨by first | rfl | (simp [errW_none, errW_some] <;> rfl) | (simp [*, errW_none, errW_some] <;> rfl), by repeat (first | (with_reducible first | exact HB.out | apply Ba | apply Pn | apply Dn | refine Bz ?_ GE189.out) | exact HB.out)⟩
end
end Go.Proofs.YtobcecgcegoooaaGreat.Sk

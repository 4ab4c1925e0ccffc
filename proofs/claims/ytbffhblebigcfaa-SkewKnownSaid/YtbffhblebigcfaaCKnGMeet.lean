/- The walk of skew.Meet. -/
import Derived.Test.YtbffhblebigcfaaCKnGVote
namespace Go.Proofs.Ytbffhblebigcfaa.Sk
open Go.RowKit Go.Proofs.YtbffhblebigcfaaW.PrintWords Go.Proofs.YtbffhblebigcfaaW.PrintLast Go.Proofs.YtbffhblebigcfaaW.PrintMore
set_option linter.unusedVariables false
set_option linter.unusedSimpArgs false
def meetLo (l : List S27) : Int := farF (fun s => s.f0) (fun a b => decide (a > b)) (-1000000) l
def meetHi (l : List S27) : Int := farF (fun s => s.f1) (fun a b => decide (a < b)) 1000000 l
def skew_Meet.f (l0 : List S27) : Option (Int × Int × Int) :=
 if l0.length > 40 then some (0, 0, 2)
 else if l0.all good27 = true then (if meetLo l0 > meetHi l0 then some (0, 0, 5) else some (meetLo l0, meetHi l0, 0))
 else some (0, 0, 2)
set_option maxHeartbeats 4000000 in
set_option maxRecDepth 100000 in
theorem skew_Meet.calls (A0 : Option Addr) (c0 : Nat) (l0 : List S27) (r1 r2 r3 : Int) (w : World) (hr0 : Kd.C k27 w A0 l0.length l0) (hc0 : l0.length ≤ c0) (h : skew_Meet.f l0 = some (r1, r2, r3)) :
  Calls Try.prog 44 #[.slice A0 l0.length c0] w fun e w' => e = .returned (.tuple #[.agg #[.int .i64 r1, .int .i64 r2], .int .i64 r3]) ∧ Below w.heap.size w w' := by
 have hu27 := Try.underlying27
 unfold skew_Meet.f at h
 have HR0 := Aside0.mk hr0
 clear hr0
 have k2 := blk_new w (.cells #[.int .i64 0, .int .i64 0] 27)
 have K2 := Aside0.mk k2
 have KB := Aside0.mk (below_alloc (Below.refl w.heap.size w) (.cells #[.int .i64 0, .int .i64 0] 27))
 clear k2
 by_cases g1 : l0.length > 40
 ·rw [if_pos g1] at h
  simp only [Option.some.injEq, Prod.mk.injEq] at h
  obtain ⟨rfl, rfl, rfl⟩ := h
  have g1' : decide ((40 : Int) < (l0.length : Int)) = true := by simp; omega
  clear g1
  go_enter Try.func44, Try.ntmps44
  go_wp2
  refine bodyPost_ret (results_ct rfl _ _ w.heap.size 27 #[.int .i64 0, .int .i64 0] (0, 0) _ rfl K2.out Try.underlying27 rfl (by kernel_rfl)) rfl ?_
  exact ⟨rfl, KB.out⟩
 ·rw [if_neg g1] at h
  have g1' : decide ((40 : Int) < (l0.length : Int)) = false := by simp; omega
  have hl : (l0.length : Int) ≤ 40 := by omega
  clear g1
  obtain ⟨b, hb⟩ : ∃ b, l0.all good27 = b := ⟨_, rfl⟩
  rw [hb] at h
  have HA := Aside0.mk (skew_all.calls A0 c0 l0 b (w.alloc (.cells #[.int .i64 0, .int .i64 0] 27)) (Kd.C_below HR0.out KB.out) hc0 (by unfold skew_all.f; rw [hb]))
  clear hb
  cases b with
  | false =>
   rw [if_neg (by simp)] at h
   simp only [Option.some.injEq, Prod.mk.injEq] at h
   obtain ⟨rfl, rfl, rfl⟩ := h
   go_enter Try.func44, Try.ntmps44
   go_wp2_with (go_at_call 100; refine HA.out.mono ?_; rintro e w1 ⟨rfl, hb⟩; have hk := blk_below K2.out hb; have HB1 := Aside0.mk (below_step KB.out hb); have HK := Aside0.mk hk; have q0 := cell_at hk 0 (.int .i64 0) rfl; have q1 := cell_at hk 1 (.int .i64 0) rfl; have f0 := blk_frozen hk 0; have f1 := blk_frozen hk 1; clear hb hk)
   refine bodyPost_ret (results_ct rfl _ _ w.heap.size 27 #[.int .i64 0, .int .i64 0] (0, 0) _ rfl (blk_put (blk_put HK.out 0 _ rfl) 1 _ rfl) Try.underlying27 rfl (by kernel_rfl)) rfl ?_
   exact ⟨rfl, below_set (below_set HB1.out (Nat.le_refl _)) (Nat.le_refl _)⟩
  | true =>
   rw [if_pos rfl] at h
   obtain ⟨lo, hlo⟩ : ∃ lo, meetLo l0 = lo := ⟨_, rfl⟩
   obtain ⟨hi, hhi⟩ : ∃ hi, meetHi l0 = hi := ⟨_, rfl⟩
   have HLo := Aside0.mk hlo
   have HHi := Aside0.mk hhi
   rw [hlo, hhi] at h
   clear hlo hhi
   have HFl := Aside0.mk (fun (w1 : World) (hw : Below w.heap.size w w1) => far_low A0 c0 l0 (-1000000) w1 (fun W => Below w.heap.size w W) (fun s => s.f0) hw (fun W W' h1 h2 => below_step h1 h2) (fun W hW => Kd.C_below HR0.out hW) (fun s W _ => skew_low.calls s.f0 s.f1 s.f0 W rfl))
   have HFh := Aside0.mk (fun (w1 : World) (hw : Below w.heap.size w w1) => far_high A0 c0 l0 1000000 w1 (fun W => Below w.heap.size w W) (fun s => s.f1) hw (fun W W' h1 h2 => below_step h1 h2) (fun W hW => Kd.C_below HR0.out hW) (fun s W _ => skew_high.calls s.f0 s.f1 s.f1 W rfl))
   go_enter Try.func44, Try.ntmps44
   go_wp2_with fail
   refine HA.out.mono ?_
   rintro e w1 ⟨rfl, hb⟩
   have HK1 := Aside0.mk (blk_below K2.out hb)
   have HB1 := Aside0.mk (below_step KB.out hb)
   clear hb HA K2 KB
   go_wp2_with fail
   refine (HFl.out w1 HB1.out).mono ?_
   rintro e w2 ⟨rfl, _, hb⟩
   have HK2 := Aside0.mk (blk_below HK1.out hb)
   have HB2 := Aside0.mk (below_step HB1.out hb)
   clear hb HK1 HB1 HFl
   go_wp2_with fail
   refine (HFh.out w2 HB2.out).mono ?_
   rintro e w3 ⟨rfl, _, hb⟩
   have hk3 := blk_below HK2.out hb
   have HB3 := Aside0.mk (below_step HB2.out hb)
   clear hb HK2 HB2 HFh
   rw [show farF (fun s => s.f0) (fun a b => decide (a > b)) (-1000000) l0 = lo from HLo.out, show farF (fun s => s.f1) (fun a b => decide (a < b)) 1000000 l0 = hi from HHi.out]
   have hk := blk_alloc hk3 (.cells #[.int .i64 lo, .int .i64 hi] 27)
   have HK := Aside0.mk hk
   have q0 := cell_at hk 0 (.int .i64 0) rfl
   have q1 := cell_at hk 1 (.int .i64 0) rfl
   have f0 := blk_frozen hk 0
   have f1 := blk_frozen hk 1
   have z0 := cell_at (blk_new w3 (.cells #[.int .i64 lo, .int .i64 hi] 27)) 0 (.int .i64 lo) rfl
   have z1 := cell_at (blk_new w3 (.cells #[.int .i64 lo, .int .i64 hi] 27)) 1 (.int .i64 hi) rfl
   have HBa := Aside0.mk (below_alloc HB3.out (.cells #[.int .i64 lo, .int .i64 hi] 27))
   clear hk hk3
   by_cases hgt : lo > hi
   ·rw [if_pos hgt] at h
    simp only [Option.some.injEq, Prod.mk.injEq] at h
    obtain ⟨rfl, rfl, rfl⟩ := h
    go_wp2
    refine bodyPost_ret (results_ct rfl _ _ w.heap.size 27 #[.int .i64 0, .int .i64 0] (0, 0) _ rfl (blk_put (blk_put HK.out 0 _ rfl) 1 _ rfl) Try.underlying27 rfl (by kernel_rfl)) rfl ?_
    exact ⟨rfl, below_set (below_set HBa.out (Nat.le_refl _)) (Nat.le_refl _)⟩
   ·rw [if_neg hgt] at h
    simp only [Option.some.injEq, Prod.mk.injEq] at h
    obtain ⟨rfl, rfl, rfl⟩ := h
    go_wp2
    refine bodyPost_ret (results_ct rfl _ _ w.heap.size 27 #[.int .i64 lo, .int .i64 hi] (0, 0) _ rfl (blk_put (blk_put HK.out 0 _ rfl) 1 _ rfl) Try.underlying27 rfl (by kernel_rfl)) rfl ?_
    exact ⟨rfl, below_set (below_set HBa.out (Nat.le_refl _)) (Nat.le_refl _)⟩
end Go.Proofs.Ytbffhblebigcfaa.Sk

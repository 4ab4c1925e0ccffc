/- The walk of skew.Ahead: whether a deed is ahead of another one. -/
import Derived.Test.YtbffhblebigcfaaCKnS0
import Derived.Test.YtbffhblebigcfaaCKnGCounts
namespace Go.Proofs.Ytbffhblebigcfaa.Sk
open Go.RowKit Go.Proofs.YtbffhblebigcfaaW.PrintWords Go.Proofs.YtbffhblebigcfaaW.PrintLast Go.Proofs.YtbffhblebigcfaaW.PrintMore
set_option linter.unusedVariables false
set_option linter.unusedSimpArgs false
theorem within_calls (a b c : Int) (r : Bool) (h : decide (a ≥ b ∧ a ≤ c) = r) (w : World) : Calls Try.prog 72 #[.int .i64 a, .int .i64 b, .int .i64 c] w fun e w' => e = .returned (.bool r) ∧ Below w.heap.size w w' := by
 refine (skew_within.calls a b c r w ?_).mono fun e w' ⟨h1, h2⟩ => ⟨h1, h2.below⟩
 unfold skew_within.f
 subst h
 by_cases h1 : a ≥ b
 ·rw [if_pos h1]; simp [h1]
 ·rw [if_neg h1]; simp [h1]
def skew_Ahead.f (l0 : List S71) (a b : Int) : Option (Bool × Int) :=
 (skew_isRun.f (l0.length + 1) l0).bind fun t => if t = true then
  if a ≥ 0 ∧ a ≤ wrap64 ((l0.length : Int) - 1) then
   if b ≥ 0 ∧ b ≤ wrap64 ((l0.length : Int) - 1) then
    (skew_befores.f l0).bind fun bs => if runOk l0 bs then some ((bits .and .u64 (shr .u64 ((aheadsF bs l0 b).getD 0) a) 1) == 1, 0) else none
   else some (false, 2)
  else some (false, 2)
 else some (false, 2)
set_option maxHeartbeats 8000000 in
set_option maxRecDepth 100000 in
theorem skew_Ahead.calls (A0 : Option Addr) (c0 : Nat) (l0 : List S71) (a1 a2 : Int) (r1 : Bool) (r2 : Int) (w : World) (hr0 : Kd.C k71 w A0 l0.length l0) (hc0 : l0.length ≤ c0) (h : skew_Ahead.f l0 a1 a2 = some (r1, r2)) :
  Calls Try.prog 37 #[.slice A0 l0.length c0, .int .i64 a1, .int .i64 a2] w fun e w' => e = .returned (.tuple #[.bool r1, .int .i64 r2]) ∧ Below w.heap.size w w' := by
 unfold skew_Ahead.f at h
 obtain ⟨b, hb, h⟩ := Option.bind_eq_some_iff.mp h
 have HB := Aside0.mk (skew_isRun.calls _ A0 c0 l0 b w hr0 hc0 hb)
 clear hb
 have HR0 := Aside0.mk hr0
 clear hr0
 cases b with
 | false =>
  rw [if_neg (by simp)] at h
  simp only [Option.some.injEq, Prod.mk.injEq] at h
  obtain ⟨rfl, rfl⟩ := h
  go_enter Try.func37, Try.ntmps37
  go_wp2_with (go_at_call 85; refine HB.out.mono ?_; rintro e w1 ⟨rfl, hb⟩)
  go_ret2
  exact ⟨rfl, hb⟩
 | true =>
  rw [if_pos rfl] at h
  by_cases ha : a1 ≥ 0 ∧ a1 ≤ wrap64 ((l0.length : Int) - 1)
  ·rw [if_pos ha] at h
   by_cases hb : a2 ≥ 0 ∧ a2 ≤ wrap64 ((l0.length : Int) - 1)
   ·rw [if_pos hb] at h
    obtain ⟨bs, hbs, h⟩ := Option.bind_eq_some_iff.mp h
    by_cases hok : runOk l0 bs
    ·rw [if_pos hok] at h
     simp only [Option.some.injEq, Prod.mk.injEq] at h
     obtain ⟨h1, rfl⟩ := h
     have HR1 := Aside0.mk h1
     clear h1
     obtain ⟨ok1, ok2, ok3, ok4, ok5⟩ := hok
     have HBs := Aside0.mk hbs
     have O1 := Aside0.mk ok1
     have O2 := Aside0.mk ok2
     have O3 := Aside0.mk ok3
     have O4 := Aside0.mk ok4
     clear hbs ok1 ok2 ok3 ok4 ok5
     have a10 : 0 ≤ a1 := ha.1
     have HOi := Aside0.mk (okI_of (m := a2) (by unfold wrap64 at hb; omega))
     have HA := fun w => Aside0.mk (within_calls a1 0 _ true (decide_eq_true ha) w)
     have HBb := fun w => Aside0.mk (within_calls a2 0 _ true (decide_eq_true hb) w)
     clear ha hb
     obtain ⟨ah, hah⟩ : ∃ ah, aheadsF bs l0 = ah := ⟨_, rfl⟩
     have HAh := Aside0.mk hah
     rw [hah] at HR1
     clear hah
     go_enter Try.func37, Try.ntmps37
     go_wp2_with fail
     refine HB.out.mono ?_
     rintro e w1 ⟨rfl, hb⟩
     have HB1 := Aside0.mk hb
     clear hb HB
     go_wp2_with fail
     with_reducible refine (HA w1).out.mono ?_
     rintro e w2 ⟨rfl, hb⟩
     have HB2 := Aside0.mk (below_step HB1.out hb)
     clear hb HB1 HA
     go_wp2_with fail
     with_reducible refine (HBb w2).out.mono ?_
     rintro e w3 ⟨rfl, hb⟩
     have HB3 := Aside0.mk (below_step HB2.out hb)
     clear hb HB2 HBb
     have HC := Aside0.mk (aheads_calls A0 c0 l0 bs w3 (Kd.C_below HR0.out HB3.out) hc0 O1.out HBs.out O2.out O3.out O4.out)
     go_wp2_with (go_at_call 88; refine HC.out.mono ?_; rintro e w4 ⟨rfl, hm2, hb2⟩; rw [HAh.out] at hm2; have HM2 := Aside0.mk hm2; have HB4 := Aside0.mk (below_step HB3.out hb2); have hlk := (lookS hm2 a2 HOi.out).2; clear HC hm2 hb2)
     refine (skew_set_has.calls _ a1 r1 w4 (by unfold skew_set_has.f; rw [if_pos a10, HR1.out])).mono ?_
     rintro e w5 ⟨rfl, hb⟩
     have HB5 := Aside0.mk (below_step HB4.out hb.below)
     clear hb HB4 HB3 hlk
     go_wp2
     go_ret2
     exact ⟨rfl, HB5.out⟩
    ·rw [if_neg hok] at h; cases h
   ·rw [if_neg hb] at h
    simp only [Option.some.injEq, Prod.mk.injEq] at h
    obtain ⟨rfl, rfl⟩ := h
    have HA := fun w => Aside0.mk (within_calls a1 0 _ true (decide_eq_true ha) w)
    have HBb := fun w => Aside0.mk (within_calls a2 0 _ false (decide_eq_false hb) w)
    clear ha hb
    go_enter Try.func37, Try.ntmps37
    go_wp2_with fail
    refine HB.out.mono ?_
    rintro e w1 ⟨rfl, hb⟩
    have HB1 := Aside0.mk hb
    clear hb HB
    go_wp2_with fail
    with_reducible refine (HA w1).out.mono ?_
    rintro e w2 ⟨rfl, hb⟩
    have HB2 := Aside0.mk (below_step HB1.out hb)
    clear hb HB1 HA
    go_wp2_with fail
    with_reducible refine (HBb w2).out.mono ?_
    rintro e w3 ⟨rfl, hb⟩
    have HB3 := Aside0.mk (below_step HB2.out hb)
    clear hb HB2 HBb
    go_wp2
    go_ret2
    exact ⟨rfl, HB3.out⟩
  ·rw [if_neg ha] at h
   simp only [Option.some.injEq, Prod.mk.injEq] at h
   obtain ⟨rfl, rfl⟩ := h
   have HA := fun w => Aside0.mk (within_calls a1 0 _ false (decide_eq_false ha) w)
   clear ha
   go_enter Try.func37, Try.ntmps37
   go_wp2_with fail
   refine HB.out.mono ?_
   rintro e w1 ⟨rfl, hb⟩
   have HB1 := Aside0.mk hb
   clear hb HB
   go_wp2_with fail
   with_reducible refine (HA w1).out.mono ?_
   rintro e w2 ⟨rfl, hb⟩
   have HB2 := Aside0.mk (below_step HB1.out hb)
   clear hb HB1 HA
   go_wp2
   go_ret2
   exact ⟨rfl, HB2.out⟩
end Go.Proofs.Ytbffhblebigcfaa.Sk

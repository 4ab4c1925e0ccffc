/- The walk of skew.all: whether all spans of a list are formed. -/
import Derived.Test.YtbffhblebigcfaaCPrGBase
import Derived.Test.YtbffhblebigcfaaCPrS0
namespace Go.Proofs.Ytbffhblebigcfaa.Sk
open Go.RowKit Go.Proofs.YtbffhblebigcfaaW.PrintWords Go.Proofs.YtbffhblebigcfaaW.PrintLast Go.Proofs.YtbffhblebigcfaaW.PrintMore
set_option linter.unusedVariables false
set_option linter.unusedSimpArgs false
def good27 (s : S27) : Bool := decide (s.f0 ≤ s.f1) && (decide (s.f0 ≥ -1000000) && decide (s.f1 ≤ 1000000))
theorem formed_good (s : S27) : skew_formed.f s.f0 s.f1 = some (good27 s) := by
 unfold skew_formed.f good27
 by_cases h1 : s.f0 ≤ s.f1 <;> by_cases h2 : s.f0 ≥ -1000000 <;> simp [h1, h2]
def skew_all.f (l0 : List S27) : Option Bool := some (l0.all good27)
theorem all1_calls (s : S27) (w : World) :
  Calls Try.prog 125 #[.agg #[.int .i64 s.f0, .int .i64 s.f1]] w fun e w' => e = .returned (.bool (!(good27 s))) ∧ Below w.heap.size w w' := by
 have hu27 := Try.underlying27
 go_enter Try.func125, Try.ntmps125
 go_wp2_with (go_at_call 112; refine (skew_formed.calls s.f0 s.f1 (good27 s) _ (formed_good s)).mono ?_; rintro e w' ⟨rfl, hb⟩)
 go_ret
 exact ⟨rfl, below_step (below_alloc (Below.refl _ _) _) hb⟩
theorem take_all (l : List S27) (p : S27 → Bool) (i : Int) (h0 : 0 ≤ i) (h1 : i < l.length) (hA : ∀ x ∈ l.take i.toNat, p x = true) (hp : p (rd_T27 l i) = true) : ∀ x ∈ l.take (i + 1).toNat, p x = true := by
 have e : (i + 1).toNat = i.toNat + 1 := by omega
 have hl : i.toNat < l.length := by omega
 rw [e, List.take_succ_eq_append_getElem hl]
 intro x hx
 rcases List.mem_append.1 hx with hx | hx
 ·exact hA x hx
 ·have : x = l[i.toNat] := by simpa using hx
  subst this
  have : rd_T27 l i = l[i.toNat] := by simp [rd_T27, List.getD_eq_getElem?_getD, hl]
  rw [← this]; exact hp
theorem not_all (l : List S27) (p : S27 → Bool) (i : Int) (h0 : 0 ≤ i) (h1 : i < l.length) (hp : p (rd_T27 l i) = false) : l.all p = false := by
 have hl : i.toNat < l.length := by omega
 have : rd_T27 l i = l[i.toNat] := by simp [rd_T27, List.getD_eq_getElem?_getD, hl]
 rw [this] at hp
 rw [List.all_eq_false]
 exact ⟨_, List.getElem_mem hl, by simp [hp]⟩
set_option maxHeartbeats 1000000 in
set_option maxRecDepth 100000 in
theorem idx129_calls (A0 : Option Addr) (c0 : Nat) (l0 : List S27) (w : World) (hr0 : Kd.C k27 w A0 l0.length l0) (hm : l0.length ≤ 9223372036854775807) :
  Calls Try.prog 129 #[.slice A0 l0.length c0, .func (.func 125) #[] #[]] w fun e w' => ∃ i : Int, e = .returned (.int .i64 i) ∧ decide (0 ≤ i) = !(l0.all good27) ∧ Below w.heap.size w w' := by
 have hu27 := Try.underlying27
 have HR0 := Aa hr0
 clear hr0
 go_enter Try.func129, Try.ntmps129
 go_wp2
 go_loopw [8] (fun v W => ∃ i : Int, 0 ≤ i ∧ i ≤ l0.length ∧ v = .int .i64 i ∧ Aside0 (∀ x ∈ l0.take i.toNat, good27 x = true) ∧ Aside0 (Below w.heap.size w W)) (fun v _ => l0.length - (intOf v).toNat)
 case atStart => exact ⟨0, by omega, by omega, rfl, ⟨by simp⟩, ⟨Below.refl _ _⟩⟩
 case round =>
  obtain ⟨i, h0, hk, rfl, HA, HB⟩ := hrel
  by_cases hlt : i < l0.length
  ·obtain ⟨ad, e217, hx0, hx1⟩ := at_T27 HR0.out i h0 hlt
   cases e217
   replace hx0 := (HB.out.cell (World.block_lt_of_cell? w _ hx0)).trans hx0
   replace hx1 := (HB.out.cell (World.block_lt_of_cell? w _ hx1)).trans hx1
   obtain ⟨b, hb⟩ : ∃ b, good27 (rd_T27 l0 i) = b := ⟨_, rfl⟩
   have hc := all1_calls (rd_T27 l0 i)
   rw [hb] at hc
   have HC := Aa hc
   have HG := Aa hb
   clear hc hb
   cases b
   ·go_wp2_with (go_at_call 125; refine (HC.out _).mono ?_; rintro e w' ⟨rfl, hb⟩)
    go_ret
    exact ⟨i, rfl, by rw [not_all l0 good27 i h0 hlt HG.out]; simp [h0], below_step HB.out hb⟩
   ·go_wp2_with (go_at_call 125; refine (HC.out _).mono ?_; rintro e w' ⟨rfl, hb⟩)
    go_roundw
    case rel => exact ⟨i + 1, by omega, by omega, rfl, ⟨take_all l0 good27 i h0 hlt HA.out HG.out⟩, ⟨below_step HB.out hb⟩⟩
    case measure => simp [intOf]; omega
  ·have e : l0.take i.toNat = l0 := List.take_of_length_le (by omega)
   have HE := Aa e
   clear e
   go_wp2
   go_ret
   refine ⟨-1, rfl, ?_, HB.out⟩
   have : l0.all good27 = true := by rw [List.all_eq_true]; intro x hx; exact HA.out x (by rw [HE.out]; exact hx)
   rw [this]; rfl
theorem cont124_calls (A0 : Option Addr) (c0 : Nat) (l0 : List S27) (w : World) (hr0 : Kd.C k27 w A0 l0.length l0) (hm : l0.length ≤ 9223372036854775807) :
  Calls Try.prog 124 #[.slice A0 l0.length c0, .func (.func 125) #[] #[]] w fun e w' => e = .returned (.bool (!(l0.all good27))) ∧ Below w.heap.size w w' := by
 have HC := Aa (idx129_calls A0 c0 l0 w hr0 hm)
 clear hr0
 go_enter Try.func124, Try.ntmps124
 go_wp2_with (go_at_call 129; refine HC.out.mono ?_; rintro e w' ⟨i, rfl, hi, hb⟩; have HI := Aa hi; clear hi)
 go_ret
 exact ⟨by rw [← HI.out]; rfl, hb⟩
theorem skew_all.calls (A0 : Option Addr) (c0 : Nat) (l0 : List S27) (r : Bool) (w : World) (hr0 : Kd.C k27 w A0 l0.length l0) (hc0 : l0.length ≤ c0) (h : skew_all.f l0 = some r) :
  Calls Try.prog 100 #[.slice A0 l0.length c0] w fun e w' => e = .returned (.bool r) ∧ Below w.heap.size w w' := by
 obtain rfl := Option.some.inj h
 have HC := Aa (cont124_calls A0 c0 l0 w hr0 hr0.2.1)
 clear hr0 h
 go_enter Try.func100, Try.ntmps100
 go_wp2_with (go_at_call 124; refine HC.out.mono ?_; rintro e w' ⟨rfl, hb⟩)
 go_ret
 exact ⟨by simp, hb⟩
end Go.Proofs.Ytbffhblebigcfaa.Sk

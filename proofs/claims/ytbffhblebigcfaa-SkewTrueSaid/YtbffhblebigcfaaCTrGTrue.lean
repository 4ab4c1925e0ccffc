/- What law SkewTrue returns, for any history and numbers. -/
import Derived.Test.YtbffhblebigcfaaCTrGTrueA
import Derived.Test.YtbffhblebigcfaaCTrGTrueY
import Derived.Test.YtbffhblebigcfaaCTrGTrueN
namespace Go.Proofs.Ytbffhblebigcfaa.Sk
open Go.RowKit Go.Proofs.YtbffhblebigcfaaW.PrintWords Go.Proofs.YtbffhblebigcfaaW.PrintLast Go.Proofs.YtbffhblebigcfaaW.PrintMore
set_option linter.unusedVariables false
set_option linter.unusedSimpArgs false
theorem rd_leastTo (m : List S27) (n j : Nat) (h : j < n) : rd (leastTo m n) (j : Int) = (rd_T27 m (j : Int)).f0 := by
 unfold rd leastTo
 simp [List.getD_eq_getElem?_getD, h]
theorem skewTrue_calls (A0 : Option Addr) (c0 : Nat) (evs : List S27) (A1 : Option Addr) (c1 : Nat) (gaps : List S86) (A2 : Option Addr) (c2 : Nat) (bys : List Int) (a2 a3 : Int) (w : World) (hr0 : Kd.C k27 w A0 evs.length evs) (hc0 : evs.length ≤ c0) (hr1 : Kd.C k86 w A1 gaps.length gaps) (hc1 : gaps.length ≤ c1) (hr2 : Kd.C (Kd.int .u16) w A2 bys.length bys) (hc2 : bys.length ≤ c2)
  (hbys : ∀ x ∈ bys, 0 ≤ x ∧ x ≤ 65535) (hl2 : bys.length ≤ 9223372036854775807) (ha2 : 0 ≤ a2 ∧ a2 ≤ 255) (ha3 : 0 ≤ a3 ∧ a3 ≤ 65535) :
  Calls Try.prog 11 #[.agg #[.slice A0 evs.length c0, .slice A1 gaps.length c1], .slice A2 bys.length c2, .int .u8 a2, .int .u16 a3] w fun e w' => e = .returned (.bool true) ∧ Below w.heap.size w w' := by
 obtain ⟨kh, hh⟩ := Ev.rounds (ev_Hist evs gaps)
 by_cases c : histB evs gaps = true
 ·rw [c] at hh
  by_cases h0 : evs.length = 0
  ·exact true_zero A0 c0 evs A1 c1 gaps A2 c2 bys a2 a3 w hr0 hc0 hr1 hc1 hr2 hc2 kh hh h0
  ·have h := (histIs _ _).mp c
   have hn := h.n
   have hfr := fitsR_ok h (timesTo evs bys evs.length) (timesTo_len evs bys evs.length)
   obtain ⟨kf, hf⟩ := Ev.rounds (ev_Fits evs gaps (timesTo evs bys evs.length))
   rw [hfr] at hf
   by_cases d : (solveR evs gaps).2 = true
   ·have hA : tightA evs gaps = ((solveR evs gaps).1, 0) := by unfold tightA; rw [if_pos c, if_pos d]
    have hl := (solve_spec evs gaps h.gap).2 (solveR evs gaps).1 (by rw [← d])
    generalize (solveR evs gaps).1 = l at hA hl
    have hgo := ev_Goods10 l
    rw [tight_goods h hl] at hgo
    obtain ⟨kg, hgo⟩ := Ev.rounds hgo
    have hgd : ∀ j : Nat, j < evs.length → (rd_T27 l (j : Int)).f0 ≤ (rd_T27 l (j : Int)).f1 ∧ -1000000 ≤ (rd_T27 l (j : Int)).f0 ∧ (rd_T27 l (j : Int)).f1 ≤ 1000000 := fun j hj => by
     obtain ⟨p, q, r⟩ := tight_good h hl (j : Int) (by omega) (by omega)
     have s := h.evAt (j : Int) (by omega) (by omega)
     omega
    have hheld : ∀ n : Nat, n < evs.length → ∀ t, (rd_T27 l (n : Int)).f0 ≤ t → t ≤ (rd_T27 l (n : Int)).f1 → ∃ m, HeldIs evs gaps l n t m := fun n hn t => held_is h hl n hn t
    have hfit : ∀ n t m, HeldIs evs gaps l n t m → ∃ k, skew_Fits.f k evs gaps (leastTo m evs.length) = some (true, 0) := fun n t m hm => by
     obtain ⟨k, hk⟩ := Ev.rounds (ev_Fits evs gaps (leastTo m evs.length))
     rw [fitsR_ok h _ (leastTo_len m evs.length)] at hk
     have : fitsB evs gaps (leastTo m evs.length) = true := (fits_iff h _).mpr (by
      have e : ∀ j : Int, 0 ≤ j → j < evs.length → rd (leastTo m evs.length) j = (rd_T27 m j).f0 := fun j j0 j1 => by
       have := rd_leastTo m evs.length j.toNat (by omega)
       rwa [show ((j.toNat : Nat) : Int) = j by omega] at this
      refine ⟨fun g hg => ?_, fun j j0 j1 => ?_⟩
      ·have hi := h.gap g hg
       have := hm.fit.1 g hg
       unfold GapSat at this ⊢
       rw [e _ hi.a0 hi.a1, e _ hi.b0 hi.b1]
       exact this
      ·rw [e j j0 j1]; exact hm.fit.2 j j0 j1)
     rw [this] at hk
     exact ⟨k, hk⟩
    cases his : fitsB evs gaps (timesTo evs bys evs.length) with
    | true =>
     rw [his] at hf
     have hfi := (fits_iff h _).mp his
     exact true_yes A0 c0 evs A1 c1 gaps A2 c2 bys a2 a3 w hr0 hc0 hr1 hc1 hr2 hc2 l kh kf hh h0 h hA hbys hl2 hf ha2 ha3 kg hgo hl.len hgd hheld hfit (fun j hj => hl.all _ hfi (j : Int) (by omega) (by omega))
    | false =>
     rw [his] at hf
     exact true_fno A0 c0 evs A1 c1 gaps A2 c2 bys a2 a3 w hr0 hc0 hr1 hc1 hr2 hc2 l kh kf hh h0 h hA hbys hl2 hf ha2 ha3 kg hgo hl.len hgd hheld hfit
   ·have hA : tightA evs gaps = ([], 5) := by unfold tightA; rw [if_pos c, if_neg d]
    have his : fitsB evs gaps (timesTo evs bys evs.length) = false := by
     cases e : fitsB evs gaps (timesTo evs bys evs.length) with
     | false => rfl
     | true => exact absurd ((solve_spec evs gaps h.gap).1.mpr ⟨_, (fits_iff h _).mp e⟩) d
    rw [his] at hf
    exact true_five A0 c0 evs A1 c1 gaps A2 c2 bys a2 a3 w hr0 hc0 hr1 hc1 hr2 hc2 kh kf hh h0 h hA hbys hl2 hf ha2 ha3
 ·rw [Bool.eq_false_iff.mpr c] at hh
  exact true_no A0 c0 evs A1 c1 gaps A2 c2 bys a2 a3 w hr0 hc0 hr1 hc1 hr2 hc2 kh hh
end Go.Proofs.Ytbffhblebigcfaa.Sk

/- The walks of tight, sure: a history with its tight bounds. -/
import Derived.Test.YtbffhblebigcfaaCPrGBind
import Derived.Test.YtbffhblebigcfaaCPrSkf77
namespace Go.Proofs.Ytbffhblebigcfaa.Sk
open Go.RowKit Go.Proofs.YtbffhblebigcfaaW.PrintWords Go.Proofs.YtbffhblebigcfaaW.PrintLast Go.Proofs.YtbffhblebigcfaaW.PrintMore
set_option linter.unusedVariables false
set_option linter.unusedSimpArgs false
def saidL (evs : List S27) (gaps : List S86) : List (Int × S153) :=
 ((List.range evs.length).map fun (i : Nat) => ((i : Int), (⟨10, (i : Int), (rd_T27 evs i).f0, (rd_T27 evs i).f1⟩ : S153))) ++
  (List.range gaps.length).map fun (i : Nat) => ((evs.length : Int) + i, (⟨(rd_T86 gaps i).f0, (rd_T86 gaps i).f1, (rd_T86 gaps i).f2, (rd_T86 gaps i).f3⟩ : S153))
def bindP (om : Int → Bool) (L : List (Int × S153)) : Int → Int → Int := L.foldl (fun B x => if om x.1 = true then B else sayF B x.2) (fillN 11)
def histOk (evs : List S27) (gaps : List S86) : Prop := evs.length ≤ 10 ∧ gaps.length ≤ 20 ∧ ∀ g ∈ gaps, (0 ≤ g.f0 ∧ g.f0 < 11) ∧ 0 ≤ g.f1 ∧ g.f1 < 11
instance (evs : List S27) (gaps : List S86) : Decidable (histOk evs gaps) := by unfold histOk; infer_instance
theorem lift_facts : ∀ L : List (Int × S153), (∀ x ∈ L, (0 ≤ x.1 ∧ x.1 < 100) ∧ (0 ≤ x.2.f0 ∧ x.2.f0 < 11) ∧ 0 ≤ x.2.f1 ∧ x.2.f1 < 11) → ∃ fs : List Fc, fs.map (·.1) = L
 | [], _ => ⟨[], rfl⟩
 | x :: L, h => by
  obtain ⟨fs, hf⟩ := lift_facts L (fun y hy => h y (List.mem_cons_of_mem _ hy))
  exact ⟨⟨x, h x List.mem_cons_self⟩ :: fs, by rw [List.map_cons, hf]⟩
theorem rd86_mem' (l : List S86) (i : Nat) (h1 : i < l.length) : rd_T86 l (i : Int) ∈ l := by
 have er : rd_T86 l (i : Int) = l[i] := by simp [rd_T86, rdOf, List.getD_eq_getElem?_getD, h1]
 rw [er]; exact List.getElem_mem h1
theorem facts_ex0 (evs : List S27) (gaps : List S86) (h : histOk evs gaps) : ∃ fs : List Fc, IsFacts evs gaps fs ∧ (∀ om, bindF om fs = bindP om (saidL evs gaps)) ∧ fs.map (·.1) = saidL evs gaps := by
 obtain ⟨h1, h2, h3⟩ := h
 obtain ⟨fs, hf⟩ := lift_facts (saidL evs gaps) (fun x hx => by
  unfold saidL at hx
  rcases List.mem_append.mp hx with hx | hx
  ·obtain ⟨i, hi, rfl⟩ := List.mem_map.mp hx
   have := List.mem_range.mp hi
   exact ⟨⟨by omega, by show (i : Int) < 100; omega⟩, ⟨by show (0 : Int) ≤ 10; omega, by show (10 : Int) < 11; omega⟩, by show 0 ≤ (i : Int); omega, by show (i : Int) < 11; omega⟩
  ·obtain ⟨i, hi, rfl⟩ := List.mem_map.mp hx
   have hi := List.mem_range.mp hi
   exact ⟨⟨by show 0 ≤ (evs.length : Int) + i; omega, by show (evs.length : Int) + i < 100; omega⟩, h3 _ (rd86_mem' gaps i hi)⟩)
 have hlen : fs.length = evs.length + gaps.length := by
  have := congrArg List.length hf
  rw [List.length_map] at this
  rw [this]; unfold saidL; simp
 have hget : ∀ (k : Nat) (hk : k < fs.length), (fs[k]).1 = (saidL evs gaps)[k]'(by rw [← hf, List.length_map]; exact hk) := by
  intro k hk
  have : (fs.map (·.1))[k]'(by rw [List.length_map]; exact hk) = (fs[k]).1 := by rw [List.getElem_map]
  rw [← this]
  simp only [hf]
 refine ⟨fs, ⟨hlen, fun i hi hie => ?_, fun i hi hig => ?_⟩, fun om => ?_, hf⟩
 ·rw [hget i hi]
  unfold saidL
  rw [List.getElem_append_left (by simp; exact hie)]
  simp
 ·rw [hget _ hi]
  unfold saidL
  rw [List.getElem_append_right (by simp)]
  simp
 ·unfold bindF bindP
  rw [← hf, List.foldl_map]
theorem facts_ex (evs : List S27) (gaps : List S86) (h : histOk evs gaps) : ∃ fs : List Fc, IsFacts evs gaps fs ∧ ∀ om, bindF om fs = bindP om (saidL evs gaps) := by
 obtain ⟨fs, h1, h2, _⟩ := facts_ex0 evs gaps h
 exact ⟨fs, h1, h2⟩
theorem sure_calls (b : Nat) (e g : Value) (B : Int → Int → Int) (x y : Int) (w : World) (h : Bd w b e g B) (x0 : 0 ≤ x) (x1 : x < 11) (y0 : 0 ≤ y) (y1 : y < 11) :
  Calls Try.prog 115 #[.pointer (some ⟨b, 0, none⟩), .int .i64 x, .int .i64 y] w fun ee w' => ee = .returned (.bool (decide (B y x < 0))) ∧ w' = w := by
 have c1 := h.at' y x y0 y1 x0 x1
 go_enter Try.func115, Try.ntmps115
 go_wp2
 go_ret
 exact ⟨rfl, rfl⟩
theorem look_nil (W : World) (k : Int) (h0 : 0 ≤ k) (h1 : k < 100) : (Instr.lookup 111 (.map none) (.int .i64 k) false).run Try.prog W = .ok (.bool false) W := by
 kernel_rfl
def tightR (evs : List S27) (gaps : List S86) : Option (Option (Int → Int → Int) × Int) :=
 (skew_isHist.f 1000 evs gaps).bind fun t => if t = true then
  if histOk evs gaps then match tightenF (bindP (fun _ => false) (saidL evs gaps)) with | some B => some (some B, 0) | none => some (none, 5)
  else none
 else some (none, 2)
def TightPost (ev gv : Value) (R : Option (Int → Int → Int)) (r : Int) (w : World) (e : Ending) (w' : World) : Prop :=
 ∃ p : Option Nat, e = .returned (.tuple #[.pointer (p.map fun b => ⟨b, 0, none⟩), .int .i64 r]) ∧ (∀ B, R = some B → ∃ b, p = some b ∧ w.heap.size ≤ b ∧ Bd w' b ev gv B) ∧ (R = none → r ≠ 0) ∧ (∀ B, R = some B → r = 0) ∧ Below w.heap.size w w'
set_option maxHeartbeats 2000000 in
set_option maxRecDepth 100000 in
theorem tight_calls (A0 A1 : Option Addr) (c0 c1 : Nat) (evs : List S27) (gaps : List S86) (R : Option (Int → Int → Int)) (r : Int) (w : World) (hC0 : Kd.C k27 w A0 evs.length evs) (hc0 : evs.length ≤ c0) (hC1 : Kd.C k86 w A1 gaps.length gaps) (hc1 : gaps.length ≤ c1) (h : tightR evs gaps = some (R, r)) :
  Calls Try.prog 108 #[.agg #[.slice A0 evs.length c0, .slice A1 gaps.length c1]] w fun e w' => TightPost (.slice A0 evs.length c0) (.slice A1 gaps.length c1) R r w e w' := by
 unfold tightR at h
 obtain ⟨t, ht, h⟩ := Option.bind_eq_some_iff.mp h
 have hb0 := below_alloc (Below.refl w.heap.size w) (.cells #[.slice A0 evs.length c0, .slice A1 gaps.length c1] 39)
 have hk0 := blk_new w (.cells #[.slice A0 evs.length c0, .slice A1 gaps.length c1] 39)
 have HIs := Aa (skew_isHist.calls 1000 A0 c0 evs A1 c1 gaps t _ (Kd.C_below hC0 hb0) hc0 (Kd.C_below hC1 hb0) hc1 ht)
 have x0 := cell_at hk0 0 (.slice A0 evs.length c0) rfl
 have x1 := cell_at hk0 1 (.slice A1 gaps.length c1) rfl
 have HB0 := Aa hb0
 have HK0 := Aa hk0
 clear hb0 hk0 ht
 cases t with
 | false =>
  rw [if_neg (by simp)] at h
  simp only [Option.some.injEq, Prod.mk.injEq] at h
  obtain ⟨rfl, rfl⟩ := h
  go_enter Try.func108, Try.ntmps108
  go_wp2_with (go_at_call 77; refine HIs.out.mono ?_; rintro e w1 ⟨rfl, hb⟩; have HB1 := Aa (below_step HB0.out hb); clear hb)
  go_ret2
  exact ⟨none, rfl, fun B h => (by cases h), fun _ => (by decide), fun B h => (by cases h), HB1.out⟩
 | true =>
  rw [if_pos rfl] at h
  by_cases hok : histOk evs gaps
  ·rw [if_pos hok] at h
   obtain ⟨fs, hfs, hbp⟩ := facts_ex evs gaps hok
   have hb2 := hbp (fun _ => false)
   go_enter Try.func108, Try.ntmps108
   go_wp2_with fail
   refine HIs.out.mono ?_
   rintro e w1 ⟨rfl, hb⟩
   have HB1 := Aa (below_step HB0.out hb)
   have hk1 := blk_below HK0.out hb
   have y0 := cell_at hk1 0 (.slice A0 evs.length c0) rfl
   have y1 := cell_at hk1 1 (.slice A1 gaps.length c1) rfl
   have HC := Aa (bind_calls A0 A1 c0 c1 evs gaps fs hfs none (fun _ => false) w1 (Kd.C_below hC0 HB1.out) (Kd.C_below hC1 HB1.out) hok.1 hok.2.1 (fun W _ k h0 h1 => look_nil W k h0 h1))
   clear hb HIs x0 x1 hk1
   go_wp2_with (go_at_call 78; refine HC.out.mono ?_; rintro e w2 ⟨rfl, hbd, hb⟩; have HBd := Aa hbd; have HB2 := Aa (below_step HB1.out hb); have HT := Aa (tighten_calls _ w1.heap.size _ _ _ _ hbd (by omega)); clear hbd hb HC)
   cases hT : tightenF (bindP (fun _ => false) (saidL evs gaps)) with
   | none =>
    rw [hT] at h
    simp only [Option.some.injEq, Prod.mk.injEq] at h
    obtain ⟨rfl, rfl⟩ := h
    have ht := HT.out
    rw [hb2, hT] at ht
    have HT2 := Aa ht
    clear ht HT hb2 hbp
    refine HT2.out.mono ?_
    rintro e w3 ⟨rfl, _, hb⟩
    have HB3 := Aa (HB2.out.trans (below_weak hb HB1.out.size))
    clear hb HT2
    go_wp2
    go_ret2
    exact ⟨none, rfl, fun B h => (by cases h), fun _ => (by decide), fun B h => (by cases h), HB3.out⟩
   | some B =>
    rw [hT] at h
    simp only [Option.some.injEq, Prod.mk.injEq] at h
    obtain ⟨rfl, rfl⟩ := h
    have ht := HT.out
    rw [hb2, hT] at ht
    have HT2 := Aa ht
    clear ht HT hb2 hbp
    refine HT2.out.mono ?_
    rintro e w3 ⟨rfl, hbd, hb⟩
    have HB3 := Aa (HB2.out.trans (below_weak hb HB1.out.size))
    have HD := Aa (hbd B rfl)
    clear hb HT2 hbd
    go_wp2
    go_ret2
    exact ⟨some (w1.heap.size + 2), rfl, fun B' h => (by cases h; exact ⟨_, rfl, (by have := HB1.out.size; omega), HD.out⟩), fun h => (by cases h), fun _ _ => rfl, HB3.out⟩
  ·rw [if_neg hok] at h; cases h
end Go.Proofs.Ytbffhblebigcfaa.Sk

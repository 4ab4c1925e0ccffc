/- The walk of known: the chapter's examples hold. -/
import Derived.BigQuiet
import Derived.Deep.QuietTactic
import Derived.Deep.RegionWith
import Derived.Deep.RegionHeld3
import Derived.Test.YtbffhblebigcfaaCPrGVals
namespace Go.Proofs.Ytbffhblebigcfaa.Sk
open Go.RowKit Go.Shelf Go.Proofs.YtbffhblebigcfaaW.PrintWords Go.Proofs.YtbffhblebigcfaaW.PrintLast Go.Proofs.YtbffhblebigcfaaW.PrintMore
set_option linter.unusedVariables false
set_option linter.unusedSimpArgs false
theorem reps_flat {α : Type} {R : α → List Value → Prop} {size : Nat} (enc : α → List Value) (hR : ∀ x, R x (enc x)) (hl : ∀ x, (enc x).length = size) : ∀ xs : List α, Reps R size xs (xs.flatMap enc) := by
 intro xs
 induction xs with
 | nil => exact Reps.none _ _
 | cons x xs ih =>
  rw [List.flatMap_cons]
  refine ⟨by rw [List.length_append, hl, ih.1, List.length_cons, Nat.add_mul]; omega, fun j p hj => ?_⟩
  cases j with
  | zero =>
   rw [List.getElem?_cons_zero] at hj
   cases hj
   rw [Nat.zero_mul, List.drop_zero, List.take_append_of_le_length (by rw [hl]; exact Nat.le_refl _), List.take_of_length_le (by rw [hl]; exact Nat.le_refl _)]
   exact hR _
  | succ j =>
   rw [List.getElem?_cons_succ] at hj
   have e : (j + 1) * size = (enc x).length + j * size := by rw [hl, Nat.add_mul]; omega
   rw [e, List.drop_length_add_append]
   exact ih.2 j p hj
theorem C_lit {α : Type} (d : Kd α) {W : World} {g : Nat} {e : TypeId} {cs : Array Value} (xs : List α) (h : W.heap[g]? = some (.cells cs e (0, 0))) (hr : Reps (d.K W) d.sz xs cs.toList) (hn : xs.length ≤ 9223372036854775807) : Kd.C d W (some ⟨g, 0, none⟩) xs.length xs := by
 refine ⟨rfl, hn, fun _ => ⟨⟨g, 0, none⟩, rfl, fun j p hj => ⟨(cs.toList.drop (j * d.sz)).take d.sz, d.K_len (hr.2 j p hj), hr.2 j p hj, fun i u hu => ?_⟩⟩⟩
 have hi : i < d.sz := by
  have := (List.getElem?_eq_some_iff.mp hu).1
  have h2 := d.K_len (hr.2 j p hj)
  omega
 rw [List.getElem?_take, if_pos hi, List.getElem?_drop, Array.getElem?_toList] at hu
 have h3 := cell_at h (j * d.sz + i) u hu
 have e : (⟨g, 0, none⟩ : Addr).add (j * d.sz + i) = ⟨g, j * d.sz + i, none⟩ := by
  unfold Addr.add
  by_cases h0 : j * d.sz + i = 0
  ·rw [if_pos h0, h0]
  ·rw [if_neg h0, Nat.zero_add]
 rw [e]
 exact h3
theorem C_lit27 {W : World} {g : Nat} (xs : List S27) (h : W.heap[g]? = some (.cells (xs.flatMap fun x => [Value.int .i64 x.f0, Value.int .i64 x.f1]).toArray 27 (0, 0))) (hn : xs.length ≤ 9223372036854775807) : Kd.C k27 W (some ⟨g, 0, none⟩) xs.length xs :=
 C_lit k27 xs h (reps_flat _ (fun x => Kd.K_of_M k27 (k27_mkM W 0 (fun _ => True) x)) (fun _ => rfl) xs) hn
theorem C_lit47 {W : World} {g : Nat} (xs : List S47) (h : W.heap[g]? = some (.cells (xs.flatMap fun x => [Value.int .i64 x.f0, Value.int .i64 x.f1]).toArray 47 (0, 0))) (hn : xs.length ≤ 9223372036854775807) : Kd.C k47 W (some ⟨g, 0, none⟩) xs.length xs :=
 C_lit k47 xs h (reps_flat _ (fun x => Kd.K_of_M k47 (k47_mkM W 0 (fun _ => True) x)) (fun _ => rfl) xs) hn
theorem C_lit3 {W : World} {g : Nat} (xs : List Int) (h : W.heap[g]? = some (.cells (xs.flatMap fun x => [Value.int .i64 x]).toArray 3 (0, 0))) (hn : xs.length ≤ 9223372036854775807) : Kd.C (Kd.int .i64) W (some ⟨g, 0, none⟩) xs.length xs :=
 C_lit (Kd.int .i64) xs h (reps_flat (R := (Kd.int .i64).K W) (fun x => [Value.int .i64 x]) (fun x => rfl) (fun _ => rfl) xs) hn
theorem V_read {α : Type} {d : Kd α} {e : Nat} {W : World} {base : Nat} {ok : Nat → Prop} {v : Value} {xs : List α} (h : Kd.V d e W base ok v xs) : ∃ A c, v = .slice A xs.length c ∧ xs.length ≤ c ∧ d.C W A xs.length xs := by
 obtain ⟨A, c, e, hl, hf⟩ := h
 exact ⟨A, c, e, hl, Kd.F_now hf⟩
theorem r27_flat {W : World} {base : Nat} {ok ok' : Nat → Prop} {v : Value} {l : List S27} (h : Kd.R k27 27 W base ok v l) (hk : ∀ k, v.ownBlock = some k → ok' k) : Kd.R k27 27 W base ok' v l := ⟨hk, h.2⟩
theorem r27_step {W W1 : World} {base : Nat} {ok : Nat → Prop} {v : Value} {l : List S27} (h : Kd.R k27 27 W base ok v l) (hm : ∀ k, v.ownBlock = some k → W1.heap[k]? = W.heap[k]?) : Kd.R k27 27 W1 base ok v l :=
 r27_flat (Kd.R_move (r27_flat h (ok' := fun k => v.ownBlock = some k) (fun _ hk => hk)) hm) h.1
theorem r27_r86 {W : World} {base base' : Nat} {ok ok' : Nat → Prop} {v u : Value} {l : List S27} {l' : List S86} (h : Kd.R k27 27 W base ok v l) (h' : Kd.R k86 86 W base' ok' u l') (k : Nat) (hk : v.ownBlock = some k) : some k ≠ u.ownBlock := fun e => by
 obtain ⟨_, _, _, q, hq, cs, hc⟩ := (Kd.R_bound h).1 k hk
 obtain ⟨_, _, _, q', hq', cs', hc'⟩ := (Kd.R_bound h').1 k e.symm
 rw [hc] at hc'
 injection hc' with hc'
 injection hc' with _ hc'
 have e1 : q = 27 := by simpa [k27, Kd.iso, Kd.pair, Kd.int, Kd.scalar] using hq
 have e2 : q' = 86 := by simpa [k86, Kd.iso, Kd.pair, Kd.int, Kd.scalar] using hq'
 rw [e1, e2] at hc'
 exact absurd hc' (by decide)
def afterwordlaw19_known.f : Option Bool := some true
set_option maxRecDepth 100000 in
set_option maxHeartbeats 8000000 in
theorem afterwordlaw19_known.calls (r : Bool) (w : World) (h : afterwordlaw19_known.f = some r) :
  Calls Try.prog 21 #[] w fun e w' => e = .returned (.bool r) ∧ Below w.heap.size w w' := by
 obtain rfl := Option.some.inj h
 clear h
 have HB := Aside0.mk (Below.refl w.heap.size w)
 go_enter Try.func21, Try.ntmps21
 go_wp2_with fail
 refine (afterwordlaw19_Clock.calls 100 3 50 _ rfl).mono ?_
 rintro e w1 ⟨rfl, hb⟩
 replace HB := Aside0.mk (below_step HB.out hb)
 clear hb
 go_wp2_with fail
 refine (skew_Span.calls 100 3 50 101 97 105 0 _ ex_span).mono ?_
 rintro e w2 ⟨rfl, hb⟩
 replace HB := Aside0.mk (below_step HB.out hb)
 clear hb
 have HK1 := Aside0.mk (blk_new w2 (.cells #[.int .i64 97, .int .i64 105] 27))
 replace HB := Aside0.mk (below_alloc HB.out (.cells #[.int .i64 97, .int .i64 105] 27))
 obtain ⟨n1, hn1⟩ : ∃ n1, w2.heap.size = n1 := ⟨_, rfl⟩
 go_wp2_with fail
 rw [hn1] at HK1
 refine (afterwordlaw19_Clock.calls 100 3 50 _ rfl).mono ?_
 rintro e w3 ⟨rfl, hb⟩
 replace HB := Aside0.mk (below_step HB.out hb)
 replace HK1 := Aside0.mk (blk_below HK1.out hb)
 clear hb
 go_wp2_with fail
 refine (skew_Wait.calls 100 3 50 100 110 115 0 _ ex_wait).mono ?_
 rintro e w4 ⟨rfl, hb⟩
 replace HB := Aside0.mk (below_step HB.out hb)
 replace HK1 := Aside0.mk (blk_below HK1.out hb)
 clear hb
 go_wp2_with fail
 refine (afterwordlaw19_Clock.calls 100 3 50 _ rfl).mono ?_
 rintro e w5 ⟨rfl, hb⟩
 replace HB := Aside0.mk (below_step HB.out hb)
 replace HK1 := Aside0.mk (blk_below HK1.out hb)
 clear hb
 go_wp2_with fail
 refine (skew_Mark.calls 100 3 50 150 20 5 121 0 _ ex_mark).mono ?_
 rintro e w6 ⟨rfl, hb⟩
 replace HB := Aside0.mk (below_step HB.out hb)
 replace HK1 := Aside0.mk (blk_below HK1.out hb)
 clear hb
 go_wp2_with fail
 refine (afterwordlaw19_Span.calls 8 12 8 12 _ rfl).mono ?_
 rintro e w7 ⟨rfl, hb⟩
 replace HB := Aside0.mk (below_step HB.out hb)
 replace HK1 := Aside0.mk (blk_below HK1.out hb)
 clear hb
 go_wp2_with fail
 refine (afterwordlaw19_Span.calls 11 13 11 13 _ rfl).mono ?_
 rintro e w8 ⟨rfl, hb⟩
 replace HB := Aside0.mk (below_step HB.out hb)
 replace HK1 := Aside0.mk (blk_below HK1.out hb)
 clear hb
 go_wp2_with fail
 refine (afterwordlaw19_Span.calls 10 12 10 12 _ rfl).mono ?_
 rintro e w9 ⟨rfl, hb⟩
 replace HB := Aside0.mk (below_step HB.out hb)
 replace HK1 := Aside0.mk (blk_below HK1.out hb)
 clear hb
 go_wp2_with fail
 have hv := blk_new w9 (.cells #[.int .i64 8, .int .i64 12, .int .i64 11, .int .i64 13, .int .i64 10, .int .i64 12] 27)
 replace HB := Aside0.mk (below_alloc HB.out (.cells #[.int .i64 8, .int .i64 12, .int .i64 11, .int .i64 13, .int .i64 10, .int .i64 12] 27))
 replace HK1 := Aside0.mk (blk_alloc HK1.out (.cells #[.int .i64 8, .int .i64 12, .int .i64 11, .int .i64 13, .int .i64 10, .int .i64 12] 27))
 refine (skew_Vote.calls (some ⟨w9.heap.size, 0, none⟩) 3 [⟨8, 12⟩, ⟨11, 13⟩, ⟨10, 12⟩] 11 12 3 0 (w9.alloc (.cells #[.int .i64 8, .int .i64 12, .int .i64 11, .int .i64 13, .int .i64 10, .int .i64 12] 27)) (C_lit27 _ hv (by decide)) (by decide) ex_vote).mono ?_
 rintro e w10 ⟨rfl, hb⟩
 replace HB := Aside0.mk (below_step HB.out hb)
 replace HK1 := Aside0.mk (blk_below HK1.out hb)
 clear hb hv
 have HK2 := Aside0.mk (blk_new w10 (.cells #[.int .i64 11, .int .i64 12] 27))
 replace HB := Aside0.mk (below_alloc HB.out (.cells #[.int .i64 11, .int .i64 12] 27))
 replace HK1 := Aside0.mk (blk_alloc HK1.out (.cells #[.int .i64 11, .int .i64 12] 27))
 obtain ⟨n2, hn2⟩ : ∃ n2, w10.heap.size = n2 := ⟨_, rfl⟩
 rw [hn2] at HK2
 go_wp2_with fail
 have y1 := cell_at HK1.out 0 (.int .i64 97) rfl
 have y2 := cell_at HK1.out 1 (.int .i64 105) rfl
 have y3 := cell_at HK2.out 0 (.int .i64 11) rfl
 have y4 := cell_at HK2.out 1 (.int .i64 12) rfl
 clear HK1 HK2
 generalize (w10.alloc (.cells #[.int .i64 11, .int .i64 12] 27)) = W at HB y1 y2 y3 y4 ⊢
 have HBd := Aside0.mk (below_drew1 HB.out)
 go_region_held3 (fun W' => Below w.heap.size w W' ∧ W'.cell? ⟨n1, 0, none⟩ = some (.int .i64 97) ∧ W'.cell? ⟨n1, 1, none⟩ = some (.int .i64 105) ∧ W'.cell? ⟨n2, 0, none⟩ = some (.int .i64 11) ∧ W'.cell? ⟨n2, 1, none⟩ = some (.int .i64 12))
  (first | (with_reducible (refine ⟨HBd.out, ?_, ?_, ?_, ?_⟩)) <;> (apply cell_drew; with_reducible assumption) | (go_split_ands; (with_reducible refine ⟨below_step (by assumption) hb, ?_, ?_, ?_, ?_⟩) <;> (apply pw_cell_below hb; with_reducible assumption)))
  (first | (go_at_call 55; (with_reducible refine (afterwordlaw19_Span.calls 97 105 97 105 _ rfl).mono ?_); rintro e w' ⟨rfl, hb⟩) | (go_at_call 55; (with_reducible refine (afterwordlaw19_Span.calls 11 12 11 12 _ rfl).mono ?_); rintro e w' ⟨rfl, hb⟩))
 rename_i hS
 replace HB := Aside0.mk hS.1
 clear hS y1 y2 y3 y4
 go_wp2_with fail
 refine (afterwordlaw19_Hist.calls exE exG _ ex_hist).mono ?_
 rintro e w11 ⟨v0, v1, rfl, ho0, ho1, hb⟩
 obtain ⟨A0, c0, rfl, hc0, hC0⟩ := Kd.R_reads ho0
 obtain ⟨A1, c1, rfl, hc1, hC1⟩ := Kd.R_reads ho1
 replace HB := Aside0.mk (below_step HB.out hb)
 have HCa := Aside0.mk hC0
 have HCb := Aside0.mk hC1
 clear hb ho0 ho1 hC0 hC1
 go_wp2_with fail
 refine (skew_Tight.calls A0 c0 exE A1 c1 exG [⟨10, 20⟩, ⟨15, 28⟩, ⟨16, 40⟩] 0 _ HCa.out hc0 HCb.out hc1 ex_tight).mono ?_
 rintro e w12 ⟨vt, rfl, hv, hb⟩
 obtain ⟨At, ct, rfl, hct, hCt⟩ := V_read hv
 replace HB := Aside0.mk (below_step HB.out hb)
 have HCt := Aside0.mk hCt
 clear hb hv hCt HCa HCb
 go_wp2_with fail
 refine (afterwordlaw19_Hist.calls exE exG _ ex_hist).mono ?_
 rintro e w13 ⟨v0, v1, rfl, ho0, ho1, hb⟩
 obtain ⟨A0, c0, rfl, hc0, hC0⟩ := Kd.R_reads ho0
 obtain ⟨A1, c1, rfl, hc1, hC1⟩ := Kd.R_reads ho1
 replace HB := Aside0.mk (below_step HB.out hb)
 replace HCt := Aside0.mk (Kd.C_below HCt.out hb)
 have HCa := Aside0.mk hC0
 have HCb := Aside0.mk hC1
 clear hb ho0 ho1 hC0 hC1
 go_wp2_with fail
 refine (skew_Sure.calls A0 c0 exE A1 c1 exG 0 1 true 0 _ HCa.out hc0 HCb.out hc1 ex_sure1).mono ?_
 rintro e w14 ⟨rfl, hb⟩
 replace HB := Aside0.mk (below_step HB.out hb)
 replace HCt := Aside0.mk (Kd.C_below HCt.out hb)
 clear hb HCa HCb
 go_wp2_with fail
 refine (afterwordlaw19_Hist.calls exE exG _ ex_hist).mono ?_
 rintro e w15 ⟨v0, v1, rfl, ho0, ho1, hb⟩
 obtain ⟨A0, c0, rfl, hc0, hC0⟩ := Kd.R_reads ho0
 obtain ⟨A1, c1, rfl, hc1, hC1⟩ := Kd.R_reads ho1
 replace HB := Aside0.mk (below_step HB.out hb)
 replace HCt := Aside0.mk (Kd.C_below HCt.out hb)
 have HCa := Aside0.mk hC0
 have HCb := Aside0.mk hC1
 clear hb ho0 ho1 hC0 hC1
 go_wp2_with fail
 refine (skew_Sure.calls A0 c0 exE A1 c1 exG 2 0 false 0 _ HCa.out hc0 HCb.out hc1 ex_sure2).mono ?_
 rintro e w16 ⟨rfl, hb⟩
 replace HB := Aside0.mk (below_step HB.out hb)
 replace HCt := Aside0.mk (Kd.C_below HCt.out hb)
 clear hb HCa HCb
 go_wp2_with fail
 refine (afterwordlaw19_Hist.calls exE exG _ ex_hist).mono ?_
 rintro e w17 ⟨v0, v1, rfl, ho0, ho1, hb⟩
 obtain ⟨A0, c0, rfl, hc0, hC0⟩ := Kd.R_reads ho0
 obtain ⟨A1, c1, rfl, hc1, hC1⟩ := Kd.R_reads ho1
 replace HB := Aside0.mk (below_step HB.out hb)
 replace HCt := Aside0.mk (Kd.C_below HCt.out hb)
 have HCa := Aside0.mk hC0
 have HCb := Aside0.mk hC1
 clear hb ho0 ho1 hC0 hC1
 go_wp2_with fail
 refine (skew_Order.calls A0 c0 exE A1 c1 exG [0, 1, 2] 0 _ HCa.out hc0 HCb.out hc1 ex_order).mono ?_
 rintro e w18 ⟨vo, rfl, hv, hb⟩
 obtain ⟨Ao, co, rfl, hco, hCo⟩ := V_read hv
 replace HB := Aside0.mk (below_step HB.out hb)
 replace HCt := Aside0.mk (Kd.C_below HCt.out hb)
 have HCo := Aside0.mk hCo
 clear hb hv hCo HCa HCb
 go_wp2_with fail
 refine (afterwordlaw19_Span.calls 10 20 10 20 _ rfl).mono ?_
 rintro e w19 ⟨rfl, hb⟩
 replace HB := Aside0.mk (below_step HB.out hb)
 replace HCt := Aside0.mk (Kd.C_below HCt.out hb)
 replace HCo := Aside0.mk (Kd.C_below HCo.out hb)
 clear hb
 go_wp2_with fail
 refine (afterwordlaw19_Span.calls 15 28 15 28 _ rfl).mono ?_
 rintro e w20 ⟨rfl, hb⟩
 replace HB := Aside0.mk (below_step HB.out hb)
 replace HCt := Aside0.mk (Kd.C_below HCt.out hb)
 replace HCo := Aside0.mk (Kd.C_below HCo.out hb)
 clear hb
 go_wp2_with fail
 refine (afterwordlaw19_Span.calls 16 40 16 40 _ rfl).mono ?_
 rintro e w21 ⟨rfl, hb⟩
 replace HB := Aside0.mk (below_step HB.out hb)
 replace HCt := Aside0.mk (Kd.C_below HCt.out hb)
 replace HCo := Aside0.mk (Kd.C_below HCo.out hb)
 clear hb
 go_wp2_with fail
 have hl := blk_new w21 (.cells #[.int .i64 10, .int .i64 20, .int .i64 15, .int .i64 28, .int .i64 16, .int .i64 40] 27)
 have hba := below_alloc (Below.refl _ _) (.cells #[.int .i64 10, .int .i64 20, .int .i64 15, .int .i64 28, .int .i64 16, .int .i64 40] 27) (W := w21)
 refine (afterwordref19_SameSpans.calls 10 At ct [⟨10, 20⟩, ⟨15, 28⟩, ⟨16, 40⟩] (some ⟨w21.heap.size, 0, none⟩) 3 [⟨10, 20⟩, ⟨15, 28⟩, ⟨16, 40⟩] true (w21.alloc (.cells #[.int .i64 10, .int .i64 20, .int .i64 15, .int .i64 28, .int .i64 16, .int .i64 40] 27)) (Kd.C_below HCt.out hba) hct (C_lit27 _ hl (by decide)) (by decide) ex_same1).mono ?_
 rintro e w22 ⟨rfl, hd⟩
 have hb := hba.trans (below_weak hd.below hba.size)
 replace HB := Aside0.mk (below_step HB.out hb)
 replace HCo := Aside0.mk (Kd.C_below HCo.out hb)
 clear hb hba hl hd HCt
 go_wp2_with fail
 have hl := blk_new w22 (.cells #[.int .i64 0, .int .i64 1, .int .i64 2] 3)
 have hba := below_alloc (Below.refl _ _) (.cells #[.int .i64 0, .int .i64 1, .int .i64 2] 3) (W := w22)
 refine (afterwordref19_Same.calls 10 Ao co [0, 1, 2] (some ⟨w22.heap.size, 0, none⟩) 3 [0, 1, 2] true (w22.alloc (.cells #[.int .i64 0, .int .i64 1, .int .i64 2] 3)) (Kd.C_below HCo.out hba) hco (C_lit3 _ hl (by decide)) (by decide) ex_same2).mono ?_
 rintro e w23 ⟨rfl, hd⟩
 have hb := hba.trans (below_weak hd.below hba.size)
 replace HB := Aside0.mk (below_step HB.out hb)
 clear hb hba hl hd HCo
 go_wp2_with fail
 refine (afterwordlaw19_Hist.calls exE exG _ ex_hist).mono ?_
 rintro e w24 ⟨v0, v1, rfl, ho0, ho1, hb⟩
 have HSz0 := Aside0.mk (HB.out.size)
 obtain ⟨A0, c0, rfl, hc0, hC0⟩ := Kd.R_reads ho0
 obtain ⟨A1, c1, rfl, hc1, hC1⟩ := Kd.R_reads ho1
 replace HB := Aside0.mk (below_step HB.out hb)
 have hk3 := blk_new w24 (.cells #[.slice A0 exE.length c0, .slice A1 exG.length c1] 39)
 have hb3 := below_alloc (Below.refl w24.heap.size w24) (.cells #[.slice A0 exE.length c0, .slice A1 exG.length c1] 39)
 have HSw := Aside0.mk (HB.out.size)
 replace HB := Aside0.mk (below_step HB.out hb3)
 have HOa := Aside0.mk (Kd.R_below ho0 hb3)
 have HOb := Aside0.mk (Kd.R_below ho1 hb3)
 have HOl := Aside0.mk (fun k (hk : (Value.slice A1 exG.length c1).ownBlock = some k) => ((Kd.R_bound ho1).1 k hk).2.2.1)
 have HK3 := Aside0.mk hk3
 have HSz := Aside0.mk (Nat.le_trans hb.size hb3.size)
 have z1 := cell_at hk3 1 (.slice A1 exG.length c1) rfl
 have z0 := cell_at hk3 0 (.slice A0 exE.length c0) rfl
 clear hb hb3 ho0 ho1 hC0 hC1 hk3
 go_wp2_with (at_builtin; go_must (refine Kd.R_append k86 (w0 := (w24.alloc (.cells #[.slice A0 exE.length c0, .slice A1 exG.length c1] 39))) (W := (w24.alloc (.cells #[.slice A0 exE.length c0, .slice A1 exG.length c1] 39))) w23.heap.size rfl (.tmp 138) (.tmp 140) 37 86 (.agg #[(.int .i64 0), (.int .i64 0), (.int .i64 0), (.int .i64 0)]) 32 rfl Try.underlying37 info86 rfl (by decide) (by decide) (.slice A1 exG.length c1) exG ⟨2, 0, -3, 100⟩ [.int .i64 2, .int .i64 0, .int .i64 (-3), .int .i64 100] (fun _ => True) (fun _ => False) rfl (by rw [World.size_alloc]; rfl) (k86_mkM _ _ _ (⟨2, 0, -3, 100⟩ : S86)) (fun _ hk => hk.elim) (fun _ _ => trivial) HOb.out (Below.refl _ _) HSz.out (by decide) ?_; intro v1 w25 ho hb hg hat; obtain ⟨A7, c7, hc7, e7⟩ : ∃ A7 c7, (exG ++ [(⟨2, 0, -3, 100⟩ : S86)]).length ≤ c7 ∧ v1 = .slice A7 3 c7 := (by obtain ⟨A, c, e, hc, _⟩ := Kd.R_reads ho; exact ⟨A, c, hc, e⟩); subst e7; have HP := Aside0.mk ho; have HG := Aside0.mk hg; have hk5 := (hg.block w24.heap.size (blk_lt HK3.out) (fun e => by have := HOl.out _ e.symm; omega)).trans HK3.out; have HK5 := Aside0.mk hk5; have z2 := cell_at hk5 1 (.slice A1 exG.length c1) rfl; have z3 := blk_frozen hk5 1; have z4 := cell_at hk5 0 (.slice A0 exE.length c0) rfl; clear ho hb hg hat hk5))
 have hra := r27_step HOa.out (W1 := w25) (fun k hk => HG.out.block k ((Kd.R_bound HOa.out).1 k hk).2.2.1 (r27_r86 HOa.out HOb.out k hk))
 have hsa := Kd.R_set hra HK5.out (by decide) 1 (.slice A7 3 c7)
 have hsb := Kd.R_set HP.out HK5.out (by decide) 1 (.slice A7 3 c7)
 have hg5 := HG.out
 have hbn : Below w.heap.size w (w25.setCell ⟨w24.heap.size, 1, none⟩ (.slice A7 3 c7)) := by
  have h1 : Below w.heap.size w w25 := below_grown HB.out hg5 HB.out.size (fun r e => by
   have h2 := ((Kd.R_bound HOb.out).1 r e).2.1
   have h3 := HSz0.out
   omega)
  exact h1.setCell (show w.heap.size ≤ w24.heap.size from HSw.out) _
 replace HB := Aside0.mk hbn
 obtain ⟨Ax, cx, ex, hcx, hCx⟩ := Kd.R_reads hsa
 obtain ⟨Ay, cy, ey, hcy, hCy⟩ := Kd.R_reads hsb
 cases ex
 cases ey
 have HCa := Aside0.mk hCx
 have HCb := Aside0.mk hCy
 clear hra hsa hsb hg5 hbn hCx hCy z0 z1 z2 z3 z4 HK5 HOa HOb HOl HK3 HP HG
 generalize (w25.setCell ⟨w24.heap.size, 1, none⟩ (.slice A7 3 c7)) = w26 at HB HCa HCb ⊢
 refine (skew_Reason.calls A0 c0 exE A7 c7 exP [3, 4, 5] 0 w26 HCa.out hcx HCb.out hcy ex_reason).mono ?_
 rintro e w27 ⟨vr, rfl, hv, hb⟩
 obtain ⟨Ar, cr, rfl, hcr, hCr⟩ := V_read hv
 replace HB := Aside0.mk (below_step HB.out hb)
 have HCr := Aside0.mk hCr
 clear hb hv hCr HCa HCb
 go_wp2_with fail
 refine (afterwordlaw19_Run.calls exR _ ex_run).mono ?_
 rintro e w28 ⟨v0, rfl, ho0, hb⟩
 obtain ⟨A2, c2, rfl, hc2, hC2⟩ := Kd.R_reads ho0
 replace HB := Aside0.mk (below_step HB.out hb)
 replace HCr := Aside0.mk (Kd.C_below HCr.out hb)
 have HC2 := Aside0.mk hC2
 clear hb ho0 hC2
 go_wp2_with fail
 refine (skew_Stamps.calls A2 c2 exR [⟨50, 0⟩, ⟨50, 1⟩, ⟨50, 2⟩, ⟨50, 3⟩, ⟨60, 0⟩] 0 _ HC2.out hc2 ex_stamps).mono ?_
 rintro e w29 ⟨vs, rfl, hv, hb⟩
 obtain ⟨As, cs, rfl, hcs, hCs⟩ := V_read hv
 replace HB := Aside0.mk (below_step HB.out hb)
 replace HCr := Aside0.mk (Kd.C_below HCr.out hb)
 have HCs := Aside0.mk hCs
 clear hb hv hCs HC2
 go_wp2_with fail
 refine (afterwordlaw19_Run.calls exR _ ex_run).mono ?_
 rintro e w30 ⟨v0, rfl, ho0, hb⟩
 obtain ⟨A2, c2, rfl, hc2, hC2⟩ := Kd.R_reads ho0
 replace HB := Aside0.mk (below_step HB.out hb)
 replace HCr := Aside0.mk (Kd.C_below HCr.out hb)
 replace HCs := Aside0.mk (Kd.C_below HCs.out hb)
 have HC2 := Aside0.mk hC2
 clear hb ho0 hC2
 go_wp2_with fail
 refine (skew_Counts.calls A2 c2 exR [[1, 0, 0, 0, 0, 0], [1, 1, 0, 0, 0, 0], [1, 2, 0, 0, 0, 0], [2, 2, 0, 0, 0, 0], [0, 0, 1, 0, 0, 0]] 0 _ HC2.out hc2 ex_counts).mono ?_
 rintro e w31 ⟨vc, rfl, hv, hb⟩
 obtain ⟨Ac, cc, rfl, hcc, hCc⟩ := V_read hv
 replace HB := Aside0.mk (below_step HB.out hb)
 replace HCr := Aside0.mk (Kd.C_below HCr.out hb)
 replace HCs := Aside0.mk (Kd.C_below HCs.out hb)
 have HCc := Aside0.mk hCc
 clear hb hv hCc HC2
 go_wp2_with fail
 refine (afterwordlaw19_Run.calls exR _ ex_run).mono ?_
 rintro e w32 ⟨v0, rfl, ho0, hb⟩
 obtain ⟨A2, c2, rfl, hc2, hC2⟩ := Kd.R_reads ho0
 replace HB := Aside0.mk (below_step HB.out hb)
 replace HCr := Aside0.mk (Kd.C_below HCr.out hb)
 replace HCs := Aside0.mk (Kd.C_below HCs.out hb)
 replace HCc := Aside0.mk (Kd.C_below HCc.out hb)
 have HC2 := Aside0.mk hC2
 clear hb ho0 hC2
 go_wp2_with fail
 refine (skew_At.calls A2 c2 exR 50 2 [1, 2, 0, 0, 0, 0] 0 _ HC2.out hc2 ex_at).mono ?_
 rintro e w33 ⟨vq, rfl, hv, hb⟩
 obtain ⟨Aq, cq, rfl, hcq, hCq⟩ := Kd.R_reads hv
 replace HB := Aside0.mk (below_step HB.out hb)
 replace HCr := Aside0.mk (Kd.C_below HCr.out hb)
 replace HCs := Aside0.mk (Kd.C_below HCs.out hb)
 replace HCc := Aside0.mk (Kd.C_below HCc.out hb)
 have HCq := Aside0.mk hCq
 clear hb hv hCq HC2
 go_wp2_with fail
 have hl := blk_new w33 (.cells #[.int .i64 3, .int .i64 4, .int .i64 5] 3)
 have hba := below_alloc (Below.refl _ _) (.cells #[.int .i64 3, .int .i64 4, .int .i64 5] 3) (W := w33)
 refine (afterwordref19_Same.calls 10 Ar cr [3, 4, 5] (some ⟨w33.heap.size, 0, none⟩) 3 [3, 4, 5] true (w33.alloc (.cells #[.int .i64 3, .int .i64 4, .int .i64 5] 3)) (Kd.C_below HCr.out hba) hcr (C_lit3 _ hl (by decide)) (by decide) ex_same3).mono ?_
 rintro e w34 ⟨rfl, hd⟩
 have hb := hba.trans (below_weak hd.below hba.size)
 replace HB := Aside0.mk (below_step HB.out hb)
 replace HCs := Aside0.mk (Kd.C_below HCs.out hb)
 have hCc := Kd.C_below HCc.out hb
 replace HCq := Aside0.mk (Kd.C_below HCq.out hb)
 obtain ⟨ad, cl, e1, _, hK, hcell⟩ := Kd.C_get hCc [] 3 (by decide) (by decide)
 obtain ⟨A3, c3, e3, hc3, hC3⟩ := hK
 subst e1
 subst e3
 have z1 : w34.cell? (ad.add 3) = some (.slice A3 6 c3) := hcell 0 _ rfl
 have z1b : w34.cell? ⟨ad.block, ad.off + 3, none⟩ = some (.slice A3 6 c3) := z1
 have HC3 := Aside0.mk hC3
 clear hb hba hl hd hCc hcell hC3 HCr HCc
 go_wp2_with fail
 have hl := blk_new w34 (.cells #[.int .i64 2, .int .i64 2, .int .i64 0, .int .i64 0, .int .i64 0, .int .i64 0] 3)
 have hba := below_alloc (Below.refl _ _) (.cells #[.int .i64 2, .int .i64 2, .int .i64 0, .int .i64 0, .int .i64 0, .int .i64 0] 3) (W := w34)
 refine (afterwordref19_Same.calls 10 A3 c3 [2, 2, 0, 0, 0, 0] (some ⟨w34.heap.size, 0, none⟩) 6 [2, 2, 0, 0, 0, 0] true (w34.alloc (.cells #[.int .i64 2, .int .i64 2, .int .i64 0, .int .i64 0, .int .i64 0, .int .i64 0] 3)) (Kd.C_below HC3.out hba) hc3 (C_lit3 _ hl (by decide)) (by decide) ex_same4).mono ?_
 rintro e w35 ⟨rfl, hd⟩
 have hb := hba.trans (below_weak hd.below hba.size)
 replace HB := Aside0.mk (below_step HB.out hb)
 replace HCs := Aside0.mk (Kd.C_below HCs.out hb)
 replace HCq := Aside0.mk (Kd.C_below HCq.out hb)
 clear hb hba hl hd HC3 z1 z1b
 go_wp2_with fail
 have hl := blk_new w35 (.cells #[.int .i64 1, .int .i64 2, .int .i64 0, .int .i64 0, .int .i64 0, .int .i64 0] 3)
 have hba := below_alloc (Below.refl _ _) (.cells #[.int .i64 1, .int .i64 2, .int .i64 0, .int .i64 0, .int .i64 0, .int .i64 0] 3) (W := w35)
 refine (afterwordref19_Same.calls 10 Aq cq [1, 2, 0, 0, 0, 0] (some ⟨w35.heap.size, 0, none⟩) 6 [1, 2, 0, 0, 0, 0] true (w35.alloc (.cells #[.int .i64 1, .int .i64 2, .int .i64 0, .int .i64 0, .int .i64 0, .int .i64 0] 3)) (Kd.C_below HCq.out hba) hcq (C_lit3 _ hl (by decide)) (by decide) ex_same5).mono ?_
 rintro e w36 ⟨rfl, hd⟩
 have hb := hba.trans (below_weak hd.below hba.size)
 replace HB := Aside0.mk (below_step HB.out hb)
 replace HCs := Aside0.mk (Kd.C_below HCs.out hb)
 clear hb hba hl hd HCq
 go_wp2_with fail
 refine (afterwordlaw19_Run.calls exR _ ex_run).mono ?_
 rintro e w37 ⟨v0, rfl, ho0, hb⟩
 obtain ⟨A2, c2, rfl, hc2, hC2⟩ := Kd.R_reads ho0
 replace HB := Aside0.mk (below_step HB.out hb)
 replace HCs := Aside0.mk (Kd.C_below HCs.out hb)
 have HC2 := Aside0.mk hC2
 clear hb ho0 hC2
 go_wp2_with fail
 have hl := blk_new w37 (.cells #[.int .i64 2, .int .i64 1, .int .i64 0, .int .i64 0, .int .i64 0, .int .i64 0] 3)
 have hba := below_alloc (Below.refl _ _) (.cells #[.int .i64 2, .int .i64 1, .int .i64 0, .int .i64 0, .int .i64 0, .int .i64 0] 3) (W := w37)
 refine (skew_Closed.calls A2 c2 exR (some ⟨w37.heap.size, 0, none⟩) 6 [2, 1, 0, 0, 0, 0] false 0 (w37.alloc (.cells #[.int .i64 2, .int .i64 1, .int .i64 0, .int .i64 0, .int .i64 0, .int .i64 0] 3)) (Kd.C_below HC2.out hba) hc2 (C_lit3 _ hl (by decide)) (by decide) ex_closed).mono ?_
 rintro e w38 ⟨rfl, hb1⟩
 have hb := hba.trans (below_weak hb1 hba.size)
 replace HB := Aside0.mk (below_step HB.out hb)
 replace HCs := Aside0.mk (Kd.C_below HCs.out hb)
 clear hb hba hl hb1 HC2
 go_wp2_with fail
 have hl := blk_new w38 (.cells #[.int .i64 50, .int .i64 0, .int .i64 50, .int .i64 1, .int .i64 50, .int .i64 2, .int .i64 50, .int .i64 3, .int .i64 60, .int .i64 0] 47)
 have hba := below_alloc (Below.refl _ _) (.cells #[.int .i64 50, .int .i64 0, .int .i64 50, .int .i64 1, .int .i64 50, .int .i64 2, .int .i64 50, .int .i64 3, .int .i64 60, .int .i64 0] 47) (W := w38)
 refine (afterwordref19_SameStamps.calls 10 As cs [⟨50, 0⟩, ⟨50, 1⟩, ⟨50, 2⟩, ⟨50, 3⟩, ⟨60, 0⟩] (some ⟨w38.heap.size, 0, none⟩) 5 [⟨50, 0⟩, ⟨50, 1⟩, ⟨50, 2⟩, ⟨50, 3⟩, ⟨60, 0⟩] true (w38.alloc (.cells #[.int .i64 50, .int .i64 0, .int .i64 50, .int .i64 1, .int .i64 50, .int .i64 2, .int .i64 50, .int .i64 3, .int .i64 60, .int .i64 0] 47)) (Kd.C_below HCs.out hba) hcs (C_lit47 _ hl (by decide)) (by decide) ex_same6).mono ?_
 rintro e w39 ⟨rfl, hd⟩
 have hb := hba.trans (below_weak hd.below hba.size)
 replace HB := Aside0.mk (below_step HB.out hb)
 clear hb hba hl hd HCs
 go_wp2
 go_ret
 exact ⟨rfl, HB.out⟩
end Go.Proofs.Ytbffhblebigcfaa.Sk

/- The walk of skew.Closed: whether a cut is closed. -/
import Derived.Test.YtbffhblebigcfaaCPrGRange
import Derived.Test.YtbffhblebigcfaaCPrGAhead
import Derived.Test.YtbffhblebigcfaaCPrGCloneI
namespace Go.Proofs.Ytbffhblebigcfaa.Sk
open Go.RowKit Go.Proofs.YtbffhblebigcfaaW.PrintWords Go.Proofs.YtbffhblebigcfaaW.PrintLast Go.Proofs.YtbffhblebigcfaaW.PrintMore
set_option linter.unusedVariables false
set_option linter.unusedSimpArgs false
def okC (ms cut : List Int) (j : Int) : Bool := decide (rd cut j ≥ 0 ∧ rd cut j ≤ ocF (rd ms j))
def cutOk (ms cut : List Int) : Bool := (List.range 6).all fun (j : Nat) => okC ms cut (j : Int)
def inGo : List S71 → Int → List Int → Int → Int
 | d :: l, i, left, s => if rd left d.f0 > 0 then inGo l (i + 1) (left.set d.f0.toNat (wrap64 (rd left d.f0 - 1))) (bits .or .u64 s (IntKind.u64.wrap (2 ^ i.toNat))) else inGo l (i + 1) left s
 | [], _, _, s => s
def badAt (inn m s : Int) : Bool := ((bits .and .u64 (shr .u64 inn m) 1) == 1) && (bits .andNot .u64 s inn != 0)
def goodAt (inn : Int) (ah : Int → Option Int) (m : Int) : Bool := match ah m with | some s => !badAt inn m s | none => true
def allGood (inn : Int) (ah : Int → Option Int) (n : Nat) : Bool := (List.range n).all fun (i : Nat) => goodAt inn ah (i : Int)
def skew_Closed.f (l0 : List S71) (l1 : List Int) : Option (Bool × Int) :=
 (skew_isRun.f (l0.length + 1) l0).bind fun t => if t = true then
  if l1.length = 6 then (skew_befores.f l0).bind fun bs => if runOk l0 bs then
   if cutOk (mineF l0) l1 = true then some (allGood (inGo l0 0 l1 0) (aheadsF bs l0) l0.length, 0) else some (false, 2)
  else none
  else some (false, 2)
 else some (false, 2)
theorem ahStep_keys {f : Int → Option Int} {i k : Int} (h0 : 0 ≤ i) (h : ∀ m, (f m).isSome = true → 0 ≤ m ∧ m ≤ i) : ∀ m, (ahStep f i k m).isSome = true → 0 ≤ m ∧ m ≤ i := by
 intro m hm
 unfold ahStep at hm
 split at hm
 ·unfold upd at hm
  split at hm
  ·omega
  ·exact h m hm
 ·exact h m hm
theorem aheadsGo_keys (bs : List Int) (l : List S71) (i : Int) (f : Int → Option Int) (h0 : 0 ≤ i) (h : ∀ m, (f m).isSome = true → 0 ≤ m ∧ m < i) :
  ∀ m, (aheadsGo bs l i f m).isSome = true → 0 ≤ m ∧ m < i + l.length := by
 induction bs generalizing l i f with
 | nil => intro m hm; unfold aheadsGo at hm; have := h m hm; omega
 | cons b bs ih =>
  cases l with
  | nil => intro m hm; unfold aheadsGo at hm; have := h m hm; omega
  | cons d l =>
   intro m hm
   unfold aheadsGo at hm
   have h1 := ahStep_keys (k := d.f2) h0 (ahStep_keys (f := f) (k := b) h0 (fun m hm => by have := h m hm; omega))
   have := ih l (i + 1) _ (by omega) (fun m hm => by have := h1 m hm; omega) m hm
   rw [List.length_cons]
   omega
theorem aheadsF_keys (bs : List Int) (l : List S71) (m : Int) (hm : (aheadsF bs l m).isSome = true) : 0 ≤ m ∧ m < l.length := by
 have := aheadsGo_keys bs l 0 (fun _ => none) (by omega) (fun m hm => by cases hm) m hm
 omega
theorem allGood_true {inn : Int} {ah : Int → Option Int} {n : Nat} (h : ∀ m s, okI m → ah m = some s → badAt inn m s = false) (hn : n ≤ 40) : allGood inn ah n = true := by
 unfold allGood
 refine List.all_eq_true.mpr fun i hi => ?_
 have := List.mem_range.mp hi
 unfold goodAt
 cases hs : ah i with
 | none => rfl
 | some s => show (!badAt inn i s) = true; rw [h i s (okI_of (by omega)) hs]; rfl
theorem allGood_false {inn : Int} {ah : Int → Option Int} {n : Nat} {m s : Int} (hk : 0 ≤ m ∧ m < n) (hs : ah m = some s) (hb : badAt inn m s = true) : allGood inn ah n = false := by
 cases hh : allGood inn ah n with
 | false => rfl
 | true =>
  have := List.all_eq_true.mp hh m.toNat (List.mem_range.mpr (by omega))
  rw [Int.toNat_of_nonneg hk.1] at this
  unfold goodAt at this
  rw [hs] at this
  simp only [hb] at this
  cases this
theorem cutOk_true {ms cut : List Int} (h : ∀ j : Int, 0 ≤ j → j < 6 → okC ms cut j = true) : cutOk ms cut = true :=
 List.all_eq_true.mpr fun i hi => h _ (by omega) (by have := List.mem_range.mp hi; omega)
theorem cutOk_at {ms cut : List Int} (h : cutOk ms cut = true) (j : Int) (h0 : 0 ≤ j) (h6 : j < 6) : okC ms cut j = true := by
 have := List.all_eq_true.mp h j.toNat (List.mem_range.mpr (by omega))
 rwa [Int.toNat_of_nonneg h0] at this
set_option maxHeartbeats 8000000 in
set_option maxRecDepth 100000 in
theorem skew_Closed.calls (A0 : Option Addr) (c0 : Nat) (l0 : List S71) (A1 : Option Addr) (c1 : Nat) (l1 : List Int) (r1 : Bool) (r2 : Int) (w : World) (hr0 : Kd.C k71 w A0 l0.length l0) (hc0 : l0.length ≤ c0) (hr1 : Kd.C (Kd.int .i64) w A1 l1.length l1) (hc1 : l1.length ≤ c1) (h : skew_Closed.f l0 l1 = some (r1, r2)) :
  Calls Try.prog 25 #[.slice A0 l0.length c0, .slice A1 l1.length c1] w fun e w' => e = .returned (.tuple #[.bool r1, .int .i64 r2]) ∧ Below w.heap.size w w' := by
 unfold skew_Closed.f at h
 obtain ⟨b, hb, h⟩ := Option.bind_eq_some_iff.mp h
 have HB := Aa (skew_isRun.calls _ A0 c0 l0 b w hr0 hc0 hb)
 clear hb
 have HR0 := Aa hr0
 have HR1 := Aa hr1
 clear hr0 hr1
 cases b with
 | false =>
  rw [if_neg (by simp)] at h
  simp only [Option.some.injEq, Prod.mk.injEq] at h
  obtain ⟨rfl, rfl⟩ := h
  go_enter Try.func25, Try.ntmps25
  go_wp2_with (go_at_call 85; refine HB.out.mono ?_; rintro e w1 ⟨rfl, hb⟩)
  go_ret2
  exact ⟨rfl, hb⟩
 | true =>
  rw [if_pos rfl] at h
  by_cases h6 : l1.length = 6
  ·rw [if_pos h6] at h
   obtain ⟨bs, hbs, h⟩ := Option.bind_eq_some_iff.mp h
   by_cases hok : runOk l0 bs
   ·rw [if_pos hok] at h
    obtain ⟨ok1, ok2, ok3, ok4, ok5⟩ := hok
    have HBs := Aa hbs
    have O1 := Aa ok1
    have O2 := Aa ok2
    have O3 := Aa ok3
    have O4 := Aa ok4
    have O5 := Aa ok5
    have H6 := Aa h6
    have H := Aa h
    clear hbs ok1 ok2 ok3 ok4 ok5 h
    have h6i : (l1.length : Int) = 6 := by omega
    clear h6
    go_enter Try.func25, Try.ntmps25
    go_wp2_with fail
    refine HB.out.mono ?_
    rintro e w1 ⟨rfl, hb⟩
    have HB1 := Aa hb
    clear hb HB
    have HMc := Aa (mine_calls A0 c0 l0 w1 (Kd.C_below HR0.out HB1.out) O1.out O5.out)
    go_wp2_with (go_at_call 86; refine HMc.out.mono ?_; rintro e w2 ⟨a, b, c, d, f, g, rfl, hms, hb2⟩; have HB2 := Aa (below_step HB1.out hb2); have HMs := Aa hms; clear HMc hb2 hms)
    obtain ⟨ms, hm⟩ : ∃ ms, mineF l0 = ms := ⟨_, rfl⟩
    rw [hm] at HMs H
    have hlen : ms.length = 6 := by rw [HMs.out]; rfl
    have HLn := Aa hlen
    have hix : ∀ (j : Int) (W : World), 0 ≤ j → j < 6 → (Instr.index 119 (.agg #[.int .u64 a, .int .u64 b, .int .u64 c, .int .u64 d, .int .u64 f, .int .u64 g]) (.int .i64 j)).run Try.prog W = .ok (.int .u64 (rd ms j)) W := by
     intro j W h0 h1; rw [HMs.out]; exact idx119 a b c d f g j h0 h1 W
    have HIx := Aa hix
    clear hm hlen hix HMs
    go_loopw [24, 6, 7] (fun v24 _ _ W => ∃ (j : Int), 0 ≤ j ∧ j ≤ 6 ∧ v24 = .int .i64 j ∧ Aside0 (Below w.heap.size w W) ∧ Aside0 (∀ k : Int, 0 ≤ k → k < j → okC ms l1 k = true)) (fun v _ _ _ => 6 - (intOf v).toNat)
    case atStart => exact ⟨0, by omega, by omega, rfl, HB2, ⟨fun k h0 h1 => by omega⟩⟩
    case round =>
     clear HB1 HB2
     obtain ⟨j, j0, j6, rfl, HBw, HOk⟩ := hrel
     by_cases hj : j < 6
     ·have hx := HIx.out j wr j0 hj
      obtain ⟨ad, e1, hx0⟩ := Kd.at_int (Kd.C_below HR1.out HBw.out) j j0 (by omega)
      cases e1
      have HBr := Aa (show Below w.heap.size w wr.drew from Dn (show Below w.heap.size w wr from HBw.out))
      obtain ⟨m, hm⟩ : ∃ m, rd ms j = m := ⟨_, rfl⟩
      have HM := Aa hm
      rw [hm] at hx
      clear hm
      cases hv : okC ms l1 j with
      | true =>
       have HV : ∀ W, Aside0 (Calls Try.prog 72 #[.int .i64 (rd l1 j), .int .i64 0, .int .i64 (ocF m)] W fun e w' => e = .returned (.bool true) ∧ Below W.heap.size W w') := fun W => ⟨within_calls _ _ _ true (by rw [← HM.out]; exact hv) W⟩
       have HVj := Aa hv
       clear hv
       go_wp2_with fail
       go_region_held3 (fun W => Below w.heap.size w W ∧ W.cell? (ad.add j.toNat) = some (.int .i64 (rd l1 j)))
        (first | (with_reducible (refine ⟨HBr.out, ?_⟩)) <;> (apply cell_drew; with_reducible assumption) | (go_split_ands; (with_reducible refine ⟨below_step (by assumption) hb, ?_⟩) <;> (apply pw_cell_below hb; with_reducible assumption)))
        (first | (go_at_call 87; (with_reducible refine (oc87 _ _).mono ?_); rintro e w' ⟨rfl, rfl⟩) | (go_at_call 72; (with_reducible refine (HV _).out.mono ?_); rintro e w' ⟨rfl, hb⟩))
       rename_i hS
       have HBs := Aa hS.1
       clear hS hx hx0
       go_wp2
       go_roundw
       case rel => exact ⟨j + 1, by omega, by omega, rfl, HBs, ⟨fun k k0 k1 => by
        by_cases hk : k = j
        ·subst hk; exact HVj.out
        ·exact HOk.out k k0 (by omega)⟩⟩
       case measure => simp [intOf]; omega
      | false =>
       have HV : ∀ W, Aside0 (Calls Try.prog 72 #[.int .i64 (rd l1 j), .int .i64 0, .int .i64 (ocF m)] W fun e w' => e = .returned (.bool false) ∧ Below W.heap.size W w') := fun W => ⟨within_calls _ _ _ false (by rw [← HM.out]; exact hv) W⟩
       have HVj := Aa hv
       clear hv
       go_wp2_with fail
       go_region_held3 (fun W => Below w.heap.size w W ∧ W.cell? (ad.add j.toNat) = some (.int .i64 (rd l1 j)))
        (first | (with_reducible (refine ⟨HBr.out, ?_⟩)) <;> (apply cell_drew; with_reducible assumption) | (go_split_ands; (with_reducible refine ⟨below_step (by assumption) hb, ?_⟩) <;> (apply pw_cell_below hb; with_reducible assumption)))
        (first | (go_at_call 87; (with_reducible refine (oc87 _ _).mono ?_); rintro e w' ⟨rfl, rfl⟩) | (go_at_call 72; (with_reducible refine (HV _).out.mono ?_); rintro e w' ⟨rfl, hb⟩))
       rename_i hS
       have HBs := Aa hS.1
       clear hS hx hx0
       have hno : ¬ cutOk ms l1 = true := fun hc => by have := cutOk_at hc j j0 hj; rw [HVj.out] at this; cases this
       have h := H.out
       rw [if_neg hno] at h
       simp only [Option.some.injEq, Prod.mk.injEq] at h
       obtain ⟨rfl, rfl⟩ := h
       go_wp2
       go_ret2
       exact ⟨rfl, HBs.out⟩
     ·have hall : cutOk ms l1 = true := cutOk_true fun k k0 k1 => HOk.out k k0 (by omega)
      have h := H.out
      rw [if_pos hall] at h
      simp only [Option.some.injEq, Prod.mk.injEq] at h
      obtain ⟨hr1, rfl⟩ := h
      have HR := Aa hr1
      have HBw' := Aa (show Below w.heap.size w wr from HBw.out)
      clear hr1 hall H HOk HBw
      have HC := Aa (cloneI_calls A1 c1 l1 wr (Kd.C_below HR1.out HBw'.out) hc1 (by rw [H6.out]; omega))
      obtain ⟨wo, rfl⟩ : ∃ wo : World, wo = wr := ⟨_, rfl⟩
      go_wp2_with (go_at_call 63; refine HC.out.mono ?_; rintro e w3 ⟨v, rfl, hR3, hb3⟩; obtain ⟨g9, c9, rfl, hg9, hl9, cl9, hc9⟩ := Kd.R_form hR3 (by rw [H6.out]; omega); have HB3 := Aa (below_step HBw'.out hb3); have HR3 := Aa hR3; have HG9 := Aa (show w.heap.size ≤ g9 from Nat.le_trans HBw'.out.size hg9); clear HC hb3 hR3 hg9 hl9 hc9)
      obtain ⟨inn, hin⟩ : ∃ inn, inGo l0 0 l1 0 = inn := ⟨_, rfl⟩
      have HIn := Aa hin
      rw [hin] at HR
      clear hin
      obtain ⟨w3o, rfl⟩ : ∃ w3o : World, w3o = w3 := ⟨_, rfl⟩
      go_loopw [8, 41] (fun v8 v41 W => ∃ (i s : Int) (left : List Int), 0 ≤ i ∧ i ≤ l0.length ∧ v41 = .int .i64 i ∧ v8 = .int .u64 s ∧ Aside0 (inGo (l0.drop i.toNat) i left s = inn) ∧ Aside0 (Kd.R (Kd.int .i64) 3 W wo.heap.size (fun _ => True) (.slice (some ⟨g9, 0, none⟩) l1.length c9) left) ∧ Aside0 (Below w.heap.size w W)) (fun _ v _ => l0.length - (intOf v).toNat)
      case atStart => exact ⟨0, 0, l1, by omega, by omega, rfl, rfl, HIn, HR3, HB3⟩
      case round =>
       clear HR3 HB3 HBw'
       obtain ⟨i, s, left, i0, hk, rfl, rfl, HA, HRl, HBw⟩ := hrel
       by_cases hlt : i < l0.length
       ·have hBw : Below w.heap.size w wr := HBw.out
        have hlt40 : i < 40 := by have := O1.out; omega
        obtain ⟨ad2, e217, hy0, hy1, hy2⟩ := at_T71 (Kd.C_below HR0.out hBw) i i0 hlt
        cases e217
        have hA := HA.out
        rw [drop_rd71 l0 i i0 hlt] at hA
        have hkd := O5.out _ (rd71_mem l0 i i0 hlt)
        clear HA
        obtain ⟨x, hx⟩ : ∃ x, rd_T71 l0 i = x := ⟨_, rfl⟩
        rw [hx] at hy0 hy1 hy2 hA hkd
        clear hx
        obtain ⟨x0, x1, x2⟩ := x
        simp only [inGo] at hA hy0 hy1 hy2 hkd
        have HBa := Aa (below_alloc hBw (.cells #[.int .i64 x0, .int .i64 x1, .int .i64 x2] 71))
        have hRa := Kd.R_alloc (show Kd.R (Kd.int .i64) 3 wr wo.heap.size (fun _ => True) (.slice (some ⟨g9, 0, none⟩) l1.length c9) left from HRl.out) (.cells #[.int .i64 x0, .int .i64 x1, .int .i64 x2] 71)
        obtain ⟨hz, hfz⟩ := Kd.R_celln (0 : Int) hRa x0 hkd.1 (by omega)
        have hP := Kd.R_putg hRa x0 (wrap64 (rd left x0 - 1))
        have HRa := Aa hRa
        have HP := Aa hP.1
        have p0 := cell_at (blk_new wr (.cells #[.int .i64 x0, .int .i64 x1, .int .i64 x2] 71)) 0 (.int .i64 x0) rfl
        clear hRa hP HRl HBw hBw
        change (wr.alloc (.cells #[.int .i64 x0, .int .i64 x1, .int .i64 x2] 71)).cell? ⟨g9, x0.toNat, none⟩ = some (.int .i64 (rd left x0)) at hz
        obtain ⟨k0, k5⟩ := hkd
        by_cases hpos : rd left x0 > 0
        ·rw [if_pos hpos] at hA
         have HA := Aa hA
         clear hA
         go_wp2
         go_roundw
         case rel => exact ⟨i + 1, _, left.set x0.toNat (wrap64 (rd left x0 - 1)), by omega, by omega, rfl, rfl, HA, HP, ⟨below_set HBa.out HG9.out⟩⟩
         case measure => simp [intOf]; omega
        ·rw [if_neg hpos] at hA
         have HA := Aa hA
         clear hA
         go_wp2
         go_roundw
         case rel => exact ⟨i + 1, s, left, by omega, by omega, rfl, rfl, HA, HRa, HBa⟩
         case measure => simp [intOf]; omega
       ·have hiA := HA.out
        rw [List.drop_of_length_le (by omega)] at hiA
        simp only [inGo] at hiA
        subst hiA
        have hBw : Below w.heap.size w wr := HBw.out
        obtain ⟨ah, hah⟩ : ∃ ah, aheadsF bs l0 = ah := ⟨_, rfl⟩
        have HKeys := Aa (aheadsF_keys bs l0)
        rw [hah] at HR HKeys
        have HAh := Aa hah
        have HC := Aa (aheads_calls A0 c0 l0 bs wr (Kd.C_below HR0.out hBw) hc0 O1.out HBs.out O2.out O3.out O4.out)
        have HBw2 := Aa hBw
        clear hah HA HBw HRl hBw
        obtain ⟨w5, rfl⟩ : ∃ w5 : World, w5 = wr := ⟨_, rfl⟩
        have HZ5 := Aa (show w.heap.size ≤ w5.heap.size from HBw2.out.size)
        go_wp2_with (first
         | (go_at_call 88; refine HC.out.mono ?_; rintro e w6 ⟨rfl, hm6, hb6⟩; rw [HAh.out] at hm6; have HM6 := Aa hm6; have HB6 := Aa (below_step HBw2.out hb6); have HZ6 := Aa (show w.heap.size ≤ w6.heap.size from HB6.out.size); clear HC hm6 hb6)
         | (at_range; refine wpList_range_is _ rfl _ _ rfl Try.underlying122 w5.heap.size 100 ah rfl HM6.out ?_; intro w7 cnt hrg hg7 hs7; have HB7 := Aa (below_step HB6.out (below_grown0 hg7)); have HRg := Aa hrg; clear hrg hg7))
        have HT0 := Aa (show ∀ m s', ah m = some s' → okI m → (fun _ : Int => True) m ∨ badAt s m s' = false from fun m s' _ _ => .inl trivial)
        go_frame
        go_loopw [12] (fun _ W => ∃ (todo : Int → Prop) (cnt : Nat), Aside0 (RangeIs W w5.heap.size w6.heap.size 100 ah todo cnt) ∧ Aside0 (∀ m s', ah m = some s' → okI m → todo m ∨ badAt s m s' = false) ∧ Aside0 (Below w.heap.size w W)) (fun _ W => W.rangeLeft w5.heap.size w6.heap.size)
        case atStart => exact ⟨_, cnt, HRg, HT0, HB7⟩
        case round =>
         clear HRg HB7 HT0 hs7
         obtain ⟨todo, cnt, HRg, HT, HBw⟩ := hrel
         have HBr := Aa (show Below w.heap.size w wr from HBw.out)
         clear HBw
         go_wp2_with (at_next; refine wpList_next_is _ rfl _ rfl w5.heap.size w6.heap.size 100 ah todo cnt rfl HRg.out (fun hno => ?_) (fun x c' w8 cnt8 hx hc hrg hlt8 hg8 hs8 hen => ?_))
         ·have hr : r1 = true := by
           rw [← HR.out]
           exact allGood_true (fun m s' hm hs => (HT.out m s' hs hm).resolve_left (hno m hm (by rw [hs]; rfl))) O1.out
          subst hr
          go_ret2
          exact ⟨rfl, HBr.out⟩
         ·have hkx := HKeys.out x (by rw [hc]; rfl)
          have hbs : badAt s x c' = (((bits .and .u64 (shr .u64 s x) 1) == 1) && (bits .andNot .u64 c' s != 0)) := rfl
          have HB8 := Aa (Below.trans HBr.out (below_next hg8 HZ6.out HBr.out.size))
          have HRg8 := Aa hrg
          have HL8 := Aa (show w8.rangeLeft w5.heap.size w6.heap.size < wr.rangeLeft w5.heap.size w6.heap.size by rw [hrg.left_eq, HRg.out.left_eq]; exact hlt8)
          have HX := Aa hx
          have HC8 := Aa hc
          have HKX := Aa hkx
          clear hg8 hs8 hrg hlt8 HBr HRg hx hc
          cases hp : ((bits .and .u64 (shr .u64 s x) 1) == 1) with
          | false =>
           refine (skew_set_has.calls s x false w8 (by unfold skew_set_has.f; rw [if_pos hkx.1, hp])).mono ?_
           rintro e w9 ⟨rfl, ⟨⟨nd, rfl⟩⟩⟩
           rw [hp] at hbs
           have HBs := Aa hbs
           clear hp hbs hkx hen
           go_wp2
           go_roundw
           case rel => exact ⟨_, cnt8, HRg8, ⟨fun m s' hm hk => by
            by_cases hmx : m = x
            ·subst hmx
             have e1 := HC8.out
             rw [hm] at e1
             cases e1
             exact .inr HBs.out
            ·exact (HT.out m s' hm hk).imp (fun ht => ⟨ht, hmx⟩) id⟩, ⟨Pn HB8.out _⟩⟩
           case measure => exact HL8.out
          | true =>
           refine (skew_set_has.calls s x true w8 (by unfold skew_set_has.f; rw [if_pos hkx.1, hp])).mono ?_
           rintro e w9 ⟨rfl, ⟨⟨nd, rfl⟩⟩⟩
           rw [hp] at hbs
           cases hq : (bits .andNot .u64 c' s != 0) with
           | true =>
            have hgood : allGood s ah l0.length = false := allGood_false HKX.out HC8.out (by rw [hbs, hq]; rfl)
            have hr : r1 = false := by rw [← HR.out]; exact hgood
            subst hr
            clear hp hbs hkx hen hgood
            go_wp2
            go_ret2
            exact ⟨rfl, Pn HB8.out _⟩
           | false =>
            rw [hq] at hbs
            have HBs := Aa hbs
            clear hp hbs hkx hen
            go_wp2
            go_roundw
            case rel => exact ⟨_, cnt8, HRg8, ⟨fun m s' hm hk => by
             by_cases hmx : m = x
             ·subst hmx
              have e1 := HC8.out
              rw [hm] at e1
              cases e1
              exact .inr HBs.out
             ·exact (HT.out m s' hm hk).imp (fun ht => ⟨ht, hmx⟩) id⟩, ⟨Pn HB8.out _⟩⟩
            case measure => exact HL8.out
   ·rw [if_neg hok] at h; cases h
  ·rw [if_neg h6] at h
   simp only [Option.some.injEq, Prod.mk.injEq] at h
   obtain ⟨rfl, rfl⟩ := h
   have h6i : ((l1.length : Int) = 6) = False := eq_false (by omega)
   go_enter Try.func25, Try.ntmps25
   go_wp2_with fail
   refine HB.out.mono ?_
   rintro e w1 ⟨rfl, hb⟩
   go_wp2
   go_ret2
   exact ⟨rfl, hb⟩
end Go.Proofs.Ytbffhblebigcfaa.Sk

/- The reference's tight spans: the least and the greatest of all times that fit. -/
import Derived.Test.YtbffhblebigcfaaCReLLeast
import Derived.Test.YtbffhblebigcfaaCReS1
import Derived.Test.YtbffhblebigcfaaCReS0
namespace Go.Proofs.Ytbffhblebigcfaa.Sk
open Go.RowKit Go.Proofs.YtbffhblebigcfaaW.PrintWords Go.Proofs.YtbffhblebigcfaaW.PrintLast Go.Proofs.YtbffhblebigcfaaW.PrintMore
set_option linter.unusedVariables false
set_option linter.unusedSimpArgs false
theorem drop86 (l : List S86) (i : Nat) (h : i < l.length) : l.drop i = rd_T86 l (i : Int) :: l.drop (i + 1) := by
 have er : rd_T86 l (i : Int) = l[i] := by simp [rd_T86, rdOf, List.getD_eq_getElem?_getD, h]
 rw [List.drop_eq_getElem_cons h, er]
theorem mem86 (l : List S86) (i : Nat) (h : i < l.length) : rd_T86 l (i : Int) ∈ l := by
 have er : rd_T86 l (i : Int) = l[i] := by simp [rd_T86, rdOf, List.getD_eq_getElem?_getD, h]
 rw [er]; exact List.getElem_mem h
def Lo (n : Nat) (x : List Int) : Prop := ∀ j : Int, 0 ≤ j → j < n → -1000000000000000 ≤ rd x j
theorem lo_up {n : Nat} {x y : List Int} (h : Lo n x) (hu : LeAt n x (rd y)) : Lo n y := fun j a b => Int.le_trans (h j a b) (hu j a b)
theorem w64_mid {z : Int} (h : -4000000000000000000 ≤ z) (h' : z ≤ 4000000000000000000) : wrap64 z = z := by unfold wrap64; omega
theorem least_step (k : Nat) (low : List Int) (gaps : List S86) {n : Nat} (x : List Int) (r : Int) (c : Bool) (i : Nat) (u : Int) (hi : i < gaps.length) (hw : gaps.length ≤ 50)
  (hg : GapIn n (rd_T86 gaps (i : Int))) (hx : x.length = n) (hl : Lo n x) (hu : LeAt n x fun _ => u) (hU : u ≤ 1000000000000000) :
  afterwordref19_least.l1 (k + 1) low gaps x r c (i : Int) = afterwordref19_least.l1 k low gaps (rel (x, c) (rd_T86 gaps (i : Int))).1 r (rel (x, c) (rd_T86 gaps (i : Int))).2 ((i + 1 : Nat) : Int) := by
 obtain ⟨g, hgv⟩ : ∃ g, rd_T86 gaps (i : Int) = g := ⟨_, rfl⟩
 rw [hgv] at hg ⊢
 have e1 := hg.a0; have e2 := hg.a1; have e3 := hg.b0; have e4 := hg.b1; have e5 := hg.le; have e6 := hg.lo; have e7 := hg.hi
 simp only [afterwordref19_least.l1, hgv]
 rw [if_pos (by omega), if_pos (by omega), if_pos e3, if_pos (by rw [hx]; exact e4), if_pos e1, if_pos (by rw [hx]; exact e2), wrapS (by omega)]
 have l0 := hl g.f0 e1 e2
 have l1 := hl g.f1 e3 e4
 have u0 : rd x g.f0 ≤ u := hu g.f0 e1 e2
 have u1 : rd x g.f1 ≤ u := hu g.f1 e3 e4
 have q1 := w64_mid (z := rd x g.f0 + g.f2) (by omega) (by omega)
 have q2 := w64_mid (z := rd x g.f1 - g.f3) (by omega) (by omega)
 rw [q1, q2]
 unfold rel chg
 show _ = afterwordref19_least.l1 k low gaps (relB g (relA g x)) r (c || (decide (rd x g.f1 < rd x g.f0 + g.f2) || decide (rd (relA g x) g.f0 < rd (relA g x) g.f1 - g.f3))) ((i + 1 : Nat) : Int)
 by_cases c1 : rd x g.f1 < rd x g.f0 + g.f2
 ·rw [if_pos c1, Option.bind_some]
  have hA : relA g x = x.set g.f1.toNat (rd x g.f0 + g.f2) := if_pos c1
  rw [← hA]
  have a0 : rd (relA g x) g.f0 = rd x g.f0 := by rw [relA_at hg hx _ e1, if_neg (fun h => hg.ne h.1)]
  have a1 : rd (relA g x) g.f1 = rd x g.f0 + g.f2 := by rw [relA_at hg hx _ e3, if_pos ⟨rfl, c1⟩]
  have q3 := w64_mid (z := rd (relA g x) g.f1 - g.f3) (by omega) (by omega)
  rw [q3, decide_eq_true c1, Bool.true_or, Bool.or_true]
  by_cases c2 : rd (relA g x) g.f0 < rd (relA g x) g.f1 - g.f3
  ·rw [if_pos c2]
   have hB : relB g (relA g x) = (relA g x).set g.f0.toNat (rd (relA g x) g.f1 - g.f3) := if_pos c2
   rw [hB]
  ·rw [if_neg c2]
   have hB : relB g (relA g x) = relA g x := if_neg c2
   rw [hB]
 ·rw [if_neg c1]
  have hA : relA g x = x := if_neg c1
  rw [hA, decide_eq_false c1, Bool.false_or]
  by_cases c2 : rd x g.f0 < rd x g.f1 - g.f3
  ·rw [if_pos c2]
   have hB : relB g x = x.set g.f0.toNat (rd x g.f1 - g.f3) := if_pos c2
   rw [hB, decide_eq_true c2, Bool.or_true]
  ·rw [if_neg c2]
   have hB : relB g x = x := if_neg c2
   rw [hB, decide_eq_false c2, Bool.or_false]
theorem fold_bd {n : Nat} : ∀ (gaps : List S86) (s : List Int × Bool) (u : Int), (∀ g ∈ gaps, GapIn n g) → s.1.length = n → LeAt n s.1 (fun _ => u) → LeAt n (gaps.foldl rel s).1 fun _ => u + 4000000 * gaps.length
 | [], s, u, _, _, h => fun j a b => by have : rd s.1 j ≤ u := h j a b; show rd s.1 j ≤ u + 4000000 * ((0 : Nat) : Int); omega
 | g :: gaps, s, u, hg, hs, h => fun j a b => by
  rw [List.foldl_cons, List.length_cons]
  have := fold_bd gaps (rel s g) (u + 4000000) (fun y hy => hg y (List.mem_cons_of_mem _ hy)) (by show (relB g (relA g s.1)).length = n; rw [relB_len, relA_len]; exact hs) (rel_bd (hg g List.mem_cons_self) hs h) j a b
  have : rd (gaps.foldl rel (rel s g)).1 j ≤ u + 4000000 + 4000000 * gaps.length := this
  show rd (gaps.foldl rel (rel s g)).1 j ≤ u + 4000000 * ((gaps.length + 1 : Nat) : Int)
  omega
theorem ev_least1 (low : List Int) (gaps : List S86) {n : Nat} (hw : gaps.length ≤ 50) (hg : ∀ g ∈ gaps, GapIn n g) (r : Int) {res : List Int × Bool} : ∀ (d i : Nat) (x : List Int) (c : Bool) (u : Int), i + d = gaps.length → x.length = n → Lo n x → LeAt n x (fun _ => u) → u + 4000000 * d ≤ 1000000000000000 →
  Ev (fun k => if ((gaps.drop i).foldl rel (x, c)).2 = true then afterwordref19_least.l0 k low gaps ((gaps.drop i).foldl rel (x, c)).1 (wrap64 (r + 1)) else some (((gaps.drop i).foldl rel (x, c)).1, true)) res →
  Ev (fun k => afterwordref19_least.l1 k low gaps x r c (i : Int)) res
 | 0, i, x, c, u, hi, hx, hl, hu, hU, h => by
  rw [List.drop_of_length_le (by omega)] at h
  refine Ev.step (fun k => ?_) h
  simp only [afterwordref19_least.l1]
  rw [if_neg (by omega)]
  rfl
 | d + 1, i, x, c, u, hi, hx, hl, hu, hU, h => by
  have hgi := hg _ (mem86 gaps i (by omega))
  rw [drop86 gaps i (by omega), List.foldl_cons] at h
  refine Ev.step (fun k => least_step k low gaps x r c i u (by omega) hw hgi hx hl hu (by omega)) ?_
  have hlen : (rel (x, c) (rd_T86 gaps (i : Int))).1.length = n := by show (relB _ (relA _ x)).length = n; rw [relB_len, relA_len]; exact hx
  exact ev_least1 low gaps hw hg r d (i + 1) _ _ (u + 4000000) (by omega) hlen (lo_up hl (rel_up hgi hx)) (rel_bd hgi hx hu) (by omega) h
def outL : Option (List Int) → List Int × Bool
 | some x => (x, true)
 | none => ([], false)
theorem ev_least0 (low : List Int) (gaps : List S86) (hn : low.length ≤ 50) (hw : gaps.length ≤ 50) (hg : ∀ g ∈ gaps, GapIn low.length g) : ∀ (m r : Nat) (x : List Int) (u : Int), r + m = low.length + 1 → x.length = low.length → Lo low.length x → LeAt low.length x (fun _ => u) → u + 200000000 * m ≤ 1000000000000000 →
  Ev (fun k => afterwordref19_least.l0 k low gaps x (r : Int)) (outL (leastL gaps m x))
 | 0, r, x, u, hr, hx, hl, hu, hU => by
  exact Ev.step (f := fun _ => some ([], false)) (fun k => by simp only [afterwordref19_least.l0]; rw [if_neg (by omega)]) (Ev.now _)
 | m + 1, r, x, u, hr, hx, hl, hu, hU => by
  refine Ev.step (f := fun k => afterwordref19_least.l1 k low gaps x r false ((0 : Nat) : Int)) (fun k => by simp only [afterwordref19_least.l0]; rw [if_pos (by omega)]; rfl) ?_
  refine ev_least1 low gaps hw hg (r : Int) gaps.length 0 x false u (by omega) hx hl hu (by omega) ?_
  rw [List.drop_zero]
  show Ev (fun k => if (roundL gaps x).2 = true then afterwordref19_least.l0 k low gaps (roundL gaps x).1 (wrap64 ((r : Int) + 1)) else some ((roundL gaps x).1, true)) _
  rw [wrapS (by omega)]
  have hL : leastL gaps (m + 1) x = if (roundL gaps x).2 = true then leastL gaps m (roundL gaps x).1 else some (roundL gaps x).1 := rfl
  rw [hL]
  by_cases c : (roundL gaps x).2 = true
  ·rw [if_pos c]
   refine Ev.congr (fun k => if_pos c) ?_
   have hb : LeAt low.length (roundL gaps x).1 fun _ => u + 200000000 := fun j a b => by
    have : rd (roundL gaps x).1 j ≤ u + 4000000 * gaps.length := fold_bd gaps (x, false) u hg hx hu j a b
    show rd (roundL gaps x).1 j ≤ u + 200000000
    omega
   exact ev_least0 low gaps hn hw hg m (r + 1) _ (u + 200000000) (by omega) ((fold_len gaps (x, false)).trans hx) (lo_up hl (fold_up gaps (x, false) hg hx)) hb (by omega)
  ·rw [if_neg c]
   exact Ev.congr (f := fun _ => some ((roundL gaps x).1, true)) (fun k => if_neg c) (Ev.now _)
theorem ev_Least (low : List Int) (gaps : List S86) (hn : low.length ≤ 50) (hw : gaps.length ≤ 50) (hg : ∀ g ∈ gaps, GapIn low.length g) (hb : ∀ j : Int, 0 ≤ j → j < low.length → -100000000 ≤ rd low j ∧ rd low j ≤ 100000000) :
  Ev (fun k => afterwordref19_least.f k low gaps) (leastR gaps low) := by
 have h := ev_least0 low gaps hn hw hg (low.length + 1) 0 low 100000000 (by omega) rfl (fun j a b => by have := hb j a b; omega) (fun j a b => (hb j a b).2) (by omega)
 have e : leastR gaps low = outL (leastL gaps (low.length + 1) low) := by unfold leastR outL; split <;> rename_i h <;> rw [h]
 rw [e]
 refine Ev.congr (fun k => ?_) h
 unfold afterwordref19_least.f
 rw [Option.bind_some, if_pos (by simp only [List.length_nil]; omega)]
 rfl
theorem leastL_big {n : Nat} {gaps : List S86} (hw : gaps.length ≤ 50) (hg : ∀ g ∈ gaps, GapIn n g) : ∀ (m : Nat) (x y : List Int) (u : Int), x.length = n → LeAt n x (fun _ => u) → leastL gaps m x = some y → LeAt n y fun _ => u + 200000000 * m
 | 0, x, y, u, _, _, h => by cases h
 | m + 1, x, y, u, hx, hu, h => by
  unfold leastL at h
  have hb : ∀ j : Int, 0 ≤ j → j < n → rd (roundL gaps x).1 j ≤ u + 4000000 * gaps.length := fun j a b => fold_bd gaps (x, false) u hg hx hu j a b
  by_cases c : (roundL gaps x).2 = true
  ·rw [if_pos c] at h
   have := leastL_big hw hg m _ y (u + 200000000) ((fold_len gaps (x, false)).trans hx) (fun j a b => by have := hb j a b; show rd (roundL gaps x).1 j ≤ u + 200000000; omega) h
   intro j a b
   have : rd y j ≤ u + 200000000 + 200000000 * m := this j a b
   show rd y j ≤ u + 200000000 * ((m + 1 : Nat) : Int)
   omega
  ·rw [if_neg c] at h
   injection h with h
   subst h
   intro j a b
   have := hb j a b
   show rd (roundL gaps x).1 j ≤ u + 200000000 * ((m + 1 : Nat) : Int)
   omega
theorem least_big (low : List Int) (gaps : List S86) (hn : low.length ≤ 50) (hw : gaps.length ≤ 50) (hg : ∀ g ∈ gaps, GapIn low.length g) (hb : ∀ j : Int, 0 ≤ j → j < low.length → -100000000 ≤ rd low j ∧ rd low j ≤ 100000000) (y : List Int) (hy : leastR gaps low = (y, true)) :
  ∀ j : Int, 0 ≤ j → j < low.length → -4000000000000000000 ≤ rd y j ∧ rd y j ≤ 4000000000000000000 := by
 intro j a b
 have h1 := ((least_spec low hg).1 y hy).2.1 j a b
 have h2 := hb j a b
 unfold leastR at hy
 split at hy
 ·rename_i x hx
  injection hy with hy _
  subst hy
  have : rd x j ≤ 100000000 + 200000000 * ((low.length + 1 : Nat) : Int) := leastL_big hw hg (low.length + 1) low x 100000000 rfl (fun j a b => (hb j a b).2) hx j a b
  exact ⟨by omega, by omega⟩
 ·cases hy
def turn86 (g : S86) : S86 := ⟨g.f1, g.f0, g.f2, g.f3⟩
theorem ev_turned (gaps : List S86) (hw : gaps.length ≤ 50) : ∀ (d i : Nat), i + d = gaps.length → Ev (fun k => afterwordref19_turned.l0 k gaps ((gaps.take i).map turn86) (i : Int)) (gaps.map turn86)
 | 0, i, h => by
  rw [List.take_of_length_le (by omega)]
  exact Ev.step (f := fun _ => some (gaps.map turn86)) (fun k => by simp only [afterwordref19_turned.l0]; rw [if_neg (by omega)]) (Ev.now _)
 | d + 1, i, h => by
  refine Ev.step (f := fun k => afterwordref19_turned.l0 k gaps ((gaps.take (i + 1)).map turn86) ((i + 1 : Nat) : Int)) (fun k => ?_) (ev_turned gaps hw d (i + 1) (by omega))
  simp only [afterwordref19_turned.l0]
  rw [if_pos (by omega), if_pos (by omega), if_pos (by rw [List.length_map, List.length_take]; omega), wrapS (by omega)]
  have er : rd_T86 gaps (i : Int) = gaps[i] := by simp [rd_T86, rdOf, List.getD_eq_getElem?_getD, show i < gaps.length by omega]
  rw [List.take_succ_eq_append_getElem (by omega), List.map_append, ← er]
  rfl
theorem ev_Turned (gaps : List S86) (hw : gaps.length ≤ 50) : Ev (fun k => afterwordref19_turned.f k gaps) (gaps.map turn86) := by
 have := ev_turned gaps hw gaps.length 0 (by omega)
 exact Ev.congr (fun k => by unfold afterwordref19_turned.f; rfl) this
theorem turn_in {n : Nat} {g : S86} (h : GapIn n g) : GapIn n (turn86 g) := ⟨h.b0, h.b1, h.a0, h.a1, fun e => h.ne e.symm, h.le, h.lo, h.hi⟩
theorem turn_sat (g : S86) (t : Int → Int) : GapSat (turn86 g) t ↔ GapSat g (fun j => -(t j)) := by
 show (g.f2 ≤ t g.f0 - t g.f1 ∧ t g.f0 - t g.f1 ≤ g.f3) ↔ (g.f2 ≤ -(t g.f1) - -(t g.f0) ∧ -(t g.f1) - -(t g.f0) ≤ g.f3)
 constructor <;> rintro ⟨a, b⟩ <;> exact ⟨by omega, by omega⟩
def lows (evs : List S27) : List Int := evs.map (·.f0)
def highs (evs : List S27) : List Int := evs.map fun s => -s.f1
def spanAt (a b : List Int) (j : Nat) : S27 := ⟨rd a (j : Int), -(rd b (j : Int))⟩
def spansOf (a b : List Int) (n : Nat) : List S27 := (List.range n).map (spanAt a b)
def okAt (evs : List S27) (a : List Int) (j : Nat) : Bool := decide (rd a (j : Int) ≤ (rd_T27 evs (j : Int)).f1)
def solveR (evs : List S27) (gaps : List S86) : List S27 × Bool :=
 if (leastR gaps (lows evs)).2 = true ∧ (leastR (gaps.map turn86) (highs evs)).2 = true then
  if (List.range evs.length).all (okAt evs (leastR gaps (lows evs)).1) = true then (spansOf (leastR gaps (lows evs)).1 (leastR (gaps.map turn86) (highs evs)).1 evs.length, true) else ([], false)
 else ([], false)
theorem rd_map27 (f : S27 → Int) (evs : List S27) (j : Int) (h0 : 0 ≤ j) (h1 : j < evs.length) : rd (evs.map f) j = f (rd_T27 evs j) := by
 unfold rd rd_T27
 have : j.toNat < evs.length := by omega
 simp [List.getD_eq_getElem?_getD, this]
theorem ev_solve1 (evs : List S27) (hn : evs.length ≤ 50) (a b : List Int) (ha : a.length = evs.length) (hb : b.length = evs.length) (hbb : ∀ j : Int, 0 ≤ j → j < evs.length → -4000000000000000000 ≤ rd b j ∧ rd b j ≤ 4000000000000000000) : ∀ (d i : Nat), i + d = evs.length →
  Ev (fun k => afterwordref19_Solve.l1 k evs a b (spansOf a b i) (i : Int)) (if (List.range d).all (fun m => okAt evs a (i + m)) = true then (spansOf a b evs.length, true) else ([], false))
 | 0, i, h => by
  obtain rfl : i = evs.length := by omega
  exact Ev.step (f := fun _ => some (spansOf a b evs.length, true)) (fun k => by simp only [afterwordref19_Solve.l1]; rw [if_neg (by omega)]) (Ev.now _)
 | d + 1, i, h => by
  have hall : (List.range (d + 1)).all (fun m => okAt evs a (i + m)) = (okAt evs a i && (List.range d).all (fun m => okAt evs a (i + 1 + m))) := by
   rw [List.range_succ_eq_map, List.all_cons, List.all_map]
   congr 1
   congr 1
   funext m
   show okAt evs a (i + (m + 1)) = _
   rw [show i + (m + 1) = i + 1 + m by omega]
  rw [hall]
  have hbi := hbb (i : Int) (by omega) (by omega)
  by_cases c : rd a (i : Int) ≤ (rd_T27 evs (i : Int)).f1
  ·have e : okAt evs a i = true := decide_eq_true c
   rw [e, Bool.true_and]
   refine Ev.step (f := fun k => afterwordref19_Solve.l1 k evs a b (spansOf a b (i + 1)) ((i + 1 : Nat) : Int)) (fun k => ?_) (ev_solve1 evs hn a b ha hb hbb d (i + 1) (by omega))
   simp only [afterwordref19_Solve.l1]
   rw [if_pos (by omega), if_pos (by omega), if_pos (by omega), if_pos (by omega), if_neg (by omega), if_pos (by unfold spansOf; rw [List.length_map, List.length_range]; omega), wrapS (by omega), w64_mid (by omega) (by omega)]
   unfold spansOf
   rw [List.range_succ, List.map_append]
   rfl
  ·have e : okAt evs a i = false := decide_eq_false c
   rw [e, Bool.false_and]
   refine Ev.step (f := fun _ => some ([], false)) (fun k => ?_) (Ev.now _)
   simp only [afterwordref19_Solve.l1]
   rw [if_pos (by omega), if_pos (by omega), if_pos (by omega), if_pos (by omega), if_pos (by omega)]
theorem ev_solve0 (evs : List S27) (gaps : List S86) (hn : evs.length ≤ 50) (hev : ∀ s ∈ evs, -100000000 ≤ s.f0 ∧ s.f0 ≤ 100000000 ∧ -100000000 ≤ s.f1 ∧ s.f1 ≤ 100000000) {res : List S27 × Bool} : ∀ (d i : Nat), i + d = evs.length →
  Ev (fun k => (afterwordref19_least.f k (lows evs) gaps).bind fun bt256 => ((afterwordref19_turned.f k gaps).bind fun t260 => ((afterwordref19_least.f k (highs evs) t260).bind fun bt263 => (if bt256.2 = true then (afterwordref19_Solve.j1 k evs bt256.1 bt263.1 (!bt263.2)) else (afterwordref19_Solve.j1 k evs bt256.1 bt263.1 true))))) res →
  Ev (fun k => afterwordref19_Solve.l0 k evs gaps (lows (evs.take i)) (highs (evs.take i)) (i : Int)) res
 | 0, i, h, hr => by
  rw [List.take_of_length_le (by omega)]
  refine Ev.step (fun k => ?_) hr
  simp only [afterwordref19_Solve.l0]
  rw [if_neg (by omega)]
 | d + 1, i, h, hr => by
  refine Ev.step (f := fun k => afterwordref19_Solve.l0 k evs gaps (lows (evs.take (i + 1))) (highs (evs.take (i + 1))) ((i + 1 : Nat) : Int)) (fun k => ?_) (ev_solve0 evs gaps hn hev d (i + 1) (by omega) hr)
  have hm := hev _ (mem27 evs i (by omega))
  simp only [afterwordref19_Solve.l0]
  rw [if_pos (by omega), if_pos (by omega), if_pos (by unfold lows; rw [List.length_map, List.length_take]; omega), if_pos (by unfold highs; rw [List.length_map, List.length_take]; omega), wrapS (by omega), w64_mid (by omega) (by omega)]
  have er : rd_T27 evs (i : Int) = evs[i] := by simp [rd_T27, rdOf, List.getD_eq_getElem?_getD, show i < evs.length by omega]
  unfold lows highs
  rw [List.take_succ_eq_append_getElem (by omega), List.map_append, List.map_append, ← er]
  rfl
def Fit (evs : List S27) (gaps : List S86) (t : Int → Int) : Prop := (∀ g ∈ gaps, GapSat g t) ∧ ∀ j : Int, 0 ≤ j → j < evs.length → (rd_T27 evs j).f0 ≤ t j ∧ t j ≤ (rd_T27 evs j).f1
theorem lows_len (evs : List S27) : (lows evs).length = evs.length := List.length_map ..
theorem highs_len (evs : List S27) : (highs evs).length = evs.length := List.length_map ..
theorem lows_at (evs : List S27) (j : Int) (h0 : 0 ≤ j) (h1 : j < evs.length) : rd (lows evs) j = (rd_T27 evs j).f0 := rd_map27 _ evs j h0 h1
theorem highs_at (evs : List S27) (j : Int) (h0 : 0 ≤ j) (h1 : j < evs.length) : rd (highs evs) j = -(rd_T27 evs j).f1 := rd_map27 _ evs j h0 h1
theorem rd_spans (a b : List Int) (n : Nat) (j : Int) (h0 : 0 ≤ j) (h1 : j < n) : rd_T27 (spansOf a b n) j = ⟨rd a j, -(rd b j)⟩ := by
 obtain ⟨m, rfl⟩ : ∃ m : Nat, j = m := ⟨j.toNat, by omega⟩
 have : m < n := by omega
 simp [rd_T27, spansOf, List.getD_eq_getElem?_getD, this, spanAt]
structure Tightest (evs : List S27) (gaps : List S86) (l : List S27) : Prop where
 len : l.length = evs.length
 all : ∀ t, Fit evs gaps t → ∀ j : Int, 0 ≤ j → j < evs.length → (rd_T27 l j).f0 ≤ t j ∧ t j ≤ (rd_T27 l j).f1
 first : Fit evs gaps fun j => (rd_T27 l j).f0
 last : Fit evs gaps fun j => (rd_T27 l j).f1
theorem solve_spec (evs : List S27) (gaps : List S86) (hg : ∀ g ∈ gaps, GapIn evs.length g) :
  ((solveR evs gaps).2 = true ↔ ∃ t, Fit evs gaps t) ∧ ∀ l, solveR evs gaps = (l, true) → Tightest evs gaps l := by
 obtain ⟨a1, a2⟩ := least_spec (gaps := gaps) (lows evs) (by rw [lows_len]; exact hg)
 obtain ⟨b1, b2⟩ := least_spec (gaps := gaps.map turn86) (highs evs) (by
  rw [highs_len]; intro g h
  obtain ⟨g', h', rfl⟩ := List.mem_map.mp h
  exact turn_in (hg g' h'))
 rw [lows_len] at a1 a2
 rw [highs_len] at b1 b2
 have turnS : ∀ t : Int → Int, (∀ g ∈ gaps.map turn86, GapSat g t) ↔ ∀ g ∈ gaps, GapSat g (fun j => -(t j)) := fun t => by
  constructor
  ·intro h g hg'
   exact (turn_sat g t).mp (h _ (List.mem_map.mpr ⟨g, hg', rfl⟩))
  ·intro h g hg'
   obtain ⟨g', h', rfl⟩ := List.mem_map.mp hg'
   exact (turn_sat g' t).mpr (h g' h')
 have fitA : ∀ t, Fit evs gaps t → (∀ g ∈ gaps, GapSat g t) ∧ LeAt evs.length (lows evs) t := fun t h => ⟨h.1, fun j x y => by rw [lows_at evs j x y]; exact (h.2 j x y).1⟩
 have fitB : ∀ t, Fit evs gaps t → (∀ g ∈ gaps.map turn86, GapSat g fun j => -(t j)) ∧ LeAt evs.length (highs evs) fun j => -(t j) := fun t h => by
  refine ⟨(turnS _).mpr fun g hg' => ?_, fun j x y => ?_⟩
  ·have : (fun j => - -(t j)) = t := by funext j; omega
   rw [this]; exact h.1 g hg'
  ·rw [highs_at evs j x y]
   have := (h.2 j x y).2
   show -(rd_T27 evs j).f1 ≤ -(t j)
   omega
 have pairs : ∀ x y, leastR gaps (lows evs) = (x, true) → leastR (gaps.map turn86) (highs evs) = (y, true) → (List.range evs.length).all (okAt evs x) = true → Fit evs gaps (rd x) ∧ Fit evs gaps (fun j => -(rd y j)) ∧ ∀ t, Fit evs gaps t → ∀ j : Int, 0 ≤ j → j < evs.length → rd x j ≤ t j ∧ t j ≤ -(rd y j) := by
  intro x y hx hy hok
  obtain ⟨x1, x2, x3, x4⟩ := a1 x hx
  obtain ⟨y1, y2, y3, y4⟩ := b1 y hy
  have okA : ∀ j : Int, 0 ≤ j → j < evs.length → rd x j ≤ (rd_T27 evs j).f1 := fun j p q => by
   have := List.all_eq_true.mp hok j.toNat (List.mem_range.mpr (by omega))
   unfold okAt at this
   have := of_decide_eq_true this
   rwa [show ((j.toNat : Nat) : Int) = j by omega] at this
  have F1 : Fit evs gaps (rd x) := ⟨x3, fun j p q => ⟨by have := x2 j p q; rw [lows_at evs j p q] at this; exact this, okA j p q⟩⟩
  have bnd : ∀ t, Fit evs gaps t → ∀ j : Int, 0 ≤ j → j < evs.length → rd x j ≤ t j ∧ t j ≤ -(rd y j) := fun t ht j p q => by
   obtain ⟨c1, c2⟩ := fitA t ht
   obtain ⟨d1, d2⟩ := fitB t ht
   have e1 := x4 t c1 c2 j p q
   have e2 : rd y j ≤ -(t j) := y4 _ d1 d2 j p q
   exact ⟨e1, by omega⟩
  refine ⟨F1, ⟨(turnS _).mp y3, fun j p q => ?_⟩, bnd⟩
  have e1 := (F1.2 j p q).1
  have e2 := (bnd _ F1 j p q).2
  have e3 := y2 j p q
  rw [highs_at evs j p q] at e3
  show (rd_T27 evs j).f0 ≤ -(rd y j) ∧ -(rd y j) ≤ (rd_T27 evs j).f1
  exact ⟨by omega, by omega⟩
 unfold solveR
 by_cases c : (leastR gaps (lows evs)).2 = true ∧ (leastR (gaps.map turn86) (highs evs)).2 = true
 ·rw [if_pos c]
  have hx : leastR gaps (lows evs) = ((leastR gaps (lows evs)).1, true) := by rw [← c.1]
  have hy : leastR (gaps.map turn86) (highs evs) = ((leastR (gaps.map turn86) (highs evs)).1, true) := by rw [← c.2]
  by_cases hok : (List.range evs.length).all (okAt evs (leastR gaps (lows evs)).1) = true
  ·rw [if_pos hok]
   obtain ⟨F1, F2, F3⟩ := pairs _ _ hx hy hok
   refine ⟨⟨fun _ => ⟨_, F1⟩, fun _ => rfl⟩, fun l hl => ?_⟩
   injection hl with hl _
   subst hl
   have ext : ∀ (f g : Int → Int), (∀ j : Int, 0 ≤ j → j < evs.length → f j = g j) → Fit evs gaps f → Fit evs gaps g := fun f g e h => ⟨fun k hk => by
    have hs := h.1 k hk
    have hi := hg k hk
    unfold GapSat at hs ⊢
    rw [← e _ hi.a0 hi.a1, ← e _ hi.b0 hi.b1]; exact hs, fun j p q => by rw [← e j p q]; exact h.2 j p q⟩
   refine ⟨by unfold spansOf; rw [List.length_map, List.length_range], fun t ht j p q => ?_, ext _ _ (fun j p q => ?_) F1, ext _ _ (fun j p q => ?_) F2⟩
   ·rw [rd_spans _ _ _ j p q]; exact F3 t ht j p q
   ·rw [rd_spans _ _ _ j p q]
   ·rw [rd_spans _ _ _ j p q]
  ·rw [if_neg hok]
   refine ⟨⟨fun h => (by cases h), fun ⟨t, ht⟩ => ?_⟩, fun l hl => (by cases hl)⟩
   exfalso
   apply hok
   rw [List.all_eq_true]
   intro m hm
   have hm := List.mem_range.mp hm
   obtain ⟨x1, x2, x3, x4⟩ := a1 _ hx
   obtain ⟨c1, c2⟩ := fitA t ht
   have := x4 t c1 c2 (m : Int) (by omega) (by omega)
   have := (ht.2 (m : Int) (by omega) (by omega)).2
   exact decide_eq_true (by omega)
 ·rw [if_neg c]
  refine ⟨⟨fun h => (by cases h), fun ⟨t, ht⟩ => ?_⟩, fun l hl => (by cases hl)⟩
  exact absurd ⟨a2.mpr ⟨t, fitA t ht⟩, b2.mpr ⟨_, fitB t ht⟩⟩ c
theorem ev_Solve (evs : List S27) (gaps : List S86) (hn : evs.length ≤ 50) (hw : gaps.length ≤ 50) (hg : ∀ g ∈ gaps, GapIn evs.length g) (hev : ∀ s ∈ evs, -100000000 ≤ s.f0 ∧ s.f0 ≤ 100000000 ∧ -100000000 ≤ s.f1 ∧ s.f1 ≤ 100000000) :
  Ev (fun k => afterwordref19_Solve.f k evs gaps) (solveR evs gaps) := by
 have key := ev_solve0 evs gaps hn hev (res := solveR evs gaps) evs.length 0 (by omega)
 refine key ?_
 clear key
 have hA := ev_Least (lows evs) gaps (by rw [lows_len]; exact hn) hw (by rw [lows_len]; exact hg) (fun j p q => by
  rw [lows_len] at q
  rw [lows_at evs j p q]
  have := hev _ (mem27 evs j.toNat (by omega))
  rw [show ((j.toNat : Nat) : Int) = j by omega] at this
  exact ⟨this.1, this.2.1⟩)
 have hgt : ∀ g ∈ gaps.map turn86, GapIn (highs evs).length g := by
  rw [highs_len]; intro g h
  obtain ⟨g', h', rfl⟩ := List.mem_map.mp h
  exact turn_in (hg g' h')
 have hB := ev_Least (highs evs) (gaps.map turn86) (by rw [highs_len]; exact hn) (by rw [List.length_map]; exact hw) hgt (fun j p q => by
  rw [highs_len] at q
  rw [highs_at evs j p q]
  have := hev _ (mem27 evs j.toNat (by omega))
  rw [show ((j.toNat : Nat) : Int) = j by omega] at this
  omega)
 refine Ev.bind hA ?_
 refine Ev.bind (ev_Turned gaps hw) ?_
 refine Ev.bind hB ?_
 unfold solveR
 by_cases c1 : (leastR gaps (lows evs)).2 = true
 ·by_cases c2 : (leastR (gaps.map turn86) (highs evs)).2 = true
  ·rw [if_pos ⟨c1, c2⟩]
   have hb2 : (!(leastR (gaps.map turn86) (highs evs)).2) = false := by rw [c2]; rfl
   refine Ev.congr (fun k => by rw [if_pos c1, hb2]) ?_
   refine Ev.step (f := fun k => afterwordref19_Solve.l1 k evs (leastR gaps (lows evs)).1 (leastR (gaps.map turn86) (highs evs)).1 (spansOf (leastR gaps (lows evs)).1 (leastR (gaps.map turn86) (highs evs)).1 0) ((0 : Nat) : Int)) (fun k => by simp only [afterwordref19_Solve.j1]; rfl) ?_
   obtain ⟨a1, _⟩ := least_spec (gaps := gaps) (lows evs) (by rw [lows_len]; exact hg)
   obtain ⟨b1, _⟩ := least_spec (gaps := gaps.map turn86) (highs evs) hgt
   have hx : leastR gaps (lows evs) = ((leastR gaps (lows evs)).1, true) := by rw [← c1]
   have hy : leastR (gaps.map turn86) (highs evs) = ((leastR (gaps.map turn86) (highs evs)).1, true) := by rw [← c2]
   obtain ⟨x1, _⟩ := a1 _ hx
   obtain ⟨y1, y2, _, _⟩ := b1 _ hy
   rw [lows_len] at x1
   rw [highs_len] at y1 y2
   have hbig := least_big (highs evs) (gaps.map turn86) (by rw [highs_len]; exact hn) (by rw [List.length_map]; exact hw) hgt (fun j p q => by
    rw [highs_len] at q
    rw [highs_at evs j p q]
    have := hev _ (mem27 evs j.toNat (by omega))
    rw [show ((j.toNat : Nat) : Int) = j by omega] at this
    omega) _ hy
   rw [highs_len] at hbig
   have := ev_solve1 evs hn _ _ x1 y1 hbig evs.length 0 (by omega)
   simp only [Nat.zero_add] at this
   exact this
  ·rw [if_neg (fun h => c2 h.2)]
   have hb2 : (!(leastR (gaps.map turn86) (highs evs)).2) = true := by rw [Bool.eq_false_iff.mpr c2]; rfl
   refine Ev.congr (fun k => by rw [if_pos c1, hb2]) ?_
   exact Ev.step (f := fun _ => some ([], false)) (fun k => by simp only [afterwordref19_Solve.j1]; rfl) (Ev.now _)
 ·rw [if_neg (fun h => c1 h.1)]
  refine Ev.congr (fun k => by rw [if_neg c1]) ?_
  exact Ev.step (f := fun _ => some ([], false)) (fun k => by simp only [afterwordref19_Solve.j1]; rfl) (Ev.now _)
end Go.Proofs.Ytbffhblebigcfaa.Sk

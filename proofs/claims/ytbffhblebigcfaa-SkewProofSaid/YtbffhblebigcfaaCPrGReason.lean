/- The walk of skew.Reason. -/
import Derived.Deep.LoopGhost
import Derived.Deep.DeepMust
import Derived.Maps.OwnIn
import Derived.Test.YtbffhblebigcfaaCPrGMap
import Derived.Test.YtbffhblebigcfaaCPrGOrd
namespace Go.Proofs.Ytbffhblebigcfaa.Sk
open Go.RowKit Go.Shelf Go.Maps Go.Proofs.YtbffhblebigcfaaW.PrintWords Go.Proofs.YtbffhblebigcfaaW.PrintLast Go.Proofs.YtbffhblebigcfaaW.PrintMore
attribute [local go_sem] Oper.semAt_some
set_option linter.unusedVariables false
set_option linter.unusedSimpArgs false
section
variable {F : Fence} {nF : Nat} {P : Program} {ops : Array Oper} {rest : List Oper} {o : Oper} {a : Act} {Q : Exit → Act → World → Prop} {α : Type}
theorem R_append_in (d : Kd α) {w0 W : World} (base : Nat) (hgd : o.guard = none) (s x : Operand) (t e : TypeId) (z : Value) (bytes : Nat)
  (ho : o.op = .call { callee := .builtin .append, args := #[s, x], argTypes := #[t, t] })
  (ht : P.underlying t = some (.slice e)) (hinfo : (P.info? e).map (fun i => (i.zero, i.size, i.bytes)) = some (some z, d.sz, bytes)) (hz : z.cells.size = d.sz) (hs0 : 0 < d.sz) (hb0 : 0 < bytes)
  (v : Value) (xs : List α) (p : α) (cs : List Value) (ok okp : Nat → Prop) (hs : a.eval s = v) (hx : a.eval x = .slice (some ⟨W.heap.size, 0, none⟩) 1 1) (hp : d.M W base okp p cs) (hokp : ∀ k, okp k → ok k ∧ some k ≠ v.ownBlock) (hfresh : ∀ k, W.heap.size ≤ k → ok k)
  (HO : d.R e W base ok v xs) (HB : Below base w0 W) (hbase : base ≤ W.heap.size) (hl : (xs.length + 1) * bytes ≤ 140737488355328)
  (h : ∀ v1 w1, d.R e w1 base ok v1 (xs ++ [p]) → Below base w0 w1 → W.grownBy w1 v.ownBlock → (v1.ownBlock = v.ownBlock ∨ ∃ b, v1.ownBlock = some b ∧ W.heap.size ≤ b) → wpListIn F nF P ops Q rest (a.put o.dst v1) w1) :
  wpListIn F nF P ops Q (o :: rest) a (W.alloc (.cells cs.toArray e)) := by
 obtain ⟨h0, inner, hown, hr⟩ := HO
 obtain ⟨i0, hi, hzz⟩ := Option.map_eq_some_iff.1 hinfo
 simp only [Prod.mk.injEq] at hzz
 obtain ⟨hz0, hz1, hz2⟩ := hzz
 have hys : cs.length = d.sz := d.K_len (d.K_of_M hp)
 have hlen : xs.length + 1 ≤ 140737488355328 := Nat.le_trans (Nat.le_mul_of_pos_right _ hb0) hl
 refine wpListIn_append_own_at (W.alloc (.cells cs.toArray e)) hgd s x t ho base e i0 z d.sz bytes ht hi hz0 hz1 hz2 hz hs0 v xs.length inner hs (hown.alloc _) ⟨W.heap.size, 0, none⟩ 1 1 cs hx (by rw [hys]; simp)
  (by simpa using World.news_of_block (cs := cs.toArray) (t := e) (fr := (0, 0)) (heap_alloc_new W (.cells cs.toArray e))) (d.K_one (d.K_of_M hp)) (by simp only [maxLen]; omega) hl (by simp; omega) ?_
 intro v1 w1 hown1 hg _ hat
 have hg2 := World.grownBy.trans (World.grownBy_alloc W _ v.ownBlock) hg
 have hat2 : v1.ownBlock = v.ownBlock ∨ ∃ b, v1.ownBlock = some b ∧ W.heap.size ≤ b := by
  rcases hat with hat | hat
  ·exact .inl hat
  ·exact .inr ⟨_, hat, by simp⟩
 exact h v1 w1 (Kd.R_appended h0 hr hp hokp hfresh hown1 hg2 hat2) ((HB.alloc hbase _).grown hg (by simp; omega) (own_base hown)) hg2 hat2
end
def omF (f : Int → Option Bool) : Int → Bool := fun k => (f k).getD false
def rstep (L : List (Int × S153)) (st : (Int → Option Bool) × List Int) (x : Int × S153) : (Int → Option Bool) × List Int :=
 if (tightenF (bindP (omF (upd st.1 x.1 true)) L)).isSome = true then (upd (upd st.1 x.1 true) x.1 false, st.2 ++ [x.1]) else (upd st.1 x.1 true, st.2)
def reasonS (L : List (Int × S153)) (fs : List Fc) : (Int → Option Bool) × List Int := fs.foldl (fun st x => rstep L st x.1) (fun _ => none, [])
theorem reasonS_snoc (L : List (Int × S153)) (fs : List Fc) (x : Fc) : reasonS L (fs ++ [x]) = rstep L (reasonS L fs) x.1 := by
 unfold reasonS; rw [List.foldl_append]; rfl
theorem rstep_len (L : List (Int × S153)) (st : (Int → Option Bool) × List Int) (x : Int × S153) : (rstep L st x).2.length ≤ st.2.length + 1 := by
 unfold rstep; split <;> simp
theorem foldl_len (L : List (Int × S153)) : ∀ (fs : List Fc) (st : (Int → Option Bool) × List Int), (fs.foldl (fun st x => rstep L st x.1) st).2.length ≤ st.2.length + fs.length
 | [], st => by simp
 | x :: fs, st => by
  have h1 := foldl_len L fs (rstep L st x.1)
  have h2 := rstep_len L st x.1
  rw [List.foldl_cons, List.length_cons]
  omega
theorem reasonS_len (L : List (Int × S153)) (fs : List Fc) : (reasonS L fs).2.length ≤ fs.length := by
 have := foldl_len L fs (fun _ => none, [])
 unfold reasonS
 simp only [List.length_nil, Nat.zero_add] at this
 exact this
def reasonP (L : List (Int × S153)) : List Int := (L.foldl (rstep L) (fun _ => none, [])).2
theorem reasonP_eq (L : List (Int × S153)) (fs : List Fc) (h : fs.map (·.1) = L) : (reasonS L fs).2 = reasonP L := by
 have : reasonP L = ((fs.map (·.1)).foldl (rstep L) (fun _ => none, [])).2 := by rw [h]; rfl
 rw [this, List.foldl_map]; rfl
theorem facts_ex' (evs : List S27) (gaps : List S86) (h : histOk evs gaps) : ∃ fs : List Fc, IsFacts evs gaps fs ∧ (∀ om, bindF om fs = bindP om (saidL evs gaps)) ∧ (reasonS (saidL evs gaps) fs).2 = reasonP (saidL evs gaps) ∧ fs.length = evs.length + gaps.length := by
 obtain ⟨fs, h1, h2, h3⟩ := facts_ex0 evs gaps h
 exact ⟨fs, h1, h2, reasonP_eq _ _ h3, h1.1⟩
def skew_Reason.f (evs : List S27) (gaps : List S86) : Option (List Int × Int) :=
 (skew_isHist.f 1000 evs gaps).bind fun t => if t = true then
  if histOk evs gaps then if (tightenF (bindP (fun _ => false) (saidL evs gaps))).isSome = true then some ([], 5) else some (reasonP (saidL evs gaps), 0)
  else none
 else some ([], 2)
theorem keepsFrom_below {B : Nat} {W W' : World} (hb : Below W.heap.size W W') : KeepsFrom B W W' := ⟨hb.size, fun k o _ hk _ => (hb.block k (blk_lt hk)).trans hk⟩
structure RI (w W3 W : World) (hv : Array Value) (n : Nat) (f : Int → Option Bool) (vl : Value) (rs : List Int) : Prop where
 mp : MapIs elB W W3.heap.size n f
 kb : W.heap[W3.heap.size + 1]? = some (.cells #[.map (some W3.heap.size)] 111 (0, 0))
 k40 : W.heap[W3.heap.size + 1 + 1]? = some (.cells #[vl] 40 (0, 0))
 own : Kd.R (Kd.int .i64) 3 W (W3.heap.size + 4) (fun _ => True) vl rs
 k39 : W.heap[w.heap.size]? = some (.cells hv 39 (0, 0))
 bel : Below W3.heap.size W3 W
 sz : W3.heap.size + 3 ≤ W.heap.size
theorem RI.below {w W3 W W' : World} {hv : Array Value} {n : Nat} {f : Int → Option Bool} {vl : Value} {rs : List Int} (h : RI w W3 W hv n f vl rs) (hb : Below W.heap.size W W') : RI w W3 W' hv n f vl rs :=
 ⟨h.mp.below hb, blk_below h.kb hb, blk_below h.k40 hb, Kd.R_below h.own hb, blk_below h.k39 hb, below_step h.bel hb, Nat.le_trans h.sz hb.size⟩
theorem RI.others {w W3 W W' : World} {hv : Array Value} {n : Nat} {f : Int → Option Bool} {vl : Value} {rs : List Int} (h : RI w W3 W hv n f vl rs) {row : Option Nat} (hg : W.grownBy W' row) (hr : ∀ r, row = some r → W3.heap.size + 3 ≤ r) (hn : vl.ownBlock = none ∨ vl.ownBlock ≠ row) (hw : w.heap.size < W3.heap.size) : RI w W3 W' hv n f vl rs :=
 ⟨h.mp.kept hg (fun e => by have := hr _ e.symm; omega), blk_grown h.kb hg (fun e => by have := hr _ e.symm; omega), blk_grown h.k40 hg (fun e => by have := hr _ e.symm; omega), ri_grown h.own hg hn, blk_grown h.k39 hg (fun e => by have := hr _ e.symm; omega), below_grown h.bel hg h.bel.size (fun r e => by have := hr r e; omega), Nat.le_trans h.sz hg.size⟩
theorem RI.store {w W3 W W' : World} {hv : Array Value} {n n' : Nat} {f f' : Int → Option Bool} {vl : Value} {rs : List Int} (h : RI w W3 W hv n f vl rs) (hm : MapIs elB W' W3.heap.size n' f') (hg : W.grownBy W' (some W3.heap.size)) (hw : w.heap.size < W3.heap.size) : RI w W3 W' hv n' f' vl rs :=
 ⟨hm, blk_grown h.kb hg (fun e => by injection e with e; omega), blk_grown h.k40 hg (fun e => by injection e with e; omega), ri_grown h.own hg (.inr (fun e => by have := (ri_lt h.own _ e).1; omega)), blk_grown h.k39 hg (fun e => by injection e with e; omega), below_grown h.bel hg h.bel.size (fun r e => by injection e with e; omega), Nat.le_trans h.sz hg.size⟩
theorem RI.kept40 {w W3 W w1 : World} {hv : Array Value} {n : Nat} {f : Int → Option Bool} {vl : Value} {rs : List Int} (h : RI w W3 W hv n f vl rs) (hg : W.grownBy w1 vl.ownBlock) : w1.heap[W3.heap.size + 1 + 1]? = some (.cells #[vl] 40 (0, 0)) :=
 (hg.block (W3.heap.size + 1 + 1) (by have := h.sz; omega) (fun e => by have := (ri_lt h.own _ e.symm).1; omega)).trans h.k40
theorem RI.put {w W3 W w1 : World} {hv : Array Value} {n : Nat} {f : Int → Option Bool} {vl v1 : Value} {rs l1 : List Int} (h : RI w W3 W hv n f vl rs) (hg : W.grownBy w1 vl.ownBlock) (ho : Kd.R (Kd.int .i64) 3 w1 (W3.heap.size + 4) (fun _ => True) v1 l1) (hw : w.heap.size < W3.heap.size) :
  RI w W3 (w1.setCell ⟨W3.heap.size + 1 + 1, 0, none⟩ v1) hv n f v1 l1 := by
 have hz := h.sz
 have hne : ∀ k, k < W3.heap.size + 3 → some k ≠ vl.ownBlock := fun k hk e => by have := (ri_lt h.own k e.symm).1; omega
 have h39 := (hg.block w.heap.size (by omega) (hne _ (by omega))).trans h.k39
 have hkb := (hg.block (W3.heap.size + 1) (by omega) (hne _ (by omega))).trans h.kb
 have hb : Below W3.heap.size W3 w1 := below_grown h.bel hg h.bel.size (fun r e => by have := (ri_lt h.own r e).1; omega)
 exact ⟨(h.mp.kept hg (hne _ (by omega))).setCell (show W3.heap.size ≠ W3.heap.size + 1 + 1 by omega) _, blk_far hkb (by omega) _, blk_set1 (h.kept40 hg) _, ri_step ho (fun k hk => Below.heap_setCell _ _ _ _ (by have := (ri_lt ho k hk).1; show k ≠ W3.heap.size + 1 + 1; omega)), blk_far h39 (by omega) _, hb.setCell (show W3.heap.size ≤ W3.heap.size + 1 + 1 by omega) _, (by rw [World.size_setCell]; exact Nat.le_trans hz hg.size)⟩
theorem RI.start {w W3 : World} {hv : Array Value} (hk : W3.heap[w.heap.size]? = some (.cells hv 39 (0, 0))) : RI w W3 (((W3.alloc (.map #[] 0)).alloc (.cells #[.map (some W3.heap.size)] 111)).alloc (.cells #[.slice none 0 0] 40)) hv 0 (fun _ => none) (.slice none 0 0) [] := by
 have h1 := blk_new (W3.alloc (.map #[] 0)) (.cells #[.map (some W3.heap.size)] 111)
 rw [World.size_alloc] at h1
 have h2 := blk_new ((W3.alloc (.map #[] 0)).alloc (.cells #[.map (some W3.heap.size)] 111)) (.cells #[.slice none 0 0] 40)
 rw [World.size_alloc, World.size_alloc] at h2
 exact ⟨((MapIs.made W3).alloc _).alloc _, blk_alloc h1 _, h2, Kd.R_nil _ _ _ _ _, blk_alloc (blk_alloc (blk_alloc hk _) _) _, below_alloc (below_alloc (below_alloc (Below.refl _ _) _) _) _, by rw [World.size_alloc, World.size_alloc, World.size_alloc]; omega⟩
set_option maxHeartbeats 4000000 in
set_option maxRecDepth 100000 in
theorem skew_Reason.calls (A0 : Option Addr) (c0 : Nat) (evs : List S27) (A1 : Option Addr) (c1 : Nat) (gaps : List S86) (r1 : List Int) (r2 : Int) (w : World) (hC0 : Kd.C k27 w A0 evs.length evs) (hc0 : evs.length ≤ c0) (hC1 : Kd.C k86 w A1 gaps.length gaps) (hc1 : gaps.length ≤ c1) (h : skew_Reason.f evs gaps = some (r1, r2)) :
  Calls Try.prog 22 #[.agg #[.slice A0 evs.length c0, .slice A1 gaps.length c1]] w fun e w' => ∃ v0_ : Value, e = .returned (.tuple #[v0_, .int .i64 r2]) ∧ Kd.V (Kd.int .i64) 3 w' w.heap.size (fun k_ => (w.heap.size ≤ k_)) v0_ r1 ∧ Below w.heap.size w w' := by
 unfold skew_Reason.f at h
 obtain ⟨t, ht, h⟩ := Option.bind_eq_some_iff.mp h
 have hmm := @run_makeMap Try.prog
 have hb0 := below_alloc (Below.refl w.heap.size w) (.cells #[.slice A0 evs.length c0, .slice A1 gaps.length c1] 39)
 have hk0 := blk_new w (.cells #[.slice A0 evs.length c0, .slice A1 gaps.length c1] 39)
 have HIs := Aside0.mk (skew_isHist.calls 1000 A0 c0 evs A1 c1 gaps t _ (Kd.C_below hC0 hb0) hc0 (Kd.C_below hC1 hb0) hc1 ht)
 have x0 := cell_at hk0 0 (.slice A0 evs.length c0) rfl
 have x1 := cell_at hk0 1 (.slice A1 gaps.length c1) rfl
 have HB0 := Aside0.mk hb0
 have HK0 := Aside0.mk hk0
 have HC0 := Aside0.mk hC0
 have HC1 := Aside0.mk hC1
 clear hb0 hk0 ht hC0 hC1
 refine (callsIn_wide (n := 10)).1 ?_
 refine callsIn_of_wp_marks Try.func22 rfl trivial ?_ rfl
 simp only [Try.ntmps22, List.size_toArray, List.length_cons, List.length_nil, Nat.reduceAdd, Nat.reduceSub, Array.replicate_succ, Array.replicate_zero, List.push_toArray, List.append_toArray, List.nil_append, List.cons_append]
 cases t with
 | false =>
  rw [if_neg (by simp)] at h
  simp only [Option.some.injEq, Prod.mk.injEq] at h
  obtain ⟨rfl, rfl⟩ := h
  gi_wp2_with (refine ⟨trivial, ?_⟩; gi_at_call 77; refine (callsIn_wide.2 HIs.out).mono ?_; rintro e w1 ⟨rfl, hb⟩; have HB1 := Aside0.mk (below_step HB0.out hb); clear hb)
  exact ⟨_, results_tmp2 rfl _ _ _, _, rfl, Kd.V_nil _ _ _ _ _, HB1.out⟩
 | true =>
  rw [if_pos rfl] at h
  by_cases hok : histOk evs gaps
  ·rw [if_pos hok] at h
   obtain ⟨fs, hfs, hbp, hrp, hfl⟩ := facts_ex' evs gaps hok
   have HFs := Aside0.mk hfs
   have HBp := Aside0.mk hbp
   have HRp := Aside0.mk hrp
   have HFl := Aside0.mk hfl
   have HOk := Aside0.mk hok
   have H := Aside0.mk h
   clear h hfs hbp hrp hfl hok
   gi_wp2_with fail
   refine ⟨trivial, ?_⟩
   refine (callsIn_wide.2 HIs.out).mono ?_
   rintro e w1 ⟨rfl, hb⟩
   have HB1 := Aside0.mk (below_step HB0.out hb)
   have hk1 := blk_below HK0.out hb
   have HK1 := Aside0.mk hk1
   have y0 := cell_at hk1 0 (.slice A0 evs.length c0) rfl
   have y1 := cell_at hk1 1 (.slice A1 gaps.length c1) rfl
   have HC := Aside0.mk (bind_calls A0 A1 c0 c1 evs gaps fs HFs.out none (fun _ => false) w1 (Kd.C_below HC0.out HB1.out) (Kd.C_below HC1.out HB1.out) HOk.out.1 HOk.out.2.1 (fun W _ k h0 h1 => look_nil W k h0 h1))
   clear hb HIs x0 x1 hk1 HK0
   gi_wp2_with fail
   refine ⟨trivial, ?_⟩
   refine (callsIn_wide.2 HC.out).mono ?_
   rintro e w2 ⟨rfl, hbd, hb⟩
   rw [HBp.out] at hbd
   have HB2 := Aside0.mk (below_step HB1.out hb)
   have HT := Aside0.mk (tighten_calls _ w1.heap.size _ _ _ _ hbd (by omega))
   have HBa := Aside0.mk hb
   clear hbd hb HC y0 y1
   gi_wp2_with fail
   refine ⟨trivial, ?_⟩
   refine (callsIn_wide.2 HT.out).mono ?_
   rintro e w3 ⟨rfl, _, hb⟩
   have HB3 := Aside0.mk (HB2.out.trans (below_weak hb HB1.out.size))
   have hk3 := blk_below HK1.out (HBa.out.trans hb)
   have HK3 := Aside0.mk hk3
   have HS3 := Aside0.mk (blk_lt hk3)
   clear hb HT HBa HK1
   cases htt : (tightenF (bindP (fun _ => false) (saidL evs gaps))).isSome with
   | true =>
    have h := H.out
    rw [if_pos htt] at h
    simp only [Option.some.injEq, Prod.mk.injEq] at h
    obtain ⟨rfl, rfl⟩ := h
    clear H htt hk3
    gi_wp2
    exact ⟨_, results_tmp2 rfl _ _ _, _, rfl, Kd.V_nil _ _ _ _ _, HB3.out⟩
   | false =>
    have h := H.out
    rw [if_neg (by rw [htt]; simp)] at h
    simp only [Option.some.injEq, Prod.mk.injEq] at h
    obtain ⟨h1, rfl⟩ := h
    have HR1 := Aside0.mk h1
    have HI0 := Aside0.mk (RI.start (w := w) hk3)
    have x0 := cell_at HI0.out.k39 0 (.slice A0 evs.length c0) rfl
    have x1 := cell_at HI0.out.k39 1 (.slice A1 gaps.length c1) rfl
    clear H htt hk3 h1
    gi_wp2_with fail
    have hsz0 : (((w3.alloc (.map #[] 0)).alloc (.cells #[.map (some w3.heap.size)] 111)).alloc (.cells #[.slice none 0 0] 40)).heap.size = w3.heap.size + 3 := by rw [World.size_alloc, World.size_alloc, World.size_alloc]
    have HZ0 := Aside0.mk hsz0
    have HBz := Aside0.mk (HB3.out.trans (below_weak (below_alloc (below_alloc (below_alloc (Below.refl _ _) _) _) _) HB3.out.size) : Below w.heap.size w (((w3.alloc (.map #[] 0)).alloc (.cells #[.map (some w3.heap.size)] 111)).alloc (.cells #[.slice none 0 0] 40)))
    clear hsz0
    generalize (((w3.alloc (.map #[] 0)).alloc (.cells #[.map (some w3.heap.size)] 111)).alloc (.cells #[.slice none 0 0] 40)) = W0 at HI0 x0 x1 HZ0 HBz ⊢
    refine ⟨trivial, ?_⟩
    refine (said_calls A0 A1 evs.length gaps.length c0 c1 Fence.wide _ trivial rfl _).mono ?_
    rintro e w' ⟨rfl, rfl⟩
    clear x0 x1
    gi_wp2_with fail
    have kbox := blk_new W0 (.cells #[.slice A0 evs.length c0, .slice A1 gaps.length c1] 39)
    have hI1 := HI0.out.below (below_alloc (Below.refl _ _) (.cells #[.slice A0 evs.length c0, .slice A1 gaps.length c1] 39))
    have hBw1 := below_alloc HBz.out (.cells #[.slice A0 evs.length c0, .slice A1 gaps.length c1] 39)
    have hzz := HZ0.out
    have hs3 := HS3.out
    have hs1 : (W0.alloc (.cells #[.slice A0 evs.length c0, .slice A1 gaps.length c1] 39)).heap.size = W0.heap.size + 1 := World.size_alloc _ _
    have hstops := said1_stops A0 A1 c0 c1 evs gaps fs HFs.out Fence.wide 9 trivial rfl (by omega) W0.heap.size (W0.heap.size + 1) (fun k => k = w3.heap.size ∨ k = w3.heap.size + 1 + 1) (W0.alloc (.cells #[.slice A0 evs.length c0, .slice A1 gaps.length c1] 39)) w (by omega) (by omega) kbox hBw1 (by omega) (fun k hk => by omega) (by omega) HC0.out HC1.out HOk.out.1 HOk.out.2.1
    have HS1 := Aside0.mk hs1
    refine wpIn_rangeFunc_ownH rfl (by omega) (gf := 121) (lb := #[.pointer (some ⟨W0.heap.size, 0, none⟩)]) rfl trivial (enters_of Try.func121 (by kernel_rfl) rfl) hstops (fun h k => KB.trans h k)
     (fun W l o o' hl ho _ _ => by have hgp := grownBy_putObj' W l o'; exact ⟨hgp.os, hgp.tape, hgp.output, hgp.size, fun k hk _ => hgp.block k (by have := blk_lt ho; omega) (fun e => by injection e with e; omega)⟩) (Below.refl _ _) (fun _ => rfl)
     (fun pre W => (∃ vl, RI w w3 W #[.slice A0 evs.length c0, .slice A1 gaps.length c1] (2 * pre.length) (reasonS (saidL evs gaps) pre).1 vl (reasonS (saidL evs gaps) pre).2) ∧ W0.heap.size + 1 ≤ W.heap.size) (fun _ _ _ => False)
     (fun pre X Y row hs hg hr => ?own) (fun _ _ _ _ _ hs _ _ => hs) ⟨⟨_, hI1⟩, by omega⟩
     (fun x a' W => a' = { tmps := #[.agg #[.slice A0 evs.length c0, .slice A1 gaps.length c1], .pointer (some ⟨w.heap.size, 0, none⟩), .slice none 0 0, .int .i64 0, .pointer (some ⟨w3.heap.size + 1, 0, none⟩), .pointer (some ⟨w3.heap.size + 1 + 1, 0, none⟩), .int .i64 x.1.1, .agg #[.slice A0 evs.length c0, .slice A1 gaps.length c1], .bool true, .bool false, .agg #[.slice A0 evs.length c0, .slice A1 gaps.length c1], .pointer (some ⟨w1.heap.size + 2, 0, none⟩), .pointer (some ⟨w1.heap.size + 2, 0, none⟩), .pointer (some ⟨w1.heap.size + 2, 2, none⟩), .bool false, .map (some w3.heap.size), .agg #[.slice A0 evs.length c0, .slice A1 gaps.length c1], .func (.func 121) #[] #[.pointer (some ⟨W0.heap.size, 0, none⟩)], .int .i64 x.1.1, .agg #[.int .i64 x.1.2.f0, .int .i64 x.1.2.f1, .int .i64 x.1.2.f2, .int .i64 x.1.2.f3], undef, undef, undef, undef, undef, undef, undef, undef, undef, undef, undef, undef, undef, undef, undef, undef], defers := [] })
     (fun x a' _ X Y row hs hg hr => hs) ?assign ?body ?done ?stop
    case own =>
     obtain ⟨⟨vl, hi⟩, hsz⟩ := hs
     refine ⟨⟨vl, hi.others hg (fun r e => by have := (hr r e).1; omega) ?_ hs3⟩, Nat.le_trans hsz hg.size⟩
     by_cases hn : vl.ownBlock = none
     ·exact .inl hn
     ·refine .inr (fun e => ?_)
      obtain ⟨k, hk⟩ : ∃ k, vl.ownBlock = some k := Option.ne_none_iff_exists'.mp hn
      obtain ⟨_, o, ho, hc⟩ := hr k (e.symm.trans hk)
      obtain ⟨_, _, _, q, hq, cells, hcell⟩ := (Kd.R_bound hi.own).1 k hk
      rw [hcell] at ho
      cases ho
      cases hc
    case assign =>
     rintro l pre x W K ⟨hi, hsz⟩ hK
     clear hzz hs1 hs3
     dsimp only [Fc.enc]
     gi_wp2
     exact hK _ _ (KeepsFrom.refl _ _) (KB.refl _ _ W) ⟨hi, hsz⟩ rfl
    case body =>
     rintro l pre x a' W hl hr ⟨⟨vl, hi⟩, hsz⟩ rfl hlt
     have HSz := Aside0.mk hsz
     have HHl := Aside0.mk hl
     have HLt := Aside0.mk hlt
     have HS := Aside0.mk (reasonS_snoc (saidL evs gaps) pre x)
     have HRl := Aside0.mk (reasonS_len (saidL evs gaps) pre)
     obtain ⟨st, hst⟩ : ∃ st, reasonS (saidL evs gaps) pre = st := ⟨_, rfl⟩
     rw [hst] at hi HS HRl
     clear hzz hs1 hs3 hst hstops kbox hI1 hBw1 hsz hl hr hlt
     have HI := Aside0.mk hi
     have x1 := cell_at hi.kb 0 (.map (some w3.heap.size)) rfl
     have HKx := Aside0.mk (okI_of (show -9223372036854775808 ≤ x.1.1 ∧ x.1.1 ≤ 9223372036854775807 by have := x.2.1; omega))
     have hpl : pre.length ≤ 30 := by have h1 := HLt.out; have h2 := HFl.out; have h3 := HOk.out; have h4 := h3.1; have h5 := h3.2.1; omega
     have HPl := Aside0.mk hpl
     obtain ⟨wm, hrun, hmp, hgm⟩ := hi.mp.store_run (t := 111) Try.underlying111 (by unfold maxLen; omega) HKx.out (x := true) trivial
     have hst1 : (Instr.mapUpdate 111 (.map (some w3.heap.size)) (.int .i64 x.1.1) (.bool true)).run Try.prog W = .ok () wm := hrun
     have hIm := hi.store hmp hgm HS3.out
     have HIm := Aside0.mk hIm
     have HMp := Aside0.mk hmp
     have HGm := Aside0.mk (KB.of (n₀ := W0.heap.size + 1) (P := fun k => k = w3.heap.size ∨ k = w3.heap.size + 1 + 1) hgm (fun r e => .inl (.inl (by injection e with e; exact e.symm))) HSz.out)
     have HFm := Aside0.mk (KeepsFrom.of_grownBy (B := (W0.alloc (.cells #[.slice A0 evs.length c0, .slice A1 gaps.length c1] 39)).heap.size) hgm (fun j e => by injection e with e; have h1 := HZ0.out; have h2 := HS1.out; omega))
     have y1 := cell_at hIm.kb 0 (.map (some w3.heap.size)) rfl
     have z0 := cell_at hIm.k39 0 (.slice A0 evs.length c0) rfl
     have z1 := cell_at hIm.k39 1 (.slice A1 gaps.length c1) rfl
     have HC := Aside0.mk (bind_calls A0 A1 c0 c1 evs gaps fs HFs.out (some w3.heap.size) (omF (upd st.1 x.1.1 true)) wm (Kd.C_below HC0.out (below_step HB3.out hIm.bel)) (Kd.C_below HC1.out (below_step HB3.out hIm.bel)) HOk.out.1 HOk.out.2.1 (fun W' hb k h0 h1 => (HMp.out.below hb).look_run (t := 111) Try.underlying111 (okI_of (by omega)) false))
     clear hi hrun hmp hgm hIm hpl
     gi_wp2_with fail
     clear hst1 x1
     refine ⟨trivial, ?_⟩
     refine (CallsIn.inRound l (callsIn_wide.2 HC.out)).mono ?_
     rintro e w5 ⟨rfl, hbd, hb⟩
     rw [HBp.out] at hbd
     have HB5 := Aside0.mk hb
     have HT := Aside0.mk (tighten_calls _ wm.heap.size _ _ _ _ hbd (by omega))
     clear hbd hb HC y1 z0 z1
     gi_wp2_with fail
     refine ⟨trivial, ?_⟩
     refine (CallsIn.inRound l (callsIn_wide.2 HT.out)).mono ?_
     rintro e w6 ⟨rfl, _, hb⟩
     have hb6 := HB5.out.trans hb
     have HI6 := Aside0.mk (HIm.out.below hb6)
     have HG6 := Aside0.mk (HGm.out.trans (KB.ofBelow hb6 (Nat.le_trans HSz.out HGm.out.size)))
     have HF6 := Aside0.mk (HFm.out.trans (keepsFrom_below hb6))
     clear hb hb6 HT HB5 HIm HGm HFm HMp
     cases htt : (tightenF (bindP (omF (upd st.1 x.1.1 true)) (saidL evs gaps))).isSome with
     | false =>
      have hs : reasonS (saidL evs gaps) (pre ++ [x]) = (upd st.1 x.1.1 true, st.2) := by rw [HS.out]; unfold rstep; rw [if_neg (by rw [htt]; simp)]
      have HS2 := Aside0.mk hs
      clear hs htt
      gi_wp2
      refine ⟨HF6.out, HG6.out, ⟨vl, ?_⟩, Nat.le_trans HSz.out HG6.out.size⟩
      rw [HS2.out]
      have hI := HI6.out
      exact ⟨hI.mp.mono (by simp; omega), hI.kb, hI.k40, hI.own, hI.k39, hI.bel, hI.sz⟩
     | true =>
      have hs : reasonS (saidL evs gaps) (pre ++ [x]) = (upd (upd st.1 x.1.1 true) x.1.1 false, st.2 ++ [x.1.1]) := by rw [HS.out]; unfold rstep; rw [if_pos htt]
      have HS2 := Aside0.mk hs
      have hI := HI6.out
      obtain ⟨wq, hrun, hmp, hgm⟩ := hI.mp.store_run (t := 111) Try.underlying111 (by unfold maxLen; have := HPl.out; omega) HKx.out (x := false) trivial
      have hst2 : (Instr.mapUpdate 111 (.map (some w3.heap.size)) (.int .i64 x.1.1) (.bool false)).run Try.prog w6 = .ok () wq := hrun
      have y1 := cell_at hI.kb 0 (.map (some w3.heap.size)) rfl
      have hIq := hI.store hmp hgm HS3.out
      have HIq := Aside0.mk hIq
      have y2 := cell_at hIq.k40 0 vl rfl
      have HGq := Aside0.mk (HG6.out.trans (KB.of (n₀ := W0.heap.size + 1) (P := fun k => k = w3.heap.size ∨ k = w3.heap.size + 1 + 1) hgm (fun r e => .inl (.inl (by injection e with e; exact e.symm))) (Nat.le_trans HSz.out HG6.out.size)))
      have HFq := Aside0.mk (HF6.out.trans (KeepsFrom.of_grownBy (B := (W0.alloc (.cells #[.slice A0 evs.length c0, .slice A1 gaps.length c1] 39)).heap.size) hgm (fun j e => by injection e with e; have h1 := HZ0.out; have h2 := HS1.out; omega)))
      clear hs htt hI hrun hmp hgm hIq HI6 HG6 HF6
      gi_wp2_with (gi_at_builtin; go_must (refine R_append_in (Kd.int .i64) (w0 := wq) (W := wq) (w3.heap.size + 4) rfl (.tmp 30) (.tmp 32) 40 3 (.int .i64 0) 8 rfl Try.underlying40 info3 rfl (by decide) (by decide) vl st.2 x.1.1 [.int .i64 x.1.1] (fun _ => True) (fun _ => False) rfl rfl rfl (fun _ hk => hk.elim) (fun _ _ => trivial) HIq.out.own (Below.refl _ _) (by have h1 := HSz.out; have h2 := HGq.out.size; have h3 := HZ0.out; omega) (by have := HRl.out; have := HPl.out; omega) ?_; intro v1 w9 ho hb hg hat; obtain ⟨A8, c8, hv8⟩ := Kd.R_slice ho; obtain ⟨n8, hn8⟩ : ∃ n8, (st.2 ++ [x.1.1]).length = n8 := ⟨_, rfl⟩; rw [hn8] at hv8; clear hn8; subst hv8; have HI9 := Aside0.mk (HIq.out.put hg ho HS3.out); have x49 := cell_at (HIq.out.kept40 hg) 0 vl rfl; have z49 := blk_frozen (HIq.out.kept40 hg) 0; have HG9 := Aside0.mk hg; clear ho hb hat hg))
      have hgo : KeepsOthers wq w9 := KeepsOthers.of_grownBy HG9.out (fun j o e ho => by
       obtain ⟨_, _, _, q, hq, cells, hcell⟩ := (Kd.R_bound HIq.out.own).1 j e
       rw [hcell] at ho; cases ho; rfl)
      have hkb : KB (W0.heap.size + 1) (fun k => k = w3.heap.size ∨ k = w3.heap.size + 1 + 1) wq w9 := KB.of HG9.out (fun r e => .inr (by have h1 := (ri_lt HIq.out.own r e).1; have h3 := HZ0.out; omega)) (Nat.le_trans HSz.out HGq.out.size)
      have hsz9 : w9.heap.size = (w9.setCell ⟨w3.heap.size + 1 + 1, 0, none⟩ (.slice A8 n8 c8)).heap.size := (World.size_setCell _ _ _).symm
      have hks : KB (W0.heap.size + 1) (fun k => k = w3.heap.size ∨ k = w3.heap.size + 1 + 1) w9 (w9.setCell ⟨w3.heap.size + 1 + 1, 0, none⟩ (.slice A8 n8 c8)) := ⟨rfl, rfl, rfl, Nat.le_of_eq hsz9, fun k _ hk => Below.heap_setCell _ _ _ _ (fun e => hk (.inr e))⟩
      refine ⟨HFq.out.trans ((hgo.from _).trans ((KeepsOthers.setCell w9 ⟨w3.heap.size + 1 + 1, 0, none⟩ (.slice A8 n8 c8)).from _)), HGq.out.trans (hkb.trans hks), ⟨.slice A8 n8 c8, ?_⟩, Nat.le_trans HSz.out (HGq.out.trans (hkb.trans hks)).size⟩
      rw [HS2.out]
      have hI := HI9.out
      exact ⟨hI.mp.mono (by simp; omega), hI.kb, hI.k40, hI.own, hI.k39, hI.bel, hI.sz⟩
    case done =>
     rintro D xs W hD rfl ⟨⟨vl, hi⟩, hsz⟩ hK
     obtain ⟨A7, c7, hv7, hc7, hC7⟩ := Kd.R_reads hi.own
     subst hv7
     have x40 := cell_at hi.k40 0 (.slice A7 (reasonS (saidL evs gaps) xs).2.length c7) rfl
     have HI := Aside0.mk hi
     have HC7 := Aside0.mk hc7
     have HC := Aside0.mk (clip81 A7 _ c7 hc7 W)
     clear hi hc7 hC7
     gi_wp2_with (refine ⟨trivial, ?_⟩; gi_at_call 81; refine (callsIn_wide.2 HC.out).mono ?_; rintro e w' ⟨rfl, rfl⟩)
     have hgp := grownBy_putObj' W D (.deferred none)
     have hD' : some D ≠ (Value.slice A7 (reasonS (saidL evs gaps) xs).2.length c7).ownBlock := fun e => by
      obtain ⟨_, _, _, q, hq, cells, hcell⟩ := (Kd.R_bound HI.out.own).1 D e.symm
      rw [hcell] at hK; cases hK
     have hF := HI.out.others hgp (fun r e => by injection e with e; omega) (.inr (fun e => hD' e.symm)) hs3
     refine ⟨by simp, .inl ⟨_, _, rfl, run_takeDeferred hK, ?_⟩⟩
     refine ⟨_, results_tmp2 rfl _ _ _, _, rfl, ?_, below_step HB3.out hF.bel⟩
     have hV := V_clip' (w := w) hF.own (by omega)
     rw [← HR1.out, ← HRp.out]
     exact hV
    case stop =>
     rintro D c pre W hD _ hf hK
     exact hf.elim
  ·rw [if_neg hok] at h; cases h
end Go.Proofs.Ytbffhblebigcfaa.Sk

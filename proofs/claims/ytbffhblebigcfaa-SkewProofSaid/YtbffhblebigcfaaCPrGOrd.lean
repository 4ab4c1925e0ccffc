/- The walk of skew.Order. -/
import Derived.Deep.LoopGhost
import Derived.Deep.DeepMust
import Derived.Test.YtbffhblebigcfaaCPrGOrder
import Derived.Test.YtbffhblebigcfaaCPrGDel
import Derived.Test.YtbffhblebigcfaaCPrGTightS
namespace Go.Proofs.Ytbffhblebigcfaa.Sk
open Go.RowKit Go.Proofs.YtbffhblebigcfaaW.PrintWords Go.Proofs.YtbffhblebigcfaaW.PrintLast Go.Proofs.YtbffhblebigcfaaW.PrintMore
set_option linter.unusedVariables false
set_option linter.unusedSimpArgs false
def orderGo (B : Int → Int → Int) : Nat → List Int → List Int → Option (List Int)
 | 0, l, out => if l.length = 0 then some out else none
 | n + 1, l, out => if l.length = 0 then some out else
  if 0 ≤ idxGo (fun y => !hasBefore B l y) l 0 ∧ idxGo (fun y => !hasBefore B l y) l 0 < l.length then
   orderGo B n (l.take (idxGo (fun y => !hasBefore B l y) l 0).toNat ++ l.drop ((idxGo (fun y => !hasBefore B l y) l 0).toNat + 1)) (out ++ [rd l (idxGo (fun y => !hasBefore B l y) l 0)])
  else none
def nums (n : Nat) : List Int := (List.range n).map fun (i : Nat) => (i : Int)
def skew_Order.f (evs : List S27) (gaps : List S86) : Option (List Int × Int) :=
 (tightR evs gaps).bind fun p => if evs.length ≤ 10 then match p.1 with | some B => (orderGo B 10 (nums evs.length) []).map fun l => (l, p.2) | none => some ([], p.2) else none
theorem ri_flat {W : World} {base : Nat} {ok ok' : Nat → Prop} {v : Value} {l : List Int} (h : Kd.R (Kd.int .i64) 3 W base ok v l) (hk : ∀ k, v.ownBlock = some k → ok' k) : Kd.R (Kd.int .i64) 3 W base ok' v l := ⟨hk, h.2⟩
theorem ri_step {W W1 : World} {base : Nat} {ok : Nat → Prop} {v : Value} {l : List Int} (h : Kd.R (Kd.int .i64) 3 W base ok v l) (hm : ∀ k, v.ownBlock = some k → W1.heap[k]? = W.heap[k]?) : Kd.R (Kd.int .i64) 3 W1 base ok v l :=
 ri_flat (Kd.R_move (ri_flat h (ok' := fun k => v.ownBlock = some k) (fun _ hk => hk)) hm) h.1
theorem ri_grown {W W1 : World} {base : Nat} {ok : Nat → Prop} {v : Value} {l : List Int} (h : Kd.R (Kd.int .i64) 3 W base ok v l) {row : Option Nat} (hg : W.grownBy W1 row) (hne : v.ownBlock = none ∨ v.ownBlock ≠ row) : Kd.R (Kd.int .i64) 3 W1 base ok v l :=
 ri_step h (fun k hk => hg.block k ((Kd.R_bound h).1 k hk).2.2.1 (fun e => by
  rcases hne with hn | hn
  ·rw [hn] at hk; cases hk
  ·exact hn (hk.trans e)))
theorem ri_lt {W : World} {base : Nat} {ok : Nat → Prop} {v : Value} {l : List Int} (h : Kd.R (Kd.int .i64) 3 W base ok v l) (k : Nat) (hk : v.ownBlock = some k) : base ≤ k ∧ k < W.heap.size := ⟨((Kd.R_bound h).1 k hk).2.1, ((Kd.R_bound h).1 k hk).2.2.1⟩
theorem blk_set1 {W : World} {g : Nat} {t : TypeId} {u : Value} (h : W.heap[g]? = some (.cells #[u] t (0, 0))) (v : Value) : (W.setCell ⟨g, 0, none⟩ v).heap[g]? = some (.cells #[v] t (0, 0)) := (blk_put h 0 v rfl)
theorem nums_succ (n : Nat) : nums (n + 1) = nums n ++ [(n : Int)] := by unfold nums; rw [List.range_succ, List.map_append, List.map_cons, List.map_nil]
theorem nums_length (n : Nat) : (nums n).length = n := by unfold nums; simp
theorem nums_mem {n : Nat} {x : Int} (h : x ∈ nums n) : 0 ≤ x ∧ x < n := by
 unfold nums at h
 obtain ⟨i, hi, rfl⟩ := List.mem_map.mp h
 have := List.mem_range.mp hi
 omega
theorem del119' (w : World) (base : Nat) (ok : Nat → Prop) (v : Value) (l : List Int) (k : Int) (hk0 : 0 ≤ k) (hk : k < l.length) (h : (Kd.int .i64).R 3 w base ok v l) :
  Calls Try.prog 119 #[v, .int .i64 k, .int .i64 (k + 1)] w fun e w' => ∃ v', e = .returned v' ∧ (Kd.int .i64).R 3 w' base ok v' (l.take k.toNat ++ l.drop (k.toNat + 1)) ∧ v'.ownBlock = v.ownBlock ∧ w.grownBy w' v.ownBlock ∧ w'.heap.size = w.heap.size := by
 have h1 := del119 w base ok v l k.toNat (by omega) h
 rw [Int.toNat_of_nonneg hk0, show ((k.toNat + 1 : Nat) : Int) = k + 1 by omega] at h1
 exact h1
structure OI (wT W : World) (b : Nat) (vl : Value) (l : List Int) : Prop where
 k40 : W.heap[wT.heap.size + 1]? = some (.cells #[vl] 40 (0, 0))
 k104 : W.heap[wT.heap.size]? = some (.cells #[.pointer (some ⟨b, 0, none⟩)] 104 (0, 0))
 own : Kd.R (Kd.int .i64) 3 W (wT.heap.size + 2) (fun _ => True) vl l
 bel : Below wT.heap.size wT W
 sz : wT.heap.size + 2 ≤ W.heap.size
theorem OI.start {wT : World} {b : Nat} {o : Obj} (ho : o = .cells #[.pointer (some ⟨b, 0, none⟩)] 104) : OI wT ((wT.alloc o).alloc (.cells #[.slice none 0 0] 40)) b (.slice none 0 0) [] := by
 subst ho
 have h1 := blk_new (wT.alloc (.cells #[.pointer (some ⟨b, 0, none⟩)] 104)) (.cells #[.slice none 0 0] 40)
 rw [World.size_alloc] at h1
 exact ⟨h1, blk_alloc (blk_new wT _) _, Kd.R_nil _ _ _ _ _, below_alloc (below_alloc (Below.refl _ _) _) _, by rw [World.size_alloc, World.size_alloc]; omega⟩
theorem OI.put {wT W w1 : World} {b : Nat} {vl v1 : Value} {l l1 : List Int} (h : OI wT W b vl l) (hg : W.grownBy w1 vl.ownBlock) (ho : Kd.R (Kd.int .i64) 3 w1 (wT.heap.size + 2) (fun _ => True) v1 l1) : OI wT (w1.setCell ⟨wT.heap.size + 1, 0, none⟩ v1) b v1 l1 := by
 have hz := h.sz
 have hne : ∀ k, k < wT.heap.size + 2 → some k ≠ vl.ownBlock := fun k hk e => by have := (ri_lt h.own k e.symm).1; omega
 have h40 := (hg.block (wT.heap.size + 1) (by omega) (hne _ (by omega))).trans h.k40
 have h104 := (hg.block wT.heap.size (by omega) (hne _ (by omega))).trans h.k104
 refine ⟨blk_set1 h40 _, blk_far h104 (by omega) _, ri_step ho (fun k hk => Below.heap_setCell _ _ _ _ (by have := (ri_lt ho k hk).1; show k ≠ wT.heap.size + 1; omega)), ?_, (by rw [World.size_setCell]; exact Nat.le_trans hz hg.size)⟩
 have hb : Below wT.heap.size wT w1 := below_grown h.bel hg h.bel.size (fun r e => by have := (ri_lt h.own r e).1; omega)
 exact hb.setCell (show wT.heap.size ≤ wT.heap.size + 1 by omega) _
theorem OI.kept40 {wT W w1 : World} {b : Nat} {vl : Value} {l : List Int} (h : OI wT W b vl l) (hg : W.grownBy w1 vl.ownBlock) : w1.heap[wT.heap.size + 1]? = some (.cells #[vl] 40 (0, 0)) :=
 (hg.block (wT.heap.size + 1) (by have := h.sz; omega) (fun e => by have := (ri_lt h.own _ e.symm).1; omega)).trans h.k40
theorem OI.grown {wT W w1 : World} {b : Nat} {vl : Value} {l : List Int} (h : OI wT W b vl l) {row : Option Nat} (hg : W.grownBy w1 row) (hr : ∀ r, row = some r → wT.heap.size + 2 ≤ r) (hn : vl.ownBlock = none ∨ vl.ownBlock ≠ row) : OI wT w1 b vl l :=
 ⟨blk_grown h.k40 hg (fun e => by have := hr _ e.symm; omega), blk_grown h.k104 hg (fun e => by have := hr _ e.symm; omega), ri_grown h.own hg hn, below_grown h.bel hg h.bel.size (fun r e => by have := hr r e; omega), Nat.le_trans h.sz hg.size⟩
theorem OI.below {wT W w1 : World} {b : Nat} {vl : Value} {l : List Int} (h : OI wT W b vl l) (hb : Below W.heap.size W w1) : OI wT w1 b vl l :=
 ⟨blk_below h.k40 hb, blk_below h.k104 hb, Kd.R_below h.own hb, below_step h.bel hb, Nat.le_trans h.sz hb.size⟩
set_option maxHeartbeats 4000000 in
set_option maxRecDepth 100000 in
theorem skew_Order.calls (A0 : Option Addr) (c0 : Nat) (evs : List S27) (A1 : Option Addr) (c1 : Nat) (gaps : List S86) (r1 : List Int) (r2 : Int) (w : World) (hC0 : Kd.C k27 w A0 evs.length evs) (hc0 : evs.length ≤ c0) (hC1 : Kd.C k86 w A1 gaps.length gaps) (hc1 : gaps.length ≤ c1) (h : skew_Order.f evs gaps = some (r1, r2)) :
  Calls Try.prog 76 #[.agg #[.slice A0 evs.length c0, .slice A1 gaps.length c1]] w fun e w' => ∃ v0_ : Value, e = .returned (.tuple #[v0_, .int .i64 r2]) ∧ Kd.V (Kd.int .i64) 3 w' w.heap.size (fun k_ => (w.heap.size ≤ k_)) v0_ r1 ∧ Below w.heap.size w w' := by
 unfold skew_Order.f at h
 obtain ⟨⟨R, r⟩, hR, h⟩ := Option.bind_eq_some_iff.mp h
 by_cases hle : evs.length ≤ 10
 ·rw [if_pos hle] at h
  have HLe := Aa hle
  have hb0 := below_alloc (Below.refl w.heap.size w) (.cells #[.slice A0 evs.length c0, .slice A1 gaps.length c1] 39)
  have hk0 := blk_new w (.cells #[.slice A0 evs.length c0, .slice A1 gaps.length c1] 39)
  have HT := Aa (tight_calls A0 A1 c0 c1 evs gaps R r _ (Kd.C_below hC0 hb0) hc0 (Kd.C_below hC1 hb0) hc1 hR)
  have x0 := cell_at hk0 0 (.slice A0 evs.length c0) rfl
  have x1 := cell_at hk0 1 (.slice A1 gaps.length c1) rfl
  have HB0 := Aa hb0
  clear hb0 hk0 hR hle
  cases R with
  | none =>
   have HTn := Aa HT.out
   clear HT
   simp only [Option.some.injEq, Prod.mk.injEq] at h
   obtain ⟨rfl, rfl⟩ := h
   go_enter Try.func76, Try.ntmps76
   go_wp2_with (go_at_call 108; refine HTn.out.mono ?_; rintro e w4 ⟨p, rfl, _, hn, _, hb⟩; have hrn := hn rfl; have HB4 := Aa (below_step HB0.out hb); clear hb)
   go_ret2
   exact ⟨_, rfl, Kd.V_nil _ _ _ _ _, below_alloc HB4.out _⟩
  | some B =>
   have HTn := Aa HT.out
   clear HT
   have HH := Aa h
   clear h
   go_enter Try.func76, Try.ntmps76
   go_wp2_with fail
   refine HTn.out.mono ?_
   rintro e wT ⟨p, rfl, hs, _, hz, hb⟩
   obtain ⟨b, rfl, hbl, hbd⟩ := hs B rfl
   obtain rfl := hz B rfl
   have HBd := Aa hbd
   have HB4 := Aa (below_step HB0.out hb)
   have HI0 := Aa (OI.start (wT := wT) (b := b) rfl)
   have HbT := Aa hbd.lt
   have y0 := ((hbd.alloc (.cells #[.pointer (some ⟨b, 0, none⟩)] 104)).alloc (.cells #[.slice none 0 0] 40)).c0
   clear hs hz hb HTn x0 x1 hbl hbd
   go_wp2_with fail
   clear y0
   go_loopw [24] (fun v24 W => ∃ (i : Nat) (vl : Value), i ≤ evs.length ∧ v24 = .int .i64 (i : Int) ∧ Aside0 (OI wT W b vl (nums i))) (fun v _ => evs.length - (intOf v).toNat)
   case atStart => exact ⟨0, _, by omega, rfl, HI0⟩
   case round =>
    clear HI0
    obtain ⟨i, vl, hi, rfl, HI⟩ := hrel
    have hI : OI wT wr b vl (nums i) := HI.out
    have x40 := cell_at hI.k40 0 vl rfl
    have z40 := blk_frozen hI.k40 0
    by_cases hlt : (i : Int) < evs.length
    ·have hi1000 : (i : Int) < 1000 := by have := HLe.out; omega
     have HIx := Aa hI
     clear hI HI
     go_wp2_with (first
      | (at_builtin; refine Kd.R_append (Kd.int .i64) (w0 := wr) (W := wr) (wT.heap.size + 2) rfl (.tmp 27) (.tmp 29) 40 3 (.int .i64 0) 8 rfl Try.underlying40 info3 rfl (by decide) (by decide) vl (nums i) (i : Int) [.int .i64 (i : Int)] (fun _ => True) (fun _ => False) rfl rfl rfl (fun _ hk => hk.elim) (fun _ _ => trivial) HIx.out.own (Below.refl _ _) HIx.out.sz (by rw [nums_length]; have := HLe.out; omega) ?_; intro v1 w1 ho hb hg hat; obtain ⟨A8, c8, hv8⟩ := Kd.R_slice ho; obtain ⟨n8, hn8⟩ : ∃ n8, (nums i ++ [(i : Int)]).length = n8 := ⟨_, rfl⟩; rw [hn8] at hv8; clear hn8; subst hv8; have HI2 := Aa (HIx.out.put hg ho); have x41 := cell_at (HIx.out.kept40 hg) 0 vl rfl; have z41 := blk_frozen (HIx.out.kept40 hg) 0; clear ho hb hg hat))
     go_roundw
     case rel => exact ⟨i + 1, _, by omega, by simp, ⟨by rw [nums_succ]; exact HI2.out⟩⟩
     case measure => simp [intOf]; omega
    ·obtain rfl : i = evs.length := by omega
     have HI1 := Aa hI
     clear hI HI x40 z40
     have HN := Aa (show (nums evs.length).length ≤ 10 by rw [nums_length]; exact HLe.out)
     have HRg := Aa (show ∀ x ∈ nums evs.length, 0 ≤ x ∧ x < 11 from fun x hx => by have := nums_mem hx; have := HLe.out; omega)
     obtain ⟨L0, hL0⟩ : ∃ L0, nums evs.length = L0 := ⟨_, rfl⟩
     rw [hL0] at HH HN HRg HI1
     clear hL0
     go_wp2_with fail
     go_loopg [7] 10 (fun k v7 W => ∃ (vl : Value) (l out : List Int), Aside0 (l.length ≤ k) ∧ Aside0 (∀ x ∈ l, 0 ≤ x ∧ x < 11) ∧ Aside0 (out.length + l.length ≤ 10) ∧ Aside0 (Option.map (fun l => (l, (0 : Int))) (orderGo B k l out) = some (r1, r2)) ∧ Aside0 (OI wT W b vl l) ∧ Aside0 (Kd.R (Kd.int .i64) 3 W (wT.heap.size + 2) (fun k => some k ≠ vl.ownBlock) v7 out))
     case atStart => exact ⟨vl, L0, [], HN, HRg, ⟨by have := HN.out; simpa using this⟩, HH, HI1, ⟨Kd.R_nil _ _ _ _ _⟩⟩
     case round =>
      clear HI1 HN HRg HH
      obtain ⟨vl, l, out, HN, HRg, HLn, HH, HI, HO⟩ := hrel
      obtain ⟨A6, c6, hv6, hc6, hC6⟩ := Kd.R_reads HI.out.own
      subst hv6
      have hI : OI wT wr b (.slice A6 l.length c6) l := HI.out
      have x40 := cell_at hI.k40 0 (.slice A6 l.length c6) rfl
      have HIx := Aa hI
      have HC6 := Aa hC6
      clear hI hC6
      by_cases hl0 : (0 : Int) < l.length
      ·cases gk with
       | zero => exact absurd HN.out (by omega)
       | succ gk =>
        have hh := HH.out
        simp only [orderGo] at hh
        rw [if_neg (by omega)] at hh
        obtain ⟨k, hk⟩ : ∃ k, idxGo (fun y => !hasBefore B l y) l 0 = k := ⟨_, rfl⟩
        rw [hk] at hh
        by_cases hkr : 0 ≤ k ∧ k < l.length
        ·rw [if_pos hkr] at hh
         obtain ⟨hk0, hk1⟩ := hkr
         have HK := Aa hk
         have HH2 := Aa hh
         have HC := Aa (idx114_116 #[.pointer (some ⟨wT.heap.size + 1, 0, none⟩), .pointer (some ⟨wT.heap.size, 0, none⟩)] A6 c6 l (fun y => !hasBefore B l y) wr HC6.out (by have := HLn.out; omega) (fun _ => True) trivial (fun y W hy _ hB => (cl116_calls A6 c6 l b wT.heap.size (wT.heap.size + 1) _ _ B y W (Kd.C_below HC6.out hB) (by have := HLn.out; omega) HRg.out (HBd.out.below (below_step HIx.out.bel hB)) (blk_below HIx.out.k104 hB) (blk_below HIx.out.k40 hB) (HRg.out y hy).1 (HRg.out y hy).2).mono fun e w' ⟨h1, h2⟩ => ⟨h1, trivial, h2⟩))
         clear hk hh HH
         go_wp2_with fail
         refine HC.out.mono ?_
         rintro e w5 ⟨rfl, _, hb⟩
         rw [HK.out]
         have hI5 := HIx.out.below hb
         have HI5 := Aa hI5
         have x45 := cell_at hI5.k40 0 (.slice A6 l.length c6) rfl
         obtain ⟨ad, e1, hy0⟩ := Kd.at_int (Kd.C_below HC6.out hb) k hk0 hk1
         subst e1
         have HO5 := Aa (Kd.R_below HO.out hb)
         obtain ⟨x, hx⟩ : ∃ x, rd l k = x := ⟨_, rfl⟩
         rw [hx] at hy0 HH2
         have hk9 : k < 9223372036854775807 := by have := HLn.out; omega
         have hown : (Value.slice (some ad) l.length c6).ownBlock = some ad.block := rfl
         have HOw := Aa hown
         clear HC hb x40 HIx HC6 HO hI5 hx hown
         go_wp2_with (first
          | (at_builtin; go_must (refine Kd.R_append (Kd.int .i64) (w0 := w5) (W := w5) (wT.heap.size + 2) rfl (.tmp 38) (.tmp 43) 40 3 (.int .i64 0) 8 rfl Try.underlying40 info3 rfl (by decide) (by decide) u7 out x [.int .i64 x] (fun k => some k ≠ (Value.slice (some ad) l.length c6).ownBlock) (fun _ => False) rfl rfl rfl (fun _ hk => hk.elim) (fun k hk e => by have := (ri_lt HI5.out.own k e.symm).2; omega) HO5.out (Below.refl _ _) HI5.out.sz (by have := HLn.out; omega) ?_; intro v1 w1 ho hb hg hat; have HO6 := Aa ho; have HI6 := Aa (HI5.out.grown hg (fun r e => (ri_lt HO5.out r e).1) (.inr (fun e => by have e2 := e; rw [HOw.out] at e2; exact HO5.out.1 _ e2.symm HOw.out.symm))); have x46 := cell_at HI6.out.k40 0 (.slice (some ad) l.length c6) rfl; clear ho hb hg hat)))
         refine (del119' w1 _ _ _ l k hk0 hk1 HI6.out.own).mono ?_
         rintro e w7 ⟨v7, rfl, ho, hob, hg, hsz⟩
         obtain ⟨l2, hl2⟩ : ∃ l2, l.take k.toNat ++ l.drop (k.toNat + 1) = l2 := ⟨_, rfl⟩
         have hlen : l2.length + 1 = l.length := by rw [← hl2]; simp; omega
         have hmem : ∀ y ∈ l2, y ∈ l := by
          intro y hy
          rw [← hl2] at hy
          rcases List.mem_append.mp hy with hy | hy
          ·exact List.mem_of_mem_take hy
          ·exact List.mem_of_mem_drop hy
         rw [hl2] at ho HH2
         obtain ⟨A9, c9, hv9⟩ := Kd.R_slice ho
         have HI7 := Aa (HI6.out.put hg ho)
         have x47 := cell_at (HI6.out.kept40 hg) 0 (.slice (some ad) l.length c6) rfl
         have z47 := blk_frozen (HI6.out.kept40 hg) 0
         have hO7 := ri_grown HO6.out hg (.inr (fun e => by have e2 := e; rw [HOw.out] at e2; exact HO6.out.1 _ e2 HOw.out.symm))
         have hO8 := ri_flat hO7 (ok' := fun k => some k ≠ v7.ownBlock) (fun k hk e => HO6.out.1 k hk (e.trans hob))
         have HO8 := Aa (ri_step (W1 := w7.setCell ⟨wT.heap.size + 1, 0, none⟩ v7) hO8 (fun k hk => Below.heap_setCell _ _ _ _ (by have := (ri_lt hO8 k hk).1; show k ≠ wT.heap.size + 1; omega)))
         have HLn2 := Aa (show (out ++ [x]).length + l2.length ≤ 10 by have := HLn.out; simp; omega)
         have HN2 := Aa (show l2.length ≤ gk by have := HN.out; omega)
         have HRg2 := Aa (show ∀ y ∈ l2, 0 ≤ y ∧ y < 11 from fun y hy => HRg.out y (hmem y hy))
         obtain ⟨n9, hn9⟩ : ∃ n9, l2.length = n9 := ⟨_, rfl⟩
         rw [hn9] at hv9
         clear hn9
         subst hv9
         clear hO7 hO8 ho hob hg hsz hl2 hlen hmem x46 x45 hy0
         go_wp2
         go_roundg gk
         case measure => omega
         case rel => exact ⟨_, l2, _, HN2, HRg2, HLn2, HH2, HI7, HO8⟩
        ·rw [if_neg hkr] at hh; cases hh
      ·have hl0' : l.length = 0 := by omega
       have hh := HH.out
       have ho : orderGo B gk l out = some out := by cases gk <;> (simp only [orderGo]; rw [if_pos hl0'])
       rw [ho] at hh
       simp only [Option.map_some, Option.some.injEq, Prod.mk.injEq] at hh
       obtain ⟨rfl, rfl⟩ := hh
       obtain ⟨A7, c7, hv7, hc7, hC7⟩ := Kd.R_reads HO.out
       subst hv7
       have HV := Aa (V_clip' (w := wT) HO.out (by omega))
       have HC7 := Aa hc7
       clear ho hC7 hc7 HH HO
       go_wp2_with fail
       refine (clip81 A7 _ c7 HC7.out _).mono ?_
       rintro e w5 ⟨rfl, rfl⟩
       go_wp2
       go_ret2
       exact ⟨_, rfl, Kd.V_mk (Nat.le_refl _) (Kd.F_mono (Kd.V_F HV.out) (fun k hk => Nat.le_trans HB4.out.size hk)), below_step HB4.out HIx.out.bel⟩
 ·rw [if_neg hle] at h; cases h
end Go.Proofs.Ytbffhblebigcfaa.Sk

/- Words and walks of this claim, merged. -/
import Derived.Deep.LoopGhost
import Derived.Deep.DeepMust
import Derived.BigQuiet
import Derived.Deep.QuietTactic
import Derived.Deep.RegionHeld3
import Derived.Maps.OwnIn
import Derived.Test.YtobcecgcegoooaaGreatCSuV3
import Derived.Test.YtobcecgcegoooaaGreatCSuS1
import Derived.Test.YtobcecgcegoooaaGreatCSuS0
import Derived.Test.YtobcecgcegoooaaGreatCSuV1
import Derived.Test.YtobcecgcegoooaaGreatCSuV2
namespace Go.Proofs.YtobcecgcegoooaaGreat.Sk
open Go.RowKit Go.Proofs.YtobcecgcegoooaaGreatW.PrintWords Go.Proofs.YtobcecgcegoooaaGreatW.PrintLast Go.Proofs.YtobcecgcegoooaaGreatW.PrintMore
set_option linter.unusedVariables false
set_option linter.unusedSimpArgs false
def orderGo (B : Int → Int → Int) : Nat → List Int → List Int → Option (List Int)
 | 0, l, out => if l.length = 0 then some out else none
 | n + 1, l, out => if l.length = 0 then some out else
  if 0 ≤ idxGo (fun y => !hasBefore B l y) l 0 ∧ idxGo (fun y => !hasBefore B l y) l 0 < l.length then
   orderGo B n (l.take (idxGo (fun y => !hasBefore B l y) l 0).toNat ++ l.drop ((idxGo (fun y => !hasBefore B l y) l 0).toNat + 1)) (out ++ [rd l (idxGo (fun y => !hasBefore B l y) l 0)])
  else none
def nums (n : Nat) : List Int := (List.range n).map fun (i : Nat) => (i : Int)
def skew_OrderL.f (evs : List S65) (gaps : List S82) : Option (List Int × Int) :=
 (tightR evs gaps).bind fun p => if evs.length ≤ 10 then match p.1 with | some B => (orderGo B 10 (nums evs.length) []).map fun l => (l, p.2) | none => some ([], p.2) else none
theorem ri_flat {W : World} {base : Nat} {ok ok' : Nat → Prop} {v : Value} {l : List Int} (h : Kd.R (Kd.int .i64) 3 W base ok v l) (hk : ∀ k, v.ownBlock = some k → ok' k) : Kd.R (Kd.int .i64) 3 W base ok' v l := ⟨hk, h.2⟩
theorem ri_step {W W1 : World} {base : Nat} {ok : Nat → Prop} {v : Value} {l : List Int} (h : Kd.R (Kd.int .i64) 3 W base ok v l) (hm : ∀ k, v.ownBlock = some k → W1.heap[k]? = W.heap[k]?) : Kd.R (Kd.int .i64) 3 W1 base ok v l :=
 ri_flat (Kd.R_move (ri_flat h (ok' := fun k => v.ownBlock = some k) (fun _ hk => hk)) hm) h.1
theorem ri_grown {W W1 : World} {base : Nat} {ok : Nat → Prop} {v : Value} {l : List Int} (h : Kd.R (Kd.int .i64) 3 W base ok v l) {row : Option Nat} (hg : W.grownBy W1 row) (hne : v.ownBlock = none ∨ v.ownBlock ≠ row) : Kd.R (Kd.int .i64) 3 W1 base ok v l :=
 ri_step h (fun k hk => hg.block k ((Kd.R_bound h).1 k hk).2.2.1 (fun e => by
  rcases hne with hn | hn
  ·rw [hn] at hk; cases hk
  ·exact hn (hk.trans e)))
theorem ri_lt {W : World} {base : Nat} {ok : Nat → Prop} {v : Value} {l : List Int} (h : Kd.R (Kd.int .i64) 3 W base ok v l) (k : Nat) (hk : v.ownBlock = some k) : base ≤ k ∧ k < W.heap.size := ⟨((Kd.R_bound h).1 k hk).2.1, ((Kd.R_bound h).1 k hk).2.2.1⟩
theorem blk_set1 {W : World} {g : Nat} {t : TypeId} {u : Value} (h : W.heap[g]? = some (.cells #[u] t (0, 0))) (v : Value) : (W.setCell ⟨g, 0, none⟩ v).heap[g]? = some (.cells #[v] t (0, 0)) := (blk_put h 0 v rfl)
theorem nums_succ (n : Nat) : nums (n + 1) = nums n ++ [(n : Int)] := by unfold nums; rw [List.range_succ, List.map_append, List.map_cons, List.map_nil]
theorem nums_length (n : Nat) : (nums n).length = n := by unfold nums; simp
theorem nums_mem {n : Nat} {x : Int} (h : x ∈ nums n) : 0 ≤ x ∧ x < n := by
 unfold nums at h; obtain ⟨i, hi, rfl⟩ := List.mem_map.mp h; have := List.mem_range.mp hi; omega
theorem del119' (w : World) (base : Nat) (ok : Nat → Prop) (v : Value) (l : List Int) (k : Int) (hk0 : 0 ≤ k) (hk : k < l.length) (h : (Kd.int .i64).R 3 w base ok v l) :
  Calls Tryz.prog 23 #[v, .int .i64 k, .int .i64 (k + 1)] w fun e w' => ∃ v', e = .returned v' ∧ (Kd.int .i64).R 3 w' base ok v' (l.take k.toNat ++ l.drop (k.toNat + 1)) ∧ v'.ownBlock = v.ownBlock ∧ w.grownBy w' v.ownBlock ∧ w'.heap.size = w.heap.size := by
 have h1 := del119 w base ok v l k.toNat (by omega) h; rw [Int.toNat_of_nonneg hk0, show ((k.toNat + 1 : Nat) : Int) = k + 1 by omega] at h1; exact h1
structure OI (wT W : World) (b : Nat) (vl : Value) (l : List Int) : Prop where
 k26 : W.heap[wT.heap.size + 1]? = some (.cells #[vl] 26 (0, 0))
 k38 : W.heap[wT.heap.size]? = some (.cells #[.pointer (some ⟨b, 0, none⟩)] 38 (0, 0))
 own : Kd.R (Kd.int .i64) 3 W (wT.heap.size + 2) (fun _ => True) vl l
 bel : Below wT.heap.size wT W
 sz : wT.heap.size + 2 ≤ W.heap.size
theorem OI.start {wT : World} {b : Nat} {o : Obj} (ho : o = .cells #[.pointer (some ⟨b, 0, none⟩)] 38) : OI wT ((wT.alloc o).alloc (.cells #[.slice none 0 0] 26)) b (.slice none 0 0) [] := by
 subst ho; have h1 := blk_new (wT.alloc (.cells #[.pointer (some ⟨b, 0, none⟩)] 38)) (.cells #[.slice none 0 0] 26); rw [World.size_alloc] at h1; exact ⟨h1, Ka (blk_new wT _) _, Kd.R_nil _ _ _ _ _, Ba (Ba (Below.refl _ _) _) _, by rw [World.size_alloc, World.size_alloc]; omega⟩
theorem OI.put {wT W w1 : World} {b : Nat} {vl v1 : Value} {l l1 : List Int} (h : OI wT W b vl l) (hg : W.grownBy w1 vl.ownBlock) (ho : Kd.R (Kd.int .i64) 3 w1 (wT.heap.size + 2) (fun _ => True) v1 l1) : OI wT (w1.setCell ⟨wT.heap.size + 1, 0, none⟩ v1) b v1 l1 := by
 have hz := h.sz
 have hne : ∀ k, k < wT.heap.size + 2 → some k ≠ vl.ownBlock := fun k hk e => by have := (ri_lt h.own k e.symm).1; omega
 have h40 := (hg.block (wT.heap.size + 1) (by omega) (hne _ (by omega))).trans h.k26; have h104 := (hg.block wT.heap.size (by omega) (hne _ (by omega))).trans h.k38; refine ⟨blk_set1 h40 _, blk_far h104 (by omega) _, ri_step ho (fun k hk => Below.heap_setCell _ _ _ _ (by have := (ri_lt ho k hk).1; show k ≠ wT.heap.size + 1; omega)), ?_, (by rw [World.size_setCell]; exact Nat.le_trans hz hg.size)⟩; have hb : Below wT.heap.size wT w1 := below_grown h.bel hg h.bel.size (fun r e => by have := (ri_lt h.own r e).1; omega); exact hb.setCell (show wT.heap.size ≤ wT.heap.size + 1 by omega) _
theorem OI.kept40 {wT W w1 : World} {b : Nat} {vl : Value} {l : List Int} (h : OI wT W b vl l) (hg : W.grownBy w1 vl.ownBlock) : w1.heap[wT.heap.size + 1]? = some (.cells #[vl] 26 (0, 0)) :=
 (hg.block (wT.heap.size + 1) (by have := h.sz; omega) (fun e => by have := (ri_lt h.own _ e.symm).1; omega)).trans h.k26
theorem OI.grown {wT W w1 : World} {b : Nat} {vl : Value} {l : List Int} (h : OI wT W b vl l) {row : Option Nat} (hg : W.grownBy w1 row) (hr : ∀ r, row = some r → wT.heap.size + 2 ≤ r) (hn : vl.ownBlock = none ∨ vl.ownBlock ≠ row) : OI wT w1 b vl l :=
 ⟨blk_grown h.k26 hg (fun e => by have := hr _ e.symm; omega), blk_grown h.k38 hg (fun e => by have := hr _ e.symm; omega), ri_grown h.own hg hn, below_grown h.bel hg h.bel.size (fun r e => by have := hr r e; omega), Nat.le_trans h.sz hg.size⟩
theorem OI.below {wT W w1 : World} {b : Nat} {vl : Value} {l : List Int} (h : OI wT W b vl l) (hb : Below W.heap.size W w1) : OI wT w1 b vl l :=
 ⟨blk_below h.k26 hb, blk_below h.k38 hb, Kd.R_below h.own hb, Bp h.bel hb, Nat.le_trans h.sz hb.size⟩
set_option maxHeartbeats 4000000 in
set_option maxRecDepth 100000 in
theorem skew_OrderL.calls (A0 : Option Addr) (c0 : Nat) (evs : List S65) (A1 : Option Addr) (c1 : Nat) (gaps : List S82) (r1 : List Int) (r2 : Int) (w : World) (hC0 : Kd.C k65 w A0 evs.length evs) (hc0 : evs.length ≤ c0) (hC1 : Kd.C k82 w A1 gaps.length gaps) (hc1 : gaps.length ≤ c1) (h : skew_OrderL.f evs gaps = some (r1, r2)) :
  Calls Tryz.prog 6 #[.agg #[.slice A0 evs.length c0, .slice A1 gaps.length c1]] w fun e w' => ∃ v0_ : Value, e = .returned (.tuple #[v0_, .int .i64 r2]) ∧ Kd.V (Kd.int .i64) 3 w' w.heap.size (fun k_ => (w.heap.size ≤ k_)) v0_ r1 ∧ Below w.heap.size w w' := by
 unfold skew_OrderL.f at h; obtain ⟨⟨R, r⟩, hR, h⟩ := Option.bind_eq_some_iff.mp h
 by_cases hle : evs.length ≤ 10
 ·rw [if_pos hle] at h; have HLe := Aa hle; have hb0 := Ba (Below.refl w.heap.size w) (.cells #[.slice A0 evs.length c0, .slice A1 gaps.length c1] 25); have hk0 := blk_new w (.cells #[.slice A0 evs.length c0, .slice A1 gaps.length c1] 25); have HT := Aa (tight_calls A0 A1 c0 c1 evs gaps R r _ (Kd.C_below hC0 hb0) hc0 (Kd.C_below hC1 hb0) hc1 hR); have x0 := cell_at hk0 0 (.slice A0 evs.length c0) rfl; have x1 := cell_at hk0 1 (.slice A1 gaps.length c1) rfl; have HB0 := Aa hb0; clear hb0 hk0 hR hle
  cases R with
  | none =>
   have HTn := Aa HT.out; clear HT; simp only [Option.some.injEq, Prod.mk.injEq] at h; obtain ⟨rfl, rfl⟩ := h
   go_enter Tryz.func6, Tryz.ntmps6
   go_wp2_with (go_at_call 14; refine HTn.out.mono ?_; rintro e w4 ⟨p, rfl, _, hn, _, hb⟩; have hrn := hn rfl; have HB4 := Aa (Bp HB0.out hb); clear hb)
   go_ret2
   exact ⟨_, rfl, Kd.V_nil _ _ _ _ _, Ba HB4.out _⟩
  | some B =>
   have HTn := Aa HT.out; clear HT; have HH := Aa h; clear h
   go_enter Tryz.func6, Tryz.ntmps6
   go_wp2_with fail
   refine HTn.out.mono ?_; rintro e wT ⟨p, rfl, hs, _, hz, hb⟩; obtain ⟨b, rfl, hbl, hbd⟩ := hs B rfl; obtain rfl := hz B rfl; have HBd := Aa hbd; have HB4 := Aa (Bp HB0.out hb); have HI0 := Aa (OI.start (wT := wT) (b := b) rfl); have HbT := Aa hbd.lt; have y0 := ((hbd.alloc (.cells #[.pointer (some ⟨b, 0, none⟩)] 38)).alloc (.cells #[.slice none 0 0] 26)).c0; clear hs hz hb HTn x0 x1 hbl hbd
   go_wp2_with fail
   clear y0
   go_loopw [24] (fun v24 W => ∃ (i : Nat) (vl : Value), i ≤ evs.length ∧ v24 = .int .i64 (i : Int) ∧ Aside0 (OI wT W b vl (nums i))) (fun v _ => evs.length - (intOf v).toNat)
   case atStart => exact ⟨0, _, by omega, rfl, HI0⟩
   case round =>
    clear HI0; obtain ⟨i, vl, hi, rfl, HI⟩ := hrel; have hI : OI wT wr b vl (nums i) := HI.out; have x40 := cell_at hI.k26 0 vl rfl; have z40 := Bf hI.k26 0
    by_cases hlt : (i : Int) < evs.length
    ·have hi1000 : (i : Int) < 1000 := by have := HLe.out; omega
     have HIx := Aa hI; clear hI HI
     go_wp2_with (first
      | (at_builtin; refine Kd.R_append (Kd.int .i64) (w0 := wr) (W := wr) (wT.heap.size + 2) rfl (.tmp 27) (.tmp 29) 26 3 (.int .i64 0) 8 rfl Tryz.underlying26 info3 rfl (by decide) (by decide) vl (nums i) (i : Int) [.int .i64 (i : Int)] (fun _ => True) (fun _ => False) rfl rfl rfl (fun _ hk => hk.elim) (fun _ _ => trivial) HIx.out.own (Below.refl _ _) HIx.out.sz (by rw [nums_length]; have := HLe.out; omega) ?_; intro v1 w1 ho hb hg hat; obtain ⟨A8, c8, hv8⟩ := Kd.R_slice ho; obtain ⟨n8, hn8⟩ : ∃ n8, (nums i ++ [(i : Int)]).length = n8 := ⟨_, rfl⟩; rw [hn8] at hv8; clear hn8; subst hv8; have HI2 := Aa (HIx.out.put hg ho); have x41 := cell_at (HIx.out.kept40 hg) 0 vl rfl; have z41 := Bf (HIx.out.kept40 hg) 0; clear ho hb hg hat))
     go_roundw
     case rel => exact ⟨i + 1, _, by omega, by simp, ⟨by rw [nums_succ]; exact HI2.out⟩⟩
     case measure => simp [intOf]; omega
    ·obtain rfl : i = evs.length := by omega
     have HI1 := Aa hI; clear hI HI x40 z40; have HN := Aa (show (nums evs.length).length ≤ 10 by rw [nums_length]; exact HLe.out); have HRg := Aa (show ∀ x ∈ nums evs.length, 0 ≤ x ∧ x < 11 from fun x hx => by have := nums_mem hx; have := HLe.out; omega)
     obtain ⟨L0, hL0⟩ : ∃ L0, nums evs.length = L0 := ⟨_, rfl⟩
     rw [hL0] at HH HN HRg HI1; clear hL0
     go_wp2_with fail
     go_loopg [7] 10 (fun k v7 W => ∃ (vl : Value) (l out : List Int), Aside0 (l.length ≤ k) ∧ Aside0 (∀ x ∈ l, 0 ≤ x ∧ x < 11) ∧ Aside0 (out.length + l.length ≤ 10) ∧ Aside0 (Option.map (fun l => (l, (0 : Int))) (orderGo B k l out) = some (r1, r2)) ∧ Aside0 (OI wT W b vl l) ∧ Aside0 (Kd.R (Kd.int .i64) 3 W (wT.heap.size + 2) (fun k => some k ≠ vl.ownBlock) v7 out))
     case atStart => exact ⟨vl, L0, [], HN, HRg, ⟨by have := HN.out; simpa using this⟩, HH, HI1, ⟨Kd.R_nil _ _ _ _ _⟩⟩
     case round =>
      clear HI1 HN HRg HH; obtain ⟨vl, l, out, HN, HRg, HLn, HH, HI, HO⟩ := hrel; obtain ⟨A6, c6, hv6, hc6, hC6⟩ := Kd.R_reads HI.out.own; subst hv6; have hI : OI wT wr b (.slice A6 l.length c6) l := HI.out; have x40 := cell_at hI.k26 0 (.slice A6 l.length c6) rfl; have HIx := Aa hI; have HC6 := Aa hC6; clear hI hC6
      by_cases hl0 : (0 : Int) < l.length
      ·cases gk with
       | zero => exact absurd HN.out (by omega)
       | succ gk =>
        have hh := HH.out; simp only [orderGo] at hh; rw [if_neg (by omega)] at hh
        obtain ⟨k, hk⟩ : ∃ k, idxGo (fun y => !hasBefore B l y) l 0 = k := ⟨_, rfl⟩
        rw [hk] at hh
        by_cases hkr : 0 ≤ k ∧ k < l.length
        ·rw [if_pos hkr] at hh; obtain ⟨hk0, hk1⟩ := hkr; have HK := Aa hk; have HH2 := Aa hh; have HC := Aa (idx114_116 #[.pointer (some ⟨wT.heap.size + 1, 0, none⟩), .pointer (some ⟨wT.heap.size, 0, none⟩)] A6 c6 l (fun y => !hasBefore B l y) wr HC6.out (by have := HLn.out; omega) (fun _ => True) trivial (fun y W hy _ hB => (cl116_calls A6 c6 l b wT.heap.size (wT.heap.size + 1) _ _ B y W (Kd.C_below HC6.out hB) (by have := HLn.out; omega) HRg.out (HBd.out.below (Bp HIx.out.bel hB)) (blk_below HIx.out.k38 hB) (blk_below HIx.out.k26 hB) (HRg.out y hy).1 (HRg.out y hy).2).mono fun e w' ⟨h1, h2⟩ => ⟨h1, trivial, h2⟩)); clear hk hh HH
         go_wp2_with fail
         refine HC.out.mono ?_; rintro e w5 ⟨rfl, _, hb⟩; rw [HK.out]; have hI5 := HIx.out.below hb; have HI5 := Aa hI5; have x45 := cell_at hI5.k26 0 (.slice A6 l.length c6) rfl; obtain ⟨ad, e1, hy0⟩ := Kd.at_int (Kd.C_below HC6.out hb) k hk0 hk1; subst e1; have HO5 := Aa (Kd.R_below HO.out hb)
         obtain ⟨x, hx⟩ : ∃ x, rd l k = x := ⟨_, rfl⟩
         rw [hx] at hy0 HH2
         have hk9 : k < 9223372036854775807 := by have := HLn.out; omega
         have hown : (Value.slice (some ad) l.length c6).ownBlock = some ad.block := rfl; have HOw := Aa hown; clear HC hb x40 HIx HC6 HO hI5 hx hown
         go_wp2_with (first
          | (at_builtin; go_must (refine Kd.R_append (Kd.int .i64) (w0 := w5) (W := w5) (wT.heap.size + 2) rfl (.tmp 38) (.tmp 43) 26 3 (.int .i64 0) 8 rfl Tryz.underlying26 info3 rfl (by decide) (by decide) u7 out x [.int .i64 x] (fun k => some k ≠ (Value.slice (some ad) l.length c6).ownBlock) (fun _ => False) rfl rfl rfl (fun _ hk => hk.elim) (fun k hk e => by have := (ri_lt HI5.out.own k e.symm).2; omega) HO5.out (Below.refl _ _) HI5.out.sz (by have := HLn.out; omega) ?_; intro v1 w1 ho hb hg hat; have HO6 := Aa ho; have HI6 := Aa (HI5.out.grown hg (fun r e => (ri_lt HO5.out r e).1) (.inr (fun e => by have e2 := e; rw [HOw.out] at e2; exact HO5.out.1 _ e2.symm HOw.out.symm))); have x46 := cell_at HI6.out.k26 0 (.slice (some ad) l.length c6) rfl; clear ho hb hg hat)))
         refine (del119' w1 _ _ _ l k hk0 hk1 HI6.out.own).mono ?_; rintro e w7 ⟨v7, rfl, ho, hob, hg, hsz⟩
         obtain ⟨l2, hl2⟩ : ∃ l2, l.take k.toNat ++ l.drop (k.toNat + 1) = l2 := ⟨_, rfl⟩
         have hlen : l2.length + 1 = l.length := by rw [← hl2]; simp; omega
         have hmem : ∀ y ∈ l2, y ∈ l := by
          intro y hy; rw [← hl2] at hy
          rcases List.mem_append.mp hy with hy | hy
          ·exact List.mem_of_mem_take hy
          ·exact List.mem_of_mem_drop hy
         rw [hl2] at ho HH2; obtain ⟨A9, c9, hv9⟩ := Kd.R_slice ho; have HI7 := Aa (HI6.out.put hg ho); have x47 := cell_at (HI6.out.kept40 hg) 0 (.slice (some ad) l.length c6) rfl; have z47 := Bf (HI6.out.kept40 hg) 0; have hO7 := ri_grown HO6.out hg (.inr (fun e => by have e2 := e; rw [HOw.out] at e2; exact HO6.out.1 _ e2 HOw.out.symm)); have hO8 := ri_flat hO7 (ok' := fun k => some k ≠ v7.ownBlock) (fun k hk e => HO6.out.1 k hk (e.trans hob)); have HO8 := Aa (ri_step (W1 := w7.setCell ⟨wT.heap.size + 1, 0, none⟩ v7) hO8 (fun k hk => Below.heap_setCell _ _ _ _ (by have := (ri_lt hO8 k hk).1; show k ≠ wT.heap.size + 1; omega))); have HLn2 := Aa (show (out ++ [x]).length + l2.length ≤ 10 by have := HLn.out; simp; omega); have HN2 := Aa (show l2.length ≤ gk by have := HN.out; omega); have HRg2 := Aa (show ∀ y ∈ l2, 0 ≤ y ∧ y < 11 from fun y hy => HRg.out y (hmem y hy))
         obtain ⟨n9, hn9⟩ : ∃ n9, l2.length = n9 := ⟨_, rfl⟩
         rw [hn9] at hv9; clear hn9; subst hv9; clear hO7 hO8 ho hob hg hsz hl2 hlen hmem x46 x45 hy0; go_wp2
         go_roundg gk
         case measure => omega
         case rel => exact ⟨_, l2, _, HN2, HRg2, HLn2, HH2, HI7, HO8⟩
        ·rw [if_neg hkr] at hh; cases hh
      ·have hl0' : l.length = 0 := by omega
       have hh := HH.out
       have ho : orderGo B gk l out = some out := by cases gk <;> (simp only [orderGo]; rw [if_pos hl0'])
       rw [ho] at hh; simp only [Option.map_some, Option.some.injEq, Prod.mk.injEq] at hh; obtain ⟨rfl, rfl⟩ := hh; obtain ⟨A7, c7, hv7, hc7, hC7⟩ := Kd.R_reads HO.out; subst hv7; have HV := Aa (V_clip' (w := wT) HO.out (by omega)); have HC7 := Aa hc7; clear ho hC7 hc7 HH HO
       go_wp2_with fail
       refine (clip81 A7 _ c7 HC7.out _).mono ?_; rintro e w5 ⟨rfl, rfl⟩; go_wp2; go_ret2; exact ⟨_, rfl, Kd.V_mk (Nat.le_refl _) (Kd.F_mono (Kd.V_F HV.out) (fun k hk => Nat.le_trans HB4.out.size hk)), Bp HB4.out HIx.out.bel⟩
 ·rw [if_neg hle] at h; cases h
end Go.Proofs.YtobcecgcegoooaaGreat.Sk
namespace Go.Proofs.YtobcecgcegoooaaGreat.Sk
open Go.RowKit Go.Proofs.YtobcecgcegoooaaGreatW.PrintWords Go.Proofs.YtobcecgcegoooaaGreatW.PrintLast Go.Proofs.YtobcecgcegoooaaGreatW.PrintMore
set_option linter.unusedVariables false
set_option linter.unusedSimpArgs false
theorem rd_cons0 (x : Int) (l : List Int) : rd (x :: l) ((0 : Nat) : Int) = x := rfl
theorem rd_consS (x : Int) (l : List Int) (k : Nat) (hk : k < l.length) : rd (x :: l) ((k + 1 : Nat) : Int) = rd l (k : Int) := by
 have e1 : rd (x :: l) ((k + 1 : Nat) : Int) = (x :: l)[k + 1]'(by simp; omega) := by
  have h1 : k + 1 < (x :: l).length := by simp; omega
  have h2 : ((k + 1 : Nat) : Int).toNat = k + 1 := Int.toNat_natCast _; show (x :: l).getD ((k + 1 : Nat) : Int).toNat 0 = _; rw [h2, List.getD_eq_getElem?_getD, List.getElem?_eq_getElem h1]; rfl
 have e2 : rd l (k : Int) = l[k] := by simp [rd, List.getD_eq_getElem?_getD, hk]
 rw [e1, e2, List.getElem_cons_succ]
theorem idxGo_find (p : Int → Bool) : ∀ (l : List Int) (i : Int), (l.find? p = none ∧ idxGo p l i = -1) ∨ ∃ k : Nat, k < l.length ∧ idxGo p l i = i + k ∧ l.find? p = some (rd l (k : Int)) ∧ l.erase (rd l (k : Int)) = l.take k ++ l.drop (k + 1)
 | [], i => .inl ⟨rfl, rfl⟩
 | x :: l, i => by
  cases hp : p x with
  | true =>
   refine .inr ⟨0, by simp, ?_, ?_, ?_⟩
   ·show (if p x = true then i else _) = _; rw [if_pos hp]; simp
   ·rw [List.find?_cons, hp, rd_cons0]
   ·rw [rd_cons0, List.erase_cons_head]; rfl
  | false =>
   have e : idxGo p (x :: l) i = idxGo p l (i + 1) := by
    show (if p x = true then i else _) = _; rw [if_neg (by rw [hp]; simp)]
   have e2 : (x :: l).find? p = l.find? p := by rw [List.find?_cons, hp]
   rw [e, e2]
   rcases idxGo_find p l (i + 1) with ⟨a, b⟩ | ⟨k, hk, a, b, c⟩
   ·exact .inl ⟨a, b⟩
   ·have hpy := List.find?_some b
    have hne : ¬ (x == rd l (k : Int)) = true := by
     intro h; rw [beq_iff_eq] at h; rw [← h, hp] at hpy; cases hpy
    refine .inr ⟨k + 1, by simp; omega, by rw [a]; omega, by rw [rd_consS x l k hk, b], ?_⟩; rw [rd_consS x l k hk, List.erase_cons_tail hne, c]; rfl
def aheadS (C : Int → Int → Int) (x y : Int) : Bool := decide (C y x < 0)
theorem hasBefore_any (C : Int → Int → Int) (l : List Int) (y : Int) : hasBefore C l y = l.any fun x => aheadS C x y := by
 unfold hasBefore
 rcases idxGo_find (fun x => decide (C y x < 0)) l 0 with ⟨a, b⟩ | ⟨k, hk, a, b, c⟩
 ·rw [b, decide_eq_false (by omega)]; symm; rw [List.any_eq_false]; intro x hx; have := List.find?_eq_none.mp a x hx; exact this
 ·rw [a, decide_eq_true (by omega)]; symm; rw [List.any_eq_true]; refine ⟨_, List.mem_of_find?_eq_some b, ?_⟩; have := List.find?_some b; exact this
theorem orderGo_spec (C : Int → Int → Int) (t : Int → Int) : ∀ (n : Nat) (l out : List Int), l.length ≤ n → (∀ x ∈ l, ∀ y ∈ l, aheadS C x y = true → t x < t y) → orderGo C n l out = some (out ++ orderL (aheadS C) l.length l)
 | 0, l, out, hl, hS => by
  have : l = [] := List.length_eq_zero_iff.mp (by omega); subst this
  exact congrArg some (List.append_nil out).symm
 | n + 1, l, out, hl, hS => by
  by_cases h0 : l.length = 0
  ·have : l = [] := List.length_eq_zero_iff.mp h0; subst this; exact congrArg some (List.append_nil out).symm
  ·obtain ⟨y, hy⟩ := free_some t hS (fun e => h0 (by rw [e]; rfl))
   have ef : (fun y => !hasBefore C l y) = fun y => !(l.any fun x => aheadS C x y) := funext fun y => by rw [hasBefore_any]
   have hm := (free_mem hy).1
   have hi : l.find? (fun y => !hasBefore C l y) = some y := by rw [ef]; exact hy
   rcases idxGo_find (fun y => !hasBefore C l y) l 0 with ⟨a, b⟩ | ⟨k, hk, a, b, c⟩
   ·rw [hi] at a; cases a
   ·rw [hi] at b
    injection b with b
    have ek : idxGo (fun y => !hasBefore C l y) l 0 = (k : Int) := by rw [a]; omega
    simp only [orderGo]; rw [if_neg h0, ek, if_pos ⟨by omega, by omega⟩, Int.toNat_natCast, ← c, ← b]
    have sub : ∀ x ∈ l.erase y, x ∈ l := fun x hx => List.mem_of_mem_erase hx
    have hle := List.length_erase_of_mem hm; rw [orderGo_spec C t n (l.erase y) (out ++ [y]) (by omega) fun a ha b hb => hS a (sub a ha) b (sub b hb)]
    obtain ⟨m, hm2⟩ : ∃ m, l.length = m + 1 := ⟨l.length - 1, by omega⟩
    rw [hle, hm2]
    have e : orderL (aheadS C) (m + 1) l = y :: orderL (aheadS C) m (l.erase y) := by
     show (match freeOf (aheadS C) l with | none => [] | some y => y :: orderL (aheadS C) m (l.erase y)) = _; rw [hy]
    rw [e, Nat.add_sub_cancel, List.append_assoc]; rfl
theorem find_congr {p q : Int → Bool} : ∀ l : List Int, (∀ x ∈ l, p x = q x) → l.find? p = l.find? q
 | [], _ => rfl
 | x :: l, h => by
  rw [List.find?_cons, List.find?_cons, h x List.mem_cons_self, find_congr l fun y hy => h y (List.mem_cons_of_mem _ hy)]
theorem anyI_congr {p q : Int → Bool} : ∀ l : List Int, (∀ x ∈ l, p x = q x) → l.any p = l.any q
 | [], _ => rfl
 | x :: l, h => by
  rw [List.any_cons, List.any_cons, h x List.mem_cons_self, anyI_congr l fun y hy => h y (List.mem_cons_of_mem _ hy)]
theorem orderL_congr {S S' : Int → Int → Bool} : ∀ (n : Nat) (l : List Int), (∀ x ∈ l, ∀ y ∈ l, S x y = S' x y) → orderL S n l = orderL S' n l
 | 0, _, _ => rfl
 | n + 1, l, h => by
  have e : freeOf S l = freeOf S' l := find_congr l fun y hy => by rw [anyI_congr l fun x hx => h x hx y hy]
  show (match freeOf S l with | none => [] | some y => y :: orderL S n (l.erase y)) = (match freeOf S' l with | none => [] | some y => y :: orderL S' n (l.erase y))
  rw [e]
  cases freeOf S' l with
  | none => rfl
  | some y =>
   have sub : ∀ x ∈ l.erase y, x ∈ l := fun x hx => List.mem_of_mem_erase hx
   show y :: _ = y :: _; rw [orderL_congr n (l.erase y) fun a ha b hb => h a (sub a ha) b (sub b hb)]
theorem numsI_mem {n : Nat} {x : Int} : x ∈ nums n ↔ 0 ≤ x ∧ x < n := by
 unfold nums; rw [List.mem_map]; constructor
 ·rintro ⟨i, hi, rfl⟩; have := List.mem_range.mp hi; omega
 ·intro h; exact ⟨x.toNat, List.mem_range.mpr (by omega), by omega⟩
theorem nums_len (n : Nat) : (nums n).length = n := by unfold nums; rw [List.length_map, List.length_range]
theorem nums_nodup (n : Nat) : (nums n).Nodup := by
 unfold nums; refine List.pairwise_map.mpr ((List.nodup_range (n := n)).imp fun h e => h ?_); omega
theorem nums_sorted (n : Nat) : (nums n).Pairwise fun x y => decide (x ≤ y) = true := by
 unfold nums; refine List.pairwise_map.mpr ((List.pairwise_lt_range (n := n)).imp fun h => ?_); rw [decide_eq_true_iff]; omega
def orderR (evs : List S65) (gaps : List S82) : List Int × Int :=
 if histB evs gaps = true then if (solveR evs gaps).2 = true then (orderL (sureB evs gaps) evs.length (nums evs.length), 0) else ([], 5) else ([], 2)
theorem order_skew (evs : List S65) (gaps : List S82) (hn : evs.length ≤ 10) : skew_OrderL.f evs gaps = some (orderR evs gaps) := by
 unfold skew_OrderL.f orderR
 by_cases c : histB evs gaps = true
 ·have h := (histIs evs gaps).mp c; have ht := tighten_solve h; unfold tightR; rw [isHist_1000, Option.bind_some, if_pos c, if_pos h.ok, if_pos c]
  cases hC : tightenF (bindP (fun _ => false) (saidL evs gaps)) with
  | none =>
   rw [hC] at ht
   rw [if_neg (by rw [← ht]; simp), Option.bind_some, if_pos hn]
  | some C =>
   rw [hC] at ht; have ht : (solveR evs gaps).2 = true := ht.symm
   obtain ⟨t, hfit⟩ := ((solve_spec evs gaps h.gap).1.mp ht)
   rw [if_pos ht, Option.bind_some, if_pos hn]
   have eS : ∀ x ∈ nums evs.length, ∀ y ∈ nums evs.length, aheadS C x y = sureB evs gaps x y := fun x hx y hy => sure_skew h hC x y (numsI_mem.mp hx).1 (numsI_mem.mp hx).2 (numsI_mem.mp hy).1 (numsI_mem.mp hy).2
   have hS : ∀ x ∈ nums evs.length, ∀ y ∈ nums evs.length, aheadS C x y = true → t x < t y := fun x hx y hy hs => sureB_lt h hfit x y (numsI_mem.mp hx).1 (numsI_mem.mp hx).2 (numsI_mem.mp hy).1 (numsI_mem.mp hy).2 (by rw [← eS x hx y hy]; exact hs)
   show (orderGo C 10 (nums evs.length) []).map (fun l => (l, (0 : Int))) = _; rw [orderGo_spec C t 10 (nums evs.length) [] (by rw [nums_len]; exact hn) hS, nums_len, orderL_congr _ _ eS]; rfl
 ·rw [tightR_no c, Option.bind_some, if_pos hn, if_neg c]
theorem perm_of_sub : ∀ (l m : List Int), l.Nodup → (∀ x ∈ l, x ∈ m) → ∃ r, m.Perm (l ++ r)
 | [], m, _, _ => ⟨m, List.Perm.refl _⟩
 | x :: l, m, hn, hs => by
  obtain ⟨h1, h2⟩ := List.nodup_cons.mp hn
  obtain ⟨r, hr⟩ := perm_of_sub l (m.erase x) h2 fun y hy => (List.mem_erase_of_ne (fun e => h1 (by rw [← e]; exact hy))).mpr (hs y (List.mem_cons_of_mem _ hy))
  exact ⟨r, (List.perm_cons_erase (hs x List.mem_cons_self)).trans (List.Perm.cons x hr)⟩
theorem perm_nums {n : Nat} {l : List Int} (hl : l.length = n) (hn : l.Nodup) (hr : ∀ x ∈ l, 0 ≤ x ∧ x < n) : l.Perm (nums n) := by
 obtain ⟨r, h⟩ := perm_of_sub l (nums n) hn fun x hx => numsI_mem.mpr (hr x hx)
 have := h.length_eq; rw [nums_len, List.length_append] at this; have : r = [] := List.length_eq_zero_iff.mp (by omega); subst this; rw [List.append_nil] at h; exact h.symm
def ordB (n : Nat) : List Int → List Int → Bool
 | _, [] => true
 | seen, x :: l => if 0 ≤ x ∧ x < n ∧ x ∉ seen then ordB n (seen ++ [x]) l else false
theorem ordB_iff (n : Nat) : ∀ (l seen : List Int), ordB n seen l = true ↔ (l.Nodup ∧ (∀ x ∈ l, 0 ≤ x ∧ x < n) ∧ ∀ x ∈ l, x ∉ seen)
 | [], seen => ⟨fun _ => ⟨List.nodup_nil, fun x hx => (by cases hx), fun x hx => (by cases hx)⟩, fun _ => rfl⟩
 | x :: l, seen => by
  show (if 0 ≤ x ∧ x < n ∧ x ∉ seen then ordB n (seen ++ [x]) l else false) = true ↔ _
  by_cases c : 0 ≤ x ∧ x < n ∧ x ∉ seen
  ·rw [if_pos c, ordB_iff n l (seen ++ [x]), List.nodup_cons]; constructor
   ·rintro ⟨a, b, d⟩; refine ⟨⟨fun hx => d x hx (List.mem_append.mpr (.inr (List.mem_singleton.mpr rfl))), a⟩, fun y hy => ?_, fun y hy hs => ?_⟩
    ·rcases List.mem_cons.mp hy with rfl | hy
     ·exact ⟨c.1, c.2.1⟩
     ·exact b y hy
    ·rcases List.mem_cons.mp hy with rfl | hy
     ·exact c.2.2 hs
     ·exact d y hy (List.mem_append.mpr (.inl hs))
   ·rintro ⟨⟨a, a'⟩, b, d⟩; refine ⟨a', fun y hy => b y (List.mem_cons_of_mem _ hy), fun y hy hs => ?_⟩
    rcases List.mem_append.mp hs with hs | hs
    ·exact d y (List.mem_cons_of_mem _ hy) hs
    ·rw [List.mem_singleton] at hs; exact a (hs ▸ hy)
  ·rw [if_neg c]; refine ⟨fun h => (by cases h), fun ⟨_, b, d⟩ => absurd ⟨(b x List.mem_cons_self).1, (b x List.mem_cons_self).2, d x List.mem_cons_self⟩ c⟩
def isOrdB (n : Nat) (l : List Int) : Bool := decide (l.length = n) && ordB n [] l
theorem isOrdB_iff (n : Nat) (l : List Int) : isOrdB n l = true ↔ l.Perm (nums n) := by
 unfold isOrdB; rw [Bool.and_eq_true, decide_eq_true_iff, ordB_iff]; constructor
 ·rintro ⟨a, b, c, _⟩; exact perm_nums a b c
 ·intro h; exact ⟨h.length_eq.trans (nums_len n), (h.nodup_iff).mpr (nums_nodup n), fun x hx => numsI_mem.mp (h.mem_iff.mp hx), fun x _ hx => by cases hx⟩
theorem sorted_iff (n : Nat) (l : List Int) : (l.mergeSort fun x y => decide (x ≤ y)) = nums n ↔ isOrdB n l = true := by
 rw [isOrdB_iff]; constructor
 ·intro h; rw [← h]; exact (List.mergeSort_perm l _).symm
 ·intro h; have hp : (l.mergeSort fun x y => decide (x ≤ y)).Perm (nums n) := (List.mergeSort_perm l _).trans h; refine hp.eq_of_pairwise (le := fun x y => decide (x ≤ y) = true) (fun a b _ _ h1 h2 => ?_) (List.pairwise_mergeSort (fun a b c h1 h2 => ?_) (fun a b => ?_) l) (nums_sorted n)
  ·have h1 := Od h1; have h2 := Od h2; omega
  ·have h1 := Od h1; have h2 := Od h2; exact decide_eq_true (by omega)
  ·rw [Bool.or_eq_true, decide_eq_true_iff, decide_eq_true_iff]; omega
theorem steps_ok {n : Nat} {l : List Int} (h : isOrdB n l = true) : StepsOk n l := by
 have hp := (isOrdB_iff n l).mp h
 have hm : ∀ i : Nat, i < l.length → 0 ≤ rd l (i : Int) ∧ rd l (i : Int) < n := fun i hi => numsI_mem.mp (hp.mem_iff.mp (rdi_mem l i hi))
 have hnd := (hp.nodup_iff).mpr (nums_nodup n); refine ⟨fun i hi => (hm i hi).1, fun i hi => (hm i hi).2, fun i hi => ?_⟩
 have e1 : rd l (i : Int) = l[i] := by simp [rd, List.getD_eq_getElem?_getD, show i < l.length by omega]
 have e2 : rd l ((i + 1 : Nat) : Int) = l[i + 1] := by
  have hi' := hi
  simp [rd, List.getD_eq_getElem?_getD, hi']
 rw [e1, e2]; intro e; have := (List.pairwise_iff_getElem.mp hnd) i (i + 1) (by omega) hi (by omega); exact this e
end Go.Proofs.YtobcecgcegoooaaGreat.Sk
namespace Go.Proofs.YtobcecgcegoooaaGreat.Sk
open Go.RowKit Go.Proofs.YtobcecgcegoooaaGreatW.PrintWords Go.Proofs.YtobcecgcegoooaaGreatW.PrintLast Go.Proofs.YtobcecgcegoooaaGreatW.PrintMore
set_option linter.unusedVariables false
set_option linter.unusedSimpArgs false
theorem within_calls (a b c : Int) (r : Bool) (h : decide (a ≥ b ∧ a ≤ c) = r) (w : World) : Calls Tryz.prog 13 #[.int .i64 a, .int .i64 b, .int .i64 c] w fun e w' => e = .returned (.bool r) ∧ Below w.heap.size w w' := by
 refine (skew_within.calls a b c r w ?_).mono fun e w' ⟨h1, h2⟩ => ⟨h1, h2.below⟩
 unfold skew_within.f; subst h
 by_cases h1 : a ≥ b
 ·rw [if_pos h1]; simp [h1]
 ·rw [if_neg h1]; simp [h1]
end Go.Proofs.YtobcecgcegoooaaGreat.Sk
namespace Go.Proofs.YtobcecgcegoooaaGreat.Sk
open Go.RowKit Go.Proofs.YtobcecgcegoooaaGreatW.PrintWords Go.Proofs.YtobcecgcegoooaaGreatW.PrintLast Go.Proofs.YtobcecgcegoooaaGreatW.PrintMore
set_option linter.unusedVariables false
set_option linter.unusedSimpArgs false
def skew_Sure.f (evs : List S65) (gaps : List S82) (x y : Int) : Option (Bool × Int) :=
 (skew_isHist.f 1000 evs gaps).bind fun t => if t = true then
  if x ≥ 0 ∧ x ≤ wrap64 ((evs.length : Int) - 1) then
   if y ≥ 0 ∧ y ≤ wrap64 ((evs.length : Int) - 1) then
    (tightR evs gaps).bind fun p => if evs.length ≤ 10 then some (match p.1 with | some B => decide (B y x < 0) | none => false, p.2) else none
   else some (false, 2)
  else some (false, 2)
 else some (false, 2)
set_option maxHeartbeats 4000000 in
set_option maxRecDepth 100000 in
theorem skew_Sure.calls (A0 : Option Addr) (c0 : Nat) (evs : List S65) (A1 : Option Addr) (c1 : Nat) (gaps : List S82) (x y : Int) (r1 : Bool) (r2 : Int) (w : World) (hC0 : Kd.C k65 w A0 evs.length evs) (hc0 : evs.length ≤ c0) (hC1 : Kd.C k82 w A1 gaps.length gaps) (hc1 : gaps.length ≤ c1) (h : skew_Sure.f evs gaps x y = some (r1, r2)) :
  Calls Tryz.prog 4 #[.agg #[.slice A0 evs.length c0, .slice A1 gaps.length c1], .int .i64 x, .int .i64 y] w fun e w' => e = .returned (.tuple #[.bool r1, .int .i64 r2]) ∧ Below w.heap.size w w' := by
 unfold skew_Sure.f at h; obtain ⟨t, ht, h⟩ := Option.bind_eq_some_iff.mp h; have hb0 := Ba (Below.refl w.heap.size w) (.cells #[.slice A0 evs.length c0, .slice A1 gaps.length c1] 25); have hk0 := blk_new w (.cells #[.slice A0 evs.length c0, .slice A1 gaps.length c1] 25); have HIs := Aa (skew_isHist.calls 1000 A0 c0 evs A1 c1 gaps t _ (Kd.C_below hC0 hb0) hc0 (Kd.C_below hC1 hb0) hc1 ht); have x0 := cell_at hk0 0 (.slice A0 evs.length c0) rfl; have x1 := cell_at hk0 1 (.slice A1 gaps.length c1) rfl; have HB0 := Aa hb0; have HK0 := Aa hk0; clear hb0 hk0 ht
 cases t with
 | false =>
  rw [if_neg (by simp)] at h; simp only [Option.some.injEq, Prod.mk.injEq] at h; obtain ⟨rfl, rfl⟩ := h
  go_enter Tryz.func4, Tryz.ntmps4
  go_wp2_with (go_at_call 12; refine HIs.out.mono ?_; rintro e w1 ⟨rfl, hb⟩; have HB1 := Aa (Bp HB0.out hb); clear hb)
  go_ret2
  exact ⟨rfl, HB1.out⟩
 | true =>
  rw [if_pos rfl] at h
  by_cases ha : x ≥ 0 ∧ x ≤ wrap64 ((evs.length : Int) - 1)
  ·rw [if_pos ha] at h
   have HA := fun w => Aa (within_calls x 0 _ true (decide_eq_true ha) w)
   by_cases hb : y ≥ 0 ∧ y ≤ wrap64 ((evs.length : Int) - 1)
   ·rw [if_pos hb] at h
    have HBy := fun w => Aa (within_calls y 0 _ true (decide_eq_true hb) w)
    obtain ⟨⟨R, r⟩, hR, h⟩ := Option.bind_eq_some_iff.mp h
    by_cases hle : evs.length ≤ 10
    ·rw [if_pos hle] at h; simp only [Option.some.injEq, Prod.mk.injEq] at h; obtain ⟨hr1, rfl⟩ := h; have HR1 := Aa hr1; have HTR := Aa hR
     have hx : 0 ≤ x ∧ x < 11 := by unfold wrap64 at ha; omega
     have hy : 0 ≤ y ∧ y < 11 := by unfold wrap64 at hb; omega
     have HX := Aa hx; have HY := Aa hy; clear ha hb hle hr1 hR hx hy
     go_enter Tryz.func4, Tryz.ntmps4
     go_wp2_with fail
     refine HIs.out.mono ?_; rintro e w1 ⟨rfl, hb⟩; have HB1 := Aa (Bp HB0.out hb); have hk1 := blk_below HK0.out hb; have HK1 := Aa hk1; have y0 := cell_at hk1 0 (.slice A0 evs.length c0) rfl; clear hb HIs x0 x1 hk1
     go_wp2_with fail
     with_reducible refine (HA w1).out.mono ?_
     rintro e w2 ⟨rfl, hb⟩; have HB2 := Aa (Bp HB1.out hb); have hk2 := blk_below HK1.out hb; have HK2 := Aa hk2; have y0 := cell_at hk2 0 (.slice A0 evs.length c0) rfl; clear hb HA hk2 HB1
     go_wp2_with fail
     with_reducible refine (HBy w2).out.mono ?_
     rintro e w3 ⟨rfl, hb⟩; have HB3 := Aa (Bp HB2.out hb); have hk3 := blk_below HK2.out hb; have y0 := cell_at hk3 0 (.slice A0 evs.length c0) rfl; have y1 := cell_at hk3 1 (.slice A1 gaps.length c1) rfl; clear hb HBy hk3 HB2; have HT := Aa (tight_calls A0 A1 c0 c1 evs gaps R r w3 (Kd.C_below hC0 HB3.out) hc0 (Kd.C_below hC1 HB3.out) hc1 HTR.out)
     cases R with
     | none =>
      have HTn := Aa HT.out; clear HT
      go_wp2_with (go_at_call 14; refine HTn.out.mono ?_; rintro e w4 ⟨p, rfl, _, hn, _, hb⟩; have hrn := hn rfl; have HB4 := Aa (Bp HB3.out hb); clear hb)
      go_ret2
      exact ⟨by rw [← HR1.out]; rfl, HB4.out⟩
     | some B =>
      have HTn := Aa HT.out; clear HT
      go_wp2_with (first
       | (go_at_call 14; refine HTn.out.mono ?_; rintro e w4 ⟨p, rfl, hs, _, hz, hb⟩; obtain ⟨b, rfl, hbl, hbd⟩ := hs B rfl; obtain rfl := hz B rfl; have HBd := Aa hbd; have HB4 := Aa (Bp HB3.out hb); clear hb hbd hs)
       | (go_at_call 15; refine (sure_calls b _ _ B x y w4 HBd.out HX.out.1 HX.out.2 HY.out.1 HY.out.2).mono ?_; rintro e w5 ⟨rfl, rfl⟩))
      go_ret2; exact ⟨by rw [← HR1.out]; rfl, HB4.out⟩
    ·rw [if_neg hle] at h; cases h
   ·rw [if_neg hb] at h; simp only [Option.some.injEq, Prod.mk.injEq] at h; obtain ⟨rfl, rfl⟩ := h
    have HBy := fun w => Aa (within_calls y 0 _ false (decide_eq_false hb) w)
    clear ha hb
    go_enter Tryz.func4, Tryz.ntmps4
    go_wp2_with fail
    refine HIs.out.mono ?_; rintro e w1 ⟨rfl, hb⟩; have HB1 := Aa (Bp HB0.out hb); have hk1 := blk_below HK0.out hb; have HK1 := Aa hk1; have y0 := cell_at hk1 0 (.slice A0 evs.length c0) rfl; clear hb HIs x0 x1 hk1
    go_wp2_with fail
    with_reducible refine (HA w1).out.mono ?_
    rintro e w2 ⟨rfl, hb⟩; have HB2 := Aa (Bp HB1.out hb); have hk2 := blk_below HK1.out hb; have y0 := cell_at hk2 0 (.slice A0 evs.length c0) rfl; clear hb HA hk2 HB1
    go_wp2_with fail
    with_reducible refine (HBy w2).out.mono ?_
    rintro e w3 ⟨rfl, hb⟩; have HB3 := Aa (Bp HB2.out hb); clear hb HBy HB2; go_wp2; go_ret2; exact ⟨rfl, HB3.out⟩
  ·rw [if_neg ha] at h; simp only [Option.some.injEq, Prod.mk.injEq] at h; obtain ⟨rfl, rfl⟩ := h
   have HA := fun w => Aa (within_calls x 0 _ false (decide_eq_false ha) w)
   clear ha
   go_enter Tryz.func4, Tryz.ntmps4
   go_wp2_with fail
   refine HIs.out.mono ?_; rintro e w1 ⟨rfl, hb⟩; have HB1 := Aa (Bp HB0.out hb); have hk1 := blk_below HK0.out hb; have y0 := cell_at hk1 0 (.slice A0 evs.length c0) rfl; clear hb HIs x0 x1 hk1
   go_wp2_with fail
   with_reducible refine (HA w1).out.mono ?_
   rintro e w2 ⟨rfl, hb⟩; have HB2 := Aa (Bp HB1.out hb); clear hb HA HB1; go_wp2; go_ret2; exact ⟨rfl, HB2.out⟩
end Go.Proofs.YtobcecgcegoooaaGreat.Sk
namespace Go.Proofs.YtobcecgcegoooaaGreat.Sk
open Go.RowKit Go.Proofs.YtobcecgcegoooaaGreatW.PrintWords Go.Proofs.YtobcecgcegoooaaGreatW.PrintLast Go.Proofs.YtobcecgcegoooaaGreatW.PrintMore
set_option linter.unusedVariables false
set_option linter.unusedSimpArgs false
def sureQ (evs : List S65) (gaps : List S82) (x y : Int) : Bool × Int :=
 if histB evs gaps = true ∧ (0 ≤ x ∧ x < evs.length) ∧ 0 ≤ y ∧ y < evs.length then if (solveR evs gaps).2 = true then (sureB evs gaps x y, 0) else (false, 5) else (false, 2)
def canB (evs : List S65) (gaps : List S82) (l : List Int) : Bool := (solveR evs (gapsC gaps l (l.length - 1))).2
def canQ (evs : List S65) (gaps : List S82) (l : List Int) : Bool × Int :=
 if histB evs gaps = true ∧ isOrdB evs.length l = true then if (solveR evs gaps).2 = true then (canB evs gaps l, 0) else (false, 5) else (false, 2)
theorem within_iff (x : Int) (n : Nat) (hn : n ≤ 10) : (x ≥ 0 ∧ x ≤ wrap64 ((n : Int) - 1)) ↔ (0 ≤ x ∧ x < n) := by
 rw [show wrap64 ((n : Int) - 1) = (n : Int) - 1 from w64_mid (by omega) (by omega)]; omega
theorem sure_skew_f (evs : List S65) (gaps : List S82) (x y : Int) : skew_Sure.f evs gaps x y = some (sureQ evs gaps x y) := by
 unfold skew_Sure.f sureQ; rw [isHist_1000, Option.bind_some]
 by_cases c : histB evs gaps = true
 ·have h := (histIs evs gaps).mp c; rw [if_pos c]
  by_cases a : x ≥ 0 ∧ x ≤ wrap64 ((evs.length : Int) - 1)
  ·have a' := (within_iff x _ h.n).mp a; rw [if_pos a]
   by_cases b : y ≥ 0 ∧ y ≤ wrap64 ((evs.length : Int) - 1)
   ·have b' := (within_iff y _ h.n).mp b; rw [if_pos b, if_pos ⟨c, a', b'⟩]; have ht := tighten_solve h; unfold tightR; rw [isHist_1000, Option.bind_some, if_pos c, if_pos h.ok]
    cases hC : tightenF (bindP (fun _ => false) (saidL evs gaps)) with
    | none =>
     rw [hC] at ht
     rw [if_neg (show ¬ (solveR evs gaps).2 = true by rw [← ht]; simp), Option.bind_some, if_pos h.n]
    | some C =>
     rw [hC] at ht; have ht : (solveR evs gaps).2 = true := ht.symm; rw [if_pos ht, Option.bind_some, if_pos h.n]; show some (decide (C y x < 0), (0 : Int)) = _; rw [sure_skew h hC x y a'.1 a'.2 b'.1 b'.2]
   ·rw [if_neg b, if_neg (fun q => b ((within_iff y _ h.n).mpr q.2.2))]
  ·rw [if_neg a, if_neg (fun q => a ((within_iff x _ h.n).mpr q.2.1))]
 ·rw [if_neg c, if_neg (fun q => c q.1)]
section
variable {evs : List S65} {gaps : List S82} (h : HistIs evs gaps)
include h
theorem order_facts (hs : (solveR evs gaps).2 = true) : isOrdB evs.length (orderL (sureB evs gaps) evs.length (nums evs.length)) = true ∧
  ∀ x y : Int, 0 ≤ x → x < evs.length → 0 ≤ y → y < evs.length → sureB evs gaps x y = true → (orderL (sureB evs gaps) evs.length (nums evs.length)).idxOf x < (orderL (sureB evs gaps) evs.length (nums evs.length)).idxOf y := by
 obtain ⟨t, ht⟩ := (solve_spec evs gaps h.gap).1.mp hs
 have hS : ∀ x ∈ nums evs.length, ∀ y ∈ nums evs.length, sureB evs gaps x y = true → t x < t y := fun x hx y hy hq => sureB_lt h ht x y (numsI_mem.mp hx).1 (numsI_mem.mp hx).2 (numsI_mem.mp hy).1 (numsI_mem.mp hy).2 hq
 refine ⟨(isOrdB_iff _ _).mpr (order_perm t _ _ (nums_len _) hS), fun x y x0 x1 y0 y1 hq => order_ahead t _ _ (nums_len _) hS x (numsI_mem.mpr ⟨x0, x1⟩) y (numsI_mem.mpr ⟨y0, y1⟩) hq⟩
end
end Go.Proofs.YtobcecgcegoooaaGreat.Sk
namespace Go.Proofs.YtobcecgcegoooaaGreat.Sk
open Go.RowKit Go.Proofs.YtobcecgcegoooaaGreatW.PrintWords Go.Proofs.YtobcecgcegoooaaGreatW.PrintLast Go.Proofs.YtobcecgcegoooaaGreatW.PrintMore
set_option linter.unusedVariables false
set_option linter.unusedSimpArgs false
theorem rdB_set (l : List Bool) (x v : Int) (x0 : 0 ≤ x) (x1 : x < l.length) (v0 : 0 ≤ v) : rdOf false (l.set x.toNat true) v = if v = x then true else rdOf false l v := by
 show (l.set x.toNat true).getD v.toNat false = _; rw [List.getD_eq_getElem?_getD, List.getElem?_set]
 by_cases c : v = x
 ·subst c; rw [if_pos rfl, if_pos rfl, if_pos (by omega)]; rfl
 ·rw [if_neg (by omega), if_neg c]; show _ = l.getD v.toNat false; rw [List.getD_eq_getElem?_getD]
theorem ev_isOrd (n : Nat) (l : List Int) (hl : l.length = n) (hn : n ≤ 1000) : ∀ (d i : Nat) (met : List Bool), i + d = n → met.length = n → (∀ v : Int, 0 ≤ v → v < n → rdOf false met v = decide (v ∈ l.take i)) → Ev (fun k => rf_IsOrder.l0 k l (n : Int) met (i : Int)) (ordB n (l.take i) (l.drop i))
 | 0, i, met, h, hml, hm => by
  rw [List.drop_of_length_le (by omega)]
  exact Ev.step (f := fun _ => some true) (fun k => by simp only [rf_IsOrder.l0]; rw [if_neg (by omega)]) (Ev.now _)
 | d + 1, i, met, h, hml, hm => by
  have hi : i < l.length := by omega
  have er : rd l (i : Int) = l[i] := by simp [rd, List.getD_eq_getElem?_getD, hi]
  rw [List.drop_eq_getElem_cons hi, ← er]
  obtain ⟨x, hx⟩ : ∃ x, rd l (i : Int) = x := ⟨_, rfl⟩
  have eo : ordB n (l.take i) (x :: l.drop (i + 1)) = if 0 ≤ x ∧ x < n ∧ x ∉ l.take i then ordB n (l.take i ++ [x]) (l.drop (i + 1)) else false := rfl
  rw [hx, eo]
  by_cases c0 : x < 0
  ·rw [if_neg (by omega)]; refine Ev.step (f := fun _ => some false) (fun k => ?_) (Ev.now _); simp only [rf_IsOrder.l0]; rw [hx, if_pos (by omega), if_pos (by omega), if_pos (by omega), if_pos c0]
  ·by_cases c1 : x ≥ n
   ·rw [if_neg (by omega)]; refine Ev.step (f := fun _ => some false) (fun k => ?_) (Ev.now _); simp only [rf_IsOrder.l0]; rw [hx, if_pos (by omega), if_pos (by omega), if_pos (by omega), if_neg c0, if_pos c1]
   ·have hmx := hm x (by omega) (by omega)
    by_cases c2 : x ∈ l.take i
    ·rw [if_neg (fun q => q.2.2 c2)]; rw [decide_eq_true c2] at hmx; refine Ev.step (f := fun _ => some false) (fun k => ?_) (Ev.now _); simp only [rf_IsOrder.l0]; rw [hx, if_pos (by omega), if_pos (by omega), if_pos (by omega), if_neg c0, if_neg c1, if_pos (by omega), if_pos (by omega), if_pos hmx]
    ·rw [if_pos ⟨by omega, by omega, c2⟩]; rw [decide_eq_false c2] at hmx
     have et : l.take (i + 1) = l.take i ++ [x] := by rw [List.take_succ_eq_append_getElem hi, ← er, hx]
     have ih := ev_isOrd n l hl hn d (i + 1) (met.set x.toNat true) (by omega) (by rw [List.length_set]; exact hml) (fun v v0 v1 => by
      rw [rdB_set met x v (by omega) (by omega) v0, et]
      by_cases cv : v = x
      ·rw [if_pos cv]; symm; exact decide_eq_true (List.mem_append.mpr (.inr (List.mem_singleton.mpr cv)))
      ·rw [if_neg cv, hm v v0 v1]; refine decide_eq_decide.mpr ⟨fun q => List.mem_append.mpr (.inl q), fun q => ?_⟩
       rcases List.mem_append.mp q with q | q
       ·exact q
       ·exact absurd (List.mem_singleton.mp q) cv)
     rw [et] at ih; refine Ev.step (fun k => ?_) ih; simp only [rf_IsOrder.l0]; rw [hx, if_pos (by omega), if_pos (by omega), if_pos (by omega), if_neg c0, if_neg c1, if_pos (by omega), if_pos (by omega), if_neg (by rw [hmx]; simp), wrapS (by omega)]
theorem ev_IsOrder (n : Nat) (l : List Int) (hn : n ≤ 1000) : Ev (fun k => rf_IsOrder.f k l (n : Int)) (isOrdB n l) := by
 unfold isOrdB
 by_cases c : l.length = n
 ·rw [decide_eq_true c, Bool.true_and]
  have h := ev_isOrd n l c hn n 0 (List.replicate n false) (by omega) (by simp) (fun v v0 v1 => by
   show (List.replicate n false).getD v.toNat false = _; rw [List.getD_eq_getElem?_getD, List.getElem?_replicate, if_pos (by omega)]
   simp)
  rw [List.drop_zero, List.take_zero] at h; refine Ev.congr (fun k => ?_) h; unfold rf_IsOrder.f; rw [if_pos (by omega), if_pos (by omega), if_pos (by omega)]
  simp
 ·rw [decide_eq_false c, Bool.false_and]; exact Ev.congr (f := fun _ => some false) (fun k => if_neg (by omega)) (Ev.now _)
end Go.Proofs.YtobcecgcegoooaaGreat.Sk
namespace Go.Proofs.YtobcecgcegoooaaGreat.Sk
open Go.RowKit Go.Proofs.YtobcecgcegoooaaGreatW.PrintWords Go.Proofs.YtobcecgcegoooaaGreatW.PrintLast Go.Proofs.YtobcecgcegoooaaGreatW.PrintMore
set_option linter.unusedVariables false
set_option linter.unusedSimpArgs false
theorem more_eq (gaps : List S82) (a b : Int) (hw : gaps.length ≤ 1000) : rf_more.f gaps a b = some (gaps ++ [⟨a, b, 0, 2000000⟩]) := by
 unfold rf_more.f; rw [Option.bind_some, if_pos (by simp; omega), Option.bind_some, List.nil_append, if_pos (by omega)]
theorem gapsC_len (gaps : List S82) (l : List Int) (n : Nat) : (gapsC gaps l n).length = gaps.length + n := by unfold gapsC; rw [List.length_append, List.length_map, List.length_range]
def rf_CanOf.f (evs : List S65) (gaps : List S82) (l : List Int) : Option Bool := if histB evs gaps = true ∧ isOrdB evs.length l = true then some (canB evs gaps l) else none
set_option maxHeartbeats 4000000 in
set_option maxRecDepth 100000 in
theorem rf_CanOf.calls (A0 : Option Addr) (c0 : Nat) (evs : List S65) (A1 : Option Addr) (c1 : Nat) (gaps : List S82) (A2 : Option Addr) (c2 : Nat) (l : List Int) (r : Bool) (w : World) (hC0 : Kd.C k65 w A0 evs.length evs) (hc0 : evs.length ≤ c0) (hC1 : Kd.C k82 w A1 gaps.length gaps) (hc1 : gaps.length ≤ c1) (hC2 : Kd.C (Kd.int .i64) w A2 l.length l) (hc2 : l.length ≤ c2) (h : rf_CanOf.f evs gaps l = some r) :
  Calls Tryz.prog 30 #[.agg #[.slice A0 evs.length c0, .slice A1 gaps.length c1], .slice A2 l.length c2] w fun e w' => e = .returned (.bool r) ∧ Below w.heap.size w w' := by
 unfold rf_CanOf.f at h
 by_cases c : histB evs gaps = true ∧ isOrdB evs.length l = true
 ·rw [if_pos c] at h; obtain rfl := Option.some.inj h; have hI := (histIs evs gaps).mp c.1; have hS := steps_ok c.2; have hlen : l.length = evs.length := ((isOrdB_iff _ _).mp c.2).length_eq.trans (nums_len _); have hn := hI.n; have hw := hI.w; obtain ⟨ks, hks⟩ := Ev.rounds (ev_Solve evs (gapsC gaps l (l.length - 1)) (by omega) (by rw [gapsC_len]; omega) (gapsC_in hI hS (l.length - 1) (by omega)) hI.big)
  obtain ⟨L, hL⟩ : ∃ L, solveR evs (gapsC gaps l (l.length - 1)) = (L, canB evs gaps l) := ⟨_, rfl⟩
  rw [hL] at hks; have HKS := Aa hks; have HSt := Aa hS; have HLn := Aa (show l.length ≤ 10 ∧ gaps.length ≤ 20 by omega); have Hc0 := Aa hc0; have HC0 := Aa hC0; have HC1 := Aa hC1; have HC2 := Aa hC2; have HB := Aa (Ba (Below.refl w.heap.size w) (.cells #[.slice A0 evs.length c0, .slice A1 gaps.length c1] 25)); have HK := Aa (blk_new w (.cells #[.slice A0 evs.length c0, .slice A1 gaps.length c1] 25)); have Hc1 := Aa hc1; have x0 := cell_at HK.out 0 (.slice A0 evs.length c0) rfl; have x1 := cell_at HK.out 1 (.slice A1 gaps.length c1) rfl; clear h hks hL hI hS hlen hn hw hC0 hc0 hC1 hc1 hC2 c
  go_enter Tryz.func30, Tryz.ntmps30
  go_wp2_with fail
  clear x0 x1; generalize w.alloc (.cells #[.slice A0 evs.length c0, .slice A1 gaps.length c1] 25) = w0 at HB HK ⊢
  go_loopw [5, 6] (fun v5 v6 W => ∃ (i : Nat) (A : Option Addr) (cc : Nat) (gs : List S82), v5 = .slice A gs.length cc ∧ v6 = .int .i64 (i : Int) ∧ Aside0 (i + 1 ≤ l.length ∨ i = 0) ∧ Aside0 (gs = gapsC gaps l i) ∧ Aside0 (gs.length ≤ cc) ∧ Aside0 (Kd.C k82 W A gs.length gs) ∧ Aside0 (Below w0.heap.size w0 W)) (fun _ v _ => l.length - (intOf v).toNat)
  case atStart => exact ⟨0, A1, c1, gaps, rfl, rfl, ⟨.inr rfl⟩, ⟨by unfold gapsC; simp⟩, Hc1, ⟨Kd.C_below HC1.out HB.out⟩, ⟨Below.refl _ _⟩⟩
  case round =>
   obtain ⟨i, A, cc, gs, rfl, rfl, HI, HG, HCc, HCg, HBw⟩ := hrel
   have hi1000 : (i : Int) < 1000 := by have := HI.out; have := HLn.out; omega
   obtain ⟨z, hz, hze⟩ : ∃ z : Int, IntKind.i64.wrap ((i : Int) + 1) = z ∧ z = (i : Int) + 1 := ⟨_, IntWalk.i64_left _, w64_mid (by omega) (by omega)⟩
   have hBr : Below w.heap.size w wr := Bp HB.out HBw.out
   by_cases hlt : z < l.length
   ·obtain ⟨ad, e1, hx0⟩ := Kd.at_int HC2.out (i : Int) (by omega) (by omega); obtain ⟨ad', e2, hx1⟩ := Kd.at_int HC2.out z (by omega) hlt; subst e1
    injection e2 with e2
    subst e2; rw [Int.toNat_natCast] at hx0
    obtain ⟨x, hx⟩ : ∃ x, rd l (i : Int) = x := ⟨_, rfl⟩
    obtain ⟨y, hy⟩ : ∃ y, rd l z = y := ⟨_, rfl⟩
    rw [hx] at hx0; rw [hy] at hx1
    have hz0 : 0 ≤ z := by omega
    have hil : (i : Int) < l.length := by omega
    have hnx : gapsC gaps l (i + 1) = gs ++ [⟨x, y, 0, 2000000⟩] := by
     rw [gapsC_succ, ← HG.out]; show gs ++ [(⟨rd l (i : Int), rd l ((i + 1 : Nat) : Int), 0, 2000000⟩ : S82)] = _; rw [hx, show ((i + 1 : Nat) : Int) = z by omega, hy]
    have HNx := Aa hnx; have hmo := more_eq gs x y (by rw [HG.out, gapsC_len]; have := HLn.out; omega); have HMo := Aa hmo
    have S0 : ∀ {W : World}, Below w.heap.size w W → Below w.heap.size w W ∧ W.cell? (ad.add i) = some (.int .i64 x) ∧ W.cell? (ad.add z.toNat) = some (.int .i64 y) := fun h => ⟨h, pw_cell_below h hx0, pw_cell_below h hx1⟩
    have HBr := Aa hBr; have HBx := Aa (show Below w0.heap.size w0 wr from HBw.out); have HCx := Aa (show Kd.C k82 wr A gs.length gs from HCg.out); have HZe := Aa hze; have HIx := Aa (show i + 2 ≤ l.length by omega); clear hx hy hx0 hx1 hnx hmo hBr HBw HCg hze HI HG
    go_wp2_with fail
    go_region_held3 (fun W => Below w.heap.size w W ∧ W.cell? (ad.add i) = some (.int .i64 x) ∧ W.cell? (ad.add z.toNat) = some (.int .i64 y))
     (first | exact S0 (Dn HBr.out) | (go_split_ands; first | exact S0 (Dn (by assumption)) | exact S0 (Bp (Dn HBr.out) hb)) | (trace_state; fail))
     (first | (go_at_call 51; go_split_ands; (with_reducible refine (rf_more.calls A cc gs x y _ _ (Kd.C_drew HCx.out) HCc.out HMo.out).mono ?_); rintro e w' ⟨v1, rfl, hR, hb⟩))
    rename_i hSx
    obtain ⟨A', c', hv', hc', hC'⟩ := Kd.R_reads hR; subst hv'; have HR2 := Aa hC'; have Hc' := Aa hc'; have HB2 := Aa (Bp (Dn HBx.out) hb); clear hR hb hSx hc' hC'; go_wp2
    go_roundw
    case rel => exact ⟨i + 1, A', c', _, rfl, (by rw [HZe.out]; simp), ⟨.inl (by have := HIx.out; omega)⟩, ⟨HNx.out.symm⟩, Hc', HR2, HB2⟩
    case measure => have := HZe.out; simp [intOf]; omega
   ·have ei : i = l.length - 1 := by have := HI.out; omega
    have hG2 : gs = gapsC gaps l (l.length - 1) := by rw [HG.out, ei]
    rw [← hG2] at HKS; have HBr := Aa hBr; have hk := blk_below HK.out HBw.out; have y0 := cell_at hk 0 (.slice A0 evs.length c0) rfl; have HT := Aa (rf_Solve.calls ks A0 c0 evs A cc gs L (canB evs gaps l) wr (Kd.C_below HC0.out hBr) Hc0.out HCg.out HCc.out HKS.out); clear hBr hk HBw HI HG hG2 ei hze
    go_wp2_with fail
    refine HT.out.mono ?_; rintro e w6 ⟨v6, rfl, _, hb⟩; have HB6 := Aa (Bp HBr.out hb); clear hb HT y0; go_wp2; go_ret; exact ⟨rfl, HB6.out⟩
 ·rw [if_neg c] at h; cases h
end Go.Proofs.YtobcecgcegoooaaGreat.Sk
namespace Go.Proofs.YtobcecgcegoooaaGreat.Sk
open Go.RowKit Go.Shelf Go.Maps Go.Proofs.YtobcecgcegoooaaGreatW.PrintWords Go.Proofs.YtobcecgcegoooaaGreatW.PrintLast Go.Proofs.YtobcecgcegoooaaGreatW.PrintMore
attribute [local go_sem] Oper.semAt_some
set_option linter.unusedVariables false
set_option linter.unusedSimpArgs false
section
variable {F : Fence} {nF : Nat} {P : Program} {ops : Array Oper} {rest : List Oper} {o : Oper} {a : Act} {Q : Exit → Act → World → Prop} {α : Type}
theorem R_append_in (d : Kd α) {w0 W : World} (base : Nat) (hgd : o.guard = none) (s x : Operand) (t e : TypeId) (z : Value) (bytes : Nat)
  (ho : o.op = .call { callee := .builtin .append, args := #[s, x], argTypes := #[t, t] })
  (ht : P.underlying t = some (.slice e)) (hinfo : (P.info? e).map (fun i => (i.zero, i.size, i.bytes)) = some (some z, d.sz, bytes)) (hz : z.cells.size = d.sz) (hs0 : 0 < d.sz) (hb0 : 0 < bytes)
  (v : Value) (xs : List α) (p : α) (cs : List Value) (ok okp : Nat → Prop) (hs : a.eval s = v) (hx : a.eval x = .slice (some ⟨W.heap.size, 0, none⟩) 1 1) (hp : d.M W base okp p cs) (hokp : ∀ k, okp k → ok k ∧ some k ≠ v.ownBlock) (hfresh : ∀ k, W.heap.size ≤ k → ok k)
  (HO : d.R e W base ok v xs) (HB : Below base w0 W) (hbase : base ≤ W.heap.size) (hl : (xs.length + 1) * bytes ≤ 140737488355328)
  (h : ∀ v1 w1, d.R e w1 base ok v1 (xs ++ [p]) → Below base w0 w1 → W.grownBy w1 v.ownBlock → (v1.ownBlock = v.ownBlock ∨ ∃ b, v1.ownBlock = some b ∧ W.heap.size ≤ b) → wpListIn F nF P ops Q rest (a.put o.dst v1) w1) :
  wpListIn F nF P ops Q (o :: rest) a (W.alloc (.cells cs.toArray e)) := by
 obtain ⟨h0, inner, hown, hr⟩ := HO; obtain ⟨i0, hi, hzz⟩ := Option.map_eq_some_iff.1 hinfo; simp only [Prod.mk.injEq] at hzz; obtain ⟨hz0, hz1, hz2⟩ := hzz; have hys : cs.length = d.sz := d.K_len (d.K_of_M hp); have hlen : xs.length + 1 ≤ 140737488355328 := Nat.le_trans (Nat.le_mul_of_pos_right _ hb0) hl
 refine wpListIn_append_own_at (W.alloc (.cells cs.toArray e)) hgd s x t ho base e i0 z d.sz bytes ht hi hz0 hz1 hz2 hz hs0 v xs.length inner hs (hown.alloc _) ⟨W.heap.size, 0, none⟩ 1 1 cs hx (by rw [hys]; simp)
  (by simpa using World.news_of_block (cs := cs.toArray) (t := e) (fr := (0, 0)) (heap_alloc_new W (.cells cs.toArray e))) (d.K_one (d.K_of_M hp)) (by simp only [maxLen]; omega) hl (by simp; omega) ?_
 intro v1 w1 hown1 hg _ hat; have hg2 := World.grownBy.trans (World.grownBy_alloc W _ v.ownBlock) hg
 have hat2 : v1.ownBlock = v.ownBlock ∨ ∃ b, v1.ownBlock = some b ∧ W.heap.size ≤ b := by
  rcases hat with hat | hat
  ·exact .inl hat
  ·exact .inr ⟨_, hat, by simp⟩
 exact h v1 w1 (Kd.R_appended h0 hr hp hokp hfresh hown1 hg2 hat2) ((HB.alloc hbase _).grown hg (by simp; omega) (own_base hown)) hg2 hat2
end
def omF (f : Int → Option Bool) : Int → Bool := fun k => (f k).getD false
def rstep (L : List (Int × S61)) (st : (Int → Option Bool) × List Int) (x : Int × S61) : (Int → Option Bool) × List Int :=
 if (tightenF (bindP (omF (upd st.1 x.1 true)) L)).isSome = true then (upd (upd st.1 x.1 true) x.1 false, st.2 ++ [x.1]) else (upd st.1 x.1 true, st.2)
def reasonS (L : List (Int × S61)) (fs : List Fc) : (Int → Option Bool) × List Int := fs.foldl (fun st x => rstep L st x.1) (fun _ => none, [])
theorem reasonS_snoc (L : List (Int × S61)) (fs : List Fc) (x : Fc) : reasonS L (fs ++ [x]) = rstep L (reasonS L fs) x.1 := by
 unfold reasonS; rw [List.foldl_append]; rfl
theorem rstep_len (L : List (Int × S61)) (st : (Int → Option Bool) × List Int) (x : Int × S61) : (rstep L st x).2.length ≤ st.2.length + 1 := by
 unfold rstep; split <;> simp
theorem foldl_len (L : List (Int × S61)) : ∀ (fs : List Fc) (st : (Int → Option Bool) × List Int), (fs.foldl (fun st x => rstep L st x.1) st).2.length ≤ st.2.length + fs.length
 | [], st => by simp
 | x :: fs, st => by
  have h1 := foldl_len L fs (rstep L st x.1); have h2 := rstep_len L st x.1; rw [List.foldl_cons, List.length_cons]; omega
theorem reasonS_len (L : List (Int × S61)) (fs : List Fc) : (reasonS L fs).2.length ≤ fs.length := by
 have := foldl_len L fs (fun _ => none, []); unfold reasonS; simp only [List.length_nil, Nat.zero_add] at this; exact this
def reasonP (L : List (Int × S61)) : List Int := (L.foldl (rstep L) (fun _ => none, [])).2
theorem reasonP_eq (L : List (Int × S61)) (fs : List Fc) (h : fs.map (·.1) = L) : (reasonS L fs).2 = reasonP L := by
 have : reasonP L = ((fs.map (·.1)).foldl (rstep L) (fun _ => none, [])).2 := by rw [h]; rfl
 rw [this, List.foldl_map]; rfl
theorem facts_ex' (evs : List S65) (gaps : List S82) (h : histOk evs gaps) : ∃ fs : List Fc, IsFacts evs gaps fs ∧ (∀ om, bindF om fs = bindP om (saidL evs gaps)) ∧ (reasonS (saidL evs gaps) fs).2 = reasonP (saidL evs gaps) ∧ fs.length = evs.length + gaps.length := by
 obtain ⟨fs, h1, h2, h3⟩ := facts_ex0 evs gaps h; exact ⟨fs, h1, h2, reasonP_eq _ _ h3, h1.1⟩
def skew_Reason.f (evs : List S65) (gaps : List S82) : Option (List Int × Int) :=
 (skew_isHist.f 1000 evs gaps).bind fun t => if t = true then
  if histOk evs gaps then if (tightenF (bindP (fun _ => false) (saidL evs gaps))).isSome = true then some ([], 5) else some (reasonP (saidL evs gaps), 0)
  else none
 else some ([], 2)
theorem keepsFrom_below {B : Nat} {W W' : World} (hb : Below W.heap.size W W') : KeepsFrom B W W' := ⟨hb.size, fun k o _ hk _ => (hb.block k (blk_lt hk)).trans hk⟩
structure RI (w W3 W : World) (hv : Array Value) (n : Nat) (f : Int → Option Bool) (vl : Value) (rs : List Int) : Prop where
 mp : MapIs elB W W3.heap.size n f
 kb : W.heap[W3.heap.size + 1]? = some (.cells #[.map (some W3.heap.size)] 111 (0, 0))
 k26 : W.heap[W3.heap.size + 1 + 1]? = some (.cells #[vl] 26 (0, 0))
 own : Kd.R (Kd.int .i64) 3 W (W3.heap.size + 4) (fun _ => True) vl rs
 k25 : W.heap[w.heap.size]? = some (.cells hv 25 (0, 0))
 bel : Below W3.heap.size W3 W
 sz : W3.heap.size + 3 ≤ W.heap.size
theorem RI.below {w W3 W W' : World} {hv : Array Value} {n : Nat} {f : Int → Option Bool} {vl : Value} {rs : List Int} (h : RI w W3 W hv n f vl rs) (hb : Below W.heap.size W W') : RI w W3 W' hv n f vl rs :=
 ⟨h.mp.below hb, blk_below h.kb hb, blk_below h.k26 hb, Kd.R_below h.own hb, blk_below h.k25 hb, Bp h.bel hb, Nat.le_trans h.sz hb.size⟩
theorem RI.others {w W3 W W' : World} {hv : Array Value} {n : Nat} {f : Int → Option Bool} {vl : Value} {rs : List Int} (h : RI w W3 W hv n f vl rs) {row : Option Nat} (hg : W.grownBy W' row) (hr : ∀ r, row = some r → W3.heap.size + 3 ≤ r) (hn : vl.ownBlock = none ∨ vl.ownBlock ≠ row) (hw : w.heap.size < W3.heap.size) : RI w W3 W' hv n f vl rs :=
 ⟨h.mp.kept hg (fun e => by have := hr _ e.symm; omega), blk_grown h.kb hg (fun e => by have := hr _ e.symm; omega), blk_grown h.k26 hg (fun e => by have := hr _ e.symm; omega), ri_grown h.own hg hn, blk_grown h.k25 hg (fun e => by have := hr _ e.symm; omega), below_grown h.bel hg h.bel.size (fun r e => by have := hr r e; omega), Nat.le_trans h.sz hg.size⟩
theorem RI.store {w W3 W W' : World} {hv : Array Value} {n n' : Nat} {f f' : Int → Option Bool} {vl : Value} {rs : List Int} (h : RI w W3 W hv n f vl rs) (hm : MapIs elB W' W3.heap.size n' f') (hg : W.grownBy W' (some W3.heap.size)) (hw : w.heap.size < W3.heap.size) : RI w W3 W' hv n' f' vl rs :=
 ⟨hm, blk_grown h.kb hg (fun e => by injection e with e; omega), blk_grown h.k26 hg (fun e => by injection e with e; omega), ri_grown h.own hg (.inr (fun e => by have := (ri_lt h.own _ e).1; omega)), blk_grown h.k25 hg (fun e => by injection e with e; omega), below_grown h.bel hg h.bel.size (fun r e => by injection e with e; omega), Nat.le_trans h.sz hg.size⟩
theorem RI.kept40 {w W3 W w1 : World} {hv : Array Value} {n : Nat} {f : Int → Option Bool} {vl : Value} {rs : List Int} (h : RI w W3 W hv n f vl rs) (hg : W.grownBy w1 vl.ownBlock) : w1.heap[W3.heap.size + 1 + 1]? = some (.cells #[vl] 26 (0, 0)) :=
 (hg.block (W3.heap.size + 1 + 1) (by have := h.sz; omega) (fun e => by have := (ri_lt h.own _ e.symm).1; omega)).trans h.k26
theorem RI.put {w W3 W w1 : World} {hv : Array Value} {n : Nat} {f : Int → Option Bool} {vl v1 : Value} {rs l1 : List Int} (h : RI w W3 W hv n f vl rs) (hg : W.grownBy w1 vl.ownBlock) (ho : Kd.R (Kd.int .i64) 3 w1 (W3.heap.size + 4) (fun _ => True) v1 l1) (hw : w.heap.size < W3.heap.size) :
  RI w W3 (w1.setCell ⟨W3.heap.size + 1 + 1, 0, none⟩ v1) hv n f v1 l1 := by
 have hz := h.sz
 have hne : ∀ k, k < W3.heap.size + 3 → some k ≠ vl.ownBlock := fun k hk e => by have := (ri_lt h.own k e.symm).1; omega
 have h39 := (hg.block w.heap.size (by omega) (hne _ (by omega))).trans h.k25; have hkb := (hg.block (W3.heap.size + 1) (by omega) (hne _ (by omega))).trans h.kb; have hb : Below W3.heap.size W3 w1 := below_grown h.bel hg h.bel.size (fun r e => by have := (ri_lt h.own r e).1; omega); exact ⟨(h.mp.kept hg (hne _ (by omega))).setCell (show W3.heap.size ≠ W3.heap.size + 1 + 1 by omega) _, blk_far hkb (by omega) _, blk_set1 (h.kept40 hg) _, ri_step ho (fun k hk => Below.heap_setCell _ _ _ _ (by have := (ri_lt ho k hk).1; show k ≠ W3.heap.size + 1 + 1; omega)), blk_far h39 (by omega) _, hb.setCell (show W3.heap.size ≤ W3.heap.size + 1 + 1 by omega) _, (by rw [World.size_setCell]; exact Nat.le_trans hz hg.size)⟩
theorem RI.start {w W3 : World} {hv : Array Value} (hk : W3.heap[w.heap.size]? = some (.cells hv 25 (0, 0))) : RI w W3 (((W3.alloc (.map #[] 0)).alloc (.cells #[.map (some W3.heap.size)] 111)).alloc (.cells #[.slice none 0 0] 26)) hv 0 (fun _ => none) (.slice none 0 0) [] := by
 have h1 := blk_new (W3.alloc (.map #[] 0)) (.cells #[.map (some W3.heap.size)] 111); rw [World.size_alloc] at h1; have h2 := blk_new ((W3.alloc (.map #[] 0)).alloc (.cells #[.map (some W3.heap.size)] 111)) (.cells #[.slice none 0 0] 26); rw [World.size_alloc, World.size_alloc] at h2; exact ⟨((MapIs.made W3).alloc _).alloc _, Ka h1 _, h2, Kd.R_nil _ _ _ _ _, Ka (Ka (Ka hk _) _) _, Ba (Ba (Ba (Below.refl _ _) _) _) _, by rw [World.size_alloc, World.size_alloc, World.size_alloc]; omega⟩
set_option maxHeartbeats 4000000 in
set_option maxRecDepth 100000 in
theorem skew_Reason.calls (A0 : Option Addr) (c0 : Nat) (evs : List S65) (A1 : Option Addr) (c1 : Nat) (gaps : List S82) (r1 : List Int) (r2 : Int) (w : World) (hC0 : Kd.C k65 w A0 evs.length evs) (hc0 : evs.length ≤ c0) (hC1 : Kd.C k82 w A1 gaps.length gaps) (hc1 : gaps.length ≤ c1) (h : skew_Reason.f evs gaps = some (r1, r2)) :
  Calls Tryz.prog 40 #[.agg #[.slice A0 evs.length c0, .slice A1 gaps.length c1]] w fun e w' => ∃ v0_ : Value, e = .returned (.tuple #[v0_, .int .i64 r2]) ∧ Kd.V (Kd.int .i64) 3 w' w.heap.size (fun k_ => (w.heap.size ≤ k_)) v0_ r1 ∧ Below w.heap.size w w' := by
 unfold skew_Reason.f at h; obtain ⟨t, ht, h⟩ := Option.bind_eq_some_iff.mp h; have hmm := @run_makeMap Tryz.prog; have hb0 := Ba (Below.refl w.heap.size w) (.cells #[.slice A0 evs.length c0, .slice A1 gaps.length c1] 25); have hk0 := blk_new w (.cells #[.slice A0 evs.length c0, .slice A1 gaps.length c1] 25); have HIs := Aa (skew_isHist.calls 1000 A0 c0 evs A1 c1 gaps t _ (Kd.C_below hC0 hb0) hc0 (Kd.C_below hC1 hb0) hc1 ht); have x0 := cell_at hk0 0 (.slice A0 evs.length c0) rfl; have x1 := cell_at hk0 1 (.slice A1 gaps.length c1) rfl; have HB0 := Aa hb0; have HK0 := Aa hk0; have HC0 := Aa hC0; have HC1 := Aa hC1; clear hb0 hk0 ht hC0 hC1; refine (callsIn_wide (n := 10)).1 ?_; refine callsIn_of_wp_marks Tryz.func40 rfl trivial ?_ rfl; simp only [Tryz.ntmps40, List.size_toArray, List.length_cons, List.length_nil, Nat.reduceAdd, Nat.reduceSub, Array.replicate_succ, Array.replicate_zero, List.push_toArray, List.append_toArray, List.nil_append, List.cons_append]
 cases t with
 | false =>
  rw [if_neg (by simp)] at h; simp only [Option.some.injEq, Prod.mk.injEq] at h; obtain ⟨rfl, rfl⟩ := h
  gi_wp2_with (refine ⟨trivial, ?_⟩; gi_at_call 12; refine (callsIn_wide.2 HIs.out).mono ?_; rintro e w1 ⟨rfl, hb⟩; have HB1 := Aa (Bp HB0.out hb); clear hb)
  exact ⟨_, results_tmp2 rfl _ _ _, _, rfl, Kd.V_nil _ _ _ _ _, HB1.out⟩
 | true =>
  rw [if_pos rfl] at h
  by_cases hok : histOk evs gaps
  ·rw [if_pos hok] at h; obtain ⟨fs, hfs, hbp, hrp, hfl⟩ := facts_ex' evs gaps hok; have HFs := Aa hfs; have HBp := Aa hbp; have HRp := Aa hrp; have HFl := Aa hfl; have HOk := Aa hok; have H := Aa h; clear h hfs hbp hrp hfl hok
   gi_wp2_with fail
   refine ⟨trivial, ?_⟩; refine (callsIn_wide.2 HIs.out).mono ?_; rintro e w1 ⟨rfl, hb⟩; have HB1 := Aa (Bp HB0.out hb); have hk1 := blk_below HK0.out hb; have HK1 := Aa hk1; have y0 := cell_at hk1 0 (.slice A0 evs.length c0) rfl; have y1 := cell_at hk1 1 (.slice A1 gaps.length c1) rfl; have HC := Aa (bind_calls A0 A1 c0 c1 evs gaps fs HFs.out none (fun _ => false) w1 (Kd.C_below HC0.out HB1.out) (Kd.C_below HC1.out HB1.out) HOk.out.1 HOk.out.2.1 (fun W _ k h0 h1 => look_nil W k h0 h1)); clear hb HIs x0 x1 hk1 HK0
   gi_wp2_with fail
   refine ⟨trivial, ?_⟩; refine (callsIn_wide.2 HC.out).mono ?_; rintro e w2 ⟨rfl, hbd, hb⟩; rw [HBp.out] at hbd; have HB2 := Aa (Bp HB1.out hb); have HT := Aa (tighten_calls _ w1.heap.size _ _ _ _ hbd (by omega)); have HBa := Aa hb; clear hbd hb HC y0 y1
   gi_wp2_with fail
   refine ⟨trivial, ?_⟩; refine (callsIn_wide.2 HT.out).mono ?_; rintro e w3 ⟨rfl, _, hb⟩; have HB3 := Aa (HB2.out.trans (below_weak hb HB1.out.size)); have hk3 := blk_below HK1.out (HBa.out.trans hb); have HK3 := Aa hk3; have HS3 := Aa (blk_lt hk3); clear hb HT HBa HK1
   cases htt : (tightenF (bindP (fun _ => false) (saidL evs gaps))).isSome with
   | true =>
    have h := H.out; rw [if_pos htt] at h; simp only [Option.some.injEq, Prod.mk.injEq] at h; obtain ⟨rfl, rfl⟩ := h; clear H htt hk3
    gi_wp2
    exact ⟨_, results_tmp2 rfl _ _ _, _, rfl, Kd.V_nil _ _ _ _ _, HB3.out⟩
   | false =>
    have h := H.out; rw [if_neg (by rw [htt]; simp)] at h; simp only [Option.some.injEq, Prod.mk.injEq] at h; obtain ⟨h1, rfl⟩ := h; have HR1 := Aa h1; have HI0 := Aa (RI.start (w := w) hk3); have x0 := cell_at HI0.out.k25 0 (.slice A0 evs.length c0) rfl; have x1 := cell_at HI0.out.k25 1 (.slice A1 gaps.length c1) rfl; clear H htt hk3 h1
    gi_wp2_with fail
    have hsz0 : (((w3.alloc (.map #[] 0)).alloc (.cells #[.map (some w3.heap.size)] 111)).alloc (.cells #[.slice none 0 0] 26)).heap.size = w3.heap.size + 3 := by rw [World.size_alloc, World.size_alloc, World.size_alloc]
    have HZ0 := Aa hsz0; have HBz := Aa (HB3.out.trans (below_weak (Ba (Ba (Ba (Below.refl _ _) _) _) _) HB3.out.size) : Below w.heap.size w (((w3.alloc (.map #[] 0)).alloc (.cells #[.map (some w3.heap.size)] 111)).alloc (.cells #[.slice none 0 0] 26))); clear hsz0; generalize (((w3.alloc (.map #[] 0)).alloc (.cells #[.map (some w3.heap.size)] 111)).alloc (.cells #[.slice none 0 0] 26)) = W0 at HI0 x0 x1 HZ0 HBz ⊢; refine ⟨trivial, ?_⟩; refine (said_calls A0 A1 evs.length gaps.length c0 c1 Fence.wide _ trivial rfl _).mono ?_; rintro e w' ⟨rfl, rfl⟩; clear x0 x1
    gi_wp2_with fail
    have kbox := blk_new W0 (.cells #[.slice A0 evs.length c0, .slice A1 gaps.length c1] 25); have hI1 := HI0.out.below (Ba (Below.refl _ _) (.cells #[.slice A0 evs.length c0, .slice A1 gaps.length c1] 25)); have hBw1 := Ba HBz.out (.cells #[.slice A0 evs.length c0, .slice A1 gaps.length c1] 25); have hzz := HZ0.out; have hs3 := HS3.out; have hs1 : (W0.alloc (.cells #[.slice A0 evs.length c0, .slice A1 gaps.length c1] 25)).heap.size = W0.heap.size + 1 := World.size_alloc _ _; have hstops := said1_stops A0 A1 c0 c1 evs gaps fs HFs.out Fence.wide 9 trivial rfl (by omega) W0.heap.size (W0.heap.size + 1) (fun k => k = w3.heap.size ∨ k = w3.heap.size + 1 + 1) (W0.alloc (.cells #[.slice A0 evs.length c0, .slice A1 gaps.length c1] 25)) w (by omega) (by omega) kbox hBw1 (by omega) (fun k hk => by omega) (by omega) HC0.out HC1.out HOk.out.1 HOk.out.2.1; have HS1 := Aa hs1
    refine wpIn_rangeFunc_ownH rfl (by omega) (gf := 85) (lb := #[.pointer (some ⟨W0.heap.size, 0, none⟩)]) rfl trivial (enters_of Tryz.func85 (by kernel_rfl) rfl) hstops (fun h k => KB.trans h k)
     (fun W l o o' hl ho _ _ => by have hgp := grownBy_putObj' W l o'; exact ⟨hgp.os, hgp.tape, hgp.output, hgp.size, fun k hk _ => hgp.block k (by have := blk_lt ho; omega) (fun e => by injection e with e; omega)⟩) (Below.refl _ _) (fun _ => rfl)
     (fun pre W => (∃ vl, RI w w3 W #[.slice A0 evs.length c0, .slice A1 gaps.length c1] (2 * pre.length) (reasonS (saidL evs gaps) pre).1 vl (reasonS (saidL evs gaps) pre).2) ∧ W0.heap.size + 1 ≤ W.heap.size) (fun _ _ _ => False)
     (fun pre X Y row hs hg hr => ?own) (fun _ _ _ _ _ hs _ _ => hs) ⟨⟨_, hI1⟩, by omega⟩
     (fun x a' W => a' = { tmps := #[.agg #[.slice A0 evs.length c0, .slice A1 gaps.length c1], .pointer (some ⟨w.heap.size, 0, none⟩), .slice none 0 0, .int .i64 0, .pointer (some ⟨w3.heap.size + 1, 0, none⟩), .pointer (some ⟨w3.heap.size + 1 + 1, 0, none⟩), .int .i64 x.1.1, .agg #[.slice A0 evs.length c0, .slice A1 gaps.length c1], .bool true, .bool false, .agg #[.slice A0 evs.length c0, .slice A1 gaps.length c1], .pointer (some ⟨w1.heap.size + 2, 0, none⟩), .pointer (some ⟨w1.heap.size + 2, 0, none⟩), .pointer (some ⟨w1.heap.size + 2, 2, none⟩), .bool false, .map (some w3.heap.size), .agg #[.slice A0 evs.length c0, .slice A1 gaps.length c1], .func (.func 85) #[] #[.pointer (some ⟨W0.heap.size, 0, none⟩)], .int .i64 x.1.1, .agg #[.int .i64 x.1.2.f0, .int .i64 x.1.2.f1, .int .i64 x.1.2.f2, .int .i64 x.1.2.f3], undef, undef, undef, undef, undef, undef, undef, undef, undef, undef, undef, undef, undef, undef, undef, undef], defers := [] })
     (fun x a' _ X Y row hs hg hr => hs) ?assign ?body ?done ?stop
    case own =>
     obtain ⟨⟨vl, hi⟩, hsz⟩ := hs; refine ⟨⟨vl, hi.others hg (fun r e => by have := (hr r e).1; omega) ?_ hs3⟩, Nat.le_trans hsz hg.size⟩
     by_cases hn : vl.ownBlock = none
     ·exact .inl hn
     ·refine .inr (fun e => ?_); obtain ⟨k, hk⟩ : ∃ k, vl.ownBlock = some k := Option.ne_none_iff_exists'.mp hn; obtain ⟨_, o, ho, hc⟩ := hr k (e.symm.trans hk); obtain ⟨_, _, _, q, hq, cells, hcell⟩ := (Kd.R_bound hi.own).1 k hk; rw [hcell] at ho; cases ho; cases hc
    case assign =>
     rintro l pre x W K ⟨hi, hsz⟩ hK; clear hzz hs1 hs3; dsimp only [Fc.enc]
     gi_wp2
     exact hK _ _ (KeepsFrom.refl _ _) (KB.refl _ _ W) ⟨hi, hsz⟩ rfl
    case body =>
     rintro l pre x a' W hl hr ⟨⟨vl, hi⟩, hsz⟩ rfl hlt; have HSz := Aa hsz; have HHl := Aa hl; have HLt := Aa hlt; have HS := Aa (reasonS_snoc (saidL evs gaps) pre x); have HRl := Aa (reasonS_len (saidL evs gaps) pre)
     obtain ⟨st, hst⟩ : ∃ st, reasonS (saidL evs gaps) pre = st := ⟨_, rfl⟩
     rw [hst] at hi HS HRl; clear hzz hs1 hs3 hst hstops kbox hI1 hBw1 hsz hl hr hlt; have HI := Aa hi; have x1 := cell_at hi.kb 0 (.map (some w3.heap.size)) rfl; have HKx := Aa (okI_of (show -9223372036854775808 ≤ x.1.1 ∧ x.1.1 ≤ 9223372036854775807 by have := x.2.1; omega))
     have hpl : pre.length ≤ 30 := by have h1 := HLt.out; have h2 := HFl.out; have h3 := HOk.out; have h4 := h3.1; have h5 := h3.2.1; omega
     have HPl := Aa hpl; obtain ⟨wm, hrun, hmp, hgm⟩ := hi.mp.store_run (t := 111) Tryz.underlying111 (by unfold maxLen; omega) HKx.out (x := true) trivial; have hst1 : (Instr.mapUpdate 111 (.map (some w3.heap.size)) (.int .i64 x.1.1) (.bool true)).run Tryz.prog W = .ok () wm := hrun; have hIm := hi.store hmp hgm HS3.out; have HIm := Aa hIm; have HMp := Aa hmp; have HGm := Aa (KB.of (n₀ := W0.heap.size + 1) (P := fun k => k = w3.heap.size ∨ k = w3.heap.size + 1 + 1) hgm (fun r e => .inl (.inl (by injection e with e; exact e.symm))) HSz.out); have HFm := Aa (KeepsFrom.of_grownBy (B := (W0.alloc (.cells #[.slice A0 evs.length c0, .slice A1 gaps.length c1] 25)).heap.size) hgm (fun j e => by injection e with e; have h1 := HZ0.out; have h2 := HS1.out; omega)); have y1 := cell_at hIm.kb 0 (.map (some w3.heap.size)) rfl; have z0 := cell_at hIm.k25 0 (.slice A0 evs.length c0) rfl; have z1 := cell_at hIm.k25 1 (.slice A1 gaps.length c1) rfl; have HC := Aa (bind_calls A0 A1 c0 c1 evs gaps fs HFs.out (some w3.heap.size) (omF (upd st.1 x.1.1 true)) wm (Kd.C_below HC0.out (Bp HB3.out hIm.bel)) (Kd.C_below HC1.out (Bp HB3.out hIm.bel)) HOk.out.1 HOk.out.2.1 (fun W' hb k h0 h1 => (HMp.out.below hb).look_run (t := 111) Tryz.underlying111 (okI_of (by omega)) false)); clear hi hrun hmp hgm hIm hpl
     gi_wp2_with fail
     clear hst1 x1; refine ⟨trivial, ?_⟩; refine (CallsIn.inRound l (callsIn_wide.2 HC.out)).mono ?_; rintro e w5 ⟨rfl, hbd, hb⟩; rw [HBp.out] at hbd; have HB5 := Aa hb; have HT := Aa (tighten_calls _ wm.heap.size _ _ _ _ hbd (by omega)); clear hbd hb HC y1 z0 z1
     gi_wp2_with fail
     refine ⟨trivial, ?_⟩; refine (CallsIn.inRound l (callsIn_wide.2 HT.out)).mono ?_; rintro e w6 ⟨rfl, _, hb⟩; have hb6 := HB5.out.trans hb; have HI6 := Aa (HIm.out.below hb6); have HG6 := Aa (HGm.out.trans (KB.ofBelow hb6 (Nat.le_trans HSz.out HGm.out.size))); have HF6 := Aa (HFm.out.trans (keepsFrom_below hb6)); clear hb hb6 HT HB5 HIm HGm HFm HMp
     cases htt : (tightenF (bindP (omF (upd st.1 x.1.1 true)) (saidL evs gaps))).isSome with
     | false =>
      have hs : reasonS (saidL evs gaps) (pre ++ [x]) = (upd st.1 x.1.1 true, st.2) := by rw [HS.out]; unfold rstep; rw [if_neg (by rw [htt]; simp)]
      have HS2 := Aa hs; clear hs htt
      gi_wp2
      refine ⟨HF6.out, HG6.out, ⟨vl, ?_⟩, Nat.le_trans HSz.out HG6.out.size⟩; rw [HS2.out]; have hI := HI6.out
      exact ⟨hI.mp.mono (by simp; omega), hI.kb, hI.k26, hI.own, hI.k25, hI.bel, hI.sz⟩
     | true =>
      have hs : reasonS (saidL evs gaps) (pre ++ [x]) = (upd (upd st.1 x.1.1 true) x.1.1 false, st.2 ++ [x.1.1]) := by rw [HS.out]; unfold rstep; rw [if_pos htt]
      have HS2 := Aa hs; have hI := HI6.out; obtain ⟨wq, hrun, hmp, hgm⟩ := hI.mp.store_run (t := 111) Tryz.underlying111 (by unfold maxLen; have := HPl.out; omega) HKx.out (x := false) trivial; have hst2 : (Instr.mapUpdate 111 (.map (some w3.heap.size)) (.int .i64 x.1.1) (.bool false)).run Tryz.prog w6 = .ok () wq := hrun; have y1 := cell_at hI.kb 0 (.map (some w3.heap.size)) rfl; have hIq := hI.store hmp hgm HS3.out; have HIq := Aa hIq; have y2 := cell_at hIq.k26 0 vl rfl; have HGq := Aa (HG6.out.trans (KB.of (n₀ := W0.heap.size + 1) (P := fun k => k = w3.heap.size ∨ k = w3.heap.size + 1 + 1) hgm (fun r e => .inl (.inl (by injection e with e; exact e.symm))) (Nat.le_trans HSz.out HG6.out.size))); have HFq := Aa (HF6.out.trans (KeepsFrom.of_grownBy (B := (W0.alloc (.cells #[.slice A0 evs.length c0, .slice A1 gaps.length c1] 25)).heap.size) hgm (fun j e => by injection e with e; have h1 := HZ0.out; have h2 := HS1.out; omega))); clear hs htt hI hrun hmp hgm hIq HI6 HG6 HF6
      gi_wp2_with (gi_at_builtin; go_must (refine R_append_in (Kd.int .i64) (w0 := wq) (W := wq) (w3.heap.size + 4) rfl (.tmp 30) (.tmp 32) 26 3 (.int .i64 0) 8 rfl Tryz.underlying26 info3 rfl (by decide) (by decide) vl st.2 x.1.1 [.int .i64 x.1.1] (fun _ => True) (fun _ => False) rfl rfl rfl (fun _ hk => hk.elim) (fun _ _ => trivial) HIq.out.own (Below.refl _ _) (by have h1 := HSz.out; have h2 := HGq.out.size; have h3 := HZ0.out; omega) (by have := HRl.out; have := HPl.out; omega) ?_; intro v1 w9 ho hb hg hat; obtain ⟨A8, c8, hv8⟩ := Kd.R_slice ho; obtain ⟨n8, hn8⟩ : ∃ n8, (st.2 ++ [x.1.1]).length = n8 := ⟨_, rfl⟩; rw [hn8] at hv8; clear hn8; subst hv8; have HI9 := Aa (HIq.out.put hg ho HS3.out); have x49 := cell_at (HIq.out.kept40 hg) 0 vl rfl; have z49 := Bf (HIq.out.kept40 hg) 0; have HG9 := Aa hg; clear ho hb hat hg))
      have hgo : KeepsOthers wq w9 := KeepsOthers.of_grownBy HG9.out (fun j o e ho => by
       obtain ⟨_, _, _, q, hq, cells, hcell⟩ := (Kd.R_bound HIq.out.own).1 j e
       rw [hcell] at ho; cases ho; rfl)
      have hkb : KB (W0.heap.size + 1) (fun k => k = w3.heap.size ∨ k = w3.heap.size + 1 + 1) wq w9 := KB.of HG9.out (fun r e => .inr (by have h1 := (ri_lt HIq.out.own r e).1; have h3 := HZ0.out; omega)) (Nat.le_trans HSz.out HGq.out.size); have hsz9 : w9.heap.size = (w9.setCell ⟨w3.heap.size + 1 + 1, 0, none⟩ (.slice A8 n8 c8)).heap.size := (World.size_setCell _ _ _).symm
      have hks : KB (W0.heap.size + 1) (fun k => k = w3.heap.size ∨ k = w3.heap.size + 1 + 1) w9 (w9.setCell ⟨w3.heap.size + 1 + 1, 0, none⟩ (.slice A8 n8 c8)) := ⟨rfl, rfl, rfl, Nat.le_of_eq hsz9, fun k _ hk => Below.heap_setCell _ _ _ _ (fun e => hk (.inr e))⟩
      refine ⟨HFq.out.trans ((hgo.from _).trans ((KeepsOthers.setCell w9 ⟨w3.heap.size + 1 + 1, 0, none⟩ (.slice A8 n8 c8)).from _)), HGq.out.trans (hkb.trans hks), ⟨.slice A8 n8 c8, ?_⟩, Nat.le_trans HSz.out (HGq.out.trans (hkb.trans hks)).size⟩; rw [HS2.out]; have hI := HI9.out; exact ⟨hI.mp.mono (by simp; omega), hI.kb, hI.k26, hI.own, hI.k25, hI.bel, hI.sz⟩
    case done =>
     rintro D xs W hD rfl ⟨⟨vl, hi⟩, hsz⟩ hK; obtain ⟨A7, c7, hv7, hc7, hC7⟩ := Kd.R_reads hi.own; subst hv7; have x40 := cell_at hi.k26 0 (.slice A7 (reasonS (saidL evs gaps) xs).2.length c7) rfl; have HI := Aa hi; have HC7 := Aa hc7; have HC := Aa (clip81 A7 _ c7 hc7 W); clear hi hc7 hC7
     gi_wp2_with (refine ⟨trivial, ?_⟩; gi_at_call 24; refine (callsIn_wide.2 HC.out).mono ?_; rintro e w' ⟨rfl, rfl⟩)
     have hgp := grownBy_putObj' W D (.deferred none)
     have hD' : some D ≠ (Value.slice A7 (reasonS (saidL evs gaps) xs).2.length c7).ownBlock := fun e => by
      obtain ⟨_, _, _, q, hq, cells, hcell⟩ := (Kd.R_bound HI.out.own).1 D e.symm; rw [hcell] at hK; cases hK
     have hF := HI.out.others hgp (fun r e => by injection e with e; omega) (.inr (fun e => hD' e.symm)) hs3; refine ⟨by simp, .inl ⟨_, _, rfl, run_takeDeferred hK, ?_⟩⟩; refine ⟨_, results_tmp2 rfl _ _ _, _, rfl, ?_, Bp HB3.out hF.bel⟩; have hV := V_clip' (w := w) hF.own (by omega); rw [← HR1.out, ← HRp.out]; exact hV
    case stop =>
     rintro D c pre W hD _ hf hK; exact hf.elim
  ·rw [if_neg hok] at h; cases h
end Go.Proofs.YtobcecgcegoooaaGreat.Sk
namespace Go.Proofs.YtobcecgcegoooaaGreat.Sk
open Go.RowKit Go.Proofs.YtobcecgcegoooaaGreatW.PrintWords Go.Proofs.YtobcecgcegoooaaGreatW.PrintLast Go.Proofs.YtobcecgcegoooaaGreatW.PrintMore
set_option linter.unusedVariables false
set_option linter.unusedSimpArgs false
theorem ev_Some {evs : List S65} {gaps : List S82} (h : HistIs evs gaps) : Ev (fun k => rf_some.f k evs gaps) (if (solveR evs gaps).2 = true then 0 else 5) := by
 have hn := h.n; have hw := h.w; refine Ev.bind (f := fun _ bt275 => if bt275.2 = true then some (0 : Int) else some 5) (ev_Solve evs gaps (by omega) (by omega) h.gap h.big) ?_
 cases (solveR evs gaps).2 with
 | true => exact Ev.congr (f := fun _ => some 0) (fun k => by rw [if_pos rfl]) (by rw [if_pos rfl]; exact Ev.now _)
 | false => exact Ev.congr (f := fun _ => some 5) (fun k => by rw [if_neg (by simp)]) (by rw [if_neg (by simp)]; exact Ev.now _)
end Go.Proofs.YtobcecgcegoooaaGreat.Sk
namespace Go.Proofs.YtobcecgcegoooaaGreat.Sk
open Go.RowKit Go.Proofs.YtobcecgcegoooaaGreatW.PrintWords Go.Proofs.YtobcecgcegoooaaGreatW.PrintLast Go.Proofs.YtobcecgcegoooaaGreatW.PrintMore
attribute [local go_sem] max2_int min2_int max_two min_two
set_option linter.unusedVariables false
set_option linter.unusedSimpArgs false
def rf_Can.j0 : Nat → List Int → Bool → List (S65) → List (S82) → Option (Bool × Int)
 | 0, _, _, _, _ => none
 | k + 1, x1, x17, x336000, x336001 => if x17 = true then (some (false, 2)) else ((rf_some.f k x336000 x336001).bind fun t338 => (if t338 = 0 then ((rf_CanOf.f x336000 x336001 x1).bind fun t339 => (some (t339, 0))) else (some (false, t338))))
def rf_Can.f (k : Nat) (l0_0 : List (S65)) (l0_1 : List (S82)) (l1 : List Int) : Option (Bool × Int) := (rf_Hist.f k l0_0 l0_1).bind fun t336 => (if t336 = true then ((rf_IsOrder.f k l1 (l0_0.length : Int)).bind fun t337 => (rf_Can.j0 k l1 (!t337) l0_0 l0_1)) else (rf_Can.j0 k l1 true l0_0 l0_1))
set_option maxHeartbeats 8000000 in
set_option maxRecDepth 100000 in
theorem rf_Can.calls (k : Nat) (A0_0 : Option Addr) (c0_0 : Nat) (l0_0 : List (S65)) (A0_1 : Option Addr) (c0_1 : Nat) (l0_1 : List (S82)) (A1 : Option Addr) (c1 : Nat) (l1 : List Int) (r1 : Bool) (r2 : Int) (w : World) (hr0_0 : Kd.C k65 w A0_0 l0_0.length l0_0) (hc0_0 : l0_0.length ≤ c0_0) (hr0_1 : Kd.C k82 w A0_1 l0_1.length l0_1) (hc0_1 : l0_1.length ≤ c0_1) (hr1 : Kd.C (Kd.int .i64) w A1 l1.length l1) (hc1 : l1.length ≤ c1) (h : rf_Can.f k l0_0 l0_1 l1 = some (r1, r2)) :
  Calls Tryz.prog 9 #[.agg #[.slice A0_0 l0_0.length c0_0, .slice A0_1 l0_1.length c0_1], .slice A1 l1.length c1] w fun e w' => e = .returned (.tuple #[.bool r1, .int .i64 r2]) ∧ Below w.heap.size w w' := by
 have hu25 := Tryz.underlying25; have HR0_0 := Aa hr0_0; have HC0_0 := Aa hc0_0; clear hr0_0 hc0_0; have HR0_1 := Aa hr0_1; have HC0_1 := Aa hc0_1; clear hr0_1 hc0_1; have HR1 := Aa hr1; have HC1 := Aa hc1; clear hr1 hc1; have HB := Aa (Below.refl w.heap.size w); have H : ((rf_Hist.f k l0_0 l0_1).bind fun t336 => (if t336 = true then ((rf_IsOrder.f k l1 (l0_0.length : Int)).bind fun t337 => (rf_Can.j0 k l1 (!t337) l0_0 l0_1)) else (rf_Can.j0 k l1 true l0_0 l0_1))) = some (r1, r2) := h; clear h; have HC3 := Aa H; clear H
 go_enter Tryz.func9, Tryz.ntmps9
 go_upto_region 1 with (first | ((with_reducible refine gate_dst (N := 2) rfl ?_); (try (refine gate_guard (by rfl) ?_; dsimp only)); refine box_event ?hg (N := 2) ?hd (cs := #[.slice A0_0 l0_0.length c0_0, .slice A0_1 l0_1.length c0_1]) (t := 25) ?hr ?_; (case hd => rfl); (case hg => rfl); (case hr => first | (go_simp; done) | (go_simp; rfl)); intro gb335 hg w4 hbox hb; have n0_ := Aa (Bp (by repeat (first | (with_reducible first | exact HB.out | apply Ba | apply Pn | apply Dn) | exact HB.out)) hb); have n1_ := Aa (hbox); have n2_ := Aa ((by rw [hg]; exact (below_size (by repeat (first | (with_reducible first | exact HB.out | apply Ba | apply Pn | apply Dn) | exact HB.out))) : w.heap.size ≤ gb335)); have n3_ := Aa ((by rw [hg]; exact (below_size (by repeat (first | (with_reducible first | exact HB.out | apply Ba | apply Pn | apply Dn) | exact HB.out))) : w.heap.size ≤ gb335)); clear HB; have HB := n0_; have BK335 := n1_; have GW335 := n2_; have GE335 := n3_; clear n0_ n1_ n2_ n3_; clear hb hbox hg))
 (try simp only [Act.put, Sa, Sb, Sc])
 go_cut [17] (fun v17 wc => ∃ (kq : Nat) (x17_2 : Bool), v17 = .bool x17_2 ∧ Aside0 (rf_Can.j0 kq l1 x17_2 l0_0 l0_1 = some (r1, r2)) ∧ Aside0 (kq ≤ k) ∧ Aside0 (wc.heap[gb335]? = some (.cells #[(.slice A0_0 l0_0.length c0_0), (.slice A0_1 l0_1.length c0_1)] 25 (0, 0))) ∧ Aside0 (Below w.heap.size w wc))
 case first =>
  have H := HC3.out; clear HC3; replace H := Option.bind_eq_some_iff.mp H; obtain ⟨t336, A50, H⟩ := H; replace H : (if t336 = true then ((rf_IsOrder.f k l1 (l0_0.length : Int)).bind fun t337 => (rf_Can.j0 k l1 (!t337) l0_0 l0_1)) else (rf_Can.j0 k l1 true l0_0 l0_1)) = some (r1, r2) := H; have A5 := Aa A50; clear A50
  by_cases c6 : t336 = true
  ·subst c6
   have H1 : ((rf_IsOrder.f k l1 (l0_0.length : Int)).bind fun t337 => (rf_Can.j0 k l1 (!t337) l0_0 l0_1)) = some (r1, r2) := by rw [if_pos rfl] at H; exact H
   clear H; have H := H1; clear H1; replace H := Option.bind_eq_some_iff.mp H; obtain ⟨t337, A70, H⟩ := H; replace H : (rf_Can.j0 k l1 (!t337) l0_0 l0_1) = some (r1, r2) := H; have A7 := Aa A70; clear A70; have H' := Aa H; clear H; have hcz8_0 : w4.cell? ⟨gb335, 0, none⟩ = some (.slice A0_0 l0_0.length c0_0) := (Bc BK335.out 0).trans rfl; have hcz8_1 : w4.cell? ⟨gb335, 1, none⟩ = some (.slice A0_1 l0_1.length c0_1) := (Bc BK335.out 1).trans rfl; have hfz8_0 := Bf BK335.out 0; have hfz8_1 := Bf BK335.out 1
   go_wp2_with (first | ((with_reducible refine gate_callee (f := 16) rfl ?_); refine goesL_ (some 8) rfl rfl Tryz.func16 (by kernel_rfl) rfl #[.agg #[.slice A0_0 l0_0.length c0_0, .slice A0_1 l0_1.length c0_1]] rfl (by (try simp only [List.map_toArray, List.map_cons, List.map_nil]); first | done | rfl | (simp only [List.length_drop, List.length_take]; rfl)) ?_; (with_reducible refine (rf_Hist.calls k _ _ l0_0 _ _ l0_1 true _ ?side1 ?side2 ?side3 ?side4 A5.out).mono ?_); (case side1 => repeat (first | exact (Kd.C_below HR0_0.out HB.out) | (with_reducible refine Kd.C_alloc ?_ _) | (with_reducible refine Kd.C_drewN ?_ _) | (with_reducible refine Kd.C_drew ?_))); (case side2 => exact HC0_0.out); (case side3 => repeat (first | exact (Kd.C_below HR0_1.out HB.out) | (with_reducible refine Kd.C_alloc ?_ _) | (with_reducible refine Kd.C_drewN ?_ _) | (with_reducible refine Kd.C_drew ?_))); (case side4 => exact HC0_1.out); rintro e w9 ⟨rfl, hb⟩; refine ⟨_, rfl, ?_⟩; have n0_ := Aa (blk_below (g := gb335) (o := .cells #[.slice A0_0 l0_0.length c0_0, .slice A0_1 l0_1.length c0_1] 25 (0, 0)) (by (with_reducible repeat (first | refine Kn ?_ _ | refine Kw ?_ | refine Ka ?_ _)); exact BK335.out) hb); have n1_ := Aa (Bp (by repeat (first | (with_reducible first | exact HB.out | apply Ba | apply Pn | apply Dn | refine Bz ?_ GE335.out) | exact HB.out)) hb); clear BK335; clear HB; have BK335 := n0_; have HB := n1_; clear n0_ n1_; (try clear hb); (try clear hb2); (try clear hk); (try clear hi); have hcz10_0 : w9.cell? ⟨gb335, 0, none⟩ = some (.slice A0_0 l0_0.length c0_0) := (Bc BK335.out 0).trans rfl; have hcz10_1 : w9.cell? ⟨gb335, 1, none⟩ = some (.slice A0_1 l0_1.length c0_1) := (Bc BK335.out 1).trans rfl; have hfz10_0 := Bf BK335.out 0; have hfz10_1 := Bf BK335.out 1) | (go_at_call 29; (with_reducible refine (rf_IsOrder.calls k _ _ l1 (l0_0.length : Int) t337 _ ?side1 ?side2 A7.out).mono ?_); (case side1 => repeat (first | exact (Kd.C_below HR1.out HB.out) | (with_reducible refine Kd.C_alloc ?_ _) | (with_reducible refine Kd.C_drewN ?_ _) | (with_reducible refine Kd.C_drew ?_))); (case side2 => exact HC1.out); rintro e w11 ⟨rfl, hb⟩; have n0_ := Aa (blk_below (g := gb335) (o := .cells #[.slice A0_0 l0_0.length c0_0, .slice A0_1 l0_1.length c0_1] 25 (0, 0)) (by (with_reducible repeat (first | refine Kn ?_ _ | refine Kw ?_ | refine Ka ?_ _)); exact BK335.out) hb); have n1_ := Aa (Bp (by repeat (first | (with_reducible first | exact HB.out | apply Ba | apply Pn | apply Dn | refine Bz ?_ GE335.out) | exact HB.out)) hb); clear BK335; clear HB; have BK335 := n0_; have HB := n1_; clear n0_ n1_; (try clear hb); (try clear hb2); (try clear hk); (try clear hi)))
   go_meet
   case rel => exact ⟨_, (!t337), (by first | rfl | (simp; done) | (simp [*]; done)), H', ⟨by first | omega | exact Nat.le_refl _⟩, ⟨by (with_reducible repeat (first | refine Kn ?_ _ | refine Kw ?_ | refine Ka ?_ _)); exact BK335.out⟩, ⟨by repeat (first | (with_reducible first | exact HB.out | apply Ba | apply Pn | apply Dn | refine Bz ?_ GE335.out) | exact HB.out)⟩⟩
  ·replace c6 := Bool.eq_false_iff.mpr c6; subst c6
   have H1 : (rf_Can.j0 k l1 true l0_0 l0_1) = some (r1, r2) := by rw [if_neg (show ¬ (false = true) by decide)] at H; exact H
   clear H; have H := H1; clear H1; have H' := Aa H; clear H; have hcz12_0 : w4.cell? ⟨gb335, 0, none⟩ = some (.slice A0_0 l0_0.length c0_0) := (Bc BK335.out 0).trans rfl; have hcz12_1 : w4.cell? ⟨gb335, 1, none⟩ = some (.slice A0_1 l0_1.length c0_1) := (Bc BK335.out 1).trans rfl; have hfz12_0 := Bf BK335.out 0; have hfz12_1 := Bf BK335.out 1
   go_wp2_with (first | ((with_reducible refine gate_callee (f := 16) rfl ?_); refine goesL_ (some 8) rfl rfl Tryz.func16 (by kernel_rfl) rfl #[.agg #[.slice A0_0 l0_0.length c0_0, .slice A0_1 l0_1.length c0_1]] rfl (by (try simp only [List.map_toArray, List.map_cons, List.map_nil]); first | done | rfl | (simp only [List.length_drop, List.length_take]; rfl)) ?_; (with_reducible refine (rf_Hist.calls k _ _ l0_0 _ _ l0_1 false _ ?side1 ?side2 ?side3 ?side4 A5.out).mono ?_); (case side1 => repeat (first | exact (Kd.C_below HR0_0.out HB.out) | (with_reducible refine Kd.C_alloc ?_ _) | (with_reducible refine Kd.C_drewN ?_ _) | (with_reducible refine Kd.C_drew ?_))); (case side2 => exact HC0_0.out); (case side3 => repeat (first | exact (Kd.C_below HR0_1.out HB.out) | (with_reducible refine Kd.C_alloc ?_ _) | (with_reducible refine Kd.C_drewN ?_ _) | (with_reducible refine Kd.C_drew ?_))); (case side4 => exact HC0_1.out); rintro e w13 ⟨rfl, hb⟩; refine ⟨_, rfl, ?_⟩; have n0_ := Aa (blk_below (g := gb335) (o := .cells #[.slice A0_0 l0_0.length c0_0, .slice A0_1 l0_1.length c0_1] 25 (0, 0)) (by (with_reducible repeat (first | refine Kn ?_ _ | refine Kw ?_ | refine Ka ?_ _)); exact BK335.out) hb); have n1_ := Aa (Bp (by repeat (first | (with_reducible first | exact HB.out | apply Ba | apply Pn | apply Dn | refine Bz ?_ GE335.out) | exact HB.out)) hb); clear BK335; clear HB; have BK335 := n0_; have HB := n1_; clear n0_ n1_; (try clear hb); (try clear hb2); (try clear hk); (try clear hi)))
   go_meet
   case rel => exact ⟨_, (true), (by first | rfl | (simp; done) | (simp [*]; done)), H', ⟨by first | omega | exact Nat.le_refl _⟩, ⟨by (with_reducible repeat (first | refine Kn ?_ _ | refine Kw ?_ | refine Ka ?_ _)); exact BK335.out⟩, ⟨by repeat (first | (with_reducible first | exact HB.out | apply Ba | apply Pn | apply Dn | refine Bz ?_ GE335.out) | exact HB.out)⟩⟩
 case rest =>
  clear HC3; try clear c1
  try clear p2
  try clear c6
  try clear c9
  try clear hcz10_0
  try clear hcz10_1
  try clear hcz12_0
  try clear hcz12_1
  try clear hcz8_0
  try clear hcz8_1
  try clear hfz10_0
  try clear hfz10_1
  try clear hfz12_0
  try clear hfz12_1
  try clear hfz8_0
  try clear hfz8_1
  obtain ⟨kq, x17_2, rfl, HA, HJ2, BK335, HB⟩ := hcut
  cases kq with
  | zero => exact absurd HA.out (by simp [rf_Can.j0])
  | succ kj2 =>
   have H := HA.out; clear HA; simp only [rf_Can.j0] at H
   by_cases c14 : x17_2 = true
   ·subst c14
    have H1 : (some (false, 2)) = some (r1, r2) := by rw [if_pos rfl] at H; exact H
    clear H; have H := H1; clear H1; simp only [Option.some.injEq, Prod.mk.injEq] at H; obtain ⟨rfl, rfl⟩ := H; go_wp2; go_ret2; exact ⟨by first | rfl | (simp [errW_none, errW_some] <;> rfl) | (simp [*, errW_none, errW_some] <;> rfl), by repeat (first | (with_reducible first | exact HB.out | apply Ba | apply Pn | apply Dn | refine Bz ?_ GE335.out) | exact HB.out)⟩
   ·replace c14 := Bool.eq_false_iff.mpr c14; subst c14
    have H1 : ((rf_some.f kj2 l0_0 l0_1).bind fun t338 => (if t338 = 0 then ((rf_CanOf.f l0_0 l0_1 l1).bind fun t339 => (some (t339, 0))) else (some (false, t338)))) = some (r1, r2) := by rw [if_neg (show ¬ (false = true) by decide)] at H; exact H
    clear H; have H := H1; clear H1; replace H := Option.bind_eq_some_iff.mp H; obtain ⟨t338, A150, H⟩ := H; replace H : (if t338 = 0 then ((rf_CanOf.f l0_0 l0_1 l1).bind fun t339 => (some (t339, 0))) else (some (false, t338))) = some (r1, r2) := H; have A15 := Aa A150; clear A150
    by_cases c16 : t338 = 0
    ·rw [if_pos c16] at H; have c16b0 : (t338 == 0) = true := beq_iff_eq.mpr c16; have c16b1 : (t338 != 0) = false := bne_eq_false_iff_eq.mpr c16; clear c16; replace H := Option.bind_eq_some_iff.mp H; obtain ⟨t339, A170, H⟩ := H; replace H : (some (t339, 0)) = some (r1, r2) := H; have A17 := Aa A170; clear A170; simp only [Option.some.injEq, Prod.mk.injEq] at H; obtain ⟨rfl, rfl⟩ := H; have hcz18_0 : wc.cell? ⟨gb335, 0, none⟩ = some (.slice A0_0 l0_0.length c0_0) := (Bc BK335.out 0).trans rfl; have hcz18_1 : wc.cell? ⟨gb335, 1, none⟩ = some (.slice A0_1 l0_1.length c0_1) := (Bc BK335.out 1).trans rfl; have hfz18_0 := Bf BK335.out 0; have hfz18_1 := Bf BK335.out 1
     go_wp2_with (first | ((with_reducible refine gate_callee (f := 17) rfl ?_); refine goesL_ (some 19) rfl rfl Tryz.func17 (by kernel_rfl) rfl #[.agg #[.slice A0_0 l0_0.length c0_0, .slice A0_1 l0_1.length c0_1]] rfl (by (try simp only [List.map_toArray, List.map_cons, List.map_nil]); first | done | rfl | (simp only [List.length_drop, List.length_take]; rfl)) ?_; (with_reducible refine (rf_some.calls kj2 _ _ l0_0 _ _ l0_1 t338 _ ?side1 ?side2 ?side3 ?side4 A15.out).mono ?_); (case side1 => repeat (first | exact (Kd.C_below HR0_0.out HB.out) | (with_reducible refine Kd.C_alloc ?_ _) | (with_reducible refine Kd.C_drewN ?_ _) | (with_reducible refine Kd.C_drew ?_))); (case side2 => exact HC0_0.out); (case side3 => repeat (first | exact (Kd.C_below HR0_1.out HB.out) | (with_reducible refine Kd.C_alloc ?_ _) | (with_reducible refine Kd.C_drewN ?_ _) | (with_reducible refine Kd.C_drew ?_))); (case side4 => exact HC0_1.out); rintro e w19 ⟨rfl, hb⟩; refine ⟨_, rfl, ?_⟩; have n0_ := Aa (blk_below (g := gb335) (o := .cells #[.slice A0_0 l0_0.length c0_0, .slice A0_1 l0_1.length c0_1] 25 (0, 0)) (by (with_reducible repeat (first | refine Kn ?_ _ | refine Kw ?_ | refine Ka ?_ _)); exact BK335.out) hb); have n1_ := Aa (Bp (by repeat (first | (with_reducible first | exact HB.out | apply Ba | apply Pn | apply Dn | refine Bz ?_ GE335.out) | exact HB.out)) hb); clear BK335; clear HB; have BK335 := n0_; have HB := n1_; clear n0_ n1_; (try clear hb); (try clear hb2); (try clear hk); (try clear hi); have hcz20_0 : w19.cell? ⟨gb335, 0, none⟩ = some (.slice A0_0 l0_0.length c0_0) := (Bc BK335.out 0).trans rfl; have hcz20_1 : w19.cell? ⟨gb335, 1, none⟩ = some (.slice A0_1 l0_1.length c0_1) := (Bc BK335.out 1).trans rfl; have hfz20_0 := Bf BK335.out 0; have hfz20_1 := Bf BK335.out 1) | ((with_reducible refine gate_callee (f := 30) rfl ?_); refine goesL_ (some 25) rfl rfl Tryz.func30 (by kernel_rfl) rfl #[.agg #[.slice A0_0 l0_0.length c0_0, .slice A0_1 l0_1.length c0_1], .slice A1 l1.length c1] rfl (by (try simp only [List.map_toArray, List.map_cons, List.map_nil]); first | done | rfl | (simp only [List.length_drop, List.length_take]; rfl)) ?_; (with_reducible refine (rf_CanOf.calls _ _ l0_0 _ _ l0_1 _ _ l1 t339 _ ?side1 ?side2 ?side3 ?side4 ?side5 ?side6 A17.out).mono ?_); (case side1 => repeat (first | exact (Kd.C_below HR0_0.out HB.out) | (with_reducible refine Kd.C_alloc ?_ _) | (with_reducible refine Kd.C_drewN ?_ _) | (with_reducible refine Kd.C_drew ?_))); (case side2 => exact HC0_0.out); (case side3 => repeat (first | exact (Kd.C_below HR0_1.out HB.out) | (with_reducible refine Kd.C_alloc ?_ _) | (with_reducible refine Kd.C_drewN ?_ _) | (with_reducible refine Kd.C_drew ?_))); (case side4 => exact HC0_1.out); (case side5 => repeat (first | exact (Kd.C_below HR1.out HB.out) | (with_reducible refine Kd.C_alloc ?_ _) | (with_reducible refine Kd.C_drewN ?_ _) | (with_reducible refine Kd.C_drew ?_))); (case side6 => exact HC1.out); rintro e w21 ⟨rfl, hb⟩; refine ⟨_, rfl, ?_⟩; have n0_ := Aa (blk_below (g := gb335) (o := .cells #[.slice A0_0 l0_0.length c0_0, .slice A0_1 l0_1.length c0_1] 25 (0, 0)) (by (with_reducible repeat (first | refine Kn ?_ _ | refine Kw ?_ | refine Ka ?_ _)); exact BK335.out) hb); have n1_ := Aa (Bp (by repeat (first | (with_reducible first | exact HB.out | apply Ba | apply Pn | apply Dn | refine Bz ?_ GE335.out) | exact HB.out)) hb); clear BK335; clear HB; have BK335 := n0_; have HB := n1_; clear n0_ n1_; (try clear hb); (try clear hb2); (try clear hk); (try clear hi)))
     go_ret2; exact ⟨by first | rfl | (simp [errW_none, errW_some] <;> rfl) | (simp [*, errW_none, errW_some] <;> rfl), by repeat (first | (with_reducible first | exact HB.out | apply Ba | apply Pn | apply Dn | refine Bz ?_ GE335.out) | exact HB.out)⟩
    ·rw [if_neg c16] at H; have c16b0 : (t338 == 0) = false := beq_eq_false_iff_ne.mpr c16; have c16b1 : (t338 != 0) = true := bne_iff_ne.mpr c16; simp only [Option.some.injEq, Prod.mk.injEq] at H; obtain ⟨rfl, rfl⟩ := H; have hcz22_0 : wc.cell? ⟨gb335, 0, none⟩ = some (.slice A0_0 l0_0.length c0_0) := (Bc BK335.out 0).trans rfl; have hcz22_1 : wc.cell? ⟨gb335, 1, none⟩ = some (.slice A0_1 l0_1.length c0_1) := (Bc BK335.out 1).trans rfl; have hfz22_0 := Bf BK335.out 0; have hfz22_1 := Bf BK335.out 1
     go_wp2_with (first | ((with_reducible refine gate_callee (f := 17) rfl ?_); refine goesL_ (some 19) rfl rfl Tryz.func17 (by kernel_rfl) rfl #[.agg #[.slice A0_0 l0_0.length c0_0, .slice A0_1 l0_1.length c0_1]] rfl (by (try simp only [List.map_toArray, List.map_cons, List.map_nil]); first | done | rfl | (simp only [List.length_drop, List.length_take]; rfl)) ?_; (with_reducible refine (rf_some.calls kj2 _ _ l0_0 _ _ l0_1 t338 _ ?side1 ?side2 ?side3 ?side4 A15.out).mono ?_); (case side1 => repeat (first | exact (Kd.C_below HR0_0.out HB.out) | (with_reducible refine Kd.C_alloc ?_ _) | (with_reducible refine Kd.C_drewN ?_ _) | (with_reducible refine Kd.C_drew ?_))); (case side2 => exact HC0_0.out); (case side3 => repeat (first | exact (Kd.C_below HR0_1.out HB.out) | (with_reducible refine Kd.C_alloc ?_ _) | (with_reducible refine Kd.C_drewN ?_ _) | (with_reducible refine Kd.C_drew ?_))); (case side4 => exact HC0_1.out); rintro e w23 ⟨rfl, hb⟩; refine ⟨_, rfl, ?_⟩; have n0_ := Aa (blk_below (g := gb335) (o := .cells #[.slice A0_0 l0_0.length c0_0, .slice A0_1 l0_1.length c0_1] 25 (0, 0)) (by (with_reducible repeat (first | refine Kn ?_ _ | refine Kw ?_ | refine Ka ?_ _)); exact BK335.out) hb); have n1_ := Aa (Bp (by repeat (first | (with_reducible first | exact HB.out | apply Ba | apply Pn | apply Dn | refine Bz ?_ GE335.out) | exact HB.out)) hb); clear BK335; clear HB; have BK335 := n0_; have HB := n1_; clear n0_ n1_; (try clear hb); (try clear hb2); (try clear hk); (try clear hi)))
     go_ret2; exact ⟨by first | rfl | (simp [errW_none, errW_some] <;> rfl) | (simp [*, errW_none, errW_some] <;> rfl), by repeat (first | (with_reducible first | exact HB.out | apply Ba | apply Pn | apply Dn | refine Bz ?_ GE335.out) | exact HB.out)⟩
end Go.Proofs.YtobcecgcegoooaaGreat.Sk

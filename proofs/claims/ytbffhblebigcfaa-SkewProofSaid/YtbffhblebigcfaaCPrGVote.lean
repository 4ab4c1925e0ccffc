/- The walks of skew.Vote and skew.Meet. -/
import Derived.Laws.EntriesVeiled
import Derived.Test.YtbffhblebigcfaaCPrGAll
import Derived.Test.YtbffhblebigcfaaCPrGFar
namespace Go.Proofs.Ytbffhblebigcfaa.Sk
open Go.RowKit Go.Proofs.YtbffhblebigcfaaW.PrintWords Go.Proofs.YtbffhblebigcfaaW.PrintLast Go.Proofs.YtbffhblebigcfaaW.PrintMore
set_option linter.unusedVariables false
set_option linter.unusedSimpArgs false
def haveF (l : List S27) (t : Int) : Int := l.foldl (fun n s => if s.f0 ≤ t ∧ t ≤ s.f1 then n + 1 else n) 0
theorem drop_rd (l : List S27) (i : Int) (h0 : 0 ≤ i) (h1 : i < l.length) : l.drop i.toNat = rd_T27 l i :: l.drop (i + 1).toNat := by
 have hl : i.toNat < l.length := by omega
 have e : (i + 1).toNat = i.toNat + 1 := by omega
 have er : rd_T27 l i = l[i.toNat] := by simp [rd_T27, List.getD_eq_getElem?_getD, hl]
 rw [List.drop_eq_getElem_cons hl, e, er]
set_option maxHeartbeats 2000000 in
set_option maxRecDepth 100000 in
theorem have_calls (A0 : Option Addr) (c0 : Nat) (l0 : List S27) (t : Int) (b1 : Nat) (w : World) (h1 : w.heap[b1]? = some (.cells #[.slice A0 l0.length c0] 36 (0, 0))) (hr0 : Kd.C k27 w A0 l0.length l0) :
  Calls Try.prog 101 #[.int .i64 t, .pointer (some ⟨b1, 0, none⟩)] w fun e w' => e = .returned (.int .i64 (haveF l0 t)) ∧ Below w.heap.size w w' := by
 have hu27 := Try.underlying27
 have hm := hr0.2.1
 have HR0 := Aa hr0
 have c1 := cell_at h1 0 (.slice A0 l0.length c0) rfl
 clear hr0 h1
 go_enter Try.func101, Try.ntmps101
 go_wp2
 clear c1
 go_loopw [4, 9] (fun v4 v9 W => ∃ (i n : Int), 0 ≤ i ∧ i ≤ l0.length ∧ 0 ≤ n ∧ n ≤ i ∧ v4 = .int .i64 n ∧ v9 = .int .i64 i ∧ Aside0 ((l0.drop i.toNat).foldl (fun n s => if s.f0 ≤ t ∧ t ≤ s.f1 then n + 1 else n) n = haveF l0 t) ∧ Aside0 (Below w.heap.size w W)) (fun _ v _ => l0.length - (intOf v).toNat)
 case atStart => exact ⟨0, 0, by omega, by omega, by omega, by omega, rfl, rfl, ⟨rfl⟩, ⟨Below.refl _ _⟩⟩
 case round =>
  obtain ⟨i, n, h0, hk, hn0, hn1, rfl, rfl, HA, HB⟩ := hrel
  by_cases hlt : i < l0.length
  ·obtain ⟨ad, e217, hx0, hx1⟩ := at_T27 HR0.out i h0 hlt
   cases e217
   replace hx0 := (HB.out.cell (World.block_lt_of_cell? w _ hx0)).trans hx0
   replace hx1 := (HB.out.cell (World.block_lt_of_cell? w _ hx1)).trans hx1
   have hA := HA.out
   rw [drop_rd l0 i h0 hlt, List.foldl_cons] at hA
   clear HA
   obtain ⟨x, hx⟩ : ∃ x, rd_T27 l0 i = x := ⟨_, rfl⟩
   rw [hx] at hx0 hx1 hA
   clear hx
   have HB2 := Aa (below_alloc HB.out (.cells #[.int .i64 x.f0, .int .i64 x.f1] 27))
   by_cases g1 : x.f0 ≤ t
   ·by_cases g2 : t ≤ x.f1
    ·rw [if_pos ⟨g1, g2⟩] at hA
     have HA := Aa hA
     clear hA
     go_wp2
     go_roundw
     case rel => exact ⟨i + 1, n + 1, by omega, by omega, by omega, by omega, rfl, rfl, HA, HB2⟩
     case measure => simp [intOf]; omega
    ·rw [if_neg (fun h => g2 h.2)] at hA
     have HA := Aa hA
     clear hA
     go_wp2
     go_roundw
     case rel => exact ⟨i + 1, n, by omega, by omega, by omega, by omega, rfl, rfl, HA, HB2⟩
     case measure => simp [intOf]; omega
   ·rw [if_neg (fun h => g1 h.1)] at hA
    have HA := Aa hA
    clear hA
    go_wp2
    go_roundw
    case rel => exact ⟨i + 1, n, by omega, by omega, by omega, by omega, rfl, rfl, HA, HB2⟩
    case measure => simp [intOf]; omega
  ·have hA := HA.out
   rw [List.drop_of_length_le (by omega)] at hA
   have HA2 := Aa hA
   clear hA HA
   go_wp2
   go_ret
   exact ⟨by rw [← HA2.out]; rfl, HB.out⟩
set_option maxHeartbeats 2000000 in
set_option maxRecDepth 100000 in
theorem vote2_calls (A0 : Option Addr) (c0 : Nat) (l0 : List S27) (s : S27) (b1 b5 : Nat) (w : World) (h1 : w.heap[b1]? = some (.cells #[.slice A0 l0.length c0] 36 (0, 0)))
  (h5 : w.heap[b5]? = some (.cells #[.func (.func 101) #[] #[.pointer (some ⟨b1, 0, none⟩)]] 139 (0, 0))) (hr0 : Kd.C k27 w A0 l0.length l0) :
  Calls Try.prog 103 #[.agg #[.int .i64 s.f0, .int .i64 s.f1], .pointer (some ⟨b5, 0, none⟩)] w fun e w' => e = .returned (.int .i64 (haveF l0 s.f0)) ∧ Below w.heap.size w w' := by
 have hu27 := Try.underlying27
 have HC := Aa (have_calls A0 c0 l0 s.f0 b1 (w.alloc (.cells #[.int .i64 s.f0, .int .i64 s.f1] 27)) (blk_alloc h1 _) (Kd.C_alloc hr0 _))
 have c5 := cell_at (blk_alloc h5 (.cells #[.int .i64 s.f0, .int .i64 s.f1] 27)) 0 (.func (.func 101) #[] #[.pointer (some ⟨b1, 0, none⟩)]) rfl
 clear hr0 h1 h5
 go_enter Try.func103, Try.ntmps103
 go_wp2_with (go_at_call 101; refine HC.out.mono ?_; rintro e w' ⟨rfl, hb⟩)
 go_ret
 exact ⟨rfl, below_step (below_alloc (Below.refl _ _) _) hb⟩
def voteLow (l : List S27) (most : Int) (l' : List S27) (lo : Int) : Int := l'.foldl (fun lo s => if s.f0 < lo ∧ haveF l s.f0 = most then s.f0 else lo) lo
def voteHigh (l : List S27) (most lo : Int) (l' : List S27) (hi : Int) : Int := l'.foldl (fun hi s => if lo ≤ s.f1 ∧ s.f1 < hi ∧ haveF l (s.f1 + 1) < most then s.f1 else hi) hi
def voteMost (l : List S27) : Int := farF (fun s => haveF l s.f0) (fun a b => decide (a > b)) 0 l
def skew_Vote.f (l0 : List S27) : Option (Int × Int × Int × Int) :=
 if l0.length > 40 then some (0, 0, 0, 2) else
 if l0.all good27 = true then
  if l0.length = 0 then some (0, 0, 0, 5)
  else some (voteLow l0 (voteMost l0) l0 1000000, voteHigh l0 (voteMost l0) (voteLow l0 (voteMost l0) l0 1000000) l0 1000000, voteMost l0, 0)
 else some (0, 0, 0, 2)
theorem good_rd (l : List S27) (i : Int) (h : l.all good27 = true) (h0 : 0 ≤ i) (h1 : i < l.length) : -1000000 ≤ (rd_T27 l i).f0 ∧ (rd_T27 l i).f0 ≤ (rd_T27 l i).f1 ∧ (rd_T27 l i).f1 ≤ 1000000 := by
 have hl : i.toNat < l.length := by omega
 have e : rd_T27 l i = l[i.toNat] := by simp [rd_T27, List.getD_eq_getElem?_getD, hl]
 have := List.all_eq_true.1 h _ (List.getElem_mem hl)
 rw [← e] at this
 simp only [good27, Bool.and_eq_true, decide_eq_true_eq] at this
 omega
structure VoteInv (A0 : Option Addr) (c0 : Nat) (l0 : List S27) (b1 b2 b5 b7 : Nat) (lo hi : Int) (w W : World) : Prop where
 h1 : W.heap[b1]? = some (.cells #[.slice A0 l0.length c0] 36 (0, 0))
 h2 : W.heap[b2]? = some (.cells #[.int .i64 0, .int .i64 0] 27 (0, 0))
 h5 : W.heap[b5]? = some (.cells #[.func (.func 101) #[] #[.pointer (some ⟨b1, 0, none⟩)]] 139 (0, 0))
 h7 : W.heap[b7]? = some (.cells #[.int .i64 lo, .int .i64 hi] 27 (0, 0))
 hb : Below w.heap.size w W
 g7 : w.heap.size ≤ b7
 ne : b2 ≠ b7
section
variable {A0 : Option Addr} {c0 : Nat} {l0 : List S27} {b1 b2 b5 b7 : Nat} {lo hi : Int} {w W W' : World}
theorem VoteInv.step (h : VoteInv A0 c0 l0 b1 b2 b5 b7 lo hi w W) (hb : Below W.heap.size W W') : VoteInv A0 c0 l0 b1 b2 b5 b7 lo hi w W' :=
 ⟨blk_below h.h1 hb, blk_below h.h2 hb, blk_below h.h5 hb, blk_below h.h7 hb, below_step h.hb hb, h.g7, h.ne⟩
theorem VoteInv.alloc (h : VoteInv A0 c0 l0 b1 b2 b5 b7 lo hi w W) (o : Obj) : VoteInv A0 c0 l0 b1 b2 b5 b7 lo hi w (W.alloc o) := h.step (below_alloc (Below.refl _ _) _)
theorem VoteInv.put0 (h : VoteInv A0 c0 l0 b1 b2 b5 b7 lo hi w W) (x : Int) : VoteInv A0 c0 l0 b1 b2 b5 b7 x hi w (W.setCell ⟨b7, 0, none⟩ (.int .i64 x)) :=
 ⟨blk_far h.h1 (blk_ne h.h1 h.h7 (by decide)) _, blk_far h.h2 h.ne _, blk_far h.h5 (blk_ne h.h5 h.h7 (by decide)) _, blk_put h.h7 0 _ rfl, below_set h.hb h.g7, h.g7, h.ne⟩
theorem VoteInv.put1 (h : VoteInv A0 c0 l0 b1 b2 b5 b7 lo hi w W) (x : Int) : VoteInv A0 c0 l0 b1 b2 b5 b7 lo x w (W.setCell ⟨b7, 1, none⟩ (.int .i64 x)) :=
 ⟨blk_far h.h1 (blk_ne h.h1 h.h7 (by decide)) _, blk_far h.h2 h.ne _, blk_far h.h5 (blk_ne h.h5 h.h7 (by decide)) _, blk_put h.h7 1 _ rfl, below_set h.hb h.g7, h.g7, h.ne⟩
end
set_option maxHeartbeats 4000000 in
set_option maxRecDepth 100000 in
theorem skew_Vote.calls (A0 : Option Addr) (c0 : Nat) (l0 : List S27) (r1 r2 r3 r4 : Int) (w : World) (hr0 : Kd.C k27 w A0 l0.length l0) (hc0 : l0.length ≤ c0) (h : skew_Vote.f l0 = some (r1, r2, r3, r4)) :
  Calls Try.prog 43 #[.slice A0 l0.length c0] w fun e w' => e = .returned (.tuple #[.agg #[.int .i64 r1, .int .i64 r2], .int .i64 r3, .int .i64 r4]) ∧ Below w.heap.size w w' := by
 have hu27 := Try.underlying27
 unfold skew_Vote.f at h
 have HR0 := Aa hr0
 clear hr0
 by_cases g1 : l0.length > 40
 ·rw [if_pos g1] at h
  simp only [Option.some.injEq, Prod.mk.injEq] at h
  obtain ⟨rfl, rfl, rfl, rfl⟩ := h
  have g1' : decide ((40 : Int) < (l0.length : Int)) = true := by simp; omega
  clear g1
  go_enter Try.func43, Try.ntmps43
  go_wp2
  have k2 : ((w.alloc (.cells #[.slice A0 l0.length c0] 36)).alloc (.cells #[.int .i64 0, .int .i64 0] 27)).heap[w.heap.size + 1]? = some (.cells #[.int .i64 0, .int .i64 0] 27) := by
   have := blk_new (w.alloc (.cells #[.slice A0 l0.length c0] 36)) (.cells #[.int .i64 0, .int .i64 0] 27); rwa [World.size_alloc] at this
  refine bodyPost_ret (results_ctt rfl _ _ (w.heap.size + 1) 27 #[.int .i64 0, .int .i64 0] (0, 0) _ rfl k2 Try.underlying27 rfl (by kernel_rfl)) rfl ?_
  exact ⟨rfl, below_alloc (below_alloc (Below.refl _ _) _) _⟩
 ·rw [if_neg g1] at h
  have g1' : decide ((40 : Int) < (l0.length : Int)) = false := by simp; omega
  have k1 := blk_alloc (blk_new w (.cells #[.slice A0 l0.length c0] 36)) (.cells #[.int .i64 0, .int .i64 0] 27)
  have k2 : ((w.alloc (.cells #[.slice A0 l0.length c0] 36)).alloc (.cells #[.int .i64 0, .int .i64 0] 27)).heap[w.heap.size + 1]? = some (.cells #[.int .i64 0, .int .i64 0] 27) := by
   have := blk_new (w.alloc (.cells #[.slice A0 l0.length c0] 36)) (.cells #[.int .i64 0, .int .i64 0] 27); rwa [World.size_alloc] at this
  have K1 := Aa k1
  have K2 := Aa k2
  have KB := Aa (below_alloc (below_alloc (Below.refl w.heap.size w) (.cells #[.slice A0 l0.length c0] 36)) (.cells #[.int .i64 0, .int .i64 0] 27))
  clear k1 k2
  have hl : (l0.length : Int) ≤ 40 := by omega
  clear g1
  obtain ⟨b, hb⟩ : ∃ b, l0.all good27 = b := ⟨_, rfl⟩
  rw [hb] at h
  have HA := Aa (skew_all.calls A0 c0 l0 b ((w.alloc (.cells #[.slice A0 l0.length c0] 36)).alloc (.cells #[.int .i64 0, .int .i64 0] 27)) (Kd.C_below HR0.out KB.out) hc0 (by unfold skew_all.f; rw [hb]))
  have HG := Aa hb
  clear hb
  cases b
  ·rw [if_neg (by simp)] at h
   simp only [Option.some.injEq, Prod.mk.injEq] at h
   obtain ⟨rfl, rfl, rfl, rfl⟩ := h
   go_enter Try.func43, Try.ntmps43
   go_wp2_with fail
   refine HA.out.mono ?_
   rintro e w1 ⟨rfl, hb⟩
   have h2 := blk_below K2.out hb
   have HB := Aa (below_step KB.out hb)
   clear hb
   have f0 := blk_frozen h2 0
   have f1 := blk_frozen h2 1
   have e0 := cell_at h2 0 _ rfl
   have e1 := cell_at h2 1 _ rfl
   have H2 := Aa h2
   clear h2
   go_wp2
   refine bodyPost_ret (results_ctt rfl _ _ (w.heap.size + 1) 27 #[.int .i64 0, .int .i64 0] (0, 0) _ rfl (blk_put (cs := #[.int .i64 0, .int .i64 0]) (blk_put (cs := #[.int .i64 0, .int .i64 0]) H2.out 0 _ rfl) 1 _ rfl) Try.underlying27 rfl (by kernel_rfl)) rfl ?_
   exact ⟨rfl, below_set (below_set HB.out (by omega)) (by omega)⟩
  ·rw [if_pos rfl] at h
   by_cases g0 : l0.length = 0
   ·rw [if_pos g0] at h
    simp only [Option.some.injEq, Prod.mk.injEq] at h
    obtain ⟨rfl, rfl, rfl, rfl⟩ := h
    have g0' : ((l0.length : Int) == 0) = true := by rw [g0]; rfl
    clear g0
    go_enter Try.func43, Try.ntmps43
    go_wp2_with fail
    refine HA.out.mono ?_
    rintro e w1 ⟨rfl, hb⟩
    have h1 := blk_below K1.out hb
    have h2 := blk_below K2.out hb
    have HB := Aa (below_step KB.out hb)
    clear hb
    have f0 := blk_frozen h2 0
    have f1 := blk_frozen h2 1
    have e0 := cell_at h2 0 _ rfl
    have e1 := cell_at h2 1 _ rfl
    have e2 := cell_at h1 0 (.slice A0 l0.length c0) rfl
    have H2 := Aa h2
    clear h2 h1
    go_wp2
    refine bodyPost_ret (results_ctt rfl _ _ (w.heap.size + 1) 27 #[.int .i64 0, .int .i64 0] (0, 0) _ rfl (blk_put (cs := #[.int .i64 0, .int .i64 0]) (blk_put (cs := #[.int .i64 0, .int .i64 0]) H2.out 0 _ rfl) 1 _ rfl) Try.underlying27 rfl (by kernel_rfl)) rfl ?_
    exact ⟨rfl, below_set (below_set HB.out (by omega)) (by omega)⟩
   ·rw [if_neg g0] at h
    have g0' : ((l0.length : Int) == 0) = false := by rw [beq_eq_false_iff_ne]; omega
    clear g0
    have H := Aa h
    clear h
    go_enter Try.func43, Try.ntmps43
    go_wp2_with fail
    refine HA.out.mono ?_
    rintro e w1 ⟨rfl, hb⟩
    have h1 := blk_below K1.out hb
    have h2 := blk_below K2.out hb
    have HB := Aa (below_step KB.out hb)
    clear hb HA K1 K2 KB
    have e2 := cell_at h1 0 (.slice A0 l0.length c0) rfl
    have H2 := Aa h2
    have H1 := Aa h1
    have e3 := cell_at (blk_alloc h1 (.cells #[.func (.func 101) #[] #[.pointer (some ⟨w.heap.size, 0, none⟩)]] 139)) 0 (.slice A0 l0.length c0) rfl
    clear h2 h1
    go_wp2_with fail
    have hV := far_vote A0 c0 l0 0 (w1.alloc (.cells #[.func (.func 101) #[] #[.pointer (some ⟨w.heap.size, 0, none⟩)]] 139)) w1.heap.size
     (fun W => W.heap[w.heap.size]? = some (.cells #[.slice A0 l0.length c0] 36 (0, 0)) ∧ W.heap[w1.heap.size]? = some (.cells #[.func (.func 101) #[] #[.pointer (some ⟨w.heap.size, 0, none⟩)]] 139 (0, 0)) ∧ Kd.C k27 W A0 l0.length l0)
     (fun s => haveF l0 s.f0) ⟨blk_alloc H1.out _, blk_new _ _, Kd.C_alloc (Kd.C_below HR0.out HB.out) _⟩ (fun W W' h hb => ⟨blk_below h.1 hb, blk_below h.2.1 hb, Kd.C_below h.2.2 hb⟩) (fun W h => h.2.2)
     (fun s W h => vote2_calls A0 c0 l0 s _ _ W h.1 h.2.1 h.2.2)
    refine hV.mono ?_
    rintro e w2 ⟨rfl, ⟨k1, k5, _⟩, kb⟩
    clear hV e2 e3
    have h2 := blk_below (blk_alloc H2.out _) kb
    have hn2 := blk_lt H2.out
    have hs2 := kb.size
    have HB2 := Aa (below_step (below_alloc HB.out _) kb)
    obtain ⟨b5, hb5⟩ : ∃ b, w1.heap.size = b := ⟨_, rfl⟩
    obtain ⟨M, hM⟩ : ∃ M, farF (fun s => haveF l0 s.f0) (fun a b => decide (a > b)) 0 l0 = M := ⟨_, rfl⟩
    have hH := H.out
    unfold voteMost at hH
    rw [hM] at hH ⊢
    rw [hb5] at k5 ⊢
    simp only [Option.some.injEq, Prod.mk.injEq] at hH
    obtain ⟨rfl, rfl, rfl, rfl⟩ := hH
    have HV := Aa (show VoteInv A0 c0 l0 w.heap.size (w.heap.size + 1) b5 w2.heap.size 1000000 1000000 w (w2.alloc (.cells #[.int .i64 1000000, .int .i64 1000000] 27)) from
     ⟨blk_alloc k1 _, blk_alloc h2 _, blk_alloc k5 _, blk_new _ _, below_alloc HB2.out _, HB2.out.size, by have := blk_lt h2; omega⟩)
    have e1 := cell_at HV.out.h1 0 (.slice A0 l0.length c0) rfl
    clear k1 k5 kb h2 hn2 hs2 HB HB2 H H1 H2 hM hb5 g1'
    go_wp2_with fail
    go_loopw [32, 9] (fun v32 _ W => ∃ (i lo : Int), 0 ≤ i ∧ i ≤ l0.length ∧ v32 = .int .i64 i ∧ Aside0 (voteLow l0 M (l0.drop i.toNat) lo = voteLow l0 M l0 1000000) ∧ Aside0 (VoteInv A0 c0 l0 w.heap.size (w.heap.size + 1) b5 w2.heap.size lo 1000000 w W)) (fun v _ _ => l0.length - (intOf v).toNat)
    case atStart => exact ⟨0, 1000000, by omega, by omega, rfl, ⟨rfl⟩, HV⟩
    case round =>
     clear e1
     obtain ⟨i, lo, h0, hk, rfl, HA, HV⟩ := hrel
     by_cases hlt : i < l0.length
     ·have hCr := Kd.C_below HR0.out HV.out.hb
      obtain ⟨ad, e217, hx0, hx1⟩ := at_T27 hCr i h0 hlt
      cases e217
      have hA := HA.out
      unfold voteLow at hA
      rw [drop_rd l0 i h0 hlt, List.foldl_cons] at hA
      clear HA
      obtain ⟨x, hx⟩ : ∃ x, rd_T27 l0 i = x := ⟨_, rfl⟩
      rw [hx] at hx0 hx1 hA
      clear hx
      have HV2 := Aa (HV.out.alloc (.cells #[.int .i64 x.f0, .int .i64 x.f1] 27))
      have e0 := cell_at HV2.out.h7 0 (.int .i64 lo) rfl
      have e5 := cell_at HV2.out.h5 0 (.func (.func 101) #[] #[.pointer (some ⟨w.heap.size, 0, none⟩)]) rfl
      have HCa := Aa (have_calls _ c0 l0 x.f0 w.heap.size _ HV2.out.h1 (Kd.C_alloc hCr _))
      clear hCr
      by_cases g1 : x.f0 < lo
      ·obtain ⟨q, hq⟩ : ∃ q, haveF l0 x.f0 = q := ⟨_, rfl⟩
       rw [hq] at hA HCa
       clear hq
       by_cases g2 : q = M
       ·rw [if_pos ⟨g1, g2⟩] at hA
        have HA := Aa hA
        have g2' : (q == M) = true := by rw [g2]; exact beq_self_eq_true _
        clear hA g2
        go_wp2_with (go_at_call 101; refine HCa.out.mono ?_; rintro e w3 ⟨rfl, hb⟩; have HV3 := Aa (HV2.out.step hb); have ex := cell_at (blk_below (blk_new _ _) hb) 0 (.int .i64 x.f0) rfl; have e7 := cell_at HV3.out.h7 0 (.int .i64 lo) rfl; have f7 := blk_frozen HV3.out.h7 0; clear HCa e0 e5 HV2 hb)
        go_roundw
        case rel => exact ⟨i + 1, x.f0, by omega, by omega, rfl, HA, ⟨HV3.out.put0 x.f0⟩⟩
        case measure => simp [intOf]; omega
       ·rw [if_neg (fun h => g2 h.2)] at hA
        have HA := Aa hA
        have g2' : (q == M) = false := by rw [beq_eq_false_iff_ne]; exact g2
        clear hA g2
        go_wp2_with (go_at_call 101; refine HCa.out.mono ?_; rintro e w3 ⟨rfl, hb⟩; have HV3 := Aa (HV2.out.step hb); clear HCa e0 e5 HV2 hb)
        go_roundw
        case rel => exact ⟨i + 1, lo, by omega, by omega, rfl, HA, HV3⟩
        case measure => simp [intOf]; omega
      ·rw [if_neg (fun h => g1 h.1)] at hA
       have HA := Aa hA
       clear hA
       go_wp2_with fail
       go_roundw
       case rel => exact ⟨i + 1, lo, by omega, by omega, rfl, HA, HV2⟩
       case measure => simp [intOf]; omega
     ·have hA := HA.out
      rw [List.drop_of_length_le (by omega)] at hA
      have hA' : voteLow l0 M l0 1000000 = lo := hA.symm
      have E1 := Aa hA'
      clear HA hA hA'
      have e1 := cell_at HV.out.h1 0 (.slice A0 l0.length c0) rfl
      go_wp2_with fail
      clear e1 hk h0 hlt
      go_loopw [55, 11] (fun v55 _ W => ∃ (i hi : Int), 0 ≤ i ∧ i ≤ l0.length ∧ hi ≤ 1000000 ∧ v55 = .int .i64 i ∧ Aside0 (voteHigh l0 M lo (l0.drop i.toNat) hi = voteHigh l0 M lo l0 1000000) ∧ Aside0 (VoteInv A0 c0 l0 w.heap.size (w.heap.size + 1) b5 w2.heap.size lo hi w W)) (fun v _ _ => l0.length - (intOf v).toNat)
      case atStart => exact ⟨0, 1000000, by omega, by omega, by omega, rfl, ⟨rfl⟩, HV⟩
      case round =>
       obtain ⟨i, hi, h0, hk, hhi, rfl, HA, HV⟩ := hrel
       by_cases hlt : i < l0.length
       ·have hCr := Kd.C_below HR0.out HV.out.hb
        obtain ⟨ad, e217, hx0, hx1⟩ := at_T27 hCr i h0 hlt
        cases e217
        have hA := HA.out
        unfold voteHigh at hA
        rw [drop_rd l0 i h0 hlt, List.foldl_cons] at hA
        clear HA
        obtain ⟨y1, y2, y3⟩ := good_rd l0 i HG.out h0 hlt
        obtain ⟨x, hx⟩ : ∃ x, rd_T27 l0 i = x := ⟨_, rfl⟩
        rw [hx] at hx0 hx1 hA y1 y2 y3
        clear hx
        have HV2 := Aa (HV.out.alloc (.cells #[.int .i64 x.f0, .int .i64 x.f1] 27))
        have e0 := cell_at HV2.out.h7 0 (.int .i64 lo) rfl
        have e0' := cell_at HV2.out.h7 1 (.int .i64 hi) rfl
        have e5 := cell_at HV2.out.h5 0 (.func (.func 101) #[] #[.pointer (some ⟨w.heap.size, 0, none⟩)]) rfl
        have HCa := Aa (have_calls _ c0 l0 (wrap64 (x.f1 + 1)) w.heap.size _ HV2.out.h1 (Kd.C_alloc hCr _))
        clear hCr
        by_cases g1 : lo ≤ x.f1
        ·by_cases g2 : x.f1 < hi
         ·have ew : wrap64 (x.f1 + 1) = x.f1 + 1 := by unfold wrap64; omega
          rw [ew] at HCa
          clear ew
          obtain ⟨q, hq⟩ : ∃ q, haveF l0 (x.f1 + 1) = q := ⟨_, rfl⟩
          rw [hq] at hA HCa
          clear hq
          by_cases g3 : q < M
          ·rw [if_pos ⟨g1, g2, g3⟩] at hA
           have HA := Aa hA
           clear hA
           go_wp2_with (go_at_call 101; refine HCa.out.mono ?_; rintro e w3 ⟨rfl, hb⟩; have HV3 := Aa (HV2.out.step hb); have ex := cell_at (blk_below (blk_new _ _) hb) 1 (.int .i64 x.f1) rfl; have e7 := cell_at HV3.out.h7 1 (.int .i64 hi) rfl; have f7 := blk_frozen HV3.out.h7 1; clear HCa e0 e0' e5 HV2 hb)
           go_roundw
           case rel => exact ⟨i + 1, x.f1, by omega, by omega, by omega, rfl, HA, ⟨HV3.out.put1 x.f1⟩⟩
           case measure => simp [intOf]; omega
          ·rw [if_neg (fun h => g3 h.2.2)] at hA
           have HA := Aa hA
           clear hA
           go_wp2_with (go_at_call 101; refine HCa.out.mono ?_; rintro e w3 ⟨rfl, hb⟩; have HV3 := Aa (HV2.out.step hb); clear HCa e0 e0' e5 HV2 hb)
           go_roundw
           case rel => exact ⟨i + 1, hi, by omega, by omega, by omega, rfl, HA, HV3⟩
           case measure => simp [intOf]; omega
         ·rw [if_neg (fun h => g2 h.2.1)] at hA
          have HA := Aa hA
          clear hA HCa e5
          go_wp2_with fail
          go_roundw
          case rel => exact ⟨i + 1, hi, by omega, by omega, by omega, rfl, HA, HV2⟩
          case measure => simp [intOf]; omega
        ·rw [if_neg (fun h => g1 h.1)] at hA
         have HA := Aa hA
         clear hA HCa e5 e0'
         go_wp2_with fail
         go_roundw
         case rel => exact ⟨i + 1, hi, by omega, by omega, by omega, rfl, HA, HV2⟩
         case measure => simp [intOf]; omega
       ·have hA := HA.out
        rw [List.drop_of_length_le (by omega)] at hA
        have hA' : voteHigh l0 M lo l0 1000000 = hi := hA.symm
        have E2 := Aa hA'
        clear HA hA hA'
        have e0 := cell_at HV.out.h7 0 (.int .i64 lo) rfl
        have e1 := cell_at HV.out.h7 1 (.int .i64 hi) rfl
        have e2 := cell_at HV.out.h2 0 (.int .i64 0) rfl
        have e3 := cell_at HV.out.h2 1 (.int .i64 0) rfl
        have f2 := blk_frozen HV.out.h2 0
        have f3 := blk_frozen HV.out.h2 1
        go_wp2
        refine bodyPost_ret (results_ctt rfl _ _ (w.heap.size + 1) 27 #[.int .i64 lo, .int .i64 hi] (0, 0) _ rfl (blk_put (cs := #[.int .i64 lo, .int .i64 0]) (blk_put (cs := #[.int .i64 0, .int .i64 0]) HV.out.h2 0 _ rfl) 1 _ rfl) Try.underlying27 rfl (by kernel_rfl)) rfl ?_
        exact ⟨by rw [E1.out, E2.out]; rfl, below_set (below_set HV.out.hb (by omega)) (by omega)⟩
end Go.Proofs.Ytbffhblebigcfaa.Sk

/- The walk of skew.mine: the deeds of each machine. -/
import Derived.Laws.EntriesVeiled
import Derived.StillTailTactics
import Derived.Test.YtobcecgcegoooaaGreatCSuV0
import Derived.Test.YtobcecgcegoooaaGreatCSuV1
import Derived.Test.YtobcecgcegoooaaGreatCSuS0
import Derived.Test.YtobcecgcegoooaaGreatCSuS1
namespace Go.Proofs.YtobcecgcegoooaaGreat.Sk
open Go.RowKit Go.Proofs.YtobcecgcegoooaaGreatW.PrintWords Go.Proofs.YtobcecgcegoooaaGreatW.PrintLast Go.Proofs.YtobcecgcegoooaaGreatW.PrintMore
set_option linter.unusedVariables false
set_option linter.unusedSimpArgs false
section
def haveF (l : List S65) (t : Int) : Int := l.foldl (fun n s => if s.f0 ≤ t ∧ t ≤ s.f1 then n + 1 else n) 0
theorem drop_rd (l : List S65) (i : Int) (h0 : 0 ≤ i) (h1 : i < l.length) : l.drop i.toNat = rd_T65 l i :: l.drop (i + 1).toNat := by
 have hl : i.toNat < l.length := by omega
 have e : (i + 1).toNat = i.toNat + 1 := by omega
 have er : rd_T65 l i = l[i.toNat] := by simp [rd_T65, List.getD_eq_getElem?_getD, hl]
 rw [List.drop_eq_getElem_cons hl, e, er]
set_option maxHeartbeats 2000000 in
set_option maxRecDepth 100000 in
theorem have_calls (A0 : Option Addr) (c0 : Nat) (l0 : List S65) (t : Int) (b1 : Nat) (w : World) (h1 : w.heap[b1]? = some (.cells #[.slice A0 l0.length c0] 22 (0, 0))) (hr0 : Kd.C k65 w A0 l0.length l0) :
  Calls Tryz.prog 59 #[.int .i64 t, .pointer (some ⟨b1, 0, none⟩)] w fun e w' => e = .returned (.int .i64 (haveF l0 t)) ∧ Below w.heap.size w w' := by
 have hu27 := Tryz.underlying65; have hm := hr0.2.1; have HR0 := Aa hr0; have c1 := cell_at h1 0 (.slice A0 l0.length c0) rfl; clear hr0 h1
 go_enter Tryz.func59, Tryz.ntmps59
 go_wp2; clear c1
 go_loopw [4, 9] (fun v4 v9 W => ∃ (i n : Int), 0 ≤ i ∧ i ≤ l0.length ∧ 0 ≤ n ∧ n ≤ i ∧ v4 = .int .i64 n ∧ v9 = .int .i64 i ∧ Aside0 ((l0.drop i.toNat).foldl (fun n s => if s.f0 ≤ t ∧ t ≤ s.f1 then n + 1 else n) n = haveF l0 t) ∧ Aside0 (Below w.heap.size w W)) (fun _ v _ => l0.length - (intOf v).toNat)
 case atStart => exact ⟨0, 0, by omega, by omega, by omega, by omega, rfl, rfl, ⟨rfl⟩, ⟨Below.refl _ _⟩⟩
 case round =>
  obtain ⟨i, n, h0, hk, hn0, hn1, rfl, rfl, HA, HB⟩ := hrel
  by_cases hlt : i < l0.length
  ·obtain ⟨ad, e217, hx0, hx1⟩ := at_T65 HR0.out i h0 hlt; cases e217; replace hx0 := (HB.out.cell (Wb w _ hx0)).trans hx0; replace hx1 := (HB.out.cell (Wb w _ hx1)).trans hx1; have hA := HA.out; rw [drop_rd l0 i h0 hlt, List.foldl_cons] at hA; clear HA
   obtain ⟨x, hx⟩ : ∃ x, rd_T65 l0 i = x := ⟨_, rfl⟩
   rw [hx] at hx0 hx1 hA; clear hx; have HB2 := Aa (Ba HB.out (.cells #[.int .i64 x.f0, .int .i64 x.f1] 65))
   by_cases g1 : x.f0 ≤ t
   ·by_cases g2 : t ≤ x.f1
    ·rw [if_pos ⟨g1, g2⟩] at hA; have HA := Aa hA; clear hA; go_wp2
     go_roundw
     case rel => exact ⟨i + 1, n + 1, by omega, by omega, by omega, by omega, rfl, rfl, HA, HB2⟩
     case measure => simp [intOf]; omega
    ·rw [if_neg (fun h => g2 h.2)] at hA; have HA := Aa hA; clear hA; go_wp2
     go_roundw
     case rel => exact ⟨i + 1, n, by omega, by omega, by omega, by omega, rfl, rfl, HA, HB2⟩
     case measure => simp [intOf]; omega
   ·rw [if_neg (fun h => g1 h.1)] at hA; have HA := Aa hA; clear hA; go_wp2
    go_roundw
    case rel => exact ⟨i + 1, n, by omega, by omega, by omega, by omega, rfl, rfl, HA, HB2⟩
    case measure => simp [intOf]; omega
  ·have hA := HA.out; rw [List.drop_of_length_le (by omega)] at hA; have HA2 := Aa hA; clear hA HA; go_wp2; go_ret; exact ⟨by rw [← HA2.out]; rfl, HB.out⟩
set_option maxHeartbeats 2000000 in
set_option maxRecDepth 100000 in
theorem vote2_calls (A0 : Option Addr) (c0 : Nat) (l0 : List S65) (s : S65) (b1 b5 : Nat) (w : World) (h1 : w.heap[b1]? = some (.cells #[.slice A0 l0.length c0] 22 (0, 0)))
  (h5 : w.heap[b5]? = some (.cells #[.func (.func 59) #[] #[.pointer (some ⟨b1, 0, none⟩)]] 107 (0, 0))) (hr0 : Kd.C k65 w A0 l0.length l0) :
  Calls Tryz.prog 61 #[.agg #[.int .i64 s.f0, .int .i64 s.f1], .pointer (some ⟨b5, 0, none⟩)] w fun e w' => e = .returned (.int .i64 (haveF l0 s.f0)) ∧ Below w.heap.size w w' := by
 have hu27 := Tryz.underlying65; have HC := Aa (have_calls A0 c0 l0 s.f0 b1 (w.alloc (.cells #[.int .i64 s.f0, .int .i64 s.f1] 65)) (Ka h1 _) (Kd.C_alloc hr0 _)); have c5 := cell_at (Ka h5 (.cells #[.int .i64 s.f0, .int .i64 s.f1] 65)) 0 (.func (.func 59) #[] #[.pointer (some ⟨b1, 0, none⟩)]) rfl; clear hr0 h1 h5
 go_enter Tryz.func61, Tryz.ntmps61
 go_wp2_with (go_at_call 59; refine HC.out.mono ?_; rintro e w' ⟨rfl, hb⟩)
 go_ret; exact ⟨rfl, Bp (Ba (Below.refl _ _) _) hb⟩
def voteLow (l : List S65) (most : Int) (l' : List S65) (lo : Int) : Int := l'.foldl (fun lo s => if s.f0 < lo ∧ haveF l s.f0 = most then s.f0 else lo) lo
def voteHigh (l : List S65) (most lo : Int) (l' : List S65) (hi : Int) : Int := l'.foldl (fun hi s => if lo ≤ s.f1 ∧ s.f1 < hi ∧ haveF l (s.f1 + 1) < most then s.f1 else hi) hi
def voteMost (l : List S65) : Int := farF (fun s => haveF l s.f0) (fun a b => decide (a > b)) 0 l
def skew_Vote.f (l0 : List S65) : Option (Int × Int × Int × Int) :=
 if l0.length > 40 then some (0, 0, 0, 2) else
 if l0.all good27 = true then
  if l0.length = 0 then some (0, 0, 0, 5)
  else some (voteLow l0 (voteMost l0) l0 1000000, voteHigh l0 (voteMost l0) (voteLow l0 (voteMost l0) l0 1000000) l0 1000000, voteMost l0, 0)
 else some (0, 0, 0, 2)
theorem good_rd (l : List S65) (i : Int) (h : l.all good27 = true) (h0 : 0 ≤ i) (h1 : i < l.length) : -1000000 ≤ (rd_T65 l i).f0 ∧ (rd_T65 l i).f0 ≤ (rd_T65 l i).f1 ∧ (rd_T65 l i).f1 ≤ 1000000 := by
 have hl : i.toNat < l.length := by omega
 have e : rd_T65 l i = l[i.toNat] := by simp [rd_T65, List.getD_eq_getElem?_getD, hl]
 have := List.all_eq_true.1 h _ (List.getElem_mem hl); rw [← e] at this; simp only [good27, Bool.and_eq_true, decide_eq_true_eq] at this; omega
structure VoteInv (A0 : Option Addr) (c0 : Nat) (l0 : List S65) (b1 b2 b5 b7 : Nat) (lo hi : Int) (w W : World) : Prop where
 h1 : W.heap[b1]? = some (.cells #[.slice A0 l0.length c0] 22 (0, 0))
 h2 : W.heap[b2]? = some (.cells #[.int .i64 0, .int .i64 0] 65 (0, 0))
 h5 : W.heap[b5]? = some (.cells #[.func (.func 59) #[] #[.pointer (some ⟨b1, 0, none⟩)]] 107 (0, 0))
 h7 : W.heap[b7]? = some (.cells #[.int .i64 lo, .int .i64 hi] 65 (0, 0))
 hb : Below w.heap.size w W
 g7 : w.heap.size ≤ b7
 ne : b2 ≠ b7
section
variable {A0 : Option Addr} {c0 : Nat} {l0 : List S65} {b1 b2 b5 b7 : Nat} {lo hi : Int} {w W W' : World}
theorem VoteInv.step (h : VoteInv A0 c0 l0 b1 b2 b5 b7 lo hi w W) (hb : Below W.heap.size W W') : VoteInv A0 c0 l0 b1 b2 b5 b7 lo hi w W' :=
 ⟨blk_below h.h1 hb, blk_below h.h2 hb, blk_below h.h5 hb, blk_below h.h7 hb, Bp h.hb hb, h.g7, h.ne⟩
theorem VoteInv.alloc (h : VoteInv A0 c0 l0 b1 b2 b5 b7 lo hi w W) (o : Obj) : VoteInv A0 c0 l0 b1 b2 b5 b7 lo hi w (W.alloc o) := h.step (Ba (Below.refl _ _) _)
theorem VoteInv.put0 (h : VoteInv A0 c0 l0 b1 b2 b5 b7 lo hi w W) (x : Int) : VoteInv A0 c0 l0 b1 b2 b5 b7 x hi w (W.setCell ⟨b7, 0, none⟩ (.int .i64 x)) :=
 ⟨blk_far h.h1 (blk_ne h.h1 h.h7 (by decide)) _, blk_far h.h2 h.ne _, blk_far h.h5 (blk_ne h.h5 h.h7 (by decide)) _, blk_put h.h7 0 _ rfl, Bz h.hb h.g7, h.g7, h.ne⟩
theorem VoteInv.put1 (h : VoteInv A0 c0 l0 b1 b2 b5 b7 lo hi w W) (x : Int) : VoteInv A0 c0 l0 b1 b2 b5 b7 lo x w (W.setCell ⟨b7, 1, none⟩ (.int .i64 x)) :=
 ⟨blk_far h.h1 (blk_ne h.h1 h.h7 (by decide)) _, blk_far h.h2 h.ne _, blk_far h.h5 (blk_ne h.h5 h.h7 (by decide)) _, blk_put h.h7 1 _ rfl, Bz h.hb h.g7, h.g7, h.ne⟩
end
set_option maxHeartbeats 4000000 in
set_option maxRecDepth 100000 in
theorem skew_Vote.calls (A0 : Option Addr) (c0 : Nat) (l0 : List S65) (r1 r2 r3 r4 : Int) (w : World) (hr0 : Kd.C k65 w A0 l0.length l0) (hc0 : l0.length ≤ c0) (h : skew_Vote.f l0 = some (r1, r2, r3, r4)) :
  Calls Tryz.prog 35 #[.slice A0 l0.length c0] w fun e w' => e = .returned (.tuple #[.agg #[.int .i64 r1, .int .i64 r2], .int .i64 r3, .int .i64 r4]) ∧ Below w.heap.size w w' := by
 have hu27 := Tryz.underlying65; unfold skew_Vote.f at h; have HR0 := Aa hr0; clear hr0
 by_cases g1 : l0.length > 40
 ·rw [if_pos g1] at h; simp only [Option.some.injEq, Prod.mk.injEq] at h; obtain ⟨rfl, rfl, rfl, rfl⟩ := h
  have g1' : decide ((40 : Int) < (l0.length : Int)) = true := by simp; omega
  clear g1
  go_enter Tryz.func35, Tryz.ntmps35
  go_wp2
  have k2 : ((w.alloc (.cells #[.slice A0 l0.length c0] 22)).alloc (.cells #[.int .i64 0, .int .i64 0] 65)).heap[w.heap.size + 1]? = some (.cells #[.int .i64 0, .int .i64 0] 65) := by
   have := blk_new (w.alloc (.cells #[.slice A0 l0.length c0] 22)) (.cells #[.int .i64 0, .int .i64 0] 65); rwa [World.size_alloc] at this
  refine bodyPost_ret (results_ctt rfl _ _ (w.heap.size + 1) 65 #[.int .i64 0, .int .i64 0] (0, 0) _ rfl k2 Tryz.underlying65 rfl (by kernel_rfl)) rfl ?_; exact ⟨rfl, Ba (Ba (Below.refl _ _) _) _⟩
 ·rw [if_neg g1] at h
  have g1' : decide ((40 : Int) < (l0.length : Int)) = false := by simp; omega
  have k1 := Ka (blk_new w (.cells #[.slice A0 l0.length c0] 22)) (.cells #[.int .i64 0, .int .i64 0] 65)
  have k2 : ((w.alloc (.cells #[.slice A0 l0.length c0] 22)).alloc (.cells #[.int .i64 0, .int .i64 0] 65)).heap[w.heap.size + 1]? = some (.cells #[.int .i64 0, .int .i64 0] 65) := by
   have := blk_new (w.alloc (.cells #[.slice A0 l0.length c0] 22)) (.cells #[.int .i64 0, .int .i64 0] 65); rwa [World.size_alloc] at this
  have K1 := Aa k1; have K2 := Aa k2; have KB := Aa (Ba (Ba (Below.refl w.heap.size w) (.cells #[.slice A0 l0.length c0] 22)) (.cells #[.int .i64 0, .int .i64 0] 65)); clear k1 k2
  have hl : (l0.length : Int) ≤ 40 := by omega
  clear g1
  obtain ⟨b, hb⟩ : ∃ b, l0.all good27 = b := ⟨_, rfl⟩
  rw [hb] at h; have HA := Aa (skew_all.calls A0 c0 l0 b ((w.alloc (.cells #[.slice A0 l0.length c0] 22)).alloc (.cells #[.int .i64 0, .int .i64 0] 65)) (Kd.C_below HR0.out KB.out) hc0 (by unfold skew_all.f; rw [hb])); have HG := Aa hb; clear hb; cases b
  ·rw [if_neg (by simp)] at h; simp only [Option.some.injEq, Prod.mk.injEq] at h; obtain ⟨rfl, rfl, rfl, rfl⟩ := h
   go_enter Tryz.func35, Tryz.ntmps35
   go_wp2_with fail
   refine HA.out.mono ?_; rintro e w1 ⟨rfl, hb⟩; have h2 := blk_below K2.out hb; have HB := Aa (Bp KB.out hb); clear hb; have f0 := Bf h2 0; have f1 := Bf h2 1; have e0 := cell_at h2 0 _ rfl; have e1 := cell_at h2 1 _ rfl; have H2 := Aa h2; clear h2; go_wp2; refine bodyPost_ret (results_ctt rfl _ _ (w.heap.size + 1) 65 #[.int .i64 0, .int .i64 0] (0, 0) _ rfl (blk_put (cs := #[.int .i64 0, .int .i64 0]) (blk_put (cs := #[.int .i64 0, .int .i64 0]) H2.out 0 _ rfl) 1 _ rfl) Tryz.underlying65 rfl (by kernel_rfl)) rfl ?_; exact ⟨rfl, Bz (Bz HB.out (by omega)) (by omega)⟩
  ·rw [if_pos rfl] at h
   by_cases g0 : l0.length = 0
   ·rw [if_pos g0] at h; simp only [Option.some.injEq, Prod.mk.injEq] at h; obtain ⟨rfl, rfl, rfl, rfl⟩ := h
    have g0' : ((l0.length : Int) == 0) = true := by rw [g0]; rfl
    clear g0
    go_enter Tryz.func35, Tryz.ntmps35
    go_wp2_with fail
    refine HA.out.mono ?_; rintro e w1 ⟨rfl, hb⟩; have h1 := blk_below K1.out hb; have h2 := blk_below K2.out hb; have HB := Aa (Bp KB.out hb); clear hb; have f0 := Bf h2 0; have f1 := Bf h2 1; have e0 := cell_at h2 0 _ rfl; have e1 := cell_at h2 1 _ rfl; have e2 := cell_at h1 0 (.slice A0 l0.length c0) rfl; have H2 := Aa h2; clear h2 h1; go_wp2; refine bodyPost_ret (results_ctt rfl _ _ (w.heap.size + 1) 65 #[.int .i64 0, .int .i64 0] (0, 0) _ rfl (blk_put (cs := #[.int .i64 0, .int .i64 0]) (blk_put (cs := #[.int .i64 0, .int .i64 0]) H2.out 0 _ rfl) 1 _ rfl) Tryz.underlying65 rfl (by kernel_rfl)) rfl ?_; exact ⟨rfl, Bz (Bz HB.out (by omega)) (by omega)⟩
   ·rw [if_neg g0] at h
    have g0' : ((l0.length : Int) == 0) = false := by rw [beq_eq_false_iff_ne]; omega
    clear g0; have H := Aa h; clear h
    go_enter Tryz.func35, Tryz.ntmps35
    go_wp2_with fail
    refine HA.out.mono ?_; rintro e w1 ⟨rfl, hb⟩; have h1 := blk_below K1.out hb; have h2 := blk_below K2.out hb; have HB := Aa (Bp KB.out hb); clear hb HA K1 K2 KB; have e2 := cell_at h1 0 (.slice A0 l0.length c0) rfl; have H2 := Aa h2; have H1 := Aa h1; have e3 := cell_at (Ka h1 (.cells #[.func (.func 59) #[] #[.pointer (some ⟨w.heap.size, 0, none⟩)]] 107)) 0 (.slice A0 l0.length c0) rfl; clear h2 h1
    go_wp2_with fail
    have hV := far_vote A0 c0 l0 0 (w1.alloc (.cells #[.func (.func 59) #[] #[.pointer (some ⟨w.heap.size, 0, none⟩)]] 107)) w1.heap.size
     (fun W => W.heap[w.heap.size]? = some (.cells #[.slice A0 l0.length c0] 22 (0, 0)) ∧ W.heap[w1.heap.size]? = some (.cells #[.func (.func 59) #[] #[.pointer (some ⟨w.heap.size, 0, none⟩)]] 107 (0, 0)) ∧ Kd.C k65 W A0 l0.length l0)
     (fun s => haveF l0 s.f0) ⟨Ka H1.out _, blk_new _ _, Kd.C_alloc (Kd.C_below HR0.out HB.out) _⟩ (fun W W' h hb => ⟨blk_below h.1 hb, blk_below h.2.1 hb, Kd.C_below h.2.2 hb⟩) (fun W h => h.2.2)
     (fun s W h => vote2_calls A0 c0 l0 s _ _ W h.1 h.2.1 h.2.2)
    refine hV.mono ?_; rintro e w2 ⟨rfl, ⟨k1, k5, _⟩, kb⟩; clear hV e2 e3; have h2 := blk_below (Ka H2.out _) kb; have hn2 := blk_lt H2.out; have hs2 := kb.size; have HB2 := Aa (Bp (Ba HB.out _) kb)
    obtain ⟨b5, hb5⟩ : ∃ b, w1.heap.size = b := ⟨_, rfl⟩
    obtain ⟨M, hM⟩ : ∃ M, farF (fun s => haveF l0 s.f0) (fun a b => decide (a > b)) 0 l0 = M := ⟨_, rfl⟩
    have hH := H.out; unfold voteMost at hH; rw [hM] at hH ⊢; rw [hb5] at k5 ⊢; simp only [Option.some.injEq, Prod.mk.injEq] at hH; obtain ⟨rfl, rfl, rfl, rfl⟩ := hH
    have HV := Aa (show VoteInv A0 c0 l0 w.heap.size (w.heap.size + 1) b5 w2.heap.size 1000000 1000000 w (w2.alloc (.cells #[.int .i64 1000000, .int .i64 1000000] 65)) from
     ⟨Ka k1 _, Ka h2 _, Ka k5 _, blk_new _ _, Ba HB2.out _, HB2.out.size, by have := blk_lt h2; omega⟩)
    have e1 := cell_at HV.out.h1 0 (.slice A0 l0.length c0) rfl; clear k1 k5 kb h2 hn2 hs2 HB HB2 H H1 H2 hM hb5 g1'
    go_wp2_with fail
    go_loopw [32, 9] (fun v32 _ W => ∃ (i lo : Int), 0 ≤ i ∧ i ≤ l0.length ∧ v32 = .int .i64 i ∧ Aside0 (voteLow l0 M (l0.drop i.toNat) lo = voteLow l0 M l0 1000000) ∧ Aside0 (VoteInv A0 c0 l0 w.heap.size (w.heap.size + 1) b5 w2.heap.size lo 1000000 w W)) (fun v _ _ => l0.length - (intOf v).toNat)
    case atStart => exact ⟨0, 1000000, by omega, by omega, rfl, ⟨rfl⟩, HV⟩
    case round =>
     clear e1; obtain ⟨i, lo, h0, hk, rfl, HA, HV⟩ := hrel
     by_cases hlt : i < l0.length
     ·have hCr := Kd.C_below HR0.out HV.out.hb; obtain ⟨ad, e217, hx0, hx1⟩ := at_T65 hCr i h0 hlt; cases e217; have hA := HA.out; unfold voteLow at hA; rw [drop_rd l0 i h0 hlt, List.foldl_cons] at hA; clear HA
      obtain ⟨x, hx⟩ : ∃ x, rd_T65 l0 i = x := ⟨_, rfl⟩
      rw [hx] at hx0 hx1 hA; clear hx; have HV2 := Aa (HV.out.alloc (.cells #[.int .i64 x.f0, .int .i64 x.f1] 65)); have e0 := cell_at HV2.out.h7 0 (.int .i64 lo) rfl; have e5 := cell_at HV2.out.h5 0 (.func (.func 59) #[] #[.pointer (some ⟨w.heap.size, 0, none⟩)]) rfl; have HCa := Aa (have_calls _ c0 l0 x.f0 w.heap.size _ HV2.out.h1 (Kd.C_alloc hCr _)); clear hCr
      by_cases g1 : x.f0 < lo
      ·obtain ⟨q, hq⟩ : ∃ q, haveF l0 x.f0 = q := ⟨_, rfl⟩
       rw [hq] at hA HCa; clear hq
       by_cases g2 : q = M
       ·rw [if_pos ⟨g1, g2⟩] at hA; have HA := Aa hA
        have g2' : (q == M) = true := by rw [g2]; exact beq_self_eq_true _
        clear hA g2
        go_wp2_with (go_at_call 59; refine HCa.out.mono ?_; rintro e w3 ⟨rfl, hb⟩; have HV3 := Aa (HV2.out.step hb); have ex := cell_at (blk_below (blk_new _ _) hb) 0 (.int .i64 x.f0) rfl; have e7 := cell_at HV3.out.h7 0 (.int .i64 lo) rfl; have f7 := Bf HV3.out.h7 0; clear HCa e0 e5 HV2 hb)
        go_roundw
        case rel => exact ⟨i + 1, x.f0, by omega, by omega, rfl, HA, ⟨HV3.out.put0 x.f0⟩⟩
        case measure => simp [intOf]; omega
       ·rw [if_neg (fun h => g2 h.2)] at hA; have HA := Aa hA
        have g2' : (q == M) = false := by rw [beq_eq_false_iff_ne]; exact g2
        clear hA g2
        go_wp2_with (go_at_call 59; refine HCa.out.mono ?_; rintro e w3 ⟨rfl, hb⟩; have HV3 := Aa (HV2.out.step hb); clear HCa e0 e5 HV2 hb)
        go_roundw
        case rel => exact ⟨i + 1, lo, by omega, by omega, rfl, HA, HV3⟩
        case measure => simp [intOf]; omega
      ·rw [if_neg (fun h => g1 h.1)] at hA; have HA := Aa hA; clear hA
       go_wp2_with fail
       go_roundw
       case rel => exact ⟨i + 1, lo, by omega, by omega, rfl, HA, HV2⟩
       case measure => simp [intOf]; omega
     ·have hA := HA.out; rw [List.drop_of_length_le (by omega)] at hA; have hA' : voteLow l0 M l0 1000000 = lo := hA.symm; have E1 := Aa hA'; clear HA hA hA'; have e1 := cell_at HV.out.h1 0 (.slice A0 l0.length c0) rfl
      go_wp2_with fail
      clear e1 hk h0 hlt
      go_loopw [55, 11] (fun v55 _ W => ∃ (i hi : Int), 0 ≤ i ∧ i ≤ l0.length ∧ hi ≤ 1000000 ∧ v55 = .int .i64 i ∧ Aside0 (voteHigh l0 M lo (l0.drop i.toNat) hi = voteHigh l0 M lo l0 1000000) ∧ Aside0 (VoteInv A0 c0 l0 w.heap.size (w.heap.size + 1) b5 w2.heap.size lo hi w W)) (fun v _ _ => l0.length - (intOf v).toNat)
      case atStart => exact ⟨0, 1000000, by omega, by omega, by omega, rfl, ⟨rfl⟩, HV⟩
      case round =>
       obtain ⟨i, hi, h0, hk, hhi, rfl, HA, HV⟩ := hrel
       by_cases hlt : i < l0.length
       ·have hCr := Kd.C_below HR0.out HV.out.hb; obtain ⟨ad, e217, hx0, hx1⟩ := at_T65 hCr i h0 hlt; cases e217; have hA := HA.out; unfold voteHigh at hA; rw [drop_rd l0 i h0 hlt, List.foldl_cons] at hA; clear HA; obtain ⟨y1, y2, y3⟩ := good_rd l0 i HG.out h0 hlt
        obtain ⟨x, hx⟩ : ∃ x, rd_T65 l0 i = x := ⟨_, rfl⟩
        rw [hx] at hx0 hx1 hA y1 y2 y3; clear hx; have HV2 := Aa (HV.out.alloc (.cells #[.int .i64 x.f0, .int .i64 x.f1] 65)); have e0 := cell_at HV2.out.h7 0 (.int .i64 lo) rfl; have e0' := cell_at HV2.out.h7 1 (.int .i64 hi) rfl; have e5 := cell_at HV2.out.h5 0 (.func (.func 59) #[] #[.pointer (some ⟨w.heap.size, 0, none⟩)]) rfl; have HCa := Aa (have_calls _ c0 l0 (wrap64 (x.f1 + 1)) w.heap.size _ HV2.out.h1 (Kd.C_alloc hCr _)); clear hCr
        by_cases g1 : lo ≤ x.f1
        ·by_cases g2 : x.f1 < hi
         ·have ew : wrap64 (x.f1 + 1) = x.f1 + 1 := by unfold wrap64; omega
          rw [ew] at HCa; clear ew
          obtain ⟨q, hq⟩ : ∃ q, haveF l0 (x.f1 + 1) = q := ⟨_, rfl⟩
          rw [hq] at hA HCa; clear hq
          by_cases g3 : q < M
          ·rw [if_pos ⟨g1, g2, g3⟩] at hA; have HA := Aa hA; clear hA
           go_wp2_with (go_at_call 59; refine HCa.out.mono ?_; rintro e w3 ⟨rfl, hb⟩; have HV3 := Aa (HV2.out.step hb); have ex := cell_at (blk_below (blk_new _ _) hb) 1 (.int .i64 x.f1) rfl; have e7 := cell_at HV3.out.h7 1 (.int .i64 hi) rfl; have f7 := Bf HV3.out.h7 1; clear HCa e0 e0' e5 HV2 hb)
           go_roundw
           case rel => exact ⟨i + 1, x.f1, by omega, by omega, by omega, rfl, HA, ⟨HV3.out.put1 x.f1⟩⟩
           case measure => simp [intOf]; omega
          ·rw [if_neg (fun h => g3 h.2.2)] at hA; have HA := Aa hA; clear hA
           go_wp2_with (go_at_call 59; refine HCa.out.mono ?_; rintro e w3 ⟨rfl, hb⟩; have HV3 := Aa (HV2.out.step hb); clear HCa e0 e0' e5 HV2 hb)
           go_roundw
           case rel => exact ⟨i + 1, hi, by omega, by omega, by omega, rfl, HA, HV3⟩
           case measure => simp [intOf]; omega
         ·rw [if_neg (fun h => g2 h.2.1)] at hA; have HA := Aa hA; clear hA HCa e5
          go_wp2_with fail
          go_roundw
          case rel => exact ⟨i + 1, hi, by omega, by omega, by omega, rfl, HA, HV2⟩
          case measure => simp [intOf]; omega
        ·rw [if_neg (fun h => g1 h.1)] at hA; have HA := Aa hA; clear hA HCa e5 e0'
         go_wp2_with fail
         go_roundw
         case rel => exact ⟨i + 1, hi, by omega, by omega, by omega, rfl, HA, HV2⟩
         case measure => simp [intOf]; omega
       ·have hA := HA.out; rw [List.drop_of_length_le (by omega)] at hA; have hA' : voteHigh l0 M lo l0 1000000 = hi := hA.symm; have E2 := Aa hA'; clear HA hA hA'; have e0 := cell_at HV.out.h7 0 (.int .i64 lo) rfl; have e1 := cell_at HV.out.h7 1 (.int .i64 hi) rfl; have e2 := cell_at HV.out.h2 0 (.int .i64 0) rfl; have e3 := cell_at HV.out.h2 1 (.int .i64 0) rfl; have f2 := Bf HV.out.h2 0; have f3 := Bf HV.out.h2 1; go_wp2; refine bodyPost_ret (results_ctt rfl _ _ (w.heap.size + 1) 65 #[.int .i64 lo, .int .i64 hi] (0, 0) _ rfl (blk_put (cs := #[.int .i64 lo, .int .i64 0]) (blk_put (cs := #[.int .i64 0, .int .i64 0]) HV.out.h2 0 _ rfl) 1 _ rfl) Tryz.underlying65 rfl (by kernel_rfl)) rfl ?_; exact ⟨by rw [E1.out, E2.out]; rfl, Bz (Bz HV.out.hb (by omega)) (by omega)⟩
end
section
theorem drop65 (l : List S65) (i : Nat) (h : i < l.length) : l.drop i = rd_T65 l (i : Int) :: l.drop (i + 1) := by
 have er : rd_T65 l (i : Int) = l[i] := by simp [rd_T65, rdOf, List.getD_eq_getElem?_getD, h]
 rw [List.drop_eq_getElem_cons h, er]
theorem mem65 (l : List S65) (i : Nat) (h : i < l.length) : rd_T65 l (i : Int) ∈ l := by
 have er : rd_T65 l (i : Int) = l[i] := by simp [rd_T65, rdOf, List.getD_eq_getElem?_getD, h]
 rw [er]; exact List.getElem_mem h
theorem wrapS {i : Nat} (h : i < 1000000) : wrap64 ((i : Int) + 1) = ((i + 1 : Nat) : Int) := by unfold wrap64; omega
theorem timeB (t : Int) : rf_Time.f t = some (decide (-1000000 ≤ t ∧ t ≤ 1000000)) := by
 unfold rf_Time.f
 by_cases h0 : t ≥ -1000000
 ·rw [if_pos h0]; simp [show (-1000000 : Int) ≤ t from h0]
 ·rw [if_neg h0]; simp [show ¬ (-1000000 : Int) ≤ t from h0]
theorem good_b (a b : Int) : rf_Good.f a b = some (good27 ⟨a, b⟩) := by
 unfold rf_Good.f good27
 by_cases h : a ≤ b
 ·rw [if_pos h, timeB, timeB]; simp only [Option.bind_some]
  by_cases h1 : -1000000 ≤ a ∧ a ≤ 1000000
  ·rw [decide_eq_true h1, if_pos rfl]
   congr 1
   by_cases h2 : -1000000 ≤ b ∧ b ≤ 1000000
   ·simp [h, h1.1, h2.1, h2.2]
   ·have : ¬ b ≤ 1000000 := by omega
    simp [this]
  ·rw [decide_eq_false h1, if_neg (by simp)]
   congr 1
   by_cases h2 : a ≥ -1000000
   ·have : ¬ b ≤ 1000000 := by omega
    simp [this]
   ·simp [h2]
 ·rw [if_neg h]; simp [h]
theorem ev_goods (l : List S65) (hl : l.length ≤ 40) : ∀ (d i : Nat), i + d = l.length → Ev (fun k => rf_Goods.l0 k l (i : Int)) ((l.drop i).all good27)
 | 0, i, h => by
  rw [List.drop_of_length_le (by omega)]
  exact Ev.step (f := fun _ => some true) (fun k => by simp only [rf_Goods.l0]; rw [if_neg (by omega)]) (Ev.now true)
 | d + 1, i, h => by
  rw [drop65 l i (by omega), List.all_cons]
  cases hg : good27 (rd_T65 l (i : Int)) with
  | false =>
   exact Ev.step (f := fun _ => some false) (fun k => by simp only [rf_Goods.l0]; rw [if_pos (by omega), if_pos (by omega), good_b, hg]; rfl) (Ev.now false)
  | true =>
   refine Ev.step (f := fun k => rf_Goods.l0 k l ((i + 1 : Nat) : Int)) (fun k => ?_) (ev_goods l hl d (i + 1) (by omega)); simp only [rf_Goods.l0]; rw [if_pos (by omega), if_pos (by omega), good_b, hg]; simp only [Option.bind_some, if_true]; rw [wrapS (by omega)]
end
section
theorem rd_set (xs : List Int) (k : Int) (j : Int) (v : Int) (h0 : 0 ≤ k) (hk : k < xs.length) (hj : 0 ≤ j) : rd (xs.set k.toNat v) j = if j = k then v else rd xs j := by
 unfold rd; rw [List.getD_eq_getElem?_getD, List.getD_eq_getElem?_getD, List.getElem?_set]
 by_cases e : j = k
 ·subst e; rw [if_pos rfl, if_pos rfl, if_pos (by omega)]; rfl
 ·rw [if_neg (by omega), if_neg e]
structure GapIn (n : Nat) (g : S82) : Prop where
 a0 : 0 ≤ g.f0
 a1 : g.f0 < n
 b0 : 0 ≤ g.f1
 b1 : g.f1 < n
 ne : g.f0 ≠ g.f1
 le : g.f2 ≤ g.f3
 lo : -2000000 ≤ g.f2
 hi : g.f3 ≤ 2000000
def GapSat (g : S82) (t : Int → Int) : Prop := g.f2 ≤ t g.f1 - t g.f0 ∧ t g.f1 - t g.f0 ≤ g.f3
def relA (g : S82) (x : List Int) : List Int := if rd x g.f1 < rd x g.f0 + g.f2 then x.set g.f1.toNat (rd x g.f0 + g.f2) else x
def relB (g : S82) (x : List Int) : List Int := if rd x g.f0 < rd x g.f1 - g.f3 then x.set g.f0.toNat (rd x g.f1 - g.f3) else x
def chg (g : S82) (x : List Int) : Bool := decide (rd x g.f1 < rd x g.f0 + g.f2) || decide (rd (relA g x) g.f0 < rd (relA g x) g.f1 - g.f3)
def rel (s : List Int × Bool) (g : S82) : List Int × Bool := (relB g (relA g s.1), s.2 || chg g s.1)
def roundL (gaps : List S82) (x : List Int) : List Int × Bool := gaps.foldl rel (x, false)
def leastL (gaps : List S82) : Nat → List Int → Option (List Int)
 | 0, _ => none
 | n + 1, x => if (roundL gaps x).2 = true then leastL gaps n (roundL gaps x).1 else some (roundL gaps x).1
def leastR (gaps : List S82) (low : List Int) : List Int × Bool :=
 match leastL gaps (low.length + 1) low with
 | some x => (x, true)
 | none => ([], false)
section
variable {n : Nat} {g : S82} {x : List Int}
theorem relA_len : (relA g x).length = x.length := by unfold relA; split <;> simp
theorem relB_len : (relB g x).length = x.length := by unfold relB; split <;> simp
theorem relA_at (hg : GapIn n g) (hx : x.length = n) (j : Int) (hj : 0 ≤ j) : rd (relA g x) j = if j = g.f1 ∧ rd x g.f1 < rd x g.f0 + g.f2 then rd x g.f0 + g.f2 else rd x j := by
 unfold relA
 by_cases c : rd x g.f1 < rd x g.f0 + g.f2
 ·rw [if_pos c, rd_set _ _ _ _ hg.b0 (by have := hg.b1; omega) hj]
  by_cases e : j = g.f1
  ·rw [if_pos e, if_pos ⟨e, c⟩]
  ·rw [if_neg e, if_neg (fun h => e h.1)]
 ·rw [if_neg c, if_neg (fun h => c h.2)]
theorem relB_at (hg : GapIn n g) (hx : x.length = n) (j : Int) (hj : 0 ≤ j) : rd (relB g x) j = if j = g.f0 ∧ rd x g.f0 < rd x g.f1 - g.f3 then rd x g.f1 - g.f3 else rd x j := by
 unfold relB
 by_cases c : rd x g.f0 < rd x g.f1 - g.f3
 ·rw [if_pos c, rd_set _ _ _ _ hg.a0 (by have := hg.a1; omega) hj]
  by_cases e : j = g.f0
  ·rw [if_pos e, if_pos ⟨e, c⟩]
  ·rw [if_neg e, if_neg (fun h => e h.1)]
 ·rw [if_neg c, if_neg (fun h => c h.2)]
def LeAt (n : Nat) (x : List Int) (t : Int → Int) : Prop := ∀ j : Int, 0 ≤ j → j < n → rd x j ≤ t j
theorem relA_up (hg : GapIn n g) (hx : x.length = n) : LeAt n x (rd (relA g x)) := fun j h0 h1 => by
 rw [relA_at hg hx j h0]
 split
 ·rename_i c; obtain ⟨rfl, c⟩ := c; omega
 ·exact Int.le_refl _
theorem relB_up (hg : GapIn n g) (hx : x.length = n) : LeAt n x (rd (relB g x)) := fun j h0 h1 => by
 rw [relB_at hg hx j h0]
 split
 ·rename_i c; obtain ⟨rfl, c⟩ := c; omega
 ·exact Int.le_refl _
theorem rel_up (hg : GapIn n g) (hx : x.length = n) : LeAt n x (rd (relB g (relA g x))) := fun j h0 h1 =>
 Int.le_trans (relA_up hg hx j h0 h1) (relB_up hg (relA_len.trans hx) j h0 h1)
theorem rel_le (hg : GapIn n g) (hx : x.length = n) {t : Int → Int} (ht : GapSat g t) (hxt : LeAt n x t) : LeAt n (relB g (relA g x)) t := by
 have hA : LeAt n (relA g x) t := fun j h0 h1 => by
  rw [relA_at hg hx j h0]
  split
  ·rename_i c; obtain ⟨rfl, c⟩ := c
   have := hxt g.f0 hg.a0 hg.a1; have := ht.1; omega
  ·exact hxt j h0 h1
 intro j h0 h1; rw [relB_at hg (relA_len.trans hx) j h0]
 split
 ·rename_i c; obtain ⟨rfl, c⟩ := c
  have := hA g.f1 hg.b0 hg.b1; have := ht.2; omega
 ·exact hA j h0 h1
theorem rel_A (hg : GapIn n g) (hx : x.length = n) : rd x g.f0 + g.f2 ≤ rd (relB g (relA g x)) g.f1 := by
 refine Int.le_trans ?_ (relB_up hg (relA_len.trans hx) g.f1 hg.b0 hg.b1); rw [relA_at hg hx _ hg.b0]
 split
 ·exact Int.le_refl _
 ·rename_i c
  have : ¬ rd x g.f1 < rd x g.f0 + g.f2 := fun h => c ⟨rfl, h⟩
  omega
theorem rel_B (hg : GapIn n g) (hx : x.length = n) : rd x g.f1 - g.f3 ≤ rd (relB g (relA g x)) g.f0 := by
 have h1 := relA_up hg hx g.f1 hg.b0 hg.b1; rw [relB_at hg (relA_len.trans hx) _ hg.a0]
 split
 ·omega
 ·rename_i c
  have : ¬ rd (relA g x) g.f0 < rd (relA g x) g.f1 - g.f3 := fun h => c ⟨rfl, h⟩
  omega
theorem rel_none (h : chg g x = false) : relB g (relA g x) = x ∧ GapSat g (rd x) := by
 unfold chg at h; rw [Bool.or_eq_false_iff] at h; have h1 := of_decide_eq_false h.1; have e : relA g x = x := if_neg h1; have h2 := of_decide_eq_false h.2; rw [e] at h2 ⊢; exact ⟨if_neg h2, by omega, by omega⟩
theorem rel_some (hg : GapIn n g) (hx : x.length = n) (h : chg g x = true) : ¬ GapSat g (rd x) := by
 rintro ⟨h1, h2⟩; have e : relA g x = x := if_neg (by omega); unfold chg at h; rw [e, decide_eq_false (by omega), decide_eq_false (by omega)] at h; cases h
theorem rel_bd (hg : GapIn n g) (hx : x.length = n) {u : Int} (hu : LeAt n x fun _ => u) : LeAt n (relB g (relA g x)) fun _ => u + 4000000 := by
 have h2 := hg.hi; have h3 := hg.lo; have h4 := hg.le
 have hA : LeAt n (relA g x) fun _ => u + 2000000 := fun j h0 h1 => by
  rw [relA_at hg hx j h0]
  split
  ·have := hu g.f0 hg.a0 hg.a1; show _ ≤ u + 2000000; have : rd x g.f0 ≤ u := this; omega
  ·have := hu j h0 h1; show _ ≤ u + 2000000; have : rd x j ≤ u := this; omega
 intro j h0 h1; rw [relB_at hg (relA_len.trans hx) j h0]
 split
 ·have := hA g.f1 hg.b0 hg.b1; show _ ≤ u + 4000000; have : rd (relA g x) g.f1 ≤ u + 2000000 := this; omega
 ·have := hA j h0 h1; show _ ≤ u + 4000000; have : rd (relA g x) j ≤ u + 2000000 := this; omega
end
section
variable {n : Nat}
theorem fold_len : ∀ (gaps : List S82) (s : List Int × Bool), (gaps.foldl rel s).1.length = s.1.length
 | [], s => rfl
 | g :: gaps, s => by rw [List.foldl_cons, fold_len gaps]; show (relB g (relA g s.1)).length = _; rw [relB_len, relA_len]
theorem fold_up : ∀ (gaps : List S82) (s : List Int × Bool), (∀ g ∈ gaps, GapIn n g) → s.1.length = n → LeAt n s.1 (rd (gaps.foldl rel s).1)
 | [], s, _, _ => fun j _ _ => Int.le_refl _
 | g :: gaps, s, hg, hs => fun j h0 h1 => by
  rw [List.foldl_cons]; have a := rel_up (hg g List.mem_cons_self) hs j h0 h1; have b := fold_up gaps (rel s g) (fun y hy => hg y (List.mem_cons_of_mem _ hy)) (by show (relB g (relA g s.1)).length = n; rw [relB_len, relA_len]; exact hs) j h0 h1; exact Int.le_trans a b
theorem fold_le : ∀ (gaps : List S82) (s : List Int × Bool) {t : Int → Int}, (∀ g ∈ gaps, GapIn n g) → s.1.length = n → (∀ g ∈ gaps, GapSat g t) → LeAt n s.1 t → LeAt n (gaps.foldl rel s).1 t
 | [], s, t, _, _, _, h => h
 | g :: gaps, s, t, hg, hs, ht, h => by
  rw [List.foldl_cons]; exact fold_le gaps (rel s g) (fun y hy => hg y (List.mem_cons_of_mem _ hy)) (by show (relB g (relA g s.1)).length = n; rw [relB_len, relA_len]; exact hs) (fun y hy => ht y (List.mem_cons_of_mem _ hy)) (rel_le (hg g List.mem_cons_self) hs (ht g List.mem_cons_self) h)
theorem fold_true : ∀ (gaps : List S82) (s : List Int × Bool), s.2 = true → (gaps.foldl rel s).2 = true
 | [], s, h => h
 | g :: gaps, s, h => by rw [List.foldl_cons]; exact fold_true gaps _ (by show (s.2 || _) = true; rw [h]; rfl)
theorem fold_false : ∀ (gaps : List S82) (s : List Int × Bool), (gaps.foldl rel s).2 = false → (gaps.foldl rel s).1 = s.1 ∧ ∀ g ∈ gaps, GapSat g (rd s.1)
 | [], s, h => ⟨rfl, fun g hg => by cases hg⟩
 | g :: gaps, s, h => by
  rw [List.foldl_cons] at h ⊢; obtain ⟨a, b⟩ := fold_false gaps (rel s g) h
  have hc : chg g s.1 = false := by
   cases e : chg g s.1 with
   | false => rfl
   | true => rw [fold_true gaps (rel s g) (by show (s.2 || chg g s.1) = true; rw [e, Bool.or_true])] at h; cases h
  obtain ⟨c, d⟩ := rel_none hc; have e : (rel s g).1 = s.1 := c; rw [e] at a b; refine ⟨a, fun y hy => ?_⟩
  rcases List.mem_cons.mp hy with rfl | hy
  ·exact d
  ·exact b y hy
theorem fold_still : ∀ (gaps : List S82) (s : List Int × Bool), (∀ g ∈ gaps, GapIn n g) → s.1.length = n → (∀ g ∈ gaps, GapSat g (rd s.1)) → gaps.foldl rel s = s
 | [], s, _, _, _ => rfl
 | g :: gaps, s, hg, hs, h => by
  rw [List.foldl_cons]
  have hc : chg g s.1 = false := by
   cases e : chg g s.1 with
   | false => rfl
   | true => exact absurd (h g List.mem_cons_self) (rel_some (hg g List.mem_cons_self) hs e)
  have e : rel s g = s := by
   show (relB g (relA g s.1), s.2 || chg g s.1) = s; rw [(rel_none hc).1, hc, Bool.or_false]
  rw [e]; exact fold_still gaps s (fun y hy => hg y (List.mem_cons_of_mem _ hy)) hs (fun y hy => h y (List.mem_cons_of_mem _ hy))
theorem fold_gap : ∀ (gaps : List S82) (s : List Int × Bool), (∀ g ∈ gaps, GapIn n g) → s.1.length = n → ∀ g ∈ gaps, rd s.1 g.f0 + g.f2 ≤ rd (gaps.foldl rel s).1 g.f1 ∧ rd s.1 g.f1 - g.f3 ≤ rd (gaps.foldl rel s).1 g.f0
 | [], s, _, _, g, h => by cases h
 | g' :: gaps, s, hg, hs, g, h => by
  rw [List.foldl_cons]; have hg' := hg g' List.mem_cons_self
  have hr := fun y hy => hg y (List.mem_cons_of_mem g' hy)
  have hl : (rel s g').1.length = n := by show (relB g' (relA g' s.1)).length = n; rw [relB_len, relA_len]; exact hs
  rcases List.mem_cons.mp h with rfl | h
  ·have u := fold_up gaps (rel s g) hr hl; exact ⟨Int.le_trans (rel_A hg' hs) (u g.f1 hg'.b0 hg'.b1), Int.le_trans (rel_B hg' hs) (u g.f0 hg'.a0 hg'.a1)⟩
  ·obtain ⟨a, b⟩ := fold_gap gaps (rel s g') hr hl g h; have hgg := hr g h; have u0 : rd s.1 g.f0 ≤ rd (rel s g').1 g.f0 := rel_up hg' hs g.f0 hgg.a0 hgg.a1; have u1 : rd s.1 g.f1 ≤ rd (rel s g').1 g.f1 := rel_up hg' hs g.f1 hgg.b0 hgg.b1; exact ⟨by omega, by omega⟩
theorem leastL_sound {gaps : List S82} (hg : ∀ g ∈ gaps, GapIn n g) : ∀ (m : Nat) (x y : List Int), x.length = n → leastL gaps m x = some y →
  y.length = n ∧ LeAt n x (rd y) ∧ (∀ g ∈ gaps, GapSat g (rd y)) ∧ ∀ t : Int → Int, (∀ g ∈ gaps, GapSat g t) → LeAt n x t → LeAt n y t
 | 0, x, y, _, h => by cases h
 | m + 1, x, y, hx, h => by
  unfold leastL at h; have hl : (roundL gaps x).1.length = n := (fold_len gaps (x, false)).trans hx; have hu : LeAt n x (rd (roundL gaps x).1) := fold_up gaps (x, false) hg hx
  by_cases c : (roundL gaps x).2 = true
  ·rw [if_pos c] at h; obtain ⟨h1, h2, h3, h4⟩ := leastL_sound hg m _ y hl h; exact ⟨h1, fun j a b => Int.le_trans (hu j a b) (h2 j a b), h3, fun t ht hxt => h4 t ht (fold_le gaps (x, false) hg hx ht hxt)⟩
  ·rw [if_neg c] at h
   injection h with h
   obtain ⟨a, b⟩ := fold_false gaps (x, false) (Bool.eq_false_iff.mpr c); have e : (roundL gaps x).1 = x := a; rw [e] at h; subst h; exact ⟨hx, fun j _ _ => Int.le_refl _, b, fun t _ h => h⟩
def sumT (f : Int → Int) : Nat → Int
 | 0 => 0
 | n + 1 => sumT f n + f n
theorem sumT_le {f g : Int → Int} : ∀ m : Nat, (∀ j : Int, 0 ≤ j → j < m → f j ≤ g j) → sumT f m ≤ sumT g m
 | 0, _ => Int.le_refl _
 | m + 1, h => by
  have := sumT_le m (fun j a b => h j a (by omega)); have := h m (by omega) (by omega); show sumT f m + f m ≤ sumT g m + g m; omega
theorem sumT_lt {f g : Int → Int} : ∀ m : Nat, (∀ j : Int, 0 ≤ j → j < m → f j ≤ g j) → (∃ j : Int, 0 ≤ j ∧ j < m ∧ f j < g j) → sumT f m < sumT g m
 | 0, _, ⟨j, a, b, _⟩ => by omega
 | m + 1, h, ⟨j, a, b, c⟩ => by
  have h1 := sumT_le m (fun j a b => h j a (by omega)); have h2 := h m (by omega) (by omega); show sumT f m + f m < sumT g m + g m
  by_cases e : j = (m : Int)
  ·subst e; omega
  ·have := sumT_lt m (fun j a b => h j a (by omega)) ⟨j, a, by omega, c⟩; omega
theorem min_sum (gaps : List S82) (low : List Int) : ∀ (d : Nat) (t : Int → Int), (∀ g ∈ gaps, GapSat g t) → LeAt n low t → sumT t n - sumT (rd low) n < d →
  ∃ t, (∀ g ∈ gaps, GapSat g t) ∧ LeAt n low t ∧ ∀ t', (∀ g ∈ gaps, GapSat g t') → LeAt n low t' → sumT t n ≤ sumT t' n
 | 0, t, h1, h2, h3 => by
  have := sumT_le n h2
  omega
 | d + 1, t, h1, h2, h3 => by
  by_cases c : ∃ t', (∀ g ∈ gaps, GapSat g t') ∧ LeAt n low t' ∧ sumT t' n < sumT t n
  ·obtain ⟨t', a, b, e⟩ := c; exact min_sum gaps low d t' a b (by omega)
  ·exact ⟨t, h1, h2, fun t' a b => Int.not_lt.mp fun e => c ⟨t', a, b, e⟩⟩
def settled (x : List Int) (t : Int → Int) : Nat → Nat
 | 0 => 0
 | m + 1 => settled x t m + if rd x m = t m then 1 else 0
theorem settled_le (x : List Int) (t : Int → Int) : ∀ m, settled x t m ≤ m
 | 0 => Nat.le_refl _
 | m + 1 => by unfold settled; have := settled_le x t m; split <;> omega
theorem settled_mono (x y : List Int) (t : Int → Int) : ∀ m : Nat, (∀ j : Int, 0 ≤ j → j < m → rd x j = t j → rd y j = t j) → settled x t m ≤ settled y t m
 | 0, _ => Nat.le_refl _
 | m + 1, h => by
  unfold settled; have := settled_mono x y t m (fun j a b => h j a (by omega))
  by_cases c : rd x m = t m
  ·rw [if_pos c, if_pos (h m (by omega) (by omega) c)]; omega
  ·rw [if_neg c]; omega
theorem settled_lt (x y : List Int) (t : Int → Int) : ∀ m : Nat, (∀ j : Int, 0 ≤ j → j < m → rd x j = t j → rd y j = t j) → (∃ j : Int, 0 ≤ j ∧ j < m ∧ rd x j ≠ t j ∧ rd y j = t j) → settled x t m < settled y t m
 | 0, _, ⟨j, a, b, _⟩ => by omega
 | m + 1, h, ⟨j, a, b, c, d⟩ => by
  unfold settled; have h1 := settled_mono x y t m (fun j a b => h j a (by omega))
  by_cases e : j = (m : Int)
  ·subst e; rw [if_neg c, if_pos d]; omega
  ·have := settled_lt x y t m (fun j a b => h j a (by omega)) ⟨j, a, by omega, c, d⟩
   by_cases c : rd x m = t m
   ·rw [if_pos c, if_pos (h m (by omega) (by omega) c)]; omega
   ·rw [if_neg c]; omega
theorem round_settles {gaps : List S82} (hg : ∀ g ∈ gaps, GapIn n g) (low : List Int) {t : Int → Int} (h1 : ∀ g ∈ gaps, GapSat g t)
  (hmin : ∀ t', (∀ g ∈ gaps, GapSat g t') → LeAt n low t' → sumT t n ≤ sumT t' n) (x : List Int) (hx : x.length = n) (hlx : LeAt n low (rd x)) (hxt : LeAt n x t)
  (hne : ∃ j : Int, 0 ≤ j ∧ j < n ∧ rd x j ≠ t j) : settled x t n < settled (roundL gaps x).1 t n := by
 have hup : LeAt n x (rd (roundL gaps x).1) := fold_up gaps (x, false) hg hx; have hle : LeAt n (roundL gaps x).1 t := fold_le gaps (x, false) hg hx h1 hxt; refine settled_lt _ _ _ _ (fun j a b e => ?_) ?_
 ·have := hup j a b; have := hle j a b; omega
 ·refine Classical.byContradiction fun hc => ?_
  obtain ⟨j, j0, j1, hj⟩ := hne
  have hstep : ∀ g ∈ gaps, GapSat g (fun v => if rd x v = t v then t v else t v - 1) := fun g hgm => by
   have hgi := hg g hgm; have hs := h1 g hgm; obtain ⟨f1, f2⟩ := fold_gap gaps (x, false) hg hx g hgm; have a0 := hle g.f0 hgi.a0 hgi.a1; have a1 := hle g.f1 hgi.b0 hgi.b1; have b0 : rd x g.f0 ≤ rd (roundL gaps x).1 g.f0 := hup g.f0 hgi.a0 hgi.a1; have b1 : rd x g.f1 ≤ rd (roundL gaps x).1 g.f1 := hup g.f1 hgi.b0 hgi.b1; have f1 : rd x g.f0 + g.f2 ≤ rd (roundL gaps x).1 g.f1 := f1; have f2 : rd x g.f1 - g.f3 ≤ rd (roundL gaps x).1 g.f0 := f2
   have n0 : ¬ (rd x g.f0 ≠ t g.f0 ∧ rd (roundL gaps x).1 g.f0 = t g.f0) := fun h => hc ⟨g.f0, hgi.a0, hgi.a1, h⟩
   have n1 : ¬ (rd x g.f1 ≠ t g.f1 ∧ rd (roundL gaps x).1 g.f1 = t g.f1) := fun h => hc ⟨g.f1, hgi.b0, hgi.b1, h⟩
   have hs1 := hs.1; have hs2 := hs.2; show g.f2 ≤ (if rd x g.f1 = t g.f1 then t g.f1 else t g.f1 - 1) - (if rd x g.f0 = t g.f0 then t g.f0 else t g.f0 - 1) ∧ (if rd x g.f1 = t g.f1 then t g.f1 else t g.f1 - 1) - (if rd x g.f0 = t g.f0 then t g.f0 else t g.f0 - 1) ≤ g.f3
   by_cases c0 : rd x g.f0 = t g.f0
   ·by_cases c1 : rd x g.f1 = t g.f1
    ·rw [if_pos c0, if_pos c1]; exact hs
    ·rw [if_pos c0, if_neg c1]
     have : rd (roundL gaps x).1 g.f1 ≠ t g.f1 := fun h => n1 ⟨c1, h⟩
     exact ⟨by rw [c0] at f1; omega, by omega⟩
   ·by_cases c1 : rd x g.f1 = t g.f1
    ·rw [if_neg c0, if_pos c1]
     have : rd (roundL gaps x).1 g.f0 ≠ t g.f0 := fun h => n0 ⟨c0, h⟩
     exact ⟨by omega, by rw [c1] at f2; omega⟩
    ·rw [if_neg c0, if_neg c1]; exact ⟨by omega, by omega⟩
  have hlow : LeAt n low (fun v => if rd x v = t v then t v else t v - 1) := fun v a b => by
   have h2 := hlx v a b; have h3 := hxt v a b
   show rd low v ≤ (if rd x v = t v then t v else t v - 1)
   by_cases c : rd x v = t v
   ·rw [if_pos c]; omega
   ·rw [if_neg c]; omega
  have := hmin _ hstep hlow
  have := sumT_lt (f := fun v => if rd x v = t v then t v else t v - 1) (g := t) n (fun v a b => by
   show (if rd x v = t v then t v else t v - 1) ≤ t v
   by_cases c : rd x v = t v
   ·rw [if_pos c]; omega
   ·rw [if_neg c]; omega) ⟨j, j0, j1, by show (if _ then _ else _) < _; rw [if_neg hj]; omega⟩
  omega
theorem leastL_complete {gaps : List S82} (hg : ∀ g ∈ gaps, GapIn n g) (low : List Int) {t : Int → Int} (h1 : ∀ g ∈ gaps, GapSat g t)
  (hmin : ∀ t', (∀ g ∈ gaps, GapSat g t') → LeAt n low t' → sumT t n ≤ sumT t' n) : ∀ (m : Nat) (x : List Int), x.length = n → LeAt n low (rd x) → LeAt n x t → n ≤ settled x t n + m → (leastL gaps (m + 1) x).isSome = true
 | m, x, hx, hlx, hxt, hs => by
  have hl : (roundL gaps x).1.length = n := (fold_len gaps (x, false)).trans hx; have hup : LeAt n x (rd (roundL gaps x).1) := fold_up gaps (x, false) hg hx; have hle : LeAt n (roundL gaps x).1 t := fold_le gaps (x, false) hg hx h1 hxt; unfold leastL
  by_cases c : (roundL gaps x).2 = true
  ·rw [if_pos c]
   by_cases hne : ∃ j : Int, 0 ≤ j ∧ j < n ∧ rd x j ≠ t j
   ·have hlt := round_settles hg low h1 hmin x hx hlx hxt hne
    cases m with
    | zero =>
     have := settled_le (roundL gaps x).1 t n
     omega
    | succ m =>
     exact leastL_complete hg low h1 hmin m _ hl (fun j a b => Int.le_trans (hlx j a b) (hup j a b)) hle (by omega)
   ·exfalso
    have hall : ∀ j : Int, 0 ≤ j → j < n → rd x j = t j := fun j a b => Classical.byContradiction fun h => hne ⟨j, a, b, h⟩
    have := fold_still gaps (x, false) hg hx (fun g hgm => by
     have hgi := hg g hgm; have hs := h1 g hgm; unfold GapSat at hs ⊢; rw [hall g.f0 hgi.a0 hgi.a1, hall g.f1 hgi.b0 hgi.b1]
     exact hs)
    unfold roundL at c; rw [this] at c; cases c
  ·rw [if_neg c]; rfl
theorem least_spec {gaps : List S82} (low : List Int) (hg : ∀ g ∈ gaps, GapIn low.length g) :
  (∀ y, leastR gaps low = (y, true) → y.length = low.length ∧ LeAt low.length low (rd y) ∧ (∀ g ∈ gaps, GapSat g (rd y)) ∧ ∀ t : Int → Int, (∀ g ∈ gaps, GapSat g t) → LeAt low.length low t → LeAt low.length y t) ∧
  ((leastR gaps low).2 = true ↔ ∃ t, (∀ g ∈ gaps, GapSat g t) ∧ LeAt low.length low t) := by
 have hs := fun y => leastL_sound hg (low.length + 1) low y rfl
 constructor
 ·intro y hy; unfold leastR at hy
  split at hy
  ·rename_i x hx
   injection hy with hy _
   subst hy; exact hs x hx
  ·cases hy
 ·unfold leastR
  split
  ·rename_i x hx
   obtain ⟨_, h2, h3, _⟩ := hs x hx; exact ⟨fun _ => ⟨rd x, h3, h2⟩, fun _ => rfl⟩
  ·rename_i hx
   refine ⟨fun h => (by cases h), fun ⟨t, h1, h2⟩ => ?_⟩; exfalso; obtain ⟨t', a, b, c⟩ := min_sum (n := low.length) gaps low (sumT t low.length - sumT (rd low) low.length + 1).toNat t h1 h2 (by have := sumT_le low.length h2; omega); have := leastL_complete hg low a c low.length low rfl (fun j _ _ => Int.le_refl _) b (by omega); rw [hx] at this; cases this
end
end
section
theorem drop82 (l : List S82) (i : Nat) (h : i < l.length) : l.drop i = rd_T82 l (i : Int) :: l.drop (i + 1) := by
 have er : rd_T82 l (i : Int) = l[i] := by simp [rd_T82, rdOf, List.getD_eq_getElem?_getD, h]
 rw [List.drop_eq_getElem_cons h, er]
theorem mem82 (l : List S82) (i : Nat) (h : i < l.length) : rd_T82 l (i : Int) ∈ l := by
 have er : rd_T82 l (i : Int) = l[i] := by simp [rd_T82, rdOf, List.getD_eq_getElem?_getD, h]
 rw [er]; exact List.getElem_mem h
def Lo (n : Nat) (x : List Int) : Prop := ∀ j : Int, 0 ≤ j → j < n → -1000000000000000 ≤ rd x j
theorem lo_up {n : Nat} {x y : List Int} (h : Lo n x) (hu : LeAt n x (rd y)) : Lo n y := fun j a b => Int.le_trans (h j a b) (hu j a b)
theorem w64_mid {z : Int} (h : -4000000000000000000 ≤ z) (h' : z ≤ 4000000000000000000) : wrap64 z = z := by unfold wrap64; omega
theorem least_step (k : Nat) (low : List Int) (gaps : List S82) {n : Nat} (x : List Int) (r : Int) (c : Bool) (i : Nat) (u : Int) (hi : i < gaps.length) (hw : gaps.length ≤ 50)
  (hg : GapIn n (rd_T82 gaps (i : Int))) (hx : x.length = n) (hl : Lo n x) (hu : LeAt n x fun _ => u) (hU : u ≤ 1000000000000000) :
  rf_least.l1 (k + 1) low gaps x r c (i : Int) = rf_least.l1 k low gaps (rel (x, c) (rd_T82 gaps (i : Int))).1 r (rel (x, c) (rd_T82 gaps (i : Int))).2 ((i + 1 : Nat) : Int) := by
 obtain ⟨g, hgv⟩ : ∃ g, rd_T82 gaps (i : Int) = g := ⟨_, rfl⟩
 rw [hgv] at hg ⊢
 have e1 := hg.a0; have e2 := hg.a1; have e3 := hg.b0; have e4 := hg.b1; have e5 := hg.le; have e6 := hg.lo; have e7 := hg.hi
 simp only [rf_least.l1, hgv]; rw [if_pos (by omega), if_pos (by omega), if_pos e3, if_pos (by rw [hx]; exact e4), if_pos e1, if_pos (by rw [hx]; exact e2), wrapS (by omega)]; have l0 := hl g.f0 e1 e2; have l1 := hl g.f1 e3 e4; have u0 : rd x g.f0 ≤ u := hu g.f0 e1 e2; have u1 : rd x g.f1 ≤ u := hu g.f1 e3 e4; have q1 := w64_mid (z := rd x g.f0 + g.f2) (by omega) (by omega); have q2 := w64_mid (z := rd x g.f1 - g.f3) (by omega) (by omega); rw [q1, q2]; unfold rel chg; show _ = rf_least.l1 k low gaps (relB g (relA g x)) r (c || (decide (rd x g.f1 < rd x g.f0 + g.f2) || decide (rd (relA g x) g.f0 < rd (relA g x) g.f1 - g.f3))) ((i + 1 : Nat) : Int)
 by_cases c1 : rd x g.f1 < rd x g.f0 + g.f2
 ·rw [if_pos c1, Option.bind_some]; have hA : relA g x = x.set g.f1.toNat (rd x g.f0 + g.f2) := if_pos c1; rw [← hA]
  have a0 : rd (relA g x) g.f0 = rd x g.f0 := by rw [relA_at hg hx _ e1, if_neg (fun h => hg.ne h.1)]
  have a1 : rd (relA g x) g.f1 = rd x g.f0 + g.f2 := by rw [relA_at hg hx _ e3, if_pos ⟨rfl, c1⟩]
  have q3 := w64_mid (z := rd (relA g x) g.f1 - g.f3) (by omega) (by omega); rw [q3, decide_eq_true c1, Bool.true_or, Bool.or_true]
  by_cases c2 : rd (relA g x) g.f0 < rd (relA g x) g.f1 - g.f3
  ·rw [if_pos c2]; have hB : relB g (relA g x) = (relA g x).set g.f0.toNat (rd (relA g x) g.f1 - g.f3) := if_pos c2; rw [hB]
  ·rw [if_neg c2]; have hB : relB g (relA g x) = relA g x := if_neg c2; rw [hB]
 ·rw [if_neg c1]; have hA : relA g x = x := if_neg c1; rw [hA, decide_eq_false c1, Bool.false_or]
  by_cases c2 : rd x g.f0 < rd x g.f1 - g.f3
  ·rw [if_pos c2]; have hB : relB g x = x.set g.f0.toNat (rd x g.f1 - g.f3) := if_pos c2; rw [hB, decide_eq_true c2, Bool.or_true]
  ·rw [if_neg c2]; have hB : relB g x = x := if_neg c2; rw [hB, decide_eq_false c2, Bool.or_false]
theorem fold_bd {n : Nat} : ∀ (gaps : List S82) (s : List Int × Bool) (u : Int), (∀ g ∈ gaps, GapIn n g) → s.1.length = n → LeAt n s.1 (fun _ => u) → LeAt n (gaps.foldl rel s).1 fun _ => u + 4000000 * gaps.length
 | [], s, u, _, _, h => fun j a b => by have : rd s.1 j ≤ u := h j a b; show rd s.1 j ≤ u + 4000000 * ((0 : Nat) : Int); omega
 | g :: gaps, s, u, hg, hs, h => fun j a b => by
  rw [List.foldl_cons, List.length_cons]; have := fold_bd gaps (rel s g) (u + 4000000) (fun y hy => hg y (List.mem_cons_of_mem _ hy)) (by show (relB g (relA g s.1)).length = n; rw [relB_len, relA_len]; exact hs) (rel_bd (hg g List.mem_cons_self) hs h) j a b; have : rd (gaps.foldl rel (rel s g)).1 j ≤ u + 4000000 + 4000000 * gaps.length := this; show rd (gaps.foldl rel (rel s g)).1 j ≤ u + 4000000 * ((gaps.length + 1 : Nat) : Int); omega
theorem ev_least1 (low : List Int) (gaps : List S82) {n : Nat} (hw : gaps.length ≤ 50) (hg : ∀ g ∈ gaps, GapIn n g) (r : Int) {res : List Int × Bool} : ∀ (d i : Nat) (x : List Int) (c : Bool) (u : Int), i + d = gaps.length → x.length = n → Lo n x → LeAt n x (fun _ => u) → u + 4000000 * d ≤ 1000000000000000 →
  Ev (fun k => if ((gaps.drop i).foldl rel (x, c)).2 = true then rf_least.l0 k low gaps ((gaps.drop i).foldl rel (x, c)).1 (wrap64 (r + 1)) else some (((gaps.drop i).foldl rel (x, c)).1, true)) res →
  Ev (fun k => rf_least.l1 k low gaps x r c (i : Int)) res
 | 0, i, x, c, u, hi, hx, hl, hu, hU, h => by
  rw [List.drop_of_length_le (by omega)] at h; refine Ev.step (fun k => ?_) h; simp only [rf_least.l1]; rw [if_neg (by omega)]
  rfl
 | d + 1, i, x, c, u, hi, hx, hl, hu, hU, h => by
  have hgi := hg _ (mem82 gaps i (by omega)); rw [drop82 gaps i (by omega), List.foldl_cons] at h; refine Ev.step (fun k => least_step k low gaps x r c i u (by omega) hw hgi hx hl hu (by omega)) ?_
  have hlen : (rel (x, c) (rd_T82 gaps (i : Int))).1.length = n := by show (relB _ (relA _ x)).length = n; rw [relB_len, relA_len]; exact hx
  exact ev_least1 low gaps hw hg r d (i + 1) _ _ (u + 4000000) (by omega) hlen (lo_up hl (rel_up hgi hx)) (rel_bd hgi hx hu) (by omega) h
def outL : Option (List Int) → List Int × Bool
 | some x => (x, true)
 | none => ([], false)
theorem ev_least0 (low : List Int) (gaps : List S82) (hn : low.length ≤ 50) (hw : gaps.length ≤ 50) (hg : ∀ g ∈ gaps, GapIn low.length g) : ∀ (m r : Nat) (x : List Int) (u : Int), r + m = low.length + 1 → x.length = low.length → Lo low.length x → LeAt low.length x (fun _ => u) → u + 200000000 * m ≤ 1000000000000000 →
  Ev (fun k => rf_least.l0 k low gaps x (r : Int)) (outL (leastL gaps m x))
 | 0, r, x, u, hr, hx, hl, hu, hU => by
  exact Ev.step (f := fun _ => some ([], false)) (fun k => by simp only [rf_least.l0]; rw [if_neg (by omega)]) (Ev.now _)
 | m + 1, r, x, u, hr, hx, hl, hu, hU => by
  refine Ev.step (f := fun k => rf_least.l1 k low gaps x r false ((0 : Nat) : Int)) (fun k => by simp only [rf_least.l0]; rw [if_pos (by omega)]; rfl) ?_; refine ev_least1 low gaps hw hg (r : Int) gaps.length 0 x false u (by omega) hx hl hu (by omega) ?_; rw [List.drop_zero]; show Ev (fun k => if (roundL gaps x).2 = true then rf_least.l0 k low gaps (roundL gaps x).1 (wrap64 ((r : Int) + 1)) else some ((roundL gaps x).1, true)) _; rw [wrapS (by omega)]
  have hL : leastL gaps (m + 1) x = if (roundL gaps x).2 = true then leastL gaps m (roundL gaps x).1 else some (roundL gaps x).1 := rfl
  rw [hL]
  by_cases c : (roundL gaps x).2 = true
  ·rw [if_pos c]; refine Ev.congr (fun k => if_pos c) ?_
   have hb : LeAt low.length (roundL gaps x).1 fun _ => u + 200000000 := fun j a b => by
    have : rd (roundL gaps x).1 j ≤ u + 4000000 * gaps.length := fold_bd gaps (x, false) u hg hx hu j a b; show rd (roundL gaps x).1 j ≤ u + 200000000; omega
   exact ev_least0 low gaps hn hw hg m (r + 1) _ (u + 200000000) (by omega) ((fold_len gaps (x, false)).trans hx) (lo_up hl (fold_up gaps (x, false) hg hx)) hb (by omega)
  ·rw [if_neg c]; exact Ev.congr (f := fun _ => some ((roundL gaps x).1, true)) (fun k => if_neg c) (Ev.now _)
theorem ev_Least (low : List Int) (gaps : List S82) (hn : low.length ≤ 50) (hw : gaps.length ≤ 50) (hg : ∀ g ∈ gaps, GapIn low.length g) (hb : ∀ j : Int, 0 ≤ j → j < low.length → -100000000 ≤ rd low j ∧ rd low j ≤ 100000000) :
  Ev (fun k => rf_least.f k low gaps) (leastR gaps low) := by
 have h := ev_least0 low gaps hn hw hg (low.length + 1) 0 low 100000000 (by omega) rfl (fun j a b => by have := hb j a b; omega) (fun j a b => (hb j a b).2) (by omega)
 have e : leastR gaps low = outL (leastL gaps (low.length + 1) low) := by unfold leastR outL; split <;> (rename_i h; first | rw [h] | rfl)
 rw [e]; refine Ev.congr (fun k => ?_) h; unfold rf_least.f; rw [Option.bind_some, if_pos (by simp only [List.length_nil]; omega)]; rfl
theorem leastL_big {n : Nat} {gaps : List S82} (hw : gaps.length ≤ 50) (hg : ∀ g ∈ gaps, GapIn n g) : ∀ (m : Nat) (x y : List Int) (u : Int), x.length = n → LeAt n x (fun _ => u) → leastL gaps m x = some y → LeAt n y fun _ => u + 200000000 * m
 | 0, x, y, u, _, _, h => by cases h
 | m + 1, x, y, u, hx, hu, h => by
  unfold leastL at h
  have hb : ∀ j : Int, 0 ≤ j → j < n → rd (roundL gaps x).1 j ≤ u + 4000000 * gaps.length := fun j a b => fold_bd gaps (x, false) u hg hx hu j a b
  by_cases c : (roundL gaps x).2 = true
  ·rw [if_pos c] at h; have := leastL_big hw hg m _ y (u + 200000000) ((fold_len gaps (x, false)).trans hx) (fun j a b => by have := hb j a b; show rd (roundL gaps x).1 j ≤ u + 200000000; omega) h; intro j a b; have : rd y j ≤ u + 200000000 + 200000000 * m := this j a b; show rd y j ≤ u + 200000000 * ((m + 1 : Nat) : Int); omega
  ·rw [if_neg c] at h
   injection h with h
   subst h; intro j a b; have := hb j a b; show rd (roundL gaps x).1 j ≤ u + 200000000 * ((m + 1 : Nat) : Int); omega
theorem least_big (low : List Int) (gaps : List S82) (hn : low.length ≤ 50) (hw : gaps.length ≤ 50) (hg : ∀ g ∈ gaps, GapIn low.length g) (hb : ∀ j : Int, 0 ≤ j → j < low.length → -100000000 ≤ rd low j ∧ rd low j ≤ 100000000) (y : List Int) (hy : leastR gaps low = (y, true)) :
  ∀ j : Int, 0 ≤ j → j < low.length → -4000000000000000000 ≤ rd y j ∧ rd y j ≤ 4000000000000000000 := by
 intro j a b; have h1 := ((least_spec low hg).1 y hy).2.1 j a b; have h2 := hb j a b; unfold leastR at hy
 split at hy
 ·rename_i x hx
  injection hy with hy _
  subst hy; have : rd x j ≤ 100000000 + 200000000 * ((low.length + 1 : Nat) : Int) := leastL_big hw hg (low.length + 1) low x 100000000 rfl (fun j a b => (hb j a b).2) hx j a b; exact ⟨by omega, by omega⟩
 ·cases hy
def turn86 (g : S82) : S82 := ⟨g.f1, g.f0, g.f2, g.f3⟩
theorem ev_turned (gaps : List S82) (hw : gaps.length ≤ 50) : ∀ (d i : Nat), i + d = gaps.length → Ev (fun k => rf_turned.l0 k gaps ((gaps.take i).map turn86) (i : Int)) (gaps.map turn86)
 | 0, i, h => by
  rw [List.take_of_length_le (by omega)]
  exact Ev.step (f := fun _ => some (gaps.map turn86)) (fun k => by simp only [rf_turned.l0]; rw [if_neg (by omega)]) (Ev.now _)
 | d + 1, i, h => by
  refine Ev.step (f := fun k => rf_turned.l0 k gaps ((gaps.take (i + 1)).map turn86) ((i + 1 : Nat) : Int)) (fun k => ?_) (ev_turned gaps hw d (i + 1) (by omega)); simp only [rf_turned.l0]; rw [if_pos (by omega), if_pos (by omega), if_pos (by rw [List.length_map, List.length_take]; omega), wrapS (by omega)]
  have er : rd_T82 gaps (i : Int) = gaps[i] := by simp [rd_T82, rdOf, List.getD_eq_getElem?_getD, show i < gaps.length by omega]
  rw [List.take_succ_eq_append_getElem (by omega), List.map_append, ← er]; rfl
theorem ev_Turned (gaps : List S82) (hw : gaps.length ≤ 50) : Ev (fun k => rf_turned.f k gaps) (gaps.map turn86) := by
 have := ev_turned gaps hw gaps.length 0 (by omega); exact Ev.congr (fun k => by unfold rf_turned.f; rfl) this
theorem turn_in {n : Nat} {g : S82} (h : GapIn n g) : GapIn n (turn86 g) := ⟨h.b0, h.b1, h.a0, h.a1, fun e => h.ne e.symm, h.le, h.lo, h.hi⟩
theorem turn_sat (g : S82) (t : Int → Int) : GapSat (turn86 g) t ↔ GapSat g (fun j => -(t j)) := by
 show (g.f2 ≤ t g.f0 - t g.f1 ∧ t g.f0 - t g.f1 ≤ g.f3) ↔ (g.f2 ≤ -(t g.f1) - -(t g.f0) ∧ -(t g.f1) - -(t g.f0) ≤ g.f3); constructor <;> rintro ⟨a, b⟩ <;> exact ⟨by omega, by omega⟩
def lows (evs : List S65) : List Int := evs.map (·.f0)
def highs (evs : List S65) : List Int := evs.map fun s => -s.f1
def spanAt (a b : List Int) (j : Nat) : S65 := ⟨rd a (j : Int), -(rd b (j : Int))⟩
def spansOf (a b : List Int) (n : Nat) : List S65 := (List.range n).map (spanAt a b)
def okAt (evs : List S65) (a : List Int) (j : Nat) : Bool := decide (rd a (j : Int) ≤ (rd_T65 evs (j : Int)).f1)
def solveR (evs : List S65) (gaps : List S82) : List S65 × Bool :=
 if (leastR gaps (lows evs)).2 = true ∧ (leastR (gaps.map turn86) (highs evs)).2 = true then
  if (List.range evs.length).all (okAt evs (leastR gaps (lows evs)).1) = true then (spansOf (leastR gaps (lows evs)).1 (leastR (gaps.map turn86) (highs evs)).1 evs.length, true) else ([], false)
 else ([], false)
theorem rd_map27 (f : S65 → Int) (evs : List S65) (j : Int) (h0 : 0 ≤ j) (h1 : j < evs.length) : rd (evs.map f) j = f (rd_T65 evs j) := by
 unfold rd rd_T65
 have : j.toNat < evs.length := by omega
 simp [List.getD_eq_getElem?_getD, this]
theorem ev_solve1 (evs : List S65) (hn : evs.length ≤ 50) (a b : List Int) (ha : a.length = evs.length) (hb : b.length = evs.length) (hbb : ∀ j : Int, 0 ≤ j → j < evs.length → -4000000000000000000 ≤ rd b j ∧ rd b j ≤ 4000000000000000000) : ∀ (d i : Nat), i + d = evs.length →
  Ev (fun k => rf_Solve.l1 k evs a b (spansOf a b i) (i : Int)) (if (List.range d).all (fun m => okAt evs a (i + m)) = true then (spansOf a b evs.length, true) else ([], false))
 | 0, i, h => by
  obtain rfl : i = evs.length := by omega
  exact Ev.step (f := fun _ => some (spansOf a b evs.length, true)) (fun k => by simp only [rf_Solve.l1]; rw [if_neg (by omega)]) (Ev.now _)
 | d + 1, i, h => by
  have hall : (List.range (d + 1)).all (fun m => okAt evs a (i + m)) = (okAt evs a i && (List.range d).all (fun m => okAt evs a (i + 1 + m))) := by
   rw [List.range_succ_eq_map, List.all_cons, List.all_map]
   congr 1
   congr 1
   funext m
   show okAt evs a (i + (m + 1)) = _; rw [show i + (m + 1) = i + 1 + m by omega]
  rw [hall]; have hbi := hbb (i : Int) (by omega) (by omega)
  by_cases c : rd a (i : Int) ≤ (rd_T65 evs (i : Int)).f1
  ·have e : okAt evs a i = true := decide_eq_true c; rw [e, Bool.true_and]; refine Ev.step (f := fun k => rf_Solve.l1 k evs a b (spansOf a b (i + 1)) ((i + 1 : Nat) : Int)) (fun k => ?_) (ev_solve1 evs hn a b ha hb hbb d (i + 1) (by omega)); simp only [rf_Solve.l1]; rw [if_pos (by omega), if_pos (by omega), if_pos (by omega), if_pos (by omega), if_neg (by omega), if_pos (by unfold spansOf; rw [List.length_map, List.length_range]; omega), wrapS (by omega), w64_mid (by omega) (by omega)]; unfold spansOf; rw [List.range_succ, List.map_append]; rfl
  ·have e : okAt evs a i = false := decide_eq_false c; rw [e, Bool.false_and]; refine Ev.step (f := fun _ => some ([], false)) (fun k => ?_) (Ev.now _); simp only [rf_Solve.l1]; rw [if_pos (by omega), if_pos (by omega), if_pos (by omega), if_pos (by omega), if_pos (by omega)]
theorem ev_solve0 (evs : List S65) (gaps : List S82) (hn : evs.length ≤ 50) (hev : ∀ s ∈ evs, -100000000 ≤ s.f0 ∧ s.f0 ≤ 100000000 ∧ -100000000 ≤ s.f1 ∧ s.f1 ≤ 100000000) {res : List S65 × Bool} : ∀ (d i : Nat), i + d = evs.length →
  Ev (fun k => (rf_least.f k (lows evs) gaps).bind fun bt256 => ((rf_turned.f k gaps).bind fun t260 => ((rf_least.f k (highs evs) t260).bind fun bt263 => (if bt256.2 = true then (rf_Solve.j1 k evs bt256.1 bt263.1 (!bt263.2)) else (rf_Solve.j1 k evs bt256.1 bt263.1 true))))) res →
  Ev (fun k => rf_Solve.l0 k evs gaps (lows (evs.take i)) (highs (evs.take i)) (i : Int)) res
 | 0, i, h, hr => by
  rw [List.take_of_length_le (by omega)]; refine Ev.step (fun k => ?_) hr; simp only [rf_Solve.l0]
  rw [if_neg (by omega)]
 | d + 1, i, h, hr => by
  refine Ev.step (f := fun k => rf_Solve.l0 k evs gaps (lows (evs.take (i + 1))) (highs (evs.take (i + 1))) ((i + 1 : Nat) : Int)) (fun k => ?_) (ev_solve0 evs gaps hn hev d (i + 1) (by omega) hr); have hm := hev _ (mem65 evs i (by omega)); simp only [rf_Solve.l0]; rw [if_pos (by omega), if_pos (by omega), if_pos (by unfold lows; rw [List.length_map, List.length_take]; omega), if_pos (by unfold highs; rw [List.length_map, List.length_take]; omega), wrapS (by omega), w64_mid (by omega) (by omega)]
  have er : rd_T65 evs (i : Int) = evs[i] := by simp [rd_T65, rdOf, List.getD_eq_getElem?_getD, show i < evs.length by omega]
  unfold lows highs; rw [List.take_succ_eq_append_getElem (by omega), List.map_append, List.map_append, ← er]; rfl
def Fit (evs : List S65) (gaps : List S82) (t : Int → Int) : Prop := (∀ g ∈ gaps, GapSat g t) ∧ ∀ j : Int, 0 ≤ j → j < evs.length → (rd_T65 evs j).f0 ≤ t j ∧ t j ≤ (rd_T65 evs j).f1
theorem lows_len (evs : List S65) : (lows evs).length = evs.length := List.length_map ..
theorem highs_len (evs : List S65) : (highs evs).length = evs.length := List.length_map ..
theorem lows_at (evs : List S65) (j : Int) (h0 : 0 ≤ j) (h1 : j < evs.length) : rd (lows evs) j = (rd_T65 evs j).f0 := rd_map27 _ evs j h0 h1
theorem highs_at (evs : List S65) (j : Int) (h0 : 0 ≤ j) (h1 : j < evs.length) : rd (highs evs) j = -(rd_T65 evs j).f1 := rd_map27 _ evs j h0 h1
theorem rd_spans (a b : List Int) (n : Nat) (j : Int) (h0 : 0 ≤ j) (h1 : j < n) : rd_T65 (spansOf a b n) j = ⟨rd a j, -(rd b j)⟩ := by
 obtain ⟨m, rfl⟩ : ∃ m : Nat, j = m := ⟨j.toNat, by omega⟩
 have : m < n := by omega
 simp [rd_T65, spansOf, List.getD_eq_getElem?_getD, this, spanAt]
structure Tightest (evs : List S65) (gaps : List S82) (l : List S65) : Prop where
 len : l.length = evs.length
 all : ∀ t, Fit evs gaps t → ∀ j : Int, 0 ≤ j → j < evs.length → (rd_T65 l j).f0 ≤ t j ∧ t j ≤ (rd_T65 l j).f1
 first : Fit evs gaps fun j => (rd_T65 l j).f0
 last : Fit evs gaps fun j => (rd_T65 l j).f1
theorem solve_spec (evs : List S65) (gaps : List S82) (hg : ∀ g ∈ gaps, GapIn evs.length g) :
  ((solveR evs gaps).2 = true ↔ ∃ t, Fit evs gaps t) ∧ ∀ l, solveR evs gaps = (l, true) → Tightest evs gaps l := by
 obtain ⟨a1, a2⟩ := least_spec (gaps := gaps) (lows evs) (by rw [lows_len]; exact hg)
 obtain ⟨b1, b2⟩ := least_spec (gaps := gaps.map turn86) (highs evs) (by
  rw [highs_len]; intro g h; obtain ⟨g', h', rfl⟩ := List.mem_map.mp h
  exact turn_in (hg g' h'))
 rw [lows_len] at a1 a2; rw [highs_len] at b1 b2
 have turnS : ∀ t : Int → Int, (∀ g ∈ gaps.map turn86, GapSat g t) ↔ ∀ g ∈ gaps, GapSat g (fun j => -(t j)) := fun t => by
  constructor
  ·intro h g hg'; exact (turn_sat g t).mp (h _ (List.mem_map.mpr ⟨g, hg', rfl⟩))
  ·intro h g hg'; obtain ⟨g', h', rfl⟩ := List.mem_map.mp hg'; exact (turn_sat g' t).mpr (h g' h')
 have fitA : ∀ t, Fit evs gaps t → (∀ g ∈ gaps, GapSat g t) ∧ LeAt evs.length (lows evs) t := fun t h => ⟨h.1, fun j x y => by rw [lows_at evs j x y]; exact (h.2 j x y).1⟩
 have fitB : ∀ t, Fit evs gaps t → (∀ g ∈ gaps.map turn86, GapSat g fun j => -(t j)) ∧ LeAt evs.length (highs evs) fun j => -(t j) := fun t h => by
  refine ⟨(turnS _).mpr fun g hg' => ?_, fun j x y => ?_⟩
  ·have : (fun j => - -(t j)) = t := by funext j; omega
   rw [this]; exact h.1 g hg'
  ·rw [highs_at evs j x y]; have := (h.2 j x y).2; show -(rd_T65 evs j).f1 ≤ -(t j); omega
 have pairs : ∀ x y, leastR gaps (lows evs) = (x, true) → leastR (gaps.map turn86) (highs evs) = (y, true) → (List.range evs.length).all (okAt evs x) = true → Fit evs gaps (rd x) ∧ Fit evs gaps (fun j => -(rd y j)) ∧ ∀ t, Fit evs gaps t → ∀ j : Int, 0 ≤ j → j < evs.length → rd x j ≤ t j ∧ t j ≤ -(rd y j) := by
  intro x y hx hy hok; obtain ⟨x1, x2, x3, x4⟩ := a1 x hx; obtain ⟨y1, y2, y3, y4⟩ := b1 y hy
  have okA : ∀ j : Int, 0 ≤ j → j < evs.length → rd x j ≤ (rd_T65 evs j).f1 := fun j p q => by
   have := List.all_eq_true.mp hok j.toNat (List.mem_range.mpr (by omega)); unfold okAt at this; have := Od this
   rwa [show ((j.toNat : Nat) : Int) = j by omega] at this
  have F1 : Fit evs gaps (rd x) := ⟨x3, fun j p q => ⟨by have := x2 j p q; rw [lows_at evs j p q] at this; exact this, okA j p q⟩⟩
  have bnd : ∀ t, Fit evs gaps t → ∀ j : Int, 0 ≤ j → j < evs.length → rd x j ≤ t j ∧ t j ≤ -(rd y j) := fun t ht j p q => by
   obtain ⟨c1, c2⟩ := fitA t ht; obtain ⟨d1, d2⟩ := fitB t ht; have e1 := x4 t c1 c2 j p q; have e2 : rd y j ≤ -(t j) := y4 _ d1 d2 j p q; exact ⟨e1, by omega⟩
  refine ⟨F1, ⟨(turnS _).mp y3, fun j p q => ?_⟩, bnd⟩; have e1 := (F1.2 j p q).1; have e2 := (bnd _ F1 j p q).2; have e3 := y2 j p q; rw [highs_at evs j p q] at e3; show (rd_T65 evs j).f0 ≤ -(rd y j) ∧ -(rd y j) ≤ (rd_T65 evs j).f1; exact ⟨by omega, by omega⟩
 unfold solveR
 by_cases c : (leastR gaps (lows evs)).2 = true ∧ (leastR (gaps.map turn86) (highs evs)).2 = true
 ·rw [if_pos c]
  have hx : leastR gaps (lows evs) = ((leastR gaps (lows evs)).1, true) := by rw [← c.1]
  have hy : leastR (gaps.map turn86) (highs evs) = ((leastR (gaps.map turn86) (highs evs)).1, true) := by rw [← c.2]
  by_cases hok : (List.range evs.length).all (okAt evs (leastR gaps (lows evs)).1) = true
  ·rw [if_pos hok]; obtain ⟨F1, F2, F3⟩ := pairs _ _ hx hy hok; refine ⟨⟨fun _ => ⟨_, F1⟩, fun _ => rfl⟩, fun l hl => ?_⟩
   injection hl with hl _
   subst hl
   have ext : ∀ (f g : Int → Int), (∀ j : Int, 0 ≤ j → j < evs.length → f j = g j) → Fit evs gaps f → Fit evs gaps g := fun f g e h => ⟨fun k hk => by
    have hs := h.1 k hk; have hi := hg k hk; unfold GapSat at hs ⊢
    rw [← e _ hi.a0 hi.a1, ← e _ hi.b0 hi.b1]; exact hs, fun j p q => by rw [← e j p q]; exact h.2 j p q⟩
   refine ⟨by unfold spansOf; rw [List.length_map, List.length_range], fun t ht j p q => ?_, ext _ _ (fun j p q => ?_) F1, ext _ _ (fun j p q => ?_) F2⟩
   ·rw [rd_spans _ _ _ j p q]; exact F3 t ht j p q
   ·rw [rd_spans _ _ _ j p q]
   ·rw [rd_spans _ _ _ j p q]
  ·rw [if_neg hok]; refine ⟨⟨fun h => (by cases h), fun ⟨t, ht⟩ => ?_⟩, fun l hl => (by cases hl)⟩; exfalso; apply hok; rw [List.all_eq_true]; intro m hm; have hm := List.mem_range.mp hm; obtain ⟨x1, x2, x3, x4⟩ := a1 _ hx; obtain ⟨c1, c2⟩ := fitA t ht; have := x4 t c1 c2 (m : Int) (by omega) (by omega); have := (ht.2 (m : Int) (by omega) (by omega)).2; exact decide_eq_true (by omega)
 ·rw [if_neg c]; refine ⟨⟨fun h => (by cases h), fun ⟨t, ht⟩ => ?_⟩, fun l hl => (by cases hl)⟩; exact absurd ⟨a2.mpr ⟨t, fitA t ht⟩, b2.mpr ⟨_, fitB t ht⟩⟩ c
theorem ev_Solve (evs : List S65) (gaps : List S82) (hn : evs.length ≤ 50) (hw : gaps.length ≤ 50) (hg : ∀ g ∈ gaps, GapIn evs.length g) (hev : ∀ s ∈ evs, -100000000 ≤ s.f0 ∧ s.f0 ≤ 100000000 ∧ -100000000 ≤ s.f1 ∧ s.f1 ≤ 100000000) :
  Ev (fun k => rf_Solve.f k evs gaps) (solveR evs gaps) := by
 have key := ev_solve0 evs gaps hn hev (res := solveR evs gaps) evs.length 0 (by omega); refine key ?_; clear key
 have hA := ev_Least (lows evs) gaps (by rw [lows_len]; exact hn) hw (by rw [lows_len]; exact hg) (fun j p q => by
  rw [lows_len] at q; rw [lows_at evs j p q]; have := hev _ (mem65 evs j.toNat (by omega)); rw [show ((j.toNat : Nat) : Int) = j by omega] at this
  exact ⟨this.1, this.2.1⟩)
 have hgt : ∀ g ∈ gaps.map turn86, GapIn (highs evs).length g := by
  rw [highs_len]; intro g h; obtain ⟨g', h', rfl⟩ := List.mem_map.mp h; exact turn_in (hg g' h')
 have hB := ev_Least (highs evs) (gaps.map turn86) (by rw [highs_len]; exact hn) (by rw [List.length_map]; exact hw) hgt (fun j p q => by
  rw [highs_len] at q; rw [highs_at evs j p q]; have := hev _ (mem65 evs j.toNat (by omega)); rw [show ((j.toNat : Nat) : Int) = j by omega] at this
  omega)
 refine Ev.bind hA ?_; refine Ev.bind (ev_Turned gaps hw) ?_; refine Ev.bind hB ?_; unfold solveR
 by_cases c1 : (leastR gaps (lows evs)).2 = true
 ·by_cases c2 : (leastR (gaps.map turn86) (highs evs)).2 = true
  ·rw [if_pos ⟨c1, c2⟩]
   have hb2 : (!(leastR (gaps.map turn86) (highs evs)).2) = false := by rw [c2]; rfl
   refine Ev.congr (fun k => by rw [if_pos c1, hb2]) ?_; refine Ev.step (f := fun k => rf_Solve.l1 k evs (leastR gaps (lows evs)).1 (leastR (gaps.map turn86) (highs evs)).1 (spansOf (leastR gaps (lows evs)).1 (leastR (gaps.map turn86) (highs evs)).1 0) ((0 : Nat) : Int)) (fun k => by simp only [rf_Solve.j1]; rfl) ?_; obtain ⟨a1, _⟩ := least_spec (gaps := gaps) (lows evs) (by rw [lows_len]; exact hg); obtain ⟨b1, _⟩ := least_spec (gaps := gaps.map turn86) (highs evs) hgt
   have hx : leastR gaps (lows evs) = ((leastR gaps (lows evs)).1, true) := by rw [← c1]
   have hy : leastR (gaps.map turn86) (highs evs) = ((leastR (gaps.map turn86) (highs evs)).1, true) := by rw [← c2]
   obtain ⟨x1, _⟩ := a1 _ hx; obtain ⟨y1, y2, _, _⟩ := b1 _ hy; rw [lows_len] at x1; rw [highs_len] at y1 y2
   have hbig := least_big (highs evs) (gaps.map turn86) (by rw [highs_len]; exact hn) (by rw [List.length_map]; exact hw) hgt (fun j p q => by
    rw [highs_len] at q; rw [highs_at evs j p q]; have := hev _ (mem65 evs j.toNat (by omega)); rw [show ((j.toNat : Nat) : Int) = j by omega] at this
    omega) _ hy
   rw [highs_len] at hbig; have := ev_solve1 evs hn _ _ x1 y1 hbig evs.length 0 (by omega); simp only [Nat.zero_add] at this; exact this
  ·rw [if_neg (fun h => c2 h.2)]
   have hb2 : (!(leastR (gaps.map turn86) (highs evs)).2) = true := by rw [Bool.eq_false_iff.mpr c2]; rfl
   refine Ev.congr (fun k => by rw [if_pos c1, hb2]) ?_; exact Ev.step (f := fun _ => some ([], false)) (fun k => by simp only [rf_Solve.j1]; rfl) (Ev.now _)
 ·rw [if_neg (fun h => c1 h.1)]; refine Ev.congr (fun k => by rw [if_neg c1]) ?_; exact Ev.step (f := fun _ => some ([], false)) (fun k => by simp only [rf_Solve.j1]; rfl) (Ev.now _)
end
section
def gapB (n : Int) (g : S82) : Bool := decide (0 ≤ g.f0 ∧ g.f0 < n ∧ 0 ≤ g.f1 ∧ g.f1 < n ∧ g.f0 ≠ g.f1 ∧ g.f2 ≤ g.f3 ∧ -2000000 ≤ g.f2 ∧ g.f3 ≤ 2000000)
def histB (evs : List S65) (gaps : List S82) : Bool := decide (evs.length ≤ 10) && (decide (gaps.length ≤ 20) && (evs.all good27 && gaps.all (gapB evs.length)))
theorem within_f (a b c : Int) : skew_within.f a b c = some (decide (b ≤ a ∧ a ≤ c)) := by
 unfold skew_within.f
 by_cases h : a ≥ b
 ·rw [if_pos h]; simp [show b ≤ a from h]
 ·rw [if_neg h]; simp [show ¬ b ≤ a from h]
theorem isHist_l0 (evs : List S65) (gaps : List S82) (hn : evs.length ≤ 10) (hw : gaps.length ≤ 20) : ∀ (d i k : Nat), i + d = gaps.length → d < k → skew_isHist.l0 k gaps (gaps.length : Int) (i : Int) evs gaps = some ((gaps.drop i).all (gapB evs.length))
 | 0, i, k, h, hk => by
  obtain ⟨k, rfl⟩ : ∃ k', k = k' + 1 := ⟨k - 1, by omega⟩
  rw [List.drop_of_length_le (by omega)]; simp only [skew_isHist.l0]
  rw [if_neg (by omega)]; rfl
 | d + 1, i, k, h, hk => by
  obtain ⟨k, rfl⟩ : ∃ k', k = k' + 1 := ⟨k - 1, by omega⟩
  rw [drop82 gaps i (by omega), List.all_cons]
  obtain ⟨g, hg⟩ : ∃ g, rd_T82 gaps (i : Int) = g := ⟨_, rfl⟩
  simp only [skew_isHist.l0, hg]; have hwr : wrap64 ((evs.length : Int) - 1) = (evs.length : Int) - 1 := w64_mid (by omega) (by omega); rw [if_pos (by omega), if_pos (by omega), if_pos (by omega), within_f, within_f, hwr, wrapS (by omega), isHist_l0 evs gaps hn hw d (i + 1) k (by omega) (by omega)]; simp only [Option.bind_some]
  by_cases c1 : 0 ≤ g.f0 ∧ g.f0 ≤ (evs.length : Int) - 1
  ·rw [decide_eq_true c1, if_pos rfl]
   by_cases c2 : 0 ≤ g.f1 ∧ g.f1 ≤ (evs.length : Int) - 1
   ·rw [decide_eq_true c2, if_pos rfl]
    by_cases c3 : g.f0 = g.f1
    ·rw [if_pos c3, show gapB evs.length g = false from decide_eq_false (by omega)]; rfl
    ·rw [if_neg c3]
     by_cases c4 : g.f2 > g.f3
     ·rw [if_pos c4, show gapB evs.length g = false from decide_eq_false (by omega)]; rfl
     ·rw [if_neg c4]
      by_cases c5 : g.f2 < -2000000
      ·rw [if_pos c5, show gapB evs.length g = false from decide_eq_false (by omega)]; rfl
      ·rw [if_neg c5]
       by_cases c6 : g.f3 > 2000000
       ·rw [if_pos c6, show gapB evs.length g = false from decide_eq_false (by omega)]; rfl
       ·rw [if_neg c6, show gapB evs.length g = true from decide_eq_true (by omega)]; rfl
   ·rw [decide_eq_false c2, if_neg (by simp), show gapB evs.length g = false from decide_eq_false (by omega)]; rfl
  ·rw [decide_eq_false c1, if_neg (by simp), show gapB evs.length g = false from decide_eq_false (by omega)]; rfl
theorem isHist_eq (evs : List S65) (gaps : List S82) (k : Nat) (hk : 30 ≤ k) : skew_isHist.f k evs gaps = some (histB evs gaps) := by
 obtain ⟨k, rfl⟩ : ∃ k', k = k' + 1 := ⟨k - 1, by omega⟩
 unfold skew_isHist.f histB
 by_cases c1 : evs.length ≤ 10
 ·rw [if_neg (by omega)]
  by_cases c2 : gaps.length ≤ 20
  ·rw [if_neg (by omega)]; unfold skew_all.f; rw [Option.bind_some, decide_eq_true c1, decide_eq_true c2, Bool.true_and, Bool.true_and]; simp only [skew_isHist.j0]
   cases evs.all good27 with
   | true =>
    rw [if_neg (by simp), Bool.true_and]
    exact isHist_l0 evs gaps c1 c2 gaps.length 0 k (by omega) (by omega)
   | false => rw [if_pos (by simp)]; rfl
  ·rw [if_pos (by omega), decide_eq_false c2]; simp only [skew_isHist.j0]; rw [if_pos trivial, Bool.false_and, Bool.and_false]
 ·rw [if_pos (by omega), decide_eq_false c1]; simp only [skew_isHist.j0]; rw [if_pos trivial, Bool.false_and]
theorem isHist_1000 (evs : List S65) (gaps : List S82) : skew_isHist.f 1000 evs gaps = some (histB evs gaps) := isHist_eq evs gaps 1000 (by omega)
theorem ev_Goods10 (l : List S65) : Ev (fun k => rf_Goods.f k l 10) (decide (l.length ≤ 10) && l.all good27) := by
 by_cases h : l.length ≤ 10
 ·rw [decide_eq_true h, Bool.true_and]; have := ev_goods l (by omega) l.length 0 (by omega); rw [List.drop_zero] at this; exact Ev.congr (fun k => by unfold rf_Goods.f; rw [if_neg (by omega)]; rfl) this
 ·rw [decide_eq_false h, Bool.false_and]; exact Ev.congr (f := fun _ => some false) (fun k => by unfold rf_Goods.f; rw [if_pos (by omega)]) (Ev.now false)
theorem ev_hist0 (evs : List S65) (gaps : List S82) (hn : evs.length ≤ 10) (hw : gaps.length ≤ 20) : ∀ (d i : Nat), i + d = gaps.length → Ev (fun k => rf_Hist.l0 k (i : Int) evs gaps) ((gaps.drop i).all (gapB evs.length))
 | 0, i, h => by
  rw [List.drop_of_length_le (by omega)]
  exact Ev.step (f := fun _ => some true) (fun k => by simp only [rf_Hist.l0]; rw [if_neg (by omega)]) (Ev.now _)
 | d + 1, i, h => by
  rw [drop82 gaps i (by omega), List.all_cons]
  obtain ⟨g, hg⟩ : ∃ g, rd_T82 gaps (i : Int) = g := ⟨_, rfl⟩
  rw [hg]; have ih := ev_hist0 evs gaps hn hw d (i + 1) (by omega)
  have bad : ∀ (x : Bool), gapB evs.length g = false → (x = true ∨ x = false ∧ (g.f2 > g.f3 ∨ g.f2 < -2000000 ∨ g.f3 > 2000000)) → Ev (fun k => rf_Hist.j2 k (i : Int) x evs gaps g.f0 g.f1 g.f2 g.f3) (gapB evs.length g && (gaps.drop (i + 1)).all (gapB evs.length)) := fun x hb hx => by
   rw [hb, Bool.false_and]; refine Ev.step (f := fun _ => some false) (fun k => ?_) (Ev.now _); simp only [rf_Hist.j2]
   rcases hx with hx | ⟨hx, hx'⟩
   ·rw [if_pos hx]
   ·rw [if_neg (by rw [hx]; simp)]
    by_cases c4 : g.f2 > g.f3
    ·rw [if_pos c4]
    ·rw [if_neg c4]
     by_cases c5 : g.f2 < -2000000
     ·rw [if_pos c5]
     ·rw [if_neg c5, if_pos (by omega)]
  have st : ∀ (x : Bool), (∀ k, rf_Hist.l0 (k + 1) (i : Int) evs gaps = rf_Hist.j2 k (i : Int) x evs gaps g.f0 g.f1 g.f2 g.f3) → Ev (fun k => rf_Hist.j2 k (i : Int) x evs gaps g.f0 g.f1 g.f2 g.f3) (gapB evs.length g && (gaps.drop (i + 1)).all (gapB evs.length)) → Ev (fun k => rf_Hist.l0 k (i : Int) evs gaps) (gapB evs.length g && (gaps.drop (i + 1)).all (gapB evs.length)) := fun x h1 h2 => Ev.step h1 h2
  by_cases c1 : g.f0 < 0
  ·refine st true (fun k => by simp only [rf_Hist.l0, hg]; rw [if_pos (by omega), if_pos (by omega), if_pos c1]) (bad true (decide_eq_false (by omega)) (.inl rfl))
  ·by_cases c2 : g.f0 ≥ evs.length
   ·refine st true (fun k => by simp only [rf_Hist.l0, hg]; rw [if_pos (by omega), if_pos (by omega), if_neg c1, if_pos c2]) (bad true (decide_eq_false (by omega)) (.inl rfl))
   ·by_cases c3 : g.f1 < 0
    ·refine st true (fun k => by simp only [rf_Hist.l0, hg]; rw [if_pos (by omega), if_pos (by omega), if_neg c1, if_neg c2, if_pos c3]) (bad true (decide_eq_false (by omega)) (.inl rfl))
    ·by_cases c4 : g.f1 ≥ evs.length
     ·refine st true (fun k => by simp only [rf_Hist.l0, hg]; rw [if_pos (by omega), if_pos (by omega), if_neg c1, if_neg c2, if_neg c3, if_pos c4]) (bad true (decide_eq_false (by omega)) (.inl rfl))
     ·refine st (g.f0 == g.f1) (fun k => by simp only [rf_Hist.l0, hg]; rw [if_pos (by omega), if_pos (by omega), if_neg c1, if_neg c2, if_neg c3, if_neg c4]) ?_
      by_cases c5 : g.f0 = g.f1
      ·exact bad _ (decide_eq_false (by omega)) (.inl (beq_iff_eq.mpr c5))
      ·have e5 : (g.f0 == g.f1) = false := beq_eq_false_iff_ne.mpr c5
       by_cases c6 : g.f2 > g.f3 ∨ g.f2 < -2000000 ∨ g.f3 > 2000000
       ·exact bad _ (decide_eq_false (by omega)) (.inr ⟨e5, c6⟩)
       ·rw [show gapB evs.length g = true from decide_eq_true (by omega), Bool.true_and, e5]; refine Ev.step (f := fun k => rf_Hist.l0 k ((i + 1 : Nat) : Int) evs gaps) (fun k => ?_) ih; simp only [rf_Hist.j2]; rw [if_neg (by simp), if_neg (by omega), if_neg (by omega), if_neg (by omega), wrapS (by omega)]
theorem ev_Hist (evs : List S65) (gaps : List S82) : Ev (fun k => rf_Hist.f k evs gaps) (histB evs gaps) := by
 refine Ev.bind (ev_Goods10 evs) ?_; unfold histB
 by_cases c1 : evs.length ≤ 10
 ·rw [decide_eq_true c1, Bool.true_and, Bool.true_and]
  cases evs.all good27 with
  | false =>
   refine Ev.congr (f := fun k => rf_Hist.j0 k true evs gaps) (fun k => by rw [if_neg (by simp)]) ?_; refine Ev.step (f := fun _ => some false) (fun k => by simp only [rf_Hist.j0]; rfl) ?_; rw [Bool.false_and, Bool.and_false]
   exact Ev.now _
  | true =>
   refine Ev.congr (f := fun k => rf_Hist.j0 k (decide ((gaps.length : Int) > 20)) evs gaps) (fun k => by rw [if_pos rfl]) ?_
   by_cases c2 : gaps.length ≤ 20
   ·rw [decide_eq_true c2, Bool.true_and, Bool.true_and, decide_eq_false (by omega)]; refine Ev.step (f := fun k => rf_Hist.l0 k ((0 : Nat) : Int) evs gaps) (fun k => by simp only [rf_Hist.j0]; rfl) ?_; exact ev_hist0 evs gaps c1 c2 gaps.length 0 (by omega)
   ·rw [decide_eq_false c2, Bool.false_and, decide_eq_true (by omega)]; exact Ev.step (f := fun _ => some false) (fun k => by simp only [rf_Hist.j0]; rfl) (Ev.now _)
 ·rw [decide_eq_false c1, Bool.false_and, Bool.false_and]; refine Ev.congr (f := fun k => rf_Hist.j0 k true evs gaps) (fun k => by rw [if_neg (by simp)]) ?_; exact Ev.step (f := fun _ => some false) (fun k => by simp only [rf_Hist.j0]; rfl) (Ev.now _)
structure HistIs (evs : List S65) (gaps : List S82) : Prop where
 n : evs.length ≤ 10
 w : gaps.length ≤ 20
 ev : ∀ s ∈ evs, s.f0 ≤ s.f1 ∧ -1000000 ≤ s.f0 ∧ s.f1 ≤ 1000000
 gap : ∀ g ∈ gaps, GapIn evs.length g
theorem histIs (evs : List S65) (gaps : List S82) : histB evs gaps = true ↔ HistIs evs gaps := by
 unfold histB; constructor
 ·intro h; obtain ⟨a, h⟩ := Bool.and_eq_true_iff.mp h; obtain ⟨b, h⟩ := Bool.and_eq_true_iff.mp h; obtain ⟨c, d⟩ := Bool.and_eq_true_iff.mp h; rw [List.all_eq_true] at c d; refine ⟨Od a, Od b, fun s hs => ?_, fun g hg => ?_⟩
  ·have := c s hs; unfold good27 at this; simp only [Bool.and_eq_true, decide_eq_true_eq] at this; exact ⟨this.1, this.2.1, this.2.2⟩
  ·have := Od (d g hg); obtain ⟨h0, h1, h2, h3, h4, h5, h6, h7⟩ := this; exact ⟨h0, h1, h2, h3, h4, h5, h6, h7⟩
 ·rintro ⟨a, b, c, d⟩; rw [decide_eq_true a, decide_eq_true b, Bool.true_and, Bool.true_and, Bool.and_eq_true_iff, List.all_eq_true, List.all_eq_true]; refine ⟨fun s hs => ?_, fun g hg => ?_⟩
  ·have := c s hs; unfold good27; simp only [Bool.and_eq_true, decide_eq_true_eq]; exact ⟨this.1, this.2.1, this.2.2⟩
  ·obtain ⟨h0, h1, h2, h3, h4, h5, h6, h7⟩ := d g hg; exact decide_eq_true ⟨h0, h1, h2, h3, h4, h5, h6, h7⟩
theorem HistIs.evAt {evs : List S65} {gaps : List S82} (h : HistIs evs gaps) (j : Int) (h0 : 0 ≤ j) (h1 : j < evs.length) : (rd_T65 evs j).f0 ≤ (rd_T65 evs j).f1 ∧ -1000000 ≤ (rd_T65 evs j).f0 ∧ (rd_T65 evs j).f1 ≤ 1000000 := by
 have := h.ev _ (mem65 evs j.toNat (by omega))
 rwa [show ((j.toNat : Nat) : Int) = j by omega] at this
theorem HistIs.big {evs : List S65} {gaps : List S82} (h : HistIs evs gaps) : ∀ s ∈ evs, -100000000 ≤ s.f0 ∧ s.f0 ≤ 100000000 ∧ -100000000 ≤ s.f1 ∧ s.f1 ≤ 100000000 := fun s hs => by
 have := h.ev s hs; omega
theorem HistIs.ok {evs : List S65} {gaps : List S82} (h : HistIs evs gaps) : histOk evs gaps := ⟨h.n, h.w, fun g hg => by
 have h1 := h.gap g hg; have h2 := h.n
 have := h1.a0; have := h1.a1; have := h1.b0; have := h1.b1
 exact ⟨⟨by omega, by omega⟩, by omega, by omega⟩⟩
theorem said_mem {evs : List S65} {gaps : List S82} {x : Int × S61} (h : x ∈ saidL evs gaps) : (∃ i : Nat, i < evs.length ∧ x = ((i : Int), ⟨10, (i : Int), (rd_T65 evs i).f0, (rd_T65 evs i).f1⟩)) ∨ ∃ i : Nat, i < gaps.length ∧ x = ((evs.length : Int) + i, ⟨(rd_T82 gaps i).f0, (rd_T82 gaps i).f1, (rd_T82 gaps i).f2, (rd_T82 gaps i).f3⟩) := by
 unfold saidL at h
 rcases List.mem_append.mp h with h | h
 ·obtain ⟨i, hi, rfl⟩ := List.mem_map.mp h; exact .inl ⟨i, List.mem_range.mp hi, rfl⟩
 ·obtain ⟨i, hi, rfl⟩ := List.mem_map.mp h; exact .inr ⟨i, List.mem_range.mp hi, rfl⟩
theorem mem_said1 (evs : List S65) (gaps : List S82) (i : Nat) (h : i < evs.length) : ((i : Int), (⟨10, (i : Int), (rd_T65 evs i).f0, (rd_T65 evs i).f1⟩ : S61)) ∈ saidL evs gaps :=
 List.mem_append.mpr (.inl (List.mem_map.mpr ⟨i, List.mem_range.mpr h, rfl⟩))
theorem mem_said2 (evs : List S65) (gaps : List S82) (i : Nat) (h : i < gaps.length) : ((evs.length : Int) + i, (⟨(rd_T82 gaps i).f0, (rd_T82 gaps i).f1, (rd_T82 gaps i).f2, (rd_T82 gaps i).f3⟩ : S61)) ∈ saidL evs gaps :=
 List.mem_append.mpr (.inr (List.mem_map.mpr ⟨i, List.mem_range.mpr h, rfl⟩))
theorem HistIs.facts {evs : List S65} {gaps : List S82} (h : HistIs evs gaps) : ∀ x ∈ saidL evs gaps, FactOk x.2 := fun x hx => by
 have hn := h.n
 rcases said_mem hx with ⟨i, hi, rfl⟩ | ⟨i, hi, rfl⟩
 ·have := h.evAt (i : Int) (by omega) (by omega); exact ⟨⟨by show (0 : Int) ≤ 10; omega, by show (10 : Int) < 11; omega⟩, ⟨by show (0 : Int) ≤ i; omega, by show (i : Int) < 11; omega⟩, by show (10 : Int) ≠ i; omega, ⟨by show -2000000 ≤ (rd_T65 evs i).f0; omega, by show (rd_T65 evs i).f0 ≤ 2000000; omega⟩, ⟨by show -2000000 ≤ (rd_T65 evs i).f1; omega, by show (rd_T65 evs i).f1 ≤ 2000000; omega⟩⟩
 ·have := h.gap _ (mem82 gaps i hi); obtain ⟨h0, h1, h2, h3, h4, h5, h6, h7⟩ := this; exact ⟨⟨h0, by show (rd_T82 gaps i).f0 < 11; omega⟩, ⟨h2, by show (rd_T82 gaps i).f1 < 11; omega⟩, h4, ⟨h6, by show (rd_T82 gaps i).f2 ≤ 2000000; omega⟩, ⟨by show -2000000 ≤ (rd_T82 gaps i).f3; omega, h7⟩⟩
theorem keeps_fit {evs : List S65} {gaps : List S82} (h : HistIs evs gaps) (t : Int → Int) : (∀ x ∈ saidL evs gaps, Keeps x.2 t) ↔ Fit evs gaps fun j => t j - t 10 := by
 have hn := h.n; constructor
 ·intro hk; refine ⟨fun g hg => ?_, fun j h0 h1 => ?_⟩
  ·obtain ⟨i, hi, rfl⟩ := List.mem_iff_getElem.mp hg; have := hk _ (mem_said2 evs gaps i hi)
   have er : rd_T82 gaps (i : Int) = gaps[i] := by simp [rd_T82, rdOf, List.getD_eq_getElem?_getD, hi]
   rw [er] at this; obtain ⟨a, b⟩ := this; have a : (gaps[i]).f2 ≤ t (gaps[i]).f1 - t (gaps[i]).f0 := a; have b : t (gaps[i]).f1 - t (gaps[i]).f0 ≤ (gaps[i]).f3 := b; exact ⟨by show (gaps[i]).f2 ≤ (t (gaps[i]).f1 - t 10) - (t (gaps[i]).f0 - t 10); omega, by show (t (gaps[i]).f1 - t 10) - (t (gaps[i]).f0 - t 10) ≤ (gaps[i]).f3; omega⟩
  ·have := hk _ (mem_said1 evs gaps j.toNat (by omega)); rw [show ((j.toNat : Nat) : Int) = j by omega] at this; exact this
 ·rintro ⟨a, b⟩ x hx
  rcases said_mem hx with ⟨i, hi, rfl⟩ | ⟨i, hi, rfl⟩
  ·exact b (i : Int) (by omega) (by omega)
  ·have := a _ (mem82 gaps i hi); obtain ⟨c, d⟩ := this; have c : (rd_T82 gaps i).f2 ≤ (t (rd_T82 gaps i).f1 - t 10) - (t (rd_T82 gaps i).f0 - t 10) := c; have d : (t (rd_T82 gaps i).f1 - t 10) - (t (rd_T82 gaps i).f0 - t 10) ≤ (rd_T82 gaps i).f3 := d; exact ⟨by show (rd_T82 gaps i).f2 ≤ t (rd_T82 gaps i).f1 - t (rd_T82 gaps i).f0; omega, by show t (rd_T82 gaps i).f1 - t (rd_T82 gaps i).f0 ≤ (rd_T82 gaps i).f3; omega⟩
theorem tighten_solve {evs : List S65} {gaps : List S82} (h : HistIs evs gaps) : (tightenF (bindP (fun _ => false) (saidL evs gaps))).isSome = (solveR evs gaps).2 := by
 obtain ⟨b1, b2⟩ := bind_spec (fun _ => false) (saidL evs gaps) h.facts; rw [Bool.eq_iff_iff, tighten_iff b1, (solve_spec evs gaps h.gap).1]; constructor
 ·rintro ⟨t, ht⟩; exact ⟨_, (keeps_fit h t).mp fun x hx => (b2 t).mp ht x hx rfl⟩
 ·rintro ⟨t, ht⟩; refine ⟨fun j => if j = 10 then 0 else t j, (b2 _).mpr fun x hx _ => (keeps_fit h _).mpr ?_ x hx⟩; have hn := h.n
  have e : ∀ j : Int, j < evs.length → (if j = 10 then 0 else t j) - (if (10 : Int) = 10 then 0 else t 10) = t j := fun j hj => by
   rw [if_neg (by omega), if_pos rfl]; omega
  refine ⟨fun g hg => ?_, fun j h0 h1 => ?_⟩
  ·have hi := h.gap g hg; have := ht.1 g hg; unfold GapSat at this ⊢; show g.f2 ≤ ((if g.f1 = 10 then 0 else t g.f1) - (if (10 : Int) = 10 then 0 else t 10)) - ((if g.f0 = 10 then 0 else t g.f0) - (if (10 : Int) = 10 then 0 else t 10)) ∧ ((if g.f1 = 10 then 0 else t g.f1) - (if (10 : Int) = 10 then 0 else t 10)) - ((if g.f0 = 10 then 0 else t g.f0) - (if (10 : Int) = 10 then 0 else t 10)) ≤ g.f3; rw [e _ hi.a1, e _ hi.b1]; exact this
  ·show _ ≤ (if j = 10 then 0 else t j) - (if (10 : Int) = 10 then 0 else t 10) ∧ (if j = 10 then 0 else t j) - (if (10 : Int) = 10 then 0 else t 10) ≤ _; rw [e j h1]; exact ht.2 j h0 h1
end
section
def mineGo : List S121 → Int → List Int → List Int
 | [], _, ms => ms
 | d :: l, i, ms => mineGo l (i + 1) (ms.set d.f0.toNat (bits .or .u64 (ms.getD d.f0.toNat 0) (IntKind.u64.wrap (2 ^ i.toNat))))
def mineF (l : List S121) : List Int := mineGo l 0 [0, 0, 0, 0, 0, 0]
theorem drop_rd71' (l : List S121) (i : Int) (h0 : 0 ≤ i) (h1 : i < l.length) : l.drop i.toNat = rd_T121 l i :: l.drop (i + 1).toNat := by
 have hl : i.toNat < l.length := by omega
 have e : (i + 1).toNat = i.toNat + 1 := by omega
 have er : rd_T121 l i = l[i.toNat] := by simp [rd_T121, List.getD_eq_getElem?_getD, hl]
 rw [List.drop_eq_getElem_cons hl, e, er]
theorem rd71_mem' (l : List S121) (i : Int) (h0 : 0 ≤ i) (h1 : i < l.length) : rd_T121 l i ∈ l := by
 have hl : i.toNat < l.length := by omega
 have er : rd_T121 l i = l[i.toNat] := by simp [rd_T121, List.getD_eq_getElem?_getD, hl]
 rw [er]; exact List.getElem_mem hl
def blk6 (a b c d e f : Int) : Obj := .cells #[.int .u64 a, .int .u64 b, .int .u64 c, .int .u64 d, .int .u64 e, .int .u64 f] 126 (0, 0)
set_option maxHeartbeats 4000000 in
set_option maxRecDepth 100000 in
theorem mine_calls (A0 : Option Addr) (c0 : Nat) (l0 : List S121) (w : World) (hr0 : Kd.C k121 w A0 l0.length l0) (hl : l0.length ≤ 40) (hm : ∀ d ∈ l0, 0 ≤ d.f0 ∧ d.f0 ≤ 5) :
  Calls Tryz.prog 69 #[.slice A0 l0.length c0] w fun e w' => ∃ a b c d f g : Int, e = .returned (.agg #[.int .u64 a, .int .u64 b, .int .u64 c, .int .u64 d, .int .u64 f, .int .u64 g]) ∧ mineF l0 = [a, b, c, d, f, g] ∧ Below w.heap.size w w' := by
 have hu71 := Tryz.underlying121; have hu119 := Tryz.underlying126; have HR0 := Aa hr0; have HM := Aa hm; clear hr0 hm
 have k2 : ((w.alloc (blk6 0 0 0 0 0 0)).alloc (blk6 0 0 0 0 0 0)).heap[w.heap.size + 1]? = some (blk6 0 0 0 0 0 0) := by
  have := blk_new (w.alloc (blk6 0 0 0 0 0 0)) (blk6 0 0 0 0 0 0); rwa [World.size_alloc] at this
 have K2 := Aa k2; have K1 := Aa (Ka (blk_new w (blk6 0 0 0 0 0 0)) (blk6 0 0 0 0 0 0)); have KB := Aa (Ba (Ba (Below.refl w.heap.size w) (blk6 0 0 0 0 0 0)) (blk6 0 0 0 0 0 0)); clear k2
 go_enter Tryz.func69, Tryz.ntmps69
 go_wp2_with fail
 go_loopw [8] (fun v8 W => ∃ (i a b c d f g : Int), 0 ≤ i ∧ i ≤ l0.length ∧ v8 = .int .i64 i ∧ Aside0 (mineGo (l0.drop i.toNat) i [a, b, c, d, f, g] = mineF l0) ∧ Aside0 (W.heap[w.heap.size + 1]? = some (blk6 a b c d f g)) ∧ Aside0 (W.heap[w.heap.size]? = some (blk6 0 0 0 0 0 0)) ∧ Aside0 (Below w.heap.size w W)) (fun v _ => l0.length - (intOf v).toNat)
 case atStart => exact ⟨0, 0, 0, 0, 0, 0, 0, by omega, by omega, rfl, ⟨rfl⟩, K2, K1, KB⟩
 case round =>
  clear K2 K1 KB; obtain ⟨i, a, b, c, d, f, g, h0, hk, rfl, HA, H2, H1, HB⟩ := hrel
  by_cases hlt : i < l0.length
  ·obtain ⟨ad, e217, hx0, hx1, hx2⟩ := at_T121 (Kd.C_below HR0.out HB.out) i h0 hlt; cases e217; have hA := HA.out; rw [drop_rd71' l0 i h0 hlt] at hA; have hkd := HM.out _ (rd71_mem' l0 i h0 hlt); clear HA
   obtain ⟨x, hx⟩ : ∃ x, rd_T121 l0 i = x := ⟨_, rfl⟩
   rw [hx] at hx0 hx1 hx2 hA hkd; clear hx; obtain ⟨x0, x1, x2⟩ := x; simp only [mineGo] at hA hx0 hx1 hx2 hkd; have HBk := Aa (Ka H2.out (.cells #[.int .i64 x0, .int .i64 x1, .int .i64 x2] 121)); have HBz := Aa (Ka H1.out (.cells #[.int .i64 x0, .int .i64 x1, .int .i64 x2] 121)); have HB2 := Aa (Ba HB.out (.cells #[.int .i64 x0, .int .i64 x1, .int .i64 x2] 121)); have p0 := cell_at (blk_new wr (.cells #[.int .i64 x0, .int .i64 x1, .int .i64 x2] 121)) 0 (.int .i64 x0) rfl; have q0 := cell_at HBk.out 0 (.int .u64 a) rfl; have q1 := cell_at HBk.out 1 (.int .u64 b) rfl; have q2 := cell_at HBk.out 2 (.int .u64 c) rfl; have q3 := cell_at HBk.out 3 (.int .u64 d) rfl; have q4 := cell_at HBk.out 4 (.int .u64 f) rfl; have q5 := cell_at HBk.out 5 (.int .u64 g) rfl
   obtain rfl | rfl | rfl | rfl | rfl | rfl : x0 = 0 ∨ x0 = 1 ∨ x0 = 2 ∨ x0 = 3 ∨ x0 = 4 ∨ x0 = 5 := by omega
   ·have z0 := Bf HBk.out 0
    go_wp2_with fail
    generalize wr.alloc (.cells #[.int .i64 0, .int .i64 x1, .int .i64 x2] 121) = W1 at HBk HBz HB2 p0 q0 q1 q2 q3 q4 q5 z0 ⊢
    go_still_tail 8, (by kernel_rfl)
    (show wpList _ _ _ _ _ W1.drew)
    go_wp2
    go_roundw
    case rel => exact ⟨i + 1, (bits .or .u64 a (IntKind.u64.wrap (2 ^ i.toNat))), b, c, d, f, g, by omega, by omega, rfl, ⟨hA⟩, ⟨blk_put HBk.out 0 _ rfl⟩, ⟨blk_far HBz.out (by omega) _⟩, ⟨Dn (Bz HB2.out (by omega))⟩⟩
    case measure => simp [intOf]; omega
   ·have z0 := Bf HBk.out 1
    go_wp2_with fail
    generalize wr.alloc (.cells #[.int .i64 1, .int .i64 x1, .int .i64 x2] 121) = W1 at HBk HBz HB2 p0 q0 q1 q2 q3 q4 q5 z0 ⊢
    go_still_tail 8, (by kernel_rfl)
    (show wpList _ _ _ _ _ W1.drew)
    go_wp2
    go_roundw
    case rel => exact ⟨i + 1, a, (bits .or .u64 b (IntKind.u64.wrap (2 ^ i.toNat))), c, d, f, g, by omega, by omega, rfl, ⟨hA⟩, ⟨blk_put HBk.out 1 _ rfl⟩, ⟨blk_far HBz.out (by omega) _⟩, ⟨Dn (Bz HB2.out (by omega))⟩⟩
    case measure => simp [intOf]; omega
   ·have z0 := Bf HBk.out 2
    go_wp2_with fail
    generalize wr.alloc (.cells #[.int .i64 2, .int .i64 x1, .int .i64 x2] 121) = W1 at HBk HBz HB2 p0 q0 q1 q2 q3 q4 q5 z0 ⊢
    go_still_tail 8, (by kernel_rfl)
    (show wpList _ _ _ _ _ W1.drew)
    go_wp2
    go_roundw
    case rel => exact ⟨i + 1, a, b, (bits .or .u64 c (IntKind.u64.wrap (2 ^ i.toNat))), d, f, g, by omega, by omega, rfl, ⟨hA⟩, ⟨blk_put HBk.out 2 _ rfl⟩, ⟨blk_far HBz.out (by omega) _⟩, ⟨Dn (Bz HB2.out (by omega))⟩⟩
    case measure => simp [intOf]; omega
   ·have z0 := Bf HBk.out 3
    go_wp2_with fail
    generalize wr.alloc (.cells #[.int .i64 3, .int .i64 x1, .int .i64 x2] 121) = W1 at HBk HBz HB2 p0 q0 q1 q2 q3 q4 q5 z0 ⊢
    go_still_tail 8, (by kernel_rfl)
    (show wpList _ _ _ _ _ W1.drew)
    go_wp2
    go_roundw
    case rel => exact ⟨i + 1, a, b, c, (bits .or .u64 d (IntKind.u64.wrap (2 ^ i.toNat))), f, g, by omega, by omega, rfl, ⟨hA⟩, ⟨blk_put HBk.out 3 _ rfl⟩, ⟨blk_far HBz.out (by omega) _⟩, ⟨Dn (Bz HB2.out (by omega))⟩⟩
    case measure => simp [intOf]; omega
   ·have z0 := Bf HBk.out 4
    go_wp2_with fail
    generalize wr.alloc (.cells #[.int .i64 4, .int .i64 x1, .int .i64 x2] 121) = W1 at HBk HBz HB2 p0 q0 q1 q2 q3 q4 q5 z0 ⊢
    go_still_tail 8, (by kernel_rfl)
    (show wpList _ _ _ _ _ W1.drew)
    go_wp2
    go_roundw
    case rel => exact ⟨i + 1, a, b, c, d, (bits .or .u64 f (IntKind.u64.wrap (2 ^ i.toNat))), g, by omega, by omega, rfl, ⟨hA⟩, ⟨blk_put HBk.out 4 _ rfl⟩, ⟨blk_far HBz.out (by omega) _⟩, ⟨Dn (Bz HB2.out (by omega))⟩⟩
    case measure => simp [intOf]; omega
   ·have z0 := Bf HBk.out 5
    go_wp2_with fail
    generalize wr.alloc (.cells #[.int .i64 5, .int .i64 x1, .int .i64 x2] 121) = W1 at HBk HBz HB2 p0 q0 q1 q2 q3 q4 q5 z0 ⊢
    go_still_tail 8, (by kernel_rfl)
    (show wpList _ _ _ _ _ W1.drew)
    go_wp2
    go_roundw
    case rel => exact ⟨i + 1, a, b, c, d, f, (bits .or .u64 g (IntKind.u64.wrap (2 ^ i.toNat))), by omega, by omega, rfl, ⟨hA⟩, ⟨blk_put HBk.out 5 _ rfl⟩, ⟨blk_far HBz.out (by omega) _⟩, ⟨Dn (Bz HB2.out (by omega))⟩⟩
    case measure => simp [intOf]; omega
  ·have hA := HA.out; rw [List.drop_of_length_le (by omega)] at hA; have HA2 := Aa (show mineF l0 = [a, b, c, d, f, g] from hA.symm); clear hA HA; have q0 := cell_at H2.out 0 (.int .u64 a) rfl; have q1 := cell_at H2.out 1 (.int .u64 b) rfl; have q2 := cell_at H2.out 2 (.int .u64 c) rfl; have q3 := cell_at H2.out 3 (.int .u64 d) rfl; have q4 := cell_at H2.out 4 (.int .u64 f) rfl; have q5 := cell_at H2.out 5 (.int .u64 g) rfl; have s0 := cell_at H1.out 0 (.int .u64 0) rfl; have s1 := cell_at H1.out 1 (.int .u64 0) rfl; have s2 := cell_at H1.out 2 (.int .u64 0) rfl; have s3 := cell_at H1.out 3 (.int .u64 0) rfl; have s4 := cell_at H1.out 4 (.int .u64 0) rfl; have s5 := cell_at H1.out 5 (.int .u64 0) rfl; have z0 := Bf H1.out 0; have z1 := Bf H1.out 1; have z2 := Bf H1.out 2; have z3 := Bf H1.out 3; have z4 := Bf H1.out 4; have z5 := Bf H1.out 5; go_wp2; refine bodyPost_ret (results_cell_row rfl _ _ w.heap.size 126 #[.int .u64 a, .int .u64 b, .int .u64 c, .int .u64 d, .int .u64 f, .int .u64 g] (0, 0) _ rfl (blk_put (cs := #[.int .u64 a, .int .u64 b, .int .u64 c, .int .u64 d, .int .u64 f, .int .u64 0]) (blk_put (cs := #[.int .u64 a, .int .u64 b, .int .u64 c, .int .u64 d, .int .u64 0, .int .u64 0]) (blk_put (cs := #[.int .u64 a, .int .u64 b, .int .u64 c, .int .u64 0, .int .u64 0, .int .u64 0]) (blk_put (cs := #[.int .u64 a, .int .u64 b, .int .u64 0, .int .u64 0, .int .u64 0, .int .u64 0]) (blk_put (cs := #[.int .u64 a, .int .u64 0, .int .u64 0, .int .u64 0, .int .u64 0, .int .u64 0]) (blk_put (cs := #[.int .u64 0, .int .u64 0, .int .u64 0, .int .u64 0, .int .u64 0, .int .u64 0]) H1.out 0 _ rfl) 1 _ rfl) 2 _ rfl) 3 _ rfl) 4 _ rfl) 5 _ rfl) Tryz.underlying126 rfl (by kernel_rfl)) rfl ?_; exact ⟨a, b, c, d, f, g, rfl, HA2.out, Bz (Bz (Bz (Bz (Bz (Bz HB.out (Nat.le_refl _)) (Nat.le_refl _)) (Nat.le_refl _)) (Nat.le_refl _)) (Nat.le_refl _)) (Nat.le_refl _)⟩
end
end Go.Proofs.YtobcecgcegoooaaGreat.Sk

/- The walk of skew.Counts: the counts of all deeds. -/
import Derived.Test.YtbffhblebigcfaaCPrS0
import Derived.Test.YtbffhblebigcfaaCPrGMine
import Derived.Test.YtbffhblebigcfaaCPrGAheads
namespace Go.Proofs.Ytbffhblebigcfaa.Sk
open Go.RowKit Go.Proofs.YtbffhblebigcfaaW.PrintWords Go.Proofs.YtbffhblebigcfaaW.PrintLast Go.Proofs.YtbffhblebigcfaaW.PrintMore
set_option linter.unusedVariables false
set_option linter.unusedSimpArgs false
def ocF (x : Int) : Int := (bits_OnesCount64.f x).getD 0
set_option maxHeartbeats 8000000 in
set_option maxRecDepth 100000 in
theorem oc87' (a0 : Int) (r : Int) (w : World) (h : bits_OnesCount64.f a0 = some r) :
  Calls Try.prog 87 #[.int .u64 a0] w fun e w' => e = .returned (.int .i64 r) ∧ w' = w := by
 have H : (some (Go.bits .and .i64 (wrap64 (IntKind.u64.wrap ((IntKind.u64.wrap ((IntKind.u64.wrap ((Go.bits .and .u64 (IntKind.u64.wrap (((IntKind.u64.wrap ((Go.bits .and .u64 ((IntKind.u64.wrap ((Go.bits .and .u64 (a0 / 2) 6148914691236517205) + (Go.bits .and .u64 a0 6148914691236517205))) / 4) 3689348814741910323) + (Go.bits .and .u64 (IntKind.u64.wrap ((Go.bits .and .u64 (a0 / 2) 6148914691236517205) + (Go.bits .and .u64 a0 6148914691236517205))) 3689348814741910323))) / 16) + (IntKind.u64.wrap ((Go.bits .and .u64 ((IntKind.u64.wrap ((Go.bits .and .u64 (a0 / 2) 6148914691236517205) + (Go.bits .and .u64 a0 6148914691236517205))) / 4) 3689348814741910323) + (Go.bits .and .u64 (IntKind.u64.wrap ((Go.bits .and .u64 (a0 / 2) 6148914691236517205) + (Go.bits .and .u64 a0 6148914691236517205))) 3689348814741910323))))) 1085102592571150095) + ((Go.bits .and .u64 (IntKind.u64.wrap (((IntKind.u64.wrap ((Go.bits .and .u64 ((IntKind.u64.wrap ((Go.bits .and .u64 (a0 / 2) 6148914691236517205) + (Go.bits .and .u64 a0 6148914691236517205))) / 4) 3689348814741910323) + (Go.bits .and .u64 (IntKind.u64.wrap ((Go.bits .and .u64 (a0 / 2) 6148914691236517205) + (Go.bits .and .u64 a0 6148914691236517205))) 3689348814741910323))) / 16) + (IntKind.u64.wrap ((Go.bits .and .u64 ((IntKind.u64.wrap ((Go.bits .and .u64 (a0 / 2) 6148914691236517205) + (Go.bits .and .u64 a0 6148914691236517205))) / 4) 3689348814741910323) + (Go.bits .and .u64 (IntKind.u64.wrap ((Go.bits .and .u64 (a0 / 2) 6148914691236517205) + (Go.bits .and .u64 a0 6148914691236517205))) 3689348814741910323))))) 1085102592571150095) / 256))) + ((IntKind.u64.wrap ((Go.bits .and .u64 (IntKind.u64.wrap (((IntKind.u64.wrap ((Go.bits .and .u64 ((IntKind.u64.wrap ((Go.bits .and .u64 (a0 / 2) 6148914691236517205) + (Go.bits .and .u64 a0 6148914691236517205))) / 4) 3689348814741910323) + (Go.bits .and .u64 (IntKind.u64.wrap ((Go.bits .and .u64 (a0 / 2) 6148914691236517205) + (Go.bits .and .u64 a0 6148914691236517205))) 3689348814741910323))) / 16) + (IntKind.u64.wrap ((Go.bits .and .u64 ((IntKind.u64.wrap ((Go.bits .and .u64 (a0 / 2) 6148914691236517205) + (Go.bits .and .u64 a0 6148914691236517205))) / 4) 3689348814741910323) + (Go.bits .and .u64 (IntKind.u64.wrap ((Go.bits .and .u64 (a0 / 2) 6148914691236517205) + (Go.bits .and .u64 a0 6148914691236517205))) 3689348814741910323))))) 1085102592571150095) + ((Go.bits .and .u64 (IntKind.u64.wrap (((IntKind.u64.wrap ((Go.bits .and .u64 ((IntKind.u64.wrap ((Go.bits .and .u64 (a0 / 2) 6148914691236517205) + (Go.bits .and .u64 a0 6148914691236517205))) / 4) 3689348814741910323) + (Go.bits .and .u64 (IntKind.u64.wrap ((Go.bits .and .u64 (a0 / 2) 6148914691236517205) + (Go.bits .and .u64 a0 6148914691236517205))) 3689348814741910323))) / 16) + (IntKind.u64.wrap ((Go.bits .and .u64 ((IntKind.u64.wrap ((Go.bits .and .u64 (a0 / 2) 6148914691236517205) + (Go.bits .and .u64 a0 6148914691236517205))) / 4) 3689348814741910323) + (Go.bits .and .u64 (IntKind.u64.wrap ((Go.bits .and .u64 (a0 / 2) 6148914691236517205) + (Go.bits .and .u64 a0 6148914691236517205))) 3689348814741910323))))) 1085102592571150095) / 256))) / 65536))) + ((IntKind.u64.wrap ((IntKind.u64.wrap ((Go.bits .and .u64 (IntKind.u64.wrap (((IntKind.u64.wrap ((Go.bits .and .u64 ((IntKind.u64.wrap ((Go.bits .and .u64 (a0 / 2) 6148914691236517205) + (Go.bits .and .u64 a0 6148914691236517205))) / 4) 3689348814741910323) + (Go.bits .and .u64 (IntKind.u64.wrap ((Go.bits .and .u64 (a0 / 2) 6148914691236517205) + (Go.bits .and .u64 a0 6148914691236517205))) 3689348814741910323))) / 16) + (IntKind.u64.wrap ((Go.bits .and .u64 ((IntKind.u64.wrap ((Go.bits .and .u64 (a0 / 2) 6148914691236517205) + (Go.bits .and .u64 a0 6148914691236517205))) / 4) 3689348814741910323) + (Go.bits .and .u64 (IntKind.u64.wrap ((Go.bits .and .u64 (a0 / 2) 6148914691236517205) + (Go.bits .and .u64 a0 6148914691236517205))) 3689348814741910323))))) 1085102592571150095) + ((Go.bits .and .u64 (IntKind.u64.wrap (((IntKind.u64.wrap ((Go.bits .and .u64 ((IntKind.u64.wrap ((Go.bits .and .u64 (a0 / 2) 6148914691236517205) + (Go.bits .and .u64 a0 6148914691236517205))) / 4) 3689348814741910323) + (Go.bits .and .u64 (IntKind.u64.wrap ((Go.bits .and .u64 (a0 / 2) 6148914691236517205) + (Go.bits .and .u64 a0 6148914691236517205))) 3689348814741910323))) / 16) + (IntKind.u64.wrap ((Go.bits .and .u64 ((IntKind.u64.wrap ((Go.bits .and .u64 (a0 / 2) 6148914691236517205) + (Go.bits .and .u64 a0 6148914691236517205))) / 4) 3689348814741910323) + (Go.bits .and .u64 (IntKind.u64.wrap ((Go.bits .and .u64 (a0 / 2) 6148914691236517205) + (Go.bits .and .u64 a0 6148914691236517205))) 3689348814741910323))))) 1085102592571150095) / 256))) + ((IntKind.u64.wrap ((Go.bits .and .u64 (IntKind.u64.wrap (((IntKind.u64.wrap ((Go.bits .and .u64 ((IntKind.u64.wrap ((Go.bits .and .u64 (a0 / 2) 6148914691236517205) + (Go.bits .and .u64 a0 6148914691236517205))) / 4) 3689348814741910323) + (Go.bits .and .u64 (IntKind.u64.wrap ((Go.bits .and .u64 (a0 / 2) 6148914691236517205) + (Go.bits .and .u64 a0 6148914691236517205))) 3689348814741910323))) / 16) + (IntKind.u64.wrap ((Go.bits .and .u64 ((IntKind.u64.wrap ((Go.bits .and .u64 (a0 / 2) 6148914691236517205) + (Go.bits .and .u64 a0 6148914691236517205))) / 4) 3689348814741910323) + (Go.bits .and .u64 (IntKind.u64.wrap ((Go.bits .and .u64 (a0 / 2) 6148914691236517205) + (Go.bits .and .u64 a0 6148914691236517205))) 3689348814741910323))))) 1085102592571150095) + ((Go.bits .and .u64 (IntKind.u64.wrap (((IntKind.u64.wrap ((Go.bits .and .u64 ((IntKind.u64.wrap ((Go.bits .and .u64 (a0 / 2) 6148914691236517205) + (Go.bits .and .u64 a0 6148914691236517205))) / 4) 3689348814741910323) + (Go.bits .and .u64 (IntKind.u64.wrap ((Go.bits .and .u64 (a0 / 2) 6148914691236517205) + (Go.bits .and .u64 a0 6148914691236517205))) 3689348814741910323))) / 16) + (IntKind.u64.wrap ((Go.bits .and .u64 ((IntKind.u64.wrap ((Go.bits .and .u64 (a0 / 2) 6148914691236517205) + (Go.bits .and .u64 a0 6148914691236517205))) / 4) 3689348814741910323) + (Go.bits .and .u64 (IntKind.u64.wrap ((Go.bits .and .u64 (a0 / 2) 6148914691236517205) + (Go.bits .and .u64 a0 6148914691236517205))) 3689348814741910323))))) 1085102592571150095) / 256))) / 65536))) / 4294967296)))) 127)) = some r := h
 clear h
 obtain rfl := Option.some.inj H
 go_enter Try.func87, Try.ntmps87
 go_wp2
 go_ret
 exact ⟨by first | rfl | (simp; done) | (simp [*]; done), rfl⟩
theorem ocF_some (x : Int) : bits_OnesCount64.f x = some (ocF x) := by
 unfold ocF
 cases h : bits_OnesCount64.f x with
 | none => unfold bits_OnesCount64.f at h; cases h
 | some r => rfl
theorem oc87 (x : Int) (w : World) : Calls Try.prog 87 #[.int .u64 x] w fun e w' => e = .returned (.int .i64 (ocF x)) ∧ w' = w := oc87' x _ w (ocF_some x)
theorem clip81 (A : Option Addr) (n c : Nat) (hn : n ≤ c) (w : World) : Calls Try.prog 81 #[.slice A n c] w fun e w' => e = .returned (.slice A n n) ∧ w = w' := by
 go_enter Try.func81, Try.ntmps81
 go_wp2
 go_ret
 exact ⟨rfl, rfl⟩
theorem clip96 (A : Option Addr) (n c : Nat) (hn : n ≤ c) (w : World) : Calls Try.prog 96 #[.slice A n c] w fun e w' => e = .returned (.slice A n n) ∧ w = w' := by
 go_enter Try.func96, Try.ntmps96
 go_wp2
 go_ret
 exact ⟨rfl, rfl⟩
theorem idx119 (a b c d f g j : Int) (h0 : 0 ≤ j) (h5 : j < 6) (W : World) : (Instr.index 119 (.agg #[.int .u64 a, .int .u64 b, .int .u64 c, .int .u64 d, .int .u64 f, .int .u64 g]) (.int .i64 j)).run Try.prog W = .ok (.int .u64 (rd [a, b, c, d, f, g] j)) W := by
 obtain rfl | rfl | rfl | rfl | rfl | rfl : j = 0 ∨ j = 1 ∨ j = 2 ∨ j = 3 ∨ j = 4 ∨ j = 5 := by omega
 all_goals kernel_rfl
theorem V_clip' {α : Type} {d : Kd α} {e base : Nat} {ok : Nat → Prop} {w W : World} {A : Option Addr} {n c : Nat} {xs : List α} (h : d.R e W base ok (.slice A n c) xs) (hb : w.heap.size ≤ base) :
  Kd.V d e W w.heap.size (fun k_ => (w.heap.size ≤ k_)) (.slice A n n) xs := by
 have hn := (Kd.R_reads' h).1
 subst hn
 have h2 := Kd.R_mono (ok' := fun k_ => w.heap.size ≤ k_) (Kd.R_bound h) (fun k hk => Nat.le_trans hb hk.2.1)
 exact Kd.V_mk (Nat.le_refl _) (Kd.R_F h2)
def cntOne (ah : Int → Option Int) (i m : Int) : Int := ocF (bits .and .u64 m (bits .or .u64 ((ah i).getD 0) (IntKind.u64.wrap (2 ^ i.toNat))))
def cntRow (ah : Int → Option Int) (ms : List Int) (i : Int) : List Int := ms.map (cntOne ah i)
def cntRows (ah : Int → Option Int) (ms : List Int) (n : Nat) : List (List Int) := (List.range n).map fun (i : Nat) => cntRow ah ms (i : Int)
def runOk (l : List S71) (bs : List Int) : Prop := l.length ≤ 40 ∧ bs.length = l.length ∧ (∀ b ∈ bs, b < 40) ∧ (∀ d ∈ l, d.f2 < 40) ∧ ∀ d ∈ l, 0 ≤ d.f0 ∧ d.f0 ≤ 5
instance (l : List S71) (bs : List Int) : Decidable (runOk l bs) := by unfold runOk; infer_instance
def skew_Counts.f (l0 : List S71) : Option (List (List Int) × Int) :=
 (skew_isRun.f (l0.length + 1) l0).bind fun b => if b = true then (skew_befores.f l0).bind fun bs => if runOk l0 bs then some (cntRows (aheadsF bs l0) (mineF l0) l0.length, 0) else none else some ([], 2)
theorem cntRows_succ (ah : Int → Option Int) (ms : List Int) (i : Int) (h0 : 0 ≤ i) : cntRows ah ms (i + 1).toNat = cntRows ah ms i.toNat ++ [cntRow ah ms i] := by
 unfold cntRows
 rw [show (i + 1).toNat = i.toNat + 1 by omega, List.range_succ, List.map_append, List.map_cons, List.map_nil, Int.toNat_of_nonneg h0]
theorem take_rd (l : List Int) (j : Int) (h0 : 0 ≤ j) (h1 : j < l.length) : l.take (j + 1).toNat = l.take j.toNat ++ [rd l j] := by
 have hl : j.toNat < l.length := by omega
 have er : rd l j = l[j.toNat] := by simp [rd, List.getD_eq_getElem?_getD, hl]
 rw [show (j + 1).toNat = j.toNat + 1 by omega, List.take_succ_eq_append_getElem hl, er]
theorem lookS {W : World} {B : Nat} {ah : Int → Option Int} (h : MapIs elS W B 100 ah) (i : Int) (hi : okI i) :
  MapIs elS W B 100 ah ∧ (Instr.lookup 122 (.map (some B)) (.int .i64 i) false).run Try.prog W = .ok (.int .u64 ((ah i).getD 0)) W := ⟨h, h.look_run (t := 122) Try.underlying122 hi false⟩
set_option maxHeartbeats 8000000 in
set_option maxRecDepth 100000 in
theorem skew_Counts.calls (A0 : Option Addr) (c0 : Nat) (l0 : List S71) (r1 : List (List Int)) (r2 : Int) (w : World) (hr0 : Kd.C k71 w A0 l0.length l0) (hc0 : l0.length ≤ c0) (h : skew_Counts.f l0 = some (r1, r2)) :
  Calls Try.prog 35 #[.slice A0 l0.length c0] w fun e w' => ∃ v0_ : Value, e = .returned (.tuple #[v0_, .int .i64 r2]) ∧ Kd.V (Kd.slice 3 (Kd.int .i64)) 40 w' w.heap.size (fun k_ => (w.heap.size ≤ k_)) v0_ r1 ∧ Below w.heap.size w w' := by
 unfold skew_Counts.f at h
 obtain ⟨b, hb, h⟩ := Option.bind_eq_some_iff.mp h
 have HB := Aa (skew_isRun.calls _ A0 c0 l0 b w hr0 hc0 hb)
 clear hb
 have HR0 := Aa hr0
 clear hr0
 cases b with
 | false =>
  rw [if_neg (by simp)] at h
  simp only [Option.some.injEq, Prod.mk.injEq] at h
  obtain ⟨rfl, rfl⟩ := h
  go_enter Try.func35, Try.ntmps35
  go_wp2_with (go_at_call 85; refine HB.out.mono ?_; rintro e w1 ⟨rfl, hb⟩)
  go_ret2
  exact ⟨_, rfl, Kd.V_nil _ _ _ _ _, hb⟩
 | true =>
  rw [if_pos rfl] at h
  obtain ⟨bs, hbs, h⟩ := Option.bind_eq_some_iff.mp h
  by_cases hok : runOk l0 bs
  ·rw [if_pos hok] at h
   simp only [Option.some.injEq, Prod.mk.injEq] at h
   obtain ⟨rfl, rfl⟩ := h
   obtain ⟨ok1, ok2, ok3, ok4, ok5⟩ := hok
   have HBs := Aa hbs
   have O2 := Aa ok2
   have O3 := Aa ok3
   have O4 := Aa ok4
   have O5 := Aa ok5
   clear hbs ok2 ok3 ok4 ok5
   obtain ⟨ah, hah⟩ : ∃ ah, aheadsF bs l0 = ah := ⟨_, rfl⟩
   have HAh := Aa hah
   clear hah
   go_enter Try.func35, Try.ntmps35
   go_wp2_with fail
   refine HB.out.mono ?_
   rintro e w1 ⟨rfl, hb⟩
   have HB1 := Aa hb
   have HC := Aa (aheads_calls A0 c0 l0 bs w1 (Kd.C_below HR0.out hb) hc0 ok1 HBs.out O2.out O3.out O4.out)
   clear hb HB
   go_wp2_with (go_at_call 88; refine HC.out.mono ?_; rintro e w2 ⟨rfl, hm2, hb2⟩; rw [HAh.out] at hm2; have HM2 := Aa hm2; have HB2 := Aa (below_step HB1.out hb2); have HZ := Aa hm2.lt; clear HC hm2 hb2)
   go_loopw [5, 17] (fun v5 v17 W => ∃ (i : Int), 0 ≤ i ∧ i ≤ l0.length ∧ v17 = .int .i64 i ∧ Aside0 (Kd.N (Kd.slice 3 (Kd.int .i64)) 40 W w2.heap.size (fun k => w1.heap.size < k) v5 (cntRows ah (mineF l0) i.toNat)) ∧ Aside0 (MapIs elS W w1.heap.size 100 ah) ∧ Aside0 (Below w2.heap.size w2 W)) (fun _ v _ => l0.length - (intOf v).toNat)
   case atStart => exact ⟨0, by omega, by omega, rfl, ⟨Kd.N_nil _ _ _ _ _⟩, HM2, ⟨Below.refl _ _⟩⟩
   case round =>
    clear HM2
    obtain ⟨i, h0, hk, rfl, HN, HM, HBw⟩ := hrel
    by_cases hlt : i < l0.length
    ·have HBa := Aa (below_step HB2.out (show Below w2.heap.size w2 wr from HBw.out))
     have HMc := Aa (mine_calls A0 c0 l0 wr (Kd.C_below HR0.out HBa.out) ok1 O5.out)
     go_wp2_with (go_at_call 86; refine HMc.out.mono ?_; rintro e w3 ⟨a, b, c, d, f, g, rfl, hms, hb3⟩; have HB3 := Aa hb3; have HMs := Aa hms; clear HMc hb3 hms)
     obtain ⟨ms, hm⟩ : ∃ ms, mineF l0 = ms := ⟨_, rfl⟩
     rw [hm] at HMs HN
     have HMm := Aa hm
     have hlen : ms.length = 6 := by rw [HMs.out]; rfl
     have HLn := Aa hlen
     have hix : ∀ (j : Int) (W : World), 0 ≤ j → j < 6 → (Instr.index 119 (.agg #[.int .u64 a, .int .u64 b, .int .u64 c, .int .u64 d, .int .u64 f, .int .u64 g]) (.int .i64 j)).run Try.prog W = .ok (.int .u64 (rd ms j)) W := by
      intro j W h0 h1; rw [HMs.out]; exact idx119 a b c d f g j h0 h1 W
     have HIx := Aa hix
     clear hm hlen hix HMs
     have HN3 := Aa (Kd.N_below (Kd.N_bound HN.out) HB3.out)
     have HM3 := Aa (HM.out.below HB3.out)
     have HBw3 := Aa (below_step HBw.out HB3.out)
     have HZ3 := Aa (show wr.heap.size ≤ w3.heap.size from HB3.out.size)
     clear HN HM HB3 HBa
     obtain ⟨wo, rfl⟩ : ∃ wo : World, wo = wr := ⟨_, rfl⟩
     go_loopw [7, 22, 9] (fun v7 v22 _ W => ∃ (j : Int), 0 ≤ j ∧ j ≤ 6 ∧ v22 = .int .i64 j ∧ Aside0 (Kd.R (Kd.int .i64) 3 W w3.heap.size (fun k => w3.heap.size ≤ k) v7 ((ms.take j.toNat).map (cntOne ah i))) ∧ Aside0 (Below w3.heap.size w3 W)) (fun _ v _ _ => 6 - (intOf v).toNat)
     case atStart => exact ⟨0, by omega, by omega, rfl, ⟨Kd.R_nil _ _ _ _ _⟩, ⟨Below.refl _ _⟩⟩
     case round =>
      obtain ⟨j, j0, j6, rfl, HO, HBv⟩ := hrel
      by_cases hj : j < 6
      ·have hx := HIx.out j wr j0 hj
       have hl6 : ((ms.take j.toNat).map (cntOne ah i)).length ≤ 6 := by rw [List.length_map, List.length_take, HLn.out]; omega
       have hst : (ms.take (j + 1).toNat).map (cntOne ah i) = (ms.take j.toNat).map (cntOne ah i) ++ [cntOne ah i (rd ms j)] := by
        rw [take_rd ms j j0 (by rw [HLn.out]; omega), List.map_append]; rfl
       have HSt := Aa hst
       have HL6 := Aa hl6
       clear hst hl6
       obtain ⟨xs, hxs⟩ : ∃ xs, (ms.take j.toNat).map (cntOne ah i) = xs := ⟨_, rfl⟩
       rw [hxs] at HSt HL6 HO
       clear hxs
       obtain ⟨m, hm⟩ : ∃ m, rd ms j = m := ⟨_, rfl⟩
       rw [hm] at HSt hx
       clear hm
       have HMv := Aa (HM3.out.below HBv.out)
       have HOi := Aa (okI_of (m := i) (by omega))
       have HZv := Aa (show w3.heap.size ≤ wr.heap.size from HBv.out.size)
       have HZb := Aa (show w1.heap.size < w3.heap.size from Nat.lt_of_lt_of_le HM3.out.lt (Nat.le_refl _))
       go_wp2_with fail
       go_region_held3 (fun W => MapIs elS W w1.heap.size 100 ah ∧ (Instr.lookup 122 (.map (some w1.heap.size)) (.int .i64 i) false).run Try.prog W = .ok (.int .u64 ((ah i).getD 0)) W)
        (first | exact lookS HMv.out.drew i HOi.out | exact lookS (MapIs.kept HMv.out.drew hg hne.out) i HOi.out | (go_split_ands; exact lookS (MapIs.alloc (by assumption) _) i HOi.out))
        (first
         | (go_at_call 87; (with_reducible refine (oc87 _ _).mono ?_); rintro e w' ⟨rfl, rfl⟩)
         | (refine Kd.R_append_step (Kd.int .i64) (w0 := w3) (W := wr.drew) w3.heap.size (by rfl) (.tmp 25) (.tmp 35) 40 3 (.int .i64 0) 8 rfl Try.underlying40 info3 rfl (by decide) (by decide) u7 xs (cntOne ah i m) [.int .i64 (cntOne ah i m)] (fun k => w3.heap.size ≤ k) (fun _ => False) rfl rfl rfl (fun _ hk => hk.elim) (fun k hk => Nat.le_trans HZv.out hk) (Kd.R_drew HO.out) (Dn HBv.out) HZv.out (by have := HL6.out; omega) ?_; intro v1 w5 ho hb hg hat; have hne := Aa (show some w1.heap.size ≠ u7.ownBlock from fun e => by have := HO.out.1 _ e.symm; have := HZb.out; omega)))
       have HO5 := Aa ho
       have HB5 := Aa hb
       rename_i hS
       clear ho hb hg hat hne hS hx
       go_wp2
       go_roundw
       case rel => exact ⟨j + 1, by omega, by omega, rfl, ⟨by rw [HSt.out]; exact HO5.out⟩, HB5⟩
       case measure => simp [intOf]; omega
      ·obtain rfl : j = 6 := by omega
       have e6 : (ms.take (6 : Int).toNat).map (cntOne ah i) = cntRow ah ms i := by
        rw [List.take_of_length_le (by rw [HLn.out]; decide)]; rfl
       rw [e6] at HO
       have hl6 : (cntRow ah ms i).length ≤ 6 := by unfold cntRow; rw [List.length_map, HLn.out]; omega
       clear e6
       obtain ⟨row, hrow⟩ : ∃ row, cntRow ah ms i = row := ⟨_, rfl⟩
       rw [hrow] at HO hl6
       obtain ⟨A7, c7, rfl, hc7, hC7⟩ := Kd.R_reads HO.out
       have hlen : (cntRows ah ms i.toNat).length ≤ 40 := by unfold cntRows; rw [List.length_map, List.length_range]; omega
       have HLr := Aa hlen
       have HC7 := Aa hc7
       have HRow := Aa hrow
       have HV := Aa (V_clip' (w := w3) HO.out (Nat.le_refl _))
       have HNw := Aa (Kd.N_below HN3.out HBv.out)
       have HBW := Aa (below_step HBw3.out HBv.out)
       have HZZ := Aa (Nat.lt_of_lt_of_le HZ.out HBW.out.size)
       have HZw := Aa (Nat.lt_of_lt_of_le HZ.out HBw.out.size)
       have HMw := Aa (HM3.out.below HBv.out)
       clear hc7 hC7 hl6 hlen hrow
       obtain ⟨rows, hrows⟩ : ∃ rows, cntRows ah ms i.toNat = rows := ⟨_, rfl⟩
       rw [hrows] at HNw HLr
       have HRs := Aa hrows
       clear hrows hj
       go_wp2_with fail
       refine (clip81 A7 _ c7 HC7.out _).mono ?_
       rintro e w4 ⟨rfl, rfl⟩
       go_wp2_with (at_builtin; refine Kd.N_append (Kd.slice 3 (Kd.int .i64)) (w0 := w2) (W := wr) w2.heap.size rfl (.tmp 38) (.tmp 41) 61 40 (.slice none 0 0) 24 rfl Try.underlying61 info40 rfl (by decide) (by decide) u5 rows row [.slice A7 row.length row.length] (fun k => w1.heap.size < k) (fun k => wo.heap.size ≤ k) rfl rfl ?hp ?hokp ?hfr ?hO ?hB ?hbase ?hl ?_; (case hp => exact Kd.FK_slice_mk (Nat.le_refl _) (Kd.F_mono (Kd.V_F HV.out) (fun k hk => Nat.le_trans HZ3.out hk))); (case hokp => exact fun k hk => ⟨Nat.lt_of_lt_of_le HZw.out hk, fun e => by have := (HNw.out.1 _ e.symm).2; omega⟩); (case hfr => exact fun k hk => Nat.lt_of_lt_of_le HZZ.out hk); (case hO => exact Kd.N_mono HNw.out (fun k hk => hk.1)); (case hB => exact HBW.out); (case hbase => exact HBW.out.size); (case hl => have := HLr.out; omega); intro v1 w5 ho hb hg hat; have HO5 := Aa ho; have HB5 := Aa hb; have HM5 := Aa (HMw.out.kept hg (fun e => by have := (HNw.out.1 _ e.symm).1; omega)); clear ho hb hg hat)
       go_roundw
       case rel => exact ⟨i + 1, by omega, by omega, rfl, ⟨by rw [HMm.out, cntRows_succ _ _ _ h0, HRs.out, HRow.out]; exact HO5.out⟩, HM5, HB5⟩
       case measure => simp [intOf]; omega
    ·obtain rfl : i = l0.length := by omega
     have e1 : ((l0.length : Int)).toNat = l0.length := by omega
     rw [e1] at HN
     clear e1
     obtain ⟨A5, c5, hv5, hc5, hC5⟩ := Kd.N_reads HN.out
     have hlr : (cntRows ah (mineF l0) l0.length).length = l0.length := by unfold cntRows; rw [List.length_map, List.length_range]
     rw [hlr] at hv5 hc5
     subst hv5
     have HC5 := Aa hc5
     have HLr := Aa hlr
     have HV := Aa (Kd.N_V (base' := w.heap.size) HN.out)
     clear hc5 hC5 hlr
     go_wp2_with fail
     refine (clip96 A5 _ c5 HC5.out _).mono ?_
     rintro e w4 ⟨rfl, rfl⟩
     go_wp2
     go_ret2
     refine ⟨.slice A5 l0.length l0.length, rfl, ?_, below_step HB2.out HBw.out⟩
     have hF := Kd.V_F HV.out
     have h2 : Kd.V (Kd.slice 3 (Kd.int .i64)) 40 wr w.heap.size (fun k_ => (w.heap.size ≤ k_)) (.slice A5 (cntRows ah (mineF l0) l0.length).length (cntRows ah (mineF l0) l0.length).length) (cntRows ah (mineF l0) l0.length) := Kd.V_mk (Nat.le_refl _) (Kd.F_mono (by rw [HLr.out]; exact hF) (fun k hk => Nat.le_trans HB1.out.size (Nat.le_of_lt hk)))
     rw [HLr.out] at h2
     try rw [HAh.out]
     with_reducible exact h2
  ·rw [if_neg hok] at h; cases h
end Go.Proofs.Ytbffhblebigcfaa.Sk

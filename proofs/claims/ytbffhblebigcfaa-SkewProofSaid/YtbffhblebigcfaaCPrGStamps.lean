/- The walk of skew.Stamps: the stamps of all deeds. -/
import Derived.Test.YtbffhblebigcfaaCPrS0
import Derived.Test.YtbffhblebigcfaaCPrSkf91
namespace Go.Proofs.Ytbffhblebigcfaa.Sk
open Go.RowKit Go.Proofs.YtbffhblebigcfaaW.PrintWords Go.Proofs.YtbffhblebigcfaaW.PrintLast Go.Proofs.YtbffhblebigcfaaW.PrintMore
set_option linter.unusedVariables false
set_option linter.unusedSimpArgs false
def toS47 (s : S126) : S47 := ⟨s.f0, s.f1⟩
def skew_Stamps.f (l0 : List S71) : Option (List S47 × Int) :=
 (skew_isRun.f (l0.length + 1) l0).bind fun b => if b = true then (skew_stamps.f 1000 l0).bind fun s => if s.length < 1000 then some (s.map toS47, 0) else none else some ([], 2)
theorem clip95 (A : Option Addr) (n c : Nat) (hn : n ≤ c) (w : World) : Calls Try.prog 95 #[.slice A n c] w fun e w' => e = .returned (.slice A n n) ∧ w = w' := by
 go_enter Try.func95, Try.ntmps95
 go_wp2
 go_ret
 exact ⟨rfl, rfl⟩
theorem V_clip {α : Type} {d : Kd α} {e base : Nat} {ok : Nat → Prop} {w W : World} {A : Option Addr} {n c : Nat} {xs : List α} (h : d.R e W base ok (.slice A n c) xs) (hb : w.heap.size ≤ base) :
  Kd.V d e W w.heap.size (fun k_ => (w.heap.size ≤ k_)) (.slice A n n) xs := by
 have hn := (Kd.R_reads' h).1
 subst hn
 have h2 := Kd.R_mono (ok' := fun k_ => w.heap.size ≤ k_) (Kd.R_bound h) (fun k hk => Nat.le_trans hb hk.2.1)
 exact Kd.V_mk (Nat.le_refl _) (Kd.R_F h2)
theorem V_nil0 {α : Type} (d : Kd α) (e : Nat) (W w : World) : Kd.V d e W w.heap.size (fun k_ => (w.heap.size ≤ k_)) (.slice none 0 0) [] :=
 ⟨none, 0, rfl, Nat.le_refl _, Kd.R_F (Kd.R_nil d e W 0 _)⟩
set_option maxHeartbeats 4000000 in
set_option maxRecDepth 100000 in
theorem skew_Stamps.calls (A0 : Option Addr) (c0 : Nat) (l0 : List S71) (r1 : List S47) (r2 : Int) (w : World) (hr0 : Kd.C k71 w A0 l0.length l0) (hc0 : l0.length ≤ c0) (h : skew_Stamps.f l0 = some (r1, r2)) :
  Calls Try.prog 32 #[.slice A0 l0.length c0] w fun e w' => ∃ v0_ : Value, e = .returned (.tuple #[v0_, .int .i64 r2]) ∧ Kd.V k47 47 w' w.heap.size (fun k_ => (w.heap.size ≤ k_)) v0_ r1 ∧ Below w.heap.size w w' := by
 have hu126 := Try.underlying126
 have hu47 := Try.underlying47
 unfold skew_Stamps.f at h
 obtain ⟨b, hb, h⟩ := Option.bind_eq_some_iff.mp h
 have HB := Aa (skew_isRun.calls _ A0 c0 l0 b w hr0 hc0 hb)
 clear hb
 have HR0 := Aa hr0
 clear hr0
 cases b with
 | false =>
  rw [if_neg (by simp)] at h
  simp only [Option.some.injEq, Prod.mk.injEq] at h
  obtain ⟨rfl, rfl⟩ := h
  go_enter Try.func32, Try.ntmps32
  go_wp2_with (go_at_call 85; refine HB.out.mono ?_; rintro e w1 ⟨rfl, hb⟩)
  go_ret2
  exact ⟨_, rfl, V_nil0 _ _ _ _, hb⟩
 | true =>
  rw [if_pos rfl] at h
  obtain ⟨s, hs, h⟩ := Option.bind_eq_some_iff.mp h
  by_cases hl : s.length < 1000
  ·rw [if_pos hl] at h
   simp only [Option.some.injEq, Prod.mk.injEq] at h
   obtain ⟨rfl, rfl⟩ := h
   have HS := Aa hs
   have HL := Aa hl
   clear hs hl
   go_enter Try.func32, Try.ntmps32
   go_wp2_with fail
   refine HB.out.mono ?_
   rintro e w1 ⟨rfl, hb⟩
   have HB1 := Aa hb
   have HC := Aa (skew_stamps.calls _ A0 c0 l0 s w1 (Kd.C_below HR0.out hb) hc0 HS.out)
   clear hb HB
   go_wp2_with (go_at_call 91; refine HC.out.mono ?_; rintro e w2 ⟨v, rfl, ho, hb2⟩; obtain ⟨A, c, rfl, hcc, hC⟩ := Kd.R_reads ho; have HB2 := Aa (below_step HB1.out hb2); have HCs := Aa hC; have HSz := Aa hb2.size; clear HC ho hb2 hcc hC)
   go_loopw [4, 13] (fun v4 v13 W => ∃ (i : Int), 0 ≤ i ∧ i ≤ s.length ∧ v13 = .int .i64 i ∧ Aside0 (Kd.R k47 47 W w2.heap.size (fun _ => True) v4 ((s.take i.toNat).map toS47)) ∧ Aside0 (Below w2.heap.size w2 W)) (fun _ v _ => s.length - (intOf v).toNat)
   case atStart => exact ⟨0, by omega, by omega, rfl, ⟨Kd.R_nil _ _ _ _ _⟩, ⟨Below.refl _ _⟩⟩
   case round =>
    obtain ⟨i, h0, hk, rfl, HO, HBw⟩ := hrel
    have hl := HL.out
    by_cases hlt : i < s.length
    ·obtain ⟨ad, e217, hx0, hx1⟩ := at_T126 (Kd.C_below HCs.out HBw.out) i h0 hlt
     cases e217
     have hstep : (s.take (i + 1).toNat).map toS47 = (s.take i.toNat).map toS47 ++ [toS47 (rd_T126 s i)] := by
      have hl : i.toNat < s.length := by omega
      have er : rd_T126 s i = s[i.toNat] := by simp [rd_T126, List.getD_eq_getElem?_getD, hl]
      rw [show (i + 1).toNat = i.toNat + 1 by omega, List.take_succ_eq_append_getElem hl, er, List.map_append]; rfl
     have hlen : ((s.take i.toNat).map toS47).length ≤ 1000 := by simp; omega
     have HLn := Aa hlen
     clear hlen
     obtain ⟨x, hx⟩ : ∃ x, rd_T126 s i = x := ⟨_, rfl⟩
     rw [hx] at hx0 hx1 hstep
     have HSt := Aa hstep
     clear hx hstep
     obtain ⟨xs, hxs⟩ : ∃ xs, (s.take i.toNat).map toS47 = xs := ⟨_, rfl⟩
     rw [hxs] at HSt HO HLn
     clear hxs
     go_wp2_with (at_builtin; refine Kd.R_append k47 (w0 := w2) w2.heap.size rfl (.tmp 17) (.tmp 19) 57 47 (.agg #[.int .i64 0, .int .i64 0]) 16 rfl Try.underlying57 info47 rfl (by decide) (by decide) u4 xs (toS47 x) [.int .i64 x.f0, .int .i64 x.f1] (fun _ => True) (fun _ => False) rfl (by rw [World.size_alloc]; rfl) (k47_mkM _ _ _ (toS47 x)) (fun _ hk => hk.elim) (fun _ _ => trivial) (Kd.R_alloc HO.out _) (below_alloc HBw.out _) (Nat.le_trans HBw.out.size (by rw [World.size_alloc]; omega)) (by have := HLn.out; omega) ?_; intro v1 w3 ho hb hg hat; have HO1 := Aa ho; have HB1 := Aa hb; clear ho hb hg hat)
     go_roundw
     case rel => exact ⟨i + 1, by omega, by omega, rfl, ⟨by rw [HSt.out]; exact HO1.out⟩, HB1⟩
     case measure => simp [intOf]; omega
    ·have ht : s.take i.toNat = s := List.take_of_length_le (by omega)
     rw [ht] at HO
     clear ht hl
     obtain ⟨A4, c4, hv4, hc4, hC4⟩ := Kd.R_reads HO.out
     rw [List.length_map] at hv4 hc4
     subst hv4
     have HC4 := Aa hc4
     clear hC4 hc4
     go_wp2_with (go_at_call 95; refine (clip95 A4 _ c4 HC4.out _).mono ?_; rintro e w4 ⟨rfl, rfl⟩)
     go_ret2
     exact ⟨_, rfl, V_clip HO.out HB2.out.size, below_step HB2.out HBw.out⟩
  ·rw [if_neg hl] at h; cases h
end Go.Proofs.Ytbffhblebigcfaa.Sk

/- The walk of skew.befores: for each deed, the deed before it at its machine. -/
import Derived.Test.YtbffhblebigcfaaCPrGMap
namespace Go.Proofs.Ytbffhblebigcfaa.Sk
open Go.RowKit Go.Proofs.YtbffhblebigcfaaW.PrintWords Go.Proofs.YtbffhblebigcfaaW.PrintLast Go.Proofs.YtbffhblebigcfaaW.PrintMore
set_option linter.unusedVariables false
set_option linter.unusedSimpArgs false
def befGo : List S71 → (Int → Option Int) → Int → List Int
 | [], _, _ => []
 | d :: l, f, i => (f d.f0).getD (-1) :: befGo l (upd f d.f0 i) (i + 1)
def skew_befores.f (l0 : List S71) : Option (List Int) := if (∀ d ∈ l0, -9223372036854775808 ≤ d.f0 ∧ d.f0 ≤ 9223372036854775807) ∧ l0.length < 1000000000 then some (befGo l0 (fun _ => none) 0) else none
theorem drop_rd71 (l : List S71) (i : Int) (h0 : 0 ≤ i) (h1 : i < l.length) : l.drop i.toNat = rd_T71 l i :: l.drop (i + 1).toNat := by
 have hl : i.toNat < l.length := by omega
 have e : (i + 1).toNat = i.toNat + 1 := by omega
 have er : rd_T71 l i = l[i.toNat] := by simp [rd_T71, List.getD_eq_getElem?_getD, hl]
 rw [List.drop_eq_getElem_cons hl, e, er]
theorem rd71_mem (l : List S71) (i : Int) (h0 : 0 ≤ i) (h1 : i < l.length) : rd_T71 l i ∈ l := by
 have hl : i.toNat < l.length := by omega
 have er : rd_T71 l i = l[i.toNat] := by simp [rd_T71, List.getD_eq_getElem?_getD, hl]
 rw [er]; exact List.getElem_mem hl
def befOk (f : Int → Option Int) (i : Int) : Prop := ∀ m x, f m = some x → 0 ≤ x ∧ x < i
theorem befOk_upd {f : Int → Option Int} {i : Int} (h : befOk f i) (h0 : 0 ≤ i) (m : Int) : befOk (upd f m i) (i + 1) := by
 intro k x hk
 unfold upd at hk
 split at hk
 ·cases hk; omega
 ·have := h k x hk; omega
set_option maxHeartbeats 4000000 in
set_option maxRecDepth 100000 in
theorem skew_befores.calls (A0 : Option Addr) (c0 : Nat) (l0 : List S71) (r : List Int) (w : World) (hr0 : Kd.C k71 w A0 l0.length l0) (hc0 : l0.length ≤ c0) (h : skew_befores.f l0 = some r) :
  Calls Try.prog 122 #[.slice A0 l0.length c0] w fun e w' => ∃ v0_ : Value, e = .returned v0_ ∧ Kd.R (Kd.int .i64) 3 w' w.heap.size (fun _ => True) v0_ r ∧ Below w.heap.size w w' := by
 have hu71 := Try.underlying71
 have hmm := @run_makeMap Try.prog
 unfold skew_befores.f at h
 by_cases hc : (∀ d ∈ l0, -9223372036854775808 ≤ d.f0 ∧ d.f0 ≤ 9223372036854775807) ∧ l0.length < 1000000000
 ·rw [if_pos hc] at h
  obtain ⟨hk, hl⟩ := hc
  have H := Aa (Option.some.inj h)
  have HR0 := Aa hr0
  have HKs := Aa hk
  have HL := Aa hl
  have hm : l0.length ≤ 9223372036854775807 := by omega
  clear h hk hr0 hl
  go_enter Try.func122, Try.ntmps122
  go_wp2
  go_loopw [4, 12] (fun v4 v12 W => ∃ (i : Int) (xs : List Int) (f : Int → Option Int), 0 ≤ i ∧ i ≤ l0.length ∧ v12 = .int .i64 i ∧ Aside0 ((xs.length : Int) = i) ∧ Aside0 (befOk f i) ∧ Aside0 (xs ++ befGo (l0.drop i.toNat) f i = r) ∧ Aside0 (MapIs elI W w.heap.size i.toNat f) ∧ Aside0 (Kd.R (Kd.int .i64) 3 W w.heap.size (fun k => k ≠ w.heap.size) v4 xs) ∧ Aside0 (Below w.heap.size w W) ∧ Aside0 (w.heap.size < W.heap.size)) (fun _ v _ => l0.length - (intOf v).toNat)
  case atStart => exact ⟨0, [], fun _ => none, by omega, by omega, rfl, ⟨rfl⟩, ⟨fun _ _ h => by cases h⟩, ⟨H.out⟩, ⟨MapIs.made w⟩, ⟨Kd.R_nil _ _ _ _ _⟩, ⟨below_alloc (Below.refl _ _) _⟩, ⟨by simp⟩⟩
  case round =>
   obtain ⟨i, xs, f, h0, hk, rfl, HX, HF, HA, HM, HO, HB, HW⟩ := hrel
   by_cases hlt : i < l0.length
   ·obtain ⟨ad, e217, hx0, hx1, hx2⟩ := at_T71 (Kd.C_below HR0.out HB.out) i h0 hlt
    cases e217
    have hA := HA.out
    rw [drop_rd71 l0 i h0 hlt] at hA
    have hkd := HKs.out _ (rd71_mem l0 i h0 hlt)
    clear HA
    obtain ⟨x, hx⟩ : ∃ x, rd_T71 l0 i = x := ⟨_, rfl⟩
    rw [hx] at hx0 hx1 hx2 hA hkd
    clear hx
    simp only [befGo] at hA
    have HKx := Aa (okI_of hkd)
    clear hkd
    have HM2 := Aa (HM.out.alloc (.cells #[.int .i64 x.f0, .int .i64 x.f1, .int .i64 x.f2] 71))
    have HBx := Aa (blk_new wr (.cells #[.int .i64 x.f0, .int .i64 x.f1, .int .i64 x.f2] 71))
    have HSz := Aa (show w.heap.size < (wr.alloc (.cells #[.int .i64 x.f0, .int .i64 x.f1, .int .i64 x.f2] 71)).heap.size by rw [World.size_alloc]; have := HW.out; omega)
    cases hf : f x.f0 with
    | none =>
     rw [hf] at hA
     have HA := Aa hA
     have HFx := Aa hf
     clear hA hf
     go_wp2_with (first
      | (at_lookup; refine wpList_mapIs_look _ rfl _ _ 163 true rfl Try.underlying163 _ _ f HM2.out rfl x.f0 rfl HKx.out (.tuple #[.int .i64 0, .bool false]) (by rw [HFx.out]; rfl) ?_)
      | (at_builtin; refine Kd.R_append (Kd.int .i64) (w0 := w) w.heap.size rfl (.tmp 26) (.tmp 28) 40 3 (.int .i64 0) 8 rfl Try.underlying40 info3 rfl (by decide) (by decide) u4 xs (-1) [.int .i64 (-1)] (fun k => k ≠ w.heap.size) (fun _ => False) rfl (by rw [World.size_alloc]; rfl) rfl (fun _ hk => hk.elim) (fun k hk => Nat.ne_of_gt (Nat.lt_of_lt_of_le HSz.out hk)) (Kd.R_alloc HO.out _) (below_alloc HB.out _) (Nat.le_of_lt HSz.out) (by have := HX.out; have := HL.out; omega) ?_; intro v1 w1 ho hb hg hat; have hne := (show some w.heap.size ≠ u4.ownBlock from fun e => HO.out.1 _ e.symm rfl); have HM3 := Aa (HM2.out.kept hg hne); have hbx := blk_grown HBx.out hg (fun e => by have := Kd.R_lt HO.out _ e.symm; omega); have ex0 := cell_at hbx 0 (.int .i64 x.f0) rfl; have HO1 := Aa ho; have HB1 := Aa hb; have HZ1 := Aa (Nat.lt_of_lt_of_le HSz.out hg.size); clear ho hb hg hat hne hbx)
      | (at_mapUpdate; refine wpList_mapIs_store (E := elI) _ rfl _ _ _ 163 rfl Try.underlying163 _ _ f HM3.out (by unfold maxLen; have := HL.out; omega) rfl x.f0 rfl HKx.out i (okI_of (by omega)) rfl ?_; intro w2 hm2 hg2))
     go_roundw
     case rel => exact ⟨i + 1, xs ++ [-1], upd f x.f0 i, by omega, by omega, rfl, ⟨by have := HX.out; simp; omega⟩, ⟨befOk_upd HF.out h0 _⟩, ⟨by have := HA.out; rw [List.append_assoc]; exact this⟩, ⟨by rw [show (i + 1).toNat = i.toNat + 1 by omega]; exact hm2⟩, ⟨Kd.R_grown HO1.out hg2 (fun k hk e => hk (by injection e))⟩, ⟨HB1.out.grown hg2 (Nat.le_of_lt HZ1.out) (fun k hk => by cases hk; exact Nat.le_refl _)⟩, ⟨Nat.lt_of_lt_of_le HZ1.out hg2.size⟩⟩
     case measure => simp [intOf]; omega
    | some q =>
     rw [hf] at hA
     have HA := Aa hA
     have HFx := Aa hf
     clear hA hf
     go_wp2_with (first
      | (at_lookup; refine wpList_mapIs_look _ rfl _ _ 163 true rfl Try.underlying163 _ _ f HM2.out rfl x.f0 rfl HKx.out (.tuple #[.int .i64 q, .bool true]) (by rw [HFx.out]; rfl) ?_)
      | (at_builtin; refine Kd.R_append (Kd.int .i64) (w0 := w) w.heap.size rfl (.tmp 26) (.tmp 28) 40 3 (.int .i64 0) 8 rfl Try.underlying40 info3 rfl (by decide) (by decide) u4 xs q [.int .i64 q] (fun k => k ≠ w.heap.size) (fun _ => False) rfl (by rw [World.size_alloc]; rfl) rfl (fun _ hk => hk.elim) (fun k hk => Nat.ne_of_gt (Nat.lt_of_lt_of_le HSz.out hk)) (Kd.R_alloc HO.out _) (below_alloc HB.out _) (Nat.le_of_lt HSz.out) (by have := HX.out; have := HL.out; omega) ?_; intro v1 w1 ho hb hg hat; have hne := (show some w.heap.size ≠ u4.ownBlock from fun e => HO.out.1 _ e.symm rfl); have HM3 := Aa (HM2.out.kept hg hne); have hbx := blk_grown HBx.out hg (fun e => by have := Kd.R_lt HO.out _ e.symm; omega); have ex0 := cell_at hbx 0 (.int .i64 x.f0) rfl; have HO1 := Aa ho; have HB1 := Aa hb; have HZ1 := Aa (Nat.lt_of_lt_of_le HSz.out hg.size); clear ho hb hg hat hne hbx)
      | (at_mapUpdate; refine wpList_mapIs_store (E := elI) _ rfl _ _ _ 163 rfl Try.underlying163 _ _ f HM3.out (by unfold maxLen; have := HL.out; omega) rfl x.f0 rfl HKx.out i (okI_of (by omega)) rfl ?_; intro w2 hm2 hg2))
     go_roundw
     case rel => exact ⟨i + 1, xs ++ [q], upd f x.f0 i, by omega, by omega, rfl, ⟨by have := HX.out; simp; omega⟩, ⟨befOk_upd HF.out h0 _⟩, ⟨by have := HA.out; rw [List.append_assoc]; exact this⟩, ⟨by rw [show (i + 1).toNat = i.toNat + 1 by omega]; exact hm2⟩, ⟨Kd.R_grown HO1.out hg2 (fun k hk e => hk (by injection e))⟩, ⟨HB1.out.grown hg2 (Nat.le_of_lt HZ1.out) (fun k hk => by cases hk; exact Nat.le_refl _)⟩, ⟨Nat.lt_of_lt_of_le HZ1.out hg2.size⟩⟩
     case measure => simp [intOf]; omega
   ·have hA := HA.out
    rw [List.drop_of_length_le (by omega)] at hA
    have HA2 := Aa (show xs = r by rw [← hA]; simp [befGo])
    clear hA HA
    go_wp2
    go_ret
    exact ⟨_, rfl, by rw [← HA2.out]; exact Kd.R_mono HO.out (fun _ _ => trivial), HB.out⟩
 ·rw [if_neg hc] at h; cases h
end Go.Proofs.Ytbffhblebigcfaa.Sk

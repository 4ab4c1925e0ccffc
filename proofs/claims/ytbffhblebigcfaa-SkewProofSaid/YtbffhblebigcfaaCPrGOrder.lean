/- The walks of what Order calls: IndexFunc, ContainsFunc, over its closures. -/
import Derived.Test.YtbffhblebigcfaaCPrGTight
namespace Go.Proofs.Ytbffhblebigcfaa.Sk
open Go.RowKit Go.Proofs.YtbffhblebigcfaaW.PrintWords Go.Proofs.YtbffhblebigcfaaW.PrintLast Go.Proofs.YtbffhblebigcfaaW.PrintMore
set_option linter.unusedVariables false
set_option linter.unusedSimpArgs false
def idxGo (p : Int → Bool) : List Int → Int → Int
 | x :: l, i => if p x = true then i else idxGo p l (i + 1)
 | [], _ => -1
theorem drop_rdi (l : List Int) (i : Nat) (h1 : i < l.length) : l.drop i = rd l (i : Int) :: l.drop (i + 1) := by
 have er : rd l (i : Int) = l[i] := by simp [rd, List.getD_eq_getElem?_getD, h1]
 rw [List.drop_eq_getElem_cons h1, er]
theorem rdi_mem (l : List Int) (i : Nat) (h1 : i < l.length) : rd l (i : Int) ∈ l := by
 have er : rd l (i : Int) = l[i] := by simp [rd, List.getD_eq_getElem?_getD, h1]
 rw [er]; exact List.getElem_mem h1
set_option maxHeartbeats 2000000 in
set_option maxRecDepth 100000 in
theorem idx114_116 (caps : Array Value) (A0 : Option Addr) (c0 : Nat) (l : List Int) (p : Int → Bool) (w : World) (hr0 : Kd.C (Kd.int .i64) w A0 l.length l) (hl : l.length ≤ 1000) (Inv : World → Prop) (hI : Inv w)
  (hp : ∀ (x : Int) (W : World), x ∈ l → Inv W → Below w.heap.size w W → Calls Try.prog 116 (#[.int .i64 x] ++ caps) W fun e W' => e = .returned (.bool (p x)) ∧ Inv W' ∧ Below W.heap.size W W') :
  Calls Try.prog 114 #[.slice A0 l.length c0, .func (.func 116) #[] caps] w fun e w' => e = .returned (.int .i64 (idxGo p l 0)) ∧ Inv w' ∧ Below w.heap.size w w' := by
 have HR0 := Aa hr0
 have HP := Aa hp
 have HI := Aa hI
 have HL := Aa hl
 clear hr0 hp hI hl
 go_enter Try.func114, Try.ntmps114
 go_wp2
 go_loopw [8] (fun v W => ∃ i : Nat, i ≤ l.length ∧ v = .int .i64 (i : Int) ∧ Aside0 (idxGo p (l.drop i) i = idxGo p l 0) ∧ Aside0 (Inv W) ∧ Aside0 (Below w.heap.size w W)) (fun v _ => l.length - (intOf v).toNat)
 case atStart => exact ⟨0, by omega, rfl, ⟨rfl⟩, HI, ⟨Below.refl _ _⟩⟩
 case round =>
  clear HI
  obtain ⟨i, hi, rfl, HA, HI, HB⟩ := hrel
  by_cases hlt : (i : Int) < l.length
  ·have hB : Below w.heap.size w wr := HB.out
   have hlen := HL.out
   have hi1000 : (i : Int) < 1000 := by omega
   obtain ⟨ad, e1, hx0⟩ := Kd.at_int (Kd.C_below HR0.out hB) (i : Int) (by omega) hlt
   cases e1
   rw [Int.toNat_natCast] at hx0
   have hA := HA.out
   rw [drop_rdi l i (by omega)] at hA
   simp only [idxGo] at hA
   obtain ⟨x, hx⟩ : ∃ x, rd l (i : Int) = x := ⟨_, rfl⟩
   have hc := HP.out (rd l (i : Int)) wr (rdi_mem l i (by omega)) HI.out hB
   rw [hx] at hx0 hA hc
   have HBr := Aa hB
   clear HA hx HB hB HI hlen
   cases hpx : p x with
   | true =>
    rw [hpx] at hA hc
    rw [if_pos rfl] at hA
    have HA := Aa hA
    have HC := Aa hc
    clear hA hc hpx
    go_wp2_with (go_at_call 116; refine HC.out.mono ?_; rintro e w' ⟨rfl, hi, hb⟩; have HI2 := Aa hi; have HB2 := Aa (below_step HBr.out hb); clear hi hb)
    go_ret
    exact ⟨by rw [← HA.out]; rfl, HI2.out, HB2.out⟩
   | false =>
    rw [hpx] at hA hc
    rw [if_neg (by simp)] at hA
    have HA := Aa hA
    have HC := Aa hc
    clear hA hc hpx
    go_wp2_with (go_at_call 116; refine HC.out.mono ?_; rintro e w' ⟨rfl, hi, hb⟩; have HI2 := Aa hi; have HB2 := Aa (below_step HBr.out hb); clear hi hb)
    go_roundw
    case rel => exact ⟨i + 1, by omega, by simp, ⟨by rw [← HA.out]; simp⟩, HI2, HB2⟩
    case measure => simp [intOf]; omega
  ·obtain rfl : i = l.length := by omega
   have hA := HA.out
   rw [List.drop_length] at hA
   simp only [idxGo] at hA
   have HA := Aa hA
   have HBr := Aa (show Below w.heap.size w wr from HB.out)
   have HIr := Aa (show Inv wr from HI.out)
   clear hA HB HI
   go_wp2
   go_ret
   exact ⟨by rw [← HA.out]; rfl, HIr.out, HBr.out⟩
set_option maxHeartbeats 2000000 in
set_option maxRecDepth 100000 in
theorem idx114_118 (caps : Array Value) (A0 : Option Addr) (c0 : Nat) (l : List Int) (p : Int → Bool) (w : World) (hr0 : Kd.C (Kd.int .i64) w A0 l.length l) (hl : l.length ≤ 1000) (Inv : World → Prop) (hI : Inv w)
  (hp : ∀ (x : Int) (W : World), x ∈ l → Inv W → Below w.heap.size w W → Calls Try.prog 118 (#[.int .i64 x] ++ caps) W fun e W' => e = .returned (.bool (p x)) ∧ Inv W' ∧ Below W.heap.size W W') :
  Calls Try.prog 114 #[.slice A0 l.length c0, .func (.func 118) #[] caps] w fun e w' => e = .returned (.int .i64 (idxGo p l 0)) ∧ Inv w' ∧ Below w.heap.size w w' := by
 have HR0 := Aa hr0
 have HP := Aa hp
 have HI := Aa hI
 have HL := Aa hl
 clear hr0 hp hI hl
 go_enter Try.func114, Try.ntmps114
 go_wp2
 go_loopw [8] (fun v W => ∃ i : Nat, i ≤ l.length ∧ v = .int .i64 (i : Int) ∧ Aside0 (idxGo p (l.drop i) i = idxGo p l 0) ∧ Aside0 (Inv W) ∧ Aside0 (Below w.heap.size w W)) (fun v _ => l.length - (intOf v).toNat)
 case atStart => exact ⟨0, by omega, rfl, ⟨rfl⟩, HI, ⟨Below.refl _ _⟩⟩
 case round =>
  clear HI
  obtain ⟨i, hi, rfl, HA, HI, HB⟩ := hrel
  by_cases hlt : (i : Int) < l.length
  ·have hB : Below w.heap.size w wr := HB.out
   have hlen := HL.out
   have hi1000 : (i : Int) < 1000 := by omega
   obtain ⟨ad, e1, hx0⟩ := Kd.at_int (Kd.C_below HR0.out hB) (i : Int) (by omega) hlt
   cases e1
   rw [Int.toNat_natCast] at hx0
   have hA := HA.out
   rw [drop_rdi l i (by omega)] at hA
   simp only [idxGo] at hA
   obtain ⟨x, hx⟩ : ∃ x, rd l (i : Int) = x := ⟨_, rfl⟩
   have hc := HP.out (rd l (i : Int)) wr (rdi_mem l i (by omega)) HI.out hB
   rw [hx] at hx0 hA hc
   have HBr := Aa hB
   clear HA hx HB hB HI hlen
   cases hpx : p x with
   | true =>
    rw [hpx] at hA hc
    rw [if_pos rfl] at hA
    have HA := Aa hA
    have HC := Aa hc
    clear hA hc hpx
    go_wp2_with (go_at_call 118; refine HC.out.mono ?_; rintro e w' ⟨rfl, hi, hb⟩; have HI2 := Aa hi; have HB2 := Aa (below_step HBr.out hb); clear hi hb)
    go_ret
    exact ⟨by rw [← HA.out]; rfl, HI2.out, HB2.out⟩
   | false =>
    rw [hpx] at hA hc
    rw [if_neg (by simp)] at hA
    have HA := Aa hA
    have HC := Aa hc
    clear hA hc hpx
    go_wp2_with (go_at_call 118; refine HC.out.mono ?_; rintro e w' ⟨rfl, hi, hb⟩; have HI2 := Aa hi; have HB2 := Aa (below_step HBr.out hb); clear hi hb)
    go_roundw
    case rel => exact ⟨i + 1, by omega, by simp, ⟨by rw [← HA.out]; simp⟩, HI2, HB2⟩
    case measure => simp [intOf]; omega
  ·obtain rfl : i = l.length := by omega
   have hA := HA.out
   rw [List.drop_length] at hA
   simp only [idxGo] at hA
   have HA := Aa hA
   have HBr := Aa (show Below w.heap.size w wr from HB.out)
   have HIr := Aa (show Inv wr from HI.out)
   clear hA HB HI
   go_wp2
   go_ret
   exact ⟨by rw [← HA.out]; rfl, HIr.out, HBr.out⟩
theorem cl118_calls (b bb yb : Nat) (e g : Value) (B : Int → Int → Int) (x y : Int) (w : World) (h : Bd w b e g B) (hbb : w.heap[bb]? = some (.cells #[.pointer (some ⟨b, 0, none⟩)] 104 (0, 0))) (hyb : w.heap[yb]? = some (.cells #[.int .i64 y] 3 (0, 0))) (x0 : 0 ≤ x) (x1 : x < 11) (y0 : 0 ≤ y) (y1 : y < 11) :
  Calls Try.prog 118 #[.int .i64 x, .pointer (some ⟨bb, 0, none⟩), .pointer (some ⟨yb, 0, none⟩)] w fun ee w' => ee = .returned (.bool (decide (B y x < 0))) ∧ w' = w := by
 have c1 := cell_at hbb 0 (.pointer (some ⟨b, 0, none⟩)) rfl
 have c2 := cell_at hyb 0 (.int .i64 y) rfl
 have HS := Aa (sure_calls b e g B x y w h x0 x1 y0 y1)
 go_enter Try.func118, Try.ntmps118
 go_wp2_with (go_at_call 115; refine HS.out.mono ?_; rintro ee w' ⟨rfl, rfl⟩)
 go_ret
 exact ⟨rfl, rfl⟩
def hasBefore (B : Int → Int → Int) (l : List Int) (y : Int) : Bool := decide (idxGo (fun x => decide (B y x < 0)) l 0 ≥ 0)
theorem cont117_calls (A0 : Option Addr) (c0 : Nat) (l : List Int) (b bb yb : Nat) (e g : Value) (B : Int → Int → Int) (y : Int) (w : World) (hr0 : Kd.C (Kd.int .i64) w A0 l.length l) (hl : l.length ≤ 1000) (hr : ∀ x ∈ l, 0 ≤ x ∧ x < 11) (h : Bd w b e g B)
  (hbb : w.heap[bb]? = some (.cells #[.pointer (some ⟨b, 0, none⟩)] 104 (0, 0))) (hyb : w.heap[yb]? = some (.cells #[.int .i64 y] 3 (0, 0))) (y0 : 0 ≤ y) (y1 : y < 11) :
  Calls Try.prog 117 #[.slice A0 l.length c0, .func (.func 118) #[] #[.pointer (some ⟨bb, 0, none⟩), .pointer (some ⟨yb, 0, none⟩)]] w fun ee w' => ee = .returned (.bool (hasBefore B l y)) ∧ Below w.heap.size w w' := by
 have HC := Aa (idx114_118 #[.pointer (some ⟨bb, 0, none⟩), .pointer (some ⟨yb, 0, none⟩)] A0 c0 l (fun x => decide (B y x < 0)) w hr0 hl (fun _ => True) trivial (fun x W hx _ hB => (cl118_calls b bb yb e g B x y W (h.below hB) (blk_below hbb hB) (blk_below hyb hB) (hr x hx).1 (hr x hx).2 y0 y1).mono fun ee w' ⟨h1, h2⟩ => ⟨h1, trivial, by rw [h2]; exact Below.refl _ _⟩))
 clear hr0 hr
 go_enter Try.func117, Try.ntmps117
 go_wp2_with (go_at_call 114; refine HC.out.mono ?_; rintro ee w' ⟨rfl, _, hb⟩; have HB := Aa hb; clear hb)
 go_ret
 exact ⟨rfl, HB.out⟩
set_option maxHeartbeats 2000000 in
set_option maxRecDepth 100000 in
theorem cl116_calls (A0 : Option Addr) (c0 : Nat) (l : List Int) (b bb lb : Nat) (e g : Value) (B : Int → Int → Int) (y : Int) (w : World) (hr0 : Kd.C (Kd.int .i64) w A0 l.length l) (hl : l.length ≤ 1000) (hr : ∀ x ∈ l, 0 ≤ x ∧ x < 11) (h : Bd w b e g B)
  (hbb : w.heap[bb]? = some (.cells #[.pointer (some ⟨b, 0, none⟩)] 104 (0, 0))) (hlb : w.heap[lb]? = some (.cells #[.slice A0 l.length c0] 40 (0, 0))) (y0 : 0 ≤ y) (y1 : y < 11) :
  Calls Try.prog 116 #[.int .i64 y, .pointer (some ⟨lb, 0, none⟩), .pointer (some ⟨bb, 0, none⟩)] w fun ee w' => ee = .returned (.bool (!hasBefore B l y)) ∧ Below w.heap.size w w' := by
 have hb0 := below_alloc (Below.refl w.heap.size w) (.cells #[.int .i64 y] 3)
 have HC := Aa (cont117_calls A0 c0 l b bb w.heap.size e g B y (w.alloc (.cells #[.int .i64 y] 3)) (Kd.C_below hr0 hb0) hl hr (h.below hb0) (blk_below hbb hb0) (blk_new w _) y0 y1)
 have HB0 := Aa hb0
 have x0 := cell_at (blk_below hlb hb0) 0 (.slice A0 l.length c0) rfl
 clear hr0 hr h hbb hlb hb0
 go_enter Try.func116, Try.ntmps116
 go_wp2_with (go_at_call 117; refine HC.out.mono ?_; rintro ee w' ⟨rfl, hb⟩; have HB := Aa (below_step HB0.out hb); clear hb)
 go_ret
 exact ⟨rfl, HB.out⟩
end Go.Proofs.Ytbffhblebigcfaa.Sk

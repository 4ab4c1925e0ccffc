/- slices.Delete of numbers, off the shelf. -/
import Derived.Maps.OwnSet
import Derived.Maps.RangeWalk
import Derived.StillTailTactics
import Derived.OpenShut
import Derived.Shelf.Slices.Delete
import Derived.Test.YtobcecgcegoooaaGreatCSuV0
import Derived.Test.YtobcecgcegoooaaGreatCSuS1
import Derived.Test.YtobcecgcegoooaaGreatCSuV2
import Derived.Test.YtobcecgcegoooaaGreatCSuV1
namespace Go.Proofs.YtobcecgcegoooaaGreat.Sk
open Go.RowKit Go.Proofs.YtobcecgcegoooaaGreatW.PrintWords Go.Proofs.YtobcecgcegoooaaGreatW.PrintLast Go.Proofs.YtobcecgcegoooaaGreatW.PrintMore
open Go.Maps
set_option linter.unusedVariables false
set_option linter.unusedSimpArgs false
theorem law3 : Keyed Tryz.prog 3 := int_keyed Tryz.underlying3
def okI (m : Int) : Prop := (Lit.int .i64 m).wf = true
theorem okI_of {m : Int} (h : -9223372036854775808 ≤ m ∧ m ≤ 9223372036854775807) : okI m := WalkArith.wf_i64 h
theorem okI_key {m : Int} (h : okI m) : keyOf Tryz.prog 3 (.int .i64 m) = some (.int .i64 m) := keyOf_int_mk Tryz.underlying3 h
structure El (α : Type) (e : TypeId) where
 enc : α → Value
 dat : α → DataW Unit
 ok : α → Prop
 put : ∀ x, ok x → plainElem Tryz.prog e (enc x) = some (dat x, [])
 inv : ∀ v x ps, plainElem Tryz.prog e v = some (dat x, ps) → v = enc x
 z : α
 okz : ok z
 zero : ∀ w : World, (zeroValue e).run Tryz.prog w = .ok (enc z) w
theorem lit_int {q : IntKind} {x c : Int} (h : (DataW.lit (.int q x) : DataW Unit) = .lit (.int q c)) : x = c := by
 simp only [DataW.lit.injEq, Lit.int.injEq, true_and] at h; exact h
theorem lit_bool {x c : Bool} (h : (DataW.lit (.bool x) : DataW Unit) = .lit (.bool c)) : x = c := by
 simp only [DataW.lit.injEq, Lit.bool.injEq] at h; exact h
def elI : El Int 3 where
 enc := fun x => .int .i64 x
 dat := fun x => .lit (.int .i64 x)
 ok := okI
 put := fun x h => plainElem_int Tryz.underlying3 h
 inv := fun v x ps h => by
  obtain ⟨c, rfl, h1, _⟩ := plainElem_int_inv Tryz.underlying3 h; rw [lit_int (congrArg Prod.fst h1)]
 z := 0
 okz := okI_of (by omega)
 zero := fun w => by kernel_rfl
def elS : El Int 125 where
 enc := fun x => .int .u64 x
 dat := fun x => .lit (.int .u64 x)
 ok := fun x => (Lit.int .u64 x).wf = true
 put := fun x h => plainElem_int Tryz.underlying125 h
 inv := fun v x ps h => by
  obtain ⟨c, rfl, h1, _⟩ := plainElem_int_inv Tryz.underlying125 h; rw [lit_int (congrArg Prod.fst h1)]
 z := 0
 okz := by decide
 zero := fun w => by kernel_rfl
theorem plainElem_bool_inv {v : Value} {z : DataW Unit × List MemPlace} (h : plainElem Tryz.prog 4 v = some z) : ∃ b, v = .bool b ∧ z = (.lit (.bool b), []) := by
 unfold plainElem at h; simp only [Tryz.underlying4] at h
 split at h <;> simp_all
def elB : El Bool 4 where
 enc := fun x => .bool x
 dat := fun x => .lit (.bool x)
 ok := fun _ => True
 put := fun x _ => plainElem_bool Tryz.underlying4 x
 inv := fun v x ps h => by
  obtain ⟨c, rfl, h1⟩ := plainElem_bool_inv h; rw [lit_bool (congrArg Prod.fst h1)]
 z := false
 okz := trivial
 zero := fun w => by kernel_rfl
section
variable {α : Type} {e : TypeId} {E : El α e} {w w' : World} {b n : Nat} {f : Int → Option α}
def MapIs (E : El α e) (w : World) (b n : Nat) (f : Int → Option α) : Prop :=
 ∃ D : DataW Unit, w.ownsMap Tryz.prog 3 (plainElem Tryz.prog e) b n D ∧ ∀ m, okI m → (f m = none → Maps.has D (.int .i64 m) = false) ∧ ∀ x, f m = some x → E.ok x ∧ Maps.has D (.int .i64 m) = true ∧ ∀ z, D.atKey (.int .i64 m) z = E.dat x
theorem MapIs.made (w : World) : MapIs E (w.alloc (.map #[] 0)) w.heap.size 0 (fun _ => none) :=
 ⟨.map [], World.ownsMap_made _ _ _ _, fun m _ => ⟨fun _ => rfl, fun x h => by cases h⟩⟩
theorem MapIs.lt (h : MapIs E w b n f) : b < w.heap.size := by obtain ⟨D, ho, _⟩ := h; exact ho.lt
theorem MapIs.kept {row : Option Nat} (h : MapIs E w b n f) (hg : w.grownBy w' row) (hne : some b ≠ row) : MapIs E w' b n f := by
 obtain ⟨D, ho, hf⟩ := h; exact ⟨D, ho.kept hg hne, hf⟩
theorem MapIs.below (h : MapIs E w b n f) (hb : Below w.heap.size w w') : MapIs E w' b n f := h.kept (grown_of_below hb none) (by simp)
theorem MapIs.alloc (h : MapIs E w b n f) (o : Obj) : MapIs E (w.alloc o) b n f := h.below (Ba (Below.refl _ _) _)
theorem MapIs.drew (h : MapIs E w b n f) : MapIs E w.drew b n f := h
theorem MapIs.setCell (h : MapIs E w b n f) {a : Addr} (ha : b ≠ a.block) (u : Value) : MapIs E (w.setCell a u) b n f := by
 obtain ⟨D, ho, hf⟩ := h; exact ⟨D, ho.setCell ha u, hf⟩
theorem MapIs.look_run {t : TypeId} (h : MapIs E w b n f) (ht : Tryz.prog.underlying t = some (.map 3 e)) {m : Int} (hm : okI m) (c : Bool) :
  (Instr.lookup t (.map (some b)) (.int .i64 m) c).run Tryz.prog w = .ok (if c then .tuple #[E.enc ((f m).getD E.z), .bool (f m).isSome] else E.enc ((f m).getD E.z)) w := by
 obtain ⟨D, ⟨es, clock, hb, F, _, rfl⟩, hf⟩ := h; obtain ⟨hn, hs⟩ := hf m hm
 rcases Maps.fit_look c law3 ht (E.zero w) hb F (okI_key hm) with ⟨hrun, _, hat⟩ | ⟨e0, y, _, _, hrun, hRv, hat, _⟩
 ·have hh := Maps.has_false_of_atKey hat
  cases hfm : f m with
  | none => rw [hrun]; rfl
  | some x => obtain ⟨_, h1, _⟩ := hs x hfm; rw [hh] at h1; cases h1
 ·have hh := Maps.has_true_of_atKey hat
  cases hfm : f m with
  | none => rw [hn hfm] at hh; cases hh
  | some x =>
   obtain ⟨_, _, h2⟩ := hs x hfm; have e1 := h2 (.lit (.int .i64 0)); rw [hat] at e1; have : e0.val = E.enc x := E.inv _ _ y.2 (by rw [hRv, ← e1]); rw [hrun, this]; rfl
def upd (f : Int → Option α) (m : Int) (x : α) : Int → Option α := fun k => if k = m then some x else f k
theorem MapIs.store_run {t : TypeId} (h : MapIs E w b n f) (ht : Tryz.prog.underlying t = some (.map 3 e)) (hn : n < maxLen) {m : Int} (hm : okI m) {x : α} (hx : E.ok x) :
  ∃ w', (Instr.mapUpdate t (.map (some b)) (.int .i64 m) (E.enc x)).run Tryz.prog w = .ok () w' ∧ MapIs E w' b (n + 1) (upd f m x) ∧ w.grownBy w' (some b) := by
 obtain ⟨D, ho, hf⟩ := h; have hM := ho.isMap; have hk : WideAt.IsKeyLit (.int .i64 m) := law3.key (okI_key hm); obtain ⟨w', hrun, ho', ht'⟩ := ho.store law3 ht hn (okI_key hm) (E.put x hx); refine ⟨w', hrun, ⟨_, ho', fun k hk' => ?_⟩, ht'.grown⟩
 by_cases hkm : k = m
 ·subst hkm; refine ⟨fun h0 => by simp [upd] at h0, fun y hy => ?_⟩
  have : y = x := by simpa [upd] using hy.symm
  subst this; exact ⟨hx, Maps.has_put_same hM hk _, fun z => Maps.atKey_put_same hM hk _ z⟩
 ·have hne : (Lit.int .i64 k) ≠ .int .i64 m := fun h0 => hkm (by injection h0)
  have e1 : upd f m x k = f k := by simp [upd, hkm]
  rw [e1]; obtain ⟨h1, h2⟩ := hf k hk'; exact ⟨fun h0 => by rw [Maps.has_put_other hne]; exact h1 h0, fun y hy => ⟨(h2 y hy).1, by rw [Maps.has_put_other hne]; exact (h2 y hy).2.1, fun z => by rw [Maps.atKey_put_other hne]; exact (h2 y hy).2.2 z⟩⟩
theorem MapIs.mono (h : MapIs E w b n f) {n' : Nat} (hn : n ≤ n') : MapIs E w b n' f := by
 obtain ⟨D, ho, hf⟩ := h; exact ⟨D, ho.mono hn, hf⟩
end
section
variable {α : Type} {e : TypeId} {E : El α e} {b n : Nat} {f : Int → Option α} (w : World) {ops : Array Oper} {rest : List Oper} {o : Oper} {a : Act} {Q : Exit → Act → World → Prop}
theorem wpList_mapIs_look (hg : o.guard = none) (m x : Operand) (t : TypeId) (c : Bool) (hop : o.op = Op.lookup t m x c) (ht : Tryz.prog.underlying t = some (.map 3 e)) (b n : Nat) (f : Int → Option α) (h : MapIs E w b n f)
  (hm : a.eval m = .map (some b)) (k : Int) (hx : a.eval x = .int .i64 k) (hk : okI k) (r : Value) (hr : (if c then .tuple #[E.enc ((f k).getD E.z), .bool (f k).isSome] else E.enc ((f k).getD E.z)) = r)
  (hK : wpList Tryz.prog ops Q rest (a.put o.dst r) w) : wpList Tryz.prog ops Q (o :: rest) a w := by
 refine wpList_plain hg fun K' hK' => ?_
 have hrun := h.look_run ht hk c; rw [hr] at hrun; unfold Oper.wp
 simp [execOp, hop, hm, hx, hrun, Result.andThen]
 exact hK' _ _ hK
theorem wpList_mapIs_store (hg : o.guard = none) (m x v : Operand) (t : TypeId) (hop : o.op = Op.mapUpdate t m x v) (ht : Tryz.prog.underlying t = some (.map 3 e)) (b n : Nat) (f : Int → Option α) (h : MapIs E w b n f) (hn : n < maxLen)
  (hm : a.eval m = .map (some b)) (k : Int) (hx : a.eval x = .int .i64 k) (hk : okI k) (y : α) (hy : E.ok y) (hv : a.eval v = E.enc y)
  (hK : ∀ w', MapIs E w' b (n + 1) (upd f k y) → w.grownBy w' (some b) → wpList Tryz.prog ops Q rest (a.put o.dst undef) w') : wpList Tryz.prog ops Q (o :: rest) a w := by
 refine wpList_plain hg fun K' hK' => ?_
 obtain ⟨w', hrun, h1, h2⟩ := h.store_run ht hn hk hy; unfold Oper.wp
 simp [execOp, hop, hm, hx, hv, hrun, Result.andThen]
 exact hK' _ _ (hK w' h1 h2)
end
end Go.Proofs.YtobcecgcegoooaaGreat.Sk
namespace Go.Proofs.YtobcecgcegoooaaGreat.Sk
open Go.RowKit Go.Proofs.YtobcecgcegoooaaGreatW.PrintWords Go.Proofs.YtobcecgcegoooaaGreatW.PrintLast Go.Proofs.YtobcecgcegoooaaGreatW.PrintMore
set_option linter.unusedVariables false
set_option linter.unusedSimpArgs false
def befGo : List S121 → (Int → Option Int) → Int → List Int
 | [], _, _ => []
 | d :: l, f, i => (f d.f0).getD (-1) :: befGo l (upd f d.f0 i) (i + 1)
def skew_befores.f (l0 : List S121) : Option (List Int) := if (∀ d ∈ l0, -9223372036854775808 ≤ d.f0 ∧ d.f0 ≤ 9223372036854775807) ∧ l0.length < 1000000000 then some (befGo l0 (fun _ => none) 0) else none
theorem drop_rd71 (l : List S121) (i : Int) (h0 : 0 ≤ i) (h1 : i < l.length) : l.drop i.toNat = rd_T121 l i :: l.drop (i + 1).toNat := by
 have hl : i.toNat < l.length := by omega
 have e : (i + 1).toNat = i.toNat + 1 := by omega
 have er : rd_T121 l i = l[i.toNat] := by simp [rd_T121, List.getD_eq_getElem?_getD, hl]
 rw [List.drop_eq_getElem_cons hl, e, er]
theorem rd71_mem (l : List S121) (i : Int) (h0 : 0 ≤ i) (h1 : i < l.length) : rd_T121 l i ∈ l := by
 have hl : i.toNat < l.length := by omega
 have er : rd_T121 l i = l[i.toNat] := by simp [rd_T121, List.getD_eq_getElem?_getD, hl]
 rw [er]; exact List.getElem_mem hl
def befOk (f : Int → Option Int) (i : Int) : Prop := ∀ m x, f m = some x → 0 ≤ x ∧ x < i
theorem befOk_upd {f : Int → Option Int} {i : Int} (h : befOk f i) (h0 : 0 ≤ i) (m : Int) : befOk (upd f m i) (i + 1) := by
 intro k x hk; unfold upd at hk
 split at hk
 ·cases hk; omega
 ·have := h k x hk; omega
set_option maxHeartbeats 4000000 in
set_option maxRecDepth 100000 in
theorem skew_befores.calls (A0 : Option Addr) (c0 : Nat) (l0 : List S121) (r : List Int) (w : World) (hr0 : Kd.C k121 w A0 l0.length l0) (hc0 : l0.length ≤ c0) (h : skew_befores.f l0 = some r) :
  Calls Tryz.prog 86 #[.slice A0 l0.length c0] w fun e w' => ∃ v0_ : Value, e = .returned v0_ ∧ Kd.R (Kd.int .i64) 3 w' w.heap.size (fun _ => True) v0_ r ∧ Below w.heap.size w w' := by
 have hu71 := Tryz.underlying121; have hmm := @run_makeMap Tryz.prog; unfold skew_befores.f at h
 by_cases hc : (∀ d ∈ l0, -9223372036854775808 ≤ d.f0 ∧ d.f0 ≤ 9223372036854775807) ∧ l0.length < 1000000000
 ·rw [if_pos hc] at h; obtain ⟨hk, hl⟩ := hc; have H := Aa (Option.some.inj h); have HR0 := Aa hr0; have HKs := Aa hk; have HL := Aa hl
  have hm : l0.length ≤ 9223372036854775807 := by omega
  clear h hk hr0 hl
  go_enter Tryz.func86, Tryz.ntmps86
  go_wp2
  go_loopw [4, 12] (fun v4 v12 W => ∃ (i : Int) (xs : List Int) (f : Int → Option Int), 0 ≤ i ∧ i ≤ l0.length ∧ v12 = .int .i64 i ∧ Aside0 ((xs.length : Int) = i) ∧ Aside0 (befOk f i) ∧ Aside0 (xs ++ befGo (l0.drop i.toNat) f i = r) ∧ Aside0 (MapIs elI W w.heap.size i.toNat f) ∧ Aside0 (Kd.R (Kd.int .i64) 3 W w.heap.size (fun k => k ≠ w.heap.size) v4 xs) ∧ Aside0 (Below w.heap.size w W) ∧ Aside0 (w.heap.size < W.heap.size)) (fun _ v _ => l0.length - (intOf v).toNat)
  case atStart => exact ⟨0, [], fun _ => none, by omega, by omega, rfl, ⟨rfl⟩, ⟨fun _ _ h => by cases h⟩, ⟨H.out⟩, ⟨MapIs.made w⟩, ⟨Kd.R_nil _ _ _ _ _⟩, ⟨Ba (Below.refl _ _) _⟩, ⟨by simp⟩⟩
  case round =>
   obtain ⟨i, xs, f, h0, hk, rfl, HX, HF, HA, HM, HO, HB, HW⟩ := hrel
   by_cases hlt : i < l0.length
   ·obtain ⟨ad, e217, hx0, hx1, hx2⟩ := at_T121 (Kd.C_below HR0.out HB.out) i h0 hlt; cases e217; have hA := HA.out; rw [drop_rd71 l0 i h0 hlt] at hA; have hkd := HKs.out _ (rd71_mem l0 i h0 hlt); clear HA
    obtain ⟨x, hx⟩ : ∃ x, rd_T121 l0 i = x := ⟨_, rfl⟩
    rw [hx] at hx0 hx1 hx2 hA hkd; clear hx; simp only [befGo] at hA; have HKx := Aa (okI_of hkd); clear hkd; have HM2 := Aa (HM.out.alloc (.cells #[.int .i64 x.f0, .int .i64 x.f1, .int .i64 x.f2] 121)); have HBx := Aa (blk_new wr (.cells #[.int .i64 x.f0, .int .i64 x.f1, .int .i64 x.f2] 121)); have HSz := Aa (show w.heap.size < (wr.alloc (.cells #[.int .i64 x.f0, .int .i64 x.f1, .int .i64 x.f2] 121)).heap.size by rw [World.size_alloc]; have := HW.out; omega)
    cases hf : f x.f0 with
    | none =>
     rw [hf] at hA; have HA := Aa hA; have HFx := Aa hf; clear hA hf
     go_wp2_with (first
      | (at_lookup; refine wpList_mapIs_look _ rfl _ _ 155 true rfl Tryz.underlying155 _ _ f HM2.out rfl x.f0 rfl HKx.out (.tuple #[.int .i64 0, .bool false]) (by rw [HFx.out]; rfl) ?_)
      | (at_builtin; refine Kd.R_append (Kd.int .i64) (w0 := w) w.heap.size rfl (.tmp 26) (.tmp 28) 26 3 (.int .i64 0) 8 rfl Tryz.underlying26 info3 rfl (by decide) (by decide) u4 xs (-1) [.int .i64 (-1)] (fun k => k ≠ w.heap.size) (fun _ => False) rfl (by rw [World.size_alloc]; rfl) rfl (fun _ hk => hk.elim) (fun k hk => Nat.ne_of_gt (Nat.lt_of_lt_of_le HSz.out hk)) (Kd.R_alloc HO.out _) (Ba HB.out _) (Nat.le_of_lt HSz.out) (by have := HX.out; have := HL.out; omega) ?_; intro v1 w1 ho hb hg hat; have hne := (show some w.heap.size ≠ u4.ownBlock from fun e => HO.out.1 _ e.symm rfl); have HM3 := Aa (HM2.out.kept hg hne); have hbx := blk_grown HBx.out hg (fun e => by have := Kd.R_lt HO.out _ e.symm; omega); have ex0 := cell_at hbx 0 (.int .i64 x.f0) rfl; have HO1 := Aa ho; have HB1 := Aa hb; have HZ1 := Aa (Nat.lt_of_lt_of_le HSz.out hg.size); clear ho hb hg hat hne hbx)
      | (at_mapUpdate; refine wpList_mapIs_store (E := elI) _ rfl _ _ _ 155 rfl Tryz.underlying155 _ _ f HM3.out (by unfold maxLen; have := HL.out; omega) rfl x.f0 rfl HKx.out i (okI_of (by omega)) rfl ?_; intro w2 hm2 hg2))
     go_roundw
     case rel => exact ⟨i + 1, xs ++ [-1], upd f x.f0 i, by omega, by omega, rfl, ⟨by have := HX.out; simp; omega⟩, ⟨befOk_upd HF.out h0 _⟩, ⟨by have := HA.out; rw [List.append_assoc]; exact this⟩, ⟨by rw [show (i + 1).toNat = i.toNat + 1 by omega]; exact hm2⟩, ⟨Kd.R_grown HO1.out hg2 (fun k hk e => hk (by injection e))⟩, ⟨HB1.out.grown hg2 (Nat.le_of_lt HZ1.out) (fun k hk => by cases hk; exact Nat.le_refl _)⟩, ⟨Nat.lt_of_lt_of_le HZ1.out hg2.size⟩⟩
     case measure => simp [intOf]; omega
    | some q =>
     rw [hf] at hA; have HA := Aa hA; have HFx := Aa hf; clear hA hf
     go_wp2_with (first
      | (at_lookup; refine wpList_mapIs_look _ rfl _ _ 155 true rfl Tryz.underlying155 _ _ f HM2.out rfl x.f0 rfl HKx.out (.tuple #[.int .i64 q, .bool true]) (by rw [HFx.out]; rfl) ?_)
      | (at_builtin; refine Kd.R_append (Kd.int .i64) (w0 := w) w.heap.size rfl (.tmp 26) (.tmp 28) 26 3 (.int .i64 0) 8 rfl Tryz.underlying26 info3 rfl (by decide) (by decide) u4 xs q [.int .i64 q] (fun k => k ≠ w.heap.size) (fun _ => False) rfl (by rw [World.size_alloc]; rfl) rfl (fun _ hk => hk.elim) (fun k hk => Nat.ne_of_gt (Nat.lt_of_lt_of_le HSz.out hk)) (Kd.R_alloc HO.out _) (Ba HB.out _) (Nat.le_of_lt HSz.out) (by have := HX.out; have := HL.out; omega) ?_; intro v1 w1 ho hb hg hat; have hne := (show some w.heap.size ≠ u4.ownBlock from fun e => HO.out.1 _ e.symm rfl); have HM3 := Aa (HM2.out.kept hg hne); have hbx := blk_grown HBx.out hg (fun e => by have := Kd.R_lt HO.out _ e.symm; omega); have ex0 := cell_at hbx 0 (.int .i64 x.f0) rfl; have HO1 := Aa ho; have HB1 := Aa hb; have HZ1 := Aa (Nat.lt_of_lt_of_le HSz.out hg.size); clear ho hb hg hat hne hbx)
      | (at_mapUpdate; refine wpList_mapIs_store (E := elI) _ rfl _ _ _ 155 rfl Tryz.underlying155 _ _ f HM3.out (by unfold maxLen; have := HL.out; omega) rfl x.f0 rfl HKx.out i (okI_of (by omega)) rfl ?_; intro w2 hm2 hg2))
     go_roundw
     case rel => exact ⟨i + 1, xs ++ [q], upd f x.f0 i, by omega, by omega, rfl, ⟨by have := HX.out; simp; omega⟩, ⟨befOk_upd HF.out h0 _⟩, ⟨by have := HA.out; rw [List.append_assoc]; exact this⟩, ⟨by rw [show (i + 1).toNat = i.toNat + 1 by omega]; exact hm2⟩, ⟨Kd.R_grown HO1.out hg2 (fun k hk e => hk (by injection e))⟩, ⟨HB1.out.grown hg2 (Nat.le_of_lt HZ1.out) (fun k hk => by cases hk; exact Nat.le_refl _)⟩, ⟨Nat.lt_of_lt_of_le HZ1.out hg2.size⟩⟩
     case measure => simp [intOf]; omega
   ·have hA := HA.out; rw [List.drop_of_length_le (by omega)] at hA; have HA2 := Aa (show xs = r by rw [← hA]; simp [befGo]); clear hA HA; go_wp2; go_ret; exact ⟨_, rfl, by rw [← HA2.out]; exact Kd.R_mono HO.out (fun _ _ => trivial), HB.out⟩
 ·rw [if_neg hc] at h; cases h
end Go.Proofs.YtobcecgcegoooaaGreat.Sk
namespace Go.Proofs.YtobcecgcegoooaaGreat.Sk
open Go.RowKit Go.Proofs.YtobcecgcegoooaaGreatW.PrintWords Go.Proofs.YtobcecgcegoooaaGreatW.PrintLast Go.Proofs.YtobcecgcegoooaaGreatW.PrintMore
set_option linter.unusedVariables false
set_option linter.unusedSimpArgs false
def ahVal (f : Int → Option Int) (i k : Int) : Int := bits .or .u64 ((f i).getD 0) (bits .or .u64 ((f k).getD 0) (IntKind.u64.wrap (2 ^ k.toNat)))
def ahStep (f : Int → Option Int) (i k : Int) : Int → Option Int := if 0 ≤ k then upd f i (ahVal f i k) else f
def aheadsGo : List Int → List S121 → Int → (Int → Option Int) → (Int → Option Int)
 | b :: bs, d :: l, i, f => aheadsGo bs l (i + 1) (ahStep (ahStep f i b) i d.f2)
 | _, _, _, f => f
def aheadsF (bs : List Int) (l : List S121) : Int → Option Int := aheadsGo bs l 0 (fun _ => none)
theorem ahVal_wf (f : Int → Option Int) (i k : Int) : (Lit.int .u64 (ahVal f i k)).wf = true := by
 unfold ahVal; exact wf_bits _ _ _ _
def ahK (f : Int → Option Int) (i b d j : Int) : Int → Option Int := if j = 0 then f else if j = 1 then ahStep f i b else ahStep (ahStep f i b) i d
theorem drop_rdI (l : List Int) (i : Int) (h0 : 0 ≤ i) (h1 : i < l.length) : l.drop i.toNat = rd l i :: l.drop (i + 1).toNat := by
 have hl : i.toNat < l.length := by omega
 have e : (i + 1).toNat = i.toNat + 1 := by omega
 have er : rd l i = l[i.toNat] := by simp [rd, List.getD_eq_getElem?_getD, hl]
 rw [List.drop_eq_getElem_cons hl, e, er]
theorem rdI_mem (l : List Int) (i : Int) (h0 : 0 ≤ i) (h1 : i < l.length) : rd l i ∈ l := by
 have hl : i.toNat < l.length := by omega
 have er : rd l i = l[i.toNat] := by simp [rd, List.getD_eq_getElem?_getD, hl]
 rw [er]; exact List.getElem_mem hl
set_option maxHeartbeats 4000000 in
set_option maxRecDepth 100000 in
theorem aheads_calls (A0 : Option Addr) (c0 : Nat) (l0 : List S121) (bs : List Int) (w : World) (hr0 : Kd.C k121 w A0 l0.length l0) (hc0 : l0.length ≤ c0) (hl : l0.length ≤ 40) (hb : skew_befores.f l0 = some bs)
  (hbl : bs.length = l0.length) (hbr : ∀ b ∈ bs, b < 40) (hlr : ∀ d ∈ l0, d.f2 < 40) :
  Calls Tryz.prog 68 #[.slice A0 l0.length c0] w fun e w' => e = .returned (.map (some w.heap.size)) ∧ MapIs elS w' w.heap.size 100 (aheadsF bs l0) ∧ Below w.heap.size w w' := by
 have hu71 := Tryz.underlying121; have hmm := @run_makeMap Tryz.prog; have HR0 := Aa hr0; have HC := Aa (skew_befores.calls A0 c0 l0 bs (w.alloc (.map #[] 0)) (Kd.C_alloc hr0 _) hc0 hb); have HBL := Aa hbl; have HBR := Aa hbr; have HLR := Aa hlr; have HM := Aa (MapIs.made (E := elS) w); clear hr0 hb hbl hbr hlr
 go_enter Tryz.func68, Tryz.ntmps68
 go_wp2_with (go_at_call 86; refine HC.out.mono ?_; rintro e w1 ⟨v, rfl, ho, hb⟩; obtain ⟨A, c, rfl, hcc, hC⟩ := Kd.R_reads ho; have HM1 := Aa (HM.out.below hb); have HB1 := Aa (Bp (Ba (Below.refl _ _) _) hb); have HCs := Aa (Kd.R_mono (ok' := fun k => k ≠ w.heap.size) (Kd.R_bound ho) (fun k hk => by have h1 := hk.2.1; rw [World.size_alloc] at h1; exact Nat.ne_of_gt h1)); clear HC HM ho hb hcc hC)
 go_loopw [12] (fun v12 W => ∃ (i : Int) (f : Int → Option Int), 0 ≤ i ∧ i ≤ bs.length ∧ v12 = .int .i64 i ∧ Aside0 (aheadsGo (bs.drop i.toNat) (l0.drop i.toNat) i f = aheadsF bs l0) ∧ Aside0 (MapIs elS W w.heap.size (2 * i).toNat f) ∧ Aside0 (Below w.heap.size w W) ∧ Aside0 (Kd.R (Kd.int .i64) 3 W (w.alloc (.map #[] 0)).heap.size (fun k => k ≠ w.heap.size) (.slice A bs.length c) bs)) (fun v _ => bs.length - (intOf v).toNat)
 case atStart => exact ⟨0, fun _ => none, by omega, by omega, rfl, ⟨rfl⟩, HM1, HB1, HCs⟩
 case round =>
  clear HM1 HB1 HCs; obtain ⟨i, f, h0, hk, rfl, HA, HM, HB, HCs⟩ := hrel
  by_cases hlt : i < bs.length
  ·have hlt2 : i < l0.length := by have := HBL.out; omega
   obtain ⟨ad, e1, hx0⟩ := Kd.at_int (Kd.R_reads' HCs.out).2.2 i h0 hlt; cases e1; obtain ⟨ad2, e217, hy0, hy1, hy2⟩ := at_T121 (Kd.C_below HR0.out HB.out) i h0 hlt2; cases e217; have hA := HA.out; rw [drop_rdI bs i h0 hlt, drop_rd71 l0 i h0 hlt2] at hA; have hbr := HBR.out _ (rdI_mem bs i h0 hlt); have hlr := HLR.out _ (rd71_mem l0 i h0 hlt2); clear HA
   obtain ⟨b, hb⟩ : ∃ b, rd bs i = b := ⟨_, rfl⟩
   obtain ⟨x, hx⟩ : ∃ x, rd_T121 l0 i = x := ⟨_, rfl⟩
   rw [hb] at hx0 hA hbr; rw [hx] at hy0 hy1 hy2 hA hlr; clear hb hx; obtain ⟨x0, x1, d⟩ := x; simp only at hy0 hy1 hy2 hlr; simp only [aheadsGo] at hA; have HA := Aa hA; clear hA; have HS := Aa (blk_new wr (.cells #[.int .i64 b, .int .i64 d] 3)); have HM2 := Aa (HM.out.alloc (.cells #[.int .i64 b, .int .i64 d] 3)); have HB2 := Aa (Ba HB.out (.cells #[.int .i64 b, .int .i64 d] 3)); have HC2 := Aa (Kd.R_alloc HCs.out (.cells #[.int .i64 b, .int .i64 d] 3)); have HZ := Aa HB.out.size; have HL := Aa HM.out.lt
   go_wp2_with fail
   obtain ⟨wo, rfl⟩ : ∃ wo : World, wo = wr := ⟨_, rfl⟩
   go_loopw [25, 7] (fun v25 _ W => ∃ (j : Int), 0 ≤ j ∧ j ≤ 2 ∧ v25 = .int .i64 j ∧ Aside0 (MapIs elS W w.heap.size (2 * i + j).toNat (ahK f i b d j)) ∧ Aside0 (W.heap[wo.heap.size]? = some (.cells #[.int .i64 b, .int .i64 d] 3)) ∧ Aside0 (Below w.heap.size w W) ∧ Aside0 (Kd.R (Kd.int .i64) 3 W (w.alloc (.map #[] 0)).heap.size (fun k => k ≠ w.heap.size) (.slice (some ad) bs.length c) bs) ∧ Aside0 (w.heap.size < wo.heap.size)) (fun v _ _ => 2 - (intOf v).toNat)
   case atStart => exact ⟨0, by omega, by omega, rfl, ⟨by rw [Int.add_zero]; exact HM2.out⟩, HS, HB2, HC2, ⟨HL.out⟩⟩
   case round =>
    clear HS HM2 HB2 HC2 HZ HL HM HB HCs; obtain ⟨j, j0, j2, rfl, HM3, HS3, HB3, HC3, HZ3⟩ := hrel
    obtain rfl | rfl | rfl : j = 0 ∨ j = 1 ∨ j = 2 := by omega
    ·
     have hfe : ahK f i b d 0 = f := rfl; rw [hfe] at HM3; have HSc := Aa (cell_at HS3.out 0 (.int .i64 b) rfl); have es := HSc.out; clear hfe HSc
     by_cases hge : 0 ≤ b
     ·have hst : ahK f i b d 1 = upd f i (ahVal f i b) := by simp [ahK, ahStep, hge]
      have HSt := Aa hst; clear hst
      go_wp2_with fail
      have hk1 : (Instr.lookup 122 (.map (some w.heap.size)) (.int .i64 i) false).run Tryz.prog wr.drew = .ok (.int .u64 ((f i).getD 0)) wr.drew := HM3.out.drew.look_run (t := 122) Tryz.underlying122 (m := i) (okI_of (by omega)) false; have hk2 : (Instr.lookup 122 (.map (some w.heap.size)) (.int .i64 b) false).run Tryz.prog wr.drew = .ok (.int .u64 ((f b).getD 0)) wr.drew := HM3.out.drew.look_run (t := 122) Tryz.underlying122 (m := b) (okI_of (by omega)) false
      go_still_tail 10, (by kernel_rfl)
      (show wpList _ _ _ _ _ wr.drew)
      refine wpList_mapIs_store (E := elS) _ rfl _ _ _ 122 rfl Tryz.underlying122 _ _ f HM3.out.drew (by unfold maxLen; omega) rfl i rfl (okI_of (by omega)) (ahVal f i b) (ahVal_wf _ _ _) rfl ?_; intro w2 hm2 hg2; clear hk1 hk2 es; go_wp2
      go_roundw
      case rel => exact ⟨1, by omega, by omega, rfl, ⟨by rw [HSt.out, show (2 * i + 1).toNat = (2 * i + 0).toNat + 1 by omega]; exact hm2⟩, ⟨blk_grown (Kw HS3.out) hg2 (fun e1 => by have := HZ3.out; injection e1 with e1; omega)⟩, ⟨HB3.out.drew.grown hg2 (Nat.le_of_lt HM3.out.lt) (fun k hk => by cases hk; exact Nat.le_refl _)⟩, ⟨Kd.R_grown (Kd.R_drew HC3.out) hg2 (fun k hk e1 => hk (by injection e1))⟩, ⟨HZ3.out⟩⟩
      case measure => simp [intOf]
     ·have hst : ahK f i b d 1 = f := by simp [ahK, ahStep, hge]
      have HSt := Aa hst; clear hst
      go_wp2_with fail
      go_roundw
      case rel => exact ⟨1, by omega, by omega, rfl, ⟨by rw [HSt.out]; exact HM3.out.mono (by omega)⟩, HS3, HB3, HC3, ⟨HZ3.out⟩⟩
      case measure => simp [intOf]
    ·
     have hfe : ahK f i b d 1 = (ahStep f i b) := rfl; rw [hfe] at HM3; have HSc := Aa (cell_at HS3.out 1 (.int .i64 d) rfl); have es := HSc.out; clear hfe HSc
     by_cases hge : 0 ≤ d
     ·have hst : ahK f i b d 2 = upd (ahStep f i b) i (ahVal (ahStep f i b) i d) := by simp [ahK, ahStep, hge]
      have HSt := Aa hst; clear hst
      go_wp2_with fail
      have hk1 : (Instr.lookup 122 (.map (some w.heap.size)) (.int .i64 i) false).run Tryz.prog wr.drew = .ok (.int .u64 (((ahStep f i b) i).getD 0)) wr.drew := HM3.out.drew.look_run (t := 122) Tryz.underlying122 (m := i) (okI_of (by omega)) false; have hk2 : (Instr.lookup 122 (.map (some w.heap.size)) (.int .i64 d) false).run Tryz.prog wr.drew = .ok (.int .u64 (((ahStep f i b) d).getD 0)) wr.drew := HM3.out.drew.look_run (t := 122) Tryz.underlying122 (m := d) (okI_of (by omega)) false
      go_still_tail 10, (by kernel_rfl)
      (show wpList _ _ _ _ _ wr.drew)
      refine wpList_mapIs_store (E := elS) _ rfl _ _ _ 122 rfl Tryz.underlying122 _ _ (ahStep f i b) HM3.out.drew (by unfold maxLen; omega) rfl i rfl (okI_of (by omega)) (ahVal (ahStep f i b) i d) (ahVal_wf _ _ _) rfl ?_; intro w2 hm2 hg2; clear hk1 hk2 es; go_wp2
      go_roundw
      case rel => exact ⟨2, by omega, by omega, rfl, ⟨by rw [HSt.out, show (2 * i + 2).toNat = (2 * i + 1).toNat + 1 by omega]; exact hm2⟩, ⟨blk_grown (Kw HS3.out) hg2 (fun e1 => by have := HZ3.out; injection e1 with e1; omega)⟩, ⟨HB3.out.drew.grown hg2 (Nat.le_of_lt HM3.out.lt) (fun k hk => by cases hk; exact Nat.le_refl _)⟩, ⟨Kd.R_grown (Kd.R_drew HC3.out) hg2 (fun k hk e1 => hk (by injection e1))⟩, ⟨HZ3.out⟩⟩
      case measure => simp [intOf]
     ·have hst : ahK f i b d 2 = (ahStep f i b) := by simp [ahK, ahStep, hge]
      have HSt := Aa hst; clear hst
      go_wp2_with fail
      go_roundw
      case rel => exact ⟨2, by omega, by omega, rfl, ⟨by rw [HSt.out]; exact HM3.out.mono (by omega)⟩, HS3, HB3, HC3, ⟨HZ3.out⟩⟩
      case measure => simp [intOf]
    ·go_wp2_with fail
     go_roundw
     case rel => exact ⟨i + 1, _, by omega, by omega, rfl, HA, ⟨by rw [show (2 * (i + 1)).toNat = (2 * i + 2).toNat by omega]; exact HM3.out⟩, HB3, HC3⟩
     case measure => simp [intOf]; omega
  ·have hA := HA.out; rw [List.drop_of_length_le (by omega), List.drop_of_length_le (l := l0) (by have := HBL.out; omega)] at hA; have HA2 := Aa (show f = aheadsF bs l0 from hA); clear hA HA; go_wp2; go_ret; exact ⟨rfl, by rw [← HA2.out]; exact HM.out.mono (by have := HBL.out; omega), HB.out⟩
end Go.Proofs.YtobcecgcegoooaaGreat.Sk
namespace Go.Proofs.YtobcecgcegoooaaGreat.Sk
open Go.RowKit Go.Proofs.YtobcecgcegoooaaGreatW.PrintWords Go.Proofs.YtobcecgcegoooaaGreatW.PrintLast Go.Proofs.YtobcecgcegoooaaGreatW.PrintMore
set_option linter.unusedVariables false
set_option linter.unusedSimpArgs false
def ocF (x : Int) : Int := (bits_OnesCount64.f x).getD 0
set_option maxHeartbeats 8000000 in
set_option maxRecDepth 100000 in
theorem oc87' (a0 : Int) (r : Int) (w : World) (h : bits_OnesCount64.f a0 = some r) :
  Calls Tryz.prog 70 #[.int .u64 a0] w fun e w' => e = .returned (.int .i64 r) ∧ w' = w := by
 have H : (some (Go.bits .and .i64 (wrap64 (IntKind.u64.wrap ((IntKind.u64.wrap ((IntKind.u64.wrap ((Go.bits .and .u64 (IntKind.u64.wrap (((IntKind.u64.wrap ((Go.bits .and .u64 ((IntKind.u64.wrap ((Go.bits .and .u64 (a0 / 2) 6148914691236517205) + (Go.bits .and .u64 a0 6148914691236517205))) / 4) 3689348814741910323) + (Go.bits .and .u64 (IntKind.u64.wrap ((Go.bits .and .u64 (a0 / 2) 6148914691236517205) + (Go.bits .and .u64 a0 6148914691236517205))) 3689348814741910323))) / 16) + (IntKind.u64.wrap ((Go.bits .and .u64 ((IntKind.u64.wrap ((Go.bits .and .u64 (a0 / 2) 6148914691236517205) + (Go.bits .and .u64 a0 6148914691236517205))) / 4) 3689348814741910323) + (Go.bits .and .u64 (IntKind.u64.wrap ((Go.bits .and .u64 (a0 / 2) 6148914691236517205) + (Go.bits .and .u64 a0 6148914691236517205))) 3689348814741910323))))) 1085102592571150095) + ((Go.bits .and .u64 (IntKind.u64.wrap (((IntKind.u64.wrap ((Go.bits .and .u64 ((IntKind.u64.wrap ((Go.bits .and .u64 (a0 / 2) 6148914691236517205) + (Go.bits .and .u64 a0 6148914691236517205))) / 4) 3689348814741910323) + (Go.bits .and .u64 (IntKind.u64.wrap ((Go.bits .and .u64 (a0 / 2) 6148914691236517205) + (Go.bits .and .u64 a0 6148914691236517205))) 3689348814741910323))) / 16) + (IntKind.u64.wrap ((Go.bits .and .u64 ((IntKind.u64.wrap ((Go.bits .and .u64 (a0 / 2) 6148914691236517205) + (Go.bits .and .u64 a0 6148914691236517205))) / 4) 3689348814741910323) + (Go.bits .and .u64 (IntKind.u64.wrap ((Go.bits .and .u64 (a0 / 2) 6148914691236517205) + (Go.bits .and .u64 a0 6148914691236517205))) 3689348814741910323))))) 1085102592571150095) / 256))) + ((IntKind.u64.wrap ((Go.bits .and .u64 (IntKind.u64.wrap (((IntKind.u64.wrap ((Go.bits .and .u64 ((IntKind.u64.wrap ((Go.bits .and .u64 (a0 / 2) 6148914691236517205) + (Go.bits .and .u64 a0 6148914691236517205))) / 4) 3689348814741910323) + (Go.bits .and .u64 (IntKind.u64.wrap ((Go.bits .and .u64 (a0 / 2) 6148914691236517205) + (Go.bits .and .u64 a0 6148914691236517205))) 3689348814741910323))) / 16) + (IntKind.u64.wrap ((Go.bits .and .u64 ((IntKind.u64.wrap ((Go.bits .and .u64 (a0 / 2) 6148914691236517205) + (Go.bits .and .u64 a0 6148914691236517205))) / 4) 3689348814741910323) + (Go.bits .and .u64 (IntKind.u64.wrap ((Go.bits .and .u64 (a0 / 2) 6148914691236517205) + (Go.bits .and .u64 a0 6148914691236517205))) 3689348814741910323))))) 1085102592571150095) + ((Go.bits .and .u64 (IntKind.u64.wrap (((IntKind.u64.wrap ((Go.bits .and .u64 ((IntKind.u64.wrap ((Go.bits .and .u64 (a0 / 2) 6148914691236517205) + (Go.bits .and .u64 a0 6148914691236517205))) / 4) 3689348814741910323) + (Go.bits .and .u64 (IntKind.u64.wrap ((Go.bits .and .u64 (a0 / 2) 6148914691236517205) + (Go.bits .and .u64 a0 6148914691236517205))) 3689348814741910323))) / 16) + (IntKind.u64.wrap ((Go.bits .and .u64 ((IntKind.u64.wrap ((Go.bits .and .u64 (a0 / 2) 6148914691236517205) + (Go.bits .and .u64 a0 6148914691236517205))) / 4) 3689348814741910323) + (Go.bits .and .u64 (IntKind.u64.wrap ((Go.bits .and .u64 (a0 / 2) 6148914691236517205) + (Go.bits .and .u64 a0 6148914691236517205))) 3689348814741910323))))) 1085102592571150095) / 256))) / 65536))) + ((IntKind.u64.wrap ((IntKind.u64.wrap ((Go.bits .and .u64 (IntKind.u64.wrap (((IntKind.u64.wrap ((Go.bits .and .u64 ((IntKind.u64.wrap ((Go.bits .and .u64 (a0 / 2) 6148914691236517205) + (Go.bits .and .u64 a0 6148914691236517205))) / 4) 3689348814741910323) + (Go.bits .and .u64 (IntKind.u64.wrap ((Go.bits .and .u64 (a0 / 2) 6148914691236517205) + (Go.bits .and .u64 a0 6148914691236517205))) 3689348814741910323))) / 16) + (IntKind.u64.wrap ((Go.bits .and .u64 ((IntKind.u64.wrap ((Go.bits .and .u64 (a0 / 2) 6148914691236517205) + (Go.bits .and .u64 a0 6148914691236517205))) / 4) 3689348814741910323) + (Go.bits .and .u64 (IntKind.u64.wrap ((Go.bits .and .u64 (a0 / 2) 6148914691236517205) + (Go.bits .and .u64 a0 6148914691236517205))) 3689348814741910323))))) 1085102592571150095) + ((Go.bits .and .u64 (IntKind.u64.wrap (((IntKind.u64.wrap ((Go.bits .and .u64 ((IntKind.u64.wrap ((Go.bits .and .u64 (a0 / 2) 6148914691236517205) + (Go.bits .and .u64 a0 6148914691236517205))) / 4) 3689348814741910323) + (Go.bits .and .u64 (IntKind.u64.wrap ((Go.bits .and .u64 (a0 / 2) 6148914691236517205) + (Go.bits .and .u64 a0 6148914691236517205))) 3689348814741910323))) / 16) + (IntKind.u64.wrap ((Go.bits .and .u64 ((IntKind.u64.wrap ((Go.bits .and .u64 (a0 / 2) 6148914691236517205) + (Go.bits .and .u64 a0 6148914691236517205))) / 4) 3689348814741910323) + (Go.bits .and .u64 (IntKind.u64.wrap ((Go.bits .and .u64 (a0 / 2) 6148914691236517205) + (Go.bits .and .u64 a0 6148914691236517205))) 3689348814741910323))))) 1085102592571150095) / 256))) + ((IntKind.u64.wrap ((Go.bits .and .u64 (IntKind.u64.wrap (((IntKind.u64.wrap ((Go.bits .and .u64 ((IntKind.u64.wrap ((Go.bits .and .u64 (a0 / 2) 6148914691236517205) + (Go.bits .and .u64 a0 6148914691236517205))) / 4) 3689348814741910323) + (Go.bits .and .u64 (IntKind.u64.wrap ((Go.bits .and .u64 (a0 / 2) 6148914691236517205) + (Go.bits .and .u64 a0 6148914691236517205))) 3689348814741910323))) / 16) + (IntKind.u64.wrap ((Go.bits .and .u64 ((IntKind.u64.wrap ((Go.bits .and .u64 (a0 / 2) 6148914691236517205) + (Go.bits .and .u64 a0 6148914691236517205))) / 4) 3689348814741910323) + (Go.bits .and .u64 (IntKind.u64.wrap ((Go.bits .and .u64 (a0 / 2) 6148914691236517205) + (Go.bits .and .u64 a0 6148914691236517205))) 3689348814741910323))))) 1085102592571150095) + ((Go.bits .and .u64 (IntKind.u64.wrap (((IntKind.u64.wrap ((Go.bits .and .u64 ((IntKind.u64.wrap ((Go.bits .and .u64 (a0 / 2) 6148914691236517205) + (Go.bits .and .u64 a0 6148914691236517205))) / 4) 3689348814741910323) + (Go.bits .and .u64 (IntKind.u64.wrap ((Go.bits .and .u64 (a0 / 2) 6148914691236517205) + (Go.bits .and .u64 a0 6148914691236517205))) 3689348814741910323))) / 16) + (IntKind.u64.wrap ((Go.bits .and .u64 ((IntKind.u64.wrap ((Go.bits .and .u64 (a0 / 2) 6148914691236517205) + (Go.bits .and .u64 a0 6148914691236517205))) / 4) 3689348814741910323) + (Go.bits .and .u64 (IntKind.u64.wrap ((Go.bits .and .u64 (a0 / 2) 6148914691236517205) + (Go.bits .and .u64 a0 6148914691236517205))) 3689348814741910323))))) 1085102592571150095) / 256))) / 65536))) / 4294967296)))) 127)) = some r := h
 clear h; obtain rfl := Option.some.inj H
 go_enter Tryz.func70, Tryz.ntmps70
 go_wp2; go_ret; exact ⟨by first | rfl | (simp; done) | (simp [*]; done), rfl⟩
theorem ocF_some (x : Int) : bits_OnesCount64.f x = some (ocF x) := by
 unfold ocF
 cases h : bits_OnesCount64.f x with
 | none => unfold bits_OnesCount64.f at h; cases h
 | some r => rfl
theorem oc87 (x : Int) (w : World) : Calls Tryz.prog 70 #[.int .u64 x] w fun e w' => e = .returned (.int .i64 (ocF x)) ∧ w' = w := oc87' x _ w (ocF_some x)
theorem clip81 (A : Option Addr) (n c : Nat) (hn : n ≤ c) (w : World) : Calls Tryz.prog 24 #[.slice A n c] w fun e w' => e = .returned (.slice A n n) ∧ w = w' := by
 go_enter Tryz.func24, Tryz.ntmps24
 go_wp2; go_ret; exact ⟨rfl, rfl⟩
theorem clip96 (A : Option Addr) (n c : Nat) (hn : n ≤ c) (w : World) : Calls Tryz.prog 71 #[.slice A n c] w fun e w' => e = .returned (.slice A n n) ∧ w = w' := by
 go_enter Tryz.func71, Tryz.ntmps71
 go_wp2; go_ret; exact ⟨rfl, rfl⟩
theorem idx119 (a b c d f g j : Int) (h0 : 0 ≤ j) (h5 : j < 6) (W : World) : (Instr.index 126 (.agg #[.int .u64 a, .int .u64 b, .int .u64 c, .int .u64 d, .int .u64 f, .int .u64 g]) (.int .i64 j)).run Tryz.prog W = .ok (.int .u64 (rd [a, b, c, d, f, g] j)) W := by
 obtain rfl | rfl | rfl | rfl | rfl | rfl : j = 0 ∨ j = 1 ∨ j = 2 ∨ j = 3 ∨ j = 4 ∨ j = 5 := by omega
 all_goals kernel_rfl
theorem V_clip' {α : Type} {d : Kd α} {e base : Nat} {ok : Nat → Prop} {w W : World} {A : Option Addr} {n c : Nat} {xs : List α} (h : d.R e W base ok (.slice A n c) xs) (hb : w.heap.size ≤ base) :
  Kd.V d e W w.heap.size (fun k_ => (w.heap.size ≤ k_)) (.slice A n n) xs := by
 have hn := (Kd.R_reads' h).1; subst hn; have h2 := Kd.R_mono (ok' := fun k_ => w.heap.size ≤ k_) (Kd.R_bound h) (fun k hk => Nat.le_trans hb hk.2.1); exact Kd.V_mk (Nat.le_refl _) (Kd.R_F h2)
def cntOne (ah : Int → Option Int) (i m : Int) : Int := ocF (bits .and .u64 m (bits .or .u64 ((ah i).getD 0) (IntKind.u64.wrap (2 ^ i.toNat))))
def cntRow (ah : Int → Option Int) (ms : List Int) (i : Int) : List Int := ms.map (cntOne ah i)
def cntRows (ah : Int → Option Int) (ms : List Int) (n : Nat) : List (List Int) := (List.range n).map fun (i : Nat) => cntRow ah ms (i : Int)
def runOk (l : List S121) (bs : List Int) : Prop := l.length ≤ 40 ∧ bs.length = l.length ∧ (∀ b ∈ bs, b < 40) ∧ (∀ d ∈ l, d.f2 < 40) ∧ ∀ d ∈ l, 0 ≤ d.f0 ∧ d.f0 ≤ 5
instance (l : List S121) (bs : List Int) : Decidable (runOk l bs) := by unfold runOk; infer_instance
def skew_Counts.f (l0 : List S121) : Option (List (List Int) × Int) :=
 (skew_isRun.f (l0.length + 1) l0).bind fun b => if b = true then (skew_befores.f l0).bind fun bs => if runOk l0 bs then some (cntRows (aheadsF bs l0) (mineF l0) l0.length, 0) else none else some ([], 2)
theorem cntRows_succ (ah : Int → Option Int) (ms : List Int) (i : Int) (h0 : 0 ≤ i) : cntRows ah ms (i + 1).toNat = cntRows ah ms i.toNat ++ [cntRow ah ms i] := by
 unfold cntRows; rw [show (i + 1).toNat = i.toNat + 1 by omega, List.range_succ, List.map_append, List.map_cons, List.map_nil, Int.toNat_of_nonneg h0]
theorem take_rd (l : List Int) (j : Int) (h0 : 0 ≤ j) (h1 : j < l.length) : l.take (j + 1).toNat = l.take j.toNat ++ [rd l j] := by
 have hl : j.toNat < l.length := by omega
 have er : rd l j = l[j.toNat] := by simp [rd, List.getD_eq_getElem?_getD, hl]
 rw [show (j + 1).toNat = j.toNat + 1 by omega, List.take_succ_eq_append_getElem hl, er]
theorem lookS {W : World} {B : Nat} {ah : Int → Option Int} (h : MapIs elS W B 100 ah) (i : Int) (hi : okI i) :
  MapIs elS W B 100 ah ∧ (Instr.lookup 122 (.map (some B)) (.int .i64 i) false).run Tryz.prog W = .ok (.int .u64 ((ah i).getD 0)) W := ⟨h, h.look_run (t := 122) Tryz.underlying122 hi false⟩
set_option maxHeartbeats 8000000 in
set_option maxRecDepth 100000 in
theorem skew_Counts.calls (A0 : Option Addr) (c0 : Nat) (l0 : List S121) (r1 : List (List Int)) (r2 : Int) (w : World) (hr0 : Kd.C k121 w A0 l0.length l0) (hc0 : l0.length ≤ c0) (h : skew_Counts.f l0 = some (r1, r2)) :
  Calls Tryz.prog 43 #[.slice A0 l0.length c0] w fun e w' => ∃ v0_ : Value, e = .returned (.tuple #[v0_, .int .i64 r2]) ∧ Kd.V (Kd.slice 3 (Kd.int .i64)) 26 w' w.heap.size (fun k_ => (w.heap.size ≤ k_)) v0_ r1 ∧ Below w.heap.size w w' := by
 unfold skew_Counts.f at h; obtain ⟨b, hb, h⟩ := Option.bind_eq_some_iff.mp h; have HB := Aa (skew_isRun.calls _ A0 c0 l0 b w hr0 hc0 hb); clear hb; have HR0 := Aa hr0; clear hr0
 cases b with
 | false =>
  rw [if_neg (by simp)] at h; simp only [Option.some.injEq, Prod.mk.injEq] at h; obtain ⟨rfl, rfl⟩ := h
  go_enter Tryz.func43, Tryz.ntmps43
  go_wp2_with (go_at_call 65; refine HB.out.mono ?_; rintro e w1 ⟨rfl, hb⟩)
  go_ret2
  exact ⟨_, rfl, Kd.V_nil _ _ _ _ _, hb⟩
 | true =>
  rw [if_pos rfl] at h; obtain ⟨bs, hbs, h⟩ := Option.bind_eq_some_iff.mp h
  by_cases hok : runOk l0 bs
  ·rw [if_pos hok] at h; simp only [Option.some.injEq, Prod.mk.injEq] at h; obtain ⟨rfl, rfl⟩ := h; obtain ⟨ok1, ok2, ok3, ok4, ok5⟩ := hok; have HBs := Aa hbs; have O2 := Aa ok2; have O3 := Aa ok3; have O4 := Aa ok4; have O5 := Aa ok5; clear hbs ok2 ok3 ok4 ok5
   obtain ⟨ah, hah⟩ : ∃ ah, aheadsF bs l0 = ah := ⟨_, rfl⟩
   have HAh := Aa hah; clear hah
   go_enter Tryz.func43, Tryz.ntmps43
   go_wp2_with fail
   refine HB.out.mono ?_; rintro e w1 ⟨rfl, hb⟩; have HB1 := Aa hb; have HC := Aa (aheads_calls A0 c0 l0 bs w1 (Kd.C_below HR0.out hb) hc0 ok1 HBs.out O2.out O3.out O4.out); clear hb HB
   go_wp2_with (go_at_call 68; refine HC.out.mono ?_; rintro e w2 ⟨rfl, hm2, hb2⟩; rw [HAh.out] at hm2; have HM2 := Aa hm2; have HB2 := Aa (Bp HB1.out hb2); have HZ := Aa hm2.lt; clear HC hm2 hb2)
   go_loopw [5, 17] (fun v5 v17 W => ∃ (i : Int), 0 ≤ i ∧ i ≤ l0.length ∧ v17 = .int .i64 i ∧ Aside0 (Kd.N (Kd.slice 3 (Kd.int .i64)) 26 W w2.heap.size (fun k => w1.heap.size < k) v5 (cntRows ah (mineF l0) i.toNat)) ∧ Aside0 (MapIs elS W w1.heap.size 100 ah) ∧ Aside0 (Below w2.heap.size w2 W)) (fun _ v _ => l0.length - (intOf v).toNat)
   case atStart => exact ⟨0, by omega, by omega, rfl, ⟨Kd.N_nil _ _ _ _ _⟩, HM2, ⟨Below.refl _ _⟩⟩
   case round =>
    clear HM2; obtain ⟨i, h0, hk, rfl, HN, HM, HBw⟩ := hrel
    by_cases hlt : i < l0.length
    ·have HBa := Aa (Bp HB2.out (show Below w2.heap.size w2 wr from HBw.out)); have HMc := Aa (mine_calls A0 c0 l0 wr (Kd.C_below HR0.out HBa.out) ok1 O5.out)
     go_wp2_with (go_at_call 69; refine HMc.out.mono ?_; rintro e w3 ⟨a, b, c, d, f, g, rfl, hms, hb3⟩; have HB3 := Aa hb3; have HMs := Aa hms; clear HMc hb3 hms)
     obtain ⟨ms, hm⟩ : ∃ ms, mineF l0 = ms := ⟨_, rfl⟩
     rw [hm] at HMs HN; have HMm := Aa hm
     have hlen : ms.length = 6 := by rw [HMs.out]; rfl
     have HLn := Aa hlen
     have hix : ∀ (j : Int) (W : World), 0 ≤ j → j < 6 → (Instr.index 126 (.agg #[.int .u64 a, .int .u64 b, .int .u64 c, .int .u64 d, .int .u64 f, .int .u64 g]) (.int .i64 j)).run Tryz.prog W = .ok (.int .u64 (rd ms j)) W := by
      intro j W h0 h1; rw [HMs.out]; exact idx119 a b c d f g j h0 h1 W
     have HIx := Aa hix; clear hm hlen hix HMs; have HN3 := Aa (Kd.N_below (Kd.N_bound HN.out) HB3.out); have HM3 := Aa (HM.out.below HB3.out); have HBw3 := Aa (Bp HBw.out HB3.out); have HZ3 := Aa (show wr.heap.size ≤ w3.heap.size from HB3.out.size); clear HN HM HB3 HBa
     obtain ⟨wo, rfl⟩ : ∃ wo : World, wo = wr := ⟨_, rfl⟩
     go_loopw [7, 22, 9] (fun v7 v22 _ W => ∃ (j : Int), 0 ≤ j ∧ j ≤ 6 ∧ v22 = .int .i64 j ∧ Aside0 (Kd.R (Kd.int .i64) 3 W w3.heap.size (fun k => w3.heap.size ≤ k) v7 ((ms.take j.toNat).map (cntOne ah i))) ∧ Aside0 (Below w3.heap.size w3 W)) (fun _ v _ _ => 6 - (intOf v).toNat)
     case atStart => exact ⟨0, by omega, by omega, rfl, ⟨Kd.R_nil _ _ _ _ _⟩, ⟨Below.refl _ _⟩⟩
     case round =>
      obtain ⟨j, j0, j6, rfl, HO, HBv⟩ := hrel
      by_cases hj : j < 6
      ·have hx := HIx.out j wr j0 hj
       have hl6 : ((ms.take j.toNat).map (cntOne ah i)).length ≤ 6 := by rw [List.length_map, List.length_take, HLn.out]; omega
       have hst : (ms.take (j + 1).toNat).map (cntOne ah i) = (ms.take j.toNat).map (cntOne ah i) ++ [cntOne ah i (rd ms j)] := by
        rw [take_rd ms j j0 (by rw [HLn.out]; omega), List.map_append]; rfl
       have HSt := Aa hst; have HL6 := Aa hl6; clear hst hl6
       obtain ⟨xs, hxs⟩ : ∃ xs, (ms.take j.toNat).map (cntOne ah i) = xs := ⟨_, rfl⟩
       rw [hxs] at HSt HL6 HO; clear hxs
       obtain ⟨m, hm⟩ : ∃ m, rd ms j = m := ⟨_, rfl⟩
       rw [hm] at HSt hx; clear hm; have HMv := Aa (HM3.out.below HBv.out); have HOi := Aa (okI_of (m := i) (by omega)); have HZv := Aa (show w3.heap.size ≤ wr.heap.size from HBv.out.size); have HZb := Aa (show w1.heap.size < w3.heap.size from Nat.lt_of_lt_of_le HM3.out.lt (Nat.le_refl _))
       go_wp2_with fail
       go_region_held3 (fun W => MapIs elS W w1.heap.size 100 ah ∧ (Instr.lookup 122 (.map (some w1.heap.size)) (.int .i64 i) false).run Tryz.prog W = .ok (.int .u64 ((ah i).getD 0)) W)
        (first | exact lookS HMv.out.drew i HOi.out | exact lookS (MapIs.kept HMv.out.drew hg hne.out) i HOi.out | (go_split_ands; exact lookS (MapIs.alloc (by assumption) _) i HOi.out))
        (first
         | (go_at_call 70; (with_reducible refine (oc87 _ _).mono ?_); rintro e w' ⟨rfl, rfl⟩)
         | (refine Kd.R_append_step (Kd.int .i64) (w0 := w3) (W := wr.drew) w3.heap.size (by rfl) (.tmp 25) (.tmp 35) 26 3 (.int .i64 0) 8 rfl Tryz.underlying26 info3 rfl (by decide) (by decide) u7 xs (cntOne ah i m) [.int .i64 (cntOne ah i m)] (fun k => w3.heap.size ≤ k) (fun _ => False) rfl rfl rfl (fun _ hk => hk.elim) (fun k hk => Nat.le_trans HZv.out hk) (Kd.R_drew HO.out) (Dn HBv.out) HZv.out (by have := HL6.out; omega) ?_; intro v1 w5 ho hb hg hat; have hne := Aa (show some w1.heap.size ≠ u7.ownBlock from fun e => by have := HO.out.1 _ e.symm; have := HZb.out; omega)))
       have HO5 := Aa ho; have HB5 := Aa hb
       rename_i hS
       clear ho hb hg hat hne hS hx; go_wp2
       go_roundw
       case rel => exact ⟨j + 1, by omega, by omega, rfl, ⟨by rw [HSt.out]; exact HO5.out⟩, HB5⟩
       case measure => simp [intOf]; omega
      ·obtain rfl : j = 6 := by omega
       have e6 : (ms.take (6 : Int).toNat).map (cntOne ah i) = cntRow ah ms i := by
        rw [List.take_of_length_le (by rw [HLn.out]; decide)]; rfl
       rw [e6] at HO
       have hl6 : (cntRow ah ms i).length ≤ 6 := by unfold cntRow; rw [List.length_map, HLn.out]; omega
       clear e6
       obtain ⟨row, hrow⟩ : ∃ row, cntRow ah ms i = row := ⟨_, rfl⟩
       rw [hrow] at HO hl6; obtain ⟨A7, c7, rfl, hc7, hC7⟩ := Kd.R_reads HO.out
       have hlen : (cntRows ah ms i.toNat).length ≤ 40 := by unfold cntRows; rw [List.length_map, List.length_range]; omega
       have HLr := Aa hlen; have HC7 := Aa hc7; have HRow := Aa hrow; have HV := Aa (V_clip' (w := w3) HO.out (Nat.le_refl _)); have HNw := Aa (Kd.N_below HN3.out HBv.out); have HBW := Aa (Bp HBw3.out HBv.out); have HZZ := Aa (Nat.lt_of_lt_of_le HZ.out HBW.out.size); have HZw := Aa (Nat.lt_of_lt_of_le HZ.out HBw.out.size); have HMw := Aa (HM3.out.below HBv.out); clear hc7 hC7 hl6 hlen hrow
       obtain ⟨rows, hrows⟩ : ∃ rows, cntRows ah ms i.toNat = rows := ⟨_, rfl⟩
       rw [hrows] at HNw HLr; have HRs := Aa hrows; clear hrows hj
       go_wp2_with fail
       refine (clip81 A7 _ c7 HC7.out _).mono ?_; rintro e w4 ⟨rfl, rfl⟩
       go_wp2_with (at_builtin; refine Kd.N_append (Kd.slice 3 (Kd.int .i64)) (w0 := w2) (W := wr) w2.heap.size rfl (.tmp 38) (.tmp 41) 88 26 (.slice none 0 0) 24 rfl Tryz.underlying88 info26 rfl (by decide) (by decide) u5 rows row [.slice A7 row.length row.length] (fun k => w1.heap.size < k) (fun k => wo.heap.size ≤ k) rfl rfl ?hp ?hokp ?hfr ?hO ?hB ?hbase ?hl ?_; (case hp => exact Kd.FK_slice_mk (Nat.le_refl _) (Kd.F_mono (Kd.V_F HV.out) (fun k hk => Nat.le_trans HZ3.out hk))); (case hokp => exact fun k hk => ⟨Nat.lt_of_lt_of_le HZw.out hk, fun e => by have := (HNw.out.1 _ e.symm).2; omega⟩); (case hfr => exact fun k hk => Nat.lt_of_lt_of_le HZZ.out hk); (case hO => exact Kd.N_mono HNw.out (fun k hk => hk.1)); (case hB => exact HBW.out); (case hbase => exact HBW.out.size); (case hl => have := HLr.out; omega); intro v1 w5 ho hb hg hat; have HO5 := Aa ho; have HB5 := Aa hb; have HM5 := Aa (HMw.out.kept hg (fun e => by have := (HNw.out.1 _ e.symm).1; omega)); clear ho hb hg hat)
       go_roundw
       case rel => exact ⟨i + 1, by omega, by omega, rfl, ⟨by rw [HMm.out, cntRows_succ _ _ _ h0, HRs.out, HRow.out]; exact HO5.out⟩, HM5, HB5⟩
       case measure => simp [intOf]; omega
    ·obtain rfl : i = l0.length := by omega
     have e1 : ((l0.length : Int)).toNat = l0.length := by omega
     rw [e1] at HN; clear e1; obtain ⟨A5, c5, hv5, hc5, hC5⟩ := Kd.N_reads HN.out
     have hlr : (cntRows ah (mineF l0) l0.length).length = l0.length := by unfold cntRows; rw [List.length_map, List.length_range]
     rw [hlr] at hv5 hc5; subst hv5; have HC5 := Aa hc5; have HLr := Aa hlr; have HV := Aa (Kd.N_V (base' := w.heap.size) HN.out); clear hc5 hC5 hlr
     go_wp2_with fail
     refine (clip96 A5 _ c5 HC5.out _).mono ?_; rintro e w4 ⟨rfl, rfl⟩; go_wp2; go_ret2; refine ⟨.slice A5 l0.length l0.length, rfl, ?_, Bp HB2.out HBw.out⟩; have hF := Kd.V_F HV.out; have h2 : Kd.V (Kd.slice 3 (Kd.int .i64)) 26 wr w.heap.size (fun k_ => (w.heap.size ≤ k_)) (.slice A5 (cntRows ah (mineF l0) l0.length).length (cntRows ah (mineF l0) l0.length).length) (cntRows ah (mineF l0) l0.length) := Kd.V_mk (Nat.le_refl _) (Kd.F_mono (by rw [HLr.out]; exact hF) (fun k hk => Nat.le_trans HB1.out.size (Nat.le_of_lt hk))); rw [HLr.out] at h2; try rw [HAh.out]
     with_reducible exact h2
  ·rw [if_neg hok] at h; cases h
end Go.Proofs.YtobcecgcegoooaaGreat.Sk
namespace Go.Proofs.YtobcecgcegoooaaGreat.Sk
open Go.RowKit Go.Proofs.YtobcecgcegoooaaGreatW.PrintWords Go.Proofs.YtobcecgcegoooaaGreatW.PrintLast Go.Proofs.YtobcecgcegoooaaGreatW.PrintMore
set_option linter.unusedVariables false
set_option linter.unusedSimpArgs false
theorem clip109 (A : Option Addr) (n c : Nat) (hn : n ≤ c) (w : World) : Calls Tryz.prog 63 #[.slice A n c] w fun e w' => e = .returned (.slice A n n) ∧ w = w' := by
 go_enter Tryz.func63, Tryz.ntmps63
 go_wp2; go_ret; exact ⟨rfl, rfl⟩
theorem i64wrap (x : Int) : IntKind.i64.wrap x = wrap64 x := IntWalk.i64_left x
def tspan (B : Int → Int → Int) (i : Nat) : S65 := ⟨wrap64 (-(B i 10)), B 10 i⟩
def tspans (B : Int → Int → Int) (n : Nat) : List S65 := (List.range n).map (tspan B)
theorem tspans_succ (B : Int → Int → Int) (n : Nat) : tspans B (n + 1) = tspans B n ++ [tspan B n] := by
 unfold tspans; rw [List.range_succ, List.map_append, List.map_cons, List.map_nil]
def BdS (W : World) (b : Nat) (ev gv : Value) (B : Int → Int → Int) (i : Nat) : Prop :=
 Bd W b ev gv B ∧ W.cell? ⟨b, 2 + i * 11 + 10, none⟩ = some (.int .i64 (B i 10)) ∧ W.cell? ⟨b, 2 + 10 * 11 + i, none⟩ = some (.int .i64 (B 10 i)) ∧ W.cell? ⟨b, 112 + i, none⟩ = some (.int .i64 (B 10 i))
theorem bdS {W : World} {b : Nat} {ev gv : Value} {B : Int → Int → Int} (h : Bd W b ev gv B) (i : Nat) (hi : (i : Int) < 11) : BdS W b ev gv B i :=
 ⟨h, h.atN i 10 hi (by decide), h.atN 10 i (by decide) hi, h.atN 10 i (by decide) hi⟩
def skew_Tight.f (evs : List S65) (gaps : List S82) : Option (List S65 × Int) :=
 (tightR evs gaps).bind fun p => if evs.length ≤ 10 then some (match p.1 with | some B => tspans B evs.length | none => [], p.2) else none
set_option maxHeartbeats 4000000 in
set_option maxRecDepth 100000 in
theorem skew_Tight.calls (A0 : Option Addr) (c0 : Nat) (evs : List S65) (A1 : Option Addr) (c1 : Nat) (gaps : List S82) (r1 : List S65) (r2 : Int) (w : World) (hC0 : Kd.C k65 w A0 evs.length evs) (hc0 : evs.length ≤ c0) (hC1 : Kd.C k82 w A1 gaps.length gaps) (hc1 : gaps.length ≤ c1) (h : skew_Tight.f evs gaps = some (r1, r2)) :
  Calls Tryz.prog 37 #[.agg #[.slice A0 evs.length c0, .slice A1 gaps.length c1]] w fun e w' => ∃ v0_ : Value, e = .returned (.tuple #[v0_, .int .i64 r2]) ∧ Kd.V k65 65 w' w.heap.size (fun k_ => (w.heap.size ≤ k_)) v0_ r1 ∧ Below w.heap.size w w' := by
 unfold skew_Tight.f at h; obtain ⟨⟨R, r⟩, hR, h⟩ := Option.bind_eq_some_iff.mp h
 by_cases hle : evs.length ≤ 10
 ·rw [if_pos hle] at h; simp only [Option.some.injEq, Prod.mk.injEq] at h; obtain ⟨hr1, rfl⟩ := h; have HR1 := Aa hr1; have HLe := Aa hle; have hb0 := Ba (Below.refl w.heap.size w) (.cells #[.slice A0 evs.length c0, .slice A1 gaps.length c1] 25); have hk0 := blk_new w (.cells #[.slice A0 evs.length c0, .slice A1 gaps.length c1] 25); have HT := Aa (tight_calls A0 A1 c0 c1 evs gaps R r _ (Kd.C_below hC0 hb0) hc0 (Kd.C_below hC1 hb0) hc1 hR); have x0 := cell_at hk0 0 (.slice A0 evs.length c0) rfl; have x1 := cell_at hk0 1 (.slice A1 gaps.length c1) rfl; have HB0 := Aa hb0; clear hb0 hk0 hR hr1 hle
  cases R with
  | none =>
   have HTn := Aa HT.out; clear HT
   go_enter Tryz.func37, Tryz.ntmps37
   go_wp2_with (go_at_call 14; refine HTn.out.mono ?_; rintro e w4 ⟨p, rfl, _, hn, _, hb⟩; have hrn := hn rfl; have HB4 := Aa (Bp HB0.out hb); clear hb)
   go_ret2
   exact ⟨_, rfl, by rw [← HR1.out]; exact Kd.V_nil _ _ _ _ _, HB4.out⟩
  | some B =>
   have HTn := Aa HT.out; clear HT
   go_enter Tryz.func37, Tryz.ntmps37
   go_wp2_with fail
   refine HTn.out.mono ?_; rintro e wT ⟨p, rfl, hs, _, hz, hb⟩; obtain ⟨b, rfl, hbl, hbd⟩ := hs B rfl; obtain rfl := hz B rfl; have HBd := Aa hbd; have HB4 := Aa (Bp HB0.out hb); have x0 := hbd.c0; clear hb hbd hs hz HTn HB0 x1
   go_wp2_with fail
   go_loopw [6, 22] (fun v6 v22 W => ∃ i : Nat, i ≤ evs.length ∧ v22 = .int .i64 (i : Int) ∧ Aside0 (Kd.R k65 65 W wT.heap.size (fun _ => True) v6 (tspans B i)) ∧ Aside0 (Below wT.heap.size wT W)) (fun _ v _ => evs.length - (intOf v).toNat)
   case atStart => exact ⟨0, Nat.zero_le _, rfl, ⟨Kd.R_nil _ _ _ _ _⟩, ⟨Below.refl _ _⟩⟩
   case round =>
    obtain ⟨i, hi, rfl, HO, HBw⟩ := hrel
    by_cases hlt : (i : Int) < evs.length
    ·have hi11 : (i : Int) < 11 := by have := HLe.out; omega
     have hB := HBd.out.below HBw.out; have HBi := Aa (show Bd wr b _ _ B from hB); have HI11 := Aa hi11; have hst := tspans_succ B i; have HSt := Aa hst
     have hlen : (tspans B i).length ≤ 10 := by unfold tspans; rw [List.length_map, List.length_range]; omega
     have HLn := Aa hlen; have hbT : b < wT.heap.size := HBd.out.lt; have HbT := Aa hbT; clear hst hlen hbT; have HBx := Aa (show Below wT.heap.size wT wr from HBw.out); have HOx := Aa (show Kd.R k65 65 wr wT.heap.size (fun _ => True) u6 (tspans B i) from HO.out); have HNe := Aa (show some b ≠ u6.ownBlock from fun e => by have := ((Kd.R_bound HOx.out).1 _ e.symm).2.1; have := HbT.out; omega); clear hB HBw HO
     obtain ⟨z1, hz1⟩ : ∃ z, IntKind.i64.wrap (-(B i 10)) = z := ⟨_, rfl⟩
     have hts : tspan B i = ⟨z1, B 10 i⟩ := by rw [← hz1, i64wrap]; rfl
     have HTs := Aa hts; clear hts
     go_wp2_with fail
     go_region_held3 (fun W => Bd W b (.slice A0 evs.length c0) (.slice A1 gaps.length c1) B ∧ W.cell? ⟨b, 2 + i * 11 + 10, none⟩ = some (.int .i64 (B i 10)) ∧ W.cell? ⟨b, 2 + 10 * 11 + i, none⟩ = some (.int .i64 (B 10 i)) ∧ W.cell? ⟨b, 112 + i, none⟩ = some (.int .i64 (B 10 i)))
      (first | exact bdS HBi.out.drew i HI11.out | exact bdS (Bd.grown HBi.out.drew hg HNe.out) i HI11.out | (go_split_ands; exact bdS (Bd.alloc (by assumption) _) i HI11.out))
      (first | (refine Kd.R_append_step k65 (w0 := wT) (W := wr.drew) wT.heap.size (by rfl) (.tmp 25) (.tmp 42) 22 65 (.agg #[.int .i64 0, .int .i64 0]) 16 rfl Tryz.underlying22 info65 rfl (by decide) (by decide) u6 (tspans B i) (⟨z1, B 10 i⟩ : S65) [.int .i64 z1, .int .i64 (B 10 i)] (fun _ => True) (fun _ => False) rfl rfl (k65_mkM _ _ _ (⟨z1, B 10 i⟩ : S65)) (fun _ hk => hk.elim) (fun _ _ => trivial) (Kd.R_drew HOx.out) (Dn HBx.out) HBx.out.size (by have := HLn.out; omega) ?_; intro v1 w5 ho hb hg hat))
     rename_i hS
     have HO5 := Aa ho; have HB5 := Aa hb; clear ho hb hg hat hS; go_wp2
     go_roundw
     case rel => exact ⟨i + 1, by omega, by simp, ⟨by rw [HSt.out, HTs.out]; exact HO5.out⟩, HB5⟩
     case measure => simp [intOf]; omega
    ·obtain rfl : i = evs.length := by omega
     obtain ⟨A6, c6, hv6, hc6, hC6⟩ := Kd.R_reads (show Kd.R k65 65 wr wT.heap.size (fun _ => True) u6 (tspans B evs.length) from HO.out); subst hv6
     have hlr : (tspans B evs.length).length = evs.length := by unfold tspans; rw [List.length_map, List.length_range]
     have HC6 := Aa hc6; have HV := Aa (V_clip' (w := wT) HO.out (Nat.le_refl _)); have HBx := Aa (show Below wT.heap.size wT wr from HBw.out); clear hc6 hC6 HO HBw hlr
     go_wp2_with fail
     refine (clip109 A6 _ c6 HC6.out _).mono ?_; rintro e w5 ⟨rfl, rfl⟩; go_wp2; go_ret2; have hV := HV.out; refine ⟨.slice A6 (tspans B evs.length).length (tspans B evs.length).length, rfl, ?_, Bp HB4.out HBx.out⟩; rw [← HR1.out]; exact Kd.V_mk (Nat.le_refl _) (Kd.F_mono (Kd.V_F hV) (fun k hk => Nat.le_trans HB4.out.size hk))
 ·rw [if_neg hle] at h; cases h
end Go.Proofs.YtobcecgcegoooaaGreat.Sk
namespace Go.Proofs.YtobcecgcegoooaaGreat.Sk
open Go.RowKit Go.Proofs.YtobcecgcegoooaaGreatW.PrintWords Go.Proofs.YtobcecgcegoooaaGreatW.PrintLast Go.Proofs.YtobcecgcegoooaaGreatW.PrintMore
set_option linter.unusedVariables false
set_option linter.unusedSimpArgs false
theorem kN_fin {M : Int} {B : Int → Int → Int} (h : BInv M B) (h0 : 0 ≤ M) (hM : M ≤ 134217728) : ∀ n : Nat, n ≤ 11 → ∀ C, kN B n = some C → ∀ i j, In i → In j → B i j ≠ FREE → C i j ≠ FREE
 | 0, _, C, hC, i, j, _, _, hf => by
  injection hC with hC
  rw [← hC]; exact hf
 | n + 1, hn, C, hC, i, j, hi, hj, hf => by
  have hkn : (kN B n).bind (fun C => iN n C 11) = some C := hC; obtain ⟨D, hD, hC'⟩ := Option.bind_eq_some_iff.mp hkn; have ih := kN_fin h h0 hM n (by omega) D hD i j hi hj hf; obtain ⟨a1, _, _⟩ := (kN_spec h h0 hM n (by omega)).1 D hD
  have hnI : In (n : Int) := ⟨by omega, by omega⟩
  have hMn : pow2 n * M ≤ 274877906944 := by
   have : n = 0 ∨ n = 1 ∨ n = 2 ∨ n = 3 ∨ n = 4 ∨ n = 5 ∨ n = 6 ∨ n = 7 ∨ n = 8 ∨ n = 9 ∨ n = 10 := by omega
   rcases this with e | e | e | e | e | e | e | e | e | e | e <;> subst e <;> simp only [pow2] <;> omega
  have hp := iN_nonneg a1 hMn hnI 11 C (Nat.le_refl _) hC'; have e := iN_eq a1 hMn hnI 11 (Nat.le_refl _) hp; rw [hC'] at e
  injection e with e
  have e2 : C i j = ph n D i j := by
   rw [e]; show (if _ then _ else _) = _; rw [if_pos ⟨⟨hi.1, by have := hi.2; omega⟩, hj⟩]
  rw [e2]
  exact fun hh => ih ((ph_free a1 hMn hnI hi hj).mp hh).1
theorem say_fin {B : Int → Int → Int} {f : S61} (hf : FactOk f) (i j : Int) (h : B i j ≠ FREE) : sayF B f i j ≠ FREE := by
 have hlo := hf.lo; have hhi := hf.hi; rw [say_at hf]
 split
 ·rw [mn_eq]; unfold FREE; omega
 ·split
  ·rw [mn_eq]; unfold FREE; omega
  ·exact h
theorem say_fin2 {B : Int → Int → Int} {f : S61} (hf : FactOk f) : sayF B f f.f0 f.f1 ≠ FREE ∧ sayF B f f.f1 f.f0 ≠ FREE := by
 have hlo := hf.lo; have hhi := hf.hi; have hne := hf.ne; constructor
 ·rw [say_at hf, if_neg (by omega), if_pos ⟨rfl, rfl⟩, mn_eq]; unfold FREE; omega
 ·rw [say_at hf, if_pos ⟨rfl, rfl⟩, mn_eq]; unfold FREE; omega
theorem fold_fin (om : Int → Bool) : ∀ (L : List (Int × S61)) (B : Int → Int → Int), (∀ x ∈ L, FactOk x.2) → (∀ i j, B i j ≠ FREE → (L.foldl (fun B x => if om x.1 = true then B else sayF B x.2) B) i j ≠ FREE) ∧
  ∀ x ∈ L, om x.1 = false → (L.foldl (fun B x => if om x.1 = true then B else sayF B x.2) B) x.2.f0 x.2.f1 ≠ FREE ∧ (L.foldl (fun B x => if om x.1 = true then B else sayF B x.2) B) x.2.f1 x.2.f0 ≠ FREE
 | [], B, _ => ⟨fun i j h => h, fun x hx => by cases hx⟩
 | x :: L, B, h => by
  have hx := h x List.mem_cons_self
  have hr := fun y hy => h y (List.mem_cons_of_mem x hy)
  rw [List.foldl_cons]; obtain ⟨a, b⟩ := fold_fin om L (if om x.1 = true then B else sayF B x.2) hr; refine ⟨fun i j hf => a i j ?_, fun y hy ho => ?_⟩
  ·split
   ·exact hf
   ·exact say_fin hx i j hf
  ·rcases List.mem_cons.mp hy with rfl | hy
   ·have e : (if om y.1 = true then B else sayF B y.2) = sayF B y.2 := if_neg (by rw [ho]; simp); rw [e] at a ⊢; have := say_fin2 (B := B) hx; exact ⟨a _ _ this.1, a _ _ this.2⟩
   ·exact b y hy ho
theorem tightR_no {evs : List S65} {gaps : List S82} (h : ¬ histB evs gaps = true) : tightR evs gaps = some (none, 2) := by
 unfold tightR; rw [isHist_1000, Option.bind_some, if_neg h]
end Go.Proofs.YtobcecgcegoooaaGreat.Sk
namespace Go.Proofs.YtobcecgcegoooaaGreat.Sk
open Go.RowKit Go.Proofs.YtobcecgcegoooaaGreatW.PrintWords Go.Proofs.YtobcecgcegoooaaGreatW.PrintLast Go.Proofs.YtobcecgcegoooaaGreatW.PrintMore
set_option linter.unusedVariables false
set_option linter.unusedSimpArgs false
section
variable {evs : List S65} {gaps : List S82} (h : HistIs evs gaps) {C : Int → Int → Int} (hC : tightenF (bindP (fun _ => false) (saidL evs gaps)) = some C)
include h hC
theorem sure_sat (t : Int → Int) (ht : Sat C t) : Fit evs gaps fun j => t j - t 10 := by
 obtain ⟨b1, b2⟩ := bind_spec (fun _ => false) (saidL evs gaps) h.facts; obtain ⟨c1, c2, c3⟩ := tighten_some b1 hC
 exact (keeps_fit h t).mp fun x hx => (b2 t).mp ((c2 t).mp ht) x hx rfl
theorem sure_unsat (t : Int → Int) (ht : Fit evs gaps t) : Sat C fun j => if j = 10 then 0 else t j := by
 have hn := h.n; obtain ⟨b1, b2⟩ := bind_spec (fun _ => false) (saidL evs gaps) h.facts; obtain ⟨c1, c2, c3⟩ := tighten_some b1 hC; refine (c2 _).mpr ((b2 _).mpr fun x hx _ => (keeps_fit h _).mpr ?_ x hx)
 have e : ∀ j : Int, j < evs.length → (if j = 10 then 0 else t j) - (if (10 : Int) = 10 then 0 else t 10) = t j := fun j hj => by
  rw [if_neg (by omega), if_pos rfl]; omega
 refine ⟨fun g hg => ?_, fun j h0 h1 => ?_⟩
 ·have hi := h.gap g hg; have := ht.1 g hg; unfold GapSat at this ⊢; show g.f2 ≤ ((if g.f1 = 10 then 0 else t g.f1) - (if (10 : Int) = 10 then 0 else t 10)) - ((if g.f0 = 10 then 0 else t g.f0) - (if (10 : Int) = 10 then 0 else t 10)) ∧ ((if g.f1 = 10 then 0 else t g.f1) - (if (10 : Int) = 10 then 0 else t 10)) - ((if g.f0 = 10 then 0 else t g.f0) - (if (10 : Int) = 10 then 0 else t 10)) ≤ g.f3; rw [e _ hi.a1, e _ hi.b1]; exact this
 ·show _ ≤ (if j = 10 then 0 else t j) - (if (10 : Int) = 10 then 0 else t 10) ∧ (if j = 10 then 0 else t j) - (if (10 : Int) = 10 then 0 else t 10) ≤ _; rw [e j h1]; exact ht.2 j h0 h1
theorem sure_fin10 (j : Int) (j0 : 0 ≤ j) (j1 : j < evs.length) : C 10 j ≠ FREE ∧ C j 10 ≠ FREE := by
 have hn := h.n; obtain ⟨b1, b2⟩ := bind_spec (fun _ => false) (saidL evs gaps) h.facts
 have i10 : In 10 := ⟨by omega, by omega⟩
 have := (fold_fin (fun _ => false) (saidL evs gaps) (fillN 11) h.facts).2 _ (mem_said1 evs gaps j.toNat (by omega)) rfl; rw [show ((j.toNat : Nat) : Int) = j by omega] at this
 have jI : In j := ⟨by omega, by omega⟩
 exact ⟨kN_fin b1 (by omega) (by omega) 11 (Nat.le_refl _) C hC 10 j i10 jI this.1, kN_fin b1 (by omega) (by omega) 11 (Nat.le_refl _) C hC j 10 jI i10 this.2⟩
theorem sure_iso (i j : Int) (hi : In i) (hj : In j) (ij : i ≠ j) (hn : evs.length ≤ i) (h10 : i ≠ 10) : C i j = FREE := by
 obtain ⟨b1, b2⟩ := bind_spec (fun _ => false) (saidL evs gaps) h.facts; obtain ⟨c1, c2, c3⟩ := tighten_some b1 hC
 by_cases e : C i j = FREE
 ·exact e
 ·exfalso; obtain ⟨t, t1, t2, t3⟩ := clo_last c1 c3 hi; have k := (b2 t).mp ((c2 t).mp t1)
  have key : Sat C fun m => if m = i then t j - C i j - 1 else t m := (c2 _).mpr ((b2 _).mpr fun x hx ho => by
   have kx := k x hx ho
   rcases said_mem hx with ⟨m, hm, rfl⟩ | ⟨m, hm, rfl⟩
   ·have a : (rd_T65 evs m).f0 ≤ t (m : Int) - t 10 ∧ t (m : Int) - t 10 ≤ (rd_T65 evs m).f1 := kx; show (rd_T65 evs m).f0 ≤ (if (m : Int) = i then t j - C i j - 1 else t m) - (if (10 : Int) = i then t j - C i j - 1 else t 10) ∧ (if (m : Int) = i then t j - C i j - 1 else t m) - (if (10 : Int) = i then t j - C i j - 1 else t 10) ≤ (rd_T65 evs m).f1; rw [if_neg (by omega), if_neg (by omega)]; exact a
   ·have hg := h.gap _ (mem82 gaps m hm); have g1 := hg.a1; have g2 := hg.b1; have a : (rd_T82 gaps m).f2 ≤ t (rd_T82 gaps m).f1 - t (rd_T82 gaps m).f0 ∧ t (rd_T82 gaps m).f1 - t (rd_T82 gaps m).f0 ≤ (rd_T82 gaps m).f3 := kx; show (rd_T82 gaps m).f2 ≤ (if (rd_T82 gaps m).f1 = i then t j - C i j - 1 else t (rd_T82 gaps m).f1) - (if (rd_T82 gaps m).f0 = i then t j - C i j - 1 else t (rd_T82 gaps m).f0) ∧ (if (rd_T82 gaps m).f1 = i then t j - C i j - 1 else t (rd_T82 gaps m).f1) - (if (rd_T82 gaps m).f0 = i then t j - C i j - 1 else t (rd_T82 gaps m).f0) ≤ (rd_T82 gaps m).f3; rw [if_neg (by omega), if_neg (by omega)]
    exact a)
  have := key i j hi hj e; have this : (if j = i then t j - C i j - 1 else t j) - (if i = i then t j - C i j - 1 else t i) ≤ C i j := this; rw [if_neg (fun e => ij e.symm), if_pos rfl] at this; omega
theorem sure_inv : BInv 2000000 C ∧ Clo C 11 := by
 have hn := h.n; obtain ⟨b1, b2⟩ := bind_spec (fun _ => false) (saidL evs gaps) h.facts; obtain ⟨c1, c2, c3⟩ := tighten_some b1 hC; refine ⟨⟨c1.diag, fun i j hi hj => ?_, c1.sym⟩, c3⟩
 by_cases ij : i = j
 ·subst ij; right; rw [c1.diag i hi]; omega
 ·by_cases fr : C i j = FREE
  ·exact .inl fr
  ·right
   have ui : i < evs.length ∨ i = 10 := by
    by_cases a : i < evs.length
    ·exact .inl a
    ·by_cases b : i = 10
     ·exact .inr b
     ·exact absurd (sure_iso h hC i j hi hj ij (by omega) b) fr
   have uj : j < evs.length ∨ j = 10 := by
    by_cases a : j < evs.length
    ·exact .inl a
    ·by_cases b : j = 10
     ·exact .inr b
     ·exact absurd (sure_iso h hC j i hj hi (fun e => ij e.symm) (by omega) b) (c1.sym i j hi hj fr)
   obtain ⟨t, t1, t2, t3⟩ := clo_last c1 c3 hi; have f := sure_sat h hC t t1
   have bd : ∀ k : Int, In k → (k < evs.length ∨ k = 10) → -1000000 ≤ t k - t 10 ∧ t k - t 10 ≤ 1000000 := fun k hk u => by
    rcases u with u | rfl
    ·have a := f.2 k hk.1 u; have b := h.evAt k hk.1 u; have a : (rd_T65 evs k).f0 ≤ t k - t 10 ∧ t k - t 10 ≤ (rd_T65 evs k).f1 := a; omega
    ·omega
   have p := bd i hi ui; have q := bd j hj uj; have e := t3 j hj fr; omega
theorem sure_iff (x y : Int) (x0 : 0 ≤ x) (x1 : x < evs.length) (y0 : 0 ≤ y) (y1 : y < evs.length) : C y x < 0 ↔ ¬ ∃ t, Fit evs gaps t ∧ t y ≤ t x := by
 have hn := h.n; obtain ⟨c1, c3⟩ := sure_inv h hC
 have i10 : In 10 := ⟨by omega, by omega⟩
 have ix : In x := ⟨by omega, by omega⟩
 have iy : In y := ⟨by omega, by omega⟩
 have fr : C y x ≠ FREE := (c3 10 y x i10 (by omega) iy ix (sure_fin10 h hC y y0 y1).2 (sure_fin10 h hC x x0 x1).1).1; constructor
 ·rintro hlt ⟨t, ht, hle⟩; have := sure_unsat h hC t ht y x iy ix fr; have this : (if x = 10 then 0 else t x) - (if y = 10 then 0 else t y) ≤ C y x := this; rw [if_neg (by omega), if_neg (by omega)] at this; omega
 ·intro hno
  by_cases c : C y x < 0
  ·exact c
  ·exfalso; obtain ⟨t, t1, t2, t3⟩ := clo_last c1 c3 iy; refine hno ⟨_, sure_sat h hC t t1, ?_⟩; have := t3 x ix fr; show t y - t 10 ≤ t x - t 10; omega
end
def sureB (evs : List S65) (gaps : List S82) (x y : Int) : Bool := if x = y then false else !(solveR evs (gaps ++ [⟨y, x, 0, 2000000⟩])).2
theorem gap_more {evs : List S65} {gaps : List S82} (h : HistIs evs gaps) (x y : Int) (x0 : 0 ≤ x) (x1 : x < evs.length) (y0 : 0 ≤ y) (y1 : y < evs.length) (xy : x ≠ y) : ∀ g ∈ gaps ++ [(⟨y, x, 0, 2000000⟩ : S82)], GapIn evs.length g := fun g hg => by
 rcases List.mem_append.mp hg with hg | hg
 ·exact h.gap g hg
 ·rw [List.mem_singleton] at hg; subst hg; exact ⟨y0, y1, x0, x1, fun e => xy e.symm, by show (0 : Int) ≤ 2000000; omega, by show (-2000000 : Int) ≤ 0; omega, by show (2000000 : Int) ≤ 2000000; omega⟩
theorem sure_solve {evs : List S65} {gaps : List S82} (h : HistIs evs gaps) (x y : Int) (x0 : 0 ≤ x) (x1 : x < evs.length) (y0 : 0 ≤ y) (y1 : y < evs.length) : sureB evs gaps x y = true ↔ (x ≠ y ∧ ¬ ∃ t, Fit evs gaps t ∧ t y ≤ t x) := by
 unfold sureB
 by_cases xy : x = y
 ·rw [if_pos xy]; exact ⟨fun h => (by cases h), fun h => absurd xy h.1⟩
 ·rw [if_neg xy, Bool.not_eq_true', Bool.eq_false_iff, Ne, (solve_spec evs _ (gap_more h x y x0 x1 y0 y1 xy)).1]; refine ⟨fun hno => ⟨xy, fun ⟨t, ht, hle⟩ => hno ⟨t, fun g hg => ?_, ht.2⟩⟩, fun hno => fun ⟨t, h1, h2⟩ => hno.2 ⟨t, ⟨fun g hg => h1 g (List.mem_append.mpr (.inl hg)), h2⟩, ?_⟩⟩
  ·rcases List.mem_append.mp hg with hg | hg
   ·exact ht.1 g hg
   ·rw [List.mem_singleton] at hg; subst hg; have a := ht.2 x x0 x1; have b := ht.2 y y0 y1; have c := h.evAt x x0 x1; have d := h.evAt y y0 y1; show (0 : Int) ≤ t x - t y ∧ t x - t y ≤ 2000000; omega
  ·have : (0 : Int) ≤ t x - t y ∧ t x - t y ≤ 2000000 := h1 ⟨y, x, 0, 2000000⟩ (List.mem_append.mpr (.inr (List.mem_singleton.mpr rfl))); omega
theorem sure_skew {evs : List S65} {gaps : List S82} (h : HistIs evs gaps) {C : Int → Int → Int} (hC : tightenF (bindP (fun _ => false) (saidL evs gaps)) = some C) (x y : Int) (x0 : 0 ≤ x) (x1 : x < evs.length) (y0 : 0 ≤ y) (y1 : y < evs.length) : decide (C y x < 0) = sureB evs gaps x y := by
 have a := sure_iff h hC x y x0 x1 y0 y1; have b := sure_solve h x y x0 x1 y0 y1; rw [Bool.eq_iff_iff, decide_eq_true_iff, b, a]; refine ⟨fun hno => ⟨fun e => ?_, hno⟩, fun h => h.2⟩; subst e; obtain ⟨t, t1, t2, t3⟩ := clo_last (sure_inv h hC).1 (sure_inv h hC).2 (r := x) ⟨x0, by have := h.n; omega⟩; exact hno ⟨_, sure_sat h hC t t1, Int.le_refl _⟩
end Go.Proofs.YtobcecgcegoooaaGreat.Sk
namespace Go.Proofs.YtobcecgcegoooaaGreat.Sk
open Go.RowKit Go.Proofs.YtobcecgcegoooaaGreatW.PrintWords Go.Proofs.YtobcecgcegoooaaGreatW.PrintLast Go.Proofs.YtobcecgcegoooaaGreatW.PrintMore
set_option linter.unusedVariables false
set_option linter.unusedSimpArgs false
section
variable {B : Int → Int → Int} {x y : Int}
theorem free_at (xy : x ≠ y) (a c : Int) : sayF B ⟨x, y, 0, FREE⟩ a c = if a = y ∧ c = x then mn (B y x) 0 else if a = x ∧ c = y then mn (B x y) FREE else B a c := by
 have e : sayF B ⟨x, y, 0, FREE⟩ = set2 (set2 B x y (mn (B x y) FREE)) y x (mn (set2 B x y (mn (B x y) FREE) y x) (wrap64 (-0))) := rfl; have e2 : set2 B x y (mn (B x y) FREE) y x = B y x := if_neg (by omega); have e3 : wrap64 (-(0 : Int)) = 0 := w64_mid (by omega) (by omega); rw [e, e2, e3]; rfl
theorem free_say (h : BInv 2000000 B) (ix : In x) (iy : In y) (xy : x ≠ y) (fx : B x y ≠ FREE) : BInv 2000000 (sayF B ⟨x, y, 0, FREE⟩) ∧ (∀ t, Sat (sayF B ⟨x, y, 0, FREE⟩) t ↔ Sat B t ∧ t x ≤ t y) ∧ ∀ i j, B i j ≠ FREE → sayF B ⟨x, y, 0, FREE⟩ i j ≠ FREE := by
 have fy := h.sym x y ix iy fx; have bx := (h.bd x y ix iy).resolve_left fx; have b0 := (h.bd y x iy ix).resolve_left fy
 have e1 : mn (B x y) FREE = B x y := by rw [mn_eq]; unfold FREE; omega
 have v0 : -2000000 ≤ mn (B y x) 0 ∧ mn (B y x) 0 ≤ 2000000 := by rw [mn_eq]; omega
 have n0 : mn (B y x) 0 ≠ FREE := by unfold FREE; omega
 have at1 : ∀ a c : Int, sayF B ⟨x, y, 0, FREE⟩ a c = if a = y ∧ c = x then mn (B y x) 0 else B a c := fun a c => by
  rw [free_at xy]
  by_cases c1 : a = y ∧ c = x
  ·rw [if_pos c1, if_pos c1]
  ·rw [if_neg c1, if_neg c1]
   by_cases c2 : a = x ∧ c = y
   ·rw [if_pos c2, e1, c2.1, c2.2]
   ·rw [if_neg c2]
 have keep : ∀ i j, B i j ≠ FREE → sayF B ⟨x, y, 0, FREE⟩ i j ≠ FREE := fun i j hf => by
  rw [at1]
  split
  ·exact n0
  ·exact hf
 refine ⟨⟨fun i hi => ?_, fun i j hi hj => ?_, fun i j hi hj hf => ?_⟩, fun t => ⟨fun ht => ⟨fun i j hi hj hf => ?_, ?_⟩, fun ⟨ht, hle⟩ i j hi hj hf => ?_⟩, keep⟩
 ·rw [at1, if_neg (by omega)]; exact h.diag i hi
 ·rw [at1]
  split
  ·exact .inr v0
  ·exact h.bd i j hi hj
 ·rw [at1] at hf
  by_cases c1 : i = y ∧ j = x
  ·obtain ⟨rfl, rfl⟩ := c1; exact keep _ _ fx
  ·rw [if_neg c1] at hf; exact keep _ _ (h.sym i j hi hj hf)
 ·have := ht i j hi hj (keep i j hf); rw [at1] at this
  by_cases c1 : i = y ∧ j = x
  ·rw [if_pos c1] at this; have l := mn_le1 (B y x) 0; obtain ⟨rfl, rfl⟩ := c1; omega
  ·rw [if_neg c1] at this; exact this
 ·have := ht y x iy ix (keep y x fy); rw [at1, if_pos ⟨rfl, rfl⟩] at this; have l := mn_le2 (B y x) 0; omega
 ·rw [at1] at hf ⊢
  by_cases c1 : i = y ∧ j = x
  ·rw [if_pos c1]; obtain ⟨rfl, rfl⟩ := c1; have := ht i j hi hj fy; rw [mn_eq]; omega
  ·rw [if_neg c1] at hf ⊢; exact ht i j hi hj hf
end
def sayC (C : Int → Int → Int) (l : List Int) : Nat → Int → Int → Int
 | 0 => C
 | n + 1 => sayF (sayC C l n) ⟨rd l (n : Int), rd l ((n + 1 : Nat) : Int), 0, FREE⟩
def stepG (l : List Int) (n : Nat) : S82 := ⟨rd l (n : Int), rd l ((n + 1 : Nat) : Int), 0, 2000000⟩
def gapsC (gaps : List S82) (l : List Int) (n : Nat) : List S82 := gaps ++ (List.range n).map (stepG l)
theorem gapsC_succ (gaps : List S82) (l : List Int) (n : Nat) : gapsC gaps l (n + 1) = gapsC gaps l n ++ [stepG l n] := by
 unfold gapsC; rw [List.range_succ, List.map_append, List.append_assoc]; rfl
structure StepsOk (n : Nat) (l : List Int) : Prop where
 at0 : ∀ i : Nat, i < l.length → 0 ≤ rd l (i : Int)
 at1 : ∀ i : Nat, i < l.length → rd l (i : Int) < n
 ne : ∀ i : Nat, i + 1 < l.length → rd l (i : Int) ≠ rd l ((i + 1 : Nat) : Int)
theorem gapsC_in {evs : List S65} {gaps : List S82} (h : HistIs evs gaps) {l : List Int} (hl : StepsOk evs.length l) (n : Nat) (hn : n < l.length ∨ n = 0) : ∀ g ∈ gapsC gaps l n, GapIn evs.length g := fun g hg => by
 rcases List.mem_append.mp hg with hg | hg
 ·exact h.gap g hg
 ·obtain ⟨i, hi, rfl⟩ := List.mem_map.mp hg; have hi := List.mem_range.mp hi; have hn := hn.resolve_right (by omega); exact ⟨hl.at0 i (by omega), hl.at1 i (by omega), hl.at0 (i + 1) (by omega), hl.at1 (i + 1) (by omega), hl.ne i (by omega), by show (0 : Int) ≤ 2000000; omega, by show (-2000000 : Int) ≤ 0; omega, by show (2000000 : Int) ≤ 2000000; omega⟩
section
variable {evs : List S65} {gaps : List S82} (h : HistIs evs gaps) {C : Int → Int → Int} (hC : tightenF (bindP (fun _ => false) (saidL evs gaps)) = some C) {l : List Int} (hl : StepsOk evs.length l)
include h hC hl
theorem sayC_spec : ∀ n : Nat, n < l.length ∨ n = 0 → BInv 2000000 (sayC C l n) ∧ (∀ t, Sat (sayC C l n) t ↔ Sat C t ∧ ∀ i : Nat, i < n → t (rd l (i : Int)) ≤ t (rd l ((i + 1 : Nat) : Int))) ∧ ∀ i j, C i j ≠ FREE → sayC C l n i j ≠ FREE
 | 0, _ => ⟨(sure_inv h hC).1, fun t => ⟨fun ht => ⟨ht, fun i hi => by omega⟩, fun ht => ht.1⟩, fun i j hf => hf⟩
 | n + 1, hn => by
  have hn' : n + 1 < l.length := hn.resolve_right (by omega); obtain ⟨a, b, c⟩ := sayC_spec n (.inl (by omega)); have hev := h.n
  have i10 : In 10 := ⟨by omega, by omega⟩
  have x0 := hl.at0 n (by omega); have x1 := hl.at1 n (by omega); have y0 := hl.at0 (n + 1) hn'; have y1 := hl.at1 (n + 1) hn'
  have ix : In (rd l (n : Int)) := ⟨x0, by omega⟩
  have iy : In (rd l ((n + 1 : Nat) : Int)) := ⟨y0, by omega⟩
  have fr := ((sure_inv h hC).2 10 _ _ i10 (by omega) ix iy (sure_fin10 h hC _ x0 x1).2 (sure_fin10 h hC _ y0 y1).1).1; obtain ⟨d, e, f⟩ := free_say a ix iy (hl.ne n hn') (c _ _ fr); refine ⟨d, fun t => ?_, fun i j hf => f i j (c i j hf)⟩; show Sat (sayF (sayC C l n) ⟨rd l (n : Int), rd l ((n + 1 : Nat) : Int), 0, FREE⟩) t ↔ _; rw [e t, b t]; constructor
  ·rintro ⟨⟨p, q⟩, r⟩; refine ⟨p, fun i hi => ?_⟩
   by_cases ii : i = n
   ·subst ii; exact r
   ·exact q i (by omega)
  ·rintro ⟨p, q⟩; exact ⟨⟨p, fun i hi => q i (by omega)⟩, q n (by omega)⟩
theorem can_skew (n : Nat) (hn : n < l.length ∨ n = 0) : (tightenF (sayC C l n)).isSome = (solveR evs (gapsC gaps l n)).2 := by
 obtain ⟨a, b, _⟩ := sayC_spec h hC hl n hn; rw [Bool.eq_iff_iff, tighten_iff a, (solve_spec evs _ (gapsC_in h hl n hn)).1]; have hev := h.n; constructor
 ·rintro ⟨t, ht⟩; obtain ⟨p, q⟩ := (b t).mp ht; have f := sure_sat h hC t p; refine ⟨_, fun g hg => ?_, f.2⟩
  rcases List.mem_append.mp hg with hg | hg
  ·exact f.1 g hg
  ·obtain ⟨i, hi, rfl⟩ := List.mem_map.mp hg; have hi := List.mem_range.mp hi; have hn := hn.resolve_right (by omega); have r := q i hi; have e1 : _ ≤ t (rd l (i : Int)) - t 10 ∧ t (rd l (i : Int)) - t 10 ≤ _ := f.2 _ (hl.at0 i (by omega)) (hl.at1 i (by omega)); have e2 : _ ≤ t (rd l ((i + 1 : Nat) : Int)) - t 10 ∧ t (rd l ((i + 1 : Nat) : Int)) - t 10 ≤ _ := f.2 _ (hl.at0 (i + 1) (by omega)) (hl.at1 (i + 1) (by omega)); have e3 := h.evAt _ (hl.at0 i (by omega)) (hl.at1 i (by omega)); have e4 := h.evAt _ (hl.at0 (i + 1) (by omega)) (hl.at1 (i + 1) (by omega)); show (0 : Int) ≤ (t (rd l ((i + 1 : Nat) : Int)) - t 10) - (t (rd l (i : Int)) - t 10) ∧ (t (rd l ((i + 1 : Nat) : Int)) - t 10) - (t (rd l (i : Int)) - t 10) ≤ 2000000; omega
 ·rintro ⟨t, h1, h2⟩; refine ⟨_, (b _).mpr ⟨sure_unsat h hC t ⟨fun g hg => h1 g (List.mem_append.mpr (.inl hg)), h2⟩, fun i hi => ?_⟩⟩; have hn := hn.resolve_right (by omega); have r : (0 : Int) ≤ t (rd l ((i + 1 : Nat) : Int)) - t (rd l (i : Int)) ∧ _ := h1 (stepG l i) (List.mem_append.mpr (.inr (List.mem_map.mpr ⟨i, List.mem_range.mpr hi, rfl⟩))); have e1 := hl.at1 i (by omega); have e2 := hl.at1 (i + 1) (by omega)
  show (if rd l (i : Int) = 10 then 0 else t (rd l (i : Int))) ≤ (if rd l ((i + 1 : Nat) : Int) = 10 then 0 else t (rd l ((i + 1 : Nat) : Int)))
  rw [if_neg (by omega), if_neg (by omega)]; omega
end
end Go.Proofs.YtobcecgcegoooaaGreat.Sk
namespace Go.Proofs.YtobcecgcegoooaaGreat.Sk
open Go.RowKit Go.Proofs.YtobcecgcegoooaaGreatW.PrintWords Go.Proofs.YtobcecgcegoooaaGreatW.PrintLast Go.Proofs.YtobcecgcegoooaaGreatW.PrintMore
set_option linter.unusedVariables false
set_option linter.unusedSimpArgs false
def freeOf (S : Int → Int → Bool) (left : List Int) : Option Int := left.find? fun y => !(left.any fun x => S x y)
def orderL (S : Int → Int → Bool) : Nat → List Int → List Int
 | 0, _ => []
 | n + 1, left => match freeOf S left with
  | none => []
  | some y => y :: orderL S n (left.erase y)
theorem free_mem {S : Int → Int → Bool} {left : List Int} {y : Int} (h : freeOf S left = some y) : y ∈ left ∧ ∀ x ∈ left, S x y = false := by
 refine ⟨List.mem_of_find?_eq_some h, fun x hx => ?_⟩; have := List.find?_some h; rw [Bool.not_eq_true', Bool.eq_false_iff] at this; rw [Bool.eq_false_iff]
 exact fun hs => this (List.any_eq_true.mpr ⟨x, hx, hs⟩)
theorem least_in (t : Int → Int) : ∀ left : List Int, left ≠ [] → ∃ y ∈ left, ∀ x ∈ left, t y ≤ t x
 | [], h => absurd rfl h
 | [a], _ => ⟨a, List.mem_singleton.mpr rfl, fun x hx => by rw [List.mem_singleton.mp hx]; exact Int.le_refl _⟩
 | a :: b :: l, _ => by
  obtain ⟨y, hy, hm⟩ := least_in t (b :: l) (by simp)
  by_cases c : t y ≤ t a
  ·refine ⟨y, List.mem_cons_of_mem _ hy, fun x hx => ?_⟩
   rcases List.mem_cons.mp hx with rfl | hx
   ·exact c
   ·exact hm x hx
  ·refine ⟨a, List.mem_cons_self, fun x hx => ?_⟩
   rcases List.mem_cons.mp hx with rfl | hx
   ·exact Int.le_refl _
   ·have := hm x hx; omega
theorem free_some {S : Int → Int → Bool} (t : Int → Int) {left : List Int} (hS : ∀ x ∈ left, ∀ y ∈ left, S x y = true → t x < t y) (hl : left ≠ []) : ∃ y, freeOf S left = some y := by
 obtain ⟨y, hy, hm⟩ := least_in t left hl
 cases hf : freeOf S left with
 | some z => exact ⟨z, rfl⟩
 | none =>
  exfalso; have := List.find?_eq_none.mp hf y hy; refine this ?_; rw [Bool.not_eq_true', Bool.eq_false_iff]; intro ha; obtain ⟨x, hx, hs⟩ := List.any_eq_true.mp ha; have := hS x hx y hy hs; have := hm x hx; omega
theorem idx_ne {z x : Int} (l : List Int) (h : z ≠ x) : (z :: l).idxOf x = l.idxOf x + 1 := by rw [List.idxOf_cons, show (z == x) = false from beq_eq_false_iff_ne.mpr h]; rfl
section
variable {S : Int → Int → Bool} (t : Int → Int)
theorem order_perm : ∀ (n : Nat) (left : List Int), left.length = n → (∀ x ∈ left, ∀ y ∈ left, S x y = true → t x < t y) → (orderL S n left).Perm left
 | 0, left, hl, _ => by rw [List.length_eq_zero_iff.mp hl]; exact List.Perm.refl _
 | n + 1, left, hl, hS => by
  obtain ⟨y, hy⟩ := free_some t hS (fun e => by rw [e] at hl; cases hl); have hm := (free_mem hy).1; show (match freeOf S left with | none => [] | some y => y :: orderL S n (left.erase y)).Perm left; rw [hy]
  have sub : ∀ x ∈ left.erase y, x ∈ left := fun x hx => List.mem_of_mem_erase hx
  exact (List.Perm.cons y (order_perm n (left.erase y) (by rw [List.length_erase_of_mem hm, hl]; rfl) fun a ha b hb => hS a (sub a ha) b (sub b hb))).trans (List.perm_cons_erase hm).symm
theorem order_ahead : ∀ (n : Nat) (left : List Int), left.length = n → (∀ x ∈ left, ∀ y ∈ left, S x y = true → t x < t y) → ∀ x ∈ left, ∀ y ∈ left, S x y = true → (orderL S n left).idxOf x < (orderL S n left).idxOf y
 | 0, left, hl, _, x, hx, _, _, _ => by rw [List.length_eq_zero_iff.mp hl] at hx; cases hx
 | n + 1, left, hl, hS, x, hx, y, hy, hs => by
  obtain ⟨z, hz⟩ := free_some t hS (fun e => by rw [e] at hl; cases hl); obtain ⟨hm, hno⟩ := free_mem hz
  have e : orderL S (n + 1) left = z :: orderL S n (left.erase z) := by
   show (match freeOf S left with | none => [] | some y => y :: orderL S n (left.erase y)) = _; rw [hz]
  have hxy : x ≠ y := fun e => by have := hS x hx y hy hs; rw [e] at this; omega
  have hyz : y ≠ z := fun e => by rw [e, hno x hx] at hs; cases hs
  rw [e]
  have sub : ∀ x ∈ left.erase z, x ∈ left := fun x hx => List.mem_of_mem_erase hx
  by_cases hxz : x = z
  ·subst hxz; rw [List.idxOf_cons_self, idx_ne _ (fun e => hyz e.symm)]; omega
  ·rw [idx_ne _ (fun e => hxz e.symm), idx_ne _ (fun e => hyz e.symm)]; have := order_ahead n (left.erase z) (by rw [List.length_erase_of_mem hm, hl]; rfl) (fun a ha b hb => hS a (sub a ha) b (sub b hb)) x ((List.mem_erase_of_ne hxz).mpr hx) y ((List.mem_erase_of_ne hyz).mpr hy) hs; omega
end
section
variable {evs : List S65} {gaps : List S82} (h : HistIs evs gaps)
include h
theorem sureB_lt {t : Int → Int} (ht : Fit evs gaps t) (x y : Int) (x0 : 0 ≤ x) (x1 : x < evs.length) (y0 : 0 ≤ y) (y1 : y < evs.length) (hs : sureB evs gaps x y = true) : t x < t y := by
 have := ((sure_solve h x y x0 x1 y0 y1).mp hs).2
 by_cases c : t x < t y
 ·exact c
 ·exact absurd ⟨t, ht, by omega⟩ this
end
end Go.Proofs.YtobcecgcegoooaaGreat.Sk
namespace Go.Proofs.YtobcecgcegoooaaGreat.Sk
open Go.RowKit Go.Proofs.YtobcecgcegoooaaGreatW.PrintWords Go.Proofs.YtobcecgcegoooaaGreatW.PrintLast Go.Proofs.YtobcecgcegoooaaGreatW.PrintMore
set_option linter.unusedVariables false
set_option linter.unusedSimpArgs false
def idxGo (p : Int → Bool) : List Int → Int → Int
 | x :: l, i => if p x = true then i else idxGo p l (i + 1)
 | [], _ => -1
theorem drop_rdi (l : List Int) (i : Nat) (h1 : i < l.length) : l.drop i = rd l (i : Int) :: l.drop (i + 1) := by
 have er : rd l (i : Int) = l[i] := by simp [rd, List.getD_eq_getElem?_getD, h1]
 rw [List.drop_eq_getElem_cons h1, er]
theorem rdi_mem (l : List Int) (i : Nat) (h1 : i < l.length) : rd l (i : Int) ∈ l := by
 have er : rd l (i : Int) = l[i] := by simp [rd, List.getD_eq_getElem?_getD, h1]
 rw [er]; exact List.getElem_mem h1
set_option maxHeartbeats 2000000 in
set_option maxRecDepth 100000 in
theorem idx114_116 (caps : Array Value) (A0 : Option Addr) (c0 : Nat) (l : List Int) (p : Int → Bool) (w : World) (hr0 : Kd.C (Kd.int .i64) w A0 l.length l) (hl : l.length ≤ 1000) (Inv : World → Prop) (hI : Inv w)
  (hp : ∀ (x : Int) (W : World), x ∈ l → Inv W → Below w.heap.size w W → Calls Tryz.prog 20 (#[.int .i64 x] ++ caps) W fun e W' => e = .returned (.bool (p x)) ∧ Inv W' ∧ Below W.heap.size W W') :
  Calls Tryz.prog 19 #[.slice A0 l.length c0, .func (.func 20) #[] caps] w fun e w' => e = .returned (.int .i64 (idxGo p l 0)) ∧ Inv w' ∧ Below w.heap.size w w' := by
 have HR0 := Aa hr0; have HP := Aa hp; have HI := Aa hI; have HL := Aa hl; clear hr0 hp hI hl
 go_enter Tryz.func19, Tryz.ntmps19
 go_wp2
 go_loopw [8] (fun v W => ∃ i : Nat, i ≤ l.length ∧ v = .int .i64 (i : Int) ∧ Aside0 (idxGo p (l.drop i) i = idxGo p l 0) ∧ Aside0 (Inv W) ∧ Aside0 (Below w.heap.size w W)) (fun v _ => l.length - (intOf v).toNat)
 case atStart => exact ⟨0, by omega, rfl, ⟨rfl⟩, HI, ⟨Below.refl _ _⟩⟩
 case round =>
  clear HI; obtain ⟨i, hi, rfl, HA, HI, HB⟩ := hrel
  by_cases hlt : (i : Int) < l.length
  ·have hB : Below w.heap.size w wr := HB.out; have hlen := HL.out
   have hi1000 : (i : Int) < 1000 := by omega
   obtain ⟨ad, e1, hx0⟩ := Kd.at_int (Kd.C_below HR0.out hB) (i : Int) (by omega) hlt; cases e1; rw [Int.toNat_natCast] at hx0; have hA := HA.out; rw [drop_rdi l i (by omega)] at hA; simp only [idxGo] at hA
   obtain ⟨x, hx⟩ : ∃ x, rd l (i : Int) = x := ⟨_, rfl⟩
   have hc := HP.out (rd l (i : Int)) wr (rdi_mem l i (by omega)) HI.out hB; rw [hx] at hx0 hA hc; have HBr := Aa hB; clear HA hx HB hB HI hlen
   cases hpx : p x with
   | true =>
    rw [hpx] at hA hc; rw [if_pos rfl] at hA; have HA := Aa hA; have HC := Aa hc; clear hA hc hpx
    go_wp2_with (go_at_call 20; refine HC.out.mono ?_; rintro e w' ⟨rfl, hi, hb⟩; have HI2 := Aa hi; have HB2 := Aa (Bp HBr.out hb); clear hi hb)
    go_ret
    exact ⟨by rw [← HA.out]; rfl, HI2.out, HB2.out⟩
   | false =>
    rw [hpx] at hA hc; rw [if_neg (by simp)] at hA; have HA := Aa hA; have HC := Aa hc; clear hA hc hpx
    go_wp2_with (go_at_call 20; refine HC.out.mono ?_; rintro e w' ⟨rfl, hi, hb⟩; have HI2 := Aa hi; have HB2 := Aa (Bp HBr.out hb); clear hi hb)
    go_roundw
    case rel => exact ⟨i + 1, by omega, by simp, ⟨by rw [← HA.out]; simp⟩, HI2, HB2⟩
    case measure => simp [intOf]; omega
  ·obtain rfl : i = l.length := by omega
   have hA := HA.out; rw [List.drop_length] at hA; simp only [idxGo] at hA; have HA := Aa hA; have HBr := Aa (show Below w.heap.size w wr from HB.out); have HIr := Aa (show Inv wr from HI.out); clear hA HB HI; go_wp2; go_ret; exact ⟨by rw [← HA.out]; rfl, HIr.out, HBr.out⟩
set_option maxHeartbeats 2000000 in
set_option maxRecDepth 100000 in
theorem idx114_118 (caps : Array Value) (A0 : Option Addr) (c0 : Nat) (l : List Int) (p : Int → Bool) (w : World) (hr0 : Kd.C (Kd.int .i64) w A0 l.length l) (hl : l.length ≤ 1000) (Inv : World → Prop) (hI : Inv w)
  (hp : ∀ (x : Int) (W : World), x ∈ l → Inv W → Below w.heap.size w W → Calls Tryz.prog 22 (#[.int .i64 x] ++ caps) W fun e W' => e = .returned (.bool (p x)) ∧ Inv W' ∧ Below W.heap.size W W') :
  Calls Tryz.prog 19 #[.slice A0 l.length c0, .func (.func 22) #[] caps] w fun e w' => e = .returned (.int .i64 (idxGo p l 0)) ∧ Inv w' ∧ Below w.heap.size w w' := by
 have HR0 := Aa hr0; have HP := Aa hp; have HI := Aa hI; have HL := Aa hl; clear hr0 hp hI hl
 go_enter Tryz.func19, Tryz.ntmps19
 go_wp2
 go_loopw [8] (fun v W => ∃ i : Nat, i ≤ l.length ∧ v = .int .i64 (i : Int) ∧ Aside0 (idxGo p (l.drop i) i = idxGo p l 0) ∧ Aside0 (Inv W) ∧ Aside0 (Below w.heap.size w W)) (fun v _ => l.length - (intOf v).toNat)
 case atStart => exact ⟨0, by omega, rfl, ⟨rfl⟩, HI, ⟨Below.refl _ _⟩⟩
 case round =>
  clear HI; obtain ⟨i, hi, rfl, HA, HI, HB⟩ := hrel
  by_cases hlt : (i : Int) < l.length
  ·have hB : Below w.heap.size w wr := HB.out; have hlen := HL.out
   have hi1000 : (i : Int) < 1000 := by omega
   obtain ⟨ad, e1, hx0⟩ := Kd.at_int (Kd.C_below HR0.out hB) (i : Int) (by omega) hlt; cases e1; rw [Int.toNat_natCast] at hx0; have hA := HA.out; rw [drop_rdi l i (by omega)] at hA; simp only [idxGo] at hA
   obtain ⟨x, hx⟩ : ∃ x, rd l (i : Int) = x := ⟨_, rfl⟩
   have hc := HP.out (rd l (i : Int)) wr (rdi_mem l i (by omega)) HI.out hB; rw [hx] at hx0 hA hc; have HBr := Aa hB; clear HA hx HB hB HI hlen
   cases hpx : p x with
   | true =>
    rw [hpx] at hA hc; rw [if_pos rfl] at hA; have HA := Aa hA; have HC := Aa hc; clear hA hc hpx
    go_wp2_with (go_at_call 22; refine HC.out.mono ?_; rintro e w' ⟨rfl, hi, hb⟩; have HI2 := Aa hi; have HB2 := Aa (Bp HBr.out hb); clear hi hb)
    go_ret
    exact ⟨by rw [← HA.out]; rfl, HI2.out, HB2.out⟩
   | false =>
    rw [hpx] at hA hc; rw [if_neg (by simp)] at hA; have HA := Aa hA; have HC := Aa hc; clear hA hc hpx
    go_wp2_with (go_at_call 22; refine HC.out.mono ?_; rintro e w' ⟨rfl, hi, hb⟩; have HI2 := Aa hi; have HB2 := Aa (Bp HBr.out hb); clear hi hb)
    go_roundw
    case rel => exact ⟨i + 1, by omega, by simp, ⟨by rw [← HA.out]; simp⟩, HI2, HB2⟩
    case measure => simp [intOf]; omega
  ·obtain rfl : i = l.length := by omega
   have hA := HA.out; rw [List.drop_length] at hA; simp only [idxGo] at hA; have HA := Aa hA; have HBr := Aa (show Below w.heap.size w wr from HB.out); have HIr := Aa (show Inv wr from HI.out); clear hA HB HI; go_wp2; go_ret; exact ⟨by rw [← HA.out]; rfl, HIr.out, HBr.out⟩
theorem cl118_calls (b bb yb : Nat) (e g : Value) (B : Int → Int → Int) (x y : Int) (w : World) (h : Bd w b e g B) (hbb : w.heap[bb]? = some (.cells #[.pointer (some ⟨b, 0, none⟩)] 38 (0, 0))) (hyb : w.heap[yb]? = some (.cells #[.int .i64 y] 3 (0, 0))) (x0 : 0 ≤ x) (x1 : x < 11) (y0 : 0 ≤ y) (y1 : y < 11) :
  Calls Tryz.prog 22 #[.int .i64 x, .pointer (some ⟨bb, 0, none⟩), .pointer (some ⟨yb, 0, none⟩)] w fun ee w' => ee = .returned (.bool (decide (B y x < 0))) ∧ w' = w := by
 have c1 := cell_at hbb 0 (.pointer (some ⟨b, 0, none⟩)) rfl; have c2 := cell_at hyb 0 (.int .i64 y) rfl; have HS := Aa (sure_calls b e g B x y w h x0 x1 y0 y1)
 go_enter Tryz.func22, Tryz.ntmps22
 go_wp2_with (go_at_call 15; refine HS.out.mono ?_; rintro ee w' ⟨rfl, rfl⟩)
 go_ret; exact ⟨rfl, rfl⟩
def hasBefore (B : Int → Int → Int) (l : List Int) (y : Int) : Bool := decide (idxGo (fun x => decide (B y x < 0)) l 0 ≥ 0)
theorem cont117_calls (A0 : Option Addr) (c0 : Nat) (l : List Int) (b bb yb : Nat) (e g : Value) (B : Int → Int → Int) (y : Int) (w : World) (hr0 : Kd.C (Kd.int .i64) w A0 l.length l) (hl : l.length ≤ 1000) (hr : ∀ x ∈ l, 0 ≤ x ∧ x < 11) (h : Bd w b e g B)
  (hbb : w.heap[bb]? = some (.cells #[.pointer (some ⟨b, 0, none⟩)] 38 (0, 0))) (hyb : w.heap[yb]? = some (.cells #[.int .i64 y] 3 (0, 0))) (y0 : 0 ≤ y) (y1 : y < 11) :
  Calls Tryz.prog 21 #[.slice A0 l.length c0, .func (.func 22) #[] #[.pointer (some ⟨bb, 0, none⟩), .pointer (some ⟨yb, 0, none⟩)]] w fun ee w' => ee = .returned (.bool (hasBefore B l y)) ∧ Below w.heap.size w w' := by
 have HC := Aa (idx114_118 #[.pointer (some ⟨bb, 0, none⟩), .pointer (some ⟨yb, 0, none⟩)] A0 c0 l (fun x => decide (B y x < 0)) w hr0 hl (fun _ => True) trivial (fun x W hx _ hB => (cl118_calls b bb yb e g B x y W (h.below hB) (blk_below hbb hB) (blk_below hyb hB) (hr x hx).1 (hr x hx).2 y0 y1).mono fun ee w' ⟨h1, h2⟩ => ⟨h1, trivial, by rw [h2]; exact Below.refl _ _⟩)); clear hr0 hr
 go_enter Tryz.func21, Tryz.ntmps21
 go_wp2_with (go_at_call 19; refine HC.out.mono ?_; rintro ee w' ⟨rfl, _, hb⟩; have HB := Aa hb; clear hb)
 go_ret; exact ⟨rfl, HB.out⟩
set_option maxHeartbeats 2000000 in
set_option maxRecDepth 100000 in
theorem cl116_calls (A0 : Option Addr) (c0 : Nat) (l : List Int) (b bb lb : Nat) (e g : Value) (B : Int → Int → Int) (y : Int) (w : World) (hr0 : Kd.C (Kd.int .i64) w A0 l.length l) (hl : l.length ≤ 1000) (hr : ∀ x ∈ l, 0 ≤ x ∧ x < 11) (h : Bd w b e g B)
  (hbb : w.heap[bb]? = some (.cells #[.pointer (some ⟨b, 0, none⟩)] 38 (0, 0))) (hlb : w.heap[lb]? = some (.cells #[.slice A0 l.length c0] 26 (0, 0))) (y0 : 0 ≤ y) (y1 : y < 11) :
  Calls Tryz.prog 20 #[.int .i64 y, .pointer (some ⟨lb, 0, none⟩), .pointer (some ⟨bb, 0, none⟩)] w fun ee w' => ee = .returned (.bool (!hasBefore B l y)) ∧ Below w.heap.size w w' := by
 have hb0 := Ba (Below.refl w.heap.size w) (.cells #[.int .i64 y] 3); have HC := Aa (cont117_calls A0 c0 l b bb w.heap.size e g B y (w.alloc (.cells #[.int .i64 y] 3)) (Kd.C_below hr0 hb0) hl hr (h.below hb0) (blk_below hbb hb0) (blk_new w _) y0 y1); have HB0 := Aa hb0; have x0 := cell_at (blk_below hlb hb0) 0 (.slice A0 l.length c0) rfl; clear hr0 hr h hbb hlb hb0
 go_enter Tryz.func20, Tryz.ntmps20
 go_wp2_with (go_at_call 21; refine HC.out.mono ?_; rintro ee w' ⟨rfl, hb⟩; have HB := Aa (Bp HB0.out hb); clear hb)
 go_ret; exact ⟨rfl, HB.out⟩
end Go.Proofs.YtobcecgcegoooaaGreat.Sk
namespace Go.Proofs
open Go.Shelf
def Tryz.lays2_23_ren : Go.Shelf.Ren := ⟨fun | 23 => 23 | n => n, fun | 22 => 26 | 3 => 3 | 4 => 4 | 0 => 0 | n => n, fun | n => n⟩
theorem Tryz.lays2_23 : Go.Proofs.Lays2.n23 Tryz.prog Tryz.lays2_23_ren := {
 mixed := by kernel_rfl
 f23 := Tryz.func23.trans (congrArg some (by kernel_rfl))
 t0 := Tryz.underlying0
 a0 := Tryz.isAgg0
 z0 := Tryz.sizeOf0
 v0 := Tryz.zeroValue0
 t3 := Tryz.underlying3
 a3 := Tryz.isAgg3
 z3 := Tryz.sizeOf3
 v3 := Tryz.zeroValue3
 t4 := Tryz.underlying4
 a4 := Tryz.isAgg4
 z4 := Tryz.sizeOf4
 v4 := Tryz.zeroValue4
 t22 := Tryz.underlying26
 a22 := Tryz.isAgg26
 z22 := Tryz.sizeOf26
 v22 := Tryz.zeroValue26
 i3 := by kernel_rfl }
end Go.Proofs
namespace Go.Proofs.YtobcecgcegoooaaGreat.Sk
open Go.RowKit Go.Shelf Go.Sort Go.Proofs.YtobcecgcegoooaaGreatW.PrintWords Go.Proofs.YtobcecgcegoooaaGreatW.PrintLast Go.Proofs.YtobcecgcegoooaaGreatW.PrintMore
set_option linter.unusedVariables false
set_option linter.unusedSimpArgs false
theorem putRow_block (w : World) (g n : Nat) (d : Array Int) (cur : Array Value) (e : TypeId) (fr : Nat × Nat) (h : w.heap[g]? = some (.cells cur e fr)) : (putRow (Value.int .i64) (Sort.ahead w n) g 0 d).heap[g]? = some (.cells (putCells (Value.int .i64) 0 d cur) e fr) := by
 unfold putRow mapBlock Sort.ahead
 simp [Array.getElem?_modify, h, onCells]
theorem putRow_far (w : World) (g n k : Nat) (d : Array Int) (hk : k ≠ g) : (putRow (Value.int .i64) (Sort.ahead w n) g 0 d).heap[k]? = w.heap[k]? := by
 unfold putRow mapBlock Sort.ahead; simp only [Array.getElem?_modify]; rw [if_neg (fun e => hk e.symm)]
theorem putCells_take (d : List Int) (cur : Array Value) (n : Nat) (hn : n ≤ d.length) (hc : d.length ≤ cur.size) : (putCells (Value.int .i64) 0 d.toArray cur).toList.take n = encs (Value.int .i64) (d.take n) := by
 apply List.ext_getElem?; intro j; rw [List.getElem?_take]
 by_cases hj : j < n
 ·rw [if_pos hj, Array.getElem?_toList]; simp only [putCells, Array.getElem?_mapIdx, encs, List.getElem?_map, List.getElem?_take, if_pos hj]; rw [Array.getElem?_eq_getElem (by omega), Option.map_some, if_pos ⟨by omega, by simp; omega⟩, List.getElem?_eq_getElem (by omega), Option.map_some]
  simp [getElem!_pos, show j < d.length by omega]
 ·rw [if_neg hj, List.getElem?_eq_none (by rw [encs_length]; simp; omega)]
theorem del119 (w : World) (base : Nat) (ok : Nat → Prop) (v : Value) (l : List Int) (k : Nat) (hk : k < l.length) (h : (Kd.int .i64).R 3 w base ok v l) :
  Calls Tryz.prog 23 #[v, .int .i64 (k : Int), .int .i64 ((k + 1 : Nat) : Int)] w fun e w' => ∃ v', e = .returned v' ∧ (Kd.int .i64).R 3 w' base ok v' (l.take k ++ l.drop (k + 1)) ∧ v'.ownBlock = v.ownBlock ∧ w.grownBy w' v.ownBlock ∧ w'.heap.size = w.heap.size := by
 have hown := Kd.own_of_R (enc := Value.int .i64) (h1 := fun _ => rfl) h; have hok := h.1; obtain ⟨hl, ⟨_, hn⟩ | ⟨g, cap, cur, rfl, hbg, hh, hcap, hmax, hsz, htk⟩⟩ := hown
 ·omega
 ·rw [Nat.mul_one] at hsz htk
  have hcell : ∀ j, j < l.length → cur[j]? = some (.int .i64 (l.getD j 0)) := by
   intro j hj; have h1 := congrArg (·[j]?) htk; simp only [List.getElem?_take, if_pos hj, Array.getElem?_toList] at h1; rw [h1, encs_get (d := 0) l j hj]
  have hH : Holds (Value.int .i64) w g 0 l.toArray := by
   intro j hj
   have hj' : j < l.length := by simpa using hj
   refine ⟨?_, Bf hh _⟩; rw [Nat.zero_add]; refine cell_at hh j _ ?_; rw [hcell j hj']
   simp [hj', List.getD_eq_getElem?_getD]
  have hm : cap ≤ 9223372036854775807 := by simpa [maxLen] using hmax
  have hC := Any.slices_Delete_int_arr Tryz.lays2_23 g 0 cap k (k + 1) l.toArray w hH (by simpa using hcap) hm (by omega) (by simp; omega); have hf : Tryz.lays2_23_ren.f 23 = 23 := rfl; rw [hf] at hC; refine Calls.mono (by simpa using hC) ?_; rintro e w' ⟨rfl, q, rfl⟩
  have hsl : (l.take k ++ l.drop (k + 1) ++ List.replicate (k + 1 - k) (0 : Int)).length = l.length := by simp; omega
  have hlen2 : (l.take k ++ l.drop (k + 1)).length = l.length - 1 := by simp; omega
  refine ⟨_, rfl, ?_, rfl, ⟨rfl, rfl, rfl, by simp [Sort.ahead], fun i hi hne => putRow_far w g q i _ (fun e => hne (by subst e; rfl))⟩, by simp [Sort.ahead]⟩; refine Kd.R_of_own (enc := Value.int .i64) (h1 := fun _ => rfl) ?_ (fun k hk => hok k hk); refine ⟨by rw [encs_length, Nat.mul_one], .inr ⟨g, cap, _, ?_, hbg, putRow_block w g q _ cur 3 (0, 0) hh, by omega, hmax, ?_, ?_⟩⟩
  ·rw [hlen2]
  ·simp [putCells]; omega
  ·have hsl' : (l.take k ++ (l.drop (k + 1) ++ [(0 : Int)])).length = l.length := by simp; omega
   have := putCells_take (l.take k ++ (l.drop (k + 1) ++ [(0 : Int)])) cur (l.length - 1) (by omega) (by omega); rw [hlen2, Nat.mul_one, this, ← List.append_assoc, List.take_append_of_le_length (by omega), List.take_of_length_le (by omega)]
end Go.Proofs.YtobcecgcegoooaaGreat.Sk

/- Sets of numbers below 64 as numbers; how many they are. -/
import Derived.Laws.BitsAllLaws
import Derived.Laws.Bits128
import Derived.Test.YtbffhblebigcfaaCCaGCounts
namespace Go.Proofs.Ytbffhblebigcfaa.Sk
open Go.RowKit Go.Proofs.YtbffhblebigcfaaW.PrintWords Go.Proofs.YtbffhblebigcfaaW.PrintLast Go.Proofs.YtbffhblebigcfaaW.PrintMore
set_option linter.unusedVariables false
set_option linter.unusedSimpArgs false
def mk (c : Nat) : Nat → Nat
  | 0 => 0
  | n + 1 => c + 256 * mk c n
def bw (f : Nat → Nat) : Nat → Nat → Nat
  | 0, _ => 0
  | n + 1, x => f (x % 256) + 256 * bw f n (x / 256)
theorem land_byte (x c m : Nat) (hc : c < 256) : x &&& (c + 256 * m) = (x % 256 &&& c) + 256 * (x / 256 &&& m) := by
  have h1 : (x &&& (c + 256 * m)) % 2 ^ 8 = x % 2 ^ 8 &&& (c + 256 * m) % 2 ^ 8 := Nat.and_mod_two_pow ..
  have h2 : (x &&& (c + 256 * m)) / 2 ^ 8 = x / 2 ^ 8 &&& (c + 256 * m) / 2 ^ 8 := Nat.and_div_two_pow ..
  rw [show (2 : Nat) ^ 8 = 256 by decide] at h1 h2
  rw [show (c + 256 * m) % 256 = c by omega] at h1
  rw [show (c + 256 * m) / 256 = m by omega] at h2
  omega
def f1 (c : Nat) : Nat := (c / 2 &&& 85) + (c &&& 85)
def f2 (c : Nat) : Nat := (c / 4 &&& 51) + (c &&& 51)
def f3 (c : Nat) : Nat := c / 16 + c % 16
theorem half_byte : ∀ c : Fin 256, ∀ b : Fin 2, (c.val / 2 + 128 * b.val) &&& 85 = c.val / 2 &&& 85 := by decide +kernel
theorem quarter_byte : ∀ c : Fin 256, ∀ b : Fin 4, (c.val / 4 + 64 * b.val) &&& 51 = c.val / 4 &&& 51 := by decide +kernel
theorem f1_lt : ∀ c : Fin 256, f1 c.val < 256 := by decide +kernel
theorem f2_lt : ∀ c : Fin 256, f2 (f1 c.val) < 256 ∧ f2 (f1 c.val) / 16 ≤ 4 ∧ f2 (f1 c.val) % 16 ≤ 4 := by decide +kernel
theorem step1 : ∀ (n x : Nat), (x / 2 &&& mk 85 n) + (x &&& mk 85 n) = bw f1 n x
  | 0, x => by simp [mk, bw]
  | n + 1, x => by
    simp only [mk, bw]
    rw [land_byte _ _ _ (by decide), land_byte _ _ _ (by decide)]
    have e1 : x / 2 % 256 = (x % 256) / 2 + 128 * (x / 256 % 2) := by omega
    have e2 : x / 2 / 256 = x / 256 / 2 := by omega
    have hb := half_byte ⟨x % 256, by omega⟩ ⟨x / 256 % 2, by omega⟩
    simp only at hb
    rw [e1, hb, e2, ← step1 n (x / 256)]
    unfold f1
    omega
theorem step2 : ∀ (n x : Nat), (x / 4 &&& mk 51 n) + (x &&& mk 51 n) = bw f2 n x
  | 0, x => by simp [mk, bw]
  | n + 1, x => by
    simp only [mk, bw]
    rw [land_byte _ _ _ (by decide), land_byte _ _ _ (by decide)]
    have e1 : x / 4 % 256 = (x % 256) / 4 + 64 * (x / 256 % 4) := by omega
    have e2 : x / 4 / 256 = x / 256 / 4 := by omega
    have hb := quarter_byte ⟨x % 256, by omega⟩ ⟨x / 256 % 4, by omega⟩
    simp only at hb
    rw [e1, hb, e2, ← step2 n (x / 256)]
    unfold f2
    omega
def ab (p : Nat → Prop) : Nat → Nat → Prop
  | 0, _ => True
  | n + 1, x => p (x % 256) ∧ ab p n (x / 256)
theorem and15 : ∀ c : Fin 256, c.val &&& 15 = c.val % 16 := by decide +kernel
theorem step3 : ∀ (n x : Nat), ab (fun c => c / 16 ≤ 4 ∧ c % 16 ≤ 4) n x → ((x / 16 + x) &&& mk 15 n) = bw f3 n x
  | 0, x, _ => by simp [mk, bw]
  | n + 1, x, h => by
    obtain ⟨⟨h1, h2⟩, h3⟩ := h
    simp only [mk, bw]
    rw [land_byte _ _ _ (by decide)]
    cases n with
    | zero =>
      have e1 : (x / 16 + x) % 256 = (x % 256 / 16 + x % 256 + 16 * (x / 256 % 16)) % 256 := by omega
      have hb := and15 ⟨(x / 16 + x) % 256, by omega⟩
      simp only at hb
      rw [hb]
      simp only [mk, bw, Nat.and_zero, Nat.mul_zero, Nat.add_zero]
      unfold f3
      omega
    | succ n =>
      have h4 := h3.1.2
      obtain ⟨c, hc⟩ : ∃ c, x % 256 = c := ⟨_, rfl⟩
      obtain ⟨y, hy⟩ : ∃ y, x / 256 = y := ⟨_, rfl⟩
      have hx : x = c + 256 * y := by omega
      rw [hy] at h4 h3 ⊢
      rw [hc] at h1 h2 ⊢
      have hy4 : y % 16 ≤ 4 := by omega
      clear h4
      have hx16 : x / 16 = c / 16 + 16 * y := by omega
      have hy16 : 16 * y = 16 * (y % 16) + 256 * (y / 16) := by omega
      have e0 : x / 16 + x = (c / 16 + c + 16 * (y % 16)) + 256 * (y / 16 + y) := by omega
      have hlt : c / 16 + c + 16 * (y % 16) < 256 := by omega
      rw [e0]
      generalize hq : y / 16 + y = q
      have e1 : (c / 16 + c + 16 * (y % 16) + 256 * q) % 256 = c / 16 + c + 16 * (y % 16) := by omega
      have e2 : (c / 16 + c + 16 * (y % 16) + 256 * q) / 256 = q := by omega
      rw [e1, e2, ← hq, step3 (n + 1) y h3]
      have hb := and15 ⟨c / 16 + c + 16 * (y % 16), hlt⟩
      simp only at hb
      rw [hb]
      unfold f3
      have : (c / 16 + c + 16 * (y % 16)) % 16 = c / 16 + c % 16 := by omega
      rw [this]
theorem bw_comp (f g : Nat → Nat) (hf : ∀ c, c < 256 → f c < 256) : ∀ (n x : Nat), bw g n (bw f n x) = bw (fun c => g (f c)) n x
  | 0, x => rfl
  | n + 1, x => by
    simp only [bw]
    have h := hf (x % 256) (by omega)
    rw [show (f (x % 256) + 256 * bw f n (x / 256)) % 256 = f (x % 256) by omega, show (f (x % 256) + 256 * bw f n (x / 256)) / 256 = bw f n (x / 256) by omega, bw_comp f g hf n]
theorem ab_bw (f : Nat → Nat) (p : Nat → Prop) (hf : ∀ c, c < 256 → f c < 256 ∧ p (f c)) : ∀ (n x : Nat), ab p n (bw f n x)
  | 0, x => trivial
  | n + 1, x => by
    have h := hf (x % 256) (by omega)
    simp only [bw, ab]
    rw [show (f (x % 256) + 256 * bw f n (x / 256)) % 256 = f (x % 256) by omega, show (f (x % 256) + 256 * bw f n (x / 256)) / 256 = bw f n (x / 256) by omega]
    exact ⟨h.2, ab_bw f p hf n _⟩
def pc : Nat → Nat → Nat
  | 0, _ => 0
  | n + 1, x => x % 2 + pc n (x / 2)
theorem pc_add (b : Nat) : ∀ (a x : Nat), pc (a + b) x = pc a x + pc b (x / 2 ^ a)
  | 0, x => by simp [pc]
  | a + 1, x => by
    rw [show a + 1 + b = (a + b) + 1 by omega]
    simp only [pc]
    rw [pc_add b a (x / 2), Nat.div_div_eq_div_mul, show 2 * 2 ^ a = 2 ^ (a + 1) by rw [Nat.pow_succ]; omega]
    omega
theorem pc8 : ∀ c : Fin 256, f3 (f2 (f1 c.val)) = pc 8 c.val ∧ pc 8 c.val ≤ 8 := by decide +kernel
theorem pc_mod : ∀ (n x : Nat), pc n (x % 2 ^ n) = pc n x
  | 0, x => rfl
  | n + 1, x => by
    simp only [pc]
    have e1 : x % 2 ^ (n + 1) % 2 = x % 2 := by rw [Nat.pow_succ, Nat.mul_comm]; exact Nat.mod_mul_right_mod x 2 (2 ^ n)
    have e2 : x % 2 ^ (n + 1) / 2 = x / 2 % 2 ^ n := by rw [Nat.pow_succ, Nat.mul_comm, Nat.mod_mul_right_div_self]
    rw [e1, e2, pc_mod n]
def bsum (f : Nat → Nat) : Nat → Nat → Nat
  | 0, _ => 0
  | n + 1, x => f (x % 256) + bsum f n (x / 256)
theorem pc_bytes : ∀ (n x : Nat), pc (8 * n) x = bsum (pc 8) n x
  | 0, x => rfl
  | n + 1, x => by
    rw [show 8 * (n + 1) = 8 + 8 * n by omega, pc_add, pc_bytes n]
    simp only [bsum]
    have := pc_mod 8 x
    rw [show (2 : Nat) ^ 8 = 256 by decide] at this ⊢
    rw [this]
theorem mk_vals : mk 85 8 = 6148914691236517205 ∧ mk 51 8 = 3689348814741910323 ∧ mk 15 8 = 1085102592571150095 := by decide
theorem div_two (A B Q : Nat) (hA : A < 256) (hB : B < 256) : (A + 256 * (B + 256 * Q)) / 65536 = Q := by omega
theorem div_one (A Q : Nat) (hA : A < 256) : (A + 256 * Q) / 256 = Q := by omega
theorem div_four (A B C D Q : Nat) (hA : A < 256) (hB : B < 256) (hC : C < 256) (hD : D < 256) : (A + 256 * (B + 256 * (C + 256 * (D + 256 * Q)))) / 4294967296 = Q := by
  rw [show (4294967296 : Nat) = 65536 * 65536 by decide, ← Nat.div_div_eq_div_mul, div_two A B _ hA hB, div_two C D _ hC hD]
theorem mod128 (A Q : Nat) (hA : A < 128) : (A + 256 * Q) % 128 = A := by omega
theorem lin2 (a b c d e f g h : Nat) : (a + 256 * (b + 256 * (c + 256 * (d + 256 * (e + 256 * (f + 256 * (g + 256 * h))))))) + (b + 256 * (c + 256 * (d + 256 * (e + 256 * (f + 256 * (g + 256 * h)))))) = (a + b) + 256 * ((b + c) + 256 * ((c + d) + 256 * ((d + e) + 256 * ((e + f) + 256 * ((f + g) + 256 * ((g + h) + 256 * h)))))) := by omega
theorem lin4 (A B C D E F G H : Nat) : (A + 256 * (B + 256 * (C + 256 * (D + 256 * (E + 256 * (F + 256 * (G + 256 * H))))))) + (C + 256 * (D + 256 * (E + 256 * (F + 256 * (G + 256 * H))))) = (A + C) + 256 * ((B + D) + 256 * ((C + E) + 256 * ((D + F) + 256 * ((E + G) + 256 * ((F + H) + 256 * (G + 256 * H)))))) := by omega
theorem lin6 (A B C D E F G H : Nat) : (A + 256 * (B + 256 * (C + 256 * (D + 256 * (E + 256 * (F + 256 * (G + 256 * H))))))) + (E + 256 * (F + 256 * (G + 256 * H))) = (A + E) + 256 * ((B + F) + 256 * ((C + G) + 256 * ((D + H) + 256 * (E + 256 * (F + 256 * (G + 256 * H)))))) := by omega
theorem bd8 (a b c d e f g h : Nat) (ha : a ≤ 64) (hb : b ≤ 64) (hc : c ≤ 64) (hd : d ≤ 64) (he : e ≤ 64) (hf : f ≤ 64) (hg : g ≤ 64) (hh : h ≤ 64) : a + 256 * (b + 256 * (c + 256 * (d + 256 * (e + 256 * (f + 256 * (g + 256 * h)))))) < 18446744073709551616 := by omega
theorem fold8 (z a b c d e f g h : Nat) (ha : a ≤ 8) (hb : b ≤ 8) (hc : c ≤ 8) (hd : d ≤ 8) (he : e ≤ 8) (hf : f ≤ 8) (hg : g ≤ 8) (hh : h ≤ 8) (hz : z = a + 256 * (b + 256 * (c + 256 * (d + 256 * (e + 256 * (f + 256 * (g + 256 * h))))))) :
    ∃ y x, y = z + z / 256 ∧ x = y + y / 65536 ∧ (x + x / 4294967296) % 128 = a + b + c + d + e + f + g + h ∧ y < 18446744073709551616 ∧ x < 18446744073709551616 ∧ x + x / 4294967296 < 18446744073709551616 := by
  have e1 : z / 256 = b + 256 * (c + 256 * (d + 256 * (e + 256 * (f + 256 * (g + 256 * h))))) := by rw [hz, div_one _ _ (Nat.lt_of_le_of_lt ha (by decide))]
  have e2 : z + z / 256 = (a + b) + 256 * ((b + c) + 256 * ((c + d) + 256 * ((d + e) + 256 * ((e + f) + 256 * ((f + g) + 256 * ((g + h) + 256 * h)))))) := by rw [e1, hz]; exact lin2 _ _ _ _ _ _ _ _
  clear e1 hz
  obtain ⟨y, hy⟩ : ∃ y, y = z + z / 256 := ⟨_, rfl⟩
  rw [← hy] at e2
  obtain ⟨A, hA⟩ : ∃ A, a + b = A := ⟨_, rfl⟩
  obtain ⟨B, hB⟩ : ∃ B, b + c = B := ⟨_, rfl⟩
  obtain ⟨C, hC⟩ : ∃ C, c + d = C := ⟨_, rfl⟩
  obtain ⟨D, hD⟩ : ∃ D, d + e = D := ⟨_, rfl⟩
  obtain ⟨E, hE⟩ : ∃ E, e + f = E := ⟨_, rfl⟩
  obtain ⟨F, hF⟩ : ∃ F, f + g = F := ⟨_, rfl⟩
  obtain ⟨G, hG⟩ : ∃ G, g + h = G := ⟨_, rfl⟩
  rw [hA, hB, hC, hD, hE, hF, hG] at e2
  have bA : A ≤ 16 := hA ▸ Nat.add_le_add ha hb
  have bB : B ≤ 16 := hB ▸ Nat.add_le_add hb hc
  have bC : C ≤ 16 := hC ▸ Nat.add_le_add hc hd
  have bD : D ≤ 16 := hD ▸ Nat.add_le_add hd he
  have bE : E ≤ 16 := hE ▸ Nat.add_le_add he hf
  have bF : F ≤ 16 := hF ▸ Nat.add_le_add hf hg
  have bG : G ≤ 16 := hG ▸ Nat.add_le_add hg hh
  have bH : h ≤ 16 := Nat.le_trans hh (by decide)
  have l64 : ∀ {n : Nat}, n ≤ 16 → n ≤ 64 := fun h => Nat.le_trans h (by decide)
  have l256 : ∀ {n : Nat}, n ≤ 16 → n < 256 := fun h => Nat.lt_of_le_of_lt h (by decide)
  have ylt : y < 18446744073709551616 := by rw [e2]; exact bd8 _ _ _ _ _ _ _ _ (l64 bA) (l64 bB) (l64 bC) (l64 bD) (l64 bE) (l64 bF) (l64 bG) (l64 bH)
  have e3 : y / 65536 = C + 256 * (D + 256 * (E + 256 * (F + 256 * (G + 256 * h)))) := by rw [e2, div_two _ _ _ (l256 bA) (l256 bB)]
  have e4 : y + y / 65536 = (A + C) + 256 * ((B + D) + 256 * ((C + E) + 256 * ((D + F) + 256 * ((E + G) + 256 * ((F + h) + 256 * (G + 256 * h)))))) := by rw [e3, e2]; exact lin4 _ _ _ _ _ _ _ _
  obtain ⟨x, hx⟩ : ∃ x, x = y + y / 65536 := ⟨_, rfl⟩
  rw [← hx] at e4
  have k32 : ∀ {m n : Nat}, m ≤ 16 → n ≤ 16 → m + n ≤ 32 := fun h h' => Nat.add_le_add h h'
  have m64 : ∀ {n : Nat}, n ≤ 32 → n ≤ 64 := fun h => Nat.le_trans h (by decide)
  have m256 : ∀ {n : Nat}, n ≤ 32 → n < 256 := fun h => Nat.lt_of_le_of_lt h (by decide)
  have xlt : x < 18446744073709551616 := by rw [e4]; exact bd8 _ _ _ _ _ _ _ _ (m64 (k32 bA bC)) (m64 (k32 bB bD)) (m64 (k32 bC bE)) (m64 (k32 bD bF)) (m64 (k32 bE bG)) (m64 (k32 bF bH)) (l64 bG) (l64 bH)
  have e5 : x / 4294967296 = (E + G) + 256 * ((F + h) + 256 * (G + 256 * h)) := by rw [e4, div_four _ _ _ _ _ (m256 (k32 bA bC)) (m256 (k32 bB bD)) (m256 (k32 bC bE)) (m256 (k32 bD bF))]
  have e6 : x + x / 4294967296 = (A + C + (E + G)) + 256 * ((B + D + (F + h)) + 256 * ((C + E + G) + 256 * ((D + F + h) + 256 * ((E + G) + 256 * ((F + h) + 256 * (G + 256 * h)))))) := by rw [e5, e4]; exact lin6 _ _ _ _ _ _ _ _
  refine ⟨y, x, hy, hx, ?_, ylt, xlt, ?_⟩
  · rw [e6, mod128 _ _ (Nat.lt_of_le_of_lt (Nat.add_le_add (k32 bA bC) (k32 bE bG)) (by decide)), ← hA, ← hC, ← hE, ← hG]
    simp only [Nat.add_assoc]
  · rw [e6]
    exact bd8 _ _ _ _ _ _ _ _ (Nat.add_le_add (k32 bA bC) (k32 bE bG)) (Nat.add_le_add (k32 bB bD) (k32 bF bH)) (Nat.le_trans (Nat.add_le_add (k32 bC bE) bG) (by decide)) (Nat.le_trans (Nat.add_le_add (k32 bD bF) bH) (by decide)) (m64 (k32 bE bG)) (m64 (k32 bF bH)) (l64 bG) (l64 bH)
theorem bw_lt (f : Nat → Nat) (hf : ∀ c, c < 256 → f c < 256) : ∀ (n x : Nat), bw f n x < 256 ^ n
  | 0, x => by simp [bw]
  | n + 1, x => by
    have h := hf (x % 256) (by omega)
    have h2 := bw_lt f hf n (x / 256)
    simp only [bw]
    rw [Nat.pow_succ]
    omega
theorem F1 (c : Nat) (h : c < 256) : f1 c < 256 := f1_lt ⟨c, h⟩
theorem F2 (c : Nat) (h : c < 256) : f2 (f1 c) < 256 ∧ f2 (f1 c) / 16 ≤ 4 ∧ f2 (f1 c) % 16 ≤ 4 := f2_lt ⟨c, h⟩
theorem F3 (c : Nat) (h : c < 256) : f3 (f2 (f1 c)) = pc 8 c ∧ pc 8 c ≤ 8 := pc8 ⟨c, h⟩
theorem step23 (n x : Nat) : bw f2 n (bw f1 n x) = bw (fun c => f2 (f1 c)) n x := bw_comp f1 f2 F1 n x
theorem step33 (n x : Nat) : bw f3 n (bw (fun c => f2 (f1 c)) n x) = bw (fun c => f3 (f2 (f1 c))) n x := bw_comp _ f3 (fun c h => (F2 c h).1) n x
theorem bw_pc : ∀ (n x : Nat), bw (fun c => f3 (f2 (f1 c))) n x = bw (pc 8) n x
  | 0, x => rfl
  | n + 1, x => by
    simp only [bw]
    rw [(F3 (x % 256) (by omega)).1, bw_pc n]
theorem uw (n : Nat) (h : n < 18446744073709551616) : IntKind.u64.wrap (n : Int) = n := IntWalk.u64_in _ ⟨by omega, by omega⟩
theorem p256 : (256 : Nat) ^ 8 = 18446744073709551616 := by decide
theorem bsum8 (f : Nat → Nat) (x : Nat) : ∃ a b c d e g h i : Nat, bsum f 8 x = a + b + c + d + e + g + h + i ∧ bw f 8 x = a + 256 * (b + 256 * (c + 256 * (d + 256 * (e + 256 * (g + 256 * (h + 256 * i)))))) ∧ (∃ y, y < 256 ∧ a = f y) ∧ (∃ y, y < 256 ∧ b = f y) ∧ (∃ y, y < 256 ∧ c = f y) ∧ (∃ y, y < 256 ∧ d = f y) ∧ (∃ y, y < 256 ∧ e = f y) ∧ (∃ y, y < 256 ∧ g = f y) ∧ (∃ y, y < 256 ∧ h = f y) ∧ (∃ y, y < 256 ∧ i = f y) := by
  refine ⟨f (x % 256), f (x / 256 % 256), f (x / 256 / 256 % 256), f (x / 256 / 256 / 256 % 256), f (x / 256 / 256 / 256 / 256 % 256), f (x / 256 / 256 / 256 / 256 / 256 % 256), f (x / 256 / 256 / 256 / 256 / 256 / 256 % 256), f (x / 256 / 256 / 256 / 256 / 256 / 256 / 256 % 256), ?_, ?_, ⟨_, Nat.mod_lt _ (by decide), rfl⟩, ⟨_, Nat.mod_lt _ (by decide), rfl⟩, ⟨_, Nat.mod_lt _ (by decide), rfl⟩, ⟨_, Nat.mod_lt _ (by decide), rfl⟩, ⟨_, Nat.mod_lt _ (by decide), rfl⟩, ⟨_, Nat.mod_lt _ (by decide), rfl⟩, ⟨_, Nat.mod_lt _ (by decide), rfl⟩, ⟨_, Nat.mod_lt _ (by decide), rfl⟩⟩
  · simp only [bsum, Nat.add_zero, Nat.add_assoc]
  · simp only [bw, Nat.mul_zero, Nat.add_zero]
theorem wmod (t : Nat) (h : t < 18446744073709551616) : wrap64 (t : Int) % 128 = ((t % 128 : Nat) : Int) := by unfold wrap64; omega
set_option maxHeartbeats 400000 in
theorem oc_pc (x : Nat) (hx : x < 18446744073709551616) : bits_OnesCount64.f (x : Int) = some ((pc 64 x : Nat) : Int) := by
  unfold bits_OnesCount64.f
  obtain ⟨m1, m2, m3⟩ := mk_vals
  have h0 : bits .and .u64 ((x : Int) / 2) 6148914691236517205 = ((x / 2 &&& mk 85 8 : Nat) : Int) := by
    rw [m1]; exact u64_and_nat (x / 2) 6148914691236517205 (Nat.lt_of_le_of_lt (Nat.div_le_self _ _) hx) (by decide)
  have h1 : bits .and .u64 (x : Int) 6148914691236517205 = ((x &&& mk 85 8 : Nat) : Int) := by
    rw [m1]; exact u64_and_nat x 6148914691236517205 hx (by decide)
  have b1 : bw f1 8 x < 18446744073709551616 := by have := bw_lt f1 F1 8 x; rwa [p256] at this
  have h2 : IntKind.u64.wrap (bits .and .u64 ((x : Int) / 2) 6148914691236517205 + bits .and .u64 (x : Int) 6148914691236517205) = ((bw f1 8 x : Nat) : Int) := by
    rw [h0, h1, ← step1 8 x, ← Int.natCast_add, uw _ (by rw [step1]; exact b1)]
  rw [h2]
  clear h0 h1 h2
  obtain ⟨y, hy⟩ : ∃ y, bw f1 8 x = y := ⟨_, rfl⟩
  rw [hy] at b1 ⊢
  have h0 : bits .and .u64 ((y : Int) / 4) 3689348814741910323 = ((y / 4 &&& mk 51 8 : Nat) : Int) := by
    rw [m2]; exact u64_and_nat (y / 4) 3689348814741910323 (Nat.lt_of_le_of_lt (Nat.div_le_self _ _) b1) (by decide)
  have h1 : bits .and .u64 (y : Int) 3689348814741910323 = ((y &&& mk 51 8 : Nat) : Int) := by
    rw [m2]; exact u64_and_nat y 3689348814741910323 b1 (by decide)
  have e2 : bw f2 8 y = bw (fun c => f2 (f1 c)) 8 x := by rw [← hy, step23]
  have b2 : bw f2 8 y < 18446744073709551616 := by rw [e2]; have := bw_lt (fun c => f2 (f1 c)) (fun c h => (F2 c h).1) 8 x; rwa [p256] at this
  have h2 : IntKind.u64.wrap (bits .and .u64 ((y : Int) / 4) 3689348814741910323 + bits .and .u64 (y : Int) 3689348814741910323) = ((bw f2 8 y : Nat) : Int) := by
    rw [h0, h1, ← step2 8 y, ← Int.natCast_add, uw _ (by rw [step2]; exact b2)]
  rw [h2]
  clear h0 h1 h2
  have ha : ab (fun c => c / 16 ≤ 4 ∧ c % 16 ≤ 4) 8 (bw f2 8 y) := by rw [e2]; exact ab_bw (fun c => f2 (f1 c)) _ (fun c h => F2 c h) 8 x
  have b2' : bw f2 8 y / 16 + bw f2 8 y < 18446744073709551616 := by
    rw [e2]
    obtain ⟨a, b, c, d, e, g, h, i, _, hb, ⟨_, ya, rfl⟩, ⟨_, yb, rfl⟩, ⟨_, yc, rfl⟩, ⟨_, yd, rfl⟩, ⟨_, ye, rfl⟩, ⟨_, yg, rfl⟩, ⟨_, yh, rfl⟩, ⟨yi, hyi, rfl⟩⟩ := bsum8 (fun c => f2 (f1 c)) x
    have hi := F2 yi hyi
    have hi2 : f2 (f1 yi) ≤ 68 := by omega
    have hlt : bw (fun c => f2 (f1 c)) 8 x < 69 * 256 ^ 7 := by
      have := bw_lt (fun c => f2 (f1 c)) (fun c h => (F2 c h).1) 7 x
      rw [hb]
      have ya' := (F2 _ ya).1
      have yb' := (F2 _ yb).1
      have yc' := (F2 _ yc).1
      have yd' := (F2 _ yd).1
      have ye' := (F2 _ ye).1
      have yg' := (F2 _ yg).1
      have yh' := (F2 _ yh).1
      rw [show 69 * 256 ^ 7 = 256 * (256 * (256 * (256 * (256 * (256 * (256 * 69)))))) by decide]
      have st : ∀ {p q r : Nat}, p < 256 → q < r → p + 256 * q < 256 * r := fun h1 h2 => by omega
      exact st ya' (st yb' (st yc' (st yd' (st ye' (st yg' (st yh' (by omega)))))))
    have e69 : 69 * 256 ^ 7 = 4971973988617027584 := by decide
    rw [e69] at hlt
    generalize bw (fun c => f2 (f1 c)) 8 x = q at hlt
    omega
  obtain ⟨z, hz⟩ : ∃ z, bw f2 8 y = z := ⟨_, rfl⟩
  rw [hz] at ha b2' ⊢
  have h0 : IntKind.u64.wrap ((z : Int) / 16 + (z : Int)) = ((z / 16 + z : Nat) : Int) := by
    have : ((z : Int) / 16 + (z : Int)) = ((z / 16 + z : Nat) : Int) := by rw [Int.natCast_add]; rfl
    rw [this, uw _ b2']
  rw [h0]
  have h1 : bits .and .u64 ((z / 16 + z : Nat) : Int) 1085102592571150095 = ((bw f3 8 z : Nat) : Int) := by
    rw [← step3 8 z ha, m3]; exact u64_and_nat (z / 16 + z) 1085102592571150095 b2' (by decide)
  rw [h1]
  have e3 : bw f3 8 z = bw (pc 8) 8 x := by rw [← hz, e2, step33, bw_pc]
  rw [e3]
  clear h0 h1 ha b2'
  obtain ⟨a, b, c, d, e, g, h, i, hs, hb, ⟨_, ya, ha⟩, ⟨_, yb, hb'⟩, ⟨_, yc, hc⟩, ⟨_, yd, hd⟩, ⟨_, ye, he⟩, ⟨_, yg, hg⟩, ⟨_, yh, hh⟩, ⟨_, yi, hi⟩⟩ := bsum8 (pc 8) x
  obtain ⟨y2, x2, k1, k2, k3, k4, k5, k6⟩ := fold8 _ a b c d e g h i (ha ▸ (F3 _ ya).2) (hb' ▸ (F3 _ yb).2) (hc ▸ (F3 _ yc).2) (hd ▸ (F3 _ yd).2) (he ▸ (F3 _ ye).2) (hg ▸ (F3 _ yg).2) (hh ▸ (F3 _ yh).2) (hi ▸ (F3 _ yi).2) hb
  have hpc : pc 64 x = a + b + c + d + e + g + h + i := by rw [← hs]; exact pc_bytes 8 x
  obtain ⟨q, hq⟩ : ∃ q, bw (pc 8) 8 x = q := ⟨_, rfl⟩
  rw [hq] at k1 ⊢
  have g1 : IntKind.u64.wrap ((q : Int) + (q : Int) / 256) = ((y2 : Nat) : Int) := by
    have : ((q : Int) + (q : Int) / 256) = ((q + q / 256 : Nat) : Int) := by rw [Int.natCast_add]; rfl
    rw [this, ← k1, uw _ k4]
  rw [g1]
  have g2 : IntKind.u64.wrap ((y2 : Int) + (y2 : Int) / 65536) = ((x2 : Nat) : Int) := by
    have : ((y2 : Int) + (y2 : Int) / 65536) = ((y2 + y2 / 65536 : Nat) : Int) := by rw [Int.natCast_add]; rfl
    rw [this, ← k2, uw _ k5]
  rw [g2]
  have g3 : IntKind.u64.wrap ((x2 : Int) + (x2 : Int) / 4294967296) = ((x2 + x2 / 4294967296 : Nat) : Int) := by
    have : ((x2 : Int) + (x2 : Int) / 4294967296) = ((x2 + x2 / 4294967296 : Nat) : Int) := by rw [Int.natCast_add]; rfl
    rw [this, uw _ k6]
  rw [g3, i64_and127, hpc, ← k3, wmod _ k6]
theorem ocF_pc (x : Nat) (hx : x < 18446744073709551616) : ocF (x : Int) = ((pc 64 x : Nat) : Int) := by
  unfold ocF; rw [oc_pc x hx]; rfl
end Go.Proofs.Ytbffhblebigcfaa.Sk

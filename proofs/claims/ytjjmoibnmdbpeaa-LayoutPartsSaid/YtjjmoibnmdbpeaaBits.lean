/- PLAIN LAWS: how many bits a number has, as math/bits.OnesCount64 reckons it: pairs, fours, eights, then sums of eights. -/
import Derived.Laws.BitsAllLaws
import Derived.KernelRfl
namespace Go.Proofs.Ytjjmoibnmdbpeaa.Bt
set_option linter.unusedVariables false

/-- How many of the lowest k bits are set. -/
def pop : Nat → Nat → Nat
  | 0, _ => 0
  | k + 1, n => n % 2 + pop k (n / 2)

theorem pop_le (k n : Nat) : pop k n ≤ k := by
  induction k generalizing n with
  | zero => simp [pop]
  | succ k ih => have := ih (n / 2); simp only [pop]; omega

theorem pop_add (j k n : Nat) : pop (j + k) n = pop j n + pop k (n / 2 ^ j) := by
  induction j generalizing n with
  | zero => simp [pop]
  | succ j ih =>
    rw [show j + 1 + k = (j + k) + 1 by omega]
    simp only [pop]
    rw [ih, Nat.div_div_eq_div_mul, Nat.pow_succ, Nat.mul_comm 2]
    omega

/-- Sums within digits: each digit of base 2^(2*s) of n becomes (its lower half) + (its upper half); m digits. -/
def halve (s : Nat) : Nat → Nat → Nat
  | 0, _ => 0
  | m + 1, n => (n % 2 ^ s + n / 2 ^ s % 2 ^ s) + 2 ^ (2 * s) * halve s m (n / 2 ^ (2 * s))

/-- The sum of the m digits of base 2^s. -/
def digitSum (s : Nat) : Nat → Nat → Nat
  | 0, _ => 0
  | m + 1, n => n % 2 ^ s + digitSum s m (n / 2 ^ s)

/-- A mask of m digits of base 2^(2*s), each with its lower half set. -/
def mask (s : Nat) : Nat → Nat
  | 0 => 0
  | m + 1 => (2 ^ s - 1) + 2 ^ (2 * s) * mask s m

theorem and_split (t a b x y : Nat) (hx : x < 2 ^ t) (hy : y < 2 ^ t) : (x + 2 ^ t * a) &&& (y + 2 ^ t * b) = (x &&& y) + 2 ^ t * (a &&& b) := by
  apply Nat.eq_of_testBit_eq
  intro i
  have e1 : x + 2 ^ t * a = 2 ^ t * a + x := Nat.add_comm _ _
  have e2 : y + 2 ^ t * b = 2 ^ t * b + y := Nat.add_comm _ _
  have hxy : x &&& y < 2 ^ t := Nat.lt_of_le_of_lt Nat.and_le_left hx
  rw [e1, e2, Nat.add_comm (x &&& y), Nat.testBit_and, Nat.testBit_two_pow_mul_add _ hx, Nat.testBit_two_pow_mul_add _ hy, Nat.testBit_two_pow_mul_add _ hxy]
  split <;> simp [Nat.testBit_and]

theorem and_mask (s m n : Nat) (hs : 0 < s) : n &&& mask s (m + 1) = n % 2 ^ s + 2 ^ (2 * s) * ((n / 2 ^ (2 * s)) &&& mask s m) := by
  have hlt : 2 ^ s - 1 < 2 ^ (2 * s) := by
    have : 2 ^ s ≤ 2 ^ (2 * s) := Nat.pow_le_pow_right (by omega) (by omega)
    have := Nat.two_pow_pos s
    omega
  have e : n = n % 2 ^ (2 * s) + 2 ^ (2 * s) * (n / 2 ^ (2 * s)) := (Nat.mod_add_div _ _).symm
  have h := and_split (2 * s) (n / 2 ^ (2 * s)) (mask s m) (n % 2 ^ (2 * s)) (2 ^ s - 1) (Nat.mod_lt _ (Nat.two_pow_pos _)) hlt
  rw [← e] at h
  rw [mask, h, Nat.and_two_pow_sub_one_eq_mod, Nat.mod_mod_of_dvd _ (Nat.pow_dvd_pow 2 (by omega))]

theorem halve_mask (s m n : Nat) (hs : 0 < s) : (n / 2 ^ s &&& mask s m) + (n &&& mask s m) = halve s m n := by
  induction m generalizing n with
  | zero => simp [mask, halve]
  | succ m ih =>
    rw [and_mask s m _ hs, and_mask s m n hs, halve, ← ih (n / 2 ^ (2 * s))]
    have e : n / 2 ^ s / 2 ^ (2 * s) = n / 2 ^ (2 * s) / 2 ^ s := by rw [Nat.div_div_eq_div_mul, Nat.div_div_eq_div_mul, Nat.mul_comm]
    rw [e, Nat.mul_add]
    omega

theorem digitSum_pop (m n : Nat) : digitSum 1 m n = pop m n := by
  induction m generalizing n with
  | zero => rfl
  | succ m ih => simp only [digitSum, pop]; rw [ih]

/-- Halving keeps the sum of the digits. -/
theorem digitSum_halve (s m n : Nat) (hs : 0 < s) : digitSum (2 * s) m (halve s m n) = digitSum s (2 * m) n := by
  induction m generalizing n with
  | zero => rfl
  | succ m ih =>
    have p := Nat.two_pow_pos s
    have p2 : 2 ^ (2 * s) = 2 ^ s * 2 ^ s := by rw [Nat.two_mul, Nat.pow_add]
    have h1 := Nat.mod_lt n p
    have h2 := Nat.mod_lt (n / 2 ^ s) p
    have two : 2 ≤ 2 ^ s := by
      have := Nat.pow_le_pow_right (n := 2) (by omega) hs
      simpa using this
    have hlt : n % 2 ^ s + n / 2 ^ s % 2 ^ s < 2 ^ (2 * s) := by
      rw [p2]
      have : 2 * 2 ^ s ≤ 2 ^ s * 2 ^ s := Nat.mul_le_mul_right _ two
      omega
    have e1 : halve s (m + 1) n % 2 ^ (2 * s) = n % 2 ^ s + n / 2 ^ s % 2 ^ s := by
      rw [halve, Nat.add_mul_mod_self_left, Nat.mod_eq_of_lt hlt]
    have e2 : halve s (m + 1) n / 2 ^ (2 * s) = halve s m (n / 2 ^ (2 * s)) := by
      rw [halve, Nat.add_mul_div_left _ _ (Nat.two_pow_pos _), Nat.div_eq_of_lt hlt, Nat.zero_add]
    rw [show 2 * (m + 1) = 2 * m + 1 + 1 by omega]
    simp only [digitSum]
    rw [e1, e2, ih]
    rw [Nat.div_div_eq_div_mul, ← p2]
    omega

/-- All of m digits of base 2^s are at most c. -/
def small (s c : Nat) : Nat → Nat → Prop
  | 0, _ => True
  | m + 1, n => n % 2 ^ s ≤ c ∧ small s c m (n / 2 ^ s)

theorem small_halve (s c m n : Nat) (hs : 0 < s) (hc : 2 * c < 2 ^ (2 * s)) (h : small s c (2 * m) n) : small (2 * s) (2 * c) m (halve s m n) := by
  induction m generalizing n with
  | zero => trivial
  | succ m ih =>
    rw [show 2 * (m + 1) = 2 * m + 1 + 1 by omega] at h
    obtain ⟨h1, h2, h3⟩ := h
    have p2 : 2 ^ (2 * s) = 2 ^ s * 2 ^ s := by rw [Nat.two_mul, Nat.pow_add]
    have hlt : n % 2 ^ s + n / 2 ^ s % 2 ^ s < 2 ^ (2 * s) := by omega
    have e1 : halve s (m + 1) n % 2 ^ (2 * s) = n % 2 ^ s + n / 2 ^ s % 2 ^ s := by
      rw [halve, Nat.add_mul_mod_self_left, Nat.mod_eq_of_lt hlt]
    have e2 : halve s (m + 1) n / 2 ^ (2 * s) = halve s m (n / 2 ^ (2 * s)) := by
      rw [halve, Nat.add_mul_div_left _ _ (Nat.two_pow_pos _), Nat.div_eq_of_lt hlt, Nat.zero_add]
    refine ⟨by rw [e1]; omega, ?_⟩
    rw [e2]
    refine ih _ ?_
    rw [Nat.div_div_eq_div_mul, ← p2] at h3
    exact h3

theorem small_one (m n : Nat) : small 1 1 m n := by
  induction m generalizing n with
  | zero => trivial
  | succ m ih => exact ⟨by have : n % 2 ^ 1 < 2 := Nat.mod_lt _ (by omega); omega, ih _⟩

/-- Neighbours of fours, added all at once: no sum passes its place. -/
theorem nibbles (m n : Nat) (h : small 4 4 (2 * m) n) (hn : n < 256 ^ m) : ((n / 16 + n) &&& mask 4 m) = halve 4 m n := by
  induction m generalizing n with
  | zero => simp [mask, halve]
  | succ m ih =>
    rw [show 2 * (m + 1) = 2 * m + 1 + 1 by omega] at h
    obtain ⟨h1, h2, h3⟩ := h
    rw [and_mask 4 m _ (by omega), halve]
    have e16 : (2 : Nat) ^ 4 = 16 := rfl
    have e256 : (2 : Nat) ^ (2 * 4) = 256 := rfl
    rw [e16] at h1 h2 h3
    rw [e16, e256]
    rw [Nat.div_div_eq_div_mul] at h3
    have hq : n / 256 < 256 ^ m := by
      rw [Nat.pow_succ] at hn
      exact Nat.div_lt_of_lt_mul (by rw [Nat.mul_comm]; exact hn)
    have hd : n / 256 % 16 ≤ 4 := by
      cases m with
      | zero => simp at hq; omega
      | succ m => have := h3.1; simpa using this
    have key : ∀ d0 d1 d2 q : Nat, d0 ≤ 4 → d1 ≤ 4 → d2 ≤ 4 → n = d0 + 16 * d1 + 256 * d2 + 4096 * q → (n / 16 + n) % 16 = d0 + d1 ∧ (n / 16 + n) / 256 = q + (d2 + 16 * q) := by
      intro d0 d1 d2 q k0 k1 k2 hn
      have a1 : n / 16 = d1 + 16 * d2 + 256 * q := by omega
      rw [a1]
      subst hn
      constructor <;> omega
    obtain ⟨e1, e2'⟩ := key (n % 16) (n / 16 % 16) (n / 256 % 16) (n / 4096) h1 h2 hd (by omega)
    have e2 : (n / 16 + n) / 256 = n / 256 / 16 + n / 256 := by rw [e2']; omega
    rw [e1, e2, ih (n / 256) (by simpa using h3) hq]

theorem byte_sum (b0 b1 b2 b3 b4 b5 b6 b7 x : Nat) (h0 : b0 ≤ 8) (h1 : b1 ≤ 8) (h2 : b2 ≤ 8) (h3 : b3 ≤ 8) (h4 : b4 ≤ 8) (h5 : b5 ≤ 8) (h6 : b6 ≤ 8) (h7 : b7 ≤ 8)
    (hx : x = b0 + 256 * (b1 + 256 * (b2 + 256 * (b3 + 256 * (b4 + 256 * (b5 + 256 * (b6 + 256 * b7))))))) :
    ∃ x1 x2 x3, x1 = x + x / 256 ∧ x2 = x1 + x1 / 65536 ∧ x3 = x2 + x2 / 4294967296 ∧ x3 < 18446744073709551616 ∧ x3 % 128 = b0 + b1 + b2 + b3 + b4 + b5 + b6 + b7 := by
  have a1 : x / 256 = b1 + 256 * (b2 + 256 * (b3 + 256 * (b4 + 256 * (b5 + 256 * (b6 + 256 * b7))))) := by omega
  obtain ⟨x1, g1⟩ : ∃ x1, x1 = x + x / 256 := ⟨_, rfl⟩
  have f1 : x1 = (b0 + b1) + 256 * ((b1 + b2) + 256 * ((b2 + b3) + 256 * ((b3 + b4) + 256 * ((b4 + b5) + 256 * ((b5 + b6) + 256 * ((b6 + b7) + 256 * b7)))))) := by rw [g1, a1, hx]; omega
  have a2 : x1 / 65536 = (b2 + b3) + 256 * ((b3 + b4) + 256 * ((b4 + b5) + 256 * ((b5 + b6) + 256 * ((b6 + b7) + 256 * b7)))) := by omega
  obtain ⟨x2, g2⟩ : ∃ x2, x2 = x1 + x1 / 65536 := ⟨_, rfl⟩
  have f2 : x2 = (b0 + b1 + b2 + b3) + 256 * ((b1 + b2 + b3 + b4) + 256 * ((b2 + b3 + b4 + b5) + 256 * ((b3 + b4 + b5 + b6) + 256 * ((b4 + b5 + b6 + b7) + 256 * ((b5 + b6 + b7) + 256 * ((b6 + b7) + 256 * b7)))))) := by rw [g2, a2, f1]; omega
  have a3 : x2 / 4294967296 = (b4 + b5 + b6 + b7) + 256 * ((b5 + b6 + b7) + 256 * ((b6 + b7) + 256 * b7)) := by omega
  refine ⟨x1, x2, x2 + x2 / 4294967296, g1, g2, rfl, ?_, ?_⟩
  · rw [a3]; clear g1 g2 a1 a2 a3 hx f1; omega
  · rw [a3]; clear g1 g2 a1 a2 a3 hx f1; omega

theorem halve_lt (s c m n : Nat) (hs : 0 < s) (h : small s c (2 * m) n) (hc : 2 * c < 2 ^ (2 * s)) : halve s m n < (2 ^ (2 * s)) ^ m := by
  induction m generalizing n with
  | zero => simp [halve]
  | succ m ih =>
    rw [show 2 * (m + 1) = 2 * m + 1 + 1 by omega] at h
    obtain ⟨h1, h2, h3⟩ := h
    have p2 : 2 ^ (2 * s) = 2 ^ s * 2 ^ s := by rw [Nat.two_mul, Nat.pow_add]
    rw [Nat.div_div_eq_div_mul, ← p2] at h3
    have := ih _ h3
    rw [halve, Nat.pow_succ, Nat.mul_comm ((2 ^ (2 * s)) ^ m)]
    have hb : n % 2 ^ s + n / 2 ^ s % 2 ^ s < 2 ^ (2 * s) := by omega
    have h4 : 2 ^ (2 * s) * (halve s m (n / 2 ^ (2 * s)) + 1) ≤ 2 ^ (2 * s) * (2 ^ (2 * s)) ^ m := Nat.mul_le_mul_left _ this
    rw [Nat.mul_add] at h4
    omega

theorem small_top (m n : Nat) (h : small 4 4 m n) (hn : n < 16 ^ m) : 15 * n + 4 ≤ 4 * 16 ^ m := by
  induction m generalizing n with
  | zero => simp at hn; subst hn; simp
  | succ m ih =>
    obtain ⟨h1, h2⟩ := h
    have e16 : (2 : Nat) ^ 4 = 16 := rfl
    rw [e16] at h1 h2
    have hq : n / 16 < 16 ^ m := by
      rw [Nat.pow_succ] at hn
      exact Nat.div_lt_of_lt_mul (by rw [Nat.mul_comm]; exact hn)
    have := ih _ h2 hq
    rw [Nat.pow_succ]
    omega

/-- The number of a word's bits, as math/bits reckons it. -/
theorem ones64 (x x1 x2 x3 : Nat) (e1 : x1 = (x / 2 &&& 6148914691236517205) + (x &&& 6148914691236517205)) (e2 : x2 = (x1 / 4 &&& 3689348814741910323) + (x1 &&& 3689348814741910323))
    (e3 : x3 = (x2 / 16 + x2) &&& 1085102592571150095) :
    x1 < 18446744073709551616 ∧ x2 < 18446744073709551616 ∧ x2 / 16 + x2 < 18446744073709551616 ∧ x3 + x3 / 256 < 18446744073709551616 ∧
    (x3 + x3 / 256) + (x3 + x3 / 256) / 65536 < 18446744073709551616 ∧
    (x3 + x3 / 256) + (x3 + x3 / 256) / 65536 + ((x3 + x3 / 256) + (x3 + x3 / 256) / 65536) / 4294967296 < 18446744073709551616 ∧
    ((x3 + x3 / 256) + (x3 + x3 / 256) / 65536 + ((x3 + x3 / 256) + (x3 + x3 / 256) / 65536) / 4294967296) % 128 = pop 64 x := by
  have m1 : mask 1 32 = 6148914691236517205 := by kernel_rfl
  have m2 : mask 2 16 = 3689348814741910323 := by kernel_rfl
  have m3 : mask 4 8 = 1085102592571150095 := by kernel_rfl
  have p1 : ((2 ^ (2 * 1)) ^ 32 : Nat) = 18446744073709551616 := by kernel_rfl
  have p2 : ((2 ^ (2 * 2)) ^ 16 : Nat) = 18446744073709551616 := by kernel_rfl
  have p3 : ((2 ^ (2 * 4)) ^ 8 : Nat) = 18446744073709551616 := by kernel_rfl
  have p4 : (256 ^ 8 : Nat) = 18446744073709551616 := by kernel_rfl
  have g1 : x1 = halve 1 32 x := by
    have h := halve_mask 1 32 x (by omega)
    rw [m1] at h
    rw [e1, ← h]
  have g2 : x2 = halve 2 16 x1 := by
    have h := halve_mask 2 16 x1 (by omega)
    rw [m2] at h
    rw [e2, ← h]
  have s1 : small 2 2 32 x1 := by rw [g1]; exact small_halve 1 1 32 x (by omega) (by omega) (small_one _ _)
  have s2 : small 4 4 16 x2 := by rw [g2]; exact small_halve 2 2 16 x1 (by omega) (by omega) s1
  have l1 : x1 < 18446744073709551616 := by
    have h := halve_lt 1 1 32 x (by omega) (small_one _ _) (by omega)
    rw [p1] at h; rw [g1]; exact h
  have l2 : x2 < 18446744073709551616 := by
    have h := halve_lt 2 2 16 x1 (by omega) s1 (by omega)
    rw [p2] at h; rw [g2]; exact h
  have g3 : x3 = halve 4 8 x2 := by
    have h := nibbles 8 x2 s2 (by rw [p4]; exact l2)
    rw [m3] at h
    rw [e3, h]
  have s3 : small 8 8 8 x3 := by rw [g3]; exact small_halve 4 4 8 x2 (by omega) (by omega) s2
  have l3 : x3 < 18446744073709551616 := by
    have h := halve_lt 4 4 8 x2 (by omega) s2 (by omega)
    rw [p3] at h; rw [g3]; exact h
  have hp : digitSum 8 8 x3 = pop 64 x := by
    rw [g3, show digitSum 8 8 (halve 4 8 x2) = digitSum 4 16 x2 from digitSum_halve 4 8 x2 (by omega), g2, show digitSum 4 16 (halve 2 16 x1) = digitSum 2 32 x1 from digitSum_halve 2 16 x1 (by omega), g1,
      show digitSum 2 32 (halve 1 32 x) = digitSum 1 64 x from digitSum_halve 1 32 x (by omega), digitSum_pop]
  have l2' : x2 / 16 + x2 < 18446744073709551616 := by
    have p5 : (16 ^ 16 : Nat) = 18446744073709551616 := by kernel_rfl
    have h := small_top 16 x2 s2 (by rw [p5]; exact l2)
    rw [p5] at h
    omega
  clear p1 p2 p3 p4 m1 m2 m3 e1 e2 e3 g1 g2 g3 s1 s2
  obtain ⟨t0, t1, t2, t3, t4, t5, t6, t7, _⟩ := s3
  have e8 : (2 : Nat) ^ 8 = 256 := rfl
  rw [e8] at t0 t1 t2 t3 t4 t5 t6 t7
  have hs : digitSum 8 8 x3 = x3 % 256 + (x3 / 256 % 256 + (x3 / 256 / 256 % 256 + (x3 / 256 / 256 / 256 % 256 + (x3 / 256 / 256 / 256 / 256 % 256 + (x3 / 256 / 256 / 256 / 256 / 256 % 256 + (x3 / 256 / 256 / 256 / 256 / 256 / 256 % 256 + (x3 / 256 / 256 / 256 / 256 / 256 / 256 / 256 % 256 + 0))))))) := rfl
  rw [hs] at hp
  clear hs
  obtain ⟨y1, y2, y3, f1, f2, f3, f4, f5⟩ := byte_sum _ _ _ _ _ _ _ _ x3 t0 t1 t2 t3 t4 t5 t6 t7 (by omega)
  rw [← f1, ← f2, ← f3]
  exact ⟨l1, l2, l2', by omega, by omega, f4, by rw [f5, ← hp]; omega⟩

end Go.Proofs.Ytjjmoibnmdbpeaa.Bt

/- PLAIN LAWS: double-precision floats that hold small whole numbers: sums, differences, products, negation and the way back to an integer are exact. No condition but the bounds in each statement. -/
import Derived.Laws.ComplexArith
namespace Go.Proofs.Ytjjmoibnmdbpeaa.Flo
open Ieee

/-- A magnitude with its sign. -/
def sg (s : Bool) (m : Nat) : Int := if s then -(m : Int) else (m : Int)

theorem sg_mul (s : Bool) (m k : Nat) : sg s (m * k) = sg s m * (k : Int) := by
  unfold sg; split <;> simp [Int.neg_mul]

theorem natAbs_sg (s : Bool) (m : Nat) : (sg s m).natAbs = m := by
  unfold sg; split <;> simp

theorem signed_sg (s : Bool) (m u : Nat) : signed s m u = sg s m * (2 ^ u : Nat) := by
  rw [← sg_mul]; unfold signed sg; rw [Nat.shiftLeft_eq]

/-- The datum stands for the whole number n. -/
def DHolds (d : Datum) (n : Int) : Prop := ∃ s m p, d = .number s m p ∧ sg s m * (2 ^ p.toNat : Nat) = n * (2 ^ (-p).toNat : Nat)

/-- The word of a double stands for the whole number n. -/
def Holds (b : Nat) (n : Int) : Prop := b < 2 ^ 64 ∧ DHolds (double.read b) n

theorem scale {X n : Int} {i base : Int} (h : X * (2 ^ i.toNat : Nat) = n * (2 ^ (-i).toNat : Nat)) (hb : base ≤ i) :
    X * (2 ^ (i - base).toNat : Nat) * (2 ^ base.toNat : Nat) = n * (2 ^ (-base).toNat : Nat) := by
  have key : (2 ^ (i - base).toNat * 2 ^ base.toNat : Nat) * 2 ^ (-i).toNat = 2 ^ i.toNat * 2 ^ (-base).toNat := by
    rw [← Nat.pow_add, ← Nat.pow_add, ← Nat.pow_add]
    congr 1; omega
  by_cases hi : 0 ≤ i
  · have e : (-i).toNat = 0 := by omega
    rw [e] at h key
    simp only [Nat.pow_zero, Nat.mul_one, Int.natCast_one, Int.mul_one] at h key
    rw [← h, Int.mul_assoc, Int.mul_assoc, ← Int.natCast_mul, ← Int.natCast_mul, key]
  · have e : i.toNat = 0 := by omega
    have e2 : base.toNat = 0 := by omega
    rw [e] at h
    simp only [Nat.pow_zero, Int.natCast_one, Int.mul_one] at h
    rw [e2, h, Int.mul_assoc, Int.mul_assoc, ← Int.natCast_mul, ← Int.natCast_mul]
    congr 2
    rw [Nat.pow_zero, Nat.mul_one, ← Nat.pow_add]
    congr 1; omega

theorem sg_total (t : Int) (z : Bool) : sg (if t = 0 then z else decide (t < 0)) t.natAbs = t := by
  unfold sg
  by_cases h : t = 0
  · subst h; simp
  · simp only [h, if_false]
    by_cases h2 : t < 0
    · simp [h2]; omega
    · simp [h2]; omega

theorem DHolds.sum {d e : Datum} {a b : Int} (h1 : DHolds d a) (h2 : DHolds e b) : ∃ r, d.sum e = some r ∧ DHolds r (a + b) := by
  obtain ⟨s, m, i, rfl, h1⟩ := h1
  obtain ⟨t, n, j, rfl, h2⟩ := h2
  refine ⟨_, rfl, _, _, _, rfl, ?_⟩
  have hb : min i j ≤ i := by omega
  have hb' : min i j ≤ j := by omega
  have g1 := scale h1 hb
  have g2 := scale h2 hb'
  have e := sg_total (signed s m (i - min i j).toNat + signed t n (j - min i j).toNat) (s && t)
  rw [e, signed_sg, signed_sg, Int.add_mul, Int.add_mul, g1, g2]

theorem DHolds.opposite {d : Datum} {a : Int} (h : DHolds d a) : DHolds d.opposite (-a) := by
  obtain ⟨s, m, i, rfl, h⟩ := h
  refine ⟨!s, m, i, rfl, ?_⟩
  have : sg (!s) m = - sg s m := by cases s <;> simp [sg]
  rw [this, Int.neg_mul, h, Int.neg_mul]

theorem DHolds.product {d e : Datum} {a b : Int} (h1 : DHolds d a) (h2 : DHolds e b) : ∃ r, d.product e = some r ∧ DHolds r (a * b) := by
  obtain ⟨s, m, i, rfl, h1⟩ := h1
  obtain ⟨t, n, j, rfl, h2⟩ := h2
  refine ⟨_, rfl, _, _, _, rfl, ?_⟩
  have e : sg (s ^^ t) (m * n) = sg s m * sg t n := by cases s <;> cases t <;> simp [sg, Int.neg_mul, Int.mul_neg]
  rw [e]
  have h3 : sg s m * sg t n * (2 ^ i.toNat * 2 ^ j.toNat : Nat) = a * b * (2 ^ (-i).toNat * 2 ^ (-j).toNat : Nat) := by
    rw [Int.natCast_mul, Int.natCast_mul]
    have : ∀ x y z w : Int, x * y * (z * w) = (x * z) * (y * w) := by intros; simp [Int.mul_assoc, Int.mul_left_comm]
    rw [this, h1, h2, this]
  have hc : (2 ^ (i + j).toNat : Nat) * (2 ^ (-i).toNat * 2 ^ (-j).toNat) = 2 ^ (-(i + j)).toNat * (2 ^ i.toNat * 2 ^ j.toNat) := by
    rw [← Nat.pow_add, ← Nat.pow_add, ← Nat.pow_add, ← Nat.pow_add]; congr 1; omega
  have hp : ((2 ^ i.toNat * 2 ^ j.toNat : Nat) : Int) ≠ 0 := by
    have : 0 < 2 ^ i.toNat * 2 ^ j.toNat := Nat.mul_pos (Nat.two_pow_pos _) (Nat.two_pow_pos _)
    omega
  apply Int.eq_of_mul_eq_mul_right hp
  have hc' : ((2 ^ (i + j).toNat : Nat) : Int) * ((2 ^ (-i).toNat * 2 ^ (-j).toNat : Nat) : Int) = ((2 ^ (-(i + j)).toNat : Nat) : Int) * ((2 ^ i.toNat * 2 ^ j.toNat : Nat) : Int) := by
    rw [← Int.natCast_mul, ← Int.natCast_mul, hc]
  generalize ((2 ^ (i + j).toNat : Nat) : Int) = A at *
  generalize ((2 ^ (-i).toNat * 2 ^ (-j).toNat : Nat) : Int) = B at *
  generalize ((2 ^ (-(i + j)).toNat : Nat) : Int) = C at *
  generalize ((2 ^ i.toNat * 2 ^ j.toNat : Nat) : Int) = D at *
  rw [Int.mul_right_comm, h3, Int.mul_assoc, Int.mul_comm B, hc']
  simp only [Int.mul_assoc]

theorem log2_eq {n k : Nat} (h1 : 2 ^ k ≤ n) (h2 : n < 2 ^ (k + 1)) : n.log2 = k := by
  have hn : n ≠ 0 := by have := Nat.two_pow_pos k; omega
  have a := (Nat.le_log2 hn).2 h1
  have b := (Nat.log2_lt hn).2 h2
  omega

theorem log2_lo {n : Nat} (h : n ≠ 0) : 2 ^ n.log2 ≤ n := (Nat.le_log2 h).1 (Nat.le_refl _)
theorem log2_hi {n : Nat} (h : n ≠ 0) : n < 2 ^ (n.log2 + 1) := (Nat.log2_lt h).1 (Nat.lt_succ_self _)

theorem log2_shift (m p : Nat) (h : m ≠ 0) : (m * 2 ^ p).log2 = m.log2 + p := by
  apply log2_eq
  · rw [Nat.pow_add]; exact Nat.mul_le_mul_right _ (log2_lo h)
  · rw [show m.log2 + p + 1 = (m.log2 + 1) + p by omega, Nat.pow_add]
    exact Nat.mul_lt_mul_of_pos_right (log2_hi h) (Nat.two_pow_pos _)

/-- What DHolds says of the magnitude. -/
theorem mag_of {s : Bool} {m : Nat} {p n : Int} (h : sg s m * (2 ^ p.toNat : Nat) = n * (2 ^ (-p).toNat : Nat)) :
    m * 2 ^ p.toNat = n.natAbs * 2 ^ (-p).toNat ∧ (n ≠ 0 → sg s n.natAbs = n) ∧ (n = 0 → m = 0) ∧ (m = 0 → n = 0) := by
  have e := congrArg Int.natAbs h
  rw [Int.natAbs_mul, Int.natAbs_mul, natAbs_sg, Int.natAbs_natCast, Int.natAbs_natCast] at e
  have pz : ∀ k : Nat, (2 ^ k : Nat) ≠ 0 := fun k => by have := Nat.two_pow_pos k; omega
  refine ⟨e, fun hn => ?_, fun hn => ?_, fun hm => ?_⟩
  · have pos1 : (0 : Int) < (2 ^ p.toNat : Nat) := by have := Nat.two_pow_pos p.toNat; omega
    have pos2 : (0 : Int) < (2 ^ (-p).toNat : Nat) := by have := Nat.two_pow_pos (-p).toNat; omega
    cases s
    · simp only [sg] at h ⊢
      have : 0 ≤ n * ((2 ^ (-p).toNat : Nat) : Int) := by
        rw [← h]; exact Int.mul_nonneg (by simp) (by omega)
      have : 0 ≤ n := by
        rcases Int.lt_or_le n 0 with g | g
        · have := Int.mul_neg_of_neg_of_pos g pos2; omega
        · exact g
      simp; omega
    · simp only [sg] at h ⊢
      have : n * ((2 ^ (-p).toNat : Nat) : Int) ≤ 0 := by
        rw [← h]; simp only [if_true, Int.neg_mul]
        have : (0 : Int) ≤ (m : Int) * ((2 ^ p.toNat : Nat) : Int) := Int.mul_nonneg (by omega) (by omega)
        omega
      have : n ≤ 0 := by
        rcases Int.lt_or_le 0 n with g | g
        · have := Int.mul_pos g pos2; omega
        · exact g
      simp; omega
  · have hz : n.natAbs = 0 := by omega
    rw [hz, Nat.zero_mul] at e
    rcases Nat.mul_eq_zero.1 e with e | e
    · exact e
    · exact absurd e (pz _)
  · rw [hm, Nat.zero_mul] at e
    rcases Nat.mul_eq_zero.1 e.symm with e | e
    · omega
    · exact absurd e (pz _)

theorem cut_exact (way : Toward) (neg : Bool) (q k : Nat) (h : k ≤ (q * 2 ^ k).log2 + 2) : way.cut neg (q * 2 ^ k) k = q := by
  unfold Toward.cut
  have e : (1 : Nat) <<< min k ((q * 2 ^ k).log2 + 2) = 2 ^ k := by rw [Nat.shiftLeft_eq, Nat.one_mul]; congr 1; omega
  have pos := Nat.two_pow_pos k
  simp only [e, Nat.mul_div_cancel _ pos, Nat.mul_mod_left]
  have : ∀ x : Bool, (2 ^ k == 0 && x) = false := fun x => by
    have : (2 ^ k == 0) = false := by simp
    rw [this]; rfl
  cases way <;> simp

theorem read_word (neg : Bool) (e f : Nat) (he : 1 ≤ e) (he2 : e < 2047) (hf : f < 2 ^ 52) :
    double.read (double.word neg (e * 2 ^ 52 + f)) = .number neg (2 ^ 52 + f) (-1074 + ((e : Int) - 1)) := by
  have sw : double.signWeight = 2 ^ 63 := rfl
  have bi : double.binade = 2 ^ 52 := rfl
  have inf : double.infRung = 2047 * 2 ^ 52 := rfl
  have lp : double.leastPlace = -1074 := rfl
  have hlt : e * 2 ^ 52 + f < 2047 * 2 ^ 52 := by omega
  have hr : double.word neg (e * 2 ^ 52 + f) % 2 ^ 63 = e * 2 ^ 52 + f := by
    unfold Format.word; rw [sw]; split <;> omega
  have hs : (double.word neg (e * 2 ^ 52 + f) / 2 ^ 63 % 2 == 1) = neg := by
    unfold Format.word; rw [sw]
    cases neg
    · simp; omega
    · simp; omega
  unfold Format.read
  simp only [sw, bi, inf, lp, hr, hs]
  rw [if_neg (by omega), if_pos hlt]
  have h1 : (e * 2 ^ 52 + f) % 2 ^ 52 = f := by omega
  have h2 : (e * 2 ^ 52 + f) / 2 ^ 52 = e := by omega
  rw [h1, h2]
  congr 1; omega

theorem read_zero (neg : Bool) : double.read (double.word neg 0) = .number neg 0 (-1074) := by cases neg <;> rfl

theorem nearest_holds {neg : Bool} {mag : Nat} {place n : Int} (h : sg neg mag * (2 ^ place.toNat : Nat) = n * (2 ^ (-place).toNat : Nat)) (hn : n.natAbs < 2 ^ 53) :
    Holds (double.nearest neg mag place) n := by
  refine ⟨double.nearest_lt neg mag place, ?_⟩
  obtain ⟨he, hsg, h0, h0'⟩ := mag_of h
  unfold Format.nearest
  by_cases hm : mag = 0
  · rw [if_pos hm, read_zero]
    have := h0' hm
    subst this
    exact ⟨neg, 0, _, rfl, by rw [show sg neg 0 = 0 by cases neg <;> rfl, Int.zero_mul, Int.zero_mul]⟩
  · rw [if_neg hm]
    have hn0 : n ≠ 0 := fun e => hm (h0 e)
    have hN : n.natAbs ≠ 0 := by omega
    have hE : n.natAbs.log2 ≤ 52 := by have := (Nat.log2_lt hN).2 hn; omega
    have hlog : mag.log2 + place.toNat = n.natAbs.log2 + (-place).toNat := by
      rw [← log2_shift _ _ hm, ← log2_shift _ _ hN, he]
    generalize hEe : n.natAbs.log2 = E at *
    generalize hLe : mag.log2 = L at *
    have hlast : max (place + (L : Int) - (double.fractionBits : Int)) double.leastPlace = (E : Int) - 52 := by
      show max (place + (L : Int) - 52) (-1074) = _
      omega
    have hkept : Toward.even.cut neg (mag <<< (place - ((E : Int) - 52)).toNat) ((E : Int) - 52 - place).toNat = n.natAbs * 2 ^ (52 - E) := by
      by_cases hl : L ≤ 52
      · have e1 : ((E : Int) - 52 - place).toNat = 0 := by omega
        rw [e1, Nat.shiftLeft_eq]
        have e2 : mag * 2 ^ (place - ((E : Int) - 52)).toNat = n.natAbs * 2 ^ (52 - E) := by
          have p1 := Nat.two_pow_pos place.toNat
          have e3 : (place - ((E : Int) - 52)).toNat + (-place).toNat = (52 - E) + place.toNat := by omega
          have p2 := Nat.two_pow_pos (-place).toNat
          apply Nat.eq_of_mul_eq_mul_right p2
          rw [Nat.mul_assoc, ← Nat.pow_add, e3, Nat.mul_assoc, Nat.mul_comm (2 ^ (52 - E)), ← Nat.mul_assoc, ← he, Nat.pow_add, Nat.mul_assoc, Nat.mul_comm (2 ^ place.toNat)]
        rw [e2]
        have := cut_exact .even neg (n.natAbs * 2 ^ (52 - E)) 0 (by omega)
        simpa using this
      · have e1 : (place - ((E : Int) - 52)).toNat = 0 := by omega
        rw [e1, Nat.shiftLeft_zero]
        have e0 : place.toNat = 0 := by omega
        have e2 : mag = n.natAbs * 2 ^ (52 - E) * 2 ^ ((E : Int) - 52 - place).toNat := by
          rw [e0, Nat.pow_zero, Nat.mul_one] at he
          rw [he, Nat.mul_assoc, ← Nat.pow_add]; congr 2; omega
        have := cut_exact .even neg (n.natAbs * 2 ^ (52 - E)) ((E : Int) - 52 - place).toNat (by rw [← e2, hLe]; omega)
        rw [← e2] at this
        exact this
    dsimp only
    rw [hlast, hkept]
    have lo : 2 ^ 52 ≤ n.natAbs * 2 ^ (52 - E) := by
      have := log2_lo hN; rw [hEe] at this
      have g := Nat.mul_le_mul_right (2 ^ (52 - E)) this
      rw [← Nat.pow_add, show E + (52 - E) = 52 by omega] at g
      exact g
    have hi : n.natAbs * 2 ^ (52 - E) < 2 ^ 53 := by
      have := log2_hi hN; rw [hEe] at this
      have g := Nat.mul_lt_mul_of_pos_right this (Nat.two_pow_pos (52 - E))
      rw [← Nat.pow_add, show E + 1 + (52 - E) = 53 by omega] at g
      exact g
    have e1 : ((E : Int) - 52 - double.leastPlace).toNat = E + 1022 := by
      show ((E : Int) - 52 - (-1074)).toNat = _
      omega
    have e2 : min (((E : Int) - 52 - double.leastPlace).toNat * double.binade + n.natAbs * 2 ^ (52 - E)) double.infRung = (E + 1023) * 2 ^ 52 + (n.natAbs * 2 ^ (52 - E) - 2 ^ 52) := by
      have bi : double.binade = 4503599627370496 := rfl
      have inf : double.infRung = 9218868437227405312 := rfl
      rw [e1, bi, inf, show (2 : Nat) ^ 52 = 4503599627370496 from rfl]
      rw [show (2 : Nat) ^ 52 = 4503599627370496 from rfl] at lo
      rw [show (2 : Nat) ^ 53 = 9007199254740992 from rfl] at hi
      clear hkept hlast e1 bi inf hlog he h hn hsg
      generalize n.natAbs * 2 ^ (52 - E) = K at *
      rw [Nat.min_eq_left (by omega)]
      omega
    rw [e2, read_word neg (E + 1023) _ (by omega) (by omega) (by omega)]
    refine ⟨neg, _, _, rfl, ?_⟩
    have e3 : 2 ^ 52 + (n.natAbs * 2 ^ (52 - E) - 2 ^ 52) = n.natAbs * 2 ^ (52 - E) := by omega
    rw [e3, sg_mul, hsg hn0]
    have e4 : (-1074 + (((E + 1023 : Nat) : Int) - 1)).toNat = 0 := by omega
    have e5 : (-(-1074 + (((E + 1023 : Nat) : Int) - 1))).toNat = 52 - E := by omega
    rw [e4, e5, Nat.pow_zero, Int.natCast_one, Int.mul_one]

theorem write_holds {d : Datum} {n : Int} (h : DHolds d n) (hn : n.natAbs < 2 ^ 53) : Holds (double.write d) n := by
  obtain ⟨s, m, p, rfl, h⟩ := h
  exact nearest_holds h hn

theorem ofInt_holds (n : Int) (hn : n.natAbs < 2 ^ 53) : Holds (floatOfInt .f64 n) n := by
  refine write_holds (d := .number (n < 0) n.natAbs 0) ⟨_, _, _, rfl, ?_⟩ hn
  unfold sg
  by_cases h : n < 0
  · simp [h]; omega
  · simp [h]; omega

theorem add_holds {x y : Nat} {a b : Int} (h1 : Holds x a) (h2 : Holds y b) (hn : (a + b).natAbs < 2 ^ 53) : ∃ r, floatBits .add .f64 x y = some r ∧ Holds r (a + b) := by
  obtain ⟨r, e, h⟩ := h1.2.sum h2.2
  exact ⟨double.write r, by show ((double.read x).sum (double.read y)).map double.write = _; rw [e]; rfl, write_holds h hn⟩

theorem sub_holds {x y : Nat} {a b : Int} (h1 : Holds x a) (h2 : Holds y b) (hn : (a - b).natAbs < 2 ^ 53) : ∃ r, floatBits .sub .f64 x y = some r ∧ Holds r (a - b) := by
  obtain ⟨r, e, h⟩ := h1.2.sum h2.2.opposite
  exact ⟨double.write r, by show ((double.read x).sum (double.read y).opposite).map double.write = _; rw [e]; rfl, write_holds h hn⟩

theorem mul_holds {x y : Nat} {a b : Int} (h1 : Holds x a) (h2 : Holds y b) (hn : (a * b).natAbs < 2 ^ 53) : ∃ r, floatBits .mul .f64 x y = some r ∧ Holds r (a * b) := by
  obtain ⟨r, e, h⟩ := h1.2.product h2.2
  exact ⟨double.write r, by show ((double.read x).product (double.read y)).map double.write = _; rw [e]; rfl, write_holds h hn⟩

theorem toInt_holds {d : Datum} {n : Int} (h : DHolds d n) : d.toInt .zero = some n := by
  obtain ⟨s, m, p, rfl, h⟩ := h
  obtain ⟨he, hsg, h0, h0'⟩ := mag_of h
  have key : Toward.zero.cut s (m <<< p.toNat) (-p).toNat = n.natAbs := by
    rw [Nat.shiftLeft_eq, he]
    by_cases hn : n = 0
    · subst hn
      unfold Toward.cut; simp
    · have hN : n.natAbs ≠ 0 := by omega
      exact cut_exact .zero s n.natAbs _ (by rw [log2_shift _ _ hN]; omega)
  have e : (Datum.number s m p).toInt .zero = some (signed s (Toward.zero.cut s (m <<< p.toNat) (-p).toNat) 0) := rfl
  rw [e, key, signed_sg]
  by_cases hn : n = 0
  · subst hn; simp [sg]
  · rw [hsg hn]; simp

theorem toIntVal_holds {b : Nat} {n : Int} (h : Holds b n) (hn : n.natAbs < 2 ^ 53) : floatToIntVal .f64 b .i64 = some n := by
  have e : (FloatKind.f64.decode b).toInt .zero = some n := toInt_holds h.2
  unfold floatToIntVal
  rw [e]
  have : IntKind.i64.min ≤ n ∧ n ≤ IntKind.i64.max := by
    rw [show IntKind.i64.min = -9223372036854775808 from rfl, show IntKind.i64.max = 9223372036854775807 from rfl]
    rw [show (2 : Nat) ^ 53 = 9007199254740992 from rfl] at hn
    constructor <;> omega
  simp only [this.1, this.2, and_self, if_true]

theorem xor_top (c : Nat) (h : c < 2 ^ 63) : c ^^^ 2 ^ 63 = c + 2 ^ 63 := by
  apply Nat.eq_of_testBit_eq
  intro i
  rw [Nat.testBit_xor, Nat.testBit_two_pow, Nat.add_comm]
  rcases Nat.lt_trichotomy i 63 with h1 | h1 | h1
  · rw [Nat.testBit_two_pow_add_gt h1]
    have : decide (63 = i) = false := by simp; omega
    rw [this, Bool.xor_false]
  · subst h1
    rw [Nat.testBit_two_pow_add_eq]
    simp
  · have hp : 2 ^ 64 ≤ 2 ^ i := Nat.pow_le_pow_right (by omega) (by omega)
    have e1 : c.testBit i = false := Nat.testBit_lt_two_pow (by omega)
    have e2 : (2 ^ 63 + c).testBit i = false := Nat.testBit_lt_two_pow (by omega)
    have : decide (63 = i) = false := by simp; omega
    rw [e1, e2, this]; rfl

theorem neg_holds {b : Nat} {n : Int} (h : Holds b n) : Holds (Op.negFloat .f64 b) (-n) := by
  have sw : double.signWeight = 2 ^ 63 := rfl
  have hb := h.1
  have e : Op.negFloat .f64 b = if b < 2 ^ 63 then b + 2 ^ 63 else b - 2 ^ 63 := by
    show b ^^^ 2 ^ 63 = _
    by_cases hlt : b < 2 ^ 63
    · rw [if_pos hlt, xor_top b hlt]
    · rw [if_neg hlt]
      have hc : b - 2 ^ 63 < 2 ^ 63 := by omega
      have := xor_top (b - 2 ^ 63) hc
      rw [show b - 2 ^ 63 + 2 ^ 63 = b by omega] at this
      generalize b - 2 ^ 63 = c at *
      rw [← this, Nat.xor_assoc, Nat.xor_self, Nat.xor_zero]
  refine ⟨?_, ?_⟩
  · rw [e]; split <;> omega
  · have hd := h.2.opposite
    have : double.read (Op.negFloat .f64 b) = (double.read b).opposite := by
      rw [e]
      have hr : (if b < 2 ^ 63 then b + 2 ^ 63 else b - 2 ^ 63) % 2 ^ 63 = b % 2 ^ 63 := by split <;> omega
      have hs : ((if b < 2 ^ 63 then b + 2 ^ 63 else b - 2 ^ 63) / 2 ^ 63 % 2 == 1) = !(b / 2 ^ 63 % 2 == 1) := by
        by_cases hlt : b < 2 ^ 63
        · rw [if_pos hlt]
          have a1 : (b + 2 ^ 63) / 2 ^ 63 = 1 := by omega
          have a2 : b / 2 ^ 63 = 0 := by omega
          rw [a1, a2]; rfl
        · rw [if_neg hlt]
          have a1 : (b - 2 ^ 63) / 2 ^ 63 = 0 := by omega
          have a2 : b / 2 ^ 63 = 1 := by omega
          rw [a1, a2]; rfl
      unfold Format.read
      simp only [sw, hr, hs]
      split
      · rfl
      · split
        · rfl
        · split <;> rfl
    rw [this]; exact hd

end Go.Proofs.Ytjjmoibnmdbpeaa.Flo

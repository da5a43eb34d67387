/- PLAIN: the order of texts; a rising list of texts, and a text put into it. -/
import Derived.Test.YtjjmoibnmdbpeaaIns
namespace Go.Proofs.Ytjjmoibnmdbpeaa.Pr
set_option linter.unusedVariables false
set_option linter.unusedSimpArgs false
open Go

def ltS (a b : ByteArray) : Bool := Op.bytesLess a.toList b.toList

theorem bl_eq : ∀ (x y : List UInt8), Op.bytesLess x y = decide (x < y)
  | [], [] => by simp [Op.bytesLess]
  | _ :: _, [] => by simp [Op.bytesLess]
  | [], _ :: _ => by simp [Op.bytesLess]
  | a :: x, b :: y => by
    rw [Op.bytesLess, bl_eq x y]
    simp only [List.cons_lt_cons_iff]
    by_cases h1 : a < b <;> by_cases h2 : a = b <;> by_cases h3 : x < y <;> simp [h1, h2, h3]

theorem bl_irrefl : ∀ x : List UInt8, Op.bytesLess x x = false
  | [] => by simp [Op.bytesLess]
  | a :: x => by rw [Op.bytesLess, bl_irrefl x]; simp [UInt8.lt_irrefl]
theorem bl_trans : ∀ x y z : List UInt8, Op.bytesLess x y = true → Op.bytesLess y z = true → Op.bytesLess x z = true := by
  intro x y z h1 h2
  rw [bl_eq, decide_eq_true_iff] at *
  exact List.lt_trans h1 h2
theorem bl_total : ∀ x y : List UInt8, Op.bytesLess x y = false → x ≠ y → Op.bytesLess y x = true
  | [], [], _, h => absurd rfl h
  | [], _ :: _, h, _ => by simp [Op.bytesLess] at h
  | _ :: _, [], _, _ => by simp [Op.bytesLess]
  | a :: x, b :: y, h, hn => by
    rw [Op.bytesLess] at h ⊢
    simp only [Bool.or_eq_false_iff, Bool.and_eq_false_iff, decide_eq_false_iff_not] at h
    rcases Nat.lt_trichotomy a.toNat b.toNat with h3 | h3 | h3
    · exact absurd (UInt8.lt_iff_toNat_lt.2 h3) (by simpa using h.1)
    · have hab : a = b := UInt8.toNat_inj.1 h3
      subst hab
      have hx : Op.bytesLess x y = false := by simpa using h.2
      have := bl_total x y hx (fun e => hn (by rw [e]))
      simp [this]
    · have : b < a := UInt8.lt_iff_toNat_lt.2 h3
      simp [this]

theorem toList_inj {a b : ByteArray} (h : a.toList = b.toList) : a = b := by
  rw [ByteArray.toList_eq, ByteArray.toList_eq] at h
  cases a; cases b; simp_all

theorem ltS_irrefl (a : ByteArray) : ltS a a = false := bl_irrefl _
theorem ltS_trans {a b c : ByteArray} : ltS a b = true → ltS b c = true → ltS a c = true := bl_trans _ _ _
theorem ltS_total {a b : ByteArray} (h : ltS a b = false) (hn : a ≠ b) : ltS b a = true := bl_total _ _ h fun e => hn (toList_inj e)
theorem ltS_asymm {a b : ByteArray} (h : ltS a b = true) : ltS b a = false := by
  cases h2 : ltS b a with
  | false => rfl
  | true => have := ltS_trans h h2; rw [ltS_irrefl] at this; cases this

/-- Rising. -/
def Rise (T : List ByteArray) : Prop := T.Pairwise fun a b => ltS a b = true

/-- How many of a list's first ones lie below a text. -/
def posS : List ByteArray → ByteArray → Nat
  | [], _ => 0
  | x :: T, s => if ltS x s then posS T s + 1 else 0
theorem posS_le : ∀ (T : List ByteArray) (s : ByteArray), posS T s ≤ T.length
  | [], _ => Nat.le_refl _
  | x :: T, s => by have := posS_le T s; unfold posS; split <;> simp <;> omega
theorem posS_lt : ∀ (T : List ByteArray) (s : ByteArray) (t : Nat) (x : ByteArray), t < posS T s → T[t]? = some x → ltS x s = true
  | [], _, t, _, h, _ => by simp [posS] at h
  | y :: T, s, t, x, h, hx => by
    unfold posS at h
    split at h
    · rename_i hy
      cases t with
      | zero => simp at hx; subst hx; exact hy
      | succ t => exact posS_lt T s t x (by omega) (by simpa using hx)
    · omega
theorem posS_ge : ∀ (T : List ByteArray) (s : ByteArray) (t : Nat) (x : ByteArray), Rise T → posS T s ≤ t → T[t]? = some x → ltS x s = false
  | [], _, t, _, _, _, hx => by simp at hx
  | y :: T, s, t, x, hr, h, hx => by
    obtain ⟨hy, hr'⟩ := List.pairwise_cons.1 hr
    unfold posS at h
    split at h
    · cases t with
      | zero => omega
      | succ t => exact posS_ge T s t x hr' (by omega) (by simpa using hx)
    · rename_i hn
      have hn' : ltS y s = false := by simpa using hn
      cases t with
      | zero => simp at hx; subst hx; exact hn'
      | succ t =>
        have hm : x ∈ T := List.mem_of_getElem? (by simpa using hx)
        cases h2 : ltS x s with
        | false => rfl
        | true => rw [ltS_trans (hy x hm) h2] at hn'; cases hn'

/-- A text put into a rising list, once; the empty one is none. -/
def putS (T : List ByteArray) (s : ByteArray) : List ByteArray :=
  if s.size = 0 then T else if T[posS T s]? = some s then T else T.take (posS T s) ++ s :: T.drop (posS T s)

theorem putS_rise {T : List ByteArray} (hr : Rise T) (s : ByteArray) : Rise (putS T s) := by
  unfold putS
  split
  · exact hr
  · split
    · exact hr
    · rename_i _ hne
      unfold Rise
      rw [List.pairwise_append]
      have hsub1 : (T.take (posS T s)).Pairwise fun a b => ltS a b = true := hr.sublist (List.take_sublist _ _)
      have hsub2 : (T.drop (posS T s)).Pairwise fun a b => ltS a b = true := hr.sublist (List.drop_sublist _ _)
      have hbelow : ∀ a ∈ T.take (posS T s), ltS a s = true := fun a ha => by
        obtain ⟨t, ht⟩ := List.mem_iff_getElem?.1 ha
        rw [List.getElem?_take] at ht
        split at ht
        · exact posS_lt T s t a (by assumption) ht
        · cases ht
      have habove : ∀ a ∈ T.drop (posS T s), ltS s a = true := fun a ha => by
        obtain ⟨t, ht⟩ := List.mem_iff_getElem?.1 ha
        rw [List.getElem?_drop] at ht
        have h1 := posS_ge T s _ a hr (by omega) ht
        by_cases hea : a = s
        · subst hea
          cases t with
          | zero => exact absurd (by simpa using ht) hne
          | succ t =>
            -- the element at the place lies below this one, yet not below s
            have hlt : posS T a < T.length := by
              have := (List.getElem?_eq_some_iff.1 ht).1
              omega
            have h2 := posS_ge T a (posS T a) _ hr (Nat.le_refl _) (List.getElem?_eq_getElem hlt)
            have h3 : ltS (T[posS T a]'hlt) (T[posS T a + (t + 1)]'((List.getElem?_eq_some_iff.1 ht).1)) = true := List.pairwise_iff_getElem.1 hr _ _ _ _ (by omega)
            rw [(List.getElem?_eq_some_iff.1 ht).2, h2] at h3
            cases h3
        · exact ltS_total h1 hea
      refine ⟨hsub1, List.pairwise_cons.2 ⟨habove, hsub2⟩, fun a ha b hb => ?_⟩
      rcases List.mem_cons.1 hb with rfl | hb
      · exact hbelow a ha
      · exact ltS_trans (hbelow a ha) (habove b hb)

/-- The halving finds the place. -/
theorem bs_pos {T : List ByteArray} (hr : Rise T) (s : ByteArray) : Lib.bsGo (fun t => Op.bytesLess ((T[t]?).getD s).toList s.toList) T.length 0 T.length = posS T s := by
  refine Lib.bsGo_spec _ (posS T s) (fun t ht => ?_) (fun t ht => ?_) _ _ _ (by omega) (by omega) (posS_le T s)
  · have hl := posS_le T s
    have h1 : T[t]? = some (T[t]'(by omega)) := List.getElem?_eq_getElem _
    rw [h1, Option.getD_some]
    exact posS_lt T s t _ ht h1
  · cases h : T[t]? with
    | none => rw [Option.getD_none]; exact bl_irrefl _
    | some x => rw [Option.getD_some]; exact posS_ge T s t x hr ht h

end Go.Proofs.Ytjjmoibnmdbpeaa.Pr

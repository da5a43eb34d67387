/- WALK of proper.Vars' closure. -/
import Derived.Test.YtjjmoibnmdbpeaaTabc
import Derived.Test.YtjjmoibnmdbpeaaLays
namespace Go.Proofs.Ytjjmoibnmdbpeaa.Pr
set_option linter.unusedVariables false
set_option linter.unusedSimpArgs false
open Go Go.RowKit

/-- What a call leaves alone that writes rows of texts of its own alone. -/
structure Keep (base : Nat) (w w' : World) : Prop where
  os : w'.os = w.os
  tape : w'.tape = w.tape
  output : w'.output = w.output
  size : w.heap.size ≤ w'.heap.size
  block : ∀ k, k < w.heap.size → (k < base ∨ ∃ cs t f, w.heap[k]? = some (.cells cs t f) ∧ t ≠ 9 ∧ t ≠ 92) → w'.heap[k]? = w.heap[k]?

theorem Keep.refl (base : Nat) (w : World) : Keep base w w := ⟨rfl, rfl, rfl, Nat.le_refl _, fun _ _ _ => rfl⟩
theorem Keep.trans {base : Nat} {a b c : World} (h : Keep base a b) (k : Keep base b c) : Keep base a c :=
  ⟨k.os.trans h.os, k.tape.trans h.tape, k.output.trans h.output, Nat.le_trans h.size k.size, fun j hj hc => (k.block j (Nat.lt_of_lt_of_le hj h.size) (by
    rcases hc with hc | ⟨cs, t, f, h1, h2⟩
    · exact .inl hc
    · exact .inr ⟨cs, t, f, (h.block j hj (.inr ⟨cs, t, f, h1, h2⟩)).trans h1, h2⟩)).trans (h.block j hj hc)⟩
theorem Keep.below {base : Nat} {w w' : World} (h : Keep base w w') (hb : base ≤ w.heap.size) : Below base w w' :=
  ⟨h.os, h.tape, h.output, h.size, fun k hk => h.block k (by omega) (.inl hk)⟩
theorem Keep.of_below {base : Nat} {w w' : World} (h : Below w.heap.size w w') : Keep base w w' :=
  ⟨h.os, h.tape, h.output, h.size, fun k hk _ => h.block k hk⟩
theorem Keep.grown {base : Nat} {w w' : World} {v : Value} {n : Nat} {xs : List Value} (h : w.grownBy w' v.ownBlock) (hown : w.ownsRow base 9 1 v n xs) : Keep base w w' :=
  ⟨h.os, h.tape, h.output, h.size, fun k hk hc => h.block k hk fun he => by
    rcases hown.2 with ⟨rfl, _⟩ | ⟨g, cap, cur, rfl, hbg, hg, _⟩
    · cases he
    · cases he
      rcases hc with hc | ⟨cs, t, f, h1, h2, h3⟩
      · have hc' : g < base := hc
        omega
      · rw [hg] at h1; cases h1; exact h2 rfl⟩
theorem Keep.stored {base B : Nat} {w : World} {v u : Value} (hB : w.heap[B]? = some (.cells #[v] 92 (0, 0))) (hb : base ≤ B) : Keep base w (w.setCell ⟨B, 0, none⟩ u) :=
  ⟨rfl, rfl, rfl, by simp [World.setCell], fun k hk hc => Below.heap_setCell _ _ _ _ fun he => by
    have he' : B = k := he.symm
    subst he'
    rcases hc with hc | ⟨cs, t, f, h1, h2, h3⟩
    · omega
    · rw [hB] at h1; cases h1; exact h3 rfl⟩
theorem own_not {w : World} {base B : Nat} {v u : Value} {n : Nat} {xs : List Value} (hown : w.ownsRow base 9 1 v n xs) (hB : w.heap[B]? = some (.cells #[u] 92 (0, 0))) : v.ownBlock ≠ some B := by
  intro he
  rcases hown.2 with ⟨rfl, _⟩ | ⟨g, cap, cur, rfl, hbg, hg, _⟩
  · cases he
  · cases he
    rw [hg] at hB
    cases hB

theorem bin_any (T : List ByteArray) (hr : Rise T) (hl : T.length ≤ 100000) (x : ByteArray) (v : Value) (w : World) (h : Sl w v encS T) :
    Calls Try.prog 82 #[v, .string x] w fun e w' => e = .returned (.tuple #[.int .i64 (posS T x), .bool (decide (T[posS T x]? = some x))]) ∧ ∃ q, w' = w.drewN q := by
  obtain ⟨b, off, p, cap, rfl, hp, hc⟩ := Sl.strs h
  by_cases h0 : T.length = 0
  · have hT : T = [] := List.eq_nil_of_length_eq_zero h0
    subst hT
    exact (Any2.slices_BinarySearch_string_empty Try.laysBin p cap x w).mono fun e w' ⟨he, hw⟩ => ⟨by rw [he]; simp [posS], 0, hw⟩
  · obtain rfl := hp (by omega)
    refine (Any2.slices_BinarySearch_string Try.laysBin b off T.length cap (fun t => (T[t]?).getD x) x w (by omega) (fun j hj => by rw [hc j hj]; simp [List.getElem?_eq_getElem hj])).mono fun e w' ⟨he, hw⟩ => ⟨?_, hw⟩
    rw [he, bs_pos hr x]
    have hle := posS_le T x
    congr 4
    by_cases hlt : posS T x < T.length
    · simp [List.getElem?_eq_getElem hlt, hlt]
    · simp [List.getElem?_eq_none (by omega : T.length ≤ posS T x), hlt]

theorem ins_any (T T2 : List ByteArray) (x : ByteArray) (h2 : T2 = T.take (posS T x) ++ x :: T.drop (posS T x)) (hl : T.length ≤ 100000) (base : Nat) (v : Value) (vb : Nat) (w : World) (hown : w.ownsRow base 9 1 v T.length (T.flatMap encS)) (hvb : v.ownBlock ≠ some vb)
    (hv : w.heap[vb]? = some (.cells #[.string x] 9 (0, 0))) (hb : base ≤ w.heap.size) :
    Calls Try.prog 83 #[v, .int .i64 (posS T x), .slice (some ⟨vb, 0, none⟩) 1 1] w fun e w' => ∃ v', e = .returned v' ∧ w'.ownsRow base 9 1 v' T2.length (T2.flatMap encS) ∧ w.grownBy w' v.ownBlock ∧ (v'.ownBlock = v.ownBlock ∨ v'.ownBlock = some w.heap.size) := by
  have hfm : ∀ L : List ByteArray, L.flatMap encS = L.map Value.string := fun L => by
    induction L with
    | nil => rfl
    | cons a L ih => rw [List.flatMap_cons, ih]; rfl
  have hle := posS_le T x
  refine (insert_own Try.laysIns base T.length (posS T x) v (T.flatMap encS) x vb 9 w hown (fun u hu => by
    rw [hfm] at hu; obtain ⟨a, _, rfl⟩ := List.mem_map.1 hu; rfl) hle hvb hv hb (by omega)).mono ?_
  rintro e w' ⟨v', he, ho, hg⟩
  refine ⟨v', he, ?_, hg⟩
  have e1 : (T.take (posS T x) ++ x :: T.drop (posS T x)).length = T.length + 1 := by simp; omega
  have e2 : (T.take (posS T x) ++ x :: T.drop (posS T x)).flatMap encS = (T.flatMap encS).take (posS T x) ++ .string x :: (T.flatMap encS).drop (posS T x) := by
    rw [hfm, hfm, List.map_append, List.map_cons, List.map_take, List.map_drop]
  rw [h2, e1, e2]
  exact ho

end Go.Proofs.Ytjjmoibnmdbpeaa.Pr

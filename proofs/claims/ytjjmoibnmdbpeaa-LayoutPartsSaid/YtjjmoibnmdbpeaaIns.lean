/- slices.Insert of one string into a row that the call owns: a row that the call owns, the string at its place. Over the shelf's contracts. -/
import Derived.Shelf.Spec.SlicesInsertGrow
import Derived.Shelf.Spec.SearchS
import Derived.Laws.AppendOwn
import Derived.Laws.OwnMore
namespace Go.Proofs.Ytjjmoibnmdbpeaa
set_option linter.unusedVariables false
set_option linter.unusedSimpArgs false
open Go Go.RowKit Go.Shelf

section
variable {w : World} {base : Nat} {e : TypeId} {g n cap : Nat} {xs : List Value}

theorem storeds : ∀ (vs : List Value) (o : Nat) (w : World) (xs : List Value), w.ownsRow base e 1 (.slice (some ⟨g, 0, none⟩) n cap) n xs → o + vs.length ≤ n →
    (w.setCells g o vs).ownsRow base e 1 (.slice (some ⟨g, 0, none⟩) n cap) n (xs.take o ++ vs ++ xs.drop (o + vs.length)) ∧ w.grownBy (w.setCells g o vs) (some g)
  | [], o, w, xs, h, _ => by
    refine ⟨by simpa [World.setCells] using h, ⟨rfl, rfl, rfl, Nat.le_refl _, fun k _ _ => rfl⟩⟩
  | v :: r, o, w, xs, h, hl => by
    have hx : xs.length = n := by have := h.1; omega
    simp only [List.length_cons] at hl
    obtain ⟨h1, g1⟩ := h.stored o v
    obtain ⟨h2, g2⟩ := storeds r (o + 1) _ _ h1 (by omega)
    refine ⟨?_, ⟨g2.os.trans g1.os, g2.tape.trans g1.tape, g2.output.trans g1.output, Nat.le_trans g1.size g2.size, fun k hk hne => (g2.block k (Nat.lt_of_lt_of_le hk g1.size) hne).trans (g1.block k hk hne)⟩⟩
    have e1 : (xs.set o v).take (o + 1) ++ r ++ (xs.set o v).drop (o + 1 + r.length) = xs.take o ++ v :: r ++ xs.drop (o + (v :: r).length) := by
      rw [List.set_eq_take_append_cons_drop, if_pos (by omega)]
      have ht : (xs.take o).length = o := by rw [List.length_take]; omega
      have a1 : (xs.take o ++ v :: xs.drop (o + 1)).take (o + 1) = xs.take o ++ [v] := by
        rw [List.take_append, ht, List.take_of_length_le (by omega)]
        simp
      have a2 : (xs.take o ++ v :: xs.drop (o + 1)).drop (o + 1 + r.length) = xs.drop (o + (v :: r).length) := by
        rw [List.drop_append, ht, List.drop_of_length_le (by omega), show o + 1 + r.length - o = r.length + 1 by omega, List.drop_succ_cons, List.drop_drop]
        simp
        congr 1
        omega
      rw [a1, a2]
      simp
    rw [← e1]
    exact h2

theorem own_drew {v : Value} (h : w.ownsRow base e 1 v n xs) : w.drew.ownsRow base e 1 v n xs := h
theorem grown_trans {a b c : World} {r : Option Nat} (g1 : a.grownBy b r) (g2 : b.grownBy c r) : a.grownBy c r :=
  ⟨g2.os.trans g1.os, g2.tape.trans g1.tape, g2.output.trans g1.output, Nat.le_trans g1.size g2.size, fun k hk hne => (g2.block k (Nat.lt_of_lt_of_le hk g1.size) hne).trans (g1.block k hk hne)⟩
theorem grown_new {w c : World} {o : Obj} {r : Option Nat} (h : (w.alloc o).grownBy c (some w.heap.size)) : w.grownBy c r :=
  ⟨h.os, h.tape, h.output, Nat.le_trans (by simp) h.size, fun k hk _ => (h.block k (by simp; omega) (by simp; omega)).trans (heap_alloc_old w o hk)⟩
theorem grown_drew (a : World) (r : Option Nat) : a.grownBy a.drew r := ⟨rfl, rfl, rfl, Nat.le_refl _, fun k _ _ => rfl⟩
end

variable {P : Program} {ρ : Ren}

/-- One string into an own row: an own row. -/
theorem insert_own (L : Lays2.n22 P ρ) (base n i : Nat) (v : Value) (xs : List Value) (s : ByteArray) (vb : Nat) (tA : TypeId) (w : World) (hown : w.ownsRow base (ρ.t 9) 1 v n xs) (h1 : ∀ u ∈ xs, u.oneCell' = true) (hi : i ≤ n)
    (hvb : v.ownBlock ≠ some vb) (hv : w.heap[vb]? = some (.cells #[.string s] tA (0, 0))) (hb : base ≤ w.heap.size) (hn : n ≤ 1000000) :
    Calls P (ρ.f 22) #[v, .int .i64 i, .slice (some ⟨vb, 0, none⟩) 1 1] w fun e w' => ∃ v', e = .returned v' ∧ w'.ownsRow base (ρ.t 9) 1 v' (n + 1) (xs.take i ++ .string s :: xs.drop i) ∧ w.grownBy w' v.ownBlock ∧ (v'.ownBlock = v.ownBlock ∨ v'.ownBlock = some w.heap.size) := by
  have hxl : xs.length = n := by have := hown.1; omega
  have hvs : ∀ j u, ([Value.string s] : List Value)[j]? = some u → w.cell? ⟨vb, 0 + j, none⟩ = some u := fun j u hu => by
    rw [Nat.zero_add, cell_of_row w vb j _ tA (0, 0) hv]
    simpa using hu
  have h1v : ∀ u ∈ ([Value.string s] : List Value), u.oneCell' = true := fun u hu => by simp at hu; subst hu; rfl
  have hml : maxLen = 9223372036854775807 := by unfold maxLen; rfl
  rcases hown.2 with ⟨rfl, rfl⟩ | ⟨g, cap, cur, rfl, hbg, hg, hnc, hcm, hcs, htake⟩
  · obtain rfl : i = 0 := by omega
    have hx0 : xs = [] := List.eq_nil_of_length_eq_zero hxl
    subst hx0
    refine (Any2.slices_Insert_string_end_grow L none 0 0 vb 0 1 1 [] [.string s] w (by omega) (by omega) (by omega) (by omega) rfl rfl (fun _ => rfl) (fun a ha => by cases ha) hvs h1v).mono ?_
    rintro e w' ⟨rfl, rfl⟩
    have hge := grownCap_ge w (0 + 1) 0 (ρ.t 9)
    have hmx := grownCap_le_maxLen w (0 + 1) 0 (ρ.t 9) (by omega)
    generalize grownCap w (0 + 1) 0 (ρ.t 9) = G at hge hmx ⊢
    refine ⟨_, rfl, ⟨rfl, .inr ⟨_, _, _, rfl, hb, heap_alloc_new w.drew _, hge, hmx, ?_, ?_⟩⟩, ?_, .inr rfl⟩
    · simp [Builtin.zeroCells, Value.cells]; omega
    · simp
    · exact grown_trans (grown_drew w _) (World.grownBy_alloc _ _ _)
  · have hgv : vb ≠ g := fun e => hvb (by rw [e]; rfl)
    have hcz : cap = cur.size := by omega
    have hcells : ∀ j u, xs[j]? = some u → w.cell? ⟨g, 0 + j, none⟩ = some u := fun j u hu => by
      have hj : j < n := by rw [← hxl]; exact (List.getElem?_eq_some_iff.1 hu).1
      rw [Nat.zero_add, hown.cellAt j (by omega), hu]
    have hsp : ∀ j, j < cap → (w.cell? ⟨g, j, none⟩).isSome = true := fun j hj => by
      rw [cell_of_row w g j cur (ρ.t 9) (0, 0) hg]
      simp; omega
    have hfz : ∀ j, w.frozen? ⟨g, j, none⟩ = false := fun j => hown.frozenAt j
    have hsa : w.shape? vb = some (tA, 1) := by simp [World.shape?, hv]
    have hsb : w.shape? g = some (ρ.t 9, cap) := by simp [World.shape?, hg]; omega
    have hfa : ∀ j, w.frozen? ⟨vb, j, none⟩ = false := fun j => frozen_of_row w vb j _ tA hv
    have hc63 : cap ≤ 9223372036854775807 := by omega
    by_cases hroom : n + 1 ≤ cap
    · have hY : w.ownsRow base (ρ.t 9) 1 (.slice (some ⟨g, 0, none⟩) (n + 1) cap) (n + 1) (cur.toList.take (n + 1)) :=
        ⟨by simp; omega, .inr ⟨g, cap, cur, rfl, hbg, hg, hroom, hcm, hcs, by simp⟩⟩
      have hYl : (cur.toList.take (n + 1)).length = n + 1 := by have := hY.1; omega
      have hYx : ∀ j, j ≤ n → (cur.toList.take (n + 1)).take j = xs.take j := fun j hj => by
        rw [← htake, List.take_take, List.take_take]
        congr 1
        omega
      generalize cur.toList.take (n + 1) = Y at hY hYl hYx
      by_cases hin : i < n
      · refine (Any2.slices_Insert_string_shift L g 0 n cap i vb 0 1 1 xs [.string s] w hin (by omega) hroom hc63 hgv hxl rfl hcells (fun j hj => by rw [Nat.zero_add]; exact hsp j (by omega)) (fun j _ => hfz _) hvs h1 h1v tA (ρ.t 9) 1 cap hsa hsb (by omega) (hfa 0) (hfa 1)).mono ?_
        rintro e w' ⟨rfl, rfl⟩
        have hd : (xs.drop i).length = n - i := by rw [List.length_drop]; omega
        obtain ⟨h2, g2⟩ := storeds (xs.drop i) (i + 1) w.drew Y (own_drew hY) (by omega)
        obtain ⟨h3, g3⟩ := storeds [Value.string s] i _ _ h2 (by simp; omega)
        simp only [Nat.zero_add]
        refine ⟨_, rfl, ?_, grown_trans (grown_trans (grown_drew w _) g2) g3, .inl rfl⟩
        have e1 : Y.take (i + 1) ++ xs.drop i ++ Y.drop (i + 1 + (xs.drop i).length) = Y.take (i + 1) ++ xs.drop i := by
          have e0 : Y.drop (i + 1 + (xs.drop i).length) = [] := List.drop_of_length_le (by omega)
          rw [e0, List.append_nil]
        rw [e1] at h3
        have ht : (Y.take (i + 1)).length = i + 1 := by rw [List.length_take]; omega
        have e2 : (Y.take (i + 1) ++ xs.drop i).take i = xs.take i := by
          rw [List.take_append, ht, List.take_take, show i - (i + 1) = 0 by omega, List.take_zero, List.append_nil, show min i (i + 1) = i by omega]
          exact hYx i hi
        have e3 : (Y.take (i + 1) ++ xs.drop i).drop (i + [Value.string s].length) = xs.drop i := by
          have e0 : (Y.take (i + 1)).drop (i + [Value.string s].length) = [] := List.drop_of_length_le (by simp; omega)
          rw [List.drop_append, ht, e0]
          simp
        rw [e2, e3] at h3
        simpa using h3
      · obtain rfl : i = n := by omega
        refine (Any2.slices_Insert_string_end_room L g 0 i cap vb 0 1 1 [.string s] w (by omega) hroom hc63 rfl (fun j hj => by rw [Nat.zero_add]; exact hsp _ (by omega)) (fun j _ => hfz _) hvs h1v).mono ?_
        rintro e w' ⟨rfl, rfl⟩
        obtain ⟨h3, g3⟩ := storeds [Value.string s] i w Y hY (by simp)
        simp only [Nat.zero_add]
        refine ⟨_, rfl, ?_, g3, .inl rfl⟩
        have e0 : Y.drop (i + [Value.string s].length) = [] := List.drop_of_length_le (by simp; omega)
        have e4 : xs.drop i = [] := List.drop_of_length_le (by omega)
        rw [hYx i (Nat.le_refl _), e0] at h3
        rw [e4]
        simpa using h3
    · have hge := grownCap_ge w (n + 1) cap (ρ.t 9)
      have hmx := grownCap_le_maxLen w (n + 1) cap (ρ.t 9) (by omega)
      by_cases hin : i < n
      · refine (Any2.slices_Insert_string_grow L g 0 n cap i vb 0 1 1 xs [.string s] w hin (by omega) hnc (by omega) (by omega) hxl rfl hcells hvs h1 h1v).mono ?_
        rintro e w' ⟨rfl, rfl⟩
        generalize grownCap w (n + 1) cap (ρ.t 9) = G at hge hmx ⊢
        have hA : (w.alloc (.cells ((xs.take i).toArray ++ Builtin.zeroCells (Value.string ⟨#[]⟩).cells (n + 1 - i) ++ Builtin.zeroCells (Value.string ⟨#[]⟩).cells (G - (n + 1))) (ρ.t 9))).ownsRow base (ρ.t 9) 1 (.slice (some ⟨w.heap.size, 0, none⟩) (n + 1) G) (n + 1) (xs.take i ++ (Builtin.zeroCells (Value.string ⟨#[]⟩).cells (n + 1 - i)).toList) := by
          refine ⟨?_, .inr ⟨_, _, _, rfl, hb, heap_alloc_new w _, hge, hmx, ?_, ?_⟩⟩
          · simp [Builtin.zeroCells, Value.cells]; omega
          · simp [Builtin.zeroCells, Value.cells]; omega
          · simp only [Array.toList_append, List.toList_toArray]
            rw [List.take_append_of_le_length (by simp [Builtin.zeroCells, Value.cells]; omega), List.take_of_length_le (by simp [Builtin.zeroCells, Value.cells]; omega)]
        generalize (.cells ((xs.take i).toArray ++ Builtin.zeroCells (Value.string ⟨#[]⟩).cells (n + 1 - i) ++ Builtin.zeroCells (Value.string ⟨#[]⟩).cells (G - (n + 1))) (ρ.t 9) : Obj) = O at hA ⊢
        have hZl : (xs.take i ++ (Builtin.zeroCells (Value.string ⟨#[]⟩).cells (n + 1 - i)).toList).length = n + 1 := by have := hA.1; omega
        generalize (Builtin.zeroCells (Value.string ⟨#[]⟩).cells (n + 1 - i)).toList = Z at hA hZl
        have hti : (xs.take i).length = i := by rw [List.length_take]; omega
        have hd : (xs.drop i).length = n - i := by rw [List.length_drop]; omega
        obtain ⟨h2, g2⟩ := storeds [Value.string s] i (w.alloc O).drew _ (own_drew hA) (by simp; omega)
        obtain ⟨h3, g3⟩ := storeds (xs.drop i) (i + 1) _ _ (own_drew h2) (by omega)
        refine ⟨_, rfl, ?_, grown_new (o := O) (grown_trans (grown_trans (grown_drew _ _) g2) (grown_trans (grown_drew _ _) g3)), .inr rfl⟩
        have e1 : (xs.take i ++ Z).take i = xs.take i := by rw [List.take_append, hti, Nat.sub_self, List.take_zero, List.append_nil, List.take_of_length_le (by omega)]
        have e2 : (xs.take i ++ [Value.string s] ++ (xs.take i ++ Z).drop (i + [Value.string s].length)).take (i + 1) = xs.take i ++ [Value.string s] := by
          rw [List.take_append_of_le_length (by simp; omega), List.take_of_length_le (by simp; omega)]
        rw [e1, e2] at h3
        have hl9 : (xs.take i ++ [Value.string s] ++ (xs.take i ++ Z).drop (i + [Value.string s].length)).length = n + 1 := by
          simp only [List.length_append, List.length_drop, hti, List.length_singleton] at hZl ⊢
          omega
        have e0 : (xs.take i ++ [Value.string s] ++ (xs.take i ++ Z).drop (i + [Value.string s].length)).drop (i + 1 + (xs.drop i).length) = [] := List.drop_of_length_le (by omega)
        rw [e0] at h3
        simpa using h3
      · obtain rfl : i = n := by omega
        have hca : ∀ a, (some ⟨g, 0, none⟩ : Option Addr) = some a → ∀ j v, xs[j]? = some v → w.cell? (a.add j) = some v := fun a ha j u hu => by
          cases ha
          exact hown.cells (g := g) rfl j u hu
        refine (Any2.slices_Insert_string_end_grow L (some ⟨g, 0, none⟩) i cap vb 0 1 1 xs [.string s] w (by omega) hnc (by omega) (by omega) hxl rfl (fun h => by cases h) hca hvs h1v).mono ?_
        rintro e w' ⟨rfl, rfl⟩
        refine ⟨_, rfl, ⟨by simp; omega, .inr ⟨_, _, _, rfl, hb, heap_alloc_new w.drew _, hge, hmx, ?_, ?_⟩⟩, ?_, .inr rfl⟩
        · simp [Builtin.zeroCells, Value.cells]; omega
        · simp only [Array.toList_append, List.toList_toArray]
          rw [List.take_append_of_le_length (by simp; omega), List.take_of_length_le (by simp; omega)]
          have e4 : xs.drop i = [] := List.drop_of_length_le (by omega)
          have e5 : xs.take i = xs := List.take_of_length_le (by omega)
          rw [e4, e5]
        · exact grown_trans (grown_drew w _) (World.grownBy_alloc _ _ _)

end Go.Proofs.Ytjjmoibnmdbpeaa

/- slices.Insert of one string into a row that the call owns: a row that the call owns, the string at its place. Over the shelf's contracts. PLAIN: the order of texts; a rising list of texts, and a text put into it. -/
import Derived.Shelf.Spec.SlicesInsertGrow
import Derived.Shelf.Spec.SearchS
import Derived.Laws.AppendOwn
import Derived.Laws.OwnMore

namespace Go.Proofs.Ytmnplnhblniimaa
set_option linter.unusedVariables false
set_option linter.unusedSimpArgs false
open Go Go.RowKit Go.Shelf

section
variable {w : World} {base : Nat} {e : TypeId} {g n cap : Nat} {xs : List Value}

theorem storeds : ∀ (vs : List Value) (o : Nat) (w : World) (xs : List Value), w.ownsRow base e 1 (.slice (some ⟨g, 0, none⟩) n cap) n xs → o + vs.length ≤ n →
    (w.setCells g o vs).ownsRow base e 1 (.slice (some ⟨g, 0, none⟩) n cap) n (xs.take o ++ vs ++ xs.drop (o + vs.length)) ∧ w.grownBy (w.setCells g o vs) (some g)
  | [], o, w, xs, h, _ => by
    refine ⟨by simpa [World.setCells] using h, ⟨rfl, rfl, rfl, Nat.le_refl _, fun k _ _ => rfl⟩⟩
  | v :: r, o, w, xs, h, hl => by
    have hx : xs.length = n := by have := h.1; omega
    simp only [List.length_cons] at hl
    obtain ⟨h1, g1⟩ := h.stored o v
    obtain ⟨h2, g2⟩ := storeds r (o + 1) _ _ h1 (by omega)
    refine ⟨?_, ⟨g2.os.trans g1.os, g2.tape.trans g1.tape, g2.output.trans g1.output, Nat.le_trans g1.size g2.size, fun k hk hne => (g2.block k (Nat.lt_of_lt_of_le hk g1.size) hne).trans (g1.block k hk hne)⟩⟩
    have e1 : (xs.set o v).take (o + 1) ++ r ++ (xs.set o v).drop (o + 1 + r.length) = xs.take o ++ v :: r ++ xs.drop (o + (v :: r).length) := by
      rw [List.set_eq_take_append_cons_drop, if_pos (by omega)]
      have ht : (xs.take o).length = o := by rw [List.length_take]; omega
      have a1 : (xs.take o ++ v :: xs.drop (o + 1)).take (o + 1) = xs.take o ++ [v] := by
        rw [List.take_append, ht, List.take_of_length_le (by omega)]
        simp
      have a2 : (xs.take o ++ v :: xs.drop (o + 1)).drop (o + 1 + r.length) = xs.drop (o + (v :: r).length) := by
        rw [List.drop_append, ht, List.drop_of_length_le (by omega), show o + 1 + r.length - o = r.length + 1 by omega, List.drop_succ_cons, List.drop_drop]
        simp
        congr 1
        omega
      rw [a1, a2]
      simp
    rw [← e1]
    exact h2

theorem own_drew {v : Value} (h : w.ownsRow base e 1 v n xs) : w.drew.ownsRow base e 1 v n xs := h
theorem grown_trans {a b c : World} {r : Option Nat} (g1 : a.grownBy b r) (g2 : b.grownBy c r) : a.grownBy c r :=
  ⟨g2.os.trans g1.os, g2.tape.trans g1.tape, g2.output.trans g1.output, Nat.le_trans g1.size g2.size, fun k hk hne => (g2.block k (Nat.lt_of_lt_of_le hk g1.size) hne).trans (g1.block k hk hne)⟩
theorem grown_new {w c : World} {o : Obj} {r : Option Nat} (h : (w.alloc o).grownBy c (some w.heap.size)) : w.grownBy c r :=
  ⟨h.os, h.tape, h.output, Nat.le_trans (by simp) h.size, fun k hk _ => (h.block k (by simp; omega) (by simp; omega)).trans (heap_alloc_old w o hk)⟩
theorem grown_drew (a : World) (r : Option Nat) : a.grownBy a.drew r := ⟨rfl, rfl, rfl, Nat.le_refl _, fun k _ _ => rfl⟩
end

variable {P : Program} {ρ : Ren}

/-- One string into an own row: an own row. -/
theorem insert_own (L : Lays2.n22 P ρ) (base n i : Nat) (v : Value) (xs : List Value) (s : ByteArray) (vb : Nat) (tA : TypeId) (w : World) (hown : w.ownsRow base (ρ.t 9) 1 v n xs) (h1 : ∀ u ∈ xs, u.oneCell' = true) (hi : i ≤ n)
    (hvb : v.ownBlock ≠ some vb) (hv : w.heap[vb]? = some (.cells #[.string s] tA (0, 0))) (hb : base ≤ w.heap.size) (hn : n ≤ 1000000) :
    Calls P (ρ.f 22) #[v, .int .i64 i, .slice (some ⟨vb, 0, none⟩) 1 1] w fun e w' => ∃ v', e = .returned v' ∧ w'.ownsRow base (ρ.t 9) 1 v' (n + 1) (xs.take i ++ .string s :: xs.drop i) ∧ w.grownBy w' v.ownBlock ∧ (v'.ownBlock = v.ownBlock ∨ v'.ownBlock = some w.heap.size) := by
  have hxl : xs.length = n := by have := hown.1; omega
  have hvs : ∀ j u, ([Value.string s] : List Value)[j]? = some u → w.cell? ⟨vb, 0 + j, none⟩ = some u := fun j u hu => by
    rw [Nat.zero_add, cell_of_row w vb j _ tA (0, 0) hv]
    simpa using hu
  have h1v : ∀ u ∈ ([Value.string s] : List Value), u.oneCell' = true := fun u hu => by simp at hu; subst hu; rfl
  have hml : maxLen = 9223372036854775807 := by unfold maxLen; rfl
  rcases hown.2 with ⟨rfl, rfl⟩ | ⟨g, cap, cur, rfl, hbg, hg, hnc, hcm, hcs, htake⟩
  · obtain rfl : i = 0 := by omega
    have hx0 : xs = [] := List.eq_nil_of_length_eq_zero hxl
    subst hx0
    refine (Any2.slices_Insert_string_end_grow L none 0 0 vb 0 1 1 [] [.string s] w (by omega) (by omega) (by omega) (by omega) rfl rfl (fun _ => rfl) (fun a ha => by cases ha) hvs h1v).mono ?_
    rintro e w' ⟨rfl, rfl⟩
    have hge := grownCap_ge w (0 + 1) 0 (ρ.t 9)
    have hmx := grownCap_le_maxLen w (0 + 1) 0 (ρ.t 9) (by omega)
    generalize grownCap w (0 + 1) 0 (ρ.t 9) = G at hge hmx ⊢
    refine ⟨_, rfl, ⟨rfl, .inr ⟨_, _, _, rfl, hb, heap_alloc_new w.drew _, hge, hmx, ?_, ?_⟩⟩, ?_, .inr rfl⟩
    · simp [Builtin.zeroCells, Value.cells]; omega
    · simp
    · exact grown_trans (grown_drew w _) (World.grownBy_alloc _ _ _)
  · have hgv : vb ≠ g := fun e => hvb (by rw [e]; rfl)
    have hcz : cap = cur.size := by omega
    have hcells : ∀ j u, xs[j]? = some u → w.cell? ⟨g, 0 + j, none⟩ = some u := fun j u hu => by
      have hj : j < n := by rw [← hxl]; exact (List.getElem?_eq_some_iff.1 hu).1
      rw [Nat.zero_add, hown.cellAt j (by omega), hu]
    have hsp : ∀ j, j < cap → (w.cell? ⟨g, j, none⟩).isSome = true := fun j hj => by
      rw [cell_of_row w g j cur (ρ.t 9) (0, 0) hg]
      simp; omega
    have hfz : ∀ j, w.frozen? ⟨g, j, none⟩ = false := fun j => hown.frozenAt j
    have hsa : w.shape? vb = some (tA, 1) := by simp [World.shape?, hv]
    have hsb : w.shape? g = some (ρ.t 9, cap) := by simp [World.shape?, hg]; omega
    have hfa : ∀ j, w.frozen? ⟨vb, j, none⟩ = false := fun j => frozen_of_row w vb j _ tA hv
    have hc63 : cap ≤ 9223372036854775807 := by omega
    by_cases hroom : n + 1 ≤ cap
    · have hY : w.ownsRow base (ρ.t 9) 1 (.slice (some ⟨g, 0, none⟩) (n + 1) cap) (n + 1) (cur.toList.take (n + 1)) :=
        ⟨by simp; omega, .inr ⟨g, cap, cur, rfl, hbg, hg, hroom, hcm, hcs, by simp⟩⟩
      have hYl : (cur.toList.take (n + 1)).length = n + 1 := by have := hY.1; omega
      have hYx : ∀ j, j ≤ n → (cur.toList.take (n + 1)).take j = xs.take j := fun j hj => by
        rw [← htake, List.take_take, List.take_take]
        congr 1
        omega
      generalize cur.toList.take (n + 1) = Y at hY hYl hYx
      by_cases hin : i < n
      · refine (Any2.slices_Insert_string_shift L g 0 n cap i vb 0 1 1 xs [.string s] w hin (by omega) hroom hc63 hgv hxl rfl hcells (fun j hj => by rw [Nat.zero_add]; exact hsp j (by omega)) (fun j _ => hfz _) hvs h1 h1v tA (ρ.t 9) 1 cap hsa hsb (by omega) (hfa 0) (hfa 1)).mono ?_
        rintro e w' ⟨rfl, rfl⟩
        have hd : (xs.drop i).length = n - i := by rw [List.length_drop]; omega
        obtain ⟨h2, g2⟩ := storeds (xs.drop i) (i + 1) w.drew Y (own_drew hY) (by omega)
        obtain ⟨h3, g3⟩ := storeds [Value.string s] i _ _ h2 (by simp; omega)
        simp only [Nat.zero_add]
        refine ⟨_, rfl, ?_, grown_trans (grown_trans (grown_drew w _) g2) g3, .inl rfl⟩
        have e1 : Y.take (i + 1) ++ xs.drop i ++ Y.drop (i + 1 + (xs.drop i).length) = Y.take (i + 1) ++ xs.drop i := by
          have e0 : Y.drop (i + 1 + (xs.drop i).length) = [] := List.drop_of_length_le (by omega)
          rw [e0, List.append_nil]
        rw [e1] at h3
        have ht : (Y.take (i + 1)).length = i + 1 := by rw [List.length_take]; omega
        have e2 : (Y.take (i + 1) ++ xs.drop i).take i = xs.take i := by
          rw [List.take_append, ht, List.take_take, show i - (i + 1) = 0 by omega, List.take_zero, List.append_nil, show min i (i + 1) = i by omega]
          exact hYx i hi
        have e3 : (Y.take (i + 1) ++ xs.drop i).drop (i + [Value.string s].length) = xs.drop i := by
          have e0 : (Y.take (i + 1)).drop (i + [Value.string s].length) = [] := List.drop_of_length_le (by simp; omega)
          rw [List.drop_append, ht, e0]
          simp
        rw [e2, e3] at h3
        simpa using h3
      · obtain rfl : i = n := by omega
        refine (Any2.slices_Insert_string_end_room L g 0 i cap vb 0 1 1 [.string s] w (by omega) hroom hc63 rfl (fun j hj => by rw [Nat.zero_add]; exact hsp _ (by omega)) (fun j _ => hfz _) hvs h1v).mono ?_
        rintro e w' ⟨rfl, rfl⟩
        obtain ⟨h3, g3⟩ := storeds [Value.string s] i w Y hY (by simp)
        simp only [Nat.zero_add]
        refine ⟨_, rfl, ?_, g3, .inl rfl⟩
        have e0 : Y.drop (i + [Value.string s].length) = [] := List.drop_of_length_le (by simp; omega)
        have e4 : xs.drop i = [] := List.drop_of_length_le (by omega)
        rw [hYx i (Nat.le_refl _), e0] at h3
        rw [e4]
        simpa using h3
    · have hge := grownCap_ge w (n + 1) cap (ρ.t 9)
      have hmx := grownCap_le_maxLen w (n + 1) cap (ρ.t 9) (by omega)
      by_cases hin : i < n
      · refine (Any2.slices_Insert_string_grow L g 0 n cap i vb 0 1 1 xs [.string s] w hin (by omega) hnc (by omega) (by omega) hxl rfl hcells hvs h1 h1v).mono ?_
        rintro e w' ⟨rfl, rfl⟩
        generalize grownCap w (n + 1) cap (ρ.t 9) = G at hge hmx ⊢
        have hA : (w.alloc (.cells ((xs.take i).toArray ++ Builtin.zeroCells (Value.string ⟨#[]⟩).cells (n + 1 - i) ++ Builtin.zeroCells (Value.string ⟨#[]⟩).cells (G - (n + 1))) (ρ.t 9))).ownsRow base (ρ.t 9) 1 (.slice (some ⟨w.heap.size, 0, none⟩) (n + 1) G) (n + 1) (xs.take i ++ (Builtin.zeroCells (Value.string ⟨#[]⟩).cells (n + 1 - i)).toList) := by
          refine ⟨?_, .inr ⟨_, _, _, rfl, hb, heap_alloc_new w _, hge, hmx, ?_, ?_⟩⟩
          · simp [Builtin.zeroCells, Value.cells]; omega
          · simp [Builtin.zeroCells, Value.cells]; omega
          · simp only [Array.toList_append, List.toList_toArray]
            rw [List.take_append_of_le_length (by simp [Builtin.zeroCells, Value.cells]; omega), List.take_of_length_le (by simp [Builtin.zeroCells, Value.cells]; omega)]
        generalize (.cells ((xs.take i).toArray ++ Builtin.zeroCells (Value.string ⟨#[]⟩).cells (n + 1 - i) ++ Builtin.zeroCells (Value.string ⟨#[]⟩).cells (G - (n + 1))) (ρ.t 9) : Obj) = O at hA ⊢
        have hZl : (xs.take i ++ (Builtin.zeroCells (Value.string ⟨#[]⟩).cells (n + 1 - i)).toList).length = n + 1 := by have := hA.1; omega
        generalize (Builtin.zeroCells (Value.string ⟨#[]⟩).cells (n + 1 - i)).toList = Z at hA hZl
        have hti : (xs.take i).length = i := by rw [List.length_take]; omega
        have hd : (xs.drop i).length = n - i := by rw [List.length_drop]; omega
        obtain ⟨h2, g2⟩ := storeds [Value.string s] i (w.alloc O).drew _ (own_drew hA) (by simp; omega)
        obtain ⟨h3, g3⟩ := storeds (xs.drop i) (i + 1) _ _ (own_drew h2) (by omega)
        refine ⟨_, rfl, ?_, grown_new (o := O) (grown_trans (grown_trans (grown_drew _ _) g2) (grown_trans (grown_drew _ _) g3)), .inr rfl⟩
        have e1 : (xs.take i ++ Z).take i = xs.take i := by rw [List.take_append, hti, Nat.sub_self, List.take_zero, List.append_nil, List.take_of_length_le (by omega)]
        have e2 : (xs.take i ++ [Value.string s] ++ (xs.take i ++ Z).drop (i + [Value.string s].length)).take (i + 1) = xs.take i ++ [Value.string s] := by
          rw [List.take_append_of_le_length (by simp; omega), List.take_of_length_le (by simp; omega)]
        rw [e1, e2] at h3
        have hl9 : (xs.take i ++ [Value.string s] ++ (xs.take i ++ Z).drop (i + [Value.string s].length)).length = n + 1 := by
          simp only [List.length_append, List.length_drop, hti, List.length_singleton] at hZl ⊢
          omega
        have e0 : (xs.take i ++ [Value.string s] ++ (xs.take i ++ Z).drop (i + [Value.string s].length)).drop (i + 1 + (xs.drop i).length) = [] := List.drop_of_length_le (by omega)
        rw [e0] at h3
        simpa using h3
      · obtain rfl : i = n := by omega
        have hca : ∀ a, (some ⟨g, 0, none⟩ : Option Addr) = some a → ∀ j v, xs[j]? = some v → w.cell? (a.add j) = some v := fun a ha j u hu => by
          cases ha
          exact hown.cells (g := g) rfl j u hu
        refine (Any2.slices_Insert_string_end_grow L (some ⟨g, 0, none⟩) i cap vb 0 1 1 xs [.string s] w (by omega) hnc (by omega) (by omega) hxl rfl (fun h => by cases h) hca hvs h1v).mono ?_
        rintro e w' ⟨rfl, rfl⟩
        refine ⟨_, rfl, ⟨by simp; omega, .inr ⟨_, _, _, rfl, hb, heap_alloc_new w.drew _, hge, hmx, ?_, ?_⟩⟩, ?_, .inr rfl⟩
        · simp [Builtin.zeroCells, Value.cells]; omega
        · simp only [Array.toList_append, List.toList_toArray]
          rw [List.take_append_of_le_length (by simp; omega), List.take_of_length_le (by simp; omega)]
          have e4 : xs.drop i = [] := List.drop_of_length_le (by omega)
          have e5 : xs.take i = xs := List.take_of_length_le (by omega)
          rw [e4, e5]
        · exact grown_trans (grown_drew w _) (World.grownBy_alloc _ _ _)

end Go.Proofs.Ytmnplnhblniimaa

namespace Go.Proofs.Ytmnplnhblniimaa.Pr
set_option linter.unusedVariables false
set_option linter.unusedSimpArgs false
open Go

def ltS (a b : ByteArray) : Bool := Op.bytesLess a.toList b.toList

theorem bl_eq : ∀ (x y : List UInt8), Op.bytesLess x y = decide (x < y)
  | [], [] => by simp [Op.bytesLess]
  | _ :: _, [] => by simp [Op.bytesLess]
  | [], _ :: _ => by simp [Op.bytesLess]
  | a :: x, b :: y => by
    rw [Op.bytesLess, bl_eq x y]
    simp only [List.cons_lt_cons_iff]
    by_cases h1 : a < b <;> by_cases h2 : a = b <;> by_cases h3 : x < y <;> simp [h1, h2, h3]

theorem bl_irrefl : ∀ x : List UInt8, Op.bytesLess x x = false
  | [] => by simp [Op.bytesLess]
  | a :: x => by rw [Op.bytesLess, bl_irrefl x]; simp [UInt8.lt_irrefl]
theorem bl_trans : ∀ x y z : List UInt8, Op.bytesLess x y = true → Op.bytesLess y z = true → Op.bytesLess x z = true := by
  intro x y z h1 h2
  rw [bl_eq, decide_eq_true_iff] at *
  exact List.lt_trans h1 h2
theorem bl_total : ∀ x y : List UInt8, Op.bytesLess x y = false → x ≠ y → Op.bytesLess y x = true
  | [], [], _, h => absurd rfl h
  | [], _ :: _, h, _ => by simp [Op.bytesLess] at h
  | _ :: _, [], _, _ => by simp [Op.bytesLess]
  | a :: x, b :: y, h, hn => by
    rw [Op.bytesLess] at h ⊢
    simp only [Bool.or_eq_false_iff, Bool.and_eq_false_iff, decide_eq_false_iff_not] at h
    rcases Nat.lt_trichotomy a.toNat b.toNat with h3 | h3 | h3
    · exact absurd (UInt8.lt_iff_toNat_lt.2 h3) (by simpa using h.1)
    · have hab : a = b := UInt8.toNat_inj.1 h3
      subst hab
      have hx : Op.bytesLess x y = false := by simpa using h.2
      have := bl_total x y hx (fun e => hn (by rw [e]))
      simp [this]
    · have : b < a := UInt8.lt_iff_toNat_lt.2 h3
      simp [this]

theorem toList_inj {a b : ByteArray} (h : a.toList = b.toList) : a = b := by
  rw [ByteArray.toList_eq, ByteArray.toList_eq] at h
  cases a; cases b; simp_all

theorem ltS_irrefl (a : ByteArray) : ltS a a = false := bl_irrefl _
theorem ltS_trans {a b c : ByteArray} : ltS a b = true → ltS b c = true → ltS a c = true := bl_trans _ _ _
theorem ltS_total {a b : ByteArray} (h : ltS a b = false) (hn : a ≠ b) : ltS b a = true := bl_total _ _ h fun e => hn (toList_inj e)
theorem ltS_asymm {a b : ByteArray} (h : ltS a b = true) : ltS b a = false := by
  cases h2 : ltS b a with
  | false => rfl
  | true => have := ltS_trans h h2; rw [ltS_irrefl] at this; cases this

/-- Rising. -/
def Rise (T : List ByteArray) : Prop := T.Pairwise fun a b => ltS a b = true

/-- How many of a list's first ones lie below a text. -/
def posS : List ByteArray → ByteArray → Nat
  | [], _ => 0
  | x :: T, s => if ltS x s then posS T s + 1 else 0
theorem posS_le : ∀ (T : List ByteArray) (s : ByteArray), posS T s ≤ T.length
  | [], _ => Nat.le_refl _
  | x :: T, s => by have := posS_le T s; unfold posS; split <;> simp <;> omega
theorem posS_lt : ∀ (T : List ByteArray) (s : ByteArray) (t : Nat) (x : ByteArray), t < posS T s → T[t]? = some x → ltS x s = true
  | [], _, t, _, h, _ => by simp [posS] at h
  | y :: T, s, t, x, h, hx => by
    unfold posS at h
    split at h
    · rename_i hy
      cases t with
      | zero => simp at hx; subst hx; exact hy
      | succ t => exact posS_lt T s t x (by omega) (by simpa using hx)
    · omega
theorem posS_ge : ∀ (T : List ByteArray) (s : ByteArray) (t : Nat) (x : ByteArray), Rise T → posS T s ≤ t → T[t]? = some x → ltS x s = false
  | [], _, t, _, _, _, hx => by simp at hx
  | y :: T, s, t, x, hr, h, hx => by
    obtain ⟨hy, hr'⟩ := List.pairwise_cons.1 hr
    unfold posS at h
    split at h
    · cases t with
      | zero => omega
      | succ t => exact posS_ge T s t x hr' (by omega) (by simpa using hx)
    · rename_i hn
      have hn' : ltS y s = false := by simpa using hn
      cases t with
      | zero => simp at hx; subst hx; exact hn'
      | succ t =>
        have hm : x ∈ T := List.mem_of_getElem? (by simpa using hx)
        cases h2 : ltS x s with
        | false => rfl
        | true => rw [ltS_trans (hy x hm) h2] at hn'; cases hn'

/-- A text put into a rising list, once; the empty one is none. -/
def putS (T : List ByteArray) (s : ByteArray) : List ByteArray :=
  if s.size = 0 then T else if T[posS T s]? = some s then T else T.take (posS T s) ++ s :: T.drop (posS T s)

theorem putS_rise {T : List ByteArray} (hr : Rise T) (s : ByteArray) : Rise (putS T s) := by
  unfold putS
  split
  · exact hr
  · split
    · exact hr
    · rename_i _ hne
      unfold Rise
      rw [List.pairwise_append]
      have hsub1 : (T.take (posS T s)).Pairwise fun a b => ltS a b = true := hr.sublist (List.take_sublist _ _)
      have hsub2 : (T.drop (posS T s)).Pairwise fun a b => ltS a b = true := hr.sublist (List.drop_sublist _ _)
      have hbelow : ∀ a ∈ T.take (posS T s), ltS a s = true := fun a ha => by
        obtain ⟨t, ht⟩ := List.mem_iff_getElem?.1 ha
        rw [List.getElem?_take] at ht
        split at ht
        · exact posS_lt T s t a (by assumption) ht
        · cases ht
      have habove : ∀ a ∈ T.drop (posS T s), ltS s a = true := fun a ha => by
        obtain ⟨t, ht⟩ := List.mem_iff_getElem?.1 ha
        rw [List.getElem?_drop] at ht
        have h1 := posS_ge T s _ a hr (by omega) ht
        by_cases hea : a = s
        · subst hea
          cases t with
          | zero => exact absurd (by simpa using ht) hne
          | succ t =>
            -- the element at the place lies below this one, yet not below s
            have hlt : posS T a < T.length := by
              have := (List.getElem?_eq_some_iff.1 ht).1
              omega
            have h2 := posS_ge T a (posS T a) _ hr (Nat.le_refl _) (List.getElem?_eq_getElem hlt)
            have h3 : ltS (T[posS T a]'hlt) (T[posS T a + (t + 1)]'((List.getElem?_eq_some_iff.1 ht).1)) = true := List.pairwise_iff_getElem.1 hr _ _ _ _ (by omega)
            rw [(List.getElem?_eq_some_iff.1 ht).2, h2] at h3
            cases h3
        · exact ltS_total h1 hea
      refine ⟨hsub1, List.pairwise_cons.2 ⟨habove, hsub2⟩, fun a ha b hb => ?_⟩
      rcases List.mem_cons.1 hb with rfl | hb
      · exact hbelow a ha
      · exact ltS_trans (hbelow a ha) (habove b hb)

/-- The halving finds the place. -/
theorem bs_pos {T : List ByteArray} (hr : Rise T) (s : ByteArray) : Lib.bsGo (fun t => Op.bytesLess ((T[t]?).getD s).toList s.toList) T.length 0 T.length = posS T s := by
  refine Lib.bsGo_spec _ (posS T s) (fun t ht => ?_) (fun t ht => ?_) _ _ _ (by omega) (by omega) (posS_le T s)
  · have hl := posS_le T s
    have h1 : T[t]? = some (T[t]'(by omega)) := List.getElem?_eq_getElem _
    rw [h1, Option.getD_some]
    exact posS_lt T s t _ ht h1
  · cases h : T[t]? with
    | none => rw [Option.getD_none]; exact bl_irrefl _
    | some x => rw [Option.getD_some]; exact posS_ge T s t x hr ht h

end Go.Proofs.Ytmnplnhblniimaa.Pr

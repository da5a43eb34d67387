/- WALKS of proper.Stmts, soughref04.Stmts, proper.names, slices.Contains, soughref04.has, soughref04.Texts. PLAIN: what checkOf says, step by step; heads of slices. -/
import Derived.Test.YtmnplnhblniimaaChk
import Derived.Test.YtmnplnhblniimaaMJ
import Derived.Test.YtmnplnhblniimaaMH

namespace Go.Proofs.Ytmnplnhblniimaa.Pr
set_option linter.unusedVariables false
set_option linter.unusedSimpArgs false
open Go Go.RowKit

theorem stmtsOf_take {P : List Bl} {k : Nat} (hk : k < P.length) : stmtsOf (P.take (k + 1)) = stmtsOf (P.take k) + (P[k]'hk).l.length := by
  unfold stmtsOf
  rw [List.take_succ_eq_append_getElem hk, List.map_append, List.sum_append]
  simp
theorem stmtsOf_le {P : List Bl} (h : ∀ b ∈ P, b.l.length ≤ 12) : stmtsOf P ≤ 12 * P.length := by
  unfold stmtsOf
  induction P with
  | nil => simp
  | cons b P ih =>
    have h1 := h b (by simp)
    have h2 := ih (fun c hc => h c (by simp [hc]))
    simp only [List.map_cons, List.sum_cons, List.length_cons]
    omega

theorem stmt_each {P : List Bl} : ∀ b ∈ P, b.l.length ≤ stmtsOf P := by
  unfold stmtsOf
  induction P with
  | nil => intro b hb; cases hb
  | cons c P ih =>
    intro b hb
    simp only [List.map_cons, List.sum_cons]
    rcases List.mem_cons.1 hb with rfl | hb
    · omega
    · have := ih b hb; omega
theorem stmtsOf_takes (P : List Bl) (k : Nat) : stmtsOf (P.take k) ≤ stmtsOf P := by
  unfold stmtsOf
  induction P generalizing k with
  | nil => simp
  | cons c P ih =>
    cases k with
    | zero => simp
    | succ k => have := ih k; simp only [List.take_succ_cons, List.map_cons, List.sum_cons]; omega
theorem blVars_sum (P : List Bl) : ∀ k, k ≤ P.length → (blVars P k).length ≤ 3 * stmtsOf (P.take k) + k
  | 0, _ => by simp [blVars]
  | k + 1, hk => by
    have ih := blVars_sum P k (by omega)
    rw [stmtsOf_take (show k < P.length by omega)]
    simp only [blVars, List.getElem?_eq_getElem (show k < P.length by omega)]
    have h1 := stVars_len (P[k]'(by omega)).l (blVars P k) (P[k]'(by omega)).l.length
    have h2 := putS_len (stVars (P[k]'(by omega)).l (blVars P k) (P[k]'(by omega)).l.length) (P[k]'(by omega)).t.x.v
    omega
theorem blVars_few {P : List Bl} (h12 : P.length ≤ 128) (hs5 : stmtsOf P ≤ 512) : ∀ k, k ≤ P.length → (blVars P k).length ≤ 20000 := fun k hk => by
  have := blVars_sum P k hk
  have := stmtsOf_takes P k
  omega

set_option maxRecDepth 100000 in
theorem pstmts_wide (P : List Bl) (pv : Value) (w : World) (h : Pg w pv P) (h12 : P.length ≤ 128) (hs5 : stmtsOf P ≤ 512) :
    Calls Try.prog 34 #[.agg #[pv]] w fun e w' => e = .returned (.int .i64 (stmtsOf P)) ∧ Below w.heap.size w w' := by
  obtain ⟨b, off, p, cap, rfl, hp, hc⟩ := Pg.open h
  have hl12 : ∀ b ∈ P, b.l.length ≤ 512 := fun b hb => Nat.le_trans (stmt_each b hb) hs5
  have hsl : ∀ k, stmtsOf (P.take k) ≤ 512 := fun k => Nat.le_trans (stmtsOf_takes P k) hs5
  clear hs5
  go_enter Try.func34, Try.ntmps34
  go_wp2_with fail
  go_loopw [3, 9] (fun n i wr => ∃ k : Nat, k ≤ P.length ∧ i = .int .i64 k ∧ n = .int .i64 (stmtsOf (P.take k)) ∧ Below w.heap.size w wr) (fun _ i _ => P.length - (intOf i).toNat)
  case atStart => exact ⟨0, Nat.zero_le _, rfl, rfl, (Below.refl _ _).alloc (Nat.le_refl _) _⟩
  case round =>
    obtain ⟨k, hk, rfl, rfl, hB⟩ := hrel
    have hw := hB.size
    by_cases hlt : k < P.length
    · obtain rfl := hp (by omega)
      have hlt2 : (k : Int) < P.length := by omega
      have hcw : ∀ r u, ((P[k]'hlt).cs)[r]? = some u → w.cell? ⟨b, off + (k * 8 + r), none⟩ = some u := (hc k hlt).1
      obtain ⟨lb, loff, lp, lcap, hlv, _, _⟩ := (hc k hlt).2.open St.cs_len
      have hz : Hid (stmtsOf (P.take (k + 1)) = stmtsOf (P.take k) + (P[k]'hlt).l.length) := stmtsOf_take hlt
      have hs := hsl k
      have hbl := hl12 _ (List.getElem_mem hlt)
      clear hc hsl
      generalize P[k]'hlt = B at hcw hlv hz hbl
      generalize stmtsOf (P.take k) = n at hz hs ⊢
      have hcr : ∀ r u, B.cs[r]? = some u → wr.cell? ⟨b, off + k * 8 + r, none⟩ = some u := fun r u hu => by
        rw [Nat.add_assoc]
        exact (hB.cell (p := ⟨b, off + (k * 8 + r), none⟩) (World.block_lt_of_cell? _ _ (hcw r u hu))).trans (hcw r u hu)
      have c0 : wr.cell? ⟨b, off + k * 8, none⟩ = some (.string B.n) := hcr 0 _ rfl
      have hbw := World.block_lt_of_cell? _ _ c0
      have c1 := hcr 1 _ rfl
      have c2 := hcr 2 _ rfl
      have c3 := hcr 3 _ rfl
      have c4 := hcr 4 _ rfl
      have c5 := hcr 5 _ rfl
      have c6 := hcr 6 _ rfl
      have c7 := hcr 7 _ rfl
      clear hcr hcw
      rw [hlv] at c1
      go_wp2_with fail
      go_roundw
      case rel => exact ⟨k + 1, by omega, by simp, by rw [hz]; simp, hB.alloc hw _⟩
      case measure => simp [intOf]; omega
    · have hks : k = P.length := by omega
      subst hks
      have hlt2 : ¬ (P.length : Int) < P.length := by omega
      rw [List.take_length]
      clear hc
      go_wp2_with fail
      refine bodyPost_ret (v := .int .i64 (stmtsOf P)) (by simp only [results, Try.results34]; go_simp) rfl ⟨rfl, hB⟩

set_option maxRecDepth 100000 in
theorem contains_any (L : List ByteArray) (x : ByteArray) (hl : L.length ≤ 1000000) (v : Value) (w : World) (h : Sl w v encS L) :
    Calls Try.prog 37 #[v, .string x] w fun e w' => e = .returned (.bool (decide (0 ≤ idx L x))) ∧ w = w' := by
  have hix := index_any L x hl v w h
  generalize idx L x = r at hix ⊢
  go_enter Try.func37, Try.ntmps37
  go_wp2_with ((go_at_call 71; refine Calls.same (hix) ?_))
  refine bodyPost_ret (v := .bool (decide (0 ≤ r))) (by simp only [results, Try.results37]; go_simp) rfl ⟨rfl, rfl⟩

def namesT (t : Te) : List ByteArray := if t.k = 1 then [t.t] else if t.k = 2 then [t.t, t.e] else []

set_option maxRecDepth 100000 in
theorem names_any (k : Int) (v : ByteArray) (a b : Int) (t e : ByteArray) (w : World) :
    Calls Try.prog 38 #[.agg #[.int .i64 k, .string v, .int .i64 a, .int .i64 b, .string t, .string e]] w fun r w' => ∃ o, r = .returned o ∧ Sl w' o encS (namesT ⟨k, ⟨v, a, b⟩, t, e⟩) ∧ Below w.heap.size w w' := by
  have one : ∀ W : World, Sl (W.alloc (.cells #[.string t] 9)) (.slice (some ⟨W.heap.size, 0, none⟩) 1 1) encS [t] := fun W => Sl.lit ([t] : List ByteArray) rfl rfl (heap_alloc_new W _)
  have two : ∀ W : World, Sl (W.alloc (.cells #[.string t, .string e] 9)) (.slice (some ⟨W.heap.size, 0, none⟩) 2 2) encS [t, e] := fun W => Sl.lit ([t, e] : List ByteArray) rfl rfl (heap_alloc_new W _)
  have Hd := And.intro one two
  clear one two
  by_cases h1 : k = 1
  · subst h1
    rw [show namesT ⟨1, ⟨v, a, b⟩, t, e⟩ = [t] from rfl]
    go_enter Try.func38, Try.ntmps38
    go_wp2_with fail
    refine bodyPost_ret (v := .slice (some ⟨w.heap.size + 1, 0, none⟩) 1 1) (by simp only [results, Try.results38]; go_simp) rfl ⟨_, rfl, ?_, ?_⟩
    · have := Hd.1 (w.alloc (.cells #[.int .i64 1, .string v, .int .i64 a, .int .i64 b, .string t, .string e] 58))
      simpa using this
    · exact ((Below.refl _ _).alloc (Nat.le_refl _) _).alloc (by simp) _
  by_cases h2 : k = 2
  · subst h2
    rw [show namesT ⟨2, ⟨v, a, b⟩, t, e⟩ = [t, e] from rfl]
    go_enter Try.func38, Try.ntmps38
    go_wp2_with fail
    refine bodyPost_ret (v := .slice (some ⟨w.heap.size + 1, 0, none⟩) 2 2) (by simp only [results, Try.results38]; go_simp) rfl ⟨_, rfl, ?_, ?_⟩
    · have := Hd.2 (w.alloc (.cells #[.int .i64 2, .string v, .int .i64 a, .int .i64 b, .string t, .string e] 58))
      simpa using this
    · exact ((Below.refl _ _).alloc (Nat.le_refl _) _).alloc (by simp) _
  · have g1 : (k == 1) = false := by simp [h1]
    have g2 : (k == 2) = false := by simp [h2]
    rw [show namesT ⟨k, ⟨v, a, b⟩, t, e⟩ = [] by unfold namesT; rw [if_neg h1, if_neg h2]]
    clear h1 h2
    go_enter Try.func38, Try.ntmps38
    go_wp2_with fail
    refine bodyPost_ret (v := .slice none 0 0) (by simp only [results, Try.results38]; go_simp) rfl ⟨_, rfl, Sl.nil, ?_⟩
    exact (Below.refl _ _).alloc (Nat.le_refl _) _

/-- A slice no longer than its room. -/
def CapOk (v : Value) : Prop := ∀ p n c, v = .slice p n c → n ≤ c

theorem hasN_take {P : List Bl} {n k : Nat} (hn : n ≤ P.length) (hk : k < n) (x : ByteArray) (h : (P[k]'(by omega)).n = x) : hasN P n x = true := by
  unfold hasN
  rw [List.any_eq_true]
  refine ⟨P[k]'(by omega), ?_, by simp [h]⟩
  exact List.mem_iff_getElem?.2 ⟨k, by rw [List.getElem?_take, if_pos hk]; exact List.getElem?_eq_getElem _⟩
theorem hasN_none {P : List Bl} {n : Nat} (hn : n ≤ P.length) (x : ByteArray) (h : ∀ j (hj : j < n), (P[j]'(by omega)).n ≠ x) : hasN P n x = false := by
  unfold hasN
  rw [List.any_eq_false]
  intro b hb
  obtain ⟨j, hj⟩ := List.mem_iff_getElem?.1 hb
  rw [List.getElem?_take] at hj
  split at hj
  · rename_i hjn
    rw [List.getElem?_eq_getElem (by omega)] at hj
    have := h j hjn
    cases hj
    simpa using this
  · cases hj

theorem few_stmts {P : List Bl} (h12 : P.length ≤ 12) (hl12 : ∀ b ∈ P, b.l.length ≤ 12) : stmtsOf P ≤ 512 := by have := stmtsOf_le hl12; omega
theorem pstmts_any (P : List Bl) (pv : Value) (w : World) (h : Pg w pv P) (h12 : P.length ≤ 12) (hl12 : ∀ b ∈ P, b.l.length ≤ 12) :
    Calls Try.prog 34 #[.agg #[pv]] w fun e w' => e = .returned (.int .i64 (stmtsOf P)) ∧ Below w.heap.size w w' := pstmts_wide P pv w h (by omega) (few_stmts h12 hl12)

end Go.Proofs.Ytmnplnhblniimaa.Pr

namespace Go.Proofs.Ytmnplnhblniimaa.Pr
set_option linter.unusedVariables false
set_option linter.unusedSimpArgs false
open Go Go.RowKit

theorem Sl.take {α : Type} {enc : α → List Value} {w : World} {p : Option Addr} {n c i : Nat} {L : List α} (h : Sl w (.slice p n c) enc L) (hi : i ≤ n) : Sl w (.slice p i c) enc (L.take i) := by
  obtain ⟨b, off, p', cap, hv, hp, hc⟩ := h
  cases hv
  refine ⟨b, off, p, c, by rw [List.length_take, Nat.min_eq_left hi], fun h0 => hp ?_, fun j u hu => hc j u ?_⟩
  · rw [List.length_take] at h0; omega
  · have e : L.flatMap enc = (L.take i).flatMap enc ++ (L.drop i).flatMap enc := by rw [← List.flatMap_append, List.take_append_drop]
    rw [e, List.getElem?_append_left (List.getElem?_eq_some_iff.1 hu).1]
    exact hu

theorem own_cap {w : World} {base : Nat} {e : TypeId} {size n : Nat} {v : Value} {xs : List Value} (h : w.ownsRow base e size v n xs) : ∃ p cap, v = .slice p n cap ∧ n ≤ cap := by
  rcases h.2 with ⟨rfl, rfl⟩ | ⟨g, cap, cur, rfl, _, _, hc, _⟩
  · exact ⟨_, _, rfl, Nat.le_refl _⟩
  · exact ⟨_, _, rfl, hc⟩

theorem names_get {P : List Bl} {k : Nat} (hk : k < P.length) : (P.map fun b => b.n)[k]? = some (P[k]'hk).n := by simp [List.getElem?_eq_getElem hk]

/-- Whether a name is one of the first ones. -/
theorem mem_hasN (P : List Bl) (n : Nat) (x : ByteArray) : decide (0 ≤ idx ((namesOf P).take n) x) = hasN P n x := by
  rw [Bool.eq_iff_iff, decide_eq_true_eq, idx_mem]
  unfold hasN namesOf
  rw [List.any_eq_true, ← List.map_take, List.mem_map]
  simp only [decide_eq_true_eq]

theorem no_twice {P : List Bl} (h : ∀ k (hk : k < P.length), hasN P k (P[k]'hk).n = false) : twiceB P P.length = false := by
  unfold twiceB
  rw [List.any_eq_false]
  intro k hk
  rw [List.getElem?_eq_getElem (List.mem_range.1 hk)]
  simp [h k (List.mem_range.1 hk)]

section
variable {P : List Bl} (h0 : P.length ≠ 0) (h12 : P.length ≤ 128) (hs5 : stmtsOf P ≤ 512)
include h0 h12 hs5
theorem check_form : checkOf P = if P.all blockB = false then 12 else if 64 < (vars P).length then 6 else if twiceB P P.length then 5 else if P.any (badEnd P) then 4 else 0 := by
  unfold checkOf
  rw [if_neg (by omega)]
theorem check_12 {k : Nat} (hk : k < P.length) (h : blockB (P[k]'hk) = false) : checkOf P = 12 := by
  rw [check_form h0 h12 hs5, if_pos (all_bad hk h)]
theorem check_6 (ha : P.all blockB = true) (h : 64 < (vars P).length) : checkOf P = 6 := by
  rw [check_form h0 h12 hs5, if_neg (by rw [ha]; simp), if_pos h]
theorem check_5 (ha : P.all blockB = true) (h : ¬ 64 < (vars P).length) {k : Nat} (hk : k < P.length) (ht : hasN P k (P[k]'hk).n = true) : checkOf P = 5 := by
  rw [check_form h0 h12 hs5, if_neg (by rw [ha]; simp), if_neg h, if_pos]
  unfold twiceB
  rw [List.any_eq_true]
  exact ⟨k, List.mem_range.2 hk, by rw [List.getElem?_eq_getElem hk]; exact ht⟩
theorem check_4 (ha : P.all blockB = true) (h : ¬ 64 < (vars P).length) (ht : ∀ k (hk : k < P.length), hasN P k (P[k]'hk).n = false) {k : Nat} (hk : k < P.length) (hb : badEnd P (P[k]'hk) = true) : checkOf P = 4 := by
  rw [check_form h0 h12 hs5, if_neg (by rw [ha]; simp), if_neg h, if_neg (by rw [no_twice ht]; simp), if_pos]
  rw [List.any_eq_true]
  exact ⟨_, List.getElem_mem hk, hb⟩
theorem check_0 (ha : P.all blockB = true) (h : ¬ 64 < (vars P).length) (ht : ∀ k (hk : k < P.length), hasN P k (P[k]'hk).n = false) (hb : ∀ k (hk : k < P.length), badEnd P (P[k]'hk) = false) : checkOf P = 0 := by
  rw [check_form h0 h12 hs5, if_neg (by rw [ha]; simp), if_neg h, if_neg (by rw [no_twice ht]; simp), if_neg]
  rw [Bool.not_eq_true, List.any_eq_false]
  intro b hm
  obtain ⟨k, hk1⟩ := List.mem_iff_getElem?.1 hm
  obtain ⟨hk2, hk3⟩ := List.getElem?_eq_some_iff.1 hk1
  rw [← hk3, hb k hk2]; simp
end

/-- A name that an end goes to and that is no block's. -/
theorem badEnd_names (P : List Bl) (b : Bl) : badEnd P b = true ↔ ∃ x ∈ namesT b.t, hasN P P.length x = false := by
  unfold badEnd namesT
  by_cases h1 : b.t.k = 1
  · simp [h1]
  · by_cases h2 : b.t.k = 2
    · simp [h2]
    · simp [h1, h2]

end Go.Proofs.Ytmnplnhblniimaa.Pr

/- WALKS of exec.Start and soughref08.Start; boxes. WALKS of soughref08: Nums, copied, Value, Start, Same. WALK of soughref08.Same. WALKS of soughlaw08: few, state, back. ARGUMENTS that are slices of numbers. -/
import Derived.Test.YtaaklejkngpddaaGreatExb
import Derived.OwnWalk
import Derived.OneCell
import Derived.Test.YtaaklejkngpddaaGreatExa
import Derived.Laws.AppendOwnNone
import Derived.Test.YtaaklejkngpddaaGreatSmall
import Derived.Test.YtaaklejkngpddaaGreatLaw
import Derived.Test.YtaaklejkngpddaaGreatPgmb
namespace Go.Proofs.YtaaklejkngpddaaGreat.Pr
set_option linter.unusedVariables false
set_option linter.unusedSimpArgs false
open Go Go.RowKit

theorem rep_cs (n : Nat) : (List.replicate n zN).flatMap Nu.cs = List.replicate (n * 2) (.int .i64 0) := by
  induction n with
  | zero => rfl
  | succ n ih =>
    rw [List.replicate_succ, List.flatMap_cons, ih, show (n + 1) * 2 = n * 2 + 1 + 1 by omega, List.replicate_succ, List.replicate_succ]
    rfl
theorem zeros2 (n : Nat) : (madeCells (Value.agg #[.int .i64 0, .int .i64 0]).cells (n * 2)).toList = (List.replicate n zN).flatMap Nu.cs := by
  rw [rep_cs]
  show (madeCells #[.int .i64 0, .int .i64 0] (n * 2)).toList = _
  rw [List.eq_replicate_iff]
  refine ⟨by simp [madeCells], fun b hb => ?_⟩
  simp only [madeCells, Array.toList_map, List.mem_map] at hb
  obtain ⟨i, _, rfl⟩ := hb
  have hi : i % 2 < 2 := Nat.mod_lt _ (by decide)
  show (#[Value.int .i64 0, Value.int .i64 0] : Array Value)[i % 2]! = _
  generalize i % 2 = j at hi
  match j, hi with
  | 0, _ => rfl
  | 1, _ => rfl

theorem set4 {q : World} {B : Nat} {t : TypeId} {a0 a1 a2 a3 : Value} (b0 b1 b2 b3 : Value) (h : q.heap[B]? = some (.cells #[a0, a1, a2, a3] t (0, 0))) :
    ((((q.setCell ⟨B, 0, none⟩ b0).setCell ⟨B, 1, none⟩ b1).setCell ⟨B, 2, none⟩ b2).setCell ⟨B, 3, none⟩ b3).heap[B]? = some (.cells #[b0, b1, b2, b3] t (0, 0)) := by
  have h1 := heap_setCell_same _ B 0 _ t b0 h
  have h2 := heap_setCell_same _ B 1 _ t b1 h1
  have h3 := heap_setCell_same _ B 2 _ t b2 h2
  exact heap_setCell_same _ B 3 _ t b3 h3
theorem set4_other {q : World} {B k : Nat} (b0 b1 b2 b3 : Value) (hk : k ≠ B) :
    ((((q.setCell ⟨B, 0, none⟩ b0).setCell ⟨B, 1, none⟩ b1).setCell ⟨B, 2, none⟩ b2).setCell ⟨B, 3, none⟩ b3).heap[k]? = q.heap[k]? := by
  rw [heap_setCell_other _ _ _ _ hk, heap_setCell_other _ _ _ _ hk, heap_setCell_other _ _ _ _ hk, heap_setCell_other _ _ _ _ hk]

/-- The world behind the boxes of 'run'. -/
def boxR (w : World) (pv : Value) (S : Array Value) : World := ((w.alloc (.cells #[pv] 24)).alloc (.cells S 95)).alloc (.cells #[.int .i64 0, .slice none 0 0, .int .i64 0, .slice none 0 0] 95)
theorem boxR_size (w : World) (pv : Value) (S : Array Value) : (boxR w pv S).heap.size = w.heap.size + 1 + 1 + 1 := by simp [boxR]
theorem boxR_below (w : World) (pv : Value) (S : Array Value) : Below w.heap.size w (boxR w pv S) := (((Below.refl _ _).alloc (Nat.le_refl _) _).alloc (by simp) _).alloc (by simp; omega) _
theorem boxR_p (w : World) (pv : Value) (S : Array Value) : (boxR w pv S).heap[w.heap.size]? = some (.cells #[pv] 24 (0, 0)) := by
  unfold boxR
  rw [heap_alloc_old _ _ (by simp; try omega), heap_alloc_old _ _ (by simp)]
  exact heap_alloc_new _ _
theorem boxR_s (w : World) (pv : Value) (S : Array Value) : (boxR w pv S).heap[w.heap.size + 1]? = some (.cells S 95 (0, 0)) := by
  unfold boxR
  rw [heap_alloc_old _ _ (by simp; try omega), show w.heap.size + 1 = (w.alloc (.cells #[pv] 24)).heap.size by simp]
  exact heap_alloc_new _ _
theorem boxR_r (w : World) (pv : Value) (S : Array Value) : (boxR w pv S).heap[w.heap.size + 1 + 1]? = some (.cells #[.int .i64 0, .slice none 0 0, .int .i64 0, .slice none 0 0] 95 (0, 0)) := by
  unfold boxR
  rw [show w.heap.size + 1 + 1 = ((w.alloc (.cells #[pv] 24)).alloc (.cells S 95)).heap.size by simp]
  exact heap_alloc_new _ _

set_option maxRecDepth 100000 in
set_option maxHeartbeats 1000000 in
theorem start_any (P : List Bl) (pv : Value) (w : World) (h : Pg w pv P) (h12 : P.length ≤ 12) (hl12 : ∀ b ∈ P, b.l.length ≤ 12) :
    Calls Tryz.prog 66 #[.agg #[pv]] w fun e w' => ∃ ev, e = .returned (.agg #[.int .i64 0, ev, .int .i64 0, .slice none 0 0]) ∧
      w'.ownsRow w.heap.size 44 2 ev (vars P).length ((List.replicate (vars P).length zN).flatMap Nu.cs) ∧ Below w.heap.size w w' := by
  obtain ⟨i0, hi, hz0, hz1, hz2⟩ := info_parts nu_info
  have hln : (vars P).length ≤ 1000000 := by have := blVars_len hl12 P.length; show (blVars P P.length).length ≤ _; omega
  obtain ⟨p, cap, hpv⟩ : ∃ p cap, pv = .slice p P.length cap := by obtain ⟨b, off, p, cap, hv, _⟩ := h.1; exact ⟨p, cap, hv⟩
  subst hpv
  have hb2 : Below w.heap.size w ((w.alloc (.cells #[.slice p P.length cap] 24)).alloc (.cells #[.int .i64 0, .slice none 0 0, .int .i64 0, .slice none 0 0] 95)) := ((Below.refl _ _).alloc (Nat.le_refl _) _).alloc (by simp) _
  have hv := vars_any P _ _ (h.below hb2) h12 hl12
  generalize vars P = V at hln hv ⊢
  clear h
  go_enter Tryz.func66, Tryz.ntmps66
  go_wp2_with (first | (go_at_call 16; refine (hv).mono ?_; rintro e W1 ⟨v1, rfl, hv1, hB1⟩; obtain ⟨vb, voff, vp, vcap, rfl, _, _⟩ := Sl.strs hv1) | (at_make; refine wpList_make_full _ rfl _ _ 93 rfl W1.heap.size 44 i0 (.agg #[.int .i64 0, .int .i64 0]) 2 Tryz.underlying93 hi hz0 hz1 .i64 .i64 _ _ V.length rfl rfl rfl rfl (by rw [hz2]; omega) (by unfold maxLen; omega) (Nat.le_refl _) ?_; intro w1 hown hgrow; rw [zeros2] at hown; have hs := hB1.size; simp only [World.size_alloc] at hs; have hl1 : W1.heap[w.heap.size + 1]? = some (.cells #[.int .i64 0, .slice none 0 0, .int .i64 0, .slice none 0 0] 95 (0, 0)) := (hB1.block _ (by simp)).trans (by rw [show w.heap.size + 1 = (w.alloc (.cells #[.slice p P.length cap] 24)).heap.size by simp]; exact heap_alloc_new _ _); have hl2 := (hgrow.block (w.heap.size + 1) (by omega) (by simp)).trans hl1; obtain ⟨j0, j1, j2, j3, jf, jl⟩ := four hl2; have jf0 := jf 0; have jf1 := jf 1; have jf2 := jf 2; have jf3 := jf 3))
  have hBw : Below w.heap.size w w1 := Below.grown (w := _) (hb2.trans (hB1.mono (by simp; omega))) hgrow (by omega) (fun q hq => by cases hq)
  have hown2 : w1.ownsRow (w.heap.size + 2) 44 2 _ _ _ := own_base hown (by omega)
  refine bodyPost_ret (v := .agg #[.int .i64 0, .slice (some ⟨W1.heap.size, 0, none⟩) V.length V.length, .int .i64 0, .slice none 0 0]) (by simp only [results, Tryz.results66]; go_simp) rfl ⟨_, rfl, ?_, ?_⟩
  · refine own_base ?_ (by omega : w.heap.size ≤ w.heap.size + 2)
    (repeat (first | (with_reducible exact hown2) | refine ownsRow_setCell_other ?_ ?_ _))
    all_goals exact ownNL hown2 (by show w.heap.size + 1 < _; omega)
  · (repeat (first | (with_reducible exact hBw) | refine Below.setCell ?_ ?_ _))
    all_goals (show w.heap.size ≤ w.heap.size + 1; omega)

set_option maxRecDepth 100000 in
set_option maxHeartbeats 1000000 in
theorem rstart_any (P : List Bl) (pv : Value) (w : World) (h : Pg w pv P) (h12 : P.length ≤ 12) (hl12 : ∀ b ∈ P, b.l.length ≤ 12) :
    Calls Tryz.prog 10 #[.agg #[pv]] w fun e w' => ∃ ev, e = .returned (.agg #[.int .i64 0, ev, .int .i64 0, .slice none 0 0]) ∧
      w'.ownsRow w.heap.size 44 2 ev (vars P).length ((List.replicate (vars P).length zN).flatMap Nu.cs) ∧ Below w.heap.size w w' := by
  obtain ⟨i0, hi, hz0, hz1, hz2⟩ := info_parts nu_info
  have hln : (vars P).length ≤ 1000000 := by have := blVars_len hl12 P.length; show (blVars P P.length).length ≤ _; omega
  obtain ⟨p, cap, hpv⟩ : ∃ p cap, pv = .slice p P.length cap := by obtain ⟨b, off, p, cap, hv, _⟩ := h.1; exact ⟨p, cap, hv⟩
  subst hpv
  have hb2 : Below w.heap.size w ((w.alloc (.cells #[.slice p P.length cap] 24)).alloc (.cells #[.int .i64 0, .slice none 0 0, .int .i64 0, .slice none 0 0] 38)) := ((Below.refl _ _).alloc (Nat.le_refl _) _).alloc (by simp) _
  have hv := rvars_any P _ _ (h.below hb2) h12 hl12
  generalize vars P = V at hln hv ⊢
  clear h
  go_enter Tryz.func10, Tryz.ntmps10
  go_wp2_with (first | (go_at_call 30; refine (hv).mono ?_; rintro e W1 ⟨v1, rfl, hv1, hB1⟩; obtain ⟨vb, voff, vp, vcap, rfl, _, _⟩ := Sl.strs hv1) | (at_make; refine wpList_make_full _ rfl _ _ 25 rfl W1.heap.size 44 i0 (.agg #[.int .i64 0, .int .i64 0]) 2 Tryz.underlying25 hi hz0 hz1 .i64 .i64 _ _ V.length rfl rfl rfl rfl (by rw [hz2]; omega) (by unfold maxLen; omega) (Nat.le_refl _) ?_; intro w1 hown hgrow; rw [zeros2] at hown; have hs := hB1.size; simp only [World.size_alloc] at hs; have hl1 : W1.heap[w.heap.size + 1]? = some (.cells #[.int .i64 0, .slice none 0 0, .int .i64 0, .slice none 0 0] 38 (0, 0)) := (hB1.block _ (by simp)).trans (by rw [show w.heap.size + 1 = (w.alloc (.cells #[.slice p P.length cap] 24)).heap.size by simp]; exact heap_alloc_new _ _); have hl2 := (hgrow.block (w.heap.size + 1) (by omega) (by simp)).trans hl1; obtain ⟨j0, j1, j2, j3, jf, jl⟩ := four hl2; have jf0 := jf 0; have jf1 := jf 1; have jf2 := jf 2; have jf3 := jf 3))
  have hBw : Below w.heap.size w w1 := Below.grown (w := _) (hb2.trans (hB1.mono (by simp; omega))) hgrow (by omega) (fun q hq => by cases hq)
  have hown2 : w1.ownsRow (w.heap.size + 2) 44 2 _ _ _ := own_base hown (by omega)
  refine bodyPost_ret (v := .agg #[.int .i64 0, .slice (some ⟨W1.heap.size, 0, none⟩) V.length V.length, .int .i64 0, .slice none 0 0]) (by simp only [results, Tryz.results10]; go_simp) rfl ⟨_, rfl, ?_, ?_⟩
  · refine own_base ?_ (by omega : w.heap.size ≤ w.heap.size + 2)
    (repeat (first | (with_reducible exact hown2) | refine ownsRow_setCell_other ?_ ?_ _))
    all_goals exact ownNL hown2 (by show w.heap.size + 1 < _; omega)
  · (repeat (first | (with_reducible exact hBw) | refine Below.setCell ?_ ?_ _))
    all_goals (show w.heap.size ≤ w.heap.size + 1; omega)

end Go.Proofs.YtaaklejkngpddaaGreat.Pr

namespace Go.Proofs.YtaaklejkngpddaaGreat.Pr
set_option linter.unusedVariables false
set_option linter.unusedSimpArgs false
open Go Go.RowKit

/-- A nil slice has no room. -/
def NilOk (v : Value) : Prop := ∀ n c, v = .slice none n c → c = 0
theorem NilOk.own {w : World} {base : Nat} {e : TypeId} {size n : Nat} {v : Value} {xs : List Value} (h : w.ownsRow base e size v n xs) : NilOk v := fun n2 c he => by
  rcases h.2 with ⟨rfl, _⟩ | ⟨g, cap, cur, rfl, _⟩
  · cases he; rfl
  · cases he
theorem NilOk.nil : NilOk (.slice none 0 0) := fun n c h => by cases h; rfl

theorem nums_eq {A B : List Nu} (hl : A.length = B.length) (h : ∀ j (h1 : j < A.length) (h2 : j < B.length), A[j]'h1 = B[j]'h2) : A = B := List.ext_getElem hl fun j h1 h2 => h j h1 h2

set_option maxRecDepth 100000 in
set_option maxHeartbeats 1000000 in
theorem copied_any (L : List Nu) (hl : L.length ≤ 1000000) (v : Value) (w : World) (h : Sl w v Nu.cs L) (hz : NilOk v) :
    Calls Tryz.prog 54 #[v] w fun e w' => ∃ o, e = .returned o ∧ w'.ownsRow w.heap.size 44 2 o L.length (L.flatMap Nu.cs) ∧ Below w.heap.size w w' := by
  obtain ⟨i0, hi, hz0, hz1, hz2⟩ := info_parts nu_info
  obtain ⟨b, off, p, cap, rfl, hp, hc⟩ := h
  cases p with
  | none =>
    have h0 : L.length = 0 := by
      rcases Nat.eq_zero_or_pos L.length with h | h
      · exact h
      · have := hp h; cases this
    have hL : L = [] := List.eq_nil_of_length_eq_zero h0
    subst hL
    obtain rfl := hz _ _ rfl
    clear hp hc hz
    go_enter Tryz.func54, Tryz.ntmps54
    go_wp2_with (at_builtin; refine wpList_append_own_none rfl _ _ 25 rfl w.heap.size 44 i0 2 Tryz.underlying25 hi _ 0 [] rfl (own_empty w 44 2) rfl ?_)
    refine bodyPost_ret (v := .slice (some ⟨w.heap.size, 0, none⟩) 0 0) (by simp only [results, Tryz.results54]; go_simp) rfl ⟨_, rfl, own_empty w 44 2, (Below.refl _ _).alloc (Nat.le_refl _) _⟩
  | some a =>
    have hnews : ∀ j u, (L.flatMap Nu.cs)[j]? = some u → (w.alloc (.cells #[] 44)).cell? (a.add j) = some u := fun j u hu => by
      have h0 : 0 < L.length := by
        rcases Nat.eq_zero_or_pos L.length with h | h
        · have : L = [] := List.eq_nil_of_length_eq_zero h
          subst this
          simp at hu
        · exact h
      have ha := hp h0
      cases ha
      rw [Go.WideShapes.add_plain]
      have := hc j u hu
      exact (World.cell?_alloc_lt _ _ _ (World.block_lt_of_cell? _ _ this)).trans this
    have hlen : (L.flatMap Nu.cs).length = L.length * 2 := flat_length Nu.cs_len L
    have hn := And.intro True.intro (And.intro hnews hlen)
    clear hp hc hnews hlen hz
    go_enter Tryz.func54, Tryz.ntmps54
    go_wp2_with (at_builtin; refine wpList_append_own _ rfl _ _ 25 rfl w.heap.size 44 i0 (.agg #[.int .i64 0, .int .i64 0]) 2 16 Tryz.underlying25 hi hz0 hz1 hz2 rfl (by decide) _ 0 [] rfl (own_empty w 44 2) _ L.length cap (L.flatMap Nu.cs) rfl hn.2.2 hn.2.1 nu_one (by unfold maxLen; omega) (by omega) (by simp) ?_; intro v2 w1 hown' hgrow _)
    have hB2 : Below w.heap.size w w1 := Below.grown (w := _) ((Below.refl _ _).alloc (Nat.le_refl _) _) hgrow (by simp) (fun q hq => by cases hq; exact Nat.le_refl _)
    rw [Nat.zero_add, List.nil_append] at hown'
    go_wp2_with fail
    refine bodyPost_ret (v := v2) (by simp only [results, Tryz.results54]; go_simp) rfl ⟨_, rfl, hown', hB2⟩

set_option maxRecDepth 100000 in
theorem rvalue_any (P : List Bl) (E : List Nu) (xv : ByteArray) (xa xb : Int) (pv ev : Value) (w : World) (h : Pg w pv P) (h12 : P.length ≤ 12) (hl12 : ∀ b ∈ P, b.l.length ≤ 12) (hE : Sl w ev Nu.cs E) :
    Calls Tryz.prog 56 #[.agg #[pv], ev, .agg #[.string xv, .int .i64 xa, .int .i64 xb]] w fun e w' => e = .returned (.agg #[.int .i64 (valA P E ⟨xv, xa, xb⟩).a, .int .i64 (valA P E ⟨xv, xa, xb⟩).b]) ∧ Below w.heap.size w w' := by
  obtain ⟨p, cap, hpv⟩ : ∃ p cap, pv = .slice p P.length cap := by obtain ⟨b, off, p, cap, hv, _⟩ := h.1; exact ⟨p, cap, hv⟩
  subst hpv
  have hb3 : Below w.heap.size w (((w.alloc (.cells #[.slice p P.length cap] 24)).alloc (.cells #[.string xv, .int .i64 xa, .int .i64 xb] 46)).alloc (.cells #[.int .i64 0, .int .i64 0] 44)) := (((Below.refl _ _).alloc (Nat.le_refl _) _).alloc (by simp) _).alloc (by simp; omega) _
  by_cases hv : xv.size = 0
  · rw [valA_num hv]
    obtain rfl : xv = ⟨#[]⟩ := ByteArray.ext (Array.eq_empty_of_size_eq_zero hv)
    clear hE h
    go_enter Tryz.func56, Tryz.ntmps56
    go_wp2_with (go_at_call 58; refine' Calls.aft _ _ (rof_any _ _ _) _; rotate_left 2; (first | (with_reducible exact After.below _; rfl) | (with_reducible exact below_drew (After.below _); rfl) | (with_reducible exact below_set (After.below _) _ _; (go_simp; rfl)) | (with_reducible exact below_set (below_set (After.below _) _ _) _ _; (go_simp; rfl)) | (with_reducible exact below_set (below_set (below_set (After.below _) _ _) _ _) _ _; (go_simp; rfl)) | (with_reducible exact below_set (below_set (below_set (below_set (After.below _) _ _) _ _) _ _) _ _; (go_simp; rfl)) | (exact Below.refl _ _; rfl)); intro x1; have hle := After.le x1; (try simp at hle))
    refine bodyPost_ret (v := .agg #[.int .i64 (wr xa), .int .i64 (wr xb)]) (by simp only [results, Tryz.results56]; go_simp) rfl ⟨rfl, ?_⟩
    (repeat (first | exact Below.refl _ _ | apply Below.drew | refine Below.alloc ?_ ?_ _ | refine Below.setCell ?_ ?_ _ | refine Below.trans ?_ (Below.mono (After.below _) ?_))); (all_goals (first | (simp; done) | (simp; omega) | omega))
  · have hve : (xv.toList == []) = false := by
      cases he : (xv.toList == []) with
      | false => rfl
      | true =>
        exfalso
        have e : xv = ⟨#[]⟩ := toList_inj ((beq_iff_eq.1 he).trans (by simp : [] = (⟨#[]⟩ : ByteArray).toList))
        exact hv (by rw [e]; rfl)
    rw [valA_var hv]
    have hvr := rvar_any P xv _ _ (h.below hb3) h12 hl12
    show Calls _ _ _ _ (fun e w' => e = .returned (.agg #[.int .i64 (atN E (idx (vars P) xv)).a, .int .i64 (atN E (idx (vars P) xv)).b]) ∧ _)
    generalize idx (vars P) xv = i at hvr ⊢
    obtain ⟨b, off, ep, ec, rfl, hp, hc⟩ := hE.open Nu.cs_len
    clear hE h hv
    by_cases h0 : i < 0
    · rw [atN_out (.inl h0)]
      clear hc
      go_enter Tryz.func56, Tryz.ntmps56
      go_wp2_with (go_at_call 36; refine' Calls.aft _ _ (hvr) _; rotate_left 2; (first | (with_reducible exact After.below _; rfl) | (with_reducible exact below_drew (After.below _); rfl) | (with_reducible exact below_set (After.below _) _ _; (go_simp; rfl)) | (with_reducible exact below_set (below_set (After.below _) _ _) _ _; (go_simp; rfl)) | (with_reducible exact below_set (below_set (below_set (After.below _) _ _) _ _) _ _; (go_simp; rfl)) | (with_reducible exact below_set (below_set (below_set (below_set (After.below _) _ _) _ _) _ _) _ _; (go_simp; rfl)) | (exact Below.refl _ _; rfl)); intro x1; have hle := After.le x1; (try simp at hle))
      refine bodyPost_ret (v := .agg #[.int .i64 0, .int .i64 0]) (by simp only [results, Tryz.results56]; go_simp) rfl ⟨rfl, ?_⟩
      (repeat (first | exact Below.refl _ _ | apply Below.drew | refine Below.alloc ?_ ?_ _ | refine Below.setCell ?_ ?_ _ | refine Below.trans ?_ (Below.mono (After.below _) ?_))); (all_goals (first | (simp; done) | (simp; omega) | omega))
    by_cases h1 : (E.length : Int) ≤ i
    · rw [atN_out (.inr h1)]
      clear hc
      go_enter Tryz.func56, Tryz.ntmps56
      go_wp2_with (go_at_call 36; refine' Calls.aft _ _ (hvr) _; rotate_left 2; (first | (with_reducible exact After.below _; rfl) | (with_reducible exact below_drew (After.below _); rfl) | (with_reducible exact below_set (After.below _) _ _; (go_simp; rfl)) | (with_reducible exact below_set (below_set (After.below _) _ _) _ _; (go_simp; rfl)) | (with_reducible exact below_set (below_set (below_set (After.below _) _ _) _ _) _ _; (go_simp; rfl)) | (with_reducible exact below_set (below_set (below_set (below_set (After.below _) _ _) _ _) _ _) _ _; (go_simp; rfl)) | (exact Below.refl _ _; rfl)); intro x1; have hle := After.le x1; (try simp at hle))
      refine bodyPost_ret (v := .agg #[.int .i64 0, .int .i64 0]) (by simp only [results, Tryz.results56]; go_simp) rfl ⟨rfl, ?_⟩
      (repeat (first | exact Below.refl _ _ | apply Below.drew | refine Below.alloc ?_ ?_ _ | refine Below.setCell ?_ ?_ _ | refine Below.trans ?_ (Below.mono (After.below _) ?_))); (all_goals (first | (simp; done) | (simp; omega) | omega))
    obtain ⟨k, rfl⟩ : ∃ k : Nat, i = k := ⟨i.toNat, by omega⟩
    have hk : k < E.length := by omega
    obtain rfl := hp (by omega)
    obtain ⟨c0, c1⟩ := Sl.nu hc hk
    rw [atN_in hk]
    have hbl := World.block_lt_of_cell? _ _ c0
    clear hc
    generalize E[k]'hk = x at c0 c1
    go_enter Tryz.func56, Tryz.ntmps56
    go_wp2_with (go_at_call 36; refine' Calls.aft _ _ (hvr) _; rotate_left 2; (first | (with_reducible exact After.below _; rfl) | (with_reducible exact below_drew (After.below _); rfl) | (with_reducible exact below_set (After.below _) _ _; (go_simp; rfl)) | (with_reducible exact below_set (below_set (After.below _) _ _) _ _; (go_simp; rfl)) | (with_reducible exact below_set (below_set (below_set (After.below _) _ _) _ _) _ _; (go_simp; rfl)) | (with_reducible exact below_set (below_set (below_set (below_set (After.below _) _ _) _ _) _ _) _ _; (go_simp; rfl)) | (exact Below.refl _ _; rfl)); intro x1; have hle := After.le x1; (try simp at hle))
    refine bodyPost_ret (v := .agg #[.int .i64 x.a, .int .i64 x.b]) (by simp only [results, Tryz.results56]; go_simp) rfl ⟨rfl, ?_⟩
    (repeat (first | exact Below.refl _ _ | apply Below.drew | refine Below.alloc ?_ ?_ _ | refine Below.setCell ?_ ?_ _ | refine Below.trans ?_ (Below.mono (After.below _) ?_))); (all_goals (first | (simp; done) | (simp; omega) | omega))

end Go.Proofs.YtaaklejkngpddaaGreat.Pr

namespace Go.Proofs.YtaaklejkngpddaaGreat.Pr
set_option linter.unusedVariables false
set_option linter.unusedSimpArgs false
open Go Go.RowKit

def sameSt (b1 i1 : Int) (E1 O1 : List Nu) (b2 i2 : Int) (E2 O2 : List Nu) : Bool := decide (b1 = b2) && decide (i1 = i2) && decide (E1 = E2) && decide (O1 = O2)

end Go.Proofs.YtaaklejkngpddaaGreat.Pr

namespace Go.Proofs.YtaaklejkngpddaaGreat.Pr
set_option linter.unusedVariables false
set_option linter.unusedSimpArgs false
open Go Go.RowKit

def fewB (P : List Bl) (E I : List Nu) : Bool := smallB P && decide (E.length ≤ 70) && decide (I.length ≤ 70)

end Go.Proofs.YtaaklejkngpddaaGreat.Pr

namespace Go.Proofs.YtaaklejkngpddaaGreat.Pr
set_option linter.unusedVariables false
set_option linter.unusedSimpArgs false
open Go Go.ChangeShapes Go.WideShapes Go.ChangeAt Go.RowKit Go.Joins

section
variable {H : Type} {enc : TypeId × Value → H} {W : World} {base : Nat} {v : Value} {d : DataW H} {p : List MemPlace}

theorem cells_Nu {n : Nat} {cs : List Value} {y : DataW H × List MemPlace} (h : DataW.trod enc Tryz.prog W 0 (fun _ => true) true n 44 cs = some y) : ∃ x : Nu, cs = x.cs ∧ True := by
  obtain ⟨a, b, e⟩ := cells_num h
  exact ⟨⟨a, b⟩, e, trivial⟩

set_option maxRecDepth 100000 in
theorem open_nums (hv : Value.okWide Tryz.prog W .any base 25 v) (h : DataW.Trod enc Tryz.prog W 0 (fun _ => true) true 25 v d p) :
    ∃ L : List Nu, Sl W v Nu.cs L ∧ NilOk v := by
  obtain ⟨a, len, cap, rfl⟩ := okWide_slice Tryz.underlying25 hv
  obtain ⟨fuel, hf⟩ := h
  obtain ⟨L, ⟨v, e0, hS⟩, _⟩ := slice_T (ec := Nu.cs) (k := 2) Tryz.underlying25 (by kernel_rfl) Nu.cs_len (by decide) (fun _ => True) (fun n cs' y' h => cells_Nu h) hf
  simp [Value.cells] at e0
  subst e0
  refine ⟨L, hS, fun n c he => ?_⟩
  rcases Go.Deep.open_slice Tryz.underlying25 hf with ⟨e, _⟩ | ⟨a', len', cap', m, n, D, Pl, e, _⟩
  · simp [Value.cells] at e
    cases he
    exact e.2.2
  · simp [Value.cells] at e
    cases he
    cases e.1
end

end Go.Proofs.YtaaklejkngpddaaGreat.Pr

/- WALKS of exec.Start and soughref08.Start; boxes. WALKS of soughref08: Nums, copied, Value, Start, Same. WALK of soughref08.Same. WALKS of soughlaw08: few, state, back. ARGUMENTS that are slices of numbers. -/
import Derived.Test.YtaaklejkngpddaaExb
import Derived.OwnWalk
import Derived.OneCell
import Derived.Test.YtaaklejkngpddaaExa
import Derived.Laws.AppendOwnNone
import Derived.Test.YtaaklejkngpddaaSmall
import Derived.Test.YtaaklejkngpddaaLaw
import Derived.Test.YtaaklejkngpddaaPgmb
namespace Go.Proofs.Ytaaklejkngpddaa.Pr
set_option linter.unusedVariables false
set_option linter.unusedSimpArgs false
open Go Go.RowKit

theorem rep_cs (n : Nat) : (List.replicate n zN).flatMap Nu.cs = List.replicate (n * 2) (.int .i64 0) := by
  induction n with
  | zero => rfl
  | succ n ih =>
    rw [List.replicate_succ, List.flatMap_cons, ih, show (n + 1) * 2 = n * 2 + 1 + 1 by omega, List.replicate_succ, List.replicate_succ]
    rfl
theorem zeros2 (n : Nat) : (madeCells (Value.agg #[.int .i64 0, .int .i64 0]).cells (n * 2)).toList = (List.replicate n zN).flatMap Nu.cs := by
  rw [rep_cs]
  show (madeCells #[.int .i64 0, .int .i64 0] (n * 2)).toList = _
  rw [List.eq_replicate_iff]
  refine ⟨by simp [madeCells], fun b hb => ?_⟩
  simp only [madeCells, Array.toList_map, List.mem_map] at hb
  obtain ⟨i, _, rfl⟩ := hb
  have hi : i % 2 < 2 := Nat.mod_lt _ (by decide)
  show (#[Value.int .i64 0, Value.int .i64 0] : Array Value)[i % 2]! = _
  generalize i % 2 = j at hi
  match j, hi with
  | 0, _ => rfl
  | 1, _ => rfl

theorem set4 {q : World} {B : Nat} {t : TypeId} {a0 a1 a2 a3 : Value} (b0 b1 b2 b3 : Value) (h : q.heap[B]? = some (.cells #[a0, a1, a2, a3] t (0, 0))) :
    ((((q.setCell ⟨B, 0, none⟩ b0).setCell ⟨B, 1, none⟩ b1).setCell ⟨B, 2, none⟩ b2).setCell ⟨B, 3, none⟩ b3).heap[B]? = some (.cells #[b0, b1, b2, b3] t (0, 0)) := by
  have h1 := heap_setCell_same _ B 0 _ t b0 h
  have h2 := heap_setCell_same _ B 1 _ t b1 h1
  have h3 := heap_setCell_same _ B 2 _ t b2 h2
  exact heap_setCell_same _ B 3 _ t b3 h3
theorem set4_other {q : World} {B k : Nat} (b0 b1 b2 b3 : Value) (hk : k ≠ B) :
    ((((q.setCell ⟨B, 0, none⟩ b0).setCell ⟨B, 1, none⟩ b1).setCell ⟨B, 2, none⟩ b2).setCell ⟨B, 3, none⟩ b3).heap[k]? = q.heap[k]? := by
  rw [heap_setCell_other _ _ _ _ hk, heap_setCell_other _ _ _ _ hk, heap_setCell_other _ _ _ _ hk, heap_setCell_other _ _ _ _ hk]

/-- The world behind the boxes of 'run'. -/
def boxR (w : World) (pv : Value) (S : Array Value) : World := ((w.alloc (.cells #[pv] 24)).alloc (.cells S 47)).alloc (.cells #[.int .i64 0, .slice none 0 0, .int .i64 0, .slice none 0 0] 47)
theorem boxR_size (w : World) (pv : Value) (S : Array Value) : (boxR w pv S).heap.size = w.heap.size + 1 + 1 + 1 := by simp [boxR]
theorem boxR_below (w : World) (pv : Value) (S : Array Value) : Below w.heap.size w (boxR w pv S) := (((Below.refl _ _).alloc (Nat.le_refl _) _).alloc (by simp) _).alloc (by simp; omega) _
theorem boxR_p (w : World) (pv : Value) (S : Array Value) : (boxR w pv S).heap[w.heap.size]? = some (.cells #[pv] 24 (0, 0)) := by
  unfold boxR
  rw [heap_alloc_old _ _ (by simp; try omega), heap_alloc_old _ _ (by simp)]
  exact heap_alloc_new _ _
theorem boxR_s (w : World) (pv : Value) (S : Array Value) : (boxR w pv S).heap[w.heap.size + 1]? = some (.cells S 47 (0, 0)) := by
  unfold boxR
  rw [heap_alloc_old _ _ (by simp; try omega), show w.heap.size + 1 = (w.alloc (.cells #[pv] 24)).heap.size by simp]
  exact heap_alloc_new _ _
theorem boxR_r (w : World) (pv : Value) (S : Array Value) : (boxR w pv S).heap[w.heap.size + 1 + 1]? = some (.cells #[.int .i64 0, .slice none 0 0, .int .i64 0, .slice none 0 0] 47 (0, 0)) := by
  unfold boxR
  rw [show w.heap.size + 1 + 1 = ((w.alloc (.cells #[pv] 24)).alloc (.cells S 47)).heap.size by simp]
  exact heap_alloc_new _ _

set_option maxRecDepth 100000 in
set_option maxHeartbeats 1000000 in
theorem start_any (P : List Bl) (pv : Value) (w : World) (h : Pg w pv P) (h12 : P.length ≤ 12) (hl12 : ∀ b ∈ P, b.l.length ≤ 12) :
    Calls Try.prog 17 #[.agg #[pv]] w fun e w' => ∃ ev, e = .returned (.agg #[.int .i64 0, ev, .int .i64 0, .slice none 0 0]) ∧
      w'.ownsRow w.heap.size 27 2 ev (vars P).length ((List.replicate (vars P).length zN).flatMap Nu.cs) ∧ Below w.heap.size w w' := by
  obtain ⟨i0, hi, hz0, hz1, hz2⟩ := info_parts nu_info
  have hln : (vars P).length ≤ 1000000 := by have := blVars_len hl12 P.length; show (blVars P P.length).length ≤ _; omega
  obtain ⟨p, cap, hpv⟩ : ∃ p cap, pv = .slice p P.length cap := by obtain ⟨b, off, p, cap, hv, _⟩ := h.1; exact ⟨p, cap, hv⟩
  subst hpv
  have hb2 : Below w.heap.size w ((w.alloc (.cells #[.slice p P.length cap] 24)).alloc (.cells #[.int .i64 0, .slice none 0 0, .int .i64 0, .slice none 0 0] 47)) := ((Below.refl _ _).alloc (Nat.le_refl _) _).alloc (by simp) _
  have hv := vars_any P _ _ (h.below hb2) h12 hl12
  generalize vars P = V at hln hv ⊢
  clear h
  go_enter Try.func17, Try.ntmps17
  go_wp2_with (first | (go_at_call 46; refine (hv).mono ?_; rintro e W1 ⟨v1, rfl, hv1, hB1⟩; obtain ⟨vb, voff, vp, vcap, rfl, _, _⟩ := Sl.strs hv1) | (at_make; refine wpList_make_full _ rfl _ _ 45 rfl W1.heap.size 27 i0 (.agg #[.int .i64 0, .int .i64 0]) 2 Try.underlying45 hi hz0 hz1 .i64 .i64 _ _ V.length rfl rfl rfl rfl (by rw [hz2]; omega) (by unfold maxLen; omega) (Nat.le_refl _) ?_; intro w1 hown hgrow; rw [zeros2] at hown; have hs := hB1.size; simp only [World.size_alloc] at hs; have hl1 : W1.heap[w.heap.size + 1]? = some (.cells #[.int .i64 0, .slice none 0 0, .int .i64 0, .slice none 0 0] 47 (0, 0)) := (hB1.block _ (by simp)).trans (by rw [show w.heap.size + 1 = (w.alloc (.cells #[.slice p P.length cap] 24)).heap.size by simp]; exact heap_alloc_new _ _); have hl2 := (hgrow.block (w.heap.size + 1) (by omega) (by simp)).trans hl1; obtain ⟨j0, j1, j2, j3, jf, jl⟩ := four hl2; have jf0 := jf 0; have jf1 := jf 1; have jf2 := jf 2; have jf3 := jf 3))
  have hBw : Below w.heap.size w w1 := Below.grown (w := _) (hb2.trans (hB1.mono (by simp; omega))) hgrow (by omega) (fun q hq => by cases hq)
  have hown2 : w1.ownsRow (w.heap.size + 2) 27 2 _ _ _ := own_base hown (by omega)
  refine bodyPost_ret (v := .agg #[.int .i64 0, .slice (some ⟨W1.heap.size, 0, none⟩) V.length V.length, .int .i64 0, .slice none 0 0]) (by simp only [results, Try.results17]; go_simp) rfl ⟨_, rfl, ?_, ?_⟩
  · refine own_base ?_ (by omega : w.heap.size ≤ w.heap.size + 2)
    (repeat (first | (with_reducible exact hown2) | refine ownsRow_setCell_other ?_ ?_ _))
    all_goals exact ownNL hown2 (by show w.heap.size + 1 < _; omega)
  · (repeat (first | (with_reducible exact hBw) | refine Below.setCell ?_ ?_ _))
    all_goals (show w.heap.size ≤ w.heap.size + 1; omega)

set_option maxRecDepth 100000 in
set_option maxHeartbeats 1000000 in
theorem rstart_any (P : List Bl) (pv : Value) (w : World) (h : Pg w pv P) (h12 : P.length ≤ 12) (hl12 : ∀ b ∈ P, b.l.length ≤ 12) :
    Calls Try.prog 18 #[.agg #[pv]] w fun e w' => ∃ ev, e = .returned (.agg #[.int .i64 0, ev, .int .i64 0, .slice none 0 0]) ∧
      w'.ownsRow w.heap.size 27 2 ev (vars P).length ((List.replicate (vars P).length zN).flatMap Nu.cs) ∧ Below w.heap.size w w' := by
  obtain ⟨i0, hi, hz0, hz1, hz2⟩ := info_parts nu_info
  have hln : (vars P).length ≤ 1000000 := by have := blVars_len hl12 P.length; show (blVars P P.length).length ≤ _; omega
  obtain ⟨p, cap, hpv⟩ : ∃ p cap, pv = .slice p P.length cap := by obtain ⟨b, off, p, cap, hv, _⟩ := h.1; exact ⟨p, cap, hv⟩
  subst hpv
  have hb2 : Below w.heap.size w ((w.alloc (.cells #[.slice p P.length cap] 24)).alloc (.cells #[.int .i64 0, .slice none 0 0, .int .i64 0, .slice none 0 0] 43)) := ((Below.refl _ _).alloc (Nat.le_refl _) _).alloc (by simp) _
  have hv := rvars_any P _ _ (h.below hb2) h12 hl12
  generalize vars P = V at hln hv ⊢
  clear h
  go_enter Try.func18, Try.ntmps18
  go_wp2_with (first | (go_at_call 47; refine (hv).mono ?_; rintro e W1 ⟨v1, rfl, hv1, hB1⟩; obtain ⟨vb, voff, vp, vcap, rfl, _, _⟩ := Sl.strs hv1) | (at_make; refine wpList_make_full _ rfl _ _ 25 rfl W1.heap.size 27 i0 (.agg #[.int .i64 0, .int .i64 0]) 2 Try.underlying25 hi hz0 hz1 .i64 .i64 _ _ V.length rfl rfl rfl rfl (by rw [hz2]; omega) (by unfold maxLen; omega) (Nat.le_refl _) ?_; intro w1 hown hgrow; rw [zeros2] at hown; have hs := hB1.size; simp only [World.size_alloc] at hs; have hl1 : W1.heap[w.heap.size + 1]? = some (.cells #[.int .i64 0, .slice none 0 0, .int .i64 0, .slice none 0 0] 43 (0, 0)) := (hB1.block _ (by simp)).trans (by rw [show w.heap.size + 1 = (w.alloc (.cells #[.slice p P.length cap] 24)).heap.size by simp]; exact heap_alloc_new _ _); have hl2 := (hgrow.block (w.heap.size + 1) (by omega) (by simp)).trans hl1; obtain ⟨j0, j1, j2, j3, jf, jl⟩ := four hl2; have jf0 := jf 0; have jf1 := jf 1; have jf2 := jf 2; have jf3 := jf 3))
  have hBw : Below w.heap.size w w1 := Below.grown (w := _) (hb2.trans (hB1.mono (by simp; omega))) hgrow (by omega) (fun q hq => by cases hq)
  have hown2 : w1.ownsRow (w.heap.size + 2) 27 2 _ _ _ := own_base hown (by omega)
  refine bodyPost_ret (v := .agg #[.int .i64 0, .slice (some ⟨W1.heap.size, 0, none⟩) V.length V.length, .int .i64 0, .slice none 0 0]) (by simp only [results, Try.results18]; go_simp) rfl ⟨_, rfl, ?_, ?_⟩
  · refine own_base ?_ (by omega : w.heap.size ≤ w.heap.size + 2)
    (repeat (first | (with_reducible exact hown2) | refine ownsRow_setCell_other ?_ ?_ _))
    all_goals exact ownNL hown2 (by show w.heap.size + 1 < _; omega)
  · (repeat (first | (with_reducible exact hBw) | refine Below.setCell ?_ ?_ _))
    all_goals (show w.heap.size ≤ w.heap.size + 1; omega)

end Go.Proofs.Ytaaklejkngpddaa.Pr

namespace Go.Proofs.Ytaaklejkngpddaa.Pr
set_option linter.unusedVariables false
set_option linter.unusedSimpArgs false
open Go Go.RowKit

/-- A nil slice has no room. -/
def NilOk (v : Value) : Prop := ∀ n c, v = .slice none n c → c = 0
theorem NilOk.own {w : World} {base : Nat} {e : TypeId} {size n : Nat} {v : Value} {xs : List Value} (h : w.ownsRow base e size v n xs) : NilOk v := fun n2 c he => by
  rcases h.2 with ⟨rfl, _⟩ | ⟨g, cap, cur, rfl, _⟩
  · cases he; rfl
  · cases he
theorem NilOk.nil : NilOk (.slice none 0 0) := fun n c h => by cases h; rfl

theorem nums_eq {A B : List Nu} (hl : A.length = B.length) (h : ∀ j (h1 : j < A.length) (h2 : j < B.length), A[j]'h1 = B[j]'h2) : A = B := List.ext_getElem hl fun j h1 h2 => h j h1 h2

set_option maxRecDepth 100000 in
set_option maxHeartbeats 1000000 in
theorem nums_any (L M : List Nu) (hl : L.length ≤ 1000000) (hm : M.length ≤ 1000000) (v1 v2 : Value) (w : World) (h : Sl w v1 Nu.cs L) (h2 : Sl w v2 Nu.cs M) :
    Calls Try.prog 26 #[v1, v2] w fun e w' => e = .returned (.bool (decide (L = M))) ∧ Below w.heap.size w w' := by
  obtain ⟨b, off, p, cap, rfl, hp, hc⟩ := h.open Nu.cs_len
  obtain ⟨b2, off2, p2, cap2, rfl, hp2, hc2⟩ := h2.open Nu.cs_len
  by_cases hll : L.length = M.length
  · have hLM : Hid (L.length = M.length) := hll
    have g0 : ((L.length : Int) != M.length) = false := by simp; omega
    obtain ⟨R, hR⟩ : ∃ R, Hid (decide (L = M) = R) := ⟨_, rfl⟩
    rw [hR]
    clear hll h h2
    go_enter Try.func26, Try.ntmps26
    go_wp2_with fail
    go_loopw [13] (fun i wr => ∃ k : Nat, k ≤ L.length ∧ i = .int .i64 k ∧ (∀ j (h1 : j < L.length) (h2 : j < M.length), j < k → L[j]'h1 = M[j]'h2) ∧ Below w.heap.size w wr) (fun i _ => L.length - (intOf i).toNat)
    case atStart => exact ⟨0, Nat.zero_le _, rfl, fun j _ _ hj => by omega, Below.refl _ _⟩
    case round =>
      obtain ⟨k, hk, rfl, hall, hB⟩ := hrel
      by_cases hlt : k < L.length
      · have hlt' : k < M.length := by rw [← hLM]; exact hlt
        obtain rfl := hp (by omega)
        obtain rfl := hp2 (by omega)
        have hlt2 : (k : Int) < L.length := by omega
        have hlt3 : (k : Int) < M.length := by omega
        obtain ⟨c0, c1⟩ := Sl.nu hc hlt
        obtain ⟨d0, d1⟩ := Sl.nu hc2 hlt'
        have c0 := nextC hB c0
        have c1 := nextC hB c1
        have d0 := nextC hB d0
        have d1 := nextC hB d1
        have hg := World.block_lt_of_cell? _ _ c0
        have hg2 := World.block_lt_of_cell? _ _ d0
        have hbad : L[k]'hlt ≠ M[k]'hlt' → R = false := fun h => by
          rw [← hR]
          refine decide_eq_false fun he => h ?_
          subst he
          rfl
        have hnext : L[k]'hlt = M[k]'hlt' → ∀ j (h1 : j < L.length) (h2 : j < M.length), j < k + 1 → L[j]'h1 = M[j]'h2 := fun h j h1 h2 hj => by
          rcases Nat.lt_succ_iff_lt_or_eq.1 hj with hj | rfl
          · exact hall j h1 h2 hj
          · exact h
        have hmm := And.intro hbad hnext
        clear hc hc2 hall hbad hnext
        generalize L[k]'hlt = s at c0 c1 hmm
        generalize M[k]'hlt' = t at d0 d1 hmm
        obtain ⟨sa, sb⟩ := s
        obtain ⟨ta, tb⟩ := t
        by_cases hz : (⟨sa, sb⟩ : Nu) = ⟨ta, tb⟩
        · have hx := And.intro True.intro (hmm.2 hz)
          have f1 : (sa == ta && sb == tb) = true := by cases hz; simp
          clear hmm
          have c0 : wr.cell? ⟨b, off + k * 2, none⟩ = some (.int .i64 sa) := c0
          have c1 : wr.cell? ⟨b, off + k * 2 + 1, none⟩ = some (.int .i64 sb) := c1
          have d0 : wr.cell? ⟨b2, off2 + k * 2, none⟩ = some (.int .i64 ta) := d0
          have d1 : wr.cell? ⟨b2, off2 + k * 2 + 1, none⟩ = some (.int .i64 tb) := d1
          clear hz
          go_wp2_with fail
          go_region
          all_goals (
            go_wp2_with fail
            go_roundw
            case rel => exact ⟨k + 1, by omega, by simp, hx.2, hB.drew⟩
            case measure => simp [intOf]; omega)
        · have hRk := hmm.1 hz
          have f1 : (sa == ta && sb == tb) = false := by
            cases he : (sa == ta && sb == tb) with
            | false => rfl
            | true => rw [Bool.and_eq_true, beq_iff_eq, beq_iff_eq] at he; exact absurd (by rw [he.1, he.2]) hz
          subst hRk
          clear hmm
          have c0 : wr.cell? ⟨b, off + k * 2, none⟩ = some (.int .i64 sa) := c0
          have c1 : wr.cell? ⟨b, off + k * 2 + 1, none⟩ = some (.int .i64 sb) := c1
          have d0 : wr.cell? ⟨b2, off2 + k * 2, none⟩ = some (.int .i64 ta) := d0
          have d1 : wr.cell? ⟨b2, off2 + k * 2 + 1, none⟩ = some (.int .i64 tb) := d1
          clear hz
          go_wp2_with fail
          go_region
          all_goals (
            go_wp2_with fail
            refine bodyPost_ret (v := .bool false) (by simp only [results, Try.results26]; go_simp) rfl ⟨rfl, hB.drew⟩)
      · have hks : k = L.length := by omega
        subst hks
        have hlt2 : ¬ (L.length : Int) < L.length := by omega
        have hRk : R = true := by rw [← hR]; exact decide_eq_true (nums_eq hLM (fun k h1 h2 => hall k h1 h2 h1))
        subst hRk
        clear hc hc2 hall
        go_wp2_with fail
        go_ret
        exact ⟨rfl, hB⟩
  · have g0 : ((L.length : Int) != M.length) = true := by simp; omega
    rw [decide_eq_false (fun he : L = M => hll (by rw [he]))]
    clear hll h h2 hc hc2 hp hp2
    go_enter Try.func26, Try.ntmps26
    go_wp2_with fail
    go_ret
    exact ⟨rfl, Below.refl _ _⟩

set_option maxRecDepth 100000 in
set_option maxHeartbeats 1000000 in
theorem copied_any (L : List Nu) (hl : L.length ≤ 1000000) (v : Value) (w : World) (h : Sl w v Nu.cs L) (hz : NilOk v) :
    Calls Try.prog 57 #[v] w fun e w' => ∃ o, e = .returned o ∧ w'.ownsRow w.heap.size 27 2 o L.length (L.flatMap Nu.cs) ∧ Below w.heap.size w w' := by
  obtain ⟨i0, hi, hz0, hz1, hz2⟩ := info_parts nu_info
  obtain ⟨b, off, p, cap, rfl, hp, hc⟩ := h
  cases p with
  | none =>
    have h0 : L.length = 0 := by
      rcases Nat.eq_zero_or_pos L.length with h | h
      · exact h
      · have := hp h; cases this
    have hL : L = [] := List.eq_nil_of_length_eq_zero h0
    subst hL
    obtain rfl := hz _ _ rfl
    clear hp hc hz
    go_enter Try.func57, Try.ntmps57
    go_wp2_with (at_builtin; refine wpList_append_own_none rfl _ _ 25 rfl w.heap.size 27 i0 2 Try.underlying25 hi _ 0 [] rfl (own_empty w 27 2) rfl ?_)
    refine bodyPost_ret (v := .slice (some ⟨w.heap.size, 0, none⟩) 0 0) (by simp only [results, Try.results57]; go_simp) rfl ⟨_, rfl, own_empty w 27 2, (Below.refl _ _).alloc (Nat.le_refl _) _⟩
  | some a =>
    have hnews : ∀ j u, (L.flatMap Nu.cs)[j]? = some u → (w.alloc (.cells #[] 27)).cell? (a.add j) = some u := fun j u hu => by
      have h0 : 0 < L.length := by
        rcases Nat.eq_zero_or_pos L.length with h | h
        · have : L = [] := List.eq_nil_of_length_eq_zero h
          subst this
          simp at hu
        · exact h
      have ha := hp h0
      cases ha
      rw [Go.WideShapes.add_plain]
      have := hc j u hu
      exact (World.cell?_alloc_lt _ _ _ (World.block_lt_of_cell? _ _ this)).trans this
    have hlen : (L.flatMap Nu.cs).length = L.length * 2 := flat_length Nu.cs_len L
    have hn := And.intro True.intro (And.intro hnews hlen)
    clear hp hc hnews hlen hz
    go_enter Try.func57, Try.ntmps57
    go_wp2_with (at_builtin; refine wpList_append_own _ rfl _ _ 25 rfl w.heap.size 27 i0 (.agg #[.int .i64 0, .int .i64 0]) 2 16 Try.underlying25 hi hz0 hz1 hz2 rfl (by decide) _ 0 [] rfl (own_empty w 27 2) _ L.length cap (L.flatMap Nu.cs) rfl hn.2.2 hn.2.1 nu_one (by unfold maxLen; omega) (by omega) (by simp) ?_; intro v2 w1 hown' hgrow _)
    have hB2 : Below w.heap.size w w1 := Below.grown (w := _) ((Below.refl _ _).alloc (Nat.le_refl _) _) hgrow (by simp) (fun q hq => by cases hq; exact Nat.le_refl _)
    rw [Nat.zero_add, List.nil_append] at hown'
    go_wp2_with fail
    refine bodyPost_ret (v := v2) (by simp only [results, Try.results57]; go_simp) rfl ⟨_, rfl, hown', hB2⟩

set_option maxRecDepth 100000 in
theorem rvalue_any (P : List Bl) (E : List Nu) (xv : ByteArray) (xa xb : Int) (pv ev : Value) (w : World) (h : Pg w pv P) (h12 : P.length ≤ 12) (hl12 : ∀ b ∈ P, b.l.length ≤ 12) (hE : Sl w ev Nu.cs E) :
    Calls Try.prog 13 #[.agg #[pv], ev, .agg #[.string xv, .int .i64 xa, .int .i64 xb]] w fun e w' => e = .returned (.agg #[.int .i64 (valA P E ⟨xv, xa, xb⟩).a, .int .i64 (valA P E ⟨xv, xa, xb⟩).b]) ∧ Below w.heap.size w w' := by
  obtain ⟨p, cap, hpv⟩ : ∃ p cap, pv = .slice p P.length cap := by obtain ⟨b, off, p, cap, hv, _⟩ := h.1; exact ⟨p, cap, hv⟩
  subst hpv
  have hb3 : Below w.heap.size w (((w.alloc (.cells #[.slice p P.length cap] 24)).alloc (.cells #[.string xv, .int .i64 xa, .int .i64 xb] 29)).alloc (.cells #[.int .i64 0, .int .i64 0] 27)) := (((Below.refl _ _).alloc (Nat.le_refl _) _).alloc (by simp) _).alloc (by simp; omega) _
  by_cases hv : xv.size = 0
  · rw [valA_num hv]
    obtain rfl : xv = ⟨#[]⟩ := ByteArray.ext (Array.eq_empty_of_size_eq_zero hv)
    clear hE h
    go_enter Try.func13, Try.ntmps13
    go_wp2_with (go_at_call 41; refine' Calls.aft _ _ (rof_any _ _ _) _; rotate_left 2; (first | (with_reducible exact After.below _; rfl) | (with_reducible exact below_drew (After.below _); rfl) | (with_reducible exact below_set (After.below _) _ _; (go_simp; rfl)) | (with_reducible exact below_set (below_set (After.below _) _ _) _ _; (go_simp; rfl)) | (with_reducible exact below_set (below_set (below_set (After.below _) _ _) _ _) _ _; (go_simp; rfl)) | (with_reducible exact below_set (below_set (below_set (below_set (After.below _) _ _) _ _) _ _) _ _; (go_simp; rfl)) | (exact Below.refl _ _; rfl)); intro x1; have hle := After.le x1; (try simp at hle))
    refine bodyPost_ret (v := .agg #[.int .i64 (wr xa), .int .i64 (wr xb)]) (by simp only [results, Try.results13]; go_simp) rfl ⟨rfl, ?_⟩
    (repeat (first | exact Below.refl _ _ | apply Below.drew | refine Below.alloc ?_ ?_ _ | refine Below.setCell ?_ ?_ _ | refine Below.trans ?_ (Below.mono (After.below _) ?_))); (all_goals (first | (simp; done) | (simp; omega) | omega))
  · have hve : (xv.toList == []) = false := by
      cases he : (xv.toList == []) with
      | false => rfl
      | true =>
        exfalso
        have e : xv = ⟨#[]⟩ := toList_inj ((beq_iff_eq.1 he).trans (by simp : [] = (⟨#[]⟩ : ByteArray).toList))
        exact hv (by rw [e]; rfl)
    rw [valA_var hv]
    have hvr := rvar_any P xv _ _ (h.below hb3) h12 hl12
    show Calls _ _ _ _ (fun e w' => e = .returned (.agg #[.int .i64 (atN E (idx (vars P) xv)).a, .int .i64 (atN E (idx (vars P) xv)).b]) ∧ _)
    generalize idx (vars P) xv = i at hvr ⊢
    obtain ⟨b, off, ep, ec, rfl, hp, hc⟩ := hE.open Nu.cs_len
    clear hE h hv
    by_cases h0 : i < 0
    · rw [atN_out (.inl h0)]
      clear hc
      go_enter Try.func13, Try.ntmps13
      go_wp2_with (go_at_call 42; refine' Calls.aft _ _ (hvr) _; rotate_left 2; (first | (with_reducible exact After.below _; rfl) | (with_reducible exact below_drew (After.below _); rfl) | (with_reducible exact below_set (After.below _) _ _; (go_simp; rfl)) | (with_reducible exact below_set (below_set (After.below _) _ _) _ _; (go_simp; rfl)) | (with_reducible exact below_set (below_set (below_set (After.below _) _ _) _ _) _ _; (go_simp; rfl)) | (with_reducible exact below_set (below_set (below_set (below_set (After.below _) _ _) _ _) _ _) _ _; (go_simp; rfl)) | (exact Below.refl _ _; rfl)); intro x1; have hle := After.le x1; (try simp at hle))
      refine bodyPost_ret (v := .agg #[.int .i64 0, .int .i64 0]) (by simp only [results, Try.results13]; go_simp) rfl ⟨rfl, ?_⟩
      (repeat (first | exact Below.refl _ _ | apply Below.drew | refine Below.alloc ?_ ?_ _ | refine Below.setCell ?_ ?_ _ | refine Below.trans ?_ (Below.mono (After.below _) ?_))); (all_goals (first | (simp; done) | (simp; omega) | omega))
    by_cases h1 : (E.length : Int) ≤ i
    · rw [atN_out (.inr h1)]
      clear hc
      go_enter Try.func13, Try.ntmps13
      go_wp2_with (go_at_call 42; refine' Calls.aft _ _ (hvr) _; rotate_left 2; (first | (with_reducible exact After.below _; rfl) | (with_reducible exact below_drew (After.below _); rfl) | (with_reducible exact below_set (After.below _) _ _; (go_simp; rfl)) | (with_reducible exact below_set (below_set (After.below _) _ _) _ _; (go_simp; rfl)) | (with_reducible exact below_set (below_set (below_set (After.below _) _ _) _ _) _ _; (go_simp; rfl)) | (with_reducible exact below_set (below_set (below_set (below_set (After.below _) _ _) _ _) _ _) _ _; (go_simp; rfl)) | (exact Below.refl _ _; rfl)); intro x1; have hle := After.le x1; (try simp at hle))
      refine bodyPost_ret (v := .agg #[.int .i64 0, .int .i64 0]) (by simp only [results, Try.results13]; go_simp) rfl ⟨rfl, ?_⟩
      (repeat (first | exact Below.refl _ _ | apply Below.drew | refine Below.alloc ?_ ?_ _ | refine Below.setCell ?_ ?_ _ | refine Below.trans ?_ (Below.mono (After.below _) ?_))); (all_goals (first | (simp; done) | (simp; omega) | omega))
    obtain ⟨k, rfl⟩ : ∃ k : Nat, i = k := ⟨i.toNat, by omega⟩
    have hk : k < E.length := by omega
    obtain rfl := hp (by omega)
    obtain ⟨c0, c1⟩ := Sl.nu hc hk
    rw [atN_in hk]
    have hbl := World.block_lt_of_cell? _ _ c0
    clear hc
    generalize E[k]'hk = x at c0 c1
    go_enter Try.func13, Try.ntmps13
    go_wp2_with (go_at_call 42; refine' Calls.aft _ _ (hvr) _; rotate_left 2; (first | (with_reducible exact After.below _; rfl) | (with_reducible exact below_drew (After.below _); rfl) | (with_reducible exact below_set (After.below _) _ _; (go_simp; rfl)) | (with_reducible exact below_set (below_set (After.below _) _ _) _ _; (go_simp; rfl)) | (with_reducible exact below_set (below_set (below_set (After.below _) _ _) _ _) _ _; (go_simp; rfl)) | (with_reducible exact below_set (below_set (below_set (below_set (After.below _) _ _) _ _) _ _) _ _; (go_simp; rfl)) | (exact Below.refl _ _; rfl)); intro x1; have hle := After.le x1; (try simp at hle))
    refine bodyPost_ret (v := .agg #[.int .i64 x.a, .int .i64 x.b]) (by simp only [results, Try.results13]; go_simp) rfl ⟨rfl, ?_⟩
    (repeat (first | exact Below.refl _ _ | apply Below.drew | refine Below.alloc ?_ ?_ _ | refine Below.setCell ?_ ?_ _ | refine Below.trans ?_ (Below.mono (After.below _) ?_))); (all_goals (first | (simp; done) | (simp; omega) | omega))

end Go.Proofs.Ytaaklejkngpddaa.Pr

namespace Go.Proofs.Ytaaklejkngpddaa.Pr
set_option linter.unusedVariables false
set_option linter.unusedSimpArgs false
open Go Go.RowKit

def sameSt (b1 i1 : Int) (E1 O1 : List Nu) (b2 i2 : Int) (E2 O2 : List Nu) : Bool := decide (b1 = b2) && decide (i1 = i2) && decide (E1 = E2) && decide (O1 = O2)

set_option maxRecDepth 100000 in
set_option maxHeartbeats 2000000 in
theorem sameS_any (b1 i1 b2 i2 : Int) (E1 O1 E2 O2 : List Nu) (l1 : E1.length ≤ 1000000) (l2 : O1.length ≤ 1000000) (l3 : E2.length ≤ 1000000) (l4 : O2.length ≤ 1000000) (ev1 ov1 ev2 ov2 : Value) (w : World) (h1 : Sl w ev1 Nu.cs E1) (h2 : Sl w ov1 Nu.cs O1) (h3 : Sl w ev2 Nu.cs E2) (h4 : Sl w ov2 Nu.cs O2) :
    Calls Try.prog 15 #[.agg #[.int .i64 b1, ev1, .int .i64 i1, ov1], .agg #[.int .i64 b2, ev2, .int .i64 i2, ov2]] w fun e w' => e = .returned (.bool (sameSt b1 i1 E1 O1 b2 i2 E2 O2)) ∧ Below w.heap.size w w' := by
  unfold sameSt
  have n1 := fun (W : World) (hB : Below w.heap.size w W) => nums_any E1 E2 l1 l3 _ _ W (h1.below hB) (h3.below hB)
  have n2 := fun (W : World) (hB : Below w.heap.size w W) => nums_any O1 O2 l2 l4 _ _ W (h2.below hB) (h4.below hB)
  obtain ⟨p1, c1, rfl⟩ : ∃ p cap, ev1 = .slice p E1.length cap := by obtain ⟨b, off, p, cap, hv, _⟩ := h1; exact ⟨p, cap, hv⟩
  obtain ⟨p2, c2, rfl⟩ : ∃ p cap, ov1 = .slice p O1.length cap := by obtain ⟨b, off, p, cap, hv, _⟩ := h2; exact ⟨p, cap, hv⟩
  obtain ⟨p3, c3, rfl⟩ : ∃ p cap, ev2 = .slice p E2.length cap := by obtain ⟨b, off, p, cap, hv, _⟩ := h3; exact ⟨p, cap, hv⟩
  obtain ⟨p4, c4, rfl⟩ : ∃ p cap, ov2 = .slice p O2.length cap := by obtain ⟨b, off, p, cap, hv, _⟩ := h4; exact ⟨p, cap, hv⟩
  have hb2 : Below w.heap.size w ((w.alloc (.cells #[.int .i64 b1, .slice p1 E1.length c1, .int .i64 i1, .slice p2 O1.length c2] 43)).alloc (.cells #[.int .i64 b2, .slice p3 E2.length c3, .int .i64 i2, .slice p4 O2.length c4] 43)) := ((Below.refl _ _).alloc (Nat.le_refl _) _).alloc (by simp) _
  generalize decide (E1 = E2) = R1 at n1 ⊢
  generalize decide (O1 = O2) = R2 at n2 ⊢
  clear h1 h2 h3 h4
  by_cases hb : b1 = b2
  · subst hb
    have g1 : (b1 == b1) = true := by simp
    by_cases hi : i1 = i2
    · subst hi
      have g2 : (i1 == i1) = true := by simp
      rw [decide_eq_true rfl, decide_eq_true rfl]
      cases R1
      · simp only [Bool.and_false, Bool.false_and]
        go_enter Try.func15, Try.ntmps15
        go_wp2_with (go_at_call 26; refine' Calls.aft _ _ (n1 _ hb2) _; rotate_left 2; (first | (with_reducible exact After.below _; rfl) | (with_reducible exact below_drew (After.below _); rfl) | (with_reducible exact below_set (After.below _) _ _; (go_simp; rfl)) | (with_reducible exact below_set (below_set (After.below _) _ _) _ _; (go_simp; rfl)) | (with_reducible exact below_set (below_set (below_set (After.below _) _ _) _ _) _ _; (go_simp; rfl)) | (with_reducible exact below_set (below_set (below_set (below_set (After.below _) _ _) _ _) _ _) _ _; (go_simp; rfl)) | (exact Below.refl _ _; rfl)); intro x1; have hle := After.le x1; (try simp at hle))
        go_ret
        exact ⟨rfl, hb2.trans (x1.below.mono hb2.size)⟩
      · simp only [Bool.and_true, Bool.true_and]
        go_enter Try.func15, Try.ntmps15
        go_wp2_with (go_at_call 26; first | (with_reducible refine' Calls.aft _ _ (n1 _ hb2) _; rotate_left 2; (first | (with_reducible exact After.below _; rfl) | (with_reducible exact below_drew (After.below _); rfl) | (with_reducible exact below_set (After.below _) _ _; (go_simp; rfl)) | (with_reducible exact below_set (below_set (After.below _) _ _) _ _; (go_simp; rfl)) | (with_reducible exact below_set (below_set (below_set (After.below _) _ _) _ _) _ _; (go_simp; rfl)) | (with_reducible exact below_set (below_set (below_set (below_set (After.below _) _ _) _ _) _ _) _ _; (go_simp; rfl)) | (exact Below.refl _ _; rfl)); intro x1; have hle := After.le x1; (try simp at hle)) | (with_reducible refine' Calls.aft _ _ (n2 _ (hb2.trans (x1.below.mono hb2.size))) _; rotate_left 2; (first | (with_reducible exact After.below _; rfl) | (with_reducible exact below_drew (After.below _); rfl) | (with_reducible exact below_set (After.below _) _ _; (go_simp; rfl)) | (with_reducible exact below_set (below_set (After.below _) _ _) _ _; (go_simp; rfl)) | (with_reducible exact below_set (below_set (below_set (After.below _) _ _) _ _) _ _; (go_simp; rfl)) | (with_reducible exact below_set (below_set (below_set (below_set (After.below _) _ _) _ _) _ _) _ _; (go_simp; rfl)) | (exact Below.refl _ _; rfl)); intro x2; have hle := After.le x2; (try simp at hle)))
        go_ret
        exact ⟨rfl, hb2.trans (x2.below.mono hb2.size)⟩
    · have g2 : (i1 == i2) = false := by simp [hi]
      rw [decide_eq_true rfl, decide_eq_false hi]
      simp only [Bool.and_false, Bool.false_and]
      clear n1 n2
      go_enter Try.func15, Try.ntmps15
      go_wp2_with fail
      go_ret
      exact ⟨rfl, hb2⟩
  · have g1 : (b1 == b2) = false := by simp [hb]
    rw [decide_eq_false hb]
    simp only [Bool.and_false, Bool.false_and]
    clear n1 n2
    go_enter Try.func15, Try.ntmps15
    go_wp2_with fail
    go_ret
    exact ⟨rfl, hb2⟩

end Go.Proofs.Ytaaklejkngpddaa.Pr

namespace Go.Proofs.Ytaaklejkngpddaa.Pr
set_option linter.unusedVariables false
set_option linter.unusedSimpArgs false
open Go Go.RowKit

theorem state_any (b i : Int) (p1 p2 : Option Addr) (n1 c1 n2 c2 : Nat) (w : World) :
    Calls Try.prog 20 #[.agg #[.int .i64 b, .slice p1 n1 c1, .int .i64 i, .slice p2 n2 c2]] w fun e w' => e = .returned (.agg #[.int .i64 b, .slice p1 n1 c1, .int .i64 i, .slice p2 n2 c2]) ∧ Below w.heap.size w w' := by
  go_enter Try.func20, Try.ntmps20
  go_wp2_with fail
  refine bodyPost_ret (v := .agg #[.int .i64 b, .slice p1 n1 c1, .int .i64 i, .slice p2 n2 c2]) (by simp only [results, Try.results20]; go_simp) rfl ⟨rfl, ?_⟩
  (repeat (first | exact Below.refl _ _ | apply Below.drew | refine Below.alloc ?_ ?_ _ | refine Below.setCell ?_ ?_ _ | refine Below.trans ?_ (Below.mono (After.below _) ?_))); (all_goals (first | (simp; done) | (simp; omega) | omega))

theorem back_any (b i : Int) (p1 p2 : Option Addr) (n1 c1 n2 c2 : Nat) (w : World) :
    Calls Try.prog 16 #[.agg #[.int .i64 b, .slice p1 n1 c1, .int .i64 i, .slice p2 n2 c2]] w fun e w' => e = .returned (.agg #[.int .i64 b, .slice p1 n1 c1, .int .i64 i, .slice p2 n2 c2]) ∧ Below w.heap.size w w' := by
  go_enter Try.func16, Try.ntmps16
  go_wp2_with fail
  refine bodyPost_ret (v := .agg #[.int .i64 b, .slice p1 n1 c1, .int .i64 i, .slice p2 n2 c2]) (by simp only [results, Try.results16]; go_simp) rfl ⟨rfl, ?_⟩
  (repeat (first | exact Below.refl _ _ | apply Below.drew | refine Below.alloc ?_ ?_ _ | refine Below.setCell ?_ ?_ _ | refine Below.trans ?_ (Below.mono (After.below _) ?_))); (all_goals (first | (simp; done) | (simp; omega) | omega))

def fewB (P : List Bl) (E I : List Nu) : Bool := smallB P && decide (E.length ≤ 70) && decide (I.length ≤ 70)

set_option maxRecDepth 100000 in
theorem few_any (P : List Bl) (E I : List Nu) (pv ev iv : Value) (hcp : CapOk pv) (w : World) (h : Pg w pv P) (hE : Sl w ev Nu.cs E) (hI : Sl w iv Nu.cs I) :
    Calls Try.prog 10 #[.agg #[pv], ev, iv] w fun e w' => e = .returned (.bool (fewB P E I)) ∧ Below w.heap.size w w' := by
  unfold fewB
  obtain ⟨p, cap, rfl⟩ : ∃ p cap, pv = .slice p P.length cap := by obtain ⟨b, off, p, cap, hv, _⟩ := h.1; exact ⟨p, cap, hv⟩
  obtain ⟨ep, ec, rfl⟩ : ∃ p cap, ev = .slice p E.length cap := by obtain ⟨b, off, p, cap, hv, _⟩ := hE; exact ⟨p, cap, hv⟩
  obtain ⟨ip, ic, rfl⟩ : ∃ p cap, iv = .slice p I.length cap := by obtain ⟨b, off, p, cap, hv, _⟩ := hI; exact ⟨p, cap, hv⟩
  have hb1 : Below w.heap.size w (w.alloc (.cells #[.slice p P.length cap] 24)) := (Below.refl _ _).alloc (Nat.le_refl _) _
  have hs := small_any P _ _ (h.below hb1)
  clear h hE hI
  generalize smallB P = S at hs ⊢
  cases S
  · simp only [Bool.false_and]
    go_enter Try.func10, Try.ntmps10
    go_wp2_with (go_at_call 39; refine' Calls.aft _ _ (hs) _; rotate_left 2; (first | (with_reducible exact After.below _; rfl) | (with_reducible exact below_drew (After.below _); rfl) | (with_reducible exact below_set (After.below _) _ _; (go_simp; rfl)) | (with_reducible exact below_set (below_set (After.below _) _ _) _ _; (go_simp; rfl)) | (with_reducible exact below_set (below_set (below_set (After.below _) _ _) _ _) _ _; (go_simp; rfl)) | (with_reducible exact below_set (below_set (below_set (below_set (After.below _) _ _) _ _) _ _) _ _; (go_simp; rfl)) | (exact Below.refl _ _; rfl)); intro x1; have hle := After.le x1; (try simp at hle))
    go_ret
    exact ⟨rfl, hb1.trans (x1.below.mono hb1.size)⟩
  · simp only [Bool.true_and]
    by_cases h1 : E.length ≤ 70
    · have h1' : (E.length : Int) ≤ 70 := by omega
      rw [decide_eq_true h1]
      simp only [Bool.true_and]
      by_cases h2 : I.length ≤ 70
      · have h2' : (I.length : Int) ≤ 70 := by omega
        have h2b : decide ((I.length : Int) ≤ 70) = true := decide_eq_true h2'
        rw [decide_eq_true h2]
        go_enter Try.func10, Try.ntmps10
        go_wp2_with (go_at_call 39; refine' Calls.aft _ _ (hs) _; rotate_left 2; (first | (with_reducible exact After.below _; rfl) | (with_reducible exact below_drew (After.below _); rfl) | (with_reducible exact below_set (After.below _) _ _; (go_simp; rfl)) | (with_reducible exact below_set (below_set (After.below _) _ _) _ _; (go_simp; rfl)) | (with_reducible exact below_set (below_set (below_set (After.below _) _ _) _ _) _ _; (go_simp; rfl)) | (with_reducible exact below_set (below_set (below_set (below_set (After.below _) _ _) _ _) _ _) _ _; (go_simp; rfl)) | (exact Below.refl _ _; rfl)); intro x1; have hle := After.le x1; (try simp at hle))
        go_ret
        exact ⟨by first | rfl | (simp [h2b]; done) | (simp; omega), hb1.trans (x1.below.mono hb1.size)⟩
      · have h2' : ¬ (I.length : Int) ≤ 70 := by omega
        have h2b : decide ((I.length : Int) ≤ 70) = false := decide_eq_false h2'
        rw [decide_eq_false h2]
        go_enter Try.func10, Try.ntmps10
        go_wp2_with (go_at_call 39; refine' Calls.aft _ _ (hs) _; rotate_left 2; (first | (with_reducible exact After.below _; rfl) | (with_reducible exact below_drew (After.below _); rfl) | (with_reducible exact below_set (After.below _) _ _; (go_simp; rfl)) | (with_reducible exact below_set (below_set (After.below _) _ _) _ _; (go_simp; rfl)) | (with_reducible exact below_set (below_set (below_set (After.below _) _ _) _ _) _ _; (go_simp; rfl)) | (with_reducible exact below_set (below_set (below_set (below_set (After.below _) _ _) _ _) _ _) _ _; (go_simp; rfl)) | (exact Below.refl _ _; rfl)); intro x1; have hle := After.le x1; (try simp at hle))
        go_ret
        exact ⟨by first | rfl | (simp [h2b]; done) | (simp; omega), hb1.trans (x1.below.mono hb1.size)⟩
    · have h1' : ¬ (E.length : Int) ≤ 70 := by omega
      rw [decide_eq_false h1]
      simp only [Bool.false_and]
      go_enter Try.func10, Try.ntmps10
      go_wp2_with (go_at_call 39; refine' Calls.aft _ _ (hs) _; rotate_left 2; (first | (with_reducible exact After.below _; rfl) | (with_reducible exact below_drew (After.below _); rfl) | (with_reducible exact below_set (After.below _) _ _; (go_simp; rfl)) | (with_reducible exact below_set (below_set (After.below _) _ _) _ _; (go_simp; rfl)) | (with_reducible exact below_set (below_set (below_set (After.below _) _ _) _ _) _ _; (go_simp; rfl)) | (with_reducible exact below_set (below_set (below_set (below_set (After.below _) _ _) _ _) _ _) _ _; (go_simp; rfl)) | (exact Below.refl _ _; rfl)); intro x1; have hle := After.le x1; (try simp at hle))
      go_ret
      exact ⟨rfl, hb1.trans (x1.below.mono hb1.size)⟩

end Go.Proofs.Ytaaklejkngpddaa.Pr

namespace Go.Proofs.Ytaaklejkngpddaa.Pr
set_option linter.unusedVariables false
set_option linter.unusedSimpArgs false
open Go Go.ChangeShapes Go.WideShapes Go.ChangeAt Go.RowKit Go.Joins

section
variable {H : Type} {enc : TypeId × Value → H} {W : World} {base : Nat} {v : Value} {d : DataW H} {p : List MemPlace}

theorem cells_Nu {n : Nat} {cs : List Value} {y : DataW H × List MemPlace} (h : DataW.trod enc Try.prog W 0 (fun _ => true) true n 27 cs = some y) : ∃ x : Nu, cs = x.cs ∧ True := by
  obtain ⟨a, b, e⟩ := cells_num h
  exact ⟨⟨a, b⟩, e, trivial⟩

set_option maxRecDepth 100000 in
theorem open_nums (hv : Value.okWide Try.prog W .any base 25 v) (h : DataW.Trod enc Try.prog W 0 (fun _ => true) true 25 v d p) :
    ∃ L : List Nu, Sl W v Nu.cs L ∧ NilOk v := by
  obtain ⟨a, len, cap, rfl⟩ := okWide_slice Try.underlying25 hv
  obtain ⟨fuel, hf⟩ := h
  obtain ⟨L, ⟨v, e0, hS⟩, _⟩ := slice_T (ec := Nu.cs) (k := 2) Try.underlying25 (by kernel_rfl) Nu.cs_len (by decide) (fun _ => True) (fun n cs' y' h => cells_Nu h) hf
  simp [Value.cells] at e0
  subst e0
  refine ⟨L, hS, fun n c he => ?_⟩
  rcases Go.Deep.open_slice Try.underlying25 hf with ⟨e, _⟩ | ⟨a', len', cap', m, n, D, Pl, e, _⟩
  · simp [Value.cells] at e
    cases he
    exact e.2.2
  · simp [Value.cells] at e
    cases he
    cases e.1
end

end Go.Proofs.Ytaaklejkngpddaa.Pr

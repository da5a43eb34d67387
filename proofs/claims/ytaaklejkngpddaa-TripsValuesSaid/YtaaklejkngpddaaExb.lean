/- WALK of exec.do: one statement. WALK of exec.do at an output; one statement of any kind. -/
import Derived.Test.YtaaklejkngpddaaExa
namespace Go.Proofs.Ytaaklejkngpddaa.Pr
set_option linter.unusedVariables false
set_option linter.unusedSimpArgs false
open Go Go.RowKit

theorem doS_1 {P : List Bl} {I : List Nu} {r : Rs} {s : St} (h : s.k = 1) : doS P I r s = ⟨r.e.set (idx (vars P) s.v).toNat (evalE P r.e s.e), r.i, r.o⟩ := by unfold doS; rw [if_pos h]
theorem doS_2 {P : List Bl} {I : List Nu} {r : Rs} {s : St} (h : s.k = 2) : doS P I r s = ⟨r.e.set (idx (vars P) s.v).toNat (inN I r.i), min r.i 2147483646 + 1, r.o⟩ := by unfold doS; rw [if_neg (by omega), if_pos h]
theorem doS_3 {P : List Bl} {I : List Nu} {r : Rs} {s : St} (h : s.k = 3) : doS P I r s = ⟨r.e, r.i, r.o ++ [valA P r.e s.e.x]⟩ := by unfold doS; rw [if_neg (by omega), if_neg (by omega), if_pos h]

/-- A row made by a call beside the outputs. -/
theorem Rn.env {base : Nat} {w w' : World} {ev ov o : Value} {r : Rs} {E : List Nu} (h : Rn base w ev ov r) (hB : Below w.heap.size w w') (ho : w'.ownsRow w.heap.size 27 2 o r.e.length (E.flatMap Nu.cs)) (hE : E.length = r.e.length) (hb : base ≤ w.heap.size) (i : Int) : Rn base w' o ov ⟨E, i, r.o⟩ := by
  have ha := own_apart h.o ho (Nat.le_refl _)
  refine ⟨?_, own_below h.o hB, ha.2, ha.1⟩
  show w'.ownsRow base 27 2 o E.length (E.flatMap Nu.cs)
  rw [hE]
  exact own_base ho hb

theorem Rn.setMid {base B j : Nat} {w : World} {ev ov u : Value} {r : Rs} (h : Rn base w ev ov r) (h1 : ev.ownBlock ≠ some B) (h2 : ov.ownBlock ≠ some B) : Rn base (w.setCell ⟨B, j, none⟩ u) ev ov r :=
  ⟨ownsRow_setCell_other h.e h1 _, ownsRow_setCell_other h.o h2 _, h.ne, h.en⟩
/-- Below a bound, then all that is made. -/
theorem bel_cast {b : Nat} {w w' : World} (h : Below w.heap.size w w') (hb : b ≤ w.heap.size) : Below b w w' := h.mono hb

/-- The world behind the boxes of 'do'. -/
def boxD (w : World) (pv : Value) (S : Array Value) (C : Array Value) : World := (((w.alloc (.cells #[pv] 24)).alloc (.cells S 47)).alloc (.cells C 90)).alloc (.cells #[.int .i64 0, .slice none 0 0, .int .i64 0, .slice none 0 0] 47)
theorem boxD_size (w : World) (pv : Value) (S C : Array Value) : (boxD w pv S C).heap.size = w.heap.size + 1 + 1 + 1 + 1 := by simp [boxD]
theorem boxD_below (w : World) (pv : Value) (S C : Array Value) : Below w.heap.size w (boxD w pv S C) := ((((Below.refl _ _).alloc (Nat.le_refl _) _).alloc (by simp) _).alloc (by simp; omega) _).alloc (by simp; omega) _
theorem boxD_s (w : World) (pv : Value) (S C : Array Value) : (boxD w pv S C).heap[w.heap.size + 1]? = some (.cells S 47 (0, 0)) := by
  unfold boxD
  rw [heap_alloc_old _ _ (by simp; try omega), heap_alloc_old _ _ (by simp; try omega), show w.heap.size + 1 = (w.alloc (.cells #[pv] 24)).heap.size by simp]
  exact heap_alloc_new _ _
theorem boxD_r (w : World) (pv : Value) (S C : Array Value) : (boxD w pv S C).heap[w.heap.size + 1 + 1 + 1]? = some (.cells #[.int .i64 0, .slice none 0 0, .int .i64 0, .slice none 0 0] 47 (0, 0)) := by
  unfold boxD
  rw [show w.heap.size + 1 + 1 + 1 = (((w.alloc (.cells #[pv] 24)).alloc (.cells S 47)).alloc (.cells C 90)).heap.size by simp]
  exact heap_alloc_new _ _
theorem lt_of_some {W : World} {k : Nat} {o : Obj} (h : W.heap[k]? = some o) : k < W.heap.size := (Array.getElem?_eq_some_iff.1 h).1
theorem blk_next {W q : World} {k : Nat} {o : Obj} (hq : Below W.heap.size W q) (h : W.heap[k]? = some o) : q.heap[k]? = some o := (hq.block k (lt_of_some h)).trans h
theorem four {W : World} {B : Nat} {v0 v1 v2 v3 : Value} {t : TypeId} (h : W.heap[B]? = some (.cells #[v0, v1, v2, v3] t (0, 0))) :
    W.cell? ⟨B, 0, none⟩ = some v0 ∧ W.cell? ⟨B, 1, none⟩ = some v1 ∧ W.cell? ⟨B, 2, none⟩ = some v2 ∧ W.cell? ⟨B, 3, none⟩ = some v3 ∧ (∀ j, W.frozen? ⟨B, j, none⟩ = false) ∧ B < W.heap.size :=
  ⟨(cell_of_row W B 0 _ t (0, 0) h).trans rfl, (cell_of_row W B 1 _ t (0, 0) h).trans rfl, (cell_of_row W B 2 _ t (0, 0) h).trans rfl, (cell_of_row W B 3 _ t (0, 0) h).trans rfl, fun j => frozen_of_row W B j _ t h, lt_of_some h⟩

set_option maxRecDepth 100000 in
set_option maxHeartbeats 2000000 in
theorem do1_any (P : List Bl) (I : List Nu) (s : St) (hk : s.k = 1) (b : Int) (r : Rs) (hi0 : 0 ≤ idx (vars P) s.v) (hi1 : idx (vars P) s.v < r.e.length) (hel : r.e.length ≤ 1000) (base : Nat) (pv ev ov iv : Value) (w : World) (h : Pg w pv P) (h12 : P.length ≤ 12) (hl12 : ∀ b ∈ P, b.l.length ≤ 12) (hR : Rn base w ev ov r) (hb : base ≤ w.heap.size) :
    Calls Try.prog 84 #[.agg #[pv], .agg #[.int .i64 b, ev, .int .i64 r.i, ov], .agg s.cs.toArray, iv] w fun e w' => ∃ ev' ov', e = .returned (.agg #[.int .i64 b, ev', .int .i64 (doS P I r s).i, ov']) ∧ Rn base w' ev' ov' (doS P I r s) ∧ Below base w w' := by
  rw [doS_1 hk]
  obtain ⟨sk, sv, sop, ⟨v1, a1, b1⟩, ⟨v2, a2, b2⟩⟩ := s
  obtain rfl : sk = 1 := hk
  show Calls _ _ #[_, _, .agg #[.int .i64 1, .string sv, .int .i64 sop, .string v1, .int .i64 a1, .int .i64 b1, .string v2, .int .i64 a2, .int .i64 b2], _] _ _
  obtain ⟨p, cap, hpv⟩ : ∃ p cap, pv = .slice p P.length cap := by obtain ⟨b, off, p, cap, hv, _⟩ := h.1; exact ⟨p, cap, hv⟩
  subst hpv
  have hE : Sl w ev Nu.cs r.e := Sl.of_own hR.e
  have t1 := fun (W : World) (hB : Below w.heap.size w W) => tvar_any P sv _ W (h.below hB) h12 hl12
  have t2 := fun (W : World) (hB : Below w.heap.size w W) => eval_any P r.e ⟨sop, ⟨v1, a1, b1⟩, ⟨v2, a2, b2⟩⟩ _ ev W (h.below hB) h12 hl12 (hE.below hB)
  have t3 := fun (k : Nat) (hk : k < r.e.length) a b (W : World) (hB : Below w.heap.size w W) => with_any r.e (by omega) k hk a b ev W (hE.below hB)
  obtain ⟨ep, ec, hev⟩ := own_len hR.e
  obtain ⟨op, oc, hov⟩ := own_len hR.o
  subst hev hov
  generalize evalE P r.e ⟨sop, ⟨v1, a1, b1⟩, ⟨v2, a2, b2⟩⟩ = n at t2 ⊢
  show Calls _ _ _ _ (fun e w' => ∃ ev' ov', e = .returned (.agg #[.int .i64 b, ev', .int .i64 r.i, ov']) ∧ Rn base w' ev' ov' ⟨r.e.set (idx (vars P) sv).toNat n, r.i, r.o⟩ ∧ Below base w w')
  have hi1' : idx (vars P) sv < r.e.length := hi1
  have hi0' : 0 ≤ idx (vars P) sv := hi0
  generalize idx (vars P) sv = i at t1 hi0' hi1' ⊢
  clear hi0 hi1
  obtain ⟨k, rfl⟩ : ∃ k : Nat, i = k := ⟨i.toNat, by omega⟩
  have hk : k < r.e.length := by omega
  unfold placeV at t1
  have e1 : max (k : Int) 0 = k := by omega
  have e2 : decide (0 ≤ (k : Int)) = true := by simp
  rw [e1, e2] at t1
  have t4 := t3 k hk n.a n.b
  rw [Int.toNat_natCast]
  have hb3 : Below w.heap.size w ((((w.alloc (.cells #[.slice p P.length cap] 24)).alloc (.cells #[.int .i64 b, .slice ep r.e.length ec, .int .i64 r.i, .slice op r.o.length oc] 47)).alloc (.cells #[.int .i64 1, .string sv, .int .i64 sop, .string v1, .int .i64 a1, .int .i64 b1, .string v2, .int .i64 a2, .int .i64 b2] 90)).alloc (.cells #[.int .i64 0, .slice none 0 0, .int .i64 0, .slice none 0 0] 47)) := (((((Below.refl _ _).alloc (Nat.le_refl _) _).alloc (by simp) _).alloc (by simp; omega) _).alloc (by simp; omega) _)
  clear e1 e2 t3 h hE
  have hH := And.intro True.intro hR
  clear hR
  go_enter Try.func84, Try.ntmps84
  go_wp2_with (first | (go_at_call 44; refine' Calls.aft _ _ (t1 _ hb3) _; rotate_left 2; (first | (with_reducible exact After.below _; rfl) | (with_reducible exact below_drew (After.below _); rfl) | (with_reducible exact below_set (After.below _) _ _; (go_simp; rfl)) | (with_reducible exact below_set (below_set (After.below _) _ _) _ _; (go_simp; rfl)) | (with_reducible exact below_set (below_set (below_set (After.below _) _ _) _ _) _ _; (go_simp; rfl)) | (with_reducible exact below_set (below_set (below_set (below_set (After.below _) _ _) _ _) _ _) _ _; (go_simp; rfl)) | (exact Below.refl _ _; rfl)); intro x1; have hle := After.le x1; (try simp at hle)) | (go_at_call 11; refine' Calls.aft _ _ (t2 _ (hb3.trans (x1.below.mono hb3.size))) _; rotate_left 2; (first | (with_reducible exact After.below _; rfl) | (with_reducible exact below_drew (After.below _); rfl) | (with_reducible exact below_set (After.below _) _ _; (go_simp; rfl)) | (with_reducible exact below_set (below_set (After.below _) _ _) _ _; (go_simp; rfl)) | (with_reducible exact below_set (below_set (below_set (After.below _) _ _) _ _) _ _; (go_simp; rfl)) | (with_reducible exact below_set (below_set (below_set (below_set (After.below _) _ _) _ _) _ _) _ _; (go_simp; rfl)) | (exact Below.refl _ _; rfl)); intro x2; have hle := After.le x2; (try simp at hle)) | (go_at_call 103; refine (t4 _ ((hb3.trans (x2.below.mono hb3.size)).alloc (by have := hb3.size; omega) _)).mono ?_; rintro e W3 ⟨o, rfl, ho, hB3⟩; obtain ⟨xp, xc, rfl⟩ := own_len ho; have hBL : Below (boxD w (.slice p P.length cap) #[.int .i64 b, .slice ep r.e.length ec, .int .i64 r.i, .slice op r.o.length oc] #[.int .i64 1, .string sv, .int .i64 sop, .string v1, .int .i64 a1, .int .i64 b1, .string v2, .int .i64 a2, .int .i64 b2]).heap.size (boxD w (.slice p P.length cap) #[.int .i64 b, .slice ep r.e.length ec, .int .i64 r.i, .slice op r.o.length oc] #[.int .i64 1, .string sv, .int .i64 sop, .string v1, .int .i64 a1, .int .i64 b1, .string v2, .int .i64 a2, .int .i64 b2]) W3 := (x2.below.alloc x2.below.size _).trans (hB3.mono (by have := x2.below.size; simp only [World.size_alloc]; omega)); obtain ⟨k0, k1, k2, k3, kf, kl⟩ := four (blk_next hBL (boxD_s _ _ _ _)); obtain ⟨m0, m1, m2, m3, mf, ml⟩ := four (blk_next hBL (boxD_r _ _ _ _)); have kf1 := kf 1; have mf0 := mf 0; have mf1 := mf 1; have mf2 := mf 2; have mf3 := mf 3))
  have hbw := boxD_below w (.slice p P.length cap) #[.int .i64 b, .slice ep r.e.length ec, .int .i64 r.i, .slice op r.o.length oc] #[.int .i64 1, .string sv, .int .i64 sop, .string v1, .int .i64 a1, .int .i64 b1, .string v2, .int .i64 a2, .int .i64 b2]
  have hBW : Below w.heap.size w W3 := nextB hBL hbw
  have hW2 : Below w.heap.size w (x2.val.alloc (.cells #[.int .i64 n.a, .int .i64 n.b] 27)) := (hb3.trans (x2.below.mono hb3.size)).alloc (by have := hb3.size; omega) _
  have hRn : Rn base W3 (.slice xp r.e.length xc) (.slice op r.o.length oc) ⟨r.e.set k n, r.i, r.o⟩ := (hH.2.below hW2).env hB3 ho (by simp) (by have := hW2.size; omega) _
  have n1 : (Value.slice xp r.e.length xc).ownBlock ≠ some (w.heap.size + 1) := ownNL ho (by simp; omega)
  have n3 : (Value.slice xp r.e.length xc).ownBlock ≠ some (w.heap.size + 1 + 1 + 1) := ownNL ho (by simp; omega)
  have o1 : (Value.slice op r.o.length oc).ownBlock ≠ some (w.heap.size + 1) := fun he => by have := (hH.2.o.lt _ he).2; omega
  have o3 : (Value.slice op r.o.length oc).ownBlock ≠ some (w.heap.size + 1 + 1 + 1) := fun he => by have := (hH.2.o.lt _ he).2; omega
  have hBb := hBW.mono hb
  refine bodyPost_ret (v := .agg #[.int .i64 b, .slice xp r.e.length xc, .int .i64 r.i, .slice op r.o.length oc]) (by simp only [results, Try.results84]; go_simp) rfl ⟨_, _, rfl, ?_, ?_⟩
  · (repeat (first | (with_reducible exact hRn) | refine Rn.setMid ?_ ?_ ?_))
    all_goals first | exact n1 | exact n3 | exact o1 | exact o3
  · (repeat (first | (with_reducible exact hBb) | refine Below.setCell ?_ ?_ _))
    all_goals first | (show base ≤ w.heap.size + 1; omega) | (show base ≤ w.heap.size + 1 + 1 + 1; omega)

set_option maxRecDepth 100000 in
set_option maxHeartbeats 2000000 in
theorem do2_any (P : List Bl) (I : List Nu) (s : St) (hk : s.k = 2) (b : Int) (r : Rs) (hi0 : 0 ≤ idx (vars P) s.v) (hi1 : idx (vars P) s.v < r.e.length) (hel : r.e.length ≤ 1000) (hin : 0 ≤ r.i) (base : Nat) (pv ev ov iv : Value) (w : World) (h : Pg w pv P) (h12 : P.length ≤ 12) (hl12 : ∀ b ∈ P, b.l.length ≤ 12) (hI : Sl w iv Nu.cs I) (hR : Rn base w ev ov r) (hb : base ≤ w.heap.size) :
    Calls Try.prog 84 #[.agg #[pv], .agg #[.int .i64 b, ev, .int .i64 r.i, ov], .agg s.cs.toArray, iv] w fun e w' => ∃ ev' ov', e = .returned (.agg #[.int .i64 b, ev', .int .i64 (doS P I r s).i, ov']) ∧ Rn base w' ev' ov' (doS P I r s) ∧ Below base w w' := by
  rw [doS_2 hk]
  obtain ⟨sk, sv, sop, ⟨v1, a1, b1⟩, ⟨v2, a2, b2⟩⟩ := s
  obtain rfl : sk = 2 := hk
  show Calls _ _ #[_, _, .agg #[.int .i64 2, .string sv, .int .i64 sop, .string v1, .int .i64 a1, .int .i64 b1, .string v2, .int .i64 a2, .int .i64 b2], _] _ _
  obtain ⟨p, cap, hpv⟩ : ∃ p cap, pv = .slice p P.length cap := by obtain ⟨b, off, p, cap, hv, _⟩ := h.1; exact ⟨p, cap, hv⟩
  subst hpv
  have hE : Sl w ev Nu.cs r.e := Sl.of_own hR.e
  have t1 := fun (W : World) (hB : Below w.heap.size w W) => tvar_any P sv _ W (h.below hB) h12 hl12
  have t2 := fun (W : World) (hB : Below w.heap.size w W) => at_any I r.i iv W (hI.below hB)
  have t3 := fun (k : Nat) (hk : k < r.e.length) a b (W : World) (hB : Below w.heap.size w W) => with_any r.e (by omega) k hk a b ev W (hE.below hB)
  obtain ⟨ep, ec, hev⟩ := own_len hR.e
  obtain ⟨op, oc, hov⟩ := own_len hR.o
  subst hev hov
  unfold inN
  generalize atN I r.i = n at t2 ⊢
  show Calls _ _ _ _ (fun e w' => ∃ ev' ov', e = .returned (.agg #[.int .i64 b, ev', .int .i64 (min r.i 2147483646 + 1), ov']) ∧ Rn base w' ev' ov' ⟨r.e.set (idx (vars P) sv).toNat ⟨wr n.a, wr n.b⟩, min r.i 2147483646 + 1, r.o⟩ ∧ Below base w w')
  have hi1' : idx (vars P) sv < r.e.length := hi1
  have hi0' : 0 ≤ idx (vars P) sv := hi0
  generalize idx (vars P) sv = i at t1 hi0' hi1' ⊢
  clear hi0 hi1
  obtain ⟨k, rfl⟩ : ∃ k : Nat, i = k := ⟨i.toNat, by omega⟩
  have hk : k < r.e.length := by omega
  unfold placeV at t1
  have e1 : max (k : Int) 0 = k := by omega
  have e2 : decide (0 ≤ (k : Int)) = true := by simp
  rw [e1, e2] at t1
  have t4 := t3 k hk (wr n.a) (wr n.b)
  rw [Int.toNat_natCast]
  have hwr : IntKind.i64.wrap (min r.i 2147483646 + 1) = min r.i 2147483646 + 1 := by rw [IntKind.wrap_i64]; omega
  have hb3 : Below w.heap.size w ((((w.alloc (.cells #[.slice p P.length cap] 24)).alloc (.cells #[.int .i64 b, .slice ep r.e.length ec, .int .i64 r.i, .slice op r.o.length oc] 47)).alloc (.cells #[.int .i64 2, .string sv, .int .i64 sop, .string v1, .int .i64 a1, .int .i64 b1, .string v2, .int .i64 a2, .int .i64 b2] 90)).alloc (.cells #[.int .i64 0, .slice none 0 0, .int .i64 0, .slice none 0 0] 47)) := (((((Below.refl _ _).alloc (Nat.le_refl _) _).alloc (by simp) _).alloc (by simp; omega) _).alloc (by simp; omega) _)
  obtain ⟨jp, jc, hjv⟩ : ∃ p cap, iv = .slice p I.length cap := by obtain ⟨b, off, p, cap, hv, _⟩ := hI; exact ⟨p, cap, hv⟩
  subst hjv
  have hH := And.intro True.intro hR
  clear e1 e2 t3 h hE hR hI
  go_enter Try.func84, Try.ntmps84
  go_wp2_with (first | (go_at_call 44; refine' Calls.aft _ _ (t1 _ hb3) _; rotate_left 2; (first | (with_reducible exact After.below _; rfl) | (with_reducible exact below_drew (After.below _); rfl) | (with_reducible exact below_set (After.below _) _ _; (go_simp; rfl)) | (with_reducible exact below_set (below_set (After.below _) _ _) _ _; (go_simp; rfl)) | (with_reducible exact below_set (below_set (below_set (After.below _) _ _) _ _) _ _; (go_simp; rfl)) | (with_reducible exact below_set (below_set (below_set (below_set (After.below _) _ _) _ _) _ _) _ _; (go_simp; rfl)) | (exact Below.refl _ _; rfl)); intro x1; have hle := After.le x1; (try simp at hle)) | (go_at_call 45; refine' Calls.aft _ _ (t2 _ (hb3.trans (x1.below.mono hb3.size))) _; rotate_left 2; (first | (with_reducible exact After.below _; rfl) | (with_reducible exact below_drew (After.below _); rfl) | (with_reducible exact below_set (After.below _) _ _; (go_simp; rfl)) | (with_reducible exact below_set (below_set (After.below _) _ _) _ _; (go_simp; rfl)) | (with_reducible exact below_set (below_set (below_set (After.below _) _ _) _ _) _ _; (go_simp; rfl)) | (with_reducible exact below_set (below_set (below_set (below_set (After.below _) _ _) _ _) _ _) _ _; (go_simp; rfl)) | (exact Below.refl _ _; rfl)); intro x2; have hle := After.le x2; (try simp at hle)))
  obtain ⟨W2, hW2⟩ : ∃ W2, W2 = x2.val.alloc (.cells #[.int .i64 n.a, .int .i64 n.b] 27) := ⟨_, rfl⟩
  obtain ⟨nb, hnb⟩ : ∃ nb, nb = x2.val.heap.size := ⟨_, rfl⟩
  have hBL : Below (boxD w (.slice p P.length cap) #[.int .i64 b, .slice ep r.e.length ec, .int .i64 r.i, .slice op r.o.length oc] #[.int .i64 2, .string sv, .int .i64 sop, .string v1, .int .i64 a1, .int .i64 b1, .string v2, .int .i64 a2, .int .i64 b2]).heap.size (boxD w (.slice p P.length cap) #[.int .i64 b, .slice ep r.e.length ec, .int .i64 r.i, .slice op r.o.length oc] #[.int .i64 2, .string sv, .int .i64 sop, .string v1, .int .i64 a1, .int .i64 b1, .string v2, .int .i64 a2, .int .i64 b2]) W2.drew := by rw [hW2]; exact (x2.below.alloc x2.below.size _).drew
  have u0 : W2.drew.cell? ⟨nb, 0, none⟩ = some (.int .i64 n.a) := by rw [hW2, hnb]; exact (World.cell?_alloc_new _ _ _ _).trans rfl
  have u1 : W2.drew.cell? ⟨nb, 1, none⟩ = some (.int .i64 n.b) := by rw [hW2, hnb]; exact (World.cell?_alloc_new _ _ _ _).trans rfl
  have hnl := World.block_lt_of_cell? _ _ u0
  rw [← hW2, ← hnb]
  obtain ⟨k0, k1, k2, k3, kf, kl⟩ := four (blk_next hBL (boxD_s _ _ _ _))
  have hbw := boxD_below w (.slice p P.length cap) #[.int .i64 b, .slice ep r.e.length ec, .int .i64 r.i, .slice op r.o.length oc] #[.int .i64 2, .string sv, .int .i64 sop, .string v1, .int .i64 a1, .int .i64 b1, .string v2, .int .i64 a2, .int .i64 b2]
  have hBW : Below w.heap.size w W2.drew := nextB hBL hbw
  have hsz : w.heap.size + 1 + 1 + 1 + 1 ≤ W2.heap.size := by have := hBL.size; rw [boxD_size] at this; exact this
  clear hW2 hnb
  go_region_law (first | (refine stepBG rfl 43 #[.int .i64 n.a, .int .i64 n.b] (.agg #[.int .i64 (wr n.a), .int .i64 (wr n.b)]) ?hop1 (of_any _ _ _) ?_; (case hop1 => (go_simp; done)); intro q1 hq1; have hB1 := nextB hq1 hBW; have hL1 := nextB hq1 hBL; have g1 := nextC hq1 k1; have gl := World.block_lt_of_cell? _ _ g1) | (refine step_callO rfl 103 #[.slice ep r.e.length ec, .int .i64 k, .agg #[.int .i64 (wr n.a), .int .i64 (wr n.b)]] ?hop2 (t4 _ (by assumption)) ?_; (case hop2 => (go_simp; done)); intro o q2 ho hq2; obtain ⟨xp, xc, rfl⟩ := own_len ho; have hL2 := nextB hq2 hL1; have hB2 := nextB hq2 hB1; obtain ⟨j0, j1, j2, j3, jf, jl⟩ := four (blk_next hL2 (boxD_s _ _ _ _)); obtain ⟨m0, m1, m2, m3, mf, ml⟩ := four (blk_next hL2 (boxD_r _ _ _ _)); have jf1 := jf 1; have jf2 := jf 2; have mf0 := mf 0; have mf1 := mf 1; have mf2 := mf 2; have mf3 := mf 3))
  all_goals (
    have hRn : Rn base q2 (.slice xp r.e.length xc) (.slice op r.o.length oc) ⟨r.e.set k ⟨wr n.a, wr n.b⟩, min r.i 2147483646 + 1, r.o⟩ := (hH.2.below hB1).env hq2 ho (by simp) (by have := hB1.size; omega) _
    have hz1 := hq1.size
    have n1 : (Value.slice xp r.e.length xc).ownBlock ≠ some (w.heap.size + 1) := ownNL ho (by have : W2.drew.heap.size = W2.heap.size := rfl; omega)
    have n3 : (Value.slice xp r.e.length xc).ownBlock ≠ some (w.heap.size + 1 + 1 + 1) := ownNL ho (by have : W2.drew.heap.size = W2.heap.size := rfl; omega)
    have o1 : (Value.slice op r.o.length oc).ownBlock ≠ some (w.heap.size + 1) := fun he => by have := (hH.2.o.lt _ he).2; omega
    have o3 : (Value.slice op r.o.length oc).ownBlock ≠ some (w.heap.size + 1 + 1 + 1) := fun he => by have := (hH.2.o.lt _ he).2; omega
    have hBb := hB2.mono hb
    clear k0 k1 k2 k3 kf kl hBL hBW u0 u1 hL1 g1 hB1 hq1 hq2 ho t1 t2 t4 hL2 hbw
    go_wp2_with fail
    refine bodyPost_ret (v := .agg #[.int .i64 b, .slice xp r.e.length xc, .int .i64 (min r.i 2147483646 + 1), .slice op r.o.length oc]) (by simp only [results, Try.results84]; go_simp) rfl ⟨_, _, rfl, ?_, ?_⟩
    · (repeat (first | (with_reducible exact hRn) | refine Rn.setMid ?_ ?_ ?_))
      all_goals first | exact n1 | exact n3 | exact o1 | exact o3
    · (repeat (first | (with_reducible exact hBb) | refine Below.setCell ?_ ?_ _))
      all_goals first | (show base ≤ w.heap.size + 1; omega) | (show base ≤ w.heap.size + 1 + 1 + 1; omega))

end Go.Proofs.Ytaaklejkngpddaa.Pr

namespace Go.Proofs.Ytaaklejkngpddaa.Pr
set_option linter.unusedVariables false
set_option linter.unusedSimpArgs false
open Go Go.RowKit

theorem flat_snocN (L : List Nu) (n : Nu) : (L ++ [n]).flatMap Nu.cs = L.flatMap Nu.cs ++ [.int .i64 n.a, .int .i64 n.b] := by simp [Nu.cs]

/-- The outputs, one more. -/
theorem Rn.out {base : Nat} {w w' : World} {ev ov v : Value} {r : Rs} {n : Nu} (h : Rn base w ev ov r) (hg : w.grownBy w' ov.ownBlock) (ho : w'.ownsRow base 27 2 v (r.o.length + 1) (r.o.flatMap Nu.cs ++ [.int .i64 n.a, .int .i64 n.b]))
    (hv : v.ownBlock = ov.ownBlock ∨ v.ownBlock = some w.heap.size) : Rn base w' ev v ⟨r.e, r.i, r.o ++ [n]⟩ := by
  have he : w'.ownsRow base 27 2 ev r.e.length (r.e.flatMap Nu.cs) := h.e.kept hg h.ne
  have hne : ev.ownBlock = none ∨ ev.ownBlock ≠ v.ownBlock := by
    rcases hv with hv | hv
    · rw [hv]; exact h.ne
    · cases e : ev.ownBlock with
      | none => exact .inl rfl
      | some g =>
        right
        rw [hv]
        have := (h.e.lt g e).2
        simp only [ne_eq, Option.some.injEq]
        omega
  refine ⟨he, ?_, hne, ?_⟩
  · show w'.ownsRow base 27 2 v (r.o ++ [n]).length ((r.o ++ [n]).flatMap Nu.cs)
    rw [flat_snocN, List.length_append]
    exact ho
  · rcases hne with hne | hne
    · rw [hne]
      cases v.ownBlock <;> simp
    · exact .inr (Ne.symm hne)

theorem boxD_c (w : World) (pv : Value) (S C : Array Value) : (boxD w pv S C).heap[w.heap.size + 1 + 1]? = some (.cells C 90 (0, 0)) := by
  unfold boxD
  rw [heap_alloc_old _ _ (by simp; try omega), show w.heap.size + 1 + 1 = ((w.alloc (.cells #[pv] 24)).alloc (.cells S 47)).heap.size by simp]
  exact heap_alloc_new _ _
theorem boxD_p (w : World) (pv : Value) (S C : Array Value) : (boxD w pv S C).heap[w.heap.size]? = some (.cells #[pv] 24 (0, 0)) := by
  unfold boxD
  rw [heap_alloc_old _ _ (by simp; try omega), heap_alloc_old _ _ (by simp; try omega), heap_alloc_old _ _ (by simp)]
  exact heap_alloc_new _ _
theorem nine {W : World} {B : Nat} {v0 v1 v2 v3 v4 v5 v6 v7 v8 : Value} {t : TypeId} (h : W.heap[B]? = some (.cells #[v0, v1, v2, v3, v4, v5, v6, v7, v8] t (0, 0))) :
    W.cell? ⟨B, 0, none⟩ = some v0 ∧ W.cell? ⟨B, 1, none⟩ = some v1 ∧ W.cell? ⟨B, 2, none⟩ = some v2 ∧ W.cell? ⟨B, 3, none⟩ = some v3 ∧ W.cell? ⟨B, 4, none⟩ = some v4 ∧ W.cell? ⟨B, 5, none⟩ = some v5 ∧ W.cell? ⟨B, 6, none⟩ = some v6 ∧ W.cell? ⟨B, 7, none⟩ = some v7 ∧ W.cell? ⟨B, 8, none⟩ = some v8 :=
  ⟨(cell_of_row W B 0 _ t (0, 0) h).trans rfl, (cell_of_row W B 1 _ t (0, 0) h).trans rfl, (cell_of_row W B 2 _ t (0, 0) h).trans rfl, (cell_of_row W B 3 _ t (0, 0) h).trans rfl, (cell_of_row W B 4 _ t (0, 0) h).trans rfl, (cell_of_row W B 5 _ t (0, 0) h).trans rfl, (cell_of_row W B 6 _ t (0, 0) h).trans rfl, (cell_of_row W B 7 _ t (0, 0) h).trans rfl, (cell_of_row W B 8 _ t (0, 0) h).trans rfl⟩

set_option maxRecDepth 100000 in
set_option maxHeartbeats 2000000 in
theorem do3_any (P : List Bl) (I : List Nu) (s : St) (hk : s.k = 3) (b : Int) (r : Rs) (hol : r.o.length ≤ 100000) (base : Nat) (pv ev ov iv : Value) (w : World) (h : Pg w pv P) (h12 : P.length ≤ 12) (hl12 : ∀ b ∈ P, b.l.length ≤ 12) (hR : Rn base w ev ov r) (hb : base ≤ w.heap.size) :
    Calls Try.prog 84 #[.agg #[pv], .agg #[.int .i64 b, ev, .int .i64 r.i, ov], .agg s.cs.toArray, iv] w fun e w' => ∃ ev' ov', e = .returned (.agg #[.int .i64 b, ev', .int .i64 (doS P I r s).i, ov']) ∧ Rn base w' ev' ov' (doS P I r s) ∧ Below base w w' := by
  rw [doS_3 hk]
  obtain ⟨i0, hi, hz0, hz1, hz2⟩ := info_parts nu_info
  obtain ⟨sk, sv, sop, ⟨v1, a1, b1⟩, ⟨v2, a2, b2⟩⟩ := s
  obtain rfl : sk = 3 := hk
  show Calls _ _ #[_, _, .agg #[.int .i64 3, .string sv, .int .i64 sop, .string v1, .int .i64 a1, .int .i64 b1, .string v2, .int .i64 a2, .int .i64 b2], _] _ _
  obtain ⟨p, cap, hpv⟩ : ∃ p cap, pv = .slice p P.length cap := by obtain ⟨b, off, p, cap, hv, _⟩ := h.1; exact ⟨p, cap, hv⟩
  subst hpv
  have hE : Sl w ev Nu.cs r.e := Sl.of_own hR.e
  have t1 := fun (W : World) (hB : Below w.heap.size w W) => tvar_any P sv _ W (h.below hB) h12 hl12
  have t2 := fun (W : World) (hB : Below w.heap.size w W) => value_any P r.e v1 a1 b1 _ ev W (h.below hB) h12 hl12 (hE.below hB)
  obtain ⟨ep, ec, hev⟩ := own_len hR.e
  obtain ⟨op, oc, hov⟩ := own_len hR.o
  subst hev hov
  show Calls _ _ _ _ (fun e w' => ∃ ev' ov', e = .returned (.agg #[.int .i64 b, ev', .int .i64 r.i, ov']) ∧ Rn base w' ev' ov' ⟨r.e, r.i, r.o ++ [valA P r.e ⟨v1, a1, b1⟩]⟩ ∧ Below base w w')
  generalize valA P r.e ⟨v1, a1, b1⟩ = n at t2 ⊢
  unfold placeV at t1
  generalize max (idx (vars P) sv) 0 = k1 at t1
  generalize decide (0 ≤ idx (vars P) sv) = k2 at t1
  have hb3 : Below w.heap.size w ((((w.alloc (.cells #[.slice p P.length cap] 24)).alloc (.cells #[.int .i64 b, .slice ep r.e.length ec, .int .i64 r.i, .slice op r.o.length oc] 47)).alloc (.cells #[.int .i64 3, .string sv, .int .i64 sop, .string v1, .int .i64 a1, .int .i64 b1, .string v2, .int .i64 a2, .int .i64 b2] 90)).alloc (.cells #[.int .i64 0, .slice none 0 0, .int .i64 0, .slice none 0 0] 47)) := (((((Below.refl _ _).alloc (Nat.le_refl _) _).alloc (by simp) _).alloc (by simp; omega) _).alloc (by simp; omega) _)
  have hH := And.intro True.intro hR
  clear h hE hR
  go_enter Try.func84, Try.ntmps84
  go_wp2_with (go_at_call 44; refine' Calls.aft _ _ (t1 _ hb3) _; rotate_left 2; (first | (with_reducible exact After.below _; rfl) | (with_reducible exact below_drew (After.below _); rfl) | (with_reducible exact below_set (After.below _) _ _; (go_simp; rfl)) | (with_reducible exact below_set (below_set (After.below _) _ _) _ _; (go_simp; rfl)) | (with_reducible exact below_set (below_set (below_set (After.below _) _ _) _ _) _ _; (go_simp; rfl)) | (with_reducible exact below_set (below_set (below_set (below_set (After.below _) _ _) _ _) _ _) _ _; (go_simp; rfl)) | (exact Below.refl _ _; rfl)); intro x1; have hle := After.le x1; (try simp at hle))
  obtain ⟨W2, hW2⟩ : ∃ W2, W2 = x1.val := ⟨_, rfl⟩
  have hBL : Below (boxD w (.slice p P.length cap) #[.int .i64 b, .slice ep r.e.length ec, .int .i64 r.i, .slice op r.o.length oc] #[.int .i64 3, .string sv, .int .i64 sop, .string v1, .int .i64 a1, .int .i64 b1, .string v2, .int .i64 a2, .int .i64 b2]).heap.size (boxD w (.slice p P.length cap) #[.int .i64 b, .slice ep r.e.length ec, .int .i64 r.i, .slice op r.o.length oc] #[.int .i64 3, .string sv, .int .i64 sop, .string v1, .int .i64 a1, .int .i64 b1, .string v2, .int .i64 a2, .int .i64 b2]) W2.drew := by rw [hW2]; exact x1.below.drew
  have hx := hBL
  rw [← hW2]
  have hsz : w.heap.size + 1 + 1 + 1 + 1 ≤ W2.drew.heap.size := by have := hBL.size; rw [boxD_size] at this; exact this
  have hbw := boxD_below w (.slice p P.length cap) #[.int .i64 b, .slice ep r.e.length ec, .int .i64 r.i, .slice op r.o.length oc] #[.int .i64 3, .string sv, .int .i64 sop, .string v1, .int .i64 a1, .int .i64 b1, .string v2, .int .i64 a2, .int .i64 b2]
  have hBW : Below w.heap.size w W2.drew := nextB hBL hbw
  obtain ⟨k0, k1, k2, k3, kf, kl⟩ := four (blk_next hBL (boxD_s _ _ _ _))
  obtain ⟨q0, q1, q2, q3, q4, q5, q6, q7, q8⟩ := nine (blk_next hBL (boxD_c _ _ _ _))
  have p0 := (cell_of_row W2.drew _ 0 _ _ (0, 0) (blk_next hBL (boxD_p _ _ _ _))).trans (rfl : _ = some (Value.slice p P.length cap))
  have o1 : (Value.slice op r.o.length oc).ownBlock ≠ some (w.heap.size + 1) := fun he => by have := (hH.2.o.lt _ he).2; omega
  have o3 : (Value.slice op r.o.length oc).ownBlock ≠ some (w.heap.size + 1 + 1 + 1) := fun he => by have := (hH.2.o.lt _ he).2; omega
  have e1 : (Value.slice ep r.e.length ec).ownBlock ≠ some (w.heap.size + 1) := fun he => by have := (hH.2.e.lt _ he).2; omega
  have e3 : (Value.slice ep r.e.length ec).ownBlock ≠ some (w.heap.size + 1 + 1 + 1) := fun he => by have := (hH.2.e.lt _ he).2; omega
  clear hW2 hx
  go_region_law (first | (refine stepBG rfl 14 #[.agg #[.slice p P.length cap], .slice ep r.e.length ec, .agg #[.string v1, .int .i64 a1, .int .i64 b1]] (.agg #[.int .i64 n.a, .int .i64 n.b]) ?hop1 (t2 _ (by assumption)) ?_; (case hop1 => (go_simp; done)); intro W5 hq1; have hB1 := nextB hq1 hBW; have hL1 := nextB hq1 hBL; obtain ⟨g0, g1, g2, g3, gf, gl⟩ := four (blk_next hL1 (boxD_s _ _ _ _)); have gf3 := gf 3; have hR1 := hH.2.below hB1) | (refine step_append_tells rfl (.tmp 67) (.tmp 75) 25 rfl base 27 i0 (.agg #[.int .i64 0, .int .i64 0]) 2 16 Try.underlying25 hi hz0 hz1 hz2 rfl (by decide) _ r.o.length (r.o.flatMap Nu.cs) rfl (hR1.o.alloc _) _ 1 1 [.int .i64 n.a, .int .i64 n.b] rfl rfl (news_at rfl) (by intro u hu; simp at hu; rcases hu with rfl | rfl <;> rfl) (by unfold maxLen; omega) (by omega) (by have := hB1.size; simp; omega) (by decide) ?_; intro v6 W6 ho6 hg6 hv6; obtain ⟨xp, xc, rfl⟩ := own_len ho6; have hz1 := hB1.size; have hl1 := blk_next hL1 (boxD_s _ _ _ _); have hl3 := blk_next hL1 (boxD_r _ _ _ _); have hs6 := (hg6.block (w.heap.size + 1) (by have := lt_of_some hl1; simp; omega) (fun he => o1 he.symm)).trans ((heap_alloc_old _ _ (lt_of_some hl1)).trans hl1); have hr6 := (hg6.block (w.heap.size + 1 + 1 + 1) (by have := lt_of_some hl3; simp; omega) (fun he => o3 he.symm)).trans ((heap_alloc_old _ _ (lt_of_some hl3)).trans hl3); obtain ⟨j0, j1, j2, j3, jf, jl⟩ := four hs6; obtain ⟨m0, m1, m2, m3, mf, ml⟩ := four hr6; have jf3 := jf 3; have mf0 := mf 0; have mf1 := mf 1; have mf2 := mf 2; have mf3 := mf 3))
  all_goals (
    have hR5 : Rn base (W5.alloc (.cells #[.int .i64 n.a, .int .i64 n.b] 27)) (.slice ep r.e.length ec) (.slice op r.o.length oc) r := hR1.below ((Below.refl _ _).alloc (Nat.le_refl _) _)
    have hRn := hR5.out hg6 ho6 hv6
    have v1' : (Value.slice xp (r.o.length + 1) xc).ownBlock ≠ some (w.heap.size + 1) := fun he => by
      rcases hv6 with hv6 | hv6
      · exact o1 (hv6.symm.trans he)
      · rw [he] at hv6; have := lt_of_some hl1; simp at hv6; omega
    have v3' : (Value.slice xp (r.o.length + 1) xc).ownBlock ≠ some (w.heap.size + 1 + 1 + 1) := fun he => by
      rcases hv6 with hv6 | hv6
      · exact o3 (hv6.symm.trans he)
      · rw [he] at hv6; have := lt_of_some hl3; simp at hv6; omega
    have hlt := hH.2.o.lt
    have hlb := hR5.o.lt
    have hBb : Below base w W6 := Below.grown (w := _) ((hB1.mono hb).alloc (by omega) _) hg6 (by simp; omega) (fun q hq => (hlb q hq).1)
    clear k0 k1 k2 k3 kf kl hBL hBW hL1 g0 g1 g2 g3 gf gl hB1 hq1 t1 t2 hbw q0 q1 q2 q3 q4 q5 q6 q7 q8 p0 hs6 hr6 hl1 hl3 hR1 hR5 ho6 hg6 hv6 hlt hlb
    go_wp2_with fail
    refine bodyPost_ret (v := .agg #[.int .i64 b, .slice ep r.e.length ec, .int .i64 r.i, .slice xp (r.o.length + 1) xc]) (by simp only [results, Try.results84]; go_simp) rfl ⟨_, _, rfl, ?_, ?_⟩
    · (repeat (first | (with_reducible exact hRn) | refine Rn.setMid ?_ ?_ ?_))
      all_goals first | exact v1' | exact v3' | exact e1 | exact e3
    · (repeat (first | (with_reducible exact hBb) | refine Below.setCell ?_ ?_ _))
      all_goals first | (show base ≤ w.heap.size + 1; omega) | (show base ≤ w.heap.size + 1 + 1 + 1; omega))

/-- One statement of a proper program. -/
theorem do_any (P : List Bl) (I : List Nu) (s : St) (hk : s.k = 1 ∨ s.k = 2 ∨ s.k = 3) (hx : s.k ≠ 3 → 0 ≤ idx (vars P) s.v ∧ idx (vars P) s.v < (vars P).length) (b : Int) (r : Rs) (he : r.e.length = (vars P).length) (hel : r.e.length ≤ 1000) (hol : r.o.length ≤ 100000) (hin : 0 ≤ r.i) (base : Nat) (pv ev ov iv : Value) (w : World) (h : Pg w pv P) (h12 : P.length ≤ 12) (hl12 : ∀ b ∈ P, b.l.length ≤ 12) (hI : Sl w iv Nu.cs I) (hR : Rn base w ev ov r) (hb : base ≤ w.heap.size) :
    Calls Try.prog 84 #[.agg #[pv], .agg #[.int .i64 b, ev, .int .i64 r.i, ov], .agg s.cs.toArray, iv] w fun e w' => ∃ ev' ov', e = .returned (.agg #[.int .i64 b, ev', .int .i64 (doS P I r s).i, ov']) ∧ Rn base w' ev' ov' (doS P I r s) ∧ Below base w w' := by
  rcases hk with hk | hk | hk
  · obtain ⟨h1, h2⟩ := hx (by omega)
    exact do1_any P I s hk b r h1 (by omega) hel base pv ev ov iv w h h12 hl12 hR hb
  · obtain ⟨h1, h2⟩ := hx (by omega)
    exact do2_any P I s hk b r h1 (by omega) hel hin base pv ev ov iv w h h12 hl12 hI hR hb
  · exact do3_any P I s hk b r hol base pv ev ov iv w h h12 hl12 hR hb

end Go.Proofs.Ytaaklejkngpddaa.Pr

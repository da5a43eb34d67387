/- ExecRuns: it answers true. -/
import Derived.Test.YtaaklejkngpddaaExg
import Derived.Test.YtaaklejkngpddaaExj
import Derived.Test.YtaaklejkngpddaaRunrc
import Derived.Deep.RegionHeld3
import Derived.Deep.RegionHeldLaw
namespace Go.Proofs.Ytaaklejkngpddaa.Pr
set_option linter.unusedVariables false
set_option linter.unusedSimpArgs false
open Go Go.RowKit

theorem fewB_le3 {P : List Bl} {E I : List Nu} (hf : fewB P E I = true) : P.length ≤ 12 ∧ (∀ b ∈ P, b.l.length ≤ 12) ∧ E.length ≤ 70 ∧ I.length ≤ 70 := by
  simp only [fewB, Bool.and_eq_true, decide_eq_true_eq] at hf
  exact ⟨(small_len hf.1.1).1, (small_len hf.1.1).2.1, hf.1.2, hf.2⟩

def frameA (w : World) (iv : Value) (M : Int) (sb rb : Nat) (k : Int) (u : Nat → Value) : Act := { tmps := #[u 0, u 1, u 2, u 3, iv, .int .i64 M, .pointer (some ⟨w.heap.size, 0, none⟩), u 7, u 8, u 9, u 10, u 11, u 12, .pointer (some ⟨sb, 0, none⟩), .pointer (some ⟨rb, 0, none⟩), .int .i64 k, u 16, u 17, u 18, u 19, u 20, u 21, u 22, u 23, u 24, u 25, u 26, u 27, u 28, u 29, u 30, u 31, u 32, u 33, u 34, u 35, u 36, u 37, u 38, u 39, u 40, u 41, u 42, u 43, u 44, u 45, u 46, u 47, u 48, u 49, u 50, u 51, u 52, u 53, u 54, u 55, u 56, u 57, u 58, u 59, u 60, u 61, u 62, u 63, u 64, u 65, u 66, u 67, u 68, u 69, u 70, u 71, u 72, u 73, u 74, u 75, u 76, u 77, u 78, u 79, u 80, u 81, u 82, u 83, u 84, u 85, u 86, u 87, u 88, u 89, u 90, u 91, u 92, u 93, u 94, u 95, u 96, u 97, u 98, u 99, u 100, u 101, u 102, u 103, u 104, u 105, u 106, u 107, u 108, u 109, u 110, u 111, u 112, u 113, u 114, u 115, u 116, u 117, u 118], defers := [] }

/-- The sizes of what a run tells. -/
theorem run_sizes {P : List Bl} {I : List Nu} (hc : checkOf P = 0) (hl : ∀ b ∈ P, b.l.length ≤ 12) (s : Ps) (hs : OkS P s) (ho : s.r.o.length ≤ 1000) (M : Int) (hM : M ≤ 40) :
    (fromS P I (capN M) s true).1.length ≤ 1000000 ∧ (∀ x ∈ (fromS P I (capN M) s true).1, x.r.e.length ≤ 1000000 ∧ x.r.o.length ≤ 1000000) ∧ (fromS P I (capN M) s true).2.1.r.o.length ≤ 1000000 := by
  have hn : capN M ≤ 40 := by unfold capN; omega
  have h1 := (fromS_len P I (capN M) s true).1
  have h2 := fromS_ok (I := I) hc hl (capN M) s true hs
  have h3 := (proper_vars hc).1
  refine ⟨by omega, fun x hx => ?_, by have := h2.2.1; omega⟩
  have h4 := h2.2.2 x hx
  have h5 : x.r.e.length = _ := h4.1.2.2.1
  exact ⟨by omega, by omega⟩

set_option maxRecDepth 100000 in
set_option maxHeartbeats 4000000 in
theorem execRuns_few (P : List Bl) (blk : Int) (E : List Nu) (at0 : Int) (I : List Nu) (most : Int) (pv : Value) (hcp : CapOk pv) (ev : Value) (hz1 : NilOk ev) (iv : Value) (hz2 : NilOk iv) (w : World) (h : Pg w pv P) (hE : Sl w ev Nu.cs E) (hI : Sl w iv Nu.cs I) (hf : fewB P E I = false) :
    Calls Try.prog 4 #[.agg #[pv], .int .i64 blk, ev, .int .i64 at0, iv, .int .i64 most] w fun e w' => e = .returned (.bool true) ∧ Below w.heap.size w w' := by
  obtain ⟨p, cap, rfl⟩ : ∃ p cap, pv = .slice p P.length cap := by obtain ⟨b, off, p, cap, hv, _⟩ := h.1; exact ⟨p, cap, hv⟩
  have hfw := fun (W : World) (hB : Below w.heap.size w W) => few_any P E I _ ev iv hcp W (h.below hB) (hE.below hB) (hI.below hB)
  obtain ⟨ep, ec, rfl⟩ : ∃ p cap, ev = .slice p E.length cap := by obtain ⟨b, off, p, cap, hv, _⟩ := hE; exact ⟨p, cap, hv⟩
  obtain ⟨ip, ic, rfl⟩ : ∃ p cap, iv = .slice p I.length cap := by obtain ⟨b, off, p, cap, hv, _⟩ := hI; exact ⟨p, cap, hv⟩
  have hb1 : Below w.heap.size w (w.alloc (.cells #[.slice p P.length cap] 24)) := (Below.refl _ _).alloc (Nat.le_refl _) _
  rw [hf] at hfw
  clear h hE hI hcp hz1 hz2 hf
  go_enter Try.func4, Try.ntmps4
  go_wp2_with (first | (go_at_call 9; refine' Calls.aft _ _ (awake8_any _) _; rotate_left 2; (first | (with_reducible exact After.below _; rfl) | (with_reducible exact below_drew (After.below _); rfl) | (with_reducible exact below_set (After.below _) _ _; (go_simp; rfl)) | (with_reducible exact below_set (below_set (After.below _) _ _) _ _; (go_simp; rfl)) | (with_reducible exact below_set (below_set (below_set (After.below _) _ _) _ _) _ _; (go_simp; rfl)) | (with_reducible exact below_set (below_set (below_set (below_set (After.below _) _ _) _ _) _ _) _ _; (go_simp; rfl)) | (exact Below.refl _ _; rfl)); intro x1; have hle := After.le x1; (try simp at hle)) | (go_at_call 10; refine' Calls.aft _ _ (hfw _ (hb1.trans (x1.below.mono hb1.size))) _; rotate_left 2; (first | (with_reducible exact After.below _; rfl) | (with_reducible exact below_drew (After.below _); rfl) | (with_reducible exact below_set (After.below _) _ _; (go_simp; rfl)) | (with_reducible exact below_set (below_set (After.below _) _ _) _ _; (go_simp; rfl)) | (with_reducible exact below_set (below_set (below_set (After.below _) _ _) _ _) _ _; (go_simp; rfl)) | (with_reducible exact below_set (below_set (below_set (below_set (After.below _) _ _) _ _) _ _) _ _; (go_simp; rfl)) | (exact Below.refl _ _; rfl)); intro x2; have hle := After.le x2; (try simp at hle)))
  go_ret
  refine ⟨rfl, ?_⟩
  (repeat (first | exact Below.refl _ _ | apply Below.drew | refine Below.alloc ?_ ?_ _ | refine Below.setCell ?_ ?_ _ | refine Below.trans ?_ (Below.mono (After.below _) ?_))); (all_goals (first | (simp; done) | (simp; omega) | omega))

set_option maxRecDepth 100000 in
set_option maxHeartbeats 8000000 in
theorem execRuns_bad (P : List Bl) (blk : Int) (E : List Nu) (at0 : Int) (I : List Nu) (most : Int) (pv : Value) (hcp : CapOk pv) (ev : Value) (hz1 : NilOk ev) (iv : Value) (hz2 : NilOk iv) (w : World) (h : Pg w pv P) (hE : Sl w ev Nu.cs E) (hI : Sl w iv Nu.cs I) (hf : fewB P E I = true) (hbad : ChkS P blk E.length at0 ≠ 0) :
    Calls Try.prog 4 #[.agg #[pv], .int .i64 blk, ev, .int .i64 at0, iv, .int .i64 most] w fun e w' => e = .returned (.bool true) ∧ Below w.heap.size w w' := by
  obtain ⟨h12, hl12, hEl, hIl⟩ := fewB_le3 hf
  obtain ⟨p, cap, rfl⟩ : ∃ p cap, pv = .slice p P.length cap := by obtain ⟨b, off, p, cap, hv, _⟩ := h.1; exact ⟨p, cap, hv⟩
  have hfw := fun (W : World) (hB : Below w.heap.size w W) => few_any P E I _ ev iv hcp W (h.below hB) (hE.below hB) (hI.below hB)
  obtain ⟨ep, ec, rfl⟩ : ∃ p cap, ev = .slice p E.length cap := by obtain ⟨b, off, p, cap, hv, _⟩ := hE; exact ⟨p, cap, hv⟩
  obtain ⟨ip, ic, rfl⟩ : ∃ p cap, iv = .slice p I.length cap := by obtain ⟨b, off, p, cap, hv, _⟩ := hI; exact ⟨p, cap, hv⟩
  have hb1 : Below w.heap.size w (w.alloc (.cells #[.slice p P.length cap] 24)) := (Below.refl _ _).alloc (Nat.le_refl _) _
  rw [hf] at hfw
  have hH := And.intro True.intro (And.intro h (And.intro hE hI))
  clear h hE hI hz2 hf
  go_enter Try.func4, Try.ntmps4
  go_wp2_with (first | (go_at_call 9; refine' Calls.aft _ _ (awake8_any _) _; rotate_left 2; (first | (with_reducible exact After.below _; rfl) | (with_reducible exact below_drew (After.below _); rfl) | (with_reducible exact below_set (After.below _) _ _; (go_simp; rfl)) | (with_reducible exact below_set (below_set (After.below _) _ _) _ _; (go_simp; rfl)) | (with_reducible exact below_set (below_set (below_set (After.below _) _ _) _ _) _ _; (go_simp; rfl)) | (with_reducible exact below_set (below_set (below_set (below_set (After.below _) _ _) _ _) _ _) _ _; (go_simp; rfl)) | (exact Below.refl _ _; rfl)); intro x1; have hle := After.le x1; (try simp at hle)) | (go_at_call 10; refine' Calls.aft _ _ (hfw _ (hb1.trans (x1.below.mono hb1.size))) _; rotate_left 2; (first | (with_reducible exact After.below _; rfl) | (with_reducible exact below_drew (After.below _); rfl) | (with_reducible exact below_set (After.below _) _ _; (go_simp; rfl)) | (with_reducible exact below_set (below_set (After.below _) _ _) _ _; (go_simp; rfl)) | (with_reducible exact below_set (below_set (below_set (After.below _) _ _) _ _) _ _; (go_simp; rfl)) | (with_reducible exact below_set (below_set (below_set (below_set (After.below _) _ _) _ _) _ _) _ _; (go_simp; rfl)) | (exact Below.refl _ _; rfl)); intro x2; have hle := After.le x2; (try simp at hle)))
  rename_i K hK
  have hB2 : Below w.heap.size w x2.val := hb1.trans (x2.below.mono hb1.size)
  obtain ⟨sb, hsb⟩ : ∃ sb, sb = x2.val.heap.size := ⟨_, rfl⟩
  obtain ⟨W6, hW6⟩ : ∃ W6, W6 = x2.val.alloc (.cells #[.int .i64 blk, .slice ep E.length ec, .int .i64 at0, .slice none 0 0] 43) := ⟨_, rfl⟩
  have hBa : Below x2.val.heap.size x2.val W6 := by rw [hW6]; exact (Below.refl _ _).alloc (Nat.le_refl _) _
  have y0 := nextC hBa ((x2.below.cell (p := ⟨w.heap.size, 0, none⟩) (by simp)).trans (by simp : _ = some (Value.slice p P.length cap)))
  have ss : W6.heap[sb]? = some (.cells #[.int .i64 blk, .slice ep E.length ec, .int .i64 at0, .slice none 0 0] 43 (0, 0)) := by rw [hW6, hsb]; exact heap_alloc_new _ _
  have hB6 := nextB hBa hB2
  show Code.wp _ _ _ _ (x2.val.alloc (.cells #[.int .i64 blk, .slice ep E.length ec, .int .i64 at0, .slice none 0 0] 43))
  rw [← hW6, ← hsb]
  clear hW6 hsb hBa hB2
  obtain ⟨s0, s1, s2, s3, _, sl⟩ := four ss
  have yl := World.block_lt_of_cell? _ _ y0
  obtain ⟨M, hM⟩ : ∃ M, min most 40 = M := ⟨_, rfl⟩
  have hM40 : M ≤ 40 := by omega
  rw [hM]
  have hP6 := hH.2.1.below hB6
  have hE6 := hH.2.2.1.below hB6
  have hI6 := hH.2.2.2.below hB6
  clear hfw hH ss hM
  have hck := fun (W : World) (hB : Below W6.heap.size W6 W) => rcheckS_any P blk at0 E _ _ (.slice none 0 0) hcp W (hP6.below hB) h12 hl12 (hE6.below hB)
  have hpk := fun (W : World) (hB : Below W6.heap.size W6 W) => rcheck_any P h12 hl12 _ hcp W (hP6.below hB)
  have hfr : ∀ (W : World) (hS : ∀ b o, b < W6.heap.size → W.cell? ⟨b, o, none⟩ = W6.cell? ⟨b, o, none⟩), Calls Try.prog 19 #[.agg #[.slice p P.length cap], .agg #[.int .i64 blk, .slice ep E.length ec, .int .i64 at0, .slice none 0 0], .slice ip I.length ic, .int .i64 M] W fun e w' => e = .returned (.tuple #[.agg #[.slice none 0 0, .slice none 0 0, .bool false], .int .i64 (ChkS P blk E.length at0)]) ∧ Below W.heap.size W w' := fun W hS =>
    from_bad P ⟨blk, ⟨E, at0, []⟩⟩ hbad M _ _ (.slice none 0 0) _ W (pgCells hP6 hS) h12 hl12 (slCells hE6 hS) Sl.nil
  have hall1 := fun (hc : checkOf P ≠ 0) (W : World) (hB : Below W6.heap.size W6 W) => allF_bad P I hc M _ _ W (hP6.below hB) h12 hl12 (hI6.below hB)
  have hall2 : ∀ (hc : checkOf P = 0) (W : World) (hB : Below W6.heap.size W6 W), Calls Try.prog 21 #[.agg #[.slice p P.length cap], .slice ip I.length ic, .int .i64 M] W fun e w' => ∃ x : Value × Value, e = .returned ((fun x : Value × Value => Value.tuple #[.agg #[x.1, x.2, .bool (!(fromS P I (capN M) (beginS P) true).2.2)], .int .i64 0]) x) ∧ (fun (x : Value × Value) W2 => ROut W2 (fromS P I (capN M) (beginS P) true).1 (fromS P I (capN M) (beginS P) true).2.1.r.o x.1 x.2) x w' ∧ Below W.heap.size W w' := fun hc W hB =>
    (allF_ok P I hc M _ _ W (hP6.below hB) h12 hl12 (hI6.below hB)).mono fun e w' ⟨vv, ov, he, hr, hb⟩ => ⟨(vv, ov), he, hr.rout, hb⟩
  have hst := fun (W : World) hP => rstart_any P (.slice p P.length cap) W hP h12 hl12
  have hrf := fun (hc : checkOf P = 0) (W : World) hP hI ev hE hz => rfrom_any P I (beginS P) (start_ok hc) (by show List.length [] ≤ _; simp) (by omega) M (.slice p P.length cap) ev (.slice none 0 0) (.slice ip I.length ic) W hP h12 hl12 hI hE Sl.nil hz NilOk.nil
  have hsz := fun (hc : checkOf P = 0) => run_sizes (I := I) hc hl12 (beginS P) ⟨Int.le_refl 0, by have := (proper_vars hc).2; show (0 : Int) < P.length; omega, by simp [beginS], Int.le_refl 0⟩ (by show List.length [] ≤ _; simp) M hM40
  have hX9 : checkOf P = 0 → ChkS P blk E.length at0 = 9 := fun h0 => by
    have h1 := hbad
    unfold ChkS at h1 ⊢
    rw [if_pos h0] at h1 ⊢
    split
    · rfl
    · rename_i hh
      rw [if_neg hh] at h1
      exact absurd rfl h1
  generalize ChkS P blk E.length at0 = X at hbad hck hfr hX9
  clear hE6 hcp hz1 hEl
  have hK7 : ∀ (a2 : Act) (q : World) (rb : Nat), a2 = frameA w (.slice ip I.length ic) M sb rb X (fun i => a2.tmps.getD i undef) → Below W6.heap.size W6 q → q.heap[rb]? = some (.cells #[.slice none 0 0, .slice none 0 0, .bool false] 53 (0, 0)) → K a2 q := by
    intro a2 q rb ha hq hr
    obtain ⟨u, hu⟩ : ∃ u : Nat → Value, (fun i => a2.tmps.getD i undef) = u := ⟨_, rfl⟩
    rw [hu] at ha
    clear hu
    subst ha
    refine hK _ _ ?_
    simp only [frameA]
    clear hK hfr
    have y0 := nextC hq y0
    have s0 := nextC hq s0
    have s1 := nextC hq s1
    have s2 := nextC hq s2
    have s3 := nextC hq s3
    have yl := World.block_lt_of_cell? _ _ y0
    have sl := World.block_lt_of_cell? _ _ s0
    obtain ⟨r0, r1, r2, _, rl⟩ := three hr
    have hqz := nextB hq hB6
    by_cases hc : checkOf P = 0
    · have hall2 := hall2 hc
      have hrf := hrf hc
      obtain ⟨z1, z2, z3⟩ := hsz hc
      have hz9 := hX9 hc
      rw [hc] at hpk
      clear hall1 hsz hc hX9
      subst hz9
      generalize fromS P I (capN M) (beginS P) true = T at hall2 hrf z1 z2 z3
      obtain ⟨La, sa, ga⟩ := T
      obtain ⟨g1, hg1⟩ : ∃ g1, (!ga) = g1 := ⟨_, rfl⟩
      simp only [hg1] at hall2 hrf
      clear hg1
      generalize sa.r.o = Oa at hall2 hrf z3
      go_wp2_with (first | ((go_at_call 21; refine' Calls.aftS _ _ (hall2 _ hq) _; rotate_left 2; (exact Below.refl _ _; rfl); intro v3 x3 ho3; have hle := After.le x3; (try simp at hle)); obtain ⟨va, oa⟩ := v3; have ho3 : ROut x3.val La Oa va oa := ho3; obtain ⟨⟨ap, ac, rfl⟩, aop, aoc, rfl⟩ := ho3.len) | (go_at_call 22; refine' Calls.aft _ _ (hck _ (nextB ((Below.refl _ _).alloc (Nat.le_refl _) _) (nextB x3.below hq))) _; rotate_left 2; (exact Below.refl _ _; rfl); intro x4; have hle := After.le x4; (try simp at hle)) | (go_at_call 23; refine' Calls.aft _ _ (hpk _ (nextB x4.below (nextB ((Below.refl _ _).alloc (Nat.le_refl _) _) (nextB x3.below hq)))) _; rotate_left 2; (exact Below.refl _ _; rfl); intro x5; have hle := After.le x5; (try simp at hle)))
      obtain ⟨W8, hW8⟩ : ∃ W8, W8 = x5.val := ⟨_, rfl⟩
      obtain ⟨ab, hab⟩ : ∃ ab, ab = x3.val.heap.size := ⟨_, rfl⟩
      have hx5 := x5.below
      rw [← hW8] at hx5
      rw [← hW8, ← hab]
      have hxa : Below x3.val.heap.size x3.val W8 := nextB hx5 (nextB x4.below ((Below.refl _ _).alloc (Nat.le_refl _) (.cells #[.slice ap La.length ac, .slice aop Oa.length aoc, .bool g1] 53)))
      have ha8 : W8.heap[ab]? = some (.cells #[.slice ap La.length ac, .slice aop Oa.length aoc, .bool g1] 53 (0, 0)) := by rw [hab]; exact blk_next hx5 (blk_next x4.below (heap_alloc_new _ _))
      obtain ⟨a0, a1, a2, _, al⟩ := three ha8
      have ho8 : ROut W8 La Oa (.slice ap La.length ac) (.slice aop Oa.length aoc) := ho3.below hxa
      have hq8 : Below q.heap.size q W8 := nextB hxa x3.below
      clear hW8 hab hxa hx5 ha8 ho3
      have y0 := nextC hq8 y0
      have s0 := nextC hq8 s0
      have s1 := nextC hq8 s1
      have s2 := nextC hq8 s2
      have s3 := nextC hq8 s3
      have r0 := nextC hq8 r0
      have r1 := nextC hq8 r1
      have r2 := nextC hq8 r2
      have yl := World.block_lt_of_cell? _ _ y0
      have sl := World.block_lt_of_cell? _ _ s0
      have rl := World.block_lt_of_cell? _ _ r0
      have hP8 := (hP6.below hq).below hq8
      have hI8 := (hI6.below hq).below hq8
      have hBz := hqz.trans (hq8.mono hqz.size)
      have hst8 : ∀ (W : World) (hS : ∀ b o, b < W8.heap.size → W.cell? ⟨b, o, none⟩ = W8.cell? ⟨b, o, none⟩), Calls Try.prog 18 #[.agg #[.slice p P.length cap]] W fun e w' => ∃ ev, e = .returned (.agg #[.int .i64 0, ev, .int .i64 0, .slice none 0 0]) ∧ (Sl w' ev Nu.cs (List.replicate (vars P).length zN) ∧ NilOk ev) ∧ Below W.heap.size W w' := fun W hS =>
        (hst W (pgCells hP8 hS)).mono fun e w' ⟨ev, he, ho, hb⟩ => ⟨ev, he, ⟨Sl.of_own (base := W.heap.size) (e := 27) (size := 2) (by rw [List.length_replicate]; exact ho), NilOk.own ho⟩, hb⟩
      have hrf8 : ∀ (W : World) (hS : ∀ b o, b < W8.heap.size → W.cell? ⟨b, o, none⟩ = W8.cell? ⟨b, o, none⟩) (ev : Value) (he : Sl W ev Nu.cs (List.replicate (vars P).length zN) ∧ NilOk ev), Calls Try.prog 25 #[.agg #[.slice p P.length cap], .agg #[.int .i64 0, ev, .int .i64 0, .slice none 0 0], .slice ip I.length ic, .int .i64 M] W fun e w' => ∃ x : Value × Value, e = .returned ((fun x : Value × Value => Value.agg #[x.1, x.2, .bool g1]) x) ∧ (fun (x : Value × Value) W2 => ROut W2 La Oa x.1 x.2) x w' ∧ Below W.heap.size W w' := fun W hS ev he =>
        (hrf W (pgCells hP8 hS) (slCells hI8 hS) ev he.1 he.2).mono fun e w' ⟨vv, ov, he, hr, hb⟩ => ⟨(vv, ov), he, hr, hb⟩
      have hsm8 := fun (W : World) va oa vb ob (h1 : ROut W La Oa va oa) (h2 : ROut W La Oa vb ob) => same_any La Oa g1 z2 z1 z3 va oa vb ob W h1 h2
      generalize List.replicate (vars P).length zN = Z at hst8 hrf8
      clear hst hrf z1 z2 z3 hq8 hB6 hqz hq hP8 hI8 hP6 hI6 hck hpk hle
      first | (go_region_held_law (fun w' => ∀ b o, b < W8.heap.size → w'.cell? ⟨b, o, none⟩ = W8.cell? ⟨b, o, none⟩)
        (((try dsimp only); intro b9 o9 h9; refine Below.cell (B := W8.heap.size) (w := W8) ?_ h9; clear h9; (repeat (first | exact Below.refl _ _ | apply Below.drew | refine Below.alloc ?_ ?_ _ | refine Below.setCell ?_ ?_ _ | refine Below.trans ?_ (Below.mono (After.below _) ?_))); (all_goals (first | (simp; done) | (simp; omega) | omega))))
        (first | ((go_at_call 18; refine' Calls.aftS _ _ (hst8 _ (by assumption)) _; rotate_left 2; (exact Below.refl _ _; rfl); intro v7 x7 ho7; have hle := After.le x7; (try simp at hle)); obtain ⟨sp7, sc7, rfl⟩ : ∃ p c, v7 = .slice p Z.length c := sl_len ho7.1) | ((go_at_call 25; refine' Calls.aftS _ _ (hrf8 _ (by assumption) _ ho7) _; rotate_left 2; (exact Below.refl _ _; rfl); intro v6 x6 ho6; have hle := After.le x6; (try simp at hle)); obtain ⟨vb, ob⟩ := v6; have ho6 : ROut x6.val La Oa vb ob := ho6; obtain ⟨⟨bp, bc, rfl⟩, bop, boc, rfl⟩ := ho6.len) | (go_at_call 24; refine' Calls.aft _ _ (hsm8 _ _ _ _ _ (ho8.cells (by assumption)) ho6) _; rotate_left 2; (exact Below.refl _ _; rfl); intro x9; have hle := After.le x9; (try simp at hle)))) | fail
      all_goals (
        have hx9 : Below W8.heap.size W8 x9.val := (((Below.refl _ _).drew).trans x7.below).trans ((x6.below.trans (x9.below.mono x6.below.size)).mono x7.below.size)
        have y0 := nextC hx9 y0
        have s0 := nextC hx9 s0
        have s1 := nextC hx9 s1
        have s2 := nextC hx9 s2
        have s3 := nextC hx9 s3
        have r0 := nextC hx9 r0
        have r1 := nextC hx9 r1
        have r2 := nextC hx9 r2
        have yl := World.block_lt_of_cell? _ _ y0
        have sl := World.block_lt_of_cell? _ _ s0
        have rl := World.block_lt_of_cell? _ _ r0
        have hBx := hBz.trans (hx9.mono hBz.size)
        go_wp2_with fail
        obtain ⟨W9, hW9⟩ : ∃ W9, W9 = x9.val := ⟨_, rfl⟩
        rw [← hW9] at y0 s0 s1 s2 s3 r0 r1 r2 yl sl rl hBx
        rw [← hW9]
        clear hW9 hx9 a0 a1 a2 al ho8 ho7 ho6 hsm8 hst8 hrf8
        refine' region_whole _ _ (by kernel_rfl) (by kernel_rfl) _; rotate_left 2; (exact Below.refl _ _; rfl); (repeat (go_big_quiet_step (first | fail))); refine wpQuiet_nil ?_; intro z
        all_goals (
          go_wp2_with fail
          go_ret
          refine ⟨rfl, ?_⟩
          refine hBx.trans (Below.mono (?_ : Below W9.heap.size W9 _) hBx.size)
          (repeat (first | exact Below.refl _ _ | apply Below.drew | refine Below.alloc ?_ ?_ _ | refine Below.setCell ?_ ?_ _ | refine Below.trans ?_ (Below.mono (After.below _) ?_))); (all_goals (first | (simp; done) | (simp; omega) | omega))))
    · have hall1 := hall1 hc
      clear hall2 hrf hsz hst
      generalize checkOf P = C at hc hall1 hpk
      go_wp2_with (first | (go_at_call 21; refine' Calls.aft _ _ (hall1 _ hq) _; rotate_left 2; (exact Below.refl _ _; rfl); intro x3; have hle := After.le x3; (try simp at hle)) | (go_at_call 22; refine' Calls.aft _ _ (hck _ (nextB ((Below.refl _ _).alloc (Nat.le_refl _) _) (nextB x3.below hq))) _; rotate_left 2; (exact Below.refl _ _; rfl); intro x4; have hle := After.le x4; (try simp at hle)) | (go_at_call 23; refine' Calls.aft _ _ (hpk _ (nextB x4.below (nextB ((Below.refl _ _).alloc (Nat.le_refl _) _) (nextB x3.below hq)))) _; rotate_left 2; (exact Below.refl _ _; rfl); intro x5; have hle := After.le x5; (try simp at hle)))
      go_ret
      refine ⟨by simp, ?_⟩
      refine hqz.trans (Below.mono (?_ : Below q.heap.size q _) hqz.size)
      (repeat (first | exact Below.refl _ _ | apply Below.drew | refine Below.alloc ?_ ?_ _ | refine Below.setCell ?_ ?_ _ | refine Below.trans ?_ (Below.mono (After.below _) ?_))); (all_goals (first | (simp; done) | (simp; omega) | omega))
  have hKK := And.intro True.intro hK7
  clear hK hK7 hall1 hall2 hrf hst hsz hck hpk hP6 hI6 hX9
  first | (go_region_held3 (fun w' => ∀ b o, b < W6.heap.size → w'.cell? ⟨b, o, none⟩ = W6.cell? ⟨b, o, none⟩)
    (((try dsimp only); intro b9 o9 h9; refine Below.cell (B := W6.heap.size) (w := W6) ?_ h9; clear h9; (repeat (first | exact Below.refl _ _ | apply Below.drew | refine Below.alloc ?_ ?_ _ | refine Below.setCell ?_ ?_ _ | refine Below.trans ?_ (Below.mono (After.below _) ?_))); (all_goals (first | (simp; done) | (simp; omega) | omega))))
    (first | (go_at_call 20; refine' Calls.aft _ _ (state_any _ _ _ _ _ _ _ _ _) _; rotate_left 2; (exact Below.refl _ _; rfl); intro x5; have hle := After.le x5; (try simp at hle)) | (go_at_call 19; refine' Calls.aft _ _ (hfr _ (by assumption)) _; rotate_left 2; (exact Below.refl _ _; rfl); intro x6; have hle := After.le x6; (try simp at hle)))) | fail
  all_goals (
    refine hKK.2 _ _ _ rfl ?_ ?_
    · (repeat (first | exact Below.refl _ _ | apply Below.drew | refine Below.alloc ?_ ?_ _ | refine Below.setCell ?_ ?_ _ | refine Below.trans ?_ (Below.mono (After.below _) ?_))); (all_goals (first | (simp; done) | (simp; omega) | omega))
    · first | (with_reducible exact heap_alloc_new _ _) | (with_reducible exact set3 _ _ _ (blk_next x6.below (blk_next x5.below (drew_new _ _)))) | (with_reducible exact set3 _ _ _ (blk_next x6.below (blk_next x5.below (drew_new2 _ _)))) | (with_reducible exact set3 _ _ _ (blk_next x6.below (heap_alloc_new _ _))))

set_option maxRecDepth 100000 in
set_option maxHeartbeats 8000000 in
theorem execRuns_ok (P : List Bl) (blk : Int) (E : List Nu) (at0 : Int) (I : List Nu) (most : Int) (pv : Value) (hcp : CapOk pv) (ev : Value) (hz1 : NilOk ev) (iv : Value) (hz2 : NilOk iv) (w : World) (h : Pg w pv P) (hE : Sl w ev Nu.cs E) (hI : Sl w iv Nu.cs I) (hf : fewB P E I = true) (hok : ChkS P blk E.length at0 = 0) :
    Calls Try.prog 4 #[.agg #[pv], .int .i64 blk, ev, .int .i64 at0, iv, .int .i64 most] w fun e w' => e = .returned (.bool true) ∧ Below w.heap.size w w' := by
  obtain ⟨h12, hl12, hEl, hIl⟩ := fewB_le3 hf
  obtain ⟨p, cap, rfl⟩ : ∃ p cap, pv = .slice p P.length cap := by obtain ⟨b, off, p, cap, hv, _⟩ := h.1; exact ⟨p, cap, hv⟩
  have hfw := fun (W : World) (hB : Below w.heap.size w W) => few_any P E I _ ev iv hcp W (h.below hB) (hE.below hB) (hI.below hB)
  obtain ⟨ep, ec, rfl⟩ : ∃ p cap, ev = .slice p E.length cap := by obtain ⟨b, off, p, cap, hv, _⟩ := hE; exact ⟨p, cap, hv⟩
  obtain ⟨ip, ic, rfl⟩ : ∃ p cap, iv = .slice p I.length cap := by obtain ⟨b, off, p, cap, hv, _⟩ := hI; exact ⟨p, cap, hv⟩
  have hb1 : Below w.heap.size w (w.alloc (.cells #[.slice p P.length cap] 24)) := (Below.refl _ _).alloc (Nat.le_refl _) _
  rw [hf] at hfw
  have hH := And.intro True.intro (And.intro h (And.intro hE hI))
  clear h hE hI hz2 hf
  go_enter Try.func4, Try.ntmps4
  go_wp2_with (first | (go_at_call 9; refine' Calls.aft _ _ (awake8_any _) _; rotate_left 2; (first | (with_reducible exact After.below _; rfl) | (with_reducible exact below_drew (After.below _); rfl) | (with_reducible exact below_set (After.below _) _ _; (go_simp; rfl)) | (with_reducible exact below_set (below_set (After.below _) _ _) _ _; (go_simp; rfl)) | (with_reducible exact below_set (below_set (below_set (After.below _) _ _) _ _) _ _; (go_simp; rfl)) | (with_reducible exact below_set (below_set (below_set (below_set (After.below _) _ _) _ _) _ _) _ _; (go_simp; rfl)) | (exact Below.refl _ _; rfl)); intro x1; have hle := After.le x1; (try simp at hle)) | (go_at_call 10; refine' Calls.aft _ _ (hfw _ (hb1.trans (x1.below.mono hb1.size))) _; rotate_left 2; (first | (with_reducible exact After.below _; rfl) | (with_reducible exact below_drew (After.below _); rfl) | (with_reducible exact below_set (After.below _) _ _; (go_simp; rfl)) | (with_reducible exact below_set (below_set (After.below _) _ _) _ _; (go_simp; rfl)) | (with_reducible exact below_set (below_set (below_set (After.below _) _ _) _ _) _ _; (go_simp; rfl)) | (with_reducible exact below_set (below_set (below_set (below_set (After.below _) _ _) _ _) _ _) _ _; (go_simp; rfl)) | (exact Below.refl _ _; rfl)); intro x2; have hle := After.le x2; (try simp at hle)))
  rename_i K hK
  have hB2 : Below w.heap.size w x2.val := hb1.trans (x2.below.mono hb1.size)
  obtain ⟨sb, hsb⟩ : ∃ sb, sb = x2.val.heap.size := ⟨_, rfl⟩
  obtain ⟨W6, hW6⟩ : ∃ W6, W6 = x2.val.alloc (.cells #[.int .i64 blk, .slice ep E.length ec, .int .i64 at0, .slice none 0 0] 43) := ⟨_, rfl⟩
  have hBa : Below x2.val.heap.size x2.val W6 := by rw [hW6]; exact (Below.refl _ _).alloc (Nat.le_refl _) _
  have y0 := nextC hBa ((x2.below.cell (p := ⟨w.heap.size, 0, none⟩) (by simp)).trans (by simp : _ = some (Value.slice p P.length cap)))
  have ss : W6.heap[sb]? = some (.cells #[.int .i64 blk, .slice ep E.length ec, .int .i64 at0, .slice none 0 0] 43 (0, 0)) := by rw [hW6, hsb]; exact heap_alloc_new _ _
  have hB6 := nextB hBa hB2
  show Code.wp _ _ _ _ (x2.val.alloc (.cells #[.int .i64 blk, .slice ep E.length ec, .int .i64 at0, .slice none 0 0] 43))
  rw [← hW6, ← hsb]
  clear hW6 hsb hBa hB2
  obtain ⟨s0, s1, s2, s3, _, sl⟩ := four ss
  have yl := World.block_lt_of_cell? _ _ y0
  obtain ⟨M, hM⟩ : ∃ M, min most 40 = M := ⟨_, rfl⟩
  have hM40 : M ≤ 40 := by omega
  rw [hM]
  have hP6 := hH.2.1.below hB6
  have hE6 := hH.2.2.1.below hB6
  have hI6 := hH.2.2.2.below hB6
  clear hfw hH ss hM
  have hck := fun (W : World) (hB : Below W6.heap.size W6 W) => rcheckS_any P blk at0 E _ _ (.slice none 0 0) hcp W (hP6.below hB) h12 hl12 (hE6.below hB)
  have hpk := fun (W : World) (hB : Below W6.heap.size W6 W) => rcheck_any P h12 hl12 _ hcp W (hP6.below hB)
  obtain ⟨hc, q1, q2, q3, q4⟩ := chk_ok hok
  have hfr : ∀ (W : World) (hS : ∀ b o, b < W6.heap.size → W.cell? ⟨b, o, none⟩ = W6.cell? ⟨b, o, none⟩), Calls Try.prog 19 #[.agg #[.slice p P.length cap], .agg #[.int .i64 blk, .slice ep E.length ec, .int .i64 at0, .slice none 0 0], .slice ip I.length ic, .int .i64 M] W fun e w' => ∃ x : Value × Value, e = .returned ((fun x : Value × Value => Value.tuple #[.agg #[x.1, x.2, .bool (!(fromS P I (capN M) ⟨blk, ⟨E, at0, []⟩⟩ true).2.2)], .int .i64 0]) x) ∧ (fun (x : Value × Value) W2 => FOut W2 W.heap.size (fromS P I (capN M) ⟨blk, ⟨E, at0, []⟩⟩ true).1 (fromS P I (capN M) ⟨blk, ⟨E, at0, []⟩⟩ true).2.1.r.o x.1 x.2) x w' ∧ Below W.heap.size W w' := fun W hS =>
    (from_ok P I ⟨blk, ⟨E, at0, []⟩⟩ hok (by simp) M _ _ (.slice none 0 0) _ W (pgCells hP6 hS) h12 hl12 (slCells hI6 hS) (slCells hE6 hS) Sl.nil).mono fun e w' ⟨vv, ov, he, hr, hb⟩ => ⟨(vv, ov), he, hr, hb⟩
  have hall2 : ∀ (W : World) (hB : Below W6.heap.size W6 W), Calls Try.prog 21 #[.agg #[.slice p P.length cap], .slice ip I.length ic, .int .i64 M] W fun e w' => ∃ x : Value × Value, e = .returned ((fun x : Value × Value => Value.tuple #[.agg #[x.1, x.2, .bool (!(fromS P I (capN M) (beginS P) true).2.2)], .int .i64 0]) x) ∧ (fun (x : Value × Value) W2 => ROut W2 (fromS P I (capN M) (beginS P) true).1 (fromS P I (capN M) (beginS P) true).2.1.r.o x.1 x.2) x w' ∧ Below W.heap.size W w' := fun W hB =>
    (allF_ok P I hc M _ _ W (hP6.below hB) h12 hl12 (hI6.below hB)).mono fun e w' ⟨vv, ov, he, hr, hb⟩ => ⟨(vv, ov), he, hr.rout, hb⟩
  have hst := fun (W : World) hP => rstart_any P (.slice p P.length cap) W hP h12 hl12
  have hrf := fun (W : World) hP hI ev hE hz => rfrom_any P I (beginS P) (start_ok hc) (by show List.length [] ≤ _; simp) (by omega) M (.slice p P.length cap) ev (.slice none 0 0) (.slice ip I.length ic) W hP h12 hl12 hI hE Sl.nil hz NilOk.nil
  have hrs : ∀ (W : World) (hP : Pg W (.slice p P.length cap) P) (hI : Sl W (.slice ip I.length ic) Nu.cs I) (hE : Sl W (.slice ep E.length ec) Nu.cs E), Calls Try.prog 25 #[.agg #[.slice p P.length cap], .agg #[.int .i64 blk, .slice ep E.length ec, .int .i64 at0, .slice none 0 0], .slice ip I.length ic, .int .i64 M] W fun e w' => ∃ x : Value × Value, e = .returned ((fun x : Value × Value => Value.agg #[x.1, x.2, .bool (!(fromS P I (capN M) ⟨blk, ⟨E, at0, []⟩⟩ true).2.2)]) x) ∧ (fun (x : Value × Value) W2 => ROut W2 (fromS P I (capN M) ⟨blk, ⟨E, at0, []⟩⟩ true).1 (fromS P I (capN M) ⟨blk, ⟨E, at0, []⟩⟩ true).2.1.r.o x.1 x.2) x w' ∧ Below W.heap.size W w' := fun W hP hI hE =>
    (rfrom_any P I ⟨blk, ⟨E, at0, []⟩⟩ hok (by simp) (by omega) M (.slice p P.length cap) _ (.slice none 0 0) _ W hP h12 hl12 hI hE Sl.nil hz1 NilOk.nil).mono fun e w' ⟨vv, ov, he, hr, hb⟩ => ⟨(vv, ov), he, hr, hb⟩
  obtain ⟨z1, z2, z3⟩ := run_sizes (I := I) hc hl12 (beginS P) ⟨Int.le_refl 0, by have := (proper_vars hc).2; show (0 : Int) < P.length; omega, by simp [beginS], Int.le_refl 0⟩ (by show List.length [] ≤ _; simp) M hM40
  obtain ⟨y1, y2, y3⟩ := run_sizes (I := I) hc hl12 ⟨blk, ⟨E, at0, []⟩⟩ ⟨q1, q2, q3, q4⟩ (by simp) M hM40
  rw [hok] at hck
  rw [hc] at hpk
  clear q1 q2 q3 q4 hok hc hcp hz1 hEl
  generalize fromS P I (capN M) (beginS P) true = T at hall2 hrf z1 z2 z3
  obtain ⟨La, sa, ga⟩ := T
  obtain ⟨g1, hg1⟩ : ∃ g1, (!ga) = g1 := ⟨_, rfl⟩
  simp only [hg1] at hall2 hrf
  clear hg1
  generalize sa.r.o = Oa at hall2 hrf z3
  generalize fromS P I (capN M) ⟨blk, ⟨E, at0, []⟩⟩ true = T at hfr hrs y1 y2 y3
  obtain ⟨Lb, sb', gb⟩ := T
  obtain ⟨g2, hg2⟩ : ∃ g2, (!gb) = g2 := ⟨_, rfl⟩
  simp only [hg2] at hfr hrs
  clear hg2
  generalize sb'.r.o = Ob at hfr hrs y3
  have hsm9 := fun (W : World) va oa vb ob (h1 : ROut W Lb Ob va oa) (h2 : ROut W Lb Ob vb ob) => same_any Lb Ob g2 y2 y1 y3 va oa vb ob W h1 h2
  clear y1 y2 y3
  have hK7 : ∀ (a2 : Act) (q : World) (rb : Nat) (bp0 : Option Addr) (bc0 : Nat) (bop0 : Option Addr) (boc0 : Nat), a2 = frameA w (.slice ip I.length ic) M sb rb 0 (fun i => a2.tmps.getD i undef) → Below W6.heap.size W6 q → q.heap[rb]? = some (.cells #[.slice bp0 Lb.length bc0, .slice bop0 Ob.length boc0, .bool g2] 53 (0, 0)) → ROut q Lb Ob (.slice bp0 Lb.length bc0) (.slice bop0 Ob.length boc0) → K a2 q := by
    intro a2 q rb bp0 bc0 bop0 boc0 ha hq hrb hr
    obtain ⟨u, hu⟩ : ∃ u : Nat → Value, (fun i => a2.tmps.getD i undef) = u := ⟨_, rfl⟩
    rw [hu] at ha
    clear hu
    subst ha
    refine hK _ _ ?_
    simp only [frameA]
    clear hK hfr
    have y0 := nextC hq y0
    have s0 := nextC hq s0
    have s1 := nextC hq s1
    have s2 := nextC hq s2
    have s3 := nextC hq s3
    have yl := World.block_lt_of_cell? _ _ y0
    have sl := World.block_lt_of_cell? _ _ s0
    obtain ⟨r0, r1, r2, _, rl⟩ := three hrb
    have hqz := nextB hq hB6
    clear hrb
    go_wp2_with (first | ((go_at_call 21; refine' Calls.aftS _ _ (hall2 _ hq) _; rotate_left 2; (exact Below.refl _ _; rfl); intro v3 x3 ho3; have hle := After.le x3; (try simp at hle)); obtain ⟨va, oa⟩ := v3; have ho3 : ROut x3.val La Oa va oa := ho3; obtain ⟨⟨ap, ac, rfl⟩, aop, aoc, rfl⟩ := ho3.len) | (go_at_call 22; refine' Calls.aft _ _ (hck _ (nextB ((Below.refl _ _).alloc (Nat.le_refl _) _) (nextB x3.below hq))) _; rotate_left 2; (exact Below.refl _ _; rfl); intro x4; have hle := After.le x4; (try simp at hle)) | (go_at_call 23; refine' Calls.aft _ _ (hpk _ (nextB x4.below (nextB ((Below.refl _ _).alloc (Nat.le_refl _) _) (nextB x3.below hq)))) _; rotate_left 2; (exact Below.refl _ _; rfl); intro x5; have hle := After.le x5; (try simp at hle)))
    obtain ⟨W8, hW8⟩ : ∃ W8, W8 = x5.val := ⟨_, rfl⟩
    obtain ⟨ab, hab⟩ : ∃ ab, ab = x3.val.heap.size := ⟨_, rfl⟩
    have hx5 := x5.below
    rw [← hW8] at hx5
    rw [← hW8, ← hab]
    have hxa : Below x3.val.heap.size x3.val W8 := nextB hx5 (nextB x4.below ((Below.refl _ _).alloc (Nat.le_refl _) (.cells #[.slice ap La.length ac, .slice aop Oa.length aoc, .bool g1] 53)))
    have ha8 : W8.heap[ab]? = some (.cells #[.slice ap La.length ac, .slice aop Oa.length aoc, .bool g1] 53 (0, 0)) := by rw [hab]; exact blk_next hx5 (blk_next x4.below (heap_alloc_new _ _))
    obtain ⟨a0, a1, a2, _, al⟩ := three ha8
    have ho8 : ROut W8 La Oa (.slice ap La.length ac) (.slice aop Oa.length aoc) := ho3.below hxa
    have hq8 : Below q.heap.size q W8 := nextB hxa x3.below
    clear hW8 hab hxa hx5 ha8 ho3
    have y0 := nextC hq8 y0
    have s0 := nextC hq8 s0
    have s1 := nextC hq8 s1
    have s2 := nextC hq8 s2
    have s3 := nextC hq8 s3
    have r0 := nextC hq8 r0
    have r1 := nextC hq8 r1
    have r2 := nextC hq8 r2
    have yl := World.block_lt_of_cell? _ _ y0
    have sl := World.block_lt_of_cell? _ _ s0
    have rl := World.block_lt_of_cell? _ _ r0
    have hP8 := (hP6.below hq).below hq8
    have hI8 := (hI6.below hq).below hq8
    have hE8 := (hE6.below hq).below hq8
    have hr8 : ROut W8 Lb Ob (.slice bp0 Lb.length bc0) (.slice bop0 Ob.length boc0) := hr.below hq8
    have hBz := hqz.trans (hq8.mono hqz.size)
    have hst8 : ∀ (W : World) (hS : ∀ b o, b < W8.heap.size → W.cell? ⟨b, o, none⟩ = W8.cell? ⟨b, o, none⟩), Calls Try.prog 18 #[.agg #[.slice p P.length cap]] W fun e w' => ∃ ev, e = .returned (.agg #[.int .i64 0, ev, .int .i64 0, .slice none 0 0]) ∧ (Sl w' ev Nu.cs (List.replicate (vars P).length zN) ∧ NilOk ev) ∧ Below W.heap.size W w' := fun W hS =>
      (hst W (pgCells hP8 hS)).mono fun e w' ⟨ev, he, ho, hb⟩ => ⟨ev, he, ⟨Sl.of_own (base := W.heap.size) (e := 27) (size := 2) (by rw [List.length_replicate]; exact ho), NilOk.own ho⟩, hb⟩
    have hrf8 : ∀ (W : World) (hS : ∀ b o, b < W8.heap.size → W.cell? ⟨b, o, none⟩ = W8.cell? ⟨b, o, none⟩) (ev : Value) (he : Sl W ev Nu.cs (List.replicate (vars P).length zN) ∧ NilOk ev), Calls Try.prog 25 #[.agg #[.slice p P.length cap], .agg #[.int .i64 0, ev, .int .i64 0, .slice none 0 0], .slice ip I.length ic, .int .i64 M] W fun e w' => ∃ x : Value × Value, e = .returned ((fun x : Value × Value => Value.agg #[x.1, x.2, .bool g1]) x) ∧ (fun (x : Value × Value) W2 => ROut W2 La Oa x.1 x.2) x w' ∧ Below W.heap.size W w' := fun W hS ev he =>
      (hrf W (pgCells hP8 hS) (slCells hI8 hS) ev he.1 he.2).mono fun e w' ⟨vv, ov, he, hr, hb⟩ => ⟨(vv, ov), he, hr, hb⟩
    have hsm8 := fun (W : World) va oa vb ob (h1 : ROut W La Oa va oa) (h2 : ROut W La Oa vb ob) => same_any La Oa g1 z2 z1 z3 va oa vb ob W h1 h2
    have hrf9 := fun (W : World) (hS : ∀ b o, b < W8.heap.size → W.cell? ⟨b, o, none⟩ = W8.cell? ⟨b, o, none⟩) => hrs W (pgCells hP8 hS) (slCells hI8 hS) (slCells hE8 hS)
    generalize List.replicate (vars P).length zN = Z at hst8 hrf8
    clear hst hrf hrs hr z1 z2 z3 hq8 hB6 hqz hq hP8 hI8 hE8 hP6 hI6 hE6 hck hpk hle
    first | (go_region_held_law (fun w' => ∀ b o, b < W8.heap.size → w'.cell? ⟨b, o, none⟩ = W8.cell? ⟨b, o, none⟩)
      (((try dsimp only); intro b9 o9 h9; refine Below.cell (B := W8.heap.size) (w := W8) ?_ h9; clear h9; (repeat (first | exact Below.refl _ _ | apply Below.drew | refine Below.alloc ?_ ?_ _ | refine Below.setCell ?_ ?_ _ | refine Below.trans ?_ (Below.mono (After.below _) ?_))); (all_goals (first | (simp; done) | (simp; omega) | omega))))
      (first | ((go_at_call 18; refine' Calls.aftS _ _ (hst8 _ (by assumption)) _; rotate_left 2; (exact Below.refl _ _; rfl); intro v7 x7 ho7; have hle := After.le x7; (try simp at hle)); obtain ⟨sp7, sc7, rfl⟩ : ∃ p c, v7 = .slice p Z.length c := sl_len ho7.1) | ((go_at_call 25; refine' Calls.aftS _ _ (hrf8 _ (by assumption) _ ho7) _; rotate_left 2; (exact Below.refl _ _; rfl); intro v6 x6 ho6; have hle := After.le x6; (try simp at hle)); obtain ⟨vb, ob⟩ := v6; have ho6 : ROut x6.val La Oa vb ob := ho6; obtain ⟨⟨bp, bc, rfl⟩, bop, boc, rfl⟩ := ho6.len) | (go_at_call 24; refine' Calls.aft _ _ (hsm8 _ _ _ _ _ (ho8.cells (by assumption)) ho6) _; rotate_left 2; (exact Below.refl _ _; rfl); intro x9; have hle := After.le x9; (try simp at hle)))) | fail
    all_goals (
      have hx9 : Below W8.heap.size W8 x9.val := (((Below.refl _ _).drew).trans x7.below).trans ((x6.below.trans (x9.below.mono x6.below.size)).mono x7.below.size)
      have y0 := nextC hx9 y0
      have s0 := nextC hx9 s0
      have s1 := nextC hx9 s1
      have s2 := nextC hx9 s2
      have s3 := nextC hx9 s3
      have r0 := nextC hx9 r0
      have r1 := nextC hx9 r1
      have r2 := nextC hx9 r2
      have yl := World.block_lt_of_cell? _ _ y0
      have sl := World.block_lt_of_cell? _ _ s0
      have rl := World.block_lt_of_cell? _ _ r0
      have hBx := hBz.trans (hx9.mono hBz.size)
      have hr9 := hr8.below hx9
      have hrf9 := fun (W : World) (hS : ∀ b o, b < x9.val.heap.size → W.cell? ⟨b, o, none⟩ = x9.val.cell? ⟨b, o, none⟩) => hrf9 W (fun b o hb => (hS b o (Nat.lt_of_lt_of_le hb hx9.size)).trans (hx9.cell (p := ⟨b, o, none⟩) hb))
      go_wp2_with fail
      obtain ⟨W9, hW9⟩ : ∃ W9, W9 = x9.val := ⟨_, rfl⟩
      rw [← hW9] at y0 s0 s1 s2 s3 r0 r1 r2 yl sl rl hBx hr9 hrf9
      rw [← hW9]
      clear hW9 hx9 a0 a1 a2 al ho8 ho7 ho6 hsm8 hst8 hrf8 hr8 hBz
      first | (go_region_held_law (fun w' => ∀ b o, b < W9.heap.size → w'.cell? ⟨b, o, none⟩ = W9.cell? ⟨b, o, none⟩)
        (((try dsimp only); intro b9 o9 h9; refine Below.cell (B := W9.heap.size) (w := W9) ?_ h9; clear h9; (repeat (first | exact Below.refl _ _ | apply Below.drew | refine Below.alloc ?_ ?_ _ | refine Below.setCell ?_ ?_ _ | refine Below.trans ?_ (Below.mono (After.below _) ?_))); (all_goals (first | (simp; done) | (simp; omega) | omega))))
        (first | ((go_at_call 25; refine' Calls.aftS _ _ (hrf9 _ (by assumption)) _; rotate_left 2; (exact Below.refl _ _; rfl); intro v4 x4 ho4; have hle := After.le x4; (try simp at hle)); obtain ⟨vc, oc⟩ := v4; have ho4 : ROut x4.val Lb Ob vc oc := ho4; obtain ⟨⟨cp, cc, rfl⟩, cop, coc, rfl⟩ := ho4.len) | (go_at_call 24; refine' Calls.aft _ _ (hsm9 _ _ _ _ _ (hr9.cells (by assumption)) ho4) _; rotate_left 2; (exact Below.refl _ _; rfl); intro x5; have hle := After.le x5; (try simp at hle)))) | fail
      all_goals (
        go_wp2_with fail
        go_ret
        refine ⟨rfl, ?_⟩
        refine hBx.trans (Below.mono (?_ : Below W9.heap.size W9 _) hBx.size)
        (repeat (first | exact Below.refl _ _ | apply Below.drew | refine Below.alloc ?_ ?_ _ | refine Below.setCell ?_ ?_ _ | refine Below.trans ?_ (Below.mono (After.below _) ?_))); (all_goals (first | (simp; done) | (simp; omega) | omega))))
  have hKK := And.intro True.intro hK7
  clear hK hK7 hall2 hrf hrs hst hck hpk hP6 hI6 hE6 hsm9 z1 z2 z3
  first | (go_region_held3 (fun w' => ∀ b o, b < W6.heap.size → w'.cell? ⟨b, o, none⟩ = W6.cell? ⟨b, o, none⟩)
    (((try dsimp only); intro b9 o9 h9; refine Below.cell (B := W6.heap.size) (w := W6) ?_ h9; clear h9; (repeat (first | exact Below.refl _ _ | apply Below.drew | refine Below.alloc ?_ ?_ _ | refine Below.setCell ?_ ?_ _ | refine Below.trans ?_ (Below.mono (After.below _) ?_))); (all_goals (first | (simp; done) | (simp; omega) | omega))))
    (first | (go_at_call 20; refine' Calls.aft _ _ (state_any _ _ _ _ _ _ _ _ _) _; rotate_left 2; (exact Below.refl _ _; rfl); intro x5; have hle := After.le x5; (try simp at hle)) | ((go_at_call 19; refine' Calls.aftS _ _ (hfr _ (by assumption)) _; rotate_left 2; (exact Below.refl _ _; rfl); intro v6 x6 ho6; have hle := After.le x6; (try simp at hle)); obtain ⟨v6, v7⟩ := v6; have ho6 : FOut x6.val _ Lb Ob v6 v7 := ho6; obtain ⟨⟨mp, mc, rfl⟩, kp, kc, rfl⟩ := ho6.len))) | fail
  all_goals (
    have k5 := x5.below.size
    have kd : W6.drew.heap.size = W6.heap.size := rfl
    (try simp only [drew_size, World.size_alloc, kd] at k5)
    refine hKK.2 _ _ _ mp mc kp kc rfl ?_ ?_ ?_
    · (repeat (first | exact Below.refl _ _ | apply Below.drew | refine Below.alloc ?_ ?_ _ | refine Below.setCell ?_ ?_ _ | refine Below.trans ?_ (Below.mono (After.below _) ?_))); (all_goals (first | (simp; done) | (simp; omega) | omega))
    · first | (with_reducible exact heap_alloc_new _ _) | (with_reducible exact set3 _ _ _ (blk_next x6.below (blk_next x5.below (drew_new _ _)))) | (with_reducible exact set3 _ _ _ (blk_next x6.below (blk_next x5.below (drew_new2 _ _)))) | (with_reducible exact set3 _ _ _ (blk_next x6.below (heap_alloc_new _ _)))
    · first | (with_reducible exact (ho6.below ((Below.refl _ _).alloc (Nat.le_refl _) _)).rout) | (refine FOut.rout (FOut.set (FOut.set (FOut.set ho6 ?_) ?_) ?_) <;> first | omega | (simp [kd]; done) | (simp [kd]; omega)))

theorem execRuns_any (P : List Bl) (blk : Int) (E : List Nu) (at0 : Int) (I : List Nu) (most : Int) (pv : Value) (hcp : CapOk pv) (ev : Value) (hz1 : NilOk ev) (iv : Value) (hz2 : NilOk iv) (w : World) (h : Pg w pv P) (hE : Sl w ev Nu.cs E) (hI : Sl w iv Nu.cs I) :
    Calls Try.prog 4 #[.agg #[pv], .int .i64 blk, ev, .int .i64 at0, iv, .int .i64 most] w fun e w' => e = .returned (.bool true) ∧ Below w.heap.size w w' := by
  cases hf : fewB P E I
  · exact execRuns_few P blk E at0 I most pv hcp ev hz1 iv hz2 w h hE hI hf
  · by_cases hok : ChkS P blk E.length at0 = 0
    · exact execRuns_ok P blk E at0 I most pv hcp ev hz1 iv hz2 w h hE hI hf hok
    · exact execRuns_bad P blk E at0 I most pv hcp ev hz1 iv hz2 w h hE hI hf hok

end Go.Proofs.Ytaaklejkngpddaa.Pr

/- ExecBlocks: it answers true. -/
import Derived.Test.YtaaklejkngpddaaExg
import Derived.Test.YtaaklejkngpddaaExi
import Derived.Test.YtaaklejkngpddaaRunrc
import Derived.Deep.RegionHeld3
import Derived.Deep.RegionHeldLaw
namespace Go.Proofs.Ytaaklejkngpddaa.Pr
set_option linter.unusedVariables false
set_option linter.unusedSimpArgs false
open Go Go.RowKit

theorem fewB_le2 {P : List Bl} {E I : List Nu} (hf : fewB P E I = true) : P.length ≤ 12 ∧ (∀ b ∈ P, b.l.length ≤ 12) ∧ E.length ≤ 70 ∧ I.length ≤ 70 := by
  simp only [fewB, Bool.and_eq_true, decide_eq_true_eq] at hf
  exact ⟨(small_len hf.1.1).1, (small_len hf.1.1).2.1, hf.1.2, hf.2⟩

def frame6 (w : World) (iv : Value) (sb gb : Nat) (k : Int) (u : Nat → Value) : Act := { tmps := #[u 0, u 1, u 2, u 3, iv, .pointer (some ⟨w.heap.size, 0, none⟩), u 6, u 7, u 8, u 9, u 10, .pointer (some ⟨sb, 0, none⟩), .pointer (some ⟨gb, 0, none⟩), .int .i64 k, u 14, u 15, u 16, u 17, u 18, u 19, u 20, u 21, u 22, u 23, u 24, u 25, u 26, u 27, u 28, u 29, u 30, u 31, u 32, u 33, u 34, u 35, u 36, u 37, u 38, u 39, u 40, u 41, u 42, u 43, u 44, u 45, u 46, u 47, u 48, u 49, u 50, u 51, u 52, u 53, u 54, u 55, u 56, u 57, u 58, u 59, u 60, u 61, u 62, u 63, u 64, u 65, u 66, u 67, u 68, u 69, u 70, u 71, u 72, u 73, u 74, u 75, u 76, u 77, u 78, u 79, u 80, u 81, u 82, u 83, u 84, u 85, u 86, u 87, u 88, u 89, u 90, u 91, u 92, u 93, u 94, u 95, u 96, u 97, u 98, u 99, u 100, u 101, u 102, u 103, u 104, u 105, u 106, u 107], defers := [] }

def frame7 (w : World) (iv : Value) (sb gb nb : Nat) (k : Int) (g : Bool) (k2 : Int) (u : Nat → Value) : Act := { tmps := #[u 0, u 1, u 2, u 3, iv, .pointer (some ⟨w.heap.size, 0, none⟩), u 6, u 7, u 8, u 9, u 10, .pointer (some ⟨sb, 0, none⟩), .pointer (some ⟨gb, 0, none⟩), .int .i64 k, .pointer (some ⟨nb, 0, none⟩), .bool g, .int .i64 k2, u 17, u 18, u 19, u 20, u 21, u 22, u 23, u 24, u 25, u 26, u 27, u 28, u 29, u 30, u 31, u 32, u 33, u 34, u 35, u 36, u 37, u 38, u 39, u 40, u 41, u 42, u 43, u 44, u 45, u 46, u 47, u 48, u 49, u 50, u 51, u 52, u 53, u 54, u 55, u 56, u 57, u 58, u 59, u 60, u 61, u 62, u 63, u 64, u 65, u 66, u 67, u 68, u 69, u 70, u 71, u 72, u 73, u 74, u 75, u 76, u 77, u 78, u 79, u 80, u 81, u 82, u 83, u 84, u 85, u 86, u 87, u 88, u 89, u 90, u 91, u 92, u 93, u 94, u 95, u 96, u 97, u 98, u 99, u 100, u 101, u 102, u 103, u 104, u 105, u 106, u 107], defers := [] }

set_option maxRecDepth 100000 in
set_option maxHeartbeats 4000000 in
theorem execBlocks_few (P : List Bl) (blk : Int) (E : List Nu) (at0 : Int) (I : List Nu) (pv : Value) (hcp : CapOk pv) (ev : Value) (hz1 : NilOk ev) (iv : Value) (hz2 : NilOk iv) (w : World) (h : Pg w pv P) (hE : Sl w ev Nu.cs E) (hI : Sl w iv Nu.cs I) (hf : fewB P E I = false) :
    Calls Try.prog 6 #[.agg #[pv], .int .i64 blk, ev, .int .i64 at0, iv] w fun e w' => e = .returned (.bool true) ∧ Below w.heap.size w w' := by
  obtain ⟨p, cap, rfl⟩ : ∃ p cap, pv = .slice p P.length cap := by obtain ⟨b, off, p, cap, hv, _⟩ := h.1; exact ⟨p, cap, hv⟩
  have hfw := fun (W : World) (hB : Below w.heap.size w W) => few_any P E I _ ev iv hcp W (h.below hB) (hE.below hB) (hI.below hB)
  obtain ⟨ep, ec, rfl⟩ : ∃ p cap, ev = .slice p E.length cap := by obtain ⟨b, off, p, cap, hv, _⟩ := hE; exact ⟨p, cap, hv⟩
  obtain ⟨ip, ic, rfl⟩ : ∃ p cap, iv = .slice p I.length cap := by obtain ⟨b, off, p, cap, hv, _⟩ := hI; exact ⟨p, cap, hv⟩
  have hb1 : Below w.heap.size w (w.alloc (.cells #[.slice p P.length cap] 24)) := (Below.refl _ _).alloc (Nat.le_refl _) _
  rw [hf] at hfw
  clear h hE hI hcp hz1 hz2 hf
  go_enter Try.func6, Try.ntmps6
  go_wp2_with (first | (go_at_call 9; refine' Calls.aft _ _ (awake8_any _) _; rotate_left 2; (first | (with_reducible exact After.below _; rfl) | (with_reducible exact below_drew (After.below _); rfl) | (with_reducible exact below_set (After.below _) _ _; (go_simp; rfl)) | (with_reducible exact below_set (below_set (After.below _) _ _) _ _; (go_simp; rfl)) | (with_reducible exact below_set (below_set (below_set (After.below _) _ _) _ _) _ _; (go_simp; rfl)) | (with_reducible exact below_set (below_set (below_set (below_set (After.below _) _ _) _ _) _ _) _ _; (go_simp; rfl)) | (exact Below.refl _ _; rfl)); intro x1; have hle := After.le x1; (try simp at hle)) | (go_at_call 10; refine' Calls.aft _ _ (hfw _ (hb1.trans (x1.below.mono hb1.size))) _; rotate_left 2; (first | (with_reducible exact After.below _; rfl) | (with_reducible exact below_drew (After.below _); rfl) | (with_reducible exact below_set (After.below _) _ _; (go_simp; rfl)) | (with_reducible exact below_set (below_set (After.below _) _ _) _ _; (go_simp; rfl)) | (with_reducible exact below_set (below_set (below_set (After.below _) _ _) _ _) _ _; (go_simp; rfl)) | (with_reducible exact below_set (below_set (below_set (below_set (After.below _) _ _) _ _) _ _) _ _; (go_simp; rfl)) | (exact Below.refl _ _; rfl)); intro x2; have hle := After.le x2; (try simp at hle)))
  go_ret
  refine ⟨rfl, ?_⟩
  (repeat (first | exact Below.refl _ _ | apply Below.drew | refine Below.alloc ?_ ?_ _ | refine Below.setCell ?_ ?_ _ | refine Below.trans ?_ (Below.mono (After.below _) ?_))); (all_goals (first | (simp; done) | (simp; omega) | omega))

set_option maxRecDepth 100000 in
set_option maxHeartbeats 4000000 in
theorem execBlocks_bad (P : List Bl) (blk : Int) (E : List Nu) (at0 : Int) (I : List Nu) (pv : Value) (hcp : CapOk pv) (ev : Value) (hz1 : NilOk ev) (iv : Value) (hz2 : NilOk iv) (w : World) (h : Pg w pv P) (hE : Sl w ev Nu.cs E) (hI : Sl w iv Nu.cs I) (hf : fewB P E I = true) (hbad : ChkS P blk E.length at0 ≠ 0) :
    Calls Try.prog 6 #[.agg #[pv], .int .i64 blk, ev, .int .i64 at0, iv] w fun e w' => e = .returned (.bool true) ∧ Below w.heap.size w w' := by
  obtain ⟨h12, hl12, hEl, hIl⟩ := fewB_le2 hf
  obtain ⟨p, cap, rfl⟩ : ∃ p cap, pv = .slice p P.length cap := by obtain ⟨b, off, p, cap, hv, _⟩ := h.1; exact ⟨p, cap, hv⟩
  have hfw := fun (W : World) (hB : Below w.heap.size w W) => few_any P E I _ ev iv hcp W (h.below hB) (hE.below hB) (hI.below hB)
  obtain ⟨ep, ec, rfl⟩ : ∃ p cap, ev = .slice p E.length cap := by obtain ⟨b, off, p, cap, hv, _⟩ := hE; exact ⟨p, cap, hv⟩
  obtain ⟨ip, ic, rfl⟩ : ∃ p cap, iv = .slice p I.length cap := by obtain ⟨b, off, p, cap, hv, _⟩ := hI; exact ⟨p, cap, hv⟩
  have hb1 : Below w.heap.size w (w.alloc (.cells #[.slice p P.length cap] 24)) := (Below.refl _ _).alloc (Nat.le_refl _) _
  rw [hf] at hfw
  have hH := And.intro True.intro (And.intro h (And.intro hE hI))
  clear h hE hI hz1 hz2 hf
  go_enter Try.func6, Try.ntmps6
  go_wp2_with (first | (go_at_call 9; refine' Calls.aft _ _ (awake8_any _) _; rotate_left 2; (first | (with_reducible exact After.below _; rfl) | (with_reducible exact below_drew (After.below _); rfl) | (with_reducible exact below_set (After.below _) _ _; (go_simp; rfl)) | (with_reducible exact below_set (below_set (After.below _) _ _) _ _; (go_simp; rfl)) | (with_reducible exact below_set (below_set (below_set (After.below _) _ _) _ _) _ _; (go_simp; rfl)) | (with_reducible exact below_set (below_set (below_set (below_set (After.below _) _ _) _ _) _ _) _ _; (go_simp; rfl)) | (exact Below.refl _ _; rfl)); intro x1; have hle := After.le x1; (try simp at hle)) | (go_at_call 10; refine' Calls.aft _ _ (hfw _ (hb1.trans (x1.below.mono hb1.size))) _; rotate_left 2; (first | (with_reducible exact After.below _; rfl) | (with_reducible exact below_drew (After.below _); rfl) | (with_reducible exact below_set (After.below _) _ _; (go_simp; rfl)) | (with_reducible exact below_set (below_set (After.below _) _ _) _ _; (go_simp; rfl)) | (with_reducible exact below_set (below_set (below_set (After.below _) _ _) _ _) _ _; (go_simp; rfl)) | (with_reducible exact below_set (below_set (below_set (below_set (After.below _) _ _) _ _) _ _) _ _; (go_simp; rfl)) | (exact Below.refl _ _; rfl)); intro x2; have hle := After.le x2; (try simp at hle)))
  rename_i K hK
  have hB2 : Below w.heap.size w x2.val := hb1.trans (x2.below.mono hb1.size)
  obtain ⟨sb, hsb⟩ : ∃ sb, sb = x2.val.heap.size := ⟨_, rfl⟩
  obtain ⟨W5, hW5⟩ : ∃ W5, W5 = x2.val.alloc (.cells #[.int .i64 blk, .slice ep E.length ec, .int .i64 at0, .slice none 0 0] 43) := ⟨_, rfl⟩
  have hBa : Below x2.val.heap.size x2.val W5 := by rw [hW5]; exact (Below.refl _ _).alloc (Nat.le_refl _) _
  have y0 := nextC hBa ((x2.below.cell (p := ⟨w.heap.size, 0, none⟩) (by simp)).trans (by simp : _ = some (Value.slice p P.length cap)))
  have ss : W5.heap[sb]? = some (.cells #[.int .i64 blk, .slice ep E.length ec, .int .i64 at0, .slice none 0 0] 43 (0, 0)) := by rw [hW5, hsb]; exact heap_alloc_new _ _
  have hB5 := nextB hBa hB2
  show Code.wp _ _ _ _ (x2.val.alloc (.cells #[.int .i64 blk, .slice ep E.length ec, .int .i64 at0, .slice none 0 0] 43))
  rw [← hW5, ← hsb]
  clear hW5 hsb hBa hB2
  obtain ⟨s0, s1, s2, s3, _, sl⟩ := four ss
  have yl := World.block_lt_of_cell? _ _ y0
  have hP5 := hH.2.1.below hB5
  have hE5 := hH.2.2.1.below hB5
  clear hfw hH ss
  have hck := fun (W : World) (hB : Below W5.heap.size W5 W) => rcheckS_any P blk at0 E _ _ (.slice none 0 0) hcp W (hP5.below hB) h12 hl12 (hE5.below hB)
  have hbl := fun (W : World) (hS : ∀ b o, b < W5.heap.size → W.cell? ⟨b, o, none⟩ = W5.cell? ⟨b, o, none⟩) => block_bad P blk ⟨E, at0, []⟩ hbad _ _ (.slice none 0 0) (.slice ip I.length ic) W (pgCells hP5 hS) h12 hl12 (slCells hE5 hS) Sl.nil
  have hgo := fun (q W : World) (hq : Below W5.heap.size W5 q) (hS : ∀ b o, b < q.heap.size → W.cell? ⟨b, o, none⟩ = q.cell? ⟨b, o, none⟩) => go_bad P blk ⟨E, at0, []⟩ hbad _ _ (.slice none 0 0) W (pgCells (hP5.below hq) hS) h12 hl12 (slCells (hE5.below hq) hS) Sl.nil
  have hsm := fun (W : World) => sameS_any 0 0 0 0 [] [] [] [] (by simp) (by simp) (by simp) (by simp) (.slice none 0 0) (.slice none 0 0) (.slice none 0 0) (.slice none 0 0) W Sl.nil Sl.nil Sl.nil Sl.nil
  rw [show sameSt 0 0 [] [] 0 0 [] [] = true by unfold sameSt; simp] at hsm
  have hbl : ∀ (W : World) (hS : ∀ b o, b < W5.heap.size → W.cell? ⟨b, o, none⟩ = W5.cell? ⟨b, o, none⟩), Calls Try.prog 27 #[.agg #[.slice p P.length cap], .agg #[.int .i64 blk, .slice ep E.length ec, .int .i64 at0, .slice none 0 0], .slice ip I.length ic] W fun e w' => e = .returned (.tuple #[.agg #[.int .i64 0, .slice none 0 0, .int .i64 0, .slice none 0 0], .int .i64 (ChkS P blk E.length at0)]) ∧ Below W.heap.size W w' := hbl
  have hgo : ∀ (q W : World) (hq : Below W5.heap.size W5 q) (hS : ∀ b o, b < q.heap.size → W.cell? ⟨b, o, none⟩ = q.cell? ⟨b, o, none⟩), Calls Try.prog 28 #[.agg #[.slice p P.length cap], .agg #[.int .i64 blk, .slice ep E.length ec, .int .i64 at0, .slice none 0 0]] W fun e w' => e = .returned (.tuple #[.agg #[.int .i64 0, .slice none 0 0, .int .i64 0, .slice none 0 0], .bool false, .int .i64 (ChkS P blk E.length at0)]) ∧ Below W.heap.size W w' := hgo
  generalize ChkS P blk E.length at0 = X at hbad hck hbl hgo
  clear hP5 hE5 hcp
  have hK6 : ∀ (a2 : Act) (q : World) (gb : Nat), a2 = frame6 w (.slice ip I.length ic) sb gb X (fun i => a2.tmps.getD i undef) → Below W5.heap.size W5 q → q.heap[gb]? = some (.cells #[.int .i64 0, .slice none 0 0, .int .i64 0, .slice none 0 0] 47 (0, 0)) → K a2 q := by
    intro a2 q gb ha hq hg
    obtain ⟨u, hu⟩ : ∃ u : Nat → Value, (fun i => a2.tmps.getD i undef) = u := ⟨_, rfl⟩
    rw [hu] at ha
    clear hu
    subst ha
    refine hK _ _ ?_
    simp only [frame6]
    clear hK hbl
    have hgo := fun (W : World) => hgo q W hq
    have y0 := nextC hq y0
    have s0 := nextC hq s0
    have s1 := nextC hq s1
    have s2 := nextC hq s2
    have s3 := nextC hq s3
    have yl := World.block_lt_of_cell? _ _ y0
    have sl := World.block_lt_of_cell? _ _ s0
    go_wp2_with fail
    rename_i K7 hK7
    have hK8 : ∀ (a3 : Act) (q3 : World) (nb : Nat), a3 = frame7 w (.slice ip I.length ic) sb gb nb X false X (fun i => a3.tmps.getD i undef) → Below q.heap.size q q3 → q3.heap[nb]? = some (.cells #[.int .i64 0, .slice none 0 0, .int .i64 0, .slice none 0 0] 47 (0, 0)) → K7 a3 q3 := by
      intro a3 q3 nb ha hq3 hn
      obtain ⟨u3, hu⟩ : ∃ u : Nat → Value, (fun i => a3.tmps.getD i undef) = u := ⟨_, rfl⟩
      rw [hu] at ha
      clear hu
      subst ha
      refine hK7 _ _ ?_
      simp only [frame7]
      have hg3 := blk_next hq3 hg
      have y0 := nextC hq3 y0
      have s0 := nextC hq3 s0
      have s1 := nextC hq3 s1
      have s2 := nextC hq3 s2
      have s3 := nextC hq3 s3
      have yl := World.block_lt_of_cell? _ _ y0
      have sl := World.block_lt_of_cell? _ _ s0
      obtain ⟨g0, g1, g2, g3, _, gl⟩ := four hg3
      obtain ⟨n0, n1, n2, n3, _, nl⟩ := four hn
      have hq5 := nextB hq3 hq
      clear hK7 hgo hg hn hg3
      go_wp2_with (first | (go_at_call 22; refine' Calls.aft _ _ (hck _ hq5) _; rotate_left 2; (exact Below.refl _ _; rfl); intro x4; have hle := After.le x4; (try simp at hle)) | (go_at_call 16; first | (with_reducible refine' Calls.aft _ _ (back_any _ _ _ _ _ _ _ _ _) _; rotate_left 2; (exact Below.refl _ _; rfl); intro xx; have hle := After.le xx; (try simp at hle))) | (go_at_call 15; first | (with_reducible refine' Calls.aft _ _ (hsm _) _; rotate_left 2; (exact Below.refl _ _; rfl); intro xx; have hle := After.le xx; (try simp at hle))))
      go_ret
      refine ⟨by simp, ?_⟩
      have hBz := nextB hq5 hB5
      refine hBz.trans (Below.mono (?_ : Below q3.heap.size q3 _) hBz.size)
      (repeat (first | exact Below.refl _ _ | apply Below.drew | refine Below.alloc ?_ ?_ _ | refine Below.setCell ?_ ?_ _ | refine Below.trans ?_ (Below.mono (After.below _) ?_))); (all_goals (first | (simp; done) | (simp; omega) | omega))
    have hKK := And.intro True.intro hK8
    clear hK7 hK8
    first | (go_region_held3 (fun w' => ∀ b o, b < q.heap.size → w'.cell? ⟨b, o, none⟩ = q.cell? ⟨b, o, none⟩)
      (((try dsimp only); intro b9 o9 h9; refine Below.cell (B := q.heap.size) (w := q) ?_ h9; clear h9; (repeat (first | exact Below.refl _ _ | apply Below.drew | refine Below.alloc ?_ ?_ _ | refine Below.setCell ?_ ?_ _ | refine Below.trans ?_ (Below.mono (After.below _) ?_))); (all_goals (first | (simp; done) | (simp; omega) | omega))))
      (first | (go_at_call 20; refine' Calls.aft _ _ (state_any _ _ _ _ _ _ _ _ _) _; rotate_left 2; (exact Below.refl _ _; rfl); intro x5; have hle := After.le x5; (try simp at hle)) | (go_at_call 28; refine' Calls.aft _ _ (hgo _ (by assumption)) _; rotate_left 2; (exact Below.refl _ _; rfl); intro x6; have hle := After.le x6; (try simp at hle)))) | fail
    all_goals (
      refine hKK.2 _ _ _ rfl ?_ ?_
      · (repeat (first | exact Below.refl _ _ | apply Below.drew | refine Below.alloc ?_ ?_ _ | refine Below.setCell ?_ ?_ _ | refine Below.trans ?_ (Below.mono (After.below _) ?_))); (all_goals (first | (simp; done) | (simp; omega) | omega))
      · first | (with_reducible exact heap_alloc_new _ _) | (with_reducible exact set4 _ _ _ _ (blk_next x6.below (blk_next x5.below (drew_new _ _)))) | (with_reducible exact set4 _ _ _ _ (blk_next x6.below (blk_next x5.below (drew_new2 _ _)))) | (with_reducible exact set4 _ _ _ _ (blk_next x6.below (heap_alloc_new _ _))) | (with_reducible exact set4 _ _ _ _ (heap_alloc_new _ _)))
  have hKK := And.intro True.intro hK6
  clear hK hK6 hgo hck hsm
  first | (go_region_held3 (fun w' => ∀ b o, b < W5.heap.size → w'.cell? ⟨b, o, none⟩ = W5.cell? ⟨b, o, none⟩)
    (((try dsimp only); intro b9 o9 h9; refine Below.cell (B := W5.heap.size) (w := W5) ?_ h9; clear h9; (repeat (first | exact Below.refl _ _ | apply Below.drew | refine Below.alloc ?_ ?_ _ | refine Below.setCell ?_ ?_ _ | refine Below.trans ?_ (Below.mono (After.below _) ?_))); (all_goals (first | (simp; done) | (simp; omega) | omega))))
    (first | (go_at_call 20; refine' Calls.aft _ _ (state_any _ _ _ _ _ _ _ _ _) _; rotate_left 2; (exact Below.refl _ _; rfl); intro x5; have hle := After.le x5; (try simp at hle)) | (go_at_call 27; refine' Calls.aft _ _ (hbl _ (by assumption)) _; rotate_left 2; (exact Below.refl _ _; rfl); intro x6; have hle := After.le x6; (try simp at hle)))) | fail
  all_goals (
    refine hKK.2 _ _ _ rfl ?_ ?_
    · (repeat (first | exact Below.refl _ _ | apply Below.drew | refine Below.alloc ?_ ?_ _ | refine Below.setCell ?_ ?_ _ | refine Below.trans ?_ (Below.mono (After.below _) ?_))); (all_goals (first | (simp; done) | (simp; omega) | omega))
    · first | (with_reducible exact heap_alloc_new _ _) | (with_reducible exact set4 _ _ _ _ (blk_next x6.below (blk_next x5.below (drew_new _ _)))) | (with_reducible exact set4 _ _ _ _ (blk_next x6.below (blk_next x5.below (drew_new2 _ _)))) | (with_reducible exact set4 _ _ _ _ (blk_next x6.below (heap_alloc_new _ _))) | (with_reducible exact set4 _ _ _ _ (heap_alloc_new _ _)))

set_option maxRecDepth 100000 in
set_option maxHeartbeats 8000000 in
theorem execBlocks_ok (P : List Bl) (b : Nat) (E : List Nu) (at0 : Int) (I : List Nu) (pv : Value) (hcp : CapOk pv) (ev : Value) (hz1 : NilOk ev) (iv : Value) (hz2 : NilOk iv) (w : World) (h : Pg w pv P) (hE : Sl w ev Nu.cs E) (hI : Sl w iv Nu.cs I) (hf : fewB P E I = true) (hok : ChkS P b E.length at0 = 0) :
    Calls Try.prog 6 #[.agg #[pv], .int .i64 b, ev, .int .i64 at0, iv] w fun e w' => e = .returned (.bool true) ∧ Below w.heap.size w w' := by
  obtain ⟨h12, hl12, hEl, hIl⟩ := fewB_le2 hf
  obtain ⟨q0, q1, q2, q3, q4⟩ := chk_ok hok
  have hb : b < P.length := by omega
  obtain ⟨p, cap, rfl⟩ : ∃ p cap, pv = .slice p P.length cap := by obtain ⟨b, off, p, cap, hv, _⟩ := h.1; exact ⟨p, cap, hv⟩
  have hfw := fun (W : World) (hB : Below w.heap.size w W) => few_any P E I _ ev iv hcp W (h.below hB) (hE.below hB) (hI.below hB)
  obtain ⟨ep, ec, rfl⟩ : ∃ p cap, ev = .slice p E.length cap := by obtain ⟨b, off, p, cap, hv, _⟩ := hE; exact ⟨p, cap, hv⟩
  obtain ⟨ip, ic, rfl⟩ : ∃ p cap, iv = .slice p I.length cap := by obtain ⟨b, off, p, cap, hv, _⟩ := hI; exact ⟨p, cap, hv⟩
  obtain ⟨O, hOl, hOs⟩ : ∃ O : List Nu, O.length ≤ 0 ∧ ∀ W, Sl W (.slice none 0 0) Nu.cs O := ⟨[], Nat.le_refl _, fun W => Sl.nil⟩
  have hb1 : Below w.heap.size w (w.alloc (.cells #[.slice p P.length cap] 24)) := (Below.refl _ _).alloc (Nat.le_refl _) _
  rw [hf] at hfw
  have hH := And.intro True.intro (And.intro h (And.intro hE hI))
  have hq3 : Hid (E.length = (vars P).length) := q3
  clear h hE hI hz2 hf q3
  go_enter Try.func6, Try.ntmps6
  go_wp2_with (first | (go_at_call 9; refine' Calls.aft _ _ (awake8_any _) _; rotate_left 2; (first | (with_reducible exact After.below _; rfl) | (with_reducible exact below_drew (After.below _); rfl) | (with_reducible exact below_set (After.below _) _ _; (go_simp; rfl)) | (with_reducible exact below_set (below_set (After.below _) _ _) _ _; (go_simp; rfl)) | (with_reducible exact below_set (below_set (below_set (After.below _) _ _) _ _) _ _; (go_simp; rfl)) | (with_reducible exact below_set (below_set (below_set (below_set (After.below _) _ _) _ _) _ _) _ _; (go_simp; rfl)) | (exact Below.refl _ _; rfl)); intro x1; have hle := After.le x1; (try simp at hle)) | (go_at_call 10; refine' Calls.aft _ _ (hfw _ (hb1.trans (x1.below.mono hb1.size))) _; rotate_left 2; (first | (with_reducible exact After.below _; rfl) | (with_reducible exact below_drew (After.below _); rfl) | (with_reducible exact below_set (After.below _) _ _; (go_simp; rfl)) | (with_reducible exact below_set (below_set (After.below _) _ _) _ _; (go_simp; rfl)) | (with_reducible exact below_set (below_set (below_set (After.below _) _ _) _ _) _ _; (go_simp; rfl)) | (with_reducible exact below_set (below_set (below_set (below_set (After.below _) _ _) _ _) _ _) _ _; (go_simp; rfl)) | (exact Below.refl _ _; rfl)); intro x2; have hle := After.le x2; (try simp at hle)))
  rename_i K hK
  have hB2 : Below w.heap.size w x2.val := hb1.trans (x2.below.mono hb1.size)
  obtain ⟨sb, hsb⟩ : ∃ sb, sb = x2.val.heap.size := ⟨_, rfl⟩
  obtain ⟨W5, hW5⟩ : ∃ W5, W5 = x2.val.alloc (.cells #[.int .i64 b, .slice ep E.length ec, .int .i64 at0, .slice none 0 0] 43) := ⟨_, rfl⟩
  have hBa : Below x2.val.heap.size x2.val W5 := by rw [hW5]; exact (Below.refl _ _).alloc (Nat.le_refl _) _
  have y0 := nextC hBa ((x2.below.cell (p := ⟨w.heap.size, 0, none⟩) (by simp)).trans (by simp : _ = some (Value.slice p P.length cap)))
  have ss : W5.heap[sb]? = some (.cells #[.int .i64 b, .slice ep E.length ec, .int .i64 at0, .slice none 0 0] 43 (0, 0)) := by rw [hW5, hsb]; exact heap_alloc_new _ _
  have hB5 := nextB hBa hB2
  show Code.wp _ _ _ _ (x2.val.alloc (.cells #[.int .i64 b, .slice ep E.length ec, .int .i64 at0, .slice none 0 0] 43))
  rw [← hW5, ← hsb]
  clear hW5 hsb hBa hB2
  obtain ⟨s0, s1, s2, s3, _, sl⟩ := four ss
  have yl := World.block_lt_of_cell? _ _ y0
  have hP5 := hH.2.1.below hB5
  have hE5 := hH.2.2.1.below hB5
  have hI5 := hH.2.2.2.below hB5
  clear hfw hH ss
  have hck := fun (W : World) (hB : Below W5.heap.size W5 W) => rcheckS_any P b at0 E _ _ (.slice none 0 0) hcp W (hP5.below hB) h12 hl12 (hE5.below hB)
  rw [hok] at hck
  have hbl : ∀ (W : World) (hS : ∀ b o, b < W5.heap.size → W.cell? ⟨b, o, none⟩ = W5.cell? ⟨b, o, none⟩), Calls Try.prog 27 #[.agg #[.slice p P.length cap], .agg #[.int .i64 b, .slice ep E.length ec, .int .i64 at0, .slice none 0 0], .slice ip I.length ic] W fun e w' => ∃ x : Value × Value, e = .returned ((fun x : Value × Value => Value.tuple #[.agg #[.int .i64 b, x.1, .int .i64 (runB P I ⟨E, at0, O⟩ (P[b]'hb).l).i, x.2], .int .i64 0]) x) ∧ (fun (x : Value × Value) W2 => Rn W.heap.size W2 x.1 x.2 (runB P I ⟨E, at0, O⟩ (P[b]'hb).l)) x w' ∧ Below W.heap.size W w' := fun W hS =>
    (block_ok P I b hb ⟨E, at0, O⟩ (by show O.length ≤ _; omega) hok _ _ (.slice none 0 0) _ W (pgCells hP5 hS) h12 hl12 (slCells hI5 hS) (slCells hE5 hS) (hOs W)).mono fun e w' ⟨ev, ov, he, hr, hb⟩ => ⟨(ev, ov), he, hr, hb⟩
  have hrb : ∀ (q W : World) (hq : Below W5.heap.size W5 q) (hS : ∀ b o, b < q.heap.size → W.cell? ⟨b, o, none⟩ = q.cell? ⟨b, o, none⟩), Calls Try.prog 30 #[.agg #[.slice p P.length cap], .agg #[.int .i64 b, .slice ep E.length ec, .int .i64 at0, .slice none 0 0], .slice ip I.length ic] W fun e w' => ∃ x : Value × Value, e = .returned ((fun x : Value × Value => Value.agg #[.int .i64 b, x.1, .int .i64 (runB P I ⟨E, at0, O⟩ (P[b]'hb).l).i, x.2]) x) ∧ (fun (x : Value × Value) W2 => Rn W.heap.size W2 x.1 x.2 (runB P I ⟨E, at0, O⟩ (P[b]'hb).l)) x w' ∧ Below W.heap.size W w' := fun q W hq hS =>
    rn_pair (rrun_any P I b hb ⟨E, at0, O⟩ q0 hq3 (by show O.length ≤ _; omega) q4 (by omega) _ _ (.slice none 0 0) _ W (pgCells (hP5.below hq) hS) h12 hl12 (slCells (hI5.below hq) hS) (slCells (hE5.below hq) hS) (hOs W) hz1 NilOk.nil)
  have hr1 : (runB P I ⟨E, at0, O⟩ (P[b]'hb).l).e.length ≤ 1000000 ∧ (runB P I ⟨E, at0, O⟩ (P[b]'hb).l).o.length ≤ 1000000 := by
    have q1 := runB_len P I (P[b]'hb).l ⟨E, at0, O⟩
    have q2 := hl12 _ (List.getElem_mem hb)
    have q3 : (⟨E, at0, O⟩ : Rs).e.length ≤ 70 := hEl
    have q4 : (⟨E, at0, O⟩ : Rs).o.length ≤ 0 := hOl
    omega
  have hgo : ∀ (q W : World) (hq : Below W5.heap.size W5 q) (hS : ∀ b o, b < q.heap.size → W.cell? ⟨b, o, none⟩ = q.cell? ⟨b, o, none⟩), Calls Try.prog 28 #[.agg #[.slice p P.length cap], .agg #[.int .i64 b, .slice ep E.length ec, .int .i64 at0, .slice none 0 0]] W fun e w' => ∃ x : Value × Value, e = .returned ((fun x : Value × Value => Value.tuple #[.agg #[.int .i64 (nextI P (P[b]'hb) E b), x.1, .int .i64 at0, x.2], .bool (goesB (P[b]'hb)), .int .i64 0]) x) ∧ (fun (x : Value × Value) W2 => Rn W.heap.size W2 x.1 x.2 ⟨E, at0, O⟩) x w' ∧ Below W.heap.size W w' := fun q W hq hS =>
    (go_ok P b hb ⟨E, at0, O⟩ (by show O.length ≤ _; omega) hok _ _ (.slice none 0 0) W (pgCells (hP5.below hq) hS) h12 hl12 (slCells (hE5.below hq) hS) (hOs W)).mono fun e w' ⟨ev, ov, he, hr, hb⟩ => ⟨(ev, ov), he, hr, hb⟩
  have hrg : ∀ (W : World) (hq : Below W5.heap.size W5 W), Calls Try.prog 29 #[.agg #[.slice p P.length cap], .agg #[.int .i64 b, .slice ep E.length ec, .int .i64 at0, .slice none 0 0]] W fun e w' => ∃ x : Value × Value, e = .returned ((fun x : Value × Value => Value.tuple #[.agg #[.int .i64 (nextI P (P[b]'hb) E b), x.1, .int .i64 at0, x.2], .bool (goesB (P[b]'hb))]) x) ∧ (fun (x : Value × Value) W2 => Rn W.heap.size W2 x.1 x.2 ⟨E, at0, O⟩) x w' ∧ Below W.heap.size W w' := fun W hq =>
    (rgo_any P b hb ⟨E, at0, O⟩ q0 (by show E.length ≤ _; omega) (by show O.length ≤ _; omega) _ _ (.slice none 0 0) W (hP5.below hq) h12 hl12 (hE5.below hq) (hOs W) hz1 NilOk.nil).mono fun e w' ⟨ev, ov, he, hr, hb⟩ => ⟨(ev, ov), he, hr, hb⟩
  generalize runB P I ⟨E, at0, O⟩ (P[b]'hb).l = r1 at hbl hrb hr1
  generalize nextI P (P[b]'hb) E b = N at hgo hrg
  generalize goesB (P[b]'hb) = G at hgo hrg
  obtain ⟨hr1, hr2⟩ := hr1
  have hEl2 : E.length ≤ 1000000 := by omega
  have hOl2 : O.length ≤ 1000000 := by omega
  have hsm1 : ∀ (W : World) u1 u2 u3 u4, Sl W u1 Nu.cs r1.e → Sl W u2 Nu.cs r1.o → Sl W u3 Nu.cs r1.e → Sl W u4 Nu.cs r1.o → Calls Try.prog 15 #[.agg #[.int .i64 b, u1, .int .i64 r1.i, u2], .agg #[.int .i64 b, u3, .int .i64 r1.i, u4]] W fun e w' => e = .returned (.bool true) ∧ Below W.heap.size W w' := fun W u1 u2 u3 u4 g1 g2 g3 g4 => by
    have := sameS_any b r1.i b r1.i r1.e r1.o r1.e r1.o hr1 hr2 hr1 hr2 _ _ _ _ W g1 g2 g3 g4
    rwa [show sameSt b r1.i r1.e r1.o b r1.i r1.e r1.o = true by unfold sameSt; simp] at this
  have hsm2 : ∀ (W : World) u1 u2 u3 u4, Sl W u1 Nu.cs E → Sl W u2 Nu.cs O → Sl W u3 Nu.cs E → Sl W u4 Nu.cs O → Calls Try.prog 15 #[.agg #[.int .i64 N, u1, .int .i64 at0, u2], .agg #[.int .i64 N, u3, .int .i64 at0, u4]] W fun e w' => e = .returned (.bool true) ∧ Below W.heap.size W w' := fun W u1 u2 u3 u4 g1 g2 g3 g4 => by
    have := sameS_any N at0 N at0 E O E O hEl2 hOl2 hEl2 hOl2 _ _ _ _ W g1 g2 g3 g4
    rwa [show sameSt N at0 E O N at0 E O = true by unfold sameSt; simp] at this
  clear hP5 hE5 hI5 hcp hOs hok hz1 hq3 hr1 hr2 hEl2 hOl2 hOl hEl hIl q0 q1 q2 q4
  have hK6 : ∀ (a2 : Act) (q : World) (gb : Nat) (xp : Option Addr) (xc : Nat) (yp : Option Addr) (yc : Nat), a2 = frame6 w (.slice ip I.length ic) sb gb 0 (fun i => a2.tmps.getD i undef) → Below W5.heap.size W5 q → q.heap[gb]? = some (.cells #[.int .i64 b, .slice xp r1.e.length xc, .int .i64 r1.i, .slice yp r1.o.length yc] 47 (0, 0)) → Rn W5.heap.size q (.slice xp r1.e.length xc) (.slice yp r1.o.length yc) r1 → K a2 q := by
    intro a2 q gb xp xc yp yc ha hq hg hR
    obtain ⟨u, hu⟩ : ∃ u : Nat → Value, (fun i => a2.tmps.getD i undef) = u := ⟨_, rfl⟩
    rw [hu] at ha
    clear hu
    subst ha
    refine hK _ _ ?_
    simp only [frame6]
    clear hK hbl
    have hgo := fun (W : World) => hgo q W hq
    have y0 := nextC hq y0
    have s0 := nextC hq s0
    have s1 := nextC hq s1
    have s2 := nextC hq s2
    have s3 := nextC hq s3
    have yl := World.block_lt_of_cell? _ _ y0
    have sl := World.block_lt_of_cell? _ _ s0
    have hRe := Sl.of_own hR.e
    have hRo := Sl.of_own hR.o
    clear hR
    go_wp2_with fail
    rename_i K7 hK7
    have hK8 : ∀ (a3 : Act) (q3 : World) (nb : Nat) (zp : Option Addr) (zc : Nat) (tp : Option Addr) (tc : Nat), a3 = frame7 w (.slice ip I.length ic) sb gb nb 0 G 0 (fun i => a3.tmps.getD i undef) → Below q.heap.size q q3 → q3.heap[nb]? = some (.cells #[.int .i64 N, .slice zp E.length zc, .int .i64 at0, .slice tp O.length tc] 47 (0, 0)) → Rn q.heap.size q3 (.slice zp E.length zc) (.slice tp O.length tc) ⟨E, at0, O⟩ → K7 a3 q3 := by
      intro a3 q3 nb zp zc tp tc ha hq3 hn hR
      obtain ⟨u3, hu⟩ : ∃ u : Nat → Value, (fun i => a3.tmps.getD i undef) = u := ⟨_, rfl⟩
      rw [hu] at ha
      clear hu
      subst ha
      refine hK7 _ _ ?_
      simp only [frame7]
      have hg3 := blk_next hq3 hg
      have y0 := nextC hq3 y0
      have s0 := nextC hq3 s0
      have s1 := nextC hq3 s1
      have s2 := nextC hq3 s2
      have s3 := nextC hq3 s3
      have yl := World.block_lt_of_cell? _ _ y0
      have sl := World.block_lt_of_cell? _ _ s0
      have hq5 := nextB hq3 hq
      have hRe := hRe.below hq3
      have hRo := hRo.below hq3
      have hZe : Sl q3 (.slice zp E.length zc) Nu.cs E := Sl.of_own hR.e
      have hZo : Sl q3 (.slice tp O.length tc) Nu.cs O := Sl.of_own hR.o
      clear hK7 hgo hg hR
      go_wp2_with (first | (go_at_call 22; refine' Calls.aft _ _ (hck _ hq5) _; rotate_left 2; (exact Below.refl _ _; rfl); intro x4; have hle := After.le x4; (try simp at hle)) | ((go_at_call 29; refine' Calls.aftS _ _ (hrg _ (nextB x4.below hq5)) _; rotate_left 2; (exact Below.refl _ _; rfl); intro v5 x5 ho5; have hle := After.le x5; (try simp at hle)); obtain ⟨v5, v6⟩ := v5; have ho5 : Rn x4.val.heap.size x5.val v5 v6 ⟨E, at0, O⟩ := ho5; obtain ⟨mp, mc, rfl⟩ := own_len ho5.e; obtain ⟨kp, kc, rfl⟩ := own_len ho5.o))
      rename_i K9 hK9
      obtain ⟨W9, hW9⟩ : ∃ W9, W9 = x5.val.alloc (.cells #[.int .i64 N, .slice mp E.length mc, .int .i64 at0, .slice kp O.length kc] 43) := ⟨_, rfl⟩
      obtain ⟨wb, hwb⟩ : ∃ wb, wb = x5.val.heap.size := ⟨_, rfl⟩
      have hx9 : Below x5.val.heap.size x5.val W9 := by rw [hW9]; exact (Below.refl _ _).alloc (Nat.le_refl _) _
      have hB9 : Below q3.heap.size q3 W9 := nextB hx9 (nextB x5.below x4.below)
      have hw : W9.heap[wb]? = some (.cells #[.int .i64 N, .slice mp E.length mc, .int .i64 at0, .slice kp O.length kc] 43 (0, 0)) := by rw [hW9, hwb]; exact heap_alloc_new _ _
      show Code.wp _ _ _ _ (x5.val.alloc (.cells #[.int .i64 N, .slice mp E.length mc, .int .i64 at0, .slice kp O.length kc] 43))
      rw [← hW9, ← hwb]
      clear hW9 hwb
      have y0 := nextC hB9 y0
      have s0 := nextC hB9 s0
      have s1 := nextC hB9 s1
      have s2 := nextC hB9 s2
      have s3 := nextC hB9 s3
      have yl := World.block_lt_of_cell? _ _ y0
      have sl := World.block_lt_of_cell? _ _ s0
      obtain ⟨g0, g1, g2, g3, _, gl⟩ := four (blk_next hB9 hg3)
      obtain ⟨n0, n1, n2, n3, _, nl⟩ := four (blk_next hB9 hn)
      obtain ⟨w0, w1, w2, w3, _, wl⟩ := four hw
      have hRe := hRe.below hB9
      have hRo := hRo.below hB9
      have hZe := hZe.below hB9
      have hZo := hZo.below hB9
      have hMe : Sl W9 (.slice mp E.length mc) Nu.cs E := Sl.below (Sl.of_own ho5.e) hx9
      have hMo : Sl W9 (.slice kp O.length kc) Nu.cs O := Sl.below (Sl.of_own ho5.o) hx9
      have hq9 := nextB hB9 hq5
      have hBz := nextB hq9 hB5
      have hrb := fun W => hrb W9 W hq9
      clear hck hrg hg3 hn hw ho5 hx9 hB9 hq3 hq hB5 hq5 hq9 hle
      first | (go_region_held_law (fun w' => ∀ b o, b < W9.heap.size → w'.cell? ⟨b, o, none⟩ = W9.cell? ⟨b, o, none⟩)
        (((try dsimp only); intro b9 o9 h9; refine Below.cell (B := W9.heap.size) (w := W9) ?_ h9; clear h9; (repeat (first | exact Below.refl _ _ | apply Below.drew | refine Below.alloc ?_ ?_ _ | refine Below.setCell ?_ ?_ _ | refine Below.trans ?_ (Below.mono (After.below _) ?_))); (all_goals (first | (simp; done) | (simp; omega) | omega))))
        (first | (go_at_call 16; refine' Calls.aft _ _ (back_any _ _ _ _ _ _ _ _ _) _; rotate_left 2; (exact Below.refl _ _; rfl); intro x6; have hle := After.le x6; (try simp at hle)) | ((go_at_call 30; refine' Calls.aftS _ _ (hrb _ (by assumption)) _; rotate_left 2; (exact Below.refl _ _; rfl); intro v7 x7 ho7; have hle := After.le x7; (try simp at hle)); obtain ⟨v7, v8⟩ := v7; have ho7 : Rn _ x7.val v7 v8 r1 := ho7; obtain ⟨ap, ac, rfl⟩ := own_len ho7.e; obtain ⟨bp, bc, rfl⟩ := own_len ho7.o) | (go_at_call 15; first | (with_reducible refine' Calls.aft _ _ (hsm1 _ _ _ _ _ (slCells hRe (by assumption)) (slCells hRo (by assumption)) (Sl.of_own ho7.e) (Sl.of_own ho7.o)) _; rotate_left 2; (exact Below.refl _ _; rfl); intro xx; have hle := After.le xx; (try simp at hle)) | (with_reducible refine' Calls.aft _ _ (hsm2 _ _ _ _ _ (slCells hZe (by assumption)) (slCells hZo (by assumption)) (slCells hMe (by assumption)) (slCells hMo (by assumption))) _; rotate_left 2; (exact Below.refl _ _; rfl); intro xx; have hle := After.le xx; (try simp at hle))))) | fail
      all_goals (
        refine hK9 _ _ ?_
        go_wp2_with fail
        go_ret
        refine ⟨rfl, hBz.trans (Below.mono (?_ : Below W9.heap.size W9 _) hBz.size)⟩
        (repeat (first | exact Below.refl _ _ | apply Below.drew | refine Below.alloc ?_ ?_ _ | refine Below.setCell ?_ ?_ _ | refine Below.trans ?_ (Below.mono (After.below _) ?_))); (all_goals (first | (simp; done) | (simp; omega) | omega)))
    have hKK := And.intro True.intro hK8
    clear hK7 hK8 hRe hRo hrb hrg hsm1 hsm2 hck
    first | (go_region_held3 (fun w' => ∀ b o, b < q.heap.size → w'.cell? ⟨b, o, none⟩ = q.cell? ⟨b, o, none⟩)
      (((try dsimp only); intro b9 o9 h9; refine Below.cell (B := q.heap.size) (w := q) ?_ h9; clear h9; (repeat (first | exact Below.refl _ _ | apply Below.drew | refine Below.alloc ?_ ?_ _ | refine Below.setCell ?_ ?_ _ | refine Below.trans ?_ (Below.mono (After.below _) ?_))); (all_goals (first | (simp; done) | (simp; omega) | omega))))
      (first | (go_at_call 20; refine' Calls.aft _ _ (state_any _ _ _ _ _ _ _ _ _) _; rotate_left 2; (exact Below.refl _ _; rfl); intro x5; have hle := After.le x5; (try simp at hle)) | ((go_at_call 28; refine' Calls.aftS _ _ (hgo _ (by assumption)) _; rotate_left 2; (exact Below.refl _ _; rfl); intro v6 x6 ho6; have hle := After.le x6; (try simp at hle)); obtain ⟨v6, v7⟩ := v6; have ho6 : Rn _ x6.val v6 v7 ⟨E, at0, O⟩ := ho6; obtain ⟨mp, mc, rfl⟩ := own_len ho6.e; obtain ⟨kp, kc, rfl⟩ := own_len ho6.o))) | fail
    all_goals (
      have k5 := x5.below.size
      have k6 := x6.below.size
      have kd : q.drew.heap.size = q.heap.size := rfl
      (try simp only [drew_size, World.size_alloc, kd] at k5)
      refine hKK.2 _ _ _ mp mc kp kc rfl ?_ ?_ ?_
      · (repeat (first | exact Below.refl _ _ | apply Below.drew | refine Below.alloc ?_ ?_ _ | refine Below.setCell ?_ ?_ _ | refine Below.trans ?_ (Below.mono (After.below _) ?_))); (all_goals (first | (simp; done) | (simp; omega) | omega))
      · first | (with_reducible exact heap_alloc_new _ _) | (with_reducible exact set4 _ _ _ _ (blk_next x6.below (blk_next x5.below (drew_new _ _)))) | (with_reducible exact set4 _ _ _ _ (blk_next x6.below (blk_next x5.below (drew_new2 _ _)))) | (with_reducible exact set4 _ _ _ _ (blk_next x6.below (heap_alloc_new _ _)))
      · first | (with_reducible refine Rn.base (ho6.below ((Below.refl _ _).alloc (Nat.le_refl _) _)) ?_; first | omega | (simp [kd]; done) | (simp [kd]; omega)) | (refine Rn.base (Rn.set (Rn.set (Rn.set (Rn.set ho6 ?_) ?_) ?_) ?_) ?_ <;> first | omega | (simp [kd]; done) | (simp [kd]; omega)))
  have hKK := And.intro True.intro hK6
  clear hK hK6 hgo hck hsm1 hsm2 hrb hrg
  first | (go_region_held3 (fun w' => ∀ b o, b < W5.heap.size → w'.cell? ⟨b, o, none⟩ = W5.cell? ⟨b, o, none⟩)
    (((try dsimp only); intro b9 o9 h9; refine Below.cell (B := W5.heap.size) (w := W5) ?_ h9; clear h9; (repeat (first | exact Below.refl _ _ | apply Below.drew | refine Below.alloc ?_ ?_ _ | refine Below.setCell ?_ ?_ _ | refine Below.trans ?_ (Below.mono (After.below _) ?_))); (all_goals (first | (simp; done) | (simp; omega) | omega))))
    (first | (go_at_call 20; refine' Calls.aft _ _ (state_any _ _ _ _ _ _ _ _ _) _; rotate_left 2; (exact Below.refl _ _; rfl); intro x5; have hle := After.le x5; (try simp at hle)) | ((go_at_call 27; refine' Calls.aftS _ _ (hbl _ (by assumption)) _; rotate_left 2; (exact Below.refl _ _; rfl); intro v6 x6 ho6; have hle := After.le x6; (try simp at hle)); obtain ⟨v6, v7⟩ := v6; have ho6 : Rn _ x6.val v6 v7 r1 := ho6; obtain ⟨mp, mc, rfl⟩ := own_len ho6.e; obtain ⟨kp, kc, rfl⟩ := own_len ho6.o))) | fail
  all_goals (
    have k5 := x5.below.size
    have k6 := x6.below.size
    have kd : W5.drew.heap.size = W5.heap.size := rfl
    (try simp only [drew_size, World.size_alloc, kd] at k5)
    refine hKK.2 _ _ _ mp mc kp kc rfl ?_ ?_ ?_
    · (repeat (first | exact Below.refl _ _ | apply Below.drew | refine Below.alloc ?_ ?_ _ | refine Below.setCell ?_ ?_ _ | refine Below.trans ?_ (Below.mono (After.below _) ?_))); (all_goals (first | (simp; done) | (simp; omega) | omega))
    · first | (with_reducible exact heap_alloc_new _ _) | (with_reducible exact set4 _ _ _ _ (blk_next x6.below (blk_next x5.below (drew_new _ _)))) | (with_reducible exact set4 _ _ _ _ (blk_next x6.below (blk_next x5.below (drew_new2 _ _)))) | (with_reducible exact set4 _ _ _ _ (blk_next x6.below (heap_alloc_new _ _)))
    · first | (with_reducible refine Rn.base (ho6.below ((Below.refl _ _).alloc (Nat.le_refl _) _)) ?_; first | omega | (simp [kd]; done) | (simp [kd]; omega)) | (refine Rn.base (Rn.set (Rn.set (Rn.set (Rn.set ho6 ?_) ?_) ?_) ?_) ?_ <;> first | omega | (simp [kd]; done) | (simp [kd]; omega)))

theorem execBlocks_any (P : List Bl) (blk : Int) (E : List Nu) (at0 : Int) (I : List Nu) (pv : Value) (hcp : CapOk pv) (ev : Value) (hz1 : NilOk ev) (iv : Value) (hz2 : NilOk iv) (w : World) (h : Pg w pv P) (hE : Sl w ev Nu.cs E) (hI : Sl w iv Nu.cs I) :
    Calls Try.prog 6 #[.agg #[pv], .int .i64 blk, ev, .int .i64 at0, iv] w fun e w' => e = .returned (.bool true) ∧ Below w.heap.size w w' := by
  cases hf : fewB P E I
  · exact execBlocks_few P blk E at0 I pv hcp ev hz1 iv hz2 w h hE hI hf
  · by_cases hok : ChkS P blk E.length at0 = 0
    · obtain ⟨b, rfl⟩ : ∃ b : Nat, blk = b := ⟨blk.toNat, (Int.toNat_of_nonneg (chk_ok hok).2.1).symm⟩
      exact execBlocks_ok P b E at0 I pv hcp ev hz1 iv hz2 w h hE hI hf hok
    · exact execBlocks_bad P blk E at0 I pv hcp ev hz1 iv hz2 w h hE hI hf hok

end Go.Proofs.Ytaaklejkngpddaa.Pr

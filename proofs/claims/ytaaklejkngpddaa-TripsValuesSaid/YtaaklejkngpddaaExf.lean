/- WALKS of exec.Block, exec.Go. WALK of exec.Go. -/
import Derived.Test.YtaaklejkngpddaaRunc
import Derived.Test.YtaaklejkngpddaaExd
namespace Go.Proofs.Ytaaklejkngpddaa.Pr
set_option linter.unusedVariables false
set_option linter.unusedSimpArgs false
open Go Go.RowKit

theorem chk_ok {P : List Bl} {b i : Int} {n : Nat} (h : ChkS P b n i = 0) : checkOf P = 0 ∧ 0 ≤ b ∧ b < P.length ∧ n = (vars P).length ∧ 0 ≤ i := by
  unfold ChkS at h
  split at h
  · rename_i h0
    split at h
    · cases h
    · rename_i h1
      refine ⟨h0, by omega, by omega, ?_, by omega⟩
      by_cases e : n = (vars P).length
      · exact e
      · exact absurd (.inr (.inr (.inl e))) h1
  · rename_i h0
    exact absurd h h0
theorem chk_of {P : List Bl} {b i : Int} {n : Nat} (h0 : checkOf P = 0) (h1 : 0 ≤ b) (h2 : b < P.length) (h3 : n = (vars P).length) (h4 : 0 ≤ i) : ChkS P b n i = 0 := by
  unfold ChkS
  rw [if_pos h0, if_neg]
  rintro (h | h | h | h)
  · omega
  · omega
  · exact h h3
  · omega

def zS : Value := .agg #[.int .i64 0, .slice none 0 0, .int .i64 0, .slice none 0 0]

set_option maxRecDepth 100000 in
set_option maxHeartbeats 2000000 in
theorem block_bad (P : List Bl) (b : Int) (r : Rs) (hbad : ChkS P b r.e.length r.i ≠ 0) (pv ev ov iv : Value) (w : World) (h : Pg w pv P) (h12 : P.length ≤ 12) (hl12 : ∀ b ∈ P, b.l.length ≤ 12) (hE : Sl w ev Nu.cs r.e) (hO : Sl w ov Nu.cs r.o) :
    Calls Try.prog 27 #[.agg #[pv], .agg #[.int .i64 b, ev, .int .i64 r.i, ov], iv] w fun e w' => e = .returned (.tuple #[.agg #[.int .i64 0, .slice none 0 0, .int .i64 0, .slice none 0 0], .int .i64 (ChkS P b r.e.length r.i)]) ∧ Below w.heap.size w w' := by
  obtain ⟨p, cap, rfl⟩ : ∃ p cap, pv = .slice p P.length cap := by obtain ⟨b, off, p, cap, hv, _⟩ := h.1; exact ⟨p, cap, hv⟩
  obtain ⟨ep, ec, rfl⟩ : ∃ p cap, ev = .slice p r.e.length cap := by obtain ⟨b, off, p, cap, hv, _⟩ := hE; exact ⟨p, cap, hv⟩
  obtain ⟨op, oc, rfl⟩ : ∃ p cap, ov = .slice p r.o.length cap := by obtain ⟨b, off, p, cap, hv, _⟩ := hO; exact ⟨p, cap, hv⟩
  have hb3 := boxR_below w (.slice p P.length cap) #[.int .i64 b, .slice ep r.e.length ec, .int .i64 r.i, .slice op r.o.length oc]
  have hck := checkS_any P b r.i r.e _ _ (.slice op r.o.length oc) _ (h.below hb3) h12 hl12 (hE.below hb3)
  unfold boxR at hb3 hck
  generalize ChkS P b r.e.length r.i = K at hbad hck ⊢
  have hKb : (K == 0) = false := by simp [hbad]
  clear h hE hO
  go_enter Try.func27, Try.ntmps27
  go_wp2_with (go_at_call 48; refine' Calls.aft _ _ (hck) _; rotate_left 2; (first | (with_reducible exact After.below _; rfl) | (with_reducible exact below_drew (After.below _); rfl) | (with_reducible exact below_set (After.below _) _ _; (go_simp; rfl)) | (with_reducible exact below_set (below_set (After.below _) _ _) _ _; (go_simp; rfl)) | (with_reducible exact below_set (below_set (below_set (After.below _) _ _) _ _) _ _; (go_simp; rfl)) | (with_reducible exact below_set (below_set (below_set (below_set (After.below _) _ _) _ _) _ _) _ _; (go_simp; rfl)) | (exact Below.refl _ _; rfl)); intro x1; have hle := After.le x1; (try simp at hle))
  refine bodyPost_ret (v := .tuple #[.agg #[.int .i64 0, .slice none 0 0, .int .i64 0, .slice none 0 0], .int .i64 K]) (by simp only [results, Try.results27]; go_simp) rfl ⟨rfl, ?_⟩
  (repeat (first | exact Below.refl _ _ | apply Below.drew | refine Below.alloc ?_ ?_ _ | refine Below.setCell ?_ ?_ _ | refine Below.trans ?_ (Below.mono (After.below _) ?_))); (all_goals (first | (simp; done) | (simp; omega) | omega))

set_option maxRecDepth 100000 in
set_option maxHeartbeats 2000000 in
theorem block_ok (P : List Bl) (I : List Nu) (b : Nat) (hb : b < P.length) (r : Rs) (hol : r.o.length ≤ 90000) (hok : ChkS P b r.e.length r.i = 0) (pv ev ov iv : Value) (w : World) (h : Pg w pv P) (h12 : P.length ≤ 12) (hl12 : ∀ b ∈ P, b.l.length ≤ 12) (hI : Sl w iv Nu.cs I) (hE : Sl w ev Nu.cs r.e) (hO : Sl w ov Nu.cs r.o) :
    Calls Try.prog 27 #[.agg #[pv], .agg #[.int .i64 b, ev, .int .i64 r.i, ov], iv] w fun e w' => ∃ ev' ov', e = .returned (.tuple #[.agg #[.int .i64 b, ev', .int .i64 (runB P I r (P[b]'hb).l).i, ov'], .int .i64 0]) ∧ Rn w.heap.size w' ev' ov' (runB P I r (P[b]'hb).l) ∧ Below w.heap.size w w' := by
  obtain ⟨q0, q1, q2, q3, q4⟩ := chk_ok hok
  obtain ⟨p, cap, rfl⟩ : ∃ p cap, pv = .slice p P.length cap := by obtain ⟨b, off, p, cap, hv, _⟩ := h.1; exact ⟨p, cap, hv⟩
  obtain ⟨ip, ic, rfl⟩ : ∃ p cap, iv = .slice p I.length cap := by obtain ⟨b, off, p, cap, hv, _⟩ := hI; exact ⟨p, cap, hv⟩
  have hrun := fun (W : World) (hB : Below w.heap.size w W) => run_any P I b hb r q0 q3 hol q4 _ _ _ _ W (h.below hB) h12 hl12 (hI.below hB) (hE.below hB) (hO.below hB)
  obtain ⟨ep, ec, rfl⟩ : ∃ p cap, ev = .slice p r.e.length cap := by obtain ⟨b, off, p, cap, hv, _⟩ := hE; exact ⟨p, cap, hv⟩
  obtain ⟨op, oc, rfl⟩ : ∃ p cap, ov = .slice p r.o.length cap := by obtain ⟨b, off, p, cap, hv, _⟩ := hO; exact ⟨p, cap, hv⟩
  have hb3 := boxR_below w (.slice p P.length cap) #[.int .i64 b, .slice ep r.e.length ec, .int .i64 r.i, .slice op r.o.length oc]
  have hck := checkS_any P b r.i r.e _ _ (.slice op r.o.length oc) _ (h.below hb3) h12 hl12 (hE.below hb3)
  rw [hok] at hck
  have hb3' : Below w.heap.size w (boxR w (.slice p P.length cap) #[.int .i64 b, .slice ep r.e.length ec, .int .i64 r.i, .slice op r.o.length oc]) := hb3
  unfold boxR at hb3 hck
  generalize runB P I r (P[b]'hb).l = r1 at hrun ⊢
  clear h hE hO hI q0 q1 q2 q3 q4 hok
  go_enter Try.func27, Try.ntmps27
  go_wp2_with (first | (go_at_call 48; refine' Calls.aft _ _ (hck) _; rotate_left 2; (first | (with_reducible exact After.below _; rfl) | (with_reducible exact below_drew (After.below _); rfl) | (with_reducible exact below_set (After.below _) _ _; (go_simp; rfl)) | (with_reducible exact below_set (below_set (After.below _) _ _) _ _; (go_simp; rfl)) | (with_reducible exact below_set (below_set (below_set (After.below _) _ _) _ _) _ _; (go_simp; rfl)) | (with_reducible exact below_set (below_set (below_set (below_set (After.below _) _ _) _ _) _ _) _ _; (go_simp; rfl)) | (exact Below.refl _ _; rfl)); intro x1; have hle := After.le x1; (try simp at hle)) | (go_at_call 51; refine (hrun _ (hb3.trans (x1.below.mono hb3.size))).mono ?_; rintro e q ⟨ev2, ov2, rfl, hR2, hq⟩; have hx1 : Below (boxR w (.slice p P.length cap) #[.int .i64 b, .slice ep r.e.length ec, .int .i64 r.i, .slice op r.o.length oc]).heap.size (boxR w (.slice p P.length cap) #[.int .i64 b, .slice ep r.e.length ec, .int .i64 r.i, .slice op r.o.length oc]) x1.val := x1.below; obtain ⟨xp2, xc2, rfl⟩ := own_len hR2.e; obtain ⟨yp2, yc2, rfl⟩ := own_len hR2.o; obtain ⟨i0, i1, i2, i3, jf, il⟩ := four (blk_next hq (blk_next hx1 (boxR_r _ _ _))); have if0 := jf 0; have if1 := jf 1; have if2 := jf 2; have if3 := jf 3; have hBq := (hb3.trans (x1.below.mono hb3.size)).trans (hq.mono (by have := x1.below.size; have := hb3.size; omega))))
  have hsz : w.heap.size + 1 + 1 + 1 ≤ x1.val.heap.size := by have := x1.below.size; simpa using this
  refine bodyPost_ret (v := .tuple #[.agg #[.int .i64 b, .slice xp2 r1.e.length xc2, .int .i64 r1.i, .slice yp2 r1.o.length yc2], .int .i64 0]) (by simp only [results, Try.results27]; go_simp) rfl ⟨_, _, rfl, ?_, ?_⟩
  · refine Rn.base ?_ (by omega : w.heap.size ≤ x1.val.heap.size)
    (repeat (first | (with_reducible exact hR2) | refine Rn.set ?_ ?_))
    all_goals omega
  · (repeat (first | (with_reducible exact hBq) | refine Below.setCell ?_ ?_ _))
    all_goals (show w.heap.size ≤ w.heap.size + 1 + 1; omega)

end Go.Proofs.Ytaaklejkngpddaa.Pr

namespace Go.Proofs.Ytaaklejkngpddaa.Pr
set_option linter.unusedVariables false
set_option linter.unusedSimpArgs false
open Go Go.RowKit

set_option maxRecDepth 100000 in
set_option maxHeartbeats 2000000 in
theorem go_bad (P : List Bl) (b : Int) (r : Rs) (hbad : ChkS P b r.e.length r.i ≠ 0) (pv ev ov : Value) (w : World) (h : Pg w pv P) (h12 : P.length ≤ 12) (hl12 : ∀ b ∈ P, b.l.length ≤ 12) (hE : Sl w ev Nu.cs r.e) (hO : Sl w ov Nu.cs r.o) :
    Calls Try.prog 28 #[.agg #[pv], .agg #[.int .i64 b, ev, .int .i64 r.i, ov]] w fun e w' => e = .returned (.tuple #[.agg #[.int .i64 0, .slice none 0 0, .int .i64 0, .slice none 0 0], .bool false, .int .i64 (ChkS P b r.e.length r.i)]) ∧ Below w.heap.size w w' := by
  obtain ⟨p, cap, rfl⟩ : ∃ p cap, pv = .slice p P.length cap := by obtain ⟨b, off, p, cap, hv, _⟩ := h.1; exact ⟨p, cap, hv⟩
  obtain ⟨ep, ec, rfl⟩ : ∃ p cap, ev = .slice p r.e.length cap := by obtain ⟨b, off, p, cap, hv, _⟩ := hE; exact ⟨p, cap, hv⟩
  obtain ⟨op, oc, rfl⟩ : ∃ p cap, ov = .slice p r.o.length cap := by obtain ⟨b, off, p, cap, hv, _⟩ := hO; exact ⟨p, cap, hv⟩
  have hb3 := boxR_below w (.slice p P.length cap) #[.int .i64 b, .slice ep r.e.length ec, .int .i64 r.i, .slice op r.o.length oc]
  have hck := checkS_any P b r.i r.e _ _ (.slice op r.o.length oc) _ (h.below hb3) h12 hl12 (hE.below hb3)
  unfold boxR at hb3 hck
  generalize ChkS P b r.e.length r.i = K at hbad hck ⊢
  have hKb : (K == 0) = false := by simp [hbad]
  clear h hE hO
  go_enter Try.func28, Try.ntmps28
  go_wp2_with (go_at_call 48; refine' Calls.aft _ _ (hck) _; rotate_left 2; (first | (with_reducible exact After.below _; rfl) | (with_reducible exact below_drew (After.below _); rfl) | (with_reducible exact below_set (After.below _) _ _; (go_simp; rfl)) | (with_reducible exact below_set (below_set (After.below _) _ _) _ _; (go_simp; rfl)) | (with_reducible exact below_set (below_set (below_set (After.below _) _ _) _ _) _ _; (go_simp; rfl)) | (with_reducible exact below_set (below_set (below_set (below_set (After.below _) _ _) _ _) _ _) _ _; (go_simp; rfl)) | (exact Below.refl _ _; rfl)); intro x1; have hle := After.le x1; (try simp at hle))
  refine bodyPost_ret (v := .tuple #[.agg #[.int .i64 0, .slice none 0 0, .int .i64 0, .slice none 0 0], .bool false, .int .i64 K]) (by simp only [results, Try.results28]; go_simp) rfl ⟨rfl, ?_⟩
  (repeat (first | exact Below.refl _ _ | apply Below.drew | refine Below.alloc ?_ ?_ _ | refine Below.setCell ?_ ?_ _ | refine Below.trans ?_ (Below.mono (After.below _) ?_))); (all_goals (first | (simp; done) | (simp; omega) | omega))

set_option maxRecDepth 100000 in
set_option maxHeartbeats 4000000 in
theorem go_ok (P : List Bl) (b : Nat) (hb : b < P.length) (r : Rs) (hol : r.o.length ≤ 90000) (hok : ChkS P b r.e.length r.i = 0) (pv ev ov : Value) (w : World) (h : Pg w pv P) (h12 : P.length ≤ 12) (hl12 : ∀ b ∈ P, b.l.length ≤ 12) (hE : Sl w ev Nu.cs r.e) (hO : Sl w ov Nu.cs r.o) :
    Calls Try.prog 28 #[.agg #[pv], .agg #[.int .i64 b, ev, .int .i64 r.i, ov]] w fun e w' => ∃ ev' ov', e = .returned (.tuple #[.agg #[.int .i64 (nextI P (P[b]'hb) r.e b), ev', .int .i64 r.i, ov'], .bool (goesB (P[b]'hb)), .int .i64 0]) ∧ Rn w.heap.size w' ev' ov' r ∧ Below w.heap.size w w' := by
  obtain ⟨q0, q1, q2, q3, q4⟩ := chk_ok hok
  have hel : r.e.length ≤ 1000 := by have := (proper_vars q0).1; omega
  obtain ⟨p, cap, rfl⟩ : ∃ p cap, pv = .slice p P.length cap := by obtain ⟨b, off, p, cap, hv, _⟩ := h.1; exact ⟨p, cap, hv⟩
  have hcl := fun (W : World) (hB : Below w.heap.size w W) => rn_pair (cloneS_any b r (by omega) (by omega) _ _ W (hE.below hB) (hO.below hB))
  have hfo := fun (W : World) (hB : Below w.heap.size w W) ev ov hE hO => follow_any P b hb r.e r.o r.i q0 _ ev ov W (h.below hB) h12 hl12 hE hO
  obtain ⟨ep, ec, rfl⟩ : ∃ p cap, ev = .slice p r.e.length cap := by obtain ⟨b, off, p, cap, hv, _⟩ := hE; exact ⟨p, cap, hv⟩
  obtain ⟨op, oc, rfl⟩ : ∃ p cap, ov = .slice p r.o.length cap := by obtain ⟨b, off, p, cap, hv, _⟩ := hO; exact ⟨p, cap, hv⟩
  have hb3 := boxR_below w (.slice p P.length cap) #[.int .i64 b, .slice ep r.e.length ec, .int .i64 r.i, .slice op r.o.length oc]
  have hck := checkS_any P b r.i r.e _ _ (.slice op r.o.length oc) _ (h.below hb3) h12 hl12 (hE.below hb3)
  rw [hok] at hck
  have hb3' : Below w.heap.size w (boxR w (.slice p P.length cap) #[.int .i64 b, .slice ep r.e.length ec, .int .i64 r.i, .slice op r.o.length oc]) := hb3
  unfold boxR at hb3 hck
  generalize nextI P (P[b]'hb) r.e b = N at hfo ⊢
  generalize goesB (P[b]'hb) = G at hfo ⊢
  clear h hE hO q0 q1 q2 q3 q4 hok
  go_enter Try.func28, Try.ntmps28
  go_wp2_with (go_at_call 48; refine' Calls.aft _ _ (hck) _; rotate_left 2; (first | (with_reducible exact After.below _; rfl) | (with_reducible exact below_drew (After.below _); rfl) | (with_reducible exact below_set (After.below _) _ _; (go_simp; rfl)) | (with_reducible exact below_set (below_set (After.below _) _ _) _ _; (go_simp; rfl)) | (with_reducible exact below_set (below_set (below_set (After.below _) _ _) _ _) _ _; (go_simp; rfl)) | (with_reducible exact below_set (below_set (below_set (below_set (After.below _) _ _) _ _) _ _) _ _; (go_simp; rfl)) | (exact Below.refl _ _; rfl)); intro x1; have hle := After.le x1; (try simp at hle))
  obtain ⟨W1, hW1⟩ : ∃ W1, W1 = x1.val := ⟨_, rfl⟩
  have hx1 : Below (boxR w (.slice p P.length cap) #[.int .i64 b, .slice ep r.e.length ec, .int .i64 r.i, .slice op r.o.length oc]).heap.size (boxR w (.slice p P.length cap) #[.int .i64 b, .slice ep r.e.length ec, .int .i64 r.i, .slice op r.o.length oc]) W1.drew := by rw [hW1]; exact x1.below.drew
  have hB1 : Below w.heap.size w W1.drew := hb3'.trans (hx1.mono hb3'.size)
  rw [← hW1]
  have hs0 := blk_next hx1 (boxR_s _ _ _)
  have hr0 := blk_next hx1 (boxR_r _ _ _)
  obtain ⟨j0, j1, j2, j3, jf, jl⟩ := four hs0
  have hp0 := cell_of_one (blk_next hx1 (boxR_p _ _ _))
  have pl := World.block_lt_of_cell? _ _ hp0
  have hsz : w.heap.size + 1 + 1 + 1 ≤ W1.drew.heap.size := by have := hx1.size; rwa [boxR_size] at this
  clear hW1 hx1 hck
  first | (go_region_law (first | (refine stepSG rfl 49 #[.agg #[.int .i64 b, .slice ep r.e.length ec, .int .i64 r.i, .slice op r.o.length oc]] (fun x : Value × Value => Value.agg #[.int .i64 b, x.1, .int .i64 r.i, x.2]) (fun (x : Value × Value) W2 => Rn W1.drew.heap.size W2 x.1 x.2 r) ?hop3 (hcl _ hB1) ?_; (case hop3 => (go_simp; done)); rintro ⟨ev1, ov1⟩ q1 hR1 hq1; have hR1 : Rn W1.drew.heap.size q1 ev1 ov1 r := hR1; obtain ⟨xp, xc, rfl⟩ := own_len hR1.e; obtain ⟨yp, yc, rfl⟩ := own_len hR1.o; have hB2 := nextB hq1 hB1; have hs1 := blk_next hq1 hs0; have hr1 := blk_next hq1 hr0; have hp1 := nextC hq1 hp0; have pl1 := World.block_lt_of_cell? _ _ hp1) | (refine stepBG rfl 50 #[.agg #[.slice p P.length cap], .agg #[.int .i64 b, .slice xp r.e.length xc, .int .i64 r.i, .slice yp r.o.length yc]] (.tuple #[.agg #[.int .i64 N, .slice xp r.e.length xc, .int .i64 r.i, .slice yp r.o.length yc], .bool G]) ?hop2 (hfo _ hB2 _ _ (Sl.of_own hR1.e) (Sl.of_own hR1.o)) ?_; (case hop2 => (go_simp; done)); intro q2 hq2; have hB3 := nextB hq2 hB2; have hR2 := hR1.below hq2; obtain ⟨k0, k1, k2, k3, kf, kl⟩ := four (blk_next hq2 hs1); obtain ⟨m0, m1, m2, m3, mf, ml⟩ := four (blk_next hq2 hr1); have kf0 := kf 0; have kf1 := kf 1; have kf2 := kf 2; have kf3 := kf 3; have mf0 := mf 0; have mf1 := mf 1; have mf2 := mf 2; have mf3 := mf 3))) | fail
  all_goals (
    clear hcl hfo hs0 hr0 j0 j1 j2 j3 jf jl hp0 pl hq1 hR1 hs1 hr1 hp1 pl1 hq2
    go_wp2_with fail
    refine bodyPost_ret (v := .tuple #[.agg #[.int .i64 N, .slice xp r.e.length xc, .int .i64 r.i, .slice yp r.o.length yc], .bool G, .int .i64 0]) (by simp only [results, Try.results28]; go_simp) rfl ⟨_, _, rfl, ?_, ?_⟩
    · refine Rn.base ?_ (by omega : w.heap.size ≤ W1.drew.heap.size)
      (repeat (first | (with_reducible exact hR2) | refine Rn.set ?_ ?_))
      all_goals omega
    · (repeat (first | (with_reducible exact hB3) | refine Below.setCell ?_ ?_ _))
      all_goals first | (show w.heap.size ≤ w.heap.size + 1; omega) | (show w.heap.size ≤ w.heap.size + 1 + 1; omega))

end Go.Proofs.Ytaaklejkngpddaa.Pr

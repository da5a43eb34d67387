/- soughlaw04.awake, ProperChecks: they answer true. -/
import Derived.Test.YtekpkhgpjpgcbaaChkh
import Derived.Test.YtekpkhgpjpgcbaaChki
import Derived.Deep.RegionLaw
namespace Go.Proofs.Ytekpkhgpjpgcbaa.Pr
set_option linter.unusedVariables false
set_option linter.unusedSimpArgs false
open Go Go.RowKit

theorem nameB_a : Tk.nameB ⟨#[97]⟩ = true := by
  have h : Tk.runTo Tk.alnumB ⟨#[97]⟩ 0 = 1 := by rw [Tk.runTo_go (by decide) (by decide), Tk.runTo_stop (fun h => absurd h (by decide))]
  rw [Tk.nameB, h]; decide +kernel

def P1 : List Bl := [⟨⟨#[97]⟩, [], ⟨3, zA, ⟨#[]⟩, ⟨#[]⟩⟩, .slice none 0 0⟩]
theorem P1_pg (W : World) (sb : Nat) (hsb : sb = W.heap.size) : Pg (W.alloc (.cells #[.string ⟨#[97]⟩, .slice none 0 0, .int .i64 3, .string ⟨#[]⟩, .int .i64 0, .int .i64 0, .string ⟨#[]⟩, .string ⟨#[]⟩] 108)) (.slice (some ⟨sb, 0, none⟩) 1 1) P1 := by
  subst hsb
  refine ⟨Sl.lit P1 rfl rfl (heap_alloc_new W _), fun b hb => ?_⟩
  have : b = ⟨⟨#[97]⟩, [], ⟨3, zA, ⟨#[]⟩, ⟨#[]⟩⟩, .slice none 0 0⟩ := by simpa [P1] using hb
  subst this
  exact Sl.nil
theorem P1_check : checkOf P1 = 0 := by
  refine check_0 (by decide) (by decide) (by simp [P1]) ?_ (by show ¬ 64 < (putS [] ⟨#[]⟩).length; decide +kernel) (fun k hk => ?_) (fun k hk => ?_)
  · show (blockB _ && true) = true
    rw [blockB_def]
    show ((Tk.nameB ⟨#[97]⟩ && _) && true) = true
    rw [nameB_a]
    decide +kernel
  · have : k = 0 := by simp [P1] at hk; exact hk
    subst this
    rfl
  · have : k = 0 := by simp [P1] at hk; exact hk
    subst this
    rfl

set_option maxRecDepth 100000 in
theorem awake4_any (w : World) : Calls Try.prog 39 #[] w fun e w' => e = .returned (.bool true) ∧ Below w.heap.size w w' := by
  have h2 := fun (W : World) (sb : Nat) (hsb : sb = W.heap.size) => pcheck_any P1 (by decide) (by simp [P1]) _ _ (P1_pg W sb hsb)
  rw [P1_check] at h2
  go_enter Try.func39, Try.ntmps39
  go_wp2_with (go_at_call 40; first | (with_reducible refine' Calls.aft _ _ (check_none none 0 _) _; rotate_left 2; (first | (with_reducible exact After.below _; rfl) | (with_reducible exact below_drew (After.below _); rfl) | (with_reducible exact below_set (After.below _) _ _; (go_simp; rfl)) | (with_reducible exact below_set (below_set (After.below _) _ _) _ _; (go_simp; rfl)) | (with_reducible exact below_set (below_set (below_set (After.below _) _ _) _ _) _ _; (go_simp; rfl)) | (with_reducible exact below_set (below_set (below_set (below_set (After.below _) _ _) _ _) _ _) _ _; (go_simp; rfl)) | (exact Below.refl _ _; rfl)); intro x1; have hle := After.le x1; (try simp at hle)) | (with_reducible refine' Calls.aft _ _ (h2 _ _ (by simp)) _; rotate_left 2; (first | (with_reducible exact After.below _; rfl) | (with_reducible exact below_drew (After.below _); rfl) | (with_reducible exact below_set (After.below _) _ _; (go_simp; rfl)) | (with_reducible exact below_set (below_set (After.below _) _ _) _ _; (go_simp; rfl)) | (with_reducible exact below_set (below_set (below_set (After.below _) _ _) _ _) _ _; (go_simp; rfl)) | (with_reducible exact below_set (below_set (below_set (below_set (After.below _) _ _) _ _) _ _) _ _; (go_simp; rfl)) | (exact Below.refl _ _; rfl)); intro x2; have hle := After.le x2; (try simp at hle)))
  go_ret
  refine ⟨rfl, ?_⟩
  (repeat (first | exact Below.refl _ _ | apply Below.drew | refine Below.alloc ?_ ?_ _ | refine Below.setCell ?_ ?_ _ | refine Below.trans ?_ (Below.mono (After.below _) ?_))); (all_goals (first | (simp; done) | (simp; omega) | omega))

/-- The same, guarded. -/
theorem step_callBG {P : Program} {ops : Array Oper} {o : Oper} {a : Act} {w : World} {K : Act → World → Prop} {Q : Exit → Act → World → Prop} {E : Prop} (hgd : Region.wanted o (yielded ops a.tmps) = true) (f : FuncId) (vs : Array Value) (v : Value)
    (hop : (execOp a.eval o).run P w = .ok (.enter f vs) w)
    (h : Calls P f vs w fun e w' => e = .returned v ∧ Below w.heap.size w w') (hk : ∀ w', Below w.heap.size w w' → K (a.put o.dst v) w') :
    if Region.wanted o (yielded ops a.tmps) = true then Oper.wp P o a w K Q else E := by
  rw [if_pos hgd]
  unfold Oper.wp
  rw [hop, Oper.upon_enter]
  exact h.mono fun e w' ⟨he, hb⟩ => by subst he; exact hk w' hb
theorem step_callSG {P : Program} {ops : Array Oper} {o : Oper} {a : Act} {w : World} {K : Act → World → Prop} {Q : Exit → Act → World → Prop} {E : Prop} (hgd : Region.wanted o (yielded ops a.tmps) = true) (f : FuncId) (vs : Array Value) (S : Value → World → Prop)
    (hop : (execOp a.eval o).run P w = .ok (.enter f vs) w)
    (h : Calls P f vs w fun e w' => ∃ v, e = .returned v ∧ S v w' ∧ Below w.heap.size w w') (hk : ∀ v w', S v w' → Below w.heap.size w w' → K (a.put o.dst v) w') :
    if Region.wanted o (yielded ops a.tmps) = true then Oper.wp P o a w K Q else E := by
  rw [if_pos hgd]
  unfold Oper.wp
  rw [hop, Oper.upon_enter]
  exact h.mono fun e w' ⟨v, he, hs, hb⟩ => by subst he; exact hk v w' hs hb

theorem below_next {w W q : World} (hq : Below W.heap.size W q) (h : Below w.heap.size w W) : Below w.heap.size w q := h.trans (hq.mono h.size)
theorem box_next {W q : World} {a : Addr} {v : Value} (hq : Below W.heap.size W q) (h : W.cell? a = some v) : q.cell? a = some v := (hq.cell (p := a) (World.block_lt_of_cell? _ _ h)).trans h

set_option maxRecDepth 100000 in
set_option maxHeartbeats 4000000 in
theorem properChecks_any (P : List Bl) (pv : Value) (hcp : CapOk pv) (w : World) (h : Pg w pv P) :
    Calls Try.prog 7 #[.agg #[pv]] w fun e w' => e = .returned (.bool true) ∧ Below w.heap.size w w' := by
  have hpg : ∀ W, Below w.heap.size w W → Pg W pv P := fun W hB => h.below hB
  have hsm := fun W hB => small_any P pv W (hpg W hB)
  obtain ⟨p, cap, hpv⟩ : ∃ p cap, pv = .slice p P.length cap := by obtain ⟨b, off, p, cap, hv, _⟩ := h.1; exact ⟨p, cap, hv⟩
  subst hpv
  have hb0 : Below w.heap.size w (w.alloc (.cells #[.slice p P.length cap] 24)) := (Below.refl _ _).alloc (Nat.le_refl _) _
  cases hs : smallB P
  · rw [hs] at hsm
    go_enter Try.func7, Try.ntmps7
    go_wp2_with (first | (go_at_call 39; refine' Calls.aft _ _ (awake4_any _) _; rotate_left 2; (first | (with_reducible exact After.below _; rfl) | (with_reducible exact below_drew (After.below _); rfl) | (with_reducible exact below_set (After.below _) _ _; (go_simp; rfl)) | (with_reducible exact below_set (below_set (After.below _) _ _) _ _; (go_simp; rfl)) | (with_reducible exact below_set (below_set (below_set (After.below _) _ _) _ _) _ _; (go_simp; rfl)) | (with_reducible exact below_set (below_set (below_set (below_set (After.below _) _ _) _ _) _ _) _ _; (go_simp; rfl)) | (exact Below.refl _ _; rfl)); intro x1; have hle := After.le x1; (try simp at hle)) | (go_at_call 17; refine' Calls.aft _ _ (hsm _ (hb0.trans (x1.below.mono (by simp)))) _; rotate_left 2; (first | (with_reducible exact After.below _; rfl) | (with_reducible exact below_drew (After.below _); rfl) | (with_reducible exact below_set (After.below _) _ _; (go_simp; rfl)) | (with_reducible exact below_set (below_set (After.below _) _ _) _ _; (go_simp; rfl)) | (with_reducible exact below_set (below_set (below_set (After.below _) _ _) _ _) _ _; (go_simp; rfl)) | (with_reducible exact below_set (below_set (below_set (below_set (After.below _) _ _) _ _) _ _) _ _; (go_simp; rfl)) | (exact Below.refl _ _; rfl)); intro x2; have hle := After.le x2; (try simp at hle)))
    go_ret
    refine ⟨rfl, ?_⟩
    (repeat (first | exact Below.refl _ _ | apply Below.drew | refine Below.alloc ?_ ?_ _ | refine Below.setCell ?_ ?_ _ | refine Below.trans ?_ (Below.mono (After.below _) ?_))); (all_goals (first | (simp; done) | (simp; omega) | omega))
  rw [hs] at hsm
  obtain ⟨h12, hl12, hn⟩ := small_len hs
  have hvl : (vars P).length ≤ 444 := by have := blVars_len hl12 P.length; show (blVars P P.length).length ≤ _; omega
  have ht1 := fun W hB => pcheck_any P h12 hl12 _ W (hpg W hB)
  have ht2 := fun W hB => rcheck_any P h12 hl12 _ hcp W (hpg W hB)
  have ht3 := fun W hB => pstmts_any P _ W (hpg W hB) h12 hl12
  have ht4 := fun W hB => rstmts_any P _ W (hpg W hB) h12 hl12
  have ht5 := fun W hB => vars_any P _ W (hpg W hB) h12 hl12
  have ht6 := fun W hB => rvars_any P _ W (hpg W hB) h12 hl12
  generalize checkOf P = R at ht1 ht2
  generalize stmtsOf P = sn at ht3 ht4
  generalize vars P = V at ht5 ht6 hvl
  clear hs hl12 hn hpg h hcp
  go_enter Try.func7, Try.ntmps7
  go_wp2_with (first | (go_at_call 39; refine' Calls.aft _ _ (awake4_any _) _; rotate_left 2; (first | (with_reducible exact After.below _; rfl) | (with_reducible exact below_drew (After.below _); rfl) | (with_reducible exact below_set (After.below _) _ _; (go_simp; rfl)) | (with_reducible exact below_set (below_set (After.below _) _ _) _ _; (go_simp; rfl)) | (with_reducible exact below_set (below_set (below_set (After.below _) _ _) _ _) _ _; (go_simp; rfl)) | (with_reducible exact below_set (below_set (below_set (below_set (After.below _) _ _) _ _) _ _) _ _; (go_simp; rfl)) | (exact Below.refl _ _; rfl)); intro x1; have hle := After.le x1; (try simp at hle)) | (go_at_call 17; refine' Calls.aft _ _ (hsm _ (hb0.trans (x1.below.mono (by simp)))) _; rotate_left 2; (first | (with_reducible exact After.below _; rfl) | (with_reducible exact below_drew (After.below _); rfl) | (with_reducible exact below_set (After.below _) _ _; (go_simp; rfl)) | (with_reducible exact below_set (below_set (After.below _) _ _) _ _; (go_simp; rfl)) | (with_reducible exact below_set (below_set (below_set (After.below _) _ _) _ _) _ _; (go_simp; rfl)) | (with_reducible exact below_set (below_set (below_set (below_set (After.below _) _ _) _ _) _ _) _ _; (go_simp; rfl)) | (exact Below.refl _ _; rfl)); intro x2; have hle := After.le x2; (try simp at hle)))
  obtain ⟨W2, hW2⟩ : ∃ W2, W2 = x2.val := ⟨_, rfl⟩
  have hb2 : Below (w.heap.size + 1) (w.alloc (.cells #[.slice p P.length cap] 24)) W2 := by rw [hW2]; simpa using x2.below
  have hB2 : Below w.heap.size w W2 := hb0.trans (hb2.mono (by omega))
  have hz2 := hb2.size
  simp at hz2
  rw [← hW2]
  have bx : W2.drew.cell? ⟨w.heap.size, 0, none⟩ = some (.slice p P.length cap) := (hb2.cell (p := ⟨w.heap.size, 0, none⟩) (by simp)).trans (by simp)
  have hbl := World.block_lt_of_cell? _ _ bx
  have hB3 : Below w.heap.size w W2.drew := hB2.drew
  clear hW2 hb2 hsm
  clear hb0 hB2 hz2
  go_region_law (first | (refine step_callBG (by first | rfl | (go_simp; done)) 40 #[.agg #[.slice p P.length cap]] (.int .i64 R) ?hop1 (ht1 _ (by assumption)) ?_; (case hop1 => (go_simp; done)); intro q1 hq1; have hB1 := below_next hq1 (by assumption); have b1 := box_next (a := ⟨w.heap.size, 0, none⟩) hq1 (by assumption); have bl1 := World.block_lt_of_cell? _ _ b1) | (refine step_callBG (by first | rfl | (go_simp; done)) 41 #[.agg #[.slice p P.length cap]] (.int .i64 R) ?hop2 (ht2 _ (by assumption)) ?_; (case hop2 => (go_simp; done)); intro q2 hq2; have hB2 := below_next hq2 (by assumption); have b2 := box_next (a := ⟨w.heap.size, 0, none⟩) hq2 (by assumption); have bl2 := World.block_lt_of_cell? _ _ b2) | (refine step_callBG (by first | rfl | (go_simp; done)) 42 #[.agg #[.slice p P.length cap]] (.int .i64 sn) ?hop3 (ht3 _ (by assumption)) ?_; (case hop3 => (go_simp; done)); intro q3 hq3; have hB3 := below_next hq3 (by assumption); have b3 := box_next (a := ⟨w.heap.size, 0, none⟩) hq3 (by assumption); have bl3 := World.block_lt_of_cell? _ _ b3) | (refine step_callBG (by first | rfl | (go_simp; done)) 43 #[.agg #[.slice p P.length cap]] (.int .i64 sn) ?hop4 (ht4 _ (by assumption)) ?_; (case hop4 => (go_simp; done)); intro q4 hq4; have hB4 := below_next hq4 (by assumption); have b4 := box_next (a := ⟨w.heap.size, 0, none⟩) hq4 (by assumption); have bl4 := World.block_lt_of_cell? _ _ b4) | (refine step_callSG (by first | rfl | (go_simp; done)) 45 #[.agg #[.slice p P.length cap]] (fun v w' => Sl w' v encS V) ?hop5 (ht5 _ (by assumption)) ?_; (case hop5 => (go_simp; done)); intro v5 q5 hv5 hq5; have hB5 := below_next hq5 (by assumption); have b5 := box_next (a := ⟨w.heap.size, 0, none⟩) hq5 (by assumption); have bl5 := World.block_lt_of_cell? _ _ b5) | (refine step_callSG (by first | rfl | (go_simp; done)) 46 #[.agg #[.slice p P.length cap]] (fun v w' => Sl w' v encS V) ?hop6 (ht6 _ (by assumption)) ?_; (case hop6 => (go_simp; done)); intro v6 q6 hv6 hq6; have hB6 := below_next hq6 (by assumption); have b6 := box_next (a := ⟨w.heap.size, 0, none⟩) hq6 (by assumption); have bl6 := World.block_lt_of_cell? _ _ b6) | (refine step_callBG (by first | rfl | (go_simp; done)) 44 #[v5, v6] (.bool true) ?hop7 (texts_any V (by omega) _ _ _ (by first | exact hv5 | exact Sl.below hv5 hq6) (by first | exact hv6 | exact Sl.below hv6 hq5)) ?_; (case hop7 => (go_simp; done)); intro q7 hq7; have hB7 := below_next hq7 (by assumption)))
  all_goals (
    go_wp2_with fail
    go_ret
    exact ⟨rfl, by assumption⟩)

end Go.Proofs.Ytekpkhgpjpgcbaa.Pr

/- WALKS of slices.EqualFunc at blocks, proper.Same; soughref03.Same. -/
import Derived.Test.YtekpkhgpjpgcbaaSame
namespace Go.Proofs.Ytekpkhgpjpgcbaa.Pr
set_option linter.unusedVariables false
set_option linter.unusedSimpArgs false
open Go Go.RowKit

set_option maxRecDepth 100000 in
set_option maxHeartbeats 2000000 in
theorem eqfunc_any (P Q : List Bl) (h12 : P.length ≤ 12) (k12 : Q.length ≤ 12) (hl12 : ∀ b ∈ P, b.l.length ≤ 12) (kl12 : ∀ b ∈ Q, b.l.length ≤ 12) (pv qv : Value) (w : World) (h : Pg w pv P) (h2 : Pg w qv Q) :
    Calls Try.prog 102 #[pv, qv, .func (.func 103) #[] #[]] w fun e w' => e = .returned (.bool (sameP P Q)) ∧ Below w.heap.size w w' := by
  obtain ⟨b, off, p, cap, rfl, hp, hc⟩ := Pg.open h
  obtain ⟨b2, off2, p2, cap2, rfl, hp2, hc2⟩ := Pg.open h2
  by_cases hll : P.length = Q.length
  · have g0 : ((P.length : Int) != Q.length) = false := by simp [hll]
    obtain ⟨R, hR⟩ : ∃ R, Hid (sameP P Q = R) := ⟨_, rfl⟩
    rw [hR]
    have hLM : Hid (P.length = Q.length) := hll
    clear hll h h2
    go_enter Try.func102, Try.ntmps102
    go_wp2_with fail
    go_loopw [17] (fun i wr => ∃ k : Nat, k ≤ P.length ∧ i = .int .i64 k ∧ (∀ j (h1 : j < P.length) (h2 : j < Q.length), j < k → sameB (P[j]'h1) (Q[j]'h2) = true) ∧ Below w.heap.size w wr) (fun i _ => P.length - (intOf i).toNat)
    case atStart => exact ⟨0, Nat.zero_le _, rfl, fun j _ _ hj => by omega, Below.refl _ _⟩
    case round =>
      obtain ⟨k, hk, rfl, hall, hB⟩ := hrel
      have hw := hB.size
      by_cases hlt : k < P.length
      · have hlt' : k < Q.length := by rw [← hLM]; exact hlt
        obtain rfl := hp (by omega)
        obtain rfl := hp2 (by omega)
        have hlt2 : (k : Int) < P.length := by omega
        have hlt3 : (k : Int) < Q.length := by omega
        have hcw : ∀ r u, ((P[k]'hlt).cs)[r]? = some u → w.cell? ⟨b, off + (k * 8 + r), none⟩ = some u := (hc k hlt).1
        have hcz : ∀ r u, ((Q[k]'hlt').cs)[r]? = some u → w.cell? ⟨b2, off2 + (k * 8 + r), none⟩ = some u := (hc2 k hlt').1
        have hsB := (hc k hlt).2
        have hsC := (hc2 k hlt').2
        have hlB := hl12 _ (List.getElem_mem hlt)
        have hlC := kl12 _ (List.getElem_mem hlt')
        have hbad : sameB (P[k]'hlt) (Q[k]'hlt') = false → R = false := fun h => by rw [← hR]; exact eqL_bad hlt hlt' h
        have hnext : sameB (P[k]'hlt) (Q[k]'hlt') = true → ∀ j (h1 : j < P.length) (h2 : j < Q.length), j < k + 1 → sameB (P[j]'h1) (Q[j]'h2) = true := fun h j h1 h2 hj => by
          rcases Nat.lt_succ_iff_lt_or_eq.1 hj with hj | rfl
          · exact hall j h1 h2 hj
          · exact h
        have hmm := And.intro hbad hnext
        clear hc hc2 hall hbad hnext
        generalize P[k]'hlt = B at hcw hsB hlB hmm
        generalize Q[k]'hlt' = C at hcz hsC hlC hmm
        have hcr : ∀ r u, B.cs[r]? = some u → wr.cell? ⟨b, off + k * 8 + r, none⟩ = some u := fun r u hu => by
          rw [Nat.add_assoc]
          exact (hB.cell (p := ⟨b, off + (k * 8 + r), none⟩) (World.block_lt_of_cell? _ _ (hcw r u hu))).trans (hcw r u hu)
        have hcs : ∀ r u, C.cs[r]? = some u → wr.cell? ⟨b2, off2 + k * 8 + r, none⟩ = some u := fun r u hu => by
          rw [Nat.add_assoc]
          exact (hB.cell (p := ⟨b2, off2 + (k * 8 + r), none⟩) (World.block_lt_of_cell? _ _ (hcz r u hu))).trans (hcz r u hu)
        obtain ⟨lb, loff, lp, lcap, hlv, _, _⟩ := hsB.open St.cs_len
        obtain ⟨lb2, loff2, lp2, lcap2, hlv2, _, _⟩ := hsC.open St.cs_len
        rw [hlv] at hsB
        rw [hlv2] at hsC
        have c0 : wr.cell? ⟨b, off + k * 8, none⟩ = some (.string B.n) := hcr 0 _ rfl
        have hbw := World.block_lt_of_cell? _ _ c0
        have c1 := hcr 1 _ rfl
        have c2 := hcr 2 _ rfl
        have c3 := hcr 3 _ rfl
        have c4 := hcr 4 _ rfl
        have c5 := hcr 5 _ rfl
        have c6 := hcr 6 _ rfl
        have c7 := hcr 7 _ rfl
        rw [hlv] at c1
        have d0 : wr.cell? ⟨b2, off2 + k * 8, none⟩ = some (.string C.n) := hcs 0 _ rfl
        have hdw := World.block_lt_of_cell? _ _ d0
        have d1 := hcs 1 _ rfl
        have d2 := hcs 2 _ rfl
        have d3 := hcs 3 _ rfl
        have d4 := hcs 4 _ rfl
        have d5 := hcs 5 _ rfl
        have d6 := hcs 6 _ rfl
        have d7 := hcs 7 _ rfl
        rw [hlv2] at d1
        clear hcr hcw hcs hcz hlv hlv2
        have hB1 := hB.alloc hw (.cells #[.string B.n, .slice lp B.l.length lcap, .int .i64 B.t.k, .string B.t.x.v, .int .i64 B.t.x.a, .int .i64 B.t.x.b, .string B.t.t, .string B.t.e] 108)
        have hB2 := hB1.alloc hB1.size (.cells #[.string C.n, .slice lp2 C.l.length lcap2, .int .i64 C.t.k, .string C.t.x.v, .int .i64 C.t.x.a, .int .i64 C.t.x.b, .string C.t.t, .string C.t.e] 108)
        have hsm := same1_any B C (by omega) (by omega) lp lp2 lcap lcap2 _ (hsB.below hB2) (hsC.below hB2)
        cases hz : sameB B C
        · have hRk := hmm.1 hz
          subst hRk
          rw [hz] at hsm
          clear hmm hz hsB hsC
          go_wp2_with (go_at_call 103; refine hsm.mono ?_; rintro e W2 ⟨rfl, hq⟩)
          go_ret
          exact ⟨rfl, hB2.trans (hq.mono hB2.size)⟩
        · have hx := And.intro True.intro (hmm.2 hz)
          rw [hz] at hsm
          clear hmm hz hsB hsC
          go_wp2_with (go_at_call 103; refine hsm.mono ?_; rintro e W2 ⟨rfl, hq⟩)
          go_roundw
          case rel => exact ⟨k + 1, by omega, by simp, hx.2, hB2.trans (hq.mono hB2.size)⟩
          case measure => simp [intOf]; omega
      · have hks : k = P.length := by omega
        subst hks
        have hlt2 : ¬ (P.length : Int) < P.length := by omega
        have hRk : R = true := by rw [← hR]; exact eqL_all hLM (fun k h1 h2 => hall k h1 h2 h1)
        subst hRk
        clear hc hc2 hall
        go_wp2_with fail
        go_ret
        exact ⟨rfl, hB⟩
  · have g0 : ((P.length : Int) != Q.length) = true := by simp; omega
    rw [show sameP P Q = false from eqL_len hll]
    clear hll h h2 hc hc2 hp hp2
    go_enter Try.func102, Try.ntmps102
    go_wp2_with fail
    go_ret
    refine ⟨rfl, ?_⟩
    (repeat (first | exact Below.refl _ _ | apply Below.drew | refine Below.alloc ?_ ?_ _ | refine Below.setCell ?_ ?_ _ | refine Below.trans ?_ (Below.mono (After.below _) ?_))); (all_goals (first | (simp; done) | (simp; omega) | omega))

set_option maxRecDepth 100000 in
theorem psame_any (P Q : List Bl) (h12 : P.length ≤ 12) (k12 : Q.length ≤ 12) (hl12 : ∀ b ∈ P, b.l.length ≤ 12) (kl12 : ∀ b ∈ Q, b.l.length ≤ 12) (pv qv : Value) (w : World) (h : Pg w pv P) (h2 : Pg w qv Q) :
    Calls Try.prog 58 #[.agg #[pv], .agg #[qv]] w fun e w' => e = .returned (.bool (sameP P Q)) ∧ Below w.heap.size w w' := by
  obtain ⟨p, cap, hpv⟩ : ∃ p cap, pv = .slice p P.length cap := by obtain ⟨b, off, p, cap, hv, _⟩ := h.1; exact ⟨p, cap, hv⟩
  obtain ⟨p2, cap2, hqv⟩ : ∃ p cap, qv = .slice p Q.length cap := by obtain ⟨b, off, p, cap, hv, _⟩ := h2.1; exact ⟨p, cap, hv⟩
  subst hpv hqv
  have hb0 : Below w.heap.size w ((w.alloc (.cells #[.slice p P.length cap] 24)).alloc (.cells #[.slice p2 Q.length cap2] 24)) := ((Below.refl _ _).alloc (Nat.le_refl _) _).alloc (by simp) _
  have he := eqfunc_any P Q h12 k12 hl12 kl12 _ _ _ (h.below hb0) (h2.below hb0)
  generalize sameP P Q = z at he ⊢
  clear h h2
  go_enter Try.func58, Try.ntmps58
  go_wp2_with (go_at_call 102; refine he.mono ?_; rintro e W2 ⟨rfl, hq⟩)
  refine bodyPost_ret (v := .bool z) (by simp only [results, Try.results58]; go_simp) rfl ⟨rfl, hb0.trans (hq.mono hb0.size)⟩

end Go.Proofs.Ytekpkhgpjpgcbaa.Pr

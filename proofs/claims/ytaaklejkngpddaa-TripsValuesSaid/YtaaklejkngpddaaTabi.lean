/- WALKS of tables.place at sites, tables.Block, tables.Var, soughref06.Block, soughref06.Var. -/
import Derived.Test.YtaaklejkngpddaaTabh
import Derived.Test.YtaaklejkngpddaaTabg
namespace Go.Proofs.Ytaaklejkngpddaa.Pr
set_option linter.unusedVariables false
set_option linter.unusedSimpArgs false
open Go Go.RowKit

set_option maxRecDepth 100000 in
theorem tvar_any (P : List Bl) (x : ByteArray) (pv : Value) (w : World) (h : Pg w pv P) (h12 : P.length ≤ 12) (hl12 : ∀ b ∈ P, b.l.length ≤ 12) :
    Calls Try.prog 44 #[.agg #[pv], .string x] w fun e w' => e = .returned (placeV (idx (vars P) x)) ∧ Below w.heap.size w w' := by
  have hln : (vars P).length ≤ 1000000 := by have := blVars_len hl12 P.length; show (blVars P P.length).length ≤ _; omega
  have h1 : Pg (w.alloc (.cells #[pv] 24)) pv P := h.below ((Below.refl _ _).alloc (Nat.le_refl _) _)
  have hv := vars_any P pv _ h1 h12 hl12
  obtain ⟨p, cap, hpv⟩ : ∃ p cap, pv = .slice p P.length cap := by obtain ⟨b, off, p, cap, hv, _⟩ := h.1; exact ⟨p, cap, hv⟩
  subst hpv
  generalize vars P = V at hln hv ⊢
  have hpl := fun v (w : World) (h : Sl w v encS V) => place_any V x hln v w h
  generalize idx V x = r at hpl ⊢
  unfold placeV at hpl ⊢
  go_enter Try.func44, Try.ntmps44
  go_wp2_with (first | (go_at_call 46; refine' Calls.aftS _ _ (hv) _; rotate_left 2; (first | (with_reducible exact After.below _; rfl) | (with_reducible exact below_drew (After.below _); rfl) | (with_reducible exact below_set (After.below _) _ _; (go_simp; rfl)) | (with_reducible exact below_set (below_set (After.below _) _ _) _ _; (go_simp; rfl)) | (with_reducible exact below_set (below_set (below_set (After.below _) _ _) _ _) _ _; (go_simp; rfl)) | (with_reducible exact below_set (below_set (below_set (below_set (After.below _) _ _) _ _) _ _) _ _; (go_simp; rfl)) | (exact Below.refl _ _; rfl)); intro v x1 ho; have hle := After.le x1; (try simp at hle)) | (go_at_call 75; refine Calls.same (hpl _ _ ho) ?_))
  go_ret2
  refine ⟨rfl, ?_⟩
  (repeat (first | exact Below.refl _ _ | apply Below.drew | refine Below.alloc ?_ ?_ _ | refine Below.setCell ?_ ?_ _ | refine Below.trans ?_ (Below.mono (After.below _) ?_))); (all_goals (first | (simp; done) | (simp; omega) | omega))

set_option maxRecDepth 100000 in
theorem rvar_any (P : List Bl) (x : ByteArray) (pv : Value) (w : World) (h : Pg w pv P) (h12 : P.length ≤ 12) (hl12 : ∀ b ∈ P, b.l.length ≤ 12) :
    Calls Try.prog 42 #[.agg #[pv], .string x] w fun e w' => e = .returned (.int .i64 (idx (vars P) x)) ∧ Below w.heap.size w w' := by
  have hln : (vars P).length ≤ 1000000 := by have := blVars_len hl12 P.length; show (blVars P P.length).length ≤ _; omega
  have h1 : Pg (w.alloc (.cells #[pv] 24)) pv P := h.below ((Below.refl _ _).alloc (Nat.le_refl _) _)
  have hv := rvars_any P pv _ h1 h12 hl12
  obtain ⟨p, cap, hpv⟩ : ∃ p cap, pv = .slice p P.length cap := by obtain ⟨b, off, p, cap, hv, _⟩ := h.1; exact ⟨p, cap, hv⟩
  subst hpv
  generalize vars P = V at hln hv ⊢
  obtain ⟨R, hR⟩ : ∃ R, Hid (idx V x = R) := ⟨_, rfl⟩
  rw [hR]
  go_enter Try.func42, Try.ntmps42
  go_wp2_with ((go_at_call 47; refine' Calls.aftS _ _ (hv) _; rotate_left 2; (first | (with_reducible exact After.below _; rfl) | (with_reducible exact below_drew (After.below _); rfl) | (with_reducible exact below_set (After.below _) _ _; (go_simp; rfl)) | (with_reducible exact below_set (below_set (After.below _) _ _) _ _; (go_simp; rfl)) | (with_reducible exact below_set (below_set (below_set (After.below _) _ _) _ _) _ _; (go_simp; rfl)) | (with_reducible exact below_set (below_set (below_set (below_set (After.below _) _ _) _ _) _ _) _ _; (go_simp; rfl)) | (exact Below.refl _ _; rfl)); intro v x1 ho; have hle := After.le x1; (try simp at hle)); obtain ⟨vb, voff, vp, vcap, rfl, hvp, hvc⟩ := Sl.strs ho)
  have hB : Below w.heap.size w x1.val := ((Below.refl _ _).alloc (Nat.le_refl _) _).trans (x1.below.mono (by simp))
  generalize x1.val = W1 at hB hvc
  clear hle ho
  go_loop [10] (fun i => ∃ k : Nat, k ≤ V.length ∧ i = .int .i64 k ∧ ∀ j, j < k → V[j]? ≠ some x) (fun i => V.length - (intOf i).toNat)
  case atStart => exact ⟨0, Nat.zero_le _, rfl, fun j hj => by omega⟩
  case round =>
    obtain ⟨k, hk, rfl, hno⟩ := hrel
    by_cases hlt : k < V.length
    · obtain rfl := hvp (by omega)
      have hlt2 : (k : Int) < V.length := by omega
      have c0 := hvc k hlt
      have hg := World.block_lt_of_cell? _ _ c0
      have hhit : V[k]'hlt = x → R = k := fun h => by rw [← hR]; exact idx_hit hno (by rw [List.getElem?_eq_getElem hlt, h])
      have hmiss : V[k]'hlt ≠ x → ∀ j, j < k + 1 → V[j]? ≠ some x := fun h j hj => by
        rcases Nat.lt_succ_iff_lt_or_eq.1 hj with hj | rfl
        · exact hno j hj
        · rw [List.getElem?_eq_getElem hlt]; simpa using h
      clear hvc hno
      generalize V[k]'hlt = y at c0 hhit hmiss
      by_cases hyx : y = x
      · subst hyx
        have hRk := hhit rfl
        have f1 : (y.toList == y.toList) = true := by simp
        clear hhit hmiss
        subst hRk
        go_wp2_with fail
        refine bodyPost_ret (v := .int .i64 k) (by simp only [results, Try.results42]; go_simp) rfl ⟨rfl, hB⟩
      · have f1 : (y.toList == x.toList) = false := by rw [beq_str]; exact decide_eq_false hyx
        have hm := And.intro True.intro (hmiss hyx)
        clear hhit hmiss
        go_wp2_with fail
        go_round
        case rel => exact ⟨k + 1, by omega, by simp, hm.2⟩
        case measure => simp [intOf]; omega
    · have hks : k = V.length := by omega
      subst hks
      have hlt2 : ¬ (V.length : Int) < V.length := by omega
      have hRk : R = -1 := by rw [← hR]; exact idx_none hno
      subst hRk
      clear hvc hno
      go_wp2_with fail
      refine bodyPost_ret (v := .int .i64 (-1)) (by simp only [results, Try.results42]; go_simp) rfl ⟨rfl, hB⟩

def namesOf (P : List Bl) : List ByteArray := P.map fun b => b.n

set_option maxRecDepth 100000 in
set_option maxHeartbeats 1000000 in
theorem tblock_any (P : List Bl) (x : ByteArray) (pv : Value) (w : World) (h : Pg w pv P) (h12 : P.length ≤ 12) :
    Calls Try.prog 83 #[.agg #[pv], .string x] w fun e w' => e = .returned (placeV (idx (namesOf P) x)) ∧ Below w.heap.size w w' := by
  obtain ⟨i0, hi, hz0, hz1, hz2⟩ := info_parts s_info
  obtain ⟨b, off, p, cap, rfl, hp, hc⟩ := Pg.open h
  have hpl := fun v (w : World) (h : Sl w v encS (namesOf P)) => place_any (namesOf P) x (by simp [namesOf]; omega) v w h
  generalize idx (namesOf P) x = r at hpl ⊢
  unfold placeV at hpl ⊢
  go_enter Try.func83, Try.ntmps83
  go_wp2_with fail
  go_loopw [6, 12] (fun o i wr => ∃ k : Nat, k ≤ P.length ∧ i = .int .i64 k ∧ wr.ownsRow w.heap.size 9 1 o ((namesOf P).take k).length (((namesOf P).take k).flatMap encS) ∧ Below w.heap.size w wr) (fun _ i _ => P.length - (intOf i).toNat)
  case atStart => exact ⟨0, Nat.zero_le _, rfl, World.ownsRow_nil _ _ _ _, (Below.refl _ _).alloc (Nat.le_refl _) _⟩
  case round =>
    obtain ⟨k, hk, rfl, hown, hB⟩ := hrel
    have hw := hB.size
    by_cases hlt : k < P.length
    · obtain rfl := hp (by omega)
      have hlt2 : (k : Int) < P.length := by omega
      have hcw : ∀ r u, ((P[k]'hlt).cs)[r]? = some u → w.cell? ⟨b, off + (k * 8 + r), none⟩ = some u := (hc k hlt).1
      obtain ⟨lb, loff, lp, lcap, hlv, _, _⟩ := (hc k hlt).2.open St.cs_len
      have hz : Hid ((namesOf P).take (k + 1) = (namesOf P).take k ++ [(P[k]'hlt).n]) := by
        show _ = _
        rw [List.take_succ_eq_append_getElem (by simpa [namesOf] using hlt)]
        simp [namesOf]
      have hlen : ((namesOf P).take k).length ≤ k := by simp; omega
      clear hc
      generalize P[k]'hlt = B at hcw hz hlv
      generalize (namesOf P).take k = X at hown hz hlen
      have hcr : ∀ r u, B.cs[r]? = some u → wr.cell? ⟨b, off + k * 8 + r, none⟩ = some u := fun r u hu => by
        rw [Nat.add_assoc]
        exact (hB.cell (p := ⟨b, off + (k * 8 + r), none⟩) (World.block_lt_of_cell? _ _ (hcw r u hu))).trans (hcw r u hu)
      have c0 : wr.cell? ⟨b, off + k * 8, none⟩ = some (.string B.n) := hcr 0 _ rfl
      have hbw := World.block_lt_of_cell? _ _ c0
      have c1 := hcr 1 _ rfl
      have c2 := hcr 2 _ rfl
      have c3 := hcr 3 _ rfl
      have c4 := hcr 4 _ rfl
      have c5 := hcr 5 _ rfl
      have c6 := hcr 6 _ rfl
      have c7 := hcr 7 _ rfl
      clear hcr hcw
      rw [hlv] at c1
      go_wp2_with (at_builtin; refine wpList_append_own _ rfl _ _ 106 rfl w.heap.size 9 i0 (.string ⟨#[]⟩) 1 16 Try.underlying106 hi hz0 hz1 hz2 rfl (by decide) _ X.length (X.flatMap encS) rfl ((hown.alloc _).alloc _) _ 1 1 [.string B.n] rfl rfl (news_at (by simp)) (by intro u hu; simp at hu; subst hu; rfl) (by unfold maxLen; omega) (by omega) (by simp; omega) ?_; intro v2 w1 hown' hgrow _)
      have hlt1 := hown.lt
      have hB2 : Below w.heap.size w w1 := Below.grown (w := _) ((hB.alloc hw _).alloc (by simp; omega) _) hgrow (by simp; omega) (fun q hq => (hlt1 q hq).1)
      go_wp2_with fail
      go_roundw
      case rel => exact ⟨k + 1, by omega, by simp, by rw [hz]; exact own_snocS hown', hB2⟩
      case measure => simp [intOf]; omega
    · have hks : k = P.length := by omega
      subst hks
      have hlt2 : ¬ (P.length : Int) < P.length := by omega
      rw [show (namesOf P).take P.length = namesOf P from List.take_of_length_le (by simp [namesOf])] at hown
      have hS := Sl.of_own hown
      clear hc
      go_wp2_with (go_at_call 75; refine Calls.same (hpl _ _ hS) ?_)
      go_ret2
      exact ⟨rfl, hB⟩

set_option maxRecDepth 100000 in
theorem rblock_any (P : List Bl) (x : ByteArray) (pv : Value) (w : World) (h : Pg w pv P) (h12 : P.length ≤ 12) :
    Calls Try.prog 58 #[.agg #[pv], .string x] w fun e w' => e = .returned (.int .i64 (idx (namesOf P) x)) ∧ Below w.heap.size w w' := by
  obtain ⟨b, off, p, cap, rfl, hp, hc⟩ := Pg.open h
  obtain ⟨R, hR⟩ : ∃ R, Hid (idx (namesOf P) x = R) := ⟨_, rfl⟩
  have hnl : (namesOf P).length = P.length := by simp [namesOf]
  have hNL : Hid ((namesOf P).length = P.length) := hnl
  clear hnl
  rw [hR]
  go_enter Try.func58, Try.ntmps58
  go_wp2_with fail
  go_loopw [10] (fun i wr => ∃ k : Nat, k ≤ P.length ∧ i = .int .i64 k ∧ (∀ j, j < k → (namesOf P)[j]? ≠ some x) ∧ Below w.heap.size w wr) (fun i _ => P.length - (intOf i).toNat)
  case atStart => exact ⟨0, Nat.zero_le _, rfl, fun j hj => by omega, (Below.refl _ _).alloc (Nat.le_refl _) _⟩
  case round =>
    obtain ⟨k, hk, rfl, hno, hB⟩ := hrel
    have hw := hB.size
    by_cases hlt : k < P.length
    · obtain rfl := hp (by omega)
      have hlt2 : (k : Int) < P.length := by omega
      have hcw : ∀ r u, ((P[k]'hlt).cs)[r]? = some u → w.cell? ⟨b, off + (k * 8 + r), none⟩ = some u := (hc k hlt).1
      obtain ⟨lb, loff, lp, lcap, hlv, _, _⟩ := (hc k hlt).2.open St.cs_len
      have hge : (namesOf P)[k]? = some (P[k]'hlt).n := by simp [namesOf, List.getElem?_eq_getElem hlt]
      have hhit : (P[k]'hlt).n = x → R = k := fun h => by rw [← hR]; exact idx_hit hno (by rw [hge, h])
      have hmiss : (P[k]'hlt).n ≠ x → ∀ j, j < k + 1 → (namesOf P)[j]? ≠ some x := fun h j hj => by
        rcases Nat.lt_succ_iff_lt_or_eq.1 hj with hj | rfl
        · exact hno j hj
        · rw [hge]; simpa using h
      clear hc hno hge
      generalize P[k]'hlt = B at hcw hhit hmiss hlv
      have hcr : ∀ r u, B.cs[r]? = some u → wr.cell? ⟨b, off + k * 8 + r, none⟩ = some u := fun r u hu => by
        rw [Nat.add_assoc]
        exact (hB.cell (p := ⟨b, off + (k * 8 + r), none⟩) (World.block_lt_of_cell? _ _ (hcw r u hu))).trans (hcw r u hu)
      have c0 : wr.cell? ⟨b, off + k * 8, none⟩ = some (.string B.n) := hcr 0 _ rfl
      have hbw := World.block_lt_of_cell? _ _ c0
      have c1 := hcr 1 _ rfl
      have c2 := hcr 2 _ rfl
      have c3 := hcr 3 _ rfl
      have c4 := hcr 4 _ rfl
      have c5 := hcr 5 _ rfl
      have c6 := hcr 6 _ rfl
      have c7 := hcr 7 _ rfl
      clear hcr hcw
      rw [hlv] at c1
      have hm := And.intro hhit hmiss
      clear hhit hmiss
      by_cases hyx : B.n = x
      · have hRk := hm.1 hyx
        have f1 : (B.n.toList == x.toList) = true := by rw [hyx]; simp
        clear hm hyx
        subst hRk
        go_wp2_with fail
        refine bodyPost_ret (v := .int .i64 k) (by simp only [results, Try.results58]; go_simp) rfl ⟨rfl, hB.alloc hw _⟩
      · have f1 : (B.n.toList == x.toList) = false := by rw [beq_str]; exact decide_eq_false hyx
        have hm2 := And.intro True.intro (hm.2 hyx)
        clear hm hyx
        go_wp2_with fail
        go_roundw
        case rel => exact ⟨k + 1, by omega, by simp, hm2.2, hB.alloc hw _⟩
        case measure => simp [intOf]; omega
    · have hks : k = P.length := by omega
      subst hks
      have hlt2 : ¬ (P.length : Int) < P.length := by omega
      have hRk : R = -1 := by rw [← hR]; exact idx_none (fun j hj => hno j (by rw [hNL] at hj; exact hj))
      subst hRk
      clear hc hno
      go_wp2_with fail
      refine bodyPost_ret (v := .int .i64 (-1)) (by simp only [results, Try.results58]; go_simp) rfl ⟨rfl, hB⟩

end Go.Proofs.Ytaaklejkngpddaa.Pr

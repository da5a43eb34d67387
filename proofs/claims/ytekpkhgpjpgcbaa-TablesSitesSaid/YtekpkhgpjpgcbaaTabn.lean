/- soughlaw06.TablesSites: it answers true. -/
import Derived.Test.YtekpkhgpjpgcbaaTabl
import Derived.Test.YtekpkhgpjpgcbaaTabm
namespace Go.Proofs.Ytekpkhgpjpgcbaa.Pr
set_option linter.unusedVariables false
set_option linter.unusedSimpArgs false
open Go Go.RowKit

/-- How long a variable's name is in a program that is small. -/
theorem putS_small {T : List ByteArray} {s : ByteArray} {n : Nat} (h : ∀ x ∈ T, x.size ≤ n) (hs : s.size ≤ n) : ∀ x ∈ putS T s, x.size ≤ n := by
  intro x hx
  unfold putS at hx
  split at hx
  · exact h x hx
  · split at hx
    · exact h x hx
    · rcases List.mem_append.1 hx with hx | hx
      · exact h x (List.mem_of_mem_take hx)
      · rcases List.mem_cons.1 hx with rfl | hx
        · exact hs
        · exact h x (List.mem_of_mem_drop hx)
theorem small_st {P : List Bl} (h : smallB P = true) : ∀ b ∈ P, b.t.x.v.size ≤ 40 ∧ ∀ s ∈ b.l, s.v.size ≤ 40 ∧ s.e.x.v.size ≤ 40 ∧ s.e.y.v.size ≤ 40 := by
  simp only [smallB, Bool.and_eq_true, decide_eq_true_eq, List.all_eq_true] at h
  intro b hb
  have := h.2 b hb
  simp only [blSmall, Bool.and_eq_true, decide_eq_true_eq, List.all_eq_true] at this
  refine ⟨this.2.2.2.2.1, fun s hs => ?_⟩
  have := this.2.2.2.2.2 s hs
  simpa only [stSmall, Bool.and_eq_true, decide_eq_true_eq] using this
theorem stVars_small {l : List St} {T : List ByteArray} (h : ∀ x ∈ T, x.size ≤ 40) (hl : ∀ s ∈ l, s.v.size ≤ 40 ∧ s.e.x.v.size ≤ 40 ∧ s.e.y.v.size ≤ 40) : ∀ k, ∀ x ∈ stVars l T k, x.size ≤ 40
  | 0 => h
  | k + 1 => by
    have ih := stVars_small h hl k
    simp only [stVars]
    split
    · rename_i s hs
      have := hl s (List.mem_of_getElem? hs)
      exact putS_small (putS_small (putS_small ih this.1) this.2.1) this.2.2
    · exact ih
theorem blVars_small {P : List Bl} (h : ∀ b ∈ P, b.t.x.v.size ≤ 40 ∧ ∀ s ∈ b.l, s.v.size ≤ 40 ∧ s.e.x.v.size ≤ 40 ∧ s.e.y.v.size ≤ 40) : ∀ k, ∀ x ∈ blVars P k, x.size ≤ 40
  | 0 => fun x hx => by simp [blVars] at hx
  | k + 1 => by
    have ih := blVars_small h k
    simp only [blVars]
    split
    · rename_i b hb
      have := h b (List.mem_of_getElem? hb)
      exact putS_small (stVars_small ih this.2 _) this.1
    · exact ih
theorem sites_small {P : List Bl} (h : smallB P = true) : ∀ s ∈ sitesOf P, s.v.size ≤ 40 := by
  have hs := small_st h
  intro s hm
  unfold sitesOf at hm
  rcases List.mem_append.1 hm with hm | hm
  · obtain ⟨v, hv, rfl⟩ := List.mem_map.1 hm
    exact blVars_small hs _ v hv
  · have key : ∀ n, ∀ x ∈ blSites P n, x.v.size ≤ 40 := by
      intro n
      induction n with
      | zero => intro x hx; simp [blSites] at hx
      | succ n ih =>
        intro x hx
        simp only [blSites, List.mem_append] at hx
        rcases hx with hx | hx
        · exact ih x hx
        · split at hx
          · rename_i b hb
            have hb' := hs b (List.mem_of_getElem? hb)
            have key2 : ∀ m, ∀ x ∈ stSites n b.l m, x.v.size ≤ 40 := by
              intro m
              induction m with
              | zero => intro x hx; simp [stSites] at hx
              | succ m ih2 =>
                intro x hx
                simp only [stSites, List.mem_append] at hx
                rcases hx with hx | hx
                · exact ih2 x hx
                · split at hx
                  · rename_i s hs
                    unfold siteOf at hx
                    split at hx
                    · simp at hx; subst hx; exact (hb'.2 s (List.mem_of_getElem? hs)).1
                    · simp at hx
                  · simp at hx
            exact key2 _ x hx
          · simp at hx
    exact key _ s hm

set_option maxRecDepth 100000 in
set_option maxHeartbeats 2000000 in
theorem tablesSites_any (P : List Bl) (sb sk : Int) (x : ByteArray) (pv : Value) (w : World) (h : Pg w pv P) :
    Calls Try.prog 3 #[.agg #[pv], .int .i64 sb, .int .i64 sk, .string x] w fun e w' => e = .returned (.bool true) ∧ Below w.heap.size w w' := by
  have hpg : ∀ W, Below w.heap.size w W → Pg W pv P := fun W hB => h.below hB
  have hsm := fun W hB => small_any P pv W (hpg W hB)
  obtain ⟨p, cap, hpv⟩ : ∃ p cap, pv = .slice p P.length cap := by obtain ⟨b, off, p, cap, hv, _⟩ := h.1; exact ⟨p, cap, hv⟩
  subst hpv
  have hb0 : Below w.heap.size w (w.alloc (.cells #[.slice p P.length cap] 24)) := (Below.refl _ _).alloc (Nat.le_refl _) _
  cases hs : smallB P
  · rw [hs] at hsm
    go_enter Try.func3, Try.ntmps3
    go_wp2_with (first | (go_at_call 16; refine' Calls.aft _ _ (awake_any _) _; rotate_left 2; (first | (with_reducible exact After.below _; rfl) | (with_reducible exact below_drew (After.below _); rfl) | (with_reducible exact below_set (After.below _) _ _; (go_simp; rfl)) | (with_reducible exact below_set (below_set (After.below _) _ _) _ _; (go_simp; rfl)) | (with_reducible exact below_set (below_set (below_set (After.below _) _ _) _ _) _ _; (go_simp; rfl)) | (with_reducible exact below_set (below_set (below_set (below_set (After.below _) _ _) _ _) _ _) _ _; (go_simp; rfl)) | (exact Below.refl _ _; rfl)); intro x1; have hle := After.le x1; (try simp at hle)) | (go_at_call 17; refine' Calls.aft _ _ (hsm _ (hb0.trans (x1.below.mono (by simp)))) _; rotate_left 2; (first | (with_reducible exact After.below _; rfl) | (with_reducible exact below_drew (After.below _); rfl) | (with_reducible exact below_set (After.below _) _ _; (go_simp; rfl)) | (with_reducible exact below_set (below_set (After.below _) _ _) _ _; (go_simp; rfl)) | (with_reducible exact below_set (below_set (below_set (After.below _) _ _) _ _) _ _; (go_simp; rfl)) | (with_reducible exact below_set (below_set (below_set (below_set (After.below _) _ _) _ _) _ _) _ _; (go_simp; rfl)) | (exact Below.refl _ _; rfl)); intro x2; have hle := After.le x2; (try simp at hle)))
    go_ret
    refine ⟨rfl, ?_⟩
    (repeat (first | exact Below.refl _ _ | apply Below.drew | refine Below.alloc ?_ ?_ _ | refine Below.setCell ?_ ?_ _ | refine Below.trans ?_ (Below.mono (After.below _) ?_))); (all_goals (first | (simp; done) | (simp; omega) | omega))
  rw [hs] at hsm
  by_cases hx : 100 < x.size
  · have hx2 : (100 : Int) < x.size := by omega
    go_enter Try.func3, Try.ntmps3
    go_wp2_with (first | (go_at_call 16; refine' Calls.aft _ _ (awake_any _) _; rotate_left 2; (first | (with_reducible exact After.below _; rfl) | (with_reducible exact below_drew (After.below _); rfl) | (with_reducible exact below_set (After.below _) _ _; (go_simp; rfl)) | (with_reducible exact below_set (below_set (After.below _) _ _) _ _; (go_simp; rfl)) | (with_reducible exact below_set (below_set (below_set (After.below _) _ _) _ _) _ _; (go_simp; rfl)) | (with_reducible exact below_set (below_set (below_set (below_set (After.below _) _ _) _ _) _ _) _ _; (go_simp; rfl)) | (exact Below.refl _ _; rfl)); intro x1; have hle := After.le x1; (try simp at hle)) | (go_at_call 17; refine' Calls.aft _ _ (hsm _ (hb0.trans (x1.below.mono (by simp)))) _; rotate_left 2; (first | (with_reducible exact After.below _; rfl) | (with_reducible exact below_drew (After.below _); rfl) | (with_reducible exact below_set (After.below _) _ _; (go_simp; rfl)) | (with_reducible exact below_set (below_set (After.below _) _ _) _ _; (go_simp; rfl)) | (with_reducible exact below_set (below_set (below_set (After.below _) _ _) _ _) _ _; (go_simp; rfl)) | (with_reducible exact below_set (below_set (below_set (below_set (After.below _) _ _) _ _) _ _) _ _; (go_simp; rfl)) | (exact Below.refl _ _; rfl)); intro x2; have hle := After.le x2; (try simp at hle)))
    go_ret
    refine ⟨rfl, ?_⟩
    (repeat (first | exact Below.refl _ _ | apply Below.drew | refine Below.alloc ?_ ?_ _ | refine Below.setCell ?_ ?_ _ | refine Below.trans ?_ (Below.mono (After.below _) ?_))); (all_goals (first | (simp; done) | (simp; omega) | omega))
  have hx2 : ¬ (100 : Int) < x.size := by omega
  obtain ⟨h12, hl12, hn⟩ := small_len hs
  have hsl := sites_len h12 hl12
  have hss := sites_small hs
  have ht1 := fun W hB => tsites_any P _ W (hpg W hB) h12 hl12
  have ht2 := fun W hB => rsites_any P _ W (hpg W hB) h12 hl12
  have ht3 := fun xb xk xv (hv : xv.size ≤ 1000) W hB => tname_any P xb xk xv _ W (hpg W hB) h12 hl12 hn hv
  have ht4 := fun xb xk xv (hv : xv.size ≤ 1000) W hB => rname_any P xb xk xv _ W (hpg W hB) h12 hl12 hn hv
  have hx1 : x.size ≤ 1000 := by omega
  generalize hN : nameOf P = N at ht3 ht4
  generalize sitesOf P = L at ht1 ht2 hsl hss
  clear hs hl12 hn hpg h hx hN
  go_enter Try.func3, Try.ntmps3
  go_wp2_with (first | (go_at_call 16; refine' Calls.aft _ _ (awake_any _) _; rotate_left 2; (first | (with_reducible exact After.below _; rfl) | (with_reducible exact below_drew (After.below _); rfl) | (with_reducible exact below_set (After.below _) _ _; (go_simp; rfl)) | (with_reducible exact below_set (below_set (After.below _) _ _) _ _; (go_simp; rfl)) | (with_reducible exact below_set (below_set (below_set (After.below _) _ _) _ _) _ _; (go_simp; rfl)) | (with_reducible exact below_set (below_set (below_set (below_set (After.below _) _ _) _ _) _ _) _ _; (go_simp; rfl)) | (exact Below.refl _ _; rfl)); intro x1; have hle := After.le x1; (try simp at hle)) | (go_at_call 17; refine' Calls.aft _ _ (hsm _ (hb0.trans (x1.below.mono (by simp)))) _; rotate_left 2; (first | (with_reducible exact After.below _; rfl) | (with_reducible exact below_drew (After.below _); rfl) | (with_reducible exact below_set (After.below _) _ _; (go_simp; rfl)) | (with_reducible exact below_set (below_set (After.below _) _ _) _ _; (go_simp; rfl)) | (with_reducible exact below_set (below_set (below_set (After.below _) _ _) _ _) _ _; (go_simp; rfl)) | (with_reducible exact below_set (below_set (below_set (below_set (After.below _) _ _) _ _) _ _) _ _; (go_simp; rfl)) | (exact Below.refl _ _; rfl)); intro x2; have hle := After.le x2; (try simp at hle)))
  obtain ⟨W2, hW2⟩ : ∃ W2, W2 = x2.val := ⟨_, rfl⟩
  have hb2 : Below (w.heap.size + 1) (w.alloc (.cells #[.slice p P.length cap] 24)) W2 := by rw [hW2]; simpa using x2.below
  have hB2 : Below w.heap.size w W2 := hb0.trans (hb2.mono (by omega))
  have hz2 := hb2.size
  simp at hz2
  rw [← hW2]
  have bx : W2.drew.cell? ⟨w.heap.size, 0, none⟩ = some (.slice p P.length cap) := (hb2.cell (p := ⟨w.heap.size, 0, none⟩) (by simp)).trans (by simp)
  have hbl := World.block_lt_of_cell? _ _ bx
  have hB3 : Below w.heap.size w W2.drew := hB2.drew
  clear hW2 hb2
  go_region_law (first
    | (refine step_callS rfl 18 #[.agg #[.slice p P.length cap]] (fun v w' => Sl w' v Si.cs L) ?hop1 (ht1 _ hB3) ?_; (case hop1 => (go_simp; done)); intro v1 q1 hv1 hq1; have b1 := (hq1.cell (p := ⟨w.heap.size, 0, none⟩) hbl).trans bx)
    | (refine step_callS rfl 19 #[.agg #[.slice p P.length cap]] (fun v w' => Sl w' v Si.cs L) ?hop2 (ht2 _ (hB3.trans (hq1.mono hB3.size))) ?_; (case hop2 => (go_simp; done)); intro v2 q2 hv2 hq2))
  all_goals (
    have hB4 := hB3.trans (hq1.mono hB3.size)
    have hB5 := hB4.trans (hq2.mono hB4.size)
    have b5 := (hq2.cell (p := ⟨w.heap.size, 0, none⟩) (World.block_lt_of_cell? _ _ b1)).trans b1
    have hS1 := hv1.below hq2
    obtain ⟨vb, voff, vp, vcap, rfl, hvp, hvc⟩ := hS1.open Si.cs_len
    obtain ⟨ub, uoff, up, ucap, rfl, hup, huc⟩ := hv2.open Si.cs_len
    clear hq1 hq2 hv1 hv2 hS1 bx b1 hbl hB2 hB3 hB4 hz2
    go_wp2_with fail
    go_loopw [34] (fun i wr => ∃ k : Nat, k ≤ L.length ∧ i = .int .i64 k ∧ Below q2.heap.size q2 wr) (fun i _ => L.length - (intOf i).toNat)
    case atStart => exact ⟨0, Nat.zero_le _, rfl, Below.refl _ _⟩
    case round =>
      obtain ⟨k, hk, rfl, hB⟩ := hrel
      have hw := hB.size
      have hBr := hB5.trans (hB.mono hB5.size)
      have hwr := hBr.size
      have d0 := (hB.cell (p := ⟨w.heap.size, 0, none⟩) (World.block_lt_of_cell? _ _ b5)).trans b5
      have dl := World.block_lt_of_cell? _ _ d0
      by_cases hlt : k < L.length
      · obtain rfl := hvp (by omega)
        obtain rfl := hup (by omega)
        have hlt2 : (k : Int) < L.length := by omega
        have hcr : ∀ r u, ((L[k]'hlt).cs)[r]? = some u → wr.cell? ⟨vb, voff + k * 3 + r, none⟩ = some u := fun r u hu => by
          rw [Nat.add_assoc]
          exact (hB.cell (p := ⟨vb, voff + (k * 3 + r), none⟩) (World.block_lt_of_cell? _ _ (hvc k hlt r u hu))).trans (hvc k hlt r u hu)
        have hcs : ∀ r u, ((L[k]'hlt).cs)[r]? = some u → wr.cell? ⟨ub, uoff + k * 3 + r, none⟩ = some u := fun r u hu => by
          rw [Nat.add_assoc]
          exact (hB.cell (p := ⟨ub, uoff + (k * 3 + r), none⟩) (World.block_lt_of_cell? _ _ (huc k hlt r u hu))).trans (huc k hlt r u hu)
        have hvs := hss _ (List.getElem_mem hlt)
        clear hvc huc
        generalize L[k]'hlt = y at hcr hcs hvs
        obtain ⟨yb, yk, yv⟩ := y
        have c0 : wr.cell? ⟨vb, voff + k * 3, none⟩ = some (.int .i64 yb) := hcr 0 _ rfl
        have c1 : wr.cell? ⟨vb, voff + k * 3 + 1, none⟩ = some (.int .i64 yk) := hcr 1 _ rfl
        have c2 : wr.cell? ⟨vb, voff + k * 3 + 2, none⟩ = some (.string yv) := hcr 2 _ rfl
        have e0 : wr.cell? ⟨ub, uoff + k * 3, none⟩ = some (.int .i64 yb) := hcs 0 _ rfl
        have e1 : wr.cell? ⟨ub, uoff + k * 3 + 1, none⟩ = some (.int .i64 yk) := hcs 1 _ rfl
        have e2 : wr.cell? ⟨ub, uoff + k * 3 + 2, none⟩ = some (.string yv) := hcs 2 _ rfl
        have hg := World.block_lt_of_cell? _ _ c0
        have hg2 := World.block_lt_of_cell? _ _ e0
        have hyv : yv.size ≤ 1000 := by have : yv.size ≤ 40 := hvs; omega
        have hB1 := hBr.alloc hwr (.cells #[.int .i64 yb, .int .i64 yk, .string yv] 32)
        have hn1 := fun (z : After (wr.alloc (.cells #[.int .i64 yb, .int .i64 yk, .string yv] 32))) => ht3 yb yk yv hyv z.val (hB1.trans (z.below.mono hB1.size))
        have hn2 := fun (z : After (wr.alloc (.cells #[.int .i64 yb, .int .i64 yk, .string yv] 32))) => ht4 yb yk yv hyv z.val (hB1.trans (z.below.mono hB1.size))
        generalize N ⟨yb, yk, yv⟩ = nm at hn1 hn2
        clear hcr hcs hvs hss ht1 ht2 ht3 ht4
        go_wp2_with fail
        refine' region_whole _ _ (by kernel_rfl) (by kernel_rfl) _; rotate_left 2; (exact Below.refl _ _; rfl); (repeat (go_big_quiet_step (first | (go_at_call 20; exact Calls.after_of (hn1 _)) | (go_at_call 21; exact Calls.after_of (hn2 _))))); refine wpQuiet_nil ?_; intro z
        go_wp2_with fail
        go_roundw
        case rel => exact ⟨k + 1, by omega, by simp, (hB.alloc hw _).trans (z.below.mono (by simp; omega))⟩
        case measure => simp [intOf]; omega
      · have hks : k = L.length := by omega
        subst hks
        have hlt2 : ¬ (L.length : Int) < L.length := by omega
        have hn1 := fun (z : After wr) => ht3 sb sk x hx1 z.val (hBr.trans (z.below.mono hBr.size))
        have hn2 := fun (z : After wr) => ht4 sb sk x hx1 z.val (hBr.trans (z.below.mono hBr.size))
        generalize N ⟨sb, sk, x⟩ = nm at hn1 hn2
        clear hvc huc hss ht1 ht2 ht3 ht4
        go_wp2_with fail
        refine' region_whole _ _ (by kernel_rfl) (by kernel_rfl) _; rotate_left 2; (exact Below.refl _ _; rfl); (repeat (go_big_quiet_step (first | (go_at_call 20; exact Calls.after_of (hn1 _)) | (go_at_call 21; exact Calls.after_of (hn2 _))))); refine wpQuiet_nil ?_; intro z
        go_wp2_with fail
        refine bodyPost_ret (v := .bool true) (by simp only [results, Try.results3]; go_simp) rfl ⟨rfl, hBr.trans (z.below.mono hBr.size)⟩)

end Go.Proofs.Ytekpkhgpjpgcbaa.Pr

/- WALK of soughref06.SiteName. -/
import Derived.Test.YtekpkhgpjpgcbaaTabk
namespace Go.Proofs.Ytekpkhgpjpgcbaa.Pr
set_option linter.unusedVariables false
set_option linter.unusedSimpArgs false
open Go Go.RowKit

set_option maxRecDepth 100000 in
set_option maxHeartbeats 2000000 in
theorem rname_any (P : List Bl) (xb xk : Int) (xv : ByteArray) (pv : Value) (w : World) (h : Pg w pv P) (h12 : P.length ≤ 12) (hl12 : ∀ b ∈ P, b.l.length ≤ 12) (hn : ∀ b ∈ P, b.n.size ≤ 40) (hx : xv.size ≤ 1000) :
    Calls Try.prog 21 #[.agg #[pv], .agg #[.int .i64 xb, .int .i64 xk, .string xv]] w fun e w' => e = .returned (.string (nameOf P ⟨xb, xk, xv⟩)) ∧ Below w.heap.size w w' := by
  by_cases hb : xb = -1
  · subst hb
    have hif : ¬ (9223372036854775807 < xv.size + 6) := by omega
    have e : nameOf P ⟨-1, xk, xv⟩ = xv ++ startS := by simp [nameOf]
    rw [e]
    obtain ⟨p, cap, rfl⟩ : ∃ p cap, pv = .slice p P.length cap := by obtain ⟨b, off, p, cap, hv, _⟩ := h.1; exact ⟨p, cap, hv⟩
    go_enter Try.func21, Try.ntmps21
    go_wp2_with fail
    go_ret
    refine ⟨rfl, ?_⟩
    (repeat (first | exact Below.refl _ _ | apply Below.drew | refine Below.alloc ?_ ?_ _ | refine Below.setCell ?_ ?_ _ | refine Below.trans ?_ (Below.mono (After.below _) ?_))); (all_goals (first | (simp; done) | (simp; omega) | omega))
  have hsl := sites_len h12 hl12
  have hbb : (xb == -1) = false := by simp [hb]
  have hh1 : Pg ((w.alloc (.cells #[pv] 24)).alloc (.cells #[.int .i64 xb, .int .i64 xk, .string xv] 33)) pv P := h.below (((Below.refl _ _).alloc (Nat.le_refl _) _).alloc (by simp) _)
  have hv := rsites_any P pv _ hh1 h12 hl12
  -- what a hit and a miss mean
  have hhit : (⟨xb, xk, xv⟩ : Si) ∈ sitesOf P → ∃ (i k : Nat) (hi : i < P.length), xb = i ∧ xk = k ∧ k < (P[i]'hi).l.length ∧ nameOf P ⟨xb, xk, xv⟩ = xv ++ ⟨#[64]⟩ ++ (P[i]'hi).n ++ ⟨#[46]⟩ ++ digS k := fun hm => by
    have e : nameOf P ⟨xb, xk, xv⟩ = xv ++ ⟨#[64]⟩ ++ (P.getD xb.toNat default).n ++ ⟨#[46]⟩ ++ digS xk.toNat := by
      unfold nameOf; rw [if_neg hb, if_pos hm]
    obtain ⟨i, k, hi2, h1, h2, hk, hgd⟩ := site_at hm hb
    rw [h1, h2] at e
    simp only [Int.toNat_natCast, hgd] at e
    exact ⟨i, k, hi2, h1, h2, hk, by rw [h1, h2]; exact e⟩
  have hmiss : (⟨xb, xk, xv⟩ : Si) ∉ sitesOf P → nameOf P ⟨xb, xk, xv⟩ = ⟨#[]⟩ := fun hm => by
    unfold nameOf; rw [if_neg hb, if_neg hm]
  generalize nameOf P ⟨xb, xk, xv⟩ = R at hhit hmiss ⊢
  generalize sitesOf P = L at hv hhit hmiss hsl
  obtain ⟨b, off, p, cap, rfl, hp, hc⟩ := Pg.open h
  clear hb h hh1
  go_enter Try.func21, Try.ntmps21
  go_wp2_with ((go_at_call 19; refine' Calls.aftS _ _ (hv) _; rotate_left 2; (first | (with_reducible exact After.below _; rfl) | (with_reducible exact below_drew (After.below _); rfl) | (with_reducible exact below_set (After.below _) _ _; (go_simp; rfl)) | (with_reducible exact below_set (below_set (After.below _) _ _) _ _; (go_simp; rfl)) | (with_reducible exact below_set (below_set (below_set (After.below _) _ _) _ _) _ _; (go_simp; rfl)) | (with_reducible exact below_set (below_set (below_set (below_set (After.below _) _ _) _ _) _ _) _ _; (go_simp; rfl)) | (exact Below.refl _ _; rfl)); intro v x1 ho; have hle := After.le x1; (try simp at hle)); obtain ⟨vb, voff, vp, vcap, rfl, hvp, hvc⟩ := ho.open Si.cs_len)
  obtain ⟨W1, hW1⟩ : ∃ W1, W1 = x1.val := ⟨_, rfl⟩
  have hb1 := x1.below
  rw [← hW1] at hvc ho hle hb1 ⊢
  clear hW1
  have hB0 : Below w.heap.size w W1 := (((Below.refl _ _).alloc (Nat.le_refl _) _).alloc (by simp) _).trans (hb1.mono (by simp; omega))
  have g0 : W1.cell? ⟨w.heap.size + 1, 0, none⟩ = some (.int .i64 xb) := (hb1.cell (p := ⟨w.heap.size + 1, 0, none⟩) (by simp)).trans (by simp)
  have g1 : W1.cell? ⟨w.heap.size + 1, 1, none⟩ = some (.int .i64 xk) := (hb1.cell (p := ⟨w.heap.size + 1, 1, none⟩) (by simp)).trans (by simp)
  have g2 : W1.cell? ⟨w.heap.size + 1, 2, none⟩ = some (.string xv) := (hb1.cell (p := ⟨w.heap.size + 1, 2, none⟩) (by simp)).trans (by simp)
  have g3 : W1.cell? ⟨w.heap.size, 0, none⟩ = some (.slice p P.length cap) := (hb1.cell (p := ⟨w.heap.size, 0, none⟩) (by simp; omega)).trans (by simp)
  clear hb1 ho
  go_loopw [16] (fun i wr => ∃ k : Nat, k ≤ L.length ∧ i = .int .i64 k ∧ (∀ j, j < k → L[j]? ≠ some ⟨xb, xk, xv⟩) ∧ Below W1.heap.size W1 wr) (fun i _ => L.length - (intOf i).toNat)
  case atStart => exact ⟨0, Nat.zero_le _, rfl, fun j hj => by omega, Below.refl _ _⟩
  case round =>
    obtain ⟨k, hk, rfl, hno, hB⟩ := hrel
    have hsz := hB.size
    have k0 := (hB.cell (p := ⟨w.heap.size + 1, 0, none⟩) (World.block_lt_of_cell? _ _ g0)).trans g0
    have k1 := (hB.cell (p := ⟨w.heap.size + 1, 1, none⟩) (World.block_lt_of_cell? _ _ g1)).trans g1
    have k2 := (hB.cell (p := ⟨w.heap.size + 1, 2, none⟩) (World.block_lt_of_cell? _ _ g2)).trans g2
    have k3 := (hB.cell (p := ⟨w.heap.size, 0, none⟩) (World.block_lt_of_cell? _ _ g3)).trans g3
    have kl := World.block_lt_of_cell? _ _ k0
    have kl2 := World.block_lt_of_cell? _ _ k3
    have hB2 : Below w.heap.size w wr := hB0.trans (hB.mono hB0.size)
    have hwz := hB2.size
    by_cases hlt : k < L.length
    · obtain rfl := hvp (by omega)
      have hlt2 : (k : Int) < L.length := by omega
      have hcr : ∀ r u, ((L[k]'hlt).cs)[r]? = some u → wr.cell? ⟨vb, voff + k * 3 + r, none⟩ = some u := fun r u hu => by
        rw [Nat.add_assoc]
        exact (hB.cell (p := ⟨vb, voff + (k * 3 + r), none⟩) (World.block_lt_of_cell? _ _ (hvc k hlt r u hu))).trans (hvc k hlt r u hu)
      have hgot : L[k]'hlt = ⟨xb, xk, xv⟩ → (⟨xb, xk, xv⟩ : Si) ∈ L := fun h => by rw [← h]; exact List.getElem_mem hlt
      have hms : L[k]'hlt ≠ ⟨xb, xk, xv⟩ → ∀ j, j < k + 1 → L[j]? ≠ some ⟨xb, xk, xv⟩ := fun h j hj => by
        rcases Nat.lt_succ_iff_lt_or_eq.1 hj with hj | rfl
        · exact hno j hj
        · rw [List.getElem?_eq_getElem hlt]; simpa using h
      clear hvc hno
      generalize L[k]'hlt = y at hcr hgot hms
      obtain ⟨yb, yk, yv⟩ := y
      have c0 : wr.cell? ⟨vb, voff + k * 3, none⟩ = some (.int .i64 yb) := hcr 0 _ rfl
      have c1 : wr.cell? ⟨vb, voff + k * 3 + 1, none⟩ = some (.int .i64 yk) := hcr 1 _ rfl
      have c2 : wr.cell? ⟨vb, voff + k * 3 + 2, none⟩ = some (.string yv) := hcr 2 _ rfl
      have hg := World.block_lt_of_cell? _ _ c0
      clear hcr
      have hmm := And.intro hgot (And.intro hms (And.intro hhit hmiss))
      clear hgot hms hhit hmiss g0 g1 g2 g3
      by_cases h1 : yb = xb
      · subst h1
        by_cases h2 : yk = xk
        · subst h2
          by_cases h3 : yv = xv
          · subst h3
            obtain ⟨i, m, hi2, rfl, rfl, hkl, hR⟩ := hmm.2.2.1 (hmm.1 rfl)
            have hRR : Hid (R = yv ++ ⟨#[64]⟩ ++ (P[i]'hi2).n ++ ⟨#[46]⟩ ++ digS m) := hR
            clear hR
            have q0 := (hc i hi2).1 0 _ rfl
            have hbw := World.block_lt_of_cell? _ _ q0
            have q1 := (hB2.cell (p := ⟨b, off + i * 8, none⟩) hbw).trans q0
            have hns := hn _ (List.getElem_mem hi2)
            have hks := hl12 _ (List.getElem_mem hi2)
            have hdl := digN_len2 m (by omega)
            have hdg := rdigN_any m (by omega)
            have hi3 : (i : Int) < P.length := by omega
            obtain rfl := hp (by omega)
            generalize (P[i]'hi2) = B at q0 q1 hns hks hRR
            have z1 : ¬ (9223372036854775807 < yv.size + 1) := by omega
            have z2 : ¬ (9223372036854775807 < yv.size + 1 + B.n.size) := by omega
            have z3 : ¬ (9223372036854775807 < yv.size + 1 + B.n.size + 1) := by omega
            have z4 : ¬ (9223372036854775807 < yv.size + 1 + B.n.size + 1 + (digN m).length) := by omega
            have hbw2 := World.block_lt_of_cell? _ _ q1
            clear hmm hc q0
            go_wp2_with fail
            refine' region_whole _ _ (by kernel_rfl) (by kernel_rfl) _; rotate_left 2; (exact Below.refl _ _; rfl); (repeat (go_big_quiet_step (first | (go_at_call 66; exact Calls.after_of (hdg _))))); refine wpQuiet_nil ?_; intro z
            go_wp2_with fail
            refine bodyPost_ret (v := .string (yv ++ ⟨#[64]⟩ ++ B.n ++ ⟨#[46]⟩ ++ ⟨(digN m).toArray⟩)) (by simp only [results, Try.results21]; go_simp) rfl ?_
            exact ⟨by rw [hRR]; rfl, (hB2.alloc hwz _).trans (z.below.mono (by simp; omega))⟩
          · have f1 : (yv.toList == xv.toList) = false := by rw [beq_str]; exact decide_eq_false h3
            have f2 : ¬ yv.toList = xv.toList := fun h => h3 (toList_inj h)
            have hm := And.intro True.intro (hmm.2.1 (fun h => h3 (by cases h; rfl)))
            clear hmm hc h3
            go_wp2_with fail
            go_roundw
            case rel => exact ⟨k + 1, by omega, by simp, hm.2, hB.alloc hsz _⟩
            case measure => simp [intOf]; omega
        · have f1 : (yk == xk) = false := by simp [h2]
          have hm := And.intro True.intro (hmm.2.1 (fun h => h2 (by cases h; rfl)))
          clear hmm hc
          go_wp2_with fail
          go_roundw
          case rel => exact ⟨k + 1, by omega, by simp, hm.2, hB.alloc hsz _⟩
          case measure => simp [intOf]; omega
      · have f1 : (yb == xb) = false := by simp [h1]
        have hm := And.intro True.intro (hmm.2.1 (fun h => h1 (by cases h; rfl)))
        clear hmm hc
        go_wp2_with fail
        go_roundw
        case rel => exact ⟨k + 1, by omega, by simp, hm.2, hB.alloc hsz _⟩
        case measure => simp [intOf]; omega
    · have hks : k = L.length := by omega
      subst hks
      have hlt2 : ¬ (L.length : Int) < L.length := by omega
      have hRk : R = ⟨#[]⟩ := hmiss (fun hm => by
        obtain ⟨j, hj⟩ := List.mem_iff_getElem?.1 hm
        exact hno j (List.getElem?_eq_some_iff.1 hj).1 hj)
      subst hRk
      clear hvc hno hc hhit hmiss
      go_wp2_with fail
      go_ret
      exact ⟨rfl, hB2⟩

end Go.Proofs.Ytekpkhgpjpgcbaa.Pr

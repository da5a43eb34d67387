/- soughlaw04.ProperSames: it answers true. -/
import Derived.Test.YtekpkhgpjpgcbaaSamed
import Derived.Test.YtekpkhgpjpgcbaaSameb
import Derived.Test.YtekpkhgpjpgcbaaSamec
import Derived.Test.YtekpkhgpjpgcbaaChkj
namespace Go.Proofs.Ytekpkhgpjpgcbaa.Pr
set_option linter.unusedVariables false
set_option linter.unusedSimpArgs false
open Go Go.RowKit

theorem eqA_refl (x : At) : eqA x x = true := by simp [eqA]
theorem eqE_refl (x : Ex) : eqE x x = true := by simp [eqE, eqA_refl]
theorem eqS_refl (x : St) : eqS x x = true := by simp [eqS, eqE_refl]
theorem eqT_refl (x : Te) : eqT x x = true := by simp [eqT, eqA_refl]
theorem sameB_like {b c : Bl} (h : likeB b c) : sameB b c = true := by
  obtain ⟨h1, h2, h3⟩ := h
  unfold sameB
  rw [h1, h2, h3, eqT_refl, eqL_all rfl (fun k h1 h2 => eqS_refl _)]
  simp
theorem sameP_like {P Q : List Bl} (h : LikeP P Q) : sameP P Q = true := eqL_all h.1 fun k h1 h2 => sameB_like (h.2 k h1 h2)
theorem like_mem {P Q : List Bl} (h : LikeP P Q) {p : Bl → Prop} (hp : ∀ b c, likeB b c → p c → p b) (hQ : ∀ c ∈ Q, p c) : ∀ b ∈ P, p b := by
  intro b hb
  obtain ⟨i, hi⟩ := List.mem_iff_getElem?.1 hb
  obtain ⟨h1, rfl⟩ := List.getElem?_eq_some_iff.1 hi
  have h2 : i < Q.length := by rw [← h.1]; exact h1
  exact hp _ _ (h.2 i h1 h2) (hQ _ (List.getElem_mem h2))

set_option maxRecDepth 100000 in
set_option maxHeartbeats 4000000 in
theorem properSames_any (P Q : List Bl) (op : Int) (v1 : ByteArray) (a1 b1 : Int) (v2 : ByteArray) (a2 b2 : Int) (pv qv : Value) (w : World) (h : Pg w pv P) (h2 : Pg w qv Q) :
    Calls Try.prog 11 #[.agg #[pv], .agg #[qv], .agg #[.int .i64 op, .string v1, .int .i64 a1, .int .i64 b1, .string v2, .int .i64 a2, .int .i64 b2]] w fun e w' => e = .returned (.bool true) ∧ Below w.heap.size w w' := by
  have hpg : ∀ W, Below w.heap.size w W → Pg W pv P := fun W hB => h.below hB
  have hqg : ∀ W, Below w.heap.size w W → Pg W qv Q := fun W hB => h2.below hB
  have hsm1 := fun W hB => small_any P pv W (hpg W hB)
  have hsm2 := fun W hB => small_any Q qv W (hqg W hB)
  obtain ⟨p, cap, hpv⟩ : ∃ p cap, pv = .slice p P.length cap := by obtain ⟨b, off, p, cap, hv, _⟩ := h.1; exact ⟨p, cap, hv⟩
  obtain ⟨p2, cap2, hqv⟩ : ∃ p cap, qv = .slice p Q.length cap := by obtain ⟨b, off, p, cap, hv, _⟩ := h2.1; exact ⟨p, cap, hv⟩
  subst hpv hqv
  have hb0 : Below w.heap.size w (((w.alloc (.cells #[.slice p P.length cap] 24)).alloc (.cells #[.slice p2 Q.length cap2] 24)).alloc (.cells #[.int .i64 op, .string v1, .int .i64 a1, .int .i64 b1, .string v2, .int .i64 a2, .int .i64 b2] 98)) := (((Below.refl _ _).alloc (Nat.le_refl _) _).alloc (by simp) _).alloc (by simp; omega) _
  cases hs : smallB P
  · rw [hs] at hsm1
    go_enter Try.func11, Try.ntmps11
    go_wp2_with (first | (go_at_call 39; refine' Calls.aft _ _ (awake4_any _) _; rotate_left 2; (first | (with_reducible exact After.below _; rfl) | (with_reducible exact below_drew (After.below _); rfl) | (with_reducible exact below_set (After.below _) _ _; (go_simp; rfl)) | (with_reducible exact below_set (below_set (After.below _) _ _) _ _; (go_simp; rfl)) | (with_reducible exact below_set (below_set (below_set (After.below _) _ _) _ _) _ _; (go_simp; rfl)) | (with_reducible exact below_set (below_set (below_set (below_set (After.below _) _ _) _ _) _ _) _ _; (go_simp; rfl)) | (exact Below.refl _ _; rfl)); intro x1; have hle := After.le x1; (try simp at hle)) | (go_at_call 17; refine' Calls.aft _ _ (hsm1 _ (hb0.trans (x1.below.mono (by simp; omega)))) _; rotate_left 2; (first | (with_reducible exact After.below _; rfl) | (with_reducible exact below_drew (After.below _); rfl) | (with_reducible exact below_set (After.below _) _ _; (go_simp; rfl)) | (with_reducible exact below_set (below_set (After.below _) _ _) _ _; (go_simp; rfl)) | (with_reducible exact below_set (below_set (below_set (After.below _) _ _) _ _) _ _; (go_simp; rfl)) | (with_reducible exact below_set (below_set (below_set (below_set (After.below _) _ _) _ _) _ _) _ _; (go_simp; rfl)) | (exact Below.refl _ _; rfl)); intro x2; have hle := After.le x2; (try simp at hle)))
    go_ret
    refine ⟨rfl, ?_⟩
    (repeat (first | exact Below.refl _ _ | apply Below.drew | refine Below.alloc ?_ ?_ _ | refine Below.setCell ?_ ?_ _ | refine Below.trans ?_ (Below.mono (After.below _) ?_))); (all_goals (first | (simp; done) | (simp; omega) | omega))
  cases ks : smallB Q
  · rw [hs] at hsm1
    rw [ks] at hsm2
    go_enter Try.func11, Try.ntmps11
    go_wp2_with (first | (go_at_call 39; refine' Calls.aft _ _ (awake4_any _) _; rotate_left 2; (first | (with_reducible exact After.below _; rfl) | (with_reducible exact below_drew (After.below _); rfl) | (with_reducible exact below_set (After.below _) _ _; (go_simp; rfl)) | (with_reducible exact below_set (below_set (After.below _) _ _) _ _; (go_simp; rfl)) | (with_reducible exact below_set (below_set (below_set (After.below _) _ _) _ _) _ _; (go_simp; rfl)) | (with_reducible exact below_set (below_set (below_set (below_set (After.below _) _ _) _ _) _ _) _ _; (go_simp; rfl)) | (exact Below.refl _ _; rfl)); intro x1; have hle := After.le x1; (try simp at hle)) | (go_at_call 17; first | (with_reducible refine' Calls.aft _ _ (hsm2 _ (hb0.trans (x2.below.mono (by simp; omega)))) _; rotate_left 2; (first | (with_reducible exact After.below _; rfl) | (with_reducible exact below_drew (After.below _); rfl) | (with_reducible exact below_set (After.below _) _ _; (go_simp; rfl)) | (with_reducible exact below_set (below_set (After.below _) _ _) _ _; (go_simp; rfl)) | (with_reducible exact below_set (below_set (below_set (After.below _) _ _) _ _) _ _; (go_simp; rfl)) | (with_reducible exact below_set (below_set (below_set (below_set (After.below _) _ _) _ _) _ _) _ _; (go_simp; rfl)) | (exact Below.refl _ _; rfl)); intro x3; have hle := After.le x3; (try simp at hle)) | (with_reducible refine' Calls.aft _ _ (hsm1 _ (hb0.trans (x1.below.mono (by simp; omega)))) _; rotate_left 2; (first | (with_reducible exact After.below _; rfl) | (with_reducible exact below_drew (After.below _); rfl) | (with_reducible exact below_set (After.below _) _ _; (go_simp; rfl)) | (with_reducible exact below_set (below_set (After.below _) _ _) _ _; (go_simp; rfl)) | (with_reducible exact below_set (below_set (below_set (After.below _) _ _) _ _) _ _; (go_simp; rfl)) | (with_reducible exact below_set (below_set (below_set (below_set (After.below _) _ _) _ _) _ _) _ _; (go_simp; rfl)) | (exact Below.refl _ _; rfl)); intro x2; have hle := After.le x2; (try simp at hle))))
    go_ret
    refine ⟨rfl, ?_⟩
    (repeat (first | exact Below.refl _ _ | apply Below.drew | refine Below.alloc ?_ ?_ _ | refine Below.setCell ?_ ?_ _ | refine Below.trans ?_ (Below.mono (After.below _) ?_))); (all_goals (first | (simp; done) | (simp; omega) | omega))
  rw [hs] at hsm1
  rw [ks] at hsm2
  obtain ⟨h12, hl12, hn⟩ := small_len hs
  obtain ⟨k12, kl12, kn⟩ := small_len ks
  have hcl := fun W hB => clone_any P h12 hl12 _ W (hpg W hB)
  obtain ⟨W0, hW0⟩ : ∃ W0, W0 = ((w.alloc (.cells #[.slice p P.length cap] 24)).alloc (.cells #[.slice p2 Q.length cap2] 24)).alloc (.cells #[.int .i64 op, .string v1, .int .i64 a1, .int .i64 b1, .string v2, .int .i64 a2, .int .i64 b2] 98) := ⟨_, rfl⟩
  have hz0 : W0.heap.size = w.heap.size + 3 := by rw [hW0]; simp
  have bp : W0.cell? ⟨w.heap.size, 0, none⟩ = some (.slice p P.length cap) := by rw [hW0]; exact (World.cell?_alloc_lt _ _ _ (by simp; omega)).trans ((World.cell?_alloc_lt _ _ _ (by simp)).trans ((World.cell?_alloc_new _ _ _ _).trans rfl))
  have bq : W0.cell? ⟨w.heap.size + 1, 0, none⟩ = some (.slice p2 Q.length cap2) := by rw [hW0, show w.heap.size + 1 = (w.alloc (.cells #[.slice p P.length cap] 24)).heap.size by simp]; exact (World.cell?_alloc_lt _ _ _ (by simp)).trans ((World.cell?_alloc_new _ _ _ _).trans rfl)
  have bx : ∀ r u, ([.int .i64 op, .string v1, .int .i64 a1, .int .i64 b1, .string v2, .int .i64 a2, .int .i64 b2] : List Value)[r]? = some u → W0.cell? ⟨w.heap.size + 1 + 1, r, none⟩ = some u := fun r u hu => by
    have h9 := heap_alloc_new ((w.alloc (.cells #[.slice p P.length cap] 24)).alloc (.cells #[.slice p2 Q.length cap2] 24)) (.cells #[.int .i64 op, .string v1, .int .i64 a1, .int .i64 b1, .string v2, .int .i64 a2, .int .i64 b2] 98)
    rw [← hW0] at h9
    rw [show ((w.alloc (.cells #[.slice p P.length cap] 24)).alloc (.cells #[.slice p2 Q.length cap2] 24)).heap.size = w.heap.size + 1 + 1 by simp] at h9
    rw [cell_of_row W0 _ r _ _ (0, 0) h9, ← hu]
    simp
  have hfold : ∀ X, Below (w.heap.size + 1 + 1 + 1) (((w.alloc (.cells #[.slice p P.length cap] 24)).alloc (.cells #[.slice p2 Q.length cap2] 24)).alloc (.cells #[.int .i64 op, .string v1, .int .i64 a1, .int .i64 b1, .string v2, .int .i64 a2, .int .i64 b2] 98)) X → Below W0.heap.size W0 X := fun X hX => by rw [hz0, hW0]; exact hX
  have hb00 : Below w.heap.size w W0 := by rw [hW0]; exact hb0
  have hff := And.intro True.intro hfold
  clear hfold hW0
  go_enter Try.func11, Try.ntmps11
  go_wp2_with (first | (go_at_call 39; refine' Calls.aft _ _ (awake4_any _) _; rotate_left 2; (first | (with_reducible exact After.below _; rfl) | (with_reducible exact below_drew (After.below _); rfl) | (with_reducible exact below_set (After.below _) _ _; (go_simp; rfl)) | (with_reducible exact below_set (below_set (After.below _) _ _) _ _; (go_simp; rfl)) | (with_reducible exact below_set (below_set (below_set (After.below _) _ _) _ _) _ _; (go_simp; rfl)) | (with_reducible exact below_set (below_set (below_set (below_set (After.below _) _ _) _ _) _ _) _ _; (go_simp; rfl)) | (exact Below.refl _ _; rfl)); intro x1; have hle := After.le x1; (try simp at hle)) | (go_at_call 17; first | (with_reducible refine' Calls.aft _ _ (hsm2 _ (hb0.trans (x2.below.mono (by simp; omega)))) _; rotate_left 2; (first | (with_reducible exact After.below _; rfl) | (with_reducible exact below_drew (After.below _); rfl) | (with_reducible exact below_set (After.below _) _ _; (go_simp; rfl)) | (with_reducible exact below_set (below_set (After.below _) _ _) _ _; (go_simp; rfl)) | (with_reducible exact below_set (below_set (below_set (After.below _) _ _) _ _) _ _; (go_simp; rfl)) | (with_reducible exact below_set (below_set (below_set (below_set (After.below _) _ _) _ _) _ _) _ _; (go_simp; rfl)) | (exact Below.refl _ _; rfl)); intro x3; have hle := After.le x3; (try simp at hle)) | (with_reducible refine' Calls.aft _ _ (hsm1 _ (hb0.trans (x1.below.mono (by simp; omega)))) _; rotate_left 2; (first | (with_reducible exact After.below _; rfl) | (with_reducible exact below_drew (After.below _); rfl) | (with_reducible exact below_set (After.below _) _ _; (go_simp; rfl)) | (with_reducible exact below_set (below_set (After.below _) _ _) _ _; (go_simp; rfl)) | (with_reducible exact below_set (below_set (below_set (After.below _) _ _) _ _) _ _; (go_simp; rfl)) | (with_reducible exact below_set (below_set (below_set (below_set (After.below _) _ _) _ _) _ _) _ _; (go_simp; rfl)) | (exact Below.refl _ _; rfl)); intro x2; have hle := After.le x2; (try simp at hle))) | (go_at_call 55; first
    | (refine (hcl _ hC5).mono ?_; rintro e W6 ⟨dv, P6, rfl, hlk6, ho6, hs6, hB6⟩; obtain ⟨dp, dc, rfl⟩ := own_len ho6)
    | (refine (hcl _ (hb0.trans (x3.below.mono (by simp; omega)))).mono ?_; rintro e W4 ⟨cv, P4, rfl, hlk4, ho4, hs4, hB4⟩; obtain ⟨cp, cc, rfl⟩ := own_len ho4; have hA4 : Below W0.heap.size W0 W4 := (hff.2 _ (by simpa using x3.below)).trans (hB4.mono (by have := (hff.2 _ (by simpa using x3.below)).size; exact this)); have hA5 := hA4.alloc hA4.size (.cells #[.slice cp P4.length cc] 24); have hC5 := hb00.trans (hA5.mono (by omega)); have bp4 := (hA4.cell (p := ⟨w.heap.size, 0, none⟩) (by show w.heap.size < W0.heap.size; omega)).trans bp; have bl4 := World.block_lt_of_cell? _ _ bp4)))
  obtain ⟨W5, hW5⟩ : ∃ W5, W5 = W4.alloc (.cells #[.slice cp P4.length cc] 24) := ⟨_, rfl⟩
  rw [← hW5] at hA5 hC5 hB6 ho6 hs6
  have hPc : Pg W5 (.slice cp P4.length cc) P4 := by
    rw [hW5]
    exact ⟨(Sl.of_own ho4).below ((Below.refl _ _).alloc (Nat.le_refl _) _), fun b hb => (Sl.of_own (hs4 b hb)).below ((Below.refl _ _).alloc (Nat.le_refl _) _)⟩
  have bc5 : W5.cell? ⟨W4.heap.size, 0, none⟩ = some (.slice cp P4.length cc) := by rw [hW5]; exact (World.cell?_alloc_new _ _ _ _).trans rfl
  have h4l : W4.heap.size < W5.heap.size := by rw [hW5]; simp
  have hl6 := hs6
  have hM0 : Mu W6.heap.size (.slice dp P6.length dc) P6 0 W5 (W6.alloc (.cells #[.slice dp P6.length dc] 24)) := by
    refine ⟨heap_alloc_new _ _, ⟨_, ho6.alloc _, fun i hi => ⟨⟨(P6[i]'hi).n, ?_, fun _ => ?_⟩, ?_⟩⟩, fun b hb => ⟨_, (hs6 b hb).alloc _⟩, hB6.alloc hB6.size _⟩
    · rw [show i * 8 = i * 8 + 0 from rfl, flat_get Bl.cs_len _ _ _ (by omega), List.getElem?_eq_getElem hi]; rfl
    · exact like_mem hlk6 (p := fun b => b.n.size ≤ 40) (fun b c h hc => by rw [h.1]; exact hc) hn _ (List.getElem_mem hi)
    · rw [flat_get Bl.cs_len _ _ _ (by omega), List.getElem?_eq_getElem hi]; rfl
  have hP6 : P6.length ≤ 12 := by rw [hlk6.1]; exact h12
  have hl612 : ∀ b ∈ P6, b.l.length ≤ 12 := like_mem hlk6 (p := fun b => b.l.length ≤ 12) (fun b c h hc => by rw [h.2.1]; exact hc) hl12
  have hdn : 0 < P6.length → ∃ g, dp = some ⟨g, 0, none⟩ := fun h0 => by
    obtain ⟨g, cap9, e, _⟩ := own_some ho6 h0
    injection e with e1
    exact ⟨g, e1⟩
  have hHM : Hid (Mu W6.heap.size (.slice dp P6.length dc) P6 0 W5 (W6.alloc (.cells #[.slice dp P6.length dc] 24))) := hM0
  clear hM0 ho6 hs6 hl6 hlk6 hW5 ho4 hs4 hB4 bl4 bp4 hA4 hB6
  go_loopw [32] (fun i wr => ∃ k : Nat, k ≤ P6.length ∧ i = .int .i64 k ∧ Mu W6.heap.size (.slice dp P6.length dc) P6 k W5 wr) (fun i _ => P6.length - (intOf i).toNat)
  case atStart => exact ⟨0, Nat.zero_le _, rfl, hHM⟩
  case round =>
    obtain ⟨k, hk, rfl, hM⟩ := hrel
    by_cases hlt : k < P6.length
    · obtain ⟨g, rfl⟩ := hdn (by omega)
      have hlt2 : (k : Int) < P6.length := by omega
      obtain ⟨s, m1, m2, m3, m4, m5⟩ := hM.at hlt
      have m2' := m2 (Nat.le_refl _)
      have m6 := cell_of_one hM.box
      have m7 := lt_of_block hM.box
      have zz : ¬ (9223372036854775807 < s.size + 1) := by omega
      have hmem := List.getElem_mem hlt
      have hl := hl612 _ hmem
      have hM1 := fun t => (hM.name (t := t) hlt).drew
      clear m2
      have hHx := And.intro True.intro hM1
      clear hM1
      go_wp2_with fail
      go_region
      have hM2 := hHx.2 (s ++ ⟨#[120]⟩)
      obtain ⟨W7, hW7⟩ : ∃ W7, W7 = (wr.setCell ⟨g, k * 8, none⟩ (.string (s ++ ⟨#[120]⟩))).drew := ⟨_, rfl⟩
      rw [← hW7] at hM2 ⊢
      clear hW7 hHx m1 m2' m3 m4 m5 m6 m7 zz hM
      obtain ⟨ys, hy⟩ := hM2.sts _ hmem
      obtain ⟨lp, lc, hlv⟩ := own_len hy
      obtain ⟨s', _, _, n3, _, n5⟩ := hM2.at hlt
      rw [hlv] at n3
      have n6 := cell_of_one hM2.box
      have n7 := lt_of_block hM2.box
      have hlp : 0 < (P6[k]'hlt).l.length → ∃ h, lp = some ⟨h, 0, none⟩ := fun h0 => by
        obtain ⟨h, cap9, e, _⟩ := own_some hy h0
        rw [hlv] at e
        injection e with e1
        exact ⟨h, e1⟩
      clear hy ys
      generalize hBk : P6[k]'hlt = B at hmem hl hlv n3 hlp
      have hBk1 : Hid (P6[k]'hlt = B) := hBk
      have hlv1 : Hid (B.lv = .slice lp B.l.length lc) := hlv
      have hHM2 : Hid (Mu W6.heap.size (.slice (some ⟨g, 0, none⟩) P6.length dc) P6 (k + 1) W5 W7) := hM2
      clear hBk hlv hM2
      go_wp2_with fail
      clear n3 n5 n6 n7
      go_loopw [54] (fun i wr => ∃ j : Nat, j ≤ B.l.length ∧ i = .int .i64 j ∧ Mu W6.heap.size (.slice (some ⟨g, 0, none⟩) P6.length dc) P6 (k + 1) W5 wr) (fun i _ => B.l.length - (intOf i).toNat)
      case atStart => exact ⟨0, Nat.zero_le _, rfl, hHM2⟩
      case round =>
        obtain ⟨j, hj, rfl, hMj⟩ := hrel
        by_cases hjt : j < B.l.length
        · obtain ⟨h, rfl⟩ := hlp (by omega)
          have hjt2 : (j : Int) < B.l.length := by omega
          obtain ⟨s'', _, _, n3, _, n5⟩ := hMj.at hlt
          rw [hBk1, hlv1] at n3
          have n6 := cell_of_one hMj.box
          have n7 := lt_of_block hMj.box
          obtain ⟨u, q1, q2, q3⟩ := hMj.stmt hmem hlv1 hjt
          have hMk : Hid (Mu W6.heap.size (.slice (some ⟨g, 0, none⟩) P6.length dc) P6 (k + 1) W5 (wr.setCell ⟨h, j * 9, none⟩ (.int .i64 9))) := hMj.kind hmem hlv1
          clear hMj
          go_wp2_with fail
          go_roundw
          case rel => exact ⟨j + 1, by omega, by simp, hMk⟩
          case measure => simp [intOf]; omega
        · have hks : j = B.l.length := by omega
          subst hks
          have hjt2 : ¬ (B.l.length : Int) < B.l.length := by omega
          have hMk : Hid (Mu W6.heap.size (.slice (some ⟨g, 0, none⟩) P6.length dc) P6 (k + 1) W5 wr) := hMj
          clear hMj
          go_wp2_with fail
          go_roundw
          case rel => exact ⟨k + 1, by omega, by simp, hMk⟩
          case measure => simp [intOf]; omega
    · have hks : k = P6.length := by omega
      subst hks
      have hlt2 : ¬ (P6.length : Int) < P6.length := by omega
      have hB7 := hM.bel
      clear hM hHM
      go_wp2_with fail
      have hA7 : Below W0.heap.size W0 wr := (hA5.trans (hB7.mono hA5.size))
      have hB7w : Below w.heap.size w wr := hb00.trans (hA7.mono hb00.size)
      have hx9 : ∀ r u, ([.int .i64 op, .string v1, .int .i64 a1, .int .i64 b1, .string v2, .int .i64 a2, .int .i64 b2] : List Value)[r]? = some u → wr.drew.cell? ⟨w.heap.size + 1 + 1, r, none⟩ = some u := fun r u hu => (hA7.cell (p := ⟨w.heap.size + 1 + 1, r, none⟩) (by show w.heap.size + 1 + 1 < W0.heap.size; omega)).trans (bx r u hu)
      have f0 : wr.drew.cell? ⟨w.heap.size + 1 + 1, 0, none⟩ = some (.int .i64 op) := hx9 0 _ rfl
      have f1 : wr.drew.cell? ⟨w.heap.size + 1 + 1, 1, none⟩ = some (.string v1) := hx9 1 _ rfl
      have f2 : wr.drew.cell? ⟨w.heap.size + 1 + 1, 2, none⟩ = some (.int .i64 a1) := hx9 2 _ rfl
      have f3 : wr.drew.cell? ⟨w.heap.size + 1 + 1, 3, none⟩ = some (.int .i64 b1) := hx9 3 _ rfl
      have f4 : wr.drew.cell? ⟨w.heap.size + 1 + 1, 4, none⟩ = some (.string v2) := hx9 4 _ rfl
      have f5 : wr.drew.cell? ⟨w.heap.size + 1 + 1, 5, none⟩ = some (.int .i64 a2) := hx9 5 _ rfl
      have f6 : wr.drew.cell? ⟨w.heap.size + 1 + 1, 6, none⟩ = some (.int .i64 b2) := hx9 6 _ rfl
      have fl := World.block_lt_of_cell? _ _ f0
      clear hx9
      have hat := atoms_any op v1 a1 b1 v2 a2 b2
      have hrt := ratoms_any op v1 a1 b1 v2 a2 b2
      have hll := atomsOf_len ⟨op, ⟨v1, a1, b1⟩, ⟨v2, a2, b2⟩⟩
      generalize atomsOf ⟨op, ⟨v1, a1, b1⟩, ⟨v2, a2, b2⟩⟩ = L at hat hrt hll
      go_region_law (first | (refine step_callS rfl 56 #[.agg #[.int .i64 op, .string v1, .int .i64 a1, .int .i64 b1, .string v2, .int .i64 a2, .int .i64 b2]] (fun v w' => Sl w' v At.cs L) ?hop1 ((fun _ => hat _) hmB) ?_; (case hop1 => (go_simp; done)); intro va q2 hva hq2) | (refine step_callS rfl 57 #[.agg #[.int .i64 op, .string v1, .int .i64 a1, .int .i64 b1, .string v2, .int .i64 a2, .int .i64 b2]] (fun v w' => Sl w' v At.cs L) ?hop2 ((fun _ => hrt _) hmA) ?_; (case hop2 => (go_simp; done)); intro vb q2 hvb hq2) | (refine step_callS rfl 56 #[.agg #[.int .i64 op, .string v1, .int .i64 a1, .int .i64 b1, .string v2, .int .i64 a2, .int .i64 b2]] (fun v w' => Sl w' v At.cs L) ?hop3 (hat _) ?_; (case hop3 => (go_simp; done)); intro va q1 hva hq1; have hmA := hq1; have g0 := (hq1.cell (p := ⟨w.heap.size + 1 + 1, 0, none⟩) fl).trans f0; have g1 := (hq1.cell (p := ⟨w.heap.size + 1 + 1, 1, none⟩) fl).trans f1; have g2 := (hq1.cell (p := ⟨w.heap.size + 1 + 1, 2, none⟩) fl).trans f2; have g3 := (hq1.cell (p := ⟨w.heap.size + 1 + 1, 3, none⟩) fl).trans f3; have g4 := (hq1.cell (p := ⟨w.heap.size + 1 + 1, 4, none⟩) fl).trans f4; have g5 := (hq1.cell (p := ⟨w.heap.size + 1 + 1, 5, none⟩) fl).trans f5; have g6 := (hq1.cell (p := ⟨w.heap.size + 1 + 1, 6, none⟩) fl).trans f6; have gl := World.block_lt_of_cell? _ _ g0) | (refine step_callS rfl 57 #[.agg #[.int .i64 op, .string v1, .int .i64 a1, .int .i64 b1, .string v2, .int .i64 a2, .int .i64 b2]] (fun v w' => Sl w' v At.cs L) ?hop4 (hrt _) ?_; (case hop4 => (go_simp; done)); intro vb q1 hvb hq1; have hmB := hq1; have g0 := (hq1.cell (p := ⟨w.heap.size + 1 + 1, 0, none⟩) fl).trans f0; have g1 := (hq1.cell (p := ⟨w.heap.size + 1 + 1, 1, none⟩) fl).trans f1; have g2 := (hq1.cell (p := ⟨w.heap.size + 1 + 1, 2, none⟩) fl).trans f2; have g3 := (hq1.cell (p := ⟨w.heap.size + 1 + 1, 3, none⟩) fl).trans f3; have g4 := (hq1.cell (p := ⟨w.heap.size + 1 + 1, 4, none⟩) fl).trans f4; have g5 := (hq1.cell (p := ⟨w.heap.size + 1 + 1, 5, none⟩) fl).trans f5; have g6 := (hq1.cell (p := ⟨w.heap.size + 1 + 1, 6, none⟩) fl).trans f6; have gl := World.block_lt_of_cell? _ _ g0))
      all_goals (
        have hS1 : Sl q2 va At.cs L := by first | exact hva | exact Sl.below hva hq2
        have hS2 : Sl q2 vb At.cs L := by first | exact hvb | exact Sl.below hvb hq2
        have hB8 : Below wr.heap.size wr q2 := ((Below.refl wr.heap.size wr).drew).trans ((hq1.trans (hq2.mono hq1.size)).mono (Nat.le_refl _))
        clear hq1 hq2 hva hvb g0 g1 g2 g3 g4 g5 g6 gl f0 f1 f2 f3 f4 f5 f6 fl hat hrt
        obtain ⟨ab, aoff, ap, acap, rfl, hap, hac⟩ := hS1.open At.cs_len
        obtain ⟨bb, boff, bp9, bcap, rfl, hbp, hbc⟩ := hS2.open At.cs_len
        clear hS1 hS2
        go_wp2_with fail
        go_loopw [79] (fun i wr => ∃ k : Nat, k ≤ L.length ∧ i = .int .i64 k ∧ Below q2.heap.size q2 wr) (fun i _ => L.length - (intOf i).toNat)
        case atStart => exact ⟨0, Nat.zero_le _, rfl, Below.refl _ _⟩
        case round =>
          obtain ⟨k, hk, rfl, hB⟩ := hrel
          have hw := hB.size
          by_cases hlt : k < L.length
          · obtain rfl := hap (by omega)
            obtain rfl := hbp (by omega)
            have hlt2 : (k : Int) < L.length := by omega
            have hcr : ∀ r u, ((L[k]'hlt).cs)[r]? = some u → wr.cell? ⟨ab, aoff + k * 3 + r, none⟩ = some u := fun r u hu => by
              rw [Nat.add_assoc]
              exact (hB.cell (p := ⟨ab, aoff + (k * 3 + r), none⟩) (World.block_lt_of_cell? _ _ (hac k hlt r u hu))).trans (hac k hlt r u hu)
            have hcs : ∀ r u, ((L[k]'hlt).cs)[r]? = some u → wr.cell? ⟨bb, boff + k * 3 + r, none⟩ = some u := fun r u hu => by
              rw [Nat.add_assoc]
              exact (hB.cell (p := ⟨bb, boff + (k * 3 + r), none⟩) (World.block_lt_of_cell? _ _ (hbc k hlt r u hu))).trans (hbc k hlt r u hu)
            clear hac hbc
            generalize L[k]'hlt = y at hcr hcs
            obtain ⟨yv, ya, yb⟩ := y
            have c0 : wr.cell? ⟨ab, aoff + k * 3, none⟩ = some (.string yv) := hcr 0 _ rfl
            have c1 : wr.cell? ⟨ab, aoff + k * 3 + 1, none⟩ = some (.int .i64 ya) := hcr 1 _ rfl
            have c2 : wr.cell? ⟨ab, aoff + k * 3 + 2, none⟩ = some (.int .i64 yb) := hcr 2 _ rfl
            have d0 : wr.cell? ⟨bb, boff + k * 3, none⟩ = some (.string yv) := hcs 0 _ rfl
            have d1 : wr.cell? ⟨bb, boff + k * 3 + 1, none⟩ = some (.int .i64 ya) := hcs 1 _ rfl
            have d2 : wr.cell? ⟨bb, boff + k * 3 + 2, none⟩ = some (.int .i64 yb) := hcs 2 _ rfl
            have hg := World.block_lt_of_cell? _ _ c0
            have hg2 := World.block_lt_of_cell? _ _ d0
            have he : eqA ⟨yv, ya, yb⟩ ⟨yv, ya, yb⟩ = true := eqA_refl _
            clear hcr hcs
            go_wp2_with fail
            go_region
            all_goals (
              go_wp2_with fail
              go_roundw
              case rel => exact ⟨k + 1, by omega, by simp, (hB.alloc hw _).drew⟩
              case measure => simp [intOf]; omega)
          · have hks : k = L.length := by omega
            subst hks
            have hlt2 : ¬ (L.length : Int) < L.length := by omega
            clear hac hbc
            go_wp2_with fail
            have hBc : Below W5.heap.size W5 wr := hB7.trans ((hB8.trans (hB.mono hB8.size)).mono hB7.size)
            have hBw := hC5.trans (hBc.mono hC5.size)
            have hA9 := hA5.trans (hBc.mono hA5.size)
            have rp := (hA9.cell (p := ⟨w.heap.size, 0, none⟩) (by show w.heap.size < W0.heap.size; omega)).trans bp
            have rq := (hA9.cell (p := ⟨w.heap.size + 1, 0, none⟩) (by show w.heap.size + 1 < W0.heap.size; omega)).trans bq
            have rc := (hBc.cell (p := ⟨W4.heap.size, 0, none⟩) h4l).trans bc5
            have l1 := World.block_lt_of_cell? _ _ rp
            have l2 := World.block_lt_of_cell? _ _ rq
            have l3 := World.block_lt_of_cell? _ _ rc
            have i12 : P4.length ≤ 12 := by rw [hlk4.1]; exact h12
            have il12 : ∀ b ∈ P4, b.l.length ≤ 12 := like_mem hlk4 (p := fun b => b.l.length ≤ 12) (fun b c h hc => by rw [h.2.1]; exact hc) hl12
            have n1 := fun (z : After wr) => psame_any P Q h12 k12 hl12 kl12 _ _ z.val (hpg _ (hBw.trans (z.below.mono hBw.size))) (hqg _ (hBw.trans (z.below.mono hBw.size)))
            have n2 := fun (z : After wr) => rsame_any P Q h12 k12 hl12 kl12 _ _ z.val (hpg _ (hBw.trans (z.below.mono hBw.size))) (hqg _ (hBw.trans (z.below.mono hBw.size)))
            have n3 := fun (z : After wr) => psame_any P4 P i12 h12 il12 hl12 _ _ z.val (hPc.below (hBc.trans (z.below.mono hBc.size))) (hpg _ (hBw.trans (z.below.mono hBw.size)))
            have n4 := fun (z : After wr) => rsame_any P4 P i12 h12 il12 hl12 _ _ z.val (hPc.below (hBc.trans (z.below.mono hBc.size))) (hpg _ (hBw.trans (z.below.mono hBw.size)))
            rw [sameP_like hlk4] at n3 n4
            generalize sameP P Q = z0 at n1 n2
            have zz : (z0 == z0) = true := by simp
            clear hA9 hB hB7 hB8 hA7 hB7w i12 il12 hw bp bq bx bc5 hpg hqg hsm1 hsm2 hcl hff hb0
            refine' region_whole _ _ (by kernel_rfl) (by kernel_rfl) _; rotate_left 2; (exact Below.refl _ _; rfl); (repeat (go_big_quiet_step (first | (go_at_call 58; first | (with_reducible exact Calls.after_of (n1 _)) | (with_reducible exact Calls.after_of (n3 _))) | (go_at_call 51; first | (with_reducible exact Calls.after_of (n2 _)) | (with_reducible exact Calls.after_of (n4 _)))))); refine wpQuiet_nil ?_; intro z
            go_wp2_with fail
            refine bodyPost_ret (v := .bool true) (by simp only [results, Try.results11]; go_simp) rfl ⟨rfl, hBw.trans (z.below.mono hBw.size)⟩)

end Go.Proofs.Ytekpkhgpjpgcbaa.Pr

/- WALK of soughref04.Check. -/
import Derived.Test.YtjjmoibnmdbpeaaChkd
import Derived.Test.YtjjmoibnmdbpeaaChkg
namespace Go.Proofs.Ytjjmoibnmdbpeaa.Pr
set_option linter.unusedVariables false
set_option linter.unusedSimpArgs false
open Go Go.RowKit

theorem blockB_def (B : Bl) : blockB B = (Tk.nameB B.n && (termB B.t && B.l.all stmtB)) := by unfold blockB; rw [Bool.and_assoc]
theorem block_k {B : Bl} (h : blockB B = true) : B.t.k = 1 ∨ B.t.k = 2 ∨ B.t.k = 3 := by
  rw [blockB_def] at h
  simp only [Bool.and_eq_true] at h
  have ht := h.2.1
  by_cases h1 : B.t.k = 1
  · exact .inl h1
  by_cases h2 : B.t.k = 2
  · exact .inr (.inl h2)
  by_cases h3 : B.t.k = 3
  · exact .inr (.inr h3)
  · unfold termB at ht
    rw [if_neg h1, if_neg h2, if_neg h3] at ht
    cases ht

set_option maxRecDepth 100000 in
set_option maxHeartbeats 4000000 in
theorem rcheck_any (P : List Bl) (h12 : P.length ≤ 12) (hl12 : ∀ b ∈ P, b.l.length ≤ 12) (pv : Value) (hcp : CapOk pv) (w : World) (h : Pg w pv P) :
    Calls Try.prog 29 #[.agg #[pv]] w fun e w' => e = .returned (.int .i64 (checkOf P)) ∧ Below w.heap.size w w' := by
  by_cases h0 : P.length = 0
  · have e : checkOf P = 6 := by unfold checkOf; rw [if_pos (.inl h0)]
    rw [e]
    obtain ⟨p, cap, hpv⟩ : ∃ p cap, pv = .slice p P.length cap := by obtain ⟨b, off, p, cap, hv, _⟩ := h.1; exact ⟨p, cap, hv⟩
    subst hpv
    rw [h0]
    clear h hcp
    go_enter Try.func29, Try.ntmps29
    go_wp2_with fail
    go_ret
    refine ⟨rfl, ?_⟩
    (repeat (first | exact Below.refl _ _ | apply Below.drew | refine Below.alloc ?_ ?_ _ | refine Below.setCell ?_ ?_ _ | refine Below.trans ?_ (Below.mono (After.below _) ?_))); (all_goals (first | (simp; done) | (simp; omega) | omega))
  have hpg : ∀ W, Below w.heap.size w W → Pg W pv P := fun W hB => h.below hB
  have hst := fun W hB => rstmts_any P pv W (hpg W hB) h12 hl12
  have hva := fun W hB => rvars_any P pv W (hpg W hB) h12 hl12
  have hha := fun n (hn : n ≤ P.length) x W hB => has_any P n hn h12 x pv hcp W (hpg W hB)
  have hsl := stmtsOf_le hl12
  have f12 : ∀ k (hk : k < P.length), blockB (P[k]'hk) = false → checkOf P = 12 := fun k hk hb => check_12 h0 h12 hl12 hk hb
  have f6 := check_6 h0 h12 hl12
  have f5 := fun ha hv k hk ht => check_5 h0 h12 hl12 ha hv (k := k) hk ht
  have f4 := fun ha hv ht k hk hb => check_4 h0 h12 hl12 ha hv ht (k := k) hk hb
  have f0 := check_0 h0 h12 hl12
  have hF := And.intro f12 (And.intro f6 (And.intro f5 (And.intro f4 f0)))
  clear f12 f6 f5 f4 f0
  generalize checkOf P = R at hF ⊢
  obtain ⟨b, off, p, cap, rfl, hp, hc⟩ := Pg.open h
  have hb0 : Below w.heap.size w (w.alloc (.cells #[.slice p P.length cap] 57)) := (Below.refl _ _).alloc (Nat.le_refl _) _
  have g0 : ¬ (P.length : Int) < 1 := by omega
  generalize stmtsOf P = sn at hst hsl
  go_enter Try.func29, Try.ntmps29
  go_wp2_with ((go_at_call 55; refine' Calls.aft _ _ (hst _ hb0) _; rotate_left 2; (first | (with_reducible exact After.below _; rfl) | (with_reducible exact below_drew (After.below _); rfl) | (with_reducible exact below_set (After.below _) _ _; (go_simp; rfl)) | (with_reducible exact below_set (below_set (After.below _) _ _) _ _; (go_simp; rfl)) | (with_reducible exact below_set (below_set (below_set (After.below _) _ _) _ _) _ _; (go_simp; rfl)) | (with_reducible exact below_set (below_set (below_set (below_set (After.below _) _ _) _ _) _ _) _ _; (go_simp; rfl)) | (exact Below.refl _ _; rfl)); intro x1; have hle := After.le x1; (try simp at hle)))
  obtain ⟨W0, hW0⟩ : ∃ W0, W0 = w.alloc (.cells #[.slice p P.length cap] 57) := ⟨_, rfl⟩
  have hW0s : W0.heap.size = w.heap.size + 1 := by rw [hW0]; simp
  have hbx : W0.cell? ⟨w.heap.size, 0, none⟩ = some (.slice p P.length cap) := by rw [hW0]; simp
  have hB1 : Below (w.heap.size + 1) W0 x1.val := by rw [hW0]; simpa using x1.below
  rw [← hW0] at hb0
  generalize x1.val = W1 at hB1 hle ⊢
  clear hst hW0
  go_loopw [29] (fun i wr => ∃ k : Nat, k ≤ P.length ∧ i = .int .i64 k ∧ (P.take k).all blockB = true ∧ Below (w.heap.size + 1) W0 wr) (fun i _ => P.length - (intOf i).toNat)
  case atStart => exact ⟨0, Nat.zero_le _, rfl, by simp, hB1⟩
  case round =>
    obtain ⟨k, hk, rfl, hall, hB⟩ := hrel
    have hBw : Below w.heap.size w wr := hb0.trans (hB.mono (by omega))
    have hw := hB.size
    have hw2 := hBw.size
    by_cases hlt : k < P.length
    · obtain rfl := hp (by omega)
      have hlt2 : (k : Int) < P.length := by omega
      have hcw : ∀ r u, ((P[k]'hlt).cs)[r]? = some u → w.cell? ⟨b, off + (k * 8 + r), none⟩ = some u := (hc k hlt).1
      have hsB := (hc k hlt).2
      have hlB := hl12 _ (List.getElem_mem hlt)
      have hbad := hF.1 k hlt
      have hnext : blockB (P[k]'hlt) = true → (P.take (k + 1)).all blockB = true := fun h => all_next hlt hall h
      clear hc hall hF
      generalize P[k]'hlt = B at hcw hsB hlB hbad hnext
      have hcr : ∀ r u, B.cs[r]? = some u → wr.cell? ⟨b, off + k * 8 + r, none⟩ = some u := fun r u hu => by
        rw [Nat.add_assoc]
        exact (hBw.cell (p := ⟨b, off + (k * 8 + r), none⟩) (World.block_lt_of_cell? _ _ (hcw r u hu))).trans (hcw r u hu)
      obtain ⟨lb, loff, lp, lcap, hlv, hlp, hlc⟩ := hsB.open St.cs_len
      have c0 : wr.cell? ⟨b, off + k * 8, none⟩ = some (.string B.n) := hcr 0 _ rfl
      have hbw := World.block_lt_of_cell? _ _ c0
      have c1 := hcr 1 _ rfl
      have c2 := hcr 2 _ rfl
      have c3 := hcr 3 _ rfl
      have c4 := hcr 4 _ rfl
      have c5 := hcr 5 _ rfl
      have c6 := hcr 6 _ rfl
      have c7 := hcr 7 _ rfl
      clear hcr hcw hsB
      rw [hlv] at c1
      have hnm := Tk.rname_any B.n
      have htm := rterm_any B.t.k B.t.x.v B.t.x.a B.t.x.b B.t.t B.t.e
      rw [show (⟨B.t.k, ⟨B.t.x.v, B.t.x.a, B.t.x.b⟩, B.t.t, B.t.e⟩ : Te) = B.t from rfl] at htm
      have hBa := hB.alloc (by omega) (.cells #[.string B.n, .slice lp B.l.length lcap, .int .i64 B.t.k, .string B.t.x.v, .int .i64 B.t.x.a, .int .i64 B.t.x.b, .string B.t.t, .string B.t.e] 91)
      rw [blockB_def] at hbad hnext
      have hm := And.intro hbad hnext
      clear hbad hnext
      cases hnb : Tk.nameB B.n
      · rw [hnb] at hnm hm
        have hRk := hm.1 (by simp)
        subst hRk
        clear hm htm
        go_wp2_with ((go_at_call 56; refine' Calls.aft _ _ (hnm _) _; rotate_left 2; (first | (with_reducible exact After.below _; rfl) | (with_reducible exact below_drew (After.below _); rfl) | (with_reducible exact below_set (After.below _) _ _; (go_simp; rfl)) | (with_reducible exact below_set (below_set (After.below _) _ _) _ _; (go_simp; rfl)) | (with_reducible exact below_set (below_set (below_set (After.below _) _ _) _ _) _ _; (go_simp; rfl)) | (with_reducible exact below_set (below_set (below_set (below_set (After.below _) _ _) _ _) _ _) _ _; (go_simp; rfl)) | (exact Below.refl _ _; rfl)); intro x2; have hle := After.le x2; (try simp at hle)))
        go_ret
        exact ⟨rfl, hb0.trans ((hBa.trans (x2.below.mono (by simp; omega))).mono (by omega))⟩
      cases htb : termB B.t
      · rw [hnb] at hnm hm
        rw [htb] at htm hm
        have hRk := hm.1 (by simp)
        subst hRk
        clear hm
        go_wp2_with (first | (go_at_call 56; refine' Calls.aft _ _ (hnm _) _; rotate_left 2; (first | (with_reducible exact After.below _; rfl) | (with_reducible exact below_drew (After.below _); rfl) | (with_reducible exact below_set (After.below _) _ _; (go_simp; rfl)) | (with_reducible exact below_set (below_set (After.below _) _ _) _ _; (go_simp; rfl)) | (with_reducible exact below_set (below_set (below_set (After.below _) _ _) _ _) _ _; (go_simp; rfl)) | (with_reducible exact below_set (below_set (below_set (below_set (After.below _) _ _) _ _) _ _) _ _; (go_simp; rfl)) | (exact Below.refl _ _; rfl)); intro x2; have hle := After.le x2; (try simp at hle)) | (go_at_call 57; refine' Calls.aft _ _ (htm _) _; rotate_left 2; (first | (with_reducible exact After.below _; rfl) | (with_reducible exact below_drew (After.below _); rfl) | (with_reducible exact below_set (After.below _) _ _; (go_simp; rfl)) | (with_reducible exact below_set (below_set (After.below _) _ _) _ _; (go_simp; rfl)) | (with_reducible exact below_set (below_set (below_set (After.below _) _ _) _ _) _ _; (go_simp; rfl)) | (with_reducible exact below_set (below_set (below_set (below_set (After.below _) _ _) _ _) _ _) _ _; (go_simp; rfl)) | (exact Below.refl _ _; rfl)); intro x3; have hle := After.le x3; (try simp at hle)))
        go_ret
        exact ⟨rfl, hb0.trans ((hBa.trans (x3.below.mono (by simp; omega))).mono (by omega))⟩
      rw [hnb] at hnm hm
      rw [htb] at htm hm
      simp only [Bool.true_and] at hm
      clear hnb htb
      go_wp2_with (first | (go_at_call 56; refine' Calls.aft _ _ (hnm _) _; rotate_left 2; (first | (with_reducible exact After.below _; rfl) | (with_reducible exact below_drew (After.below _); rfl) | (with_reducible exact below_set (After.below _) _ _; (go_simp; rfl)) | (with_reducible exact below_set (below_set (After.below _) _ _) _ _; (go_simp; rfl)) | (with_reducible exact below_set (below_set (below_set (After.below _) _ _) _ _) _ _; (go_simp; rfl)) | (with_reducible exact below_set (below_set (below_set (below_set (After.below _) _ _) _ _) _ _) _ _; (go_simp; rfl)) | (exact Below.refl _ _; rfl)); intro x2; have hle := After.le x2; (try simp at hle)) | (go_at_call 57; refine' Calls.aft _ _ (htm _) _; rotate_left 2; (first | (with_reducible exact After.below _; rfl) | (with_reducible exact below_drew (After.below _); rfl) | (with_reducible exact below_set (After.below _) _ _; (go_simp; rfl)) | (with_reducible exact below_set (below_set (After.below _) _ _) _ _; (go_simp; rfl)) | (with_reducible exact below_set (below_set (below_set (After.below _) _ _) _ _) _ _; (go_simp; rfl)) | (with_reducible exact below_set (below_set (below_set (below_set (After.below _) _ _) _ _) _ _) _ _; (go_simp; rfl)) | (exact Below.refl _ _; rfl)); intro x3; have hle := After.le x3; (try simp at hle)))
      have hB3 : Below (w.heap.size + 1) W0 x3.val := hBa.trans (x3.below.mono (by simp; omega))
      generalize x3.val = W3 at hB3 ⊢
      clear hnm htm c0 c1 c2 c3 c4 c5 c6 c7 hBw hbw hw hw2
      go_loopw [46] (fun i wr => ∃ j : Nat, j ≤ B.l.length ∧ i = .int .i64 j ∧ (B.l.take j).all stmtB = true ∧ Below (w.heap.size + 1) W0 wr) (fun i _ => B.l.length - (intOf i).toNat)
      case atStart => exact ⟨0, Nat.zero_le _, rfl, by simp, hB3⟩
      case round =>
        obtain ⟨j, hj, rfl, hallj, hBj⟩ := hrel
        have hBjw : Below w.heap.size w wr := hb0.trans (hBj.mono (by omega))
        have hwj := hBj.size
        by_cases hjt : j < B.l.length
        · obtain rfl := hlp (by omega)
          have hjt2 : (j : Int) < B.l.length := by omega
          have hbad2 : stmtB (B.l[j]'hjt) = false → R = 12 := fun h => hm.1 (all_bad hjt h)
          have hnext2 : stmtB (B.l[j]'hjt) = true → (B.l.take (j + 1)).all stmtB = true := fun h => all_next hjt hallj h
          have hlcj := hlc j hjt
          have hm2 := And.intro hbad2 hnext2
          clear hbad2 hnext2 hallj hlc
          generalize (B.l[j]'hjt) = s at hlcj hm2
          have hcj : ∀ r u, s.cs[r]? = some u → wr.cell? ⟨lb, loff + j * 9 + r, none⟩ = some u := fun r u hu => by
            rw [Nat.add_assoc]
            exact (hBjw.cell (p := ⟨lb, loff + (j * 9 + r), none⟩) (World.block_lt_of_cell? _ _ (hlcj r u hu))).trans (hlcj r u hu)
          have e0 : wr.cell? ⟨lb, loff + j * 9, none⟩ = some (.int .i64 s.k) := hcj 0 _ rfl
          have hbq := World.block_lt_of_cell? _ _ e0
          have e1 := hcj 1 _ rfl
          have e2 := hcj 2 _ rfl
          have e3 := hcj 3 _ rfl
          have e4 := hcj 4 _ rfl
          have e5 := hcj 5 _ rfl
          have e6 := hcj 6 _ rfl
          have e7 := hcj 7 _ rfl
          have e8 := hcj 8 _ rfl
          clear hcj hlcj
          have hra := rstmt_any s.k s.v s.e.op s.e.x.v s.e.x.a s.e.x.b s.e.y.v s.e.y.a s.e.y.b
          rw [show (⟨s.k, s.v, ⟨s.e.op, ⟨s.e.x.v, s.e.x.a, s.e.x.b⟩, ⟨s.e.y.v, s.e.y.a, s.e.y.b⟩⟩⟩ : St) = s from rfl] at hra
          have hBa2 := hBj.alloc (by omega) (.cells #[.int .i64 s.k, .string s.v, .int .i64 s.e.op, .string s.e.x.v, .int .i64 s.e.x.a, .int .i64 s.e.x.b, .string s.e.y.v, .int .i64 s.e.y.a, .int .i64 s.e.y.b] 86)
          cases hn : stmtB s
          · rw [hn] at hra
            have hRk := hm2.1 hn
            subst hRk
            clear hm2 hn hm
            go_wp2_with ((go_at_call 58; refine' Calls.aft _ _ (hra _) _; rotate_left 2; (first | (with_reducible exact After.below _; rfl) | (with_reducible exact below_drew (After.below _); rfl) | (with_reducible exact below_set (After.below _) _ _; (go_simp; rfl)) | (with_reducible exact below_set (below_set (After.below _) _ _) _ _; (go_simp; rfl)) | (with_reducible exact below_set (below_set (below_set (After.below _) _ _) _ _) _ _; (go_simp; rfl)) | (with_reducible exact below_set (below_set (below_set (below_set (After.below _) _ _) _ _) _ _) _ _; (go_simp; rfl)) | (exact Below.refl _ _; rfl)); intro x4; have hle := After.le x4; (try simp at hle)))
            go_ret
            exact ⟨rfl, hb0.trans ((hBa2.trans (x4.below.mono (by simp; omega))).mono (by omega))⟩
          · rw [hn] at hra
            have hx := And.intro True.intro (hm2.2 hn)
            clear hm2 hn
            go_wp2_with ((go_at_call 58; refine' Calls.aft _ _ (hra _) _; rotate_left 2; (first | (with_reducible exact After.below _; rfl) | (with_reducible exact below_drew (After.below _); rfl) | (with_reducible exact below_set (After.below _) _ _; (go_simp; rfl)) | (with_reducible exact below_set (below_set (After.below _) _ _) _ _; (go_simp; rfl)) | (with_reducible exact below_set (below_set (below_set (After.below _) _ _) _ _) _ _; (go_simp; rfl)) | (with_reducible exact below_set (below_set (below_set (below_set (After.below _) _ _) _ _) _ _) _ _; (go_simp; rfl)) | (exact Below.refl _ _; rfl)); intro x4; have hle := After.le x4; (try simp at hle)))
            go_roundw
            case rel => exact ⟨j + 1, by omega, by simp, hx.2, hBa2.trans (x4.below.mono (by simp; omega))⟩
            case measure => simp [intOf]; omega
        · have hks : j = B.l.length := by omega
          subst hks
          have hjt2 : ¬ (B.l.length : Int) < B.l.length := by omega
          rw [List.take_length] at hallj
          have hx := And.intro True.intro (hm.2 hallj)
          clear hm hallj hlc
          go_wp2_with fail
          go_roundw
          case rel => exact ⟨k + 1, by omega, by simp, hx.2, hBj⟩
          case measure => simp [intOf]; omega
    · have hks : k = P.length := by omega
      subst hks
      have hlt2 : ¬ (P.length : Int) < P.length := by omega
      rw [List.take_length] at hall
      have hF2 := And.intro (hF.2.1 hall) (And.intro (hF.2.2.1 hall) (And.intro (hF.2.2.2.1 hall) (hF.2.2.2.2 hall)))
      have hkind : ∀ k (hk : k < P.length), (P[k]'hk).t.k = 1 ∨ (P[k]'hk).t.k = 2 ∨ (P[k]'hk).t.k = 3 := fun k hk => block_k (List.all_eq_true.1 hall _ (List.getElem_mem hk))
      have bxr := (hB.cell (p := ⟨w.heap.size, 0, none⟩) (by show w.heap.size < w.heap.size + 1; omega)).trans hbx
      have bxl := World.block_lt_of_cell? _ _ bxr
      have hvv := hva _ hBw
      clear hF hall hva
      generalize vars P = V at hvv hF2
      by_cases h64 : 64 < V.length
      · have hRk := hF2.1 h64
        subst hRk
        have h64' : (64 : Int) < V.length := by omega
        clear hc hF2
        go_wp2_with (go_at_call 59; refine hvv.mono ?_; rintro e W2 ⟨vv, rfl, hv, hB2⟩; obtain ⟨p9, c9, rfl⟩ := Sl.len hv rfl)
        go_ret
        exact ⟨rfl, hBw.trans (hB2.mono hw2)⟩
      have h64' : ¬ (64 : Int) < V.length := by omega
      have hF3 := And.intro (hF2.2.1 h64) (And.intro (hF2.2.2.1 h64) (hF2.2.2.2 h64))
      clear hF2
      go_wp2_with (go_at_call 59; refine hvv.mono ?_; rintro e W2 ⟨vv, rfl, hv, hB2⟩; obtain ⟨p9, c9, rfl⟩ := Sl.len hv rfl; have bx2 := (hB2.cell (p := ⟨w.heap.size, 0, none⟩) bxl).trans bxr)
      have hB3 : Below (w.heap.size + 1) W0 W2 := hB.trans (hB2.mono (by omega))
      clear hv hB2 bxr bxl hvv hBw hB hw hw2 bx2
      go_loopw [62] (fun i wr => ∃ k : Nat, k ≤ P.length ∧ i = .int .i64 k ∧ (∀ j (hj : j < k) (hj2 : j < P.length), hasN P j (P[j]'hj2).n = false) ∧ Below (w.heap.size + 1) W0 wr) (fun i _ => P.length - (intOf i).toNat)
      case atStart => exact ⟨0, Nat.zero_le _, rfl, fun j hj => by omega, hB3⟩
      case round =>
        obtain ⟨k, hk, rfl, hno, hB⟩ := hrel
        have hBw : Below w.heap.size w wr := hb0.trans (hB.mono (by omega))
        have hw := hB.size
        have hw2 := hBw.size
        have bxr := (hB.cell (p := ⟨w.heap.size, 0, none⟩) (by show w.heap.size < w.heap.size + 1; omega)).trans hbx
        have bxl := World.block_lt_of_cell? _ _ bxr
        by_cases hlt : k < P.length
        · obtain rfl := hp (by omega)
          have hlt2 : (k : Int) < P.length := by omega
          have hcw : ∀ r u, ((P[k]'hlt).cs)[r]? = some u → w.cell? ⟨b, off + (k * 8 + r), none⟩ = some u := (hc k hlt).1
          obtain ⟨lb, loff, lp, lcap, hlv, _, _⟩ := (hc k hlt).2.open St.cs_len
          have hhit := hF3.1 k hlt
          have hmiss : hasN P k (P[k]'hlt).n = false → ∀ j (hj : j < k + 1) (hj2 : j < P.length), hasN P j (P[j]'hj2).n = false := fun h j hj hj2 => by
            rcases Nat.lt_succ_iff_lt_or_eq.1 hj with hj | rfl
            · exact hno j hj hj2
            · exact h
          have hmm := And.intro hhit hmiss
          clear hc hno hhit hmiss hF3 hkind
          generalize P[k]'hlt = B at hcw hlv hmm
          have hcr : ∀ r u, B.cs[r]? = some u → wr.cell? ⟨b, off + k * 8 + r, none⟩ = some u := fun r u hu => by
            rw [Nat.add_assoc]
            exact (hBw.cell (p := ⟨b, off + (k * 8 + r), none⟩) (World.block_lt_of_cell? _ _ (hcw r u hu))).trans (hcw r u hu)
          have c0 : wr.cell? ⟨b, off + k * 8, none⟩ = some (.string B.n) := hcr 0 _ rfl
          have hbw := World.block_lt_of_cell? _ _ c0
          have c1 := hcr 1 _ rfl
          have c2 := hcr 2 _ rfl
          have c3 := hcr 3 _ rfl
          have c4 := hcr 4 _ rfl
          have c5 := hcr 5 _ rfl
          have c6 := hcr 6 _ rfl
          have c7 := hcr 7 _ rfl
          clear hcr hcw
          rw [hlv] at c1
          have hBa := hB.alloc (by omega) (.cells #[.string B.n, .slice lp B.l.length lcap, .int .i64 B.t.k, .string B.t.x.v, .int .i64 B.t.x.a, .int .i64 B.t.x.b, .string B.t.t, .string B.t.e] 91)
          have hcn := hha k (by omega) B.n _ (hb0.trans (hBa.mono (by omega)))
          cases hh : hasN P k B.n
          · rw [hh] at hcn
            have hx := And.intro True.intro (hmm.2 hh)
            clear hmm hh
            go_wp2_with ((go_at_call 60; refine' Calls.aft _ _ (hcn) _; rotate_left 2; (first | (with_reducible exact After.below _; rfl) | (with_reducible exact below_drew (After.below _); rfl) | (with_reducible exact below_set (After.below _) _ _; (go_simp; rfl)) | (with_reducible exact below_set (below_set (After.below _) _ _) _ _; (go_simp; rfl)) | (with_reducible exact below_set (below_set (below_set (After.below _) _ _) _ _) _ _; (go_simp; rfl)) | (with_reducible exact below_set (below_set (below_set (below_set (After.below _) _ _) _ _) _ _) _ _; (go_simp; rfl)) | (exact Below.refl _ _; rfl)); intro x4; have hle := After.le x4; (try simp at hle)))
            go_roundw
            case rel => exact ⟨k + 1, by omega, by simp, hx.2, hBa.trans (x4.below.mono (by simp; omega))⟩
            case measure => simp [intOf]; omega
          · rw [hh] at hcn
            have hRk := hmm.1 hh
            subst hRk
            clear hmm hh
            go_wp2_with ((go_at_call 60; refine' Calls.aft _ _ (hcn) _; rotate_left 2; (first | (with_reducible exact After.below _; rfl) | (with_reducible exact below_drew (After.below _); rfl) | (with_reducible exact below_set (After.below _) _ _; (go_simp; rfl)) | (with_reducible exact below_set (below_set (After.below _) _ _) _ _; (go_simp; rfl)) | (with_reducible exact below_set (below_set (below_set (After.below _) _ _) _ _) _ _; (go_simp; rfl)) | (with_reducible exact below_set (below_set (below_set (below_set (After.below _) _ _) _ _) _ _) _ _; (go_simp; rfl)) | (exact Below.refl _ _; rfl)); intro x4; have hle := After.le x4; (try simp at hle)))
            go_ret
            exact ⟨rfl, hb0.trans ((hBa.trans (x4.below.mono (by simp; omega))).mono (by omega))⟩
        · have hks : k = P.length := by omega
          subst hks
          have hlt2 : ¬ (P.length : Int) < P.length := by omega
          have hF4 := And.intro (hF3.2.1 (fun k hk => hno k hk hk)) (hF3.2.2 (fun k hk => hno k hk hk))
          clear hF3 hno
          go_wp2_with fail
          clear hBw hw hw2 bxr bxl
          go_loopw [76] (fun i wr => ∃ k : Nat, k ≤ P.length ∧ i = .int .i64 k ∧ (∀ j (hj : j < k) (hj2 : j < P.length), badEnd P (P[j]'hj2) = false) ∧ Below (w.heap.size + 1) W0 wr) (fun i _ => P.length - (intOf i).toNat)
          case atStart => exact ⟨0, Nat.zero_le _, rfl, fun j hj => by omega, hB⟩
          case round =>
            obtain ⟨k, hk, rfl, hno, hB⟩ := hrel
            have hBw : Below w.heap.size w wr := hb0.trans (hB.mono (by omega))
            have hw := hB.size
            have hw2 := hBw.size
            have bxr := (hB.cell (p := ⟨w.heap.size, 0, none⟩) (by show w.heap.size < w.heap.size + 1; omega)).trans hbx
            have bxl := World.block_lt_of_cell? _ _ bxr
            by_cases hlt : k < P.length
            · obtain rfl := hp (by omega)
              have hlt2 : (k : Int) < P.length := by omega
              have hcw : ∀ r u, ((P[k]'hlt).cs)[r]? = some u → w.cell? ⟨b, off + (k * 8 + r), none⟩ = some u := (hc k hlt).1
              obtain ⟨lb, loff, lp, lcap, hlv, _, _⟩ := (hc k hlt).2.open St.cs_len
              have hbad := hF4.1 k hlt
              have hkd := hkind k hlt
              have hnext : badEnd P (P[k]'hlt) = false → ∀ j (hj : j < k + 1) (hj2 : j < P.length), badEnd P (P[j]'hj2) = false := fun h j hj hj2 => by
                rcases Nat.lt_succ_iff_lt_or_eq.1 hj with hj | rfl
                · exact hno j hj hj2
                · exact h
              have hmm := And.intro hbad hnext
              clear hc hno hbad hnext hF4 hkind
              generalize P[k]'hlt = B at hcw hlv hmm hkd
              have hcr : ∀ r u, B.cs[r]? = some u → wr.cell? ⟨b, off + k * 8 + r, none⟩ = some u := fun r u hu => by
                rw [Nat.add_assoc]
                exact (hBw.cell (p := ⟨b, off + (k * 8 + r), none⟩) (World.block_lt_of_cell? _ _ (hcw r u hu))).trans (hcw r u hu)
              have c0 : wr.cell? ⟨b, off + k * 8, none⟩ = some (.string B.n) := hcr 0 _ rfl
              have hbw := World.block_lt_of_cell? _ _ c0
              have c1 := hcr 1 _ rfl
              have c2 := hcr 2 _ rfl
              have c3 := hcr 3 _ rfl
              have c4 := hcr 4 _ rfl
              have c5 := hcr 5 _ rfl
              have c6 := hcr 6 _ rfl
              have c7 := hcr 7 _ rfl
              clear hcr hcw
              rw [hlv] at c1
              have hBa := hB.alloc (by omega) (.cells #[.string B.n, .slice lp B.l.length lcap, .int .i64 B.t.k, .string B.t.x.v, .int .i64 B.t.x.a, .int .i64 B.t.x.b, .string B.t.t, .string B.t.e] 91)
              have hc1 := hha P.length (Nat.le_refl _) B.t.t _ (hb0.trans (hBa.mono (by omega)))
              have hc2 := fun (x : After (wr.alloc (.cells #[.string B.n, .slice lp B.l.length lcap, .int .i64 B.t.k, .string B.t.x.v, .int .i64 B.t.x.a, .int .i64 B.t.x.b, .string B.t.t, .string B.t.e] 91))) => hha P.length (Nat.le_refl _) B.t.e x.val (hb0.trans ((hBa.trans (x.below.mono (by simp; omega))).mono (by omega)))
              have hbe : badEnd P B = ((B.t.k == 1 || B.t.k == 2) && !hasN P P.length B.t.t || B.t.k == 2 && !hasN P P.length B.t.e) := rfl
              rw [hbe] at hmm
              clear hbe hha
              generalize hasN P P.length B.t.t = ht at hc1 hmm
              generalize hasN P P.length B.t.e = he at hc2 hmm
              rcases hkd with hk1 | hk2 | hk3
              · have g1 : (B.t.k == 1) = true := by simp [hk1]
                have g2 : (B.t.k == 2) = false := by simp [hk1]
                have g3 : (B.t.k != 3) = true := by simp [hk1]
                have g4 : (B.t.k == 3) = false := by simp [hk1]
                rw [g1, g2] at hmm
                clear hk1
                cases ht
                · have hRk := hmm.1 rfl
                  subst hRk
                  clear hmm hc2
                  go_wp2_with ((go_at_call 60; refine' Calls.aft _ _ (hc1) _; rotate_left 2; (first | (with_reducible exact After.below _; rfl) | (with_reducible exact below_drew (After.below _); rfl) | (with_reducible exact below_set (After.below _) _ _; (go_simp; rfl)) | (with_reducible exact below_set (below_set (After.below _) _ _) _ _; (go_simp; rfl)) | (with_reducible exact below_set (below_set (below_set (After.below _) _ _) _ _) _ _; (go_simp; rfl)) | (with_reducible exact below_set (below_set (below_set (below_set (After.below _) _ _) _ _) _ _) _ _; (go_simp; rfl)) | (exact Below.refl _ _; rfl)); intro x4; have hle := After.le x4; (try simp at hle)))
                  go_ret
                  exact ⟨rfl, hb0.trans ((hBa.trans (x4.below.mono (by simp; omega))).mono (by omega))⟩
                · have hx := And.intro True.intro (hmm.2 rfl)
                  clear hmm hc2
                  go_wp2_with ((go_at_call 60; refine' Calls.aft _ _ (hc1) _; rotate_left 2; (first | (with_reducible exact After.below _; rfl) | (with_reducible exact below_drew (After.below _); rfl) | (with_reducible exact below_set (After.below _) _ _; (go_simp; rfl)) | (with_reducible exact below_set (below_set (After.below _) _ _) _ _; (go_simp; rfl)) | (with_reducible exact below_set (below_set (below_set (After.below _) _ _) _ _) _ _; (go_simp; rfl)) | (with_reducible exact below_set (below_set (below_set (below_set (After.below _) _ _) _ _) _ _) _ _; (go_simp; rfl)) | (exact Below.refl _ _; rfl)); intro x4; have hle := After.le x4; (try simp at hle)))
                  go_roundw
                  case rel => exact ⟨k + 1, by omega, by simp, hx.2, hBa.trans (x4.below.mono (by simp; omega))⟩
                  case measure => simp [intOf]; omega
              · have g1 : (B.t.k == 1) = false := by simp [hk2]
                have g2 : (B.t.k == 2) = true := by simp [hk2]
                have g3 : (B.t.k != 3) = true := by simp [hk2]
                have g4 : (B.t.k == 3) = false := by simp [hk2]
                rw [g1, g2] at hmm
                clear hk2
                cases ht
                · have hRk := hmm.1 rfl
                  subst hRk
                  clear hmm hc2
                  go_wp2_with ((go_at_call 60; refine' Calls.aft _ _ (hc1) _; rotate_left 2; (first | (with_reducible exact After.below _; rfl) | (with_reducible exact below_drew (After.below _); rfl) | (with_reducible exact below_set (After.below _) _ _; (go_simp; rfl)) | (with_reducible exact below_set (below_set (After.below _) _ _) _ _; (go_simp; rfl)) | (with_reducible exact below_set (below_set (below_set (After.below _) _ _) _ _) _ _; (go_simp; rfl)) | (with_reducible exact below_set (below_set (below_set (below_set (After.below _) _ _) _ _) _ _) _ _; (go_simp; rfl)) | (exact Below.refl _ _; rfl)); intro x4; have hle := After.le x4; (try simp at hle)))
                  go_ret
                  exact ⟨rfl, hb0.trans ((hBa.trans (x4.below.mono (by simp; omega))).mono (by omega))⟩
                · cases he
                  · have hRk := hmm.1 rfl
                    subst hRk
                    clear hmm
                    go_wp2_with (go_at_call 60; first | (with_reducible refine' Calls.aft _ _ (hc1) _; rotate_left 2; (first | (with_reducible exact After.below _; rfl) | (with_reducible exact below_drew (After.below _); rfl) | (with_reducible exact below_set (After.below _) _ _; (go_simp; rfl)) | (with_reducible exact below_set (below_set (After.below _) _ _) _ _; (go_simp; rfl)) | (with_reducible exact below_set (below_set (below_set (After.below _) _ _) _ _) _ _; (go_simp; rfl)) | (with_reducible exact below_set (below_set (below_set (below_set (After.below _) _ _) _ _) _ _) _ _; (go_simp; rfl)) | (exact Below.refl _ _; rfl)); intro x4; have hle := After.le x4; (try simp at hle)) | (with_reducible refine' Calls.aft _ _ (hc2 _) _; rotate_left 2; (first | (with_reducible exact After.below _; rfl) | (with_reducible exact below_drew (After.below _); rfl) | (with_reducible exact below_set (After.below _) _ _; (go_simp; rfl)) | (with_reducible exact below_set (below_set (After.below _) _ _) _ _; (go_simp; rfl)) | (with_reducible exact below_set (below_set (below_set (After.below _) _ _) _ _) _ _; (go_simp; rfl)) | (with_reducible exact below_set (below_set (below_set (below_set (After.below _) _ _) _ _) _ _) _ _; (go_simp; rfl)) | (exact Below.refl _ _; rfl)); intro x5; have hle := After.le x5; (try simp at hle)))
                    go_ret
                    exact ⟨rfl, hb0.trans ((hBa.trans (x5.below.mono (by simp; omega))).mono (by omega))⟩
                  · have hx := And.intro True.intro (hmm.2 rfl)
                    clear hmm
                    go_wp2_with (go_at_call 60; first | (with_reducible refine' Calls.aft _ _ (hc1) _; rotate_left 2; (first | (with_reducible exact After.below _; rfl) | (with_reducible exact below_drew (After.below _); rfl) | (with_reducible exact below_set (After.below _) _ _; (go_simp; rfl)) | (with_reducible exact below_set (below_set (After.below _) _ _) _ _; (go_simp; rfl)) | (with_reducible exact below_set (below_set (below_set (After.below _) _ _) _ _) _ _; (go_simp; rfl)) | (with_reducible exact below_set (below_set (below_set (below_set (After.below _) _ _) _ _) _ _) _ _; (go_simp; rfl)) | (exact Below.refl _ _; rfl)); intro x4; have hle := After.le x4; (try simp at hle)) | (with_reducible refine' Calls.aft _ _ (hc2 _) _; rotate_left 2; (first | (with_reducible exact After.below _; rfl) | (with_reducible exact below_drew (After.below _); rfl) | (with_reducible exact below_set (After.below _) _ _; (go_simp; rfl)) | (with_reducible exact below_set (below_set (After.below _) _ _) _ _; (go_simp; rfl)) | (with_reducible exact below_set (below_set (below_set (After.below _) _ _) _ _) _ _; (go_simp; rfl)) | (with_reducible exact below_set (below_set (below_set (below_set (After.below _) _ _) _ _) _ _) _ _; (go_simp; rfl)) | (exact Below.refl _ _; rfl)); intro x5; have hle := After.le x5; (try simp at hle)))
                    go_roundw
                    case rel => exact ⟨k + 1, by omega, by simp, hx.2, hBa.trans (x5.below.mono (by simp; omega))⟩
                    case measure => simp [intOf]; omega
              · have g1 : (B.t.k == 1) = false := by simp [hk3]
                have g2 : (B.t.k == 2) = false := by simp [hk3]
                have g3 : (B.t.k != 3) = false := by simp [hk3]
                rw [g1, g2] at hmm
                clear hk3
                have hx := And.intro True.intro (hmm.2 (by simp))
                clear hmm hc1 hc2
                go_wp2_with fail
                go_roundw
                case rel => exact ⟨k + 1, by omega, by simp, hx.2, hBa⟩
                case measure => simp [intOf]; omega
            · have hks : k = P.length := by omega
              subst hks
              have hlt2 : ¬ (P.length : Int) < P.length := by omega
              have hRk := hF4.2 (fun k hk => hno k hk hk)
              subst hRk
              clear hF4 hno hc
              go_wp2_with fail
              go_ret
              exact ⟨rfl, hBw⟩

end Go.Proofs.Ytjjmoibnmdbpeaa.Pr

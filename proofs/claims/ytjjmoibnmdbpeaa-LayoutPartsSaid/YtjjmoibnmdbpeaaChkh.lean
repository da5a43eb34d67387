/- WALK of proper.Check. -/
import Derived.Test.YtjjmoibnmdbpeaaChke
import Derived.Test.YtjjmoibnmdbpeaaChkg
import Derived.Test.YtjjmoibnmdbpeaaTabg
import Derived.Test.YtjjmoibnmdbpeaaScope
namespace Go.Proofs.Ytjjmoibnmdbpeaa.Pr
set_option linter.unusedVariables false
set_option linter.unusedSimpArgs false
open Go Go.RowKit

set_option maxRecDepth 100000 in
theorem check_none (p : Option Addr) (cap : Nat) (w : World) :
    Calls Try.prog 22 #[.agg #[.slice p 0 cap]] w fun e w' => e = .returned (.int .i64 6) ∧ Below w.heap.size w w' := by
  go_enter Try.func22, Try.ntmps22
  go_wp2_with fail
  refine scope_forward 0 rfl ?_
  go_wp2_with fail
  go_step3; (try simp only [then_goto, block_goto]); refine And.intro (rfl : (0 : Nat) = 0) ?_; go_wp2_with fail; rw [Exit.noGoto_ret]
  go_ret
  refine ⟨rfl, ?_⟩
  (repeat (first | exact Below.refl _ _ | apply Below.drew | refine Below.alloc ?_ ?_ _ | refine Below.setCell ?_ ?_ _ | refine Below.trans ?_ (Below.mono (After.below _) ?_))); (all_goals (first | (simp; done) | (simp; omega) | omega))

set_option maxRecDepth 100000 in
set_option maxHeartbeats 4000000 in
theorem check_some (P : List Bl) (h0 : P.length ≠ 0) (h12 : P.length ≤ 128) (hs5 : stmtsOf P ≤ 512) (pv : Value) (w : World) (h : Pg w pv P) :
    Calls Try.prog 22 #[.agg #[pv]] w fun e w' => e = .returned (.int .i64 (checkOf P)) ∧ Below w.heap.size w w' := by
  obtain ⟨i0, hi, hz0, hz1, hz2⟩ := info_parts s_info
  have hpg : ∀ W, Below w.heap.size w W → Pg W pv P := fun W hB => h.below hB
  have hl12 : ∀ b ∈ P, b.l.length ≤ 512 := fun b hb => Nat.le_trans (stmt_each b hb) hs5
  have hst := fun W hB => pstmts_wide P pv W (hpg W hB) h12 hs5
  have hva := fun W hB => vars_wide P pv W (hpg W hB) h12 hl12 (blVars_few h12 hs5)
  have hsl := hs5
  have f12 : ∀ k (hk : k < P.length), blockB (P[k]'hk) = false → checkOf P = 12 := fun k hk hb => check_12 h0 h12 hs5 hk hb
  have f6 := check_6 h0 h12 hs5
  have f5 := fun ha hv k hk ht => check_5 h0 h12 hs5 ha hv (k := k) hk ht
  have f4 := fun ha hv ht k hk hb => check_4 h0 h12 hs5 ha hv ht (k := k) hk hb
  have f0 := check_0 h0 h12 hs5
  have hF := And.intro f12 (And.intro f6 (And.intro f5 (And.intro f4 f0)))
  clear hs5
  clear f12 f6 f5 f4 f0
  generalize checkOf P = R at hF ⊢
  obtain ⟨b, off, p, cap, rfl, hp, hc⟩ := Pg.open h
  have hb0 : Below w.heap.size w (w.alloc (.cells #[.slice p P.length cap] 57)) := (Below.refl _ _).alloc (Nat.le_refl _) _
  have g0 : ((P.length : Int) == 0) = false := by simp [h0]
  generalize stmtsOf P = sn at hst hsl
  go_enter Try.func22, Try.ntmps22
  go_wp2_with fail
  refine scope_forward 0 rfl ?_
  go_wp2_with ((go_at_call 40; refine' Calls.aft _ _ (hst _ hb0) _; rotate_left 2; (first | (with_reducible exact After.below _; rfl) | (with_reducible exact below_drew (After.below _); rfl) | (with_reducible exact below_set (After.below _) _ _; (go_simp; rfl)) | (with_reducible exact below_set (below_set (After.below _) _ _) _ _; (go_simp; rfl)) | (with_reducible exact below_set (below_set (below_set (After.below _) _ _) _ _) _ _; (go_simp; rfl)) | (with_reducible exact below_set (below_set (below_set (below_set (After.below _) _ _) _ _) _ _) _ _; (go_simp; rfl)) | (exact Below.refl _ _; rfl)); intro x1; have hle := After.le x1; (try simp at hle)))
  obtain ⟨W0, hW0⟩ : ∃ W0, W0 = w.alloc (.cells #[.slice p P.length cap] 57) := ⟨_, rfl⟩
  have hW0s : W0.heap.size = w.heap.size + 1 := by rw [hW0]; simp
  have hbx : W0.cell? ⟨w.heap.size, 0, none⟩ = some (.slice p P.length cap) := by rw [hW0]; simp
  have hB1 : Below (w.heap.size + 1) W0 x1.val := by rw [hW0]; simpa using x1.below
  rw [← hW0] at hb0
  generalize x1.val = W1 at hB1 hle ⊢
  clear hst hW0
  go_loopw [4, 31] (fun o i wr => ∃ k : Nat, k ≤ P.length ∧ i = .int .i64 k ∧ wr.ownsRow (w.heap.size + 1) 9 1 o ((namesOf P).take k).length (((namesOf P).take k).flatMap encS) ∧ (P.take k).all blockB = true ∧ Below (w.heap.size + 1) W0 wr) (fun _ i _ => P.length - (intOf i).toNat)
  case atStart => exact ⟨0, Nat.zero_le _, rfl, World.ownsRow_nil _ _ _ _, by simp, hB1⟩
  case round =>
    obtain ⟨k, hk, rfl, hown, hall, hB⟩ := hrel
    have hBw : Below w.heap.size w wr := hb0.trans (hB.mono (by omega))
    have hw := hB.size
    have hw2 := hBw.size
    by_cases hlt : k < P.length
    · obtain rfl := hp (by omega)
      have hlt2 : (k : Int) < P.length := by omega
      have hcw : ∀ r u, ((P[k]'hlt).cs)[r]? = some u → w.cell? ⟨b, off + (k * 8 + r), none⟩ = some u := (hc k hlt).1
      have hsB := (hc k hlt).2
      have hlB := hl12 _ (List.getElem_mem hlt)
      have hbad := hF.1 k hlt
      have hnext : blockB (P[k]'hlt) = true → (P.take (k + 1)).all blockB = true := fun h => all_next hlt hall h
      have hz : Hid ((namesOf P).take (k + 1) = (namesOf P).take k ++ [(P[k]'hlt).n]) := by
        show _ = _
        rw [List.take_succ_eq_append_getElem (by simpa [namesOf] using hlt)]
        simp [namesOf]
      have hlen : ((namesOf P).take k).length ≤ k := by simp; omega
      clear hc hall hF
      generalize P[k]'hlt = B at hcw hz hsB hlB hbad hnext
      generalize (namesOf P).take k = X at hown hz hlen
      have hcr : ∀ r u, B.cs[r]? = some u → wr.cell? ⟨b, off + k * 8 + r, none⟩ = some u := fun r u hu => by
        rw [Nat.add_assoc]
        exact (hBw.cell (p := ⟨b, off + (k * 8 + r), none⟩) (World.block_lt_of_cell? _ _ (hcw r u hu))).trans (hcw r u hu)
      obtain ⟨lb, loff, lp, lcap, hlv, hlp, hlc⟩ := hsB.open St.cs_len
      rw [hlv] at hsB
      have c0 : wr.cell? ⟨b, off + k * 8, none⟩ = some (.string B.n) := hcr 0 _ rfl
      have hbw := World.block_lt_of_cell? _ _ c0
      have c1 := hcr 1 _ rfl
      have c2 := hcr 2 _ rfl
      have c3 := hcr 3 _ rfl
      have c4 := hcr 4 _ rfl
      have c5 := hcr 5 _ rfl
      have c6 := hcr 6 _ rfl
      have c7 := hcr 7 _ rfl
      clear hcr hcw hlc
      rw [hlv] at c1
      have hpb := fun W (hB : Below w.heap.size w W) => pblock_any B (by omega) lp lcap W (hsB.below hB)
      have hBa := hBw.alloc hw2 (.cells #[.string B.n, .slice lp B.l.length lcap, .int .i64 B.t.k, .string B.t.x.v, .int .i64 B.t.x.a, .int .i64 B.t.x.b, .string B.t.t, .string B.t.e] 91)
      cases hbb : blockB B
      · have hRk := hbad hbb
        subst hRk
        rw [hbb] at hpb
        clear hbad hnext hbb
        go_wp2_with ((go_at_call 41; refine' Calls.aft _ _ (hpb _ hBa) _; rotate_left 2; (first | (with_reducible exact After.below _; rfl) | (with_reducible exact below_drew (After.below _); rfl) | (with_reducible exact below_set (After.below _) _ _; (go_simp; rfl)) | (with_reducible exact below_set (below_set (After.below _) _ _) _ _; (go_simp; rfl)) | (with_reducible exact below_set (below_set (below_set (After.below _) _ _) _ _) _ _; (go_simp; rfl)) | (with_reducible exact below_set (below_set (below_set (below_set (After.below _) _ _) _ _) _ _) _ _; (go_simp; rfl)) | (exact Below.refl _ _; rfl)); intro x2; have hle := After.le x2; (try simp at hle)))
        go_step3; (try simp only [then_goto, block_goto]); refine And.intro (rfl : (0 : Nat) = 0) ?_; go_wp2_with fail; rw [Exit.noGoto_ret]
        go_ret
        exact ⟨rfl, hBa.trans (x2.below.mono (by simp; omega))⟩
      · have hx := And.intro True.intro (hnext hbb)
        rw [hbb] at hpb
        clear hbad hnext hbb
        have hown1 := hown.alloc (.cells #[.string B.n, .slice lp B.l.length lcap, .int .i64 B.t.k, .string B.t.x.v, .int .i64 B.t.x.a, .int .i64 B.t.x.b, .string B.t.t, .string B.t.e] 91)
        go_wp2_with (first | (go_at_call 41; refine' Calls.aft _ _ (hpb _ hBa) _; rotate_left 2; (first | (with_reducible exact After.below _; rfl) | (with_reducible exact below_drew (After.below _); rfl) | (with_reducible exact below_set (After.below _) _ _; (go_simp; rfl)) | (with_reducible exact below_set (below_set (After.below _) _ _) _ _; (go_simp; rfl)) | (with_reducible exact below_set (below_set (below_set (After.below _) _ _) _ _) _ _; (go_simp; rfl)) | (with_reducible exact below_set (below_set (below_set (below_set (After.below _) _ _) _ _) _ _) _ _; (go_simp; rfl)) | (exact Below.refl _ _; rfl)); intro x2; have hle := After.le x2; (try simp at hle)) | (at_builtin; refine wpList_append_own _ rfl _ _ 92 rfl (w.heap.size + 1) 9 i0 (.string ⟨#[]⟩) 1 16 Try.underlying92 hi hz0 hz1 hz2 rfl (by decide) _ X.length (X.flatMap encS) rfl ((own_below hown1 x2.below).alloc _) _ 1 1 [.string B.n] rfl rfl (news_at rfl) (by intro u hu; simp at hu; subst hu; rfl) (by unfold maxLen; omega) (by omega) (by simp; omega) ?_; intro v2 w1 hown' hgrow _))
        have hlt1 := hown.lt
        have hBx : Below (w.heap.size + 1) W0 x2.val := (hB.alloc (by omega) _).trans (x2.below.mono (by simp; omega))
        have hz2 := x2.le
        simp at hz2
        have hB2 : Below (w.heap.size + 1) W0 w1 := Below.grown (w := _) (hBx.alloc (by omega) _) hgrow (by simp; omega) (fun q hq => (hlt1 q hq).1)
        go_roundw
        case rel => exact ⟨k + 1, by omega, by simp, by rw [hz]; exact own_snocS hown', hx.2, hB2⟩
        case measure => simp [intOf]; omega
    · have hks : k = P.length := by omega
      subst hks
      have hlt2 : ¬ (P.length : Int) < P.length := by omega
      rw [List.take_length] at hall
      rw [show (namesOf P).take P.length = namesOf P from List.take_of_length_le (by simp [namesOf])] at hown
      have hNL : (namesOf P).length = P.length := by simp [namesOf]
      have hNLh : Hid ((namesOf P).length = P.length) := hNL
      rw [hNL] at hown
      have hF2 := And.intro (hF.2.1 hall) (And.intro (hF.2.2.1 hall) (And.intro (hF.2.2.2.1 hall) (hF.2.2.2.2 hall)))
      have bxr := (hB.cell (p := ⟨w.heap.size, 0, none⟩) (by show w.heap.size < w.heap.size + 1; omega)).trans hbx
      have bxl := World.block_lt_of_cell? _ _ bxr
      have hvv := hva _ hBw
      have hSn : Sl wr u4 encS (namesOf P) := Sl.of_own (by rw [hNL]; exact hown)
      obtain ⟨np, ncap, rfl, hncap⟩ := own_cap hown
      clear hF hall hNL hown hva
      have hmem := fun i => mem_hasN P i
      have hmemN : ∀ x, decide (0 ≤ idx (namesOf P) x) = hasN P P.length x := fun x => by rw [← mem_hasN, show (namesOf P).take P.length = namesOf P from List.take_of_length_le (by simp [namesOf])]
      have hget : ∀ k (hk : k < P.length) (hk2 : k < (namesOf P).length), (namesOf P)[k]'hk2 = (P[k]'hk).n := fun k hk hk2 => by simp [namesOf]
      have hMM := And.intro hmem (And.intro hmemN hget)
      clear hmem hmemN hget
      generalize namesOf P = NS at hNLh hSn hMM
      generalize vars P = V at hvv hF2
      by_cases h64 : 64 < V.length
      · have hRk := hF2.1 h64
        subst hRk
        have h64' : (64 : Int) < V.length := by omega
        clear hc hF2
        go_wp2_with (go_at_call 42; refine hvv.mono ?_; rintro e W2 ⟨vv, rfl, hv, hB2⟩; obtain ⟨p9, c9, rfl⟩ := Sl.len hv rfl)
        go_step3; (try simp only [then_goto, block_goto]); refine And.intro (rfl : (0 : Nat) = 0) ?_; go_wp2_with fail; rw [Exit.noGoto_ret]
        go_ret
        exact ⟨rfl, hBw.trans (hB2.mono hw2)⟩
      have h64' : ¬ (64 : Int) < V.length := by omega
      have hF3 := And.intro (hF2.2.1 h64) (And.intro (hF2.2.2.1 h64) (hF2.2.2.2 h64))
      clear hF2
      go_wp2_with (go_at_call 42; refine hvv.mono ?_; rintro e W2 ⟨vv, rfl, hv, hB2⟩; obtain ⟨p9, c9, rfl⟩ := Sl.len hv rfl)
      have hB3 := hBw.trans (hB2.mono hw2)
      have hS3 := hSn.below hB2
      have bx3 := (hB2.cell (p := ⟨w.heap.size, 0, none⟩) bxl).trans bxr
      clear hv hB2 hSn bxr bxl hvv hBw hB hw hw2
      have hw3 := hB3.size
      go_loop [50] (fun i => ∃ k : Nat, k ≤ P.length ∧ i = .int .i64 k ∧ ∀ j (hj : j < k) (hj2 : j < P.length), hasN P j (P[j]'hj2).n = false) (fun i => P.length - (intOf i).toNat)
      case atStart => exact ⟨0, Nat.zero_le _, rfl, fun j hj => by omega⟩
      case round =>
        obtain ⟨k, hk, rfl, hno⟩ := hrel
        by_cases hlt : k < P.length
        · have hlt2 : (k : Int) < P.length := by omega
          have hkN : k < NS.length := by rw [hNLh]; exact hlt
          obtain ⟨nb, noff, np', ncap', hnv, hnp, hnc⟩ := Sl.strs hS3
          have e1 : np = np' ∧ ncap = ncap' := by injection hnv with q1 q2 q3; exact ⟨q1, q3⟩
          obtain ⟨rfl, rfl⟩ := e1
          obtain rfl := hnp (by omega)
          have c0 := hnc k hkN
          rw [hMM.2.2 k hlt hkN] at c0
          have hg := World.block_lt_of_cell? _ _ c0
          have hSt := Sl.take hS3 (i := k) (by omega)
          have hcn := contains_any (NS.take k) (P[k]'hlt).n (by rw [List.length_take, hNLh]; omega) _ W2 hSt
          rw [hMM.1 k (P[k]'hlt).n] at hcn
          have hhit := hF3.1 k hlt
          have hmiss : hasN P k (P[k]'hlt).n = false → ∀ j (hj : j < k + 1) (hj2 : j < P.length), hasN P j (P[j]'hj2).n = false := fun h j hj hj2 => by
            rcases Nat.lt_succ_iff_lt_or_eq.1 hj with hj | rfl
            · exact hno j hj hj2
            · exact h
          have hmm := And.intro hhit hmiss
          clear hnc hno hhit hmiss hSt hnv
          cases hh : hasN P k (P[k]'hlt).n
          · rw [hh] at hcn
            have hx := And.intro True.intro (hmm.2 hh)
            clear hmm hh
            generalize (P[k]'hlt).n = x at c0 hcn
            go_wp2_with ((go_at_call 43; refine Calls.same (hcn) ?_))
            go_round
            case rel => exact ⟨k + 1, by omega, by simp, hx.2⟩
            case measure => simp [intOf]; omega
          · rw [hh] at hcn
            have hRk := hmm.1 hh
            subst hRk
            clear hmm hh hF3
            generalize (P[k]'hlt).n = x at c0 hcn
            go_wp2_with ((go_at_call 43; refine Calls.same (hcn) ?_))
            go_step3; (try simp only [then_goto, block_goto]); refine And.intro (rfl : (0 : Nat) = 0) ?_; go_wp2_with fail; rw [Exit.noGoto_ret]
            go_ret
            exact ⟨rfl, hB3⟩
        · have hks : k = P.length := by omega
          subst hks
          have hlt2 : ¬ (P.length : Int) < P.length := by omega
          have hF4 := And.intro (hF3.2.1 (fun k hk => hno k hk hk)) (hF3.2.2 (fun k hk => hno k hk hk))
          clear hF3 hno
          go_wp2_with fail
          go_loopw [64] (fun i wr => ∃ k : Nat, k ≤ P.length ∧ i = .int .i64 k ∧ (∀ j (hj : j < k) (hj2 : j < P.length), badEnd P (P[j]'hj2) = false) ∧ Below W2.heap.size W2 wr) (fun i _ => P.length - (intOf i).toNat)
          case atStart => exact ⟨0, Nat.zero_le _, rfl, fun j hj => by omega, Below.refl _ _⟩
          case round =>
            obtain ⟨k, hk, rfl, hno, hB⟩ := hrel
            have hw := hB.size
            have hBw := hB3.trans (hB.mono hw3)
            have hww := hBw.size
            by_cases hlt : k < P.length
            · obtain rfl := hp (by omega)
              have hlt2 : (k : Int) < P.length := by omega
              have hcw : ∀ r u, ((P[k]'hlt).cs)[r]? = some u → w.cell? ⟨b, off + (k * 8 + r), none⟩ = some u := (hc k hlt).1
              obtain ⟨lb, loff, lp, lcap, hlv, _, _⟩ := (hc k hlt).2.open St.cs_len
              have hbad := hF4.1 k hlt
              have hnext : badEnd P (P[k]'hlt) = false → ∀ j (hj : j < k + 1) (hj2 : j < P.length), badEnd P (P[j]'hj2) = false := fun h j hj hj2 => by
                rcases Nat.lt_succ_iff_lt_or_eq.1 hj with hj | rfl
                · exact hno j hj hj2
                · exact h
              have hmm := And.intro hbad hnext
              clear hc hno hbad hnext hF4
              generalize P[k]'hlt = B at hcw hlv hmm
              have hcr : ∀ r u, B.cs[r]? = some u → wr.cell? ⟨b, off + k * 8 + r, none⟩ = some u := fun r u hu => by
                rw [Nat.add_assoc]
                exact (hBw.cell (p := ⟨b, off + (k * 8 + r), none⟩) (World.block_lt_of_cell? _ _ (hcw r u hu))).trans (hcw r u hu)
              have c0 : wr.cell? ⟨b, off + k * 8, none⟩ = some (.string B.n) := hcr 0 _ rfl
              have hbw := World.block_lt_of_cell? _ _ c0
              have c1 := hcr 1 _ rfl
              have c2 := hcr 2 _ rfl
              have c3 := hcr 3 _ rfl
              have c4 := hcr 4 _ rfl
              have c5 := hcr 5 _ rfl
              have c6 := hcr 6 _ rfl
              have c7 := hcr 7 _ rfl
              clear hcr hcw
              rw [hlv] at c1
              have hnm := names_any B.t.k B.t.x.v B.t.x.a B.t.x.b B.t.t B.t.e
              rw [show (⟨B.t.k, ⟨B.t.x.v, B.t.x.a, B.t.x.b⟩, B.t.t, B.t.e⟩ : Te) = B.t from rfl] at hnm
              have hbe := And.intro True.intro (badEnd_names P B)
              have hTl : (namesT B.t).length ≤ 2 := by unfold namesT; split; simp; split <;> simp
              generalize namesT B.t = T at hnm hbe hTl
              have hSr := hS3.below hB
              clear bx3
              go_wp2_with (go_at_call 44; refine (hnm _).mono ?_; rintro e W4 ⟨tv, rfl, ht, hB4⟩; obtain ⟨tb, toff, tp, tcap, rfl, htp, htc⟩ := Sl.strs ht)
              have hB5 : Below W2.heap.size W2 W4 := (hB.alloc hw _).trans (hB4.mono (by simp; omega))
              have hSw := hSr.below (((Below.refl _ _).alloc (Nat.le_refl _) _).trans (hB4.mono (by simp)))
              have hB6 := hB3.trans (hB5.mono hw3)
              clear hB4 ht hSr hB hBw hw hww c0 c1 c2 c3 c4 c5 c6 c7 hbw hnm
              go_loop [72] (fun i => ∃ j : Nat, j ≤ T.length ∧ i = .int .i64 j ∧ ∀ m (hm : m < j) (hm2 : m < T.length), hasN P P.length (T[m]'hm2) = true) (fun i => T.length - (intOf i).toNat)
              case atStart => exact ⟨0, Nat.zero_le _, rfl, fun j hj => by omega⟩
              case round =>
                obtain ⟨j, hj, rfl, hnoj⟩ := hrel
                by_cases hjt : j < T.length
                · obtain rfl := htp (by omega)
                  have hjt2 : (j : Int) < T.length := by omega
                  have d0 := htc j hjt
                  have hdl := World.block_lt_of_cell? _ _ d0
                  have hcn := contains_any NS (T[j]'hjt) (by rw [hNLh]; omega) _ W4 hSw
                  rw [hMM.2.1 (T[j]'hjt)] at hcn
                  have hbd : hasN P P.length (T[j]'hjt) = false → R = 4 := fun h => hmm.1 (hbe.2.2 ⟨_, List.getElem_mem hjt, h⟩)
                  have hnx : hasN P P.length (T[j]'hjt) = true → ∀ m (hm : m < j + 1) (hm2 : m < T.length), hasN P P.length (T[m]'hm2) = true := fun h m hm hm2 => by
                    rcases Nat.lt_succ_iff_lt_or_eq.1 hm with hm | rfl
                    · exact hnoj m hm hm2
                    · exact h
                  have hm3 := And.intro hbd hnx
                  clear hbd hnx hnoj htc
                  cases hh : hasN P P.length (T[j]'hjt)
                  · rw [hh] at hcn
                    have hRk := hm3.1 hh
                    subst hRk
                    clear hm3 hh hmm hbe
                    generalize (T[j]'hjt) = x at d0 hcn
                    go_wp2_with ((go_at_call 43; refine Calls.same (hcn) ?_))
                    go_step3; (try simp only [then_goto, block_goto]); refine And.intro (rfl : (0 : Nat) = 0) ?_; go_wp2_with fail; rw [Exit.noGoto_ret]
                    go_ret
                    exact ⟨rfl, hB6⟩
                  · rw [hh] at hcn
                    have hx := And.intro True.intro (hm3.2 hh)
                    clear hm3 hh
                    generalize (T[j]'hjt) = x at d0 hcn
                    go_wp2_with ((go_at_call 43; refine Calls.same (hcn) ?_))
                    go_round
                    case rel => exact ⟨j + 1, by omega, by simp, hx.2⟩
                    case measure => simp [intOf]; omega
                · have hks : j = T.length := by omega
                  subst hks
                  have hjt2 : ¬ (T.length : Int) < T.length := by omega
                  have hnb : badEnd P B = false := by
                    rw [← Bool.not_eq_true]
                    intro hb
                    obtain ⟨x, hx, hxf⟩ := hbe.2.1 hb
                    obtain ⟨m, hm⟩ := List.mem_iff_getElem?.1 hx
                    obtain ⟨hm1, hm2⟩ := List.getElem?_eq_some_iff.1 hm
                    rw [← hm2, hnoj m hm1 hm1] at hxf
                    cases hxf
                  have hx := And.intro True.intro (hmm.2 hnb)
                  clear hmm hnoj htc hbe hnb
                  go_wp2_with fail
                  go_roundw
                  case rel => exact ⟨k + 1, by omega, by simp, hx.2, hB5⟩
                  case measure => simp [intOf]; omega
            · have hks : k = P.length := by omega
              subst hks
              have hlt2 : ¬ (P.length : Int) < P.length := by omega
              have hRk := hF4.2 (fun k hk => hno k hk hk)
              subst hRk
              clear hF4 hno hc
              go_wp2_with fail
              try simp only [Exit.jump]
              go_ret
              exact ⟨rfl, hBw⟩

theorem pcheck_wide (P : List Bl) (h12 : P.length ≤ 128) (hs5 : stmtsOf P ≤ 512) (pv : Value) (w : World) (h : Pg w pv P) :
    Calls Try.prog 22 #[.agg #[pv]] w fun e w' => e = .returned (.int .i64 (checkOf P)) ∧ Below w.heap.size w w' := by
  by_cases h0 : P.length = 0
  · obtain ⟨p, cap, hpv⟩ : ∃ p cap, pv = .slice p P.length cap := by obtain ⟨b, off, p, cap, hv, _⟩ := h.1; exact ⟨p, cap, hv⟩
    subst hpv
    have e : checkOf P = 6 := by unfold checkOf; rw [if_pos (.inl h0)]
    rw [e, h0]
    exact check_none p cap w
  · exact check_some P h0 h12 hs5 pv w h

theorem pcheck_any (P : List Bl) (h12 : P.length ≤ 12) (hl12 : ∀ b ∈ P, b.l.length ≤ 12) (pv : Value) (w : World) (h : Pg w pv P) :
    Calls Try.prog 22 #[.agg #[pv]] w fun e w' => e = .returned (.int .i64 (checkOf P)) ∧ Below w.heap.size w w' := pcheck_wide P (by omega) (few_stmts h12 hl12) pv w h

end Go.Proofs.Ytjjmoibnmdbpeaa.Pr

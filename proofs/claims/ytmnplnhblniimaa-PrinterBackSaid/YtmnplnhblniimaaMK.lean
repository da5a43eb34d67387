/- WALK of soughref03.Same, for programs as long as a text can be. How long parsed programs are; programs of the same blocks are the same: plain. -/
import Derived.Test.YtmnplnhblniimaaMC
import Derived.Test.YtmnplnhblniimaaGrq

namespace Go.Proofs.Ytmnplnhblniimaa.Pr
set_option linter.unusedVariables false
set_option linter.unusedSimpArgs false
open Go Go.RowKit

def eqL {α : Type} (f : α → α → Bool) : List α → List α → Bool
  | [], [] => true
  | x :: L, y :: M => f x y && eqL f L M
  | [], _ :: _ => false
  | _ :: _, [] => false
theorem eqL_len {α : Type} {f : α → α → Bool} : ∀ {L M : List α}, L.length ≠ M.length → eqL f L M = false
  | [], [], h => absurd rfl h
  | [], _ :: _, _ => rfl
  | _ :: _, [], _ => rfl
  | x :: L, y :: M, h => by
    have := eqL_len (f := f) (L := L) (M := M) (fun e => h (by simp [e]))
    simp [eqL, this]
theorem eqL_bad {α : Type} {f : α → α → Bool} : ∀ {L M : List α} {k : Nat} (h1 : k < L.length) (h2 : k < M.length), f (L[k]'h1) (M[k]'h2) = false → eqL f L M = false
  | [], _, _, h1, _, _ => by simp at h1
  | _ :: _, [], _, _, h2, _ => by simp at h2
  | x :: L, y :: M, 0, _, _, h => by
    have : f x y = false := h
    simp [eqL, this]
  | x :: L, y :: M, k + 1, h1, h2, h => by
    have := eqL_bad (f := f) (L := L) (M := M) (k := k) (by simpa using h1) (by simpa using h2) (by simpa using h)
    simp [eqL, this]
theorem eqL_all {α : Type} {f : α → α → Bool} : ∀ {L M : List α}, L.length = M.length → (∀ k (h1 : k < L.length) (h2 : k < M.length), f (L[k]'h1) (M[k]'h2) = true) → eqL f L M = true
  | [], [], _, _ => rfl
  | [], _ :: _, h, _ => by simp at h
  | _ :: _, [], h, _ => by simp at h
  | x :: L, y :: M, h, ha => by
    have h0 := ha 0 (by simp) (by simp)
    have := eqL_all (f := f) (L := L) (M := M) (by simpa using h) (fun k h1 h2 => ha (k + 1) (by simpa using h1) (by simpa using h2))
    simp only [List.getElem_cons_zero] at h0
    simp [eqL, this, h0]

def sameB (b c : Bl) : Bool := b.n.toList == c.n.toList && (eqT b.t c.t && eqL eqS b.l c.l)
def sameP (P Q : List Bl) : Bool := eqL sameB P Q

set_option maxRecDepth 100000 in
set_option maxHeartbeats 4000000 in
theorem rsame_any (P Q : List Bl) (h12 : P.length ≤ 20000) (k12 : Q.length ≤ 20000) (hl12 : ∀ b ∈ P, b.l.length ≤ 20000) (kl12 : ∀ b ∈ Q, b.l.length ≤ 20000) (pv qv : Value) (w : World) (h : Pg w pv P) (h2 : Pg w qv Q) :
    Calls Try.prog 12 #[.agg #[pv], .agg #[qv]] w fun e w' => e = .returned (.bool (sameP P Q)) ∧ Below w.heap.size w w' := by
  obtain ⟨b, off, p, cap, rfl, hp, hc⟩ := Pg.open h
  obtain ⟨b2, off2, p2, cap2, rfl, hp2, hc2⟩ := Pg.open h2
  by_cases hll : P.length = Q.length
  · have g0 : ((P.length : Int) != Q.length) = false := by simp [hll]
    obtain ⟨R, hR⟩ : ∃ R, Hid (sameP P Q = R) := ⟨_, rfl⟩
    rw [hR]
    have hLM : Hid (P.length = Q.length) := hll
    clear hll h h2
    obtain ⟨W0, hW0⟩ : ∃ W0, W0 = (w.alloc (.cells #[.slice p P.length cap] 25)).alloc (.cells #[.slice p2 Q.length cap2] 25) := ⟨_, rfl⟩
    have hW0s : W0.heap.size = w.heap.size + 1 + 1 := by rw [hW0]; simp
    have hbx : W0.cell? ⟨w.heap.size + 1, 0, none⟩ = some (.slice p2 Q.length cap2) := by rw [hW0]; simp
    have hb0 : Below w.heap.size w W0 := by rw [hW0]; exact ((Below.refl _ _).alloc (Nat.le_refl _) _).alloc (by simp) _
    have hst : Below W0.heap.size W0 ((w.alloc (.cells #[.slice p P.length cap] 25)).alloc (.cells #[.slice p2 Q.length cap2] 25)) := by rw [hW0]; exact Below.refl _ _
    clear hW0
    go_enter Try.func12, Try.ntmps12
    go_wp2_with fail
    go_loopw [19] (fun i wr => ∃ k : Nat, k ≤ P.length ∧ i = .int .i64 k ∧ (∀ j (h1 : j < P.length) (h2 : j < Q.length), j < k → sameB (P[j]'h1) (Q[j]'h2) = true) ∧ Below W0.heap.size W0 wr) (fun i _ => P.length - (intOf i).toNat)
    case atStart => exact ⟨0, Nat.zero_le _, rfl, fun j _ _ hj => by omega, hst⟩
    case round =>
      obtain ⟨k, hk, rfl, hall, hB⟩ := hrel
      have hw := hB.size
      have hBw := hb0.trans (hB.mono hb0.size)
      have hww := hBw.size
      have bxr := (hB.cell (p := ⟨w.heap.size + 1, 0, none⟩) (by show w.heap.size + 1 < W0.heap.size; omega)).trans hbx
      have bxl := World.block_lt_of_cell? _ _ bxr
      by_cases hlt : k < P.length
      · have hlt' : k < Q.length := by rw [← hLM]; exact hlt
        obtain rfl := hp (by omega)
        obtain rfl := hp2 (by omega)
        have hlt2 : (k : Int) < P.length := by omega
        have hlt3 : (k : Int) < Q.length := by omega
        have hcw : ∀ r u, ((P[k]'hlt).cs)[r]? = some u → w.cell? ⟨b, off + (k * 8 + r), none⟩ = some u := (hc k hlt).1
        have hcz : ∀ r u, ((Q[k]'hlt').cs)[r]? = some u → w.cell? ⟨b2, off2 + (k * 8 + r), none⟩ = some u := (hc2 k hlt').1
        have hsB := (hc k hlt).2
        have hsC := (hc2 k hlt').2
        have hlB := hl12 _ (List.getElem_mem hlt)
        have hlC := kl12 _ (List.getElem_mem hlt')
        have hbad : sameB (P[k]'hlt) (Q[k]'hlt') = false → R = false := fun h => by rw [← hR]; exact eqL_bad hlt hlt' h
        have hnext : sameB (P[k]'hlt) (Q[k]'hlt') = true → ∀ j (h1 : j < P.length) (h2 : j < Q.length), j < k + 1 → sameB (P[j]'h1) (Q[j]'h2) = true := fun h j h1 h2 hj => by
          rcases Nat.lt_succ_iff_lt_or_eq.1 hj with hj | rfl
          · exact hall j h1 h2 hj
          · exact h
        have hmm := And.intro hbad hnext
        clear hc hc2 hall hbad hnext
        generalize P[k]'hlt = B at hcw hsB hlB hmm
        generalize Q[k]'hlt' = C at hcz hsC hlC hmm
        have hcr : ∀ r u, B.cs[r]? = some u → wr.cell? ⟨b, off + k * 8 + r, none⟩ = some u := fun r u hu => by
          rw [Nat.add_assoc]
          exact (hBw.cell (p := ⟨b, off + (k * 8 + r), none⟩) (World.block_lt_of_cell? _ _ (hcw r u hu))).trans (hcw r u hu)
        have hcs : ∀ r u, C.cs[r]? = some u → wr.cell? ⟨b2, off2 + k * 8 + r, none⟩ = some u := fun r u hu => by
          rw [Nat.add_assoc]
          exact (hBw.cell (p := ⟨b2, off2 + (k * 8 + r), none⟩) (World.block_lt_of_cell? _ _ (hcz r u hu))).trans (hcz r u hu)
        obtain ⟨lb, loff, lp, lcap, hlv, hlp, hlc⟩ := hsB.open St.cs_len
        obtain ⟨lb2, loff2, lp2, lcap2, hlv2, hlp2, hlc2⟩ := hsC.open St.cs_len
        have c0 : wr.cell? ⟨b, off + k * 8, none⟩ = some (.string B.n) := hcr 0 _ rfl
        have hbw := World.block_lt_of_cell? _ _ c0
        have c1 := hcr 1 _ rfl
        have c2 := hcr 2 _ rfl
        have c3 := hcr 3 _ rfl
        have c4 := hcr 4 _ rfl
        have c5 := hcr 5 _ rfl
        have c6 := hcr 6 _ rfl
        have c7 := hcr 7 _ rfl
        rw [hlv] at c1
        have d0 : wr.cell? ⟨b2, off2 + k * 8, none⟩ = some (.string C.n) := hcs 0 _ rfl
        have hdw := World.block_lt_of_cell? _ _ d0
        have d1 := hcs 1 _ rfl
        have d2 := hcs 2 _ rfl
        have d3 := hcs 3 _ rfl
        have d4 := hcs 4 _ rfl
        have d5 := hcs 5 _ rfl
        have d6 := hcs 6 _ rfl
        have d7 := hcs 7 _ rfl
        rw [hlv2] at d1
        clear hcr hcw hcs hcz hlv hlv2 hsB hsC
        have hB1 := hB.alloc hw (.cells #[.string B.n, .slice lp B.l.length lcap, .int .i64 B.t.k, .string B.t.x.v, .int .i64 B.t.x.a, .int .i64 B.t.x.b, .string B.t.t, .string B.t.e] 61)
        have hsb : sameB B C = (B.n.toList == C.n.toList && (eqT B.t C.t && eqL eqS B.l C.l)) := rfl
        rw [hsb] at hmm
        obtain ⟨z, hz⟩ : ∃ z, eqT B.t C.t = z := ⟨_, rfl⟩
        have he : eqT ⟨B.t.k, ⟨B.t.x.v, B.t.x.a, B.t.x.b⟩, B.t.t, B.t.e⟩ ⟨C.t.k, ⟨C.t.x.v, C.t.x.a, C.t.x.b⟩, C.t.t, C.t.e⟩ = z := hz
        rw [hz] at hmm
        clear hz hsb
        cases hn : (B.n.toList == C.n.toList)
        · have hn2 : (B.n.toList != C.n.toList) = true := by rw [bne, hn]; rfl
          rw [hn] at hmm
          have hRk := hmm.1 rfl
          subst hRk
          clear hmm hlc hlc2
          go_wp2_with fail
          go_region
          all_goals (
            go_wp2_with fail
            refine bodyPost_ret (v := .bool false) (by simp only [results, Try.results12]; go_simp) rfl ⟨rfl, hb0.trans (hB1.drew.mono hb0.size)⟩)
        have hn2 : (B.n.toList != C.n.toList) = false := by rw [bne, hn]; rfl
        rw [hn] at hmm
        cases z
        · have hRk := hmm.1 rfl
          subst hRk
          clear hmm hlc hlc2
          go_wp2_with fail
          go_region
          all_goals (
            go_wp2_with fail
            refine bodyPost_ret (v := .bool false) (by simp only [results, Try.results12]; go_simp) rfl ⟨rfl, hb0.trans (hB1.drew.mono hb0.size)⟩)
        by_cases hll2 : B.l.length = C.l.length
        · have g1 : ((B.l.length : Int) != C.l.length) = false := by simp [hll2]
          have hLM2 : Hid (B.l.length = C.l.length) := hll2
          simp only [Bool.true_and] at hmm
          clear hll2
          go_wp2_with fail
          go_region
          obtain ⟨W3, hW3⟩ : ∃ W3, W3 = (wr.alloc (.cells #[.string B.n, .slice lp B.l.length lcap, .int .i64 B.t.k, .string B.t.x.v, .int .i64 B.t.x.a, .int .i64 B.t.x.b, .string B.t.t, .string B.t.e] 61)).drew := ⟨_, rfl⟩
          have hB3 : Below W0.heap.size W0 W3 := by rw [hW3]; exact hB1.drew
          have e1 : W3.cell? ⟨b2, off2 + k * 8 + 1, none⟩ = some (.slice lp2 C.l.length lcap2) := by rw [hW3]; exact (World.cell?_alloc_lt _ _ _ hdw).trans d1
          have hWd : W3.cell? ⟨wr.heap.size, 1, none⟩ = some (.slice lp B.l.length lcap) := by rw [hW3]; simp
          have hst3 : Below W3.heap.size W3 (wr.alloc (.cells #[.string B.n, .slice lp B.l.length lcap, .int .i64 B.t.k, .string B.t.x.v, .int .i64 B.t.x.a, .int .i64 B.t.x.b, .string B.t.t, .string B.t.e] 61)).drew := by rw [hW3]; exact Below.refl _ _
          clear hB1 hW3
          go_wp2_with fail
          clear bxr bxl c0 c1 c2 c3 c4 c5 c6 c7 d0 d1 d2 d3 d4 d5 d6 d7 hbw hdw hB hBw hw hww hn hn2 he
          have hwz := hB3.size
          go_loopw [60] (fun i wr => ∃ j : Nat, j ≤ B.l.length ∧ i = .int .i64 j ∧ (∀ m (h1 : m < B.l.length) (h2 : m < C.l.length), m < j → eqS (B.l[m]'h1) (C.l[m]'h2) = true) ∧ Below W3.heap.size W3 wr) (fun i _ => B.l.length - (intOf i).toNat)
          case atStart => exact ⟨0, Nat.zero_le _, rfl, fun j _ _ hj => by omega, hst3⟩
          case round =>
            obtain ⟨j, hj, rfl, hallj, hBj⟩ := hrel
            have hwj := hBj.size
            have hB4 := hB3.trans (hBj.mono hB3.size)
            have hB4w := hb0.trans (hB4.mono hb0.size)
            by_cases hjt : j < B.l.length
            · have hjt' : j < C.l.length := by rw [← hLM2]; exact hjt
              obtain rfl := hlp (by omega)
              obtain rfl := hlp2 (by omega)
              have hjt2 : (j : Int) < B.l.length := by omega
              have hjt3 : (j : Int) < C.l.length := by omega
              have bxr := (hB4.cell (p := ⟨w.heap.size + 1, 0, none⟩) (by show w.heap.size + 1 < W0.heap.size; omega)).trans hbx
              have bxl := World.block_lt_of_cell? _ _ bxr
              have e2 := (hBj.cell (p := ⟨b2, off2 + k * 8 + 1, none⟩) (World.block_lt_of_cell? _ _ e1)).trans e1
              have e2l := World.block_lt_of_cell? _ _ e2
              have hcr : ∀ r u, ((B.l[j]'hjt).cs)[r]? = some u → wr.cell? ⟨lb, loff + j * 9 + r, none⟩ = some u := fun r u hu => by
                rw [Nat.add_assoc]
                exact (hB4w.cell (p := ⟨lb, loff + (j * 9 + r), none⟩) (World.block_lt_of_cell? _ _ (hlc j hjt r u hu))).trans (hlc j hjt r u hu)
              have hcs : ∀ r u, ((C.l[j]'hjt').cs)[r]? = some u → wr.cell? ⟨lb2, loff2 + j * 9 + r, none⟩ = some u := fun r u hu => by
                rw [Nat.add_assoc]
                exact (hB4w.cell (p := ⟨lb2, loff2 + (j * 9 + r), none⟩) (World.block_lt_of_cell? _ _ (hlc2 j hjt' r u hu))).trans (hlc2 j hjt' r u hu)
              have hbad : eqS (B.l[j]'hjt) (C.l[j]'hjt') = false → R = false := fun h => hmm.1 (eqL_bad hjt hjt' h)
              have hnext : eqS (B.l[j]'hjt) (C.l[j]'hjt') = true → ∀ m (h1 : m < B.l.length) (h2 : m < C.l.length), m < j + 1 → eqS (B.l[m]'h1) (C.l[m]'h2) = true := fun h m h1 h2 hm => by
                rcases Nat.lt_succ_iff_lt_or_eq.1 hm with hm | rfl
                · exact hallj m h1 h2 hm
                · exact h
              have hm3 := And.intro hbad hnext
              clear hlc hlc2 hallj hbad hnext
              generalize B.l[j]'hjt = s at hcr hm3
              generalize C.l[j]'hjt' = t at hcs hm3
              have c0 : wr.cell? ⟨lb, loff + j * 9, none⟩ = some (.int .i64 s.k) := hcr 0 _ rfl
              have hg := World.block_lt_of_cell? _ _ c0
              have c1 := hcr 1 _ rfl
              have c2 := hcr 2 _ rfl
              have c3 := hcr 3 _ rfl
              have c4 := hcr 4 _ rfl
              have c5 := hcr 5 _ rfl
              have c6 := hcr 6 _ rfl
              have c7 := hcr 7 _ rfl
              have c8 := hcr 8 _ rfl
              have d0 : wr.cell? ⟨lb2, loff2 + j * 9, none⟩ = some (.int .i64 t.k) := hcs 0 _ rfl
              have hg2 := World.block_lt_of_cell? _ _ d0
              have d1 := hcs 1 _ rfl
              have d2 := hcs 2 _ rfl
              have d3 := hcs 3 _ rfl
              have d4 := hcs 4 _ rfl
              have d5 := hcs 5 _ rfl
              have d6 := hcs 6 _ rfl
              have d7 := hcs 7 _ rfl
              have d8 := hcs 8 _ rfl
              clear hcr hcs
              obtain ⟨z, hz⟩ : ∃ z, eqS s t = z := ⟨_, rfl⟩
              have he : eqS ⟨s.k, s.v, ⟨s.e.op, ⟨s.e.x.v, s.e.x.a, s.e.x.b⟩, ⟨s.e.y.v, s.e.y.a, s.e.y.b⟩⟩⟩ ⟨t.k, t.v, ⟨t.e.op, ⟨t.e.x.v, t.e.x.a, t.e.x.b⟩, ⟨t.e.y.v, t.e.y.a, t.e.y.b⟩⟩⟩ = z := hz
              cases z
              · have hRk := hm3.1 hz
                subst hRk
                clear hm3 hz hmm
                go_wp2_with fail
                go_region
                all_goals (
                  go_wp2_with fail
                  refine bodyPost_ret (v := .bool false) (by simp only [results, Try.results12]; go_simp) rfl ⟨rfl, (hB4w.alloc hB4w.size _).drew⟩)
              · have hx := And.intro True.intro (hm3.2 hz)
                clear hm3 hz
                go_wp2_with fail
                go_region
                all_goals (
                  go_wp2_with fail
                  go_roundw
                  case rel => exact ⟨j + 1, by omega, by simp, hx.2, (hBj.alloc hwj _).drew⟩
                  case measure => simp [intOf]; omega)
            · have hks : j = B.l.length := by omega
              subst hks
              have hjt2 : ¬ (B.l.length : Int) < B.l.length := by omega
              have hx := And.intro True.intro (hmm.2 (eqL_all hLM2 (fun k h1 h2 => hallj k h1 h2 h1)))
              clear hmm hallj hlc hlc2
              go_wp2_with fail
              go_roundw
              case rel => exact ⟨k + 1, by omega, by simp, hx.2, hB4⟩
              case measure => simp [intOf]; omega
        · have g1 : ((B.l.length : Int) != C.l.length) = true := by simp; omega
          rw [eqL_len hll2] at hmm
          have hRk := hmm.1 rfl
          subst hRk
          clear hmm hlc hlc2 hll2
          go_wp2_with fail
          go_region
          all_goals (
            go_wp2_with fail
            refine bodyPost_ret (v := .bool false) (by simp only [results, Try.results12]; go_simp) rfl ⟨rfl, hb0.trans (hB1.drew.mono hb0.size)⟩)
      · have hks : k = P.length := by omega
        subst hks
        have hlt2 : ¬ (P.length : Int) < P.length := by omega
        have hRk : R = true := by rw [← hR]; exact eqL_all hLM (fun k h1 h2 => hall k h1 h2 h1)
        subst hRk
        clear hc hc2 hall
        go_wp2_with fail
        go_ret
        exact ⟨rfl, hBw⟩
  · have g0 : ((P.length : Int) != Q.length) = true := by simp; omega
    rw [show sameP P Q = false from eqL_len hll]
    clear hll h h2 hc hc2 hp hp2
    go_enter Try.func12, Try.ntmps12
    go_wp2_with fail
    go_ret
    refine ⟨rfl, ?_⟩
    (repeat (first | exact Below.refl _ _ | apply Below.drew | refine Below.alloc ?_ ?_ _ | refine Below.setCell ?_ ?_ _ | refine Below.trans ?_ (Below.mono (After.below _) ?_))); (all_goals (first | (simp; done) | (simp; omega) | omega))

end Go.Proofs.Ytmnplnhblniimaa.Pr

namespace Go.Proofs.Ytmnplnhblniimaa.Gr
set_option linter.unusedVariables false
set_option linter.unusedSimpArgs false
open Go Go.RowKit

theorem stsL_len (L : List Tok) : ∀ (k : Nat) (r : R), (stsL L k r).length ≤ k
  | 0, r => Nat.le_refl _
  | k + 1, r => by
    unfold stsL
    split
    · split
      · have := stsL_len L k (stmtR L r); simp; omega
      · simp
    · simp
theorem blksL_len (L : List Tok) : ∀ (k : Nat) (r : R), (blksL L k r).length ≤ k
  | 0, r => Nat.le_refl _
  | k + 1, r => by
    unfold blksL
    split
    · have := blksL_len L k (blockR L r); simp; omega
    · simp
theorem blockB_len (L : List Tok) (r : R) : (blockB L r).l.length ≤ L.length := stsL_len _ _ _
theorem blksL_st (L : List Tok) : ∀ (k : Nat) (r : R), ∀ b ∈ blksL L k r, b.l.length ≤ L.length
  | 0, r, b, hb => by cases hb
  | k + 1, r, b, hb => by
    unfold blksL at hb
    split at hb
    · rcases List.mem_cons.1 hb with rfl | hb
      · exact blockB_len _ _
      · exact blksL_st L k _ b hb
    · cases hb
theorem parse_len (s : ByteArray) : (parse s).1.length ≤ 20000 ∧ ∀ b ∈ (parse s).1, b.l.length ≤ 20000 := by
  have hP : parse s = if (Tk.ofText s).e = 0 then (if (parseL (Tk.ofText s).l).1 = 0 then (allL (Tk.ofText s).l, 0, 0) else ([], parseL (Tk.ofText s).l)) else ([], (Tk.ofText s).e, (Tk.ofText s).pos) := rfl
  by_cases h0 : (Tk.ofText s).e = 0
  · obtain ⟨hL, hL2, hL3, hL4, hp0⟩ := text_lok h0
    rw [if_pos h0] at hP
    split at hP
    · rw [hP]
      refine ⟨?_, fun b hb => ?_⟩
      · have := blksL_len (Tk.ofText s).l (Tk.ofText s).l.length (blockR (Tk.ofText s).l r0)
        show (blockB _ r0 :: blksL _ _ _).length ≤ _
        rw [List.length_cons]; omega
      · rcases List.mem_cons.1 hb with rfl | hb
        · have := blockB_len (Tk.ofText s).l r0; omega
        · have := blksL_st _ _ _ b hb; omega
    · rw [hP]; exact ⟨by simp, fun b hb => by cases hb⟩
  · rw [if_neg h0] at hP; rw [hP]; exact ⟨by simp, fun b hb => by cases hb⟩

theorem bytes_self (s : ByteArray) : (s.toList == s.toList) = true := by simp
theorem eqA_self (x : At) : Pr.eqA x x = true := by simp [Pr.eqA]
theorem eqE_self (x : Ex) : Pr.eqE x x = true := by simp [Pr.eqE, eqA_self]
theorem eqS_self (x : St) : Pr.eqS x x = true := by simp [Pr.eqS, eqE_self]
theorem eqT_self (x : Te) : Pr.eqT x x = true := by simp [Pr.eqT, eqA_self]
theorem eqL_self {α : Type} {f : α → α → Bool} (h : ∀ x, f x x = true) : ∀ l : List α, Pr.eqL f l l = true
  | [] => rfl
  | x :: l => by show (f x x && Pr.eqL f l l) = true; rw [h x, eqL_self h l]; rfl
theorem sameB_of {b c : Bl} (h : toBk b = toBk c) : Pr.sameB b c = true := by
  have h1 : b.n = c.n := congrArg Bk.n h
  have h2 : b.l = c.l := congrArg Bk.l h
  have h3 : b.t = c.t := congrArg Bk.t h
  unfold Pr.sameB
  rw [h1, h2, h3, eqT_self, eqL_self eqS_self]
  simp
theorem sameP_of : ∀ {P Q : List Bl}, P.map toBk = Q.map toBk → Pr.sameP P Q = true
  | [], [], _ => rfl
  | [], _ :: _, h => by simp at h
  | _ :: _, [], h => by simp at h
  | x :: P, y :: Q, h => by
    simp only [List.map_cons, List.cons.injEq] at h
    show (Pr.sameB x y && Pr.sameP P Q) = true
    rw [sameB_of h.1, sameP_of h.2]; rfl
theorem lens {s : ByteArray} {P : List Bl} (h : P.map toBk = (parse s).1) : P.length ≤ 20000 ∧ ∀ b ∈ P, b.l.length ≤ 20000 := by
  obtain ⟨h1, h2⟩ := parse_len s
  refine ⟨?_, fun b hb => ?_⟩
  · rw [← h, List.length_map] at h1; exact h1
  · exact h2 (toBk b) (by rw [← h]; exact List.mem_map_of_mem hb)

end Go.Proofs.Ytmnplnhblniimaa.Gr

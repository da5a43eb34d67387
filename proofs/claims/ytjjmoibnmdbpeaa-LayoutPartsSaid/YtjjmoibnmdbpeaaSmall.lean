/- WALK of soughref04.Small. -/
import Derived.Test.YtjjmoibnmdbpeaaTabd
namespace Go.Proofs.Ytjjmoibnmdbpeaa.Pr
set_option linter.unusedVariables false
set_option linter.unusedSimpArgs false
open Go Go.RowKit

def stSmall (s : St) : Bool := decide (s.v.size ≤ 40) && (decide (s.e.x.v.size ≤ 40) && decide (s.e.y.v.size ≤ 40))
def blSmall (b : Bl) : Bool := decide (b.l.length ≤ 12) && (decide (b.n.size ≤ 40) && (decide (b.t.t.size ≤ 40) && (decide (b.t.e.size ≤ 40) && (decide (b.t.x.v.size ≤ 40) && b.l.all stSmall))))
def smallB (P : List Bl) : Bool := decide (P.length ≤ 12) && P.all blSmall

theorem all_bad {α : Type} {f : α → Bool} {L : List α} {k : Nat} (hk : k < L.length) (h : f (L[k]'hk) = false) : L.all f = false := by
  rw [List.all_eq_false]
  exact ⟨_, List.getElem_mem hk, by rw [h]; simp⟩
theorem all_next {α : Type} {f : α → Bool} {L : List α} {k : Nat} (hk : k < L.length) (h0 : (L.take k).all f = true) (h : f (L[k]'hk) = true) : (L.take (k + 1)).all f = true := by
  rw [List.take_succ_eq_append_getElem hk, List.all_append, h0]
  simp [h]

set_option maxRecDepth 100000 in
set_option maxHeartbeats 2000000 in
theorem small_any (P : List Bl) (pv : Value) (w : World) (h : Pg w pv P) :
    Calls Try.prog 21 #[.agg #[pv]] w fun e w' => e = .returned (.bool (smallB P)) ∧ Below w.heap.size w w' := by
  obtain ⟨b, off, p, cap, rfl, hp, hc⟩ := Pg.open h
  by_cases h12 : P.length ≤ 12
  · have h12' : ¬ (12 : Int) < (P.length : Int) := by omega
    have hsm : smallB P = P.all blSmall := by simp [smallB, h12]
    rw [hsm]
    obtain ⟨R, hR⟩ : ∃ R, Hid (P.all blSmall = R) := ⟨_, rfl⟩
    rw [hR]
    clear hsm
    go_enter Try.func21, Try.ntmps21
    go_wp2_with fail
    go_loopw [14] (fun i wr => ∃ k : Nat, k ≤ P.length ∧ i = .int .i64 k ∧ (P.take k).all blSmall = true ∧ Below w.heap.size w wr) (fun i _ => P.length - (intOf i).toNat)
    case atStart => exact ⟨0, Nat.zero_le _, rfl, by simp, (Below.refl _ _).alloc (Nat.le_refl _) _⟩
    case round =>
      obtain ⟨k, hk, rfl, hall, hB⟩ := hrel
      have hall' : Hid ((P.take k).all blSmall = true) := hall
      clear hall
      have hw := hB.size
      by_cases hlt : k < P.length
      · obtain rfl := hp (by omega)
        have hlt2 : (k : Int) < P.length := by omega
        have hcw : ∀ r u, ((P[k]'hlt).cs)[r]? = some u → w.cell? ⟨b, off + (k * 8 + r), none⟩ = some u := (hc k hlt).1
        have hsl := (hc k hlt).2
        have hbad : blSmall (P[k]'hlt) = false → R = false := fun h => by rw [← hR]; exact all_bad hlt h
        have hnext : blSmall (P[k]'hlt) = true → (P.take (k + 1)).all blSmall = true := fun h => all_next hlt hall' h
        clear hc
        generalize P[k]'hlt = B at hcw hsl hbad hnext
        have hcr : ∀ r u, B.cs[r]? = some u → wr.cell? ⟨b, off + k * 8 + r, none⟩ = some u := fun r u hu => by
          rw [Nat.add_assoc]
          exact (hB.cell (p := ⟨b, off + (k * 8 + r), none⟩) (World.block_lt_of_cell? _ _ (hcw r u hu))).trans (hcw r u hu)
        obtain ⟨lb, loff, lp, lcap, hlv, hlp, hlc⟩ := hsl.open St.cs_len
        have c0 : wr.cell? ⟨b, off + k * 8, none⟩ = some (.string B.n) := hcr 0 _ rfl
        have hbw := World.block_lt_of_cell? _ _ c0
        have c1 := hcr 1 _ rfl
        have c2 := hcr 2 _ rfl
        have c3 := hcr 3 _ rfl
        have c4 := hcr 4 _ rfl
        have c5 := hcr 5 _ rfl
        have c6 := hcr 6 _ rfl
        have c7 := hcr 7 _ rfl
        clear hcr hcw
        rw [hlv] at c1
        have hhid := And.intro hbad hnext
        clear hbad hnext
        by_cases hd : B.l.length ≤ 12 ∧ B.n.size ≤ 40 ∧ B.t.t.size ≤ 40 ∧ B.t.e.size ≤ 40 ∧ B.t.x.v.size ≤ 40
        · have q0 : (B.l.length : Int) ≤ 12 := by omega
          have q1 : (B.n.size : Int) ≤ 40 := by omega
          have q2 : (B.t.t.size : Int) ≤ 40 := by omega
          have q3 : (B.t.e.size : Int) ≤ 40 := by omega
          have q4 : (B.t.x.v.size : Int) ≤ 40 := by omega
          have hst : Hid (blSmall B = B.l.all stSmall) := by
            show _ = _
            obtain ⟨d0, d1, d2, d3, d4⟩ := hd
            simp [blSmall, d0, d1, d2, d3, d4]
          clear hd
          go_wp2_with fail
          have hB1 : Below w.heap.size w (wr.alloc (Obj.cells #[Value.string B.n, Value.slice lp B.l.length lcap, Value.int IntKind.i64 B.t.k, Value.string B.t.x.v, Value.int IntKind.i64 B.t.x.a, Value.int IntKind.i64 B.t.x.b, Value.string B.t.t, Value.string B.t.e] 91)) := hB.alloc hw _
          clear c0 c1 c2 c3 c4 c5 c6 c7
          go_loopw [53] (fun i wr => ∃ j : Nat, j ≤ B.l.length ∧ i = .int .i64 j ∧ (B.l.take j).all stSmall = true ∧ Below w.heap.size w wr) (fun i _ => B.l.length - (intOf i).toNat)
          case atStart => exact ⟨0, Nat.zero_le _, rfl, by simp, hB1⟩
          case round =>
            obtain ⟨j, hj, rfl, hallj, hBj⟩ := hrel
            have hallj' : Hid ((B.l.take j).all stSmall = true) := hallj
            clear hallj
            have hwj := hBj.size
            by_cases hjt : j < B.l.length
            · obtain rfl := hlp (by omega)
              have hjt2 : (j : Int) < B.l.length := by omega
              have hbad2 : stSmall (B.l[j]'hjt) = false → R = false := fun h => hhid.1 (by rw [hst]; exact all_bad hjt h)
              have hnext2 : stSmall (B.l[j]'hjt) = true → (B.l.take (j + 1)).all stSmall = true := fun h => all_next hjt hallj' h
              have hlcj := hlc j hjt
              generalize (B.l[j]'hjt) = s at hlcj hbad2 hnext2
              have hcj : ∀ r u, s.cs[r]? = some u → wr.cell? ⟨lb, loff + j * 9 + r, none⟩ = some u := fun r u hu => by
                rw [Nat.add_assoc]
                exact (hBj.cell (p := ⟨lb, loff + (j * 9 + r), none⟩) (World.block_lt_of_cell? _ _ (hlcj r u hu))).trans (hlcj r u hu)
              have e0 : wr.cell? ⟨lb, loff + j * 9, none⟩ = some (.int .i64 s.k) := hcj 0 _ rfl
              have hbq := World.block_lt_of_cell? _ _ e0
              have e1 := hcj 1 _ rfl
              have e2 := hcj 2 _ rfl
              have e3 := hcj 3 _ rfl
              have e4 := hcj 4 _ rfl
              have e5 := hcj 5 _ rfl
              have e6 := hcj 6 _ rfl
              have e7 := hcj 7 _ rfl
              have e8 := hcj 8 _ rfl
              have hhid2 := And.intro hbad2 hnext2
              clear hcj hlcj hlc hbad2 hnext2
              by_cases hs : s.v.size ≤ 40 ∧ s.e.x.v.size ≤ 40 ∧ s.e.y.v.size ≤ 40
              · have p0 : (s.v.size : Int) ≤ 40 := by omega
                have p1 : (s.e.x.v.size : Int) ≤ 40 := by omega
                have p2 : (s.e.y.v.size : Int) ≤ 40 := by omega
                have hnx : Hid ((B.l.take (j + 1)).all stSmall = true) := hhid2.2 (by simp [stSmall, hs.1, hs.2.1, hs.2.2])
                clear hs hhid2
                go_wp2_with fail
                go_roundw
                case rel => exact ⟨j + 1, by omega, by simp, hnx, hBj.alloc hwj _⟩
                case measure => simp [intOf]; omega
              · have hf := hhid2.1 (by simp only [stSmall, Bool.and_eq_false_iff, decide_eq_false_iff_not]; omega)
                subst hf
                clear hhid2 hhid
                go_wp2_with fail
                all_goals first
                  | (exfalso; omega)
                  | (go_ret; exact ⟨rfl, hBj.alloc hwj _⟩)
            · have hks : j = B.l.length := by omega
              have hjt2 : ¬ (j : Int) < B.l.length := by omega
              subst hks
              have hnx : Hid ((P.take (k + 1)).all blSmall = true) := hhid.2 (by rw [hst]; have := hallj'; rw [List.take_length] at this; exact this)
              clear hhid
              go_wp2_with fail
              go_roundw
              case rel => exact ⟨k + 1, by omega, by simp, hnx, hBj⟩
              case measure => simp [intOf]; omega
        · have hf := hhid.1 (by simp only [blSmall, Bool.and_eq_false_iff, decide_eq_false_iff_not]; omega)
          subst hf
          clear hhid
          go_wp2_with fail
          all_goals first
            | (exfalso; omega)
            | (go_ret; exact ⟨rfl, hB.alloc hw _⟩)
      · have hks : k = P.length := by omega
        subst hks
        have hlt2 : ¬ (P.length : Int) < P.length := by omega
        have hRt : R = true := by rw [← hR]; have := hall'; rw [List.take_length] at this; exact this
        subst hRt
        clear hc
        go_wp2_with fail
        go_ret
        exact ⟨rfl, hB⟩
  · have h12' : (12 : Int) < (P.length : Int) := by omega
    have hsm : smallB P = false := by simp [smallB, h12]
    rw [hsm]
    clear hsm hc
    go_enter Try.func21, Try.ntmps21
    go_wp2_with fail
    go_ret
    refine ⟨rfl, ?_⟩
    (repeat (first | exact Below.refl _ _ | apply Below.drew | refine Below.alloc ?_ ?_ _ | refine Below.setCell ?_ ?_ _ | refine Below.trans ?_ (Below.mono (After.below _) ?_))); (all_goals (first | (simp; done) | (simp; omega) | omega))

end Go.Proofs.Ytjjmoibnmdbpeaa.Pr

/- PLAIN: programs alike. WALKS of slices.Equal at statements, proper.Same. -/
import Derived.Test.YtekpkhgpjpgcbaaEqs
import Derived.Test.YtekpkhgpjpgcbaaChkf
namespace Go.Proofs.Ytekpkhgpjpgcbaa.Pr
set_option linter.unusedVariables false
set_option linter.unusedSimpArgs false
open Go Go.RowKit

def eqL {α : Type} (f : α → α → Bool) : List α → List α → Bool
  | [], [] => true
  | x :: L, y :: M => f x y && eqL f L M
  | [], _ :: _ => false
  | _ :: _, [] => false
theorem eqL_len {α : Type} {f : α → α → Bool} : ∀ {L M : List α}, L.length ≠ M.length → eqL f L M = false
  | [], [], h => absurd rfl h
  | [], _ :: _, _ => rfl
  | _ :: _, [], _ => rfl
  | x :: L, y :: M, h => by
    have := eqL_len (f := f) (L := L) (M := M) (fun e => h (by simp [e]))
    simp [eqL, this]
theorem eqL_bad {α : Type} {f : α → α → Bool} : ∀ {L M : List α} {k : Nat} (h1 : k < L.length) (h2 : k < M.length), f (L[k]'h1) (M[k]'h2) = false → eqL f L M = false
  | [], _, _, h1, _, _ => by simp at h1
  | _ :: _, [], _, _, h2, _ => by simp at h2
  | x :: L, y :: M, 0, _, _, h => by
    have : f x y = false := h
    simp [eqL, this]
  | x :: L, y :: M, k + 1, h1, h2, h => by
    have := eqL_bad (f := f) (L := L) (M := M) (k := k) (by simpa using h1) (by simpa using h2) (by simpa using h)
    simp [eqL, this]
theorem eqL_all {α : Type} {f : α → α → Bool} : ∀ {L M : List α}, L.length = M.length → (∀ k (h1 : k < L.length) (h2 : k < M.length), f (L[k]'h1) (M[k]'h2) = true) → eqL f L M = true
  | [], [], _, _ => rfl
  | [], _ :: _, h, _ => by simp at h
  | _ :: _, [], h, _ => by simp at h
  | x :: L, y :: M, h, ha => by
    have h0 := ha 0 (by simp) (by simp)
    have := eqL_all (f := f) (L := L) (M := M) (by simpa using h) (fun k h1 h2 => ha (k + 1) (by simpa using h1) (by simpa using h2))
    simp only [List.getElem_cons_zero] at h0
    simp [eqL, this, h0]

def sameB (b c : Bl) : Bool := b.n.toList == c.n.toList && (eqT b.t c.t && eqL eqS b.l c.l)
def sameP (P Q : List Bl) : Bool := eqL sameB P Q

set_option maxRecDepth 100000 in
set_option maxHeartbeats 1000000 in
theorem equal_any (L M : List St) (hl : L.length ≤ 1000000) (hm : M.length ≤ 1000000) (v v2 : Value) (w : World) (h : Sl w v St.cs L) (h2 : Sl w v2 St.cs M) :
    Calls Try.prog 104 #[v, v2] w fun e w' => e = .returned (.bool (eqL eqS L M)) ∧ Below w.heap.size w w' := by
  obtain ⟨b, off, p, cap, rfl, hp, hc⟩ := h.open St.cs_len
  obtain ⟨b2, off2, p2, cap2, rfl, hp2, hc2⟩ := h2.open St.cs_len
  by_cases hll : L.length = M.length
  · have g0 : ((L.length : Int) != M.length) = false := by simp [hll]
    obtain ⟨R, hR⟩ : ∃ R, Hid (eqL eqS L M = R) := ⟨_, rfl⟩
    rw [hR]
    have hLM : Hid (L.length = M.length) := hll
    clear hll h h2
    go_enter Try.func104, Try.ntmps104
    go_wp2_with fail
    go_loopw [13] (fun i wr => ∃ k : Nat, k ≤ L.length ∧ i = .int .i64 k ∧ (∀ j (h1 : j < L.length) (h2 : j < M.length), j < k → eqS (L[j]'h1) (M[j]'h2) = true) ∧ Below w.heap.size w wr) (fun i _ => L.length - (intOf i).toNat)
    case atStart => exact ⟨0, Nat.zero_le _, rfl, fun j _ _ hj => by omega, Below.refl _ _⟩
    case round =>
      obtain ⟨k, hk, rfl, hall, hB⟩ := hrel
      by_cases hlt : k < L.length
      · have hlt' : k < M.length := by rw [← hLM]; exact hlt
        obtain rfl := hp (by omega)
        obtain rfl := hp2 (by omega)
        have hlt2 : (k : Int) < L.length := by omega
        have hlt3 : (k : Int) < M.length := by omega
        have hcr : ∀ r u, ((L[k]'hlt).cs)[r]? = some u → wr.cell? ⟨b, off + k * 9 + r, none⟩ = some u := fun r u hu => by
          rw [Nat.add_assoc]
          exact (hB.cell (p := ⟨b, off + (k * 9 + r), none⟩) (World.block_lt_of_cell? _ _ (hc k hlt r u hu))).trans (hc k hlt r u hu)
        have hcs : ∀ r u, ((M[k]'hlt').cs)[r]? = some u → wr.cell? ⟨b2, off2 + k * 9 + r, none⟩ = some u := fun r u hu => by
          rw [Nat.add_assoc]
          exact (hB.cell (p := ⟨b2, off2 + (k * 9 + r), none⟩) (World.block_lt_of_cell? _ _ (hc2 k hlt' r u hu))).trans (hc2 k hlt' r u hu)
        have hbad : eqS (L[k]'hlt) (M[k]'hlt') = false → R = false := fun h => by rw [← hR]; exact eqL_bad hlt hlt' h
        have hnext : eqS (L[k]'hlt) (M[k]'hlt') = true → ∀ j (h1 : j < L.length) (h2 : j < M.length), j < k + 1 → eqS (L[j]'h1) (M[j]'h2) = true := fun h j h1 h2 hj => by
          rcases Nat.lt_succ_iff_lt_or_eq.1 hj with hj | rfl
          · exact hall j h1 h2 hj
          · exact h
        have hmm := And.intro hbad hnext
        clear hc hc2 hall hbad hnext
        generalize L[k]'hlt = s at hcr hmm
        generalize M[k]'hlt' = t at hcs hmm
        have c0 : wr.cell? ⟨b, off + k * 9, none⟩ = some (.int .i64 s.k) := hcr 0 _ rfl
        have hg := World.block_lt_of_cell? _ _ c0
        have c1 := hcr 1 _ rfl
        have c2 := hcr 2 _ rfl
        have c3 := hcr 3 _ rfl
        have c4 := hcr 4 _ rfl
        have c5 := hcr 5 _ rfl
        have c6 := hcr 6 _ rfl
        have c7 := hcr 7 _ rfl
        have c8 := hcr 8 _ rfl
        have d0 : wr.cell? ⟨b2, off2 + k * 9, none⟩ = some (.int .i64 t.k) := hcs 0 _ rfl
        have hg2 := World.block_lt_of_cell? _ _ d0
        have d1 := hcs 1 _ rfl
        have d2 := hcs 2 _ rfl
        have d3 := hcs 3 _ rfl
        have d4 := hcs 4 _ rfl
        have d5 := hcs 5 _ rfl
        have d6 := hcs 6 _ rfl
        have d7 := hcs 7 _ rfl
        have d8 := hcs 8 _ rfl
        clear hcr hcs
        obtain ⟨z, hz⟩ : ∃ z, eqS s t = z := ⟨_, rfl⟩
        have he : eqS ⟨s.k, s.v, ⟨s.e.op, ⟨s.e.x.v, s.e.x.a, s.e.x.b⟩, ⟨s.e.y.v, s.e.y.a, s.e.y.b⟩⟩⟩ ⟨t.k, t.v, ⟨t.e.op, ⟨t.e.x.v, t.e.x.a, t.e.x.b⟩, ⟨t.e.y.v, t.e.y.a, t.e.y.b⟩⟩⟩ = z := hz
        cases z
        · have hRk := hmm.1 hz
          subst hRk
          clear hmm hz
          go_wp2_with fail
          go_region
          all_goals (
            go_wp2_with fail
            refine bodyPost_ret (v := .bool false) (by simp only [results, Try.results104]; go_simp) rfl ⟨rfl, hB.drew⟩)
        · have hx := And.intro True.intro (hmm.2 hz)
          clear hmm hz
          go_wp2_with fail
          go_region
          all_goals (
            go_wp2_with fail
            go_roundw
            case rel => exact ⟨k + 1, by omega, by simp, hx.2, hB.drew⟩
            case measure => simp [intOf]; omega)
      · have hks : k = L.length := by omega
        subst hks
        have hlt2 : ¬ (L.length : Int) < L.length := by omega
        have hRk : R = true := by rw [← hR]; exact eqL_all hLM (fun k h1 h2 => hall k h1 h2 h1)
        subst hRk
        clear hc hc2 hall
        go_wp2_with fail
        go_ret
        exact ⟨rfl, hB⟩
  · have g0 : ((L.length : Int) != M.length) = true := by simp; omega
    rw [eqL_len hll]
    clear hll h h2 hc hc2 hp hp2
    go_enter Try.func104, Try.ntmps104
    go_wp2_with fail
    go_ret
    refine ⟨rfl, ?_⟩
    (repeat (first | exact Below.refl _ _ | apply Below.drew | refine Below.alloc ?_ ?_ _ | refine Below.setCell ?_ ?_ _ | refine Below.trans ?_ (Below.mono (After.below _) ?_))); (all_goals (first | (simp; done) | (simp; omega) | omega))

set_option maxRecDepth 100000 in
theorem same1_any (B C : Bl) (hl : B.l.length ≤ 1000000) (hm : C.l.length ≤ 1000000) (lp lp2 : Option Addr) (lcap lcap2 : Nat) (w : World) (h : Sl w (.slice lp B.l.length lcap) St.cs B.l) (h2 : Sl w (.slice lp2 C.l.length lcap2) St.cs C.l) :
    Calls Try.prog 103 #[.agg #[.string B.n, .slice lp B.l.length lcap, .int .i64 B.t.k, .string B.t.x.v, .int .i64 B.t.x.a, .int .i64 B.t.x.b, .string B.t.t, .string B.t.e], .agg #[.string C.n, .slice lp2 C.l.length lcap2, .int .i64 C.t.k, .string C.t.x.v, .int .i64 C.t.x.a, .int .i64 C.t.x.b, .string C.t.t, .string C.t.e]] w fun e w' => e = .returned (.bool (sameB B C)) ∧ Below w.heap.size w w' := by
  have hq := fun W (hB : Below w.heap.size w W) => equal_any B.l C.l hl hm _ _ W (h.below hB) (h2.below hB)
  have hb0 : Below w.heap.size w ((w.alloc (.cells #[.string B.n, .slice lp B.l.length lcap, .int .i64 B.t.k, .string B.t.x.v, .int .i64 B.t.x.a, .int .i64 B.t.x.b, .string B.t.t, .string B.t.e] 108)).alloc (.cells #[.string C.n, .slice lp2 C.l.length lcap2, .int .i64 C.t.k, .string C.t.x.v, .int .i64 C.t.x.a, .int .i64 C.t.x.b, .string C.t.t, .string C.t.e] 108)) := ((Below.refl _ _).alloc (Nat.le_refl _) _).alloc (by simp) _
  rw [show sameB B C = (B.n.toList == C.n.toList && (eqT B.t C.t && eqL eqS B.l C.l)) from rfl]
  obtain ⟨z, hz⟩ : ∃ z, eqT B.t C.t = z := ⟨_, rfl⟩
  have he : eqT ⟨B.t.k, ⟨B.t.x.v, B.t.x.a, B.t.x.b⟩, B.t.t, B.t.e⟩ ⟨C.t.k, ⟨C.t.x.v, C.t.x.a, C.t.x.b⟩, C.t.t, C.t.e⟩ = z := hz
  rw [hz]
  clear hz h h2
  generalize eqL eqS B.l C.l = s at hq
  cases hn : (B.n.toList == C.n.toList) <;> cases z <;> cases s <;> simp only [Bool.and_true, Bool.and_false, Bool.false_and, Bool.true_and]
  all_goals (
    go_enter Try.func103, Try.ntmps103
    go_wp2_with ((go_at_call 104; refine' Calls.aft _ _ (hq _ hb0) _; rotate_left 2; (first | (with_reducible exact After.below _; rfl) | (with_reducible exact below_drew (After.below _); rfl) | (with_reducible exact below_set (After.below _) _ _; (go_simp; rfl)) | (with_reducible exact below_set (below_set (After.below _) _ _) _ _; (go_simp; rfl)) | (with_reducible exact below_set (below_set (below_set (After.below _) _ _) _ _) _ _; (go_simp; rfl)) | (with_reducible exact below_set (below_set (below_set (below_set (After.below _) _ _) _ _) _ _) _ _; (go_simp; rfl)) | (exact Below.refl _ _; rfl)); intro x1; have hle := After.le x1; (try simp at hle)))
    go_ret
    refine ⟨rfl, ?_⟩
    (repeat (first | exact Below.refl _ _ | apply Below.drew | refine Below.alloc ?_ ?_ _ | refine Below.setCell ?_ ?_ _ | refine Below.trans ?_ (Below.mono (After.below _) ?_))); (all_goals (first | (simp; done) | (simp; omega) | omega)))

end Go.Proofs.Ytekpkhgpjpgcbaa.Pr

/- Systems: edges. WALKS of flow.node, flow.Right and soughref07.Right. Systems: Codes. WALKS of transfer.ref, transfer.code and soughref16.ref. -/
import Derived.Test.YtjjmoibnmdbpeaaSmall
import Derived.Test.YtjjmoibnmdbpeaaSl
import Derived.Test.YtjjmoibnmdbpeaaOwn
import Derived.Test.YtjjmoibnmdbpeaaPgm
import Derived.Test.YtjjmoibnmdbpeaaGauss

namespace Go.Proofs.Ytjjmoibnmdbpeaa.Pr
set_option linter.unusedVariables false
set_option linter.unusedSimpArgs false
open Go Go.RowKit

theorem nextB {w W q : World} (hq : Below W.heap.size W q) (h : Below w.heap.size w W) : Below w.heap.size w q := h.trans (hq.mono h.size)
theorem nextC {W q : World} {a : Addr} {v : Value} (hq : Below W.heap.size W q) (h : W.cell? a = some v) : q.cell? a = some v := (hq.cell (p := a) (World.block_lt_of_cell? _ _ h)).trans h

/-- An edge. -/
structure Ed where
  f : Int
  t : Int
def Ed.cs (e : Ed) : List Value := [.int .i64 e.f, .int .i64 e.t]
theorem Ed.cs_len (e : Ed) : e.cs.length = 2 := rfl
def nodeB (n x : Int) : Bool := decide (0 ≤ x) && decide (x < n)
def edgeB (n : Int) (e : Ed) : Bool := nodeB n e.f && nodeB n e.t
def rightB (n : Int) (L : List Ed) : Bool := decide (1 ≤ n) && (decide (n ≤ 256) && (decide (L.length ≤ 1024) && L.all (edgeB n)))

set_option maxRecDepth 100000 in
theorem node_any (n x : Int) (w : World) : Calls Try.prog 106 #[.int .i64 n, .int .i64 x] w fun e w' => e = .returned (.bool (nodeB n x)) ∧ Below w.heap.size w w' := by
  unfold nodeB
  by_cases h1 : 0 ≤ x
  · rw [decide_eq_true h1]
    by_cases h2 : x < n
    · rw [decide_eq_true h2]
      go_enter Try.func106, Try.ntmps106
      go_wp2_with fail
      go_ret
      exact ⟨by simp [h2], Below.refl _ _⟩
    · rw [decide_eq_false h2]
      go_enter Try.func106, Try.ntmps106
      go_wp2_with fail
      go_ret
      exact ⟨by simp [h2], Below.refl _ _⟩
  · rw [decide_eq_false h1]
    go_enter Try.func106, Try.ntmps106
    go_wp2_with fail
    go_ret
    exact ⟨by simp, Below.refl _ _⟩

set_option maxRecDepth 100000 in
theorem right1_any (n : Int) (e : Ed) (nb : Nat) (w : World) (h : w.cell? ⟨nb, 0, none⟩ = some (.int .i64 n)) :
    Calls Try.prog 105 #[.agg #[.int .i64 e.f, .int .i64 e.t], .pointer (some ⟨nb, 0, none⟩)] w fun x w' => x = .returned (.bool !(edgeB n e)) ∧ Below w.heap.size w w' := by
  obtain ⟨f, t⟩ := e
  have n1 := fun W => node_any n f W
  have n2 := fun W => node_any n t W
  have hl := World.block_lt_of_cell? _ _ h
  unfold edgeB
  show Calls _ _ _ _ fun x w' => x = .returned (.bool !(nodeB n f && nodeB n t)) ∧ _
  generalize nodeB n f = b1 at n1 ⊢
  generalize nodeB n t = b2 at n2 ⊢
  have hb1 : Below w.heap.size w (w.alloc (.cells #[.int .i64 f, .int .i64 t] 148)) := (Below.refl _ _).alloc (Nat.le_refl _) _
  cases b1
  · go_enter Try.func105, Try.ntmps105
    go_wp2_with ((go_at_call 106; refine' Calls.aft _ _ (n1 _) _; rotate_left 2; (exact Below.refl _ _; rfl); intro x1; have hle := After.le x1; (try simp at hle)); have h1 := nextC x1.below (nextC hb1 h))
    go_ret
    exact ⟨rfl, nextB x1.below hb1⟩
  · go_enter Try.func105, Try.ntmps105
    go_wp2_with (go_at_call 106; first | (with_reducible refine' Calls.aft _ _ (n1 _) _; rotate_left 2; (exact Below.refl _ _; rfl); intro x1; have hle := After.le x1; (try simp at hle); have h1 := nextC x1.below (nextC hb1 h)) | (with_reducible refine' Calls.aft _ _ (n2 _) _; rotate_left 2; (exact Below.refl _ _; rfl); intro x2; have hle2 := After.le x2; (try simp at hle2)))
    go_ret
    exact ⟨by simp, nextB x2.below (nextB x1.below hb1)⟩

set_option maxRecDepth 100000 in
set_option maxHeartbeats 1000000 in
theorem indexE_any (n : Int) (L : List Ed) (hl : L.length ≤ 2000) (nb : Nat) (v : Value) (w : World) (h : Sl w v Ed.cs L) (hn : w.cell? ⟨nb, 0, none⟩ = some (.int .i64 n)) :
    Calls Try.prog 133 #[v, .func (.func 105) #[] #[.pointer (some ⟨nb, 0, none⟩)]] w fun e w' => ∃ i : Int, e = .returned (.int .i64 i) ∧ decide (0 ≤ i) = (!(L.all (edgeB n))) ∧ Below w.heap.size w w' := by
  obtain ⟨b, off, p, cap, rfl, hp, hc⟩ := h.open Ed.cs_len
  obtain ⟨R, hR⟩ : ∃ R, Hid (L.all (edgeB n) = R) := ⟨_, rfl⟩
  rw [show L.all (edgeB n) = R from hR]
  go_enter Try.func133, Try.ntmps133
  go_wp2_with fail
  go_loopw [8] (fun i wr => ∃ k : Nat, k ≤ L.length ∧ i = .int .i64 k ∧ (L.take k).all (edgeB n) = true ∧ Below w.heap.size w wr) (fun i _ => L.length - (intOf i).toNat)
  case atStart => exact ⟨0, Nat.zero_le _, rfl, by simp, Below.refl _ _⟩
  case round =>
    obtain ⟨k, hk, rfl, hall, hB⟩ := hrel
    have hw := hB.size
    by_cases hlt : k < L.length
    · obtain rfl := hp (by omega)
      have hlt2 : (k : Int) < L.length := by omega
      have hbad : edgeB n (L[k]'hlt) = false → R = false := fun h => by rw [← show L.all (edgeB n) = R from hR]; exact all_bad hlt h
      have hnext : edgeB n (L[k]'hlt) = true → (L.take (k + 1)).all (edgeB n) = true := fun h => all_next hlt hall h
      have hcr : ∀ r u, ((L[k]'hlt).cs)[r]? = some u → wr.cell? ⟨b, off + k * 2 + r, none⟩ = some u := fun r u hu => by
        rw [Nat.add_assoc]
        exact nextC hB (hc k hlt r u hu)
      clear hc hall
      generalize L[k]'hlt = s at hcr hbad hnext
      have e0 : wr.cell? ⟨b, off + k * 2, none⟩ = some (.int .i64 s.f) := hcr 0 _ rfl
      have hg := World.block_lt_of_cell? _ _ e0
      have e1 : wr.cell? ⟨b, off + k * 2 + 1, none⟩ = some (.int .i64 s.t) := hcr 1 _ rfl
      clear hcr
      have hra := right1_any n s nb wr (nextC hB hn)
      cases hz : edgeB n s
      · rw [hz] at hra
        have hf := hbad hz
        subst hf
        clear hbad hnext hz
        go_wp2_with ((go_at_call 105; refine' Calls.aft _ _ (hra) _; rotate_left 2; (exact Below.refl _ _; rfl); intro x1; have hle := After.le x1; (try simp at hle)))
        refine bodyPost_ret (v := .int .i64 k) (by simp only [results, Try.results133]; go_simp) rfl ⟨_, rfl, by simp, nextB x1.below hB⟩
      · rw [hz] at hra
        have hx := And.intro True.intro (hnext hz)
        clear hbad hnext hz
        go_wp2_with ((go_at_call 105; refine' Calls.aft _ _ (hra) _; rotate_left 2; (exact Below.refl _ _; rfl); intro x1; have hle := After.le x1; (try simp at hle)))
        go_roundw
        case rel => exact ⟨k + 1, by omega, by simp, hx.2, nextB x1.below hB⟩
        case measure => simp [intOf]; omega
    · have hks : k = L.length := by omega
      subst hks
      have hlt2 : ¬ (L.length : Int) < L.length := by omega
      have hRt : R = true := by rw [← show L.all (edgeB n) = R from hR]; rw [List.take_length] at hall; exact hall
      subst hRt
      clear hc
      go_wp2_with fail
      refine bodyPost_ret (v := .int .i64 (-1)) (by simp only [results, Try.results133]; go_simp) rfl ⟨_, rfl, by decide, hB⟩

set_option maxRecDepth 100000 in
theorem containsE_any (n : Int) (L : List Ed) (hl : L.length ≤ 2000) (nb : Nat) (v : Value) (w : World) (h : Sl w v Ed.cs L) (hn : w.cell? ⟨nb, 0, none⟩ = some (.int .i64 n)) :
    Calls Try.prog 104 #[v, .func (.func 105) #[] #[.pointer (some ⟨nb, 0, none⟩)]] w fun e w' => e = .returned (.bool !(L.all (edgeB n))) ∧ Below w.heap.size w w' := by
  have hix := indexE_any n L hl nb v w h hn
  generalize L.all (edgeB n) = z at hix ⊢
  obtain ⟨p, c, rfl⟩ : ∃ p c, v = .slice p L.length c := by obtain ⟨b, off, p, cap, hv, _⟩ := h; exact ⟨p, cap, hv⟩
  go_enter Try.func104, Try.ntmps104
  go_wp2_with ((go_at_call 133; refine' Calls.aftS _ _ (hix) _; rotate_left 2; (first | (with_reducible exact After.below _; rfl) | (with_reducible exact below_drew (After.below _); rfl) | (with_reducible exact below_set (After.below _) _ _; (go_simp; rfl)) | (with_reducible exact below_set (below_set (After.below _) _ _) _ _; (go_simp; rfl)) | (with_reducible exact below_set (below_set (below_set (After.below _) _ _) _ _) _ _; (go_simp; rfl)) | (with_reducible exact below_set (below_set (below_set (below_set (After.below _) _ _) _ _) _ _) _ _; (go_simp; rfl)) | (exact Below.refl _ _; rfl)); intro i x1 hi; have hle := After.le x1; (try simp at hle)))
  refine bodyPost_ret (v := .bool !z) (by simp only [results, Try.results104]; go_simp) rfl ⟨rfl, x1.below⟩

set_option maxRecDepth 100000 in
theorem right_any (n : Int) (L : List Ed) (v : Value) (w : World) (h : Sl w v Ed.cs L) :
    Calls Try.prog 66 #[.int .i64 n, v] w fun e w' => e = .returned (.bool (rightB n L)) ∧ Below w.heap.size w w' := by
  have hb1 : Below w.heap.size w (w.alloc (.cells #[.int .i64 n] 3)) := (Below.refl _ _).alloc (Nat.le_refl _) _
  have hct := fun (hl : L.length ≤ 2000) => containsE_any n L hl w.heap.size v _ (h.below hb1) (cell_of_one (heap_alloc_new w (.cells #[.int .i64 n] 3)))
  obtain ⟨p, c, rfl⟩ : ∃ p c, v = .slice p L.length c := by obtain ⟨b, off, p, cap, hv, _⟩ := h; exact ⟨p, cap, hv⟩
  unfold rightB
  by_cases h1 : 1 ≤ n
  · rw [decide_eq_true h1]
    have h1' : ¬ n < 1 := by omega
    by_cases h2 : n ≤ 256
    · rw [decide_eq_true h2]
      have h2' : ¬ 256 < n := by omega
      by_cases h3 : L.length ≤ 1024
      · rw [decide_eq_true h3]
        have h3' : ¬ (1024 : Int) < L.length := by omega
        have hct := hct (by omega)
        generalize L.all (edgeB n) = z at hct ⊢
        clear h
        go_enter Try.func66, Try.ntmps66
        go_wp2_with ((go_at_call 104; refine' Calls.aft _ _ (hct) _; rotate_left 2; (exact Below.refl _ _; rfl); intro x1; have hle := After.le x1; (try simp at hle)))
        go_ret
        exact ⟨by simp, nextB x1.below hb1⟩
      · rw [decide_eq_false h3]
        have h3' : (1024 : Int) < L.length := by omega
        clear h hct
        go_enter Try.func66, Try.ntmps66
        go_wp2_with fail
        go_ret
        exact ⟨by simp, hb1⟩
    · rw [decide_eq_false h2]
      have h2' : 256 < n := by omega
      clear h hct
      go_enter Try.func66, Try.ntmps66
      go_wp2_with fail
      go_ret
      exact ⟨by simp, hb1⟩
  · rw [decide_eq_false h1]
    have h1' : n < 1 := by omega
    clear h hct
    go_enter Try.func66, Try.ntmps66
    go_wp2_with fail
    go_ret
    exact ⟨by simp, hb1⟩

set_option maxRecDepth 100000 in
set_option maxHeartbeats 2000000 in
theorem rright_any (n : Int) (L : List Ed) (v : Value) (w : World) (h : Sl w v Ed.cs L) :
    Calls Try.prog 71 #[.int .i64 n, v] w fun e w' => e = .returned (.bool (rightB n L)) ∧ Below w.heap.size w w' := by
  obtain ⟨b, off, p, cap, rfl, hp, hc⟩ := h.open Ed.cs_len
  unfold rightB
  by_cases h1 : 1 ≤ n
  · rw [decide_eq_true h1]
    have h1' : ¬ n < 1 := by omega
    by_cases h2 : n ≤ 256
    · rw [decide_eq_true h2]
      have h2' : ¬ 256 < n := by omega
      by_cases h3 : L.length ≤ 1024
      · rw [decide_eq_true h3]
        have h3' : ¬ (1024 : Int) < L.length := by omega
        simp only [Bool.true_and]
        obtain ⟨R, hR⟩ : ∃ R, Hid (L.all (edgeB n) = R) := ⟨_, rfl⟩
        rw [show L.all (edgeB n) = R from hR]
        clear h
        go_enter Try.func71, Try.ntmps71
        go_wp2_with fail
        go_loopw [20] (fun i wr => ∃ k : Nat, k ≤ L.length ∧ i = .int .i64 k ∧ (L.take k).all (edgeB n) = true ∧ Below w.heap.size w wr) (fun i _ => L.length - (intOf i).toNat)
        case atStart => exact ⟨0, Nat.zero_le _, rfl, by simp, Below.refl _ _⟩
        case round =>
          obtain ⟨k, hk, rfl, hall, hB⟩ := hrel
          have hw := hB.size
          by_cases hlt : k < L.length
          · obtain rfl := hp (by omega)
            have hlt2 : (k : Int) < L.length := by omega
            have hbad : edgeB n (L[k]'hlt) = false → R = false := fun h => by rw [← show L.all (edgeB n) = R from hR]; exact all_bad hlt h
            have hnext : edgeB n (L[k]'hlt) = true → (L.take (k + 1)).all (edgeB n) = true := fun h => all_next hlt hall h
            have hcr : ∀ r u, ((L[k]'hlt).cs)[r]? = some u → wr.cell? ⟨b, off + k * 2 + r, none⟩ = some u := fun r u hu => by
              rw [Nat.add_assoc]
              exact nextC hB (hc k hlt r u hu)
            clear hc hall
            generalize L[k]'hlt = s at hcr hbad hnext
            obtain ⟨f, t⟩ := s
            have e0 : wr.cell? ⟨b, off + k * 2, none⟩ = some (.int .i64 f) := hcr 0 _ rfl
            have hg := World.block_lt_of_cell? _ _ e0
            have e1 : wr.cell? ⟨b, off + k * 2 + 1, none⟩ = some (.int .i64 t) := hcr 1 _ rfl
            clear hcr
            have hdf : edgeB n ⟨f, t⟩ = ((decide (0 ≤ f) && decide (f < n)) && (decide (0 ≤ t) && decide (t < n))) := rfl
            rw [hdf] at hbad hnext
            have hB1 := hB.alloc hw (.cells #[.int .i64 f, .int .i64 t] 148)
            by_cases q1 : 0 ≤ f
            · rw [decide_eq_true q1] at hbad hnext
              have q1' : ¬ f < 0 := by omega
              by_cases q2 : f < n
              · rw [decide_eq_true q2] at hbad hnext
                have q2' : ¬ n ≤ f := by omega
                by_cases q3 : 0 ≤ t
                · rw [decide_eq_true q3] at hbad hnext
                  have q3' : ¬ t < 0 := by omega
                  by_cases q4 : t < n
                  · rw [decide_eq_true q4] at hbad hnext
                    have q4' : ¬ n ≤ t := by omega
                    have hx := And.intro True.intro (hnext rfl)
                    clear hbad hnext
                    go_wp2_with fail
                    go_roundw
                    case rel => exact ⟨k + 1, by omega, by simp, hx.2, hB1⟩
                    case measure => simp [intOf]; omega
                  · rw [decide_eq_false q4] at hbad hnext
                    have q4' : n ≤ t := by omega
                    have hf := hbad rfl
                    subst hf
                    clear hbad hnext hR
                    go_wp2_with fail
                    go_ret
                    exact ⟨rfl, hB1⟩
                · rw [decide_eq_false q3] at hbad hnext
                  have q3' : t < 0 := by omega
                  have hf := hbad rfl
                  subst hf
                  clear hbad hnext hR
                  go_wp2_with fail
                  go_ret
                  exact ⟨rfl, hB1⟩
              · rw [decide_eq_false q2] at hbad hnext
                have q2' : n ≤ f := by omega
                have hf := hbad rfl
                subst hf
                clear hbad hnext hR
                go_wp2_with fail
                go_ret
                exact ⟨rfl, hB1⟩
            · rw [decide_eq_false q1] at hbad hnext
              have q1' : f < 0 := by omega
              have hf := hbad rfl
              subst hf
              clear hbad hnext hR
              go_wp2_with fail
              go_ret
              exact ⟨rfl, hB1⟩
          · have hks : k = L.length := by omega
            subst hks
            have hlt2 : ¬ (L.length : Int) < L.length := by omega
            have hRt : R = true := by rw [← show L.all (edgeB n) = R from hR]; rw [List.take_length] at hall; exact hall
            subst hRt
            clear hc hR
            go_wp2_with fail
            go_ret
            exact ⟨rfl, hB⟩
      · rw [decide_eq_false h3]
        have h3' : (1024 : Int) < L.length := by omega
        clear h hc
        go_enter Try.func71, Try.ntmps71
        go_wp2_with fail
        go_ret
        exact ⟨by simp, Below.refl _ _⟩
    · rw [decide_eq_false h2]
      have h2' : 256 < n := by omega
      clear h hc
      go_enter Try.func71, Try.ntmps71
      go_wp2_with fail
      go_ret
      exact ⟨by simp, Below.refl _ _⟩
  · rw [decide_eq_false h1]
    have h1' : n < 1 := by omega
    clear h hc
    go_enter Try.func71, Try.ntmps71
    go_wp2_with fail
    go_ret
    exact ⟨by simp, Below.refl _ _⟩

end Go.Proofs.Ytjjmoibnmdbpeaa.Pr

namespace Go.Proofs.Ytjjmoibnmdbpeaa.Pr
set_option linter.unusedVariables false
set_option linter.unusedSimpArgs false
open Go Go.RowKit

structure Rf where
  v : Int
  a : Int
  b : Int
def eqR (x y : Rf) : Bool := x.v == y.v && (x.a == y.a && x.b == y.b)
def zeroR (x : Rf) : Bool := eqR x ⟨0, 0, 0⟩
structure Cd where
  v : Int
  op : Int
  a : Rf
  b : Rf
def Cd.cs (c : Cd) : List Value := [.int .i64 c.v, .int .i64 c.op, .int .i64 c.a.v, .int .i64 c.a.a, .int .i64 c.a.b, .int .i64 c.b.v, .int .i64 c.b.a, .int .i64 c.b.b]
theorem Cd.cs_len (c : Cd) : c.cs.length = 8 := rfl
def refB (w : Int) (r : Rf) : Bool := if r.v = -1 then (r.a == wr r.a && r.b == wr r.b) else decide (0 ≤ r.v) && (decide (r.v < w) && (r.a == 0 && r.b == 0))
def codeB (w : Int) (c : Cd) : Bool := decide (0 ≤ c.v) && (decide (c.v < w) && (decide (-1 ≤ c.op) && (decide (c.op ≤ 4) && (if c.op = -1 then zeroR c.a && zeroR c.b else refB w c.a && refB w c.b))))

set_option maxRecDepth 100000 in
@[go_sem high] theorem binEqRef (v a b v2 a2 b2 : Int) (w : World) :
    (binOp .eql 152 (.agg #[.int .i64 v, .int .i64 a, .int .i64 b]) (.agg #[.int .i64 v2, .int .i64 a2, .int .i64 b2])).run Try.prog w = .ok (.bool (eqR ⟨v, a, b⟩ ⟨v2, a2, b2⟩)) w := by
  have u3 := Try.underlying3
  have a3 := Try.isAgg3
  have z3 := Try.sizeOf3
  have u7 := Try.underlying69
  have a7 := Try.isAgg69
  have z7 := Try.sizeOf69
  have u8 := Try.underlying152
  have a8 := Try.isAgg152
  have z8 := Try.sizeOf152
  simp only [eqR]
  go_simp
  by_cases h0 : v = v2
  rotate_left
  · simp [h0]
  by_cases h1 : a = a2
  rotate_left
  · simp [h0, h1]
  by_cases h2 : b = b2 <;> simp [h0, h1, h2]
set_option maxRecDepth 100000 in
@[go_sem high] theorem nbinEqRef (v a b v2 a2 b2 : Int) (w : World) :
    (binOp .neq 152 (.agg #[.int .i64 v, .int .i64 a, .int .i64 b]) (.agg #[.int .i64 v2, .int .i64 a2, .int .i64 b2])).run Try.prog w = .ok (.bool (!(eqR ⟨v, a, b⟩ ⟨v2, a2, b2⟩))) w := by
  have u3 := Try.underlying3
  have a3 := Try.isAgg3
  have z3 := Try.sizeOf3
  have u7 := Try.underlying69
  have a7 := Try.isAgg69
  have z7 := Try.sizeOf69
  have u8 := Try.underlying152
  have a8 := Try.isAgg152
  have z8 := Try.sizeOf152
  simp only [eqR]
  go_simp
  by_cases h0 : v = v2
  rotate_left
  · simp [h0]
  by_cases h1 : a = a2
  rotate_left
  · simp [h0, h1]
  by_cases h2 : b = b2 <;> simp [h0, h1, h2]
@[go_sem high] theorem guardEqRef (op : BinOp) (x y : Operand) (xs ys : Array Value) (w : World) : (eqGuard op 152 x y (.agg xs) (.agg ys)).run Try.prog w = .ok () w := run_eqGuard_agg w op _ x y xs ys (by kernel_rfl)

set_option maxRecDepth 100000 in
theorem ref_any (n : Int) (v a b : Int) (w : World) : Calls Try.prog 135 #[.int .i64 n, .agg #[.int .i64 v, .int .i64 a, .int .i64 b]] w fun e w' => e = .returned (.bool (refB n ⟨v, a, b⟩)) ∧ Below w.heap.size w w' := by
  have hb1 : Below w.heap.size w (w.alloc (.cells #[.int .i64 v, .int .i64 a, .int .i64 b] 152)) := (Below.refl _ _).alloc (Nat.le_refl _) _
  have his := fun W => Go.Proofs.Ytjjmoibnmdbpeaa.is_any a b W
  unfold refB
  by_cases h1 : v = -1
  · subst h1
    rw [if_pos rfl]
    show Calls _ _ _ _ fun e w' => e = .returned (.bool (a == wr a && b == wr b)) ∧ _
    generalize (a == wr a && b == wr b) = z at his ⊢
    go_enter Try.func135, Try.ntmps135
    go_wp2_with (go_at_call 138; refine' Calls.aft _ _ (his _) _; rotate_left 2; (exact Below.refl _ _; rfl); intro x1; have hle := After.le x1; (try simp at hle))
    go_ret
    exact ⟨rfl, nextB x1.below hb1⟩
  · rw [if_neg h1]
    show Calls _ _ _ _ fun e w' => e = .returned (.bool (decide (0 ≤ v) && (decide (v < n) && (a == 0 && b == 0)))) ∧ _
    by_cases h2 : 0 ≤ v
    · rw [decide_eq_true h2]
      by_cases h3 : v < n
      · rw [decide_eq_true h3]
        go_enter Try.func135, Try.ntmps135
        go_wp2_with fail
        go_ret
        exact ⟨by simp, hb1⟩
      · rw [decide_eq_false h3]
        go_enter Try.func135, Try.ntmps135
        go_wp2_with fail
        go_ret
        exact ⟨by simp, hb1⟩
    · rw [decide_eq_false h2]
      go_enter Try.func135, Try.ntmps135
      go_wp2_with fail
      go_ret
      exact ⟨by simp, hb1⟩

set_option maxRecDepth 100000 in
theorem rref_any (n : Int) (v a b : Int) (w : World) : Calls Try.prog 113 #[.int .i64 n, .agg #[.int .i64 v, .int .i64 a, .int .i64 b]] w fun e w' => e = .returned (.bool (refB n ⟨v, a, b⟩)) ∧ Below w.heap.size w w' := by
  have hb1 : Below w.heap.size w (w.alloc (.cells #[.int .i64 v, .int .i64 a, .int .i64 b] 152)) := (Below.refl _ _).alloc (Nat.le_refl _) _
  have hof := fun W => Go.Proofs.Ytjjmoibnmdbpeaa.rof_any a b W
  unfold refB
  by_cases h1 : v = -1
  · subst h1
    rw [if_pos rfl]
    show Calls _ _ _ _ fun e w' => e = .returned (.bool (a == wr a && b == wr b)) ∧ _
    go_enter Try.func113, Try.ntmps113
    go_wp2_with fail
    refine' region_whole _ _ (by kernel_rfl) (by kernel_rfl) _; rotate_left 2; (exact Below.refl _ _; rfl); (repeat (go_big_quiet_step (first | (go_at_call 127; exact Calls.after_of (hof _))))); refine wpQuiet_nil ?_; intro z
    go_wp2_with fail
    go_ret
    exact ⟨by simp, nextB z.below hb1⟩
  · rw [if_neg h1]
    show Calls _ _ _ _ fun e w' => e = .returned (.bool (decide (0 ≤ v) && (decide (v < n) && (a == 0 && b == 0)))) ∧ _
    by_cases h2 : 0 ≤ v
    · rw [decide_eq_true h2]
      by_cases h3 : v < n
      · rw [decide_eq_true h3]
        go_enter Try.func113, Try.ntmps113
        go_wp2_with fail
        go_ret
        exact ⟨by simp, hb1⟩
      · rw [decide_eq_false h3]
        go_enter Try.func113, Try.ntmps113
        go_wp2_with fail
        go_ret
        exact ⟨by simp, hb1⟩
    · rw [decide_eq_false h2]
      go_enter Try.func113, Try.ntmps113
      go_wp2_with fail
      go_ret
      exact ⟨by simp, hb1⟩

set_option maxRecDepth 100000 in
set_option maxHeartbeats 1000000 in
theorem code_any (n : Int) (c : Cd) (w : World) : Calls Try.prog 109 #[.int .i64 n, .agg #[.int .i64 c.v, .int .i64 c.op, .int .i64 c.a.v, .int .i64 c.a.a, .int .i64 c.a.b, .int .i64 c.b.v, .int .i64 c.b.a, .int .i64 c.b.b]] w fun e w' => e = .returned (.bool (codeB n c)) ∧ Below w.heap.size w w' := by
  obtain ⟨v, op, ⟨v1, a1, b1⟩, ⟨v2, a2, b2⟩⟩ := c
  have hb1 : Below w.heap.size w (w.alloc (.cells #[.int .i64 v, .int .i64 op, .int .i64 v1, .int .i64 a1, .int .i64 b1, .int .i64 v2, .int .i64 a2, .int .i64 b2] 154)) := (Below.refl _ _).alloc (Nat.le_refl _) _
  have r1 := fun W => ref_any n v1 a1 b1 W
  have r2 := fun W => ref_any n v2 a2 b2 W
  unfold codeB
  show Calls _ _ #[_, .agg #[.int .i64 v, .int .i64 op, .int .i64 v1, .int .i64 a1, .int .i64 b1, .int .i64 v2, .int .i64 a2, .int .i64 b2]] _ fun e w' => e = .returned (.bool (decide (0 ≤ v) && (decide (v < n) && (decide (-1 ≤ op) && (decide (op ≤ 4) && (if op = -1 then zeroR ⟨v1, a1, b1⟩ && zeroR ⟨v2, a2, b2⟩ else refB n ⟨v1, a1, b1⟩ && refB n ⟨v2, a2, b2⟩)))))) ∧ _
  generalize refB n ⟨v1, a1, b1⟩ = z1 at r1 ⊢
  generalize refB n ⟨v2, a2, b2⟩ = z2 at r2 ⊢
  by_cases h1 : 0 ≤ v
  rotate_left
  · rw [decide_eq_false h1]
    have h1' : v < 0 := by omega
    go_enter Try.func109, Try.ntmps109
    go_wp2_with fail
    go_ret
    exact ⟨by simp, hb1⟩
  rw [decide_eq_true h1]
  have h1' : ¬ v < 0 := by omega
  by_cases h2 : v < n
  rotate_left
  · rw [decide_eq_false h2]
    have h2' : n ≤ v := by omega
    go_enter Try.func109, Try.ntmps109
    go_wp2_with fail
    go_ret
    exact ⟨by simp, hb1⟩
  rw [decide_eq_true h2]
  have h2' : ¬ n ≤ v := by omega
  by_cases h3 : -1 ≤ op
  rotate_left
  · rw [decide_eq_false h3]
    have h3' : op < -1 := by omega
    go_enter Try.func109, Try.ntmps109
    go_wp2_with fail
    go_ret
    exact ⟨by simp, hb1⟩
  rw [decide_eq_true h3]
  have h3' : ¬ op < -1 := by omega
  by_cases h4 : op ≤ 4
  rotate_left
  · rw [decide_eq_false h4]
    have h4' : 4 < op := by omega
    go_enter Try.func109, Try.ntmps109
    go_wp2_with fail
    go_ret
    exact ⟨by simp, hb1⟩
  rw [decide_eq_true h4]
  have h4' : ¬ 4 < op := by omega
  simp only [Bool.true_and]
  by_cases h5 : op = -1
  · subst h5
    rw [if_pos rfl]
    unfold zeroR
    cases hz : eqR ⟨v1, a1, b1⟩ ⟨0, 0, 0⟩
    · go_enter Try.func109, Try.ntmps109
      go_wp2_with fail
      go_ret
      exact ⟨by simp, hb1⟩
    · go_enter Try.func109, Try.ntmps109
      go_wp2_with fail
      go_ret
      exact ⟨by simp, hb1⟩
  · rw [if_neg h5]
    cases z1
    · go_enter Try.func109, Try.ntmps109
      go_wp2_with ((go_at_call 135; refine' Calls.aft _ _ (r1 _) _; rotate_left 2; (exact Below.refl _ _; rfl); intro x1; have hle := After.le x1; (try simp at hle)))
      go_ret
      exact ⟨by simp, nextB x1.below hb1⟩
    · go_enter Try.func109, Try.ntmps109
      go_wp2_with (go_at_call 135; first | (with_reducible refine' Calls.aft _ _ (r1 _) _; rotate_left 2; (exact Below.refl _ _; rfl); intro x1; have hle := After.le x1; (try simp at hle)) | (with_reducible refine' Calls.aft _ _ (r2 _) _; rotate_left 2; (exact Below.refl _ _; rfl); intro x2; have hle2 := After.le x2; (try simp at hle2)))
      go_ret
      exact ⟨by simp, nextB x2.below (nextB x1.below hb1)⟩

end Go.Proofs.Ytjjmoibnmdbpeaa.Pr

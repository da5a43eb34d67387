/- soughref02.Same and Fault. -/
import Derived.Test.YtmnplnhblniimaaTokend
import Derived.Laws.AppendOwn
import Derived.Laws.OwnMore
namespace Go.Proofs.Ytmnplnhblniimaa.Tk
set_option linter.unusedVariables false
set_option linter.unusedSimpArgs false
open Go Go.RowKit

theorem cells_at {l : List Tok} {k : Nat} (hk : k < l.length) : (cells l)[k * 4]? = some (.int .i64 (l[k]'hk).kind) ∧ (cells l)[k * 4 + 1]? = some (.int .i64 (l[k]'hk).pos) ∧ (cells l)[k * 4 + 2]? = some (.string (l[k]'hk).s) ∧ (cells l)[k * 4 + 3]? = some (.int .i64 (l[k]'hk).n) := by
  induction l generalizing k with
  | nil => simp at hk
  | cons t l ih =>
    cases k with
    | zero => simp [cells, Tok.cells]
    | succ k =>
      have := ih (k := k) (by simpa using hk)
      have e : ∀ j, (cells (t :: l))[(k + 1) * 4 + j]? = (cells l)[k * 4 + j]? := fun j => by
        show (t.cells ++ cells l)[(k + 1) * 4 + j]? = _
        rw [List.getElem?_append_right (by simp [Tok.cells]; omega)]
        congr 1
        simp [Tok.cells]; omega
      have e0 := e 0
      simp only [Nat.add_zero] at e0
      rw [e0, e 1, e 2, e 3]
      simpa using this

theorem row_cells {w : World} {base g n cap : Nat} {l : List Tok} (h : w.ownsRow base 39 4 (.slice (some ⟨g, 0, none⟩) n cap) l.length (cells l)) {k : Nat} (hk : k < l.length) :
    w.cell? ⟨g, k * 4, none⟩ = some (.int .i64 (l[k]'hk).kind) ∧ w.cell? ⟨g, k * 4 + 1, none⟩ = some (.int .i64 (l[k]'hk).pos) ∧ w.cell? ⟨g, k * 4 + 2, none⟩ = some (.string (l[k]'hk).s) ∧ w.cell? ⟨g, k * 4 + 3, none⟩ = some (.int .i64 (l[k]'hk).n) := by
  have hc := h.cells (g := g) rfl
  have ha : ∀ j, (⟨g, 0, none⟩ : Addr).add j = ⟨g, j, none⟩ := fun j => by unfold Addr.add; split <;> simp_all
  obtain ⟨c0, c1, c2, c3⟩ := cells_at hk
  have d0 := hc _ _ c0
  have d1 := hc _ _ c1
  have d2 := hc _ _ c2
  have d3 := hc _ _ c3
  rw [ha] at d0 d1 d2 d3
  exact ⟨d0, d1, d2, d3⟩

theorem row_shape {w : World} {base : Nat} {v : Value} {l : List Tok} (h : w.ownsRow base 39 4 v l.length (cells l)) :
    (v = .slice none 0 0 ∧ l = []) ∨ ∃ g cap, v = .slice (some ⟨g, 0, none⟩) l.length cap := by
  rcases h.2 with ⟨rfl, hn⟩ | ⟨g, cap, cur, rfl, _⟩
  · exact .inl ⟨rfl, List.eq_nil_of_length_eq_zero hn⟩
  · exact .inr ⟨g, cap, rfl⟩

theorem own_below {w w' : World} {base : Nat} {e : TypeId} {size : Nat} {v : Value} {n : Nat} {xs : List Value} (h : w.ownsRow base e size v n xs) (hb : Below w.heap.size w w') : w'.ownsRow base e size v n xs :=
  h.kept (row := none) ⟨hb.os, hb.tape, hb.output, hb.size, fun k hk _ => hb.block k hk⟩ (by cases hv : v.ownBlock <;> simp)

theorem fault_any (e p e' p' : Int) (w : World) : Calls Try.prog 11 #[.agg #[.int .i64 e, .int .i64 p], .int .i64 e', .int .i64 p'] w fun r w' => r = .returned (.bool (e == e' && p == p')) ∧ Below w.heap.size w w' := by
  cases h1 : (e == e') <;> cases h2 : (p == p') <;>
  · go_enter Try.func11, Try.ntmps11
    go_wp2_with fail
    go_ret
    refine ⟨rfl, ?_⟩
    (repeat (first | exact Below.refl _ _ | apply Below.drew | refine Below.alloc ?_ ?_ _ | refine Below.setCell ?_ ?_ _ | refine Below.trans ?_ (Below.mono (After.below _) ?_))); (all_goals (first | (simp; done) | (simp; omega) | omega))

theorem one_cases {s : ByteArray} {i : Nat} (hi : i < s.size) (b1 : blankB (byt s i) = false) (b2 : ¬ byt s i = 35) :
    (∃ e, stepAt s i = .bad e ∧ oneE s i = e ∧ (e == 0) = false) ∨ (∃ t, stepAt s i = .tok t ∧ oneE s i = 0 ∧ oneT s i = t) := by
  cases h : stepAt s i with
  | stop =>
    simp only [stepAt, if_pos hi, b1, Bool.false_eq_true, if_false, if_neg b2] at h
    repeat' (split at h)
    all_goals cases h
  | skip j =>
    simp only [stepAt, if_pos hi, b1, Bool.false_eq_true, if_false, if_neg b2] at h
    repeat' (split at h)
    all_goals cases h
  | bad e =>
    left
    refine ⟨e, rfl, by rw [oneE, h], ?_⟩
    simp only [stepAt, if_pos hi, b1, Bool.false_eq_true, if_false, if_neg b2] at h
    repeat' (split at h)
    all_goals (cases h; try rfl)
  | tok t => exact .inr ⟨t, rfl, by rw [oneE, h], by rw [oneT, h]⟩

end Go.Proofs.Ytmnplnhblniimaa.Tk

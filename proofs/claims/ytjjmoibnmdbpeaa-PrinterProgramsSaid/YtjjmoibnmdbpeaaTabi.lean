/- WALKS of tables.place at sites, tables.Block, tables.Var, soughref06.Block, soughref06.Var. -/
import Derived.Test.YtjjmoibnmdbpeaaTabh
import Derived.Test.YtjjmoibnmdbpeaaTabg
namespace Go.Proofs.Ytjjmoibnmdbpeaa.Pr
set_option linter.unusedVariables false
set_option linter.unusedSimpArgs false
open Go Go.RowKit

set_option maxRecDepth 100000 in
theorem places_any (L : List Si) (xb xk : Int) (xv : ByteArray) (hl : L.length ≤ 1000000) (v : Value) (w : World) (h : Sl w v Si.cs L) :
    Calls Try.prog 48 #[v, .agg #[.int .i64 xb, .int .i64 xk, .string xv]] w fun e w' => e = .returned (placeV (idx L ⟨xb, xk, xv⟩)) ∧ Below w.heap.size w w' := by
  have hix := fun w (h : Sl w v Si.cs L) => indexs_any L xb xk xv hl v w h
  generalize idx L ⟨xb, xk, xv⟩ = r at hix ⊢
  have h1 : Sl (w.alloc (.cells #[.int .i64 xb, .int .i64 xk, .string xv] 66)) v Si.cs L := h.below ((Below.refl _ _).alloc (Nat.le_refl _) _)
  go_enter Try.func48, Try.ntmps48
  go_wp2_with ((go_at_call 86; refine' Calls.aft _ _ (hix _ h1) _; rotate_left 2; (first | (with_reducible exact After.below _; rfl) | (with_reducible exact below_drew (After.below _); rfl) | (with_reducible exact below_set (After.below _) _ _; (go_simp; rfl)) | (with_reducible exact below_set (below_set (After.below _) _ _) _ _; (go_simp; rfl)) | (with_reducible exact below_set (below_set (below_set (After.below _) _ _) _ _) _ _; (go_simp; rfl)) | (with_reducible exact below_set (below_set (below_set (below_set (After.below _) _ _) _ _) _ _) _ _; (go_simp; rfl)) | (exact Below.refl _ _; rfl)); intro x1; have hle := After.le x1; (try simp at hle)))
  go_ret2
  refine ⟨rfl, ?_⟩
  (repeat (first | exact Below.refl _ _ | apply Below.drew | refine Below.alloc ?_ ?_ _ | refine Below.setCell ?_ ?_ _ | refine Below.trans ?_ (Below.mono (After.below _) ?_))); (all_goals (first | (simp; done) | (simp; omega) | omega))

def namesOf (P : List Bl) : List ByteArray := P.map fun b => b.n

end Go.Proofs.Ytjjmoibnmdbpeaa.Pr

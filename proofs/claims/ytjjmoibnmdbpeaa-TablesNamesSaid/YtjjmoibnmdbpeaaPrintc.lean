/- WALKS of package printer: Expr, Stmt, Term. -/
import Derived.Test.YtjjmoibnmdbpeaaPrintb
namespace Go.Proofs.Ytjjmoibnmdbpeaa
set_option linter.unusedVariables false
set_option linter.unusedSimpArgs false
open Go.RowKit Flo

/-- An expression's text. -/
def exprT (op : Int) (v1 : ByteArray) (a1 b1 : Int) (v2 : ByteArray) (a2 b2 : Int) : ByteArray :=
  if op = 0 then atomT v1 a1 b1
  else if op = 1 then atomT v1 a1 b1 ++ ⟨#[32, 43, 32]⟩ ++ atomT v2 a2 b2
  else if op = 2 then atomT v1 a1 b1 ++ ⟨#[32, 45, 32]⟩ ++ atomT v2 a2 b2
  else if op = 3 then atomT v1 a1 b1 ++ ⟨#[32, 42, 32]⟩ ++ atomT v2 a2 b2
  else if op = 4 then ⟨#[99, 111, 110, 106, 32]⟩ ++ atomT v1 a1 b1
  else ⟨#[]⟩

theorem expr_any (op : Int) (v1 v2 : ByteArray) (a1 b1 a2 b2 : Int) (hl : v1.size ≤ 1000) (hl2 : v2.size ≤ 1000) (w : World) :
    Calls Try.prog 50 #[.agg #[.int .i64 op, .string v1, .int .i64 a1, .int .i64 b1, .string v2, .int .i64 a2, .int .i64 b2]] w fun e w' => e = .returned (.string (exprT op v1 a1 b1 v2 a2 b2)) ∧ Below w.heap.size w w' := by
  have s1 := atomT_size v1 a1 b1
  have s2 := atomT_size v2 a2 b2
  unfold exprT
  by_cases h0 : op = 0
  · subst h0; rw [if_pos rfl]; exact expr_0 v1 v2 a1 b1 a2 b2 w
  rw [if_neg h0]
  by_cases h1 : op = 1
  · subst h1; rw [if_pos rfl]; exact expr_1 v1 v2 a1 b1 a2 b2 (by omega) (by omega) w
  rw [if_neg h1]
  by_cases h2 : op = 2
  · subst h2; rw [if_pos rfl]; exact expr_2 v1 v2 a1 b1 a2 b2 (by omega) (by omega) w
  rw [if_neg h2]
  by_cases h3 : op = 3
  · subst h3; rw [if_pos rfl]; exact expr_3 v1 v2 a1 b1 a2 b2 (by omega) (by omega) w
  rw [if_neg h3]
  by_cases h4 : op = 4
  · subst h4; rw [if_pos rfl]; exact expr_4 v1 v2 a1 b1 a2 b2 (by omega) w
  rw [if_neg h4]
  exact expr_else op v1 v2 a1 b1 a2 b2 (by simpa using h0) (by simpa using h1) (by simpa using h2) (by simpa using h3) (by simpa using h4) w

theorem exprT_size (op : Int) (v1 v2 : ByteArray) (a1 b1 a2 b2 : Int) (hl : v1.size ≤ 1000) (hl2 : v2.size ≤ 1000) :
    (exprT op v1 a1 b1 v2 a2 b2).size ≤ 140000 := by
  have s1 := atomT_size v1 a1 b1
  have s2 := atomT_size v2 a2 b2
  have k1 : (⟨#[32, 43, 32]⟩ : ByteArray).size = 3 := rfl
  have k2 : (⟨#[32, 45, 32]⟩ : ByteArray).size = 3 := rfl
  have k3 : (⟨#[32, 42, 32]⟩ : ByteArray).size = 3 := rfl
  have k4 : (⟨#[99, 111, 110, 106, 32]⟩ : ByteArray).size = 5 := rfl
  have k5 : (⟨#[]⟩ : ByteArray).size = 0 := rfl
  unfold exprT
  repeat' split
  all_goals (try simp only [ByteArray.size_append, k1, k2, k3, k4, k5])
  all_goals omega

end Go.Proofs.Ytjjmoibnmdbpeaa

/- THE READER: WALKS of stmt and its closures. -/
import Derived.Test.YtmnplnhblniimaaGrh
namespace Go.Proofs.Ytmnplnhblniimaa.Gr
set_option linter.unusedVariables false
set_option linter.unusedSimpArgs false
set_option linter.unusedSectionVars false
open Go Go.RowKit

/-- As Keep, but for one block more. -/
structure Keep2 (b sb : Nat) (T : List TypeId) (w w' : World) : Prop where
  os : w'.os = w.os
  tape : w'.tape = w.tape
  output : w'.output = w.output
  size : w.heap.size ≤ w'.heap.size
  block : ∀ k, k < w.heap.size → k ≠ b → k ≠ sb → (k < b ∨ ∃ cs t f, w.heap[k]? = some (.cells cs t f) ∧ t ∉ T) → w'.heap[k]? = w.heap[k]?

section
variable {b sb : Nat} {T : List TypeId} {w w' q : World}
theorem Keep2.of (h : Keep b T w w') : Keep2 b sb T w w' := ⟨h.os, h.tape, h.output, h.size, fun k hk hb _ hc => h.block k hk hb hc⟩
theorem Keep2.trans (h : Keep2 b sb T w w') (k : Keep b T w' q) : Keep2 b sb T w q :=
  ⟨k.os.trans h.os, k.tape.trans h.tape, k.output.trans h.output, Nat.le_trans h.size k.size, fun j hj hb hs hc => (k.block j (Nat.lt_of_lt_of_le hj h.size) hb (by
    rcases hc with hc | ⟨cs, t, f, h1, h2⟩
    · exact .inl hc
    · exact .inr ⟨cs, t, f, (h.block j hj hb hs (.inr ⟨cs, t, f, h1, h2⟩)).trans h1, h2⟩)).trans (h.block j hj hb hs hc)⟩
theorem Keep2.blk {k : Nat} {cs : Array Value} {t : TypeId} {f : Nat × Nat} (h : Keep2 b sb T w w') (hk : w.heap[k]? = some (.cells cs t f)) (hb : k ≠ b) (hs : k ≠ sb) (ht : t ∉ T) : w'.heap[k]? = some (.cells cs t f) :=
  (h.block k (lt_blk hk) hb hs (.inr ⟨cs, t, f, hk, ht⟩)).trans hk
theorem Keep2.set {j : Nat} (h : Keep2 b sb T w w') (u : Value) : Keep2 b sb T w (w'.setCell ⟨sb, j, none⟩ u) :=
  ⟨h.os, h.tape, h.output, by simpa [World.setCell] using h.size, fun i hi hb hs hc => (heap_setCell_other _ _ _ _ (by show i ≠ sb; omega)).trans (h.block i hi hb hs hc)⟩
theorem Keep.trans2 (h : Keep b T w w') (k : Keep2 b sb T w' q) (hs : w.heap.size ≤ sb) : Keep b T w q :=
  ⟨k.os.trans h.os, k.tape.trans h.tape, k.output.trans h.output, Nat.le_trans h.size k.size, fun j hj hb hc => (k.block j (Nat.lt_of_lt_of_le hj h.size) hb (by omega) (by
    rcases hc with hc | ⟨cs, t, f, h1, h2⟩
    · exact .inl hc
    · exact .inr ⟨cs, t, f, (h.block j hj hb (.inr ⟨cs, t, f, h1, h2⟩)).trans h1, h2⟩)).trans (h.block j hj hb hc)⟩
end

section
variable {b rb sb : Nat} {L : List Tok} {lv vv tv bv : Value} {w : World} {r : R}
theorem row1 {B : Nat} {v0 : Value} {t : TypeId} (h : w.heap[B]? = some (.cells #[v0] t (0, 0))) : w.cell? ⟨B, 0, none⟩ = some v0 ∧ B < w.heap.size := ⟨(cell_of_row w B 0 _ t (0, 0) h).trans rfl, lt_blk h⟩
theorem row9 {B : Nat} {v0 v1 v2 v3 v4 v5 v6 v7 v8 : Value} {t : TypeId} (h : w.heap[B]? = some (.cells #[v0, v1, v2, v3, v4, v5, v6, v7, v8] t (0, 0))) :
    w.cell? ⟨B, 0, none⟩ = some v0 ∧ w.cell? ⟨B, 1, none⟩ = some v1 ∧ w.cell? ⟨B, 2, none⟩ = some v2 ∧ w.cell? ⟨B, 3, none⟩ = some v3 ∧ w.cell? ⟨B, 4, none⟩ = some v4 ∧ w.cell? ⟨B, 5, none⟩ = some v5 ∧ w.cell? ⟨B, 6, none⟩ = some v6 ∧ w.cell? ⟨B, 7, none⟩ = some v7 ∧ w.cell? ⟨B, 8, none⟩ = some v8 ∧ (∀ j, w.frozen? ⟨B, j, none⟩ = false) ∧ B < w.heap.size :=
  ⟨(cell_of_row w B 0 _ t (0, 0) h).trans rfl, (cell_of_row w B 1 _ t (0, 0) h).trans rfl, (cell_of_row w B 2 _ t (0, 0) h).trans rfl, (cell_of_row w B 3 _ t (0, 0) h).trans rfl, (cell_of_row w B 4 _ t (0, 0) h).trans rfl, (cell_of_row w B 5 _ t (0, 0) h).trans rfl, (cell_of_row w B 6 _ t (0, 0) h).trans rfl, (cell_of_row w B 7 _ t (0, 0) h).trans rfl, (cell_of_row w B 8 _ t (0, 0) h).trans rfl, fun j => frozen_of_row w B j _ t h, lt_blk h⟩

variable (h : Gx b L lv vv tv bv w r) (hk : Ok L r) (hL : Lok L)
  (hr : w.heap[rb]? = some (.cells #[.pointer (some ⟨b, 0, none⟩)] 62 (0, 0)))
  (hs : w.heap[sb]? = some (.cells #[.int .i64 0, .string ⟨#[]⟩, .int .i64 0, .string ⟨#[]⟩, .int .i64 0, .int .i64 0, .string ⟨#[]⟩, .int .i64 0, .int .i64 0] 76 (0, 0)))
  (hrb : b < rb) (hsb : b < sb) (hne : rb ≠ sb)
include h hk hL hr hs hrb hsb hne

set_option maxRecDepth 100000 in
set_option maxHeartbeats 1000000 in
theorem st1_any : Calls Try.prog 76 #[.pointer (some ⟨rb, 0, none⟩), .pointer (some ⟨sb, 0, none⟩)] w fun e w' => e = .returned (.tuple #[]) ∧ (∃ v6, Gx b L lv v6 tv bv w' (exprR L (took L (varR L r) 3 (st [61])))) ∧
    w'.heap[sb]? = some (.cells #[.int .i64 1, .string (varS L r), .int .i64 (exprE L (took L (varR L r) 3 (st [61]))).op, .string (exprE L (took L (varR L r) 3 (st [61]))).x.v, .int .i64 (exprE L (took L (varR L r) 3 (st [61]))).x.a, .int .i64 (exprE L (took L (varR L r) 3 (st [61]))).x.b, .string (exprE L (took L (varR L r) 3 (st [61]))).y.v, .int .i64 (exprE L (took L (varR L r) 3 (st [61]))).y.a, .int .i64 (exprE L (took L (varR L r) 3 (st [61]))).y.b] 76 (0, 0)) ∧ Keep2 b sb [9] w w' := by
  have f1 := variable_any h hk hL.len
  have f2 := fun (v : Value) (W : World) (h2 : Gx b L lv v tv bv W _) => sign_any h2 (hk.var hL).i hL.len (st [61])
  have f3 := fun (v : Value) (W : World) (h2 : Gx b L lv v tv bv W _) => expr_any h2 ((hk.var hL).took hL 3 (st [61])) hL
  generalize varS L r = vs at f1 ⊢
  generalize varR L r = r1 at f1 f2 f3 ⊢
  generalize took L r1 3 (st [61]) = r2 at f2 f3 ⊢
  generalize exprE L r2 = E at f3 ⊢
  generalize exprR L r2 = r3 at f3 ⊢
  obtain ⟨eo, ⟨ev, ea, eb⟩, ⟨gv, ga, gb⟩⟩ := E
  simp only at f3 ⊢
  obtain ⟨p0, pl⟩ := row1 hr
  clear h hk
  go_enter Try.func76, Try.ntmps76
  go_wp2_with (first | (go_at_call 77; refine f1.mono ?_; rintro e9 W2 ⟨rfl, ⟨v2, hG2⟩, hK2⟩; have hr2 := hK2.blk hr (by omega) (by decide); have hs2 := hK2.blk hs (by omega) (by decide); obtain ⟨p2, pl2⟩ := row1 hr2; obtain ⟨d0, d1, d2, d3, d4, d5, d6, d7, d8, df, dl⟩ := row9 hs2; have ht2 := ty_of hs2) | (go_at_call 46; refine (f2 v2 _ ?gg).mono ?_; (case gg => (repeat (first | (with_reducible exact hG2) | (refine Gx.setT ?_ _ (by omega) (by (try simp only [ty_set]); assumption) (by decide) (by decide))))); rintro e9 W3 ⟨rfl, hG3, hK3⟩; have hr3 : W3.heap[rb]? = some (.cells #[.pointer (some ⟨b, 0, none⟩)] 62 (0, 0)) := hK3.blk (by repeat (first | (with_reducible exact hr2) | refine setO ?_ (by omega))) (by omega) (by decide); have hs3 : W3.heap[sb]? = some (.cells #[.int .i64 1, .string vs, .int .i64 0, .string ⟨#[]⟩, .int .i64 0, .int .i64 0, .string ⟨#[]⟩, .int .i64 0, .int .i64 0] 76 (0, 0)) := hK3.blk (heap_setCell_same _ _ 1 _ _ _ (heap_setCell_same _ _ 0 _ _ _ hs2)) (by omega) (by decide); obtain ⟨p3, pl3⟩ := row1 hr3) | (go_at_call 30; refine (f3 v2 _ hG3).mono ?_; rintro e9 W4 ⟨rfl, ⟨v4, hG4⟩, hK4⟩; have hs4 := hK4.blk hs3 (by omega) (by decide); obtain ⟨d0, d1, d2, d3, d4, d5, d6, d7, d8, df, dl⟩ := row9 hs4; have ht4 := ty_of hs4))
  go_end0
  have hK9 := ((((Keep2.of (sb := sb) hK2).set (j := 0) (.int .i64 1)).set (j := 1) (.string vs)).trans (hK3.mono (T' := [9]) (by simp))).trans hK4
  refine ⟨rfl, ⟨v4, ?_⟩, heap_setCell_same _ _ 8 _ _ _ (heap_setCell_same _ _ 7 _ _ _ (heap_setCell_same _ _ 6 _ _ _ (heap_setCell_same _ _ 5 _ _ _ (heap_setCell_same _ _ 4 _ _ _ (heap_setCell_same _ _ 3 _ _ _ (heap_setCell_same _ _ 2 _ _ _ (hs4))))))), ?_⟩
  · (repeat (first | (with_reducible exact hG4) | (refine Gx.setT ?_ _ (by omega) (by (try simp only [ty_set]); assumption) (by decide) (by decide))))
  · (repeat (first | (with_reducible exact hK9) | refine Keep2.set ?_ _))

set_option maxRecDepth 100000 in
set_option maxHeartbeats 1000000 in
theorem st2_any : Calls Try.prog 78 #[.pointer (some ⟨rb, 0, none⟩), .pointer (some ⟨sb, 0, none⟩)] w fun e w' => e = .returned (.tuple #[]) ∧ (∃ v6, Gx b L lv v6 tv bv w' (varR L (took L r 4 inS))) ∧
    w'.heap[sb]? = some (.cells #[.int .i64 2, .string (varS L (took L r 4 inS)), .int .i64 0, .string ⟨#[]⟩, .int .i64 0, .int .i64 0, .string ⟨#[]⟩, .int .i64 0, .int .i64 0] 76 (0, 0)) ∧ Keep2 b sb [9] w w' := by
  have f1 := wrd_any h hk.i hL.len inS
  have f2 := fun (W : World) (h2 : Gx b L lv vv tv bv W _) => variable_any h2 (hk.took hL 4 inS) hL.len
  generalize took L r 4 inS = r1 at f1 f2 ⊢
  generalize varS L r1 = vs at f2 ⊢
  generalize varR L r1 = r2 at f2 ⊢
  obtain ⟨p0, pl⟩ := row1 hr
  clear h hk
  go_enter Try.func78, Try.ntmps78
  go_wp2_with (first | (go_at_call 45; refine f1.mono ?_; rintro e9 W2 ⟨rfl, hG2, hK2⟩; have hr2 := hK2.blk hr (by omega) (by decide); have hs2 := hK2.blk hs (by omega) (by decide); obtain ⟨p2, pl2⟩ := row1 hr2) | (go_at_call 77; refine (f2 _ hG2).mono ?_; rintro e9 W4 ⟨rfl, ⟨v4, hG4⟩, hK4⟩; have hs4 := hK4.blk hs2 (by omega) (by decide); obtain ⟨d0, d1, d2, d3, d4, d5, d6, d7, d8, df, dl⟩ := row9 hs4; have ht4 := ty_of hs4))
  go_end0
  have hK9 := (Keep2.of (sb := sb) (hK2.mono (T' := [9]) (by simp))).trans hK4
  refine ⟨rfl, ⟨v4, ?_⟩, heap_setCell_same _ _ 1 _ _ _ (heap_setCell_same _ _ 0 _ _ _ (hs4)), ?_⟩
  · (repeat (first | (with_reducible exact hG4) | (refine Gx.setT ?_ _ (by omega) (by (try simp only [ty_set]); assumption) (by decide) (by decide))))
  · (repeat (first | (with_reducible exact hK9) | refine Keep2.set ?_ _))

set_option maxRecDepth 100000 in
set_option maxHeartbeats 1000000 in
theorem st3_any : Calls Try.prog 79 #[.pointer (some ⟨rb, 0, none⟩), .pointer (some ⟨sb, 0, none⟩)] w fun e w' => e = .returned (.tuple #[]) ∧ (∃ v6, Gx b L lv v6 tv bv w' (atomR L (took L r 4 outS))) ∧
    w'.heap[sb]? = some (.cells #[.int .i64 3, .string ⟨#[]⟩, .int .i64 0, .string (atomA L (took L r 4 outS)).v, .int .i64 (atomA L (took L r 4 outS)).a, .int .i64 (atomA L (took L r 4 outS)).b, .string ⟨#[]⟩, .int .i64 0, .int .i64 0] 76 (0, 0)) ∧ Keep2 b sb [9] w w' := by
  have f1 := wrd_any h hk.i hL.len outS
  have f2 := fun (W : World) (h2 : Gx b L lv vv tv bv W _) => atom_any h2 (hk.took hL 4 outS) hL
  generalize took L r 4 outS = r1 at f1 f2 ⊢
  generalize atomA L r1 = A at f2 ⊢
  generalize atomR L r1 = r2 at f2 ⊢
  obtain ⟨ev, ea, eb⟩ := A
  simp only at f2 ⊢
  obtain ⟨p0, pl⟩ := row1 hr
  clear h hk
  go_enter Try.func79, Try.ntmps79
  go_wp2_with (first | (go_at_call 45; refine f1.mono ?_; rintro e9 W2 ⟨rfl, hG2, hK2⟩; have hr2 := hK2.blk hr (by omega) (by decide); have hs2 := hK2.blk hs (by omega) (by decide); obtain ⟨p2, pl2⟩ := row1 hr2) | (go_at_call 61; refine (f2 _ hG2).mono ?_; rintro e9 W4 ⟨rfl, ⟨v4, hG4⟩, hK4⟩; have hs4 := hK4.blk hs2 (by omega) (by decide); obtain ⟨d0, d1, d2, d3, d4, d5, d6, d7, d8, df, dl⟩ := row9 hs4; have ht4 := ty_of hs4))
  go_end0
  have hK9 := (Keep2.of (sb := sb) (hK2.mono (T' := [9]) (by simp))).trans hK4
  refine ⟨rfl, ⟨v4, ?_⟩, heap_setCell_same _ _ 5 _ _ _ (heap_setCell_same _ _ 4 _ _ _ (heap_setCell_same _ _ 3 _ _ _ (heap_setCell_same _ _ 0 _ _ _ (hs4)))), ?_⟩
  · (repeat (first | (with_reducible exact hG4) | (refine Gx.setT ?_ _ (by omega) (by (try simp only [ty_set]); assumption) (by decide) (by decide))))
  · (repeat (first | (with_reducible exact hK9) | refine Keep2.set ?_ _))
end

end Go.Proofs.Ytmnplnhblniimaa.Gr

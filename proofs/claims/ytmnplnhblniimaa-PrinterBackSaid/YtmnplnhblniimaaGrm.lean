/- THE READER: WALKS of named and its closures. -/
import Derived.Test.YtmnplnhblniimaaGrl
namespace Go.Proofs.Ytmnplnhblniimaa.Gr
set_option linter.unusedVariables false
set_option linter.unusedSimpArgs false
open Go Go.RowKit

theorem hasT_all (l : List Tok) (s : ByteArray) (h : ∀ i (hi : i < l.length), ((l[i]'hi).s.toList == s.toList) = false) : hasT l s = false := by
  cases hc : hasT l s with
  | false => rfl
  | true =>
    unfold hasT at hc
    rw [List.any_eq_true] at hc
    obtain ⟨x, hx, he⟩ := hc
    obtain ⟨j, hj, rfl⟩ := List.mem_iff_getElem.1 hx
    rw [h j hj] at he; cases he
theorem hasT_one (l : List Tok) (s : ByteArray) (i : Nat) (hi : i < l.length) (h : ((l[i]'hi).s.toList == s.toList) = true) : hasT l s = true := by
  unfold hasT
  rw [List.any_eq_true]
  exact ⟨_, List.getElem_mem hi, h⟩

set_option maxRecDepth 100000 in
set_option maxHeartbeats 1000000 in
theorem hasT_any (l : List Tok) (s : ByteArray) (hl : l.length ≤ 1000000) (v : Value) (w : World) (h : Sl w v Tk.Tok.cells l) :
    Calls Try.prog 50 #[v, .string s] w fun e w' => e = .returned (.bool (hasT l s)) ∧ Below w.heap.size w w' := by
  obtain ⟨a, off, p, c, rfl, hp, hc⟩ := h.open (k := 4) (fun _ => rfl)
  generalize hR : hasT l s = RR
  have hR2 := And.intro True.intro hR
  clear hR h
  go_enter Try.func50, Try.ntmps50
  go_wp2_with fail
  go_loopw [9] (fun i wr => ∃ k : Nat, k ≤ l.length ∧ i = .int .i64 k ∧ Below w.heap.size w wr ∧ ∀ j (hj : j < l.length), j < k → ((l[j]'hj).s.toList == s.toList) = false) (fun i _ => l.length - (intOf i).toNat)
  case atStart => exact ⟨0, Nat.zero_le _, rfl, Below.refl _ _, fun j _ hj => absurd hj (Nat.not_lt_zero _)⟩
  case round =>
    obtain ⟨k, hk, rfl, hB, hno⟩ := hrel
    have hw := hB.size
    by_cases hlt : k < l.length
    · obtain rfl := hp (by omega)
      have hlt2 : (k : Int) < l.length := by omega
      have c0 : wr.cell? ⟨a, off + k * 4, none⟩ = some (.int .i64 (l[k]'hlt).kind) := (hB.cell (p := ⟨a, off + k * 4, none⟩) (World.block_lt_of_cell? _ _ (hc k hlt 0 _ rfl))).trans (hc k hlt 0 _ rfl)
      have c1 : wr.cell? ⟨a, off + k * 4 + 1, none⟩ = some (.int .i64 (l[k]'hlt).pos) := by rw [Nat.add_assoc]; exact (hB.cell (p := ⟨a, off + (k * 4 + 1), none⟩) (World.block_lt_of_cell? _ _ (hc k hlt 1 _ rfl))).trans (hc k hlt 1 _ rfl)
      have c2 : wr.cell? ⟨a, off + k * 4 + 2, none⟩ = some (.string (l[k]'hlt).s) := by rw [Nat.add_assoc]; exact (hB.cell (p := ⟨a, off + (k * 4 + 2), none⟩) (World.block_lt_of_cell? _ _ (hc k hlt 2 _ rfl))).trans (hc k hlt 2 _ rfl)
      have c3 : wr.cell? ⟨a, off + k * 4 + 3, none⟩ = some (.int .i64 (l[k]'hlt).n) := by rw [Nat.add_assoc]; exact (hB.cell (p := ⟨a, off + (k * 4 + 3), none⟩) (World.block_lt_of_cell? _ _ (hc k hlt 3 _ rfl))).trans (hc k hlt 3 _ rfl)
      have cl := World.block_lt_of_cell? _ _ c0
      cases hx : ((l[k]'hlt).s.toList == s.toList) with
      | true =>
        have hh := hasT_one l s k hlt hx
        rw [hR2.2] at hh
        subst hh
        generalize l[k]'hlt = x at c0 c1 c2 c3 hx
        clear hc hno hR2
        go_wp2_with fail
        go_ret
        exact ⟨rfl, hB.alloc hw _⟩
      | false =>
        have hno2 := And.intro True.intro (show ∀ j (hj : j < l.length), j < k + 1 → ((l[j]'hj).s.toList == s.toList) = false from fun j hj hjk => by
          by_cases he : j = k
          · subst he; exact hx
          · exact hno j hj (by omega))
        generalize l[k]'hlt = x at c0 c1 c2 c3 hx
        clear hc hno
        go_wp2_with fail
        go_roundw
        case rel => exact ⟨k + 1, by omega, by simp, hB.alloc hw _, hno2.2⟩
        case measure => simp [intOf]; omega
    · have hlt2 : ¬ (k : Int) < l.length := by omega
      obtain rfl : k = l.length := by omega
      have hh := hasT_all l s (fun i hi => hno i hi hi)
      rw [hR2.2] at hh
      subst hh
      clear hc hno hR2
      go_wp2_with fail
      go_ret
      exact ⟨rfl, hB⟩

/-- Behind the first closure of named: a is the first error so far, and where; a variable holds the place. -/
structure PutOk (b pb : Nat) (L : List Tok) (lv vv tv bv : Value) (w w' : World) (r : R) (a : Int × Int) : Prop where
  ex : ∃ pl', w'.heap[pb]? = some (.cells #[.int .i64 pl'] 3 (0, 0)) ∧ (a.1 ≠ 0 → pl' = a.2)
  g : Gx b L lv vv tv bv w' { r with e := a.1, p := a.2 }
  k : Keep2 b pb [] w w'

theorem PutOk.below {b pb : Nat} {L : List Tok} {lv vv tv bv : Value} {w w' q : World} {r : R} {a : Int × Int} (h : PutOk b pb L lv vv tv bv w w' r a) (hq : Below w'.heap.size w' q) : PutOk b pb L lv vv tv bv w q r a := by
  obtain ⟨pl', h1, h2⟩ := h.ex
  exact ⟨⟨pl', blkN hq h1, h2⟩, h.g.below hq, h.k.trans (.of_below hq)⟩

section
variable {b rb pb : Nat} {L : List Tok} {lv vv tv bv : Value} {w : World} {r : R}

set_option maxRecDepth 100000 in
set_option maxHeartbeats 1000000 in
theorem put_any (h : Gx b L lv vv tv bv w r) (pl : Int) (hp : w.heap[pb]? = some (.cells #[.int .i64 pl] 3 (0, 0))) (hr : w.heap[rb]? = some (.cells #[.pointer (some ⟨b, 0, none⟩)] 62 (0, 0)))
    (hpb : b < pb) (hrb : b < rb) (hpl : r.e ≠ 0 → pl = r.p) (ee : Int) (hee : ee ≠ 0) (t : Tok) :
    Calls Try.prog 49 #[.int .i64 ee, .agg #[.int .i64 t.kind, .int .i64 t.pos, .string t.s, .int .i64 t.n], .pointer (some ⟨pb, 0, none⟩), .pointer (some ⟨rb, 0, none⟩)] w fun e w' => e = .returned (.tuple #[]) ∧
      PutOk b pb L lv vv tv bv w w' r (leastE (r.e, r.p) ee t) := by
  obtain ⟨y0, y1, y2, y3, y4, y5, y6, y7, yf, yl⟩ := row8 h.box
  obtain ⟨p0, ql⟩ := row1 hp
  obtain ⟨r0, rl⟩ := row1 hr
  have pf := fun j => frozen_of_row w pb j _ _ hp
  obtain ⟨tk, tp, ts, tn⟩ := t
  obtain ⟨i, e, p, n, vs, tg, bk⟩ := r
  simp only at *
  have hn1 : pb ≠ rb := fun he => by subst he; rw [hp] at hr; cases hr
  have hH := And.intro True.intro h
  have hPL := And.intro True.intro hpl
  clear h
  by_cases q : e = 0 ∨ tp < pl
  · have hl : leastE (e, p) ee ⟨tk, tp, ts, tn⟩ = (ee, tp) := by
      unfold leastE
      rw [if_pos]
      rcases q with q | q
      · exact .inl q
      · by_cases h0 : e = 0
        · exact .inl h0
        · right; show tp < p; rw [← hpl h0]; exact q
    rw [hl]
    have hfin : ∀ W : World, Gx b L lv vv tv bv W ⟨i, e, p, n, vs, tg, bk⟩ → W.heap[pb]? = some (.cells #[.int .i64 pl] 3 (0, 0)) → Keep2 b pb [] w W → PutOk b pb L lv vv tv bv w (((W.setCell ⟨b, 2, none⟩ (.int .i64 ee)).setCell ⟨b, 3, none⟩ (.int .i64 tp)).setCell ⟨pb, 0, none⟩ (.int .i64 tp)) ⟨i, e, p, n, vs, tg, bk⟩ (ee, tp) := fun W hG hP hK => by
      have hP2 := (heap_setCell_other (W.setCell ⟨b, 2, none⟩ (.int .i64 ee)) ⟨b, 3, none⟩ pb (.int .i64 tp) (by show pb ≠ b; omega)).trans ((heap_setCell_other W ⟨b, 2, none⟩ pb (.int .i64 ee) (by show pb ≠ b; omega)).trans hP)
      have hG2 := (hG.put2 ee).put3 tp
      have t1 := ty_of hP
      refine ⟨⟨tp, heap_setCell_same _ pb 0 _ _ _ hP2, fun _ => rfl⟩, ?_, ?_⟩
      · (repeat (first | (with_reducible exact hG2) | (refine Gx.setT ?_ _ (by omega) (by (try simp only [ty_set]); assumption) (by decide) (by decide))))
      · exact ((hK.trans ((Keep.refl b [] W).set _ (.inl rfl))).trans ((Keep.refl b [] _).set _ (.inl rfl))).set _
    have hF := hfin w hH.2 hp (.of (Keep.refl b [] w))
    clear hfin hpl hl hPL
    go_enter Try.func49, Try.ntmps49
    go_wp2_with fail
    all_goals (first | (exfalso; simp only [beq_eq_false_iff_ne, ne_eq, beq_iff_eq] at *; omega) | (
      go_region
      all_goals (
        go_wp2_with fail
        go_end0
        exact ⟨rfl, hF.below (((Below.refl _ _).alloc (Nat.le_refl _) _).drew)⟩)))
  · have h0 : e ≠ 0 := fun h => q (.inl h)
    have hl : leastE (e, p) ee ⟨tk, tp, ts, tn⟩ = (e, p) := by
      unfold leastE
      rw [if_neg]
      rintro (h | h)
      · exact h0 h
      · exact q (.inr (by rw [hpl h0]; exact h))
    rw [hl]
    have q1 : ¬ tp < pl := fun h => q (.inr h)
    clear hpl hl
    go_enter Try.func49, Try.ntmps49
    go_wp2_with fail
    all_goals (first | (exfalso; simp only [beq_eq_false_iff_ne, ne_eq, beq_iff_eq] at *; omega) | (go_end0; exact ⟨rfl, ⟨⟨pl, blkN ((Below.refl _ _).alloc (Nat.le_refl _) _) hp, hPL.2⟩, hH.2.below ((Below.refl _ _).alloc (Nat.le_refl _) _), .of ((Keep.refl b [] w).alloc _)⟩⟩))
end

end Go.Proofs.Ytmnplnhblniimaa.Gr

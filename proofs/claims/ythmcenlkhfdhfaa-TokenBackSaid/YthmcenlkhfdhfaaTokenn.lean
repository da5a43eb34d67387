/- soughlaw02.TokenBack: it answers true. -/
import Derived.Test.YthmcenlkhfdhfaaTokenl
import Derived.Test.YthmcenlkhfdhfaaTokenm
namespace Go.Proofs.Ythmcenlkhfdhfaa.Tk
set_option linter.unusedVariables false
set_option linter.unusedSimpArgs false
open Go Go.RowKit

theorem wpList_append_own_w {P : Program} {w : World} {ops : Array Oper} {rest : List Oper} {o : Oper} {a : Act} {Q : Exit → Act → World → Prop} (hgd : Region.wanted o (yielded ops a.tmps) = true) (s x : Operand) (t : TypeId)
    (ho : o.op = .call { callee := .builtin .append, args := #[s, x], argTypes := #[t, t] })
    (base : Nat) (e : TypeId) (i : TypeInfo) (z : Value) (size bytes : Nat) (ht : P.underlying t = some (.slice e)) (hi : P.info? e = some i) (hz : i.zero = some z)
    (hsize : i.size = size) (hby : i.bytes = bytes) (hzs : z.cells.size = size) (hsz : 0 < size)
    (v : Value) (n : Nat) (xs : List Value) (hs : a.eval s = v) (hown : w.ownsRow base e size v n xs)
    (ad : Addr) (m c : Nat) (news : List Value) (hx : a.eval x = .slice (some ad) m c) (hl : news.length = m * size) (hnews : ∀ j u, news[j]? = some u → w.cell? (ad.add j) = some u) (h1 : ∀ u ∈ news, u.oneCell' = true)
    (h63 : n + m ≤ maxLen) (hbytes : (n + m) * bytes ≤ 140737488355328) (hbase : base ≤ w.heap.size)
    (h : ∀ v' w', w'.ownsRow base e size v' (n + m) (xs ++ news) → w.grownBy w' v.ownBlock → (v' = .slice none 0 0 ↔ v = .slice none 0 0 ∧ m = 0) → wpList P ops Q rest (a.put o.dst v') w') : wpList P ops Q (o :: rest) a w :=
  wpList_step fun K hK => by
    rw [hgd, if_pos rfl]
    exact wp_append_own w s x t ho base e i z size bytes ht hi hz hsize hby hzs hsz v n xs hs hown ad m c news hx hl hnews h1 h63 hbytes hbase fun v' w' h2 h3 h4 => hK _ _ (h v' w' h2 h3 h4)

theorem cell_alloc_at {w : World} {b j : Nat} {cs : Array Value} {t : TypeId} (hb : b = w.heap.size) : (w.alloc (.cells cs t)).cell? ⟨b, j, none⟩ = cs[j]? := by
  subst hb
  first | exact World.cell?_alloc_new _ _ _ _ | simp

set_option maxRecDepth 100000 in
set_option maxHeartbeats 1000000 in
theorem tokenBack_any (L : List Tok) (v : Value) (w : World) (hL : Sl w v Tok.cells L) : Calls Try.prog 6 #[v] w fun e w' => e = .returned (.bool true) ∧ Below w.heap.size w w' := by
  obtain ⟨i0, hi, hz0, hz1, hz2⟩ := info_parts tok_info
  obtain ⟨b, off, p, cap, rfl, hp, hc⟩ := hL.open (k := 4) (fun _ => rfl)
  by_cases h1 : 80 < L.length
  · have g1 : (80 : Int) < L.length := by omega
    go_enter Try.func6, Try.ntmps6
    go_wp2_with (first | (go_at_call 24; refine' Calls.aft _ _ (awake_any _) _; rotate_left 2; (first | (with_reducible exact After.below _; rfl) | (with_reducible exact below_drew (After.below _); rfl) | (with_reducible exact below_set (After.below _) _ _; (go_simp; rfl)) | (with_reducible exact below_set (below_set (After.below _) _ _) _ _; (go_simp; rfl)) | (with_reducible exact below_set (below_set (below_set (After.below _) _ _) _ _) _ _; (go_simp; rfl)) | (with_reducible exact below_set (below_set (below_set (below_set (After.below _) _ _) _ _) _ _) _ _; (go_simp; rfl)) | (exact Below.refl _ _; rfl)); intro x1; have hle := After.le x1; (try simp at hle)))
    go_ret
    refine ⟨rfl, ?_⟩
    (repeat (first | exact Below.refl _ _ | apply Below.drew | refine Below.alloc ?_ ?_ _ | refine Below.setCell ?_ ?_ _ | refine Below.trans ?_ (Below.mono (After.below _) ?_))); (all_goals (first | (simp; done) | (simp; omega) | omega))
  have g1 : ¬ (80 : Int) < L.length := by omega
  go_enter Try.func6, Try.ntmps6
  go_wp2_with (first | (go_at_call 24; refine' Calls.aft _ _ (awake_any _) _; rotate_left 2; (first | (with_reducible exact After.below _; rfl) | (with_reducible exact below_drew (After.below _); rfl) | (with_reducible exact below_set (After.below _) _ _; (go_simp; rfl)) | (with_reducible exact below_set (below_set (After.below _) _ _) _ _; (go_simp; rfl)) | (with_reducible exact below_set (below_set (below_set (After.below _) _ _) _ _) _ _; (go_simp; rfl)) | (with_reducible exact below_set (below_set (below_set (below_set (After.below _) _ _) _ _) _ _) _ _; (go_simp; rfl)) | (exact Below.refl _ _; rfl)); intro x1; have hle := After.le x1; (try simp at hle)))
  go_loopw [3, 4, 18] (fun v txt i wr => ∃ (k : Nat) (S : List Tok), k ≤ L.length ∧ i = .int .i64 k ∧ txt = .string (joined S) ∧ (∀ t ∈ S, stepAt t.s 0 = .tok { t with pos := 0 }) ∧ S.length ≤ k ∧ (joined S).size ≤ 61 * k ∧
      wr.ownsRow w.heap.size 50 4 v (placed S 0).length (cells (placed S 0)) ∧ Below w.heap.size w wr) (fun _ _ i _ => L.length - (intOf i).toNat)
  case atStart => exact ⟨0, [], Nat.zero_le _, rfl, rfl, fun t ht => by simp at ht, Nat.zero_le _, Nat.zero_le _, World.ownsRow_nil _ _ _ _, x1.below⟩
  case round =>
    obtain ⟨k, S, hk, rfl, rfl, hS, hSk, hSz, hown, hB⟩ := hrel
    by_cases hlt : k < L.length
    · have hpp := hp (by omega)
      subst hpp
      have cc := hc k hlt
      generalize L[k] = t at cc
      have c0 : wr.cell? ⟨b, off + k * 4, none⟩ = some (.int .i64 t.kind) := by
        have := cc 0 _ rfl
        have hb := World.block_lt_of_cell? _ _ this
        simpa using (hB.cell (p := ⟨b, off + (k * 4 + 0), none⟩) hb).trans this
      have cr : ∀ r u, t.cells[r]? = some u → wr.cell? ⟨b, off + k * 4 + r, none⟩ = some u := fun r u hu => by
        have := cc r u hu
        have hb := World.block_lt_of_cell? _ _ this
        rw [Nat.add_assoc]
        exact (hB.cell (p := ⟨b, off + (k * 4 + r), none⟩) hb).trans this
      have c1 := cr 1 _ rfl
      have c2 := cr 2 _ rfl
      have c3 := cr 3 _ rfl
      have hgw := World.block_lt_of_cell? _ _ c0
      clear hc cc cr
      by_cases hbig : 60 < t.s.size
      · have g2 : (60 : Int) < t.s.size := by omega
        go_wp2_with fail
        go_ret
        exact ⟨rfl, hB.alloc hB.size _⟩
      have g2 : ¬ (60 : Int) < t.s.size := by omega
      have hsh := show_any t.kind t.pos t.n t.s (by omega)
      cases hb : hasB t.kind t.n t.s
      · rw [showS, hb] at hsh
        go_wp2_with (first | (go_at_call 33; refine' Calls.aft _ _ (hsh _) _; rotate_left 2; (first | (with_reducible exact After.below _; rfl) | (with_reducible exact below_drew (After.below _); rfl) | (with_reducible exact below_set (After.below _) _ _; (go_simp; rfl)) | (with_reducible exact below_set (below_set (After.below _) _ _) _ _; (go_simp; rfl)) | (with_reducible exact below_set (below_set (below_set (After.below _) _ _) _ _) _ _; (go_simp; rfl)) | (with_reducible exact below_set (below_set (below_set (below_set (After.below _) _ _) _ _) _ _) _ _; (go_simp; rfl)) | (exact Below.refl _ _; rfl)); intro x2; have hle := After.le x2; (try simp at hle)))
        go_roundw
        case rel =>
          have hz := x2.le
          simp at hz
          exact ⟨k + 1, S, by omega, by simp, rfl, hS, by omega, by omega, own_below hown (Below.trans (Below.alloc (Below.refl _ _) (Nat.le_refl _) _) (Below.mono x2.below (by simp))), hB.trans (Below.trans (Below.alloc (Below.refl _ _) hB.size _) (Below.mono x2.below (by have := hB.size; simp; omega)))⟩
        case measure => simp [intOf]; omega
      · rw [showS, hb] at hsh
        have hst := has_step hb (by omega)
        go_wp2_with (first | (go_at_call 33; refine' Calls.aft _ _ (hsh _) _; rotate_left 2; (first | (with_reducible exact After.below _; rfl) | (with_reducible exact below_drew (After.below _); rfl) | (with_reducible exact below_set (After.below _) _ _; (go_simp; rfl)) | (with_reducible exact below_set (below_set (After.below _) _ _) _ _; (go_simp; rfl)) | (with_reducible exact below_set (below_set (below_set (After.below _) _ _) _ _) _ _; (go_simp; rfl)) | (with_reducible exact below_set (below_set (below_set (below_set (After.below _) _ _) _ _) _ _) _ _; (go_simp; rfl)) | (exact Below.refl _ _; rfl)); intro x2; have hle := After.le x2; (try simp at hle)) | (at_builtin; refine wpList_append_own _ rfl _ _ 38 rfl w.heap.size 50 i0 (.agg #[.int .i64 0, .int .i64 0, .string ⟨#[]⟩, .int .i64 0]) 4 40 Try.underlying38 hi hz0 hz1 hz2 rfl (by decide) _ (placed S 0).length (cells (placed S 0)) rfl (own_below hown ?b1) _ 1 1 [.int .i64 t.kind, .int .i64 (joined S).size, .string t.s, .int .i64 t.n] rfl rfl ?c11 ?c21 ?c31 ?c41 ?c51 ?_))
        case b1 => (have hz := x2.le; simp at hz; exact Below.alloc (Below.setCell (Below.trans (Below.alloc (Below.refl _ _) (Nat.le_refl _) _) (Below.mono x2.below (by simp))) (Nat.le_refl _) _) (by simp; omega) _)
        case c11 => exact tok_news (cell_alloc_at (by simp)) (cell_alloc_at (by simp)) (cell_alloc_at (by simp)) (cell_alloc_at (by simp))
        case c21 => intro u hu; simp at hu; rcases hu with rfl | rfl | rfl | rfl <;> rfl
        case c31 => have hp1 := placed_length S 0; unfold maxLen; omega
        case c41 => have hp1 := placed_length S 0; omega
        case c51 => have hz := x2.le; have := hB.size; simp at hz; simp; omega
        · intro v' w1 hown' hgrow _
          have hz := x2.le
          simp at hz
          have hw := hB.size
          have hlt1 := hown.lt
          have hown2 := own_snoc (out := placed S 0) (t := ⟨t.kind, (joined S).size, t.s, t.n⟩) hown' rfl rfl
          rw [show placed S 0 ++ [⟨t.kind, ((joined S).size : Int), t.s, t.n⟩] = placed (S ++ [t]) 0 by rw [placed_snoc]; simp] at hown2
          have hB2 : Below w.heap.size w w1 := by
            refine Below.grown (w := _) (Below.trans hB ?_) hgrow ?_ (fun q hq => (hlt1 q hq).1)
            · exact Below.alloc (Below.setCell (Below.trans (Below.alloc (Below.refl _ _) hw _) (Below.mono x2.below (by simp; omega))) hw _) (by simp; omega) _
            · simp; omega
          have hjs : (joined S ++ (t.s ++ bs [32])).size = (joined S).size + (t.s.size + 1) := by
            simp only [ByteArray.size_append]; rfl
          go_wp2_with fail
          refine ⟨⟨k + 1, S ++ [t], by omega, by simp, ?_, ?_, by simp; omega, ?_, hown2, hB2⟩, by simp [intOf]; omega⟩
          · rw [joined_snoc]; rfl
          · intro t' ht'
            rcases List.mem_append.1 ht' with h' | h'
            · exact hS t' h'
            · simp at h'; subst h'; exact hst
          · rw [joined_snoc, hjs]; omega
    · have hks : k = L.length := by omega
      have hof := ofText_joined S hS (by omega)
      have hx := of_any (joined S) (by omega)
      rw [hof] at hx
      simp only [] at hx
      go_wp2_with (first | (go_at_call 25; refine' Calls.aftS _ _ (hx _) _; rotate_left 2; (first | (with_reducible exact After.below _; rfl) | (with_reducible exact below_drew (After.below _); rfl) | (with_reducible exact below_set (After.below _) _ _; (go_simp; rfl)) | (with_reducible exact below_set (below_set (After.below _) _ _) _ _; (go_simp; rfl)) | (with_reducible exact below_set (below_set (below_set (After.below _) _ _) _ _) _ _; (go_simp; rfl)) | (with_reducible exact below_set (below_set (below_set (below_set (After.below _) _ _) _ _) _ _) _ _; (go_simp; rfl)) | (exact Below.refl _ _; rfl)); intro v' x2 ho; have hle := After.le x2; (try simp at hle)) | (at_builtin; refine wpList_append_own_w rfl _ _ 38 rfl w.heap.size 50 i0 (.agg #[.int .i64 0, .int .i64 0, .string ⟨#[]⟩, .int .i64 0]) 4 40 Try.underlying38 hi hz0 hz1 hz2 rfl (by decide) _ (placed S 0).length (cells (placed S 0)) rfl (own_below hown ?b2) _ 1 1 [.int .i64 0, .int .i64 (joined S).size, .string ⟨#[]⟩, .int .i64 0] rfl rfl ?c12 ?c22 ?c32 ?c42 ?c52 ?_))
      case b2 => have hz := x2.le; exact Below.alloc (Below.alloc x2.below (by omega) _) (by simp; omega) _
      case c12 => exact tok_news (cell_alloc_at (by simp)) (cell_alloc_at (by simp)) (cell_alloc_at (by simp)) (cell_alloc_at (by simp))
      case c22 => intro u hu; simp at hu; rcases hu with rfl | rfl | rfl | rfl <;> rfl
      case c32 => have hp1 := placed_length S 0; unfold maxLen; omega
      case c42 => have hp1 := placed_length S 0; omega
      case c52 => have hz := x2.le; have := hB.size; simp; omega
      · intro v2 w1 hown' hgrow _
        have hz := x2.le
        have hw := hB.size
        have hlt1 := hown.lt
        have hown2 := own_snoc (out := placed S 0) (t := ⟨0, (joined S).size, bs [], 0⟩) hown' rfl rfl
        have hB2 : Below w.heap.size w w1 := by
          refine Below.grown (w := _) (Below.trans hB ?_) hgrow ?_ (fun q hq => (hlt1 q hq).1)
          · exact Below.alloc (Below.alloc (Below.mono x2.below hw) (by omega) _) (by simp; omega) _
          · simp; omega
        have ho2 := ((ho.alloc (.cells #[.int .i64 0, .int .i64 0] 41)).alloc (.cells #[.int .i64 0, .int .i64 (joined S).size, .string ⟨#[]⟩, .int .i64 0] 50)).kept hgrow (by
          by_cases hv : v'.ownBlock = none
          · exact .inl hv
          · right
            intro he
            cases hq : v'.ownBlock with
            | none => exact hv hq
            | some q =>
              have a1 := (ho.lt q hq).1
              have a2 := (hlt1 q (by rw [← he, hq])).2
              omega)
        have hlen : (placed S 0 ++ [({ kind := 0, pos := ((joined S).size : Int), s := bs [], n := 0 } : Tok)]).length ≤ 100000 := by
          have hp1 := placed_length S 0
          simp only [List.length_append, List.length_cons, List.length_nil]; omega
        go_wp2_with (first | (go_at_call 27; refine' Calls.aft _ _ (same_any _ hlen _ _ _ _ _ ho2 hown2) _; rotate_left 2; (first | (with_reducible exact After.below _; rfl) | (with_reducible exact below_drew (After.below _); rfl) | (with_reducible exact below_set (After.below _) _ _; (go_simp; rfl)) | (with_reducible exact below_set (below_set (After.below _) _ _) _ _; (go_simp; rfl)) | (with_reducible exact below_set (below_set (below_set (After.below _) _ _) _ _) _ _; (go_simp; rfl)) | (with_reducible exact below_set (below_set (below_set (below_set (After.below _) _ _) _ _) _ _) _ _; (go_simp; rfl)) | (exact Below.refl _ _; rfl)); intro x3; have hle := After.le x3; (try simp at hle)))
        go_ret
        refine ⟨rfl, ?_⟩
        exact hB2.trans (Below.mono x3.below hB2.size)

end Go.Proofs.Ythmcenlkhfdhfaa.Tk

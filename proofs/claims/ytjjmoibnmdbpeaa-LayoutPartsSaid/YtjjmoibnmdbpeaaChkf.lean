/- WALKS of proper.Stmts, soughref04.Stmts, proper.names, slices.Contains, soughref04.has, soughref04.Texts. -/
import Derived.Test.YtjjmoibnmdbpeaaChk
import Derived.Test.YtjjmoibnmdbpeaaLit
import Derived.Test.YtjjmoibnmdbpeaaTabh
namespace Go.Proofs.Ytjjmoibnmdbpeaa.Pr
set_option linter.unusedVariables false
set_option linter.unusedSimpArgs false
open Go Go.RowKit

theorem stmtsOf_take {P : List Bl} {k : Nat} (hk : k < P.length) : stmtsOf (P.take (k + 1)) = stmtsOf (P.take k) + (P[k]'hk).l.length := by
  unfold stmtsOf
  rw [List.take_succ_eq_append_getElem hk, List.map_append, List.sum_append]
  simp
theorem stmtsOf_le {P : List Bl} (h : ∀ b ∈ P, b.l.length ≤ 12) : stmtsOf P ≤ 12 * P.length := by
  unfold stmtsOf
  induction P with
  | nil => simp
  | cons b P ih =>
    have h1 := h b (by simp)
    have h2 := ih (fun c hc => h c (by simp [hc]))
    simp only [List.map_cons, List.sum_cons, List.length_cons]
    omega

theorem stmt_each {P : List Bl} : ∀ b ∈ P, b.l.length ≤ stmtsOf P := by
  unfold stmtsOf
  induction P with
  | nil => intro b hb; cases hb
  | cons c P ih =>
    intro b hb
    simp only [List.map_cons, List.sum_cons]
    rcases List.mem_cons.1 hb with rfl | hb
    · omega
    · have := ih b hb; omega
theorem stmtsOf_takes (P : List Bl) (k : Nat) : stmtsOf (P.take k) ≤ stmtsOf P := by
  unfold stmtsOf
  induction P generalizing k with
  | nil => simp
  | cons c P ih =>
    cases k with
    | zero => simp
    | succ k => have := ih k; simp only [List.take_succ_cons, List.map_cons, List.sum_cons]; omega
theorem blVars_sum (P : List Bl) : ∀ k, k ≤ P.length → (blVars P k).length ≤ 3 * stmtsOf (P.take k) + k
  | 0, _ => by simp [blVars]
  | k + 1, hk => by
    have ih := blVars_sum P k (by omega)
    rw [stmtsOf_take (show k < P.length by omega)]
    simp only [blVars, List.getElem?_eq_getElem (show k < P.length by omega)]
    have h1 := stVars_len (P[k]'(by omega)).l (blVars P k) (P[k]'(by omega)).l.length
    have h2 := putS_len (stVars (P[k]'(by omega)).l (blVars P k) (P[k]'(by omega)).l.length) (P[k]'(by omega)).t.x.v
    omega
theorem blVars_few {P : List Bl} (h12 : P.length ≤ 128) (hs5 : stmtsOf P ≤ 512) : ∀ k, k ≤ P.length → (blVars P k).length ≤ 20000 := fun k hk => by
  have := blVars_sum P k hk
  have := stmtsOf_takes P k
  omega

set_option maxRecDepth 100000 in
theorem pstmts_wide (P : List Bl) (pv : Value) (w : World) (h : Pg w pv P) (h12 : P.length ≤ 128) (hs5 : stmtsOf P ≤ 512) :
    Calls Try.prog 40 #[.agg #[pv]] w fun e w' => e = .returned (.int .i64 (stmtsOf P)) ∧ Below w.heap.size w w' := by
  obtain ⟨b, off, p, cap, rfl, hp, hc⟩ := Pg.open h
  have hl12 : ∀ b ∈ P, b.l.length ≤ 512 := fun b hb => Nat.le_trans (stmt_each b hb) hs5
  have hsl : ∀ k, stmtsOf (P.take k) ≤ 512 := fun k => Nat.le_trans (stmtsOf_takes P k) hs5
  clear hs5
  go_enter Try.func40, Try.ntmps40
  go_wp2_with fail
  go_loopw [3, 9] (fun n i wr => ∃ k : Nat, k ≤ P.length ∧ i = .int .i64 k ∧ n = .int .i64 (stmtsOf (P.take k)) ∧ Below w.heap.size w wr) (fun _ i _ => P.length - (intOf i).toNat)
  case atStart => exact ⟨0, Nat.zero_le _, rfl, rfl, (Below.refl _ _).alloc (Nat.le_refl _) _⟩
  case round =>
    obtain ⟨k, hk, rfl, rfl, hB⟩ := hrel
    have hw := hB.size
    by_cases hlt : k < P.length
    · obtain rfl := hp (by omega)
      have hlt2 : (k : Int) < P.length := by omega
      have hcw : ∀ r u, ((P[k]'hlt).cs)[r]? = some u → w.cell? ⟨b, off + (k * 8 + r), none⟩ = some u := (hc k hlt).1
      obtain ⟨lb, loff, lp, lcap, hlv, _, _⟩ := (hc k hlt).2.open St.cs_len
      have hz : Hid (stmtsOf (P.take (k + 1)) = stmtsOf (P.take k) + (P[k]'hlt).l.length) := stmtsOf_take hlt
      have hs := hsl k
      have hbl := hl12 _ (List.getElem_mem hlt)
      clear hc hsl
      generalize P[k]'hlt = B at hcw hlv hz hbl
      generalize stmtsOf (P.take k) = n at hz hs ⊢
      have hcr : ∀ r u, B.cs[r]? = some u → wr.cell? ⟨b, off + k * 8 + r, none⟩ = some u := fun r u hu => by
        rw [Nat.add_assoc]
        exact (hB.cell (p := ⟨b, off + (k * 8 + r), none⟩) (World.block_lt_of_cell? _ _ (hcw r u hu))).trans (hcw r u hu)
      have c0 : wr.cell? ⟨b, off + k * 8, none⟩ = some (.string B.n) := hcr 0 _ rfl
      have hbw := World.block_lt_of_cell? _ _ c0
      have c1 := hcr 1 _ rfl
      have c2 := hcr 2 _ rfl
      have c3 := hcr 3 _ rfl
      have c4 := hcr 4 _ rfl
      have c5 := hcr 5 _ rfl
      have c6 := hcr 6 _ rfl
      have c7 := hcr 7 _ rfl
      clear hcr hcw
      rw [hlv] at c1
      go_wp2_with fail
      go_roundw
      case rel => exact ⟨k + 1, by omega, by simp, by rw [hz]; simp, hB.alloc hw _⟩
      case measure => simp [intOf]; omega
    · have hks : k = P.length := by omega
      subst hks
      have hlt2 : ¬ (P.length : Int) < P.length := by omega
      rw [List.take_length]
      clear hc
      go_wp2_with fail
      refine bodyPost_ret (v := .int .i64 (stmtsOf P)) (by simp only [results, Try.results40]; go_simp) rfl ⟨rfl, hB⟩

set_option maxRecDepth 100000 in
theorem rstmts_wide (P : List Bl) (pv : Value) (w : World) (h : Pg w pv P) (h12 : P.length ≤ 128) (hs5 : stmtsOf P ≤ 512) :
    Calls Try.prog 55 #[.agg #[pv]] w fun e w' => e = .returned (.int .i64 (stmtsOf P)) ∧ Below w.heap.size w w' := by
  obtain ⟨b, off, p, cap, rfl, hp, hc⟩ := Pg.open h
  have hl12 : ∀ b ∈ P, b.l.length ≤ 512 := fun b hb => Nat.le_trans (stmt_each b hb) hs5
  have hsl : ∀ k, stmtsOf (P.take k) ≤ 512 := fun k => Nat.le_trans (stmtsOf_takes P k) hs5
  clear hs5
  go_enter Try.func55, Try.ntmps55
  go_wp2_with fail
  go_loopw [3, 9] (fun n i wr => ∃ k : Nat, k ≤ P.length ∧ i = .int .i64 k ∧ n = .int .i64 (stmtsOf (P.take k)) ∧ Below w.heap.size w wr) (fun _ i _ => P.length - (intOf i).toNat)
  case atStart => exact ⟨0, Nat.zero_le _, rfl, rfl, (Below.refl _ _).alloc (Nat.le_refl _) _⟩
  case round =>
    obtain ⟨k, hk, rfl, rfl, hB⟩ := hrel
    have hw := hB.size
    by_cases hlt : k < P.length
    · obtain rfl := hp (by omega)
      have hlt2 : (k : Int) < P.length := by omega
      have hcw : ∀ r u, ((P[k]'hlt).cs)[r]? = some u → w.cell? ⟨b, off + (k * 8 + r), none⟩ = some u := (hc k hlt).1
      obtain ⟨lb, loff, lp, lcap, hlv, _, _⟩ := (hc k hlt).2.open St.cs_len
      have hz : Hid (stmtsOf (P.take (k + 1)) = stmtsOf (P.take k) + (P[k]'hlt).l.length) := stmtsOf_take hlt
      have hs := hsl k
      have hbl := hl12 _ (List.getElem_mem hlt)
      clear hc hsl
      generalize P[k]'hlt = B at hcw hlv hz hbl
      generalize stmtsOf (P.take k) = n at hz hs ⊢
      have hcr : ∀ r u, B.cs[r]? = some u → wr.cell? ⟨b, off + k * 8 + r, none⟩ = some u := fun r u hu => by
        rw [Nat.add_assoc]
        exact (hB.cell (p := ⟨b, off + (k * 8 + r), none⟩) (World.block_lt_of_cell? _ _ (hcw r u hu))).trans (hcw r u hu)
      have c0 : wr.cell? ⟨b, off + k * 8, none⟩ = some (.string B.n) := hcr 0 _ rfl
      have hbw := World.block_lt_of_cell? _ _ c0
      have c1 := hcr 1 _ rfl
      have c2 := hcr 2 _ rfl
      have c3 := hcr 3 _ rfl
      have c4 := hcr 4 _ rfl
      have c5 := hcr 5 _ rfl
      have c6 := hcr 6 _ rfl
      have c7 := hcr 7 _ rfl
      clear hcr hcw
      rw [hlv] at c1
      go_wp2_with fail
      go_roundw
      case rel => exact ⟨k + 1, by omega, by simp, by rw [hz]; simp, hB.alloc hw _⟩
      case measure => simp [intOf]; omega
    · have hks : k = P.length := by omega
      subst hks
      have hlt2 : ¬ (P.length : Int) < P.length := by omega
      rw [List.take_length]
      clear hc
      go_wp2_with fail
      refine bodyPost_ret (v := .int .i64 (stmtsOf P)) (by simp only [results, Try.results55]; go_simp) rfl ⟨rfl, hB⟩

set_option maxRecDepth 100000 in
theorem contains_any (L : List ByteArray) (x : ByteArray) (hl : L.length ≤ 1000000) (v : Value) (w : World) (h : Sl w v encS L) :
    Calls Try.prog 43 #[v, .string x] w fun e w' => e = .returned (.bool (decide (0 ≤ idx L x))) ∧ w = w' := by
  have hix := index_any L x hl v w h
  generalize idx L x = r at hix ⊢
  go_enter Try.func43, Try.ntmps43
  go_wp2_with ((go_at_call 84; refine Calls.same (hix) ?_))
  refine bodyPost_ret (v := .bool (decide (0 ≤ r))) (by simp only [results, Try.results43]; go_simp) rfl ⟨rfl, rfl⟩

def namesT (t : Te) : List ByteArray := if t.k = 1 then [t.t] else if t.k = 2 then [t.t, t.e] else []

set_option maxRecDepth 100000 in
theorem names_any (k : Int) (v : ByteArray) (a b : Int) (t e : ByteArray) (w : World) :
    Calls Try.prog 44 #[.agg #[.int .i64 k, .string v, .int .i64 a, .int .i64 b, .string t, .string e]] w fun r w' => ∃ o, r = .returned o ∧ Sl w' o encS (namesT ⟨k, ⟨v, a, b⟩, t, e⟩) ∧ Below w.heap.size w w' := by
  have one : ∀ W : World, Sl (W.alloc (.cells #[.string t] 9)) (.slice (some ⟨W.heap.size, 0, none⟩) 1 1) encS [t] := fun W => Sl.lit ([t] : List ByteArray) rfl rfl (heap_alloc_new W _)
  have two : ∀ W : World, Sl (W.alloc (.cells #[.string t, .string e] 9)) (.slice (some ⟨W.heap.size, 0, none⟩) 2 2) encS [t, e] := fun W => Sl.lit ([t, e] : List ByteArray) rfl rfl (heap_alloc_new W _)
  have Hd := And.intro one two
  clear one two
  by_cases h1 : k = 1
  · subst h1
    rw [show namesT ⟨1, ⟨v, a, b⟩, t, e⟩ = [t] from rfl]
    go_enter Try.func44, Try.ntmps44
    go_wp2_with fail
    refine bodyPost_ret (v := .slice (some ⟨w.heap.size + 1, 0, none⟩) 1 1) (by simp only [results, Try.results44]; go_simp) rfl ⟨_, rfl, ?_, ?_⟩
    · have := Hd.1 (w.alloc (.cells #[.int .i64 1, .string v, .int .i64 a, .int .i64 b, .string t, .string e] 89))
      simpa using this
    · exact ((Below.refl _ _).alloc (Nat.le_refl _) _).alloc (by simp) _
  by_cases h2 : k = 2
  · subst h2
    rw [show namesT ⟨2, ⟨v, a, b⟩, t, e⟩ = [t, e] from rfl]
    go_enter Try.func44, Try.ntmps44
    go_wp2_with fail
    refine bodyPost_ret (v := .slice (some ⟨w.heap.size + 1, 0, none⟩) 2 2) (by simp only [results, Try.results44]; go_simp) rfl ⟨_, rfl, ?_, ?_⟩
    · have := Hd.2 (w.alloc (.cells #[.int .i64 2, .string v, .int .i64 a, .int .i64 b, .string t, .string e] 89))
      simpa using this
    · exact ((Below.refl _ _).alloc (Nat.le_refl _) _).alloc (by simp) _
  · have g1 : (k == 1) = false := by simp [h1]
    have g2 : (k == 2) = false := by simp [h2]
    rw [show namesT ⟨k, ⟨v, a, b⟩, t, e⟩ = [] by unfold namesT; rw [if_neg h1, if_neg h2]]
    clear h1 h2
    go_enter Try.func44, Try.ntmps44
    go_wp2_with fail
    refine bodyPost_ret (v := .slice none 0 0) (by simp only [results, Try.results44]; go_simp) rfl ⟨_, rfl, Sl.nil, ?_⟩
    exact (Below.refl _ _).alloc (Nat.le_refl _) _

/-- A slice no longer than its room. -/
def CapOk (v : Value) : Prop := ∀ p n c, v = .slice p n c → n ≤ c

theorem hasN_take {P : List Bl} {n k : Nat} (hn : n ≤ P.length) (hk : k < n) (x : ByteArray) (h : (P[k]'(by omega)).n = x) : hasN P n x = true := by
  unfold hasN
  rw [List.any_eq_true]
  refine ⟨P[k]'(by omega), ?_, by simp [h]⟩
  exact List.mem_iff_getElem?.2 ⟨k, by rw [List.getElem?_take, if_pos hk]; exact List.getElem?_eq_getElem _⟩
theorem hasN_none {P : List Bl} {n : Nat} (hn : n ≤ P.length) (x : ByteArray) (h : ∀ j (hj : j < n), (P[j]'(by omega)).n ≠ x) : hasN P n x = false := by
  unfold hasN
  rw [List.any_eq_false]
  intro b hb
  obtain ⟨j, hj⟩ := List.mem_iff_getElem?.1 hb
  rw [List.getElem?_take] at hj
  split at hj
  · rename_i hjn
    rw [List.getElem?_eq_getElem (by omega)] at hj
    have := h j hjn
    cases hj
    simpa using this
  · cases hj

set_option maxRecDepth 100000 in
set_option maxHeartbeats 1000000 in
theorem has_any (P : List Bl) (n : Nat) (hn : n ≤ P.length) (h12 : P.length ≤ 128) (x : ByteArray) (pv : Value) (hcp : CapOk pv) (w : World) (h : Pg w pv P) :
    Calls Try.prog 60 #[.agg #[pv], .int .i64 n, .string x] w fun e w' => e = .returned (.bool (hasN P n x)) ∧ Below w.heap.size w w' := by
  obtain ⟨b, off, p, cap, rfl, hp, hc⟩ := Pg.open h
  have hcap := hcp _ _ _ rfl
  obtain ⟨R, hR⟩ : ∃ R, Hid (hasN P n x = R) := ⟨_, rfl⟩
  rw [hR]
  go_enter Try.func60, Try.ntmps60
  go_wp2_with fail
  go_loopw [14] (fun i wr => ∃ k : Nat, k ≤ n ∧ i = .int .i64 k ∧ (∀ j (hj : j < k) (hj2 : j < P.length), (P[j]'hj2).n ≠ x) ∧ Below w.heap.size w wr) (fun i _ => n - (intOf i).toNat)
  case atStart => exact ⟨0, Nat.zero_le _, rfl, fun j hj => by omega, (Below.refl _ _).alloc (Nat.le_refl _) _⟩
  case round =>
    obtain ⟨k, hk, rfl, hno, hB⟩ := hrel
    have hw := hB.size
    by_cases hkn : k < n
    · have hlt : k < P.length := by omega
      obtain rfl := hp (by omega)
      have hlt2 : (k : Int) < n := by omega
      have hcw : ∀ r u, ((P[k]'hlt).cs)[r]? = some u → w.cell? ⟨b, off + (k * 8 + r), none⟩ = some u := (hc k hlt).1
      obtain ⟨lb, loff, lp, lcap, hlv, _, _⟩ := (hc k hlt).2.open St.cs_len
      have hhit : (P[k]'hlt).n = x → R = true := fun h => by rw [← hR]; exact hasN_take hn hkn x h
      have hmiss : (P[k]'hlt).n ≠ x → ∀ j (hj : j < k + 1) (hj2 : j < P.length), (P[j]'hj2).n ≠ x := fun h j hj hj2 => by
        rcases Nat.lt_succ_iff_lt_or_eq.1 hj with hj | rfl
        · exact hno j hj hj2
        · exact h
      clear hc hno
      generalize P[k]'hlt = B at hcw hlv hhit hmiss
      have hcr : ∀ r u, B.cs[r]? = some u → wr.cell? ⟨b, off + k * 8 + r, none⟩ = some u := fun r u hu => by
        rw [Nat.add_assoc]
        exact (hB.cell (p := ⟨b, off + (k * 8 + r), none⟩) (World.block_lt_of_cell? _ _ (hcw r u hu))).trans (hcw r u hu)
      have c0 : wr.cell? ⟨b, off + k * 8, none⟩ = some (.string B.n) := hcr 0 _ rfl
      have hbw := World.block_lt_of_cell? _ _ c0
      have c1 := hcr 1 _ rfl
      have c2 := hcr 2 _ rfl
      have c3 := hcr 3 _ rfl
      have c4 := hcr 4 _ rfl
      have c5 := hcr 5 _ rfl
      have c6 := hcr 6 _ rfl
      have c7 := hcr 7 _ rfl
      clear hcr hcw
      rw [hlv] at c1
      have hm := And.intro hhit hmiss
      clear hhit hmiss
      by_cases hyx : B.n = x
      · have hRk := hm.1 hyx
        have f1 : (B.n.toList == x.toList) = true := by rw [hyx]; simp
        clear hm hyx
        subst hRk
        go_wp2_with fail
        go_ret
        exact ⟨rfl, hB.alloc hw _⟩
      · have f1 : (B.n.toList == x.toList) = false := by rw [beq_str]; exact decide_eq_false hyx
        have hm2 := And.intro True.intro (hm.2 hyx)
        clear hm hyx
        go_wp2_with fail
        go_roundw
        case rel => exact ⟨k + 1, by omega, by simp, hm2.2, hB.alloc hw _⟩
        case measure => simp [intOf]; omega
    · have hks : k = n := by omega
      subst hks
      have hlt2 : ¬ (k : Int) < k := by omega
      have hRk : R = false := by rw [← hR]; exact hasN_none hn x (fun j hj => hno j hj (by omega))
      subst hRk
      clear hc hno
      go_wp2_with fail
      go_ret
      exact ⟨rfl, hB⟩

theorem few_stmts {P : List Bl} (h12 : P.length ≤ 12) (hl12 : ∀ b ∈ P, b.l.length ≤ 12) : stmtsOf P ≤ 512 := by have := stmtsOf_le hl12; omega
theorem pstmts_any (P : List Bl) (pv : Value) (w : World) (h : Pg w pv P) (h12 : P.length ≤ 12) (hl12 : ∀ b ∈ P, b.l.length ≤ 12) :
    Calls Try.prog 40 #[.agg #[pv]] w fun e w' => e = .returned (.int .i64 (stmtsOf P)) ∧ Below w.heap.size w w' := pstmts_wide P pv w h (by omega) (few_stmts h12 hl12)

theorem rstmts_any (P : List Bl) (pv : Value) (w : World) (h : Pg w pv P) (h12 : P.length ≤ 12) (hl12 : ∀ b ∈ P, b.l.length ≤ 12) :
    Calls Try.prog 55 #[.agg #[pv]] w fun e w' => e = .returned (.int .i64 (stmtsOf P)) ∧ Below w.heap.size w w' := rstmts_wide P pv w h (by omega) (few_stmts h12 hl12)

end Go.Proofs.Ytjjmoibnmdbpeaa.Pr

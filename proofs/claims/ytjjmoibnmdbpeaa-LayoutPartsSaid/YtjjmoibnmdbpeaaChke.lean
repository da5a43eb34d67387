/- WALKS of proper.block, proper.Stmts, soughref04.Stmts, proper.names, slices.Contains, soughref04.has, soughref04.Texts. -/
import Derived.Test.YtjjmoibnmdbpeaaChkd
import Derived.Test.YtjjmoibnmdbpeaaTabh
namespace Go.Proofs.Ytjjmoibnmdbpeaa.Pr
set_option linter.unusedVariables false
set_option linter.unusedSimpArgs false
open Go Go.RowKit

set_option maxRecDepth 100000 in
theorem block1_any (k : Int) (v : ByteArray) (op : Int) (v1 : ByteArray) (a1 b1 : Int) (v2 : ByteArray) (a2 b2 : Int) (w : World) :
    Calls Try.prog 79 #[.agg #[.int .i64 k, .string v, .int .i64 op, .string v1, .int .i64 a1, .int .i64 b1, .string v2, .int .i64 a2, .int .i64 b2]] w fun e w' => e = .returned (.bool !(stmtB ⟨k, v, ⟨op, ⟨v1, a1, b1⟩, ⟨v2, a2, b2⟩⟩⟩)) ∧ Below w.heap.size w w' := by
  have hst := stmt_any k v op v1 a1 b1 v2 a2 b2
  generalize stmtB ⟨k, v, ⟨op, ⟨v1, a1, b1⟩, ⟨v2, a2, b2⟩⟩⟩ = z at hst
  cases z <;> simp only [Bool.not_false, Bool.not_true]
  all_goals (
    go_enter Try.func79, Try.ntmps79
    go_wp2_with ((go_at_call 80; refine' Calls.aft _ _ (hst _) _; rotate_left 2; (first | (with_reducible exact After.below _; rfl) | (with_reducible exact below_drew (After.below _); rfl) | (with_reducible exact below_set (After.below _) _ _; (go_simp; rfl)) | (with_reducible exact below_set (below_set (After.below _) _ _) _ _; (go_simp; rfl)) | (with_reducible exact below_set (below_set (below_set (After.below _) _ _) _ _) _ _; (go_simp; rfl)) | (with_reducible exact below_set (below_set (below_set (below_set (After.below _) _ _) _ _) _ _) _ _; (go_simp; rfl)) | (exact Below.refl _ _; rfl)); intro x1; have hle := After.le x1; (try simp at hle)))
    go_ret
    refine ⟨rfl, ?_⟩
    (repeat (first | exact Below.refl _ _ | apply Below.drew | refine Below.alloc ?_ ?_ _ | refine Below.setCell ?_ ?_ _ | refine Below.trans ?_ (Below.mono (After.below _) ?_))); (all_goals (first | (simp; done) | (simp; omega) | omega)))

set_option maxRecDepth 100000 in
set_option maxHeartbeats 1000000 in
theorem indexf_any (L : List St) (hl : L.length ≤ 1000) (v : Value) (w : World) (h : Sl w v St.cs L) :
    Calls Try.prog 119 #[v, .func (.func 79) #[] #[]] w fun e w' => ∃ i : Int, e = .returned (.int .i64 i) ∧ decide (0 ≤ i) = (!(L.all stmtB)) ∧ Below w.heap.size w w' := by
  obtain ⟨b, off, p, cap, rfl, hp, hc⟩ := h.open St.cs_len
  obtain ⟨R, hR⟩ : ∃ R, Hid (L.all stmtB = R) := ⟨_, rfl⟩
  rw [hR]
  go_enter Try.func119, Try.ntmps119
  go_wp2_with fail
  go_loopw [8] (fun i wr => ∃ k : Nat, k ≤ L.length ∧ i = .int .i64 k ∧ (L.take k).all stmtB = true ∧ Below w.heap.size w wr) (fun i _ => L.length - (intOf i).toNat)
  case atStart => exact ⟨0, Nat.zero_le _, rfl, by simp, Below.refl _ _⟩
  case round =>
    obtain ⟨k, hk, rfl, hall, hB⟩ := hrel
    have hw := hB.size
    by_cases hlt : k < L.length
    · obtain rfl := hp (by omega)
      have hlt2 : (k : Int) < L.length := by omega
      have hbad : stmtB (L[k]'hlt) = false → R = false := fun h => by rw [← hR]; exact all_bad hlt h
      have hnext : stmtB (L[k]'hlt) = true → (L.take (k + 1)).all stmtB = true := fun h => all_next hlt hall h
      have hcr : ∀ r u, ((L[k]'hlt).cs)[r]? = some u → wr.cell? ⟨b, off + k * 9 + r, none⟩ = some u := fun r u hu => by
        rw [Nat.add_assoc]
        exact (hB.cell (p := ⟨b, off + (k * 9 + r), none⟩) (World.block_lt_of_cell? _ _ (hc k hlt r u hu))).trans (hc k hlt r u hu)
      clear hc hall
      generalize L[k]'hlt = s at hcr hbad hnext
      have e0 : wr.cell? ⟨b, off + k * 9, none⟩ = some (.int .i64 s.k) := hcr 0 _ rfl
      have hg := World.block_lt_of_cell? _ _ e0
      have e1 := hcr 1 _ rfl
      have e2 := hcr 2 _ rfl
      have e3 := hcr 3 _ rfl
      have e4 := hcr 4 _ rfl
      have e5 := hcr 5 _ rfl
      have e6 := hcr 6 _ rfl
      have e7 := hcr 7 _ rfl
      have e8 := hcr 8 _ rfl
      clear hcr
      have hra := block1_any s.k s.v s.e.op s.e.x.v s.e.x.a s.e.x.b s.e.y.v s.e.y.a s.e.y.b
      rw [show (⟨s.k, s.v, ⟨s.e.op, ⟨s.e.x.v, s.e.x.a, s.e.x.b⟩, ⟨s.e.y.v, s.e.y.a, s.e.y.b⟩⟩⟩ : St) = s from rfl] at hra
      cases hn : stmtB s
      · rw [hn] at hra
        have hf := hbad hn
        subst hf
        clear hbad hnext hn
        go_wp2_with ((go_at_call 79; refine' Calls.aft _ _ (hra _) _; rotate_left 2; (first | (with_reducible exact After.below _; rfl) | (with_reducible exact below_drew (After.below _); rfl) | (with_reducible exact below_set (After.below _) _ _; (go_simp; rfl)) | (with_reducible exact below_set (below_set (After.below _) _ _) _ _; (go_simp; rfl)) | (with_reducible exact below_set (below_set (below_set (After.below _) _ _) _ _) _ _; (go_simp; rfl)) | (with_reducible exact below_set (below_set (below_set (below_set (After.below _) _ _) _ _) _ _) _ _; (go_simp; rfl)) | (exact Below.refl _ _; rfl)); intro x1; have hle := After.le x1; (try simp at hle)))
        refine bodyPost_ret (v := .int .i64 k) (by simp only [results, Try.results119]; go_simp) rfl ⟨_, rfl, by simp, hB.trans (x1.below.mono hw)⟩
      · rw [hn] at hra
        have hx := And.intro True.intro (hnext hn)
        clear hbad hnext hn
        go_wp2_with ((go_at_call 79; refine' Calls.aft _ _ (hra _) _; rotate_left 2; (first | (with_reducible exact After.below _; rfl) | (with_reducible exact below_drew (After.below _); rfl) | (with_reducible exact below_set (After.below _) _ _; (go_simp; rfl)) | (with_reducible exact below_set (below_set (After.below _) _ _) _ _; (go_simp; rfl)) | (with_reducible exact below_set (below_set (below_set (After.below _) _ _) _ _) _ _; (go_simp; rfl)) | (with_reducible exact below_set (below_set (below_set (below_set (After.below _) _ _) _ _) _ _) _ _; (go_simp; rfl)) | (exact Below.refl _ _; rfl)); intro x1; have hle := After.le x1; (try simp at hle)))
        go_roundw
        case rel => exact ⟨k + 1, by omega, by simp, hx.2, hB.trans (x1.below.mono hw)⟩
        case measure => simp [intOf]; omega
    · have hks : k = L.length := by omega
      subst hks
      have hlt2 : ¬ (L.length : Int) < L.length := by omega
      have hRt : R = true := by rw [← hR]; rw [List.take_length] at hall; exact hall
      subst hRt
      clear hc
      go_wp2_with fail
      refine bodyPost_ret (v := .int .i64 (-1)) (by simp only [results, Try.results119]; go_simp) rfl ⟨_, rfl, by decide, hB⟩

set_option maxRecDepth 100000 in
theorem containsf_any (L : List St) (hl : L.length ≤ 1000) (v : Value) (w : World) (h : Sl w v St.cs L) :
    Calls Try.prog 78 #[v, .func (.func 79) #[] #[]] w fun e w' => e = .returned (.bool !(L.all stmtB)) ∧ Below w.heap.size w w' := by
  have hix := indexf_any L hl v w h
  generalize L.all stmtB = z at hix ⊢
  go_enter Try.func78, Try.ntmps78
  go_wp2_with ((go_at_call 119; refine' Calls.aftS _ _ (hix) _; rotate_left 2; (first | (with_reducible exact After.below _; rfl) | (with_reducible exact below_drew (After.below _); rfl) | (with_reducible exact below_set (After.below _) _ _; (go_simp; rfl)) | (with_reducible exact below_set (below_set (After.below _) _ _) _ _; (go_simp; rfl)) | (with_reducible exact below_set (below_set (below_set (After.below _) _ _) _ _) _ _; (go_simp; rfl)) | (with_reducible exact below_set (below_set (below_set (below_set (After.below _) _ _) _ _) _ _) _ _; (go_simp; rfl)) | (exact Below.refl _ _; rfl)); intro i x1 hi; have hle := After.le x1; (try simp at hle)))
  refine bodyPost_ret (v := .bool !z) (by simp only [results, Try.results78]; go_simp) rfl ⟨rfl, x1.below⟩

set_option maxRecDepth 100000 in
theorem pblock_any (B : Bl) (hl : B.l.length ≤ 1000) (lp : Option Addr) (lcap : Nat) (w : World) (h : Sl w (.slice lp B.l.length lcap) St.cs B.l) :
    Calls Try.prog 41 #[.agg #[.string B.n, .slice lp B.l.length lcap, .int .i64 B.t.k, .string B.t.x.v, .int .i64 B.t.x.a, .int .i64 B.t.x.b, .string B.t.t, .string B.t.e]] w fun e w' => e = .returned (.bool (blockB B)) ∧ Below w.heap.size w w' := by
  have hnm := Tk.name_any B.n
  have htm := term_any B.t.k B.t.x.v B.t.x.a B.t.x.b B.t.t B.t.e
  rw [show (⟨B.t.k, ⟨B.t.x.v, B.t.x.a, B.t.x.b⟩, B.t.t, B.t.e⟩ : Te) = B.t from rfl] at htm
  have hcf := fun W (hB : Below w.heap.size w W) => containsf_any B.l hl _ W (h.below hB)
  have hb0 : Below w.heap.size w (w.alloc (.cells #[.string B.n, .slice lp B.l.length lcap, .int .i64 B.t.k, .string B.t.x.v, .int .i64 B.t.x.a, .int .i64 B.t.x.b, .string B.t.t, .string B.t.e] 91)) := (Below.refl _ _).alloc (Nat.le_refl _) _
  rw [show blockB B = (Tk.nameB B.n && (termB B.t && B.l.all stmtB)) by unfold blockB; rw [Bool.and_assoc]]
  generalize Tk.nameB B.n = n at hnm
  generalize termB B.t = t at htm
  generalize B.l.all stmtB = s at hcf
  cases n <;> cases t <;> cases s <;> simp only [Bool.and_true, Bool.and_false, Bool.false_and, Bool.true_and]
  all_goals (
    go_enter Try.func41, Try.ntmps41
    go_wp2_with (first | (go_at_call 76; refine Calls.same (hnm _) ?_) | (go_at_call 77; refine' Calls.aft _ _ (htm _) _; rotate_left 2; (first | (with_reducible exact After.below _; rfl) | (with_reducible exact below_drew (After.below _); rfl) | (with_reducible exact below_set (After.below _) _ _; (go_simp; rfl)) | (with_reducible exact below_set (below_set (After.below _) _ _) _ _; (go_simp; rfl)) | (with_reducible exact below_set (below_set (below_set (After.below _) _ _) _ _) _ _; (go_simp; rfl)) | (with_reducible exact below_set (below_set (below_set (below_set (After.below _) _ _) _ _) _ _) _ _; (go_simp; rfl)) | (exact Below.refl _ _; rfl)); intro x1; have hle := After.le x1; (try simp at hle)) | (go_at_call 78; refine' Calls.aft _ _ (hcf _ (hb0.trans (x1.below.mono (by simp)))) _; rotate_left 2; (first | (with_reducible exact After.below _; rfl) | (with_reducible exact below_drew (After.below _); rfl) | (with_reducible exact below_set (After.below _) _ _; (go_simp; rfl)) | (with_reducible exact below_set (below_set (After.below _) _ _) _ _; (go_simp; rfl)) | (with_reducible exact below_set (below_set (below_set (After.below _) _ _) _ _) _ _; (go_simp; rfl)) | (with_reducible exact below_set (below_set (below_set (below_set (After.below _) _ _) _ _) _ _) _ _; (go_simp; rfl)) | (exact Below.refl _ _; rfl)); intro x2; have hle := After.le x2; (try simp at hle)))
    go_ret
    refine ⟨rfl, ?_⟩
    (repeat (first | exact Below.refl _ _ | apply Below.drew | refine Below.alloc ?_ ?_ _ | refine Below.setCell ?_ ?_ _ | refine Below.trans ?_ (Below.mono (After.below _) ?_))); (all_goals (first | (simp; done) | (simp; omega) | omega)))

end Go.Proofs.Ytjjmoibnmdbpeaa.Pr

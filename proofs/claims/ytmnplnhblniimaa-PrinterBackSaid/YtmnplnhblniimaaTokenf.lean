/- soughref02.Of: the tokens of a text. -/
import Derived.Test.YtmnplnhblniimaaTokene
namespace Go.Proofs.Ytmnplnhblniimaa.Tk
set_option linter.unusedVariables false
set_option linter.unusedSimpArgs false
open Go Go.RowKit

theorem tok_info : (Try.prog.info? 39).map (fun i => (i.zero, i.size, i.bytes)) = some (some (.agg #[.int .i64 0, .int .i64 0, .string ⟨#[]⟩, .int .i64 0]), 4, 40) := by kernel_rfl

theorem rof_long (s : ByteArray) (h : 16384 < s.size) (w : World) :
    Calls Try.prog 25 #[.string s] w fun e w' => e = .returned (.tuple #[.slice none 0 0, .int .i64 6, .int .i64 0]) ∧ w = w' := by
  have h' : (16384 : Int) < s.size := by omega
  go_enter Try.func25, Try.ntmps25
  go_wp2_with fail
  refine bodyPost_ret (v := .tuple #[.slice none 0 0, .int .i64 6, .int .i64 0]) (by simp only [results, Try.results25]; go_simp) rfl ⟨rfl, ?_⟩
  rfl

theorem tok_news {w : World} {g : Nat} {a b n : Int} {s : ByteArray} (h0 : w.cell? ⟨g, 0, none⟩ = some (.int .i64 a)) (h1 : w.cell? ⟨g, 1, none⟩ = some (.int .i64 b)) (h2 : w.cell? ⟨g, 2, none⟩ = some (.string s)) (h3 : w.cell? ⟨g, 3, none⟩ = some (.int .i64 n)) :
    ∀ j u, [Value.int .i64 a, .int .i64 b, .string s, .int .i64 n][j]? = some u → w.cell? ((⟨g, 0, none⟩ : Addr).add j) = some u := by
  have ha : ∀ j, (⟨g, 0, none⟩ : Addr).add j = ⟨g, j, none⟩ := fun j => by unfold Addr.add; split <;> simp_all
  intro j u hj
  rw [ha]
  match j, hj with
  | 0, hj => simp at hj; subst hj; exact h0
  | 1, hj => simp at hj; subst hj; exact h1
  | 2, hj => simp at hj; subst hj; exact h2
  | 3, hj => simp at hj; subst hj; exact h3
  | j + 4, hj => simp at hj

/-- What stands behind the last token. -/
theorem own_snoc {w : World} {base : Nat} {v : Value} {out : List Tok} {t : Tok} {n : Nat} {xs : List Value} (h : w.ownsRow base 39 4 v n xs) (hn : n = out.length + 1) (hx : xs = cells out ++ t.cells) : w.ownsRow base 39 4 v (out ++ [t]).length (cells (out ++ [t])) := by
  subst hn hx
  rw [cells_snoc]
  simpa using h

set_option maxRecDepth 100000 in
set_option maxHeartbeats 1000000 in
theorem rof_any (s : ByteArray) (h : s.size ≤ 16384) (w : World) :
    Calls Try.prog 25 #[.string s] w fun e w' => ∃ v, e = .returned (.tuple #[v, .int .i64 (ofText s).e, .int .i64 (ofText s).pos]) ∧
      w'.ownsRow w.heap.size 39 4 v (ofText s).l.length (cells (ofText s).l) ∧ Below w.heap.size w w' := by
  obtain ⟨i0, hi, hz0, hz1, hz2⟩ := info_parts tok_info
  have h' : ¬ (16384 : Int) < s.size := by omega
  have hR : ofText s = scan s (s.size + 1) 0 [] := by rw [ofText, if_neg (by omega)]
  rw [hR]
  generalize scan s (s.size + 1) 0 [] = R at hR ⊢
  go_enter Try.func25, Try.ntmps25
  go_wp2_with fail
  go_loopw [5, 6] (fun v i wr => ∃ (k n : Nat) (out : List Tok), k ≤ s.size ∧ i = .int .i64 k ∧ s.size < n + k ∧ scan s n k out = R ∧ out.length ≤ k ∧
      wr.ownsRow w.heap.size 39 4 v out.length (cells out) ∧ Below w.heap.size w wr) (fun _ i _ => s.size - (intOf i).toNat)
  case atStart => exact ⟨0, s.size + 1, [], Nat.zero_le _, rfl, by omega, by rw [← hR, ofText, if_neg (by omega)], Nat.zero_le _, World.ownsRow_nil _ _ _ _, Below.refl _ _⟩
  case round =>
    obtain ⟨k, n, out, hk, rfl, hn, hs, hol, hown, hB⟩ := hrel
    obtain ⟨n, rfl⟩ : ∃ m, n = m + 1 := ⟨n - 1, by omega⟩
    have hb := byt_nonneg s k
    have hb2 := byt_le s k
    have hwr := hB.size
    by_cases hlt : k < s.size
    · cases b1 : blankB (byt s k)
      · by_cases b2 : byt s k = 35
        · have hst : stepAt s k = .skip (runTo (fun c => !decide (c = 10)) s k) := by
            rw [stepAt, if_pos hlt]
            simp only [b1, if_pos b2]
            rfl
          rw [scan, hst] at hs
          simp only [] at hs
          have hsk := stepAt_skip hst
          go_wp2_with ((go_at_call 51; refine Calls.same (rblank_any _ _) ?_))
          go_loop [6] (fun i => ∃ (j : Nat), j ≤ s.size ∧ i = .int .i64 j ∧ runTo (fun c => !decide (c = 10)) s j = runTo (fun c => !decide (c = 10)) s k) (fun i => s.size - (intOf i).toNat)
          case atStart => exact ⟨k, hk, rfl, rfl⟩
          case round =>
            obtain ⟨j, hj, rfl, hjr⟩ := hrel
            have hc := byt_nonneg s j
            have hc2 := byt_le s j
            go_wp2_with fail
            · have hj1 : j < s.size := by assumption
              have hd : (byt s j != 10) = true := by assumption
              exact ⟨⟨j + 1, by omega, by simp, by rw [← hjr, runTo_go hj1 (by simpa using hd)]⟩, by simp [intOf]; omega⟩
            · have hj1 : j < s.size := by assumption
              have hd : (byt s j != 10) = false := by assumption
              rw [runTo_stop (fun _ => by simpa using hd)] at hjr
              rw [← hjr] at hs hsk
              exact ⟨⟨j, n, out, by omega, rfl, by omega, hs, by omega, hown, hB⟩, by simp [intOf]; omega⟩
            · have hj1 : ¬ j < s.size := by assumption
              rw [runTo_stop (fun h => absurd h hj1)] at hjr
              rw [← hjr] at hs hsk
              exact ⟨⟨j, n, out, by omega, rfl, by omega, hs, by omega, hown, hB⟩, by simp [intOf]; omega⟩
        · rcases one_cases hlt b1 b2 with ⟨e, hst, hE, he⟩ | ⟨t, hst, hE, hT⟩
          · rw [scan, hst] at hs
            simp only [] at hs
            have h1 := one_any s k hlt h b1 b2
            rw [hE] at h1
            go_wp2_with (first | (go_at_call 51; refine Calls.same (rblank_any _ _) ?_) | (go_at_call 52; refine' Calls.aft _ _ (h1 _) _; rotate_left 2; (first | (with_reducible exact After.below _; rfl) | (with_reducible exact below_drew (After.below _); rfl) | (with_reducible exact below_set (After.below _) _ _; (go_simp; rfl)) | (with_reducible exact below_set (below_set (After.below _) _ _) _ _; (go_simp; rfl)) | (with_reducible exact below_set (below_set (below_set (After.below _) _ _) _ _) _ _; (go_simp; rfl)) | (with_reducible exact below_set (below_set (below_set (below_set (After.below _) _ _) _ _) _ _) _ _; (go_simp; rfl)) | (exact Below.refl _ _; rfl)); intro x1; have hle := After.le x1; (try simp at hle)))
            rw [← hs]
            refine bodyPost_ret (v := .tuple #[.slice none 0 0, .int .i64 e, .int .i64 k]) (by simp only [results, Try.results25]; go_simp) rfl ⟨_, rfl, World.ownsRow_nil _ _ _ _, ?_⟩
            have hz := x1.le
            have hq := Below.mono (After.below x1) hwr
            refine Below.trans (hB.trans hq) ?_
            (repeat (first | exact Below.refl _ _ | apply Below.drew | refine Below.alloc ?_ ?_ _ | refine Below.setCell ?_ ?_ _ | refine Below.trans ?_ (Below.mono (After.below _) ?_))); (all_goals (first | (simp; done) | (simp; omega) | omega))
          · rw [scan, hst] at hs
            simp only [] at hs
            have h1 := one_any s k hlt h b1 b2
            have htk := stepAt_tok hst
            rw [hE, hT] at h1
            go_wp2_with (first | (go_at_call 51; refine Calls.same (rblank_any _ _) ?_) | (go_at_call 52; refine' Calls.aft _ _ (h1 _) _; rotate_left 2; (first | (with_reducible exact After.below _; rfl) | (with_reducible exact below_drew (After.below _); rfl) | (with_reducible exact below_set (After.below _) _ _; (go_simp; rfl)) | (with_reducible exact below_set (below_set (After.below _) _ _) _ _; (go_simp; rfl)) | (with_reducible exact below_set (below_set (below_set (After.below _) _ _) _ _) _ _; (go_simp; rfl)) | (with_reducible exact below_set (below_set (below_set (below_set (After.below _) _ _) _ _) _ _) _ _; (go_simp; rfl)) | (exact Below.refl _ _; rfl)); intro x1; have hle := After.le x1; (try simp at hle)) | (at_builtin; refine wpList_append_own _ rfl _ _ 36 rfl w.heap.size 39 i0 (.agg #[.int .i64 0, .int .i64 0, .string ⟨#[]⟩, .int .i64 0]) 4 40 Try.underlying36 hi hz0 hz1 hz2 rfl (by decide) _ out.length (cells out) rfl (own_below hown ?b1) _ 1 1 [.int .i64 t.kind, .int .i64 k, .string t.s, .int .i64 t.n] rfl rfl ?c11 ?c21 ?c31 ?c41 ?c51 ?_))
            case b1 => (have hz := x1.le; refine Below.trans (After.below x1) ?_; (repeat (first | exact Below.refl _ _ | apply Below.drew | refine Below.alloc ?_ ?_ _ | refine Below.setCell ?_ ?_ _ | refine Below.trans ?_ (Below.mono (After.below _) ?_))); (all_goals (first | (simp; done) | (simp; omega) | omega)))
            case c11 => exact tok_news (by simp) (by simp) (by simp) (by simp)
            case c21 => intro u hu; simp at hu; rcases hu with rfl | rfl | rfl | rfl <;> rfl
            case c31 => unfold maxLen; omega
            case c41 => omega
            case c51 => have hz := x1.le; simp; omega
            · intro v' w1 hown' hgrow _
              have hz := x1.le
              have hlt1 := hown.lt
              have c2 : w1.cell? ⟨x1.val.heap.size, 2, none⟩ = some (.string t.s) := hgrow.cell (by simp) (by
                intro hq
                have := (hlt1 _ hq.symm).2
                simp at this; omega)
              have hown2 := own_snoc (out := out) (t := t) hown' rfl (by simp [Tok.cells, htk.2.2])
              have hB2 : Below w.heap.size w w1 := by
                refine Below.grown (w := _) (Below.trans (hB.trans (Below.mono (After.below x1) hwr)) ?_) hgrow ?_ (fun q hq => (hlt1 q hq).1)
                · (repeat (first | exact Below.refl _ _ | apply Below.drew | refine Below.alloc ?_ ?_ _ | refine Below.setCell ?_ ?_ _ | refine Below.trans ?_ (Below.mono (After.below _) ?_))); (all_goals (first | (simp; done) | (simp; omega) | omega))
                · simp; omega
              go_wp2_with fail
              go_roundw
              case rel => exact ⟨k + t.s.size, n, out ++ [t], by omega, by simp, by omega, hs, by simp; omega, hown2, hB2⟩
              case measure => simp [intOf]; omega
      · have hst : stepAt s k = .skip (k + 1) := by simp [stepAt, hlt, b1]
        rw [scan, hst] at hs
        simp only [] at hs
        go_wp2_with ((go_at_call 51; refine Calls.same (rblank_any _ _) ?_))
        go_roundw
        case rel => exact ⟨k + 1, n, out, by omega, by simp, by omega, hs, by omega, hown, hB⟩
        case measure => simp [intOf]; omega
    · have hst : stepAt s k = .stop := by simp [stepAt, hlt]
      have hks : k = s.size := by omega
      rw [scan, hst] at hs
      simp only [] at hs
      go_wp2_with ((at_builtin; refine wpList_append_own _ rfl _ _ 36 rfl w.heap.size 39 i0 (.agg #[.int .i64 0, .int .i64 0, .string ⟨#[]⟩, .int .i64 0]) 4 40 Try.underlying36 hi hz0 hz1 hz2 rfl (by decide) _ out.length (cells out) rfl (own_below hown ?b2) _ 1 1 [.int .i64 0, .int .i64 s.size, .string ⟨#[]⟩, .int .i64 0] rfl rfl ?c12 ?c22 ?c32 ?c42 ?c52 ?_))
      case b2 => ((repeat (first | exact Below.refl _ _ | apply Below.drew | refine Below.alloc ?_ ?_ _ | refine Below.setCell ?_ ?_ _ | refine Below.trans ?_ (Below.mono (After.below _) ?_))); (all_goals (first | (simp; done) | (simp; omega) | omega)))
      case c12 => exact tok_news (by simp) (by simp) (by simp) (by simp)
      case c22 => intro u hu; simp at hu; rcases hu with rfl | rfl | rfl | rfl <;> rfl
      case c32 => unfold maxLen; omega
      case c42 => omega
      case c52 => have := hB.size; simp; omega
      · intro v' w1 hown' hgrow _
        have hlt1 := hown.lt
        have hown2 := own_snoc (out := out) (t := ⟨0, s.size, ⟨#[]⟩, 0⟩) hown' rfl rfl
        have hB2 : Below w.heap.size w w1 := by
          refine Below.grown (w := _) (Below.trans hB ?_) hgrow ?_ (fun q hq => (hlt1 q hq).1)
          · (repeat (first | exact Below.refl _ _ | apply Below.drew | refine Below.alloc ?_ ?_ _ | refine Below.setCell ?_ ?_ _ | refine Below.trans ?_ (Below.mono (After.below _) ?_))); (all_goals (first | (simp; done) | (simp; omega) | omega))
          · simp; omega
        go_wp2_with fail
        rw [← hs]
        refine bodyPost_ret (v := .tuple #[v', .int .i64 0, .int .i64 0]) (by simp only [results, Try.results25]; go_simp) rfl ⟨_, rfl, ?_, hB2⟩
        rw [hks]
        exact hown2

end Go.Proofs.Ytmnplnhblniimaa.Tk

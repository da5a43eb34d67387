/- soughlaw02.awake; token.Show; TokenOf, TokenShows. -/
import Derived.Test.YthmcenlkhfdhfaaTokeng
import Derived.Test.YthmcenlkhfdhfaaTokenh
import Derived.Test.YthmcenlkhfdhfaaToki
import Derived.Test.YthmcenlkhfdhfaaTokenk
import Derived.Test.YthmcenlkhfdhfaaSl
namespace Go.Proofs.Ythmcenlkhfdhfaa.Tk
set_option linter.unusedVariables false
set_option linter.unusedSimpArgs false
open Go Go.RowKit

theorem Calls.aftS {α : Type} {g : α → Value} {S : α → World → Prop} {P : Program} {f : FuncId} {args : Array Value} {W W' w : World} {R : Ending → World → Prop} (hw : Below W.heap.size W w) (hW : W = W')
    (h : Calls P f args w fun e w' => ∃ v, e = .returned (g v) ∧ S v w' ∧ Below w.heap.size w w') (hr : ∀ (v : α) (x : After W'), S v x.val → R (.returned (g v)) x.val) : Calls P f args w R := by
  subst hW
  exact h.mono fun e w' ⟨v, he, hs, hb⟩ => by subst he; exact hr v ⟨w', hw.trans (hb.mono hw.size)⟩ hs

theorem row_some {w : World} {base : Nat} {v : Value} {l : List Tok} (h : w.ownsRow base 50 4 v l.length (cells l)) (h0 : 0 < l.length) : ∃ g cap, v = .slice (some ⟨g, 0, none⟩) l.length cap := by
  rcases row_shape h with ⟨_, rfl⟩ | h
  · simp at h0
  · exact h

theorem row_len {w : World} {base : Nat} {v : Value} {l : List Tok} (h : w.ownsRow base 50 4 v l.length (cells l)) : ∃ p cap, v = .slice p l.length cap := by
  rcases row_shape h with ⟨rfl, rfl⟩ | ⟨g, cap, rfl⟩
  · exact ⟨_, _, rfl⟩
  · exact ⟨_, _, rfl⟩

theorem nameB_x : nameB ⟨#[120]⟩ = true := by
  have h : runTo alnumB ⟨#[120]⟩ 0 = 1 := by rw [runTo_go (by decide) (by decide), runTo_stop (fun h => absurd h (by decide))]
  rw [nameB, h]; decide +kernel
theorem wordB_goto : wordB ⟨#[103, 111, 116, 111]⟩ = true := by decide +kernel

theorem awake_any (w : World) : Calls Try.prog 24 #[] w fun e w' => e = .returned (.bool true) ∧ Below w.heap.size w w' := by
  have h1 := of_any x1 (by decide)
  rw [ofText_x1] at h1
  have h2 := name_any ⟨#[120]⟩
  rw [nameB_x] at h2
  have h3 := word_any ⟨#[103, 111, 116, 111]⟩
  rw [wordB_goto] at h3
  go_enter Try.func24, Try.ntmps24
  go_wp2_with (first | ((go_at_call 25; refine' Calls.aftS _ _ (h1 _) _; rotate_left 2; (first | (with_reducible exact After.below _; rfl) | (with_reducible exact below_drew (After.below _); rfl) | (with_reducible exact below_set (After.below _) _ _; (go_simp; rfl)) | (with_reducible exact below_set (below_set (After.below _) _ _) _ _; (go_simp; rfl)) | (with_reducible exact below_set (below_set (below_set (After.below _) _ _) _ _) _ _; (go_simp; rfl)) | (with_reducible exact below_set (below_set (below_set (below_set (After.below _) _ _) _ _) _ _) _ _; (go_simp; rfl)) | (exact Below.refl _ _; rfl)); intro v x ho; have hle := After.le x; (try simp at hle)); obtain ⟨g, cap, rfl⟩ := row_some ho (by decide); obtain ⟨c0, c1, c2, c3⟩ := row_cells ho (k := 2) (by decide); simp at c0 c1 c2 c3; have hg := World.block_lt_of_cell? _ _ c0) | (go_at_call 31; refine Calls.same (h2 _) ?_) | (go_at_call 29; refine Calls.same (h3 _) ?_))
  go_ret
  refine ⟨rfl, ?_⟩
  (repeat (first | exact Below.refl _ _ | apply Below.drew | refine Below.alloc ?_ ?_ _ | refine Below.setCell ?_ ?_ _ | refine Below.trans ?_ (Below.mono (After.below _) ?_))); (all_goals (first | (simp; done) | (simp; omega) | omega))

theorem show_any (kind pos n : Int) (s : ByteArray) (hs : s.size ≤ 16384) (w : World) :
    Calls Try.prog 33 #[.agg #[.int .i64 kind, .int .i64 pos, .string s, .int .i64 n]] w fun e w' => e = .returned (.tuple #[.string (showS kind n s), .bool (hasB kind n s)]) ∧ Below w.heap.size w w' := by
  have h1 := of_any s hs
  rcases has_cases kind n s with ⟨e1, e2⟩ | ⟨e1, e2, e3⟩ | ⟨t, t2, e1, e2, e3⟩
  · have f1 : ((ofText s).e != 0) = true := by rw [bne, e1]; rfl
    rw [showS, e2]
    go_enter Try.func33, Try.ntmps33
    go_wp2_with ((go_at_call 25; refine' Calls.aftS _ _ (h1 _) _; rotate_left 2; (first | (with_reducible exact After.below _; rfl) | (with_reducible exact below_drew (After.below _); rfl) | (with_reducible exact below_set (After.below _) _ _; (go_simp; rfl)) | (with_reducible exact below_set (below_set (After.below _) _ _) _ _; (go_simp; rfl)) | (with_reducible exact below_set (below_set (below_set (After.below _) _ _) _ _) _ _; (go_simp; rfl)) | (with_reducible exact below_set (below_set (below_set (below_set (After.below _) _ _) _ _) _ _) _ _; (go_simp; rfl)) | (exact Below.refl _ _; rfl)); intro v x ho; have hle := After.le x; (try simp at hle)); obtain ⟨pp, cap, rfl⟩ := row_len ho)
    refine' region_whole _ _ (by kernel_rfl) (by kernel_rfl) _; rotate_left 2; (first | (with_reducible exact After.below _; rfl) | (with_reducible exact below_drew (After.below _); rfl) | (with_reducible exact below_set (After.below _) _ _; (go_simp; rfl)) | (with_reducible exact below_set (below_set (After.below _) _ _) _ _; (go_simp; rfl)) | (with_reducible exact below_set (below_set (below_set (After.below _) _ _) _ _) _ _; (go_simp; rfl)) | (with_reducible exact below_set (below_set (below_set (below_set (After.below _) _ _) _ _) _ _) _ _; (go_simp; rfl)) | (exact Below.refl _ _; rfl)); (repeat (go_big_quiet_step (first | fail))); refine wpQuiet_nil ?_; intro z
    go_wp2_with fail
    refine bodyPost_ret (v := .tuple #[.string ⟨#[]⟩, .bool false]) (by simp only [results, Try.results33]; go_simp) rfl ⟨rfl, ?_⟩
    (repeat (first | exact Below.refl _ _ | apply Below.drew | refine Below.alloc ?_ ?_ _ | refine Below.setCell ?_ ?_ _ | refine Below.trans ?_ (Below.mono (After.below _) ?_))); (all_goals (first | (simp; done) | (simp; omega) | omega))
  · have f1 : ((ofText s).e != 0) = false := by rw [bne, e1]; rfl
    have f2 : (((ofText s).l.length : Int) != 2) = true := by rw [bne, e2]; rfl
    rw [showS, e3]
    go_enter Try.func33, Try.ntmps33
    go_wp2_with ((go_at_call 25; refine' Calls.aftS _ _ (h1 _) _; rotate_left 2; (first | (with_reducible exact After.below _; rfl) | (with_reducible exact below_drew (After.below _); rfl) | (with_reducible exact below_set (After.below _) _ _; (go_simp; rfl)) | (with_reducible exact below_set (below_set (After.below _) _ _) _ _; (go_simp; rfl)) | (with_reducible exact below_set (below_set (below_set (After.below _) _ _) _ _) _ _; (go_simp; rfl)) | (with_reducible exact below_set (below_set (below_set (below_set (After.below _) _ _) _ _) _ _) _ _; (go_simp; rfl)) | (exact Below.refl _ _; rfl)); intro v x ho; have hle := After.le x; (try simp at hle)); obtain ⟨pp, cap, rfl⟩ := row_len ho)
    refine' region_whole _ _ (by kernel_rfl) (by kernel_rfl) _; rotate_left 2; (first | (with_reducible exact After.below _; rfl) | (with_reducible exact below_drew (After.below _); rfl) | (with_reducible exact below_set (After.below _) _ _; (go_simp; rfl)) | (with_reducible exact below_set (below_set (After.below _) _ _) _ _; (go_simp; rfl)) | (with_reducible exact below_set (below_set (below_set (After.below _) _ _) _ _) _ _; (go_simp; rfl)) | (with_reducible exact below_set (below_set (below_set (below_set (After.below _) _ _) _ _) _ _) _ _; (go_simp; rfl)) | (exact Below.refl _ _; rfl)); (repeat (go_big_quiet_step (first | fail))); refine wpQuiet_nil ?_; intro z
    go_wp2_with fail
    refine bodyPost_ret (v := .tuple #[.string ⟨#[]⟩, .bool false]) (by simp only [results, Try.results33]; go_simp) rfl ⟨rfl, ?_⟩
    (repeat (first | exact Below.refl _ _ | apply Below.drew | refine Below.alloc ?_ ?_ _ | refine Below.setCell ?_ ?_ _ | refine Below.trans ?_ (Below.mono (After.below _) ?_))); (all_goals (first | (simp; done) | (simp; omega) | omega))
  · have f1 : ((ofText s).e != 0) = false := by rw [bne, e1]; rfl
    rw [e2] at h1
    rcases e3 with ⟨e3, e4⟩ | ⟨e3, e4, e5⟩ | ⟨e3, e4, e5, e6⟩ | ⟨e3, e4, e5, e6⟩
    · have f3 : (t.kind != kind) = true := by rw [bne, e3]; rfl
      rw [showS, e4]
      go_enter Try.func33, Try.ntmps33
      go_wp2_with ((go_at_call 25; refine' Calls.aftS _ _ (h1 _) _; rotate_left 2; (first | (with_reducible exact After.below _; rfl) | (with_reducible exact below_drew (After.below _); rfl) | (with_reducible exact below_set (After.below _) _ _; (go_simp; rfl)) | (with_reducible exact below_set (below_set (After.below _) _ _) _ _; (go_simp; rfl)) | (with_reducible exact below_set (below_set (below_set (After.below _) _ _) _ _) _ _; (go_simp; rfl)) | (with_reducible exact below_set (below_set (below_set (below_set (After.below _) _ _) _ _) _ _) _ _; (go_simp; rfl)) | (exact Below.refl _ _; rfl)); intro v x ho; have hle := After.le x; (try simp at hle)); obtain ⟨g, cap, rfl⟩ := row_some ho (by simp); obtain ⟨c0, c1, c2, c3⟩ := row_cells ho (k := 0) (by simp); simp at c0 c1 c2 c3; have hg := World.block_lt_of_cell? _ _ c0)
      refine' region_whole _ _ (by kernel_rfl) (by kernel_rfl) _; rotate_left 2; (first | (with_reducible exact After.below _; rfl) | (with_reducible exact below_drew (After.below _); rfl) | (with_reducible exact below_set (After.below _) _ _; (go_simp; rfl)) | (with_reducible exact below_set (below_set (After.below _) _ _) _ _; (go_simp; rfl)) | (with_reducible exact below_set (below_set (below_set (After.below _) _ _) _ _) _ _; (go_simp; rfl)) | (with_reducible exact below_set (below_set (below_set (below_set (After.below _) _ _) _ _) _ _) _ _; (go_simp; rfl)) | (exact Below.refl _ _; rfl)); (repeat (go_big_quiet_step (first | fail))); refine wpQuiet_nil ?_; intro z
      go_wp2_with fail
      refine bodyPost_ret (v := .tuple #[.string ⟨#[]⟩, .bool false]) (by simp only [results, Try.results33]; go_simp) rfl ⟨rfl, ?_⟩
      (repeat (first | exact Below.refl _ _ | apply Below.drew | refine Below.alloc ?_ ?_ _ | refine Below.setCell ?_ ?_ _ | refine Below.trans ?_ (Below.mono (After.below _) ?_))); (all_goals (first | (simp; done) | (simp; omega) | omega))
    · have f3 : (t.kind != kind) = false := by rw [bne, e3]; rfl
      have f4 : (t.n != n) = true := by rw [bne, e4]; rfl
      rw [showS, e5]
      go_enter Try.func33, Try.ntmps33
      go_wp2_with ((go_at_call 25; refine' Calls.aftS _ _ (h1 _) _; rotate_left 2; (first | (with_reducible exact After.below _; rfl) | (with_reducible exact below_drew (After.below _); rfl) | (with_reducible exact below_set (After.below _) _ _; (go_simp; rfl)) | (with_reducible exact below_set (below_set (After.below _) _ _) _ _; (go_simp; rfl)) | (with_reducible exact below_set (below_set (below_set (After.below _) _ _) _ _) _ _; (go_simp; rfl)) | (with_reducible exact below_set (below_set (below_set (below_set (After.below _) _ _) _ _) _ _) _ _; (go_simp; rfl)) | (exact Below.refl _ _; rfl)); intro v x ho; have hle := After.le x; (try simp at hle)); obtain ⟨g, cap, rfl⟩ := row_some ho (by simp); obtain ⟨c0, c1, c2, c3⟩ := row_cells ho (k := 0) (by simp); simp at c0 c1 c2 c3; have hg := World.block_lt_of_cell? _ _ c0)
      refine' region_whole _ _ (by kernel_rfl) (by kernel_rfl) _; rotate_left 2; (first | (with_reducible exact After.below _; rfl) | (with_reducible exact below_drew (After.below _); rfl) | (with_reducible exact below_set (After.below _) _ _; (go_simp; rfl)) | (with_reducible exact below_set (below_set (After.below _) _ _) _ _; (go_simp; rfl)) | (with_reducible exact below_set (below_set (below_set (After.below _) _ _) _ _) _ _; (go_simp; rfl)) | (with_reducible exact below_set (below_set (below_set (below_set (After.below _) _ _) _ _) _ _) _ _; (go_simp; rfl)) | (exact Below.refl _ _; rfl)); (repeat (go_big_quiet_step (first | fail))); refine wpQuiet_nil ?_; intro z
      go_wp2_with fail
      refine bodyPost_ret (v := .tuple #[.string ⟨#[]⟩, .bool false]) (by simp only [results, Try.results33]; go_simp) rfl ⟨rfl, ?_⟩
      (repeat (first | exact Below.refl _ _ | apply Below.drew | refine Below.alloc ?_ ?_ _ | refine Below.setCell ?_ ?_ _ | refine Below.trans ?_ (Below.mono (After.below _) ?_))); (all_goals (first | (simp; done) | (simp; omega) | omega))
    · have f3 : (t.kind != kind) = false := by rw [bne, e3]; rfl
      have f4 : (t.n != n) = false := by rw [bne, e4]; rfl
      have f5 : (t.s.toList != s.toList) = true := by rw [bne, e5]; rfl
      rw [showS, e6]
      go_enter Try.func33, Try.ntmps33
      go_wp2_with ((go_at_call 25; refine' Calls.aftS _ _ (h1 _) _; rotate_left 2; (first | (with_reducible exact After.below _; rfl) | (with_reducible exact below_drew (After.below _); rfl) | (with_reducible exact below_set (After.below _) _ _; (go_simp; rfl)) | (with_reducible exact below_set (below_set (After.below _) _ _) _ _; (go_simp; rfl)) | (with_reducible exact below_set (below_set (below_set (After.below _) _ _) _ _) _ _; (go_simp; rfl)) | (with_reducible exact below_set (below_set (below_set (below_set (After.below _) _ _) _ _) _ _) _ _; (go_simp; rfl)) | (exact Below.refl _ _; rfl)); intro v x ho; have hle := After.le x; (try simp at hle)); obtain ⟨g, cap, rfl⟩ := row_some ho (by simp); obtain ⟨c0, c1, c2, c3⟩ := row_cells ho (k := 0) (by simp); simp at c0 c1 c2 c3; have hg := World.block_lt_of_cell? _ _ c0)
      refine' region_whole _ _ (by kernel_rfl) (by kernel_rfl) _; rotate_left 2; (first | (with_reducible exact After.below _; rfl) | (with_reducible exact below_drew (After.below _); rfl) | (with_reducible exact below_set (After.below _) _ _; (go_simp; rfl)) | (with_reducible exact below_set (below_set (After.below _) _ _) _ _; (go_simp; rfl)) | (with_reducible exact below_set (below_set (below_set (After.below _) _ _) _ _) _ _; (go_simp; rfl)) | (with_reducible exact below_set (below_set (below_set (below_set (After.below _) _ _) _ _) _ _) _ _; (go_simp; rfl)) | (exact Below.refl _ _; rfl)); (repeat (go_big_quiet_step (first | fail))); refine wpQuiet_nil ?_; intro z
      go_wp2_with fail
      refine bodyPost_ret (v := .tuple #[.string ⟨#[]⟩, .bool false]) (by simp only [results, Try.results33]; go_simp) rfl ⟨rfl, ?_⟩
      (repeat (first | exact Below.refl _ _ | apply Below.drew | refine Below.alloc ?_ ?_ _ | refine Below.setCell ?_ ?_ _ | refine Below.trans ?_ (Below.mono (After.below _) ?_))); (all_goals (first | (simp; done) | (simp; omega) | omega))
    · have f3 : (t.kind != kind) = false := by rw [bne, e3]; rfl
      have f4 : (t.n != n) = false := by rw [bne, e4]; rfl
      have f5 : (t.s.toList != s.toList) = false := by rw [bne, e5]; rfl
      rw [showS, e6]
      go_enter Try.func33, Try.ntmps33
      go_wp2_with ((go_at_call 25; refine' Calls.aftS _ _ (h1 _) _; rotate_left 2; (first | (with_reducible exact After.below _; rfl) | (with_reducible exact below_drew (After.below _); rfl) | (with_reducible exact below_set (After.below _) _ _; (go_simp; rfl)) | (with_reducible exact below_set (below_set (After.below _) _ _) _ _; (go_simp; rfl)) | (with_reducible exact below_set (below_set (below_set (After.below _) _ _) _ _) _ _; (go_simp; rfl)) | (with_reducible exact below_set (below_set (below_set (below_set (After.below _) _ _) _ _) _ _) _ _; (go_simp; rfl)) | (exact Below.refl _ _; rfl)); intro v x ho; have hle := After.le x; (try simp at hle)); obtain ⟨g, cap, rfl⟩ := row_some ho (by simp); obtain ⟨c0, c1, c2, c3⟩ := row_cells ho (k := 0) (by simp); simp at c0 c1 c2 c3; have hg := World.block_lt_of_cell? _ _ c0)
      refine' region_whole _ _ (by kernel_rfl) (by kernel_rfl) _; rotate_left 2; (first | (with_reducible exact After.below _; rfl) | (with_reducible exact below_drew (After.below _); rfl) | (with_reducible exact below_set (After.below _) _ _; (go_simp; rfl)) | (with_reducible exact below_set (below_set (After.below _) _ _) _ _; (go_simp; rfl)) | (with_reducible exact below_set (below_set (below_set (After.below _) _ _) _ _) _ _; (go_simp; rfl)) | (with_reducible exact below_set (below_set (below_set (below_set (After.below _) _ _) _ _) _ _) _ _; (go_simp; rfl)) | (exact Below.refl _ _; rfl)); (repeat (go_big_quiet_step (first | fail))); refine wpQuiet_nil ?_; intro z
      go_wp2_with fail
      refine bodyPost_ret (v := .tuple #[.string s, .bool true]) (by simp only [results, Try.results33]; go_simp) rfl ⟨rfl, ?_⟩
      (repeat (first | exact Below.refl _ _ | apply Below.drew | refine Below.alloc ?_ ?_ _ | refine Below.setCell ?_ ?_ _ | refine Below.trans ?_ (Below.mono (After.below _) ?_))); (all_goals (first | (simp; done) | (simp; omega) | omega))

end Go.Proofs.Ythmcenlkhfdhfaa.Tk

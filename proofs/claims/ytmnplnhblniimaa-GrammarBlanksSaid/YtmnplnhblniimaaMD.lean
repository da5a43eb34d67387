/- token.Show, for seats that do not reach soughlaw02. GrammarBlanks: two lists of ints that lie apart; an append that tells whose block the answer has; the law's first loop's plain side. GrammarBlanks: it answers true. WALK of the law. -/
import Derived.Test.YtmnplnhblniimaaTokeng
import Derived.Test.YtmnplnhblniimaaTokenm
import Derived.Test.YtmnplnhblniimaaSl
import Derived.Test.YtmnplnhblniimaaMB
import Derived.Test.YtmnplnhblniimaaPgo
import Derived.Test.YtmnplnhblniimaaLaw

namespace Go.Proofs.Ytmnplnhblniimaa.Tk
set_option linter.unusedVariables false
set_option linter.unusedSimpArgs false
open Go Go.RowKit

theorem Calls.aftS {α : Type} {g : α → Value} {S : α → World → Prop} {P : Program} {f : FuncId} {args : Array Value} {W W' w : World} {R : Ending → World → Prop} (hw : Below W.heap.size W w) (hW : W = W')
    (h : Calls P f args w fun e w' => ∃ v, e = .returned (g v) ∧ S v w' ∧ Below w.heap.size w w') (hr : ∀ (v : α) (x : After W'), S v x.val → R (.returned (g v)) x.val) : Calls P f args w R := by
  subst hW
  exact h.mono fun e w' ⟨v, he, hs, hb⟩ => by subst he; exact hr v ⟨w', hw.trans (hb.mono hw.size)⟩ hs

theorem row_some {w : World} {base : Nat} {v : Value} {l : List Tok} (h : w.ownsRow base 39 4 v l.length (cells l)) (h0 : 0 < l.length) : ∃ g cap, v = .slice (some ⟨g, 0, none⟩) l.length cap := by
  rcases row_shape h with ⟨_, rfl⟩ | h
  · simp at h0
  · exact h

theorem row_len {w : World} {base : Nat} {v : Value} {l : List Tok} (h : w.ownsRow base 39 4 v l.length (cells l)) : ∃ p cap, v = .slice p l.length cap := by
  rcases row_shape h with ⟨rfl, rfl⟩ | ⟨g, cap, rfl⟩
  · exact ⟨_, _, rfl⟩
  · exact ⟨_, _, rfl⟩

theorem show_any (kind pos n : Int) (s : ByteArray) (hs : s.size ≤ 16384) (w : World) :
    Calls Try.prog 13 #[.agg #[.int .i64 kind, .int .i64 pos, .string s, .int .i64 n]] w fun e w' => e = .returned (.tuple #[.string (showS kind n s), .bool (hasB kind n s)]) ∧ Below w.heap.size w w' := by
  have h1 := of_any s hs
  rcases has_cases kind n s with ⟨e1, e2⟩ | ⟨e1, e2, e3⟩ | ⟨t, t2, e1, e2, e3⟩
  · have f1 : ((ofText s).e != 0) = true := by rw [bne, e1]; rfl
    rw [showS, e2]
    go_enter Try.func13, Try.ntmps13
    go_wp2_with ((go_at_call 29; refine' Calls.aftS _ _ (h1 _) _; rotate_left 2; (first | (with_reducible exact After.below _; rfl) | (with_reducible exact below_drew (After.below _); rfl) | (with_reducible exact below_set (After.below _) _ _; (go_simp; rfl)) | (with_reducible exact below_set (below_set (After.below _) _ _) _ _; (go_simp; rfl)) | (with_reducible exact below_set (below_set (below_set (After.below _) _ _) _ _) _ _; (go_simp; rfl)) | (with_reducible exact below_set (below_set (below_set (below_set (After.below _) _ _) _ _) _ _) _ _; (go_simp; rfl)) | (exact Below.refl _ _; rfl)); intro v x ho; have hle := After.le x; (try simp at hle)); obtain ⟨pp, cap, rfl⟩ := row_len ho)
    refine' region_whole _ _ (by kernel_rfl) (by kernel_rfl) _; rotate_left 2; (first | (with_reducible exact After.below _; rfl) | (with_reducible exact below_drew (After.below _); rfl) | (with_reducible exact below_set (After.below _) _ _; (go_simp; rfl)) | (with_reducible exact below_set (below_set (After.below _) _ _) _ _; (go_simp; rfl)) | (with_reducible exact below_set (below_set (below_set (After.below _) _ _) _ _) _ _; (go_simp; rfl)) | (with_reducible exact below_set (below_set (below_set (below_set (After.below _) _ _) _ _) _ _) _ _; (go_simp; rfl)) | (exact Below.refl _ _; rfl)); (repeat (go_big_quiet_step (first | fail))); refine wpQuiet_nil ?_; intro z
    go_wp2_with fail
    refine bodyPost_ret (v := .tuple #[.string ⟨#[]⟩, .bool false]) (by simp only [results, Try.results13]; go_simp) rfl ⟨rfl, ?_⟩
    (repeat (first | exact Below.refl _ _ | apply Below.drew | refine Below.alloc ?_ ?_ _ | refine Below.setCell ?_ ?_ _ | refine Below.trans ?_ (Below.mono (After.below _) ?_))); (all_goals (first | (simp; done) | (simp; omega) | omega))
  · have f1 : ((ofText s).e != 0) = false := by rw [bne, e1]; rfl
    have f2 : (((ofText s).l.length : Int) != 2) = true := by rw [bne, e2]; rfl
    rw [showS, e3]
    go_enter Try.func13, Try.ntmps13
    go_wp2_with ((go_at_call 29; refine' Calls.aftS _ _ (h1 _) _; rotate_left 2; (first | (with_reducible exact After.below _; rfl) | (with_reducible exact below_drew (After.below _); rfl) | (with_reducible exact below_set (After.below _) _ _; (go_simp; rfl)) | (with_reducible exact below_set (below_set (After.below _) _ _) _ _; (go_simp; rfl)) | (with_reducible exact below_set (below_set (below_set (After.below _) _ _) _ _) _ _; (go_simp; rfl)) | (with_reducible exact below_set (below_set (below_set (below_set (After.below _) _ _) _ _) _ _) _ _; (go_simp; rfl)) | (exact Below.refl _ _; rfl)); intro v x ho; have hle := After.le x; (try simp at hle)); obtain ⟨pp, cap, rfl⟩ := row_len ho)
    refine' region_whole _ _ (by kernel_rfl) (by kernel_rfl) _; rotate_left 2; (first | (with_reducible exact After.below _; rfl) | (with_reducible exact below_drew (After.below _); rfl) | (with_reducible exact below_set (After.below _) _ _; (go_simp; rfl)) | (with_reducible exact below_set (below_set (After.below _) _ _) _ _; (go_simp; rfl)) | (with_reducible exact below_set (below_set (below_set (After.below _) _ _) _ _) _ _; (go_simp; rfl)) | (with_reducible exact below_set (below_set (below_set (below_set (After.below _) _ _) _ _) _ _) _ _; (go_simp; rfl)) | (exact Below.refl _ _; rfl)); (repeat (go_big_quiet_step (first | fail))); refine wpQuiet_nil ?_; intro z
    go_wp2_with fail
    refine bodyPost_ret (v := .tuple #[.string ⟨#[]⟩, .bool false]) (by simp only [results, Try.results13]; go_simp) rfl ⟨rfl, ?_⟩
    (repeat (first | exact Below.refl _ _ | apply Below.drew | refine Below.alloc ?_ ?_ _ | refine Below.setCell ?_ ?_ _ | refine Below.trans ?_ (Below.mono (After.below _) ?_))); (all_goals (first | (simp; done) | (simp; omega) | omega))
  · have f1 : ((ofText s).e != 0) = false := by rw [bne, e1]; rfl
    rw [e2] at h1
    rcases e3 with ⟨e3, e4⟩ | ⟨e3, e4, e5⟩ | ⟨e3, e4, e5, e6⟩ | ⟨e3, e4, e5, e6⟩
    · have f3 : (t.kind != kind) = true := by rw [bne, e3]; rfl
      rw [showS, e4]
      go_enter Try.func13, Try.ntmps13
      go_wp2_with ((go_at_call 29; refine' Calls.aftS _ _ (h1 _) _; rotate_left 2; (first | (with_reducible exact After.below _; rfl) | (with_reducible exact below_drew (After.below _); rfl) | (with_reducible exact below_set (After.below _) _ _; (go_simp; rfl)) | (with_reducible exact below_set (below_set (After.below _) _ _) _ _; (go_simp; rfl)) | (with_reducible exact below_set (below_set (below_set (After.below _) _ _) _ _) _ _; (go_simp; rfl)) | (with_reducible exact below_set (below_set (below_set (below_set (After.below _) _ _) _ _) _ _) _ _; (go_simp; rfl)) | (exact Below.refl _ _; rfl)); intro v x ho; have hle := After.le x; (try simp at hle)); obtain ⟨g, cap, rfl⟩ := row_some ho (by simp); obtain ⟨c0, c1, c2, c3⟩ := row_cells ho (k := 0) (by simp); simp at c0 c1 c2 c3; have hg := World.block_lt_of_cell? _ _ c0)
      refine' region_whole _ _ (by kernel_rfl) (by kernel_rfl) _; rotate_left 2; (first | (with_reducible exact After.below _; rfl) | (with_reducible exact below_drew (After.below _); rfl) | (with_reducible exact below_set (After.below _) _ _; (go_simp; rfl)) | (with_reducible exact below_set (below_set (After.below _) _ _) _ _; (go_simp; rfl)) | (with_reducible exact below_set (below_set (below_set (After.below _) _ _) _ _) _ _; (go_simp; rfl)) | (with_reducible exact below_set (below_set (below_set (below_set (After.below _) _ _) _ _) _ _) _ _; (go_simp; rfl)) | (exact Below.refl _ _; rfl)); (repeat (go_big_quiet_step (first | fail))); refine wpQuiet_nil ?_; intro z
      go_wp2_with fail
      refine bodyPost_ret (v := .tuple #[.string ⟨#[]⟩, .bool false]) (by simp only [results, Try.results13]; go_simp) rfl ⟨rfl, ?_⟩
      (repeat (first | exact Below.refl _ _ | apply Below.drew | refine Below.alloc ?_ ?_ _ | refine Below.setCell ?_ ?_ _ | refine Below.trans ?_ (Below.mono (After.below _) ?_))); (all_goals (first | (simp; done) | (simp; omega) | omega))
    · have f3 : (t.kind != kind) = false := by rw [bne, e3]; rfl
      have f4 : (t.n != n) = true := by rw [bne, e4]; rfl
      rw [showS, e5]
      go_enter Try.func13, Try.ntmps13
      go_wp2_with ((go_at_call 29; refine' Calls.aftS _ _ (h1 _) _; rotate_left 2; (first | (with_reducible exact After.below _; rfl) | (with_reducible exact below_drew (After.below _); rfl) | (with_reducible exact below_set (After.below _) _ _; (go_simp; rfl)) | (with_reducible exact below_set (below_set (After.below _) _ _) _ _; (go_simp; rfl)) | (with_reducible exact below_set (below_set (below_set (After.below _) _ _) _ _) _ _; (go_simp; rfl)) | (with_reducible exact below_set (below_set (below_set (below_set (After.below _) _ _) _ _) _ _) _ _; (go_simp; rfl)) | (exact Below.refl _ _; rfl)); intro v x ho; have hle := After.le x; (try simp at hle)); obtain ⟨g, cap, rfl⟩ := row_some ho (by simp); obtain ⟨c0, c1, c2, c3⟩ := row_cells ho (k := 0) (by simp); simp at c0 c1 c2 c3; have hg := World.block_lt_of_cell? _ _ c0)
      refine' region_whole _ _ (by kernel_rfl) (by kernel_rfl) _; rotate_left 2; (first | (with_reducible exact After.below _; rfl) | (with_reducible exact below_drew (After.below _); rfl) | (with_reducible exact below_set (After.below _) _ _; (go_simp; rfl)) | (with_reducible exact below_set (below_set (After.below _) _ _) _ _; (go_simp; rfl)) | (with_reducible exact below_set (below_set (below_set (After.below _) _ _) _ _) _ _; (go_simp; rfl)) | (with_reducible exact below_set (below_set (below_set (below_set (After.below _) _ _) _ _) _ _) _ _; (go_simp; rfl)) | (exact Below.refl _ _; rfl)); (repeat (go_big_quiet_step (first | fail))); refine wpQuiet_nil ?_; intro z
      go_wp2_with fail
      refine bodyPost_ret (v := .tuple #[.string ⟨#[]⟩, .bool false]) (by simp only [results, Try.results13]; go_simp) rfl ⟨rfl, ?_⟩
      (repeat (first | exact Below.refl _ _ | apply Below.drew | refine Below.alloc ?_ ?_ _ | refine Below.setCell ?_ ?_ _ | refine Below.trans ?_ (Below.mono (After.below _) ?_))); (all_goals (first | (simp; done) | (simp; omega) | omega))
    · have f3 : (t.kind != kind) = false := by rw [bne, e3]; rfl
      have f4 : (t.n != n) = false := by rw [bne, e4]; rfl
      have f5 : (t.s.toList != s.toList) = true := by rw [bne, e5]; rfl
      rw [showS, e6]
      go_enter Try.func13, Try.ntmps13
      go_wp2_with ((go_at_call 29; refine' Calls.aftS _ _ (h1 _) _; rotate_left 2; (first | (with_reducible exact After.below _; rfl) | (with_reducible exact below_drew (After.below _); rfl) | (with_reducible exact below_set (After.below _) _ _; (go_simp; rfl)) | (with_reducible exact below_set (below_set (After.below _) _ _) _ _; (go_simp; rfl)) | (with_reducible exact below_set (below_set (below_set (After.below _) _ _) _ _) _ _; (go_simp; rfl)) | (with_reducible exact below_set (below_set (below_set (below_set (After.below _) _ _) _ _) _ _) _ _; (go_simp; rfl)) | (exact Below.refl _ _; rfl)); intro v x ho; have hle := After.le x; (try simp at hle)); obtain ⟨g, cap, rfl⟩ := row_some ho (by simp); obtain ⟨c0, c1, c2, c3⟩ := row_cells ho (k := 0) (by simp); simp at c0 c1 c2 c3; have hg := World.block_lt_of_cell? _ _ c0)
      refine' region_whole _ _ (by kernel_rfl) (by kernel_rfl) _; rotate_left 2; (first | (with_reducible exact After.below _; rfl) | (with_reducible exact below_drew (After.below _); rfl) | (with_reducible exact below_set (After.below _) _ _; (go_simp; rfl)) | (with_reducible exact below_set (below_set (After.below _) _ _) _ _; (go_simp; rfl)) | (with_reducible exact below_set (below_set (below_set (After.below _) _ _) _ _) _ _; (go_simp; rfl)) | (with_reducible exact below_set (below_set (below_set (below_set (After.below _) _ _) _ _) _ _) _ _; (go_simp; rfl)) | (exact Below.refl _ _; rfl)); (repeat (go_big_quiet_step (first | fail))); refine wpQuiet_nil ?_; intro z
      go_wp2_with fail
      refine bodyPost_ret (v := .tuple #[.string ⟨#[]⟩, .bool false]) (by simp only [results, Try.results13]; go_simp) rfl ⟨rfl, ?_⟩
      (repeat (first | exact Below.refl _ _ | apply Below.drew | refine Below.alloc ?_ ?_ _ | refine Below.setCell ?_ ?_ _ | refine Below.trans ?_ (Below.mono (After.below _) ?_))); (all_goals (first | (simp; done) | (simp; omega) | omega))
    · have f3 : (t.kind != kind) = false := by rw [bne, e3]; rfl
      have f4 : (t.n != n) = false := by rw [bne, e4]; rfl
      have f5 : (t.s.toList != s.toList) = false := by rw [bne, e5]; rfl
      rw [showS, e6]
      go_enter Try.func13, Try.ntmps13
      go_wp2_with ((go_at_call 29; refine' Calls.aftS _ _ (h1 _) _; rotate_left 2; (first | (with_reducible exact After.below _; rfl) | (with_reducible exact below_drew (After.below _); rfl) | (with_reducible exact below_set (After.below _) _ _; (go_simp; rfl)) | (with_reducible exact below_set (below_set (After.below _) _ _) _ _; (go_simp; rfl)) | (with_reducible exact below_set (below_set (below_set (After.below _) _ _) _ _) _ _; (go_simp; rfl)) | (with_reducible exact below_set (below_set (below_set (below_set (After.below _) _ _) _ _) _ _) _ _; (go_simp; rfl)) | (exact Below.refl _ _; rfl)); intro v x ho; have hle := After.le x; (try simp at hle)); obtain ⟨g, cap, rfl⟩ := row_some ho (by simp); obtain ⟨c0, c1, c2, c3⟩ := row_cells ho (k := 0) (by simp); simp at c0 c1 c2 c3; have hg := World.block_lt_of_cell? _ _ c0)
      refine' region_whole _ _ (by kernel_rfl) (by kernel_rfl) _; rotate_left 2; (first | (with_reducible exact After.below _; rfl) | (with_reducible exact below_drew (After.below _); rfl) | (with_reducible exact below_set (After.below _) _ _; (go_simp; rfl)) | (with_reducible exact below_set (below_set (After.below _) _ _) _ _; (go_simp; rfl)) | (with_reducible exact below_set (below_set (below_set (After.below _) _ _) _ _) _ _; (go_simp; rfl)) | (with_reducible exact below_set (below_set (below_set (below_set (After.below _) _ _) _ _) _ _) _ _; (go_simp; rfl)) | (exact Below.refl _ _; rfl)); (repeat (go_big_quiet_step (first | fail))); refine wpQuiet_nil ?_; intro z
      go_wp2_with fail
      refine bodyPost_ret (v := .tuple #[.string s, .bool true]) (by simp only [results, Try.results13]; go_simp) rfl ⟨rfl, ?_⟩
      (repeat (first | exact Below.refl _ _ | apply Below.drew | refine Below.alloc ?_ ?_ _ | refine Below.setCell ?_ ?_ _ | refine Below.trans ?_ (Below.mono (After.below _) ?_))); (all_goals (first | (simp; done) | (simp; omega) | omega))

end Go.Proofs.Ytmnplnhblniimaa.Tk

namespace Go.Proofs.Ytmnplnhblniimaa.Gr
set_option linter.unusedVariables false
set_option linter.unusedSimpArgs false
open Go Go.RowKit Tk

theorem wpList_append_tells {P : Program} {w : World} {ops : Array Oper} {rest : List Oper} {o : Oper} {a : Act} {Q : Exit → Act → World → Prop} (hgd : o.guard = none) (s x : Operand) (t : TypeId)
    (ho : o.op = .call { callee := .builtin .append, args := #[s, x], argTypes := #[t, t] })
    (base : Nat) (e : TypeId) (i : TypeInfo) (z : Value) (size bytes : Nat) (ht : P.underlying t = some (.slice e)) (hi : P.info? e = some i) (hz : i.zero = some z)
    (hsize : i.size = size) (hby : i.bytes = bytes) (hzs : z.cells.size = size) (hsz : 0 < size)
    (v : Value) (n : Nat) (xs : List Value) (hs : a.eval s = v) (hown : w.ownsRow base e size v n xs)
    (ad : Addr) (m c : Nat) (news : List Value) (hx : a.eval x = .slice (some ad) m c) (hl : news.length = m * size) (hnews : ∀ j u, news[j]? = some u → w.cell? (ad.add j) = some u) (h1 : ∀ u ∈ news, u.oneCell' = true)
    (h63 : n + m ≤ maxLen) (hbytes : (n + m) * bytes ≤ 140737488355328) (hbase : base ≤ w.heap.size) (hm : 0 < m)
    (h : ∀ v' w', w'.ownsRow base e size v' (n + m) (xs ++ news) → w.grownBy w' v.ownBlock → (v'.ownBlock = v.ownBlock ∨ v'.ownBlock = some w.heap.size) → wpList P ops Q rest (a.put o.dst v') w') : wpList P ops Q (o :: rest) a w :=
  wpList_step fun K hK => step_append_tells hgd s x t ho base e i z size bytes ht hi hz hsize hby hzs hsz v n xs hs hown ad m c news hx hl hnews h1 h63 hbytes hbase hm fun v' w' h2 h3 h4 => hK _ _ (h v' w' h2 h3 h4)

theorem int_info9 : (Try.prog.info? 3).map (fun i => (i.zero, i.size, i.bytes)) = some (some (.int .i64 0), 1, 8) := by kernel_rfl

abbrev iv (x : Int) : Value := .int .i64 x
/-- Two lists of ints that lie apart. -/
structure Fr (base : Nat) (w : World) (fv tv : Value) (F T : List Int) : Prop where
  f : w.ownsRow base 3 1 fv F.length (F.map iv)
  t : w.ownsRow base 3 1 tv T.length (T.map iv)
  ne : fv.ownBlock = none ∨ fv.ownBlock ≠ tv.ownBlock
  en : tv.ownBlock = none ∨ tv.ownBlock ≠ fv.ownBlock

theorem Fr.below {base : Nat} {w w' : World} {fv tv : Value} {F T : List Int} (h : Fr base w fv tv F T) (hB : Below w.heap.size w w') : Fr base w' fv tv F T :=
  ⟨own_below h.f hB, own_below h.t hB, h.ne, h.en⟩
theorem own_lt9 {w : World} {base n : Nat} {v : Value} {xs : List Value} {e : TypeId} {s : Nat} (h : w.ownsRow base e s v n xs) : v.ownBlock ≠ some w.heap.size := fun he => by
  have := (h.lt _ he).2
  omega
theorem Fr.growF {base : Nat} {w w' : World} {fv tv v' : Value} {F T : List Int} {x : Int} (h : Fr base w fv tv F T) (hg : w.grownBy w' fv.ownBlock)
    (ho : w'.ownsRow base 3 1 v' (F.length + 1) (F.map iv ++ [.int .i64 x])) (hv : v'.ownBlock = fv.ownBlock ∨ v'.ownBlock = some w.heap.size) : Fr base w' v' tv (F ++ [x]) T := by
  have htl := own_lt9 h.t
  have hk : w'.ownsRow base 3 1 tv T.length (T.map iv) := h.t.kept hg h.en
  refine ⟨by simpa using ho, hk, ?_, ?_⟩
  · rcases hv with hv | hv
    · rw [hv]; exact h.ne
    · rw [hv]; exact .inr (fun he => htl he.symm)
  · rcases hv with hv | hv
    · rw [hv]; exact h.en
    · rw [hv]; exact .inr htl
theorem Fr.growT {base : Nat} {w w' : World} {fv tv v' : Value} {F T : List Int} {x : Int} (h : Fr base w fv tv F T) (hg : w.grownBy w' tv.ownBlock)
    (ho : w'.ownsRow base 3 1 v' (T.length + 1) (T.map iv ++ [.int .i64 x])) (hv : v'.ownBlock = tv.ownBlock ∨ v'.ownBlock = some w.heap.size) : Fr base w' fv v' F (T ++ [x]) := by
  have hfl := own_lt9 h.f
  have hk : w'.ownsRow base 3 1 fv F.length (F.map iv) := h.f.kept hg h.ne
  refine ⟨hk, by simpa using ho, ?_, ?_⟩
  · rcases hv with hv | hv
    · rw [hv]; exact h.ne
    · rw [hv]; exact .inr hfl
  · rcases hv with hv | hv
    · rw [hv]; exact h.en
    · rw [hv]; exact .inr (fun he => hfl he.symm)

theorem joinedR_snoc (S : List Tok) (t : Tok) : joinedR (S ++ [t]) = joinedR S ++ (t.s ++ rem9) := by
  induction S with
  | nil =>
    show t.s ++ (rem9 ++ bs []) = bs [] ++ (t.s ++ rem9)
    have e1 : rem9 ++ bs [] = rem9 := rfl
    have e2 : ∀ x : ByteArray, bs [] ++ x = x := fun x => ByteArray.empty_append
    rw [e1, e2]
  | cons u S ih =>
    show u.s ++ (rem9 ++ joinedR (S ++ [t])) = (u.s ++ (rem9 ++ joinedR S)) ++ (t.s ++ rem9)
    rw [ih, ByteArray.append_assoc, ByteArray.append_assoc]
theorem placedR_snoc (S : List Tok) (t : Tok) : ∀ i : Nat, placedR (S ++ [t]) i = placedR S i ++ [{ t with pos := ((i + (joinedR S).size : Nat) : Int) }] := by
  induction S with
  | nil => intro i; simp [placedR, joinedR, bs]; rfl
  | cons u S ih =>
    intro i
    have e : (joinedR (u :: S)).size = u.s.size + 6 + (joinedR S).size := by
      simp only [joinedR, ByteArray.size_append]
      have : rem9.size = 6 := rfl
      omega
    simp only [List.cons_append, placedR, ih, e]
    congr 4
    omega
/-- The texts' own places. -/
def fromL (S : List Tok) : List Int := (placed S 0).map Tok.pos
def toL (S : List Tok) : List Int := (placedR S 9).map Tok.pos
theorem fromL_snoc (S : List Tok) (t : Tok) : fromL (S ++ [t]) = fromL S ++ [((joined S).size : Int)] := by
  unfold fromL; rw [placed_snoc]; simp
theorem toL_snoc (S : List Tok) (t : Tok) : toL (S ++ [t]) = toL S ++ [((beg9 ++ joinedR S).size : Int)] := by
  unfold toL; rw [placedR_snoc, size_beg]; simp
theorem fromL_len (S : List Tok) : (fromL S).length = S.length := by unfold fromL; rw [List.length_map, placed_length]
theorem placedR_length (S : List Tok) : ∀ i, (placedR S i).length = S.length := by
  induction S with
  | nil => intro i; rfl
  | cons u S ih => intro i; simp [placedR, ih]
theorem toL_len (S : List Tok) : (toL S).length = S.length := by unfold toL; rw [List.length_map, placedR_length]
theorem from_all (S : List Tok) : fromL S ++ [((joined S).size : Int)] = (LA S).map Tok.pos := by unfold fromL LA; simp
theorem to_all (S : List Tok) : toL S ++ [((beg9 ++ joinedR S).size : Int)] = (LB S).map Tok.pos := by unfold toL LB; simp

/-- What the second loop looks for. -/
theorem found {S : List Tok} {a b : Int × Int} (h : At2 (LA S) (LB S) a b) (h0 : a.1 ≠ 0) :
    ∃ i : Nat, ((LA S).map Tok.pos)[i]? = some a.2 ∧ ((LB S).map Tok.pos)[i]? = some b.2 ∧ ∀ j : Nat, j < i → ∀ x, ((LA S).map Tok.pos)[j]? = some x → x ≠ a.2 := by
  obtain ⟨x, ⟨i, h1, h2⟩, e1, e2⟩ := h.2 h0
  have hu : Upw (LA S) := by have := placed_up S 0 (bs []); rw [Nat.zero_add] at this; exact this
  refine ⟨i, by rw [List.getElem?_map, h1, e1]; rfl, by rw [List.getElem?_map, h2, e2]; rfl, fun j hj y hy he => ?_⟩
  rw [List.getElem?_map] at hy
  cases hj2 : (LA S)[j]? with
  | none => rw [hj2] at hy; cases hy
  | some z =>
    rw [hj2] at hy
    cases hy
    obtain ⟨hi', hx⟩ := List.getElem?_eq_some_iff.1 h1
    obtain ⟨hj', hz⟩ := List.getElem?_eq_some_iff.1 hj2
    have := List.pairwise_iff_getElem.1 hu j i hj' hi' hj
    rw [hx, hz] at this
    omega

end Go.Proofs.Ytmnplnhblniimaa.Gr

namespace Go.Proofs.Ytmnplnhblniimaa.Gr
set_option linter.unusedVariables false
set_option linter.unusedSimpArgs false
open Go Go.RowKit Tk

theorem one_news {w : World} {b : Nat} {x : Int} {t : TypeId} (hb : b = w.heap.size) : ∀ (j : Nat) (u : Value), ([Value.int .i64 x] : List Value)[j]? = some u → (w.alloc (.cells #[.int .i64 x] t)).cell? ((⟨b, 0, none⟩ : Addr).add j) = some u := by
  intro j u hu
  cases j with
  | zero =>
    simp only [List.getElem?_cons_zero, Option.some.injEq] at hu
    subst hu
    exact cell_alloc_at hb
  | succ j => simp at hu
theorem one_one {x : Int} : ∀ u ∈ ([Value.int .i64 x] : List Value), u.oneCell' = true := by intro u hu; simp at hu; subst hu; rfl

theorem row_int {w : World} {base g n cap k : Nat} {F : List Int} (h : w.ownsRow base 3 1 (.slice (some ⟨g, 0, none⟩) n cap) F.length (F.map iv)) (x : Int) (hk : F[k]? = some x) : w.cell? ⟨g, k, none⟩ = some (.int .i64 x) := by
  have := h.cells (g := g) rfl k (.int .i64 x) (by rw [List.getElem?_map, hk]; rfl)
  have ha : ∀ g j, (⟨g, 0, none⟩ : Addr).add j = ⟨g, j, none⟩ := fun g j => by unfold Addr.add; split <;> simp_all
  rwa [ha] at this

set_option maxRecDepth 100000 in
set_option maxHeartbeats 4000000 in
theorem grammarBlanks_any (L : List Tok) (v : Value) (w : World) (hL : Sl w v Tok.cells L) : Calls Try.prog 4 #[v] w fun e w' => e = .returned (.bool true) ∧ Below w.heap.size w w' := by
  obtain ⟨i0, hi, hz0, hz1, hz2⟩ := info_parts int_info9
  obtain ⟨b, off, p, cap, rfl, hp, hc⟩ := hL.open (k := 4) (fun _ => rfl)
  have f0 := awake3_any w
  by_cases h1 : 120 < L.length
  · have g1 : (120 : Int) < L.length := by omega
    go_enter Try.func4, Try.ntmps4
    go_wp2_with (go_at_call 8; refine' Calls.aft _ _ (f0) _; rotate_left 2; (exact Below.refl _ _; rfl); intro x1; have hle := After.le x1; (try simp at hle))
    go_ret
    exact ⟨rfl, x1.below⟩
  have g1 : ¬ (120 : Int) < L.length := by omega
  go_enter Try.func4, Try.ntmps4
  go_wp2_with (go_at_call 8; refine' Calls.aft _ _ (f0) _; rotate_left 2; (exact Below.refl _ _; rfl); intro x1; have hle := After.le x1; (try simp at hle))
  go_loopw [3, 4, 5, 6, 24] (fun ta tb fv tv i wr => ∃ (k : Nat) (S : List Tok) (A B : ByteArray), k ≤ L.length ∧ i = .int .i64 k ∧ ta = .string A ∧ tb = .string B ∧ Hid (A = joined S) ∧ Hid (B = beg9 ++ joinedR S) ∧ (∀ t ∈ S, stepAt t.s 0 = .tok { t with pos := 0 }) ∧ S.length ≤ k ∧
      A.size ≤ 61 * k ∧ B.size ≤ 66 * k + 9 ∧ Fr w.heap.size wr fv tv (fromL S) (toL S) ∧ Below w.heap.size w wr) (fun _ _ _ _ i _ => L.length - (RowKit.intOf i).toNat)
  case atStart => exact ⟨0, [], bs [], beg9 ++ joinedR [], Nat.zero_le _, rfl, rfl, rfl, rfl, rfl, fun t ht => by simp at ht, Nat.zero_le _, Nat.zero_le _, by decide, ⟨World.ownsRow_nil _ _ _ _, World.ownsRow_nil _ _ _ _, .inl rfl, .inl rfl⟩, x1.below⟩
  case round =>
    obtain ⟨k, S, A, B, hk, rfl, rfl, rfl, hA, hB', hS, hSk, hAz, hBz, hFr, hB⟩ := hrel
    have hw := hB.size
    have hFl := fromL_len S
    have hTl := toL_len S
    have hF1 := fromL_snoc S
    have hT1 := toL_snoc S
    by_cases hlt : k < L.length
    · have hpp := hp (by omega)
      subst hpp
      have cc := hc k hlt
      generalize L[k] = t at cc
      have c0 : wr.cell? ⟨b, off + k * 4, none⟩ = some (.int .i64 t.kind) := by
        have := cc 0 _ rfl
        have hb := World.block_lt_of_cell? _ _ this
        simpa using (hB.cell (p := ⟨b, off + (k * 4 + 0), none⟩) hb).trans this
      have cr : ∀ r u, t.cells[r]? = some u → wr.cell? ⟨b, off + k * 4 + r, none⟩ = some u := fun r u hu => by
        have := cc r u hu
        have hb := World.block_lt_of_cell? _ _ this
        rw [Nat.add_assoc]
        exact (hB.cell (p := ⟨b, off + (k * 4 + r), none⟩) hb).trans this
      have c1 := cr 1 _ rfl
      have c2 := cr 2 _ rfl
      have c3 := cr 3 _ rfl
      have hgw := World.block_lt_of_cell? _ _ c0
      clear hc cc cr
      by_cases hbig : 60 < t.s.size
      · have g2 : (60 : Int) < t.s.size := by omega
        go_wp2_with fail
        go_ret
        exact ⟨rfl, hB.alloc hw _⟩
      have g2 : ¬ (60 : Int) < t.s.size := by omega
      have hsh := show_any t.kind t.pos t.n t.s (by omega)
      have hd0 : Below wr.heap.size wr (wr.alloc (.cells #[.int .i64 t.kind, .int .i64 t.pos, .string t.s, .int .i64 t.n] 39)) := (Below.refl _ _).alloc (Nat.le_refl _) _
      cases hb : hasB t.kind t.n t.s
      · rw [showS, hb] at hsh
        go_wp2_with (go_at_call 13; refine (hsh _).mono ?_; rintro e9 W2 ⟨rfl, hB2⟩; have hBW := nextB hB2 hd0; have hFW := hFr.below hBW; have hBx := nextB hBW hB)
        go_roundw
        case rel => exact ⟨k + 1, S, A, B, by omega, by simp, rfl, rfl, hA, hB', hS, by omega, by omega, by omega, hFW, hBx⟩
        case measure => simp [RowKit.intOf]; omega
      · rw [showS, hb] at hsh
        have hst := Tk.has_step hb (by omega)
        have hS2 : ∀ u ∈ S ++ [t], stepAt u.s 0 = .tok { u with pos := 0 } := fun u hu => by
          rcases List.mem_append.1 hu with h' | h'
          · exact hS u h'
          · simp at h'; subst h'; exact hst
        have hF2 : Hid (fromL (S ++ [t]) = fromL S ++ [(A.size : Int)]) := by rw [hA]; exact hF1 t
        have hT2 : Hid (toL (S ++ [t]) = toL S ++ [(B.size : Int)]) := by rw [hB']; exact hT1 t
        have hA2 : Hid (A ++ (t.s ++ bs [32]) = joined (S ++ [t])) := by rw [hA]; exact (joined_snoc S t).symm
        have hB2' : Hid (B ++ (t.s ++ rem9) = beg9 ++ joinedR (S ++ [t])) := by rw [hB', joinedR_snoc, ByteArray.append_assoc]; rfl
        have hAs : (A ++ (t.s ++ bs [32])).size ≤ 61 * (k + 1) := by rw [ByteArray.size_append, ByteArray.size_append]; have : (bs [32]).size = 1 := rfl; omega
        have hBs : (B ++ (t.s ++ rem9)).size ≤ 66 * (k + 1) + 9 := by rw [ByteArray.size_append, ByteArray.size_append]; have : rem9.size = 6 := rfl; omega
        have hFl2 : (fromL S).length ≤ 120 := by omega
        have hTl2 : (toL S).length ≤ 120 := by omega
        clear hF1 hT1 hFl hTl hp f0
        generalize fromL S = F at hFr hF2 hFl2
        generalize toL S = T at hFr hT2 hTl2
        go_wp2_with (first | (go_at_call 13; refine (hsh _).mono ?_; rintro e9 W2 ⟨rfl, hB2⟩; have hBW := nextB hB2 hd0; have hFW := hFr.below hBW; have hBx := nextB hBW hB) | (at_builtin; refine wpList_append_tells rfl (.tmp 39) (.tmp 42) 37 rfl w.heap.size 3 i0 (.int .i64 0) 1 8 Try.underlying37 hi hz0 hz1 hz2 rfl (by decide) _ F.length (F.map iv) rfl (hFW.below ((Below.refl _ _).alloc (Nat.le_refl _) _)).f _ 1 1 [.int .i64 A.size] rfl rfl (one_news rfl) one_one (by unfold maxLen; omega) (by omega) (by have := hBx.size; simp; omega) (by decide) ?_; intro v1 w1 ho1 hg1 hv1; have hFa := (hFW.below ((Below.refl _ _).alloc (Nat.le_refl _) _)).growF hg1 ho1 hv1; have hBa : Below w.heap.size w w1 := Below.grown (hBx.alloc hBx.size _) hg1 (by have := hBx.size; simp; omega) (fun q hq => (hFW.f.lt q hq).1)) | (at_builtin; refine wpList_append_tells rfl (.tmp 44) (.tmp 47) 37 rfl w.heap.size 3 i0 (.int .i64 0) 1 8 Try.underlying37 hi hz0 hz1 hz2 rfl (by decide) _ T.length (T.map iv) rfl (hFa.below ((Below.refl _ _).alloc (Nat.le_refl _) _)).t _ 1 1 [.int .i64 B.size] rfl rfl (one_news rfl) one_one (by unfold maxLen; omega) (by omega) (by have := hBa.size; simp; omega) (by decide) ?_; intro v2 w2 ho2 hg2 hv2; have hFb := (hFa.below ((Below.refl _ _).alloc (Nat.le_refl _) _)).growT hg2 ho2 hv2; have hBb : Below w.heap.size w w2 := Below.grown (hBa.alloc hBa.size _) hg2 (by have := hBa.size; simp; omega) (fun q hq => (hFa.t.lt q hq).1)))
        go_roundw
        case rel => exact ⟨k + 1, S ++ [t], A ++ (t.s ++ bs [32]), B ++ (t.s ++ rem9), by omega, by simp, rfl, rfl, hA2, hB2', hS2, by simp; omega, hAs, hBs, by rw [hF2, hT2]; exact hFb, hBb⟩
        case measure => simp [RowKit.intOf]; omega
    · have hks : k = L.length := by omega
      have hbt := both S hS (by rw [← hB']; omega)
      rw [← hA, ← hB'] at hbt
      have hF2 : Hid (fromL S ++ [(A.size : Int)] = (LA S).map Tok.pos) := by rw [hA]; exact from_all S
      have hT2 : Hid (toL S ++ [(B.size : Int)] = (LB S).map Tok.pos) := by rw [hB']; exact to_all S
      have hfo := @found S (parse A).2 (parse B).2 hbt.2
      have he2 := hbt.2.1
      have hb1 := hbt.1
      have hFl2 : (fromL S).length ≤ 120 := by omega
      have hTl2 : (toL S).length = (fromL S).length := by omega
      have f1 := fun (W : World) => parse_any A W
      have f2 := fun (W : World) => parse_any B W
      have hlens := fun P => @lens A P
      unfold ParseOk at f1 f2
      clear hbt hF1 hT1 hFl hTl hp f0 hc hL hS hSk hA hB'
      rw [← hF2, ← hT2] at hfo
      generalize fromL S = F at *
      generalize toL S = T at *
      clear hF2 hT2
      generalize parse A = RA at *
      generalize parse B = RB at *
      obtain ⟨RP, e, pa⟩ := RA
      obtain ⟨RQ, e2, pb⟩ := RB
      simp only at f1 f2 he2 hb1 hfo hlens
      replace he2 := he2.symm
      replace hb1 := hb1.symm
      subst he2 hb1
      have hT3 : Hid (T.length = F.length) := hTl2
      clear hTl2
      have hf4 : ∀ (P Q : List Bl), P.map toBk = RP → Q.map toBk = RP → ∀ (pv qv : Value) (W : World), Pg W pv P → Pg W qv Q → Calls Try.prog 12 #[.agg #[pv], .agg #[qv]] W fun e w' => e = .returned (.bool true) ∧ Below W.heap.size W w' := fun P Q hP hQ pv qv W h1 h2 => by
        have := Pr.rsame_any P Q (hlens P hP).1 (hlens Q hQ).1 (hlens P hP).2 (hlens Q hQ).2 pv qv W h1 h2
        rw [sameP_of (hP.trans hQ.symm)] at this
        exact this
      have hsz : Hid ((T ++ [(B.size : Int)]).length = (F ++ [(A.size : Int)]).length ∧ (F ++ [(A.size : Int)]).length ≤ 121 ∧ 0 < (F ++ [(A.size : Int)]).length) := by
        have hT3 : T.length = F.length := hT3
        simp only [List.length_append, List.length_cons, List.length_nil]
        exact ⟨by omega, by omega, by omega⟩
      clear hlens
      have hgB : ¬ (16384 : Int) < B.size := by omega
      have hT4 : T.length ≤ 120 := by have hT3 : T.length = F.length := hT3; omega
      go_wp2_with (first | (at_builtin; refine wpList_append_tells rfl (.tmp 58) (.tmp 61) 37 rfl w.heap.size 3 i0 (.int .i64 0) 1 8 Try.underlying37 hi hz0 hz1 hz2 rfl (by decide) _ F.length (F.map iv) rfl (hFr.below ((Below.refl _ _).alloc (Nat.le_refl _) _)).f _ 1 1 [.int .i64 A.size] rfl rfl (one_news rfl) one_one (by unfold maxLen; omega) (by omega) (by have := hB.size; simp; omega) (by decide) ?_; intro v1 w1 ho1 hg1 hv1; have hFa := (hFr.below ((Below.refl _ _).alloc (Nat.le_refl _) _)).growF hg1 ho1 hv1; have hBa : Below w.heap.size w w1 := Below.grown (hB.alloc hB.size _) hg1 (by have := hB.size; simp; omega) (fun q hq => (hFr.f.lt q hq).1)) | (at_builtin; refine wpList_append_tells rfl (.tmp 63) (.tmp 66) 37 rfl w.heap.size 3 i0 (.int .i64 0) 1 8 Try.underlying37 hi hz0 hz1 hz2 rfl (by decide) _ T.length (T.map iv) rfl (hFa.below ((Below.refl _ _).alloc (Nat.le_refl _) _)).t _ 1 1 [.int .i64 B.size] rfl rfl (one_news rfl) one_one (by unfold maxLen; omega) (by omega) (by have := hBa.size; simp; omega) (by decide) ?_; intro v2 w2 ho2 hg2 hv2; have hFb := (hFa.below ((Below.refl _ _).alloc (Nat.le_refl _) _)).growT hg2 ho2 hv2; have hBb : Below w.heap.size w w2 := Below.grown (hBa.alloc hBa.size _) hg2 (by have := hBa.size; simp; omega) (fun q hq => (hFa.t.lt q hq).1); clear hFa ho1 ho2 hg1 hg2 hv1 hv2; generalize (F ++ [(A.size : Int)]) = FF at hFb hfo hsz; generalize (T ++ [(B.size : Int)]) = TT at hFb hfo hsz; obtain ⟨fg, fc, rfl, _, _⟩ := own_some hFb.f hsz.2.2; obtain ⟨tg, tc, rfl, _, _⟩ := own_some hFb.t (by rw [hsz.1]; exact hsz.2.2)) | (go_at_call 9; first | ((with_reducible refine (f1 _).mono ?_); rintro e9 W3 ⟨pv, P, rfl, hP, hPg, hB3⟩; obtain ⟨_, _, pp, pc, rfl, _, _⟩ := hPg.1.open Bl.cs_len; have hBc : Below w.heap.size w W3 := nextB hB3 hBb; have hFc := hFb.below hB3) | ((with_reducible refine (f2 _).mono ?_); rintro e9 W4 ⟨qv, Q, rfl, hQ, hQg, hB4⟩; obtain ⟨_, _, qp, qc, rfl, _, _⟩ := hQg.1.open Bl.cs_len; have hB4a := nextB hB4 (((Below.refl _ _).alloc (Nat.le_refl _) _).alloc (by simp) _); obtain ⟨_, hRp, hFp⟩ := two W3 (.cells #[.slice pp P.length pc] 25) (.cells #[.int .i64 e, .int .i64 pa] 28); have hR4 := blkN hB4 hRp; have hF4 := blkN hB4 hFp; obtain ⟨c0, cl⟩ := row1 hR4; obtain ⟨d0, d1, df, dl⟩ := row2 hF4; have hPg4 := hPg.below hB4a; have hFd := hFc.below hB4a; have hBd := nextB hB4a hBc)) | (go_at_call 12; refine' Calls.aft _ _ (hf4 P Q hP hQ _ _ _ (hPg4.below (((Below.refl _ _).alloc (Nat.le_refl _) _).alloc (by simp) _)) (hQg.below (((Below.refl _ _).alloc (Nat.le_refl _) _).alloc (by simp) _))) _; rotate_left 2; (exact Below.refl _ _; rfl); intro x5; have hle := After.le x5; (try simp at hle)))
      have hX : Below W4.heap.size W4 x5.val := nextB x5.below (((Below.refl _ _).alloc (Nat.le_refl _) _).alloc (by simp) _)
      obtain ⟨_, _, hGp⟩ := two W4 (.cells #[.slice qp Q.length qc] 25) (.cells #[.int .i64 e, .int .i64 pb] 28)
      have hG5 := blkN x5.below hGp
      have hF5 := blkN hX hF4
      have hFe := hFd.below hX
      have hBe := nextB hX hBd
      obtain ⟨y0, y1, yf, yl⟩ := row2 hF5
      obtain ⟨z0, z1, zf, zl⟩ := row2 hG5
      clear c0 d0 d1 df hf4 f1 f2 hFb hFc hFd hF4 hR4 hRp hFp hGp hPg hPg4 hQg hX
      have hKF := hFe.f
      have hKT := hFe.t
      clear hFe
      have hle5 := x5.le
      generalize x5.val = V at *
      by_cases he0 : e = 0
      · subst he0
        have hsz2 : FF.length ≤ 121 := hsz.2.1
        clear hfo
        go_loop [94] (fun i => ∃ k : Nat, k ≤ FF.length ∧ i = .int .i64 k) (fun i => FF.length - (RowKit.intOf i).toNat)
        case atStart => exact ⟨0, Nat.zero_le _, rfl⟩
        case round =>
          obtain ⟨k, hk, rfl⟩ := hrel
          by_cases hlt : k < FF.length
          · have ck := row_int hKF _ (List.getElem?_eq_getElem hlt)
            generalize FF[k] = x at ck
            have hlt2 : (k : Int) < FF.length := by omega
            have cl := World.block_lt_of_cell? _ _ ck
            go_wp2_with fail
            go_round
            case rel => exact ⟨k + 1, by omega, by simp⟩
            case measure => simp [RowKit.intOf]; omega
          · have hlt2 : ¬ (k : Int) < FF.length := by omega
            go_wp2_with fail
            go_ret
            exact ⟨rfl, hBe⟩
      · have hne : (e != 0) = true := by simpa using he0
        obtain ⟨i, hi1, hi2, hi3⟩ := hfo he0
        have hsz2 : FF.length ≤ 121 := hsz.2.1
        have hii : i < FF.length := (List.getElem?_eq_some_iff.1 hi1).1
        have htt : i < TT.length := (List.getElem?_eq_some_iff.1 hi2).1
        clear hfo
        go_loop [94] (fun q => ∃ k : Nat, k ≤ i ∧ q = .int .i64 k) (fun q => FF.length - (RowKit.intOf q).toNat)
        case atStart => exact ⟨0, Nat.zero_le _, rfl⟩
        case round =>
          obtain ⟨k, hk, rfl⟩ := hrel
          have hlt2 : (k : Int) < FF.length := by omega
          by_cases hlt : k < i
          · have ck := row_int hKF _ (List.getElem?_eq_getElem (show k < FF.length by omega))
            have hx := hi3 k hlt _ (List.getElem?_eq_getElem (show k < FF.length by omega))
            generalize FF[k] = x at ck hx
            have hxb : (pa == x) = false := by simpa using fun h => hx h.symm
            have cl := World.block_lt_of_cell? _ _ ck
            clear hx hi3
            go_wp2_with fail
            go_round
            case rel => exact ⟨k + 1, by omega, by simp⟩
            case measure => simp [RowKit.intOf]; omega
          · have hki : k = i := by omega
            subst hki
            have ck := row_int hKF _ hi1
            have ct := row_int hKT _ hi2
            have cl := World.block_lt_of_cell? _ _ ck
            have ctl := World.block_lt_of_cell? _ _ ct
            have htt2 : (k : Int) < TT.length := by omega
            have e1 : (pa == pa) = true := by simp
            have e2 : (pb == pb) = true := by simp
            clear hi3 hi1 hi2
            go_wp2_with fail
            go_region
            all_goals (go_wp2_with fail; go_ret; exact ⟨rfl, hBe.drew⟩)

end Go.Proofs.Ytmnplnhblniimaa.Gr

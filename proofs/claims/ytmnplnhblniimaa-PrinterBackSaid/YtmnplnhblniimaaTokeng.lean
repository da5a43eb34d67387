/- token.Of: the tokens of a text. -/
import Derived.Test.YtmnplnhblniimaaTokenf
namespace Go.Proofs.Ytmnplnhblniimaa.Tk
set_option linter.unusedVariables false
set_option linter.unusedSimpArgs false
open Go Go.RowKit

def frame (s : ByteArray) (w : World) (v : Value) (k : Nat) (u : Nat → Value) : Act := { tmps := #[.string s, u 1, u 2, .pointer (some ⟨w.heap.size, 0, none⟩), v, .pointer (some ⟨w.heap.size + 1, 0, none⟩), .int .i64 3, u 7, .int .i64 k, u 9, u 10, u 11, u 12, u 13, u 14, u 15, u 16, u 17, u 18, u 19, u 20, u 21, u 22, u 23, u 24, u 25, u 26, u 27, u 28, u 29, u 30, u 31, u 32, u 33, u 34, u 35, u 36, u 37, u 38, u 39, u 40, u 41, u 42, u 43, u 44, u 45, u 46, u 47, u 48, u 49, u 50, u 51, u 52, u 53, u 54, u 55, u 56, u 57, u 58, u 59, u 60, u 61, u 62, u 63, u 64, u 65, u 66, u 67, u 68, u 69, u 70, u 71, u 72, u 73, u 74, u 75, u 76, u 77, u 78, u 79, u 80, u 81, u 82, u 83, u 84, u 85, u 86, u 87, u 88, u 89, u 90, u 91, u 92, u 93, u 94, u 95, u 96, u 97, u 98, u 99, u 100, u 101, u 102, u 103, u 104, u 105, u 106, u 107, u 108, u 109, u 110, u 111, u 112, u 113, u 114, u 115, u 116, u 117, u 118, u 119, u 120, u 121, u 122, u 123, u 124, u 125, u 126, u 127, u 128, u 129, u 130, u 131, u 132, u 133, u 134, u 135, u 136, u 137, u 138, u 139, u 140, u 141, u 142, u 143, u 144, u 145, u 146, u 147, u 148, u 149, u 150], defers := [] }
/-- The two variables in memory: the fault (0, 0), and a token. -/
structure Vars (w : World) (B : Nat) (d0 d1 d2 d3 : Value) : Prop where
  f0 : w.cell? ⟨B, 0, none⟩ = some (.int .i64 0)
  f1 : w.cell? ⟨B, 1, none⟩ = some (.int .i64 0)
  g0 : w.frozen? ⟨B, 0, none⟩ = false
  g1 : w.frozen? ⟨B, 1, none⟩ = false
  t0 : w.cell? ⟨B + 1, 0, none⟩ = some d0
  t1 : w.cell? ⟨B + 1, 1, none⟩ = some d1
  t2 : w.cell? ⟨B + 1, 2, none⟩ = some d2
  t3 : w.cell? ⟨B + 1, 3, none⟩ = some d3
  h0 : w.frozen? ⟨B + 1, 0, none⟩ = false
  h1 : w.frozen? ⟨B + 1, 1, none⟩ = false
  h2 : w.frozen? ⟨B + 1, 2, none⟩ = false
  h3 : w.frozen? ⟨B + 1, 3, none⟩ = false

theorem Vars.grown {w w' : World} {B : Nat} {d0 d1 d2 d3 : Value} {row : Option Nat} (h : Vars w B d0 d1 d2 d3) (hg : w.grownBy w' row) (hr : ∀ k, row = some k → B + 2 ≤ k) : Vars w' B d0 d1 d2 d3 := by
  have e0 : w'.heap[B]? = w.heap[B]? := hg.block B (World.block_lt_of_cell? _ _ h.f0) (fun e => by have := hr _ e.symm; omega)
  have e1 : w'.heap[B + 1]? = w.heap[B + 1]? := hg.block (B + 1) (World.block_lt_of_cell? _ _ h.t0) (fun e => by have := hr _ e.symm; omega)
  exact ⟨(World.cell?_of_block e0).trans h.f0, (World.cell?_of_block e0).trans h.f1, (World.frozen?_of_block e0).trans h.g0, (World.frozen?_of_block e0).trans h.g1,
    (World.cell?_of_block e1).trans h.t0, (World.cell?_of_block e1).trans h.t1, (World.cell?_of_block e1).trans h.t2, (World.cell?_of_block e1).trans h.t3,
    (World.frozen?_of_block e1).trans h.h0, (World.frozen?_of_block e1).trans h.h1, (World.frozen?_of_block e1).trans h.h2, (World.frozen?_of_block e1).trans h.h3⟩

theorem own_set {w : World} {base : Nat} {e : TypeId} {size : Nat} {v : Value} {n : Nat} {xs : List Value} (h : w.ownsRow base e size v n xs) {p : Addr} (u : Value) (hp : p.block < base) : (w.setCell p u).ownsRow base e size v n xs :=
  h.kept (row := some p.block) ⟨rfl, rfl, rfl, by simp, fun k _ hk => heap_setCell_other w p k u (fun e => hk (by simp [e]))⟩ (by
    right
    intro e
    have := (h.lt _ e).1
    omega)

theorem cell_set {w : World} {p q : Addr} {u d : Value} (h : w.cell? q = some d) : (w.setCell p u).cell? q = if p = q then some u else some d := by
  by_cases e : p = q
  · subst e
    rw [if_pos rfl]
    exact World.cell?_setCell_same' _ _ _ (by rw [h]; rfl)
  · rw [if_neg e, ← h]
    first | exact World.cell?_setCell_other _ e | exact World.cell?_setCell_other e | (apply World.cell?_setCell_other; exact e)

/-- One cell of the token is written. -/
theorem Vars.set0 {w : World} {B : Nat} {d0 d1 d2 d3 : Value} (h : Vars w B d0 d1 d2 d3) (a : Value) : Vars (w.setCell ⟨B + 1, 0, none⟩ a) B a d1 d2 d3 := by
  obtain ⟨f0, f1, g0, g1, t0, t1, t2, t3, h0, h1, h2, h3⟩ := h
  constructor <;> first | (rw [World.frozen?_setCell]; assumption) | (rw [cell_set (by assumption)]; simp)
theorem Vars.set1 {w : World} {B : Nat} {d0 d1 d2 d3 : Value} (h : Vars w B d0 d1 d2 d3) (a : Value) : Vars (w.setCell ⟨B + 1, 1, none⟩ a) B d0 a d2 d3 := by
  obtain ⟨f0, f1, g0, g1, t0, t1, t2, t3, h0, h1, h2, h3⟩ := h
  constructor <;> first | (rw [World.frozen?_setCell]; assumption) | (rw [cell_set (by assumption)]; simp)
theorem Vars.set2 {w : World} {B : Nat} {d0 d1 d2 d3 : Value} (h : Vars w B d0 d1 d2 d3) (a : Value) : Vars (w.setCell ⟨B + 1, 2, none⟩ a) B d0 d1 a d3 := by
  obtain ⟨f0, f1, g0, g1, t0, t1, t2, t3, h0, h1, h2, h3⟩ := h
  constructor <;> first | (rw [World.frozen?_setCell]; assumption) | (rw [cell_set (by assumption)]; simp)
theorem Vars.set3 {w : World} {B : Nat} {d0 d1 d2 d3 : Value} (h : Vars w B d0 d1 d2 d3) (a : Value) : Vars (w.setCell ⟨B + 1, 3, none⟩ a) B d0 d1 d2 a := by
  obtain ⟨f0, f1, g0, g1, t0, t1, t2, t3, h0, h1, h2, h3⟩ := h
  constructor <;> first | (rw [World.frozen?_setCell]; assumption) | (rw [cell_set (by assumption)]; simp)
theorem Vars.alloc {w : World} {B : Nat} {d0 d1 d2 d3 : Value} (h : Vars w B d0 d1 d2 d3) (o : Obj) : Vars (w.alloc o) B d0 d1 d2 d3 := h.grown (World.grownBy_alloc w o none) (fun _ e => by cases e)
theorem Vars.below {w w' : World} {B : Nat} {d0 d1 d2 d3 : Value} (h : Vars w B d0 d1 d2 d3) (hb : Below w.heap.size w w') : Vars w' B d0 d1 d2 d3 :=
  h.grown (row := none) ⟨hb.os, hb.tape, hb.output, hb.size, fun k hk _ => hb.block k hk⟩ (fun _ e => by cases e)

theorem skip_in {P : Program} {c : Code} {Q : Exit → Act → World → Prop} {a : Act} {w : World} (h : c.wp P Q a w) : (Code.skip.seq c).wp P Q a w := wp_seq (wp_skip h)

theorem own_base {w : World} {base base' : Nat} {e : TypeId} {size : Nat} {v : Value} {n : Nat} {xs : List Value} (h : w.ownsRow base e size v n xs) (hb : base' ≤ base) : w.ownsRow base' e size v n xs :=
  ⟨h.1, h.2.imp id (fun ⟨g, cap, cur, h1, h2, h3⟩ => ⟨g, cap, cur, h1, Nat.le_trans hb h2, h3⟩)⟩

/-- What holds wherever the run comes to 'next'. -/
def AtNext (s : ByteArray) (R : Res) (w : World) (a' : Act) (w' : World) : Prop :=
  ∃ (v d0 d1 d2 d3 : Value) (k n : Nat) (out : List Tok),
    (k ≤ s.size ∧ s.size < n + k ∧ scan s n k out = R ∧ out.length ≤ k ∧ w'.ownsRow (w.heap.size + 2) 39 4 v out.length (cells out) ∧ Below w.heap.size w w' ∧ w.heap.size + 2 ≤ w'.heap.size ∧
      Vars w' w.heap.size d0 d1 d2 d3) ∧
    a' = frame s w v k (fun i => a'.tmps.getD i undef)

noncomputable def scC : Code := match Try.f29.body with
  | some (.seq _ (.scope c)) => c
  | _ => .skip
/-- What stands at 'put'. -/
noncomputable def put4 : Code := match Try.f29.body with
  | some (.seq _ (.scope (.seq _ (.seq _ (.seq _ (.seq _ (.seq _ (.seq _ (.seq _ (.seq _ (.seq _ (.seq _ (.seq _ (.seq _ (.seq _ (.seq _ (.seq _ (.seq _ (.seq _ (.seq _ (.seq _ (.seq _ (.seq _ (.seq _ (.seq _ (r)))))))))))))))))))))))))) => r
  | _ => .skip

def measure (s : ByteArray) (a' : Act) (_ : World) : Nat := s.size - (intOf (a'.tmps.getD 8 undef)).toNat

set_option maxRecDepth 100000 in
set_option maxHeartbeats 4000000 in
theorem put_step {s : ByteArray} {R : Res} {w W : World} {v : Value} {k j n M : Nat} {kind num : Int} {word : ByteArray} {out : List Tok} {m : Nat} {C : Code} {Q : Exit → Act → World → Prop} {a : Act}
    (h : s.size ≤ 16384) (hj : k < j) (hj2 : j ≤ s.size) (hn : s.size < n + j) (hs : scan s n j (out ++ [⟨kind, k, word, num⟩]) = R) (hol : out.length ≤ k)
    (hown : W.ownsRow (w.heap.size + 2) 39 4 v out.length (cells out)) (hB : Below w.heap.size w W) (hsz : w.heap.size + 2 ≤ W.heap.size)
    (hV : Vars W w.heap.size (.int .i64 kind) (.int .i64 k) (.string word) (.int .i64 num)) (hM : s.size - j < M) (ha : a = frame s w v j (fun i => a.tmps.getD i undef)) :
    put4.wp Try.prog (via Try.prog C 0 (fun a' w' => AtNext s R w a' w' ∧ measure s a' w' < M) Q m) a W := by
  obtain ⟨i0, hi, hz0, hz1, hz2⟩ := info_parts tok_info
  obtain ⟨u, hu⟩ : ∃ u : Nat → Value, (fun i => a.tmps.getD i undef) = u := ⟨_, rfl⟩
  rw [hu] at ha
  clear hu
  subst ha
  have hV' := hV
  obtain ⟨f0, f1, g0, g1, t0, t1, t2, t3, h0, h1, h2, h3⟩ := hV'
  simp only [frame]
  unfold put4
  dsimp only [Try.f29]
  go_wp2_with ((at_builtin; refine wpList_append_own _ rfl _ _ 36 rfl (w.heap.size + 2) 39 i0 (.agg #[.int .i64 0, .int .i64 0, .string ⟨#[]⟩, .int .i64 0]) 4 40 Try.underlying36 hi hz0 hz1 hz2 rfl (by decide) v out.length (cells out) rfl ?b _ 1 1 [.int .i64 kind, .int .i64 k, .string word, .int .i64 num] rfl rfl ?c1 ?c2 ?c3 ?c4 ?c5 ?_))
  case b => exact hown.alloc _
  case c1 => exact tok_news (by simp) (by simp) (by simp) (by simp)
  case c2 => intro u hu; simp at hu; rcases hu with rfl | rfl | rfl | rfl <;> rfl
  case c3 => unfold maxLen; omega
  case c4 => omega
  case c5 => simp; omega
  · intro v' w1 hown' hgrow _
    have hlt1 := hown.lt
    have hown2 := own_snoc (out := out) (t := ⟨kind, k, word, num⟩) hown' rfl rfl
    have hB2 : Below w.heap.size w w1 := by
      refine Below.grown (w := _) (Below.trans hB ?_) hgrow ?_ (fun q hq => by have := (hlt1 q hq).1; omega)
      · (repeat (first | exact Below.refl _ _ | apply Below.drew | refine Below.alloc ?_ ?_ _ | refine Below.setCell ?_ ?_ _ | refine Below.trans ?_ (Below.mono (After.below _) ?_))); (all_goals (first | (simp; done) | (simp; omega) | omega))
      · simp; omega
    have hV3 := (hV.alloc (.cells #[.int .i64 kind, .int .i64 k, .string word, .int .i64 num] 39)).grown hgrow (fun q hq => by have := (hlt1 q hq).1; omega)
    have hsz2 : w.heap.size + 2 ≤ w1.heap.size := Nat.le_trans (by simp; omega) hgrow.size
    go_wp2_with fail
    (try go_step3)
    (try simp only [then_goto, block_goto])
    exact via_back _ ⟨⟨v', _, _, _, _, j, n, out ++ [⟨kind, k, word, num⟩], ⟨by omega, by omega, hs, by simp; omega, hown2, hB2, hsz2, hV3⟩, rfl⟩, by simpa [measure, intOf] using hM⟩

noncomputable def r23 : Code := match Try.f29.body with
  | some (.seq _ (.scope (.seq _ (.seq _ (.seq _ (.seq _ (.seq _ (.seq _ (.seq _ (.seq _ (.seq _ (.seq _ (.seq _ (.seq _ (.seq _ (.seq _ (r))))))))))))))))) => r
  | _ => .skip
noncomputable def r30 : Code := match Try.f29.body with
  | some (.seq _ (.scope (.seq _ (.seq _ (.seq _ (.seq _ (.seq _ (.seq _ (.seq _ (.seq _ (.seq _ (.seq _ (.seq _ (.seq _ (.seq _ (.seq _ (.seq _ (.seq _ (.seq _ (.seq _ (.seq _ (r)))))))))))))))))))))) => r
  | _ => .skip
theorem find4 : findLabel scC 4 = some (Code.skip.seq put4) := rfl
def frame7 (s : ByteArray) (w : World) (v : Value) (k j : Nat) (u : Nat → Value) : Act := { tmps := #[.string s, u 1, u 2, .pointer (some ⟨w.heap.size, 0, none⟩), v, .pointer (some ⟨w.heap.size + 1, 0, none⟩), .int .i64 3, .int .i64 k, .int .i64 j, u 9, u 10, u 11, u 12, u 13, u 14, u 15, u 16, u 17, u 18, u 19, u 20, u 21, u 22, u 23, u 24, u 25, u 26, u 27, u 28, u 29, u 30, u 31, u 32, u 33, u 34, u 35, u 36, u 37, u 38, u 39, u 40, u 41, u 42, u 43, u 44, u 45, u 46, u 47, u 48, u 49, u 50, u 51, u 52, u 53, u 54, u 55, u 56, u 57, u 58, u 59, u 60, u 61, u 62, u 63, u 64, u 65, u 66, u 67, u 68, u 69, u 70, u 71, u 72, u 73, u 74, u 75, u 76, u 77, u 78, u 79, u 80, u 81, u 82, u 83, u 84, u 85, u 86, u 87, u 88, u 89, u 90, u 91, u 92, u 93, u 94, u 95, u 96, u 97, u 98, u 99, u 100, u 101, u 102, u 103, u 104, u 105, u 106, u 107, u 108, u 109, u 110, u 111, u 112, u 113, u 114, u 115, u 116, u 117, u 118, u 119, u 120, u 121, u 122, u 123, u 124, u 125, u 126, u 127, u 128, u 129, u 130, u 131, u 132, u 133, u 134, u 135, u 136, u 137, u 138, u 139, u 140, u 141, u 142, u 143, u 144, u 145, u 146, u 147, u 148, u 149, u 150], defers := [] }

set_option maxRecDepth 100000 in
set_option maxHeartbeats 4000000 in
theorem name_end {s : ByteArray} {R : Res} {w wr : World} {v d0 d1 d2 d3 : Value} {k n M : Nat} {out : List Tok} {a : Act}
    (h : s.size ≤ 16384) (hlt : k < s.size) (hn : s.size < n + 1 + k) (hs : scan s (n + 1) k out = R) (hol : out.length ≤ k) (b1 : blankB (byt s k) = false) (b2 : ¬ byt s k = 35) (l : letterB (byt s k) = true)
    (hown : wr.ownsRow (w.heap.size + 2) 39 4 v out.length (cells out)) (hB : Below w.heap.size w wr) (hsz : w.heap.size + 2 ≤ wr.heap.size)
    (hV : Vars wr w.heap.size d0 d1 d2 d3) (hM : s.size - k ≤ M) (ha : a = frame7 s w v k (runTo alnumB s k) (fun i => a.tmps.getD i undef)) :
    r23.wp Try.prog (via Try.prog scC 0 (fun a' w' => AtNext s R w a' w' ∧ measure s a' w' < M) (bodyPost Try.prog Try.f29 fun e w' => ∃ v, e = .returned (.tuple #[v, .agg #[.int .i64 R.e, .int .i64 R.pos]]) ∧ w'.ownsRow w.heap.size 39 4 v R.l.length (cells R.l) ∧ Below w.heap.size w w') 1) a wr := by
  obtain ⟨u, hu⟩ : ∃ u : Nat → Value, (fun i => a.tmps.getD i undef) = u := ⟨_, rfl⟩
  rw [hu] at ha
  clear hu
  subst ha
  have hV' := hV
  obtain ⟨f0, f1, g0, g1, t0, t1, t2, t3, h0, h1, h2, h3⟩ := hV'
  have rg : k < runTo alnumB s k := by rw [runTo_go hlt (by simp [alnumB, l])]; exact runTo_ge _ _ _
  have rl := runTo_le alnumB s k (by omega)
  have rg2 := runTo_ge alnumB s k
  have sz := size_run alnumB s k (by omega)
  have hD := digits_run s k (by omega)
  have hw0 : w.heap.size < wr.heap.size := by omega
  have hw1 : w.heap.size + 1 < wr.heap.size := by omega
  have hM2 : s.size - runTo alnumB s k < M := by omega
  simp only [frame7]
  unfold r23
  dsimp only [Try.f29]
  by_cases g : wordB (s.extract k (runTo alnumB s k)) = true
  · have hst : stepAt s k = .tok ⟨4, k, (s.extract k (runTo alnumB s k)), 0⟩ := by simp [stepAt, hlt, b1, b2, l, g, -ByteArray.size_extract]
    rw [scan, hst] at hs
    simp only [] at hs
    rw [sz, show k + (runTo alnumB s k - k) = runTo alnumB s k by omega] at hs
    go_wp2_with ((go_at_call 59; refine Calls.same (word_any _ _) ?_))
    (try go_step3)
    (try simp only [then_goto, block_goto])
    refine via_fore find4 (skip_in (put_step (s := s) (R := R) (w := w) (k := k) (j := runTo alnumB s k) (kind := 4) (num := 0) (word := (s.extract k (runTo alnumB s k))) (n := n) (out := out) (v := v) h (by omega) (by omega) (by omega) hs hol ?own ?bel ?siz ?var ?mea rfl))
    case own => ((repeat (first | with_reducible exact hown | with_reducible refine World.ownsRow.alloc ?_ _ | with_reducible refine own_set ?_ _ (by simp) | with_reducible exact own_below hown (After.below _) | with_reducible exact own_below hown (Below.mono (After.below _) (Nat.le_refl _)))))
    case bel => exact ((((((((((hB).setCell (p := ⟨w.heap.size + 1, 0, none⟩) (by simp) _)).setCell (p := ⟨w.heap.size + 1, 1, none⟩) (by simp) _)).setCell (p := ⟨w.heap.size + 1, 2, none⟩) (by simp) _)).setCell (p := ⟨w.heap.size + 1, 3, none⟩) (by simp) _)).setCell (p := ⟨w.heap.size + 1, 0, none⟩) (by simp) _)
    case siz => simp; omega
    case var => exact ((((hV.set0 _).set1 _).set2 _).set3 _).set0 _
    case mea => exact hM2
  · by_cases z : 12 < (s.extract k (runTo alnumB s k)).size
    · have hst : stepAt s k = .bad 6 := by simp [stepAt, hlt, b1, b2, l, g, z, -ByteArray.size_extract]
      have z2 : (12 : Int) < ((s.extract k (runTo alnumB s k)).size : Int) := by omega
      rw [scan, hst] at hs
      simp only [] at hs
      go_wp2_with ((go_at_call 59; refine Calls.same (word_any _ _) ?_))
      subst hs
      (try simp only [via_ret, block_ret, then_ret])
      refine bodyPost_ret (v := .tuple #[.slice none 0 0, .agg #[.int .i64 6, .int .i64 k]]) (by simp only [results, Try.results29]; go_simp) rfl ⟨_, rfl, World.ownsRow_nil _ _ _ _, ?_⟩
      exact ((((((((((((hB).setCell (p := ⟨w.heap.size + 1, 0, none⟩) (by simp) _)).setCell (p := ⟨w.heap.size + 1, 1, none⟩) (by simp) _)).setCell (p := ⟨w.heap.size + 1, 2, none⟩) (by simp) _)).setCell (p := ⟨w.heap.size + 1, 3, none⟩) (by simp) _)).setCell (p := ⟨w.heap.size, 0, none⟩) (by simp) _)).setCell (p := ⟨w.heap.size, 1, none⟩) (by simp) _)
    · have hst : stepAt s k = .tok ⟨1, k, (s.extract k (runTo alnumB s k)), 0⟩ := by simp [stepAt, hlt, b1, b2, l, g, z, -ByteArray.size_extract]
      have z2 : ¬ (12 : Int) < ((s.extract k (runTo alnumB s k)).size : Int) := by omega
      rw [scan, hst] at hs
      simp only [] at hs
      rw [sz, show k + (runTo alnumB s k - k) = runTo alnumB s k by omega] at hs
      go_wp2_with ((go_at_call 59; refine Calls.same (word_any _ _) ?_))
      (try go_step3)
      (try simp only [then_goto, block_goto])
      refine via_fore find4 (skip_in (put_step (s := s) (R := R) (w := w) (k := k) (j := runTo alnumB s k) (kind := 1) (num := 0) (word := (s.extract k (runTo alnumB s k))) (n := n) (out := out) (v := v) h (by omega) (by omega) (by omega) hs hol ?own ?bel ?siz ?var ?mea rfl))
      case own => ((repeat (first | with_reducible exact hown | with_reducible refine World.ownsRow.alloc ?_ _ | with_reducible refine own_set ?_ _ (by simp) | with_reducible exact own_below hown (After.below _) | with_reducible exact own_below hown (Below.mono (After.below _) (Nat.le_refl _)))))
      case bel => exact ((((((((hB).setCell (p := ⟨w.heap.size + 1, 0, none⟩) (by simp) _)).setCell (p := ⟨w.heap.size + 1, 1, none⟩) (by simp) _)).setCell (p := ⟨w.heap.size + 1, 2, none⟩) (by simp) _)).setCell (p := ⟨w.heap.size + 1, 3, none⟩) (by simp) _)
      case siz => simp; omega
      case var => exact (((hV.set0 _).set1 _).set2 _).set3 _
      case mea => exact hM2

set_option maxRecDepth 100000 in
set_option maxHeartbeats 4000000 in
theorem dig_end {s : ByteArray} {R : Res} {w wr : World} {v d0 d1 d2 d3 : Value} {k n M : Nat} {out : List Tok} {a : Act}
    (h : s.size ≤ 16384) (hlt : k < s.size) (hn : s.size < n + 1 + k) (hs : scan s (n + 1) k out = R) (hol : out.length ≤ k) (b1 : blankB (byt s k) = false) (b2 : ¬ byt s k = 35) (l : letterB (byt s k) = false) (d : digitB (byt s k) = true)
    (hown : wr.ownsRow (w.heap.size + 2) 39 4 v out.length (cells out)) (hB : Below w.heap.size w wr) (hsz : w.heap.size + 2 ≤ wr.heap.size)
    (hV : Vars wr w.heap.size d0 d1 d2 d3) (hM : s.size - k ≤ M) (ha : a = frame7 s w v k (runTo digitB s k) (fun i => a.tmps.getD i undef)) :
    r30.wp Try.prog (via Try.prog scC 0 (fun a' w' => AtNext s R w a' w' ∧ measure s a' w' < M) (bodyPost Try.prog Try.f29 fun e w' => ∃ v, e = .returned (.tuple #[v, .agg #[.int .i64 R.e, .int .i64 R.pos]]) ∧ w'.ownsRow w.heap.size 39 4 v R.l.length (cells R.l) ∧ Below w.heap.size w w') 1) a wr := by
  obtain ⟨u, hu⟩ : ∃ u : Nat → Value, (fun i => a.tmps.getD i undef) = u := ⟨_, rfl⟩
  rw [hu] at ha
  clear hu
  subst ha
  have hV' := hV
  obtain ⟨f0, f1, g0, g1, t0, t1, t2, t3, h0, h1, h2, h3⟩ := hV'
  have rg : k < runTo digitB s k := by rw [runTo_go hlt (by exact d)]; exact runTo_ge _ _ _
  have rl := runTo_le digitB s k (by omega)
  have rg2 := runTo_ge digitB s k
  have sz := size_run digitB s k (by omega)
  have hD := digits_run s k (by omega)
  have hw0 : w.heap.size < wr.heap.size := by omega
  have hw1 : w.heap.size + 1 < wr.heap.size := by omega
  have hM2 : s.size - runTo digitB s k < M := by omega
  simp only [frame7]
  unfold r30
  dsimp only [Try.f29]
  have hD1 : 0 < (s.extract k (runTo digitB s k)).size := by omega
  have hD2 : (s.extract k (runTo digitB s k)).size ≤ 16384 := by omega
  have h1f := figure_any (s.extract k (runTo digitB s k)) hD hD1 hD2 k
  by_cases fe : figE (s.extract k (runTo digitB s k)) = 0
  · have hst : stepAt s k = .tok ⟨2, k, (s.extract k (runTo digitB s k)), num (s.extract k (runTo digitB s k))⟩ := by
      have fe' := fe
      simp only [figE] at fe'
      split at fe'
      · cases fe'
      · rename_i n1
        split at fe'
        · cases fe'
        · rename_i n2
          simp [stepAt, hlt, b1, b2, l, d, n1, -ByteArray.size_extract]
          intro h3 h4
          exact absurd ⟨h3, h4⟩ n2
    have ft : figT (s.extract k (runTo digitB s k)) k = ⟨2, k, (s.extract k (runTo digitB s k)), num (s.extract k (runTo digitB s k))⟩ := by rw [figT, if_pos fe]
    rw [ft, fe] at h1f
    rw [scan, hst] at hs
    simp only [] at hs
    rw [sz, show k + (runTo digitB s k - k) = runTo digitB s k by omega] at hs
    go_wp2_with ((go_at_call 60; refine' Calls.aft _ _ (h1f _) _; rotate_left 2; (first | (with_reducible exact After.below _; rfl) | (with_reducible exact below_drew (After.below _); rfl) | (with_reducible exact below_set (After.below _) _ _; (go_simp; rfl)) | (with_reducible exact below_set (below_set (After.below _) _ _) _ _; (go_simp; rfl)) | (with_reducible exact below_set (below_set (below_set (After.below _) _ _) _ _) _ _; (go_simp; rfl)) | (with_reducible exact below_set (below_set (below_set (below_set (After.below _) _ _) _ _) _ _) _ _; (go_simp; rfl)) | (exact Below.refl _ _; rfl)); intro x1; have hle := After.le x1; (try simp at hle)))
    rename_i hK
    go_step3
    refine hK _ _ (put_step (s := s) (R := R) (w := w) (k := k) (j := runTo digitB s k) (kind := 2) (num := (num (s.extract k (runTo digitB s k)))) (word := (s.extract k (runTo digitB s k))) (n := n) (out := out) (v := v) h (by omega) (by omega) (by omega) hs hol ?own ?bel ?siz ?var ?mea rfl)
    case own => ((repeat (first | with_reducible exact hown | with_reducible refine World.ownsRow.alloc ?_ _ | with_reducible refine own_set ?_ _ (by simp) | with_reducible exact own_below hown (After.below _) | with_reducible exact own_below hown (Below.mono (After.below _) (Nat.le_refl _)))))
    case bel => exact ((((((((Below.trans hB (Below.mono (After.below x1) (by omega))).setCell (p := ⟨w.heap.size + 1, 0, none⟩) (by simp) _)).setCell (p := ⟨w.heap.size + 1, 1, none⟩) (by simp) _)).setCell (p := ⟨w.heap.size + 1, 2, none⟩) (by simp) _)).setCell (p := ⟨w.heap.size + 1, 3, none⟩) (by simp) _)
    case siz => have hz := x1.le; (try simp at hz); simp; omega
    case var => exact ((((Vars.below hV (After.below x1)).set0 _).set1 _).set2 _).set3 _
    case mea => exact hM2
  · have hst : stepAt s k = .bad (figE (s.extract k (runTo digitB s k))) := by
      have fe' := fe
      simp only [figE] at fe' ⊢
      split
      · rename_i n1
        simp [stepAt, hlt, b1, b2, l, d, n1, -ByteArray.size_extract]
      · rename_i n1
        split
        · rename_i n2
          simp [stepAt, hlt, b1, b2, l, d, n1, n2.1, n2.2, -ByteArray.size_extract]
        · rename_i n2
          rw [if_neg n1, if_neg n2] at fe'
          exact absurd rfl fe'
    have fz : (figE (s.extract k (runTo digitB s k)) == 0) = false := by simp [fe]
    rw [scan, hst] at hs
    simp only [] at hs
    go_wp2_with ((go_at_call 60; refine' Calls.aft _ _ (h1f _) _; rotate_left 2; (first | (with_reducible exact After.below _; rfl) | (with_reducible exact below_drew (After.below _); rfl) | (with_reducible exact below_set (After.below _) _ _; (go_simp; rfl)) | (with_reducible exact below_set (below_set (After.below _) _ _) _ _; (go_simp; rfl)) | (with_reducible exact below_set (below_set (below_set (After.below _) _ _) _ _) _ _; (go_simp; rfl)) | (with_reducible exact below_set (below_set (below_set (below_set (After.below _) _ _) _ _) _ _) _ _; (go_simp; rfl)) | (exact Below.refl _ _; rfl)); intro x1; have hle := After.le x1; (try simp at hle)))
    subst hs
    (try simp only [via_ret, block_ret, then_ret])
    refine bodyPost_ret (v := .tuple #[.slice none 0 0, .agg #[.int .i64 (figE (s.extract k (runTo digitB s k))), .int .i64 k]]) (by simp only [results, Try.results29]; go_simp) rfl ⟨_, rfl, World.ownsRow_nil _ _ _ _, ?_⟩
    exact ((((((((((((Below.trans hB (Below.mono (After.below x1) (by omega))).setCell (p := ⟨w.heap.size + 1, 0, none⟩) (by simp) _)).setCell (p := ⟨w.heap.size + 1, 1, none⟩) (by simp) _)).setCell (p := ⟨w.heap.size + 1, 2, none⟩) (by simp) _)).setCell (p := ⟨w.heap.size + 1, 3, none⟩) (by simp) _)).setCell (p := ⟨w.heap.size, 0, none⟩) (by simp) _)).setCell (p := ⟨w.heap.size, 1, none⟩) (by simp) _)

set_option maxRecDepth 100000 in
set_option maxHeartbeats 4000000 in
theorem of_any (s : ByteArray) (h : s.size ≤ 16384) (w : World) :
    Calls Try.prog 29 #[.string s] w fun e w' => ∃ v, e = .returned (.tuple #[v, .agg #[.int .i64 (ofText s).e, .int .i64 (ofText s).pos]]) ∧
      w'.ownsRow w.heap.size 39 4 v (ofText s).l.length (cells (ofText s).l) ∧ Below w.heap.size w w' := by
  obtain ⟨i0, hi, hz0, hz1, hz2⟩ := info_parts tok_info
  have h' : ¬ (16384 : Int) < s.size := by omega
  have hR : ofText s = scan s (s.size + 1) 0 [] := by rw [ofText, if_neg (by omega)]
  rw [hR]
  generalize scan s (s.size + 1) 0 [] = R at hR ⊢
  go_enter Try.func29, Try.ntmps29
  go_wp2_with fail
  refine wp_scope_falls 0 2 (AtNext s R w) (measure s) rfl ?pass ?first
  case first =>
    intro hrest
    go_wp2_with fail
    rename_i hK
    go_step3
    refine hK _ _ ?_
    refine hrest _ _ (?_ : AtNext s R w _ _)
    refine ⟨.slice none 0 0, .int .i64 0, .int .i64 0, .string ⟨#[]⟩, .int .i64 0, 0, s.size + 1, [], ⟨Nat.zero_le _, by omega, by rw [← hR, ofText, if_neg (by omega)], Nat.zero_le _, World.ownsRow_nil _ _ _ _, ?_, ?_, ?_⟩, rfl⟩
    · (repeat (first | exact Below.refl _ _ | apply Below.drew | refine Below.alloc ?_ ?_ _ | refine Below.setCell ?_ ?_ _ | refine Below.trans ?_ (Below.mono (After.below _) ?_))); (all_goals (first | (simp; done) | (simp; omega) | omega))
    · simp
    · constructor <;> simp
  case pass =>
    rintro a' wr ⟨v, d0, d1, d2, d3, k, n, out, ⟨hk, hn, hs, hol, hown, hB, hsz, hV⟩, ha⟩
    obtain ⟨u, hu⟩ : ∃ u : Nat → Value, (fun i => a'.tmps.getD i undef) = u := ⟨_, rfl⟩
    rw [hu] at ha
    clear hu
    subst ha
    simp only [frame]
    obtain ⟨n, rfl⟩ : ∃ m, n = m + 1 := ⟨n - 1, by omega⟩
    have hb := byt_nonneg s k
    have hb2 := byt_le s k
    have hV' := hV
    obtain ⟨f0, f1, g0, g1, t0, t1, t2, t3, h0, h1, h2, h3⟩ := hV'
    by_cases hlt : k < s.size
    · have z0 : ((k : Int) == (s.size : Int)) = false := by rw [beq_eq_false_iff_ne]; omega
      cases b1 : blankB (byt s k)
      · have z32 : (byt s k == 32) = false := by simp [blankB] at b1 ⊢; omega
        have z9 : (byt s k == 9) = false := by simp [blankB] at b1 ⊢; omega
        have z10 : (byt s k == 10) = false := by simp [blankB] at b1 ⊢; omega
        by_cases b2 : byt s k = 35
        · have hst : stepAt s k = .skip (runTo (fun c => !decide (c = 10)) s k) := by
            rw [stepAt, if_pos hlt]
            simp only [b1, if_pos b2]
            rfl
          rw [scan, hst] at hs
          simp only [] at hs
          have hsk := stepAt_skip hst
          have z35 : (byt s k == 35) = true := by simp [b2]
          go_wp2_with fail
          go_step3
          simp only [then_goto, block_goto]
          refine via_fore rfl ?_
          go_wp2_with fail
          go_loop [8] (fun i => ∃ (j : Nat), j ≤ s.size ∧ i = .int .i64 j ∧ runTo (fun c => !decide (c = 10)) s j = runTo (fun c => !decide (c = 10)) s k) (fun i => s.size - (intOf i).toNat)
          case atStart => exact ⟨k, hk, rfl, rfl⟩
          case round =>
            obtain ⟨j, hj, rfl, hjr⟩ := hrel
            have hc := byt_nonneg s j
            have hc2 := byt_le s j
            go_wp2_with fail
            · have hj1 : j < s.size := by assumption
              have hd : (byt s j != 10) = true := by assumption
              exact ⟨⟨j + 1, by omega, by simp, by rw [← hjr, runTo_go hj1 (by simpa using hd)]⟩, by simp [intOf]; omega⟩
            · have hj1 : j < s.size := by assumption
              have hd : (byt s j != 10) = false := by assumption
              rw [runTo_stop (fun _ => by simpa using hd)] at hjr
              rw [← hjr] at hs hsk
              go_step3
              simp only [then_goto, block_goto]
              exact via_back _ ⟨⟨v, d0, d1, d2, d3, j, n, out, ⟨by omega, by omega, hs, by omega, hown, hB, hsz, hV⟩, rfl⟩, by simp [measure, intOf]; omega⟩
            · have hj1 : ¬ j < s.size := by assumption
              rw [runTo_stop (fun h => absurd h hj1)] at hjr
              rw [← hjr] at hs hsk
              go_step3
              simp only [then_goto, block_goto]
              exact via_back _ ⟨⟨v, d0, d1, d2, d3, j, n, out, ⟨by omega, by omega, hs, by omega, hown, hB, hsz, hV⟩, rfl⟩, by simp [measure, intOf]; omega⟩
        · have z35 : (byt s k == 35) = false := by simp [b2]
          cases l : letterB (byt s k)
          · cases d : digitB (byt s k)
            · cases g : signB (byt s k)
              · have hst : stepAt s k = .bad 3 := by simp [stepAt, hlt, b1, b2, l, d, g]
                rw [scan, hst] at hs
                simp only [] at hs
                go_wp2_with (first | (go_at_call 56; refine Calls.same (letter_any _ _) ?_) | (go_at_call 57; refine Calls.same (digit_any _ _) ?_) | (go_at_call 58; refine Calls.same (sign_any _ _) ?_))
                subst hs
                (try simp only [via_ret, block_ret, then_ret])
                refine bodyPost_ret (v := .tuple #[.slice none 0 0, .agg #[.int .i64 3, .int .i64 k]]) (by simp only [results, Try.results29]; go_simp) rfl ⟨_, rfl, World.ownsRow_nil _ _ _ _, ?_⟩
                refine Below.trans hB ?_
                (repeat (first | exact Below.refl _ _ | apply Below.drew | refine Below.alloc ?_ ?_ _ | refine Below.setCell ?_ ?_ _ | refine Below.trans ?_ (Below.mono (After.below _) ?_))); (all_goals (first | (simp; done) | (simp; omega) | omega))
              · have hst : stepAt s k = .tok ⟨3, k, s.extract k (k + 1), 0⟩ := by simp [stepAt, hlt, b1, b2, l, d, g, -ByteArray.size_extract]
                rw [scan, hst] at hs
                simp only [] at hs
                have sz : (s.extract k (k + 1)).size = 1 := by rw [ByteArray.size_extract]; omega
                rw [sz] at hs
                have sl := slice_one s k hlt
                go_wp2_with (first | (go_at_call 56; refine Calls.same (letter_any _ _) ?_) | (go_at_call 57; refine Calls.same (digit_any _ _) ?_) | (go_at_call 58; refine Calls.same (sign_any _ _) ?_))
                go_step3
                simp only [then_goto, block_goto]
                refine via_fore rfl ?_
                refine skip_in (put_step (s := s) (R := R) (w := w) (k := k) (j := k + 1) (kind := 3) (num := 0) (word := (s.extract k (k + 1))) (n := n) (out := out) (v := v) h (by omega) (by omega) (by omega) hs hol ?own ?bel ?siz ?var ?mea rfl)
                case own => ((repeat (first | with_reducible exact hown | with_reducible refine World.ownsRow.alloc ?_ _ | with_reducible refine own_set ?_ _ (by simp) | with_reducible exact own_below hown (After.below _) | with_reducible exact own_below hown (Below.mono (After.below _) (Nat.le_refl _)))))
                case bel => refine Below.trans hB ?_; (repeat (first | exact Below.refl _ _ | apply Below.drew | refine Below.alloc ?_ ?_ _ | refine Below.setCell ?_ ?_ _ | refine Below.trans ?_ (Below.mono (After.below _) ?_))); (all_goals (first | (simp; done) | (simp; omega) | omega))
                case siz => first | omega | (simp; omega) | (simp [go_sem]; omega)
                case var => first | exact (((hV.set0 _).set1 _).set2 _).set3 _ | exact ((((hV.set0 _).set1 _).set2 _).set3 _).set0 _ | exact ((((Vars.below hV (After.below x1)).set0 _).set1 _).set2 _).set3 _
                case mea => simp [measure, intOf]; omega
            · go_wp2_with (first | (go_at_call 56; refine Calls.same (letter_any _ _) ?_) | (go_at_call 57; refine Calls.same (digit_any _ _) ?_) | (go_at_call 58; refine Calls.same (sign_any _ _) ?_))
              go_step3
              simp only [then_goto, block_goto]
              refine via_fore rfl ?_
              go_wp2_with fail
              rename_i hK
              have hK2 := And.intro True.intro hK
              clear hK
              go_loop [8] (fun i => ∃ (j : Nat), j ≤ s.size ∧ i = .int .i64 j ∧ runTo digitB s j = runTo digitB s k) (fun i => s.size - (intOf i).toNat)
              case atStart => exact ⟨k, hk, rfl, rfl⟩
              case round =>
                obtain ⟨j, hj, rfl, hjr⟩ := hrel
                have hc := byt_nonneg s j
                have hc2 := byt_le s j
                by_cases hj1 : j < s.size
                · cases q2 : digitB (byt s j)
                  · rw [runTo_stop (fun _ => q2)] at hjr
                    subst hjr
                    go_wp2_with (first | (go_at_call 56; refine Calls.same (letter_any _ _) ?_) | (go_at_call 57; refine Calls.same (digit_any _ _) ?_) | (go_at_call 58; refine Calls.same (sign_any _ _) ?_))
                    refine hK2.2 _ _ (dig_end h hlt hn hs hol b1 b2 l d hown hB hsz hV (by simp [measure, intOf]) rfl)
                  · go_wp2_with (first | (go_at_call 56; refine Calls.same (letter_any _ _) ?_) | (go_at_call 57; refine Calls.same (digit_any _ _) ?_) | (go_at_call 58; refine Calls.same (sign_any _ _) ?_))
                    exact ⟨⟨j + 1, by omega, by simp, by rw [← hjr, runTo_go hj1 (by simp [q2])]⟩, by simp [intOf]; omega⟩
                · rw [runTo_stop (fun h => absurd h hj1)] at hjr
                  subst hjr
                  go_wp2_with fail
                  refine hK2.2 _ _ (dig_end h hlt hn hs hol b1 b2 l d hown hB hsz hV (by simp [measure, intOf]) rfl)
          · go_wp2_with (first | (go_at_call 56; refine Calls.same (letter_any _ _) ?_) | (go_at_call 57; refine Calls.same (digit_any _ _) ?_) | (go_at_call 58; refine Calls.same (sign_any _ _) ?_))
            go_step3
            simp only [then_goto, block_goto]
            refine via_fore rfl ?_
            go_wp2_with fail
            rename_i hK
            have hK2 := And.intro True.intro hK
            clear hK
            go_loop [8] (fun i => ∃ (j : Nat), j ≤ s.size ∧ i = .int .i64 j ∧ runTo alnumB s j = runTo alnumB s k) (fun i => s.size - (intOf i).toNat)
            case atStart => exact ⟨k, hk, rfl, rfl⟩
            case round =>
              obtain ⟨j, hj, rfl, hjr⟩ := hrel
              have hc := byt_nonneg s j
              have hc2 := byt_le s j
              by_cases hj1 : j < s.size
              · cases q1 : letterB (byt s j)
                · cases q2 : digitB (byt s j)
                  · rw [runTo_stop (fun _ => by simp [alnumB, q1, q2])] at hjr
                    subst hjr
                    go_wp2_with (first | (go_at_call 56; refine Calls.same (letter_any _ _) ?_) | (go_at_call 57; refine Calls.same (digit_any _ _) ?_) | (go_at_call 58; refine Calls.same (sign_any _ _) ?_))
                    refine hK2.2 _ _ (name_end h hlt hn hs hol b1 b2 l hown hB hsz hV (by simp [measure, intOf]) rfl)
                  · go_wp2_with (first | (go_at_call 56; refine Calls.same (letter_any _ _) ?_) | (go_at_call 57; refine Calls.same (digit_any _ _) ?_) | (go_at_call 58; refine Calls.same (sign_any _ _) ?_))
                    exact ⟨⟨j + 1, by omega, by simp, by rw [← hjr, runTo_go hj1 (by simp [alnumB, q2])]⟩, by simp [intOf]; omega⟩
                · go_wp2_with (first | (go_at_call 56; refine Calls.same (letter_any _ _) ?_) | (go_at_call 57; refine Calls.same (digit_any _ _) ?_) | (go_at_call 58; refine Calls.same (sign_any _ _) ?_))
                  exact ⟨⟨j + 1, by omega, by simp, by rw [← hjr, runTo_go hj1 (by simp [alnumB, q1])]⟩, by simp [intOf]; omega⟩
              · rw [runTo_stop (fun h => absurd h hj1)] at hjr
                subst hjr
                go_wp2_with fail
                refine hK2.2 _ _ (name_end h hlt hn hs hol b1 b2 l hown hB hsz hV (by simp [measure, intOf]) rfl)
      · have hst : stepAt s k = .skip (k + 1) := by simp [stepAt, hlt, b1]
        rw [scan, hst] at hs
        simp only [] at hs
        simp only [blankB, Bool.or_eq_true, decide_eq_true_eq] at b1
        go_wp2_with fail
        all_goals first | (exfalso; simp_all; done) | skip
        all_goals go_step3
        all_goals simp only [then_goto, block_goto]
        all_goals exact via_back _ ⟨⟨v, d0, d1, d2, d3, k + 1, n, out, ⟨by omega, by omega, hs, by omega, hown, hB, hsz, hV⟩, rfl⟩, by simp [measure, intOf]; omega⟩
    · have hst : stepAt s k = .stop := by simp [stepAt, hlt]
      have z0 : ((k : Int) == (s.size : Int)) = true := by simp; omega
      have hks : k = s.size := by omega
      rw [scan, hst] at hs
      simp only [] at hs
      go_wp2_with ((at_builtin; refine wpList_append_own _ rfl _ _ 36 rfl (w.heap.size + 2) 39 i0 (.agg #[.int .i64 0, .int .i64 0, .string ⟨#[]⟩, .int .i64 0]) 4 40 Try.underlying36 hi hz0 hz1 hz2 rfl (by decide) v out.length (cells out) rfl ?b9 _ 1 1 [.int .i64 0, .int .i64 s.size, .string ⟨#[]⟩, .int .i64 0] rfl rfl ?c19 ?c29 ?c39 ?c49 ?c59 ?_))
      case b9 => ((repeat (first | with_reducible exact hown | with_reducible exact own_below hown (After.below _) | refine World.ownsRow.alloc ?_ _ | refine own_set ?_ _ (by simp; omega))))
      case c19 => exact tok_news (by simp) (by simp) (by simp) (by simp)
      case c29 => intro u hu; simp at hu; rcases hu with rfl | rfl | rfl | rfl <;> rfl
      case c39 => unfold maxLen; omega
      case c49 => omega
      case c59 => simp; omega
      · intro v' w1 hown' hgrow _
        have hlt1 := hown.lt
        have hown2 := own_snoc (out := out) (t := ⟨0, s.size, ⟨#[]⟩, 0⟩) hown' rfl rfl
        have hB2 : Below w.heap.size w w1 := by
          refine Below.grown (w := _) (Below.trans hB ?_) hgrow ?_ (fun q hq => by have := (hlt1 q hq).1; omega)
          · (repeat (first | exact Below.refl _ _ | apply Below.drew | refine Below.alloc ?_ ?_ _ | refine Below.setCell ?_ ?_ _ | refine Below.trans ?_ (Below.mono (After.below _) ?_))); (all_goals (first | (simp; done) | (simp; omega) | omega))
          · simp; omega
        have hV2 := hV.grown (World.grownBy_alloc wr (.cells #[.int .i64 0, .int .i64 s.size, .string ⟨#[]⟩, .int .i64 0] 39) none) (fun _ e => by cases e)
        have hV3 := hV2.grown hgrow (fun q hq => by have := (hlt1 q hq).1; omega)
        obtain ⟨f0, f1, g0, g1, t0, t1, t2, t3, h0, h1, h2, h3⟩ := hV3
        go_wp2_with fail
        rw [hks] at hs
        subst hs
        (try simp only [via_ret, block_ret, then_ret])
        refine bodyPost_ret (v := .tuple #[v', .agg #[.int .i64 0, .int .i64 0]]) (by simp only [results, Try.results29]; go_simp) rfl ⟨_, rfl, ?_, ?_⟩
        · exact own_base (own_set (own_set hown2 _ (by simp)) _ (by simp)) (by omega)
        · refine Below.trans hB2 ?_
          (repeat (first | exact Below.refl _ _ | apply Below.drew | refine Below.alloc ?_ ?_ _ | refine Below.setCell ?_ ?_ _ | refine Below.trans ?_ (Below.mono (After.below _) ?_))); (all_goals (first | (simp; done) | (simp; omega) | omega))

end Go.Proofs.Ytmnplnhblniimaa.Tk

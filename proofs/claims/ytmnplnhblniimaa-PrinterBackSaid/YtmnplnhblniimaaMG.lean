/- WALKS of printer.lines and its closure: the iterator's contract. printer.lines: what it hands back; its contract as an iterator over texts that are short. THE LIBRARY's strings.Builder (WriteString, String) at this translation: the kit's shelf laid (a row a fact of the translation's own or the kernel's comparison). WALK of printer.Program: a range over a function in a loop. -/
import Derived.RangeFuncBox
import Derived.RangeFuncLeaves
import Derived.RangeFuncNested
import Derived.RangeFuncBound
import Derived.RangeFuncCalls
import Derived.Shelf.Abstract
import Derived.Shelf.RegionOpen
import Derived.WalkKit
import Derived.OwnWalkIn
import Derived.TacticsInMore
import Derived.LoopNIn
import Derived.LoopIn
import Derived.Test.YtmnplnhblniimaaMF
import Derived.Shelf.Strings.BuilderK
import Derived.Test.YtmnplnhblniimaaProg
import Derived.Test.YtmnplnhblniimaaChkh
import Derived.RangeFuncWrites
import Derived.Test.YtmnplnhblniimaaMJ

namespace Go.Proofs.Ytmnplnhblniimaa.Pr
set_option linter.unusedVariables false
set_option linter.unusedSimpArgs false
open Go Go.RowKit Go.Shelf

attribute [local go_sem] Oper.semAt_some

/-- What a round keeps: what lay below n₀; cells that are no bytes, but for the block b0. -/
def KC (n₀ b0 : Nat) (W W' : World) : Prop := Below n₀ W W' ∧ ∀ k c t fz, W.heap[k]? = some (.cells c t fz) → k ≠ b0 → t ≠ 5 → W'.heap[k]? = some (.cells c t fz)
theorem KC.refl (n₀ b0 : Nat) (W : World) : KC n₀ b0 W W := ⟨Below.refl _ _, fun _ _ _ _ h _ _ => h⟩
theorem KC.trans {n₀ b0 : Nat} {A B C : World} (h : KC n₀ b0 A B) (k : KC n₀ b0 B C) : KC n₀ b0 A C := ⟨h.1.trans k.1, fun i c t fz hi h1 h2 => k.2 i c t fz (h.2 i c t fz hi h1 h2) h1 h2⟩
theorem KC.of_below {n₀ b0 : Nat} {A B : World} (h : Below A.heap.size A B) (hn : n₀ ≤ A.heap.size) : KC n₀ b0 A B :=
  ⟨h.mono hn, fun k c t fz hk _ _ => (h.block k (lt_of_block hk)).trans hk⟩
theorem KC.b {n₀ b0 : Nat} {w : World} (hn : n₀ ≤ w.heap.size) (W : World) (l : Nat) (o o' : Obj) (hl : w.heap.size ≤ l) (h : W.heap[l]? = some o) (ho : o.isCells = false) (hw : o.isWalk = false) : KC n₀ b0 W (W.putObj l o') :=
  ⟨belowK_b hn W l o o' hl h ho hw, fun k c t fz hk _ _ => by
    have hkl : k ≠ l := fun e => by
      subst e
      rw [h] at hk
      injection hk with hk
      subst hk
      simp [Obj.isCells] at ho
    exact ((grownBy_putObj' W l o').block k (lt_of_block hk) (fun e => hkl (by injection e))).trans hk⟩

def headL (b : Bl) : ByteArray := (blkS ++ b.n) ++ brS
def linesTo (b : Bl) (k : Nat) : List ByteArray := headL b :: (b.l.take k).map fun s => tabS ++ stT s
def endS : ByteArray := ⟨#[125]⟩
def linesB (b : Bl) : List ByteArray := linesTo b b.l.length ++ [tabS ++ teT b.t, endS]
theorem linesTo_succ {b : Bl} {k : Nat} (hk : k < b.l.length) : linesTo b (k + 1) = linesTo b k ++ [tabS ++ stT (b.l[k]'hk)] := by
  unfold linesTo
  rw [List.take_succ_eq_append_getElem hk, List.map_append]
  rfl
theorem linesTo_prefix (b : Bl) (k : Nat) : linesTo b k <+: linesB b := by
  refine ⟨((b.l.drop k).map fun s => tabS ++ stT s) ++ [tabS ++ teT b.t, endS], ?_⟩
  unfold linesB linesTo
  rw [List.take_length, List.cons_append, ← List.append_assoc, ← List.map_append, List.take_append_drop]
  rfl
theorem linesTo_len (b : Bl) {k : Nat} (hk : k ≤ b.l.length) : (linesTo b k).length = k + 1 := by simp [linesTo]; omega
theorem linesB_len (b : Bl) : (linesB b).length = b.l.length + 3 := by
  unfold linesB
  rw [List.length_append, linesTo_len b (Nat.le_refl _)]
  simp

theorem abides_below {J : List ByteArray → World → Prop} {N : Nat} (hJ : AbidesFrom N J) {pre : List ByteArray} {A B : World} (h : J pre A) (hB : Below A.heap.size A B) : J pre B :=
  hJ pre A B none h ⟨hB.os, hB.tape, hB.output, hB.size, fun k hk _ => hB.block k hk⟩ (fun r e => by cases e)

set_option maxRecDepth 100000 in
set_option maxHeartbeats 4000000 in
theorem lines1_in (F : Fence) (n : Nat) (h165 : F.fn 73) (h108 : F.fn 39) (h166 : F.fn 74) (hro : F.round = none) (hn : 2 ≤ n) (l Bs n₀ b0 : Nat) (B : Bl) (lp : Option Addr) (lcap lb loff : Nat)
    (hlen : B.l.length ≤ 12) (hsz : B.n.size ≤ 40 ∧ (teT B.t).size ≤ 200000 ∧ ∀ s ∈ B.l, (stT s).size ≤ 200000) (hlp : 0 < B.l.length → lp = some ⟨lb, loff, none⟩)
    (hSt : ∀ s ∈ B.l, ∀ W, CallsIn F (n - 1) Try.prog 39 #[.agg #[.int .i64 s.k, .string s.v, .int .i64 s.e.op, .string s.e.x.v, .int .i64 s.e.x.a, .int .i64 s.e.x.b, .string s.e.y.v, .int .i64 s.e.y.a, .int .i64 s.e.y.b]] W fun e W' => e = .returned (.string (stT s)) ∧ Below W.heap.size W W')
    (hTe : ∀ W, CallsIn F (n - 1) Try.prog 74 #[.agg #[.int .i64 B.t.k, .string B.t.x.v, .int .i64 B.t.x.a, .int .i64 B.t.x.b, .string B.t.t, .string B.t.e]] W fun e W' => e = .returned (.string (teT B.t)) ∧ Below W.heap.size W W')
    (J Jx : List ByteArray → World → Prop) (W : World) (hJ : AbidesFrom W.heap.size J) (hn₀ : n₀ ≤ W.heap.size)
    (hY : ∀ pre x W1, x.size ≤ 300000 → J pre W1 → pre.length < B.l.length + 3 → YieldAt F (n - 1) Try.prog l #[.string x] W1 fun e W' =>
      (e = .returned (.bool true) ∧ J (pre ++ [x]) W' ∧ KC n₀ b0 W1 W') ∨ (e = .returned (.bool false) ∧ Jx (pre ++ [x]) W'))
    (hBs : Bs ≠ b0) (hbx : W.heap[Bs]? = some (.cells #[.string B.n, .slice lp B.l.length lcap, .int .i64 B.t.k, .string B.t.x.v, .int .i64 B.t.x.a, .int .i64 B.t.x.b, .string B.t.t, .string B.t.e] 61 (0, 0)))
    (hlb : 0 < B.l.length → lb < n₀) (hcs : ∀ (i : Nat) (hi : i < B.l.length) (r : Nat) (u : Value), ((B.l[i]'hi).cs)[r]? = some u → W.cell? ⟨lb, loff + (i * 9 + r), none⟩ = some u) (h0 : J [] W) :
    CallsIn F n Try.prog 73 #[.func (.yield l) #[] #[], .pointer (some ⟨Bs, 0, none⟩)] W fun e W' => (∃ v, e = .returned v) ∧
      ((∃ ys, ys = linesB B ∧ J ys W') ∨ (∃ pre, pre <+: linesB B ∧ Jx pre W')) := by
  have d0 := (cell_of_row W _ 0 _ _ (0, 0) hbx).trans (rfl : _ = some (Value.string B.n))
  have hbl := lt_of_block hbx
  have y1 : ¬ (9223372036854775807 < 6 + B.n.size) := by omega
  have y2 : ¬ (9223372036854775807 < 6 + B.n.size + 2) := by omega
  have y3 : ¬ (9223372036854775807 < 1 + (teT B.t).size) := by omega
  have hn1 : 1 ≤ n := by omega
  obtain ⟨fn, tmps, assign, body, hy, hR⟩ := hY [] ((⟨#[98, 108, 111, 99, 107, 32]⟩ ++ B.n) ++ ⟨#[32, 123]⟩) W (by simp only [ByteArray.size_append]; have e1 : (⟨#[98, 108, 111, 99, 107, 32]⟩ : ByteArray).size = 6 := rfl; have e2 : (⟨#[32, 123]⟩ : ByteArray).size = 2 := rfl; omega) h0 (by simp)
  refine callsIn_of_wp Try.func73 rfl h165 ?_ hro
  simp only [Try.ntmps73, List.size_toArray, List.length_cons, List.length_nil, Nat.reduceAdd, Nat.reduceSub, Array.replicate_succ, Array.replicate_zero, List.push_toArray, List.append_toArray, List.nil_append, List.cons_append]
  gi_wp2
  refine hR.mono ?_
  clear hy hR
  rintro e W3 (⟨rfl, hJ3, hk3⟩ | ⟨rfl, hJx3⟩)
  · have hb3 := hk3.2 _ _ _ _ hbx hBs (by decide)
    have d1 := (cell_of_row W3 _ 1 _ _ (0, 0) hb3).trans (rfl : _ = some (Value.slice lp B.l.length lcap))
    have hbl3 := lt_of_block hb3
    have hJ30 : J (linesTo B 0) W3 := hJ3
    clear d0 hbl hJ3
    gi_wp2
    gi_loopw [15] (fun i wr => ∃ k : Nat, k ≤ B.l.length ∧ i = .int .i64 k ∧ J (linesTo B k) wr ∧ KC n₀ b0 W wr) (fun i _ => B.l.length - (intOf i).toNat)
    case atStart => exact ⟨0, Nat.zero_le _, rfl, hJ30, hk3⟩
    case round =>
      obtain ⟨k, hk, rfl, hJk, hkk⟩ := hrel
      clear d1 hbl3
      have hw0 := hkk.1.size
      by_cases hlt : k < B.l.length
      · obtain rfl := hlp (by omega)
        have hlb' := hlb (by omega)
        have hlt2 : (k : Int) < B.l.length := by omega
        have hcs9 : ∀ r u, ((B.l[k]'hlt).cs)[r]? = some u → wr.cell? ⟨lb, loff + k * 9 + r, none⟩ = some u := fun r u hu => by
          rw [Nat.add_assoc]
          exact (hkk.1.cell (p := ⟨lb, loff + (k * 9 + r), none⟩) hlb').trans (hcs k hlt r u hu)
        have hS9 := hSt _ (List.getElem_mem hlt)
        have hsz9 := hsz.2.2 _ (List.getElem_mem hlt)
        have hsucc := linesTo_succ hlt
        generalize B.l[k]'hlt = s at hcs9 hS9 hsz9 hsucc
        obtain ⟨sk, sv, ⟨sop, ⟨s1, sa1, sb1⟩, ⟨s2, sa2, sb2⟩⟩⟩ := s
        have e0 : wr.cell? ⟨lb, loff + k * 9, none⟩ = some (.int .i64 sk) := hcs9 0 _ rfl
        have el := World.block_lt_of_cell? _ _ e0
        have e1 : wr.cell? ⟨lb, loff + k * 9 + 1, none⟩ = some (.string sv) := hcs9 1 _ rfl
        have e2 : wr.cell? ⟨lb, loff + k * 9 + 2, none⟩ = some (.int .i64 sop) := hcs9 2 _ rfl
        have e3 : wr.cell? ⟨lb, loff + k * 9 + 3, none⟩ = some (.string s1) := hcs9 3 _ rfl
        have e4 : wr.cell? ⟨lb, loff + k * 9 + 4, none⟩ = some (.int .i64 sa1) := hcs9 4 _ rfl
        have e5 : wr.cell? ⟨lb, loff + k * 9 + 5, none⟩ = some (.int .i64 sb1) := hcs9 5 _ rfl
        have e6 : wr.cell? ⟨lb, loff + k * 9 + 6, none⟩ = some (.string s2) := hcs9 6 _ rfl
        have e7 : wr.cell? ⟨lb, loff + k * 9 + 7, none⟩ = some (.int .i64 sa2) := hcs9 7 _ rfl
        have e8 : wr.cell? ⟨lb, loff + k * 9 + 8, none⟩ = some (.int .i64 sb2) := hcs9 8 _ rfl
        have hS9 : ∀ W, CallsIn F (n - 1) Try.prog 39 #[.agg #[.int .i64 sk, .string sv, .int .i64 sop, .string s1, .int .i64 sa1, .int .i64 sb1, .string s2, .int .i64 sa2, .int .i64 sb2]] W fun e W' => e = .returned (.string (stT ⟨sk, sv, ⟨sop, ⟨s1, sa1, sb1⟩, ⟨s2, sa2, sb2⟩⟩⟩)) ∧ Below W.heap.size W W' := hS9
        clear hcs9
        generalize stT ⟨sk, sv, ⟨sop, ⟨s1, sa1, sb1⟩, ⟨s2, sa2, sb2⟩⟩⟩ = t at hS9 hsz9 hsucc
        have y5 : ¬ (9223372036854775807 < 1 + t.size) := by omega
        have hal : Below wr.heap.size wr (wr.alloc (.cells #[.int .i64 sk, .string sv, .int .i64 sop, .string s1, .int .i64 sa1, .int .i64 sb1, .string s2, .int .i64 sa2, .int .i64 sb2] 76)) := (Below.refl _ _).alloc (Nat.le_refl _) _
        have hpl : (linesTo B k).length < B.l.length + 3 := by rw [linesTo_len B hk]; omega
        gi_wp2_with (gi_at_call 39; refine (hS9 _).mono ?_; rintro e W4 ⟨rfl, hB4⟩; have hB40 := hal.trans (hB4.mono hal.size); obtain ⟨fn, tmps, assign, body, hy, hR⟩ := hY (linesTo B k) (⟨#[9]⟩ ++ t) W4 (by simp only [ByteArray.size_append]; have e1 : (⟨#[9]⟩ : ByteArray).size = 1 := rfl; omega) (abides_below hJ (abides_below hJ hJk hal) hB4) hpl)
        refine hR.mono ?_
        clear hy hR
        rintro e W5 (⟨rfl, hJ5, hk5⟩ | ⟨rfl, hJx5⟩)
        · gi_wp2
          exact ⟨⟨k + 1, by omega, by simp, by rw [hsucc]; exact hJ5, hkk.trans ((KC.of_below hB40 (by omega)).trans hk5)⟩, by simp [intOf]; omega⟩
        · gi_wp2
          refine bodyPost_ret (results_none rfl _ _ _) rfl ?_
          refine ⟨⟨_, rfl⟩, .inr ⟨_, ?_, hJx5⟩⟩
          have h9 := linesTo_prefix B (k + 1)
          rw [hsucc] at h9
          exact h9
      · have hks : k = B.l.length := by omega
        have hlt2 : ¬ (k : Int) < B.l.length := by omega
        rw [hks] at hJk
        clear hks
        have hb4 := hkk.2 _ _ _ _ hbx hBs (by decide)
        have t2 := (cell_of_row wr _ 2 _ _ (0, 0) hb4).trans (rfl : _ = some (Value.int .i64 B.t.k))
        have t3 := (cell_of_row wr _ 3 _ _ (0, 0) hb4).trans (rfl : _ = some (Value.string B.t.x.v))
        have t4 := (cell_of_row wr _ 4 _ _ (0, 0) hb4).trans (rfl : _ = some (Value.int .i64 B.t.x.a))
        have t5 := (cell_of_row wr _ 5 _ _ (0, 0) hb4).trans (rfl : _ = some (Value.int .i64 B.t.x.b))
        have t6 := (cell_of_row wr _ 6 _ _ (0, 0) hb4).trans (rfl : _ = some (Value.string B.t.t))
        have t7 := (cell_of_row wr _ 7 _ _ (0, 0) hb4).trans (rfl : _ = some (Value.string B.t.e))
        have tl := lt_of_block hb4
        have hpl : (linesTo B B.l.length).length < B.l.length + 3 := by rw [linesTo_len B (Nat.le_refl _)]; omega
        have hpl2 : (linesTo B B.l.length ++ [(⟨#[9]⟩ : ByteArray) ++ teT B.t]).length < B.l.length + 3 := by rw [List.length_append, linesTo_len B (Nat.le_refl _)]; simp
        have hend : (linesTo B B.l.length ++ [(⟨#[9]⟩ : ByteArray) ++ teT B.t]) ++ [(⟨#[125]⟩ : ByteArray)] = linesB B := by
          unfold linesB
          rw [List.append_assoc]
          rfl
        have hpre9 : linesTo B B.l.length ++ [(⟨#[9]⟩ : ByteArray) ++ teT B.t] <+: linesB B := ⟨[(⟨#[125]⟩ : ByteArray)], hend⟩
        have hts := hsz.2.1
        generalize teT B.t = te at hTe y3 hpl2 hend hpre9 hts
        gi_wp2_with (gi_at_call 74; refine (hTe _).mono ?_; rintro e W4 ⟨rfl, hB4⟩; obtain ⟨fn, tmps, assign, body, hy, hR⟩ := hY (linesTo B B.l.length) (⟨#[9]⟩ ++ te) W4 (by simp only [ByteArray.size_append]; have e1 : (⟨#[9]⟩ : ByteArray).size = 1 := rfl; omega) (abides_below hJ hJk hB4) hpl)
        refine hR.mono ?_
        clear hy hR
        rintro e W5 (⟨rfl, hJ5, hk5⟩ | ⟨rfl, hJx5⟩)
        · obtain ⟨fn2, tmps2, assign2, body2, hy2, hR2⟩ := hY _ (⟨#[125]⟩ : ByteArray) W5 (by have e1 : (⟨#[125]⟩ : ByteArray).size = 1 := rfl; omega) hJ5 hpl2
          gi_wp2
          refine hR2.mono ?_
          clear hy2 hR2
          rintro e W6 (⟨rfl, hJ6, hk6⟩ | ⟨rfl, hJx6⟩)
          · rw [hend] at hJ6
            gi_wp2
            go_end0
            exact ⟨⟨_, rfl⟩, .inl ⟨_, rfl, hJ6⟩⟩
          · rw [hend] at hJx6
            gi_wp2
            go_end0
            exact ⟨⟨_, rfl⟩, .inr ⟨_, List.prefix_refl _, hJx6⟩⟩
        · gi_wp2
          go_end0
          exact ⟨⟨_, rfl⟩, .inr ⟨_, hpre9, hJx5⟩⟩
  · gi_wp2
    refine bodyPost_ret (results_none rfl _ _ _) rfl ?_
    refine ⟨⟨_, rfl⟩, .inr ⟨_, ?_, hJx3⟩⟩
    exact linesTo_prefix B 0

end Go.Proofs.Ytmnplnhblniimaa.Pr

namespace Go.Proofs.Ytmnplnhblniimaa.Pr
set_option linter.unusedVariables false
set_option linter.unusedSimpArgs false
open Go Go.RowKit Go.Shelf

attribute [local go_sem] Oper.semAt_some

/-- A text that is short. -/
abbrev Sh := { s : ByteArray // s.size ≤ 300000 }

set_option maxRecDepth 100000 in
theorem lines_in (F : Fence) (n : Nat) (h5 : F.fn 40) (hro : F.round = none) (nm : ByteArray) (lv : Value) (hlv : ∃ p m c, lv = .slice p m c) (k : Int) (v : ByteArray) (a b : Int) (t e : ByteArray) (w : World) :
    CallsIn F n Try.prog 40 #[.agg #[.string nm, lv, .int .i64 k, .string v, .int .i64 a, .int .i64 b, .string t, .string e]] w fun x w' => x = .returned (.func (.func 73) #[] #[.pointer (some ⟨w.heap.size, 0, none⟩)]) ∧ w' = w.alloc (.cells #[.string nm, lv, .int .i64 k, .string v, .int .i64 a, .int .i64 b, .string t, .string e] 61) := by
  obtain ⟨p, m, c, rfl⟩ := hlv
  refine callsIn_of_wp Try.func40 rfl h5 ?_ hro
  simp only [Try.ntmps40, List.size_toArray, List.length_cons, List.length_nil, Nat.reduceAdd, Nat.reduceSub, Array.replicate_succ, Array.replicate_zero, List.push_toArray, List.append_toArray, List.nil_append, List.cons_append]
  gi_wp2
  go_ret
  exact ⟨rfl, rfl⟩

theorem lines_stops (F : Fence) (n : Nat) (h165 : F.fn 73) (h108 : F.fn 39) (h166 : F.fn 74) (hro : F.round = none) (hn : 2 ≤ n) (Bs n₀ b0 : Nat) (B : Bl) (lp : Option Addr) (lcap lb loff : Nat)
    (hlen : B.l.length ≤ 12) (hsz : B.n.size ≤ 40 ∧ (teT B.t).size ≤ 200000 ∧ ∀ s ∈ B.l, (stT s).size ≤ 200000) (hlp : 0 < B.l.length → lp = some ⟨lb, loff, none⟩)
    (hSt : ∀ s ∈ B.l, ∀ W, CallsIn F (n - 1) Try.prog 39 #[.agg #[.int .i64 s.k, .string s.v, .int .i64 s.e.op, .string s.e.x.v, .int .i64 s.e.x.a, .int .i64 s.e.x.b, .string s.e.y.v, .int .i64 s.e.y.a, .int .i64 s.e.y.b]] W fun e W' => e = .returned (.string (stT s)) ∧ Below W.heap.size W W')
    (hTe : ∀ W, CallsIn F (n - 1) Try.prog 74 #[.agg #[.int .i64 B.t.k, .string B.t.x.v, .int .i64 B.t.x.a, .int .i64 B.t.x.b, .string B.t.t, .string B.t.e]] W fun e W' => e = .returned (.string (teT B.t)) ∧ Below W.heap.size W W')
    (w : World) (hn₀ : n₀ ≤ w.heap.size) (hBs : Bs ≠ b0) (hbl : Bs < w.heap.size) (hbx : w.heap[Bs]? = some (.cells #[.string B.n, .slice lp B.l.length lcap, .int .i64 B.t.k, .string B.t.x.v, .int .i64 B.t.x.a, .int .i64 B.t.x.b, .string B.t.t, .string B.t.e] 61 (0, 0)))
    (hlb : 0 < B.l.length → lb < n₀) (hcs : ∀ (i : Nat) (hi : i < B.l.length) (r : Nat) (u : Value), ((B.l[i]'hi).cs)[r]? = some u → w.cell? ⟨lb, loff + (i * 9 + r), none⟩ = some u) :
    SeqStopsK F n Try.prog 73 #[.pointer (some ⟨Bs, 0, none⟩)] (fun x : Sh => #[Value.string x.1]) (KC n₀ b0) (fun ys => ys.map Subtype.val = linesB B) (fun pre => pre.map Subtype.val <+: linesB B) (B.l.length + 3) w := by
  intro l J Jx W hW hJ hJx hY h0
  have hJ' : AbidesFrom W.heap.size (fun (pre : List ByteArray) W1 => ∃ pre' : List Sh, pre'.map Subtype.val = pre ∧ J pre' W1) := by
    rintro s A C row ⟨p', hp, h⟩ hg hr
    exact ⟨p', hp, hJ p' A C row h hg hr⟩
  refine (lines1_in F n h165 h108 h166 hro hn l Bs n₀ b0 B lp lcap lb loff hlen hsz hlp hSt hTe (fun pre W1 => ∃ pre' : List Sh, pre'.map Subtype.val = pre ∧ J pre' W1) (fun pre W1 => ∃ pre' : List Sh, pre'.map Subtype.val = pre ∧ Jx pre' W1) W hJ' (Nat.le_trans hn₀ hW.size) ?_ hBs ((hW.block _ hbl).trans hbx) hlb
    (fun i hi r u hu => (hW.cell (p := ⟨lb, loff + (i * 9 + r), none⟩) (Nat.lt_of_lt_of_le (hlb (by omega)) hn₀)).trans (hcs i hi r u hu)) ⟨[], rfl, h0⟩).mono ?_
  · rintro pre x W1 hx ⟨pre', rfl, hj⟩ hlt
    refine (hY pre' ⟨x, hx⟩ W1 hj (by simpa using hlt)).mono ?_
    rintro e W' (⟨he, h1, h2⟩ | ⟨he, h1⟩)
    · exact .inl ⟨he, ⟨pre' ++ [⟨x, hx⟩], by simp, h1⟩, h2⟩
    · exact .inr ⟨he, ⟨pre' ++ [⟨x, hx⟩], by simp, h1⟩⟩
  · rintro e W' ⟨he, ⟨ys, rfl, ys', h1, h2⟩ | ⟨pre, hp, pre', rfl, h2⟩⟩
    · exact ⟨he, .inl ⟨ys', h1, h2⟩⟩
    · exact ⟨he, .inr ⟨pre', hp, h2⟩⟩

/-! The program's text, line for line. -/
def joinL (t : ByteArray) (L : List ByteArray) : ByteArray := L.foldl (fun t s => t ++ (s ++ nlS)) t
theorem joinL_snoc (t : ByteArray) (L : List ByteArray) (s : ByteArray) : joinL t (L ++ [s]) = joinL t L ++ (s ++ nlS) := by
  unfold joinL
  rw [List.foldl_append]
  rfl
theorem ba_assoc (a b c : ByteArray) : (a ++ b) ++ c = a ++ (b ++ c) := by
  apply ByteArray.ext
  simp [ByteArray.data_append, Array.append_assoc]
theorem joinL_lines (b : Bl) (t : ByteArray) : ∀ k, k ≤ b.l.length → joinL t (linesTo b k) = accS b.l (t ++ ((blkS ++ b.n) ++ ⟨#[32, 123, 10]⟩)) k
  | 0, _ => by
    show t ++ (((blkS ++ b.n) ++ brS) ++ nlS) = _
    rw [ba_assoc (blkS ++ b.n) brS nlS]
    rfl
  | k + 1, hk => by
    have ih := joinL_lines b t k (by omega)
    rw [linesTo_succ (by omega), joinL_snoc, ih]
    simp only [accS, List.getElem?_eq_getElem (show k < b.l.length by omega)]
theorem joinL_block (P : List Bl) (i : Nat) (hi : i < P.length) : joinL (accB P i) (linesB (P[i]'hi)) = accB P (i + 1) := by
  have h1 := joinL_lines (P[i]'hi) (accB P i) _ (Nat.le_refl _)
  unfold linesB
  rw [show ([tabS ++ teT (P[i]'hi).t, endS] : List ByteArray) = [tabS ++ teT (P[i]'hi).t] ++ [endS] from rfl, ← List.append_assoc, joinL_snoc, joinL_snoc, h1]
  simp only [accB, List.getElem?_eq_getElem hi]
  rw [ba_assoc _ ((tabS ++ teT (P[i]'hi).t) ++ nlS) (endS ++ nlS)]
  rw [ba_assoc (tabS ++ teT (P[i]'hi).t) nlS (endS ++ nlS)]
  rfl

end Go.Proofs.Ytmnplnhblniimaa.Pr

namespace Go.Proofs.Ytmnplnhblniimaa
open Go Go.Shelf

def Try.laysB_ren : Go.Shelf.Ren := ⟨fun | 166 => 41 | 169 => 42 | 240 => 75 | 276 => 100 | n => n, fun | 0 => 0 | 3 => 3 | 4 => 4 | 9 => 9 | 20 => 20 | 37 => 88 | 70 => 87 | 72 => 90 | 75 => 95 | 164 => 139 | 127 => 125 | 5 => 5 | 80 => 98 | n => n, fun | n => n⟩

theorem Try.laysB166 : Go.Proofs.Lays.n166 Try.prog Try.laysB_ren := {
  mixed := by kernel_rfl
  f166 := Try.func41.trans (congrArg some (by kernel_rfl))
  f240 := Try.func75.trans (congrArg some (by kernel_rfl))
  f276 := Try.func100.trans (congrArg some (by kernel_rfl))
  t0 := Try.underlying0
  a0 := Try.isAgg0
  z0 := Try.sizeOf0
  v0 := Try.zeroValue0
  t3 := Try.underlying3
  a3 := Try.isAgg3
  z3 := Try.sizeOf3
  v3 := Try.zeroValue3
  t4 := Try.underlying4
  a4 := Try.isAgg4
  z4 := Try.sizeOf4
  v4 := Try.zeroValue4
  t9 := Try.underlying9
  a9 := Try.isAgg9
  z9 := Try.sizeOf9
  v9 := Try.zeroValue9
  t20 := Try.underlying20
  a20 := Try.isAgg20
  z20 := Try.sizeOf20
  v20 := Try.zeroValue20
  t37 := Try.underlying88
  a37 := Try.isAgg88
  z37 := Try.sizeOf88
  v37 := Try.zeroValue88
  t70 := Try.underlying87
  a70 := Try.isAgg87
  z70 := Try.sizeOf87
  v70 := Try.zeroValue87
  t72 := Try.underlying90
  a72 := Try.isAgg90
  z72 := Try.sizeOf90
  v72 := Try.zeroValue90
  t75 := Try.underlying95
  a75 := Try.isAgg95
  z75 := Try.sizeOf95
  v75 := Try.zeroValue95
  t164 := Try.underlying139
  a164 := Try.isAgg139
  z164 := Try.sizeOf139
  v164 := Try.zeroValue139 }

theorem Try.laysB169 : Go.Proofs.Lays.n169 Try.prog Try.laysB_ren := {
  mixed := by kernel_rfl
  f169 := Try.func42.trans (congrArg some (by kernel_rfl))
  t0 := Try.underlying0
  a0 := Try.isAgg0
  z0 := Try.sizeOf0
  v0 := Try.zeroValue0
  t3 := Try.underlying3
  a3 := Try.isAgg3
  z3 := Try.sizeOf3
  v3 := Try.zeroValue3
  t9 := Try.underlying9
  a9 := Try.isAgg9
  z9 := Try.sizeOf9
  v9 := Try.zeroValue9
  t37 := Try.underlying88
  a37 := Try.isAgg88
  z37 := Try.sizeOf88
  v37 := Try.zeroValue88
  t70 := Try.underlying87
  a70 := Try.isAgg87
  z70 := Try.sizeOf87
  v70 := Try.zeroValue87
  t72 := Try.underlying90
  a72 := Try.isAgg90
  z72 := Try.sizeOf90
  v72 := Try.zeroValue90
  t127 := Try.underlying125
  a127 := Try.isAgg125
  z127 := Try.sizeOf125
  v127 := Try.zeroValue125 }

theorem Try.laysBx : Builder.Extra Try.prog Try.laysB_ren := {
  sizeBuilder := by kernel_rfl
  liesBuilder := by kernel_rfl
  t5 := Try.underlying5
  a5 := Try.isAgg5
  z5 := Try.sizeOf5
  v5 := Try.zeroValue5
  infoByte := by kernel_rfl
  cellsByte := by kernel_rfl
  sizeByte := by kernel_rfl
  neB5 := by decide }

end Go.Proofs.Ytmnplnhblniimaa

namespace Go.Proofs.Ytmnplnhblniimaa.Pr
set_option linter.unusedVariables false
set_option linter.unusedSimpArgs false
open Go Go.RowKit Go.Shelf

attribute [local go_sem] Oper.semAt_some

/-- The builder at block b0 holds a text. -/
def BS (n0 b0 : Nat) (t : ByteArray) (W : World) : Prop := Lib.IsBuilderF 90 5 n0 b0 (Lib.byteCells t.data.toList) W
theorem BS.kept {n0 b0 : Nat} {t : ByteArray} {A C : World} {row : Option Nat} (h : BS n0 b0 t A) (hg : A.grownBy C row) (hr : ∀ r, row = some r → ∃ o : Obj, A.heap[r]? = some o ∧ o.isCells = false) : BS n0 b0 t C := by
  have key : ∀ {p : Value}, Lib.BuilderAtF 90 5 n0 b0 p (Lib.byteCells t.data.toList) A → Lib.BuilderAtF 90 5 n0 b0 p (Lib.byteCells t.data.toList) C := by
    rintro p ⟨hB, v, hb, hown, hne⟩
    refine ⟨hB, v, (hg.block b0 (lt_of_block hb) (fun e => ?_)).trans hb, hown.kept hg ?_, hne⟩
    · obtain ⟨o, ho, hc⟩ := hr b0 e.symm
      rw [hb] at ho
      cases ho
      simp [Obj.isCells] at hc
    · cases hv : v.ownBlock with
      | none => exact .inl rfl
      | some g =>
        refine .inr fun e => ?_
        obtain ⟨o, ho, hc⟩ := hr g e.symm
        obtain ⟨c, fz, h9⟩ := Lib.ownsRowF_kind hown g hv
        rw [h9] at ho
        cases ho
        simp [Obj.isCells] at hc
  exact h.elim (fun x => .inl (key x)) (fun x => .inr (key x))
theorem BS.alloc {n0 b0 : Nat} {t : ByteArray} {A : World} (h : BS n0 b0 t A) (o : Obj) : BS n0 b0 t (A.alloc o) :=
  h.kept (World.grownBy_alloc A o none) (fun r e => by cases e)

/-- The marks of the loops over functions that are over. -/
def markD (D : Nat) : Deferred := { target := .collected D, args := #[] }
def Marks (n0 B : Nat) (Ds : List Nat) (W : World) : Prop := Ds.Pairwise (· ≠ ·) ∧ ∀ D ∈ Ds, n0 ≤ D ∧ D < B ∧ W.heap[D]? = some (.deferred (some []))
theorem leaves_marks {F : Fence} {n : Nat} {P : Program} {fn : Func} {tmps : Array Value} {R : Ending → World → Prop} {n0 B : Nat} : ∀ (Ds : List Nat) (W : World), Marks n0 B Ds W →
    (∀ W', Below n0 W W' → LeavesIn F n P fn tmps R [] .returning W') → LeavesInM F n P fn tmps R (Ds.map markD) .returning W
  | [], W, _, h => h W (Below.refl _ _)
  | D :: Ds, W, hm, h => by
    obtain ⟨h1, h2⟩ := hm
    obtain ⟨hn, hB, hK⟩ := h2 D (by simp)
    have hg := grownBy_putObj' W D (.deferred none)
    have hb : Below n0 W (W.putObj D (.deferred none)) := ⟨hg.os, hg.tape, hg.output, hg.size, fun k hk => hg.block k (by have := lt_of_block hK; omega) (fun e => by injection e with e; omega)⟩
    refine ⟨by simp, .inl ⟨D, _, rfl, run_takeDeferred hK, leaves_marks (B := B) Ds _ ⟨(List.pairwise_cons.1 h1).2, fun E hE => ?_⟩ (fun W' hB' => h W' (hb.trans hB'))⟩⟩
    obtain ⟨g1, g2, g3⟩ := h2 E (by simp [hE])
    exact ⟨g1, g2, (hg.block E (lt_of_block g3) (fun e => (List.pairwise_cons.1 h1).1 E hE (by injection e with e; exact e.symm))).trans g3⟩

def frameP (b0 : Nat) (p : Option Addr) (len cap : Nat) (k : Nat) (u : Nat → Value) (ds : List Deferred) : Act := { tmps := #[u 0, u 1, u 2, u 3, u 4, .pointer (some ⟨b0, 0, none⟩), u 6, u 7, u 8, u 9, u 10, u 11, u 12, u 13, u 14, .slice p len cap, .int .i64 len, .int .i64 k, u 18, u 19, u 20, u 21, u 22, u 23, u 24, u 25, u 26, u 27, u 28], defers := ds }

theorem joinL_size {t : ByteArray} : ∀ (L : List Sh), (joinL t (L.map Subtype.val)).size ≤ t.size + 300001 * L.length := by
  intro L
  induction L generalizing t with
  | nil => simp [joinL]
  | cons x L ih =>
    have h9 := ih (t := t ++ (x.1 ++ nlS))
    have e1 : nlS.size = 1 := rfl
    have hx := x.2
    simp only [List.map_cons, List.length_cons]
    show (joinL (t ++ (x.1 ++ nlS)) (L.map Subtype.val)).size ≤ _
    simp only [ByteArray.size_append] at h9
    omega

set_option maxRecDepth 100000 in
set_option maxHeartbeats 4000000 in
theorem program_in (F : Fence) (n : Nat) (h28 : F.fn 20) (h52 : F.fn 40) (h165 : F.fn 73) (h108 : F.fn 39) (h166 : F.fn 74) (h22 : F.fn 17) (h53 : F.fn 41) (h54 : F.fn 42) (hro : F.round = none) (hn : 6 ≤ n) (P : List Bl) (hs : smallB P = true)
    (pv : Value) (w : World) (h : Pg w pv P)
    (hCk : ∀ W, Below w.heap.size w W → CallsIn F (n - 1) Try.prog 17 #[.agg #[pv]] W fun e w' => e = .returned (.int .i64 0) ∧ Below W.heap.size W w')
    (hSt : ∀ b ∈ P, ∀ s ∈ b.l, ∀ m W, CallsIn F m Try.prog 39 #[.agg #[.int .i64 s.k, .string s.v, .int .i64 s.e.op, .string s.e.x.v, .int .i64 s.e.x.a, .int .i64 s.e.x.b, .string s.e.y.v, .int .i64 s.e.y.a, .int .i64 s.e.y.b]] W fun e W' => e = .returned (.string (stT s)) ∧ Below W.heap.size W W')
    (hTe : ∀ b ∈ P, ∀ m W, CallsIn F m Try.prog 74 #[.agg #[.int .i64 b.t.k, .string b.t.x.v, .int .i64 b.t.x.a, .int .i64 b.t.x.b, .string b.t.t, .string b.t.e]] W fun e W' => e = .returned (.string (teT b.t)) ∧ Below W.heap.size W W')
    (hWr : ∀ (n0 b0 m : Nat) (t s : ByteArray) W, BS n0 b0 t W → t.size + s.size ≤ 140737488355328 → n0 ≤ W.heap.size → CallsIn F m Try.prog 41 #[.pointer (some ⟨b0, 0, none⟩), .string s] W fun e w' => e = .returned (.tuple #[.int .i64 s.size, .nilIface]) ∧ BS n0 b0 (t ++ s) w' ∧ Below n0 W w' ∧ Lib.OthersKept 5 (some b0) W w')
    (hGet : ∀ (n0 b0 m : Nat) (t : ByteArray) W, BS n0 b0 t W → n0 ≤ W.heap.size → CallsIn F m Try.prog 42 #[.pointer (some ⟨b0, 0, none⟩)] W fun e w' => e = .returned (.string t) ∧ Below n0 W w' ∧ Lib.OthersKept 5 (some b0) W w') :
    CallsIn F n Try.prog 20 #[.agg #[pv]] w fun e w' => e = .returned (.tuple #[.string (progT P), .int .i64 0]) ∧ Below w.heap.size w w' := by
  have h1 : 1 ≤ n := by omega
  have hsb := small_bl hs
  have hsz := accB_size hsb
  have h12 : P.length ≤ 12 := by simp only [smallB, Bool.and_eq_true, decide_eq_true_eq] at hs; exact hs.1
  obtain ⟨bb, off, p, cap, rfl, hpp, hpc⟩ := Pg.open h
  have hb1 : Below w.heap.size w (w.alloc (.cells #[.slice p P.length cap] 25)) := (Below.refl _ _).alloc (Nat.le_refl _) _
  refine callsIn_of_wp_marks Try.func20 rfl h28 ?_ hro
  simp only [Try.ntmps20, List.size_toArray, List.length_cons, List.length_nil, Nat.reduceAdd, Nat.reduceSub, Array.replicate_succ, Array.replicate_zero, List.push_toArray, List.append_toArray, List.nil_append, List.cons_append]
  gi_wp2_with (gi_at_call 17; refine (hCk _ hb1).mono ?_; rintro e W1 ⟨rfl, hB1⟩; have y0 := (hB1.cell (p := ⟨w.heap.size, 0, none⟩) (by simp)).trans (by simp : _ = some (Value.slice p P.length cap)); have yl := World.block_lt_of_cell? _ _ y0; have hBw := hb1.trans (hB1.mono hb1.size))
  have hbs0 : BS w.heap.size W1.heap.size ⟨#[]⟩ (W1.alloc (.cells #[.pointer none, .slice none 0 0] 90)) := .inl ⟨hBw.size, .slice none 0 0, heap_alloc_new _ _, World.ownsRowF_nil _ _ _ _, by simp [Value.ownBlock]⟩
  have hb0l : w.heap.size < W1.heap.size := by have := hB1.size; simp at this; omega
  have hBb : Below w.heap.size w (W1.alloc (.cells #[.pointer none, .slice none 0 0] 90)) := hBw.alloc hBw.size _
  obtain ⟨b0, hb0⟩ : ∃ b0, b0 = W1.heap.size := ⟨_, rfl⟩
  rw [← hb0] at hbs0 hb0l
  rw [← hb0]
  clear y0 yl hb0 hB1 hBw
  refine wpIn_loop (fun a W => ∃ (k : Nat) (Ds : List Nat), k ≤ P.length ∧ a = frameP b0 p P.length cap k (fun i => a.tmps.getD i undef) (Ds.map markD) ∧ BS w.heap.size b0 (accB P k) W ∧ Below w.heap.size w W ∧ Marks w.heap.size W.heap.size Ds W) (fun a _ => P.length - (intOf (a.tmps.getD 17 undef)).toNat) ⟨0, [], Nat.zero_le _, rfl, hbs0, hBb, ⟨List.Pairwise.nil, fun D hD => by simp at hD⟩⟩ ?_
  rintro a W ⟨k, Ds, hk, ha, hS, hB, hM⟩
  obtain ⟨u, hu⟩ : ∃ u : Nat → Value, (fun i => a.tmps.getD i undef) = u := ⟨_, rfl⟩
  rw [hu] at ha
  clear hu
  subst ha
  simp only [frameP]
  have hws := hB.size
  have hszk := hsz k
  by_cases hlt : k < P.length
  · obtain rfl := hpp (by omega)
    have hlt2 : (k : Int) < P.length := by omega
    have hcb : ∀ r u, ((P[k]'hlt).cs)[r]? = some u → W.cell? ⟨bb, off + k * 8 + r, none⟩ = some u := fun r u hu => by
      rw [Nat.add_assoc]
      exact (hB.cell (p := ⟨bb, off + (k * 8 + r), none⟩) (World.block_lt_of_cell? _ _ ((hpc k hlt).1 r u hu))).trans ((hpc k hlt).1 r u hu)
    have hsl := (hpc k hlt).2
    have hjb := joinL_block P k hlt
    have hmb := List.getElem_mem hlt
    have hSt9 := hSt _ hmb
    have hTe9 := hTe _ hmb
    have hsb9 := hsb _ hmb
    generalize P[k]'hlt = B at hcb hsl hjb hSt9 hTe9 hsb9
    clear hmb
    obtain ⟨lb, loff, lp, lc, hlv, hlp, hlc⟩ := hsl.open St.cs_len
    have e0 : W.cell? ⟨bb, off + k * 8, none⟩ = some (.string B.n) := hcb 0 _ rfl
    have el := World.block_lt_of_cell? _ _ e0
    have e1 := hcb 1 _ rfl
    rw [hlv] at e1
    have e1 : W.cell? ⟨bb, off + k * 8 + 1, none⟩ = some (.slice lp B.l.length lc) := e1
    have e2 : W.cell? ⟨bb, off + k * 8 + 2, none⟩ = some (.int .i64 B.t.k) := hcb 2 _ rfl
    have e3 : W.cell? ⟨bb, off + k * 8 + 3, none⟩ = some (.string B.t.x.v) := hcb 3 _ rfl
    have e4 : W.cell? ⟨bb, off + k * 8 + 4, none⟩ = some (.int .i64 B.t.x.a) := hcb 4 _ rfl
    have e5 : W.cell? ⟨bb, off + k * 8 + 5, none⟩ = some (.int .i64 B.t.x.b) := hcb 5 _ rfl
    have e6 : W.cell? ⟨bb, off + k * 8 + 6, none⟩ = some (.string B.t.t) := hcb 6 _ rfl
    have e7 : W.cell? ⟨bb, off + k * 8 + 7, none⟩ = some (.string B.t.e) := hcb 7 _ rfl
    clear hcb hsl hlv
    gi_wp2_with (gi_at_call 40; refine (lines_in F (n - 1) h52 hro B.n (.slice lp B.l.length lc) ⟨_, _, _, rfl⟩ B.t.k B.t.x.v B.t.x.a B.t.x.b B.t.t B.t.e _).mono ?_; rintro e w' ⟨rfl, rfl⟩)
    clear e0 e1 e2 e3 e4 e5 e6 e7 el
    have hbs1 := hS.alloc (.cells #[.string B.n, .slice lp B.l.length lc, .int .i64 B.t.k, .string B.t.x.v, .int .i64 B.t.x.a, .int .i64 B.t.x.b, .string B.t.t, .string B.t.e] 61)
    have hbs2 := hbs1.alloc (.cells #[.string B.n, .slice lp B.l.length lc, .int .i64 B.t.k, .string B.t.x.v, .int .i64 B.t.x.a, .int .i64 B.t.x.b, .string B.t.t, .string B.t.e] 61)
    have hB2 : Below w.heap.size w ((W.alloc (.cells #[.string B.n, .slice lp B.l.length lc, .int .i64 B.t.k, .string B.t.x.v, .int .i64 B.t.x.a, .int .i64 B.t.x.b, .string B.t.t, .string B.t.e] 61)).alloc (.cells #[.string B.n, .slice lp B.l.length lc, .int .i64 B.t.k, .string B.t.x.v, .int .i64 B.t.x.a, .int .i64 B.t.x.b, .string B.t.t, .string B.t.e] 61)) := (hB.alloc hws _).alloc (by simp; omega) _
    have hWq : Below W.heap.size W ((W.alloc (.cells #[.string B.n, .slice lp B.l.length lc, .int .i64 B.t.k, .string B.t.x.v, .int .i64 B.t.x.a, .int .i64 B.t.x.b, .string B.t.t, .string B.t.e] 61)).alloc (.cells #[.string B.n, .slice lp B.l.length lc, .int .i64 B.t.k, .string B.t.x.v, .int .i64 B.t.x.a, .int .i64 B.t.x.b, .string B.t.t, .string B.t.e] 61)) := ((Below.refl _ _).alloc (Nat.le_refl _) _).alloc (by simp) _
    have hbx : ((W.alloc (.cells #[.string B.n, .slice lp B.l.length lc, .int .i64 B.t.k, .string B.t.x.v, .int .i64 B.t.x.a, .int .i64 B.t.x.b, .string B.t.t, .string B.t.e] 61)).alloc (.cells #[.string B.n, .slice lp B.l.length lc, .int .i64 B.t.k, .string B.t.x.v, .int .i64 B.t.x.a, .int .i64 B.t.x.b, .string B.t.t, .string B.t.e] 61)).heap[W.heap.size + 1]? = some (.cells #[.string B.n, .slice lp B.l.length lc, .int .i64 B.t.k, .string B.t.x.v, .int .i64 B.t.x.a, .int .i64 B.t.x.b, .string B.t.t, .string B.t.e] 61 (0, 0)) :=
      (by simp : (W.alloc (.cells #[.string B.n, .slice lp B.l.length lc, .int .i64 B.t.k, .string B.t.x.v, .int .i64 B.t.x.a, .int .i64 B.t.x.b, .string B.t.t, .string B.t.e] 61)).heap.size = W.heap.size + 1) ▸ heap_alloc_new (W.alloc (.cells #[.string B.n, .slice lp B.l.length lc, .int .i64 B.t.k, .string B.t.x.v, .int .i64 B.t.x.a, .int .i64 B.t.x.b, .string B.t.t, .string B.t.e] 61)) _
    have hsq : ((W.alloc (.cells #[.string B.n, .slice lp B.l.length lc, .int .i64 B.t.k, .string B.t.x.v, .int .i64 B.t.x.a, .int .i64 B.t.x.b, .string B.t.t, .string B.t.e] 61)).alloc (.cells #[.string B.n, .slice lp B.l.length lc, .int .i64 B.t.k, .string B.t.x.v, .int .i64 B.t.x.a, .int .i64 B.t.x.b, .string B.t.t, .string B.t.e] 61)).heap.size = W.heap.size + 2 := by simp
    have hb0W : b0 < W.heap.size := by
      rcases hS with h9 | h9 <;> exact h9.lt
    obtain ⟨Wq, hWe⟩ : ∃ Wq, Wq = ((W.alloc (.cells #[.string B.n, .slice lp B.l.length lc, .int .i64 B.t.k, .string B.t.x.v, .int .i64 B.t.x.a, .int .i64 B.t.x.b, .string B.t.t, .string B.t.e] 61)).alloc (.cells #[.string B.n, .slice lp B.l.length lc, .int .i64 B.t.k, .string B.t.x.v, .int .i64 B.t.x.a, .int .i64 B.t.x.b, .string B.t.t, .string B.t.e] 61)) := ⟨_, rfl⟩
    rw [← hWe] at hbs2 hB2 hWq hbx hsq
    rw [← hWe]
    clear hWe hbs1
    have hMq : ∀ D ∈ Ds, Wq.heap[D]? = some (.deferred (some [])) := fun D hD => (hWq.block D (hM.2 D hD).2.1).trans (hM.2 D hD).2.2
    refine wpIn_rangeFunc_ownG hro h1 (gf := 73) (lb := #[.pointer (some ⟨W.heap.size + 1, 0, none⟩)]) rfl h165 (enters_of Try.func73 (by kernel_rfl) rfl)
      (lines_stops F (n - 1) h165 h108 h166 hro (by omega) (W.heap.size + 1) w.heap.size b0 B lp lc lb loff hsb9.1 ⟨hsb9.2.1, teT_size hsb9.2.2.2.2.1 hsb9.2.2.1 hsb9.2.2.2.1, fun s hs => stT_size (hsb9.2.2.2.2.2 s hs)⟩ hlp (fun s hs W => hSt9 s hs _ W) (fun W => hTe9 _ W) Wq hB2.size (by omega) (by omega) hbx
        (fun h0 => World.block_lt_of_cell? _ _ (hlc 0 h0 0 _ rfl)) (fun i hi r u hu => (hB2.cell (p := ⟨lb, loff + (i * 9 + r), none⟩) (World.block_lt_of_cell? _ _ (hlc i hi r u hu))).trans (hlc i hi r u hu)))
      KC.trans (fun W l o o' hl h ho hw => KC.b (w := Wq) hB2.size W l o o' hl h ho hw) (Below.refl _ _) (fun _ => rfl)
      (fun pre W' => BS w.heap.size b0 (joinL (accB P k) (pre.map Subtype.val)) W' ∧ Below w.heap.size w W' ∧ ∀ D ∈ Ds, W'.heap[D]? = some (.deferred (some [])))
      (fun _ _ _ => False)
      (fun s A C row hs hg hr => ⟨hs.1.kept hg (fun r e => (hr r e).2), hs.2.1.grown hg hs.2.1.size (fun r e => Nat.le_trans hB2.size (hr r e).1), fun D hD => (hg.block D (lt_of_block (hs.2.2 D hD)) (fun e => by have := (hr D e.symm).1; have := (hM.2 D hD).2.1; omega)).trans (hs.2.2 D hD)⟩)
      (fun _ _ _ _ _ hs _ _ => hs)
      ⟨hbs2, hB2, hMq⟩
      (fun x => { tmps := #[u 0, u 1, u 2, u 3, u 4, .pointer (some ⟨b0, 0, none⟩), u 6, .pointer (some ⟨W.heap.size, 0, none⟩), .string x.1, u 9, u 10, u 11, u 12, u 13, u 14, .slice (some ⟨bb, off, none⟩) P.length cap, .int .i64 P.length, .int .i64 k, .bool true, .pointer (some ⟨bb, off + k * 8, none⟩), .agg #[.string B.n, .slice lp B.l.length lc, .int .i64 B.t.k, .string B.t.x.v, .int .i64 B.t.x.a, .int .i64 B.t.x.b, .string B.t.t, .string B.t.e], .agg #[.string B.n, .slice lp B.l.length lc, .int .i64 B.t.k, .string B.t.x.v, .int .i64 B.t.x.a, .int .i64 B.t.x.b, .string B.t.t, .string B.t.e], .func (.func 73) #[] #[.pointer (some ⟨W.heap.size + 1, 0, none⟩)], .string x.1, u 24, u 25, u 26, u 27, u 28], defers := [] }) ?assign ?body ?done ?stop
    case assign =>
      intro l x W K hK
      gi_wp2
      exact hK
    case body =>
      rintro l pre x W2 ⟨hS2, hB22, hM2⟩ hpl
      have hx := x.2
      have e1 : (⟨#[10]⟩ : ByteArray).size = 1 := rfl
      have hy9 : ¬ (9223372036854775807 < x.1.size + 1) := by omega
      have hjs := joinL_size (t := accB P k) pre
      have hsb91 := hsb9.1
      have hws2 := hB22.size
      have hn2 : 1 ≤ n - 1 - 1 := by omega
      have hW9 := CallsIn.inRound l (hWr w.heap.size b0 (n - 1 - 1 - 1) _ (x.1 ++ ⟨#[10]⟩) W2 hS2 (by simp only [ByteArray.size_append]; omega) hws2)
      gi_wp2_with (gi_at_call 41; refine CallsIn.mono hW9 ?_; rintro e W3 ⟨rfl, hS3, hB3, hO3⟩)
      refine ⟨?_, ⟨hB3, ?_⟩, ?_, hB22.trans hB3, ?_⟩
      · refine ⟨hB3.size, fun i o hi hk ho => hO3 i o hk (fun e => ?_) (fun c fz e => by subst e; simp [Obj.isCells] at ho)⟩
        have e9 : i = b0 := by injection e
        omega
      · intro i c t fz hi hne ht
        exact hO3 i _ hi (fun e => hne (by injection e)) (fun c' fz' e => by injection e with _ e2 _; exact ht e2)
      · rw [List.map_append, List.map_cons, List.map_nil, joinL_snoc]
        exact hS3
      · intro D hD
        have h9 := hM2 D hD
        refine hO3 D _ h9 (fun e => ?_) (fun c' fz' e => by cases e)
        have e9 : D = b0 := by injection e
        rw [e9] at h9
        rcases hS2 with ⟨_, v, h8, _⟩ | ⟨_, v, h8, _⟩ <;> (rw [h8] at h9; cases h9)
    case done =>
      rintro D ys W2 hD hys ⟨hS2, hB22, hM2⟩ hK
      rw [hys, hjb] at hS2
      have hws2 := hB22.size
      gi_wp2
      refine ⟨⟨k + 1, D :: Ds, by omega, rfl, hS2, hB22, ⟨List.pairwise_cons.2 ⟨fun E hE => ?_, hM.1⟩, fun E hE => ?_⟩⟩, by simp [intOf]; omega⟩
      · have := (hM.2 E hE).2.1
        omega
      · rcases List.mem_cons.1 hE with rfl | hE
        · exact ⟨by omega, lt_of_block hK, hK⟩
        · exact ⟨(hM.2 E hE).1, lt_of_block (hM2 E hE), hM2 E hE⟩
    case stop =>
      rintro D c pre W _ _ h _
      exact h.elim
  · have hks : k = P.length := by omega
    have hlt2 : ¬ (k : Int) < P.length := by omega
    rw [hks] at hS
    gi_wp2_with (gi_at_call 42; refine (hGet w.heap.size b0 _ _ W hS hws).mono ?_; rintro e W3 ⟨rfl, hB3, hO3⟩)
    have hM3 : Marks w.heap.size W3.heap.size Ds W3 := ⟨hM.1, fun D hD => by
      have h9 := (hM.2 D hD).2.2
      have h8 := hO3 D _ h9 (fun e => by
        have e9 : D = b0 := by injection e
        rw [e9] at h9
        rcases hS with ⟨_, v, h7, _⟩ | ⟨_, v, h7, _⟩ <;> (rw [h7] at h9; cases h9)) (fun c' fz' e => by cases e)
      exact ⟨(hM.2 D hD).1, lt_of_block h8, h8⟩⟩
    refine leaves_marks Ds W3 hM3 fun W' hB' => ⟨.tuple #[.string (accB P P.length), .int .i64 0], by simp only [results, Try.results20]; go_simp, rfl, (hB.trans hB3).trans hB'⟩

set_option maxRecDepth 100000 in
theorem program_ok (P : List Bl) (hs : smallB P = true) (hc : checkOf P = 0) (pv : Value) (w : World) (h : Pg w pv P) :
    Calls Try.prog 20 #[.agg #[pv]] w fun e w' => e = .returned (.tuple #[.string (progT P), .int .i64 0]) ∧ Below w.heap.size w w' := by
  have hsb := small_bl hs
  have hst : ∀ b ∈ P, ∀ s ∈ b.l, s.v.size ≤ 1000 ∧ s.e.x.v.size ≤ 1000 ∧ s.e.y.v.size ≤ 1000 := fun b hb s hs9 => by
    have h9 := (hsb b hb).2.2.2.2.2 s hs9
    simp only [stSmall, Bool.and_eq_true, decide_eq_true_eq] at h9
    omega
  obtain ⟨h12, hl12, _⟩ := small_len hs
  have hck := fun (W : World) (hB : Below w.heap.size w W) => pcheck_any P h12 hl12 pv W (h.below hB)
  rw [hc] at hck
  refine (callsIn_wide (n := 6)).1 (program_in Fence.wide 6 trivial trivial trivial trivial trivial trivial trivial trivial rfl (by omega) P hs pv w h (fun W hB => callsIn_wide.2 (hck W hB))
    (fun b hb s hs9 m W => callsIn_wide.2 ?_) (fun b hb m W => callsIn_wide.2 ?_) (fun n0 b0 m t s W hS hlen hn => callsIn_wide.2 ?_) (fun n0 b0 m t W hS hn => callsIn_wide.2 ?_))
  · exact Go.Proofs.Ytmnplnhblniimaa.stmt_any s.k s.v s.e.op s.e.x.v s.e.y.v s.e.x.a s.e.x.b s.e.y.a s.e.y.b (hst b hb s hs9).1 (hst b hb s hs9).2.1 (hst b hb s hs9).2.2 W
  · have h9 := hsb b hb
    exact Go.Proofs.Ytmnplnhblniimaa.term_any b.t.k b.t.x.v b.t.x.a b.t.x.b b.t.t b.t.e (by omega) (by omega) (by omega) W
  · refine (Any.Builder_WriteString_k Try.laysB166 Try.laysBx n0 b0 (Lib.byteCells t.data.toList) s W hS (by rw [show Lib.byteCells t.data.toList = Lib.strCells t from rfl, Lib.strCells_length]; exact hlen) hn).mono ?_
    rintro e w' ⟨he, h1, h2, h3⟩
    refine ⟨he, .inr ?_, h2, h3⟩
    have e9 : Lib.byteCells (t ++ s).data.toList = Lib.byteCells t.data.toList ++ Lib.strCells s := by
      rw [ByteArray.data_append, Array.toList_append]
      simp [Lib.byteCells, Lib.strCells]
    rw [e9]
    exact h1
  · refine (Any.Builder_String_any_k Try.laysB169 Try.laysBx n0 b0 t.data.toList W hS hn).mono ?_
    rintro e w' ⟨he, _, h2, h3⟩
    exact ⟨he, h2, h3⟩

set_option maxRecDepth 100000 in
set_option maxHeartbeats 2000000 in
theorem program_bad (P : List Bl) (hs : smallB P = true) (hc : checkOf P ≠ 0) (pv : Value) (w : World) (h : Pg w pv P) :
    Calls Try.prog 20 #[.agg #[pv]] w fun e w' => e = .returned (.tuple #[.string ⟨#[]⟩, .int .i64 (checkOf P)]) ∧ Below w.heap.size w w' := by
  obtain ⟨h12, hl12, _⟩ := small_len hs
  obtain ⟨p, cap, rfl⟩ : ∃ p cap, pv = .slice p P.length cap := by obtain ⟨b, off, p, cap, hv, _⟩ := h.1; exact ⟨p, cap, hv⟩
  have hck := fun (W : World) (hB : Below w.heap.size w W) => pcheck_any P h12 hl12 _ W (h.below hB)
  have hb1 : Below w.heap.size w (w.alloc (.cells #[.slice p P.length cap] 25)) := (Below.refl _ _).alloc (Nat.le_refl _) _
  generalize checkOf P = X at hc hck ⊢
  have hcb : (X != 0) = true := by simpa using hc
  clear h hs
  go_enter Try.func20, Try.ntmps20
  go_wp2_with (go_at_call 17; refine' Calls.aft _ _ (hck _ hb1) _; rotate_left 2; (first | (with_reducible exact After.below _; rfl) | (with_reducible exact below_drew (After.below _); rfl) | (with_reducible exact below_set (After.below _) _ _; (go_simp; rfl)) | (with_reducible exact below_set (below_set (After.below _) _ _) _ _; (go_simp; rfl)) | (with_reducible exact below_set (below_set (below_set (After.below _) _ _) _ _) _ _; (go_simp; rfl)) | (with_reducible exact below_set (below_set (below_set (below_set (After.below _) _ _) _ _) _ _) _ _; (go_simp; rfl)) | (exact Below.refl _ _; rfl)); intro x1; have hle := After.le x1; (try simp at hle))
  refine bodyPost_ret (v := .tuple #[.string ⟨#[]⟩, .int .i64 X]) (by simp only [results, Try.results20]; go_simp) rfl ⟨rfl, ?_⟩
  exact hb1.trans (x1.below.mono hb1.size)

end Go.Proofs.Ytmnplnhblniimaa.Pr

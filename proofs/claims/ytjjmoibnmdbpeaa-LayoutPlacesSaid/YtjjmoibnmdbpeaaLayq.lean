/- LayoutPlaces: what stands while the three places are made, in any order. -/
import Derived.Test.YtjjmoibnmdbpeaaME
import Derived.Test.YtjjmoibnmdbpeaaRin
namespace Go.Proofs.Ytjjmoibnmdbpeaa.Pr
set_option linter.unusedVariables false
set_option linter.unusedSimpArgs false
open Go Go.RowKit

/-- What stands while the three places are made. -/
structure LpJ (V : World) (l v u : Value) (c1 c2 c3 : Array Value) (D : Nat → Bool) (x : Nat → Value) (w : World) : Prop where
  hB : Below V.heap.size V w
  s0 : D 0 = true → x 85 = l
  s1 : D 1 = true → x 86 = v
  s2 : D 2 = true → x 87 = .agg c1
  s3 : D 3 = true → x 88 = l
  s4 : D 4 = true → x 89 = .agg c2
  s5 : D 5 = true → x 90 = l
  s6 : D 6 = true → x 91 = u
  s7 : D 7 = true → x 92 = .agg c3
  o1 : D 11 = true → D 8 = true
  o2 : D 12 = true → D 9 = true
  o3 : D 13 = true → D 10 = true
  b1 : D 8 = true → Bx V w (x 13) 39 (bif D 11 then c1 else #[.int .i64 0, .int .i64 0, .int .i64 0])
  b2 : D 9 = true → Bx V w (x 14) 42 (bif D 12 then c2 else #[.int .i64 0, .int .i64 0])
  b3 : D 10 = true → Bx V w (x 15) 45 (bif D 13 then c3 else #[.int .i64 0, .int .i64 0])

def upd (x : Nat → Value) (d : Nat) (v : Value) : Nat → Value := fun j => bif j == d then v else x j
theorem upd_s (x : Nat → Value) (d : Nat) (v : Value) : upd x d v d = v := by unfold upd; simp
theorem upd_o (x : Nat → Value) (d j : Nat) (v : Value) (h : j ≠ d) : upd x d v j = x j := by unfold upd; have : (j == d) = false := by simpa using h
                                                                                              rw [this]; rfl
def nx (D : Nat → Bool) (i : Nat) : Nat → Bool := fun j => j == i || D j
theorem nx_o {D : Nat → Bool} {i j : Nat} (h : nx D i j = true) (hj : j ≠ i) : D j = true := by
  unfold nx at h
  have : (j == i) = false := by simpa using hj
  rw [this] at h
  simpa using h
theorem nx_e {D : Nat → Bool} {i j : Nat} (hj : j ≠ i) : nx D i j = D j := by
  unfold nx
  have : (j == i) = false := by simpa using hj
  rw [this]; rfl
section
variable {V : World} {l v u : Value} {c1 c2 c3 : Array Value} {D : Nat → Bool} {x : Nat → Value} {w w' : World}
theorem LpJ.p0 (h : LpJ V l v u c1 c2 c3 D x w) (hq : Below w.heap.size w w') : LpJ V l v u c1 c2 c3 (nx D 0) (upd x 85 (l)) w' where
  hB := h.hB.trans (hq.mono h.hB.size)
  s0 := fun _ => upd_s _ _ _
  s1 := fun hd => (upd_o _ _ _ _ (by decide)).trans (h.s1 (nx_o hd (by decide)))
  s2 := fun hd => (upd_o _ _ _ _ (by decide)).trans (h.s2 (nx_o hd (by decide)))
  s3 := fun hd => (upd_o _ _ _ _ (by decide)).trans (h.s3 (nx_o hd (by decide)))
  s4 := fun hd => (upd_o _ _ _ _ (by decide)).trans (h.s4 (nx_o hd (by decide)))
  s5 := fun hd => (upd_o _ _ _ _ (by decide)).trans (h.s5 (nx_o hd (by decide)))
  s6 := fun hd => (upd_o _ _ _ _ (by decide)).trans (h.s6 (nx_o hd (by decide)))
  s7 := fun hd => (upd_o _ _ _ _ (by decide)).trans (h.s7 (nx_o hd (by decide)))
  o1 := fun hd => by rw [nx_e (by decide)]; exact h.o1 (nx_o hd (by decide))
  b1 := fun hd => by rw [nx_e (by decide), upd_o _ _ _ _ (by decide)]; exact (h.b1 (nx_o hd (by decide))).below hq
  o2 := fun hd => by rw [nx_e (by decide)]; exact h.o2 (nx_o hd (by decide))
  b2 := fun hd => by rw [nx_e (by decide), upd_o _ _ _ _ (by decide)]; exact (h.b2 (nx_o hd (by decide))).below hq
  o3 := fun hd => by rw [nx_e (by decide)]; exact h.o3 (nx_o hd (by decide))
  b3 := fun hd => by rw [nx_e (by decide), upd_o _ _ _ _ (by decide)]; exact (h.b3 (nx_o hd (by decide))).below hq
theorem LpJ.p1 (h : LpJ V l v u c1 c2 c3 D x w) (hq : Below w.heap.size w w') : LpJ V l v u c1 c2 c3 (nx D 1) (upd x 86 (v)) w' where
  hB := h.hB.trans (hq.mono h.hB.size)
  s0 := fun hd => (upd_o _ _ _ _ (by decide)).trans (h.s0 (nx_o hd (by decide)))
  s1 := fun _ => upd_s _ _ _
  s2 := fun hd => (upd_o _ _ _ _ (by decide)).trans (h.s2 (nx_o hd (by decide)))
  s3 := fun hd => (upd_o _ _ _ _ (by decide)).trans (h.s3 (nx_o hd (by decide)))
  s4 := fun hd => (upd_o _ _ _ _ (by decide)).trans (h.s4 (nx_o hd (by decide)))
  s5 := fun hd => (upd_o _ _ _ _ (by decide)).trans (h.s5 (nx_o hd (by decide)))
  s6 := fun hd => (upd_o _ _ _ _ (by decide)).trans (h.s6 (nx_o hd (by decide)))
  s7 := fun hd => (upd_o _ _ _ _ (by decide)).trans (h.s7 (nx_o hd (by decide)))
  o1 := fun hd => by rw [nx_e (by decide)]; exact h.o1 (nx_o hd (by decide))
  b1 := fun hd => by rw [nx_e (by decide), upd_o _ _ _ _ (by decide)]; exact (h.b1 (nx_o hd (by decide))).below hq
  o2 := fun hd => by rw [nx_e (by decide)]; exact h.o2 (nx_o hd (by decide))
  b2 := fun hd => by rw [nx_e (by decide), upd_o _ _ _ _ (by decide)]; exact (h.b2 (nx_o hd (by decide))).below hq
  o3 := fun hd => by rw [nx_e (by decide)]; exact h.o3 (nx_o hd (by decide))
  b3 := fun hd => by rw [nx_e (by decide), upd_o _ _ _ _ (by decide)]; exact (h.b3 (nx_o hd (by decide))).below hq
theorem LpJ.p2 (h : LpJ V l v u c1 c2 c3 D x w) (hq : Below w.heap.size w w') : LpJ V l v u c1 c2 c3 (nx D 2) (upd x 87 (.agg c1)) w' where
  hB := h.hB.trans (hq.mono h.hB.size)
  s0 := fun hd => (upd_o _ _ _ _ (by decide)).trans (h.s0 (nx_o hd (by decide)))
  s1 := fun hd => (upd_o _ _ _ _ (by decide)).trans (h.s1 (nx_o hd (by decide)))
  s2 := fun _ => upd_s _ _ _
  s3 := fun hd => (upd_o _ _ _ _ (by decide)).trans (h.s3 (nx_o hd (by decide)))
  s4 := fun hd => (upd_o _ _ _ _ (by decide)).trans (h.s4 (nx_o hd (by decide)))
  s5 := fun hd => (upd_o _ _ _ _ (by decide)).trans (h.s5 (nx_o hd (by decide)))
  s6 := fun hd => (upd_o _ _ _ _ (by decide)).trans (h.s6 (nx_o hd (by decide)))
  s7 := fun hd => (upd_o _ _ _ _ (by decide)).trans (h.s7 (nx_o hd (by decide)))
  o1 := fun hd => by rw [nx_e (by decide)]; exact h.o1 (nx_o hd (by decide))
  b1 := fun hd => by rw [nx_e (by decide), upd_o _ _ _ _ (by decide)]; exact (h.b1 (nx_o hd (by decide))).below hq
  o2 := fun hd => by rw [nx_e (by decide)]; exact h.o2 (nx_o hd (by decide))
  b2 := fun hd => by rw [nx_e (by decide), upd_o _ _ _ _ (by decide)]; exact (h.b2 (nx_o hd (by decide))).below hq
  o3 := fun hd => by rw [nx_e (by decide)]; exact h.o3 (nx_o hd (by decide))
  b3 := fun hd => by rw [nx_e (by decide), upd_o _ _ _ _ (by decide)]; exact (h.b3 (nx_o hd (by decide))).below hq
theorem LpJ.p3 (h : LpJ V l v u c1 c2 c3 D x w) (hq : Below w.heap.size w w') : LpJ V l v u c1 c2 c3 (nx D 3) (upd x 88 (l)) w' where
  hB := h.hB.trans (hq.mono h.hB.size)
  s0 := fun hd => (upd_o _ _ _ _ (by decide)).trans (h.s0 (nx_o hd (by decide)))
  s1 := fun hd => (upd_o _ _ _ _ (by decide)).trans (h.s1 (nx_o hd (by decide)))
  s2 := fun hd => (upd_o _ _ _ _ (by decide)).trans (h.s2 (nx_o hd (by decide)))
  s3 := fun _ => upd_s _ _ _
  s4 := fun hd => (upd_o _ _ _ _ (by decide)).trans (h.s4 (nx_o hd (by decide)))
  s5 := fun hd => (upd_o _ _ _ _ (by decide)).trans (h.s5 (nx_o hd (by decide)))
  s6 := fun hd => (upd_o _ _ _ _ (by decide)).trans (h.s6 (nx_o hd (by decide)))
  s7 := fun hd => (upd_o _ _ _ _ (by decide)).trans (h.s7 (nx_o hd (by decide)))
  o1 := fun hd => by rw [nx_e (by decide)]; exact h.o1 (nx_o hd (by decide))
  b1 := fun hd => by rw [nx_e (by decide), upd_o _ _ _ _ (by decide)]; exact (h.b1 (nx_o hd (by decide))).below hq
  o2 := fun hd => by rw [nx_e (by decide)]; exact h.o2 (nx_o hd (by decide))
  b2 := fun hd => by rw [nx_e (by decide), upd_o _ _ _ _ (by decide)]; exact (h.b2 (nx_o hd (by decide))).below hq
  o3 := fun hd => by rw [nx_e (by decide)]; exact h.o3 (nx_o hd (by decide))
  b3 := fun hd => by rw [nx_e (by decide), upd_o _ _ _ _ (by decide)]; exact (h.b3 (nx_o hd (by decide))).below hq
theorem LpJ.p4 (h : LpJ V l v u c1 c2 c3 D x w) (hq : Below w.heap.size w w') : LpJ V l v u c1 c2 c3 (nx D 4) (upd x 89 (.agg c2)) w' where
  hB := h.hB.trans (hq.mono h.hB.size)
  s0 := fun hd => (upd_o _ _ _ _ (by decide)).trans (h.s0 (nx_o hd (by decide)))
  s1 := fun hd => (upd_o _ _ _ _ (by decide)).trans (h.s1 (nx_o hd (by decide)))
  s2 := fun hd => (upd_o _ _ _ _ (by decide)).trans (h.s2 (nx_o hd (by decide)))
  s3 := fun hd => (upd_o _ _ _ _ (by decide)).trans (h.s3 (nx_o hd (by decide)))
  s4 := fun _ => upd_s _ _ _
  s5 := fun hd => (upd_o _ _ _ _ (by decide)).trans (h.s5 (nx_o hd (by decide)))
  s6 := fun hd => (upd_o _ _ _ _ (by decide)).trans (h.s6 (nx_o hd (by decide)))
  s7 := fun hd => (upd_o _ _ _ _ (by decide)).trans (h.s7 (nx_o hd (by decide)))
  o1 := fun hd => by rw [nx_e (by decide)]; exact h.o1 (nx_o hd (by decide))
  b1 := fun hd => by rw [nx_e (by decide), upd_o _ _ _ _ (by decide)]; exact (h.b1 (nx_o hd (by decide))).below hq
  o2 := fun hd => by rw [nx_e (by decide)]; exact h.o2 (nx_o hd (by decide))
  b2 := fun hd => by rw [nx_e (by decide), upd_o _ _ _ _ (by decide)]; exact (h.b2 (nx_o hd (by decide))).below hq
  o3 := fun hd => by rw [nx_e (by decide)]; exact h.o3 (nx_o hd (by decide))
  b3 := fun hd => by rw [nx_e (by decide), upd_o _ _ _ _ (by decide)]; exact (h.b3 (nx_o hd (by decide))).below hq
theorem LpJ.p5 (h : LpJ V l v u c1 c2 c3 D x w) (hq : Below w.heap.size w w') : LpJ V l v u c1 c2 c3 (nx D 5) (upd x 90 (l)) w' where
  hB := h.hB.trans (hq.mono h.hB.size)
  s0 := fun hd => (upd_o _ _ _ _ (by decide)).trans (h.s0 (nx_o hd (by decide)))
  s1 := fun hd => (upd_o _ _ _ _ (by decide)).trans (h.s1 (nx_o hd (by decide)))
  s2 := fun hd => (upd_o _ _ _ _ (by decide)).trans (h.s2 (nx_o hd (by decide)))
  s3 := fun hd => (upd_o _ _ _ _ (by decide)).trans (h.s3 (nx_o hd (by decide)))
  s4 := fun hd => (upd_o _ _ _ _ (by decide)).trans (h.s4 (nx_o hd (by decide)))
  s5 := fun _ => upd_s _ _ _
  s6 := fun hd => (upd_o _ _ _ _ (by decide)).trans (h.s6 (nx_o hd (by decide)))
  s7 := fun hd => (upd_o _ _ _ _ (by decide)).trans (h.s7 (nx_o hd (by decide)))
  o1 := fun hd => by rw [nx_e (by decide)]; exact h.o1 (nx_o hd (by decide))
  b1 := fun hd => by rw [nx_e (by decide), upd_o _ _ _ _ (by decide)]; exact (h.b1 (nx_o hd (by decide))).below hq
  o2 := fun hd => by rw [nx_e (by decide)]; exact h.o2 (nx_o hd (by decide))
  b2 := fun hd => by rw [nx_e (by decide), upd_o _ _ _ _ (by decide)]; exact (h.b2 (nx_o hd (by decide))).below hq
  o3 := fun hd => by rw [nx_e (by decide)]; exact h.o3 (nx_o hd (by decide))
  b3 := fun hd => by rw [nx_e (by decide), upd_o _ _ _ _ (by decide)]; exact (h.b3 (nx_o hd (by decide))).below hq
theorem LpJ.p6 (h : LpJ V l v u c1 c2 c3 D x w) (hq : Below w.heap.size w w') : LpJ V l v u c1 c2 c3 (nx D 6) (upd x 91 (u)) w' where
  hB := h.hB.trans (hq.mono h.hB.size)
  s0 := fun hd => (upd_o _ _ _ _ (by decide)).trans (h.s0 (nx_o hd (by decide)))
  s1 := fun hd => (upd_o _ _ _ _ (by decide)).trans (h.s1 (nx_o hd (by decide)))
  s2 := fun hd => (upd_o _ _ _ _ (by decide)).trans (h.s2 (nx_o hd (by decide)))
  s3 := fun hd => (upd_o _ _ _ _ (by decide)).trans (h.s3 (nx_o hd (by decide)))
  s4 := fun hd => (upd_o _ _ _ _ (by decide)).trans (h.s4 (nx_o hd (by decide)))
  s5 := fun hd => (upd_o _ _ _ _ (by decide)).trans (h.s5 (nx_o hd (by decide)))
  s6 := fun _ => upd_s _ _ _
  s7 := fun hd => (upd_o _ _ _ _ (by decide)).trans (h.s7 (nx_o hd (by decide)))
  o1 := fun hd => by rw [nx_e (by decide)]; exact h.o1 (nx_o hd (by decide))
  b1 := fun hd => by rw [nx_e (by decide), upd_o _ _ _ _ (by decide)]; exact (h.b1 (nx_o hd (by decide))).below hq
  o2 := fun hd => by rw [nx_e (by decide)]; exact h.o2 (nx_o hd (by decide))
  b2 := fun hd => by rw [nx_e (by decide), upd_o _ _ _ _ (by decide)]; exact (h.b2 (nx_o hd (by decide))).below hq
  o3 := fun hd => by rw [nx_e (by decide)]; exact h.o3 (nx_o hd (by decide))
  b3 := fun hd => by rw [nx_e (by decide), upd_o _ _ _ _ (by decide)]; exact (h.b3 (nx_o hd (by decide))).below hq
theorem LpJ.p7 (h : LpJ V l v u c1 c2 c3 D x w) (hq : Below w.heap.size w w') : LpJ V l v u c1 c2 c3 (nx D 7) (upd x 92 (.agg c3)) w' where
  hB := h.hB.trans (hq.mono h.hB.size)
  s0 := fun hd => (upd_o _ _ _ _ (by decide)).trans (h.s0 (nx_o hd (by decide)))
  s1 := fun hd => (upd_o _ _ _ _ (by decide)).trans (h.s1 (nx_o hd (by decide)))
  s2 := fun hd => (upd_o _ _ _ _ (by decide)).trans (h.s2 (nx_o hd (by decide)))
  s3 := fun hd => (upd_o _ _ _ _ (by decide)).trans (h.s3 (nx_o hd (by decide)))
  s4 := fun hd => (upd_o _ _ _ _ (by decide)).trans (h.s4 (nx_o hd (by decide)))
  s5 := fun hd => (upd_o _ _ _ _ (by decide)).trans (h.s5 (nx_o hd (by decide)))
  s6 := fun hd => (upd_o _ _ _ _ (by decide)).trans (h.s6 (nx_o hd (by decide)))
  s7 := fun _ => upd_s _ _ _
  o1 := fun hd => by rw [nx_e (by decide)]; exact h.o1 (nx_o hd (by decide))
  b1 := fun hd => by rw [nx_e (by decide), upd_o _ _ _ _ (by decide)]; exact (h.b1 (nx_o hd (by decide))).below hq
  o2 := fun hd => by rw [nx_e (by decide)]; exact h.o2 (nx_o hd (by decide))
  b2 := fun hd => by rw [nx_e (by decide), upd_o _ _ _ _ (by decide)]; exact (h.b2 (nx_o hd (by decide))).below hq
  o3 := fun hd => by rw [nx_e (by decide)]; exact h.o3 (nx_o hd (by decide))
  b3 := fun hd => by rw [nx_e (by decide), upd_o _ _ _ _ (by decide)]; exact (h.b3 (nx_o hd (by decide))).below hq
theorem LpJ.a1 (h : LpJ V l v u c1 c2 c3 D x w) (hD : D 8 = false) : LpJ V l v u c1 c2 c3 (nx D 8) (upd x 13 (.pointer (some ⟨w.heap.size, 0, none⟩))) (w.alloc (.cells #[.int .i64 0, .int .i64 0, .int .i64 0] 39)) where
  hB := h.hB.alloc h.hB.size _
  s0 := fun hd => (upd_o _ _ _ _ (by decide)).trans (h.s0 (nx_o hd (by decide)))
  s1 := fun hd => (upd_o _ _ _ _ (by decide)).trans (h.s1 (nx_o hd (by decide)))
  s2 := fun hd => (upd_o _ _ _ _ (by decide)).trans (h.s2 (nx_o hd (by decide)))
  s3 := fun hd => (upd_o _ _ _ _ (by decide)).trans (h.s3 (nx_o hd (by decide)))
  s4 := fun hd => (upd_o _ _ _ _ (by decide)).trans (h.s4 (nx_o hd (by decide)))
  s5 := fun hd => (upd_o _ _ _ _ (by decide)).trans (h.s5 (nx_o hd (by decide)))
  s6 := fun hd => (upd_o _ _ _ _ (by decide)).trans (h.s6 (nx_o hd (by decide)))
  s7 := fun hd => (upd_o _ _ _ _ (by decide)).trans (h.s7 (nx_o hd (by decide)))
  o1 := fun hd => by show (8 == 8 || D 8) = true; rfl
  b1 := fun hd => by
    have hf : D 11 = false := by cases hq : D 11 with | false => rfl | true => (have := h.o1 hq; rw [hD] at this; cases this)
    rw [nx_e (by decide), hf, upd_s]
    exact ⟨_, rfl, h.hB.size, heap_alloc_new _ _⟩
  o2 := fun hd => by rw [nx_e (by decide)]; exact h.o2 (nx_o hd (by decide))
  b2 := fun hd => by rw [nx_e (by decide), upd_o _ _ _ _ (by decide)]; exact (h.b2 (nx_o hd (by decide))).below ((Below.refl _ _).alloc (Nat.le_refl _) _)
  o3 := fun hd => by rw [nx_e (by decide)]; exact h.o3 (nx_o hd (by decide))
  b3 := fun hd => by rw [nx_e (by decide), upd_o _ _ _ _ (by decide)]; exact (h.b3 (nx_o hd (by decide))).below ((Below.refl _ _).alloc (Nat.le_refl _) _)
theorem LpJ.t1 (h : LpJ V l v u c1 c2 c3 D x w) (hD : D 8 = true) {b : Nat} (hb : x 13 = .pointer (some ⟨b, 0, none⟩)) (hV : V.heap.size ≤ b) {cs : Array Value} (hz : w.heap[b]? = some (.cells cs 39 (0, 0))) (hB : Below V.heap.size V w') (hw : w'.heap[b]? = some (.cells c1 39 (0, 0))) (ho : ∀ k, k ≠ b → w'.heap[k]? = w.heap[k]?) : LpJ V l v u c1 c2 c3 (nx D 11) x w' where
  hB := hB
  s0 := fun hd => h.s0 (nx_o hd (by decide))
  s1 := fun hd => h.s1 (nx_o hd (by decide))
  s2 := fun hd => h.s2 (nx_o hd (by decide))
  s3 := fun hd => h.s3 (nx_o hd (by decide))
  s4 := fun hd => h.s4 (nx_o hd (by decide))
  s5 := fun hd => h.s5 (nx_o hd (by decide))
  s6 := fun hd => h.s6 (nx_o hd (by decide))
  s7 := fun hd => h.s7 (nx_o hd (by decide))
  o1 := fun _ => by rw [nx_e (by decide)]; exact hD
  b1 := fun _ => by
    have e : nx D 11 11 = true := by unfold nx; simp
    rw [e]
    exact ⟨b, hb, hV, hw⟩
  o2 := fun hd => by rw [nx_e (by decide)]; exact h.o2 (nx_o hd (by decide))
  b2 := fun hd => by
    rw [nx_e (by decide)]
    obtain ⟨b2, e1, e2, e3⟩ := h.b2 (nx_o hd (by decide))
    refine ⟨b2, e1, e2, (ho b2 fun he => ?_).trans e3⟩
    rw [he, hz] at e3
    simp at e3
  o3 := fun hd => by rw [nx_e (by decide)]; exact h.o3 (nx_o hd (by decide))
  b3 := fun hd => by
    rw [nx_e (by decide)]
    obtain ⟨b2, e1, e2, e3⟩ := h.b3 (nx_o hd (by decide))
    refine ⟨b2, e1, e2, (ho b2 fun he => ?_).trans e3⟩
    rw [he, hz] at e3
    simp at e3
theorem LpJ.a2 (h : LpJ V l v u c1 c2 c3 D x w) (hD : D 9 = false) : LpJ V l v u c1 c2 c3 (nx D 9) (upd x 14 (.pointer (some ⟨w.heap.size, 0, none⟩))) (w.alloc (.cells #[.int .i64 0, .int .i64 0] 42)) where
  hB := h.hB.alloc h.hB.size _
  s0 := fun hd => (upd_o _ _ _ _ (by decide)).trans (h.s0 (nx_o hd (by decide)))
  s1 := fun hd => (upd_o _ _ _ _ (by decide)).trans (h.s1 (nx_o hd (by decide)))
  s2 := fun hd => (upd_o _ _ _ _ (by decide)).trans (h.s2 (nx_o hd (by decide)))
  s3 := fun hd => (upd_o _ _ _ _ (by decide)).trans (h.s3 (nx_o hd (by decide)))
  s4 := fun hd => (upd_o _ _ _ _ (by decide)).trans (h.s4 (nx_o hd (by decide)))
  s5 := fun hd => (upd_o _ _ _ _ (by decide)).trans (h.s5 (nx_o hd (by decide)))
  s6 := fun hd => (upd_o _ _ _ _ (by decide)).trans (h.s6 (nx_o hd (by decide)))
  s7 := fun hd => (upd_o _ _ _ _ (by decide)).trans (h.s7 (nx_o hd (by decide)))
  o1 := fun hd => by rw [nx_e (by decide)]; exact h.o1 (nx_o hd (by decide))
  b1 := fun hd => by rw [nx_e (by decide), upd_o _ _ _ _ (by decide)]; exact (h.b1 (nx_o hd (by decide))).below ((Below.refl _ _).alloc (Nat.le_refl _) _)
  o2 := fun hd => by show (9 == 9 || D 9) = true; rfl
  b2 := fun hd => by
    have hf : D 12 = false := by cases hq : D 12 with | false => rfl | true => (have := h.o2 hq; rw [hD] at this; cases this)
    rw [nx_e (by decide), hf, upd_s]
    exact ⟨_, rfl, h.hB.size, heap_alloc_new _ _⟩
  o3 := fun hd => by rw [nx_e (by decide)]; exact h.o3 (nx_o hd (by decide))
  b3 := fun hd => by rw [nx_e (by decide), upd_o _ _ _ _ (by decide)]; exact (h.b3 (nx_o hd (by decide))).below ((Below.refl _ _).alloc (Nat.le_refl _) _)
theorem LpJ.t2 (h : LpJ V l v u c1 c2 c3 D x w) (hD : D 9 = true) {b : Nat} (hb : x 14 = .pointer (some ⟨b, 0, none⟩)) (hV : V.heap.size ≤ b) {cs : Array Value} (hz : w.heap[b]? = some (.cells cs 42 (0, 0))) (hB : Below V.heap.size V w') (hw : w'.heap[b]? = some (.cells c2 42 (0, 0))) (ho : ∀ k, k ≠ b → w'.heap[k]? = w.heap[k]?) : LpJ V l v u c1 c2 c3 (nx D 12) x w' where
  hB := hB
  s0 := fun hd => h.s0 (nx_o hd (by decide))
  s1 := fun hd => h.s1 (nx_o hd (by decide))
  s2 := fun hd => h.s2 (nx_o hd (by decide))
  s3 := fun hd => h.s3 (nx_o hd (by decide))
  s4 := fun hd => h.s4 (nx_o hd (by decide))
  s5 := fun hd => h.s5 (nx_o hd (by decide))
  s6 := fun hd => h.s6 (nx_o hd (by decide))
  s7 := fun hd => h.s7 (nx_o hd (by decide))
  o1 := fun hd => by rw [nx_e (by decide)]; exact h.o1 (nx_o hd (by decide))
  b1 := fun hd => by
    rw [nx_e (by decide)]
    obtain ⟨b2, e1, e2, e3⟩ := h.b1 (nx_o hd (by decide))
    refine ⟨b2, e1, e2, (ho b2 fun he => ?_).trans e3⟩
    rw [he, hz] at e3
    simp at e3
  o2 := fun _ => by rw [nx_e (by decide)]; exact hD
  b2 := fun _ => by
    have e : nx D 12 12 = true := by unfold nx; simp
    rw [e]
    exact ⟨b, hb, hV, hw⟩
  o3 := fun hd => by rw [nx_e (by decide)]; exact h.o3 (nx_o hd (by decide))
  b3 := fun hd => by
    rw [nx_e (by decide)]
    obtain ⟨b2, e1, e2, e3⟩ := h.b3 (nx_o hd (by decide))
    refine ⟨b2, e1, e2, (ho b2 fun he => ?_).trans e3⟩
    rw [he, hz] at e3
    simp at e3
theorem LpJ.a3 (h : LpJ V l v u c1 c2 c3 D x w) (hD : D 10 = false) : LpJ V l v u c1 c2 c3 (nx D 10) (upd x 15 (.pointer (some ⟨w.heap.size, 0, none⟩))) (w.alloc (.cells #[.int .i64 0, .int .i64 0] 45)) where
  hB := h.hB.alloc h.hB.size _
  s0 := fun hd => (upd_o _ _ _ _ (by decide)).trans (h.s0 (nx_o hd (by decide)))
  s1 := fun hd => (upd_o _ _ _ _ (by decide)).trans (h.s1 (nx_o hd (by decide)))
  s2 := fun hd => (upd_o _ _ _ _ (by decide)).trans (h.s2 (nx_o hd (by decide)))
  s3 := fun hd => (upd_o _ _ _ _ (by decide)).trans (h.s3 (nx_o hd (by decide)))
  s4 := fun hd => (upd_o _ _ _ _ (by decide)).trans (h.s4 (nx_o hd (by decide)))
  s5 := fun hd => (upd_o _ _ _ _ (by decide)).trans (h.s5 (nx_o hd (by decide)))
  s6 := fun hd => (upd_o _ _ _ _ (by decide)).trans (h.s6 (nx_o hd (by decide)))
  s7 := fun hd => (upd_o _ _ _ _ (by decide)).trans (h.s7 (nx_o hd (by decide)))
  o1 := fun hd => by rw [nx_e (by decide)]; exact h.o1 (nx_o hd (by decide))
  b1 := fun hd => by rw [nx_e (by decide), upd_o _ _ _ _ (by decide)]; exact (h.b1 (nx_o hd (by decide))).below ((Below.refl _ _).alloc (Nat.le_refl _) _)
  o2 := fun hd => by rw [nx_e (by decide)]; exact h.o2 (nx_o hd (by decide))
  b2 := fun hd => by rw [nx_e (by decide), upd_o _ _ _ _ (by decide)]; exact (h.b2 (nx_o hd (by decide))).below ((Below.refl _ _).alloc (Nat.le_refl _) _)
  o3 := fun hd => by show (10 == 10 || D 10) = true; rfl
  b3 := fun hd => by
    have hf : D 13 = false := by cases hq : D 13 with | false => rfl | true => (have := h.o3 hq; rw [hD] at this; cases this)
    rw [nx_e (by decide), hf, upd_s]
    exact ⟨_, rfl, h.hB.size, heap_alloc_new _ _⟩
theorem LpJ.t3 (h : LpJ V l v u c1 c2 c3 D x w) (hD : D 10 = true) {b : Nat} (hb : x 15 = .pointer (some ⟨b, 0, none⟩)) (hV : V.heap.size ≤ b) {cs : Array Value} (hz : w.heap[b]? = some (.cells cs 45 (0, 0))) (hB : Below V.heap.size V w') (hw : w'.heap[b]? = some (.cells c3 45 (0, 0))) (ho : ∀ k, k ≠ b → w'.heap[k]? = w.heap[k]?) : LpJ V l v u c1 c2 c3 (nx D 13) x w' where
  hB := hB
  s0 := fun hd => h.s0 (nx_o hd (by decide))
  s1 := fun hd => h.s1 (nx_o hd (by decide))
  s2 := fun hd => h.s2 (nx_o hd (by decide))
  s3 := fun hd => h.s3 (nx_o hd (by decide))
  s4 := fun hd => h.s4 (nx_o hd (by decide))
  s5 := fun hd => h.s5 (nx_o hd (by decide))
  s6 := fun hd => h.s6 (nx_o hd (by decide))
  s7 := fun hd => h.s7 (nx_o hd (by decide))
  o1 := fun hd => by rw [nx_e (by decide)]; exact h.o1 (nx_o hd (by decide))
  b1 := fun hd => by
    rw [nx_e (by decide)]
    obtain ⟨b2, e1, e2, e3⟩ := h.b1 (nx_o hd (by decide))
    refine ⟨b2, e1, e2, (ho b2 fun he => ?_).trans e3⟩
    rw [he, hz] at e3
    simp at e3
  o2 := fun hd => by rw [nx_e (by decide)]; exact h.o2 (nx_o hd (by decide))
  b2 := fun hd => by
    rw [nx_e (by decide)]
    obtain ⟨b2, e1, e2, e3⟩ := h.b2 (nx_o hd (by decide))
    refine ⟨b2, e1, e2, (ho b2 fun he => ?_).trans e3⟩
    rw [he, hz] at e3
    simp at e3
  o3 := fun _ => by rw [nx_e (by decide)]; exact hD
  b3 := fun _ => by
    have e : nx D 13 13 = true := by unfold nx; simp
    rw [e]
    exact ⟨b, hb, hV, hw⟩
end
theorem set3 {W : World} {b : Nat} {z0 z1 z2 v0 v1 v2 : Value} {t : TypeId} (h : W.heap[b]? = some (.cells #[z0, z1, z2] t (0, 0))) :
    (((W.setCell ⟨b, 0, none⟩ v0).setCell ⟨b, 1, none⟩ v1).setCell ⟨b, 2, none⟩ v2).heap[b]? = some (.cells #[v0, v1, v2] t (0, 0)) := by
  have h1 := heap_setCell_same W b 0 _ t v0 h
  have h2 := heap_setCell_same _ b 1 _ t v1 h1
  exact heap_setCell_same _ b 2 _ t v2 h2
theorem set2 {W : World} {b : Nat} {z0 z1 v0 v1 : Value} {t : TypeId} (h : W.heap[b]? = some (.cells #[z0, z1] t (0, 0))) :
    ((W.setCell ⟨b, 0, none⟩ v0).setCell ⟨b, 1, none⟩ v1).heap[b]? = some (.cells #[v0, v1] t (0, 0)) := by
  have h1 := heap_setCell_same W b 0 _ t v0 h
  exact heap_setCell_same _ b 1 _ t v1 h1

/-- A call, as a step. -/
theorem step_call9 {P : Program} {ops : Array Oper} {o : Oper} {a : Act} {w : World} {K : Act → World → Prop} {Q : Exit → Act → World → Prop} {E : Prop} (hgd : o.guard = none) (f : FuncId) (vs : Array Value) (v : Value)
    (hop : (execOp a.eval o).run P w = .ok (.enter f vs) w)
    (h : Calls P f vs w fun e w' => e = .returned v ∧ Below w.heap.size w w') (hk : ∀ w', Below w.heap.size w w' → K (a.put o.dst v) w') :
    if Region.wanted o (yielded ops a.tmps) = true then Oper.wp P o a w K Q else E := by
  have hw : Region.wanted o (yielded ops a.tmps) = true := by simp [Region.wanted, hgd]
  rw [if_pos hw]
  unfold Oper.wp
  rw [hop, Oper.upon_enter]
  exact h.mono fun e w' ⟨he, hb⟩ => by subst he; exact hk w' hb

end Go.Proofs.Ytjjmoibnmdbpeaa.Pr

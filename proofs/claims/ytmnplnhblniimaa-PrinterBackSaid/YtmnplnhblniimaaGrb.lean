/- THE READER IN MEMORY: where its rows lie; what a call leaves alone. -/
import Derived.Test.YtmnplnhblniimaaGra
import Derived.Test.YtmnplnhblniimaaTokenf
import Derived.OneCell
namespace Go.Proofs.Ytmnplnhblniimaa.Gr
set_option linter.unusedVariables false
set_option linter.unusedSimpArgs false
open Go Go.RowKit

/-- What a call leaves alone that writes the reader at block b, and rows of the types T. -/
structure Keep (b : Nat) (T : List TypeId) (w w' : World) : Prop where
  os : w'.os = w.os
  tape : w'.tape = w.tape
  output : w'.output = w.output
  size : w.heap.size ≤ w'.heap.size
  block : ∀ k, k < w.heap.size → k ≠ b → (k < b ∨ ∃ cs t f, w.heap[k]? = some (.cells cs t f) ∧ t ∉ T) → w'.heap[k]? = w.heap[k]?

theorem lt_blk {w : World} {b : Nat} {o : Obj} (h : w.heap[b]? = some o) : b < w.heap.size := lt_of_block h

section
variable {b : Nat} {T : List TypeId} {w w' q : World}
theorem Keep.refl (b : Nat) (T : List TypeId) (w : World) : Keep b T w w := ⟨rfl, rfl, rfl, Nat.le_refl _, fun _ _ _ _ => rfl⟩
theorem Keep.trans (h : Keep b T w w') (k : Keep b T w' q) : Keep b T w q :=
  ⟨k.os.trans h.os, k.tape.trans h.tape, k.output.trans h.output, Nat.le_trans h.size k.size, fun j hj hb hc => (k.block j (Nat.lt_of_lt_of_le hj h.size) hb (by
    rcases hc with hc | ⟨cs, t, f, h1, h2⟩
    · exact .inl hc
    · exact .inr ⟨cs, t, f, (h.block j hj hb (.inr ⟨cs, t, f, h1, h2⟩)).trans h1, h2⟩)).trans (h.block j hj hb hc)⟩
theorem Keep.mono {T' : List TypeId} (h : Keep b T w w') (ht : ∀ t ∈ T, t ∈ T') : Keep b T' w w' :=
  ⟨h.os, h.tape, h.output, h.size, fun k hk hb hc => h.block k hk hb (hc.imp id fun ⟨cs, t, f, h1, h2⟩ => ⟨cs, t, f, h1, fun h3 => h2 (ht _ h3)⟩)⟩
theorem Keep.of_below (h : Below w.heap.size w w') : Keep b T w w' := ⟨h.os, h.tape, h.output, h.size, fun k hk _ _ => h.block k hk⟩
theorem Keep.next (h : Keep b T w w') (k : Below w'.heap.size w' q) : Keep b T w q := h.trans (.of_below k)
theorem Keep.below {B : Nat} (h : Keep b T w w') (hb : B ≤ b) (hB : B ≤ w.heap.size) : Below B w w' :=
  ⟨h.os, h.tape, h.output, h.size, fun k hk => h.block k (by omega) (by omega) (.inl (by omega))⟩
theorem Keep.blk {k : Nat} {cs : Array Value} {t : TypeId} {f : Nat × Nat} (h : Keep b T w w') (hk : w.heap[k]? = some (.cells cs t f)) (hb : k ≠ b) (ht : t ∉ T) : w'.heap[k]? = some (.cells cs t f) :=
  (h.block k (lt_blk hk) hb (.inr ⟨cs, t, f, hk, ht⟩)).trans hk
theorem Keep.low {k : Nat} {o : Obj} (h : Keep b T w w') (hk : w.heap[k]? = some o) (hb : k < b) : w'.heap[k]? = some o :=
  (h.block k (lt_blk hk) (by omega) (.inl hb)).trans hk
theorem Keep.alloc (h : Keep b T w w') (o : Obj) : Keep b T w (w'.alloc o) := h.next ((Below.refl _ _).alloc (Nat.le_refl _) _)
theorem Keep.drew (h : Keep b T w w') : Keep b T w w'.drew := h.next (Below.refl _ _).drew
/-- A store into the reader, or into what is new. -/
theorem Keep.set {k j : Nat} (h : Keep b T w w') (u : Value) (hk : k = b ∨ w.heap.size ≤ k) : Keep b T w (w'.setCell ⟨k, j, none⟩ u) :=
  ⟨h.os, h.tape, h.output, by simpa [World.setCell] using h.size, fun i hi hb hc => (heap_setCell_other _ _ _ _ (by show i ≠ k; omega)).trans (h.block i hi hb hc)⟩
/-- A row of such a type has grown. -/
theorem Keep.grown {base size n : Nat} {t : TypeId} {v : Value} {xs : List Value} (h : Keep b T w w') (g : w'.grownBy q v.ownBlock) (hown : w'.ownsRow base t size v n xs) (hb : b < base) (ht : t ∈ T) : Keep b T w q :=
  ⟨g.os.trans h.os, g.tape.trans h.tape, g.output.trans h.output, Nat.le_trans h.size g.size, fun k hk hkb hc => by
    refine (g.block k (Nat.lt_of_lt_of_le hk h.size) fun he => ?_).trans (h.block k hk hkb hc)
    rcases hown.2 with ⟨rfl, _⟩ | ⟨y, cap, cur, rfl, hby, hy, _⟩
    · cases he
    · have he2 : k = y := by injection he
      subst he2
      rcases hc with hc | ⟨cs, t', f, h1, h2⟩
      · omega
      · have h3 := (h.block k hk hkb (.inr ⟨cs, t', f, h1, h2⟩)).trans h1
        rw [hy] at h3
        cases h3
        exact h2 ht⟩
end

/-- The type of a block's cells. -/
def ty (w : World) (k : Nat) : Option TypeId := match w.heap[k]? with | some (.cells _ t _) => some t | _ => none
theorem ty_of {w : World} {k : Nat} {cs : Array Value} {t : TypeId} {f : Nat × Nat} (h : w.heap[k]? = some (.cells cs t f)) : ty w k = some t := by unfold ty; rw [h]
theorem ty_set {w : World} {a : Addr} {u : Value} {k : Nat} : ty (w.setCell a u) k = ty w k := by
  unfold ty
  simp only [World.setCell, Array.getElem?_modify]
  by_cases h : a.block = k
  · rw [if_pos h]
    cases w.heap[k]? with
    | none => rfl
    | some o => cases o <;> simp <;> split <;> rfl
  · rw [if_neg h]

def sv (s : ByteArray) : Value := .string s

/-- The rows behind a reader's values. -/
structure Rw (base : Nat) (w : World) (L : List Tok) (lv vv tv bv : Value) (r : R) : Prop where
  l : Sl w lv Tk.Tok.cells L
  ll : ∀ p n c, lv = .slice (some p) n c → p.block + 1 < base
  v : w.ownsRow base 9 1 vv r.vs.length (r.vs.map sv)
  t : w.ownsRow base 39 4 tv r.tg.length (Tk.cells r.tg)
  b : w.ownsRow base 39 4 bv r.bk.length (Tk.cells r.bk)
  ne : tv.ownBlock = none ∨ tv.ownBlock ≠ bv.ownBlock

theorem Sl.put {α : Type} {enc : α → List Value} {w : World} {v : Value} {L : List α} {k j : Nat} {u : Value} (h : Sl w v enc L) (hk : ∀ p n c, v = .slice (some p) n c → p.block ≠ k) : Sl (w.setCell ⟨k, j, none⟩ u) v enc L := by
  obtain ⟨b, off, p, cap, hv, hp, hc⟩ := h
  refine ⟨b, off, p, cap, hv, hp, fun i x hx => ?_⟩
  have h0 : 0 < L.length := by
    rcases Nat.eq_zero_or_pos L.length with h | h
    · have : L = [] := List.eq_nil_of_length_eq_zero h
      subst this
      simp at hx
    · exact h
  have hb : b ≠ k := by
    have := hk ⟨b, off, none⟩ L.length cap (by rw [hv, hp h0])
    exact this
  have : (w.setCell ⟨k, j, none⟩ u).heap[b]? = w.heap[b]? := heap_setCell_other _ _ _ _ hb
  rw [World.cell?_of_block this]
  exact hc i x hx

theorem own_no {w : World} {base k s n : Nat} {t t2 : TypeId} {v : Value} {xs : List Value} (h : w.ownsRow base t s v n xs) (hk : ty w k = some t2) (ht : t ≠ t2) : v.ownBlock ≠ some k := by
  intro he
  rcases h.2 with ⟨rfl, _⟩ | ⟨g, cap, cur, rfl, hbg, hg, _⟩
  · cases he
  · have he2 : g = k := by injection he
    subst he2
    rw [ty_of hg] at hk
    cases hk
    exact ht rfl

section
variable {base : Nat} {w q : World} {L : List Tok} {lv vv tv bv : Value} {r : R}
theorem Rw.below (h : Rw base w L lv vv tv bv r) (hq : Below w.heap.size w q) : Rw base q L lv vv tv bv r :=
  ⟨h.l.below hq, h.ll, own_below h.v hq, own_below h.t hq, own_below h.b hq, h.ne⟩
/-- A store into a block that is none of these. -/
theorem Rw.set {k j : Nat} (h : Rw base w L lv vv tv bv r) (u : Value) (hl : base ≤ k + 1) (hv : vv.ownBlock ≠ some k) (ht : tv.ownBlock ≠ some k) (hb : bv.ownBlock ≠ some k) : Rw base (w.setCell ⟨k, j, none⟩ u) L lv vv tv bv r :=
  ⟨Sl.put h.l (fun p n c he => by have := h.ll p n c he; omega), h.ll, ownsRow_setCell_other h.v hv _, ownsRow_setCell_other h.t ht _, ownsRow_setCell_other h.b hb _, h.ne⟩
/-- Into the reader itself, which lies ahead of all of its rows. -/
theorem Rw.set0 {b j : Nat} (h : Rw (b + 1) w L lv vv tv bv r) (u : Value) : Rw (b + 1) (w.setCell ⟨b, j, none⟩ u) L lv vv tv bv r :=
  h.set u (Nat.le_refl _) (fun he => by have := (h.v.lt _ he).1; omega) (fun he => by have := (h.t.lt _ he).1; omega) (fun he => by have := (h.b.lt _ he).1; omega)
/-- Into a block of another type. -/
theorem Rw.setT {k j : Nat} {t : TypeId} (h : Rw base w L lv vv tv bv r) (u : Value) (hl : base ≤ k + 1) (hk : ty w k = some t) (h1 : 9 ≠ t) (h2 : 39 ≠ t) : Rw base (w.setCell ⟨k, j, none⟩ u) L lv vv tv bv r :=
  h.set u hl (own_no h.v hk h1) (own_no h.t hk h2) (own_no h.b hk h2)
/-- What a call makes. -/
theorem Rw.new {w0 : World} {k j : Nat} (h : Rw base w L lv vv tv bv r) (u : Value) (h0 : Rw base w0 L lv vv tv bv r) (hk : w0.heap.size ≤ k) (hb : base ≤ w0.heap.size) : Rw base (w.setCell ⟨k, j, none⟩ u) L lv vv tv bv r :=
  h.set u (by omega) (fun he => by have := (h0.v.lt _ he).2; omega) (fun he => by have := (h0.t.lt _ he).2; omega) (fun he => by have := (h0.b.lt _ he).2; omega)
theorem Rw.state {i : Nat} {e p n : Int} (h : Rw base w L lv vv tv bv r) : Rw base w L lv vv tv bv { r with i := i, e := e, p := p, n := n } := ⟨h.l, h.ll, h.v, h.t, h.b, h.ne⟩
end

/-- The program's reader, at block b. -/
structure Gx (b : Nat) (L : List Tok) (lv vv tv bv : Value) (w : World) (r : R) : Prop where
  box : w.heap[b]? = some (.cells #[lv, .int .i64 r.i, .int .i64 r.e, .int .i64 r.p, .int .i64 r.n, vv, tv, bv] 67 (0, 0))
  rows : Rw (b + 1) w L lv vv tv bv r
/-- The page's. -/
structure Px (b : Nat) (L : List Tok) (lv vv tv bv : Value) (w : World) (r : R) : Prop where
  box : w.heap[b]? = some (.cells #[lv, .int .i64 r.i, .int .i64 r.e, .int .i64 r.p, .int .i64 r.n, vv, bv, tv] 74 (0, 0))
  rows : Rw (b + 1) w L lv vv tv bv r

theorem nextB {w W q : World} (hq : Below W.heap.size W q) (h : Below w.heap.size w W) : Below w.heap.size w q := h.trans (hq.mono h.size)
theorem blkN {W q : World} {k : Nat} {o : Obj} (hq : Below W.heap.size W q) (h : W.heap[k]? = some o) : q.heap[k]? = some o := (hq.block k (lt_blk h)).trans h

section
variable {b : Nat} {w q : World} {L : List Tok} {lv vv tv bv : Value} {r : R}
theorem Gx.below (h : Gx b L lv vv tv bv w r) (hq : Below w.heap.size w q) : Gx b L lv vv tv bv q r := ⟨blkN hq h.box, h.rows.below hq⟩
theorem Px.below (h : Px b L lv vv tv bv w r) (hq : Below w.heap.size w q) : Px b L lv vv tv bv q r := ⟨blkN hq h.box, h.rows.below hq⟩
theorem Gx.setT {k j : Nat} {t : TypeId} (h : Gx b L lv vv tv bv w r) (u : Value) (hl : b < k) (hk : ty w k = some t) (h1 : 9 ≠ t) (h2 : 39 ≠ t) : Gx b L lv vv tv bv (w.setCell ⟨k, j, none⟩ u) r :=
  ⟨(heap_setCell_other _ _ _ _ (by show b ≠ k; omega)).trans h.box, h.rows.setT u (by omega) hk h1 h2⟩
theorem Px.setT {k j : Nat} {t : TypeId} (h : Px b L lv vv tv bv w r) (u : Value) (hl : b < k) (hk : ty w k = some t) (h1 : 9 ≠ t) (h2 : 39 ≠ t) : Px b L lv vv tv bv (w.setCell ⟨k, j, none⟩ u) r :=
  ⟨(heap_setCell_other _ _ _ _ (by show b ≠ k; omega)).trans h.box, h.rows.setT u (by omega) hk h1 h2⟩
theorem Gx.new {w0 : World} {r0 : R} {k j : Nat} (h : Gx b L lv vv tv bv w r) (u : Value) (h0 : Gx b L lv vv tv bv w0 r0) (hk : w0.heap.size ≤ k) : Gx b L lv vv tv bv (w.setCell ⟨k, j, none⟩ u) r := by
  have hb := lt_blk h0.box
  refine ⟨(heap_setCell_other _ _ _ _ (by show b ≠ k; omega)).trans h.box, h.rows.set u (by omega) (fun he => ?_) (fun he => ?_) (fun he => ?_)⟩
  · have := (h0.rows.v.lt _ he).2; omega
  · have := (h0.rows.t.lt _ he).2; omega
  · have := (h0.rows.b.lt _ he).2; omega
theorem Px.new {w0 : World} {r0 : R} {k j : Nat} (h : Px b L lv vv tv bv w r) (u : Value) (h0 : Px b L lv vv tv bv w0 r0) (hk : w0.heap.size ≤ k) : Px b L lv vv tv bv (w.setCell ⟨k, j, none⟩ u) r := by
  have hb := lt_blk h0.box
  refine ⟨(heap_setCell_other _ _ _ _ (by show b ≠ k; omega)).trans h.box, h.rows.set u (by omega) (fun he => ?_) (fun he => ?_) (fun he => ?_)⟩
  · have := (h0.rows.v.lt _ he).2; omega
  · have := (h0.rows.t.lt _ he).2; omega
  · have := (h0.rows.b.lt _ he).2; omega
theorem row8 {B : Nat} {v0 v1 v2 v3 v4 v5 v6 v7 : Value} {t : TypeId} (h : w.heap[B]? = some (.cells #[v0, v1, v2, v3, v4, v5, v6, v7] t (0, 0))) :
    w.cell? ⟨B, 0, none⟩ = some v0 ∧ w.cell? ⟨B, 1, none⟩ = some v1 ∧ w.cell? ⟨B, 2, none⟩ = some v2 ∧ w.cell? ⟨B, 3, none⟩ = some v3 ∧ w.cell? ⟨B, 4, none⟩ = some v4 ∧ w.cell? ⟨B, 5, none⟩ = some v5 ∧ w.cell? ⟨B, 6, none⟩ = some v6 ∧ w.cell? ⟨B, 7, none⟩ = some v7 ∧ (∀ j, w.frozen? ⟨B, j, none⟩ = false) ∧ B < w.heap.size :=
  ⟨(cell_of_row w B 0 _ t (0, 0) h).trans rfl, (cell_of_row w B 1 _ t (0, 0) h).trans rfl, (cell_of_row w B 2 _ t (0, 0) h).trans rfl, (cell_of_row w B 3 _ t (0, 0) h).trans rfl, (cell_of_row w B 4 _ t (0, 0) h).trans rfl, (cell_of_row w B 5 _ t (0, 0) h).trans rfl, (cell_of_row w B 6 _ t (0, 0) h).trans rfl, (cell_of_row w B 7 _ t (0, 0) h).trans rfl, fun j => frozen_of_row w B j _ t h, lt_blk h⟩
theorem row4 {B : Nat} {v0 v1 v2 v3 : Value} {t : TypeId} (h : w.heap[B]? = some (.cells #[v0, v1, v2, v3] t (0, 0))) :
    w.cell? ⟨B, 0, none⟩ = some v0 ∧ w.cell? ⟨B, 1, none⟩ = some v1 ∧ w.cell? ⟨B, 2, none⟩ = some v2 ∧ w.cell? ⟨B, 3, none⟩ = some v3 ∧ (∀ j, w.frozen? ⟨B, j, none⟩ = false) ∧ B < w.heap.size :=
  ⟨(cell_of_row w B 0 _ t (0, 0) h).trans rfl, (cell_of_row w B 1 _ t (0, 0) h).trans rfl, (cell_of_row w B 2 _ t (0, 0) h).trans rfl, (cell_of_row w B 3 _ t (0, 0) h).trans rfl, fun j => frozen_of_row w B j _ t h, lt_blk h⟩
/-- Stores into the reader. -/
theorem Gx.put1 (h : Gx b L lv vv tv bv w r) (i : Nat) (x : Int) (hx : x = i) : Gx b L lv vv tv bv (w.setCell ⟨b, 1, none⟩ (.int .i64 x)) { r with i := i } := hx ▸ ⟨heap_setCell_same _ b 1 _ _ _ h.box, (h.rows.set0 _).state⟩
theorem Px.put1 (h : Px b L lv vv tv bv w r) (i : Nat) (x : Int) (hx : x = i) : Px b L lv vv tv bv (w.setCell ⟨b, 1, none⟩ (.int .i64 x)) { r with i := i } := hx ▸ ⟨heap_setCell_same _ b 1 _ _ _ h.box, (h.rows.set0 _).state⟩
theorem Gx.put2 (h : Gx b L lv vv tv bv w r) (e : Int) : Gx b L lv vv tv bv (w.setCell ⟨b, 2, none⟩ (.int .i64 e)) { r with e := e } := ⟨heap_setCell_same _ b 2 _ _ _ h.box, (h.rows.set0 _).state⟩
theorem Px.put2 (h : Px b L lv vv tv bv w r) (e : Int) : Px b L lv vv tv bv (w.setCell ⟨b, 2, none⟩ (.int .i64 e)) { r with e := e } := ⟨heap_setCell_same _ b 2 _ _ _ h.box, (h.rows.set0 _).state⟩
theorem Gx.put3 (h : Gx b L lv vv tv bv w r) (e : Int) : Gx b L lv vv tv bv (w.setCell ⟨b, 3, none⟩ (.int .i64 e)) { r with p := e } := ⟨heap_setCell_same _ b 3 _ _ _ h.box, (h.rows.set0 _).state⟩
theorem Px.put3 (h : Px b L lv vv tv bv w r) (e : Int) : Px b L lv vv tv bv (w.setCell ⟨b, 3, none⟩ (.int .i64 e)) { r with p := e } := ⟨heap_setCell_same _ b 3 _ _ _ h.box, (h.rows.set0 _).state⟩
theorem Gx.put4 (h : Gx b L lv vv tv bv w r) (e : Int) : Gx b L lv vv tv bv (w.setCell ⟨b, 4, none⟩ (.int .i64 e)) { r with n := e } := ⟨heap_setCell_same _ b 4 _ _ _ h.box, (h.rows.set0 _).state⟩
theorem Px.put4 (h : Px b L lv vv tv bv w r) (e : Int) : Px b L lv vv tv bv (w.setCell ⟨b, 4, none⟩ (.int .i64 e)) { r with n := e } := ⟨heap_setCell_same _ b 4 _ _ _ h.box, (h.rows.set0 _).state⟩
/-- The token that comes, in memory. -/
theorem Rw.tok {base : Nat} (h : Rw base w L lv vv tv bv r) (hi : r.i < L.length) : ∃ a off c, lv = .slice (some ⟨a, off, none⟩) L.length c ∧ w.cell? ⟨a, off + r.i * 4, none⟩ = some (.int .i64 (now L r).kind) ∧ w.cell? ⟨a, off + r.i * 4 + 1, none⟩ = some (.int .i64 (now L r).pos) ∧
    w.cell? ⟨a, off + r.i * 4 + 2, none⟩ = some (.string (now L r).s) ∧ w.cell? ⟨a, off + r.i * 4 + 3, none⟩ = some (.int .i64 (now L r).n) := by
  obtain ⟨a, off, p, c, hv, hp, hc⟩ := h.l.open (k := 4) (fun _ => rfl)
  obtain rfl := hp (by omega)
  have hn : now L r = L[r.i]'hi := by unfold now; rw [List.getD_eq_getElem?_getD, List.getElem?_eq_getElem hi]; rfl
  rw [hn]
  refine ⟨a, off, c, hv, hc r.i hi 0 _ rfl, ?_, ?_, ?_⟩
  · rw [Nat.add_assoc]; exact hc r.i hi 1 _ rfl
  · rw [Nat.add_assoc]; exact hc r.i hi 2 _ rfl
  · rw [Nat.add_assoc]; exact hc r.i hi 3 _ rfl
end

end Go.Proofs.Ytmnplnhblniimaa.Gr

/- THE READER'S ROWS GROW: append, and whose block the answer has; what stands behind. -/
import Derived.Test.YtmnplnhblniimaaGrc
import Derived.Deep.RegionLaw
namespace Go.Proofs.Ytmnplnhblniimaa.Gr
set_option linter.unusedVariables false
set_option linter.unusedSimpArgs false
open Go Go.RowKit

section
variable {P : Program} (w : World)
/-- append, and whose block the answer has. -/
theorem run_append_tells (base : Nat) (t ty e : TypeId) (i : TypeInfo) (z : Value) (size bytes : Nat) (ht : P.underlying t = some (.slice e)) (hi : P.info? e = some i) (hz : i.zero = some z)
    (hsize : i.size = size) (hby : i.bytes = bytes) (hzs : z.cells.size = size) (hsz : 0 < size)
    (v : Value) (n : Nat) (xs : List Value) (hown : w.ownsRow base e size v n xs)
    (a : Addr) (m c : Nat) (news : List Value) (hl : news.length = m * size) (hnews : ∀ j u, news[j]? = some u → w.cell? (a.add j) = some u) (h1 : ∀ u ∈ news, u.oneCell' = true)
    (h63 : n + m ≤ maxLen) (hbytes : (n + m) * bytes ≤ 140737488355328) (hbase : base ≤ w.heap.size) (hm : 0 < m) :
    ∃ v' w', (Builtin.append_ #[t, t] ty #[v, .slice (some a) m c]).run P w = .ok v' w' ∧ w'.ownsRow base e size v' (n + m) (xs ++ news) ∧ w.grownBy w' v.ownBlock ∧
      (v'.ownBlock = v.ownBlock ∨ v'.ownBlock = some w.heap.size) := by
  obtain ⟨v', w', hr, h2, h3, _⟩ := run_append_own (P := P) w base t ty e i z size bytes ht hi hz hsize hby hzs hsz v n xs hown a m c news hl hnews h1 h63 hbytes hbase
  refine ⟨v', w', hr, h2, h3, ?_⟩
  subst hsize
  subst hby
  have h63' : n + m ≤ 9223372036854775807 := by simpa only [maxLen] using h63
  rcases hown.2 with ⟨rfl, rfl⟩ | ⟨g, cap, cur, rfl, hbg, hg, hnc, hcm, hcs, htake⟩
  · have hq := run_append_nil (P := P) w t ty e i z ht hi hz a m c news hl hnews (by omega) (by omega) (by have hb := hbytes; simp only [Nat.zero_add] at hb; omega)
    rw [hr] at hq
    injection hq with hv
    right
    rw [hv]
    rfl
  · by_cases hroom : n + m ≤ cap
    · have hfit : n * i.size + news.length ≤ cur.size := by rw [hl, hcs, ← Nat.add_mul]; exact Nat.mul_le_mul_right _ hroom
      have hq := run_append_room (P := P) w t ty e i ht hi g n cap cur hg a m c news hl hnews h1 hroom hfit
      rw [hr] at hq
      injection hq with hv
      left
      rw [hv]
      rfl
    · have holds : ∀ j u, xs[j]? = some u → w.cell? ((⟨g, 0, none⟩ : Addr).add j) = some u := hown.cells (g := g) rfl
      have hq := run_append_grow (P := P) w t ty e i z ht hi hz ⟨g, 0, none⟩ n cap xs hown.1 holds a m c news hl hnews (by omega) (by omega) (growslice_fits (by omega) hbytes)
      rw [hr] at hq
      injection hq with hv
      right
      rw [hv]
      rfl
end

/-- append AS ONE STEP OF A REGION THAT DRAWS ITS ORDER; whose block the answer has. -/
theorem step_append_tells {P : Program} {w : World} {ops : Array Oper} {o : Oper} {a : Act} {K : Act → World → Prop} {Q : Exit → Act → World → Prop} {E : Prop} (hgd : o.guard = none) (s x : Operand) (t : TypeId)
    (ho : o.op = .call { callee := .builtin .append, args := #[s, x], argTypes := #[t, t] })
    (base : Nat) (e : TypeId) (i : TypeInfo) (z : Value) (size bytes : Nat) (ht : P.underlying t = some (.slice e)) (hi : P.info? e = some i) (hz : i.zero = some z)
    (hsize : i.size = size) (hby : i.bytes = bytes) (hzs : z.cells.size = size) (hsz : 0 < size)
    (v : Value) (n : Nat) (xs : List Value) (hs : a.eval s = v) (hown : w.ownsRow base e size v n xs)
    (ad : Addr) (m c : Nat) (news : List Value) (hx : a.eval x = .slice (some ad) m c) (hl : news.length = m * size) (hnews : ∀ j u, news[j]? = some u → w.cell? (ad.add j) = some u) (h1 : ∀ u ∈ news, u.oneCell' = true)
    (h63 : n + m ≤ maxLen) (hbytes : (n + m) * bytes ≤ 140737488355328) (hbase : base ≤ w.heap.size) (hm : 0 < m)
    (h : ∀ v' w', w'.ownsRow base e size v' (n + m) (xs ++ news) → w.grownBy w' v.ownBlock → (v'.ownBlock = v.ownBlock ∨ v'.ownBlock = some w.heap.size) → K (a.put o.dst v') w') :
    if Region.wanted o (yielded ops a.tmps) = true then Oper.wp P o a w K Q else E := by
  have hw : Region.wanted o (yielded ops a.tmps) = true := by simp [Region.wanted, hgd]
  rw [if_pos hw]
  obtain ⟨v', w', hr, h2, h3, h4⟩ := run_append_tells (P := P) w base t o.type e i z size bytes ht hi hz hsize hby hzs hsz v n xs hown ad m c news hl hnews h1 h63 hbytes hbase hm
  unfold Oper.wp execOp
  simp only [ho, resolve, invoke, builtin, Sem.run_bind, Sem.run_pure, Result.andThen_ok, List.map_toArray, List.map_cons, List.map_nil, hs, hx, hr]
  exact h v' w' h2 h3 h4

theorem ownTy {w : World} {b1 b2 : Nat} {t1 t2 : TypeId} {s1 s2 n1 n2 : Nat} {v1 v2 : Value} {x1 x2 : List Value} (h1 : w.ownsRow b1 t1 s1 v1 n1 x1) (h2 : w.ownsRow b2 t2 s2 v2 n2 x2) (ht : t1 ≠ t2) : v1.ownBlock = none ∨ v1.ownBlock ≠ v2.ownBlock := by
  rcases h1.2 with ⟨rfl, _⟩ | ⟨g, cap, cur, rfl, _, hg, _⟩
  · exact .inl rfl
  · right
    intro he
    rcases h2.2 with ⟨rfl, _⟩ | ⟨g2, cap2, cur2, rfl, _, hg2, _⟩
    · cases he
    · have : g = g2 := by injection he
      subst this
      rw [hg] at hg2
      injection hg2 with hg3
      injection hg3 with _ h5
      exact ht h5

theorem s_info : (Try.prog.info? 9).map (fun i => (i.zero, i.size, i.bytes)) = some (some (.string ⟨#[]⟩), 1, 16) := by kernel_rfl
theorem t_info : (Try.prog.info? 39).map (fun i => (i.zero, i.size, i.bytes)) = some (some (.agg #[.int .i64 0, .int .i64 0, .string ⟨#[]⟩, .int .i64 0]), 4, 40) := by kernel_rfl
theorem info_parts {i : Option TypeInfo} {z : Value} {s n : Nat} (h : i.map (fun i => (i.zero, i.size, i.bytes)) = some (some z, s, n)) : ∃ j, i = some j ∧ j.zero = some z ∧ j.size = s ∧ j.bytes = n := by
  cases i with
  | none => cases h
  | some j => simp only [Option.map_some, Option.some.injEq, Prod.mk.injEq] at h; exact ⟨j, rfl, h.1, h.2.1, h.2.2⟩

theorem le_of_lt_blk {w : World} {b : Nat} {o : Obj} (h : w.heap[b]? = some o) : b + 1 ≤ w.heap.size := lt_blk h

section
variable {b : Nat} {w w6 : World} {L : List Tok} {lv vv tv bv v6 : Value} {r : R}

theorem Sl.grown {α : Type} {enc : α → List Value} {v u : Value} {X : List α} (h : Sl w v enc X) (hg : w.grownBy w6 u.ownBlock) (hk : ∀ p n c, v = .slice (some p) n c → u.ownBlock ≠ some p.block) : Sl w6 v enc X := by
  obtain ⟨b, off, p, cap, hv, hp, hc⟩ := h
  refine ⟨b, off, p, cap, hv, hp, fun i x hx => ?_⟩
  have h0 : 0 < X.length := by
    rcases Nat.eq_zero_or_pos X.length with h | h
    · have : X = [] := List.eq_nil_of_length_eq_zero h
      subst this
      simp at hx
    · exact h
  have h1 := hc i x hx
  have hb : w6.heap[b]? = w.heap[b]? := hg.block b (World.block_lt_of_cell? _ _ h1) fun he => hk _ _ _ (by rw [hv, hp h0]) he.symm
  rw [World.cell?_of_block (a := ⟨b, off + i, none⟩) hb]
  exact h1

theorem far {s n : Nat} {t : TypeId} {v : Value} {xs : List Value} (h : w.ownsRow (b + 1) t s v n xs) {k : Nat} (hk : k ≤ b) : v.ownBlock ≠ some k := fun he => by
  have := (h.lt _ he).1
  omega

/-- Behind an append to the variables. -/
theorem Rw.growV (h : Rw (b + 1) w L lv vv tv bv r) (hg : w.grownBy w6 vv.ownBlock) (s : ByteArray) (ho : w6.ownsRow (b + 1) 9 1 v6 (r.vs.length + 1) (r.vs.map sv ++ [.string s])) :
    Rw (b + 1) w6 L lv v6 tv bv { r with vs := r.vs ++ [s] } :=
  ⟨Sl.grown h.l hg fun p n c he => far h.v (by have := h.ll p n c he; omega), h.ll, by simpa [sv] using ho, h.t.kept hg (ownTy h.t h.v (by decide)), h.b.kept hg (ownTy h.b h.v (by decide)), h.ne⟩
/-- Behind an append to what is gone to. -/
theorem Rw.growT (h : Rw (b + 1) w L lv vv tv bv r) (hg : w.grownBy w6 tv.ownBlock) (t : Tok) (ho : w6.ownsRow (b + 1) 39 4 v6 (r.tg.length + 1) (Tk.cells r.tg ++ t.cells)) (hv : v6.ownBlock = tv.ownBlock ∨ v6.ownBlock = some w.heap.size) :
    Rw (b + 1) w6 L lv vv v6 bv { r with tg := r.tg ++ [t] } := by
  refine ⟨Sl.grown h.l hg fun p n c he => far h.t (by have := h.ll p n c he; omega), h.ll, h.v.kept hg (ownTy h.v h.t (by decide)), by simpa [Tk.cells_snoc] using ho, h.b.kept hg ?_, ?_⟩
  · rcases h.ne with he | he
    · cases hb : bv.ownBlock with
      | none => exact .inl rfl
      | some k => exact .inr (by rw [he]; simp)
    · exact .inr (Ne.symm he)
  · rcases hv with hv | hv
    · rw [hv]; exact h.ne
    · refine .inr fun he => ?_
      have := (h.b.lt _ (he.symm.trans hv)).2
      omega
/-- Behind an append to the blocks' names. -/
theorem Rw.growB (h : Rw (b + 1) w L lv vv tv bv r) (hg : w.grownBy w6 bv.ownBlock) (t : Tok) (ho : w6.ownsRow (b + 1) 39 4 v6 (r.bk.length + 1) (Tk.cells r.bk ++ t.cells)) (hv : v6.ownBlock = bv.ownBlock ∨ v6.ownBlock = some w.heap.size) :
    Rw (b + 1) w6 L lv vv tv v6 { r with bk := r.bk ++ [t] } := by
  refine ⟨Sl.grown h.l hg fun p n c he => far h.b (by have := h.ll p n c he; omega), h.ll, h.v.kept hg (ownTy h.v h.b (by decide)), h.t.kept hg h.ne, by simpa [Tk.cells_snoc] using ho, ?_⟩
  rcases h.ne with he | he
  · exact .inl he
  · rcases hv with hv | hv
    · rw [hv]; exact .inr he
    · cases ht : tv.ownBlock with
      | none => exact .inl rfl
      | some k =>
        refine .inr fun h2 => ?_
        rw [hv] at h2
        have := (h.t.lt _ ht).2
        have h3 : k = w.heap.size := by injection h2
        omega

theorem keepB {o : Obj} {s n : Nat} {t : TypeId} {v : Value} {xs : List Value} (hg : w.grownBy w6 v.ownBlock) (hb : w.heap[b]? = some o) (hv : w.ownsRow (b + 1) t s v n xs) : w6.heap[b]? = some o :=
  (hg.block b (lt_blk hb) fun he => far hv (Nat.le_refl _) he.symm).trans hb
theorem Gx.growV (h : Gx b L lv vv tv bv w r) (hg : w.grownBy w6 vv.ownBlock) (s : ByteArray) (ho : w6.ownsRow (b + 1) 9 1 v6 (r.vs.length + 1) (r.vs.map sv ++ [.string s])) :
    Gx b L lv v6 tv bv (w6.setCell ⟨b, 5, none⟩ v6) { r with vs := r.vs ++ [s] } :=
  ⟨heap_setCell_same _ b 5 _ _ _ (keepB hg h.box h.rows.v), (h.rows.growV hg s ho).set0 _⟩
theorem Px.growV (h : Px b L lv vv tv bv w r) (hg : w.grownBy w6 vv.ownBlock) (s : ByteArray) (ho : w6.ownsRow (b + 1) 9 1 v6 (r.vs.length + 1) (r.vs.map sv ++ [.string s])) :
    Px b L lv v6 tv bv (w6.setCell ⟨b, 5, none⟩ v6) { r with vs := r.vs ++ [s] } :=
  ⟨heap_setCell_same _ b 5 _ _ _ (keepB hg h.box h.rows.v), (h.rows.growV hg s ho).set0 _⟩
theorem Gx.growT (h : Gx b L lv vv tv bv w r) (hg : w.grownBy w6 tv.ownBlock) (t : Tok) (ho : w6.ownsRow (b + 1) 39 4 v6 (r.tg.length + 1) (Tk.cells r.tg ++ t.cells)) (hv : v6.ownBlock = tv.ownBlock ∨ v6.ownBlock = some w.heap.size) :
    Gx b L lv vv v6 bv (w6.setCell ⟨b, 6, none⟩ v6) { r with tg := r.tg ++ [t] } :=
  ⟨heap_setCell_same _ b 6 _ _ _ (keepB hg h.box h.rows.t), (h.rows.growT hg t ho hv).set0 _⟩
theorem Px.growT (h : Px b L lv vv tv bv w r) (hg : w.grownBy w6 tv.ownBlock) (t : Tok) (ho : w6.ownsRow (b + 1) 39 4 v6 (r.tg.length + 1) (Tk.cells r.tg ++ t.cells)) (hv : v6.ownBlock = tv.ownBlock ∨ v6.ownBlock = some w.heap.size) :
    Px b L lv vv v6 bv (w6.setCell ⟨b, 7, none⟩ v6) { r with tg := r.tg ++ [t] } :=
  ⟨heap_setCell_same _ b 7 _ _ _ (keepB hg h.box h.rows.t), (h.rows.growT hg t ho hv).set0 _⟩
theorem Gx.growB (h : Gx b L lv vv tv bv w r) (hg : w.grownBy w6 bv.ownBlock) (t : Tok) (ho : w6.ownsRow (b + 1) 39 4 v6 (r.bk.length + 1) (Tk.cells r.bk ++ t.cells)) (hv : v6.ownBlock = bv.ownBlock ∨ v6.ownBlock = some w.heap.size) :
    Gx b L lv vv tv v6 (w6.setCell ⟨b, 7, none⟩ v6) { r with bk := r.bk ++ [t] } :=
  ⟨heap_setCell_same _ b 7 _ _ _ (keepB hg h.box h.rows.b), (h.rows.growB hg t ho hv).set0 _⟩
theorem Px.growB (h : Px b L lv vv tv bv w r) (hg : w.grownBy w6 bv.ownBlock) (t : Tok) (ho : w6.ownsRow (b + 1) 39 4 v6 (r.bk.length + 1) (Tk.cells r.bk ++ t.cells)) (hv : v6.ownBlock = bv.ownBlock ∨ v6.ownBlock = some w.heap.size) :
    Px b L lv vv tv v6 (w6.setCell ⟨b, 6, none⟩ v6) { r with bk := r.bk ++ [t] } :=
  ⟨heap_setCell_same _ b 6 _ _ _ (keepB hg h.box h.rows.b), (h.rows.growB hg t ho hv).set0 _⟩
end

end Go.Proofs.Ytmnplnhblniimaa.Gr

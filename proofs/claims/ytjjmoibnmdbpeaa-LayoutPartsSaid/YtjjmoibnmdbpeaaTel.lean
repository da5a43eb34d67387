/- APPEND, and whose block the answer has; two lists of ints that lie apart. -/
import Derived.Test.YtjjmoibnmdbpeaaOwn
import Derived.Test.YtjjmoibnmdbpeaaAtomOpen
import Derived.Deep.RegionLaw
namespace Go.Proofs.Ytjjmoibnmdbpeaa.Tel
set_option linter.unusedVariables false
set_option linter.unusedSimpArgs false
open Go Go.RowKit

section
variable {P : Program} (w : World)
/-- append, and whose block the answer has. -/
theorem run_append_tells (base : Nat) (t ty e : TypeId) (i : TypeInfo) (z : Value) (size bytes : Nat) (ht : P.underlying t = some (.slice e)) (hi : P.info? e = some i) (hz : i.zero = some z)
    (hsize : i.size = size) (hby : i.bytes = bytes) (hzs : z.cells.size = size) (hsz : 0 < size)
    (v : Value) (n : Nat) (xs : List Value) (hown : w.ownsRow base e size v n xs)
    (a : Addr) (m c : Nat) (news : List Value) (hl : news.length = m * size) (hnews : ∀ j u, news[j]? = some u → w.cell? (a.add j) = some u) (h1 : ∀ u ∈ news, u.oneCell' = true)
    (h63 : n + m ≤ maxLen) (hbytes : (n + m) * bytes ≤ 140737488355328) (hbase : base ≤ w.heap.size) (hm : 0 < m) :
    ∃ v' w', (Builtin.append_ #[t, t] ty #[v, .slice (some a) m c]).run P w = .ok v' w' ∧ w'.ownsRow base e size v' (n + m) (xs ++ news) ∧ w.grownBy w' v.ownBlock ∧
      (v'.ownBlock = v.ownBlock ∨ v'.ownBlock = some w.heap.size) := by
  obtain ⟨v', w', hr, h2, h3, _⟩ := run_append_own (P := P) w base t ty e i z size bytes ht hi hz hsize hby hzs hsz v n xs hown a m c news hl hnews h1 h63 hbytes hbase
  refine ⟨v', w', hr, h2, h3, ?_⟩
  subst hsize
  subst hby
  have h63' : n + m ≤ 9223372036854775807 := by simpa only [maxLen] using h63
  rcases hown.2 with ⟨rfl, rfl⟩ | ⟨g, cap, cur, rfl, hbg, hg, hnc, hcm, hcs, htake⟩
  · have hq := run_append_nil (P := P) w t ty e i z ht hi hz a m c news hl hnews (by omega) (by omega) (by have hb := hbytes; simp only [Nat.zero_add] at hb; omega)
    rw [hr] at hq
    injection hq with hv
    right
    rw [hv]
    rfl
  · by_cases hroom : n + m ≤ cap
    · have hfit : n * i.size + news.length ≤ cur.size := by rw [hl, hcs, ← Nat.add_mul]; exact Nat.mul_le_mul_right _ hroom
      have hq := run_append_room (P := P) w t ty e i ht hi g n cap cur hg a m c news hl hnews h1 hroom hfit
      rw [hr] at hq
      injection hq with hv
      left
      rw [hv]
      rfl
    · have holds : ∀ j u, xs[j]? = some u → w.cell? ((⟨g, 0, none⟩ : Addr).add j) = some u := hown.cells (g := g) rfl
      have hq := run_append_grow (P := P) w t ty e i z ht hi hz ⟨g, 0, none⟩ n cap xs hown.1 holds a m c news hl hnews (by omega) (by omega) (growslice_fits (by omega) hbytes)
      rw [hr] at hq
      injection hq with hv
      right
      rw [hv]
      rfl
end

/-- append AS ONE STEP OF A REGION THAT DRAWS ITS ORDER; whose block the answer has. -/
theorem step_append_tells {P : Program} {w : World} {ops : Array Oper} {o : Oper} {a : Act} {K : Act → World → Prop} {Q : Exit → Act → World → Prop} {E : Prop} (hgd : o.guard = none) (s x : Operand) (t : TypeId)
    (ho : o.op = .call { callee := .builtin .append, args := #[s, x], argTypes := #[t, t] })
    (base : Nat) (e : TypeId) (i : TypeInfo) (z : Value) (size bytes : Nat) (ht : P.underlying t = some (.slice e)) (hi : P.info? e = some i) (hz : i.zero = some z)
    (hsize : i.size = size) (hby : i.bytes = bytes) (hzs : z.cells.size = size) (hsz : 0 < size)
    (v : Value) (n : Nat) (xs : List Value) (hs : a.eval s = v) (hown : w.ownsRow base e size v n xs)
    (ad : Addr) (m c : Nat) (news : List Value) (hx : a.eval x = .slice (some ad) m c) (hl : news.length = m * size) (hnews : ∀ j u, news[j]? = some u → w.cell? (ad.add j) = some u) (h1 : ∀ u ∈ news, u.oneCell' = true)
    (h63 : n + m ≤ maxLen) (hbytes : (n + m) * bytes ≤ 140737488355328) (hbase : base ≤ w.heap.size) (hm : 0 < m)
    (h : ∀ v' w', w'.ownsRow base e size v' (n + m) (xs ++ news) → w.grownBy w' v.ownBlock → (v'.ownBlock = v.ownBlock ∨ v'.ownBlock = some w.heap.size) → K (a.put o.dst v') w') :
    if Region.wanted o (yielded ops a.tmps) = true then Oper.wp P o a w K Q else E := by
  have hw : Region.wanted o (yielded ops a.tmps) = true := by simp [Region.wanted, hgd]
  rw [if_pos hw]
  obtain ⟨v', w', hr, h2, h3, h4⟩ := run_append_tells (P := P) w base t o.type e i z size bytes ht hi hz hsize hby hzs hsz v n xs hown ad m c news hl hnews h1 h63 hbytes hbase hm
  unfold Oper.wp execOp
  simp only [ho, resolve, invoke, builtin, Sem.run_bind, Sem.run_pure, Result.andThen_ok, List.map_toArray, List.map_cons, List.map_nil, hs, hx, hr]
  exact h v' w' h2 h3 h4

theorem wpList_append_tells {P : Program} {w : World} {ops : Array Oper} {rest : List Oper} {o : Oper} {a : Act} {Q : Exit → Act → World → Prop} (hgd : o.guard = none) (s x : Operand) (t : TypeId)
    (ho : o.op = .call { callee := .builtin .append, args := #[s, x], argTypes := #[t, t] })
    (base : Nat) (e : TypeId) (i : TypeInfo) (z : Value) (size bytes : Nat) (ht : P.underlying t = some (.slice e)) (hi : P.info? e = some i) (hz : i.zero = some z)
    (hsize : i.size = size) (hby : i.bytes = bytes) (hzs : z.cells.size = size) (hsz : 0 < size)
    (v : Value) (n : Nat) (xs : List Value) (hs : a.eval s = v) (hown : w.ownsRow base e size v n xs)
    (ad : Addr) (m c : Nat) (news : List Value) (hx : a.eval x = .slice (some ad) m c) (hl : news.length = m * size) (hnews : ∀ j u, news[j]? = some u → w.cell? (ad.add j) = some u) (h1 : ∀ u ∈ news, u.oneCell' = true)
    (h63 : n + m ≤ maxLen) (hbytes : (n + m) * bytes ≤ 140737488355328) (hbase : base ≤ w.heap.size) (hm : 0 < m)
    (h : ∀ v' w', w'.ownsRow base e size v' (n + m) (xs ++ news) → w.grownBy w' v.ownBlock → (v'.ownBlock = v.ownBlock ∨ v'.ownBlock = some w.heap.size) → wpList P ops Q rest (a.put o.dst v') w') : wpList P ops Q (o :: rest) a w :=
  wpList_step fun K hK => step_append_tells hgd s x t ho base e i z size bytes ht hi hz hsize hby hzs hsz v n xs hs hown ad m c news hx hl hnews h1 h63 hbytes hbase hm fun v' w' h2 h3 h4 => hK _ _ (h v' w' h2 h3 h4)

theorem int_info9 : (Try.prog.info? 3).map (fun i => (i.zero, i.size, i.bytes)) = some (some (.int .i64 0), 1, 8) := by kernel_rfl

abbrev iv (x : Int) : Value := .int .i64 x
/-- Two lists of ints that lie apart. -/
structure Fr (base : Nat) (w : World) (fv tv : Value) (F T : List Int) : Prop where
  f : w.ownsRow base 3 1 fv F.length (F.map iv)
  t : w.ownsRow base 3 1 tv T.length (T.map iv)
  ne : fv.ownBlock = none ∨ fv.ownBlock ≠ tv.ownBlock
  en : tv.ownBlock = none ∨ tv.ownBlock ≠ fv.ownBlock

theorem Fr.below {base : Nat} {w w' : World} {fv tv : Value} {F T : List Int} (h : Fr base w fv tv F T) (hB : Below w.heap.size w w') : Fr base w' fv tv F T :=
  ⟨own_below h.f hB, own_below h.t hB, h.ne, h.en⟩
theorem own_lt9 {w : World} {base n : Nat} {v : Value} {xs : List Value} {e : TypeId} {s : Nat} (h : w.ownsRow base e s v n xs) : v.ownBlock ≠ some w.heap.size := fun he => by
  have := (h.lt _ he).2
  omega
theorem Fr.growF {base : Nat} {w w' : World} {fv tv v' : Value} {F T : List Int} {x : Int} (h : Fr base w fv tv F T) (hg : w.grownBy w' fv.ownBlock)
    (ho : w'.ownsRow base 3 1 v' (F.length + 1) (F.map iv ++ [.int .i64 x])) (hv : v'.ownBlock = fv.ownBlock ∨ v'.ownBlock = some w.heap.size) : Fr base w' v' tv (F ++ [x]) T := by
  have htl := own_lt9 h.t
  have hk : w'.ownsRow base 3 1 tv T.length (T.map iv) := h.t.kept hg h.en
  refine ⟨by simpa using ho, hk, ?_, ?_⟩
  · rcases hv with hv | hv
    · rw [hv]; exact h.ne
    · rw [hv]; exact .inr (fun he => htl he.symm)
  · rcases hv with hv | hv
    · rw [hv]; exact h.en
    · rw [hv]; exact .inr htl
theorem Fr.growT {base : Nat} {w w' : World} {fv tv v' : Value} {F T : List Int} {x : Int} (h : Fr base w fv tv F T) (hg : w.grownBy w' tv.ownBlock)
    (ho : w'.ownsRow base 3 1 v' (T.length + 1) (T.map iv ++ [.int .i64 x])) (hv : v'.ownBlock = tv.ownBlock ∨ v'.ownBlock = some w.heap.size) : Fr base w' fv v' F (T ++ [x]) := by
  have hfl := own_lt9 h.f
  have hk : w'.ownsRow base 3 1 fv F.length (F.map iv) := h.f.kept hg h.ne
  refine ⟨hk, by simpa using ho, ?_, ?_⟩
  · rcases hv with hv | hv
    · rw [hv]; exact h.ne
    · rw [hv]; exact .inr hfl
  · rcases hv with hv | hv
    · rw [hv]; exact h.en
    · rw [hv]; exact .inr (fun he => hfl he.symm)

theorem one_news {w : World} {b : Nat} {x : Int} {t : TypeId} (hb : b = w.heap.size) : ∀ (j : Nat) (u : Value), ([Value.int .i64 x] : List Value)[j]? = some u → (w.alloc (.cells #[.int .i64 x] t)).cell? ((⟨b, 0, none⟩ : Addr).add j) = some u := by
  intro j u hu
  cases j with
  | zero =>
    simp only [List.getElem?_cons_zero, Option.some.injEq] at hu
    subst hu
    exact cell_alloc_at hb
  | succ j => simp at hu
theorem one_one {x : Int} : ∀ u ∈ ([Value.int .i64 x] : List Value), u.oneCell' = true := by intro u hu; simp at hu; subst hu; rfl

theorem row_int {w : World} {base g n cap k : Nat} {F : List Int} (h : w.ownsRow base 3 1 (.slice (some ⟨g, 0, none⟩) n cap) F.length (F.map iv)) (x : Int) (hk : F[k]? = some x) : w.cell? ⟨g, k, none⟩ = some (.int .i64 x) := by
  have := h.cells (g := g) rfl k (.int .i64 x) (by rw [List.getElem?_map, hk]; rfl)
  have ha : ∀ g j, (⟨g, 0, none⟩ : Addr).add j = ⟨g, j, none⟩ := fun g j => by unfold Addr.add; split <;> simp_all
  rwa [ha] at this

end Go.Proofs.Ytjjmoibnmdbpeaa.Tel

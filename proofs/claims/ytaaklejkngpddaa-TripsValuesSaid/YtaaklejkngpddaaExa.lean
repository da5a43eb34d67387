/- RUNS, plainly: numbers, states, what a program does; what a proper program keeps. RUNS, plainly: what a run of more blocks has of one of fewer. WALKS of exec: Env.at, the copies, Value, Eval; append that tells whose block the answer has. WALKS of exec: Eval, a state's copy, Start, check. -/
import Derived.Test.YtaaklejkngpddaaChki
import Derived.Test.YtaaklejkngpddaaGaussb
import Derived.Lib.SliceRun
import Derived.Deep.RegionLaw
namespace Go.Proofs.Ytaaklejkngpddaa.Pr
set_option linter.unusedVariables false
set_option linter.unusedSimpArgs false
open Go

structure Nu where
  a : Int
  b : Int
deriving DecidableEq, Inhabited
def Nu.cs (n : Nu) : List Value := [.int .i64 n.a, .int .i64 n.b]
theorem Nu.cs_len (n : Nu) : n.cs.length = 2 := rfl
def zN : Nu := ⟨0, 0⟩

/-- What stands at a place; zero: there is none. -/
def atN (E : List Nu) (i : Int) : Nu := if 0 ≤ i ∧ i < E.length then E.getD i.toNat zN else zN
def valA (P : List Bl) (E : List Nu) (x : At) : Nu := if x.v.size = 0 then ⟨wr x.a, wr x.b⟩ else atN E (idx (vars P) x.v)
def evalE (P : List Bl) (E : List Nu) (x : Ex) : Nu :=
  ⟨opA x.op (valA P E x.x).a (valA P E x.x).b (valA P E x.y).a (valA P E x.y).b, opB x.op (valA P E x.x).a (valA P E x.x).b (valA P E x.y).a (valA P E x.y).b⟩

/-- What a run has: variables, inputs taken, outputs. -/
structure Rs where
  e : List Nu
  i : Int
  o : List Nu
def inN (I : List Nu) (i : Int) : Nu := ⟨wr (atN I i).a, wr (atN I i).b⟩
def doS (P : List Bl) (I : List Nu) (r : Rs) (s : St) : Rs :=
  if s.k = 1 then ⟨r.e.set (idx (vars P) s.v).toNat (evalE P r.e s.e), r.i, r.o⟩
  else if s.k = 2 then ⟨r.e.set (idx (vars P) s.v).toNat (inN I r.i), min r.i 2147483646 + 1, r.o⟩
  else if s.k = 3 then ⟨r.e, r.i, r.o ++ [valA P r.e s.e.x]⟩ else r
def runB (P : List Bl) (I : List Nu) (r : Rs) (l : List St) : Rs := l.foldl (doS P I) r
/-- The name at which the end goes on; whether it does. -/
def toN (P : List Bl) (B : Bl) (E : List Nu) : ByteArray := if B.t.k = 2 ∧ valA P E B.t.x = zN then B.t.e else B.t.t
def goesB (B : Bl) : Bool := !(B.t.k == 3)
def nextI (P : List Bl) (B : Bl) (E : List Nu) (b : Int) : Int := if B.t.k = 3 then b else idx (namesOf P) (toN P B E)

def ChkS (P : List Bl) (b : Int) (n : Nat) (i : Int) : Int :=
  if checkOf P = 0 then (if b < 0 ∨ (P.length : Int) ≤ b ∨ n ≠ (vars P).length ∨ i < 0 then 9 else 0) else checkOf P

/-! What a proper program keeps. -/
theorem putS_self {T : List ByteArray} {s : ByteArray} (h : s.size ≠ 0) : s ∈ putS T s := by
  unfold putS
  rw [if_neg h]
  split
  · rename_i h2; exact List.mem_of_getElem? h2
  · simp
theorem putS_mono {T : List ByteArray} {s x : ByteArray} (h : x ∈ T) : x ∈ putS T s := by
  unfold putS
  split
  · exact h
  · split
    · exact h
    · rw [← List.take_append_drop (posS T s) T] at h
      rcases List.mem_append.1 h with h | h
      · exact List.mem_append_left _ h
      · exact List.mem_append_right _ (List.mem_cons_of_mem _ h)
theorem stVars_mono {l : List St} {T : List ByteArray} {x : ByteArray} (h : x ∈ T) : ∀ k, x ∈ stVars l T k
  | 0 => h
  | k + 1 => by
    have ih := stVars_mono (l := l) h k
    simp only [stVars]
    split
    · exact putS_mono (putS_mono (putS_mono ih))
    · exact ih
theorem stVars_mem {l : List St} {T : List ByteArray} : ∀ (k j : Nat) (s : St), l[j]? = some s → j < k → s.v.size ≠ 0 → s.v ∈ stVars l T k
  | 0, j, s, _, hj, _ => by omega
  | k + 1, j, s, h, hj, hs => by
    simp only [stVars]
    by_cases e : j = k
    · subst e
      rw [h]
      exact putS_mono (putS_mono (putS_self hs))
    · have ih := stVars_mem (T := T) k j s h (by omega) hs
      split
      · exact putS_mono (putS_mono (putS_mono ih))
      · exact ih
theorem blVars_mem {P : List Bl} : ∀ (k j : Nat) (b : Bl) (s : St), P[j]? = some b → j < k → s ∈ b.l → s.v.size ≠ 0 → s.v ∈ blVars P k
  | 0, j, b, s, _, hj, _, _ => by omega
  | k + 1, j, b, s, h, hj, hm, hs => by
    simp only [blVars]
    by_cases e : j = k
    · subst e
      rw [h]
      obtain ⟨m, hm1⟩ := List.mem_iff_getElem?.1 hm
      exact putS_mono (stVars_mem _ m s hm1 (List.getElem?_eq_some_iff.1 hm1).1 hs)
    · have ih := blVars_mem k j b s h (by omega) hm hs
      split
      · exact putS_mono (stVars_mono ih _)
      · exact ih

theorem nameB_size {s : ByteArray} (h : Tk.nameB s = true) : s.size ≠ 0 := fun h0 => by
  rw [Tk.nameB_1 (.inl (by omega))] at h
  cases h

theorem proper_block {P : List Bl} (h : checkOf P = 0) {b : Bl} (hb : b ∈ P) : blockB b = true ∧ badEnd P b = false := by
  unfold checkOf at h
  split at h
  · cases h
  · split at h
    · cases h
    · rename_i h2
      split at h
      · cases h
      · split at h
        · cases h
        · split at h
          · cases h
          · rename_i h5
            refine ⟨?_, ?_⟩
            · have : P.all blockB = true := by simpa using h2
              exact List.all_eq_true.1 this b hb
            · rw [← Bool.not_eq_true]
              intro hbad
              exact h5 (List.any_eq_true.2 ⟨b, hb, hbad⟩)
theorem proper_vars {P : List Bl} (h : checkOf P = 0) : (vars P).length ≤ 64 ∧ P.length ≠ 0 := by
  unfold checkOf at h
  split at h
  · cases h
  · rename_i h1
    split at h
    · cases h
    · split at h
      · cases h
      · exact ⟨by omega, by omega⟩
theorem proper_stmt {P : List Bl} (h : checkOf P = 0) {b : Bl} (hb : b ∈ P) {s : St} (hs : s ∈ b.l) :
    (s.k = 1 ∨ s.k = 2 ∨ s.k = 3) ∧ (s.k ≠ 3 → 0 ≤ idx (vars P) s.v ∧ idx (vars P) s.v < (vars P).length) := by
  have h1 := (proper_block h hb).1
  rw [blockB_def, Bool.and_eq_true, Bool.and_eq_true] at h1
  have h2 : stmtB s = true := List.all_eq_true.1 h1.2.2 s hs
  obtain ⟨j, hj⟩ := List.mem_iff_getElem?.1 hb
  have key : Tk.nameB s.v = true → 0 ≤ idx (vars P) s.v ∧ idx (vars P) s.v < (vars P).length := fun hn =>
    ⟨idx_mem.2 (blVars_mem P.length j b s hj (List.getElem?_eq_some_iff.1 hj).1 hs (nameB_size hn)), (idx_range s.v (vars P)).2⟩
  unfold stmtB at h2
  split at h2
  · rename_i hk
    rw [Bool.and_eq_true] at h2
    exact ⟨.inl hk, fun _ => key h2.1⟩
  · split at h2
    · rename_i hk
      rw [Bool.and_eq_true] at h2
      exact ⟨.inr (.inl hk), fun _ => key h2.1⟩
    · split at h2
      · rename_i hk
        exact ⟨.inr (.inr hk), fun h3 => absurd hk h3⟩
      · cases h2
theorem proper_end {P : List Bl} (h : checkOf P = 0) {b : Bl} (hb : b ∈ P) (E : List Nu) :
    (b.t.k = 1 ∨ b.t.k = 2 ∨ b.t.k = 3) ∧ (b.t.k ≠ 3 → 0 ≤ idx (namesOf P) (toN P b E) ∧ idx (namesOf P) (toN P b E) < P.length) := by
  obtain ⟨h1, h2⟩ := proper_block h hb
  have hk := block_k h1
  refine ⟨hk, fun h3 => ?_⟩
  have hr := (idx_range (toN P b E) (namesOf P)).2
  have hl : (namesOf P).length = P.length := by simp [namesOf]
  refine ⟨idx_mem.2 ?_, by rw [hl] at hr; exact hr⟩
  have hm : ∀ x, hasN P P.length x = true → x ∈ namesOf P := fun x hx => by
    unfold hasN at hx
    rw [List.take_length] at hx
    obtain ⟨c, hc, e⟩ := List.any_eq_true.1 hx
    have e' : c.n = x := by simpa using e
    exact List.mem_map.2 ⟨c, hc, e'⟩
  have hx : toN P b E ∈ namesT b.t := by
    unfold toN namesT
    rcases hk with hk | hk | hk
    · simp [hk]
    · rw [if_neg (by omega : ¬ b.t.k = 1), if_pos hk]; by_cases hz : b.t.k = 2 ∧ valA P E b.t.x = zN
      · rw [if_pos hz]; simp
      · rw [if_neg hz]; simp
    · exact absurd hk h3
  refine hm _ ?_
  rw [← Bool.not_eq_false]
  intro hf
  have : badEnd P b = true := (badEnd_names P b).2 ⟨_, hx, hf⟩
  rw [h2] at this
  cases this

theorem doS_len (P : List Bl) (I : List Nu) (r : Rs) (s : St) : (doS P I r s).e.length = r.e.length ∧ (doS P I r s).o.length ≤ r.o.length + 1 ∧ (0 ≤ r.i → 0 ≤ (doS P I r s).i) := by
  unfold doS
  split
  · exact ⟨by simp, by simp, fun h => h⟩
  · split
    · exact ⟨by simp, by simp, fun h => by simp only; omega⟩
    · split
      · exact ⟨rfl, by simp, fun h => h⟩
      · exact ⟨rfl, by simp, fun h => h⟩
theorem runB_len (P : List Bl) (I : List Nu) : ∀ (l : List St) (r : Rs), (runB P I r l).e.length = r.e.length ∧ (runB P I r l).o.length ≤ r.o.length + l.length ∧ (0 ≤ r.i → 0 ≤ (runB P I r l).i)
  | [], r => ⟨rfl, by simp [runB], fun h => h⟩
  | s :: l, r => by
    have h1 := doS_len P I r s
    have h2 := runB_len P I l (doS P I r s)
    simp only [runB, List.foldl_cons, List.length_cons] at h2 ⊢
    exact ⟨h2.1.trans h1.1, by omega, fun h => h2.2.2 (h1.2.2 h)⟩
theorem runB_take (P : List Bl) (I : List Nu) (r : Rs) (l : List St) (k : Nat) (hk : k < l.length) : runB P I r (l.take (k + 1)) = doS P I (runB P I r (l.take k)) (l[k]'hk) := by
  unfold runB
  rw [List.take_add_one, List.getElem?_eq_getElem hk, List.foldl_append]
  rfl

/-! Runs of many blocks. -/
structure Ps where
  b : Int
  r : Rs
/-- One block more; whether it goes on. -/
def adv (P : List Bl) (I : List Nu) (s : Ps) : Ps × Bool :=
  let B := P.getD s.b.toNat default
  let r := runB P I s.r B.l
  (⟨nextI P B r.e s.b, r⟩, goesB B)
def fromS (P : List Bl) (I : List Nu) : Nat → Ps → Bool → List Ps × (Ps × Bool)
  | 0, s, g => ([], s, g)
  | n + 1, s, g => if g then (s :: (fromS P I n (adv P I s).1 (adv P I s).2).1, (fromS P I n (adv P I s).1 (adv P I s).2).2) else ([], s, g)
/-- A state that may be of the program. -/
def OkS (P : List Bl) (s : Ps) : Prop := 0 ≤ s.b ∧ s.b < P.length ∧ s.r.e.length = (vars P).length ∧ 0 ≤ s.r.i

theorem adv_ok {P : List Bl} {I : List Nu} {s : Ps} (hc : checkOf P = 0) (hl : ∀ b ∈ P, b.l.length ≤ 12) (h : OkS P s) : OkS P (adv P I s).1 ∧ (adv P I s).1.r.o.length ≤ s.r.o.length + 12 := by
  obtain ⟨h1, h2, h3, h4⟩ := h
  have hlt : s.b.toNat < P.length := by omega
  have hB : P.getD s.b.toNat default = P[s.b.toNat]'hlt := by simp [List.getD, List.getElem?_eq_getElem hlt]
  have hm := List.getElem_mem hlt
  have hr := runB_len P I (P[s.b.toNat]'hlt).l s.r
  have hl' := hl _ hm
  unfold adv OkS
  rw [hB]
  refine ⟨⟨?_, ?_, ?_, ?_⟩, ?_⟩
  · show 0 ≤ nextI P _ _ _
    unfold nextI
    split
    · exact h1
    · exact ((proper_end hc hm _).2 (by assumption)).1
  · show nextI P _ _ _ < _
    unfold nextI
    split
    · exact h2
    · exact ((proper_end hc hm _).2 (by assumption)).2
  · exact hr.1.trans h3
  · exact hr.2.2 h4
  · show (runB P I s.r _).o.length ≤ _
    omega
theorem fromS_add (P : List Bl) (I : List Nu) : ∀ (n m : Nat) (s : Ps) (g : Bool), fromS P I (n + m) s g = ((fromS P I n s g).1 ++ (fromS P I m (fromS P I n s g).2.1 (fromS P I n s g).2.2).1, (fromS P I m (fromS P I n s g).2.1 (fromS P I n s g).2.2).2)
  | 0, m, s, g => by rw [Nat.zero_add]; rfl
  | n + 1, m, s, false => by
    rw [show n + 1 + m = (n + m) + 1 by omega]
    cases m <;> rfl
  | n + 1, m, s, true => by
    have ih := fromS_add P I n m (adv P I s).1 (adv P I s).2
    rw [show n + 1 + m = (n + m) + 1 by omega]
    simp only [fromS, if_true, ih, List.cons_append]
theorem fromS_len (P : List Bl) (I : List Nu) : ∀ (n : Nat) (s : Ps) (g : Bool), (fromS P I n s g).1.length ≤ n ∧ ((fromS P I n s g).2.2 = true → (fromS P I n s g).1.length = n)
  | 0, s, g => ⟨by simp [fromS], fun _ => rfl⟩
  | n + 1, s, false => ⟨by simp [fromS], fun h => by simp [fromS] at h⟩
  | n + 1, s, true => by
    have ih := fromS_len P I n (adv P I s).1 (adv P I s).2
    simp only [fromS, if_true, List.length_cons]
    exact ⟨by omega, fun h => by rw [ih.2 h]⟩
theorem fromS_ok {P : List Bl} {I : List Nu} (hc : checkOf P = 0) (hl : ∀ b ∈ P, b.l.length ≤ 12) : ∀ (n : Nat) (s : Ps) (g : Bool), OkS P s →
    OkS P (fromS P I n s g).2.1 ∧ (fromS P I n s g).2.1.r.o.length ≤ s.r.o.length + 12 * n ∧ ∀ t ∈ (fromS P I n s g).1, OkS P t ∧ t.r.o.length ≤ s.r.o.length + 12 * n
  | 0, s, g, h => ⟨h, by simp [fromS], fun t ht => by simp [fromS] at ht⟩
  | n + 1, s, false, h => ⟨by simpa [fromS] using h, by simp [fromS], fun t ht => by simp [fromS] at ht⟩
  | n + 1, s, true, h => by
    have ha := adv_ok (I := I) hc hl h
    have ih := fromS_ok (I := I) hc hl n (adv P I s).1 (adv P I s).2 ha.1
    simp only [fromS, if_true]
    refine ⟨ih.1, by omega, fun t ht => ?_⟩
    rcases List.mem_cons.1 ht with rfl | ht
    · exact ⟨h, by omega⟩
    · have := ih.2.2 t ht
      exact ⟨this.1, by omega⟩

end Go.Proofs.Ytaaklejkngpddaa.Pr

namespace Go.Proofs.Ytaaklejkngpddaa.Pr
set_option linter.unusedVariables false
set_option linter.unusedSimpArgs false
open Go

theorem doS_more (P : List Bl) (I : List Nu) (r : Rs) (s : St) : r.o.length ≤ (doS P I r s).o.length := by
  unfold doS
  split
  · exact Nat.le_refl _
  · split
    · exact Nat.le_refl _
    · split
      · simp
      · exact Nat.le_refl _
theorem runB_more (P : List Bl) (I : List Nu) : ∀ (l : List St) (r : Rs), r.o.length ≤ (runB P I r l).o.length
  | [], r => Nat.le_refl _
  | s :: l, r => Nat.le_trans (doS_more P I r s) (runB_more P I l (doS P I r s))
theorem fromS_more (P : List Bl) (I : List Nu) : ∀ (n : Nat) (s : Ps) (g : Bool), s.r.o.length ≤ (fromS P I n s g).2.1.r.o.length
  | 0, s, g => Nat.le_refl _
  | n + 1, s, false => Nat.le_refl _
  | n + 1, s, true => Nat.le_trans (runB_more P I _ s.r) (fromS_more P I n (adv P I s).1 (adv P I s).2)
theorem fromS_false (P : List Bl) (I : List Nu) (n : Nat) (s : Ps) : fromS P I n s false = ([], s, false) := by cases n <;> rfl

/-- What one of fewer is of one of more. -/
theorem begins {P : List Bl} {I : List Nu} (n d : Nat) (s : Ps) :
    let a := fromS P I n s true
    let b := fromS P I (n + d) s true
    a.1.length ≤ b.1.length ∧ a.2.1.r.o.length ≤ b.2.1.r.o.length ∧ (a.2.2 = false → b.2.2 = false ∧ a.1.length = b.1.length) ∧ (∀ i, i < a.1.length → b.1[i]? = a.1[i]?) ∧
      (∀ h : n < b.1.length, fromS P I d (b.1[n]'h) true = (b.1.drop n, b.2)) := by
  intro a b
  have hb : b = (a.1 ++ (fromS P I d a.2.1 a.2.2).1, (fromS P I d a.2.1 a.2.2).2) := fromS_add P I n d s true
  have hl := fromS_len P I n s true
  refine ⟨by rw [hb]; simp, by rw [hb]; exact fromS_more P I d a.2.1 a.2.2, fun h => ?_, fun i hi => ?_, fun h => ?_⟩
  · rw [hb, h, fromS_false]; exact ⟨rfl, by simp⟩
  · rw [hb]; exact List.getElem?_append_left hi
  · cases hg : a.2.2 with
    | false =>
      exfalso
      rw [hb, hg, fromS_false] at h
      have : a.1.length ≤ n := hl.1
      simp at h
      omega
    | true =>
      have hln : a.1.length = n := hl.2 hg
      cases d with
      | zero =>
        exfalso
        rw [hb, hg] at h
        simp [fromS] at h
        omega
      | succ d =>
        have hx : fromS P I (d + 1) a.2.1 true = (a.2.1 :: (fromS P I d (adv P I a.2.1).1 (adv P I a.2.1).2).1, (fromS P I d (adv P I a.2.1).1 (adv P I a.2.1).2).2) := by simp only [fromS, if_true]
        have e : b.1 = a.1 ++ a.2.1 :: (fromS P I d (adv P I a.2.1).1 (adv P I a.2.1).2).1 := by rw [hb, hg, hx]
        have e1 : b.1[n]'h = a.2.1 := by
          have : b.1[n]? = some a.2.1 := by rw [e, List.getElem?_append_right (by omega), hln]; simp
          rw [List.getElem?_eq_getElem h] at this
          exact Option.some.inj this
        have e2 : b.1.drop n = a.2.1 :: (fromS P I d (adv P I a.2.1).1 (adv P I a.2.1).2).1 := by
          rw [e, ← hln]; exact List.drop_left
        have e3 : b.2 = (fromS P I d (adv P I a.2.1).1 (adv P I a.2.1).2).2 := by rw [hb, hg, hx]
        rw [e1, e2, e3, hx]

end Go.Proofs.Ytaaklejkngpddaa.Pr

namespace Go.Proofs.Ytaaklejkngpddaa.Pr
set_option linter.unusedVariables false
set_option linter.unusedSimpArgs false
open Go Go.RowKit

theorem nu_info : (Try.prog.info? 27).map (fun i => (i.zero, i.size, i.bytes)) = some (some (.agg #[.int .i64 0, .int .i64 0]), 2, 16) := by kernel_rfl

theorem nu_one {L : List Nu} : ∀ u ∈ L.flatMap Nu.cs, u.oneCell' = true := by
  intro u hu
  obtain ⟨s, _, hs⟩ := List.mem_flatMap.1 hu
  simp only [Nu.cs, List.mem_cons, List.not_mem_nil, or_false] at hs
  rcases hs with rfl | rfl <;> rfl

section
variable {P : Program} (w : World)
/-- append, and whose block the answer has. -/
theorem run_append_tells (base : Nat) (t ty e : TypeId) (i : TypeInfo) (z : Value) (size bytes : Nat) (ht : P.underlying t = some (.slice e)) (hi : P.info? e = some i) (hz : i.zero = some z)
    (hsize : i.size = size) (hby : i.bytes = bytes) (hzs : z.cells.size = size) (hsz : 0 < size)
    (v : Value) (n : Nat) (xs : List Value) (hown : w.ownsRow base e size v n xs)
    (a : Addr) (m c : Nat) (news : List Value) (hl : news.length = m * size) (hnews : ∀ j u, news[j]? = some u → w.cell? (a.add j) = some u) (h1 : ∀ u ∈ news, u.oneCell' = true)
    (h63 : n + m ≤ maxLen) (hbytes : (n + m) * bytes ≤ 140737488355328) (hbase : base ≤ w.heap.size) (hm : 0 < m) :
    ∃ v' w', (Builtin.append_ #[t, t] ty #[v, .slice (some a) m c]).run P w = .ok v' w' ∧ w'.ownsRow base e size v' (n + m) (xs ++ news) ∧ w.grownBy w' v.ownBlock ∧
      (v'.ownBlock = v.ownBlock ∨ v'.ownBlock = some w.heap.size) := by
  obtain ⟨v', w', hr, h2, h3, _⟩ := run_append_own (P := P) w base t ty e i z size bytes ht hi hz hsize hby hzs hsz v n xs hown a m c news hl hnews h1 h63 hbytes hbase
  refine ⟨v', w', hr, h2, h3, ?_⟩
  subst hsize
  subst hby
  have h63' : n + m ≤ 9223372036854775807 := by simpa only [maxLen] using h63
  rcases hown.2 with ⟨rfl, rfl⟩ | ⟨g, cap, cur, rfl, hbg, hg, hnc, hcm, hcs, htake⟩
  · have hq := run_append_nil (P := P) w t ty e i z ht hi hz a m c news hl hnews (by omega) (by omega) (by have hb := hbytes; simp only [Nat.zero_add] at hb; omega)
    rw [hr] at hq
    injection hq with hv
    right
    rw [hv]
    rfl
  · by_cases hroom : n + m ≤ cap
    · have hfit : n * i.size + news.length ≤ cur.size := by rw [hl, hcs, ← Nat.add_mul]; exact Nat.mul_le_mul_right _ hroom
      have hq := run_append_room (P := P) w t ty e i ht hi g n cap cur hg a m c news hl hnews h1 hroom hfit
      rw [hr] at hq
      injection hq with hv
      left
      rw [hv]
      rfl
    · have holds : ∀ j u, xs[j]? = some u → w.cell? ((⟨g, 0, none⟩ : Addr).add j) = some u := hown.cells (g := g) rfl
      have hq := run_append_grow (P := P) w t ty e i z ht hi hz ⟨g, 0, none⟩ n cap xs hown.1 holds a m c news hl hnews (by omega) (by omega) (growslice_fits (by omega) hbytes)
      rw [hr] at hq
      injection hq with hv
      right
      rw [hv]
      rfl
end

/-- append AS ONE STEP OF A REGION THAT DRAWS ITS ORDER; whose block the answer has. -/
theorem step_append_tells {P : Program} {w : World} {ops : Array Oper} {o : Oper} {a : Act} {K : Act → World → Prop} {Q : Exit → Act → World → Prop} {E : Prop} (hgd : o.guard = none) (s x : Operand) (t : TypeId)
    (ho : o.op = .call { callee := .builtin .append, args := #[s, x], argTypes := #[t, t] })
    (base : Nat) (e : TypeId) (i : TypeInfo) (z : Value) (size bytes : Nat) (ht : P.underlying t = some (.slice e)) (hi : P.info? e = some i) (hz : i.zero = some z)
    (hsize : i.size = size) (hby : i.bytes = bytes) (hzs : z.cells.size = size) (hsz : 0 < size)
    (v : Value) (n : Nat) (xs : List Value) (hs : a.eval s = v) (hown : w.ownsRow base e size v n xs)
    (ad : Addr) (m c : Nat) (news : List Value) (hx : a.eval x = .slice (some ad) m c) (hl : news.length = m * size) (hnews : ∀ j u, news[j]? = some u → w.cell? (ad.add j) = some u) (h1 : ∀ u ∈ news, u.oneCell' = true)
    (h63 : n + m ≤ maxLen) (hbytes : (n + m) * bytes ≤ 140737488355328) (hbase : base ≤ w.heap.size) (hm : 0 < m)
    (h : ∀ v' w', w'.ownsRow base e size v' (n + m) (xs ++ news) → w.grownBy w' v.ownBlock → (v'.ownBlock = v.ownBlock ∨ v'.ownBlock = some w.heap.size) → K (a.put o.dst v') w') :
    if Region.wanted o (yielded ops a.tmps) = true then Oper.wp P o a w K Q else E := by
  have hw : Region.wanted o (yielded ops a.tmps) = true := by simp [Region.wanted, hgd]
  rw [if_pos hw]
  obtain ⟨v', w', hr, h2, h3, h4⟩ := run_append_tells (P := P) w base t o.type e i z size bytes ht hi hz hsize hby hzs hsz v n xs hown ad m c news hl hnews h1 h63 hbytes hbase hm
  unfold Oper.wp execOp
  simp only [ho, resolve, invoke, builtin, Sem.run_bind, Sem.run_pure, Result.andThen_ok, List.map_toArray, List.map_cons, List.map_nil, hs, hx, hr]
  exact h v' w' h2 h3 h4

/-- An element of a list of numbers that is read. -/
theorem Sl.nu {w : World} {b off k : Nat} {L : List Nu} (hc : ∀ (i : Nat) (hi : i < L.length) (r : Nat) (u : Value), ((L[i]'hi).cs)[r]? = some u → w.cell? ⟨b, off + (i * 2 + r), none⟩ = some u) (hk : k < L.length) :
    w.cell? ⟨b, off + k * 2, none⟩ = some (.int .i64 (L[k]'hk).a) ∧ w.cell? ⟨b, off + k * 2 + 1, none⟩ = some (.int .i64 (L[k]'hk).b) := by
  refine ⟨hc k hk 0 _ rfl, ?_⟩
  rw [Nat.add_assoc]
  exact hc k hk 1 _ rfl

theorem atN_in {E : List Nu} {k : Nat} (hk : k < E.length) : atN E (k : Int) = E[k]'hk := by
  unfold atN
  rw [if_pos ⟨by omega, by omega⟩]
  simp [List.getD, List.getElem?_eq_getElem hk]
theorem atN_out {E : List Nu} {i : Int} (h : i < 0 ∨ (E.length : Int) ≤ i) : atN E i = zN := by
  unfold atN
  rw [if_neg (by omega)]

set_option maxRecDepth 100000 in
theorem at_any (E : List Nu) (i : Int) (v : Value) (w : World) (h : Sl w v Nu.cs E) :
    Calls Try.prog 45 #[v, .int .i64 i] w fun e w' => e = .returned (.agg #[.int .i64 (atN E i).a, .int .i64 (atN E i).b]) ∧ Below w.heap.size w w' := by
  obtain ⟨b, off, p, cap, rfl, hp, hc⟩ := h.open Nu.cs_len
  by_cases h1 : i < 0
  · rw [atN_out (.inl h1)]
    clear hc
    go_enter Try.func45, Try.ntmps45
    go_wp2_with fail
    refine bodyPost_ret (v := .agg #[.int .i64 0, .int .i64 0]) (by simp only [results, Try.results45]; go_simp) rfl ⟨rfl, ?_⟩
    (repeat (first | exact Below.refl _ _ | apply Below.drew | refine Below.alloc ?_ ?_ _ | refine Below.setCell ?_ ?_ _ | refine Below.trans ?_ (Below.mono (After.below _) ?_))); (all_goals (first | (simp; done) | (simp; omega) | omega))
  by_cases h2 : (E.length : Int) ≤ i
  · rw [atN_out (.inr h2)]
    clear hc
    go_enter Try.func45, Try.ntmps45
    go_wp2_with fail
    refine bodyPost_ret (v := .agg #[.int .i64 0, .int .i64 0]) (by simp only [results, Try.results45]; go_simp) rfl ⟨rfl, ?_⟩
    (repeat (first | exact Below.refl _ _ | apply Below.drew | refine Below.alloc ?_ ?_ _ | refine Below.setCell ?_ ?_ _ | refine Below.trans ?_ (Below.mono (After.below _) ?_))); (all_goals (first | (simp; done) | (simp; omega) | omega))
  obtain ⟨k, rfl⟩ : ∃ k : Nat, i = k := ⟨i.toNat, by omega⟩
  have hk : k < E.length := by omega
  obtain rfl := hp (by omega)
  obtain ⟨c0, c1⟩ := Sl.nu hc hk
  rw [atN_in hk]
  have hbl := World.block_lt_of_cell? _ _ c0
  clear hc
  generalize E[k]'hk = x at c0 c1
  go_enter Try.func45, Try.ntmps45
  go_wp2_with fail
  refine bodyPost_ret (v := .agg #[.int .i64 x.a, .int .i64 x.b]) (by simp only [results, Try.results45]; go_simp) rfl ⟨rfl, ?_⟩
  (repeat (first | exact Below.refl _ _ | apply Below.drew | refine Below.alloc ?_ ?_ _ | refine Below.setCell ?_ ?_ _ | refine Below.trans ?_ (Below.mono (After.below _) ?_))); (all_goals (first | (simp; done) | (simp; omega) | omega))

theorem nil_or {p : Option Addr} {L : List Nu} {w : World} {v : Value} {cap : Nat} (hp : 0 < L.length → ∃ b off, p = some ⟨b, off, none⟩) : p = none → L = [] := fun h => by
  rcases Nat.eq_zero_or_pos L.length with h0 | h0
  · exact List.eq_nil_of_length_eq_zero h0
  · obtain ⟨b, off, e⟩ := hp h0
    rw [h] at e
    cases e

set_option maxRecDepth 100000 in
set_option maxHeartbeats 1000000 in
theorem cloneE_any (L : List Nu) (hl : L.length ≤ 1000000) (v : Value) (w : World) (h : Sl w v Nu.cs L) :
    Calls Try.prog 81 #[v] w fun e w' => ∃ o, e = .returned o ∧ w'.ownsRow w.heap.size 27 2 o L.length (L.flatMap Nu.cs) ∧ Below w.heap.size w w' := by
  obtain ⟨i0, hi, hz0, hz1, hz2⟩ := info_parts nu_info
  have q22 : ∀ (w : World) (a : Option Addr) (n c n' c' : Nat), (binOp .eql 45 (.slice a n c) (.slice none n' c')).run Try.prog w = .ok (.bool a.isNone) w := fun w a n c n' c' => Lib.run_eql_slice_nil w _ _ a n c n' c' Try.underlying45
  obtain ⟨b, off, p, cap, rfl, hp, hc⟩ := h
  cases p with
  | none =>
    have h0 : L.length = 0 := by
      rcases Nat.eq_zero_or_pos L.length with h | h
      · exact h
      · have := hp h; cases this
    have hL : L = [] := List.eq_nil_of_length_eq_zero h0
    subst hL
    clear hp hc
    go_enter Try.func81, Try.ntmps81
    go_wp2_with fail
    refine bodyPost_ret (v := .slice none 0 0) (by simp only [results, Try.results81]; go_simp) rfl ⟨_, rfl, World.ownsRow_nil _ _ _ _, Below.refl _ _⟩
  | some a =>
    have hnews : ∀ j u, (L.flatMap Nu.cs)[j]? = some u → (w.alloc (.cells #[] 27)).cell? (a.add j) = some u := fun j u hu => by
      have h0 : 0 < L.length := by
        rcases Nat.eq_zero_or_pos L.length with h | h
        · have : L = [] := List.eq_nil_of_length_eq_zero h
          subst this
          simp at hu
        · exact h
      have ha := hp h0
      cases ha
      rw [Go.WideShapes.add_plain]
      have := hc j u hu
      exact (World.cell?_alloc_lt _ _ _ (World.block_lt_of_cell? _ _ this)).trans this
    have hlen : (L.flatMap Nu.cs).length = L.length * 2 := flat_length Nu.cs_len L
    have hn := And.intro True.intro (And.intro hnews hlen)
    clear hp hc hnews hlen
    go_enter Try.func81, Try.ntmps81
    go_wp2_with (at_builtin; refine wpList_append_own _ rfl _ _ 45 rfl w.heap.size 27 i0 (.agg #[.int .i64 0, .int .i64 0]) 2 16 Try.underlying45 hi hz0 hz1 hz2 rfl (by decide) _ 0 [] rfl (own_empty w 27 2) _ L.length cap (L.flatMap Nu.cs) rfl hn.2.2 hn.2.1 nu_one (by unfold maxLen; omega) (by omega) (by simp) ?_; intro v2 w1 hown' hgrow _)
    have hB2 : Below w.heap.size w w1 := Below.grown (w := _) ((Below.refl _ _).alloc (Nat.le_refl _) _) hgrow (by simp) (fun q hq => by cases hq; exact Nat.le_refl _)
    rw [Nat.zero_add, List.nil_append] at hown'
    go_wp2_with fail
    refine bodyPost_ret (v := v2) (by simp only [results, Try.results81]; go_simp) rfl ⟨_, rfl, hown', hB2⟩

set_option maxRecDepth 100000 in
set_option maxHeartbeats 1000000 in
theorem cloneN_any (L : List Nu) (hl : L.length ≤ 1000000) (v : Value) (w : World) (h : Sl w v Nu.cs L) :
    Calls Try.prog 82 #[v] w fun e w' => ∃ o, e = .returned o ∧ w'.ownsRow w.heap.size 27 2 o L.length (L.flatMap Nu.cs) ∧ Below w.heap.size w w' := by
  obtain ⟨i0, hi, hz0, hz1, hz2⟩ := info_parts nu_info
  have q22 : ∀ (w : World) (a : Option Addr) (n c n' c' : Nat), (binOp .eql 25 (.slice a n c) (.slice none n' c')).run Try.prog w = .ok (.bool a.isNone) w := fun w a n c n' c' => Lib.run_eql_slice_nil w _ _ a n c n' c' Try.underlying25
  obtain ⟨b, off, p, cap, rfl, hp, hc⟩ := h
  cases p with
  | none =>
    have h0 : L.length = 0 := by
      rcases Nat.eq_zero_or_pos L.length with h | h
      · exact h
      · have := hp h; cases this
    have hL : L = [] := List.eq_nil_of_length_eq_zero h0
    subst hL
    clear hp hc
    go_enter Try.func82, Try.ntmps82
    go_wp2_with fail
    refine bodyPost_ret (v := .slice none 0 0) (by simp only [results, Try.results82]; go_simp) rfl ⟨_, rfl, World.ownsRow_nil _ _ _ _, Below.refl _ _⟩
  | some a =>
    have hnews : ∀ j u, (L.flatMap Nu.cs)[j]? = some u → (w.alloc (.cells #[] 27)).cell? (a.add j) = some u := fun j u hu => by
      have h0 : 0 < L.length := by
        rcases Nat.eq_zero_or_pos L.length with h | h
        · have : L = [] := List.eq_nil_of_length_eq_zero h
          subst this
          simp at hu
        · exact h
      have ha := hp h0
      cases ha
      rw [Go.WideShapes.add_plain]
      have := hc j u hu
      exact (World.cell?_alloc_lt _ _ _ (World.block_lt_of_cell? _ _ this)).trans this
    have hlen : (L.flatMap Nu.cs).length = L.length * 2 := flat_length Nu.cs_len L
    have hn := And.intro True.intro (And.intro hnews hlen)
    clear hp hc hnews hlen
    go_enter Try.func82, Try.ntmps82
    go_wp2_with (at_builtin; refine wpList_append_own _ rfl _ _ 25 rfl w.heap.size 27 i0 (.agg #[.int .i64 0, .int .i64 0]) 2 16 Try.underlying25 hi hz0 hz1 hz2 rfl (by decide) _ 0 [] rfl (own_empty w 27 2) _ L.length cap (L.flatMap Nu.cs) rfl hn.2.2 hn.2.1 nu_one (by unfold maxLen; omega) (by omega) (by simp) ?_; intro v2 w1 hown' hgrow _)
    have hB2 : Below w.heap.size w w1 := Below.grown (w := _) ((Below.refl _ _).alloc (Nat.le_refl _) _) hgrow (by simp) (fun q hq => by cases hq; exact Nat.le_refl _)
    rw [Nat.zero_add, List.nil_append] at hown'
    go_wp2_with fail
    refine bodyPost_ret (v := v2) (by simp only [results, Try.results82]; go_simp) rfl ⟨_, rfl, hown', hB2⟩

theorem flat_set : ∀ (E : List Nu) (k : Nat) (n : Nu), (E.set k n).flatMap Nu.cs = ((E.flatMap Nu.cs).set (k * 2) (.int .i64 n.a)).set (k * 2 + 1) (.int .i64 n.b)
  | [], k, n => by simp
  | x :: E, 0, n => by simp [Nu.cs]
  | x :: E, k + 1, n => by
    have ih := flat_set E k n
    simp only [List.set_cons_succ, List.flatMap_cons, ih]
    rw [show (k + 1) * 2 = k * 2 + 2 by omega]
    simp [Nu.cs]

theorem own_set2 {w : World} {base : Nat} {E : List Nu} {p : Option Addr} {cap g : Nat} (h : w.ownsRow base 27 2 (.slice (some ⟨g, 0, none⟩) E.length cap) E.length (E.flatMap Nu.cs)) (k : Nat) (a b : Int) :
    ((w.setCell ⟨g, k * 2, none⟩ (.int .i64 a)).setCell ⟨g, k * 2 + 1, none⟩ (.int .i64 b)).ownsRow base 27 2 (.slice (some ⟨g, 0, none⟩) E.length cap) E.length ((E.set k ⟨a, b⟩).flatMap Nu.cs) := by
  have h2 := ((h.stored (k * 2) (.int .i64 a)).1.stored (k * 2 + 1) (.int .i64 b)).1
  rw [flat_set]
  exact h2

set_option maxRecDepth 100000 in
set_option maxHeartbeats 1000000 in
theorem with_any (E : List Nu) (hl : E.length ≤ 1000000) (k : Nat) (hk : k < E.length) (a b : Int) (v : Value) (w : World) (h : Sl w v Nu.cs E) :
    Calls Try.prog 103 #[v, .int .i64 k, .agg #[.int .i64 a, .int .i64 b]] w fun e w' => ∃ o, e = .returned o ∧ w'.ownsRow w.heap.size 27 2 o E.length ((E.set k ⟨a, b⟩).flatMap Nu.cs) ∧ Below w.heap.size w w' := by
  have hcl := cloneE_any E hl v _ (h.below ((Below.refl w.heap.size w).alloc (Nat.le_refl _) (.cells #[.int .i64 a, .int .i64 b] 27)))
  obtain ⟨p, cap, hpv⟩ : ∃ p cap, v = .slice p E.length cap := by obtain ⟨b, off, p, cap, hv, _⟩ := h; exact ⟨p, cap, hv⟩
  subst hpv
  have hk2 : (k : Int) < E.length := by omega
  have hb0 : Below w.heap.size w (w.alloc (.cells #[.int .i64 a, .int .i64 b] 27)) := (Below.refl _ _).alloc (Nat.le_refl _) _
  clear h
  go_enter Try.func103, Try.ntmps103
  go_wp2_with (go_at_call 81; refine (hcl).mono ?_; rintro e W1 ⟨o, rfl, ho, hB1⟩; obtain ⟨g, gc, rfl, hg1, hg2⟩ := own_some ho (by omega); have b0 := (hB1.cell (p := ⟨w.heap.size, 0, none⟩) (by simp)).trans (by simp : _ = some (Value.int .i64 a)); have b1 := (hB1.cell (p := ⟨w.heap.size, 1, none⟩) (by simp)).trans (by simp : _ = some (Value.int .i64 b)); have bl := World.block_lt_of_cell? _ _ b0; have q0 := ho.frozenAt (k * 2); have q1 := ho.frozenAt (k * 2 + 1); have c0 := (ho.cellAt (k * 2) (by omega)).trans (by rw [show k * 2 = k * 2 + 0 from rfl, flat_get Nu.cs_len _ _ _ (by omega), List.getElem?_eq_getElem hk]; rfl : _ = some (Value.int .i64 (E[k]'hk).a)); have c1 := (ho.cellAt (k * 2 + 1) (by omega)).trans (by rw [flat_get Nu.cs_len _ _ _ (by omega), List.getElem?_eq_getElem hk]; rfl : _ = some (Value.int .i64 (E[k]'hk).b)))
  have hst := own_set2 (p := none) ho k a b
  have hgw : w.heap.size + 1 ≤ g := by simpa using hg1
  have hBf : Below w.heap.size w ((W1.setCell ⟨g, k * 2, none⟩ (.int .i64 a)).setCell ⟨g, k * 2 + 1, none⟩ (.int .i64 b)) := ((hb0.trans (hB1.mono (by simp))).setCell (p := ⟨g, k * 2, none⟩) (by show w.heap.size ≤ g; omega) _).setCell (p := ⟨g, k * 2 + 1, none⟩) (by show w.heap.size ≤ g; omega) _
  refine bodyPost_ret (v := .slice (some ⟨g, 0, none⟩) E.length gc) (by simp only [results, Try.results103]; go_simp) rfl ⟨_, rfl, own_base hst (by simp), hBf⟩

theorem valA_num {P : List Bl} {E : List Nu} {x : At} (h : x.v.size = 0) : valA P E x = ⟨wr x.a, wr x.b⟩ := by unfold valA; rw [if_pos h]
theorem valA_var {P : List Bl} {E : List Nu} {x : At} (h : x.v.size ≠ 0) : valA P E x = atN E (idx (vars P) x.v) := by unfold valA; rw [if_neg h]

set_option maxRecDepth 100000 in
theorem value_any (P : List Bl) (E : List Nu) (xv : ByteArray) (xa xb : Int) (pv ev : Value) (w : World) (h : Pg w pv P) (h12 : P.length ≤ 12) (hl12 : ∀ b ∈ P, b.l.length ≤ 12) (hE : Sl w ev Nu.cs E) :
    Calls Try.prog 14 #[.agg #[pv], ev, .agg #[.string xv, .int .i64 xa, .int .i64 xb]] w fun e w' => e = .returned (.agg #[.int .i64 (valA P E ⟨xv, xa, xb⟩).a, .int .i64 (valA P E ⟨xv, xa, xb⟩).b]) ∧ Below w.heap.size w w' := by
  obtain ⟨p, cap, hpv⟩ : ∃ p cap, pv = .slice p P.length cap := by obtain ⟨b, off, p, cap, hv, _⟩ := h.1; exact ⟨p, cap, hv⟩
  subst hpv
  have hb3 : Below w.heap.size w (((w.alloc (.cells #[.slice p P.length cap] 24)).alloc (.cells #[.string xv, .int .i64 xa, .int .i64 xb] 29)).alloc (.cells #[.int .i64 0, .int .i64 0] 27)) := (((Below.refl _ _).alloc (Nat.le_refl _) _).alloc (by simp) _).alloc (by simp; omega) _
  by_cases hv : xv.size = 0
  · rw [valA_num hv]
    obtain rfl : xv = ⟨#[]⟩ := ByteArray.ext (Array.eq_empty_of_size_eq_zero hv)
    clear hE h
    go_enter Try.func14, Try.ntmps14
    go_wp2_with (go_at_call 43; refine' Calls.aft _ _ (of_any _ _ _) _; rotate_left 2; (first | (with_reducible exact After.below _; rfl) | (with_reducible exact below_drew (After.below _); rfl) | (with_reducible exact below_set (After.below _) _ _; (go_simp; rfl)) | (with_reducible exact below_set (below_set (After.below _) _ _) _ _; (go_simp; rfl)) | (with_reducible exact below_set (below_set (below_set (After.below _) _ _) _ _) _ _; (go_simp; rfl)) | (with_reducible exact below_set (below_set (below_set (below_set (After.below _) _ _) _ _) _ _) _ _; (go_simp; rfl)) | (exact Below.refl _ _; rfl)); intro x1; have hle := After.le x1; (try simp at hle))
    refine bodyPost_ret (v := .agg #[.int .i64 (wr xa), .int .i64 (wr xb)]) (by simp only [results, Try.results14]; go_simp) rfl ⟨rfl, ?_⟩
    (repeat (first | exact Below.refl _ _ | apply Below.drew | refine Below.alloc ?_ ?_ _ | refine Below.setCell ?_ ?_ _ | refine Below.trans ?_ (Below.mono (After.below _) ?_))); (all_goals (first | (simp; done) | (simp; omega) | omega))
  · have hve : (xv.toList == []) = false := by
      cases he : (xv.toList == []) with
      | false => rfl
      | true =>
        exfalso
        have e : xv = ⟨#[]⟩ := toList_inj ((beq_iff_eq.1 he).trans (by simp : [] = (⟨#[]⟩ : ByteArray).toList))
        exact hv (by rw [e]; rfl)
    rw [valA_var hv]
    have hvr := tvar_any P xv _ _ (h.below hb3) h12 hl12
    have hat := fun (i : Int) (W : World) (hB : Below w.heap.size w W) => at_any E i ev W (hE.below hB)
    show Calls _ _ _ _ (fun e w' => e = .returned (.agg #[.int .i64 (atN E (idx (vars P) xv)).a, .int .i64 (atN E (idx (vars P) xv)).b]) ∧ _)
    generalize idx (vars P) xv = i at hvr ⊢
    unfold placeV at hvr
    obtain ⟨ep, ec, hev⟩ : ∃ p cap, ev = .slice p E.length cap := by obtain ⟨b, off, p, cap, hv, _⟩ := hE; exact ⟨p, cap, hv⟩
    subst hev
    clear hE h hv
    by_cases h0 : 0 ≤ i
    · have e1 : max i 0 = i := by omega
      have e2 : decide (0 ≤ i) = true := by simp [h0]
      rw [e1, e2] at hvr
      clear e1 e2
      go_enter Try.func14, Try.ntmps14
      go_wp2_with (first | (go_at_call 44; refine' Calls.aft _ _ (hvr) _; rotate_left 2; (first | (with_reducible exact After.below _; rfl) | (with_reducible exact below_drew (After.below _); rfl) | (with_reducible exact below_set (After.below _) _ _; (go_simp; rfl)) | (with_reducible exact below_set (below_set (After.below _) _ _) _ _; (go_simp; rfl)) | (with_reducible exact below_set (below_set (below_set (After.below _) _ _) _ _) _ _; (go_simp; rfl)) | (with_reducible exact below_set (below_set (below_set (below_set (After.below _) _ _) _ _) _ _) _ _; (go_simp; rfl)) | (exact Below.refl _ _; rfl)); intro x1; have hle := After.le x1; (try simp at hle)) | (go_at_call 45; refine' Calls.aft _ _ (hat i _ (hb3.trans (x1.below.mono hb3.size))) _; rotate_left 2; (first | (with_reducible exact After.below _; rfl) | (with_reducible exact below_drew (After.below _); rfl) | (with_reducible exact below_set (After.below _) _ _; (go_simp; rfl)) | (with_reducible exact below_set (below_set (After.below _) _ _) _ _; (go_simp; rfl)) | (with_reducible exact below_set (below_set (below_set (After.below _) _ _) _ _) _ _; (go_simp; rfl)) | (with_reducible exact below_set (below_set (below_set (below_set (After.below _) _ _) _ _) _ _) _ _; (go_simp; rfl)) | (exact Below.refl _ _; rfl)); intro x2; have hle := After.le x2; (try simp at hle)))
      refine bodyPost_ret (v := .agg #[.int .i64 (atN E i).a, .int .i64 (atN E i).b]) (by simp only [results, Try.results14]; go_simp) rfl ⟨rfl, ?_⟩
      (repeat (first | exact Below.refl _ _ | apply Below.drew | refine Below.alloc ?_ ?_ _ | refine Below.setCell ?_ ?_ _ | refine Below.trans ?_ (Below.mono (After.below _) ?_))); (all_goals (first | (simp; done) | (simp; omega) | omega))
    · have e1 : max i 0 = 0 := by omega
      have e2 : decide (0 ≤ i) = false := by simp [h0]
      rw [e1, e2] at hvr
      rw [atN_out (.inl (by omega))]
      clear e1 e2 hat
      go_enter Try.func14, Try.ntmps14
      go_wp2_with (go_at_call 44; refine' Calls.aft _ _ (hvr) _; rotate_left 2; (first | (with_reducible exact After.below _; rfl) | (with_reducible exact below_drew (After.below _); rfl) | (with_reducible exact below_set (After.below _) _ _; (go_simp; rfl)) | (with_reducible exact below_set (below_set (After.below _) _ _) _ _; (go_simp; rfl)) | (with_reducible exact below_set (below_set (below_set (After.below _) _ _) _ _) _ _; (go_simp; rfl)) | (with_reducible exact below_set (below_set (below_set (below_set (After.below _) _ _) _ _) _ _) _ _; (go_simp; rfl)) | (exact Below.refl _ _; rfl)); intro x1; have hle := After.le x1; (try simp at hle))
      refine bodyPost_ret (v := .agg #[.int .i64 0, .int .i64 0]) (by simp only [results, Try.results14]; go_simp) rfl ⟨rfl, ?_⟩
      (repeat (first | exact Below.refl _ _ | apply Below.drew | refine Below.alloc ?_ ?_ _ | refine Below.setCell ?_ ?_ _ | refine Below.trans ?_ (Below.mono (After.below _) ?_))); (all_goals (first | (simp; done) | (simp; omega) | omega))

end Go.Proofs.Ytaaklejkngpddaa.Pr

namespace Go.Proofs.Ytaaklejkngpddaa.Pr
set_option linter.unusedVariables false
set_option linter.unusedSimpArgs false
open Go Go.RowKit

/-! Steps of regions that draw their order; what is carried over a call. -/
theorem nextB {w W q : World} (hq : Below W.heap.size W q) (h : Below w.heap.size w W) : Below w.heap.size w q := h.trans (hq.mono h.size)
theorem nextC {W q : World} {a : Addr} {v : Value} (hq : Below W.heap.size W q) (h : W.cell? a = some v) : q.cell? a = some v := (hq.cell (p := a) (World.block_lt_of_cell? _ _ h)).trans h
theorem nextF {W q : World} {b o : Nat} (hq : Below W.heap.size W q) (hb : b < W.heap.size) (h : W.frozen? ⟨b, o, none⟩ = false) : q.frozen? ⟨b, o, none⟩ = false := (hq.frozen (p := ⟨b, o, none⟩) hb).trans h
theorem ownNL {w : World} {base B : Nat} {e : TypeId} {size n : Nat} {v : Value} {xs : List Value} (h : w.ownsRow base e size v n xs) (hB : B < base) : v.ownBlock ≠ some B := fun he => by
  have := (h.lt _ he).1
  omega
theorem ownTy {w : World} {b1 b2 : Nat} {t1 t2 : TypeId} {s1 s2 n1 n2 : Nat} {v1 v2 : Value} {x1 x2 : List Value} (h1 : w.ownsRow b1 t1 s1 v1 n1 x1) (h2 : w.ownsRow b2 t2 s2 v2 n2 x2) (ht : t1 ≠ t2) : v1.ownBlock = none ∨ v1.ownBlock ≠ v2.ownBlock := by
  rcases h1.2 with ⟨rfl, _⟩ | ⟨g, cap, cur, rfl, _, hg, _⟩
  · exact .inl rfl
  · right
    intro he
    rcases h2.2 with ⟨rfl, _⟩ | ⟨g2, cap2, cur2, rfl, _, hg2, _⟩
    · cases he
    · have : g = g2 := by injection he
      subst this
      rw [hg] at hg2
      injection hg2 with hg3
      injection hg3 with _ h5
      exact ht h5
/-- A call as a step; guarded, the guard decided. -/
theorem stepBG {P : Program} {ops : Array Oper} {o : Oper} {a : Act} {w : World} {K : Act → World → Prop} {Q : Exit → Act → World → Prop} {E : Prop} (hgd : Region.wanted o (yielded ops a.tmps) = true) (f : FuncId) (vs : Array Value) (v : Value)
    (hop : (execOp a.eval o).run P w = .ok (.enter f vs) w)
    (h : Calls P f vs w fun e w' => e = .returned v ∧ Below w.heap.size w w') (hk : ∀ w', Below w.heap.size w w' → K (a.put o.dst v) w') :
    if Region.wanted o (yielded ops a.tmps) = true then Oper.wp P o a w K Q else E := by
  rw [if_pos hgd]
  unfold Oper.wp
  rw [hop, Oper.upon_enter]
  exact h.mono fun e w' ⟨he, hb⟩ => by subst he; exact hk w' hb
theorem stepSG {P : Program} {ops : Array Oper} {o : Oper} {a : Act} {w : World} {K : Act → World → Prop} {Q : Exit → Act → World → Prop} {E : Prop} (hgd : Region.wanted o (yielded ops a.tmps) = true) (f : FuncId) (vs : Array Value) {α : Type} (g : α → Value) (S : α → World → Prop)
    (hop : (execOp a.eval o).run P w = .ok (.enter f vs) w)
    (h : Calls P f vs w fun e w' => ∃ v, e = .returned (g v) ∧ S v w' ∧ Below w.heap.size w w') (hk : ∀ v w', S v w' → Below w.heap.size w w' → K (a.put o.dst (g v)) w') :
    if Region.wanted o (yielded ops a.tmps) = true then Oper.wp P o a w K Q else E := by
  rw [if_pos hgd]
  unfold Oper.wp
  rw [hop, Oper.upon_enter]
  exact h.mono fun e w' ⟨v, he, hs, hb⟩ => by subst he; exact hk v w' hs hb

set_option maxRecDepth 100000 in
set_option maxHeartbeats 1000000 in
theorem eval_any (P : List Bl) (E : List Nu) (x : Ex) (pv ev : Value) (w : World) (h : Pg w pv P) (h12 : P.length ≤ 12) (hl12 : ∀ b ∈ P, b.l.length ≤ 12) (hE : Sl w ev Nu.cs E) :
    Calls Try.prog 11 #[.agg #[pv], ev, .agg x.cs.toArray] w fun e w' => e = .returned (.tuple #[.agg #[.int .i64 (evalE P E x).a, .int .i64 (evalE P E x).b], .int .i64 (opN x.op)]) ∧ Below w.heap.size w w' := by
  obtain ⟨op, ⟨v1, a1, b1⟩, ⟨v2, a2, b2⟩⟩ := x
  show Calls _ _ #[_, _, .agg #[.int .i64 op, .string v1, .int .i64 a1, .int .i64 b1, .string v2, .int .i64 a2, .int .i64 b2]] _ _
  obtain ⟨p, cap, hpv⟩ : ∃ p cap, pv = .slice p P.length cap := by obtain ⟨b, off, p, cap, hv, _⟩ := h.1; exact ⟨p, cap, hv⟩
  subst hpv
  have hvl := fun xv xa xb (W : World) (hB : Below w.heap.size w W) => value_any P E xv xa xb _ ev W (h.below hB) h12 hl12 (hE.below hB)
  unfold evalE
  have e1 := hvl v1 a1 b1
  have e2 := hvl v2 a2 b2
  show Calls _ _ _ _ (fun e w' => e = .returned (.tuple #[.agg #[.int .i64 (opA op (valA P E ⟨v1, a1, b1⟩).a (valA P E ⟨v1, a1, b1⟩).b (valA P E ⟨v2, a2, b2⟩).a (valA P E ⟨v2, a2, b2⟩).b), .int .i64 (opB op (valA P E ⟨v1, a1, b1⟩).a (valA P E ⟨v1, a1, b1⟩).b (valA P E ⟨v2, a2, b2⟩).a (valA P E ⟨v2, a2, b2⟩).b)], .int .i64 (opN op)]) ∧ _)
  generalize valA P E ⟨v1, a1, b1⟩ = n1 at e1 ⊢
  generalize valA P E ⟨v2, a2, b2⟩ = n2 at e2 ⊢
  obtain ⟨ep, ec, hev⟩ : ∃ p cap, ev = .slice p E.length cap := by obtain ⟨b, off, p, cap, hv, _⟩ := hE; exact ⟨p, cap, hv⟩
  subst hev
  have hb3 : Below w.heap.size w (((w.alloc (.cells #[.slice p P.length cap] 24)).alloc (.cells #[.int .i64 op, .string v1, .int .i64 a1, .int .i64 b1, .string v2, .int .i64 a2, .int .i64 b2] 31)).alloc (.cells #[.int .i64 0, .int .i64 0] 27)) := (((Below.refl _ _).alloc (Nat.le_refl _) _).alloc (by simp) _).alloc (by simp; omega) _
  have f1 := fun (x : After (((w.alloc (.cells #[.slice p P.length cap] 24)).alloc (.cells #[.int .i64 op, .string v1, .int .i64 a1, .int .i64 b1, .string v2, .int .i64 a2, .int .i64 b2] 31)).alloc (.cells #[.int .i64 0, .int .i64 0] 27))) => e1 x.val (hb3.trans (x.below.mono hb3.size))
  have f2 := fun (x : After (((w.alloc (.cells #[.slice p P.length cap] 24)).alloc (.cells #[.int .i64 op, .string v1, .int .i64 a1, .int .i64 b1, .string v2, .int .i64 a2, .int .i64 b2] 31)).alloc (.cells #[.int .i64 0, .int .i64 0] 27))) => e2 x.val (hb3.trans (x.below.mono hb3.size))
  clear hvl hE h e1 e2
  go_enter Try.func11, Try.ntmps11
  go_wp2_with fail
  refine' region_tail 15 _ _ (by kernel_rfl) (by kernel_rfl) _; rotate_left 2; (first | (with_reducible exact After.below _; rfl) | (with_reducible exact below_drew (After.below _); rfl) | (with_reducible exact below_set (After.below _) _ _; (go_simp; rfl)) | (with_reducible exact below_set (below_set (After.below _) _ _) _ _; (go_simp; rfl)) | (with_reducible exact below_set (below_set (below_set (After.below _) _ _) _ _) _ _; (go_simp; rfl)) | (with_reducible exact below_set (below_set (below_set (below_set (After.below _) _ _) _ _) _ _) _ _; (go_simp; rfl)) | (exact Below.refl _ _; rfl)); simp only [List.take_succ_cons, List.take_zero, List.drop_succ_cons, List.drop_zero]; (repeat (go_big_quiet_step (first | (go_at_call 14; first | (with_reducible exact Calls.after_of (f1 _)) | (with_reducible exact Calls.after_of (f2 _))) | (go_at_call 40; exact Calls.after_of (op_any _ _ _ _ _ _))))); refine wpQuiet_nil ?_; intro z
  go_wp2_with fail
  refine bodyPost_ret (v := .tuple #[.agg #[.int .i64 (opA op n1.a n1.b n2.a n2.b), .int .i64 (opB op n1.a n1.b n2.a n2.b)], .int .i64 (opN op)]) (by simp only [results, Try.results11]; go_simp) rfl ⟨rfl, ?_⟩
  have hz := z.le
  simp at hz
  refine ((hb3.trans (z.below.mono hb3.size)).setCell ?_ _).setCell ?_ _ <;> (show w.heap.size ≤ w.heap.size + 1 + 1; omega)

/-- Rows of the call's own that hold variables and outputs. -/
structure Rn (base : Nat) (w : World) (ev ov : Value) (r : Rs) : Prop where
  e : w.ownsRow base 27 2 ev r.e.length (r.e.flatMap Nu.cs)
  o : w.ownsRow base 27 2 ov r.o.length (r.o.flatMap Nu.cs)
  ne : ev.ownBlock = none ∨ ev.ownBlock ≠ ov.ownBlock
  en : ov.ownBlock = none ∨ ov.ownBlock ≠ ev.ownBlock

theorem own_apart {w1 w2 : World} {b1 b2 : Nat} {t1 t2 : TypeId} {s1 s2 n1 n2 : Nat} {v1 v2 : Value} {x1 x2 : List Value} (h1 : w1.ownsRow b1 t1 s1 v1 n1 x1) (h2 : w2.ownsRow b2 t2 s2 v2 n2 x2) (hb : w1.heap.size ≤ b2) :
    (v1.ownBlock = none ∨ v1.ownBlock ≠ v2.ownBlock) ∧ (v2.ownBlock = none ∨ v2.ownBlock ≠ v1.ownBlock) := by
  cases e1 : v1.ownBlock with
  | none => exact ⟨.inl rfl, by cases e2 : v2.ownBlock with | none => exact .inl rfl | some k => exact .inr (by simp)⟩
  | some g =>
    have h3 := (h1.lt g e1).2
    cases e2 : v2.ownBlock with
    | none => exact ⟨.inr (by simp), .inl rfl⟩
    | some k =>
      have h4 := (h2.lt k e2).1
      exact ⟨.inr (by simp; omega), .inr (by simp; omega)⟩

theorem Rn.below {base : Nat} {w w' : World} {ev ov : Value} {r : Rs} (h : Rn base w ev ov r) (hB : Below w.heap.size w w') : Rn base w' ev ov r := ⟨own_below h.e hB, own_below h.o hB, h.ne, h.en⟩
theorem Rn.base {b b' : Nat} {w : World} {ev ov : Value} {r : Rs} (h : Rn b w ev ov r) (hb : b' ≤ b) : Rn b' w ev ov r := ⟨own_base h.e hb, own_base h.o hb, h.ne, h.en⟩
theorem Rn.set {base B j : Nat} {w : World} {ev ov u : Value} {r : Rs} (h : Rn base w ev ov r) (hB : B < base) : Rn base (w.setCell ⟨B, j, none⟩ u) ev ov r :=
  ⟨ownsRow_setCell_other h.e (ownNL h.e hB) _, ownsRow_setCell_other h.o (ownNL h.o hB) _, h.ne, h.en⟩
theorem Rn.first {b1 : Nat} {w1 w2 : World} {ev ov : Value} {r : Rs} (h1 : w1.ownsRow b1 27 2 ev r.e.length (r.e.flatMap Nu.cs)) (h2 : w2.ownsRow w1.heap.size 27 2 ov r.o.length (r.o.flatMap Nu.cs)) (hB : Below w1.heap.size w1 w2) (hb : b1 ≤ w1.heap.size) : Rn b1 w2 ev ov r := by
  have h := own_apart h1 h2 (Nat.le_refl _)
  exact ⟨own_below h1 hB, own_base h2 hb, h.1, h.2⟩
theorem Rn.second {b1 : Nat} {w1 w2 : World} {ev ov : Value} {r : Rs} (h1 : w1.ownsRow b1 27 2 ov r.o.length (r.o.flatMap Nu.cs)) (h2 : w2.ownsRow w1.heap.size 27 2 ev r.e.length (r.e.flatMap Nu.cs)) (hB : Below w1.heap.size w1 w2) (hb : b1 ≤ w1.heap.size) : Rn b1 w2 ev ov r := by
  have h := own_apart h1 h2 (Nat.le_refl _)
  exact ⟨own_base h2 hb, own_below h1 hB, h.2, h.1⟩

theorem step_callO {P : Program} {ops : Array Oper} {o : Oper} {a : Act} {w : World} {K : Act → World → Prop} {Q : Exit → Act → World → Prop} {E : Prop} (hgd : o.guard = none) (f : FuncId) (vs : Array Value) {t : TypeId} {s n : Nat} {xs : List Value}
    (hop : (execOp a.eval o).run P w = .ok (.enter f vs) w)
    (h : Calls P f vs w fun e w' => ∃ v, e = .returned v ∧ w'.ownsRow w.heap.size t s v n xs ∧ Below w.heap.size w w') (hk : ∀ v w', w'.ownsRow w.heap.size t s v n xs → Below w.heap.size w w' → K (a.put o.dst v) w') :
    if Region.wanted o (yielded ops a.tmps) = true then Oper.wp P o a w K Q else E :=
  step_callS hgd f vs (fun v w' => w'.ownsRow w.heap.size t s v n xs) hop h hk

set_option maxRecDepth 100000 in
set_option maxHeartbeats 2000000 in
theorem cloneS_any (b : Int) (r : Rs) (hl : r.e.length ≤ 1000000) (hl2 : r.o.length ≤ 1000000) (ev ov : Value) (w : World) (hE : Sl w ev Nu.cs r.e) (hO : Sl w ov Nu.cs r.o) :
    Calls Try.prog 49 #[.agg #[.int .i64 b, ev, .int .i64 r.i, ov]] w fun e w' => ∃ ev' ov', e = .returned (.agg #[.int .i64 b, ev', .int .i64 r.i, ov']) ∧ Rn w.heap.size w' ev' ov' r ∧ Below w.heap.size w w' := by
  have c1 := fun (W : World) (hB : Below w.heap.size w W) => cloneE_any r.e hl ev W (hE.below hB)
  have c2 := fun (W : World) (hB : Below w.heap.size w W) => cloneN_any r.o hl2 ov W (hO.below hB)
  obtain ⟨ep, ec, hev⟩ : ∃ p cap, ev = .slice p r.e.length cap := by obtain ⟨b, off, p, cap, hv, _⟩ := hE; exact ⟨p, cap, hv⟩
  obtain ⟨op, oc, hov⟩ : ∃ p cap, ov = .slice p r.o.length cap := by obtain ⟨b, off, p, cap, hv, _⟩ := hO; exact ⟨p, cap, hv⟩
  subst hev hov
  clear hE hO
  go_enter Try.func49, Try.ntmps49
  go_wp2_with fail
  obtain ⟨W0, hW0⟩ : ∃ W0, W0 = ((w.alloc (.cells #[.int .i64 b, .slice ep r.e.length ec, .int .i64 r.i, .slice op r.o.length oc] 47)).alloc (.cells #[.int .i64 0, .slice none 0 0, .int .i64 0, .slice none 0 0] 47)) := ⟨_, rfl⟩
  rw [← hW0]
  have hB0 : Below w.heap.size w W0.drew := by rw [hW0]; exact (((Below.refl _ _).alloc (Nat.le_refl _) _).alloc (by simp) _).drew
  have hz0 : W0.heap.size = w.heap.size + 1 + 1 := by rw [hW0]; simp
  have b0 : W0.drew.cell? ⟨w.heap.size, 0, none⟩ = some (.int .i64 b) := by rw [hW0]; simp
  have b1 : W0.drew.cell? ⟨w.heap.size, 1, none⟩ = some (.slice ep r.e.length ec) := by rw [hW0]; simp
  have b2 : W0.drew.cell? ⟨w.heap.size, 2, none⟩ = some (.int .i64 r.i) := by rw [hW0]; simp
  have b3 : W0.drew.cell? ⟨w.heap.size, 3, none⟩ = some (.slice op r.o.length oc) := by rw [hW0]; simp
  have b4 : W0.drew.heap[w.heap.size + 1]? = some (.cells #[.int .i64 0, .slice none 0 0, .int .i64 0, .slice none 0 0] 47 (0, 0)) := by
    rw [hW0]
    show ((w.alloc _).alloc _).heap[_]? = _
    rw [show w.heap.size + 1 = (w.alloc (.cells #[.int .i64 b, .slice ep r.e.length ec, .int .i64 r.i, .slice op r.o.length oc] 47)).heap.size by simp]
    exact heap_alloc_new _ _
  have bf : W0.drew.frozen? ⟨w.heap.size, 1, none⟩ = false := by rw [hW0]; simp
  have bg : W0.drew.frozen? ⟨w.heap.size, 3, none⟩ = false := by rw [hW0]; simp
  have bl := World.block_lt_of_cell? _ _ b0
  clear hW0
  go_region_law (first | (refine step_callO rfl 81 #[.slice ep r.e.length ec] ?hop3 (c1 _ (by assumption)) ?_; (case hop3 => (go_simp; done)); intro va q1 hva hq1; obtain ⟨xp, xc, rfl⟩ := own_len hva; have hB1 := nextB hq1 hB0; have g0 := nextC hq1 b0; have g1 := nextC hq1 b1; have g2 := nextC hq1 b2; have g3 := nextC hq1 b3; have gf := nextF hq1 bl bf; have gg := nextF hq1 bl bg; have gl := World.block_lt_of_cell? _ _ g0) | (refine step_callO rfl 82 #[.slice op r.o.length oc] ?hop2 (c2 _ (by assumption)) ?_; (case hop2 => (go_simp; done)); intro vb q2 hvb hq2; obtain ⟨yp, yc, rfl⟩ := own_len hvb; have k0 := nextC hq2 g0; have k1 := nextC hq2 g1; have k2 := nextC hq2 g2; have k3 := nextC hq2 g3; have kf := nextF hq2 gl gf; have kg := nextF hq2 gl gg; have kl := World.block_lt_of_cell? _ _ k0))
  all_goals (
    have hR : Rn W0.heap.size q2 (.slice xp r.e.length xc) (.slice yp r.o.length yc) r := by
      exact (Rn.first hva hvb hq2 hq1.size).base (Nat.le_refl _)
    have hB2 : Below w.heap.size w q2 := nextB hq2 hB1
    have b5 : q2.heap[w.heap.size + 1]? = some (.cells #[.int .i64 0, .slice none 0 0, .int .i64 0, .slice none 0 0] 47 (0, 0)) := (hq2.block _ (Nat.lt_of_lt_of_le (by show w.heap.size + 1 < W0.heap.size; omega) hq1.size)).trans ((hq1.block _ (by show w.heap.size + 1 < W0.heap.size; omega)).trans b4)
    have n0 := (cell_of_row q2 _ 0 _ _ (0, 0) b5).trans (rfl : _ = some (Value.int .i64 0))
    have n1 := (cell_of_row q2 _ 1 _ _ (0, 0) b5).trans (rfl : _ = some (Value.slice none 0 0))
    have n2 := (cell_of_row q2 _ 2 _ _ (0, 0) b5).trans (rfl : _ = some (Value.int .i64 0))
    have n3 := (cell_of_row q2 _ 3 _ _ (0, 0) b5).trans (rfl : _ = some (Value.slice none 0 0))
    have nl := World.block_lt_of_cell? _ _ n0
    have m0 := frozen_of_row q2 (w.heap.size + 1) 0 _ _ b5
    have m1 := frozen_of_row q2 (w.heap.size + 1) 1 _ _ b5
    have m2 := frozen_of_row q2 (w.heap.size + 1) 2 _ _ b5
    have m3 := frozen_of_row q2 (w.heap.size + 1) 3 _ _ b5
    clear hva hvb hq1 hq2 b0 b1 b2 b3 b4 bf bg g0 g1 g2 g3 gf gg b5
    go_wp2_with fail
    refine bodyPost_ret (v := .agg #[.int .i64 b, .slice xp r.e.length xc, .int .i64 r.i, .slice yp r.o.length yc]) (by simp only [results, Try.results49]; go_simp) rfl ⟨_, _, rfl, ?_, ?_⟩
    · refine Rn.base ?_ (by omega : w.heap.size ≤ W0.heap.size)
      (repeat (first | (with_reducible exact hR) | refine Rn.set ?_ ?_))
      all_goals omega
    · (repeat (first | (with_reducible exact hB2) | refine Below.setCell ?_ ?_ _))
      all_goals (first | exact Nat.le_refl _ | (show w.heap.size ≤ w.heap.size + 1; omega)))

end Go.Proofs.Ytaaklejkngpddaa.Pr

/- Trips: lists of ints; what closures keep; the state of trips.Last. WALK of the first closure of trips.Last: the present list is told. WALK of the second closure of trips.Last: the site of a statement gets to be its variable's. -/
import Derived.Test.YtaaklejkngpddaaExg
import Derived.Test.YtaaklejkngpddaaTrs
import Derived.Test.YtaaklejkngpddaaExk
namespace Go.Proofs.Ytaaklejkngpddaa.Pr
set_option linter.unusedVariables false
set_option linter.unusedSimpArgs false
open Go Go.RowKit

def ecI (x : Int) : List Value := [.int .i64 x]
def ecV (v : Value) : List Value := [v]
theorem ecI_len (x : Int) : (ecI x).length = 1 := rfl

theorem i_info : (Try.prog.info? 3).map (fun i => (i.zero, i.size, i.bytes)) = some (some (.int .i64 0), 1, 8) := by kernel_rfl
theorem ii_info : (Try.prog.info? 76).map (fun i => (i.zero, i.size, i.bytes)) = some (some (.slice none 0 0), 1, 24) := by kernel_rfl
theorem int_one {L : List Int} : ∀ u ∈ L.flatMap ecI, u.oneCell' = true := by
  intro u hu
  simp only [List.mem_flatMap] at hu
  obtain ⟨x, _, hx⟩ := hu
  simp only [ecI, List.mem_singleton] at hx
  subst hx
  rfl

/-- What a call leaves alone that writes lists of ints of its own alone. -/
structure KeepT (base : Nat) (w w' : World) : Prop where
  os : w'.os = w.os
  tape : w'.tape = w.tape
  output : w'.output = w.output
  size : w.heap.size ≤ w'.heap.size
  block : ∀ k, k < w.heap.size → (k < base ∨ ∃ cs t f, w.heap[k]? = some (.cells cs t f) ∧ t ≠ 3 ∧ t ≠ 76 ∧ t ≠ 80) → w'.heap[k]? = w.heap[k]?

theorem KeepT.refl (base : Nat) (w : World) : KeepT base w w := ⟨rfl, rfl, rfl, Nat.le_refl _, fun _ _ _ => rfl⟩
theorem KeepT.trans {base : Nat} {a b c : World} (h : KeepT base a b) (k : KeepT base b c) : KeepT base a c :=
  ⟨k.os.trans h.os, k.tape.trans h.tape, k.output.trans h.output, Nat.le_trans h.size k.size, fun j hj hc => (k.block j (Nat.lt_of_lt_of_le hj h.size) (by
    rcases hc with hc | ⟨cs, t, f, h1, h2⟩
    · exact .inl hc
    · exact .inr ⟨cs, t, f, (h.block j hj (.inr ⟨cs, t, f, h1, h2⟩)).trans h1, h2⟩)).trans (h.block j hj hc)⟩
theorem KeepT.below {base : Nat} {w w' : World} (h : KeepT base w w') (hb : base ≤ w.heap.size) : Below base w w' :=
  ⟨h.os, h.tape, h.output, h.size, fun k hk => h.block k (by omega) (.inl hk)⟩
theorem KeepT.of_below {base : Nat} {w w' : World} (h : Below w.heap.size w w') : KeepT base w w' :=
  ⟨h.os, h.tape, h.output, h.size, fun k hk _ => h.block k hk⟩
theorem KeepT.blk {base : Nat} {w w' : World} {k : Nat} {cs : Array Value} {t : TypeId} {f : Nat × Nat} (h : KeepT base w w') (hk : w.heap[k]? = some (.cells cs t f)) (h1 : t ≠ 3) (h2 : t ≠ 76) (h3 : t ≠ 80) : w'.heap[k]? = some (.cells cs t f) :=
  (h.block k (lt_of_some hk) (.inr ⟨cs, t, f, hk, h1, h2, h3⟩)).trans hk
/-- A row of ints or of lists, of its own, has grown. -/
theorem KeepT.grown {base size n : Nat} {t : TypeId} {w w' : World} {v : Value} {xs : List Value} (h : w.grownBy w' v.ownBlock) (hown : w.ownsRow base t size v n xs) (ht : t = 3 ∨ t = 76) : KeepT base w w' :=
  ⟨h.os, h.tape, h.output, h.size, fun k hk hc => h.block k hk fun he => by
    rcases hown.2 with ⟨rfl, _⟩ | ⟨g, cap, cur, rfl, hbg, hg, _⟩
    · cases he
    · cases he
      rcases hc with hc | ⟨cs, t', f, h1, h2, h3, h4⟩
      · have hc' : g < base := hc
        omega
      · rw [hg] at h1
        cases h1
        rcases ht with ht | ht
        · exact h2 ht
        · exact h3 ht⟩
/-- A cell of such a block is stored into. -/
theorem KeepT.stored {base B j : Nat} {w : World} {u : Value} {cs : Array Value} {t : TypeId} {f : Nat × Nat} (hB : w.heap[B]? = some (.cells cs t f)) (ht : t = 3 ∨ t = 76 ∨ t = 80) (hb : base ≤ B) : KeepT base w (w.setCell ⟨B, j, none⟩ u) :=
  ⟨rfl, rfl, rfl, by simp [World.setCell], fun k hk hc => Below.heap_setCell _ _ _ _ fun he => by
    have he' : B = k := he.symm
    subst he'
    rcases hc with hc | ⟨cs2, t2, f2, h1, h2, h3, h4⟩
    · omega
    · rw [hB] at h1
      cases h1
      rcases ht with ht | ht | ht
      · exact h2 ht
      · exact h3 ht
      · exact h4 ht⟩

set_option maxRecDepth 100000 in
set_option maxHeartbeats 1000000 in
theorem cloneI_any (L : List Int) (hl : L.length ≤ 1000000) (v : Value) (w : World) (h : Sl w v ecI L) :
    Calls Try.prog 64 #[v] w fun e w' => ∃ o, e = .returned o ∧ w'.ownsRow w.heap.size 3 1 o L.length (L.flatMap ecI) ∧ Below w.heap.size w w' := by
  obtain ⟨i0, hi, hz0, hz1, hz2⟩ := info_parts i_info
  have q22 : ∀ (w : World) (a : Option Addr) (n c n' c' : Nat), (binOp .eql 76 (.slice a n c) (.slice none n' c')).run Try.prog w = .ok (.bool a.isNone) w := fun w a n c n' c' => Lib.run_eql_slice_nil w _ _ a n c n' c' Try.underlying76
  obtain ⟨b, off, p, cap, rfl, hp, hc⟩ := h
  cases p with
  | none =>
    have h0 : L.length = 0 := by
      rcases Nat.eq_zero_or_pos L.length with h | h
      · exact h
      · have := hp h; cases this
    have hL : L = [] := List.eq_nil_of_length_eq_zero h0
    subst hL
    clear hp hc
    go_enter Try.func64, Try.ntmps64
    go_wp2_with fail
    refine bodyPost_ret (v := .slice none 0 0) (by simp only [results, Try.results64]; go_simp) rfl ⟨_, rfl, World.ownsRow_nil _ _ _ _, Below.refl _ _⟩
  | some a =>
    have hnews : ∀ j u, (L.flatMap ecI)[j]? = some u → (w.alloc (.cells #[] 3)).cell? (a.add j) = some u := fun j u hu => by
      have h0 : 0 < L.length := by
        rcases Nat.eq_zero_or_pos L.length with h | h
        · have : L = [] := List.eq_nil_of_length_eq_zero h
          subst this
          simp at hu
        · exact h
      have ha := hp h0
      cases ha
      rw [Go.WideShapes.add_plain]
      have := hc j u hu
      exact (World.cell?_alloc_lt _ _ _ (World.block_lt_of_cell? _ _ this)).trans this
    have hlen : (L.flatMap ecI).length = L.length * 1 := flat_length ecI_len L
    have hn := And.intro True.intro (And.intro hnews hlen)
    clear hp hc hnews hlen
    go_enter Try.func64, Try.ntmps64
    go_wp2_with (at_builtin; refine wpList_append_own _ rfl _ _ 76 rfl w.heap.size 3 i0 (.int .i64 0) 1 8 Try.underlying76 hi hz0 hz1 hz2 rfl (by decide) _ 0 [] rfl (own_empty w 3 1) _ L.length cap (L.flatMap ecI) rfl hn.2.2 hn.2.1 int_one (by unfold maxLen; omega) (by omega) (by simp) ?_; intro v2 w1 hown' hgrow _)
    have hB2 : Below w.heap.size w w1 := Below.grown (w := _) ((Below.refl _ _).alloc (Nat.le_refl _) _) hgrow (by simp) (fun q hq => by cases hq; exact Nat.le_refl _)
    rw [Nat.zero_add, List.nil_append] at hown'
    go_wp2_with fail
    refine bodyPost_ret (v := v2) (by simp only [results, Try.results64]; go_simp) rfl ⟨_, rfl, hown', hB2⟩

/-- A list that has been told, and where it lies. -/
structure Lv where
  l : List Int
  v : Value
def Lv.cs (x : Lv) : List Value := [x.v]
theorem Lv.cs_len (x : Lv) : x.cs.length = 1 := rfl

/-- What stands while lists are told: the lists so far, at ov in block bo; the present one, at nv in block bn. -/
structure LS (base bo bn : Nat) (X : List Lv) (now : List Int) (W : World) (ov nv : Value) : Prop where
  ob : W.heap[bo]? = some (.cells #[ov] 80 (0, 0))
  nb : W.heap[bn]? = some (.cells #[nv] 76 (0, 0))
  no : W.ownsRow base 3 1 nv now.length (now.flatMap ecI)
  oo : W.ownsRow base 76 1 ov X.length (X.flatMap Lv.cs)
  xr : ∀ x ∈ X, W.ownsRow base 3 1 x.v x.l.length (x.l.flatMap ecI) ∧ (x.v.ownBlock = none ∨ x.v.ownBlock ≠ nv.ownBlock)
  on : ov.ownBlock ≠ some bn
  ho : base ≤ bo
  hn : base ≤ bn

theorem LS.below {base bo bn : Nat} {X : List Lv} {now : List Int} {W q : World} {ov nv : Value} (h : LS base bo bn X now W ov nv) (hq : Below W.heap.size W q) : LS base bo bn X now q ov nv :=
  ⟨blk_next hq h.ob, blk_next hq h.nb, own_below h.no hq, own_below h.oo hq, fun x hx => ⟨own_below (h.xr x hx).1 hq, (h.xr x hx).2⟩, h.on, h.ho, h.hn⟩

end Go.Proofs.Ytaaklejkngpddaa.Pr

namespace Go.Proofs.Ytaaklejkngpddaa.Pr
set_option linter.unusedVariables false
set_option linter.unusedSimpArgs false
open Go Go.RowKit

theorem own_ne {w : World} {base B s n : Nat} {t t2 : TypeId} {v : Value} {xs : List Value} {cs : Array Value} {f : Nat × Nat} (hown : w.ownsRow base t s v n xs) (hB : w.heap[B]? = some (.cells cs t2 f)) (ht : t ≠ t2) : v.ownBlock ≠ some B := by
  intro he
  rcases hown.2 with ⟨rfl, _⟩ | ⟨g, cap, cur, rfl, hbg, hg, _⟩
  · cases he
  · cases he
    rw [hg] at hB
    cases hB
    exact ht rfl

theorem flat_snocL (X : List Lv) (x : Lv) : (X ++ [x]).flatMap Lv.cs = X.flatMap Lv.cs ++ x.cs := by simp

theorem LS.visit {base bo bn : Nat} {X : List Lv} {now : List Int} {W W6 : World} {ov nv v v' : Value} (h : LS base bo bn X now W ov nv) (hv : W.ownsRow base 3 1 v now.length (now.flatMap ecI)) (hvn : v.ownBlock = none ∨ v.ownBlock ≠ nv.ownBlock)
    (hg : W.grownBy W6 ov.ownBlock) (ho : W6.ownsRow base 76 1 v' (X.length + 1) (X.flatMap Lv.cs ++ [v])) (hv' : v'.ownBlock = ov.ownBlock ∨ v'.ownBlock = some W.heap.size) :
    LS base bo bn (X ++ [⟨now, v⟩]) now (W6.setCell ⟨bo, 0, none⟩ v') v' nv ∧ KeepT base W (W6.setCell ⟨bo, 0, none⟩ v') := by
  have hbb : bn ≠ bo := fun he => by
    have h1 := h.nb
    rw [he, h.ob] at h1
    cases h1
  have g1 : W6.heap[bo]? = some (.cells #[ov] 80 (0, 0)) := (hg.block _ (lt_of_some h.ob) (fun he => own_ne h.oo h.ob (by decide) he.symm)).trans h.ob
  have g2 : W6.heap[bn]? = some (.cells #[nv] 76 (0, 0)) := (hg.block _ (lt_of_some h.nb) (fun he => h.on he.symm)).trans h.nb
  have hs : ∀ (u : Value) (l : List Int), W.ownsRow base 3 1 u l.length (l.flatMap ecI) → (W6.setCell ⟨bo, 0, none⟩ v').ownsRow base 3 1 u l.length (l.flatMap ecI) := fun u l hu => by
    have h1 := hu.kept hg (ownTy hu h.oo (by decide))
    exact ownsRow_setCell_other h1 (own_ne h1 g1 (by decide)) _
  refine ⟨⟨heap_setCell_same _ bo 0 _ _ v' g1, (heap_setCell_other _ _ _ _ hbb).trans g2, hs _ _ h.no, ?_, ?_, ?_, h.ho, h.hn⟩, ?_⟩
  · rw [flat_snocL, List.length_append]
    exact ownsRow_setCell_other ho (own_ne ho g1 (by decide)) _
  · intro x hx
    rcases List.mem_append.1 hx with hx | hx
    · exact ⟨hs _ _ (h.xr x hx).1, (h.xr x hx).2⟩
    · obtain rfl := List.mem_singleton.1 hx
      exact ⟨hs _ _ hv, hvn⟩
  · intro he
    rcases hv' with hv' | hv'
    · exact h.on (hv'.symm.trans he)
    · rw [hv'] at he
      have h3 := lt_of_some h.nb
      have h4 : W.heap.size = bn := by injection he
      omega
  · exact (KeepT.grown hg h.oo (.inr rfl)).trans (KeepT.stored g1 (.inr (.inr rfl)) h.ho)

set_option maxRecDepth 100000 in
set_option maxHeartbeats 2000000 in
theorem come_any (base bo bn : Nat) (X : List Lv) (now : List Int) (W : World) (ov nv : Value) (h : LS base bo bn X now W ov nv) (hl : now.length ≤ 1000000) (hX : X.length ≤ 100000) (hb : base ≤ W.heap.size) :
    Calls Try.prog 63 #[.pointer (some ⟨bo, 0, none⟩), .pointer (some ⟨bn, 0, none⟩)] W fun e W' => e = .returned (.tuple #[]) ∧ (∃ (ov' v : Value), LS base bo bn (X ++ [⟨now, v⟩]) now W' ov' nv) ∧ KeepT base W W' := by
  obtain ⟨i0, hi, hz0, hz1, hz2⟩ := info_parts ii_info
  obtain ⟨np, nc, rfl⟩ := own_len h.no
  obtain ⟨op, oc, rfl⟩ := own_len h.oo
  go_enter Try.func63, Try.ntmps63
  have hd := h.below ((Below.refl W.heap.size W).drew)
  have p0 := cell_of_one hd.ob
  have p1 := cell_of_one hd.nb
  have l0 := lt_of_some hd.ob
  have l1 := lt_of_some hd.nb
  have hcl := cloneI_any now hl (.slice np now.length nc) W.drew (Sl.of_own hd.no)
  go_wp2_with fail
  first | (go_region_law (first | (refine step_callO rfl 64 #[.slice np now.length nc] ?hop3 hcl ?_; (case hop3 => (go_simp; done)); intro v1 q1 hv1 hq1; obtain ⟨vp, vc, rfl⟩ := own_len hv1; have hq := (hd.below hq1).below ((Below.refl q1.heap.size q1).alloc (Nat.le_refl _) (.cells #[.slice vp now.length vc] 76)); have g0 := nextC hq1 p0; have gl := World.block_lt_of_cell? _ _ g0) | (refine step_append_tells rfl (.tmp 2) (.tmp 5) 80 rfl base 76 i0 (.slice none 0 0) 1 24 Try.underlying80 hi hz0 hz1 hz2 rfl (by decide) _ X.length (X.flatMap Lv.cs) rfl hq.oo _ 1 1 [.slice vp now.length vc] rfl rfl (news_at rfl) (by intro u hu; simp at hu; subst hu; rfl) (by unfold maxLen; omega) (by omega) (by have := hq1.size; have : W.drew.heap.size = W.heap.size := rfl; simp; omega) (by decide) ?_; intro v6 W6 ho6 hg6 hv6; obtain ⟨wp6, wc6, rfl⟩ := own_len ho6; have hb6 := (hg6.block bo (lt_of_some hq.ob) (fun he => own_ne hq.oo hq.ob (by decide) he.symm)).trans hq.ob; have t0 := cell_of_one hb6; have tf := frozen_of_row W6 bo 0 _ _ hb6; have tl := lt_of_some hb6))) | fail
  all_goals (
    have hkd : W.drew.heap.size = W.heap.size := rfl
    have hnv : (Value.slice vp now.length vc).ownBlock = none ∨ (Value.slice vp now.length vc).ownBlock ≠ (Value.slice np now.length nc).ownBlock := by
      cases e1 : (Value.slice vp now.length vc).ownBlock with
      | none => exact .inl rfl
      | some k =>
        refine .inr fun he => ?_
        have h1 := (hv1.lt _ e1).1
        have h2 := (hd.no.lt _ he.symm).2
        omega
    obtain ⟨hL, hK⟩ := hq.visit (own_base (own_below hv1 ((Below.refl q1.heap.size q1).alloc (Nat.le_refl _) (.cells #[.slice vp now.length vc] 76))) (by omega)) hnv hg6 ho6 hv6
    have hK2 := ((KeepT.of_below (base := base) ((Below.refl W.heap.size W).drew)).trans (KeepT.of_below hq1)).trans ((KeepT.of_below ((Below.refl q1.heap.size q1).alloc (Nat.le_refl _) _)).trans hK)
    clear hd hcl hq1 hv1 hq ho6 hg6 hb6 hK
    go_wp2_with fail
    go_end0
    exact ⟨rfl, ⟨_, _, hL⟩, hK2⟩)

end Go.Proofs.Ytaaklejkngpddaa.Pr

namespace Go.Proofs.Ytaaklejkngpddaa.Pr
set_option linter.unusedVariables false
set_option linter.unusedSimpArgs false
open Go Go.RowKit

def putI (P : List Bl) (S : List Si) (x : Si) : Nat → List Int → List Int
  | 0, n => n
  | j + 1, n => if S[j]? = some x then (putI P S x j n).set (max (idx (vars P) x.v) 0).toNat (j : Int) else putI P S x j n
theorem putI_len (P : List Bl) (S : List Si) (x : Si) : ∀ (j : Nat) (n : List Int), (putI P S x j n).length = n.length
  | 0, n => rfl
  | j + 1, n => by
    have ih := putI_len P S x j n
    unfold putI
    split
    · rw [List.length_set]; exact ih
    · exact ih

theorem ecI_get (L : List Int) (k : Nat) (hk : k < L.length) : (L.flatMap ecI)[k]? = some (.int .i64 (L[k]'hk)) := by
  have : ∀ (L : List Int), L.flatMap ecI = L.map (Value.int .i64) := fun L => by induction L with | nil => rfl | cons a L ih => simp [ecI, List.flatMap_cons, ih]
  rw [this, List.getElem?_map, List.getElem?_eq_getElem hk]
  rfl

theorem own_setI {w : World} {base : Nat} {L : List Int} {cap g : Nat} (h : w.ownsRow base 3 1 (.slice (some ⟨g, 0, none⟩) L.length cap) L.length (L.flatMap ecI)) (k : Nat) (x : Int) (hk : k < L.length) :
    (w.setCell ⟨g, k, none⟩ (.int .i64 x)).ownsRow base 3 1 (.slice (some ⟨g, 0, none⟩) L.length cap) L.length ((L.set k x).flatMap ecI) := by
  have e : (L.set k x).flatMap ecI = (L.flatMap ecI).set k (.int .i64 x) := by
    have : ∀ (L : List Int), L.flatMap ecI = L.map (Value.int .i64) := fun L => by induction L with | nil => rfl | cons a L ih => simp [ecI, List.flatMap_cons, ih]
    rw [this, this, List.map_set]
  rw [e]
  exact (h.stored k _).1

theorem LS.put {base bo bn g c : Nat} {X : List Lv} {now : List Int} {W : World} {ov : Value} (h : LS base bo bn X now W ov (.slice (some ⟨g, 0, none⟩) now.length c)) (M : Nat) (hM : M < now.length) (x : Int) :
    LS base bo bn X (now.set M x) (W.setCell ⟨g, M, none⟩ (.int .i64 x)) ov (.slice (some ⟨g, 0, none⟩) now.length c) ∧ KeepT base W (W.setCell ⟨g, M, none⟩ (.int .i64 x)) := by
  have hb := (h.no.lt g rfl).1
  have hgt : ∃ cs f, W.heap[g]? = some (.cells cs 3 f) := by
    rcases h.no.2 with ⟨he, _⟩ | ⟨g', cap, cur, he, hbg, hg, _⟩
    · cases he
    · cases he
      exact ⟨_, _, hg⟩
  obtain ⟨cs, f, hg⟩ := hgt
  have h1 : bo ≠ g := fun he => by
    have := h.ob
    rw [he, hg] at this
    cases this
  have h2 : bn ≠ g := fun he => by
    have := h.nb
    rw [he, hg] at this
    cases this
  refine ⟨⟨(heap_setCell_other _ _ _ _ h1).trans h.ob, (heap_setCell_other _ _ _ _ h2).trans h.nb, ?_, ?_, ?_, h.on, h.ho, h.hn⟩, KeepT.stored hg (.inl rfl) hb⟩
  · rw [List.length_set]
    exact own_setI h.no M x hM
  · exact ownsRow_setCell_other h.oo (own_ne h.oo hg (by decide)) _
  · intro y hy
    refine ⟨ownsRow_setCell_other (h.xr y hy).1 (fun he => ?_) _, (h.xr y hy).2⟩
    rcases (h.xr y hy).2 with h3 | h3
    · rw [h3] at he; cases he
    · exact h3 he

set_option maxRecDepth 100000 in
set_option maxHeartbeats 4000000 in
theorem do9_any (P : List Bl) (S : List Si) (hS : S.length ≤ 1000) (bs bp bo bn : Nat) (s : St) (b k : Int) (X : List Lv) (now : List Int) (W0 W : World) (ov nv sv pv : Value) (hP : Pg W0 pv P) (h12 : P.length ≤ 12) (hl12 : ∀ b ∈ P, b.l.length ≤ 12) (hs : Sl W0 sv Si.cs S)
    (hsb : W0.heap[bs]? = some (.cells #[sv] 85 (0, 0))) (hpb : W0.heap[bp]? = some (.cells #[pv] 24 (0, 0))) (hlow : Below W0.heap.size W0 W) (h : LS W0.heap.size bo bn X now W ov nv)
    (hv : (⟨b, k, s.v⟩ : Si) ∈ S → (max (idx (vars P) s.v) 0).toNat < now.length) :
    Calls Try.prog 65 #[.int .i64 b, .int .i64 k, .agg #[.int .i64 s.k, .string s.v, .int .i64 s.e.op, .string s.e.x.v, .int .i64 s.e.x.a, .int .i64 s.e.x.b, .string s.e.y.v, .int .i64 s.e.y.a, .int .i64 s.e.y.b], .pointer (some ⟨bs, 0, none⟩), .pointer (some ⟨bp, 0, none⟩), .pointer (some ⟨bn, 0, none⟩)] W fun e W' => e = .returned (.tuple #[]) ∧ LS W0.heap.size bo bn X (putI P S ⟨b, k, s.v⟩ S.length now) W' ov nv ∧ KeepT W0.heap.size W W' := by
  obtain ⟨p, cap, rfl⟩ : ∃ p cap, pv = .slice p P.length cap := sl_len hP.1
  obtain ⟨sbb, soff, sp, scap, rfl, hsp, hsc⟩ := hs.open Si.cs_len
  have hvr := fun (V : World) (hB : Below W0.heap.size W0 V) => tvar_any P s.v _ V (hP.below hB) h12 hl12
  have hle := hlow.size
  obtain ⟨M, hM⟩ : ∃ M : Nat, max (idx (vars P) s.v) 0 = (M : Int) := ⟨(max (idx (vars P) s.v) 0).toNat, by omega⟩
  obtain ⟨st, hst⟩ : ∃ st, W.heap.size = st := ⟨_, rfl⟩
  have hMt : (max (idx (vars P) s.v) 0).toNat = M := by omega
  rw [hMt] at hv
  have hHt : Hid ((max (idx (vars P) s.v) 0).toNat = M) := hMt
  unfold placeV at hvr
  rw [hM] at hvr
  have hLa := h.below ((Below.refl W.heap.size W).alloc (Nat.le_refl _) (.cells #[.int .i64 s.k, .string s.v, .int .i64 s.e.op, .string s.e.x.v, .int .i64 s.e.x.a, .int .i64 s.e.x.b, .string s.e.y.v, .int .i64 s.e.y.a, .int .i64 s.e.y.b] 90))
  have hKa : KeepT W0.heap.size W (W.alloc (.cells #[.int .i64 s.k, .string s.v, .int .i64 s.e.op, .string s.e.x.v, .int .i64 s.e.x.a, .int .i64 s.e.x.b, .string s.e.y.v, .int .i64 s.e.y.a, .int .i64 s.e.y.b] 90)) := KeepT.of_below ((Below.refl W.heap.size W).alloc (Nat.le_refl _) _)
  have hst9 := heap_alloc_new W (.cells #[.int .i64 s.k, .string s.v, .int .i64 s.e.op, .string s.e.x.v, .int .i64 s.e.x.a, .int .i64 s.e.x.b, .string s.e.y.v, .int .i64 s.e.y.a, .int .i64 s.e.y.b] 90)
  have c5 := cell_of_one (blk_next hlow hsb)
  have l5 := lt_of_some (blk_next hlow hsb)
  generalize idx (vars P) s.v = r at hM hMt hvr
  clear hM hMt hP hst
  go_enter Try.func65, Try.ntmps65
  go_wp2_with fail
  go_loopw [15] (fun i wr => ∃ j : Nat, j ≤ S.length ∧ i = .int .i64 j ∧ LS W0.heap.size bo bn X (putI P S ⟨b, k, s.v⟩ j now) wr ov nv ∧ KeepT W0.heap.size (W.alloc (.cells #[.int .i64 s.k, .string s.v, .int .i64 s.e.op, .string s.e.x.v, .int .i64 s.e.x.a, .int .i64 s.e.x.b, .string s.e.y.v, .int .i64 s.e.y.a, .int .i64 s.e.y.b] 90)) wr) (fun i _ => S.length - (intOf i).toNat)
  case atStart => exact ⟨0, Nat.zero_le _, rfl, hLa, KeepT.refl _ _⟩
  case round =>
    obtain ⟨j, hj, rfl, hL, hK⟩ := hrel
    clear hLa c5 l5
    have hK0 := hKa.trans hK
    have hBr : Below W0.heap.size W0 wr := hlow.trans (hK0.below hle)
    have hsz := hK0.size
    have e9 := hK.blk hst9 (by decide) (by decide) (by decide)
    have e1 : wr.cell? ⟨W.heap.size, 1, none⟩ = some (.string s.v) := (nine e9).2.1
    have el := lt_of_some e9
    by_cases hlt : j < S.length
    · obtain rfl := hsp (by omega)
      have hlt2 : (j : Int) < S.length := by omega
      have hcr : ∀ r u, ((S[j]'hlt).cs)[r]? = some u → wr.cell? ⟨sbb, soff + j * 3 + r, none⟩ = some u := fun r u hu => by
        rw [Nat.add_assoc]
        exact nextC hBr (hsc j hlt r u hu)
      have hhit : S[j]'hlt = ⟨b, k, s.v⟩ → putI P S ⟨b, k, s.v⟩ (j + 1) now = (putI P S ⟨b, k, s.v⟩ j now).set M (j : Int) ∧ M < now.length := fun he => by
        refine ⟨?_, hv (he ▸ List.getElem_mem hlt)⟩
        have h9 : (max (idx (vars P) s.v) 0).toNat = M := hHt
        show (if S[j]? = some ⟨b, k, s.v⟩ then (putI P S ⟨b, k, s.v⟩ j now).set (max (idx (vars P) s.v) 0).toNat (j : Int) else _) = _
        rw [if_pos (by rw [List.getElem?_eq_getElem hlt, he]), h9]
      have hmiss : S[j]'hlt ≠ ⟨b, k, s.v⟩ → putI P S ⟨b, k, s.v⟩ (j + 1) now = putI P S ⟨b, k, s.v⟩ j now := fun he => by
        show (if S[j]? = some ⟨b, k, s.v⟩ then _ else _) = _
        rw [if_neg (by rw [List.getElem?_eq_getElem hlt]; simpa using he)]
      have hpl := putI_len P S ⟨b, k, s.v⟩ j now
      clear hsc hv hHt hsp
      generalize S[j]'hlt = y at hcr hhit hmiss
      generalize putI P S ⟨b, k, s.v⟩ j now = N1 at hL hhit hmiss hpl
      obtain ⟨yb, yk, yv⟩ := y
      have d0 : wr.cell? ⟨sbb, soff + j * 3, none⟩ = some (.int .i64 yb) := hcr 0 _ rfl
      have d1 : wr.cell? ⟨sbb, soff + j * 3 + 1, none⟩ = some (.int .i64 yk) := hcr 1 _ rfl
      have d2 : wr.cell? ⟨sbb, soff + j * 3 + 2, none⟩ = some (.string yv) := hcr 2 _ rfl
      have dl := World.block_lt_of_cell? _ _ d0
      have p0 := cell_of_one (blk_next hBr hpb)
      have pl := lt_of_some (blk_next hBr hpb)
      clear hcr
      have hBa : Below W0.heap.size W0 (wr.alloc (.cells #[.int .i64 yb, .int .i64 yk, .string yv] 88)) := hBr.alloc (by omega) _
      have hLs := hL.below ((Below.refl wr.heap.size wr).alloc (Nat.le_refl _) (.cells #[.int .i64 yb, .int .i64 yk, .string yv] 88))
      have hKs : KeepT W0.heap.size wr (wr.alloc (.cells #[.int .i64 yb, .int .i64 yk, .string yv] 88)) := KeepT.of_below ((Below.refl wr.heap.size wr).alloc (Nat.le_refl _) _)
      have hpl2 : Hid (N1.length = now.length) := hpl
      by_cases he : (⟨yb, yk, yv⟩ : Si) = ⟨b, k, s.v⟩
      · obtain ⟨hn2, hMl⟩ := hhit he
        have hMl2 : M < N1.length := by omega
        have hH2 : Hid (putI P S ⟨b, k, s.v⟩ (j + 1) now = N1.set M (j : Int)) := hn2
        clear hhit hmiss hpl hn2
        injection he with e3 e4 e5
        subst e3 e4 e5
        obtain ⟨g, gc, rfl, hg1, hg2⟩ := own_some hL.no (by omega)
        have hMl3 : (M : Int) < N1.length := by omega
        go_wp2_with ((go_at_call 44; refine' Calls.aft _ _ (hvr _ hBa) _; rotate_left 2; (exact Below.refl _ _; rfl); intro x1; have hle := After.le x1; (try simp at hle)); have hL1 := hLs.below x1.below; have n0 := cell_of_one hL1.nb; have nl := lt_of_some hL1.nb; have q0 := hL1.no.frozenAt M; have dd := (hL1.no.cellAt M (by omega)).trans (ecI_get N1 M hMl2); have gl := (hL1.no.lt g rfl).2)
        obtain ⟨hLp, hKp⟩ := hL1.put M hMl2 (j : Int)
        refine ⟨⟨j + 1, by omega, by simp, ?_, hK.trans (hKs.trans ((KeepT.of_below x1.below).trans hKp))⟩, by simp [intOf]; omega⟩
        rw [hH2]
        exact hLp
      · have hH2 : Hid (putI P S ⟨b, k, s.v⟩ (j + 1) now = N1) := hmiss he
        clear hhit hmiss hpl
        have hfin : ∀ x : After (wr.alloc (.cells #[.int .i64 yb, .int .i64 yk, .string yv] 88)), LS W0.heap.size bo bn X (putI P S ⟨b, k, s.v⟩ (j + 1) now) x.val ov nv ∧ KeepT W0.heap.size (W.alloc (.cells #[.int .i64 s.k, .string s.v, .int .i64 s.e.op, .string s.e.x.v, .int .i64 s.e.x.a, .int .i64 s.e.x.b, .string s.e.y.v, .int .i64 s.e.y.a, .int .i64 s.e.y.b] 90)) x.val := fun x => by
          rw [show putI P S ⟨b, k, s.v⟩ (j + 1) now = N1 from hH2]
          exact ⟨hLs.below x.below, hK.trans (hKs.trans (KeepT.of_below x.below))⟩
        by_cases h1 : yb = b
        · subst h1
          by_cases h2 : yk = k
          · subst h2
            have h3 : ¬ yv.toList = s.v.toList := fun h => he (by rw [toList_inj h])
            go_wp2_with (go_at_call 44; refine' Calls.aft _ _ (hvr _ hBa) _; rotate_left 2; (exact Below.refl _ _; rfl); intro x1; have hle := After.le x1; (try simp at hle))
            exact ⟨⟨j + 1, by omega, by simp, hfin x1⟩, by simp [intOf]; omega⟩
          · go_wp2_with (go_at_call 44; refine' Calls.aft _ _ (hvr _ hBa) _; rotate_left 2; (exact Below.refl _ _; rfl); intro x1; have hle := After.le x1; (try simp at hle))
            exact ⟨⟨j + 1, by omega, by simp, hfin x1⟩, by simp [intOf]; omega⟩
        · go_wp2_with (go_at_call 44; refine' Calls.aft _ _ (hvr _ hBa) _; rotate_left 2; (exact Below.refl _ _; rfl); intro x1; have hle := After.le x1; (try simp at hle))
          exact ⟨⟨j + 1, by omega, by simp, hfin x1⟩, by simp [intOf]; omega⟩
    · have hks : j = S.length := by omega
      subst hks
      have hlt2 : ¬ (S.length : Int) < S.length := by omega
      clear hsc hv hHt hsp
      go_wp2_with fail
      go_end0
      exact ⟨rfl, hL, hK0⟩

end Go.Proofs.Ytaaklejkngpddaa.Pr

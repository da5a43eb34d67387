/- WALKS of slices.Clone at statements, proper.Clone. -/
import Derived.Test.YtekpkhgpjpgcbaaSame
namespace Go.Proofs.Ytekpkhgpjpgcbaa.Pr
set_option linter.unusedVariables false
set_option linter.unusedSimpArgs false
open Go Go.RowKit

theorem st_info : (Try.prog.info? 110).map (fun i => (i.zero, i.size, i.bytes)) = some (some (.agg #[.int .i64 0, .string ⟨#[]⟩, .int .i64 0, .string ⟨#[]⟩, .int .i64 0, .int .i64 0, .string ⟨#[]⟩, .int .i64 0, .int .i64 0]), 9, 96) := by kernel_rfl
theorem bl_info : (Try.prog.info? 108).map (fun i => (i.zero, i.size, i.bytes)) = some (some (.agg #[.string ⟨#[]⟩, .slice none 0 0, .int .i64 0, .string ⟨#[]⟩, .int .i64 0, .int .i64 0, .string ⟨#[]⟩, .string ⟨#[]⟩]), 8, 112) := by kernel_rfl

theorem st_one {L : List St} : ∀ u ∈ L.flatMap St.cs, u.oneCell' = true := by
  intro u hu
  obtain ⟨s, _, hs⟩ := List.mem_flatMap.1 hu
  simp only [St.cs, List.mem_cons, List.not_mem_nil, or_false] at hs
  rcases hs with rfl | rfl | rfl | rfl | rfl | rfl | rfl | rfl | rfl <;> rfl

set_option maxRecDepth 100000 in
set_option maxHeartbeats 1000000 in
theorem clones_any (L : List St) (hl : L.length ≤ 1000000) (v : Value) (w : World) (h : Sl w v St.cs L) :
    Calls Try.prog 101 #[v] w fun e w' => ∃ o, e = .returned o ∧ w'.ownsRow w.heap.size 110 9 o L.length (L.flatMap St.cs) ∧ Below w.heap.size w w' := by
  obtain ⟨i0, hi, hz0, hz1, hz2⟩ := info_parts st_info
  have q22 : ∀ (w : World) (a : Option Addr) (n c n' c' : Nat), (binOp .eql 104 (.slice a n c) (.slice none n' c')).run Try.prog w = .ok (.bool a.isNone) w := fun w a n c n' c' => Lib.run_eql_slice_nil w _ _ a n c n' c' Try.underlying104
  obtain ⟨b, off, p, cap, rfl, hp, hc⟩ := h
  cases p with
  | none =>
    have h0 : L.length = 0 := by
      rcases Nat.eq_zero_or_pos L.length with h | h
      · exact h
      · have := hp h; cases this
    have hL : L = [] := List.eq_nil_of_length_eq_zero h0
    subst hL
    clear hp hc
    go_enter Try.func101, Try.ntmps101
    go_wp2_with fail
    refine bodyPost_ret (v := .slice none 0 0) (by simp only [results, Try.results101]; go_simp) rfl ⟨_, rfl, World.ownsRow_nil _ _ _ _, Below.refl _ _⟩
  | some a =>
    have hnews : ∀ j u, (L.flatMap St.cs)[j]? = some u → (w.alloc (.cells #[] 110)).cell? (a.add j) = some u := fun j u hu => by
      have h0 : 0 < L.length := by
        rcases Nat.eq_zero_or_pos L.length with h | h
        · have : L = [] := List.eq_nil_of_length_eq_zero h
          subst this
          simp at hu
        · exact h
      have ha := hp h0
      cases ha
      rw [Go.WideShapes.add_plain]
      have := hc j u hu
      exact (World.cell?_alloc_lt _ _ _ (World.block_lt_of_cell? _ _ this)).trans this
    have hlen : (L.flatMap St.cs).length = L.length * 9 := flat_length St.cs_len L
    have hn := And.intro True.intro (And.intro hnews hlen)
    clear hp hc hnews hlen
    go_enter Try.func101, Try.ntmps101
    go_wp2_with (at_builtin; refine wpList_append_own _ rfl _ _ 104 rfl w.heap.size 110 i0 (.agg #[.int .i64 0, .string ⟨#[]⟩, .int .i64 0, .string ⟨#[]⟩, .int .i64 0, .int .i64 0, .string ⟨#[]⟩, .int .i64 0, .int .i64 0]) 9 96 Try.underlying104 hi hz0 hz1 hz2 rfl (by decide) _ 0 [] rfl (own_empty w 110 9) _ L.length cap (L.flatMap St.cs) rfl hn.2.2 hn.2.1 st_one (by unfold maxLen; omega) (by omega) (by simp) ?_; intro v2 w1 hown' hgrow _)
    have hB2 : Below w.heap.size w w1 := Below.grown (w := _) ((Below.refl _ _).alloc (Nat.le_refl _) _) hgrow (by simp) (fun q hq => by cases hq; exact Nat.le_refl _)
    rw [Nat.zero_add, List.nil_append] at hown'
    go_wp2_with fail
    refine bodyPost_ret (v := v2) (by simp only [results, Try.results101]; go_simp) rfl ⟨_, rfl, hown', hB2⟩

/-- Blocks and statements of the call's own, and where they are kept. -/
structure Cl (base B3 BR : Nat) (P : List Bl) (w : World) (v : Value) : Prop where
  box : w.heap[B3]? = some (.cells #[v] 24 (0, 0))
  res : w.heap[BR]? = some (.cells #[.slice none 0 0] 24 (0, 0))
  own : w.ownsRow base 108 8 v P.length (P.flatMap Bl.cs)
  sts : ∀ b ∈ P, w.ownsRow base 110 9 b.lv b.l.length (b.l.flatMap St.cs)

theorem own_belowB {w w' : World} {B base : Nat} {e : TypeId} {size : Nat} {v : Value} {n : Nat} {xs : List Value} (h : w.ownsRow base e size v n xs) (hb : Below B w w') (hB : w.heap.size ≤ B) : w'.ownsRow base e size v n xs :=
  own_below h (hb.mono hB)
theorem own_types {w : World} {b1 b2 : Nat} {t1 t2 : TypeId} {s1 s2 n1 n2 : Nat} {v1 v2 : Value} {x1 x2 : List Value} (h1 : w.ownsRow b1 t1 s1 v1 n1 x1) (h2 : w.ownsRow b2 t2 s2 v2 n2 x2) (ht : t1 ≠ t2) : v1.ownBlock = none ∨ v1.ownBlock ≠ v2.ownBlock := by
  rcases h1.2 with ⟨rfl, _⟩ | ⟨g, cap, cur, rfl, _, hg, _⟩
  · exact .inl rfl
  · right
    intro he
    rcases h2.2 with ⟨rfl, _⟩ | ⟨g2, cap2, cur2, rfl, _, hg2, _⟩
    · cases he
    · have : g = g2 := by injection he
      subst this
      rw [hg] at hg2
      injection hg2 with hg3
      injection hg3 with _ h5
      exact ht h5

theorem Cl.below {base B3 BR : Nat} {P : List Bl} {w w' : World} {v : Value} (h : Cl base B3 BR P w v) (hB : Below w.heap.size w w') : Cl base B3 BR P w' v :=
  ⟨(hB.block _ (lt_of_block h.box)).trans h.box, (hB.block _ (lt_of_block h.res)).trans h.res, own_below h.own hB, fun b hb => own_below (h.sts b hb) hB⟩

theorem own_not_lt {w : World} {base B : Nat} {e : TypeId} {size n : Nat} {v : Value} {xs : List Value} (h : w.ownsRow base e size v n xs) (hB : B < base) : v.ownBlock ≠ some B := fun he => by
  have := (h.lt _ he).1
  omega

theorem Cl.step {base B3 BR : Nat} {P : List Bl} {w w1 : World} {v v2 : Value} {b : Bl} (h : Cl base B3 BR P w v) (hb3 : B3 < base) (hbr : BR < base) (hne : BR ≠ B3)
    (hst : w.ownsRow base 110 9 b.lv b.l.length (b.l.flatMap St.cs)) (hown : w1.ownsRow base 108 8 v2 (P.length + 1) (P.flatMap Bl.cs ++ b.cs)) (hg : w.grownBy w1 v.ownBlock) :
    Cl base B3 BR (P ++ [b]) (w1.setCell ⟨B3, 0, none⟩ v2) v2 ∧ w1.cell? ⟨B3, 0, none⟩ = some v ∧ w1.frozen? ⟨B3, 0, none⟩ = false ∧ B3 < w1.heap.size := by
  have h1 : w1.heap[B3]? = some (.cells #[v] 24 (0, 0)) := (hg.block B3 (lt_of_block h.box) (fun he => own_not_lt h.own hb3 he.symm)).trans h.box
  have h2 : w1.heap[BR]? = some (.cells #[.slice none 0 0] 24 (0, 0)) := (hg.block BR (lt_of_block h.res) (fun he => own_not_lt h.own hbr he.symm)).trans h.res
  have hk : ∀ c : Bl, w.ownsRow base 110 9 c.lv c.l.length (c.l.flatMap St.cs) → (w1.setCell ⟨B3, 0, none⟩ v2).ownsRow base 110 9 c.lv c.l.length (c.l.flatMap St.cs) := fun c hc => by
    have h3 : w1.ownsRow base 110 9 c.lv c.l.length (c.l.flatMap St.cs) := hc.kept hg (own_types hc h.own (by decide))
    exact ownsRow_setCell_other h3 (own_not_lt h3 hb3) _
  refine ⟨⟨one_setCell h1, (Below.heap_setCell _ _ _ _ hne).trans h2, ?_, fun c hc => ?_⟩, cell_of_one h1, free_of_one h1, lt_of_block h1⟩
  · have h4 : w1.ownsRow base 108 8 v2 (P ++ [b]).length ((P ++ [b]).flatMap Bl.cs) := by
      rw [List.length_append, List.flatMap_append]
      simpa using hown
    exact ownsRow_setCell_other h4 (own_not_lt h4 hb3) _
  · rcases List.mem_append.1 hc with hc | hc
    · exact hk c (h.sts c hc)
    · have : c = b := by simpa using hc
      subst this
      exact hk _ hst

/-- The same blocks, but for where the statements lie. -/
def likeB (b c : Bl) : Prop := b.n = c.n ∧ b.l = c.l ∧ b.t = c.t
def LikeP (P Q : List Bl) : Prop := P.length = Q.length ∧ ∀ i (h1 : i < P.length) (h2 : i < Q.length), likeB (P[i]'h1) (Q[i]'h2)

set_option maxRecDepth 100000 in
set_option maxHeartbeats 2000000 in
theorem clone_any (P : List Bl) (h12 : P.length ≤ 12) (hl12 : ∀ b ∈ P, b.l.length ≤ 12) (pv : Value) (w : World) (h : Pg w pv P) :
    Calls Try.prog 55 #[.agg #[pv]] w fun e w' => ∃ (v : Value) (P' : List Bl), e = .returned (.agg #[v]) ∧ LikeP P' P ∧ w'.ownsRow w.heap.size 108 8 v P'.length (P'.flatMap Bl.cs) ∧ (∀ b ∈ P', w'.ownsRow w.heap.size 110 9 b.lv b.l.length (b.l.flatMap St.cs)) ∧ Below w.heap.size w w' := by
  obtain ⟨i0, hi, hz0, hz1, hz2⟩ := info_parts bl_info
  obtain ⟨b, off, p, cap, rfl, hp, hc⟩ := Pg.open h
  clear h
  go_enter Try.func55, Try.ntmps55
  go_wp2_with fail
  go_loopw [9] (fun i wr => ∃ (k : Nat) (v : Value) (P' : List Bl), k ≤ P.length ∧ i = .int .i64 k ∧ P'.length = k ∧ (∀ i (h1 : i < P'.length) (h2 : i < P.length), likeB (P'[i]'h1) (P[i]'h2)) ∧ Cl (w.heap.size + 1 + 1 + 1) (w.heap.size + 1 + 1) (w.heap.size + 1) P' wr v ∧ Below w.heap.size w wr ∧ w.heap.size + 1 + 1 + 1 ≤ wr.heap.size) (fun i _ => P.length - (intOf i).toNat)
  case atStart =>
    refine ⟨0, .slice none 0 0, [], Nat.zero_le _, rfl, rfl, fun i h1 => by simp at h1, ⟨?_, ?_, World.ownsRow_nil _ _ _ _, fun b hb => by simp at hb⟩, ((Below.refl _ _).alloc (Nat.le_refl _) _).alloc (by simp) _ |>.alloc (by simp; omega) _, by simp⟩
    · rw [show w.heap.size + 1 + 1 = ((w.alloc (Obj.cells #[Value.slice p P.length cap] 24)).alloc (Obj.cells #[Value.slice none 0 0] 24)).heap.size by simp]
      exact heap_alloc_new _ _
    · rw [heap_alloc_old _ _ (by simp), show w.heap.size + 1 = (w.alloc (Obj.cells #[Value.slice p P.length cap] 24)).heap.size by simp]
      exact heap_alloc_new _ _
  case round =>
    obtain ⟨k, v, P', hk, rfl, hlk, hlike, hC, hB, hws⟩ := hrel
    have hw := hB.size
    obtain ⟨vp, vc, rfl⟩ := own_len hC.own
    by_cases hlt : k < P.length
    · obtain rfl := hp (by omega)
      have hlt2 : (k : Int) < P.length := by omega
      have hcw : ∀ r u, ((P[k]'hlt).cs)[r]? = some u → w.cell? ⟨b, off + (k * 8 + r), none⟩ = some u := (hc k hlt).1
      have hsB := (hc k hlt).2
      have hlB := hl12 _ (List.getElem_mem hlt)
      have hnx : ∀ lv, ∀ i (h1 : i < (P' ++ [(⟨(P[k]'hlt).n, (P[k]'hlt).l, (P[k]'hlt).t, lv⟩ : Bl)]).length) (h2 : i < P.length), likeB ((P' ++ [(⟨(P[k]'hlt).n, (P[k]'hlt).l, (P[k]'hlt).t, lv⟩ : Bl)])[i]'h1) (P[i]'h2) := fun lv i h1 h2 => by
        by_cases hi : i < P'.length
        · rw [List.getElem_append_left hi]
          exact hlike i hi h2
        · have : i = k := by simp at h1; omega
          subst this
          rw [List.getElem_append_right (by omega)]
          simp [hlk, likeB]
      have hHN := And.intro True.intro hnx
      clear hc hlike hnx
      generalize P[k]'hlt = B at hcw hsB hlB hHN
      have hcr : ∀ r u, B.cs[r]? = some u → wr.cell? ⟨b, off + k * 8 + r, none⟩ = some u := fun r u hu => by
        rw [Nat.add_assoc]
        exact (hB.cell (p := ⟨b, off + (k * 8 + r), none⟩) (World.block_lt_of_cell? _ _ (hcw r u hu))).trans (hcw r u hu)
      obtain ⟨lb, loff, lp, lcap, hlv, _, _⟩ := hsB.open St.cs_len
      rw [hlv] at hsB
      have c0 : wr.cell? ⟨b, off + k * 8, none⟩ = some (.string B.n) := hcr 0 _ rfl
      have hbw := World.block_lt_of_cell? _ _ c0
      have c1 := hcr 1 _ rfl
      have c2 := hcr 2 _ rfl
      have c3 := hcr 3 _ rfl
      have c4 := hcr 4 _ rfl
      have c5 := hcr 5 _ rfl
      have c6 := hcr 6 _ rfl
      have c7 := hcr 7 _ rfl
      clear hcr hcw
      rw [hlv] at c1
      clear hlv
      have hBa : Below wr.heap.size wr (wr.alloc (.cells #[.string B.n, .slice lp B.l.length lcap, .int .i64 B.t.k, .string B.t.x.v, .int .i64 B.t.x.a, .int .i64 B.t.x.b, .string B.t.t, .string B.t.e] 108)) := (Below.refl _ _).alloc (Nat.le_refl _) _
      have hcl := clones_any B.l (by omega) _ _ (hsB.below (hB.trans (hBa.mono hw)))
      have hnb := heap_alloc_new wr (.cells #[.string B.n, .slice lp B.l.length lcap, .int .i64 B.t.k, .string B.t.x.v, .int .i64 B.t.x.a, .int .i64 B.t.x.b, .string B.t.t, .string B.t.e] 108)
      have hHF := And.intro True.intro (And.intro hcl hnb)
      clear hcl hnb hsB
      go_wp2_with (first | (go_at_call 101; refine hHF.2.1.mono ?_; rintro e W4 ⟨o, rfl, ho, hB4⟩; obtain ⟨op, oc, rfl⟩ := own_len ho; have hh4 := (hB4.block wr.heap.size (by simp)).trans hHF.2.2; have d0 := (cell_of_row W4 _ 0 _ _ (0, 0) hh4).trans (rfl : _ = some (Value.string B.n)); have d1 := (cell_of_row W4 _ 1 _ _ (0, 0) hh4).trans (rfl : _ = some (Value.slice lp B.l.length lcap)); have d2 := (cell_of_row W4 _ 2 _ _ (0, 0) hh4).trans (rfl : _ = some (Value.int .i64 B.t.k)); have d3 := (cell_of_row W4 _ 3 _ _ (0, 0) hh4).trans (rfl : _ = some (Value.string B.t.x.v)); have d4 := (cell_of_row W4 _ 4 _ _ (0, 0) hh4).trans (rfl : _ = some (Value.int .i64 B.t.x.a)); have d5 := (cell_of_row W4 _ 5 _ _ (0, 0) hh4).trans (rfl : _ = some (Value.int .i64 B.t.x.b)); have d6 := (cell_of_row W4 _ 6 _ _ (0, 0) hh4).trans (rfl : _ = some (Value.string B.t.t)); have d7 := (cell_of_row W4 _ 7 _ _ (0, 0) hh4).trans (rfl : _ = some (Value.string B.t.e)); have df := frozen_of_row W4 wr.heap.size 1 _ _ hh4; have dl := lt_of_block hh4; have bx4 := cell_of_one ((hB4.block (w.heap.size + 1 + 1) (by simp; omega)).trans ((heap_alloc_old wr _ (by omega)).trans hC.box)); have bl4 := World.block_lt_of_cell? _ _ bx4; have hB6 : Below wr.heap.size wr ((W4.setCell ⟨wr.heap.size, 1, none⟩ (.slice op B.l.length oc)).alloc (.cells #[.string B.n, .slice op B.l.length oc, .int .i64 B.t.k, .string B.t.x.v, .int .i64 B.t.x.a, .int .i64 B.t.x.b, .string B.t.t, .string B.t.e] 108)) := ((hBa.trans (hB4.mono (by simp))).setCell (p := ⟨wr.heap.size, 1, none⟩) (Nat.le_refl _) _).alloc (by simp [World.setCell]; omega) _; have hC6 := hC.below hB6; have hs6 : ((W4.setCell ⟨wr.heap.size, 1, none⟩ (.slice op B.l.length oc)).alloc (.cells #[.string B.n, .slice op B.l.length oc, .int .i64 B.t.k, .string B.t.x.v, .int .i64 B.t.x.a, .int .i64 B.t.x.b, .string B.t.t, .string B.t.e] 108)).ownsRow (w.heap.size + 1 + 1 + 1) 110 9 (.slice op B.l.length oc) B.l.length (B.l.flatMap St.cs) := (ownsRow_setCell_other (own_base (base' := w.heap.size + 1 + 1 + 1) ho (by simp; omega)) (own_not_lt (B := wr.heap.size) ho (by simp)) _).alloc _) | (at_builtin; refine wpList_append_own _ rfl _ _ 22 rfl (w.heap.size + 1 + 1 + 1) 108 i0 (.agg #[.string ⟨#[]⟩, .slice none 0 0, .int .i64 0, .string ⟨#[]⟩, .int .i64 0, .int .i64 0, .string ⟨#[]⟩, .string ⟨#[]⟩]) 8 112 Try.underlying22 hi hz0 hz1 hz2 rfl (by decide) _ P'.length (P'.flatMap Bl.cs) (by rw [hlk]; rfl) hC6.own _ 1 1 [.string B.n, .slice op B.l.length oc, .int .i64 B.t.k, .string B.t.x.v, .int .i64 B.t.x.a, .int .i64 B.t.x.b, .string B.t.t, .string B.t.e] rfl rfl (news_at (by simp [World.setCell])) (by intro u hu; simp at hu; rcases hu with rfl | rfl | rfl | rfl | rfl | rfl | rfl | rfl <;> rfl) (by unfold maxLen; omega) (by omega) (by simp [World.setCell]; omega) ?_; intro v2 w1 hown' hgrow _; obtain ⟨p9, c9, rfl⟩ := own_len hown'; have hS := Cl.step (b := ⟨B.n, B.l, B.t, .slice op B.l.length oc⟩) hC6 (by omega) (by omega) (by omega) hs6 hown' hgrow; have s1 := hS.2.1; have s2 := hS.2.2.1; have s3 := hS.2.2.2))
      have hlt6 := hC6.own.lt
      have hB7 : Below w.heap.size w w1 := Below.grown (w := _) (hB.trans (hB6.mono hw)) hgrow (by have := hB6.size; omega) (fun q hq => by have := (hlt6 q hq).1; omega)
      have hz7 := hgrow.size
      have hz6 := hB6.size
      go_roundw
      case rel => exact ⟨k + 1, _, P' ++ [⟨B.n, B.l, B.t, .slice op B.l.length oc⟩], by omega, by simp, by simp [hlk], hHN.2 _, (by first | exact hS.1 | (have h9 := hS.1; rw [hlk] at h9; exact h9)), hB7.setCell (p := ⟨w.heap.size + 1 + 1, 0, none⟩) (by show w.heap.size ≤ w.heap.size + 1 + 1; omega) _, by simp [World.setCell]; omega⟩
      case measure => simp [intOf]; omega
    · have hks : k = P.length := by omega
      subst hks
      have hlt2 : ¬ (P.length : Int) < P.length := by omega
      have r1 := cell_of_one hC.res
      have r2 := free_of_one hC.res
      have r3 := lt_of_block hC.res
      have b1 := cell_of_one hC.box
      have hfin : (wr.setCell ⟨w.heap.size + 1, 0, none⟩ (.slice vp P'.length vc)).ownsRow w.heap.size 108 8 (.slice vp P'.length vc) P'.length (P'.flatMap Bl.cs) := own_base (ownsRow_setCell_other hC.own (own_not_lt (B := w.heap.size + 1) hC.own (by omega)) _) (by omega)
      have hfs : ∀ b ∈ P', (wr.setCell ⟨w.heap.size + 1, 0, none⟩ (.slice vp P'.length vc)).ownsRow w.heap.size 110 9 b.lv b.l.length (b.l.flatMap St.cs) := fun b hb => own_base (ownsRow_setCell_other (hC.sts b hb) (own_not_lt (B := w.heap.size + 1) (hC.sts b hb) (by omega)) _) (by omega)
      have hLP : Hid (LikeP P' P) := ⟨hlk, hlike⟩
      have hfin1 : Hid ((wr.setCell ⟨w.heap.size + 1, 0, none⟩ (.slice vp P'.length vc)).ownsRow w.heap.size 108 8 (.slice vp P'.length vc) P'.length (P'.flatMap Bl.cs)) := hfin
      have hfs1 : Hid (∀ b ∈ P', (wr.setCell ⟨w.heap.size + 1, 0, none⟩ (.slice vp P'.length vc)).ownsRow w.heap.size 110 9 b.lv b.l.length (b.l.flatMap St.cs)) := hfs
      have hlk1 : Hid (P'.length = P.length) := hlk
      clear hc hlike hfin hfs
      rw [hlk] at b1
      clear hlk
      go_wp2_with fail
      refine bodyPost_ret (v := .agg #[.slice vp P.length vc]) (by simp only [results, Try.results55]; go_simp) rfl ⟨.slice vp P.length vc, rfl, P', hLP, ?_, ?_, ?_⟩
      · have h9 : _ := hfin1
        rw [hlk1] at h9 ⊢
        exact h9
      · have h9 : _ := hfs1
        rw [hlk1] at h9
        exact h9
      · exact hB.setCell (p := ⟨w.heap.size + 1, 0, none⟩) (by show w.heap.size ≤ w.heap.size + 1; omega) _

end Go.Proofs.Ytekpkhgpjpgcbaa.Pr

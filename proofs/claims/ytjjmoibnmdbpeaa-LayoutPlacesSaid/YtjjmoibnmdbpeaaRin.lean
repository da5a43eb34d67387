/- A REGION THAT DRAWS ITS ORDER, by an invariant: each operation once, whatever stood before it; no order is gone through. -/
import Derived.Test.YtjjmoibnmdbpeaaAfter
import Derived.Deep.RegionHeldLaw
namespace Go.Proofs.Ytjjmoibnmdbpeaa
set_option linter.unusedVariables false
set_option linter.unusedSimpArgs false
open Go Go.RowKit

section
variable {P : Program} {ops : Array Oper} {Q : Exit → Act → World → Prop} {md : Region.Mode}

theorem all_listed (hdag : ∀ (i : Nat) (o : Oper), ops[i]? = some o → ∀ e ∈ o.after, Region.binds md e = true → e.on < i) {listed : Array Bool} (hs : listed.size = ops.size)
    (hr : Region.ready md ops listed = []) : ∀ n i, i < n → i < ops.size → listed.getD i false = true
  | 0, i, h, _ => by omega
  | n + 1, i, h, hi => by
    cases hd : listed.getD i false with
    | true => rfl
    | false =>
      exfalso
      have hm : i ∈ Region.ready md ops listed := by
        refine mem_ready.2 ⟨?_, ops[i]'hi, Array.getElem?_eq_getElem hi, fun e he hb => ?_⟩
        · rw [Array.getD_eq_getD_getElem?, Array.getElem?_eq_getElem (by omega)] at hd ⊢
          simpa using hd
        · have := hdag i _ (Array.getElem?_eq_getElem hi) e he hb
          exact all_listed hdag hs hr n e.on (by omega) (by omega)
      rw [hr] at hm
      cases hm

theorem wpAny_inv (I : (Nat → Bool) → Act → World → Prop)
    (hdag : ∀ (i : Nat) (o : Oper), ops[i]? = some o → ∀ e ∈ o.after, Region.binds md e = true → e.on < i)
    (hstep : ∀ (i : Nat) (o : Oper), ops[i]? = some o → ∀ (D : Nat → Bool) (a : Act) (w : World), D i = false → (∀ e ∈ o.after, Region.binds md e = true → D e.on = true) → I D a w →
      ∀ K : Act → World → Prop, (∀ a' w', I (fun j => j == i || D j) a' w' → K a' w') → if Region.wanted o (yielded ops a.tmps) = true then Oper.wp P o a w K Q else K (a.put o.dst undef) w)
    (hend : ∀ (D : Nat → Bool) (a : Act) (w : World), (∀ i, i < ops.size → D i = true) → I D a w → Q .normal a w) :
    ∀ (fuel : Nat) (listed : Array Bool) (a : Act) (w : World), listed.size = ops.size → ops.size ≤ fuel + listed.toList.countP id → I (fun j => listed.getD j false) a w → wpAny P md ops Q fuel listed a w := by
  intro fuel
  induction fuel with
  | zero =>
    intro listed a w hs hc hI
    have hall : ∀ i, i < ops.size → listed.getD i false = true := fun i hi => by
      have hle : listed.toList.countP id = listed.toList.length := by
        have := List.countP_le_length (p := id) (l := listed.toList)
        rw [Array.length_toList] at *
        omega
      have := (List.countP_eq_length.1 hle) (listed[i]'(by omega)) (by simp)
      rw [Array.getD_eq_getD_getElem?, Array.getElem?_eq_getElem (by omega)]
      exact this
    refine ⟨?_, hend _ a w hall hI⟩
    cases hr : Region.ready md ops listed with
    | nil => rfl
    | cons i l =>
      exfalso
      have hm : i ∈ Region.ready md ops listed := by rw [hr]; simp
      obtain ⟨h1, o, ho, _⟩ := mem_ready.1 hm
      have hi : i < ops.size := (Array.getElem?_eq_some_iff.1 ho).1
      have h2 := hall i hi
      rw [Array.getD_eq_getD_getElem?, Array.getElem?_eq_getElem (by omega)] at h1 h2
      simp only [Option.getD_some] at h1 h2
      rw [h1] at h2; cases h2
  | succ fuel ih =>
    intro listed a w hs hc hI
    refine ⟨fun hr => hend _ a w (fun i hi => all_listed hdag hs hr _ i hi hi) hI, fun i hi => ?_⟩
    obtain ⟨h1, o, ho, hdep⟩ := mem_ready.1 hi
    have hi' : i < ops.size := (Array.getElem?_eq_some_iff.1 ho).1
    have h1' : listed[i]'(by omega) = false := by
      rw [Array.getD_eq_getD_getElem?, Array.getElem?_eq_getElem (by omega)] at h1
      simpa using h1
    have hD : listed.getD i false = false := by rw [Array.getD_eq_getD_getElem?, Array.getElem?_eq_getElem (by omega)]; simpa using h1'
    have hfun : (fun j => (listed.setIfInBounds i true).getD j false) = fun j => j == i || listed.getD j false := by
      funext j
      rw [Array.getD_eq_getD_getElem?, Array.getD_eq_getD_getElem?, Array.getElem?_setIfInBounds]
      by_cases hij : i = j
      · subst hij
        rw [if_pos rfl, if_pos (by omega)]; simp
      · rw [if_neg hij]
        have : (j == i) = false := by simpa using fun h => hij h.symm
        rw [this]; rfl
    have hcount : (listed.setIfInBounds i true).toList.countP id = listed.toList.countP id + 1 := by
      rw [Array.toList_setIfInBounds, List.countP_set (by rw [Array.length_toList]; omega)]
      simp [h1']
    have hnext : ∀ a' w', I (fun j => j == i || listed.getD j false) a' w' → wpAny P md ops Q fuel (listed.setIfInBounds i true) a' w' := fun a' w' hI' => by
      refine ih _ a' w' (by rw [Array.size_setIfInBounds]; exact hs) (by rw [hcount]; omega) ?_
      rw [hfun]; exact hI'
    have h := hstep i o ho (fun j => listed.getD j false) a w hD (fun e he hb => hdep e he hb) hI _ hnext
    unfold wpOp
    simp only [ho]
    split
    · rename_i hw
      rw [if_pos hw] at h
      exact .inl h
    · rename_i hw
      rw [if_neg hw] at h
      exact h

/-- **The law.** -/
theorem wp_region_inv {id : Nat} {a : Act} {w : World} (hm : P.follows .mixedOrders = true) (I : (Nat → Bool) → Act → World → Prop)
    (hdag : ∀ (i : Nat) (o : Oper), ops[i]? = some o → ∀ e ∈ o.after, Region.binds .any e = true → e.on < i)
    (hstep : ∀ (i : Nat) (o : Oper), ops[i]? = some o → ∀ (D : Nat → Bool) (a : Act) (w : World), D i = false → (∀ e ∈ o.after, Region.binds .any e = true → D e.on = true) → I D a w →
      ∀ K : Act → World → Prop, (∀ a' w', I (fun j => j == i || D j) a' w' → K a' w') → if Region.wanted o (yielded ops a.tmps) = true then Oper.wp P o a w K Q else K (a.put o.dst undef) w)
    (hend : ∀ (D : Nat → Bool) (a : Act) (w : World), (∀ i, i < ops.size → D i = true) → I D a w → Q .normal a w) (h0 : I (fun _ => false) a w.drew) : (Code.region id ops true).wp P Q a w := by
  refine wp_region_any hm (wpAny_inv I hdag hstep hend _ _ a _ (by simp) (by simp) ?_)
  have e : (fun j => (Array.replicate ops.size false).getD j false) = fun _ => false := by
    funext j
    rw [Array.getD_eq_getD_getElem?, Array.getElem?_replicate]
    split <;> rfl
  rw [e]
  exact h0
end

/-- Each operation of a list. -/
def Steps (S : Nat → Oper → Prop) : Nat → List Oper → Prop
  | _, [] => True
  | n, o :: l => S n o ∧ Steps S (n + 1) l
theorem Steps.get {S : Nat → Oper → Prop} : ∀ {l : List Oper} {n : Nat}, Steps S n l → ∀ (i : Nat) (o : Oper), l[i]? = some o → S (n + i) o
  | [], n, _, i, o, h => by simp at h
  | x :: l, n, hs, 0, o, h => by simp at h; subst h; exact hs.1
  | x :: l, n, hs, i + 1, o, h => by
    have := hs.2.get i o (by simpa using h)
    rw [show n + (i + 1) = n + 1 + i by omega]
    exact this
theorem Steps.all {S : Nat → Oper → Prop} {l : List Oper} (h : Steps S 0 l) : ∀ (i : Nat) (o : Oper), l.toArray[i]? = some o → S i o := fun i o ho => by
  have := h.get i o (by simpa using ho)
  rwa [Nat.zero_add] at this

/-! Slots. -/
structure Slot (a : Act) (s : Nat) (v : Value) : Prop where
  lt : s < a.tmps.size
  ev : a.eval (.tmp s) = v
theorem Slot.same {a : Act} {s : Nat} {v : Value} (h : s < a.tmps.size) : Slot (a.put (some s) v) s v := by
  refine ⟨by simpa [Act.put] using h, ?_⟩
  show (a.tmps.setIfInBounds s v).getD s undef = v
  rw [Array.getD_eq_getD_getElem?, Array.getElem?_setIfInBounds, if_pos rfl, if_pos h]; rfl
theorem Slot.other {a : Act} {s d : Nat} {v u : Value} (h : Slot a s v) (hd : d ≠ s) : Slot (a.put (some d) u) s v := by
  refine ⟨by simpa [Act.put] using h.lt, ?_⟩
  show (a.tmps.setIfInBounds d u).getD s undef = v
  rw [Array.getD_eq_getD_getElem?, Array.getElem?_setIfInBounds, if_neg hd]
  have : a.tmps.getD s undef = v := h.ev
  rwa [Array.getD_eq_getD_getElem?] at this
theorem Slot.none {a : Act} {s : Nat} {v u : Value} (h : Slot a s v) : Slot (a.put Option.none u) s v := h

/-- A state, but for some slots. -/
def putAll (ds : List Nat) (u : Nat → Value) (a : Act) : Act := ds.foldl (fun a d => a.put (some d) (u d)) a
/-- The law, where the state is a written frame but for the slots that the region writes. -/
theorem wp_region_frames {P : Program} {ops : Array Oper} {Q : Exit → Act → World → Prop} {id : Nat} {a : Act} {w : World} (hm : P.follows .mixedOrders = true) (ds : List Nat) (J : (Nat → Bool) → (Nat → Value) → World → Prop)
    (hdag : ∀ (i : Nat) (o : Oper), ops[i]? = some o → ∀ e ∈ o.after, Region.binds .any e = true → e.on < i) (u0 : Nat → Value) (hu0 : a = putAll ds u0 a) (h0 : J (fun _ => false) u0 w.drew)
    (h : ∀ fr : (Nat → Value) → Act, (∀ u, fr u = putAll ds u a) →
      (∀ (i : Nat) (o : Oper), ops[i]? = some o → ∀ (D : Nat → Bool) (u : Nat → Value) (w : World), D i = false → (∀ e ∈ o.after, Region.binds .any e = true → D e.on = true) → J D u w →
        ∀ K : Act → World → Prop, (∀ u' w', J (fun j => j == i || D j) u' w' → K (fr u') w') → if Region.wanted o (yielded ops (fr u).tmps) = true then Oper.wp P o (fr u) w K Q else K ((fr u).put o.dst undef) w) ∧
      (∀ (D : Nat → Bool) (u : Nat → Value) (w : World), (∀ i, i < ops.size → D i = true) → J D u w → Q .normal (fr u) w)) : (Code.region id ops true).wp P Q a w := by
  obtain ⟨h1, h2⟩ := h (fun u => putAll ds u a) (fun _ => rfl)
  refine wp_region_inv hm (fun D b w => ∃ u, b = putAll ds u a ∧ J D u w) hdag ?_ ?_ ⟨u0, hu0, h0⟩
  · rintro i o ho D b w hD hdep ⟨u, rfl, hJ⟩ K hK
    exact h1 i o ho D u w hD hdep hJ K fun u' w' hJ' => hK _ _ ⟨u', rfl, hJ'⟩
  · rintro D b w hall ⟨u, rfl, hJ⟩
    exact h2 D u w hall hJ

theorem step_val {P : Program} {ops : Array Oper} {o : Oper} {a : Act} {w w' : World} {K : Act → World → Prop} {Q : Exit → Act → World → Prop} {E : Prop} (hgd : o.guard = none) (v : Value)
    (hop : (execOp a.eval o).run P w = .ok (.value v) w') (hk : K (a.put o.dst v) w') : if Region.wanted o (yielded ops a.tmps) = true then Oper.wp P o a w K Q else E := by
  have hw : Region.wanted o (yielded ops a.tmps) = true := by simp [Region.wanted, hgd]
  rw [if_pos hw]
  unfold Oper.wp
  rw [hop]
  exact hk
theorem step_none {P : Program} {ops : Array Oper} {o : Oper} {a : Act} {w w' : World} {K : Act → World → Prop} {Q : Exit → Act → World → Prop} {E : Prop} (hgd : o.guard = none)
    (hop : (execOp a.eval o).run P w = .ok .skip w') (hk : K (a.put o.dst undef) w') : if Region.wanted o (yielded ops a.tmps) = true then Oper.wp P o a w K Q else E := by
  have hw : Region.wanted o (yielded ops a.tmps) = true := by simp [Region.wanted, hgd]
  rw [if_pos hw]
  unfold Oper.wp
  rw [hop]
  exact hk

/-- A box that was made in the region. -/
def Bx (V w : World) (p : Value) (t : TypeId) (cs : Array Value) : Prop := ∃ b, p = .pointer (some ⟨b, 0, none⟩) ∧ V.heap.size ≤ b ∧ w.heap[b]? = some (.cells cs t (0, 0))
theorem Bx.below {V w w' : World} {p : Value} {t : TypeId} {cs : Array Value} (h : Bx V w p t cs) (hB : Below w.heap.size w w') : Bx V w' p t cs := by
  obtain ⟨b, h1, h2, h3⟩ := h
  exact ⟨b, h1, h2, (hB.block b (Array.getElem?_eq_some_iff.1 h3).1).trans h3⟩

end Go.Proofs.Ytjjmoibnmdbpeaa

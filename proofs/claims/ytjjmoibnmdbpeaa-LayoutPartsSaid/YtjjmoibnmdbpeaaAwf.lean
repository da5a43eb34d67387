/- soughlaw04.awake: it answers true. -/
import Derived.Test.YtjjmoibnmdbpeaaChkh
import Derived.Test.YtjjmoibnmdbpeaaLit
namespace Go.Proofs.Ytjjmoibnmdbpeaa.Pr
set_option linter.unusedVariables false
set_option linter.unusedSimpArgs false
open Go Go.RowKit

theorem nameB_a : Tk.nameB ⟨#[97]⟩ = true := by
  have h : Tk.runTo Tk.alnumB ⟨#[97]⟩ 0 = 1 := by rw [Tk.runTo_go (by decide) (by decide), Tk.runTo_stop (fun h => absurd h (by decide))]
  rw [Tk.nameB, h]; decide +kernel

def P1 : List Bl := [⟨⟨#[97]⟩, [], ⟨3, (⟨⟨#[]⟩, 0, 0⟩ : At), ⟨#[]⟩, ⟨#[]⟩⟩, .slice none 0 0⟩]
theorem P1_pg (W : World) (sb : Nat) (hsb : sb = W.heap.size) : Pg (W.alloc (.cells #[.string ⟨#[97]⟩, .slice none 0 0, .int .i64 3, .string ⟨#[]⟩, .int .i64 0, .int .i64 0, .string ⟨#[]⟩, .string ⟨#[]⟩] 91)) (.slice (some ⟨sb, 0, none⟩) 1 1) P1 := by
  subst hsb
  refine ⟨Sl.lit P1 rfl rfl (heap_alloc_new W _), fun b hb => ?_⟩
  have : b = ⟨⟨#[97]⟩, [], ⟨3, (⟨⟨#[]⟩, 0, 0⟩ : At), ⟨#[]⟩, ⟨#[]⟩⟩, .slice none 0 0⟩ := by simpa [P1] using hb
  subst this
  exact Sl.nil
theorem P1_check : checkOf P1 = 0 := by
  refine check_0 (by decide) (by decide) (by decide) ?_ (by show ¬ 64 < (putS [] ⟨#[]⟩).length; decide +kernel) (fun k hk => ?_) (fun k hk => ?_)
  · show (blockB _ && true) = true
    unfold blockB
    show ((Tk.nameB ⟨#[97]⟩ && _ && _) && true) = true
    rw [nameB_a]
    decide +kernel
  · have : k = 0 := by simp [P1] at hk; exact hk
    subst this
    rfl
  · have : k = 0 := by simp [P1] at hk; exact hk
    subst this
    rfl

/-- The same, guarded. -/
theorem step_callBG {P : Program} {ops : Array Oper} {o : Oper} {a : Act} {w : World} {K : Act → World → Prop} {Q : Exit → Act → World → Prop} {E : Prop} (hgd : Region.wanted o (yielded ops a.tmps) = true) (f : FuncId) (vs : Array Value) (v : Value)
    (hop : (execOp a.eval o).run P w = .ok (.enter f vs) w)
    (h : Calls P f vs w fun e w' => e = .returned v ∧ Below w.heap.size w w') (hk : ∀ w', Below w.heap.size w w' → K (a.put o.dst v) w') :
    if Region.wanted o (yielded ops a.tmps) = true then Oper.wp P o a w K Q else E := by
  rw [if_pos hgd]
  unfold Oper.wp
  rw [hop, Oper.upon_enter]
  exact h.mono fun e w' ⟨he, hb⟩ => by subst he; exact hk w' hb
theorem step_callSG {P : Program} {ops : Array Oper} {o : Oper} {a : Act} {w : World} {K : Act → World → Prop} {Q : Exit → Act → World → Prop} {E : Prop} (hgd : Region.wanted o (yielded ops a.tmps) = true) (f : FuncId) (vs : Array Value) (S : Value → World → Prop)
    (hop : (execOp a.eval o).run P w = .ok (.enter f vs) w)
    (h : Calls P f vs w fun e w' => ∃ v, e = .returned v ∧ S v w' ∧ Below w.heap.size w w') (hk : ∀ v w', S v w' → Below w.heap.size w w' → K (a.put o.dst v) w') :
    if Region.wanted o (yielded ops a.tmps) = true then Oper.wp P o a w K Q else E := by
  rw [if_pos hgd]
  unfold Oper.wp
  rw [hop, Oper.upon_enter]
  exact h.mono fun e w' ⟨v, he, hs, hb⟩ => by subst he; exact hk v w' hs hb

theorem below_next {w W q : World} (hq : Below W.heap.size W q) (h : Below w.heap.size w W) : Below w.heap.size w q := h.trans (hq.mono h.size)
theorem box_next {W q : World} {a : Addr} {v : Value} (hq : Below W.heap.size W q) (h : W.cell? a = some v) : q.cell? a = some v := (hq.cell (p := a) (World.block_lt_of_cell? _ _ h)).trans h

end Go.Proofs.Ytjjmoibnmdbpeaa.Pr

/- WALK of soughref04.Vars. -/
import Derived.Test.YtmnplnhblniimaaTabc
import Derived.Deep.RegionLaw
namespace Go.Proofs.Ytmnplnhblniimaa.Pr
set_option linter.unusedVariables false
set_option linter.unusedSimpArgs false
open Go Go.RowKit

theorem Pg.open {w : World} {v : Value} {P : List Bl} (h : Pg w v P) :
    ∃ (b off : Nat) (p : Option Addr) (cap : Nat), v = .slice p P.length cap ∧ (0 < P.length → p = some ⟨b, off, none⟩) ∧
      ∀ (i : Nat) (hi : i < P.length), (∀ (r : Nat) (u : Value), ((P[i]'hi).cs)[r]? = some u → w.cell? ⟨b, off + (i * 8 + r), none⟩ = some u) ∧ Sl w (P[i]'hi).lv St.cs (P[i]'hi).l := by
  obtain ⟨b, off, p, cap, hv, hp, hc⟩ := h.1.open Bl.cs_len
  exact ⟨b, off, p, cap, hv, hp, fun i hi => ⟨hc i hi, h.2 _ (List.getElem_mem hi)⟩⟩

/-- A call whose answer is told by what it is good for, as one step of a region that draws its order. -/
theorem step_callS {P : Program} {ops : Array Oper} {o : Oper} {a : Act} {w : World} {K : Act → World → Prop} {Q : Exit → Act → World → Prop} {E : Prop} (hgd : o.guard = none) (f : FuncId) (vs : Array Value) (S : Value → World → Prop)
    (hop : (execOp a.eval o).run P w = .ok (.enter f vs) w)
    (h : Calls P f vs w fun e w' => ∃ v, e = .returned v ∧ S v w' ∧ Below w.heap.size w w') (hk : ∀ v w', S v w' → Below w.heap.size w w' → K (a.put o.dst v) w') :
    if Region.wanted o (yielded ops a.tmps) = true then Oper.wp P o a w K Q else E := by
  have hw : Region.wanted o (yielded ops a.tmps) = true := by simp [Region.wanted, hgd]
  rw [if_pos hw]
  unfold Oper.wp
  rw [hop, Oper.upon_enter]
  exact h.mono fun e w' ⟨v, he, hs, hb⟩ => by subst he; exact hk v w' hs hb

end Go.Proofs.Ytmnplnhblniimaa.Pr

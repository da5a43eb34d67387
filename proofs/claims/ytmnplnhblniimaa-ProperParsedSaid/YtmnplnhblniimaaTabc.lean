/- WALK of soughref04.put. -/
import Derived.Test.YtmnplnhblniimaaTabb
import Derived.Test.YtmnplnhblniimaaOwn
import Derived.LoopTactic
namespace Go.Proofs.Ytmnplnhblniimaa.Pr
set_option linter.unusedVariables false
set_option linter.unusedSimpArgs false
open Go Go.RowKit

def encS (s : ByteArray) : List Value := [.string s]
theorem encS_len (s : ByteArray) : (encS s).length = 1 := rfl
theorem s_info : (Try.prog.info? 9).map (fun i => (i.zero, i.size, i.bytes)) = some (some (.string ⟨#[]⟩), 1, 16) := by kernel_rfl
theorem info_parts {t : TypeId} {z : Value} {s b : Nat} (h : (Try.prog.info? t).map (fun i => (i.zero, i.size, i.bytes)) = some (some z, s, b)) : ∃ i, Try.prog.info? t = some i ∧ i.zero = some z ∧ i.size = s ∧ i.bytes = b := by
  cases hi : Try.prog.info? t with
  | none => rw [hi] at h; cases h
  | some i =>
    rw [hi] at h
    simp only [Option.map_some, Option.some.injEq, Prod.mk.injEq] at h
    exact ⟨i, rfl, h.1, h.2.1, h.2.2⟩
def intOf : Value → Int | .int _ q => q | _ => 0

theorem Sl.strs {w : World} {v : Value} {L : List ByteArray} (h : Sl w v encS L) :
    ∃ (b off : Nat) (p : Option Addr) (cap : Nat), v = .slice p L.length cap ∧ (0 < L.length → p = some ⟨b, off, none⟩) ∧
      ∀ (i : Nat) (hi : i < L.length), w.cell? ⟨b, off + i, none⟩ = some (.string (L[i]'hi)) := by
  obtain ⟨b, off, p, cap, hv, hp, hc⟩ := h.open encS_len
  exact ⟨b, off, p, cap, hv, hp, fun i hi => by have := hc i hi 0 _ rfl; simpa using this⟩

theorem flat_snoc (X : List ByteArray) (s : ByteArray) : (X ++ [s]).flatMap encS = X.flatMap encS ++ [.string s] := by rw [List.flatMap_append]; rfl

theorem own_snocS {w : World} {base : Nat} {v : Value} {X : List ByteArray} {s : ByteArray} (h : w.ownsRow base 9 1 v (X.length + 1) (X.flatMap encS ++ [.string s])) : w.ownsRow base 9 1 v (X ++ [s]).length ((X ++ [s]).flatMap encS) := by
  rw [flat_snoc, List.length_append]
  exact h

end Go.Proofs.Ytmnplnhblniimaa.Pr

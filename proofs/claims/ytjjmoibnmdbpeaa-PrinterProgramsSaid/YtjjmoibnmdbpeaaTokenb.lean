/- Both packages' loops over a text's bytes: number, run. -/
import Derived.Test.YtjjmoibnmdbpeaaToken
import Derived.LoopTactic
namespace Go.Proofs.Ytjjmoibnmdbpeaa.Tk
set_option linter.unusedVariables false
set_option linter.unusedSimpArgs false
open Go Go.RowKit

@[go_sem] theorem byt_get (s : ByteArray) (i : Nat) (h : i < s.size) : ((s[i]'h).toNat : Int) = byt s i := by
  unfold byt
  congr 2
  obtain ⟨⟨s⟩⟩ := s
  have h' : i < s.length := h
  simp only [ByteArray.get!]
  show s[i] = _
  simp [Array.getElem!_eq_getD, Array.getD_eq_getD_getElem?, h']

def intOf : Value → Int | .int _ q => q | _ => 0

def numV (s : ByteArray) : Int := if num s > 32768 then 0 else num s
def numOk (s : ByteArray) : Bool := !decide (num s > 32768)

theorem num_over {s : ByteArray} (hd : digits s) {k : Nat} {m : Int} (hk : k < s.size) (h : 32768 < 10 * m + (byt s k - 48)) (hn : numAt s k m = num s) : numV s = 0 ∧ numOk s = false := by
  have e : min (10 * m + byt s k - 48) 32769 = 32769 := by omega
  rw [numAt_go hk, e, numAt_top hd] at hn
  simp [numV, numOk, ← hn]

end Go.Proofs.Ytjjmoibnmdbpeaa.Tk

/- WALKS of package gauss and of its reference soughref01, third part: texts. -/
import Derived.Test.YtaaklejkngpddaaGaussb
import Derived.Deep.RegionWith
import Derived.Lib.SlBytesConst
namespace Go.Proofs.Ytaaklejkngpddaa
set_option linter.unusedVariables false
set_option linter.unusedSimpArgs false
open Go.RowKit Flo

def digN (n : Nat) : List UInt8 := if h : n < 10 then [UInt8.ofNat (48 + n)] else digN (n / 10) ++ [UInt8.ofNat (48 + n % 10)]
termination_by n
decreasing_by omega

theorem digN_len (n : Nat) : (digN n).length ≤ n + 1 := by
  induction n using Nat.strongRecOn with
  | _ n ih =>
    rw [digN]
    split
    · simp
    · have := ih (n / 10) (by omega)
      simp; omega

theorem digN_big (n : Nat) (hn : 10 ≤ n) : (⟨(digN (n / 10)).toArray⟩ : ByteArray) ++ ⟨#[48 + UInt8.ofNat (n % 10)]⟩ = ⟨(digN n).toArray⟩ := by
  rw [digN.eq_def n, dif_neg (by omega), ByteArray.mk_append_mk, UInt8.ofNat_add]; simp

theorem ret_str {a b : ByteArray} (h : a = b) : Ending.returned (.string a) = .returned (.string b) := by rw [h]

/-- A number's digits, with the sign. -/
def digs (n : Int) : List UInt8 := if n < 0 then 45 :: digN n.natAbs else digN n.natAbs

theorem digs_len (n : Int) (h1 : -32768 ≤ n) (h2 : n ≤ 32767) : (digs n).length ≤ 32770 := by
  unfold digs
  have := digN_len n.natAbs
  split <;> simp <;> omega

theorem dash_append (l : List UInt8) : (⟨#[45]⟩ : ByteArray) ++ ⟨l.toArray⟩ = ⟨(45 :: l).toArray⟩ := by
  have := ByteArray.mk_append_mk [45] l
  simpa using this

end Go.Proofs.Ytaaklejkngpddaa

/- WALKS of package constant and of its reference soughref11, third part: the reference's Join, Below, Rank, Text, least. -/
import Derived.Test.YtjjmoibnmdbpeaaConstb
namespace Go.Proofs.Ytjjmoibnmdbpeaa
set_option linter.unusedVariables false
set_option linter.unusedSimpArgs false
open Go.RowKit Flo

theorem joinN_left {x y : Int} (c3 : x = 0) : joinN x y = y := by
  unfold joinN
  by_cases q : x = y
  · rw [if_pos q]; exact q
  · rw [if_neg q]
    by_cases q2 : y = 0
    · rw [if_pos q2]; omega
    · rw [if_neg q2, if_pos c3]

/-- How little is known. -/
def rankN (x : Int) : Int := if x = 0 then 0 else if x = 1 then 2 else 1

/-- What is known, as a text. -/
def textW (n : Int) : List UInt8 := if isN n then textN (numA n) (numB n) else if n = 0 then [33] else [63]

end Go.Proofs.Ytjjmoibnmdbpeaa

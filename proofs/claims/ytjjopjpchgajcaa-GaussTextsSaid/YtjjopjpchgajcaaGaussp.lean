/- PLAIN LAWS of the numbers whose parts go round: what the walks' answers have to do with one another. -/
import Derived.Test.YtjjopjpchgajcaaGaussd
namespace Go.Proofs.Ytjjopjpchgajcaa
set_option linter.unusedVariables false

/-- Alike modulo 2^16. -/
def Cg (x y : Int) : Prop := ∃ k : Int, x = y + 65536 * k

theorem Cg.refl (x : Int) : Cg x x := ⟨0, by omega⟩
theorem Cg.of_eq {x y : Int} (h : x = y) : Cg x y := h ▸ Cg.refl x
theorem Cg.symm {x y : Int} : Cg x y → Cg y x := fun ⟨k, h⟩ => ⟨-k, by omega⟩
theorem Cg.trans {x y z : Int} : Cg x y → Cg y z → Cg x z := fun ⟨k, h⟩ ⟨j, g⟩ => ⟨k + j, by omega⟩
theorem Cg.add {x y u v : Int} : Cg x y → Cg u v → Cg (x + u) (y + v) := fun ⟨k, h⟩ ⟨j, g⟩ => ⟨k + j, by omega⟩
theorem Cg.sub {x y u v : Int} : Cg x y → Cg u v → Cg (x - u) (y - v) := fun ⟨k, h⟩ ⟨j, g⟩ => ⟨k - j, by omega⟩
theorem Cg.neg {x y : Int} : Cg x y → Cg (-x) (-y) := fun ⟨k, h⟩ => ⟨-k, by omega⟩
theorem Cg.mul {x y u v : Int} : Cg x y → Cg u v → Cg (x * u) (y * v) := fun ⟨k, h⟩ ⟨j, g⟩ => ⟨y * j + v * k + 65536 * (k * j), by subst h; subst g; grind⟩
theorem Cg.wr (x : Int) : Cg (wr x) x := ⟨-((x + 32768) / 65536), by unfold Go.Proofs.Ytjjopjpchgajcaa.wr; omega⟩
theorem wr_of {x y : Int} (h : Cg x y) : wr x = wr y := by
  obtain ⟨k, rfl⟩ := h
  unfold wr
  omega
theorem wr_iff {x y : Int} : wr x = wr y ↔ Cg x y := ⟨fun h => (Cg.wr x).symm.trans (h ▸ Cg.wr y), wr_of⟩

theorem cg_add (a b : Int) : Cg (addR a b) (a + b) := (Cg.wr _).trans ((Cg.wr a).add (Cg.wr b))
theorem cg_sub (a b : Int) : Cg (subR a b) (a - b) := (Cg.wr _).trans ((Cg.wr a).sub (Cg.wr b))
theorem cg_neg (a : Int) : Cg (negR a) (-a) := (Cg.wr _).trans (Cg.wr a).neg
theorem cg_re (a b c d : Int) : Cg (mulRe a b c d) (a * c - b * d) := (Cg.wr _).trans (((Cg.wr a).mul (Cg.wr c)).sub ((Cg.wr b).mul (Cg.wr d)))
theorem cg_im (a b c d : Int) : Cg (mulIm a b c d) (a * d + b * c) := (Cg.wr _).trans (((Cg.wr a).mul (Cg.wr d)).add ((Cg.wr b).mul (Cg.wr c)))

/-- Two numbers that are wrapped are the same if they are alike. -/
theorem wr_addR (a b : Int) : wr (addR a b) = addR a b := wr_wr _
theorem wr_subR (a b : Int) : wr (subR a b) = subR a b := wr_wr _
theorem wr_negR (a : Int) : wr (negR a) = negR a := wr_wr _
theorem wr_mulRe (a b c d : Int) : wr (mulRe a b c d) = mulRe a b c d := wr_wr _
theorem wr_mulIm (a b c d : Int) : wr (mulIm a b c d) = mulIm a b c d := wr_wr _

theorem same_of {x y : Int} (hx : wr x = x) (hy : wr y = y) (h : Cg x y) : (x == y) = true := by
  have := wr_of h
  rw [hx, hy] at this
  simp [this]

section
variable (a1 a2 b1 b2 c1 c2 : Int)
theorem add_comm_b (a b : Int) : (addR a b == addR b a) = true := same_of (wr_addR _ _) (wr_addR _ _) ((cg_add _ _).trans ((Cg.of_eq (by grind)).trans (cg_add _ _).symm))
theorem add_assoc_b (a b c : Int) : (addR (addR a b) c == addR a (addR b c)) = true :=
  same_of (wr_addR _ _) (wr_addR _ _) ((cg_add _ _).trans (((cg_add a b).add (Cg.refl c)).trans ((Cg.of_eq (by grind)).trans (((Cg.refl a).add (cg_add b c).symm).trans (cg_add _ _).symm))))
theorem re_comm_b : (mulRe a1 a2 b1 b2 == mulRe b1 b2 a1 a2) = true := same_of (wr_mulRe ..) (wr_mulRe ..) ((cg_re ..).trans ((Cg.of_eq (by grind)).trans (cg_re ..).symm))
theorem im_comm_b : (mulIm a1 a2 b1 b2 == mulIm b1 b2 a1 a2) = true := same_of (wr_mulIm ..) (wr_mulIm ..) ((cg_im ..).trans ((Cg.of_eq (by grind)).trans (cg_im ..).symm))
theorem re_assoc_b : (mulRe (mulRe a1 a2 b1 b2) (mulIm a1 a2 b1 b2) c1 c2 == mulRe a1 a2 (mulRe b1 b2 c1 c2) (mulIm b1 b2 c1 c2)) = true :=
  same_of (wr_mulRe ..) (wr_mulRe ..) ((cg_re ..).trans ((((cg_re ..).mul (Cg.refl _)).sub ((cg_im ..).mul (Cg.refl _))).trans ((Cg.of_eq (by grind)).trans
    ((((Cg.refl a1).mul (cg_re b1 b2 c1 c2)).sub ((Cg.refl a2).mul (cg_im b1 b2 c1 c2))).symm.trans (cg_re ..).symm))))
theorem im_assoc_b : (mulIm (mulRe a1 a2 b1 b2) (mulIm a1 a2 b1 b2) c1 c2 == mulIm a1 a2 (mulRe b1 b2 c1 c2) (mulIm b1 b2 c1 c2)) = true :=
  same_of (wr_mulIm ..) (wr_mulIm ..) ((cg_im ..).trans ((((cg_re ..).mul (Cg.refl _)).add ((cg_im ..).mul (Cg.refl _))).trans ((Cg.of_eq (by grind)).trans
    ((((Cg.refl a1).mul (cg_im b1 b2 c1 c2)).add ((Cg.refl a2).mul (cg_re b1 b2 c1 c2))).symm.trans (cg_im ..).symm))))
theorem re_dist_b : (mulRe a1 a2 (addR b1 c1) (addR b2 c2) == addR (mulRe a1 a2 b1 b2) (mulRe a1 a2 c1 c2)) = true :=
  same_of (wr_mulRe ..) (wr_addR ..) ((cg_re ..).trans ((((Cg.refl a1).mul (cg_add b1 c1)).sub ((Cg.refl a2).mul (cg_add b2 c2))).trans ((Cg.of_eq (by grind)).trans
    (((cg_re a1 a2 b1 b2).add (cg_re a1 a2 c1 c2)).symm.trans (cg_add ..).symm))))
theorem im_dist_b : (mulIm a1 a2 (addR b1 c1) (addR b2 c2) == addR (mulIm a1 a2 b1 b2) (mulIm a1 a2 c1 c2)) = true :=
  same_of (wr_mulIm ..) (wr_addR ..) ((cg_im ..).trans ((((Cg.refl a1).mul (cg_add b2 c2)).add ((Cg.refl a2).mul (cg_add b1 c1))).trans ((Cg.of_eq (by grind)).trans
    (((cg_im a1 a2 b1 b2).add (cg_im a1 a2 c1 c2)).symm.trans (cg_add ..).symm))))
theorem cg_ww (x : Int) : Cg (wr (wr x)) x := (Cg.wr _).trans (Cg.wr _)
theorem re_conj_b : (wr (wr (mulRe a1 a2 b1 b2)) == mulRe (wr (wr a1)) (negR a2) (wr (wr b1)) (negR b2)) = true :=
  same_of (wr_wr _) (wr_mulRe ..) ((cg_ww _).trans ((cg_re ..).trans ((Cg.of_eq (by grind)).trans ((((cg_ww a1).mul (cg_ww b1)).sub ((cg_neg a2).mul (cg_neg b2))).symm.trans (cg_re ..).symm))))
theorem im_conj_b : (negR (mulIm a1 a2 b1 b2) == mulIm (wr (wr a1)) (negR a2) (wr (wr b1)) (negR b2)) = true :=
  same_of (wr_negR _) (wr_mulIm ..) ((cg_neg _).trans ((cg_im ..).neg.trans ((Cg.of_eq (by grind)).trans ((((cg_ww a1).mul (cg_neg b2)).add ((cg_neg a2).mul (cg_ww b1))).symm.trans (cg_im ..).symm))))
theorem sub_add_b (a b : Int) : (subR (addR a b) b == wr a) = true :=
  same_of (wr_subR ..) (wr_wr _) ((cg_sub ..).trans (((cg_add a b).sub (Cg.refl b)).trans ((Cg.of_eq (by grind)).trans (Cg.wr a).symm)))
end
end Go.Proofs.Ytjjopjpchgajcaa

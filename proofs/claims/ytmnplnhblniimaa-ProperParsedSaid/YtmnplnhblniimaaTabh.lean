/- WALKS of slices.Index at texts and at sites, tables.place, tables.Block, soughref06.Block. -/
import Derived.Test.YtmnplnhblniimaaTabd
namespace Go.Proofs.Ytmnplnhblniimaa.Pr
set_option linter.unusedVariables false
set_option linter.unusedSimpArgs false
open Go Go.RowKit

theorem beq_str {a b : ByteArray} : (a.toList == b.toList) = decide (a = b) := by
  rw [Bool.eq_iff_iff]
  simp only [beq_iff_eq, decide_eq_true_eq]
  exact ⟨toList_inj, fun h => by rw [h]⟩

set_option maxRecDepth 100000 in
theorem index_any (L : List ByteArray) (x : ByteArray) (hl : L.length ≤ 1000000) (v : Value) (w : World) (h : Sl w v encS L) :
    Calls Try.prog 71 #[v, .string x] w fun e w' => e = .returned (.int .i64 (idx L x)) ∧ w = w' := by
  obtain ⟨b, off, p, cap, rfl, hp, hc⟩ := Sl.strs h
  obtain ⟨R, hR⟩ : ∃ R, Hid (idx L x = R) := ⟨_, rfl⟩
  rw [hR]
  go_enter Try.func71, Try.ntmps71
  go_wp2_with fail
  go_loop [8] (fun i => ∃ k : Nat, k ≤ L.length ∧ i = .int .i64 k ∧ ∀ j, j < k → L[j]? ≠ some x) (fun i => L.length - (intOf i).toNat)
  case atStart => exact ⟨0, Nat.zero_le _, rfl, fun j hj => by omega⟩
  case round =>
    obtain ⟨k, hk, rfl, hno⟩ := hrel
    by_cases hlt : k < L.length
    · obtain rfl := hp (by omega)
      have hlt2 : (k : Int) < L.length := by omega
      have c0 := hc k hlt
      have hg := World.block_lt_of_cell? _ _ c0
      have hhit : L[k]'hlt = x → R = k := fun h => by rw [← hR]; exact idx_hit hno (by rw [List.getElem?_eq_getElem hlt, h])
      have hmiss : L[k]'hlt ≠ x → ∀ j, j < k + 1 → L[j]? ≠ some x := fun h j hj => by
        rcases Nat.lt_succ_iff_lt_or_eq.1 hj with hj | rfl
        · exact hno j hj
        · rw [List.getElem?_eq_getElem hlt]; simpa using h
      clear hc hno
      generalize L[k]'hlt = y at c0 hhit hmiss
      by_cases hyx : y = x
      · subst hyx
        have hRk := hhit rfl
        have f1 : (y.toList == y.toList) = true := by simp
        clear hhit hmiss
        subst hRk
        go_wp2_with fail
        refine bodyPost_ret (v := .int .i64 k) (by simp only [results, Try.results71]; go_simp) rfl ⟨rfl, rfl⟩
      · have f1 : (x.toList == y.toList) = false := by rw [beq_str]; exact decide_eq_false (fun h => hyx h.symm)
        have hm := And.intro True.intro (hmiss hyx)
        clear hhit hmiss
        go_wp2_with fail
        go_round
        case rel => exact ⟨k + 1, by omega, by simp, hm.2⟩
        case measure => simp [intOf]; omega
    · have hks : k = L.length := by omega
      subst hks
      have hlt2 : ¬ (L.length : Int) < L.length := by omega
      have hRk : R = -1 := by rw [← hR]; exact idx_none hno
      subst hRk
      clear hc hno
      go_wp2_with fail
      refine bodyPost_ret (v := .int .i64 (-1)) (by simp only [results, Try.results71]; go_simp) rfl ⟨rfl, rfl⟩

def placeV (i : Int) : Value := .tuple #[.int .i64 (max i 0), .bool (decide (0 ≤ i))]

def Si.eqB (s t : Si) : Bool := s.b == t.b && (s.k == t.k && s.v.toList == t.v.toList)
theorem Si.eqB_iff (s t : Si) : Si.eqB s t = decide (s = t) := by
  rw [Bool.eq_iff_iff]
  simp only [Si.eqB, Bool.and_eq_true, beq_iff_eq, decide_eq_true_eq]
  constructor
  · rintro ⟨h1, h2, h3⟩
    have := toList_inj h3
    cases s; cases t; simp_all
  · rintro rfl; exact ⟨rfl, rfl, rfl⟩

end Go.Proofs.Ytmnplnhblniimaa.Pr

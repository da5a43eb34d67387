/- WALKS of slices.Index at texts and at sites, tables.place, tables.Block, soughref06.Block. -/
import Derived.Test.YtjjmoibnmdbpeaaTabd
namespace Go.Proofs.Ytjjmoibnmdbpeaa.Pr
set_option linter.unusedVariables false
set_option linter.unusedSimpArgs false
open Go Go.RowKit

theorem beq_str {a b : ByteArray} : (a.toList == b.toList) = decide (a = b) := by
  rw [Bool.eq_iff_iff]
  simp only [beq_iff_eq, decide_eq_true_eq]
  exact ⟨toList_inj, fun h => by rw [h]⟩

set_option maxRecDepth 100000 in
theorem index_any (L : List ByteArray) (x : ByteArray) (hl : L.length ≤ 1000000) (v : Value) (w : World) (h : Sl w v encS L) :
    Calls Try.prog 84 #[v, .string x] w fun e w' => e = .returned (.int .i64 (idx L x)) ∧ w = w' := by
  obtain ⟨b, off, p, cap, rfl, hp, hc⟩ := Sl.strs h
  obtain ⟨R, hR⟩ : ∃ R, Hid (idx L x = R) := ⟨_, rfl⟩
  rw [hR]
  go_enter Try.func84, Try.ntmps84
  go_wp2_with fail
  go_loop [8] (fun i => ∃ k : Nat, k ≤ L.length ∧ i = .int .i64 k ∧ ∀ j, j < k → L[j]? ≠ some x) (fun i => L.length - (intOf i).toNat)
  case atStart => exact ⟨0, Nat.zero_le _, rfl, fun j hj => by omega⟩
  case round =>
    obtain ⟨k, hk, rfl, hno⟩ := hrel
    by_cases hlt : k < L.length
    · obtain rfl := hp (by omega)
      have hlt2 : (k : Int) < L.length := by omega
      have c0 := hc k hlt
      have hg := World.block_lt_of_cell? _ _ c0
      have hhit : L[k]'hlt = x → R = k := fun h => by rw [← hR]; exact idx_hit hno (by rw [List.getElem?_eq_getElem hlt, h])
      have hmiss : L[k]'hlt ≠ x → ∀ j, j < k + 1 → L[j]? ≠ some x := fun h j hj => by
        rcases Nat.lt_succ_iff_lt_or_eq.1 hj with hj | rfl
        · exact hno j hj
        · rw [List.getElem?_eq_getElem hlt]; simpa using h
      clear hc hno
      generalize L[k]'hlt = y at c0 hhit hmiss
      by_cases hyx : y = x
      · subst hyx
        have hRk := hhit rfl
        have f1 : (y.toList == y.toList) = true := by simp
        clear hhit hmiss
        subst hRk
        go_wp2_with fail
        refine bodyPost_ret (v := .int .i64 k) (by simp only [results, Try.results84]; go_simp) rfl ⟨rfl, rfl⟩
      · have f1 : (x.toList == y.toList) = false := by rw [beq_str]; exact decide_eq_false (fun h => hyx h.symm)
        have hm := And.intro True.intro (hmiss hyx)
        clear hhit hmiss
        go_wp2_with fail
        go_round
        case rel => exact ⟨k + 1, by omega, by simp, hm.2⟩
        case measure => simp [intOf]; omega
    · have hks : k = L.length := by omega
      subst hks
      have hlt2 : ¬ (L.length : Int) < L.length := by omega
      have hRk : R = -1 := by rw [← hR]; exact idx_none hno
      subst hRk
      clear hc hno
      go_wp2_with fail
      refine bodyPost_ret (v := .int .i64 (-1)) (by simp only [results, Try.results84]; go_simp) rfl ⟨rfl, rfl⟩

def placeV (i : Int) : Value := .tuple #[.int .i64 (max i 0), .bool (decide (0 ≤ i))]

def Si.eqB (s t : Si) : Bool := s.b == t.b && (s.k == t.k && s.v.toList == t.v.toList)
theorem Si.eqB_iff (s t : Si) : Si.eqB s t = decide (s = t) := by
  rw [Bool.eq_iff_iff]
  simp only [Si.eqB, Bool.and_eq_true, beq_iff_eq, decide_eq_true_eq]
  constructor
  · rintro ⟨h1, h2, h3⟩
    have := toList_inj h3
    cases s; cases t; simp_all
  · rintro rfl; exact ⟨rfl, rfl, rfl⟩

set_option maxRecDepth 100000 in
theorem indexs_any (L : List Si) (xb xk : Int) (xv : ByteArray) (hl : L.length ≤ 1000000) (v : Value) (w : World) (h : Sl w v Si.cs L) :
    Calls Try.prog 86 #[v, .agg #[.int .i64 xb, .int .i64 xk, .string xv]] w fun e w' => e = .returned (.int .i64 (idx L ⟨xb, xk, xv⟩)) ∧ Below w.heap.size w w' := by
  obtain ⟨b, off, p, cap, rfl, hp, hc⟩ := h.open Si.cs_len
  obtain ⟨R, hR⟩ : ∃ R, Hid (idx L ⟨xb, xk, xv⟩ = R) := ⟨_, rfl⟩
  rw [hR]
  go_enter Try.func86, Try.ntmps86
  go_wp2_with fail
  go_loopw [8] (fun i wr => ∃ k : Nat, k ≤ L.length ∧ i = .int .i64 k ∧ (∀ j, j < k → L[j]? ≠ some ⟨xb, xk, xv⟩) ∧ Below (w.heap.size + 1) (w.alloc (.cells #[.int .i64 xb, .int .i64 xk, .string xv] 66)) wr) (fun i _ => L.length - (intOf i).toNat)
  case atStart => exact ⟨0, Nat.zero_le _, rfl, fun j hj => by omega, Below.refl _ _⟩
  case round =>
    obtain ⟨k, hk, rfl, hno, hB⟩ := hrel
    have hsz := hB.size
    simp at hsz
    have x0 : wr.cell? ⟨w.heap.size, 0, none⟩ = some (.int .i64 xb) := (hB.cell (p := ⟨w.heap.size, 0, none⟩) (by simp)).trans (by simp)
    have x1 : wr.cell? ⟨w.heap.size, 1, none⟩ = some (.int .i64 xk) := (hB.cell (p := ⟨w.heap.size, 1, none⟩) (by simp)).trans (by simp)
    have x2 : wr.cell? ⟨w.heap.size, 2, none⟩ = some (.string xv) := (hB.cell (p := ⟨w.heap.size, 2, none⟩) (by simp)).trans (by simp)
    have hB0 : Below w.heap.size w wr := ((Below.refl _ _).alloc (Nat.le_refl _) _).trans (hB.mono (by omega))
    by_cases hlt : k < L.length
    · obtain rfl := hp (by omega)
      have hlt2 : (k : Int) < L.length := by omega
      have hcr : ∀ r u, ((L[k]'hlt).cs)[r]? = some u → wr.cell? ⟨b, off + k * 3 + r, none⟩ = some u := fun r u hu => by
        rw [Nat.add_assoc]
        exact (hB0.cell (p := ⟨b, off + (k * 3 + r), none⟩) (World.block_lt_of_cell? _ _ (hc k hlt r u hu))).trans (hc k hlt r u hu)
      have hhit : L[k]'hlt = ⟨xb, xk, xv⟩ → R = k := fun h => by rw [← hR]; exact idx_hit hno (by rw [List.getElem?_eq_getElem hlt, h])
      have hmiss : L[k]'hlt ≠ ⟨xb, xk, xv⟩ → ∀ j, j < k + 1 → L[j]? ≠ some ⟨xb, xk, xv⟩ := fun h j hj => by
        rcases Nat.lt_succ_iff_lt_or_eq.1 hj with hj | rfl
        · exact hno j hj
        · rw [List.getElem?_eq_getElem hlt]; simpa using h
      clear hc hno
      generalize L[k]'hlt = y at hcr hhit hmiss
      obtain ⟨yb, yk, yv⟩ := y
      have c0 : wr.cell? ⟨b, off + k * 3, none⟩ = some (.int .i64 yb) := hcr 0 _ rfl
      have c1 : wr.cell? ⟨b, off + k * 3 + 1, none⟩ = some (.int .i64 yk) := hcr 1 _ rfl
      have c2 : wr.cell? ⟨b, off + k * 3 + 2, none⟩ = some (.string yv) := hcr 2 _ rfl
      have hg := World.block_lt_of_cell? _ _ c0
      clear hcr
      have hmiss' := And.intro True.intro hmiss
      clear hmiss
      by_cases h1 : xb = yb
      · subst h1
        by_cases h2 : xk = yk
        · subst h2
          by_cases h3 : xv = yv
          · subst h3
            have hRk := hhit rfl
            clear hhit hmiss'
            subst hRk
            go_wp2_with fail
            go_region
            all_goals (
              go_wp2_with fail
              refine bodyPost_ret (v := .int .i64 k) (by simp only [results, Try.results86]; go_simp) rfl ⟨rfl, hB0.drew⟩)
          · have f1 : ¬ xv.toList = yv.toList := fun h => h3 (toList_inj h)
            have hm := And.intro True.intro (hmiss'.2 (fun h => h3 (by cases h; rfl)))
            clear hhit hmiss'
            go_wp2_with fail
            go_region
            all_goals (
              go_wp2_with fail
              go_roundw
              case rel => exact ⟨k + 1, by omega, by simp, hm.2, hB.drew⟩
              case measure => simp [intOf]; omega)
        · have hm := And.intro True.intro (hmiss'.2 (fun h => h2 (by cases h; rfl)))
          clear hhit hmiss'
          go_wp2_with fail
          go_region
          all_goals (
            go_wp2_with fail
            go_roundw
            case rel => exact ⟨k + 1, by omega, by simp, hm.2, hB.drew⟩
            case measure => simp [intOf]; omega)
      · have hm := And.intro True.intro (hmiss'.2 (fun h => h1 (by cases h; rfl)))
        clear hhit hmiss'
        go_wp2_with fail
        go_region
        all_goals (
          go_wp2_with fail
          go_roundw
          case rel => exact ⟨k + 1, by omega, by simp, hm.2, hB.drew⟩
          case measure => simp [intOf]; omega)
    · have hks : k = L.length := by omega
      subst hks
      have hlt2 : ¬ (L.length : Int) < L.length := by omega
      have hRk : R = -1 := by rw [← hR]; exact idx_none hno
      subst hRk
      clear hc hno
      go_wp2_with fail
      refine bodyPost_ret (v := .int .i64 (-1)) (by simp only [results, Try.results86]; go_simp) rfl ⟨rfl, hB0⟩

end Go.Proofs.Ytjjmoibnmdbpeaa.Pr

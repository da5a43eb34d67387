/- WALKS of package lattice and its reference: Word, Join. -/
import Derived.Test.YtjjopjpchgajcaaLattf
import Derived.Test.YtjjopjpchgajcaaConstp
import Derived.Deep.RegionLaw
namespace Go.Proofs.Ytjjopjpchgajcaa.Ws
set_option linter.unusedVariables false
set_option linter.unusedSimpArgs false
open Go Go.RowKit

/-- Two words put together. -/
def wordV (what : Int) (x y : Nat) : Nat := if what = 1 then gOr x y else if what = 2 then gAnd x y else if what = 3 then (joinW x y).toNat else 0

theorem wordV_lt (what : Int) (x y : Nat) (hx : x < 18446744073709551616) (hy : y < 18446744073709551616) : wordV what x y < 18446744073709551616 := by
  unfold wordV
  have := joinW_hi (x : Int) (y : Int) (by omega) (by omega)
  have := or_lt x y hx hy
  have := and_lt x y hx hy
  repeat' split
  all_goals omega

theorem lword_any (what : Int) (x y : Nat) (hx : x < 18446744073709551616) (hy : y < 18446744073709551616) (w : World) :
    Calls Try.prog 61 #[.int .i64 what, .int .u64 x, .int .u64 y] w fun e w' => e = .returned (.int .u64 (wordV what x y : Nat)) ∧ Below w.heap.size w w' := by
  by_cases h1 : what = 1
  · have e : wordV what x y = gOr x y := by unfold wordV; rw [if_pos h1]
    rw [e]; subst h1
    have h1 := u64_or_nat x y hx hy
    rw [show x ||| y = gOr x y from rfl] at h1
    go_enter Try.func61, Try.ntmps61
    go_wp2_with fail
    go_ret
    exact ⟨rfl, Below.refl _ _⟩
  by_cases h2 : what = 2
  · have e : wordV what x y = gAnd x y := by unfold wordV; rw [if_neg h1, if_pos h2]
    rw [e]; subst h2
    have h1 := u64_and_nat x y hx hy
    rw [show x &&& y = gAnd x y from rfl] at h1
    go_enter Try.func61, Try.ntmps61
    go_wp2_with fail
    go_ret
    exact ⟨rfl, Below.refl _ _⟩
  by_cases h3 : what = 3
  · have e : ((wordV what x y : Nat) : Int) = joinW x y := by
      unfold wordV; rw [if_neg h1, if_neg h2, if_pos h3]
      have := joinW_lo (x : Int) (y : Int) (by omega) (by omega)
      omega
    rw [e]; subst h3
    have hj := join_any (x : Int) (y : Int) (by omega) (by omega) (by omega) (by omega)
    generalize joinW (x : Int) (y : Int) = j at hj ⊢
    go_enter Try.func61, Try.ntmps61
    go_wp2_with ((go_at_call 33; refine' Calls.aft _ _ (hj _) _; rotate_left 2; (first | (with_reducible exact After.below _; rfl) | (with_reducible exact below_drew (After.below _); rfl) | (with_reducible exact below_set (After.below _) _ _; (go_simp; rfl)) | (with_reducible exact below_set (below_set (After.below _) _ _) _ _; (go_simp; rfl)) | (with_reducible exact below_set (below_set (below_set (After.below _) _ _) _ _) _ _; (go_simp; rfl)) | (with_reducible exact below_set (below_set (below_set (below_set (After.below _) _ _) _ _) _ _) _ _; (go_simp; rfl)) | (exact Below.refl _ _; rfl)); intro x1; have hle := After.le x1; (try simp at hle)))
    refine bodyPost_ret (v := .int .u64 j) (by simp only [results, Try.results61]; go_simp) rfl ⟨rfl, ?_⟩
    exact x1.below
  · have e : wordV what x y = 0 := by unfold wordV; rw [if_neg h1, if_neg h2, if_neg h3]
    rw [e]
    have f1 : (what == 1) = false := by simp [h1]
    have f2 : (what == 2) = false := by simp [h2]
    have f3 : (what == 3) = false := by simp [h3]
    clear h1 h2 h3
    go_enter Try.func61, Try.ntmps61
    go_wp2_with fail
    go_ret
    exact ⟨rfl, Below.refl _ _⟩

theorem rlword_any (what : Int) (x y : Nat) (hx : x < 18446744073709551616) (hy : y < 18446744073709551616) (w : World) :
    Calls Try.prog 62 #[.int .i64 what, .int .u64 x, .int .u64 y] w fun e w' => e = .returned (.int .u64 (wordV what x y : Nat)) ∧ Below w.heap.size w w' := by
  by_cases h1 : what = 1
  · have e : wordV what x y = gOr x y := by unfold wordV; rw [if_pos h1]
    rw [e]; subst h1
    have h1 := u64_or_nat x y hx hy
    rw [show x ||| y = gOr x y from rfl] at h1
    go_enter Try.func62, Try.ntmps62
    go_wp2_with fail
    go_ret
    exact ⟨rfl, Below.refl _ _⟩
  by_cases h2 : what = 2
  · have e : wordV what x y = gAnd x y := by unfold wordV; rw [if_neg h1, if_pos h2]
    rw [e]; subst h2
    have h1 := u64_and_nat x y hx hy
    rw [show x &&& y = gAnd x y from rfl] at h1
    go_enter Try.func62, Try.ntmps62
    go_wp2_with fail
    go_ret
    exact ⟨rfl, Below.refl _ _⟩
  by_cases h3 : what = 3
  · have e : ((wordV what x y : Nat) : Int) = joinW x y := by
      unfold wordV; rw [if_neg h1, if_neg h2, if_pos h3]
      have := joinW_lo (x : Int) (y : Int) (by omega) (by omega)
      omega
    rw [e]; subst h3
    have hj := rjoin_any (x : Int) (y : Int) (by omega) (by omega) (by omega) (by omega)
    generalize joinW (x : Int) (y : Int) = j at hj ⊢
    go_enter Try.func62, Try.ntmps62
    go_wp2_with ((go_at_call 34; refine' Calls.aft _ _ (hj _) _; rotate_left 2; (first | (with_reducible exact After.below _; rfl) | (with_reducible exact below_drew (After.below _); rfl) | (with_reducible exact below_set (After.below _) _ _; (go_simp; rfl)) | (with_reducible exact below_set (below_set (After.below _) _ _) _ _; (go_simp; rfl)) | (with_reducible exact below_set (below_set (below_set (After.below _) _ _) _ _) _ _; (go_simp; rfl)) | (with_reducible exact below_set (below_set (below_set (below_set (After.below _) _ _) _ _) _ _) _ _; (go_simp; rfl)) | (exact Below.refl _ _; rfl)); intro x1; have hle := After.le x1; (try simp at hle)))
    refine bodyPost_ret (v := .int .u64 j) (by simp only [results, Try.results62]; go_simp) rfl ⟨rfl, ?_⟩
    exact x1.below
  · have e : wordV what x y = 0 := by unfold wordV; rw [if_neg h1, if_neg h2, if_neg h3]
    rw [e]
    have f1 : (what == 1) = false := by simp [h1]
    have f2 : (what == 2) = false := by simp [h2]
    have f3 : (what == 3) = false := by simp [h3]
    clear h1 h2 h3
    go_enter Try.func62, Try.ntmps62
    go_wp2_with fail
    go_ret
    exact ⟨rfl, Below.refl _ _⟩

/-- A CALL OF A FUNCTION AS ONE STEP OF A REGION THAT DRAWS ITS ORDER. -/
theorem step_call {P : Program} {ops : Array Oper} {o : Oper} {a : Act} {w : World} {K : Act → World → Prop} {Q : Exit → Act → World → Prop} {E : Prop} (hgd : o.guard = none) (f : FuncId) (vs : Array Value) (v : Value)
    (hop : (execOp a.eval o).run P w = .ok (.enter f vs) w)
    (h : Calls P f vs w fun e w' => e = .returned v ∧ Below w.heap.size w w') (hk : ∀ w', Below w.heap.size w w' → K (a.put o.dst v) w') :
    if Region.wanted o (yielded ops a.tmps) = true then Oper.wp P o a w K Q else E := by
  have hw : Region.wanted o (yielded ops a.tmps) = true := by simp [Region.wanted, hgd]
  rw [if_pos hw]
  unfold Oper.wp
  rw [hop, Oper.upon_enter]
  exact h.mono fun e w' ⟨he, hb⟩ => by subst he; exact hk w' hb

/-- append AS ONE STEP OF A REGION THAT DRAWS ITS ORDER. -/
theorem step_append_own {P : Program} {w : World} {ops : Array Oper} {o : Oper} {a : Act} {K : Act → World → Prop} {Q : Exit → Act → World → Prop} {E : Prop} (hgd : o.guard = none) (s x : Operand) (t : TypeId)
    (ho : o.op = .call { callee := .builtin .append, args := #[s, x], argTypes := #[t, t] })
    (base : Nat) (e : TypeId) (i : TypeInfo) (z : Value) (size bytes : Nat) (ht : P.underlying t = some (.slice e)) (hi : P.info? e = some i) (hz : i.zero = some z)
    (hsize : i.size = size) (hby : i.bytes = bytes) (hzs : z.cells.size = size) (hsz : 0 < size)
    (v : Value) (n : Nat) (xs : List Value) (hs : a.eval s = v) (hown : w.ownsRow base e size v n xs)
    (ad : Addr) (m c : Nat) (news : List Value) (hx : a.eval x = .slice (some ad) m c) (hl : news.length = m * size) (hnews : ∀ j u, news[j]? = some u → w.cell? (ad.add j) = some u) (h1 : ∀ u ∈ news, u.oneCell' = true)
    (h63 : n + m ≤ maxLen) (hbytes : (n + m) * bytes ≤ 140737488355328) (hbase : base ≤ w.heap.size)
    (h : ∀ v' w', w'.ownsRow base e size v' (n + m) (xs ++ news) → w.grownBy w' v.ownBlock → (v' = .slice none 0 0 ↔ v = .slice none 0 0 ∧ m = 0) → K (a.put o.dst v') w') :
    if Region.wanted o (yielded ops a.tmps) = true then Oper.wp P o a w K Q else E := by
  have hw : Region.wanted o (yielded ops a.tmps) = true := by simp [Region.wanted, hgd]
  rw [if_pos hw]
  exact wp_append_own w s x t ho base e i z size bytes ht hi hz hsize hby hzs hsz v n xs hs hown ad m c news hx hl hnews h1 h63 hbytes hbase h

/-- Two values put together, word by word. -/
def joinV (what : Int) (L M : List Nat) : List Nat := (List.range L.length).map fun i => wordV what ((L[i]?).getD 0) ((M[i]?).getD 0)
theorem joinV_length (what : Int) (L M : List Nat) : (joinV what L M).length = L.length := by simp [joinV]
theorem joinV_get {what : Int} {L M : List Nat} {i : Nat} (h : i < (joinV what L M).length) : (joinV what L M)[i]'h = wordV what ((L[i]?).getD 0) ((M[i]?).getD 0) := by simp [joinV]
theorem joinV_ok {what : Int} {L M : List Nat} (hL : okW L) (hM : okW M) : okW (joinV what L M) := by
  intro x hx
  simp only [joinV, List.mem_map] at hx
  obtain ⟨k, _, rfl⟩ := hx
  exact wordV_lt _ _ _ (ok_at hL k) (ok_at hM k)

set_option maxRecDepth 100000 in
theorem rjoinV_any (what : Int) (L M : List Nat) (hL : okW L) (hM : okW M) (hn : L.length = M.length) (hl : L.length ≤ 1000000) (v v' : Value) (w : World) (h : Sl w v encW L) (h' : Sl w v' encW M) :
    Calls Try.prog 66 #[.int .i64 what, v, v'] w fun e w' => ∃ o, e = .returned o ∧ w'.ownsRow w.heap.size 29 1 o (joinV what L M).length ((joinV what L M).flatMap encW) ∧ Below w.heap.size w w' := by
  obtain ⟨i0, hi, hz0, hz1, hz2⟩ := info_parts w_info
  obtain ⟨b, off, p, cap, rfl, hp, hc⟩ := Sl.words h
  obtain ⟨b', off', p', cap', rfl, hp', hc'⟩ := Sl.words h'
  have hZ := And.intro True.intro (joinV_length what L M)
  have hN : Hid (L.length = M.length) := hn
  rw [joinV_length]
  clear hn
  go_enter Try.func66, Try.ntmps66
  go_wp2_with fail
  go_loopw [7, 11] (fun o i wr => ∃ k : Nat, k ≤ L.length ∧ i = .int .i64 k ∧ wr.ownsRow w.heap.size 29 1 o k (((joinV what L M).take k).flatMap encW) ∧ Below w.heap.size w wr) (fun _ i _ => L.length - (intOf i).toNat)
  case atStart => exact ⟨0, Nat.zero_le _, rfl, World.ownsRow_nil _ _ _ _, Below.refl _ _⟩
  case round =>
    obtain ⟨k, hk, rfl, hown, hB⟩ := hrel
    by_cases hlt : k < L.length
    · have hlt' : k < M.length := by have h9 : L.length = M.length := hN; omega
      have hltM : (k : Int) < M.length := by omega
      have hpp := hp (by omega)
      have hpp' := hp' (by omega)
      subst hpp hpp'
      have c0 := hc k hlt
      have c1 := hc' k hlt'
      have hg := World.block_lt_of_cell? _ _ c0
      have hg' := World.block_lt_of_cell? _ _ c1
      have c2 := (hB.cell (p := ⟨b, off + k, none⟩) hg).trans c0
      have c3 := (hB.cell (p := ⟨b', off' + k, none⟩) hg').trans c1
      have hgw := World.block_lt_of_cell? _ _ c2
      have hgw' := World.block_lt_of_cell? _ _ c3
      have hx := hL _ (List.getElem_mem hlt)
      have hy := hM _ (List.getElem_mem hlt')
      have hz : (joinV what L M).take (k + 1) = (joinV what L M).take k ++ [wordV what (L[k]'hlt) (M[k]'hlt')] := by
        rw [List.take_succ_eq_append_getElem (by rw [hZ.2]; exact hlt), joinV_get, List.getElem?_eq_getElem hlt, List.getElem?_eq_getElem hlt']; rfl
      have hw := hB.size
      clear hc hc' c0 c1
      generalize L[k] = x at c2 hx hz
      generalize M[k] = y at c3 hy hz
      have hA := And.intro hz (And.intro hown hB)
      have hwd := rlword_any what x y hx hy
      have hwl := wordV_lt what x y hx hy
      generalize wordV what x y = q at hwd hA hwl
      clear hz hown hB
      go_wp2_with fail
      go_region_law (first | (refine step_call rfl 62 #[.int .i64 what, .int .u64 x, .int .u64 y] (.int .u64 q) ?hop9 (hwd _) ?_; (case hop9 => (go_simp; done)); intro w4 hb4; have hz4 := hb4.size; (try simp at hz4)) | (refine step_append_own rfl (.tmp 14) (.tmp 25) 52 rfl w.heap.size 29 i0 (.int .u64 0) 1 8 Try.underlying52 hi hz0 hz1 hz2 rfl (by decide) _ k (((joinV what L M).take k).flatMap encW) (by simp [Act.eval, Act.put]) ((own_below (own_below hA.2.1 (Below.drew (Below.refl _ _))) hb4).alloc _) _ 1 1 [.int .u64 (q : Nat)] (by simp [Act.eval, Act.put]) rfl (news_at rfl) (by intro u hu; simp at hu; subst hu; rfl) (by unfold maxLen; omega) (by omega) (by simp; omega) ?_; intro v2 w1 hown' hgrow _))
      all_goals (
        have hlt1 := hA.2.1.lt
        have hB2 : Below w.heap.size w w1 := Below.grown (w := _) (Below.alloc ((hA.2.2.drew).trans (Below.mono hb4 (by simpa using hw))) (by omega) _) hgrow (by simp; omega) (fun q hq => (hlt1 q hq).1)
        go_wp2_with fail
        go_roundw
        case rel => exact ⟨k + 1, by omega, by simp, by rw [hA.1, List.flatMap_append]; exact hown', hB2⟩
        case measure => simp [intOf]; omega)
    · have hks : k = L.length := by omega
      have h8 : (joinV what L M).take k = joinV what L M := List.take_of_length_le (by rw [hZ.2]; omega)
      rw [hks] at hown h8
      rw [h8] at hown
      clear hc hc'
      go_wp2_with fail
      refine bodyPost_ret (v := u7) (by simp only [results, Try.results66]; go_simp) rfl ⟨_, rfl, hown, hB⟩

/-! behind the reference's Join -/

end Go.Proofs.Ytjjopjpchgajcaa.Ws

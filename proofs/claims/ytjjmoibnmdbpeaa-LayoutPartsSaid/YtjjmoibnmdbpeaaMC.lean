/- WALKS of package wordset and its reference: widths, sizes, how many bits. WALKS of soughref10: Has, Same, With. WALKS: soughref10.Of, wordset.Full, soughref12.Full. WALKS: wordset.both at each of its functions; Within, Fits, both Fits. WALKS: Within, Fits, both Fits; what they tell. -/
import Derived.Test.YtjjmoibnmdbpeaaWords
import Derived.Test.YtjjmoibnmdbpeaaOwn
import Derived.Test.YtjjmoibnmdbpeaaProg
import Derived.LoopTactic
import Derived.OwnWalk

namespace Go.Proofs.Ytjjmoibnmdbpeaa.Ws
set_option linter.unusedVariables false
set_option linter.unusedSimpArgs false
open Go Go.RowKit

/-- A width that counts. -/
def cutN (w : Int) : Nat := if w < 0 then 0 else if w > 1024 then 1024 else w.toNat
theorem cutN_le (w : Int) : cutN w ≤ 1024 := by unfold cutN; split <;> (try split) <;> omega
def sizeN (w : Int) : Nat := (cutN w + 63) / 64
theorem sizeN_le (w : Int) : sizeN w ≤ 16 := by have := cutN_le w; unfold sizeN; omega

theorem cut_any (n : Int) (w : World) : Calls Try.prog 110 #[.int .i64 n] w fun e w' => e = .returned (.int .i64 (cutN n)) ∧ w = w' := by
  go_enter Try.func110, Try.ntmps110
  go_wp2_with fail
  all_goals (go_ret; refine ⟨?_, rfl⟩; refine congrArg (fun b => Ending.returned (Value.int .i64 b)) (?_ : (_ : Int) = _); unfold cutN; (repeat' split) <;> omega)

theorem width_any (n : Int) (w : World) : Calls Try.prog 114 #[.int .i64 n] w fun e w' => e = .returned (.int .i64 (cutN n)) ∧ w = w' := by
  go_enter Try.func114, Try.ntmps114
  go_wp2_with fail
  all_goals (go_ret; refine ⟨?_, rfl⟩; refine congrArg (fun b => Ending.returned (Value.int .i64 b)) (?_ : (_ : Int) = _); unfold cutN; (repeat' split) <;> omega)

theorem size_any (n : Int) (w : World) : Calls Try.prog 69 #[.int .i64 n] w fun e w' => e = .returned (.int .i64 (sizeN n)) ∧ w = w' := by
  have h := cutN_le n
  go_enter Try.func69, Try.ntmps69
  go_wp2_with ((go_at_call 110; refine Calls.same (cut_any _ _) ?_))
  go_ret; refine ⟨?_, rfl⟩; refine congrArg (fun b => Ending.returned (Value.int .i64 b)) (?_ : (_ : Int) = _); unfold sizeN; omega

theorem rsize_any (n : Int) (w : World) : Calls Try.prog 74 #[.int .i64 n] w fun e w' => e = .returned (.int .i64 (sizeN n)) ∧ w = w' := by
  have h := cutN_le n
  go_enter Try.func74, Try.ntmps74
  go_wp2_with ((go_at_call 114; refine Calls.same (width_any _ _) ?_))
  go_ret; refine ⟨?_, rfl⟩; refine congrArg (fun b => Ending.returned (Value.int .i64 b)) (?_ : (_ : Int) = _); unfold sizeN; omega

theorem u64_wrap (x : Nat) (h : x < 18446744073709551616) : IntKind.u64.wrap (x : Int) = x := by
  simp [IntKind.wrap, IntKind.bits, IntKind.signed]; omega

theorem low7 (y q : Nat) (h : y % 128 = q) : bits .and .i64 (wrap64 (y : Int)) 127 = (q : Int) := by
  rw [i64_and127]
  unfold wrap64
  omega

/-- How many bits a word has (never unfolded). -/
noncomputable def ones (x : Nat) : Nat := Classical.choose (⟨Bt.pop 64 x, rfl⟩ : ∃ q, q = Bt.pop 64 x)
theorem ones_eq (x : Nat) : ones x = Bt.pop 64 x := Classical.choose_spec (⟨Bt.pop 64 x, rfl⟩ : ∃ q, q = Bt.pop 64 x)
theorem ones_le (x : Nat) : ones x ≤ 64 := by rw [ones_eq]; exact Bt.pop_le 64 x

theorem ones_any (x : Nat) (hx : x < 18446744073709551616) (w : World) : Calls Try.prog 150 #[.int .u64 x] w fun e w' => e = .returned (.int .i64 (ones x)) ∧ w = w' := by
  obtain ⟨x1, e1⟩ : ∃ x1, x1 = (x / 2 &&& 6148914691236517205) + (x &&& 6148914691236517205) := ⟨_, rfl⟩
  obtain ⟨x2, e2⟩ : ∃ x2, x2 = (x1 / 4 &&& 3689348814741910323) + (x1 &&& 3689348814741910323) := ⟨_, rfl⟩
  obtain ⟨x3, e3⟩ : ∃ x3, x3 = (x2 / 16 + x2) &&& 1085102592571150095 := ⟨_, rfl⟩
  obtain ⟨l1, l2, l3, l4, l5, l6, l7⟩ := Bt.ones64 x x1 x2 x3 e1 e2 e3
  rw [← ones_eq] at l7
  generalize ones x = q at l7 ⊢
  have f1 : bits .and .u64 ((x : Int) / 2) 6148914691236517205 + bits .and .u64 (x : Int) 6148914691236517205 = (x1 : Int) := by
    rw [u64_and _ _ (by omega) (by omega) (by omega) (by omega), u64_and _ _ (by omega) (by omega) (by omega) (by omega), e1]
    have a : ((x : Int) / 2).toNat = x / 2 := by omega
    rw [a]; rfl
  have f2 : bits .and .u64 ((x1 : Int) / 4) 3689348814741910323 + bits .and .u64 (x1 : Int) 3689348814741910323 = (x2 : Int) := by
    rw [u64_and _ _ (by omega) (by omega) (by omega) (by omega), u64_and _ _ (by omega) (by omega) (by omega) (by omega), e2]
    have a : ((x1 : Int) / 4).toNat = x1 / 4 := by omega
    rw [a]; rfl
  obtain ⟨y, ey⟩ : ∃ y, y = x2 / 16 + x2 := ⟨_, rfl⟩
  have f3 : (x2 : Int) / 16 + x2 = (y : Int) := by omega
  rw [← ey] at l3 e3
  have f4 : bits .and .u64 (y : Int) 1085102592571150095 = (x3 : Int) := by
    rw [u64_and _ _ (by omega) (by omega) (by omega) (by omega), e3]; rfl
  obtain ⟨y1, ey1⟩ : ∃ y, y = x3 + x3 / 256 := ⟨_, rfl⟩
  rw [← ey1] at l4 l5 l6 l7
  have f5 : (x3 : Int) + x3 / 256 = (y1 : Int) := by omega
  obtain ⟨y2, ey2⟩ : ∃ y, y = y1 + y1 / 65536 := ⟨_, rfl⟩
  rw [← ey2] at l5 l6 l7
  have f6 : (y1 : Int) + y1 / 65536 = (y2 : Int) := by omega
  obtain ⟨y3, ey3⟩ : ∃ y, y = y2 + y2 / 4294967296 := ⟨_, rfl⟩
  rw [← ey3] at l6 l7
  have f7 : (y2 : Int) + y2 / 4294967296 = (y3 : Int) := by omega
  have g1 := u64_wrap x1 l1
  have g2 := u64_wrap x2 l2
  have g3 := u64_wrap y l3
  have g4 := u64_wrap y1 l4
  have g5 := u64_wrap y2 l5
  have g6 := u64_wrap y3 l6
  have f8 := low7 y3 q l7
  clear e1 e2 e3 ey ey1 ey2 ey3 l7
  go_enter Try.func150, Try.ntmps150
  go_wp2_with fail
  go_ret
  exact ⟨rfl, rfl⟩

/-- How a word lies. -/
def encW (x : Nat) : List Value := [.int .u64 x]
theorem encW_len (x : Nat) : (encW x).length = 1 := rfl
def intOf : Value → Int | .int _ q => q | _ => 0

/-- A slice of words, opened. -/
theorem Sl.words {w : World} {v : Value} {L : List Nat} (h : Sl w v encW L) :
    ∃ (b off : Nat) (p : Option Addr) (cap : Nat), v = .slice p L.length cap ∧ (0 < L.length → p = some ⟨b, off, none⟩) ∧
      ∀ (i : Nat) (hi : i < L.length), w.cell? ⟨b, off + i, none⟩ = some (.int .u64 (L[i]'hi : Nat)) := by
  obtain ⟨b, off, p, cap, hv, hp, hc⟩ := h.open (k := 1) encW_len
  exact ⟨b, off, p, cap, hv, hp, fun i hi => by simpa using hc i hi 0 _ rfl⟩

theorem size_take {L : List Nat} {k : Nat} (hk : k < L.length) : size (L.take (k + 1)) = size (L.take k) + ones (L[k]'hk) := by
  rw [List.take_succ_eq_append_getElem hk, size_snoc, ones_eq]

theorem len_any (L : List Nat) (hok : okW L) (hlen : L.length ≤ 1000000) (v : Value) (w : World) (h : Sl w v encW L) :
    Calls Try.prog 145 #[v] w fun e w' => e = .returned (.int .i64 (size L)) ∧ w = w' := by
  obtain ⟨b, off, p, cap, rfl, hp, hc⟩ := Sl.words h
  go_enter Try.func145, Try.ntmps145
  go_wp2_with fail
  go_loop [3, 8] (fun n i => ∃ k : Nat, k ≤ L.length ∧ i = .int .i64 k ∧ n = .int .i64 (size (L.take k))) (fun _ i => L.length - (intOf i).toNat)
  case atStart => exact ⟨0, Nat.zero_le _, rfl, by simp [size_nil]⟩
  case round =>
    obtain ⟨k, hk, rfl, rfl⟩ := hrel
    by_cases hlt : k < L.length
    · have hpp := hp (by omega)
      subst hpp
      have c0 := hc k hlt
      have hg := World.block_lt_of_cell? _ _ c0
      have hx := hok _ (List.getElem_mem hlt)
      have hs := size_take hlt
      have h1 := size_le (L.take k)
      have h2 := ones_le (L[k]'hlt)
      have h3 : (L.take k).length ≤ k := by simp; omega
      clear hc
      generalize L[k] = x at c0 hx hs h2
      go_wp2_with ((go_at_call 150; refine Calls.same (ones_any x hx _) ?_))
      refine ⟨⟨k + 1, by omega, by simp, ?_⟩, by simp [intOf]; omega⟩
      rw [hs]; simp
    · have hks : k = L.length := by omega
      subst hks
      go_wp2_with fail
      go_ret
      exact ⟨rfl, rfl⟩

theorem word_any (L : List Nat) (i : Nat) (v : Value) (w : World) (h : Sl w v encW L) :
    Calls Try.prog 153 #[v, .int .i64 i] w fun e w' => e = .returned (.int .u64 ((L[i]?).getD 0 : Nat)) ∧ w = w' := by
  obtain ⟨b, off, p, cap, rfl, hp, hc⟩ := Sl.words h
  by_cases hi : i < L.length
  · have hpp := hp (by omega)
    subst hpp
    have c0 := hc i hi
    have hg := World.block_lt_of_cell? _ _ c0
    have hge : ¬ (L.length : Int) ≤ i := by omega
    rw [List.getElem?_eq_getElem hi, Option.getD_some]
    clear hc
    generalize L[i] = x at c0 ⊢
    go_enter Try.func153, Try.ntmps153
    go_wp2_with fail
    go_ret
    exact ⟨rfl, rfl⟩
  · have hge : (L.length : Int) ≤ i := by omega
    rw [List.getElem?_eq_none (by omega), Option.getD_none]
    clear hc
    go_enter Try.func153, Try.ntmps153
    go_wp2_with fail
    go_ret
    exact ⟨rfl, rfl⟩

end Go.Proofs.Ytjjmoibnmdbpeaa.Ws

namespace Go.Proofs.Ytjjmoibnmdbpeaa.Ws
set_option linter.unusedVariables false
set_option linter.unusedSimpArgs false
open Go Go.RowKit

theorem bit_test (x n : Nat) (hx : x < 18446744073709551616) : (bits .and .u64 ((x : Int) / 2 ^ (n % 64)) 1 == 1) = x.testBit (n % 64) := by
  have h1 : ((x : Int) / 2 ^ (n % 64)) = ((x / 2 ^ (n % 64) : Nat) : Int) := by simp
  have h2 : x / 2 ^ (n % 64) ≤ x := Nat.div_le_self _ _
  rw [h1, Nat.testBit_eq_decide_div_mod_eq]
  generalize x / 2 ^ (n % 64) = y at h2
  rw [u64_and _ _ (by omega) (by omega) (by omega) (by omega)]
  have h3 : ((y : Int).toNat &&& (1 : Int).toNat) = y % 2 := by
    show (y &&& 1) = _
    exact Nat.and_two_pow_sub_one_eq_mod _ 1
  rw [h3]
  rw [Bool.eq_iff_iff]; simp; omega

set_option maxRecDepth 100000 in
theorem rhas_any (L : List Nat) (hok : okW L) (n : Nat) (hn : n ≤ 4611686018427387904) (v : Value) (w : World) (h : Sl w v encW L) :
    Calls Try.prog 136 #[v, .int .i64 n] w fun e w' => e = .returned (.bool (has L n)) ∧ w = w' := by
  obtain ⟨b, off, p, cap, rfl, hp, hc⟩ := Sl.words h
  by_cases hi : n / 64 < L.length
  · have hpp := hp (by omega)
    subst hpp
    have c0 := hc _ hi
    have hg := World.block_lt_of_cell? _ _ c0
    have h2 : (n : Int) / 64 < L.length := by omega
    have h0 : (0 : Int) ≤ n := by omega
    have hx := hok _ (List.getElem_mem hi)
    have e : has L n = (L[n / 64]'hi).testBit (n % 64) := by unfold has; rw [List.getElem?_eq_getElem hi, Option.getD_some]
    rw [e]
    clear hc e
    generalize L[n / 64] = x at c0 hx ⊢
    have hb := bit_test x n hx
    generalize x.testBit (n % 64) = y at hb ⊢
    go_enter Try.func136, Try.ntmps136
    go_wp2_with fail
    go_ret
    exact ⟨rfl, rfl⟩
  · have h2 : ¬ (n : Int) / 64 < L.length := by omega
    have h0 : (0 : Int) ≤ n := by omega
    have e : has L n = false := has_over (by omega)
    rw [e]
    clear hc e
    go_enter Try.func136, Try.ntmps136
    go_wp2_with fail
    go_ret
    exact ⟨rfl, rfl⟩

theorem w_info : (Try.prog.info? 78).map (fun i => (i.zero, i.size, i.bytes)) = some (some (.int .u64 0), 1, 8) := by kernel_rfl

theorem set_words {L : List Nat} {j x : Nat} : (L.flatMap encW).set j (.int .u64 x) = (L.set j x).flatMap encW := by
  have e : ∀ M : List Nat, M.flatMap encW = M.map fun y : Nat => Value.int .u64 (y : Int) := fun M => by
    induction M with
    | nil => rfl
    | cons y M ih => simp only [List.flatMap_cons, ih, encW]; rfl
  rw [e, e, List.map_set]

theorem flat_words (L : List Nat) : L.flatMap encW = L.map fun y : Nat => Value.int .u64 (y : Int) := by
  induction L with
  | nil => rfl
  | cons y M ih => simp only [List.flatMap_cons, ih, encW]; rfl

theorem shl_or (x n : Nat) (hx : x < 18446744073709551616) : bits .or .u64 (x : Int) (IntKind.u64.wrap (2 ^ (n % 64))) = ((x ||| 2 ^ (n % 64) : Nat) : Int) := by
  have h1 : (2 : Nat) ^ (n % 64) < 18446744073709551616 := by
    have : (2 : Nat) ^ (n % 64) < 2 ^ 64 := Nat.pow_lt_pow_right (by omega) (Nat.mod_lt _ (by omega))
    simpa using this
  have h2 : IntKind.u64.wrap ((2 : Int) ^ (n % 64)) = ((2 ^ (n % 64) : Nat) : Int) := by
    have := u64_wrap _ h1
    rw [← this]; simp
  rw [h2]
  generalize 2 ^ (n % 64) = y at h1
  rw [u64_or _ _ (by omega) (by omega) (by omega) (by omega)]
  rfl

theorem Sl.news {w w' : World} {b off len cap : Nat} {L : List Nat} (h : Sl w (.slice (some ⟨b, off, none⟩) len cap) encW L) (hB : Below w.heap.size w w') :
    ∀ j u, (L.flatMap encW)[j]? = some u → w'.cell? ((⟨b, off, none⟩ : Addr).add j) = some u := by
  obtain ⟨b', off', p', cap', hv, hp, hc⟩ := h.below hB
  simp only [Value.slice.injEq] at hv
  obtain ⟨rfl, rfl, rfl⟩ := hv
  intro j u hu
  have hL : 0 < L.length := by
    rcases L with _ | ⟨x, L⟩
    · simp at hu
    · simp
  have := hp hL
  simp only [Option.some.injEq, Addr.mk.injEq, and_true] at this
  obtain ⟨rfl, rfl⟩ := this
  rw [Go.WideShapes.add_plain]
  exact hc j u hu

theorem words_one (L : List Nat) : ∀ u ∈ L.flatMap encW, u.oneCell' = true := by
  intro u hu
  rw [flat_words] at hu
  obtain ⟨x, _, rfl⟩ := List.mem_map.1 hu
  rfl
theorem words_len (L : List Nat) : (L.flatMap encW).length = L.length * 1 := by rw [flat_words]; simp

end Go.Proofs.Ytjjmoibnmdbpeaa.Ws

namespace Go.Proofs.Ytjjmoibnmdbpeaa.Ws
set_option linter.unusedVariables false
set_option linter.unusedSimpArgs false
open Go Go.RowKit

def encI (x : Int) : List Value := [.int .i64 x]

/-- The numbers of a list below a bound. -/
def inB (M : List Int) (c : Nat) (m : Nat) : Bool := M.contains (m : Int) && decide (m < c)

theorem Sl.ints {w : World} {v : Value} {M : List Int} (h : Sl w v encI M) :
    ∃ (b off : Nat) (p : Option Addr) (cap : Nat), v = .slice p M.length cap ∧ (0 < M.length → p = some ⟨b, off, none⟩) ∧
      ∀ (i : Nat) (hi : i < M.length), w.cell? ⟨b, off + i, none⟩ = some (.int .i64 (M[i]'hi)) := by
  obtain ⟨b, off, p, cap, hv, hp, hc⟩ := h.open (k := 1) (fun _ => rfl)
  exact ⟨b, off, p, cap, hv, hp, fun i hi => by simpa using hc i hi 0 _ rfl⟩

theorem zeros_words (n : Nat) : (madeCells (Value.int .u64 0).cells (n * 1)).toList = (wordsOf (fun _ => false) n).flatMap encW := by
  show (madeCells #[Value.int .u64 0] (n * 1)).toList = _
  rw [toList_madeCells_one, flat_words, Nat.mul_one]
  apply List.ext_getElem
  · simp [wordsOf]
  · intro j h1 h2
    have : ofB (fun _ => false) 64 = 0 := by
      apply Nat.eq_of_testBit_eq; intro i; rw [testBit_ofB]; simp
    simp [wordsOf, this]

/-- All numbers below a width. -/
def fullW (n : Int) : List Nat := wordsOf (fun m => decide (m < cutN n)) (sizeN n)

set_option maxRecDepth 100000 in
theorem full_any (n : Int) (w : World) :
    Calls Try.prog 103 #[.int .i64 n] w fun e w' => ∃ v', e = .returned v' ∧ w'.ownsRow w.heap.size 78 1 v' (sizeN n) ((fullW n).flatMap encW) ∧ Below w.heap.size w w' := by
  obtain ⟨i0, hi, hz0, hz1, hz2⟩ := info_parts w_info
  have hs := sizeN_le n
  have hcut := cutN_le n
  go_enter Try.func103, Try.ntmps103
  go_wp2_with (first | (go_at_call 69; refine Calls.same (size_any _ _) ?_) | (go_at_call 110; refine Calls.same (cut_any _ _) ?_) | (at_make; refine wpList_make_full _ rfl _ _ 24 rfl w.heap.size 78 i0 (.int .u64 0) 1 Try.underlying24 hi hz0 hz1 .i64 .i64 _ _ (sizeN n) rfl rfl rfl rfl (by rw [hz2]; omega) (by unfold maxLen; omega) (Nat.le_refl _) ?_; intro w1 hown hgrow; rw [zeros_words] at hown))
  have hB : Below w.heap.size w w1 := Below.grown (Below.refl _ _) hgrow (Nat.le_refl _) (fun k e => by cases e)
  go_loopw [10] (fun i wr => ∃ k : Nat, k ≤ cutN n ∧ i = .int .i64 k ∧ wr.ownsRow w.heap.size 78 1 (.slice (some ⟨w.heap.size, 0, none⟩) (sizeN n) (sizeN n)) (sizeN n) ((wordsOf (fun m => decide (m < k)) (sizeN n)).flatMap encW) ∧ Below w.heap.size w wr) (fun i _ => cutN n - (intOf i).toNat)
  case atStart =>
    refine ⟨0, Nat.zero_le _, rfl, ?_, hB⟩
    rw [show wordsOf (fun m => decide (m < 0)) (sizeN n) = wordsOf (fun _ => false) (sizeN n) from wordsOf_congr fun m _ => by simp]
    exact hown
  case round =>
    obtain ⟨k, hk, rfl, hown, hB⟩ := hrel
    by_cases hlt : k < cutN n
    · have hm : k < 64 * sizeN n := by unfold sizeN; omega
      have hwl : (wordsOf (fun m => decide (m < k)) (sizeN n)).length = sizeN n := wordsOf_length _ _
      have hi : k / 64 < (wordsOf (fun m => decide (m < k)) (sizeN n)).length := by rw [hwl]; omega
      have c0 := hown.cellAt (k / 64) (by omega)
      have f0 := hown.frozenAt (k / 64)
      have hx := wordsOf_ok (fun m => decide (m < k)) (sizeN n) _ (List.getElem_mem hi)
      rw [flat_words, List.getElem?_map, List.getElem?_eq_getElem hi, Option.map_some] at c0
      have hst := wordsOf_set (p := fun m => decide (m < k)) hm
      rw [List.getElem?_eq_getElem hi, Option.getD_some] at hst
      generalize (wordsOf (fun m => decide (m < k)) (sizeN n))[k / 64]'hi = x at c0 hx hst
      have h2 := (hown.stored (k / 64) (.int .u64 ((x ||| 2 ^ (k % 64) : Nat)))).1
      rw [set_words, hst, show wordsOf (fun j => decide (j < k) || decide (j = k)) (sizeN n) = wordsOf (fun j => decide (j < k + 1)) (sizeN n) from wordsOf_congr fun j _ => by
        rw [← Bool.decide_or]; congr 1; simp; omega] at h2
      have hor := shl_or x k hx
      have hlt2 : (k : Int) / 64 < sizeN n := by omega
      have hB2 := hB.setCell (p := ⟨w.heap.size, k / 64, none⟩) (Nat.le_refl _) (.int .u64 ((x ||| 2 ^ (k % 64) : Nat)))
      clear hst hown hB
      go_wp2_with fail
      go_region
      go_wp2_with fail
      trace_state
      go_roundw
      case rel => exact ⟨k + 1, by omega, by simp, h2.drew, hB2.drew⟩
      case measure => simp [intOf]; omega
    · have hks : k = cutN n := by omega
      subst hks
      go_wp2_with fail
      refine bodyPost_ret (v := .slice (some ⟨w.heap.size, 0, none⟩) (sizeN n) (sizeN n)) (by simp only [results, Try.results103]; go_simp) rfl ⟨_, rfl, hown, hB⟩

end Go.Proofs.Ytjjmoibnmdbpeaa.Ws

namespace Go.Proofs.Ytjjmoibnmdbpeaa.Ws
set_option linter.unusedVariables false
set_option linter.unusedSimpArgs false
open Go Go.RowKit

/-- Word by word. -/
def zipW (g : Nat → Nat → Nat) (L M : List Nat) : List Nat := (List.range (max L.length M.length)).map fun i => g ((L[i]?).getD 0) ((M[i]?).getD 0)
theorem zipW_length (g : Nat → Nat → Nat) (L M : List Nat) : (zipW g L M).length = max L.length M.length := by simp [zipW]
theorem zipW_get {g : Nat → Nat → Nat} {L M : List Nat} {i : Nat} (h : i < (zipW g L M).length) : (zipW g L M)[i]'h = g ((L[i]?).getD 0) ((M[i]?).getD 0) := by simp [zipW]

def gMinus (x y : Nat) : Nat := x &&& (18446744073709551615 - y)
def gOr (x y : Nat) : Nat := x ||| y
def gAnd (x y : Nat) : Nat := x &&& y

theorem ok_at {L : List Nat} (h : okW L) (i : Nat) : (L[i]?).getD 0 < 18446744073709551616 := by
  by_cases hi : i < L.length
  · rw [List.getElem?_eq_getElem hi, Option.getD_some]; exact h _ (List.getElem_mem hi)
  · rw [List.getElem?_eq_none (by omega)]; simp

theorem minus1_any (x y : Nat) (hx : x < 18446744073709551616) (hy : y < 18446744073709551616) (w : World) :
    Calls Try.prog 152 #[.int .u64 x, .int .u64 y] w fun e w' => e = .returned (.int .u64 (gMinus x y : Nat)) ∧ w = w' := by
  have h1 := u64_andNot_nat x y hx hy
  rw [show x &&& (18446744073709551615 - y) = gMinus x y from rfl] at h1
  go_enter Try.func152, Try.ntmps152
  go_wp2_with fail
  go_ret
  exact ⟨rfl, rfl⟩

set_option maxRecDepth 100000 in
theorem both_minus (L M : List Nat) (hL : okW L) (hM : okW M) (hl : L.length ≤ 1000000) (hm : M.length ≤ 1000000) (v v' : Value) (w : World) (h : Sl w v encW L) (h' : Sl w v' encW M) :
    Calls Try.prog 151 #[v, v', .func (.func 152) #[] #[]] w fun e w' => ∃ o, e = .returned o ∧ w'.ownsRow w.heap.size 78 1 o (zipW gMinus L M).length ((zipW gMinus L M).flatMap encW) ∧ Below w.heap.size w w' := by
  obtain ⟨i0, hi, hz0, hz1, hz2⟩ := info_parts w_info
  obtain ⟨p, cap, hv⟩ : ∃ p cap, v = .slice p L.length cap := by obtain ⟨b, off, p, cap, hv, _⟩ := h; exact ⟨p, cap, hv⟩
  obtain ⟨p', cap', hv'⟩ : ∃ p cap, v' = .slice p M.length cap := by obtain ⟨b, off, p, cap, hv, _⟩ := h'; exact ⟨p, cap, hv⟩
  have hzl := zipW_length gMinus L M
  subst hv hv'
  rcases Nat.lt_or_ge L.length M.length with hlm | hlm
  · have hzn : (zipW gMinus L M).length = M.length := by omega
    rw [hzn]
    have hlm2 : (L.length : Int) < M.length := by omega
    have hZ := And.intro True.intro hzn
    clear hzl hzn
    go_enter Try.func151, Try.ntmps151
    go_wp2_with fail
    go_loopw [7, 14] (fun o i wr => ∃ k : Nat, k ≤ M.length ∧ i = .int .i64 k ∧ wr.ownsRow w.heap.size 78 1 o k (((zipW gMinus L M).take k).flatMap encW) ∧ Below w.heap.size w wr) (fun _ i _ => M.length - (intOf i).toNat)
    case atStart => exact ⟨0, Nat.zero_le _, rfl, World.ownsRow_nil _ _ _ _, Below.refl _ _⟩
    case round =>
      obtain ⟨k, hk, rfl, hown, hB⟩ := hrel
      by_cases hlt : k < M.length
      · have h1 := word_any L k _ wr (h.below hB)
        have h2 := word_any M k _ wr (h'.below hB)
        have h3 := minus1_any _ _ (ok_at hL k) (ok_at hM k) wr
        have hz : (zipW gMinus L M).take (k + 1) = (zipW gMinus L M).take k ++ [gMinus ((L[k]?).getD 0) ((M[k]?).getD 0)] := by
          rw [List.take_succ_eq_append_getElem (by rw [hZ.2]; exact hlt), zipW_get]
        have hw := hB.size
        generalize (L[k]?).getD 0 = x at h1 h3 hz
        generalize (M[k]?).getD 0 = y at h2 h3 hz
        have hZ2 := And.intro True.intro hz
        clear hz
        go_wp2_with (first | (go_at_call 153; first | (with_reducible refine Calls.same h1 ?_) | (with_reducible refine Calls.same h2 ?_)) | (go_at_call 152; refine Calls.same (h3) ?_) | (at_builtin; refine wpList_append_own _ rfl _ _ 24 rfl w.heap.size 78 i0 (.int .u64 0) 1 8 Try.underlying24 hi hz0 hz1 hz2 rfl (by decide) _ k (((zipW gMinus L M).take k).flatMap encW) rfl (hown.alloc _) _ 1 1 [.int .u64 (gMinus x y : Nat)] rfl rfl (news_at rfl) (by intro u hu; simp at hu; subst hu; rfl) (by unfold maxLen; omega) (by omega) (by simp; omega) ?_; intro v2 w1 hown' hgrow _))
        have hlt1 := hown.lt
        have hB2 : Below w.heap.size w w1 := Below.grown (w := _) (hB.alloc hw _) hgrow (by simp; omega) (fun q hq => (hlt1 q hq).1)
        go_wp2_with fail
        go_roundw
        case rel => exact ⟨k + 1, by omega, by simp, by rw [hZ2.2, List.flatMap_append]; exact hown', hB2⟩
        case measure => simp [intOf]; omega
      · have hks : k = M.length := by omega
        rw [hks, List.take_of_length_le (by omega)] at hown
        go_wp2_with fail
        refine bodyPost_ret (v := u7) (by simp only [results, Try.results151]; go_simp) rfl ⟨_, rfl, hown, hB⟩
  · have hzn : (zipW gMinus L M).length = L.length := by omega
    rw [hzn]
    have hlm2 : ¬ (L.length : Int) < M.length := by omega
    have hZ := And.intro True.intro hzn
    clear hzl hzn
    go_enter Try.func151, Try.ntmps151
    go_wp2_with fail
    go_loopw [7, 14] (fun o i wr => ∃ k : Nat, k ≤ L.length ∧ i = .int .i64 k ∧ wr.ownsRow w.heap.size 78 1 o k (((zipW gMinus L M).take k).flatMap encW) ∧ Below w.heap.size w wr) (fun _ i _ => L.length - (intOf i).toNat)
    case atStart => exact ⟨0, Nat.zero_le _, rfl, World.ownsRow_nil _ _ _ _, Below.refl _ _⟩
    case round =>
      obtain ⟨k, hk, rfl, hown, hB⟩ := hrel
      by_cases hlt : k < L.length
      · have h1 := word_any L k _ wr (h.below hB)
        have h2 := word_any M k _ wr (h'.below hB)
        have h3 := minus1_any _ _ (ok_at hL k) (ok_at hM k) wr
        have hz : (zipW gMinus L M).take (k + 1) = (zipW gMinus L M).take k ++ [gMinus ((L[k]?).getD 0) ((M[k]?).getD 0)] := by
          rw [List.take_succ_eq_append_getElem (by rw [hZ.2]; exact hlt), zipW_get]
        have hw := hB.size
        generalize (L[k]?).getD 0 = x at h1 h3 hz
        generalize (M[k]?).getD 0 = y at h2 h3 hz
        have hZ2 := And.intro True.intro hz
        clear hz
        go_wp2_with (first | (go_at_call 153; first | (with_reducible refine Calls.same h1 ?_) | (with_reducible refine Calls.same h2 ?_)) | (go_at_call 152; refine Calls.same (h3) ?_) | (at_builtin; refine wpList_append_own _ rfl _ _ 24 rfl w.heap.size 78 i0 (.int .u64 0) 1 8 Try.underlying24 hi hz0 hz1 hz2 rfl (by decide) _ k (((zipW gMinus L M).take k).flatMap encW) rfl (hown.alloc _) _ 1 1 [.int .u64 (gMinus x y : Nat)] rfl rfl (news_at rfl) (by intro u hu; simp at hu; subst hu; rfl) (by unfold maxLen; omega) (by omega) (by simp; omega) ?_; intro v2 w1 hown' hgrow _))
        have hlt1 := hown.lt
        have hB2 : Below w.heap.size w w1 := Below.grown (w := _) (hB.alloc hw _) hgrow (by simp; omega) (fun q hq => (hlt1 q hq).1)
        go_wp2_with fail
        go_roundw
        case rel => exact ⟨k + 1, by omega, by simp, by rw [hZ2.2, List.flatMap_append]; exact hown', hB2⟩
        case measure => simp [intOf]; omega
      · have hks : k = L.length := by omega
        rw [hks, List.take_of_length_le (by omega)] at hown
        go_wp2_with fail
        refine bodyPost_ret (v := u7) (by simp only [results, Try.results151]; go_simp) rfl ⟨_, rfl, hown, hB⟩

theorem minus_any (L M : List Nat) (hL : okW L) (hM : okW M) (hl : L.length ≤ 1000000) (hm : M.length ≤ 1000000) (v v' : Value) (w : World) (h : Sl w v encW L) (h' : Sl w v' encW M) :
    Calls Try.prog 146 #[v, v'] w fun e w' => ∃ o, e = .returned o ∧ w'.ownsRow w.heap.size 78 1 o (zipW gMinus L M).length ((zipW gMinus L M).flatMap encW) ∧ Below w.heap.size w w' := by
  have hb := both_minus L M hL hM hl hm v v' w h h'
  go_enter Try.func146, Try.ntmps146
  go_wp2_with ((go_at_call 151; refine' Calls.aftS _ _ (hb) _; rotate_left 2; (first | (with_reducible exact After.below _; rfl) | (with_reducible exact below_drew (After.below _); rfl) | (with_reducible exact below_set (After.below _) _ _; (go_simp; rfl)) | (with_reducible exact below_set (below_set (After.below _) _ _) _ _; (go_simp; rfl)) | (with_reducible exact below_set (below_set (below_set (After.below _) _ _) _ _) _ _; (go_simp; rfl)) | (with_reducible exact below_set (below_set (below_set (below_set (After.below _) _ _) _ _) _ _) _ _; (go_simp; rfl)) | (exact Below.refl _ _; rfl)); intro o x1 ho; have hle := After.le x1; (try simp at hle)))
  refine bodyPost_ret (v := o) (by simp only [results, Try.results146]; go_simp) rfl ⟨_, rfl, ho, x1.below⟩

end Go.Proofs.Ytjjmoibnmdbpeaa.Ws

namespace Go.Proofs.Ytjjmoibnmdbpeaa.Ws
set_option linter.unusedVariables false
set_option linter.unusedSimpArgs false
open Go Go.RowKit

theorem bit_minus (x y i : Nat) (hy : y < 18446744073709551616) (hi : i < 64) : (gMinus x y).testBit i = (x.testBit i && !y.testBit i) := by
  unfold gMinus
  have h := Nat.testBit_two_pow_sub_succ (n := 64) (x := y) (by simpa using hy) i
  rw [show (2 : Nat) ^ 64 - (y + 1) = 18446744073709551615 - y by omega] at h
  rw [Nat.testBit_and, h]
  simp [hi]
theorem bit_or (x y i : Nat) : (gOr x y).testBit i = (x.testBit i || y.testBit i) := by unfold gOr; rw [Nat.testBit_or]
theorem bit_and (x y i : Nat) : (gAnd x y).testBit i = (x.testBit i && y.testBit i) := by unfold gAnd; rw [Nat.testBit_and]

theorem has_zip {g : Nat → Nat → Nat} {f : Bool → Bool → Bool} (hf : f false false = false) {L M : List Nat} (hg : ∀ (k i : Nat), i < 64 → (g ((L[k]?).getD 0) ((M[k]?).getD 0)).testBit i = f (((L[k]?).getD 0).testBit i) (((M[k]?).getD 0).testBit i)) (m : Nat) :
    has (zipW g L M) m = f (has L m) (has M m) := by
  by_cases h : m / 64 < max L.length M.length
  · have h1 : (zipW g L M)[m / 64]? = some (g ((L[m / 64]?).getD 0) ((M[m / 64]?).getD 0)) := by simp [zipW, List.getElem?_range h]
    unfold has
    rw [h1, Option.getD_some, hg _ _ (Nat.mod_lt _ (by omega))]
  · rw [has_over (L := L) (by omega), has_over (L := M) (by omega), has_over (by rw [zipW_length]; omega), hf]

theorem has_minus {L M : List Nat} (hM : okW M) (m : Nat) : has (zipW gMinus L M) m = (has L m && !has M m) :=
  has_zip (f := fun a b => a && !b) rfl (fun k i hi => bit_minus _ _ _ (ok_at hM k) hi) m
theorem has_union {L M : List Nat} (m : Nat) : has (zipW gOr L M) m = (has L m || has M m) := has_zip rfl (fun k i hi => bit_or _ _ _) m
theorem has_inter {L M : List Nat} (m : Nat) : has (zipW gAnd L M) m = (has L m && has M m) := has_zip rfl (fun k i hi => bit_and _ _ _) m

theorem zip_ok {g : Nat → Nat → Nat} (hg : ∀ x y, x < 18446744073709551616 → y < 18446744073709551616 → g x y < 18446744073709551616) {L M : List Nat} (hL : okW L) (hM : okW M) : okW (zipW g L M) := by
  intro x hx
  simp only [zipW, List.mem_map] at hx
  obtain ⟨k, _, rfl⟩ := hx
  exact hg _ _ (ok_at hL k) (ok_at hM k)
theorem minus_lt (x y : Nat) (hx : x < 18446744073709551616) (hy : y < 18446744073709551616) : gMinus x y < 18446744073709551616 := by
  unfold gMinus
  exact Nat.lt_of_le_of_lt Nat.and_le_left hx
theorem or_lt (x y : Nat) (hx : x < 18446744073709551616) (hy : y < 18446744073709551616) : gOr x y < 18446744073709551616 := by
  unfold gOr
  exact Nat.or_lt_two_pow (n := 64) hx hy
theorem and_lt (x y : Nat) (hx : x < 18446744073709551616) (hy : y < 18446744073709551616) : gAnd x y < 18446744073709551616 := by
  unfold gAnd
  exact Nat.lt_of_le_of_lt Nat.and_le_left hx

/-- All of one's numbers are another one's. -/
def withinB (L M : List Nat) : Bool := decide (size (zipW gMinus L M) = 0)
theorem size_zero {L : List Nat} : size L = 0 ↔ ∀ m, has L m = false := by
  constructor
  · intro h m
    by_cases hm : m < 64 * L.length
    · have := cnt_eq (p := fun _ => false) (q := has L) (64 * L.length) (fun i _ h => by cases h) (by rw [cnt_zero]; exact h.symm) m hm
      exact this.symm
    · exact has_over (by omega)
  · intro h
    unfold size
    rw [cnt_congr (q := fun _ => false) _ (fun i _ => h i), cnt_zero]
theorem within_iff {L M : List Nat} (hM : okW M) : withinB L M = true ↔ ∀ m, has L m = true → has M m = true := by
  unfold withinB
  rw [decide_eq_true_iff, size_zero]
  refine forall_congr' fun m => ?_
  rw [has_minus hM]
  cases has L m <;> cases has M m <;> simp

theorem within_any (L M : List Nat) (hL : okW L) (hM : okW M) (hl : L.length ≤ 1000000) (hm : M.length ≤ 1000000) (v v' : Value) (w : World) (h : Sl w v encW L) (h' : Sl w v' encW M) :
    Calls Try.prog 130 #[v, v'] w fun e w' => e = .returned (.bool (withinB L M)) ∧ Below w.heap.size w w' := by
  have hb := minus_any L M hL hM hl hm v v' w h h'
  have hok := zip_ok minus_lt hL hM
  have hln : (zipW gMinus L M).length ≤ 1000000 := by rw [zipW_length]; omega
  have hW : (((size (zipW gMinus L M) : Nat) : Int) == 0) = withinB L M := by unfold withinB; rw [Bool.eq_iff_iff]; simp
  generalize withinB L M = y at hW ⊢
  generalize zipW gMinus L M = Z at hb hok hln hW
  go_enter Try.func130, Try.ntmps130
  go_wp2_with (first | (go_at_call 146; refine' Calls.aftS _ _ (hb) _; rotate_left 2; (first | (with_reducible exact After.below _; rfl) | (with_reducible exact below_drew (After.below _); rfl) | (with_reducible exact below_set (After.below _) _ _; (go_simp; rfl)) | (with_reducible exact below_set (below_set (After.below _) _ _) _ _; (go_simp; rfl)) | (with_reducible exact below_set (below_set (below_set (After.below _) _ _) _ _) _ _; (go_simp; rfl)) | (with_reducible exact below_set (below_set (below_set (below_set (After.below _) _ _) _ _) _ _) _ _; (go_simp; rfl)) | (exact Below.refl _ _; rfl)); intro o x1 ho; have hle := After.le x1; (try simp at hle)) | (go_at_call 145; refine Calls.same (len_any Z hok hln _ _ (Sl.of_own ho)) ?_))
  refine bodyPost_ret (v := .bool y) (by simp only [results, Try.results130]; go_simp) rfl ⟨rfl, x1.below⟩

def fitsB (L : List Nat) (n : Int) : Bool := decide (L.length = sizeN n) && withinB L (fullW n)

theorem fullW_len (n : Int) : (fullW n).length = sizeN n := wordsOf_length _ _
theorem fullW_ok (n : Int) : okW (fullW n) := wordsOf_ok _ _

theorem fits_any (L : List Nat) (hL : okW L) (hl : L.length ≤ 1000000) (n : Int) (v : Value) (w : World) (h : Sl w v encW L) :
    Calls Try.prog 99 #[v, .int .i64 n] w fun e w' => e = .returned (.bool (fitsB L n)) ∧ Below w.heap.size w w' := by
  obtain ⟨p, cap, hv⟩ : ∃ p cap, v = .slice p L.length cap := by obtain ⟨b, off, p, cap, hv, _⟩ := h; exact ⟨p, cap, hv⟩
  have hs := sizeN_le n
  have hfl := fullW_len n
  by_cases he : L.length = sizeN n
  · have hW : fitsB L n = withinB L (fullW n) := by unfold fitsB; simp [he]
    have hf := full_any n w
    rw [hW]
    subst hv
    have he2 : ((L.length : Int) == (sizeN n : Int)) = true := by simp [he]
    rw [← hfl] at hf
    have hw2 := fun v' w' h2 h3 => within_any L (fullW n) hL (fullW_ok n) hl (by omega) (.slice p L.length cap) v' w' h2 h3
    generalize withinB L (fullW n) = y at hw2 ⊢
    clear he hfl hW
    go_enter Try.func99, Try.ntmps99
    go_wp2_with (first | (go_at_call 69; refine Calls.same (size_any _ _) ?_) | (go_at_call 103; refine' Calls.aftS _ _ (hf) _; rotate_left 2; (first | (with_reducible exact After.below _; rfl) | (with_reducible exact below_drew (After.below _); rfl) | (with_reducible exact below_set (After.below _) _ _; (go_simp; rfl)) | (with_reducible exact below_set (below_set (After.below _) _ _) _ _; (go_simp; rfl)) | (with_reducible exact below_set (below_set (below_set (After.below _) _ _) _ _) _ _; (go_simp; rfl)) | (with_reducible exact below_set (below_set (below_set (below_set (After.below _) _ _) _ _) _ _) _ _; (go_simp; rfl)) | (exact Below.refl _ _; rfl)); intro o x1 ho; have hle := After.le x1; (try simp at hle)) | (go_at_call 130; refine' Calls.aft _ _ (hw2 _ _ (h.below x1.below) (Sl.of_own ho)) _; rotate_left 2; (first | (with_reducible exact After.below _; rfl) | (with_reducible exact below_drew (After.below _); rfl) | (with_reducible exact below_set (After.below _) _ _; (go_simp; rfl)) | (with_reducible exact below_set (below_set (After.below _) _ _) _ _; (go_simp; rfl)) | (with_reducible exact below_set (below_set (below_set (After.below _) _ _) _ _) _ _; (go_simp; rfl)) | (with_reducible exact below_set (below_set (below_set (below_set (After.below _) _ _) _ _) _ _) _ _; (go_simp; rfl)) | (exact Below.refl _ _; rfl)); intro x2; have hle := After.le x2; (try simp at hle)))
    refine bodyPost_ret (v := .bool y) (by simp only [results, Try.results99]; go_simp) rfl ⟨rfl, x2.below⟩
  · have hW : fitsB L n = false := by unfold fitsB; simp [he]
    rw [hW]
    subst hv
    have he2 : ((L.length : Int) == (sizeN n : Int)) = false := by rw [beq_eq_false_iff_ne]; omega
    clear he hfl hW
    go_enter Try.func99, Try.ntmps99
    go_wp2_with (first | (go_at_call 69; refine Calls.same (size_any _ _) ?_))
    refine bodyPost_ret (v := .bool false) (by simp only [results, Try.results99]; go_simp) rfl ⟨rfl, Below.refl _ _⟩

theorem fullW_has (n : Int) (m : Nat) : has (fullW n) m = decide (m < cutN n) := by
  unfold fullW
  rw [has_wordsOf, ← Bool.decide_and]
  congr 1
  have : cutN n ≤ 64 * sizeN n := by unfold sizeN; omega
  simp; omega

theorem fits_iff {L : List Nat} {n : Int} (hl : L.length = sizeN n) : fitsB L n = true ↔ ∀ m, cutN n ≤ m → m < 64 * L.length → has L m = false := by
  unfold fitsB
  rw [Bool.and_eq_true, decide_eq_true_iff, within_iff (fullW_ok n)]
  constructor
  · rintro ⟨_, h⟩ m h1 h2
    cases hm : has L m with
    | false => rfl
    | true =>
      have := h m hm
      rw [fullW_has] at this
      simp at this; omega
  · intro h
    refine ⟨hl, fun m hm => ?_⟩
    rw [fullW_has]
    simp only [decide_eq_true_iff]
    by_cases h1 : m < cutN n
    · exact h1
    · by_cases h2 : m < 64 * L.length
      · rw [h m (by omega) h2] at hm; cases hm
      · rw [has_over (by omega)] at hm; cases hm

set_option maxRecDepth 100000 in
theorem rfits_any (L : List Nat) (hL : okW L) (n : Int) (v : Value) (w : World) (h : Sl w v encW L) :
    Calls Try.prog 111 #[v, .int .i64 n] w fun e w' => e = .returned (.bool (fitsB L n)) ∧ w = w' := by
  obtain ⟨p, cap, hv⟩ : ∃ p cap, v = .slice p L.length cap := by obtain ⟨b, off, p, cap, hv, _⟩ := h; exact ⟨p, cap, hv⟩
  have hs := sizeN_le n
  have hcut := cutN_le n
  by_cases he : L.length = sizeN n
  · have hF := And.intro True.intro (fits_iff he)
    subst hv
    have he2 : ((L.length : Int) != (sizeN n : Int)) = false := by simp [he]
    have hll : L.length ≤ 16 := by omega
    clear he
    go_enter Try.func111, Try.ntmps111
    go_wp2_with (first | (go_at_call 74; refine Calls.same (rsize_any _ _) ?_) | (go_at_call 114; refine Calls.same (width_any _ _) ?_))
    go_loop [5] (fun i => ∃ k : Nat, k ≤ 2048 ∧ cutN n ≤ k ∧ i = .int .i64 k ∧ ∀ m, cutN n ≤ m → m < k → has L m = false) (fun i => 64 * L.length - (intOf i).toNat)
    case atStart => exact ⟨cutN n, by omega, Nat.le_refl _, rfl, fun m h1 h2 => by omega⟩
    case round =>
      obtain ⟨k, hk, hck, rfl, hno⟩ := hrel
      have hN := And.intro True.intro hno
      clear hno
      by_cases hlt : k < 64 * L.length
      · have hlt2 : (k : Int) < 64 * L.length := by omega
        have hh := rhas_any L hL k (by omega) _ w h
        cases hb : has L k
        · rw [hb] at hh
          go_wp2_with (first | (go_at_call 136; refine Calls.same (hh) ?_))
          refine ⟨⟨k + 1, by omega, by omega, by simp, fun m h1 h2 => ?_⟩, by simp [intOf]; omega⟩
          by_cases e : m = k
          · rw [e]; exact hb
          · exact hN.2 m h1 (by omega)
        · rw [hb] at hh
          go_wp2_with (first | (go_at_call 136; refine Calls.same (hh) ?_))
          have hf : fitsB L n = false := by
            cases hq : fitsB L n with
            | false => rfl
            | true => rw [(hF.2.1 hq) k hck hlt] at hb; cases hb
          refine bodyPost_ret (v := .bool false) (by simp only [results, Try.results111]; go_simp) rfl ⟨by rw [hf], rfl⟩
      · have hlt2 : ¬ (k : Int) < 64 * L.length := by omega
        go_wp2_with fail
        have hf : fitsB L n = true := hF.2.2 fun m h1 h2 => hN.2 m h1 (by omega)
        refine bodyPost_ret (v := .bool true) (by simp only [results, Try.results111]; go_simp) rfl ⟨by rw [hf], rfl⟩
  · have hW : fitsB L n = false := by unfold fitsB; simp [he]
    rw [hW]
    subst hv
    have he2 : ((L.length : Int) != (sizeN n : Int)) = true := by simp; omega
    clear he hW
    go_enter Try.func111, Try.ntmps111
    go_wp2_with (first | (go_at_call 74; refine Calls.same (rsize_any _ _) ?_))
    refine bodyPost_ret (v := .bool false) (by simp only [results, Try.results111]; go_simp) rfl ⟨rfl, rfl⟩

end Go.Proofs.Ytjjmoibnmdbpeaa.Ws

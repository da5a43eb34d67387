/- WALKS of package wordset and its reference: widths, sizes, how many bits. -/
import Derived.Test.YtjjopjpchgajcaaDoorWords
import Derived.Test.YtjjopjpchgajcaaDoorOwn
import Derived.Test.YtjjopjpchgajcaaDoorProg
import Derived.LoopTactic
namespace Go.Proofs.YtjjopjpchgajcaaDoor.Ws
set_option linter.unusedVariables false
set_option linter.unusedSimpArgs false
open Go Go.RowKit

/-- A width that counts. -/
def cutN (w : Int) : Nat := if w < 0 then 0 else if w > 1024 then 1024 else w.toNat
theorem cutN_le (w : Int) : cutN w ≤ 1024 := by unfold cutN; split <;> (try split) <;> omega
def sizeN (w : Int) : Nat := (cutN w + 63) / 64
theorem sizeN_le (w : Int) : sizeN w ≤ 16 := by have := cutN_le w; unfold sizeN; omega

theorem cut_any (n : Int) (w : World) : Calls Tryd.prog 28 #[.int .i64 n] w fun e w' => e = .returned (.int .i64 (cutN n)) ∧ w = w' := by
  go_enter Tryd.func28, Tryd.ntmps28
  go_wp2_with fail
  all_goals (go_ret; refine ⟨?_, rfl⟩; refine congrArg (fun b => Ending.returned (Value.int .i64 b)) (?_ : (_ : Int) = _); unfold cutN; (repeat' split) <;> omega)

theorem width_any (n : Int) (w : World) : Calls Tryd.prog 14 #[.int .i64 n] w fun e w' => e = .returned (.int .i64 (cutN n)) ∧ w = w' := by
  go_enter Tryd.func14, Tryd.ntmps14
  go_wp2_with fail
  all_goals (go_ret; refine ⟨?_, rfl⟩; refine congrArg (fun b => Ending.returned (Value.int .i64 b)) (?_ : (_ : Int) = _); unfold cutN; (repeat' split) <;> omega)

theorem size_any (n : Int) (w : World) : Calls Tryd.prog 8 #[.int .i64 n] w fun e w' => e = .returned (.int .i64 (sizeN n)) ∧ w = w' := by
  have h := cutN_le n
  go_enter Tryd.func8, Tryd.ntmps8
  go_wp2_with ((go_at_call 28; refine Calls.same (cut_any _ _) ?_))
  go_ret; refine ⟨?_, rfl⟩; refine congrArg (fun b => Ending.returned (Value.int .i64 b)) (?_ : (_ : Int) = _); unfold sizeN; omega

theorem rsize_any (n : Int) (w : World) : Calls Tryd.prog 9 #[.int .i64 n] w fun e w' => e = .returned (.int .i64 (sizeN n)) ∧ w = w' := by
  have h := cutN_le n
  go_enter Tryd.func9, Tryd.ntmps9
  go_wp2_with ((go_at_call 14; refine Calls.same (width_any _ _) ?_))
  go_ret; refine ⟨?_, rfl⟩; refine congrArg (fun b => Ending.returned (Value.int .i64 b)) (?_ : (_ : Int) = _); unfold sizeN; omega

theorem u64_wrap (x : Nat) (h : x < 18446744073709551616) : IntKind.u64.wrap (x : Int) = x := by
  simp [IntKind.wrap, IntKind.bits, IntKind.signed]; omega

theorem low7 (y q : Nat) (h : y % 128 = q) : bits .and .i64 (wrap64 (y : Int)) 127 = (q : Int) := by
  rw [i64_and127]
  unfold wrap64
  omega

/-- How many bits a word has (never unfolded). -/
noncomputable def ones (x : Nat) : Nat := Classical.choose (⟨Bt.pop 64 x, rfl⟩ : ∃ q, q = Bt.pop 64 x)
theorem ones_eq (x : Nat) : ones x = Bt.pop 64 x := Classical.choose_spec (⟨Bt.pop 64 x, rfl⟩ : ∃ q, q = Bt.pop 64 x)
theorem ones_le (x : Nat) : ones x ≤ 64 := by rw [ones_eq]; exact Bt.pop_le 64 x

theorem ones_any (x : Nat) (hx : x < 18446744073709551616) (w : World) : Calls Tryd.prog 30 #[.int .u64 x] w fun e w' => e = .returned (.int .i64 (ones x)) ∧ w = w' := by
  obtain ⟨x1, e1⟩ : ∃ x1, x1 = (x / 2 &&& 6148914691236517205) + (x &&& 6148914691236517205) := ⟨_, rfl⟩
  obtain ⟨x2, e2⟩ : ∃ x2, x2 = (x1 / 4 &&& 3689348814741910323) + (x1 &&& 3689348814741910323) := ⟨_, rfl⟩
  obtain ⟨x3, e3⟩ : ∃ x3, x3 = (x2 / 16 + x2) &&& 1085102592571150095 := ⟨_, rfl⟩
  obtain ⟨l1, l2, l3, l4, l5, l6, l7⟩ := Bt.ones64 x x1 x2 x3 e1 e2 e3
  rw [← ones_eq] at l7
  generalize ones x = q at l7 ⊢
  have f1 : bits .and .u64 ((x : Int) / 2) 6148914691236517205 + bits .and .u64 (x : Int) 6148914691236517205 = (x1 : Int) := by
    rw [u64_and _ _ (by omega) (by omega) (by omega) (by omega), u64_and _ _ (by omega) (by omega) (by omega) (by omega), e1]
    have a : ((x : Int) / 2).toNat = x / 2 := by omega
    rw [a]; rfl
  have f2 : bits .and .u64 ((x1 : Int) / 4) 3689348814741910323 + bits .and .u64 (x1 : Int) 3689348814741910323 = (x2 : Int) := by
    rw [u64_and _ _ (by omega) (by omega) (by omega) (by omega), u64_and _ _ (by omega) (by omega) (by omega) (by omega), e2]
    have a : ((x1 : Int) / 4).toNat = x1 / 4 := by omega
    rw [a]; rfl
  obtain ⟨y, ey⟩ : ∃ y, y = x2 / 16 + x2 := ⟨_, rfl⟩
  have f3 : (x2 : Int) / 16 + x2 = (y : Int) := by omega
  rw [← ey] at l3 e3
  have f4 : bits .and .u64 (y : Int) 1085102592571150095 = (x3 : Int) := by
    rw [u64_and _ _ (by omega) (by omega) (by omega) (by omega), e3]; rfl
  obtain ⟨y1, ey1⟩ : ∃ y, y = x3 + x3 / 256 := ⟨_, rfl⟩
  rw [← ey1] at l4 l5 l6 l7
  have f5 : (x3 : Int) + x3 / 256 = (y1 : Int) := by omega
  obtain ⟨y2, ey2⟩ : ∃ y, y = y1 + y1 / 65536 := ⟨_, rfl⟩
  rw [← ey2] at l5 l6 l7
  have f6 : (y1 : Int) + y1 / 65536 = (y2 : Int) := by omega
  obtain ⟨y3, ey3⟩ : ∃ y, y = y2 + y2 / 4294967296 := ⟨_, rfl⟩
  rw [← ey3] at l6 l7
  have f7 : (y2 : Int) + y2 / 4294967296 = (y3 : Int) := by omega
  have g1 := u64_wrap x1 l1
  have g2 := u64_wrap x2 l2
  have g3 := u64_wrap y l3
  have g4 := u64_wrap y1 l4
  have g5 := u64_wrap y2 l5
  have g6 := u64_wrap y3 l6
  have f8 := low7 y3 q l7
  clear e1 e2 e3 ey ey1 ey2 ey3 l7
  go_enter Tryd.func30, Tryd.ntmps30
  go_wp2_with fail
  go_ret
  exact ⟨rfl, rfl⟩

/-- How a word lies. -/
def encW (x : Nat) : List Value := [.int .u64 x]
theorem encW_len (x : Nat) : (encW x).length = 1 := rfl
def intOf : Value → Int | .int _ q => q | _ => 0

/-- A slice of words, opened. -/
theorem Sl.words {w : World} {v : Value} {L : List Nat} (h : Sl w v encW L) :
    ∃ (b off : Nat) (p : Option Addr) (cap : Nat), v = .slice p L.length cap ∧ (0 < L.length → p = some ⟨b, off, none⟩) ∧
      ∀ (i : Nat) (hi : i < L.length), w.cell? ⟨b, off + i, none⟩ = some (.int .u64 (L[i]'hi : Nat)) := by
  obtain ⟨b, off, p, cap, hv, hp, hc⟩ := h.open (k := 1) encW_len
  exact ⟨b, off, p, cap, hv, hp, fun i hi => by simpa using hc i hi 0 _ rfl⟩

theorem size_take {L : List Nat} {k : Nat} (hk : k < L.length) : size (L.take (k + 1)) = size (L.take k) + ones (L[k]'hk) := by
  rw [List.take_succ_eq_append_getElem hk, size_snoc, ones_eq]

theorem len_any (L : List Nat) (hok : okW L) (hlen : L.length ≤ 1000000) (v : Value) (w : World) (h : Sl w v encW L) :
    Calls Tryd.prog 13 #[v] w fun e w' => e = .returned (.int .i64 (size L)) ∧ w = w' := by
  obtain ⟨b, off, p, cap, rfl, hp, hc⟩ := Sl.words h
  go_enter Tryd.func13, Tryd.ntmps13
  go_wp2_with fail
  go_loop [3, 8] (fun n i => ∃ k : Nat, k ≤ L.length ∧ i = .int .i64 k ∧ n = .int .i64 (size (L.take k))) (fun _ i => L.length - (intOf i).toNat)
  case atStart => exact ⟨0, Nat.zero_le _, rfl, by simp [size_nil]⟩
  case round =>
    obtain ⟨k, hk, rfl, rfl⟩ := hrel
    by_cases hlt : k < L.length
    · have hpp := hp (by omega)
      subst hpp
      have c0 := hc k hlt
      have hg := World.block_lt_of_cell? _ _ c0
      have hx := hok _ (List.getElem_mem hlt)
      have hs := size_take hlt
      have h1 := size_le (L.take k)
      have h2 := ones_le (L[k]'hlt)
      have h3 : (L.take k).length ≤ k := by simp; omega
      clear hc
      generalize L[k] = x at c0 hx hs h2
      go_wp2_with ((go_at_call 30; refine Calls.same (ones_any x hx _) ?_))
      refine ⟨⟨k + 1, by omega, by simp, ?_⟩, by simp [intOf]; omega⟩
      rw [hs]; simp
    · have hks : k = L.length := by omega
      subst hks
      go_wp2_with fail
      go_ret
      exact ⟨rfl, rfl⟩

theorem word_any (L : List Nat) (i : Nat) (v : Value) (w : World) (h : Sl w v encW L) :
    Calls Tryd.prog 35 #[v, .int .i64 i] w fun e w' => e = .returned (.int .u64 ((L[i]?).getD 0 : Nat)) ∧ w = w' := by
  obtain ⟨b, off, p, cap, rfl, hp, hc⟩ := Sl.words h
  by_cases hi : i < L.length
  · have hpp := hp (by omega)
    subst hpp
    have c0 := hc i hi
    have hg := World.block_lt_of_cell? _ _ c0
    have hge : ¬ (L.length : Int) ≤ i := by omega
    rw [List.getElem?_eq_getElem hi, Option.getD_some]
    clear hc
    generalize L[i] = x at c0 ⊢
    go_enter Tryd.func35, Tryd.ntmps35
    go_wp2_with fail
    go_ret
    exact ⟨rfl, rfl⟩
  · have hge : (L.length : Int) ≤ i := by omega
    rw [List.getElem?_eq_none (by omega), Option.getD_none]
    clear hc
    go_enter Tryd.func35, Tryd.ntmps35
    go_wp2_with fail
    go_ret
    exact ⟨rfl, rfl⟩

end Go.Proofs.YtjjopjpchgajcaaDoor.Ws

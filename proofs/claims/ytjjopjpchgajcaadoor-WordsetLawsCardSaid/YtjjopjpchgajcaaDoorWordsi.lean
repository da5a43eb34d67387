/- WALKS: math/bits.TrailingZeros64 (its table is laid); wordset.all, wordset.List (a range over a function). -/
import Derived.RangeFuncBox
import Derived.RangeFuncLeaves
import Derived.RangeFuncNested
import Derived.RangeFuncBound
import Derived.RangeFuncCalls
import Derived.Shelf.Abstract
import Derived.Shelf.RegionOpen
import Derived.WalkKit
import Derived.OwnWalkIn
import Derived.TacticsInMore
import Derived.LoopNIn
import Derived.LoopIn
import Derived.Maps.AppendAt
import Derived.Test.YtjjopjpchgajcaaDoorTz
import Derived.Test.YtjjopjpchgajcaaDoorWordsh
namespace Go.Proofs.YtjjopjpchgajcaaDoor.Ws
set_option linter.unusedVariables false
set_option linter.unusedSimpArgs false
open Go Go.RowKit Go.Shelf

attribute [local go_sem] Oper.semAt_some

/-- The table that math/bits looks into lies where it was laid. -/
def Tab (w : World) : Prop := ∀ i k, tzTab[i]? = some k → w.cell? ⟨0, i, none⟩ = some (.int .u8 (k : Nat))
theorem Tab.below {n : Nat} {a b : World} (hn : 0 < n) (h : Tab a) (hb : Below n a b) : Tab b := fun i k hk => (hb.cell (p := ⟨0, i, none⟩) hn).trans (h i k hk)
theorem Tab.lt {w : World} (h : Tab w) : 0 < w.heap.size := by
  have := h 0 0 rfl
  rcases Nat.eq_zero_or_pos w.heap.size with h0 | h0
  · simp [World.cell?, h0] at this
  · exact h0

theorem tz0_any (w : World) : Calls Tryd.prog 38 #[.int .u64 0] w fun e w' => e = .returned (.int .i64 64) ∧ w = w' := by
  go_enter Tryd.func38, Tryd.ntmps38
  go_wp2_with fail
  go_ret
  exact ⟨rfl, rfl⟩

theorem tz_any (x : Nat) (h0 : 0 < x) (hx : x < 18446744073709551616) (w : World) (ht : Tab w) : Calls Tryd.prog 38 #[.int .u64 x] w fun e w' => e = .returned (.int .i64 (tz x)) ∧ w = w' := by
  have h1 := tz_and h0 hx
  have hk := tz_lt h0 hx
  obtain ⟨hi, hc⟩ := tzTab_at hk
  have hcell := ht _ _ hc
  have hp : 2 ^ tz x < 18446744073709551616 := by
    have : 2 ^ tz x < 2 ^ 64 := Nat.pow_lt_pow_right (by omega) hk
    have e : (2 : Nat) ^ 64 = 18446744073709551616 := by kernel_rfl
    omega
  have hsx : 18446744073709551616 - x < 18446744073709551616 := by omega
  have f1 : IntKind.u64.wrap (-(x : Int)) = ((18446744073709551616 - x : Nat) : Int) := by
    have : -(x : Int) = ((18446744073709551616 - x : Nat) : Int) - 18446744073709551616 := by omega
    simp only [IntKind.wrap, IntKind.bits, IntKind.signed]
    simp
    omega
  have f2 : bits .and .u64 (x : Int) ((18446744073709551616 - x : Nat) : Int) = ((2 ^ tz x : Nat) : Int) := by
    rw [u64_and _ _ (by omega) (by omega) (by omega) (by omega), ← h1]; rfl
  generalize tz x = k at hk h1 hi hc hcell hp f2 ⊢
  obtain ⟨p, ep⟩ : ∃ p, p = 2 ^ k := ⟨_, rfl⟩
  rw [← ep] at hp hi hc hcell f2
  obtain ⟨j, ej⟩ : ∃ j, j = p * 285870213051353865 % 18446744073709551616 / 288230376151711744 := ⟨_, rfl⟩
  have f3 : IntKind.u64.wrap ((p : Int) * 285870213051353865) / 288230376151711744 = (j : Int) := by
    have e0 : (p : Int) * 285870213051353865 = ((p * 285870213051353865 : Nat) : Int) := rfl
    rw [e0, ej]
    generalize p * 285870213051353865 = m
    simp only [IntKind.wrap, IntKind.bits, IntKind.signed]
    simp
  rw [← ej] at hi hcell
  have F : IntKind.u64.wrap (bits .and .u64 (x : Int) (IntKind.u64.wrap (-(x : Int))) * 285870213051353865) / 288230376151711744 = (j : Int) := by rw [f1, f2, f3]
  have hx0 : ((x : Int) == 0) = false := by simp; omega
  clear hc h1 f1 f2 f3 ej ep
  go_enter Tryd.func38, Tryd.ntmps38
  go_wp2_with fail
  go_ret
  exact ⟨rfl, rfl⟩

theorem tz_step (x : Nat) (h0 : 0 < x) (hx : x < 18446744073709551616) : bits .and .u64 (x : Int) ((x : Int) - 1) = ((x &&& (x - 1) : Nat) : Int) := by
  have e : (x : Int) - 1 = ((x - 1 : Nat) : Int) := by omega
  rw [e, u64_and _ _ (by omega) (by omega) (by omega) (by omega)]
  rfl

set_option maxRecDepth 100000 in
set_option maxHeartbeats 2000000 in
/-- wordset.all's closure, for every loop body that keeps what lay below n₀. -/
theorem all1_in (F : Fence) (n : Nat) (h7 : F.fn 37) (h8 : F.fn 38) (hro : F.round = none) (hn : 2 ≤ n) (l Bs n₀ : Nat) (L : List Nat) (hok : okW L) (hl : L.length ≤ 1000000) (hn0 : 0 < n₀)
    (b off cap : Nat) (p : Option Addr) (hp : 0 < L.length → p = some ⟨b, off, none⟩) (hb : 0 < L.length → b < n₀) (J Jx : List Int → World → Prop)
    (htz : ∀ (x : Nat) W, 0 < x → x < 18446744073709551616 → Tab W → CallsIn F (n - 1) Tryd.prog 38 #[.int .u64 x] W fun e W' => e = .returned (.int .i64 (tz x)) ∧ W = W')
    (hY : ∀ pre x W, J pre W → pre.length < (listW L (64 * L.length)).length → YieldAt F (n - 1) Tryd.prog l #[.int .i64 x] W fun e W' =>
      (e = .returned (.bool true) ∧ J (pre ++ [x]) W' ∧ Below n₀ W W') ∨ (e = .returned (.bool false) ∧ Jx (pre ++ [x]) W'))
    (W : World) (hT : Tab W) (hBs : W.cell? ⟨Bs, 0, none⟩ = some (.slice p L.length cap)) (hc : ∀ j, (h : j < L.length) → W.cell? ⟨b, off + j, none⟩ = some (.int .u64 (L[j]'h : Nat))) (h0 : J [] W) :
    CallsIn F n Tryd.prog 37 #[.func (.yield l) #[] #[], .pointer (some ⟨Bs, 0, none⟩)] W fun e W' => (∃ v, e = .returned v) ∧
      ((∃ ys, ys = listW L (64 * L.length) ∧ J ys W') ∨ (∃ pre, pre <+: listW L (64 * L.length) ∧ Jx pre W')) := by
  refine callsIn_of_wp Tryd.func37 rfl h7 ?_ hro
  simp only [Tryd.ntmps37, List.size_toArray, List.length_cons, List.length_nil, Nat.reduceAdd, Nat.reduceSub, Array.replicate_succ, Array.replicate_zero, List.push_toArray, List.append_toArray, List.nil_append, List.cons_append]
  gi_wp2
  gi_loopw [3, 4, 7] (fun _ _ i wr => ∃ k : Nat, k ≤ L.length ∧ i = .int .i64 k ∧ J (listW L (64 * k)) wr ∧ Below n₀ W wr)
    (fun _ _ i _ => L.length - (intOf i).toNat)
  case atStart => exact ⟨0, Nat.zero_le _, rfl, h0, Below.refl _ _⟩
  case round =>
    obtain ⟨k, hk, rfl, hJs, hB⟩ := hrel
    by_cases hlt : k < L.length
    · obtain rfl := hp (by omega)
      have hb' := hb (by omega)
      have hcx : wr.cell? ⟨b, off + k, none⟩ = some (.int .u64 (L[k]'hlt : Nat)) := (hB.cell (p := ⟨b, off + k, none⟩) hb').trans (hc k hlt)
      have hxk := hok _ (List.getElem_mem hlt)
      have hword := listW_word L hlt
      have hlt2 : (k : Int) < L.length := by omega
      generalize (L[k]'hlt : Nat) = x0 at hcx hxk hword
      gi_wp2
      gi_loopw [4] (fun z wr => ∃ (x : Nat) (pre : List Int), x < 18446744073709551616 ∧ z = .int .u64 x ∧ pre ++ (bitsL x).map (fun i : Nat => ((64 * k + i : Nat) : Int)) = listW L (64 * (k + 1)) ∧ J pre wr ∧ Below n₀ W wr)
        (fun z _ => (intOf z).toNat)
      case atStart => exact ⟨x0, _, hxk, rfl, hword.symm, hJs, hB⟩
      case round =>
        clear hJs hB hword hcx hxk
        obtain ⟨x, pre, hx, rfl, hpre, hJs, hB⟩ := hrel
        rcases Nat.eq_zero_or_pos x with rfl | hx0
        · gi_wp2
          have e : pre = listW L (64 * (k + 1)) := by rw [← hpre, bitsL_zero]; simp
          exact ⟨⟨k + 1, by omega, by simp, by rw [← e]; exact hJs, hB⟩, by simp [intOf]; omega⟩
        · have hst := bitsL_step hx0 hx
          have hTz := htz x wr hx0 hx (hT.below hn0 hB)
          have hk64 := tz_lt hx0 hx
          have hnx := tz_step x hx0 hx
          have hdec := and_pred_lt hx0
          have hn1 : 1 ≤ n := by omega
          have hxn : ((x : Int) == 0) = false := by simp; omega
          obtain ⟨fn, tmps, assign, body, hy, hR⟩ := hY pre ((k : Int) * 64 + (tz x : Int)) wr hJs (by
            have h1 : (listW L (64 * (k + 1))).length ≤ (listW L (64 * L.length)).length := (listW_prefix L (by omega)).length_le
            rw [← hpre, hst] at h1
            simp at h1
            omega)
          gi_wp2_with (gi_at_call 38; refine hTz.mono ?_; rintro e w' ⟨rfl, rfl⟩)
          refine hR.mono ?_
          have hpre2 : (pre ++ [(k : Int) * 64 + (tz x : Int)]) ++ (bitsL (x &&& (x - 1))).map (fun i : Nat => ((64 * k + i : Nat) : Int)) = listW L (64 * (k + 1)) := by
            rw [← hpre, hst]
            have e : ((64 * k + tz x : Nat) : Int) = (k : Int) * 64 + (tz x : Int) := by omega
            rw [List.map_cons, e, List.append_assoc, List.singleton_append]
          rintro e W3 (⟨rfl, hJ3, hk3⟩ | ⟨rfl, hJx3⟩)
          · gi_wp2
            exact ⟨⟨_, _, by omega, rfl, hpre2, hJ3, hB.trans hk3⟩, by simp [intOf]; omega⟩
          · gi_wp2
            refine bodyPost_ret (results_none rfl _ _ _) rfl ?_
            refine ⟨⟨_, rfl⟩, .inr ⟨_, ?_, hJx3⟩⟩
            exact List.IsPrefix.trans ⟨_, hpre2⟩ (listW_prefix L (by omega))
    · obtain rfl : k = L.length := by omega
      gi_wp2
      go_end0
      exact ⟨⟨_, rfl⟩, .inl ⟨_, rfl, hJs⟩⟩

theorem all_in (F : Fence) (n : Nat) (h5 : F.fn 36) (hro : F.round = none) (a : Option Addr) (len cap : Nat) (w : World) :
    CallsIn F n Tryd.prog 36 #[.slice a len cap] w fun e w' => e = .returned (.func (.func 37) #[] #[.pointer (some ⟨w.heap.size, 0, none⟩)]) ∧ w' = w.alloc (.cells #[.slice a len cap] 23) := by
  refine callsIn_of_wp Tryd.func36 rfl h5 ?_ hro
  simp only [Tryd.ntmps36, List.size_toArray, List.length_cons, List.length_nil, Nat.reduceAdd, Nat.reduceSub, Array.replicate_succ, Array.replicate_zero, List.push_toArray, List.append_toArray, List.nil_append, List.cons_append]
  gi_wp2
  go_ret
  exact ⟨rfl, rfl⟩

theorem all_stops (F : Fence) (n : Nat) (h7 : F.fn 37) (h8 : F.fn 38) (hro : F.round = none) (hn : 2 ≤ n) (Bs n₀ : Nat) (L : List Nat) (hok : okW L) (hl : L.length ≤ 1000000) (hn0 : 0 < n₀)
    (b off cap : Nat) (p : Option Addr) (hp : 0 < L.length → p = some ⟨b, off, none⟩) (hb : 0 < L.length → b < n₀)
    (htz : ∀ (x : Nat) W, 0 < x → x < 18446744073709551616 → Tab W → CallsIn F (n - 1) Tryd.prog 38 #[.int .u64 x] W fun e W' => e = .returned (.int .i64 (tz x)) ∧ W = W')
    (w : World) (hT : Tab w) (hBs : Bs < w.heap.size) (hn₀ : n₀ ≤ w.heap.size) (hc : w.cell? ⟨Bs, 0, none⟩ = some (.slice p L.length cap)) (hcs : ∀ j, (h : j < L.length) → w.cell? ⟨b, off + j, none⟩ = some (.int .u64 (L[j]'h : Nat))) :
    SeqStopsK F n Tryd.prog 37 #[.pointer (some ⟨Bs, 0, none⟩)] (fun x : Int => #[Value.int .i64 x]) (Below n₀) (fun ys => ys = listW L (64 * L.length)) (fun pre => pre <+: listW L (64 * L.length)) (listW L (64 * L.length)).length w := fun l J Jx W hW _ _ hY h0 =>
  all1_in F n h7 h8 hro hn l Bs n₀ L hok hl hn0 b off cap p hp hb J Jx htz hY W (hT.below (Nat.lt_of_lt_of_le hn0 hn₀) hW) ((hW.cell (p := ⟨Bs, 0, none⟩) hBs).trans hc)
    (fun j h => ((hW.cell (p := ⟨b, off + j, none⟩) (Nat.lt_of_lt_of_le (hb (by omega)) hn₀)).trans (hcs j h))) h0

end Go.Proofs.YtjjopjpchgajcaaDoor.Ws

/- WALKS of package gauss and of its reference soughref01, third part: texts. -/
import Derived.Test.YtjjmoibnmdbpeaaGaussb
import Derived.Deep.RegionWith
import Derived.Lib.SlBytesConst
namespace Go.Proofs.Ytjjmoibnmdbpeaa
set_option linter.unusedVariables false
set_option linter.unusedSimpArgs false
open Go.RowKit Flo

def digN (n : Nat) : List UInt8 := if h : n < 10 then [UInt8.ofNat (48 + n)] else digN (n / 10) ++ [UInt8.ofNat (48 + n % 10)]
termination_by n
decreasing_by omega

theorem digN_len (n : Nat) : (digN n).length ≤ n + 1 := by
  induction n using Nat.strongRecOn with
  | _ n ih =>
    rw [digN]
    split
    · simp
    · have := ih (n / 10) (by omega)
      simp; omega

theorem digN_big (n : Nat) (hn : 10 ≤ n) : (⟨(digN (n / 10)).toArray⟩ : ByteArray) ++ ⟨#[48 + UInt8.ofNat (n % 10)]⟩ = ⟨(digN n).toArray⟩ := by
  rw [digN.eq_def n, dif_neg (by omega), ByteArray.mk_append_mk, UInt8.ofNat_add]; simp

theorem ret_str {a b : ByteArray} (h : a = b) : Ending.returned (.string a) = .returned (.string b) := by rw [h]

theorem conv_one (W : World) (b : Nat) (k : Int) (h : W.cell? ⟨b, 0, none⟩ = some (.int .u8 k)) :
    (convert 107 9 (.slice (some ⟨b, 0, none⟩) 1 1)).run Try.prog W = .ok (.string ⟨#[UInt8.ofNat k.toNat]⟩) W := by
  have := run_convert_bytes_arg (P := Try.prog) (w := W) 107 5 Try.underlying107 Try.underlying5 b 0 1 1 [k] rfl
  exact this (by intro i hi; obtain rfl : i = 0 := by omega
                 simpa using h) 9 Try.underlying9

set_option maxRecDepth 100000 in
theorem digits_small (n : Nat) (hn : n < 10) (w : World) :
    Calls Try.prog 142 #[.int .i64 n] w fun e w' => e = .returned (.string ⟨(digN n).toArray⟩) ∧ Below w.heap.size w w' := by
  have h1 := conv_one (w.alloc (.cells #[.int .u8 (48 + n)] 5)) w.heap.size (48 + n) (by simp)
  go_enter Try.func142, Try.ntmps142
  go_wp2_with fail
  go_ret
  refine ⟨ret_str ?_, ?_⟩
  · rw [digN, dif_pos hn]
  · (repeat (first | exact Below.refl _ _ | apply Below.drew | refine Below.alloc ?_ ?_ _ | refine Below.setCell ?_ ?_ _ | refine Below.trans ?_ (Below.mono (After.below _) ?_))); (all_goals (first | (simp; done) | (simp; omega) | omega))

set_option maxRecDepth 100000 in
theorem digits_big (n : Nat) (hn : 10 ≤ n) (h2 : n ≤ 32768) (w : World) (ih : ∀ w, Calls Try.prog 142 #[.int .i64 ((n : Int) / 10)] w fun e w' => e = .returned (.string ⟨(digN (n / 10)).toArray⟩) ∧ Below w.heap.size w w') :
    Calls Try.prog 142 #[.int .i64 n] w fun e w' => e = .returned (.string ⟨(digN n).toArray⟩) ∧ Below w.heap.size w w' := by
  have hl := digN_len (n / 10)
  have hif : ¬ (9223372036854775807 < (digN (n / 10)).length + 1) := by omega
  clear hl
  have e0 : (n : Int).tmod 10 = (n : Int) % 10 := Int.tmod_eq_emod_of_nonneg (by omega)
  have e1 : IntKind.i64.wrap ((n : Int) / 10) = (n : Int) / 10 := IntWalk.i64_in _ (by omega)
  have e2 : IntKind.i64.wrap (48 + (n : Int) % 10) = 48 + (n : Int) % 10 := IntWalk.i64_in _ (by omega)
  have e3 : IntKind.u8.wrap (48 + (n : Int) % 10) = 48 + (n : Int) % 10 := by rw [IntKind.wrap_u8']; omega
  have e4 : (48 + (n : Int) % 10).toNat = 48 + n % 10 := by omega
  have g1 : (convert 107 9 (.slice (some ⟨w.heap.size, 0, none⟩) 1 1)).run Try.prog (w.alloc (.cells #[.int .u8 (48 + (n : Int) % 10)] 5)).drew = .ok (.string ⟨#[UInt8.ofNat (48 + n % 10)]⟩) (w.alloc (.cells #[.int .u8 (48 + (n : Int) % 10)] 5)).drew := by
    rw [conv_one _ _ (48 + (n : Int) % 10) (by simp), e4]
  have g2 : ∀ y : After (w.alloc (.cells #[.int .u8 (48 + (n : Int) % 10)] 5)).drew, (convert 107 9 (.slice (some ⟨w.heap.size, 0, none⟩) 1 1)).run Try.prog y.val = .ok (.string ⟨#[UInt8.ofNat (48 + n % 10)]⟩) y.val := fun y => by
    rw [conv_one _ _ (48 + (n : Int) % 10) (by rw [After.cell y _ _ (by simp)]; simp), e4]
  have g3 : ∀ X : World, (convert 107 9 (.slice (some ⟨X.heap.size, 0, none⟩) 1 1)).run Try.prog (X.alloc (.cells #[.int .u8 (48 + (n : Int) % 10)] 5)) = .ok (.string ⟨#[UInt8.ofNat (48 + n % 10)]⟩) (X.alloc (.cells #[.int .u8 (48 + (n : Int) % 10)] 5)) := fun X => by
    rw [conv_one _ _ (48 + (n : Int) % 10) (by simp), e4]
  clear e4
  go_enter Try.func142, Try.ntmps142
  go_wp2_with fail
  go_region_with (go_at_call 142; refine' Calls.aft _ _ (ih _) _; rotate_left 2; (first | (with_reducible exact After.below _; rfl) | (with_reducible exact below_drew (After.below _); rfl) | (with_reducible exact below_set (After.below _) _ _; (go_simp; rfl)) | (with_reducible exact below_set (below_set (After.below _) _ _) _ _; (go_simp; rfl)) | (with_reducible exact below_set (below_set (below_set (After.below _) _ _) _ _) _ _; (go_simp; rfl)) | (with_reducible exact below_set (below_set (below_set (below_set (After.below _) _ _) _ _) _ _) _ _; (go_simp; rfl)) | (exact Below.refl _ _; rfl)); intro x; have hle := After.le x; (try simp at hle))
  all_goals (go_wp2; go_ret; refine ⟨ret_str (digN_big n hn), ?_⟩)
  all_goals (have hx := x.le; simp at hx)
  all_goals ((repeat (first | exact Below.refl _ _ | apply Below.drew | refine Below.alloc ?_ ?_ _ | refine Below.setCell ?_ ?_ _ | refine Below.trans ?_ (Below.mono (After.below _) ?_))); (all_goals (first | (simp; done) | (simp; omega) | omega)))

theorem digN_any (n : Nat) : n ≤ 32768 → ∀ (w : World), Calls Try.prog 142 #[.int .i64 n] w fun e w' => e = .returned (.string ⟨(digN n).toArray⟩) ∧ Below w.heap.size w w' := by
  induction n using Nat.strongRecOn with
  | _ n ih =>
    intro h w
    by_cases hn : n < 10
    · exact digits_small n hn w
    · exact digits_big n (by omega) h w (fun w' => ih (n / 10) (by omega) (by omega) w')

/-- A number's digits, with the sign. -/
def digs (n : Int) : List UInt8 := if n < 0 then 45 :: digN n.natAbs else digN n.natAbs

theorem digs_len (n : Int) (h1 : -32768 ≤ n) (h2 : n ≤ 32767) : (digs n).length ≤ 32770 := by
  unfold digs
  have := digN_len n.natAbs
  split <;> simp <;> omega

theorem dash_append (l : List UInt8) : (⟨#[45]⟩ : ByteArray) ++ ⟨l.toArray⟩ = ⟨(45 :: l).toArray⟩ := by
  have := ByteArray.mk_append_mk [45] l
  simpa using this

set_option maxRecDepth 100000 in
theorem digits_any (n : Int) (h1 : -32768 ≤ n) (h2 : n ≤ 32767) (w : World) :
    Calls Try.prog 142 #[.int .i64 n] w fun e w' => e = .returned (.string ⟨(digs n).toArray⟩) ∧ Below w.heap.size w w' := by
  by_cases hn : n < 0
  · obtain ⟨m, rfl⟩ : ∃ m : Nat, n = -(m : Int) := ⟨n.natAbs, by omega⟩
    have e : digs (-(m : Int)) = 45 :: digN m := by
      unfold digs; rw [if_pos hn]; congr 2; omega
    rw [e]
    have hl := digN_len m
    have hif : ¬ (9223372036854775807 < 1 + (digN m).length) := by omega
    have hif2 : ¬ (9223372036854775807 < (digN m).length + 1) := by omega
    clear e
    go_enter Try.func142, Try.ntmps142
    go_wp2_with (go_at_call 142; refine' Calls.aft _ _ (digN_any m (by omega) _) _; rotate_left 2; (first | (with_reducible exact After.below _; rfl) | (with_reducible exact below_drew (After.below _); rfl) | (with_reducible exact below_set (After.below _) _ _; (go_simp; rfl)) | (with_reducible exact below_set (below_set (After.below _) _ _) _ _; (go_simp; rfl)) | (with_reducible exact below_set (below_set (below_set (After.below _) _ _) _ _) _ _; (go_simp; rfl)) | (with_reducible exact below_set (below_set (below_set (below_set (After.below _) _ _) _ _) _ _) _ _; (go_simp; rfl)) | (exact Below.refl _ _; rfl)); intro x; have hle := After.le x; (try simp at hle))
    go_ret
    refine ⟨ret_str (dash_append _), ?_⟩
    have hx := x.le; (try simp at hx)
    (repeat (first | exact Below.refl _ _ | apply Below.drew | refine Below.alloc ?_ ?_ _ | refine Below.setCell ?_ ?_ _ | refine Below.trans ?_ (Below.mono (After.below _) ?_))); (all_goals (first | (simp; done) | (simp; omega) | omega))
  · obtain ⟨m, rfl⟩ : ∃ m : Nat, n = (m : Int) := ⟨n.natAbs, by omega⟩
    have e : digs (m : Int) = digN m := by
      unfold digs; rw [if_neg hn]; rfl
    rw [e]
    exact digN_any m (by omega) w

set_option maxRecDepth 100000 in
theorem rdigits_small (n : Nat) (hn : n < 10) (w : World) :
    Calls Try.prog 144 #[.int .i64 n] w fun e w' => e = .returned (.string ⟨(digN n).toArray⟩) ∧ Below w.heap.size w w' := by
  have e0 : (n : Int) % 10 = n := by omega
  have h1 := conv_one (w.alloc (.cells #[.int .u8 (48 + n)] 5)) w.heap.size (48 + n) (by simp)
  go_enter Try.func144, Try.ntmps144
  go_wp2_with fail
  go_ret
  refine ⟨ret_str ?_, ?_⟩
  · rw [digN, dif_pos hn]
  · (repeat (first | exact Below.refl _ _ | apply Below.drew | refine Below.alloc ?_ ?_ _ | refine Below.setCell ?_ ?_ _ | refine Below.trans ?_ (Below.mono (After.below _) ?_))); (all_goals (first | (simp; done) | (simp; omega) | omega))

set_option maxRecDepth 100000 in
theorem rdigits_big (n : Nat) (hn : 10 ≤ n) (h2 : n ≤ 32768) (w : World) (ih : ∀ w, Calls Try.prog 144 #[.int .i64 ((n : Int) / 10)] w fun e w' => e = .returned (.string ⟨(digN (n / 10)).toArray⟩) ∧ Below w.heap.size w w') :
    Calls Try.prog 144 #[.int .i64 n] w fun e w' => e = .returned (.string ⟨(digN n).toArray⟩) ∧ Below w.heap.size w w' := by
  have hl := digN_len (n / 10)
  have hif : ¬ (9223372036854775807 < (digN (n / 10)).length + 1) := by omega
  clear hl
  have e4 : (48 + (n : Int) % 10).toNat = 48 + n % 10 := by omega
  have g1 : (convert 107 9 (.slice (some ⟨w.heap.size, 0, none⟩) 1 1)).run Try.prog (w.alloc (.cells #[.int .u8 (48 + (n : Int) % 10)] 5)) = .ok (.string ⟨#[UInt8.ofNat (48 + n % 10)]⟩) (w.alloc (.cells #[.int .u8 (48 + (n : Int) % 10)] 5)) := by
    rw [conv_one _ _ (48 + (n : Int) % 10) (by simp), e4]
  clear e4
  go_enter Try.func144, Try.ntmps144
  go_wp2_with (go_at_call 144; refine' Calls.aft _ _ (ih _) _; rotate_left 2; (first | (with_reducible exact After.below _; rfl) | (with_reducible exact below_drew (After.below _); rfl) | (with_reducible exact below_set (After.below _) _ _; (go_simp; rfl)) | (with_reducible exact below_set (below_set (After.below _) _ _) _ _; (go_simp; rfl)) | (with_reducible exact below_set (below_set (below_set (After.below _) _ _) _ _) _ _; (go_simp; rfl)) | (with_reducible exact below_set (below_set (below_set (below_set (After.below _) _ _) _ _) _ _) _ _; (go_simp; rfl)) | (exact Below.refl _ _; rfl)); intro x; have hle := After.le x; (try simp at hle))
  go_ret
  refine ⟨ret_str (digN_big n hn), ?_⟩
  have hx := x.le; simp at hx
  (repeat (first | exact Below.refl _ _ | apply Below.drew | refine Below.alloc ?_ ?_ _ | refine Below.setCell ?_ ?_ _ | refine Below.trans ?_ (Below.mono (After.below _) ?_))); (all_goals (first | (simp; done) | (simp; omega) | omega))

theorem rdigN_any (n : Nat) : n ≤ 32768 → ∀ (w : World), Calls Try.prog 144 #[.int .i64 n] w fun e w' => e = .returned (.string ⟨(digN n).toArray⟩) ∧ Below w.heap.size w w' := by
  induction n using Nat.strongRecOn with
  | _ n ih =>
    intro h w
    by_cases hn : n < 10
    · exact rdigits_small n hn w
    · exact rdigits_big n (by omega) h w (fun w' => ih (n / 10) (by omega) (by omega) w')

set_option maxRecDepth 100000 in
theorem rdigits_any (n : Int) (h1 : -32768 ≤ n) (h2 : n ≤ 32767) (w : World) :
    Calls Try.prog 144 #[.int .i64 n] w fun e w' => e = .returned (.string ⟨(digs n).toArray⟩) ∧ Below w.heap.size w w' := by
  by_cases hn : n < 0
  · obtain ⟨m, rfl⟩ : ∃ m : Nat, n = -(m : Int) := ⟨n.natAbs, by omega⟩
    have e : digs (-(m : Int)) = 45 :: digN m := by
      unfold digs; rw [if_pos hn]; congr 2; omega
    rw [e]
    have hl := digN_len m
    have hif : ¬ (9223372036854775807 < 1 + (digN m).length) := by omega
    have hif2 : ¬ (9223372036854775807 < (digN m).length + 1) := by omega
    clear e
    go_enter Try.func144, Try.ntmps144
    go_wp2_with (go_at_call 144; refine' Calls.aft _ _ (rdigN_any m (by omega) _) _; rotate_left 2; (first | (with_reducible exact After.below _; rfl) | (with_reducible exact below_drew (After.below _); rfl) | (with_reducible exact below_set (After.below _) _ _; (go_simp; rfl)) | (with_reducible exact below_set (below_set (After.below _) _ _) _ _; (go_simp; rfl)) | (with_reducible exact below_set (below_set (below_set (After.below _) _ _) _ _) _ _; (go_simp; rfl)) | (with_reducible exact below_set (below_set (below_set (below_set (After.below _) _ _) _ _) _ _) _ _; (go_simp; rfl)) | (exact Below.refl _ _; rfl)); intro x; have hle := After.le x; (try simp at hle))
    go_ret
    refine ⟨ret_str (dash_append _), ?_⟩
    have hx := x.le; (try simp at hx)
    (repeat (first | exact Below.refl _ _ | apply Below.drew | refine Below.alloc ?_ ?_ _ | refine Below.setCell ?_ ?_ _ | refine Below.trans ?_ (Below.mono (After.below _) ?_))); (all_goals (first | (simp; done) | (simp; omega) | omega))
  · obtain ⟨m, rfl⟩ : ∃ m : Nat, n = (m : Int) := ⟨n.natAbs, by omega⟩
    have e : digs (m : Int) = digN m := by
      unfold digs; rw [if_neg hn]; rfl
    rw [e]
    exact rdigN_any m (by omega) w

end Go.Proofs.Ytjjmoibnmdbpeaa

/- WALKS of package gauss and of its reference soughref01, fourth part: Text; the laws' awake. -/
import Derived.Test.YtjjmoibnmdbpeaaGaussc
namespace Go.Proofs.Ytjjmoibnmdbpeaa
set_option linter.unusedVariables false
set_option linter.unusedSimpArgs false
open Go.RowKit Flo

def textN (a b : Int) : List UInt8 := if wr b = 0 then digs (wr a) else 40 :: (digs (wr a) ++ 44 :: (digs (wr b) ++ [41]))

theorem text_append (x y : List UInt8) : ((((⟨#[40]⟩ : ByteArray) ++ ⟨x.toArray⟩) ++ ⟨#[44]⟩) ++ ⟨y.toArray⟩) ++ ⟨#[41]⟩ = ⟨(40 :: (x ++ 44 :: (y ++ [41]))).toArray⟩ := by
  have h1 := ByteArray.mk_append_mk [40] x
  have h2 := ByteArray.mk_append_mk ([40] ++ x) [44]
  have h3 := ByteArray.mk_append_mk ([40] ++ x ++ [44]) y
  have h4 := ByteArray.mk_append_mk ([40] ++ x ++ [44] ++ y) [41]
  rw [show (⟨#[40]⟩ : ByteArray) = ⟨[40].toArray⟩ from rfl, h1, show (⟨#[44]⟩ : ByteArray) = ⟨[44].toArray⟩ from rfl, h2, h3, show (⟨#[41]⟩ : ByteArray) = ⟨[41].toArray⟩ from rfl, h4]
  simp

set_option maxRecDepth 100000 in
set_option maxHeartbeats 1000000 in
theorem text_any (a b : Int) (w : World) :
    Calls Try.prog 125 #[.agg #[.int .i64 a, .int .i64 b]] w fun e w' => e = .returned (.string ⟨(textN a b).toArray⟩) ∧ Below w.heap.size w w' := by
  have k1 := wr_lo a; have k2 := wr_hi a; have k3 := wr_lo b; have k4 := wr_hi b
  have hl1 := digs_len _ k1 k2
  have hl2 := digs_len _ k3 k4
  by_cases hb : wr b = 0
  · have e : textN a b = digs (wr a) := by unfold textN; rw [if_pos hb]
    have hb' : (wr b == 0) = true := by simp [hb]
    rw [e]
    clear e hb
    go_enter Try.func125, Try.ntmps125
    go_wp2_with (first | (go_at_call 141; refine' Calls.aft _ _ (of_any _ _ _) _; rotate_left 2; (first | (with_reducible exact After.below _; rfl) | (with_reducible exact below_drew (After.below _); rfl) | (with_reducible exact below_set (After.below _) _ _; (go_simp; rfl)) | (with_reducible exact below_set (below_set (After.below _) _ _) _ _; (go_simp; rfl)) | (with_reducible exact below_set (below_set (below_set (After.below _) _ _) _ _) _ _; (go_simp; rfl)) | (with_reducible exact below_set (below_set (below_set (below_set (After.below _) _ _) _ _) _ _) _ _; (go_simp; rfl)) | (exact Below.refl _ _; rfl)); intro x; have hle := After.le x; (try simp at hle)) | (go_at_call 142; refine' Calls.aft _ _ (digits_any _ k1 k2 _) _; rotate_left 2; (first | (with_reducible exact After.below _; rfl) | (with_reducible exact below_drew (After.below _); rfl) | (with_reducible exact below_set (After.below _) _ _; (go_simp; rfl)) | (with_reducible exact below_set (below_set (After.below _) _ _) _ _; (go_simp; rfl)) | (with_reducible exact below_set (below_set (below_set (After.below _) _ _) _ _) _ _; (go_simp; rfl)) | (with_reducible exact below_set (below_set (below_set (below_set (After.below _) _ _) _ _) _ _) _ _; (go_simp; rfl)) | (exact Below.refl _ _; rfl)); intro y; have hle := After.le y; (try simp at hle)))
    go_ret
    refine ⟨rfl, ?_⟩
    have hx := y.le; simp at hx
    (repeat (first | exact Below.refl _ _ | apply Below.drew | refine Below.alloc ?_ ?_ _ | refine Below.setCell ?_ ?_ _ | refine Below.trans ?_ (Below.mono (After.below _) ?_))); (all_goals (first | (simp; done) | (simp; omega) | omega))
  · have e : textN a b = 40 :: (digs (wr a) ++ 44 :: (digs (wr b) ++ [41])) := by unfold textN; rw [if_neg hb]
    have hb' : (wr b == 0) = false := by simp [hb]
    rw [e]
    clear e hb
    go_enter Try.func125, Try.ntmps125
    go_wp2_with (first | (go_at_call 141; refine' Calls.aft _ _ (of_any _ _ _) _; rotate_left 2; (first | (with_reducible exact After.below _; rfl) | (with_reducible exact below_drew (After.below _); rfl) | (with_reducible exact below_set (After.below _) _ _; (go_simp; rfl)) | (with_reducible exact below_set (below_set (After.below _) _ _) _ _; (go_simp; rfl)) | (with_reducible exact below_set (below_set (below_set (After.below _) _ _) _ _) _ _; (go_simp; rfl)) | (with_reducible exact below_set (below_set (below_set (below_set (After.below _) _ _) _ _) _ _) _ _; (go_simp; rfl)) | (exact Below.refl _ _; rfl)); intro x; have hle := After.le x; (try simp at hle)))
    refine' region_whole _ _ (by kernel_rfl) (by kernel_rfl) _; rotate_left 2; (first | (with_reducible exact After.below _; rfl) | (with_reducible exact below_drew (After.below _); rfl) | (with_reducible exact below_set (After.below _) _ _; (go_simp; rfl)) | (with_reducible exact below_set (below_set (After.below _) _ _) _ _; (go_simp; rfl)) | (with_reducible exact below_set (below_set (below_set (After.below _) _ _) _ _) _ _; (go_simp; rfl)) | (with_reducible exact below_set (below_set (below_set (below_set (After.below _) _ _) _ _) _ _) _ _; (go_simp; rfl)) | (exact Below.refl _ _; rfl)); (repeat (go_big_quiet_step (first | (go_at_call 142; exact Calls.after_of (digits_any _ (by first | exact k1 | exact k3) (by first | exact k2 | exact k4) _))))); refine wpQuiet_nil ?_; intro z
    go_wp2
    go_ret
    refine ⟨ret_str (text_append _ _), ?_⟩
    have hx := z.le; simp at hx
    (repeat (first | exact Below.refl _ _ | apply Below.drew | refine Below.alloc ?_ ?_ _ | refine Below.setCell ?_ ?_ _ | refine Below.trans ?_ (Below.mono (After.below _) ?_))); (all_goals (first | (simp; done) | (simp; omega) | omega))

set_option maxRecDepth 100000 in
set_option maxHeartbeats 1000000 in
theorem rtext_any (a b : Int) (w : World) :
    Calls Try.prog 129 #[.agg #[.int .i64 a, .int .i64 b]] w fun e w' => e = .returned (.string ⟨(textN a b).toArray⟩) ∧ Below w.heap.size w w' := by
  have k1 := wr_lo a; have k2 := wr_hi a; have k3 := wr_lo b; have k4 := wr_hi b
  have hl1 := digs_len _ k1 k2
  have hl2 := digs_len _ k3 k4
  by_cases hb : wr b = 0
  · have e : textN a b = digs (wr a) := by unfold textN; rw [if_pos hb]
    have hb' : (wr b == 0) = true := by simp [hb]
    rw [e]
    clear e hb
    go_enter Try.func129, Try.ntmps129
    go_wp2_with (first | (go_at_call 127; refine' Calls.aft _ _ (rof_any _ _ _) _; rotate_left 2; (first | (with_reducible exact After.below _; rfl) | (with_reducible exact below_drew (After.below _); rfl) | (with_reducible exact below_set (After.below _) _ _; (go_simp; rfl)) | (with_reducible exact below_set (below_set (After.below _) _ _) _ _; (go_simp; rfl)) | (with_reducible exact below_set (below_set (below_set (After.below _) _ _) _ _) _ _; (go_simp; rfl)) | (with_reducible exact below_set (below_set (below_set (below_set (After.below _) _ _) _ _) _ _) _ _; (go_simp; rfl)) | (exact Below.refl _ _; rfl)); intro x; have hle := After.le x; (try simp at hle)) | (go_at_call 144; refine' Calls.aft _ _ (rdigits_any _ k1 k2 _) _; rotate_left 2; (first | (with_reducible exact After.below _; rfl) | (with_reducible exact below_drew (After.below _); rfl) | (with_reducible exact below_set (After.below _) _ _; (go_simp; rfl)) | (with_reducible exact below_set (below_set (After.below _) _ _) _ _; (go_simp; rfl)) | (with_reducible exact below_set (below_set (below_set (After.below _) _ _) _ _) _ _; (go_simp; rfl)) | (with_reducible exact below_set (below_set (below_set (below_set (After.below _) _ _) _ _) _ _) _ _; (go_simp; rfl)) | (exact Below.refl _ _; rfl)); intro y; have hle := After.le y; (try simp at hle)))
    go_ret
    refine ⟨rfl, ?_⟩
    have hx := y.le; simp at hx
    (repeat (first | exact Below.refl _ _ | apply Below.drew | refine Below.alloc ?_ ?_ _ | refine Below.setCell ?_ ?_ _ | refine Below.trans ?_ (Below.mono (After.below _) ?_))); (all_goals (first | (simp; done) | (simp; omega) | omega))
  · have e : textN a b = 40 :: (digs (wr a) ++ 44 :: (digs (wr b) ++ [41])) := by unfold textN; rw [if_neg hb]
    have hb' : (wr b == 0) = false := by simp [hb]
    rw [e]
    clear e hb
    go_enter Try.func129, Try.ntmps129
    go_wp2_with (first | (go_at_call 127; refine' Calls.aft _ _ (rof_any _ _ _) _; rotate_left 2; (first | (with_reducible exact After.below _; rfl) | (with_reducible exact below_drew (After.below _); rfl) | (with_reducible exact below_set (After.below _) _ _; (go_simp; rfl)) | (with_reducible exact below_set (below_set (After.below _) _ _) _ _; (go_simp; rfl)) | (with_reducible exact below_set (below_set (below_set (After.below _) _ _) _ _) _ _; (go_simp; rfl)) | (with_reducible exact below_set (below_set (below_set (below_set (After.below _) _ _) _ _) _ _) _ _; (go_simp; rfl)) | (exact Below.refl _ _; rfl)); intro x; have hle := After.le x; (try simp at hle)))
    refine' region_whole _ _ (by kernel_rfl) (by kernel_rfl) _; rotate_left 2; (first | (with_reducible exact After.below _; rfl) | (with_reducible exact below_drew (After.below _); rfl) | (with_reducible exact below_set (After.below _) _ _; (go_simp; rfl)) | (with_reducible exact below_set (below_set (After.below _) _ _) _ _; (go_simp; rfl)) | (with_reducible exact below_set (below_set (below_set (After.below _) _ _) _ _) _ _; (go_simp; rfl)) | (with_reducible exact below_set (below_set (below_set (below_set (After.below _) _ _) _ _) _ _) _ _; (go_simp; rfl)) | (exact Below.refl _ _; rfl)); (repeat (go_big_quiet_step (first | (go_at_call 144; exact Calls.after_of (rdigits_any _ (by first | exact k1 | exact k3) (by first | exact k2 | exact k4) _))))); refine wpQuiet_nil ?_; intro z
    go_wp2
    go_ret
    refine ⟨ret_str (text_append _ _), ?_⟩
    have hx := z.le; simp at hx
    (repeat (first | exact Below.refl _ _ | apply Below.drew | refine Below.alloc ?_ ?_ _ | refine Below.setCell ?_ ?_ _ | refine Below.trans ?_ (Below.mono (After.below _) ?_))); (all_goals (first | (simp; done) | (simp; omega) | omega))

end Go.Proofs.Ytjjmoibnmdbpeaa

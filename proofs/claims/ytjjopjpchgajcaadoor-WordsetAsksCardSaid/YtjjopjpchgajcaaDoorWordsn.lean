/- WordsetAsks, put together; WordsetLaws: the law answers true. -/
import Derived.Test.YtjjopjpchgajcaaDoorWordsm
namespace Go.Proofs.YtjjopjpchgajcaaDoor.Ws
set_option linter.unusedVariables false
set_option linter.unusedSimpArgs false
open Go Go.RowKit

set_option maxRecDepth 100000 in
theorem wordsetAsks_any (n : Int) (hn : n ≤ 9223372036854775807) (L M : List Nat) (hL : okW L) (hM : okW M) (v v' : Value) (w : World) (h : Sl w v encW L) (h' : Sl w v' encW M) (hT : Tab w) :
    Calls Tryd.prog 5 #[v, v', .int .i64 n] w fun e w' => e = .returned (.bool true) ∧ Below w.heap.size w w' := by
  cases hf : (decide (L.length ≤ 4) && decide (M.length ≤ 4))
  · exact asks_big _ _ hf w hT v v' n fun x => by have := few10_any L M v v' x.val (h.below x.below) (h'.below x.below); rw [hf] at this; exact this
  · have hf2 := hf
    simp at hf2
    obtain ⟨l1, l2⟩ := hf2
    have k1 : L.length ≤ 1000000 := by omega
    have k2 : M.length ≤ 1000000 := by omega
    have e1 : zipW gOr L M = wordsOf (fun m => has L m || has M m) (max L.length M.length) := zip_words (f := fun a b => a || b) (zip_ok or_lt hL hM) (fun m => has_union m)
    have e2 : zipW gAnd L M = wordsOf (fun m => has L m && has M m) (max L.length M.length) := zip_words (f := fun a b => a && b) (zip_ok and_lt hL hM) (fun m => has_inter m)
    have e3 : zipW gMinus L M = wordsOf (fun m => has L m && !has M m) (max L.length M.length) := zip_words (f := fun a b => a && !b) (zip_ok minus_lt hL hM) (fun m => has_minus hM m)
    have hb1 := fun w h h' => rboth_union L M hL hM k1 k2 v v' w h h'
    have hb2 := fun w h h' => rboth_inter L M hL hM k1 k2 v v' w h h'
    have hb3 := fun w h h' => rboth_minus L M hL hM k1 k2 v v' w h h'
    rw [← e1, ← zipW_length gOr L M] at hb1
    rw [← e2, ← zipW_length gAnd L M] at hb2
    rw [← e3, ← zipW_length gMinus L M] at hb3
    have q1 : (zipW gOr L M).length ≤ 1000000 := by rw [zipW_length]; omega
    have q2 : (zipW gAnd L M).length ≤ 1000000 := by rw [zipW_length]; omega
    have q3 : (zipW gMinus L M).length ≤ 1000000 := by rw [zipW_length]; omega
    have hlen : (listW L (64 * L.length)).length = size L := listW_length L _
    have hlz : (listW (zipW gMinus L M) (64 * (zipW gMinus L M).length)).length = size (zipW gMinus L M) := listW_length _ _
    have hll : (listW L (64 * L.length)).length ≤ 1000000 := by have := listW_len_le L (64 * L.length); omega
    have hln := fun w h => len_any L hL k1 v w h
    rw [← hlen] at hln
    refine asks_with w hT v v' n L M (zipW gOr L M) (zipW gAnd L M) (zipW gMinus L M) (listW L (64 * L.length)) (listW (zipW gMinus L M) (64 * (zipW gMinus L M).length)) (hasI L n) (withinB L M) h h' ?_
      (fun x => by have := few10_any L M v v' x.val (h.below x.below) (h'.below x.below); rw [hf] at this; exact this)
      (fun w h => rlist_any L hL k1 v w h) (fun z w h => rlist_any _ (zip_ok minus_lt hL hM) q3 z w h) (fun w h hT => list_any L hL k1 v w h hT)
      (fun w h => whas_any L hL k1 n hn v w h) (fun w h => rhasI_any L hL k1 n hn v w h)
      (fun o o' w h h' => by have := ints_any (listW L (64 * L.length)) (listW L (64 * L.length)) hll o o' w h h'; simpa using this) hln
      (fun w h h' => union_any L M hL hM k1 k2 v v' w h h') (fun w h h' => inter_any L M hL hM k1 k2 v v' w h h') (fun w h h' => minus_any L M hL hM k1 k2 v v' w h h') hb1 hb2 hb3
      (fun o o' w h h' => rsame_any _ q1 o o' w h h') (fun o o' w h h' => rsame_any _ q2 o o' w h h') (fun o o' w h h' => rsame_any _ q3 o o' w h h')
      (fun w h h' => within_any L M hL hM k1 k2 v v' w h h')
    rw [hlz]
    unfold withinB
    rw [Bool.eq_iff_iff]
    simp

theorem laws_few (w : World) (hT : Tab w) (v v' v'' : Value) (hfew : ∀ x : After w, Calls Tryd.prog 17 #[v, v'] x.val fun e w' => e = .returned (.bool false) ∧ x.val = w') :
    Calls Tryd.prog 4 #[v, v', v''] w fun e w' => e = .returned (.bool true) ∧ Below w.heap.size w w' := by
  go_enter Tryd.func4, Tryd.ntmps4
  go_wp2_with (first | (go_at_call 6; refine' Calls.aft _ _ (awake10_any _ hT) _; rotate_left 2; (first | (with_reducible exact After.below _; rfl) | (with_reducible exact below_drew (After.below _); rfl) | (with_reducible exact below_set (After.below _) _ _; (go_simp; rfl)) | (with_reducible exact below_set (below_set (After.below _) _ _) _ _; (go_simp; rfl)) | (with_reducible exact below_set (below_set (below_set (After.below _) _ _) _ _) _ _; (go_simp; rfl)) | (with_reducible exact below_set (below_set (below_set (below_set (After.below _) _ _) _ _) _ _) _ _; (go_simp; rfl)) | (exact Below.refl _ _; rfl)); intro xa; have hle := After.le xa; (try simp at hle)) | (go_at_call 17; refine Calls.same (hfew _) ?_))
  all_goals (go_ret; exact ⟨rfl, xa.below⟩)

theorem laws_big (w : World) (hT : Tab w) (v v' : Value) (p : Option Addr) (len cap : Nat) (hl : 4 < len) (hfew : ∀ x : After w, Calls Tryd.prog 17 #[v, v'] x.val fun e w' => e = .returned (.bool true) ∧ x.val = w') :
    Calls Tryd.prog 4 #[v, v', .slice p len cap] w fun e w' => e = .returned (.bool true) ∧ Below w.heap.size w w' := by
  have h4 : (4 : Int) < (len : Int) := by omega
  go_enter Tryd.func4, Tryd.ntmps4
  go_wp2_with (first | (go_at_call 6; refine' Calls.aft _ _ (awake10_any _ hT) _; rotate_left 2; (first | (with_reducible exact After.below _; rfl) | (with_reducible exact below_drew (After.below _); rfl) | (with_reducible exact below_set (After.below _) _ _; (go_simp; rfl)) | (with_reducible exact below_set (below_set (After.below _) _ _) _ _; (go_simp; rfl)) | (with_reducible exact below_set (below_set (below_set (After.below _) _ _) _ _) _ _; (go_simp; rfl)) | (with_reducible exact below_set (below_set (below_set (below_set (After.below _) _ _) _ _) _ _) _ _; (go_simp; rfl)) | (exact Below.refl _ _; rfl)); intro xa; have hle := After.le xa; (try simp at hle)) | (go_at_call 17; refine Calls.same (hfew _) ?_))
  all_goals (go_ret; exact ⟨rfl, xa.below⟩)

/-- A call that makes a row of words. -/
def Makes (f : Nat) (a b : Value) (Z : List Nat) (w : World) : Prop :=
  Calls Tryd.prog f #[a, b] w fun e w' => ∃ o, e = .returned o ∧ w'.ownsRow w.heap.size 39 1 o Z.length (Z.flatMap encW) ∧ Below w.heap.size w w'
/-- A call that tells. -/
def Tells (a b : Value) (y : Bool) (w : World) : Prop :=
  Calls Tryd.prog 21 #[a, b] w fun e w' => e = .returned (.bool y) ∧ Below w.heap.size w w'
/-- A call that counts. -/
def Counts (a : Value) (n : Nat) (w : World) : Prop :=
  Calls Tryd.prog 13 #[a] w fun e w' => e = .returned (.int .i64 n) ∧ w = w'

set_option maxRecDepth 100000 in
set_option maxHeartbeats 1000000 in
/-- Over what the callees tell. -/
theorem laws_with (w : World) (hT : Tab w) (v v' : Value) (p : Option Addr) (cap : Nat) (L M N U I D A B X C Y : List Nat) (y1 y2 y3 : Bool) (su si sa sb : Nat) (hs : su + si = sa + sb) (hs1 : su ≤ 1000000) (hs2 : si ≤ 1000000) (hs3 : sa ≤ 1000000) (hs4 : sb ≤ 1000000) (hN : N.length ≤ 4) (hy : (!y1 || !y2 || y3) = true)
    (h : Sl w v encW L) (h' : Sl w v' encW M) (h'' : Sl w (.slice p N.length cap) encW N)
    (hfew : ∀ x : After w, Calls Tryd.prog 17 #[v, v'] x.val fun e w' => e = .returned (.bool true) ∧ x.val = w')
    (hU : ∀ w, Sl w v encW L → Sl w v' encW M → Makes 18 v v' U w) (hI : ∀ w, Sl w v encW L → Sl w v' encW M → Makes 19 v v' I w) (hD : ∀ w, Sl w v encW L → Sl w v' encW M → Makes 20 v v' D w)
    (hA : ∀ o o' w, Sl w o encW D → Sl w o' encW I → Makes 18 o o' A w) (hB : ∀ w, Sl w v' encW M → Sl w (.slice p N.length cap) encW N → Makes 18 v' (.slice p N.length cap) B w)
    (hX : ∀ o w, Sl w v encW L → Sl w o encW B → Makes 19 v o X w) (hC : ∀ w, Sl w v encW L → Sl w (.slice p N.length cap) encW N → Makes 19 v (.slice p N.length cap) C w) (hY : ∀ o o' w, Sl w o encW I → Sl w o' encW C → Makes 18 o o' Y w)
    (cU : ∀ o w, Sl w o encW U → Counts o su w) (cI : ∀ o w, Sl w o encW I → Counts o si w) (cA : ∀ w, Sl w v encW L → Counts v sa w) (cB : ∀ w, Sl w v' encW M → Counts v' sb w)
    (t1 : ∀ o w, Sl w v encW L → Sl w o encW A → Tells v o true w) (t2 : ∀ o w, Sl w o encW A → Sl w v encW L → Tells o v true w) (t3 : ∀ o o' w, Sl w o encW X → Sl w o' encW Y → Tells o o' true w)
    (t4 : ∀ w, Sl w v encW L → Sl w v' encW M → Tells v v' y1 w) (t5 : ∀ w, Sl w v' encW M → Sl w (.slice p N.length cap) encW N → Tells v' (.slice p N.length cap) y2 w) (t6 : ∀ w, Sl w v encW L → Sl w (.slice p N.length cap) encW N → Tells v (.slice p N.length cap) y3 w) :
    Calls Tryd.prog 4 #[v, v', .slice p N.length cap] w fun e w' => e = .returned (.bool true) ∧ Below w.heap.size w w' := by
  have hT0 := hT.lt
  have hB0 := Below.refl w.heap.size w
  have h4 : ¬ (4 : Int) < (N.length : Int) := by omega
  have hsI : ((su : Int) + si != (sa : Int) + sb) = false := by simp; omega
  simp only [Makes, Tells, Counts] at hU hI hD hA hB hX hC hY cU cI cA cB t1 t2 t3 t4 t5 t6
  go_enter Tryd.func4, Tryd.ntmps4
  go_wp2_with (first | (go_at_call 6; refine' Calls.aft _ _ (awake10_any _ hT) _; rotate_left 2; (exact Below.refl _ _; rfl); intro xa; have hle := After.le xa; (try simp at hle)) | (go_at_call 17; refine Calls.same (hfew xa) ?_) | (go_at_call 18; first | (with_reducible refine' Calls.aftS _ _ (hU _ (by repeat (first | exact h | refine Sl.below ?_ (After.below _))) (by repeat (first | exact h' | refine Sl.below ?_ (After.below _)))) _; rotate_left 2; (exact Below.refl _ _; rfl); intro oU xU hoU; have hle := After.le xU; (try simp at hle)) | (with_reducible refine' Calls.aftS _ _ (hA oD oI _ (by repeat (first | exact Sl.of_own hoD | refine Sl.below ?_ (After.below _))) (Sl.of_own hoI)) _; rotate_left 2; (exact Below.refl _ _; rfl); intro oA xA hoA; have hle := After.le xA; (try simp at hle)) | (with_reducible refine' Calls.aftS _ _ (hB _ (by repeat (first | exact h' | refine Sl.below ?_ (After.below _))) (by repeat (first | exact h'' | refine Sl.below ?_ (After.below _)))) _; rotate_left 2; (exact Below.refl _ _; rfl); intro oB xB hoB; have hle := After.le xB; (try simp at hle)) | (with_reducible refine' Calls.aftS _ _ (hY oI oC _ (by repeat (first | exact Sl.of_own hoI | refine Sl.below ?_ (After.below _))) (Sl.of_own hoC)) _; rotate_left 2; (exact Below.refl _ _; rfl); intro oY xY hoY; have hle := After.le xY; (try simp at hle))) | (go_at_call 19; first | (with_reducible refine' Calls.aftS _ _ (hI _ (by repeat (first | exact h | refine Sl.below ?_ (After.below _))) (by repeat (first | exact h' | refine Sl.below ?_ (After.below _)))) _; rotate_left 2; (exact Below.refl _ _; rfl); intro oI xI hoI; have hle := After.le xI; (try simp at hle)) | (with_reducible refine' Calls.aftS _ _ (hX oB _ (by repeat (first | exact h | refine Sl.below ?_ (After.below _))) (Sl.of_own hoB)) _; rotate_left 2; (exact Below.refl _ _; rfl); intro oX xX hoX; have hle := After.le xX; (try simp at hle)) | (with_reducible refine' Calls.aftS _ _ (hC _ (by repeat (first | exact h | refine Sl.below ?_ (After.below _))) (by repeat (first | exact h'' | refine Sl.below ?_ (After.below _)))) _; rotate_left 2; (exact Below.refl _ _; rfl); intro oC xC hoC; have hle := After.le xC; (try simp at hle))) | (go_at_call 20; refine' Calls.aftS _ _ (hD _ (by repeat (first | exact h | refine Sl.below ?_ (After.below _))) (by repeat (first | exact h' | refine Sl.below ?_ (After.below _)))) _; rotate_left 2; (exact Below.refl _ _; rfl); intro oD xD hoD; have hle := After.le xD; (try simp at hle)) | (go_at_call 13; first | (with_reducible refine Calls.same (cU oU _ (Sl.of_own hoU)) ?_) | (with_reducible refine Calls.same (cI oI _ (Sl.of_own hoI)) ?_) | (with_reducible refine Calls.same (cA _ (by repeat (first | exact h | refine Sl.below ?_ (After.below _)))) ?_) | (with_reducible refine Calls.same (cB _ (by repeat (first | exact h' | refine Sl.below ?_ (After.below _)))) ?_)) | (go_at_call 21; first | (with_reducible refine' Calls.aft _ _ (t1 oA _ (by repeat (first | exact h | refine Sl.below ?_ (After.below _))) (by repeat (first | exact Sl.of_own hoA | refine Sl.below ?_ (After.below _)))) _; rotate_left 2; (exact Below.refl _ _; rfl); intro xx; have hle := After.le xx; (try simp at hle)) | (with_reducible refine' Calls.aft _ _ (t2 oA _ (by repeat (first | exact Sl.of_own hoA | refine Sl.below ?_ (After.below _))) (by repeat (first | exact h | refine Sl.below ?_ (After.below _)))) _; rotate_left 2; (exact Below.refl _ _; rfl); intro xx; have hle := After.le xx; (try simp at hle)) | (with_reducible refine' Calls.aft _ _ (t3 oX oY _ (by repeat (first | exact Sl.of_own hoX | refine Sl.below ?_ (After.below _))) (Sl.of_own hoY)) _; rotate_left 2; (exact Below.refl _ _; rfl); intro xx; have hle := After.le xx; (try simp at hle)) | (with_reducible refine' Calls.aft _ _ (t4 _ (by repeat (first | exact h | refine Sl.below ?_ (After.below _))) (by repeat (first | exact h' | refine Sl.below ?_ (After.below _)))) _; rotate_left 2; (exact Below.refl _ _; rfl); intro xx; have hle := After.le xx; (try simp at hle)) | (with_reducible refine' Calls.aft _ _ (t5 _ (by repeat (first | exact h' | refine Sl.below ?_ (After.below _))) (by repeat (first | exact h'' | refine Sl.below ?_ (After.below _)))) _; rotate_left 2; (exact Below.refl _ _; rfl); intro xx; have hle := After.le xx; (try simp at hle)) | (with_reducible refine' Calls.aft _ _ (t6 _ (by repeat (first | exact h | refine Sl.below ?_ (After.below _))) (by repeat (first | exact h'' | refine Sl.below ?_ (After.below _)))) _; rotate_left 2; (exact Below.refl _ _; rfl); intro xx; have hle := After.le xx; (try simp at hle))))
  · go_ret
    refine ⟨?_, (by repeat (first | exact xa.below | refine below_after ?_ _))⟩
    have e1 : y1 = true := by first | assumption | simp_all
    have e2 : y2 = true := by first | assumption | simp_all
    rw [e1, e2] at hy
    cases y3 with
    | true => rfl
    | false => cases hy
  · go_ret; exact ⟨rfl, (by repeat (first | exact xa.below | refine below_after ?_ _))⟩
  · go_ret; exact ⟨rfl, (by repeat (first | exact xa.below | refine below_after ?_ _))⟩

end Go.Proofs.YtjjopjpchgajcaaDoor.Ws

/- WordsetLaws, put together. -/
import Derived.Test.YtjjopjpchgajcaaDoorWordsn
namespace Go.Proofs.YtjjopjpchgajcaaDoor.Ws
set_option linter.unusedVariables false
set_option linter.unusedSimpArgs false
open Go Go.RowKit

theorem size_ext (L : List Nat) {k : Nat} (h : 64 * L.length ≤ k) : cnt (has L) k = size L := by
  obtain ⟨r, rfl⟩ := Nat.exists_eq_add_of_le h
  rw [cnt_add, cnt_congr (q := fun _ => false) r (fun i _ => has_over (by omega)), cnt_zero]
  rfl
theorem size_or_and (L M : List Nat) : size (zipW gOr L M) + size (zipW gAnd L M) = size L + size M := by
  have h1 : 64 * L.length ≤ 64 * max L.length M.length := by omega
  have h2 : 64 * M.length ≤ 64 * max L.length M.length := by omega
  rw [← size_ext L h1, ← size_ext M h2, ← cnt_or_and (has L) (has M)]
  unfold size
  rw [zipW_length, zipW_length]
  congr 1
  · exact cnt_congr _ fun i _ => has_union i
  · exact cnt_congr _ fun i _ => has_inter i

set_option maxRecDepth 100000 in
theorem wordsetLaws_any (L M N : List Nat) (hL : okW L) (hM : okW M) (hN : okW N) (v v' v'' : Value) (w : World) (h : Sl w v encW L) (h' : Sl w v' encW M) (h'' : Sl w v'' encW N) (hT : Tab w) :
    Calls Tryd.prog 4 #[v, v', v''] w fun e w' => e = .returned (.bool true) ∧ Below w.heap.size w w' := by
  obtain ⟨p, cap, hv⟩ : ∃ p cap, v'' = .slice p N.length cap := by obtain ⟨b, off, p, cap, hv, _⟩ := h''; exact ⟨p, cap, hv⟩
  subst hv
  cases hf : (decide (L.length ≤ 4) && decide (M.length ≤ 4))
  · exact laws_few w hT v v' _ fun x => by have := few10_any L M v v' x.val (h.below x.below) (h'.below x.below); rw [hf] at this; exact this
  · have hfew : ∀ x : After w, Calls Tryd.prog 17 #[v, v'] x.val fun e w' => e = .returned (.bool true) ∧ x.val = w' := fun x => by have := few10_any L M v v' x.val (h.below x.below) (h'.below x.below); rw [hf] at this; exact this
    simp at hf
    obtain ⟨l1, l2⟩ := hf
    by_cases hN4 : 4 < N.length
    · exact laws_big w hT v v' p N.length cap hN4 hfew
    · have k1 : L.length ≤ 1000000 := by omega
      have k2 : M.length ≤ 1000000 := by omega
      have k3 : N.length ≤ 1000000 := by omega
      have oU : okW (zipW gOr L M) := zip_ok or_lt hL hM
      have oI : okW (zipW gAnd L M) := zip_ok and_lt hL hM
      have oD : okW (zipW gMinus L M) := zip_ok minus_lt hL hM
      have oA : okW (zipW gOr (zipW gMinus L M) (zipW gAnd L M)) := zip_ok or_lt oD oI
      have oB : okW (zipW gOr M N) := zip_ok or_lt hM hN
      have oX : okW (zipW gAnd L (zipW gOr M N)) := zip_ok and_lt hL oB
      have oC : okW (zipW gAnd L N) := zip_ok and_lt hL hN
      have oY : okW (zipW gOr (zipW gAnd L M) (zipW gAnd L N)) := zip_ok or_lt oI oC
      have qU : (zipW gOr L M).length ≤ 4 := by rw [zipW_length]; omega
      have qI : (zipW gAnd L M).length ≤ 4 := by rw [zipW_length]; omega
      have qD : (zipW gMinus L M).length ≤ 4 := by rw [zipW_length]; omega
      have qA : (zipW gOr (zipW gMinus L M) (zipW gAnd L M)).length ≤ 4 := by rw [zipW_length]; omega
      have qB : (zipW gOr M N).length ≤ 4 := by rw [zipW_length]; omega
      have qX : (zipW gAnd L (zipW gOr M N)).length ≤ 4 := by rw [zipW_length]; omega
      have qC : (zipW gAnd L N).length ≤ 4 := by rw [zipW_length]; omega
      have qY : (zipW gOr (zipW gAnd L M) (zipW gAnd L N)).length ≤ 4 := by rw [zipW_length]; omega
      have w1 : withinB L (zipW gOr (zipW gMinus L M) (zipW gAnd L M)) = true := by
        rw [within_iff oA]; intro m hm; rw [has_union, has_minus hM, has_inter, hm]; cases has M m <;> rfl
      have w2 : withinB (zipW gOr (zipW gMinus L M) (zipW gAnd L M)) L = true := by
        rw [within_iff hL]; intro m; rw [has_union, has_minus hM, has_inter]; cases has L m <;> cases has M m <;> simp
      have w3 : withinB (zipW gAnd L (zipW gOr M N)) (zipW gOr (zipW gAnd L M) (zipW gAnd L N)) = true := by
        rw [within_iff oY]; intro m; rw [has_union, has_inter, has_inter, has_inter, has_union]; cases has L m <;> cases has M m <;> cases has N m <;> simp
      have s1 := size_le (zipW gOr L M)
      have s2 := size_le (zipW gAnd L M)
      have s3 := size_le L
      have s4 := size_le M
      refine laws_with w hT v v' p cap L M N (zipW gOr L M) (zipW gAnd L M) (zipW gMinus L M) (zipW gOr (zipW gMinus L M) (zipW gAnd L M)) (zipW gOr M N) (zipW gAnd L (zipW gOr M N)) (zipW gAnd L N) (zipW gOr (zipW gAnd L M) (zipW gAnd L N)) (withinB L M) (withinB M N) (withinB L N) (size (zipW gOr L M)) (size (zipW gAnd L M)) (size L) (size M)
        (size_or_and L M) (by omega) (by omega) (by omega) (by omega) (by omega) ?_ h h' h'' hfew
        (fun w h h' => union_any L M hL hM k1 k2 _ _ w h h') (fun w h h' => inter_any L M hL hM k1 k2 _ _ w h h') (fun w h h' => minus_any L M hL hM k1 k2 _ _ w h h')
        (fun o o' w h h' => union_any _ _ oD oI (by omega) (by omega) o o' w h h') (fun w h h' => union_any M N hM hN k2 k3 _ _ w h h')
        (fun o w h h' => inter_any L _ hL oB k1 (by omega) _ _ w h h') (fun w h h' => inter_any L N hL hN k1 k3 _ _ w h h') (fun o o' w h h' => union_any _ _ oI oC (by omega) (by omega) o o' w h h')
        (fun o w h => len_any _ oU (by omega) o w h) (fun o w h => len_any _ oI (by omega) o w h) (fun w h => len_any L hL k1 v w h) (fun w h => len_any M hM k2 v' w h)
        (fun o w h h' => by have := within_any L _ hL oA k1 (by omega) v o w h h'; rw [w1] at this; exact this)
        (fun o w h h' => by have := within_any _ L oA hL (by omega) k1 o v w h h'; rw [w2] at this; exact this)
        (fun o o' w h h' => by have := within_any _ _ oX oY (by omega) (by omega) o o' w h h'; rw [w3] at this; exact this)
        (fun w h h' => within_any L M hL hM k1 k2 _ _ w h h') (fun w h h' => within_any M N hM hN k2 k3 _ _ w h h') (fun w h h' => within_any L N hL hN k1 k3 _ _ w h h')
      have t : withinB L M = true → withinB M N = true → withinB L N = true := by
        rw [within_iff hM, within_iff hN, within_iff hN]
        exact fun h1 h2 m hm => h2 m (h1 m hm)
      cases e1 : withinB L M with
      | false => rfl
      | true => cases e2 : withinB M N with
        | false => rfl
        | true => rw [t e1 e2]; rfl

end Go.Proofs.YtjjopjpchgajcaaDoor.Ws

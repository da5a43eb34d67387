/- Layouts: soughref32's Parts. WALK. -/
import Derived.Test.YtjjmoibnmdbpeaaLayf
import Derived.Test.YtjjmoibnmdbpeaaTel
namespace Go.Proofs.Ytjjmoibnmdbpeaa.Pr
set_option linter.unusedVariables false
set_option linter.unusedSimpArgs false
open Go Go.RowKit

theorem lay_four {W : World} {B : Nat} {v0 v1 v2 v3 : Value} {t : TypeId} (h : W.heap[B]? = some (.cells #[v0, v1, v2, v3] t (0, 0))) :
    W.cell? ⟨B, 1, none⟩ = some v1 ∧ W.cell? ⟨B, 2, none⟩ = some v2 ∧ W.cell? ⟨B, 3, none⟩ = some v3 ∧ B < W.heap.size :=
  ⟨(cell_of_row W B 1 _ t (0, 0) h).trans rfl, (cell_of_row W B 2 _ t (0, 0) h).trans rfl, (cell_of_row W B 3 _ t (0, 0) h).trans rfl, lt_of_block h⟩

set_option maxRecDepth 100000 in
set_option maxHeartbeats 4000000 in
theorem parts32_any (what : Int) (n nodes k : Nat) (h0 : nodes * n ≤ 1000000) (h1 : nodes ≤ 1000) (h2 : k * (2 + (nodes + 1)) ≤ 1000000) (w : World) :
    Calls Try.prog 18 #[.agg #[.int .i64 what, .int .i64 n, .int .i64 nodes, .int .i64 k]] w fun e w' => ∃ fv tv, e = .returned (.tuple #[fv, tv]) ∧ Tel.Fr (w.heap.size + 1) w' fv tv (partP n nodes k) (whoP n nodes k) ∧ Below w.heap.size w w' := by
  obtain ⟨i0, hi, hz0, hz1, hz2⟩ := info_parts Tel.int_info9
  have hbox := heap_alloc_new w (.cells #[.int .i64 what, .int .i64 n, .int .i64 nodes, .int .i64 k] 35)
  have hb1 : Below w.heap.size w (w.alloc (.cells #[.int .i64 what, .int .i64 n, .int .i64 nodes, .int .i64 k] 35)) := (Below.refl _ _).alloc (Nat.le_refl _) _
  obtain ⟨V, hV⟩ : ∃ V, V = w.alloc (.cells #[.int .i64 what, .int .i64 n, .int .i64 nodes, .int .i64 k] 35) := ⟨_, rfl⟩
  have hVs : V.heap.size = w.heap.size + 1 := by rw [hV]; simp
  go_enter Try.func18, Try.ntmps18
  go_wp2_with fail
  rw [← hV] at hbox hb1 ⊢
  clear hV
  have hn0 : n ≤ n := Nat.le_refl _
  go_loopw [4, 5, 6] (fun f t i wr => ∃ v : Nat, v ≤ nodes ∧ i = .int .i64 v ∧ Tel.Fr V.heap.size wr f t (List.replicate (v * n) 1) (blkN v n) ∧ Below V.heap.size V wr) (fun _ _ i _ => nodes - (intOf i).toNat)
  case atStart => exact ⟨0, Nat.zero_le _, rfl, by rw [Nat.zero_mul]; exact ⟨World.ownsRow_nil _ _ _ _, World.ownsRow_nil _ _ _ _, .inl rfl, .inl rfl⟩, Below.refl _ _⟩
  case round =>
    obtain ⟨v, hv, rfl, hF, hB⟩ := hrel
    obtain ⟨l1, l2, l3, ll⟩ := lay_four (blk9 hB hbox)
    by_cases hlt : v < nodes
    · have hlt2 : (v : Int) < nodes := by omega
      have hvn : v * n + n ≤ nodes * n := by rw [← Nat.succ_mul]; exact Nat.mul_le_mul_right _ hlt
      have hvi : (v : Int) + 1 ≤ 1000 := by omega
      go_wp2_with fail
      go_loopw [4, 5, 7] (fun f t i wr => ∃ j : Nat, j ≤ n ∧ i = .int .i64 j ∧ Tel.Fr V.heap.size wr f t (List.replicate (v * n + j) 1) (blkN v n ++ List.replicate j (v : Int)) ∧ Below V.heap.size V wr) (fun _ _ i _ => n - (intOf i).toNat)
      case atStart => exact ⟨0, Nat.zero_le _, rfl, by rw [Nat.add_zero, List.replicate_zero, List.append_nil]; exact hF, hB⟩
      case round =>
        clear l1 l2 l3 ll hF hB
        obtain ⟨j, hj, rfl, hF, hB⟩ := hrel
        obtain ⟨l1, l2, l3, ll⟩ := lay_four (blk9 hB hbox)
        by_cases hlj : j < n
        · have hlj2 : (j : Int) < n := by omega
          have hF2 : Hid (List.replicate (v * n + j) (1 : Int) ++ [1] = List.replicate (v * n + (j + 1)) 1) := by rw [← Nat.add_assoc, List.replicate_succ']; rfl
          have hT2 : Hid ((blkN v n ++ List.replicate j (v : Int)) ++ [(v : Int)] = blkN v n ++ List.replicate (j + 1) (v : Int)) := by rw [List.append_assoc, List.replicate_succ']; rfl
          have hFl : (List.replicate (v * n + j) (1 : Int)).length ≤ 1000000 := by rw [List.length_replicate]; omega
          have hTl : (blkN v n ++ List.replicate j (v : Int)).length ≤ 1000000 := by rw [List.length_append, blkN_len, List.length_replicate]; omega
          have hji : (j : Int) + 1 ≤ 1000000 := by omega
          generalize List.replicate (v * n + j) (1 : Int) = F at hF hF2 hFl
          generalize blkN v n ++ List.replicate j (v : Int) = T at hF hT2 hTl
          have hw := hB.size
          go_wp2_with (first | (at_builtin; refine Tel.wpList_append_tells rfl (.tmp 23) (.tmp 24) 23 rfl _ 3 i0 (.int .i64 0) 1 8 Try.underlying23 hi hz0 hz1 hz2 rfl (by decide) _ (F).length ((F).map Tel.iv) rfl ((hF).below ((Below.refl _ _).alloc (Nat.le_refl _) _)).f _ 1 1 [.int .i64 1] rfl rfl (Tel.one_news rfl) Tel.one_one (by unfold maxLen; omega) (by omega) (by have := (hB).size; simp; omega) (by decide) ?_; intro v1 w1 ho1 hg1 hv1; have hFa := ((hF).below ((Below.refl _ _).alloc (Nat.le_refl _) _)).growF hg1 ho1 hv1; have hBa := Below.grown ((hB).alloc (hB).size _) hg1 (by have := (hB).size; simp; omega) (fun q hq => ((hF).f.lt q hq).1)) | (at_builtin; refine Tel.wpList_append_tells rfl (.tmp 26) (.tmp 28) 23 rfl _ 3 i0 (.int .i64 0) 1 8 Try.underlying23 hi hz0 hz1 hz2 rfl (by decide) _ (T).length ((T).map Tel.iv) rfl ((hFa).below ((Below.refl _ _).alloc (Nat.le_refl _) _)).t _ 1 1 [.int .i64 (v : Int)] rfl rfl (Tel.one_news rfl) Tel.one_one (by unfold maxLen; omega) (by omega) (by have := (hBa).size; simp; omega) (by decide) ?_; intro v2 w2 ho2 hg2 hv2; have hFb := ((hFa).below ((Below.refl _ _).alloc (Nat.le_refl _) _)).growT hg2 ho2 hv2; have hBb := Below.grown ((hBa).alloc (hBa).size _) hg2 (by have := (hBa).size; simp; omega) (fun q hq => ((hFa).t.lt q hq).1)))
          go_roundw
          case rel => exact ⟨j + 1, by omega, by simp, by rw [← hF2, ← hT2]; exact hFb, hBb⟩
          case measure => simp [intOf]; omega
        · have hjn : j = n := by omega
          have hlj2 : ¬ (j : Int) < n := by omega
          go_wp2_with fail
          go_roundw
          case rel => exact ⟨v + 1, by omega, by simp, by rw [hjn] at hF; rw [Nat.succ_mul, blkN]; exact hF, hB⟩
          case measure => simp [intOf]; omega
    · have hvn : v = nodes := by omega
      have hlt2 : ¬ (v : Int) < nodes := by omega
      rw [hvn] at hF
      go_wp2_with fail
      clear l1 l2 l3 ll hlt2 hvn hlt hv
      go_loopw [4, 5, 8] (fun f t i wr => ∃ v : Nat, v ≤ nodes ∧ i = .int .i64 v ∧ Tel.Fr V.heap.size wr f t (List.replicate (nodes * n) 1 ++ List.replicate v 2) (blkN nodes n ++ blkN v 1) ∧ Below V.heap.size V wr) (fun _ _ i _ => nodes - (intOf i).toNat)
      case atStart => exact ⟨0, Nat.zero_le _, rfl, by rw [List.replicate_zero, List.append_nil, blkN, List.append_nil]; exact hF, hB⟩
      case round =>
        clear hF hB
        obtain ⟨v, hv, rfl, hF, hB⟩ := hrel
        obtain ⟨l1, l2, l3, ll⟩ := lay_four (blk9 hB hbox)
        have hFl : (List.replicate (nodes * n) (1 : Int) ++ List.replicate v 2).length ≤ 1001000 := by rw [List.length_append, List.length_replicate, List.length_replicate]; omega
        have hTl : (blkN nodes n ++ blkN v 1).length ≤ 1001000 := by rw [List.length_append, blkN_len, blkN_len]; omega
        have hw := hB.size
        by_cases hlt : v < nodes
        · have hlt2 : (v : Int) < nodes := by omega
          have hvi : (v : Int) + 1 ≤ 1000 := by omega
          have hF2 : Hid ((List.replicate (nodes * n) (1 : Int) ++ List.replicate v 2) ++ [2] = List.replicate (nodes * n) 1 ++ List.replicate (v + 1) 2) := by rw [List.append_assoc, List.replicate_succ']; rfl
          have hT2 : Hid ((blkN nodes n ++ blkN v 1) ++ [(v : Int)] = blkN nodes n ++ blkN (v + 1) 1) := by rw [List.append_assoc, blkN]; rfl
          generalize List.replicate (nodes * n) (1 : Int) ++ List.replicate v 2 = F at hF hF2 hFl
          generalize blkN nodes n ++ blkN v 1 = T at hF hT2 hTl
          go_wp2_with (first | (at_builtin; refine Tel.wpList_append_tells rfl (.tmp 36) (.tmp 37) 23 rfl _ 3 i0 (.int .i64 0) 1 8 Try.underlying23 hi hz0 hz1 hz2 rfl (by decide) _ (F).length ((F).map Tel.iv) rfl ((hF).below ((Below.refl _ _).alloc (Nat.le_refl _) _)).f _ 1 1 [.int .i64 2] rfl rfl (Tel.one_news rfl) Tel.one_one (by unfold maxLen; omega) (by omega) (by have := (hB).size; simp; omega) (by decide) ?_; intro v1 w1 ho1 hg1 hv1; have hFa := ((hF).below ((Below.refl _ _).alloc (Nat.le_refl _) _)).growF hg1 ho1 hv1; have hBa := Below.grown ((hB).alloc (hB).size _) hg1 (by have := (hB).size; simp; omega) (fun q hq => ((hF).f.lt q hq).1)) | (at_builtin; refine Tel.wpList_append_tells rfl (.tmp 39) (.tmp 41) 23 rfl _ 3 i0 (.int .i64 0) 1 8 Try.underlying23 hi hz0 hz1 hz2 rfl (by decide) _ (T).length ((T).map Tel.iv) rfl ((hFa).below ((Below.refl _ _).alloc (Nat.le_refl _) _)).t _ 1 1 [.int .i64 (v : Int)] rfl rfl (Tel.one_news rfl) Tel.one_one (by unfold maxLen; omega) (by omega) (by have := (hBa).size; simp; omega) (by decide) ?_; intro v2 w2 ho2 hg2 hv2; have hFb := ((hFa).below ((Below.refl _ _).alloc (Nat.le_refl _) _)).growT hg2 ho2 hv2; have hBb := Below.grown ((hBa).alloc (hBa).size _) hg2 (by have := (hBa).size; simp; omega) (fun q hq => ((hFa).t.lt q hq).1)))
          go_roundw
          case rel => exact ⟨v + 1, by omega, by simp, by rw [← hF2, ← hT2]; exact hFb, hBb⟩
          case measure => simp [intOf]; omega
        · have hvn : v = nodes := by omega
          have hlt2 : ¬ (v : Int) < nodes := by omega
          rw [hvn] at hF hFl hTl
          generalize hAe : List.replicate (nodes * n) (1 : Int) ++ List.replicate nodes 2 = A at hF hFl
          generalize hCe : blkN nodes n ++ blkN nodes 1 = C at hF hTl
          have hAe2 : Hid (List.replicate (nodes * n) (1 : Int) ++ List.replicate nodes 2 = A) := hAe
          have hCe2 : Hid (blkN nodes n ++ blkN nodes 1 = C) := hCe
          clear hAe hCe
          go_wp2_with (first | (at_builtin; refine Tel.wpList_append_tells rfl (.tmp 43) (.tmp 44) 23 rfl _ 3 i0 (.int .i64 0) 1 8 Try.underlying23 hi hz0 hz1 hz2 rfl (by decide) _ (A).length ((A).map Tel.iv) rfl ((hF).below ((Below.refl _ _).alloc (Nat.le_refl _) _)).f _ 1 1 [.int .i64 3] rfl rfl (Tel.one_news rfl) Tel.one_one (by unfold maxLen; omega) (by omega) (by have := (hB).size; simp; omega) (by decide) ?_; intro v1 w1 ho1 hg1 hv1; have hFa := ((hF).below ((Below.refl _ _).alloc (Nat.le_refl _) _)).growF hg1 ho1 hv1; have hBa := Below.grown ((hB).alloc (hB).size _) hg1 (by have := (hB).size; simp; omega) (fun q hq => ((hF).f.lt q hq).1)) | (at_builtin; refine Tel.wpList_append_tells rfl (.tmp 46) (.tmp 47) 23 rfl _ 3 i0 (.int .i64 0) 1 8 Try.underlying23 hi hz0 hz1 hz2 rfl (by decide) _ (C).length ((C).map Tel.iv) rfl ((hFa).below ((Below.refl _ _).alloc (Nat.le_refl _) _)).t _ 1 1 [.int .i64 0] rfl rfl (Tel.one_news rfl) Tel.one_one (by unfold maxLen; omega) (by omega) (by have := (hBa).size; simp; omega) (by decide) ?_; intro v2 w2 ho2 hg2 hv2; have hFb := ((hFa).below ((Below.refl _ _).alloc (Nat.le_refl _) _)).growT hg2 ho2 hv2; have hBb := Below.grown ((hBa).alloc (hBa).size _) hg2 (by have := (hBa).size; simp; omega) (fun q hq => ((hFa).t.lt q hq).1)))
          clear l1 l2 l3 ll hlt2 hvn hlt hv
          have hAl : (A ++ [3]).length ≤ 1001001 := by rw [List.length_append]; simp; omega
          have hCl : (C ++ [0]).length ≤ 1001001 := by rw [List.length_append]; simp; omega
          have hAA : Hid (A ++ [3] = A ++ [3]) := rfl
          generalize hA3 : A ++ [(3 : Int)] = A3 at hFb hAl
          generalize hC3 : C ++ [(0 : Int)] = C3 at hFb hCl
          have hA4 : Hid (A ++ [(3 : Int)] = A3) := hA3
          have hC4 : Hid (C ++ [(0 : Int)] = C3) := hC3
          clear hA3 hC3 hAA hF hB hFa hBa hFl hTl
          go_loopw [4, 5, 9] (fun f t i wr => ∃ v : Nat, v ≤ k ∧ i = .int .i64 v ∧ Tel.Fr V.heap.size wr f t (A3 ++ List.replicate (v * (2 + (nodes + 1))) 4) (C3 ++ blkN v (2 + (nodes + 1))) ∧ Below V.heap.size V wr) (fun _ _ i _ => k - (intOf i).toNat)
          case atStart => exact ⟨0, Nat.zero_le _, rfl, by rw [Nat.zero_mul, List.replicate_zero, List.append_nil, blkN, List.append_nil]; exact hFb, hBb⟩
          case round =>
            clear hFb hBb
            obtain ⟨u, hu, rfl, hF, hB⟩ := hrel
            obtain ⟨l1, l2, l3, ll⟩ := lay_four (blk9 hB hbox)
            have hw := hB.size
            by_cases hlt : u < k
            · have hlt2 : (u : Int) < k := by omega
              have hvn : u * (2 + (nodes + 1)) + (2 + (nodes + 1)) ≤ k * (2 + (nodes + 1)) := by rw [← Nat.succ_mul]; exact Nat.mul_le_mul_right _ hlt
              have hvi : (u : Int) + 1 ≤ 1000000 := by have : k * 1 ≤ k * (2 + (nodes + 1)) := Nat.mul_le_mul_left _ (by omega); omega
              go_wp2_with fail
              go_loopw [4, 5, 10] (fun f t i wr => ∃ j : Nat, j ≤ 2 + (nodes + 1) ∧ i = .int .i64 j ∧ Tel.Fr V.heap.size wr f t (A3 ++ List.replicate (u * (2 + (nodes + 1)) + j) 4) (C3 ++ (blkN u (2 + (nodes + 1)) ++ List.replicate j (u : Int))) ∧ Below V.heap.size V wr) (fun _ _ i _ => (2 + (nodes + 1)) - (intOf i).toNat)
              case atStart => exact ⟨0, Nat.zero_le _, rfl, by rw [Nat.add_zero, List.replicate_zero, List.append_nil]; exact hF, hB⟩
              case round =>
                clear l1 l2 l3 ll hF hB
                obtain ⟨j, hj, rfl, hF, hB⟩ := hrel
                obtain ⟨l1, l2, l3, ll⟩ := lay_four (blk9 hB hbox)
                have c1 := fun W => room27_any ((nodes : Int) + 1) (by omega) (by omega) W
                by_cases hlj : j < 2 + (nodes + 1)
                · have hlj2 : (j : Int) < 2 + ((nodes : Int) + 1) := by omega
                  have hF2 : Hid ((A3 ++ List.replicate (u * (2 + (nodes + 1)) + j) (4 : Int)) ++ [4] = A3 ++ List.replicate (u * (2 + (nodes + 1)) + (j + 1)) 4) := by rw [show u * (2 + (nodes + 1)) + (j + 1) = (u * (2 + (nodes + 1)) + j) + 1 from rfl, List.replicate_succ', List.append_assoc]; rfl
                  have hT2 : Hid ((C3 ++ (blkN u (2 + (nodes + 1)) ++ List.replicate j (u : Int))) ++ [(u : Int)] = C3 ++ (blkN u (2 + (nodes + 1)) ++ List.replicate (j + 1) (u : Int))) := by rw [List.append_assoc, List.append_assoc, List.replicate_succ']; rfl
                  have hFl : (A3 ++ List.replicate (u * (2 + (nodes + 1)) + j) (4 : Int)).length ≤ 2002002 := by rw [List.length_append, List.length_replicate]; omega
                  have hTl : (C3 ++ (blkN u (2 + (nodes + 1)) ++ List.replicate j (u : Int))).length ≤ 2002002 := by rw [List.length_append, List.length_append, blkN_len, List.length_replicate]; omega
                  have hji : (j : Int) + 1 ≤ 1000000 := by omega
                  generalize A3 ++ List.replicate (u * (2 + (nodes + 1)) + j) (4 : Int) = F at hF hF2 hFl
                  generalize C3 ++ (blkN u (2 + (nodes + 1)) ++ List.replicate j (u : Int)) = T at hF hT2 hTl
                  have hw := hB.size
                  go_wp2_with (first | (go_at_call 38; refine Calls.same (c1 _) ?_) | (at_builtin; refine Tel.wpList_append_tells rfl (.tmp 64) (.tmp 65) 23 rfl _ 3 i0 (.int .i64 0) 1 8 Try.underlying23 hi hz0 hz1 hz2 rfl (by decide) _ (F).length ((F).map Tel.iv) rfl ((hF).below ((Below.refl _ _).alloc (Nat.le_refl _) _)).f _ 1 1 [.int .i64 4] rfl rfl (Tel.one_news rfl) Tel.one_one (by unfold maxLen; omega) (by omega) (by have := (hB).size; simp; omega) (by decide) ?_; intro v1 w1 ho1 hg1 hv1; have hFa := ((hF).below ((Below.refl _ _).alloc (Nat.le_refl _) _)).growF hg1 ho1 hv1; have hBa := Below.grown ((hB).alloc (hB).size _) hg1 (by have := (hB).size; simp; omega) (fun q hq => ((hF).f.lt q hq).1)) | (at_builtin; refine Tel.wpList_append_tells rfl (.tmp 67) (.tmp 69) 23 rfl _ 3 i0 (.int .i64 0) 1 8 Try.underlying23 hi hz0 hz1 hz2 rfl (by decide) _ (T).length ((T).map Tel.iv) rfl ((hFa).below ((Below.refl _ _).alloc (Nat.le_refl _) _)).t _ 1 1 [.int .i64 (u : Int)] rfl rfl (Tel.one_news rfl) Tel.one_one (by unfold maxLen; omega) (by omega) (by have := (hBa).size; simp; omega) (by decide) ?_; intro v2 w2 ho2 hg2 hv2; have hFb := ((hFa).below ((Below.refl _ _).alloc (Nat.le_refl _) _)).growT hg2 ho2 hv2; have hBb := Below.grown ((hBa).alloc (hBa).size _) hg2 (by have := (hBa).size; simp; omega) (fun q hq => ((hFa).t.lt q hq).1)))
                  go_roundw
                  case rel => exact ⟨j + 1, by omega, by simp, by rw [← hF2, ← hT2]; exact hFb, hBb⟩
                  case measure => simp [intOf]; omega
                · have hjn : j = 2 + (nodes + 1) := by omega
                  have hlj2 : ¬ (j : Int) < 2 + ((nodes : Int) + 1) := by omega
                  go_wp2_with (go_at_call 38; refine Calls.same (c1 _) ?_)
                  go_roundw
                  case rel => exact ⟨u + 1, by omega, by simp, by rw [hjn] at hF; rw [Nat.succ_mul, blkN]; exact hF, hB⟩
                  case measure => simp [intOf]; omega
            · have hun : u = k := by omega
              have hlt2 : ¬ (u : Int) < k := by omega
              rw [hun] at hF
              go_wp2_with fail
              have hP : partP n nodes k = A3 ++ List.replicate (k * (2 + (nodes + 1))) 4 := by
                have e1 : List.replicate (nodes * n) (1 : Int) ++ List.replicate nodes 2 = A := hAe2
                have e2 : A ++ [(3 : Int)] = A3 := hA4
                rw [← e2, ← e1]; unfold partP; simp only [List.append_assoc, List.cons_append, List.nil_append]
              have hW : whoP n nodes k = C3 ++ blkN k (2 + (nodes + 1)) := by
                have e1 : blkN nodes n ++ blkN nodes 1 = C := hCe2
                have e2 : C ++ [(0 : Int)] = C3 := hC4
                rw [← e2, ← e1]; unfold whoP; simp only [List.append_assoc, List.cons_append, List.nil_append]
              refine bodyPost_ret (v := .tuple #[u4, u5]) (by simp only [results, Try.results18]; go_simp) rfl ⟨_, _, rfl, ?_, nextB hB hb1⟩
              rw [hP, hW, ← hVs]
              exact hF

end Go.Proofs.Ytjjmoibnmdbpeaa.Pr

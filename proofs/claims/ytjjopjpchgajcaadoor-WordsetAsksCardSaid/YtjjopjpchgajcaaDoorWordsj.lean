/- WALKS: wordset.List: a range over a function that appends. -/
import Derived.Test.YtjjopjpchgajcaaDoorWordsi
namespace Go.Proofs.YtjjopjpchgajcaaDoor.Ws
set_option linter.unusedVariables false
set_option linter.unusedSimpArgs false
open Go Go.RowKit Go.Shelf

attribute [local go_sem] Oper.semAt_some

set_option maxRecDepth 100000 in
set_option maxHeartbeats 2000000 in
theorem list_in (F : Fence) (n : Nat) (h3 : F.fn 26) (h5 : F.fn 36) (h7 : F.fn 37) (h8 : F.fn 38) (hro : F.round = none) (hn : 4 ≤ n) (L : List Nat) (hok : okW L) (hl : L.length ≤ 1000000)
    (b off cap : Nat) (p : Option Addr) (hp : 0 < L.length → p = some ⟨b, off, none⟩)
    (htz : ∀ (x : Nat) W, 0 < x → x < 18446744073709551616 → Tab W → CallsIn F (n - 1 - 1) Tryd.prog 38 #[.int .u64 x] W fun e W' => e = .returned (.int .i64 (tz x)) ∧ W = W')
    (w : World) (hT : Tab w) (hb : 0 < L.length → b < w.heap.size) (hcs : ∀ j, (h : j < L.length) → w.cell? ⟨b, off + j, none⟩ = some (.int .u64 (L[j]'h : Nat))) :
    CallsIn F n Tryd.prog 26 #[.slice p L.length cap] w fun e W' => ∃ v, e = .returned v ∧ W'.ownsRow w.heap.size 3 1 v (listW L (64 * L.length)).length ((listW L (64 * L.length)).map (Value.int .i64)) ∧ Below w.heap.size w W' := by
  have h1 : 1 ≤ n := by omega
  have hT0 := hT.lt
  have hlen : (listW L (64 * L.length)).length ≤ 64 * L.length := listW_len_le _ _
  obtain ⟨i0, hi, hz0, hz1, hz2⟩ := info_parts i_info
  refine callsIn_of_wp_marks Tryd.func26 rfl h3 ?_ hro
  simp only [Tryd.ntmps26, List.size_toArray, List.length_cons, List.length_nil, Nat.reduceAdd, Nat.reduceSub, Array.replicate_succ, Array.replicate_zero, List.push_toArray, List.append_toArray, List.nil_append, List.cons_append]
  gi_wp2_with (gi_at_call 36; refine (all_in F (n - 1) h5 hro _ _ _ _).mono ?_; rintro e w' ⟨rfl, rfl⟩)
  have bO := Boxed.new w 22 (.slice none 0 0)
  have bN := Boxed.new (w.alloc (.cells #[.slice none 0 0] 22)) 23 (.slice p L.length cap)
  rw [World.size_alloc] at bN
  have hB0 : Below w.heap.size w ((w.alloc (.cells #[.slice none 0 0] 22)).alloc (.cells #[.slice p L.length cap] 23)) := ((Below.refl _ w).alloc (Nat.le_refl _) _).alloc (by simp) _
  refine wpIn_rangeFunc_ownG hro h1 (gf := 37) (lb := #[.pointer (some ⟨w.heap.size + 1, 0, none⟩)]) rfl h7 (enters_of Tryd.func37 (by kernel_rfl) rfl)
    (all_stops F (n - 1) h7 h8 hro (by omega) (w.heap.size + 1) w.heap.size L hok hl hT0 b off cap p hp hb htz _ (hT.below hT0 hB0) (by simp) (by simp; omega) bN.cell (fun j h => (hB0.cell (p := ⟨b, off + j, none⟩) (hb (by omega))).trans (hcs j h))) belowK_t (belowK_b (by simp; omega)) (Below.refl _ _) (fun _ => rfl)
    (fun pre W => (∃ v, Boxed W w.heap.size 22 v ∧ W.ownsRow w.heap.size 3 1 v pre.length (pre.map (Value.int .i64)) ∧ (v = .slice none 0 0 ↔ pre = [])) ∧ Below w.heap.size w W)
    (fun _ _ _ => False)
    (OwnFrom.and (Own.from (holdsRow_own w.heap.size w.heap.size 22 3 1 (fun pre => pre.length) (fun pre => pre.map (Value.int .i64)) (fun pre v => v = .slice none 0 0 ↔ pre = [])) _) (ownFrom_below (Nat.le_refl _) (by simp; omega)))
    (fun _ _ _ _ _ hs _ _ => hs)
    ⟨⟨_, bO.alloc _, World.ownsRow_nil _ _ _ _, by simp⟩, hB0⟩
    (fun x => { tmps := #[.slice p L.length cap, undef, .slice none 0 0, .pointer (some ⟨w.heap.size, 0, none⟩), .int .i64 x, .slice p L.length cap, .func (.func 37) #[] #[.pointer (some ⟨w.heap.size + 1, 0, none⟩)], .int .i64 x, undef, undef, undef, undef, undef], defers := [] }) ?assign ?body ?done ?stop
  case assign =>
    intro l x W K hK
    gi_wp2
    exact hK
  case body =>
    rintro l pre x W ⟨⟨v, hv, hrow, hnil⟩, hB⟩ hlt
    have hc := hv.cell
    gi_wp2_with (gi_at_builtin; refine wpListIn_append_own _ rfl _ _ 22 rfl w.heap.size 3 i0 (.int .i64 0) 1 8 Tryd.underlying22 hi hz0 hz1 hz2 rfl (by decide) _ _ _ rfl (hrow.alloc _) ⟨W.heap.size, 0, none⟩ 1 1 [.int .i64 x] rfl rfl (cell_one_new _ _ _) (by simp [Value.oneCell']) (by unfold maxLen; omega) (by omega) (by have := hB.size; simp; omega) ?_; intro v' w1 hown' hgrow _; obtain ⟨g', cap', rfl⟩ := ownsRow_succ hown'; obtain ⟨hv1, hv2, hr2, hk2, hb2⟩ := hv.appended (by decide) hrow hB.size (Nat.le_refl _) hown' hgrow; have hc1 := hv1.cell; have hf1 := hv1.frozen)
    exact ⟨hk2.from _, hb2, ⟨_, hv2, by simpa using hr2, by simp⟩, hB.trans hb2⟩
  case done =>
    rintro D ys W hD rfl ⟨⟨v, hv, hrow, hnil⟩, hB⟩ hK
    have hc := hv.cell
    gi_wp2
    refine ⟨by simp, .inl ⟨_, _, rfl, run_takeDeferred hK, ?_⟩⟩
    exact ⟨_, results_tmp rfl _ _ _, v, rfl, ownsRow_putObj hrow _ hK rfl, hB.trans (belowK_b (w := w) (Nat.le_refl _) W D _ _ (by simp at hD; omega) hK rfl rfl)⟩
  case stop =>
    rintro D c pre W _ _ h _
    exact h.elim

theorem list_any (L : List Nat) (hok : okW L) (hl : L.length ≤ 1000000) (v : Value) (w : World) (h : Sl w v encW L) (hT : Tab w) :
    Calls Tryd.prog 26 #[v] w fun e w' => ∃ o, e = .returned o ∧ w'.ownsRow w.heap.size 3 1 o (listW L (64 * L.length)).length ((listW L (64 * L.length)).flatMap encI) ∧ Below w.heap.size w w' := by
  obtain ⟨b, off, p, cap, rfl, hp, hc⟩ := h
  have hcs : ∀ j, (h : j < L.length) → w.cell? ⟨b, off + j, none⟩ = some (.int .u64 (L[j]'h : Nat)) := fun j h => hc j _ (by
    have : L.flatMap encW = L.map fun x : Nat => Value.int .u64 (x : Int) := flat_words L
    rw [this]; simp [h])
  have hb : 0 < L.length → b < w.heap.size := fun h => by
    have := hcs 0 h
    rcases Nat.lt_or_ge b w.heap.size with h1 | h1
    · exact h1
    · simp [World.cell?, Array.getElem?_eq_none h1] at this
  rw [flat_ints]
  exact (callsIn_wide (n := 4)).1 (list_in Fence.wide 4 trivial trivial trivial trivial rfl (by omega) L hok hl b off cap p hp (fun x W h1 h2 h3 => callsIn_wide.2 (tz_any x h1 h2 W h3)) w hT hb hcs)

end Go.Proofs.YtjjopjpchgajcaaDoor.Ws

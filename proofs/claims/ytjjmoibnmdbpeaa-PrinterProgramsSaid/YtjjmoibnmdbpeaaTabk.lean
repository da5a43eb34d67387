/- WALKS of tables.digits, tables.SiteName. -/
import Derived.Test.YtjjmoibnmdbpeaaTabj
import Derived.Test.YtjjmoibnmdbpeaaTabi
import Derived.Deep.RegionWith
import Derived.Lib.SlBytesConst
namespace Go.Proofs.Ytjjmoibnmdbpeaa.Pr
set_option linter.unusedVariables false
set_option linter.unusedSimpArgs false
open Go Go.RowKit

set_option maxRecDepth 100000 in
theorem tdigits_small (n : Nat) (hn : n < 10) (w : World) :
    Calls Try.prog 49 #[.int .i64 n] w fun e w' => e = .returned (.string ⟨(digN n).toArray⟩) ∧ Below w.heap.size w w' := by
  have h1 := conv_one (w.alloc (.cells #[.int .u8 (48 + n)] 5)) w.heap.size (48 + n) (by simp)
  go_enter Try.func49, Try.ntmps49
  go_wp2_with fail
  go_ret
  refine ⟨ret_str ?_, ?_⟩
  · rw [digN, dif_pos hn]
  · (repeat (first | exact Below.refl _ _ | apply Below.drew | refine Below.alloc ?_ ?_ _ | refine Below.setCell ?_ ?_ _ | refine Below.trans ?_ (Below.mono (After.below _) ?_))); (all_goals (first | (simp; done) | (simp; omega) | omega))

set_option maxRecDepth 100000 in
theorem tdigits_big (n : Nat) (hn : 10 ≤ n) (h2 : n ≤ 32768) (w : World) (ih : ∀ w, Calls Try.prog 49 #[.int .i64 ((n : Int) / 10)] w fun e w' => e = .returned (.string ⟨(digN (n / 10)).toArray⟩) ∧ Below w.heap.size w w') :
    Calls Try.prog 49 #[.int .i64 n] w fun e w' => e = .returned (.string ⟨(digN n).toArray⟩) ∧ Below w.heap.size w w' := by
  have hl := digN_len (n / 10)
  have hif : ¬ (9223372036854775807 < (digN (n / 10)).length + 1) := by omega
  clear hl
  have e0 : (n : Int).tmod 10 = (n : Int) % 10 := Int.tmod_eq_emod_of_nonneg (by omega)
  have e1 : IntKind.i64.wrap ((n : Int) / 10) = (n : Int) / 10 := IntWalk.i64_in _ (by omega)
  have e2 : IntKind.i64.wrap (48 + (n : Int) % 10) = 48 + (n : Int) % 10 := IntWalk.i64_in _ (by omega)
  have e3 : IntKind.u8.wrap (48 + (n : Int) % 10) = 48 + (n : Int) % 10 := by rw [IntKind.wrap_u8']; omega
  have e4 : (48 + (n : Int) % 10).toNat = 48 + n % 10 := by omega
  have g1 : (convert 107 9 (.slice (some ⟨w.heap.size, 0, none⟩) 1 1)).run Try.prog (w.alloc (.cells #[.int .u8 (48 + (n : Int) % 10)] 5)).drew = .ok (.string ⟨#[UInt8.ofNat (48 + n % 10)]⟩) (w.alloc (.cells #[.int .u8 (48 + (n : Int) % 10)] 5)).drew := by
    rw [conv_one _ _ (48 + (n : Int) % 10) (by simp), e4]
  have g2 : ∀ y : After (w.alloc (.cells #[.int .u8 (48 + (n : Int) % 10)] 5)).drew, (convert 107 9 (.slice (some ⟨w.heap.size, 0, none⟩) 1 1)).run Try.prog y.val = .ok (.string ⟨#[UInt8.ofNat (48 + n % 10)]⟩) y.val := fun y => by
    rw [conv_one _ _ (48 + (n : Int) % 10) (by rw [After.cell y _ _ (by simp)]; simp), e4]
  have g3 : ∀ X : World, (convert 107 9 (.slice (some ⟨X.heap.size, 0, none⟩) 1 1)).run Try.prog (X.alloc (.cells #[.int .u8 (48 + (n : Int) % 10)] 5)) = .ok (.string ⟨#[UInt8.ofNat (48 + n % 10)]⟩) (X.alloc (.cells #[.int .u8 (48 + (n : Int) % 10)] 5)) := fun X => by
    rw [conv_one _ _ (48 + (n : Int) % 10) (by simp), e4]
  clear e4
  go_enter Try.func49, Try.ntmps49
  go_wp2_with fail
  go_region_with (go_at_call 49; refine' Calls.aft _ _ (ih _) _; rotate_left 2; (first | (with_reducible exact After.below _; rfl) | (with_reducible exact below_drew (After.below _); rfl) | (with_reducible exact below_set (After.below _) _ _; (go_simp; rfl)) | (with_reducible exact below_set (below_set (After.below _) _ _) _ _; (go_simp; rfl)) | (with_reducible exact below_set (below_set (below_set (After.below _) _ _) _ _) _ _; (go_simp; rfl)) | (with_reducible exact below_set (below_set (below_set (below_set (After.below _) _ _) _ _) _ _) _ _; (go_simp; rfl)) | (exact Below.refl _ _; rfl)); intro x; have hle := After.le x; (try simp at hle))
  all_goals (go_wp2; go_ret; refine ⟨ret_str (digN_big n hn), ?_⟩)
  all_goals (have hx := x.le; simp at hx)
  all_goals ((repeat (first | exact Below.refl _ _ | apply Below.drew | refine Below.alloc ?_ ?_ _ | refine Below.setCell ?_ ?_ _ | refine Below.trans ?_ (Below.mono (After.below _) ?_))); (all_goals (first | (simp; done) | (simp; omega) | omega)))

theorem tdigN_any (n : Nat) : n ≤ 32768 → ∀ (w : World), Calls Try.prog 49 #[.int .i64 n] w fun e w' => e = .returned (.string ⟨(digN n).toArray⟩) ∧ Below w.heap.size w w' := by
  induction n using Nat.strongRecOn with
  | _ n ih =>
    intro h w
    by_cases hn : n < 10
    · exact tdigits_small n hn w
    · exact tdigits_big n (by omega) h w (fun w' => ih (n / 10) (by omega) (by omega) w')

/-- A call that only makes memory, as one step of a region that draws its order. -/
theorem step_callB {P : Program} {ops : Array Oper} {o : Oper} {a : Act} {w : World} {K : Act → World → Prop} {Q : Exit → Act → World → Prop} {E : Prop} (hgd : o.guard = none) (f : FuncId) (vs : Array Value) (v : Value)
    (hop : (execOp a.eval o).run P w = .ok (.enter f vs) w)
    (h : Calls P f vs w fun e w' => e = .returned v ∧ Below w.heap.size w w') (hk : ∀ w', Below w.heap.size w w' → K (a.put o.dst v) w') :
    if Region.wanted o (yielded ops a.tmps) = true then Oper.wp P o a w K Q else E := by
  have hw : Region.wanted o (yielded ops a.tmps) = true := by simp [Region.wanted, hgd]
  rw [if_pos hw]
  unfold Oper.wp
  rw [hop, Oper.upon_enter]
  exact h.mono fun e w' ⟨he, hb⟩ => by subst he; exact hk w' hb

theorem sites_len {P : List Bl} (h12 : P.length ≤ 12) (hl12 : ∀ b ∈ P, b.l.length ≤ 12) : (sitesOf P).length ≤ 1000 := by
  have h1 := blVars_len hl12 P.length
  have h2 := blSites_len hl12 P.length
  show (List.map _ (blVars P P.length) ++ _).length ≤ _
  rw [List.length_append, List.length_map]
  omega

theorem digN_len2 (n : Nat) (h : n < 12) : (digN n).length ≤ 13 := by have := digN_len n; omega

theorem placeV_eta (i : Int) : placeV i = .tuple #[.int .i64 (max i 0), .bool (decide (0 ≤ i))] := rfl

/-- What a site is that is one of a program's, in a block. -/
theorem site_at {P : List Bl} {xb xk : Int} {xv : ByteArray} (h : (⟨xb, xk, xv⟩ : Si) ∈ sitesOf P) (hb : xb ≠ -1) : ∃ (i k : Nat) (hi : i < P.length), xb = i ∧ xk = k ∧ k < (P[i]'hi).l.length ∧ P.getD i default = P[i]'hi := by
  unfold sitesOf at h
  rcases List.mem_append.1 h with h | h
  · obtain ⟨v, _, h2⟩ := List.mem_map.1 h
    cases h2
    exact absurd rfl hb
  · obtain ⟨i, b, k, h1, h2, h3, h4⟩ := blSites_mem h
    obtain ⟨hi, h5⟩ := List.getElem?_eq_some_iff.1 h1
    subst h5
    exact ⟨i, k, hi, h2, h4, h3, by simp [List.getD, hi]⟩

set_option maxRecDepth 100000 in
set_option maxHeartbeats 2000000 in
theorem tname_any (P : List Bl) (xb xk : Int) (xv : ByteArray) (pv : Value) (w : World) (h : Pg w pv P) (h12 : P.length ≤ 12) (hl12 : ∀ b ∈ P, b.l.length ≤ 12) (hn : ∀ b ∈ P, b.n.size ≤ 40) (hx : xv.size ≤ 1000) :
    Calls Try.prog 25 #[.agg #[pv], .agg #[.int .i64 xb, .int .i64 xk, .string xv]] w fun e w' => e = .returned (.string (nameOf P ⟨xb, xk, xv⟩)) ∧ Below w.heap.size w w' := by
  by_cases hb : xb = -1
  · subst hb
    have hif : ¬ (9223372036854775807 < xv.size + 6) := by omega
    have e : nameOf P ⟨-1, xk, xv⟩ = xv ++ startS := by simp [nameOf]
    rw [e]
    obtain ⟨p, cap, rfl⟩ : ∃ p cap, pv = .slice p P.length cap := by obtain ⟨b, off, p, cap, hv, _⟩ := h.1; exact ⟨p, cap, hv⟩
    go_enter Try.func25, Try.ntmps25
    go_wp2_with fail
    go_ret
    refine ⟨rfl, ?_⟩
    (repeat (first | exact Below.refl _ _ | apply Below.drew | refine Below.alloc ?_ ?_ _ | refine Below.setCell ?_ ?_ _ | refine Below.trans ?_ (Below.mono (After.below _) ?_))); (all_goals (first | (simp; done) | (simp; omega) | omega))
  have hsl := sites_len h12 hl12
  have hv := fun w (h : Pg w pv P) => tsites_any P pv w h h12 hl12
  have hpl := fun v (w : World) (h : Sl w v Si.cs (sitesOf P)) => places_any (sitesOf P) xb xk xv (by omega) v w h
  have hbb : (xb == -1) = false := by simp [hb]
  by_cases hm : (⟨xb, xk, xv⟩ : Si) ∈ sitesOf P
  · have hi : 0 ≤ idx (sitesOf P) (⟨xb, xk, xv⟩ : Si) := idx_mem.2 hm
    have e : nameOf P ⟨xb, xk, xv⟩ = xv ++ ⟨#[64]⟩ ++ (P.getD xb.toNat default).n ++ ⟨#[46]⟩ ++ digS xk.toNat := by
      unfold nameOf; rw [if_neg hb, if_pos hm]
    obtain ⟨i, k, hi2, rfl, rfl, hk, hgd⟩ := site_at hm hb
    simp only [Int.toNat_natCast, hgd] at e
    rw [e]
    have hh1 : Pg (w.alloc (.cells #[pv] 57)) pv P := h.below ((Below.refl _ _).alloc (Nat.le_refl _) _)
    obtain ⟨b, off, p, cap, rfl, hp, hc⟩ := Pg.open h
    have c0 := (hc i hi2).1 0 _ rfl
    have hbw := World.block_lt_of_cell? _ _ c0
    have hns := hn _ (List.getElem_mem hi2)
    have hks := hl12 _ (List.getElem_mem hi2)
    have hdl := digN_len2 k (by omega)
    have hdg := tdigN_any k (by omega)
    obtain rfl := hp (by omega)
    generalize (P[i]'hi2) = B at c0 hns hks ⊢
    have hi3 : (i : Int) < P.length := by omega
    have hih : decide (0 ≤ idx (sitesOf P) (⟨i, k, xv⟩ : Si)) = true := decide_eq_true hi
    rw [placeV_eta] at hpl
    rw [hih] at hpl
    generalize max (idx (sitesOf P) (⟨i, k, xv⟩ : Si)) 0 = m at hpl
    have h2 : Pg ((w.alloc (.cells #[.slice (some ⟨b, off, none⟩) P.length cap] 57)).alloc (.cells #[.int .i64 i, .int .i64 k, .string xv] 66)).drew (.slice (some ⟨b, off, none⟩) P.length cap) P := h.below (((Below.refl _ _).alloc (Nat.le_refl _) _).alloc (by simp) _).drew
    have z1 : ¬ (9223372036854775807 < xv.size + 1) := by omega
    have z2 : ¬ (9223372036854775807 < xv.size + 1 + B.n.size) := by omega
    have z3 : ¬ (9223372036854775807 < xv.size + 1 + B.n.size + 1) := by omega
    have z4 : ¬ (9223372036854775807 < xv.size + 1 + B.n.size + 1 + (digN k).length) := by omega
    generalize sitesOf P = L at hv hpl
    clear hm hi e hb hih hgd hl12 hn hsl
    go_enter Try.func25, Try.ntmps25
    go_wp2_with fail
    go_region_law (first
      | (refine step_callS rfl 23 #[.agg #[.slice (some ⟨b, off, none⟩) P.length cap]] (fun v w' => Sl w' v Si.cs L) ?hop1 (hv _ h2) ?_; (case hop1 => (go_simp; done)); intro v1 q1 hv1 hq1; have g0 : q1.cell? ⟨w.heap.size + 1, 0, none⟩ = some (.int .i64 i) := (hq1.cell (p := ⟨w.heap.size + 1, 0, none⟩) (by simp)).trans (by simp); have g1 : q1.cell? ⟨w.heap.size + 1, 1, none⟩ = some (.int .i64 k) := (hq1.cell (p := ⟨w.heap.size + 1, 1, none⟩) (by simp)).trans (by simp); have g2 : q1.cell? ⟨w.heap.size + 1, 2, none⟩ = some (.string xv) := (hq1.cell (p := ⟨w.heap.size + 1, 2, none⟩) (by simp)).trans (by simp); have g3 : q1.cell? ⟨w.heap.size, 0, none⟩ = some (.slice (some ⟨b, off, none⟩) P.length cap) := (hq1.cell (p := ⟨w.heap.size, 0, none⟩) (by simp; omega)).trans (by simp); have g4 : q1.cell? ⟨b, off + i * 8, none⟩ = some (.string B.n) := (hq1.cell (p := ⟨b, off + i * 8, none⟩) (by simp; omega)).trans ((World.cell?_alloc_lt _ _ _ (by simp; omega)).trans ((World.cell?_alloc_lt _ _ _ hbw).trans c0)))
      | (refine step_callB rfl 48 #[v1, .agg #[.int .i64 i, .int .i64 k, .string xv]] (.tuple #[.int .i64 m, .bool true]) ?hop2 (hpl _ _ hv1) ?_; (case hop2 => (go_simp; done)); intro q2 hq2))
    all_goals (
      have k0 := (hq2.cell (p := ⟨w.heap.size + 1, 0, none⟩) (World.block_lt_of_cell? _ _ g0)).trans g0
      have k1 := (hq2.cell (p := ⟨w.heap.size + 1, 1, none⟩) (World.block_lt_of_cell? _ _ g1)).trans g1
      have k2 := (hq2.cell (p := ⟨w.heap.size + 1, 2, none⟩) (World.block_lt_of_cell? _ _ g2)).trans g2
      have k3 := (hq2.cell (p := ⟨w.heap.size, 0, none⟩) (World.block_lt_of_cell? _ _ g3)).trans g3
      have k4 := (hq2.cell (p := ⟨b, off + i * 8, none⟩) (World.block_lt_of_cell? _ _ g4)).trans g4
      have kl := World.block_lt_of_cell? _ _ k0
      have kl2 := World.block_lt_of_cell? _ _ k3
      have kl3 := World.block_lt_of_cell? _ _ k4
      have hB2 : Below w.heap.size w q2 := (((Below.refl _ _).alloc (Nat.le_refl _) _).alloc (by simp) _).drew.trans ((hq1.trans (hq2.mono hq1.size)).mono (by simp; omega))
      clear g0 g1 g2 g3 g4 hq1 hq2 hv1 c0 hbw h2
      go_wp2_with fail
      refine' region_whole _ _ (by kernel_rfl) (by kernel_rfl) _; rotate_left 2; (exact Below.refl _ _; rfl); (repeat (go_big_quiet_step (first | (go_at_call 49; exact Calls.after_of (hdg _))))); refine wpQuiet_nil ?_; intro z
      go_wp2_with fail
      go_ret
      exact ⟨rfl, hB2.trans (z.below.mono hB2.size)⟩)
  · have hi : idx (sitesOf P) (⟨xb, xk, xv⟩ : Si) = -1 := by
      have h1 := idx_range (⟨xb, xk, xv⟩ : Si) (sitesOf P)
      have h2 : ¬ 0 ≤ idx (sitesOf P) (⟨xb, xk, xv⟩ : Si) := fun h => hm (idx_mem.1 h)
      omega
    have e : nameOf P ⟨xb, xk, xv⟩ = ⟨#[]⟩ := by
      unfold nameOf; rw [if_neg hb, if_neg hm]
    rw [e]
    rw [hi] at hpl
    simp only [placeV, show max (-1 : Int) 0 = 0 from rfl, show decide ((0 : Int) ≤ -1) = false from rfl] at hpl
    generalize sitesOf P = L at hv hpl
    obtain ⟨p, cap, hpv⟩ : ∃ p cap, pv = .slice p P.length cap := by obtain ⟨b, off, p, cap, hv, _⟩ := h.1; exact ⟨p, cap, hv⟩
    have h2 : Pg ((w.alloc (.cells #[pv] 57)).alloc (.cells #[.int .i64 xb, .int .i64 xk, .string xv] 66)).drew pv P := h.below (((Below.refl _ _).alloc (Nat.le_refl _) _).alloc (by simp) _).drew
    subst hpv
    clear hm hi e hb
    go_enter Try.func25, Try.ntmps25
    go_wp2_with fail
    go_region_law (first
      | (refine step_callS rfl 23 #[.agg #[.slice p P.length cap]] (fun v w' => Sl w' v Si.cs L) ?hop1 (hv _ h2) ?_; (case hop1 => (go_simp; done)); intro v1 q1 hv1 hq1; have g0 : q1.cell? ⟨w.heap.size + 1, 0, none⟩ = some (.int .i64 xb) := (hq1.cell (p := ⟨w.heap.size + 1, 0, none⟩) (by simp)).trans (by simp); have g1 : q1.cell? ⟨w.heap.size + 1, 1, none⟩ = some (.int .i64 xk) := (hq1.cell (p := ⟨w.heap.size + 1, 1, none⟩) (by simp)).trans (by simp); have g2 : q1.cell? ⟨w.heap.size + 1, 2, none⟩ = some (.string xv) := (hq1.cell (p := ⟨w.heap.size + 1, 2, none⟩) (by simp)).trans (by simp))
      | (refine step_callB rfl 48 #[v1, .agg #[.int .i64 xb, .int .i64 xk, .string xv]] (.tuple #[.int .i64 0, .bool false]) ?hop2 (hpl _ _ hv1) ?_; (case hop2 => (go_simp; done)); intro q2 hq2))
    all_goals (
      go_wp2_with fail
      go_ret
      exact ⟨rfl, (((Below.refl _ _).alloc (Nat.le_refl _) _).alloc (by simp) _).drew.trans ((hq1.trans (hq2.mono hq1.size)).mono (by simp; omega))⟩)

end Go.Proofs.Ytjjmoibnmdbpeaa.Pr

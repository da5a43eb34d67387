/- Systems: what a node does. WALKS of transfer.Check and soughref16.Check. Systems: what a node does. WALK of soughref16.Check. Systems: what is wrong with one. WALK of soughref17.Check. -/
import Derived.Test.YtjjmoibnmdbpeaaMA
import Derived.Test.YtjjmoibnmdbpeaaMD

namespace Go.Proofs.Ytjjmoibnmdbpeaa.Pr
set_option linter.unusedVariables false
set_option linter.unusedSimpArgs false
open Go Go.RowKit

set_option maxRecDepth 100000 in
theorem tcheck1_any (n : Int) (c : Cd) (nb : Nat) (w : World) (h : w.cell? ⟨nb, 0, none⟩ = some (.int .i64 n)) :
    Calls Try.prog 108 #[.agg #[.int .i64 c.v, .int .i64 c.op, .int .i64 c.a.v, .int .i64 c.a.a, .int .i64 c.a.b, .int .i64 c.b.v, .int .i64 c.b.a, .int .i64 c.b.b], .pointer (some ⟨nb, 0, none⟩)] w fun x w' => x = .returned (.bool !(codeB n c)) ∧ Below w.heap.size w w' := by
  have hc := fun W => code_any n c W
  have hl := World.block_lt_of_cell? _ _ h
  generalize codeB n c = z at hc ⊢
  have hb1 : Below w.heap.size w (w.alloc (.cells #[.int .i64 c.v, .int .i64 c.op, .int .i64 c.a.v, .int .i64 c.a.a, .int .i64 c.a.b, .int .i64 c.b.v, .int .i64 c.b.a, .int .i64 c.b.b] 154)) := (Below.refl _ _).alloc (Nat.le_refl _) _
  go_enter Try.func108, Try.ntmps108
  go_wp2_with (go_at_call 109; refine' Calls.aft _ _ (hc _) _; rotate_left 2; (exact Below.refl _ _; rfl); intro x1; have hle := After.le x1; (try simp at hle))
  go_ret
  exact ⟨rfl, nextB x1.below hb1⟩

set_option maxRecDepth 100000 in
set_option maxHeartbeats 1000000 in
theorem indexC_any (n : Int) (L : List Cd) (hl : L.length ≤ 2000) (nb : Nat) (v : Value) (w : World) (h : Sl w v Cd.cs L) (hn : w.cell? ⟨nb, 0, none⟩ = some (.int .i64 n)) :
    Calls Try.prog 134 #[v, .func (.func 108) #[] #[.pointer (some ⟨nb, 0, none⟩)]] w fun e w' => ∃ i : Int, e = .returned (.int .i64 i) ∧ decide (0 ≤ i) = (!(L.all (codeB n))) ∧ Below w.heap.size w w' := by
  obtain ⟨b, off, p, cap, rfl, hp, hc⟩ := h.open Cd.cs_len
  obtain ⟨R, hR⟩ : ∃ R, Hid (L.all (codeB n) = R) := ⟨_, rfl⟩
  rw [show L.all (codeB n) = R from hR]
  go_enter Try.func134, Try.ntmps134
  go_wp2_with fail
  go_loopw [8] (fun i wr => ∃ k : Nat, k ≤ L.length ∧ i = .int .i64 k ∧ (L.take k).all (codeB n) = true ∧ Below w.heap.size w wr) (fun i _ => L.length - (intOf i).toNat)
  case atStart => exact ⟨0, Nat.zero_le _, rfl, by simp, Below.refl _ _⟩
  case round =>
    obtain ⟨k, hk, rfl, hall, hB⟩ := hrel
    have hw := hB.size
    by_cases hlt : k < L.length
    · obtain rfl := hp (by omega)
      have hlt2 : (k : Int) < L.length := by omega
      have hbad : codeB n (L[k]'hlt) = false → R = false := fun h => by rw [← show L.all (codeB n) = R from hR]; exact all_bad hlt h
      have hnext : codeB n (L[k]'hlt) = true → (L.take (k + 1)).all (codeB n) = true := fun h => all_next hlt hall h
      have hcr : ∀ r u, ((L[k]'hlt).cs)[r]? = some u → wr.cell? ⟨b, off + k * 8 + r, none⟩ = some u := fun r u hu => by
        rw [Nat.add_assoc]
        exact nextC hB (hc k hlt r u hu)
      clear hc hall
      generalize L[k]'hlt = s at hcr hbad hnext
      have e0 : wr.cell? ⟨b, off + k * 8, none⟩ = some (.int .i64 s.v) := hcr 0 _ rfl
      have hg := World.block_lt_of_cell? _ _ e0
      have e1 : wr.cell? ⟨b, off + k * 8 + 1, none⟩ = some (.int .i64 s.op) := hcr 1 _ rfl
      have e2 : wr.cell? ⟨b, off + k * 8 + 2, none⟩ = some (.int .i64 s.a.v) := hcr 2 _ rfl
      have e3 : wr.cell? ⟨b, off + k * 8 + 3, none⟩ = some (.int .i64 s.a.a) := hcr 3 _ rfl
      have e4 : wr.cell? ⟨b, off + k * 8 + 4, none⟩ = some (.int .i64 s.a.b) := hcr 4 _ rfl
      have e5 : wr.cell? ⟨b, off + k * 8 + 5, none⟩ = some (.int .i64 s.b.v) := hcr 5 _ rfl
      have e6 : wr.cell? ⟨b, off + k * 8 + 6, none⟩ = some (.int .i64 s.b.a) := hcr 6 _ rfl
      have e7 : wr.cell? ⟨b, off + k * 8 + 7, none⟩ = some (.int .i64 s.b.b) := hcr 7 _ rfl
      clear hcr
      have hra := tcheck1_any n s nb wr (nextC hB hn)
      cases hz : codeB n s
      · rw [hz] at hra
        have hf := hbad hz
        subst hf
        clear hbad hnext hz
        go_wp2_with ((go_at_call 108; refine' Calls.aft _ _ (hra) _; rotate_left 2; (exact Below.refl _ _; rfl); intro x1; have hle := After.le x1; (try simp at hle)))
        refine bodyPost_ret (v := .int .i64 k) (by simp only [results, Try.results134]; go_simp) rfl ⟨_, rfl, by simp, nextB x1.below hB⟩
      · rw [hz] at hra
        have hx := And.intro True.intro (hnext hz)
        clear hbad hnext hz
        go_wp2_with ((go_at_call 108; refine' Calls.aft _ _ (hra) _; rotate_left 2; (exact Below.refl _ _; rfl); intro x1; have hle := After.le x1; (try simp at hle)))
        go_roundw
        case rel => exact ⟨k + 1, by omega, by simp, hx.2, nextB x1.below hB⟩
        case measure => simp [intOf]; omega
    · have hks : k = L.length := by omega
      subst hks
      have hlt2 : ¬ (L.length : Int) < L.length := by omega
      have hRt : R = true := by rw [← show L.all (codeB n) = R from hR]; rw [List.take_length] at hall; exact hall
      subst hRt
      clear hc
      go_wp2_with fail
      refine bodyPost_ret (v := .int .i64 (-1)) (by simp only [results, Try.results134]; go_simp) rfl ⟨_, rfl, by decide, hB⟩

set_option maxRecDepth 100000 in
theorem containsC_any (n : Int) (L : List Cd) (hl : L.length ≤ 2000) (nb : Nat) (v : Value) (w : World) (h : Sl w v Cd.cs L) (hn : w.cell? ⟨nb, 0, none⟩ = some (.int .i64 n)) :
    Calls Try.prog 107 #[v, .func (.func 108) #[] #[.pointer (some ⟨nb, 0, none⟩)]] w fun e w' => e = .returned (.bool !(L.all (codeB n))) ∧ Below w.heap.size w w' := by
  have hix := indexC_any n L hl nb v w h hn
  generalize L.all (codeB n) = z at hix ⊢
  obtain ⟨p, c, rfl⟩ : ∃ p c, v = .slice p L.length c := by obtain ⟨b, off, p, cap, hv, _⟩ := h; exact ⟨p, cap, hv⟩
  go_enter Try.func107, Try.ntmps107
  go_wp2_with ((go_at_call 134; refine' Calls.aftS _ _ (hix) _; rotate_left 2; (first | (with_reducible exact After.below _; rfl) | (with_reducible exact below_drew (After.below _); rfl) | (with_reducible exact below_set (After.below _) _ _; (go_simp; rfl)) | (with_reducible exact below_set (below_set (After.below _) _ _) _ _; (go_simp; rfl)) | (with_reducible exact below_set (below_set (below_set (After.below _) _ _) _ _) _ _; (go_simp; rfl)) | (with_reducible exact below_set (below_set (below_set (below_set (After.below _) _ _) _ _) _ _) _ _; (go_simp; rfl)) | (exact Below.refl _ _; rfl)); intro i x1 hi; have hle := After.le x1; (try simp at hle)))
  refine bodyPost_ret (v := .bool !z) (by simp only [results, Try.results107]; go_simp) rfl ⟨rfl, x1.below⟩

/-- What a node does. -/
structure Tn where
  g : List Nat
  k : List Nat
  l : List Cd
  gv : Value
  kv : Value
  lv : Value
def Tn.cs (t : Tn) : List Value := [t.gv, t.kv, t.lv]
theorem Tn.cs_len (t : Tn) : t.cs.length = 3 := rfl
def transB (what width : Int) (t : Tn) : Bool := if what = 3 then decide (t.g.length = 0) && (decide (t.k.length = 0) && t.l.all (codeB width)) else Ws.fitsB t.g width && (Ws.fitsB t.k width && decide (t.l.length = 0))
def checkT (what width : Int) (t : Tn) : Int := if Ws.isL what width = true then (if transB what width t = true then 0 else 2) else 10

/-- Its rows lie in a world; they are short. -/
structure TnAt (w : World) (t : Tn) : Prop where
  g : Sl w t.gv Ws.encW t.g
  k : Sl w t.kv Ws.encW t.k
  l : Sl w t.lv Cd.cs t.l
  go : Ws.okW t.g
  ko : Ws.okW t.k
  gl : t.g.length ≤ 1000
  kl : t.k.length ≤ 1000
  ll : t.l.length ≤ 1000
theorem TnAt.below {w q : World} {t : Tn} (h : TnAt w t) (hq : Below w.heap.size w q) : TnAt q t := ⟨h.g.below hq, h.k.below hq, h.l.below hq, h.go, h.ko, h.gl, h.kl, h.ll⟩
theorem sl_len {α : Type} {enc : α → List Value} {W : World} {v : Value} {L : List α} (h : Sl W v enc L) : ∃ p c, v = .slice p L.length c := by
  obtain ⟨b, off, p, cap, hv, _⟩ := h
  exact ⟨p, cap, hv⟩

set_option maxRecDepth 100000 in
set_option maxHeartbeats 4000000 in
theorem tcheck_any (what width : Int) (t : Tn) (w : World) (h : TnAt w t) :
    Calls Try.prog 67 #[.int .i64 what, .int .i64 width, .agg #[t.gv, t.kv, t.lv]] w fun e w' => e = .returned (.int .i64 (checkT what width t)) ∧ Below w.heap.size w w' := by
  obtain ⟨G, K, C, gv, kv, lv⟩ := t
  obtain ⟨hg, hk, hl, hgo, hko, hgl, hkl, hll⟩ := h
  have hg : Sl w gv Ws.encW G := hg
  have hk : Sl w kv Ws.encW K := hk
  have hl : Sl w lv Cd.cs C := hl
  have hgl : G.length ≤ 1000 := hgl
  have hkl : K.length ≤ 1000 := hkl
  have hll : C.length ≤ 1000 := hll
  have f1 := fun (W : World) (hB : Below w.heap.size w W) => Ws.fits_any G hgo (by omega) width gv W (hg.below hB)
  have f2 := fun (W : World) (hB : Below w.heap.size w W) => Ws.fits_any K hko (by omega) width kv W (hk.below hB)
  have f3 := fun (W : World) (hB : Below w.heap.size w W) (hn : W.cell? ⟨w.heap.size, 0, none⟩ = some (.int .i64 width)) => containsC_any width C (by omega) w.heap.size lv W (hl.below hB) hn
  clear hgo hko
  unfold checkT transB
  show Calls _ _ #[_, _, .agg #[gv, kv, lv]] _ fun e w' => e = .returned (.int .i64 (if Ws.isL what width = true then (if (if what = 3 then decide (G.length = 0) && (decide (K.length = 0) && C.all (codeB width)) else Ws.fitsB G width && (Ws.fitsB K width && decide (C.length = 0))) = true then 0 else 2) else 10)) ∧ _
  obtain ⟨gp, gc, hgv⟩ : ∃ p c, gv = .slice p G.length c := sl_len hg
  obtain ⟨kp, kc, hkv⟩ : ∃ p c, kv = .slice p K.length c := sl_len hk
  obtain ⟨lp, lc, hlv⟩ : ∃ p c, lv = .slice p C.length c := sl_len hl
  subst hgv hkv hlv
  have hb1 : Below w.heap.size w ((w.alloc (.cells #[.int .i64 width] 3)).alloc (.cells #[.slice gp G.length gc, .slice kp K.length kc, .slice lp C.length lc] 81)) := ((Below.refl _ _).alloc (Nat.le_refl _) _).alloc (by simp) _
  clear hg hk hl
  by_cases w1 : 0 ≤ width
  rotate_left
  · have hL : Ws.isL what width = false := by simp [Ws.isL, w1]
    have w1' : width < 0 := by omega
    rw [hL]
    clear f1 f2 f3
    go_enter Try.func67, Try.ntmps67
    go_wp2_with fail
    go_ret
    exact ⟨by simp, hb1⟩
  have w1' : ¬ width < 0 := by omega
  by_cases w2 : width ≤ 1024
  rotate_left
  · have hL : Ws.isL what width = false := by simp [Ws.isL, w2]
    have w2' : 1024 < width := by omega
    rw [hL]
    clear f1 f2 f3
    go_enter Try.func67, Try.ntmps67
    go_wp2_with fail
    go_ret
    exact ⟨by simp, hb1⟩
  have w2' : ¬ 1024 < width := by omega
  have hother : what ≠ 1 → what ≠ 2 → what ≠ 3 → Ws.isL what width = false := fun a b c => by simp [Ws.isL, a, b, c]
  have hin : (what = 1 ∨ what = 2 ∨ what = 3) → Ws.isL what width = true := fun a => by rcases a with rfl | rfl | rfl <;> simp [Ws.isL, w1, w2]
  generalize Ws.isL what width = il at hother hin ⊢
  by_cases h3 : what = 3
  · subst h3
    rw [hin (by simp)]
    clear f1 f2 hother hin
    have f3 := fun (W : World) (hB : Below w.heap.size w W) hn => f3 W hB hn
    simp only [if_true]
    by_cases g0 : G.length = 0
    rotate_left
    · rw [decide_eq_false g0]
      have g0' : ¬ ((G.length : Int) + K.length = 0) := by omega
      clear f3
      go_enter Try.func67, Try.ntmps67
      go_wp2_with fail
      go_ret
      exact ⟨by simp, hb1⟩
    rw [decide_eq_true g0]
    have g0a : G.length ≤ 0 := by omega
    clear g0
    by_cases k0 : K.length = 0
    rotate_left
    · rw [decide_eq_false k0]
      have g0' : ¬ ((G.length : Int) + K.length = 0) := by omega
      clear f3
      go_enter Try.func67, Try.ntmps67
      go_wp2_with fail
      go_ret
      exact ⟨by simp, hb1⟩
    rw [decide_eq_true k0]
    have g0' : ((G.length : Int) + K.length = 0) := by omega
    clear k0
    simp only [Bool.true_and]
    generalize C.all (codeB width) = z at f3 ⊢
    cases z
    · go_enter Try.func67, Try.ntmps67
      go_wp2_with (go_at_call 107; refine' Calls.aft _ _ (f3 _ hb1 (by simp)) _; rotate_left 2; (exact Below.refl _ _; rfl); intro x1; have hle := After.le x1; (try simp at hle))
      go_ret
      exact ⟨by simp, nextB x1.below hb1⟩
    · go_enter Try.func67, Try.ntmps67
      go_wp2_with (go_at_call 107; refine' Calls.aft _ _ (f3 _ hb1 (by simp)) _; rotate_left 2; (exact Below.refl _ _; rfl); intro x1; have hle := After.le x1; (try simp at hle))
      go_ret
      exact ⟨by simp, nextB x1.below hb1⟩
  · rw [if_neg h3]
    generalize Ws.fitsB G width = b1 at f1 ⊢
    generalize Ws.fitsB K width = b2 at f2 ⊢
    by_cases h1 : what = 1
    · subst h1
      rw [hin (by simp)]
      simp only [if_true]
      clear hin hother f3
      cases b1
      · go_enter Try.func67, Try.ntmps67
        go_wp2_with (go_at_call 99; refine' Calls.aft _ _ (f1 _ hb1) _; rotate_left 2; (exact Below.refl _ _; rfl); intro x1; have hle := After.le x1; (try simp at hle))
        go_ret
        exact ⟨by simp, nextB x1.below hb1⟩
      · cases b2
        · go_enter Try.func67, Try.ntmps67
          go_wp2_with (go_at_call 99; first | (with_reducible refine' Calls.aft _ _ (f1 _ hb1) _; rotate_left 2; (exact Below.refl _ _; rfl); intro x1; have hle := After.le x1; (try simp at hle)) | (with_reducible refine' Calls.aft _ _ (f2 _ (nextB x1.below hb1)) _; rotate_left 2; (exact Below.refl _ _; rfl); intro x2; have hle2 := After.le x2; (try simp at hle2)))
          go_ret
          exact ⟨by simp, nextB x2.below (nextB x1.below hb1)⟩
        · by_cases c0 : C.length = 0
          · rw [decide_eq_true c0]
            have c0' : (C.length : Int) = 0 := by omega
            have c0b : ((C.length : Int) == 0) = true := by simp [c0]
            clear c0 c0'
            go_enter Try.func67, Try.ntmps67
            go_wp2_with (go_at_call 99; first | (with_reducible refine' Calls.aft _ _ (f1 _ hb1) _; rotate_left 2; (exact Below.refl _ _; rfl); intro x1; have hle := After.le x1; (try simp at hle)) | (with_reducible refine' Calls.aft _ _ (f2 _ (nextB x1.below hb1)) _; rotate_left 2; (exact Below.refl _ _; rfl); intro x2; have hle2 := After.le x2; (try simp at hle2)))
            go_ret
            exact ⟨by simp, nextB x2.below (nextB x1.below hb1)⟩
          · rw [decide_eq_false c0]
            have c0b : ((C.length : Int) == 0) = false := by simpa using c0
            go_enter Try.func67, Try.ntmps67
            go_wp2_with (go_at_call 99; first | (with_reducible refine' Calls.aft _ _ (f1 _ hb1) _; rotate_left 2; (exact Below.refl _ _; rfl); intro x1; have hle := After.le x1; (try simp at hle)) | (with_reducible refine' Calls.aft _ _ (f2 _ (nextB x1.below hb1)) _; rotate_left 2; (exact Below.refl _ _; rfl); intro x2; have hle2 := After.le x2; (try simp at hle2)))
            go_ret
            exact ⟨by simp, nextB x2.below (nextB x1.below hb1)⟩
    by_cases h2 : what = 2
    · subst h2
      rw [hin (by simp)]
      simp only [if_true]
      clear hin hother f3
      cases b1
      · go_enter Try.func67, Try.ntmps67
        go_wp2_with (go_at_call 99; refine' Calls.aft _ _ (f1 _ hb1) _; rotate_left 2; (exact Below.refl _ _; rfl); intro x1; have hle := After.le x1; (try simp at hle))
        go_ret
        exact ⟨by simp, nextB x1.below hb1⟩
      · cases b2
        · go_enter Try.func67, Try.ntmps67
          go_wp2_with (go_at_call 99; first | (with_reducible refine' Calls.aft _ _ (f1 _ hb1) _; rotate_left 2; (exact Below.refl _ _; rfl); intro x1; have hle := After.le x1; (try simp at hle)) | (with_reducible refine' Calls.aft _ _ (f2 _ (nextB x1.below hb1)) _; rotate_left 2; (exact Below.refl _ _; rfl); intro x2; have hle2 := After.le x2; (try simp at hle2)))
          go_ret
          exact ⟨by simp, nextB x2.below (nextB x1.below hb1)⟩
        · by_cases c0 : C.length = 0
          · rw [decide_eq_true c0]
            have c0' : (C.length : Int) = 0 := by omega
            have c0b : ((C.length : Int) == 0) = true := by simp [c0]
            clear c0 c0'
            go_enter Try.func67, Try.ntmps67
            go_wp2_with (go_at_call 99; first | (with_reducible refine' Calls.aft _ _ (f1 _ hb1) _; rotate_left 2; (exact Below.refl _ _; rfl); intro x1; have hle := After.le x1; (try simp at hle)) | (with_reducible refine' Calls.aft _ _ (f2 _ (nextB x1.below hb1)) _; rotate_left 2; (exact Below.refl _ _; rfl); intro x2; have hle2 := After.le x2; (try simp at hle2)))
            go_ret
            exact ⟨by simp, nextB x2.below (nextB x1.below hb1)⟩
          · rw [decide_eq_false c0]
            have c0b : ((C.length : Int) == 0) = false := by simpa using c0
            go_enter Try.func67, Try.ntmps67
            go_wp2_with (go_at_call 99; first | (with_reducible refine' Calls.aft _ _ (f1 _ hb1) _; rotate_left 2; (exact Below.refl _ _; rfl); intro x1; have hle := After.le x1; (try simp at hle)) | (with_reducible refine' Calls.aft _ _ (f2 _ (nextB x1.below hb1)) _; rotate_left 2; (exact Below.refl _ _; rfl); intro x2; have hle2 := After.le x2; (try simp at hle2)))
            go_ret
            exact ⟨by simp, nextB x2.below (nextB x1.below hb1)⟩
    rw [hother h1 h2 h3]
    clear hin hother f1 f2 f3
    go_enter Try.func67, Try.ntmps67
    go_wp2_with fail
    go_ret
    exact ⟨by simp, hb1⟩

end Go.Proofs.Ytjjmoibnmdbpeaa.Pr

namespace Go.Proofs.Ytjjmoibnmdbpeaa.Pr
set_option linter.unusedVariables false
set_option linter.unusedSimpArgs false
open Go Go.RowKit

set_option maxRecDepth 100000 in
set_option maxHeartbeats 8000000 in
theorem rtcheck_any (what width : Int) (t : Tn) (w : World) (h : TnAt w t) :
    Calls Try.prog 73 #[.int .i64 what, .int .i64 width, .agg #[t.gv, t.kv, t.lv]] w fun e w' => e = .returned (.int .i64 (checkT what width t)) ∧ Below w.heap.size w w' := by
  obtain ⟨G, K, C, gv, kv, lv⟩ := t
  obtain ⟨hg, hk, hl, hgo, hko, hgl, hkl, hll⟩ := h
  have hg : Sl w gv Ws.encW G := hg
  have hk : Sl w kv Ws.encW K := hk
  have hl : Sl w lv Cd.cs C := hl
  have hgl : G.length ≤ 1000 := hgl
  have hkl : K.length ≤ 1000 := hkl
  have hll : C.length ≤ 1000 := hll
  have f1 := fun (W : World) (hB : Below w.heap.size w W) => Ws.rfits_any G hgo width gv W (hg.below hB)
  have f2 := fun (W : World) (hB : Below w.heap.size w W) => Ws.rfits_any K hko width kv W (hk.below hB)
  have f0 := fun W => Ws.ris_any what width W
  have r9 := fun v a b W => rref_any width v a b W
  clear hgo hko
  unfold checkT transB
  show Calls _ _ #[_, _, .agg #[gv, kv, lv]] _ fun e w' => e = .returned (.int .i64 (if Ws.isL what width = true then (if (if what = 3 then decide (G.length = 0) && (decide (K.length = 0) && C.all (codeB width)) else Ws.fitsB G width && (Ws.fitsB K width && decide (C.length = 0))) = true then 0 else 2) else 10)) ∧ _
  obtain ⟨gp, gc, hgv⟩ : ∃ p c, gv = .slice p G.length c := sl_len hg
  obtain ⟨kp, kc, hkv⟩ : ∃ p c, kv = .slice p K.length c := sl_len hk
  obtain ⟨b, off, lp, lc, hlv, hp, hc⟩ := hl.open Cd.cs_len
  subst hgv hkv hlv
  have hb1 : Below w.heap.size w (w.alloc (.cells #[.slice gp G.length gc, .slice kp K.length kc, .slice lp C.length lc] 81)) := (Below.refl _ _).alloc (Nat.le_refl _) _
  clear hg hk hl
  generalize Ws.isL what width = il at f0 ⊢
  cases il
  · clear f1 f2 r9
    go_enter Try.func73, Try.ntmps73
    go_wp2_with (go_at_call 70; refine Calls.same (f0 _) ?_)
    go_ret
    exact ⟨by simp, hb1⟩
  simp only [if_true]
  by_cases h3 : what = 3
  rotate_left
  · rw [if_neg h3]
    clear hp hc r9
    by_cases c0 : C.length = 0
    rotate_left
    · rw [decide_eq_false c0]
      have c0n : 0 < C.length := by omega
      have c0' : decide (0 < C.length) = true := decide_eq_true c0n
      clear f1 f2 c0
      go_enter Try.func73, Try.ntmps73
      go_wp2_with (go_at_call 70; refine Calls.same (f0 _) ?_)
      all_goals (go_ret; exact ⟨by simp, hb1⟩)
    rw [decide_eq_true c0]
    have c0' : decide (0 < C.length) = false := decide_eq_false (by omega)
    clear c0
    generalize Ws.fitsB G width = b1 at f1 ⊢
    generalize Ws.fitsB K width = b2 at f2 ⊢
    cases b1
    · go_enter Try.func73, Try.ntmps73
      go_wp2_with (first | (go_at_call 70; refine Calls.same (f0 _) ?_) | (go_at_call 111; with_reducible refine Calls.same (f1 _ hb1) ?_))
      go_ret
      exact ⟨by simp, hb1⟩
    · cases b2
      · go_enter Try.func73, Try.ntmps73
        go_wp2_with (first | (go_at_call 70; refine Calls.same (f0 _) ?_) | (go_at_call 111; first | (with_reducible refine Calls.same (f1 _ hb1) ?_) | (with_reducible refine Calls.same (f2 _ hb1) ?_)))
        go_ret
        exact ⟨by simp, hb1⟩
      · go_enter Try.func73, Try.ntmps73
        go_wp2_with (first | (go_at_call 70; refine Calls.same (f0 _) ?_) | (go_at_call 111; first | (with_reducible refine Calls.same (f1 _ hb1) ?_) | (with_reducible refine Calls.same (f2 _ hb1) ?_)))
        go_ret
        exact ⟨by simp, hb1⟩
  subst h3
  simp only [if_true]
  clear f1 f2
  by_cases g0 : G.length = 0
  rotate_left
  · rw [decide_eq_false g0]
    have g0' : decide (0 < G.length) = true := decide_eq_true (by omega)
    clear r9 hc hp
    go_enter Try.func73, Try.ntmps73
    go_wp2_with (go_at_call 70; refine Calls.same (f0 _) ?_)
    go_ret
    exact ⟨by simp, hb1⟩
  rw [decide_eq_true g0]
  have g0' : decide (0 < G.length) = false := decide_eq_false (by omega)
  clear g0
  by_cases k0 : K.length = 0
  rotate_left
  · rw [decide_eq_false k0]
    have k0' : decide (0 < K.length) = true := decide_eq_true (by omega)
    clear r9 hc hp
    go_enter Try.func73, Try.ntmps73
    go_wp2_with (go_at_call 70; refine Calls.same (f0 _) ?_)
    go_ret
    exact ⟨by simp, hb1⟩
  rw [decide_eq_true k0]
  have k0' : decide (0 < K.length) = false := decide_eq_false (by omega)
  clear k0
  simp only [Bool.true_and]
  obtain ⟨R, hR⟩ : ∃ R, Hid (C.all (codeB width) = R) := ⟨_, rfl⟩
  rw [show C.all (codeB width) = R from hR]
  go_enter Try.func73, Try.ntmps73
  go_wp2_with (go_at_call 70; refine Calls.same (f0 _) ?_)
  go_loopw [46] (fun i wr => ∃ k : Nat, k ≤ C.length ∧ i = .int .i64 k ∧ (C.take k).all (codeB width) = true ∧ Below w.heap.size w wr) (fun i _ => C.length - (intOf i).toNat)
  case atStart => exact ⟨0, Nat.zero_le _, rfl, by simp, hb1⟩
  case round =>
    obtain ⟨k, hk, rfl, hall, hB⟩ := hrel
    have hw := hB.size
    by_cases hlt : k < C.length
    · obtain rfl := hp (by omega)
      have hlt2 : (k : Int) < C.length := by omega
      have hbad : codeB width (C[k]'hlt) = false → R = false := fun h => by rw [← show C.all (codeB width) = R from hR]; exact all_bad hlt h
      have hnext : codeB width (C[k]'hlt) = true → (C.take (k + 1)).all (codeB width) = true := fun h => all_next hlt hall h
      have hcr : ∀ r u, ((C[k]'hlt).cs)[r]? = some u → wr.cell? ⟨b, off + k * 8 + r, none⟩ = some u := fun r u hu => by
        rw [Nat.add_assoc]
        exact nextC hB (hc k hlt r u hu)
      clear hc hall
      generalize C[k]'hlt = s at hcr hbad hnext
      obtain ⟨v, op, ⟨v1, a1, b1⟩, ⟨v2, a2, b2⟩⟩ := s
      have e0 : wr.cell? ⟨b, off + k * 8, none⟩ = some (.int .i64 v) := hcr 0 _ rfl
      have hgb := World.block_lt_of_cell? _ _ e0
      have e1 : wr.cell? ⟨b, off + k * 8 + 1, none⟩ = some (.int .i64 op) := hcr 1 _ rfl
      have e2 : wr.cell? ⟨b, off + k * 8 + 2, none⟩ = some (.int .i64 v1) := hcr 2 _ rfl
      have e3 : wr.cell? ⟨b, off + k * 8 + 3, none⟩ = some (.int .i64 a1) := hcr 3 _ rfl
      have e4 : wr.cell? ⟨b, off + k * 8 + 4, none⟩ = some (.int .i64 b1) := hcr 4 _ rfl
      have e5 : wr.cell? ⟨b, off + k * 8 + 5, none⟩ = some (.int .i64 v2) := hcr 5 _ rfl
      have e6 : wr.cell? ⟨b, off + k * 8 + 6, none⟩ = some (.int .i64 a2) := hcr 6 _ rfl
      have e7 : wr.cell? ⟨b, off + k * 8 + 7, none⟩ = some (.int .i64 b2) := hcr 7 _ rfl
      clear hcr
      have hB1 := hB.alloc hw (.cells #[.int .i64 v, .int .i64 op, .int .i64 v1, .int .i64 a1, .int .i64 b1, .int .i64 v2, .int .i64 a2, .int .i64 b2] 154)
      have r1 := fun W => r9 v1 a1 b1 W
      have r2 := fun W => r9 v2 a2 b2 W
      have hdf : codeB width ⟨v, op, ⟨v1, a1, b1⟩, ⟨v2, a2, b2⟩⟩ = (decide (0 ≤ v) && (decide (v < width) && (decide (-1 ≤ op) && (decide (op ≤ 4) && (if op = -1 then eqR ⟨v1, a1, b1⟩ ⟨0, 0, 0⟩ && eqR ⟨v2, a2, b2⟩ ⟨0, 0, 0⟩ else refB width ⟨v1, a1, b1⟩ && refB width ⟨v2, a2, b2⟩))))) := rfl
      rw [hdf] at hbad hnext
      clear hdf r9
      generalize refB width ⟨v1, a1, b1⟩ = z1 at r1 hbad hnext
      generalize refB width ⟨v2, a2, b2⟩ = z2 at r2 hbad hnext
      by_cases q1 : 0 ≤ v
      rotate_left
      · rw [decide_eq_false q1] at hbad
        have q1' : v < 0 := by omega
        have hf := hbad rfl
        subst hf
        clear hbad hnext hR r1 r2
        go_wp2_with fail
        go_ret
        exact ⟨by simp, hB1⟩
      rw [decide_eq_true q1] at hbad hnext
      have q1' : ¬ v < 0 := by omega
      by_cases q2 : v < width
      rotate_left
      · rw [decide_eq_false q2] at hbad
        have q2' : width ≤ v := by omega
        have hf := hbad rfl
        subst hf
        clear hbad hnext hR r1 r2
        go_wp2_with fail
        go_ret
        exact ⟨by simp, hB1⟩
      rw [decide_eq_true q2] at hbad hnext
      have q2' : ¬ width ≤ v := by omega
      by_cases q3 : -1 ≤ op
      rotate_left
      · rw [decide_eq_false q3] at hbad
        have q3' : op < -1 := by omega
        have hf := hbad rfl
        subst hf
        clear hbad hnext hR r1 r2
        go_wp2_with fail
        go_ret
        exact ⟨by simp, hB1⟩
      rw [decide_eq_true q3] at hbad hnext
      have q3' : ¬ op < -1 := by omega
      by_cases q4 : op ≤ 4
      rotate_left
      · rw [decide_eq_false q4] at hbad
        have q4' : 4 < op := by omega
        have hf := hbad rfl
        subst hf
        clear hbad hnext hR r1 r2
        go_wp2_with fail
        go_ret
        exact ⟨by simp, hB1⟩
      rw [decide_eq_true q4] at hbad hnext
      have q4' : ¬ 4 < op := by omega
      simp only [Bool.true_and] at hbad hnext
      by_cases q5 : op = -1
      · subst q5
        simp only [if_true] at hbad hnext
        clear r1 r2
        cases z8 : eqR ⟨v1, a1, b1⟩ ⟨0, 0, 0⟩
        · have hf := hbad (by rw [z8]; rfl)
          subst hf
          clear hbad hnext hR
          go_wp2_with fail
          go_ret
          exact ⟨by simp, hB1⟩
        · cases z9 : eqR ⟨v2, a2, b2⟩ ⟨0, 0, 0⟩
          · have hf := hbad (by rw [z8, z9]; rfl)
            subst hf
            clear hbad hnext hR
            go_wp2_with fail
            go_ret
            exact ⟨by simp, hB1⟩
          · have hx := And.intro True.intro (hnext (by rw [z8, z9]; rfl))
            clear hbad hnext
            go_wp2_with fail
            go_roundw
            case rel => exact ⟨k + 1, by omega, by simp, hx.2, hB1⟩
            case measure => simp [intOf]; omega
      · rw [if_neg q5] at hbad hnext
        have q6 : 0 ≤ op := by omega
        cases z1
        · have hf := hbad rfl
          subst hf
          clear hbad hnext hR r2
          go_wp2_with (go_at_call 113; refine' Calls.aft _ _ (r1 _) _; rotate_left 2; (exact Below.refl _ _; rfl); intro x1; have hle := After.le x1; (try simp at hle))
          go_ret
          exact ⟨by simp, nextB x1.below hB1⟩
        · cases z2
          · have hf := hbad rfl
            subst hf
            clear hbad hnext hR
            go_wp2_with (go_at_call 113; first | (with_reducible refine' Calls.aft _ _ (r1 _) _; rotate_left 2; (exact Below.refl _ _; rfl); intro x1; have hle := After.le x1; (try simp at hle)) | (with_reducible refine' Calls.aft _ _ (r2 _) _; rotate_left 2; (exact Below.refl _ _; rfl); intro x2; have hle2 := After.le x2; (try simp at hle2)))
            go_ret
            exact ⟨by simp, nextB x2.below (nextB x1.below hB1)⟩
          · have hx := And.intro True.intro (hnext rfl)
            clear hbad hnext
            go_wp2_with (go_at_call 113; first | (with_reducible refine' Calls.aft _ _ (r1 _) _; rotate_left 2; (exact Below.refl _ _; rfl); intro x1; have hle := After.le x1; (try simp at hle)) | (with_reducible refine' Calls.aft _ _ (r2 _) _; rotate_left 2; (exact Below.refl _ _; rfl); intro x2; have hle2 := After.le x2; (try simp at hle2)))
            go_roundw
            case rel => exact ⟨k + 1, by omega, by simp, hx.2, nextB x2.below (nextB x1.below hB1)⟩
            case measure => simp [intOf]; omega
    · have hks : k = C.length := by omega
      subst hks
      have hlt2 : ¬ (C.length : Int) < C.length := by omega
      have hRt : R = true := by rw [← show C.all (codeB width) = R from hR]; rw [List.take_length] at hall; exact hall
      subst hRt
      clear hc hR
      go_wp2_with fail
      go_ret
      exact ⟨by simp, hB⟩

end Go.Proofs.Ytjjmoibnmdbpeaa.Pr

namespace Go.Proofs.Ytjjmoibnmdbpeaa.Pr
set_option linter.unusedVariables false
set_option linter.unusedSimpArgs false
open Go Go.RowKit

/-- A system. -/
structure Sys where
  what : Int
  width : Int
  nodes : Int
  ed : List Ed
  en : List Int
  ini : List Nat
  t : List Tn
  edv : Value
  env : Value
  inv : Value
  tv : Value
def Sys.cs (s : Sys) : List Value := [.int .i64 s.what, .int .i64 s.width, .int .i64 s.nodes, s.edv, s.env, s.inv, s.tv]
structure SysAt (w : World) (s : Sys) : Prop where
  ed : Sl w s.edv Ed.cs s.ed
  en : Sl w s.env Ws.encI s.en
  ini : Sl w s.inv Ws.encW s.ini
  t : Sl w s.tv Tn.cs s.t
  tr : ∀ x ∈ s.t, TnAt w x
  io : Ws.okW s.ini
  el : s.en.length ≤ 1000
  il : s.ini.length ≤ 1000
  tl : s.t.length ≤ 1000
theorem SysAt.below {w q : World} {s : Sys} (h : SysAt w s) (hq : Below w.heap.size w q) : SysAt q s := ⟨h.ed.below hq, h.en.below hq, h.ini.below hq, h.t.below hq, fun x hx => (h.tr x hx).below hq, h.io, h.el, h.il, h.tl⟩
def okT (what width : Int) (x : Tn) : Bool := decide (checkT what width x = 0)
def checkS (s : Sys) : Int := if Ws.isL s.what s.width = true then (if rightB s.nodes s.ed = true then (if (s.t.length : Int) = s.nodes then (if s.en.all (nodeB s.nodes) = true then (if Ws.valueB s.what s.width s.ini = true then (if s.t.all (okT s.what s.width) = true then 0 else 2) else 2) else 1) else 1) else 1) else 10

theorem seven {W : World} {B : Nat} {v0 v1 v2 v3 v4 v5 v6 : Value} {t : TypeId} (h : W.heap[B]? = some (.cells #[v0, v1, v2, v3, v4, v5, v6] t (0, 0))) :
    W.cell? ⟨B, 0, none⟩ = some v0 ∧ W.cell? ⟨B, 1, none⟩ = some v1 ∧ W.cell? ⟨B, 2, none⟩ = some v2 ∧ W.cell? ⟨B, 3, none⟩ = some v3 ∧ W.cell? ⟨B, 4, none⟩ = some v4 ∧ W.cell? ⟨B, 5, none⟩ = some v5 ∧ W.cell? ⟨B, 6, none⟩ = some v6 ∧ B < W.heap.size :=
  ⟨(cell_of_row W B 0 _ t (0, 0) h).trans rfl, (cell_of_row W B 1 _ t (0, 0) h).trans rfl, (cell_of_row W B 2 _ t (0, 0) h).trans rfl, (cell_of_row W B 3 _ t (0, 0) h).trans rfl, (cell_of_row W B 4 _ t (0, 0) h).trans rfl, (cell_of_row W B 5 _ t (0, 0) h).trans rfl, (cell_of_row W B 6 _ t (0, 0) h).trans rfl, lt_of_block h⟩
theorem blk9 {W q : World} {k : Nat} {o : Obj} (hq : Below W.heap.size W q) (h : W.heap[k]? = some o) : q.heap[k]? = some o := (hq.block k (lt_of_block h)).trans h

set_option maxRecDepth 100000 in
set_option maxHeartbeats 8000000 in
theorem rscheck_any (s : Sys) (w : World) (h : SysAt w s) :
    Calls Try.prog 33 #[.agg #[.int .i64 s.what, .int .i64 s.width, .int .i64 s.nodes, s.edv, s.env, s.inv, s.tv]] w fun e w' => e = .returned (.int .i64 (checkS s)) ∧ Below w.heap.size w w' := by
  obtain ⟨what, width, nodes, ED, EN, INI, T, edv, env, inv, tv⟩ := s
  obtain ⟨hed, hen, hini, ht, htr, hio, hel, hil, htl⟩ := h
  have hed : Sl w edv Ed.cs ED := hed
  have hen : Sl w env Ws.encI EN := hen
  have hini : Sl w inv Ws.encW INI := hini
  have ht : Sl w tv Tn.cs T := ht
  have htr : ∀ x ∈ T, TnAt w x := htr
  have hio : Ws.okW INI := hio
  have hel : EN.length ≤ 1000 := hel
  have hil : INI.length ≤ 1000 := hil
  have htl : T.length ≤ 1000 := htl
  have f0 := fun W => Ws.ris_any what width W
  have f1 := fun (W : World) (hB : Below w.heap.size w W) => rright_any nodes ED edv W (hed.below hB)
  have f2 := fun (W : World) (hB : Below w.heap.size w W) => Ws.rvalue_any what width INI hio (by omega) inv W (hini.below hB)
  have f3 := fun (x : Tn) (hx : x ∈ T) (W : World) (hB : Below w.heap.size w W) => rtcheck_any what width x W ((htr x hx).below hB)
  unfold checkS
  show Calls _ _ #[.agg #[.int .i64 what, .int .i64 width, .int .i64 nodes, edv, env, inv, tv]] _ fun e w' => e = .returned (.int .i64 (if Ws.isL what width = true then (if rightB nodes ED = true then (if (T.length : Int) = nodes then (if EN.all (nodeB nodes) = true then (if Ws.valueB what width INI = true then (if T.all (okT what width) = true then 0 else 2) else 2) else 1) else 1) else 1) else 10)) ∧ _
  obtain ⟨dp, dc, hdv⟩ : ∃ p c, edv = .slice p ED.length c := sl_len hed
  obtain ⟨nb, noff, np, nc, hnv, hnp, hnc⟩ := hen.open (k := 1) (fun _ => rfl)
  obtain ⟨ip, ic, hiv⟩ : ∃ p c, inv = .slice p INI.length c := sl_len hini
  obtain ⟨tb, toff, tp, tc, htv, htp, htc⟩ := ht.open Tn.cs_len
  subst hdv hnv hiv htv
  have hb1 : Below w.heap.size w (w.alloc (.cells #[.int .i64 what, .int .i64 width, .int .i64 nodes, .slice dp ED.length dc, .slice np EN.length nc, .slice ip INI.length ic, .slice tp T.length tc] 27)) := (Below.refl _ _).alloc (Nat.le_refl _) _
  have hbox := heap_alloc_new w (.cells #[.int .i64 what, .int .i64 width, .int .i64 nodes, .slice dp ED.length dc, .slice np EN.length nc, .slice ip INI.length ic, .slice tp T.length tc] 27)
  clear hed hen hini ht hio
  generalize Ws.isL what width = il at f0 ⊢
  cases il
  · clear f1 f2 f3 hbox
    go_enter Try.func33, Try.ntmps33
    go_wp2_with (go_at_call 70; refine Calls.same (f0 _) ?_)
    go_ret
    exact ⟨by simp, hb1⟩
  simp only [if_true]
  generalize rightB nodes ED = rb at f1 ⊢
  cases rb
  · clear f2 f3
    go_enter Try.func33, Try.ntmps33
    go_wp2_with (first | (go_at_call 70; refine Calls.same (f0 _) ?_) | (go_at_call 71; refine' Calls.aft _ _ (f1 _ hb1) _; rotate_left 2; (exact Below.refl _ _; rfl); intro x1; have hle := After.le x1; (try simp at hle)))
    go_ret
    exact ⟨by simp, nextB x1.below hb1⟩
  simp only [if_true]
  by_cases hn : (T.length : Int) = nodes
  rotate_left
  · rw [if_neg hn]
    have hnb : ((T.length : Int) != nodes) = true := by simpa using hn
    clear f2 f3
    go_enter Try.func33, Try.ntmps33
    go_wp2_with (first | (go_at_call 70; refine Calls.same (f0 _) ?_) | ((go_at_call 71; refine' Calls.aft _ _ (f1 _ hb1) _; rotate_left 2; (exact Below.refl _ _; rfl); intro x1; have hle := After.le x1; (try simp at hle)); obtain ⟨y0, y1, y2, y3, y4, y5, y6, yl⟩ := seven (blk9 x1.below hbox)))
    go_ret
    exact ⟨by simp, nextB x1.below hb1⟩
  rw [if_pos hn]
  have hnb : ((T.length : Int) != nodes) = false := by simpa using hn
  clear hn
  obtain ⟨RE, hRE⟩ : ∃ R, Hid (EN.all (nodeB nodes) = R) := ⟨_, rfl⟩
  rw [show EN.all (nodeB nodes) = RE from hRE]
  obtain ⟨RT, hRT⟩ : ∃ R, Hid (T.all (okT what width) = R) := ⟨_, rfl⟩
  rw [show T.all (okT what width) = RT from hRT]
  generalize Ws.valueB what width INI = vb at f2 ⊢
  go_enter Try.func33, Try.ntmps33
  go_wp2_with (first | (go_at_call 70; refine Calls.same (f0 _) ?_) | ((go_at_call 71; refine' Calls.aft _ _ (f1 _ hb1) _; rotate_left 2; (exact Below.refl _ _; rfl); intro x1; have hle := After.le x1; (try simp at hle)); obtain ⟨y0, y1, y2, y3, y4, y5, y6, yl⟩ := seven (blk9 x1.below hbox)))
  obtain ⟨W1, hW1⟩ : ∃ W1, W1 = x1.val := ⟨_, rfl⟩
  have hB1 : Below w.heap.size w W1 := by rw [hW1]; exact nextB x1.below hb1
  have hbx : W1.heap[w.heap.size]? = some (.cells #[.int .i64 what, .int .i64 width, .int .i64 nodes, .slice dp ED.length dc, .slice np EN.length nc, .slice ip INI.length ic, .slice tp T.length tc] 27 (0, 0)) := by rw [hW1]; exact blk9 x1.below hbox
  rw [← hW1]
  clear hW1 hbox y0 y1 y2 y3 y4 y5 y6 yl hle f1 f0
  go_loopw [30] (fun i wr => ∃ k : Nat, k ≤ EN.length ∧ i = .int .i64 k ∧ (EN.take k).all (nodeB nodes) = true ∧ Below W1.heap.size W1 wr) (fun i _ => EN.length - (intOf i).toNat)
  case atStart => exact ⟨0, Nat.zero_le _, rfl, by simp, Below.refl _ _⟩
  case round =>
    obtain ⟨k, hk, rfl, hall, hB⟩ := hrel
    have hw := hB.size
    have hBw := nextB hB hB1
    obtain ⟨y0, y1, y2, y3, y4, y5, y6, yl⟩ := seven (blk9 hB hbx)
    by_cases hlt : k < EN.length
    · obtain rfl := hnp (by omega)
      have hlt2 : (k : Int) < EN.length := by omega
      have hbad : nodeB nodes (EN[k]'hlt) = false → RE = false := fun h => by rw [← show EN.all (nodeB nodes) = RE from hRE]; exact all_bad hlt h
      have hnext : nodeB nodes (EN[k]'hlt) = true → (EN.take (k + 1)).all (nodeB nodes) = true := fun h => all_next hlt hall h
      have e0 : wr.cell? ⟨nb, noff + k, none⟩ = some (.int .i64 (EN[k]'hlt)) := by have h9 := hnc k hlt 0 _ rfl; rw [Nat.mul_one, Nat.add_zero] at h9; exact nextC hBw h9
      have el := World.block_lt_of_cell? _ _ e0
      generalize EN[k]'hlt = x at e0 hbad hnext
      have hdf : nodeB nodes x = (decide (0 ≤ x) && decide (x < nodes)) := rfl
      rw [hdf] at hbad hnext
      by_cases q1 : 0 ≤ x
      rotate_left
      · rw [decide_eq_false q1] at hbad
        have q1' : x < 0 := by omega
        have hf := hbad rfl
        subst hf
        clear hbad hnext hRE f2 f3
        go_wp2_with fail
        go_ret
        exact ⟨by simp, hBw⟩
      rw [decide_eq_true q1] at hbad hnext
      have q1' : ¬ x < 0 := by omega
      by_cases q2 : x < nodes
      rotate_left
      · rw [decide_eq_false q2] at hbad
        have q2' : nodes ≤ x := by omega
        have hf := hbad rfl
        subst hf
        clear hbad hnext hRE f2 f3
        go_wp2_with fail
        go_ret
        exact ⟨by simp, hBw⟩
      rw [decide_eq_true q2] at hbad hnext
      have q2' : ¬ nodes ≤ x := by omega
      have hx := And.intro True.intro (hnext rfl)
      clear hbad hnext
      go_wp2_with fail
      go_roundw
      case rel => exact ⟨k + 1, by omega, by simp, hx.2, hB⟩
      case measure => simp [intOf]; omega
    · have hks : k = EN.length := by omega
      subst hks
      have hlt2 : ¬ (EN.length : Int) < EN.length := by omega
      have hRt : RE = true := by rw [← show EN.all (nodeB nodes) = RE from hRE]; rw [List.take_length] at hall; exact hall
      subst hRt
      clear hnc hRE
      cases vb
      · go_wp2_with (go_at_call 72; refine' Calls.aft _ _ (f2 _ hBw) _; rotate_left 2; (exact Below.refl _ _; rfl); intro x2; have hle := After.le x2; (try simp at hle))
        go_ret
        exact ⟨by simp, nextB x2.below hBw⟩
      obtain ⟨W2, hW2⟩ : ∃ W2, W2 = wr := ⟨wr, rfl⟩
      subst hW2
      go_wp2_with ((go_at_call 72; refine' Calls.aft _ _ (f2 _ hBw) _; rotate_left 2; (exact Below.refl _ _; rfl); intro x2; have hle := After.le x2; (try simp at hle)); obtain ⟨z0, z1, z2, z3, z4, z5, z6, zl⟩ := seven (blk9 x2.below (blk9 hB hbx)))
      obtain ⟨W3, hW3⟩ : ∃ W3, W3 = x2.val := ⟨_, rfl⟩
      have hB3 : Below w.heap.size w W3 := by rw [hW3]; exact nextB x2.below hBw
      have hbx3 : W3.heap[w.heap.size]? = some (.cells #[.int .i64 what, .int .i64 width, .int .i64 nodes, .slice dp ED.length dc, .slice np EN.length nc, .slice ip INI.length ic, .slice tp T.length tc] 27 (0, 0)) := by rw [hW3]; exact blk9 x2.below (blk9 hB hbx)
      rw [← hW3]
      clear hW3 z0 z1 z2 z3 z4 z5 z6 zl y0 y1 y2 y3 y4 y5 y6 yl hle f2
      go_loopw [54] (fun i wr => ∃ k : Nat, k ≤ T.length ∧ i = .int .i64 k ∧ (T.take k).all (okT what width) = true ∧ Below W3.heap.size W3 wr) (fun i _ => T.length - (intOf i).toNat)
      case atStart => exact ⟨0, Nat.zero_le _, rfl, by simp, Below.refl _ _⟩
      case round =>
        obtain ⟨k, hk, rfl, hall, hBt⟩ := hrel
        have hwt := hBt.size
        have hBu := nextB hBt hB3
        obtain ⟨y0, y1, y2, y3, y4, y5, y6, yl⟩ := seven (blk9 hBt hbx3)
        by_cases hlt : k < T.length
        · obtain rfl := htp (by omega)
          have hlt2 : (k : Int) < T.length := by omega
          have hbad : okT what width (T[k]'hlt) = false → RT = false := fun h => by rw [← show T.all (okT what width) = RT from hRT]; exact all_bad hlt h
          have hnext : okT what width (T[k]'hlt) = true → (T.take (k + 1)).all (okT what width) = true := fun h => all_next hlt hall h
          have hcr : ∀ r u, ((T[k]'hlt).cs)[r]? = some u → wr.cell? ⟨tb, toff + k * 3 + r, none⟩ = some u := fun r u hu => by
            rw [Nat.add_assoc]
            exact nextC hBu (htc k hlt r u hu)
          have f4 := f3 _ (List.getElem_mem hlt)
          have hTn := htr _ (List.getElem_mem hlt)
          clear f3 htc
          generalize T[k]'hlt = x at hcr f4 hbad hnext hTn
          have e0 : wr.cell? ⟨tb, toff + k * 3, none⟩ = some x.gv := hcr 0 _ rfl
          have el := World.block_lt_of_cell? _ _ e0
          have e1 : wr.cell? ⟨tb, toff + k * 3 + 1, none⟩ = some x.kv := hcr 1 _ rfl
          have e2 : wr.cell? ⟨tb, toff + k * 3 + 2, none⟩ = some x.lv := hcr 2 _ rfl
          obtain ⟨gp, gc, hgv⟩ := sl_len hTn.g
          obtain ⟨kp, kc, hkv⟩ := sl_len hTn.k
          obtain ⟨lp, lc, hlv⟩ := sl_len hTn.l
          rw [hgv] at e0 f4
          rw [hkv] at e1 f4
          rw [hlv] at e2 f4
          have hcz : okT what width x = decide (checkT what width x = 0) := rfl
          rw [hcz] at hbad hnext
          generalize checkT what width x = cx at f4 hbad hnext
          have hba : Below wr.heap.size wr (wr.alloc (.cells #[.slice gp x.g.length gc, .slice kp x.k.length kc, .slice lp x.l.length lc] 81)) := (Below.refl _ _).alloc (Nat.le_refl _) _
          clear hcr hTn hgv hkv hlv
          by_cases q1 : cx = 0
          · subst q1
            have hx := And.intro True.intro (hnext (by simp))
            clear hbad hnext
            go_wp2_with (go_at_call 73; refine' Calls.aft _ _ (f4 _ (nextB hba hBu)) _; rotate_left 2; (exact Below.refl _ _; rfl); intro x5; have hle := After.le x5; (try simp at hle))
            go_roundw
            case rel => exact ⟨k + 1, by omega, by simp, hx.2, nextB x5.below (nextB hba hBt)⟩
            case measure => simp [intOf]; omega
          · have hf := hbad (decide_eq_false q1)
            subst hf
            have q1b : (cx != 0) = true := by simpa using q1
            clear hbad hnext hRT
            go_wp2_with (go_at_call 73; refine' Calls.aft _ _ (f4 _ (nextB hba hBu)) _; rotate_left 2; (exact Below.refl _ _; rfl); intro x5; have hle := After.le x5; (try simp at hle))
            go_ret
            exact ⟨by simp, nextB x5.below (nextB hba hBu)⟩
        · have hks : k = T.length := by omega
          have hlt2 : ¬ (k : Int) < T.length := by omega
          have hRt : RT = true := by rw [← show T.all (okT what width) = RT from hRT]; rw [hks, List.take_length] at hall; exact hall
          subst hRt
          clear htc hRT hks
          go_wp2_with fail
          go_ret
          exact ⟨by simp, hBu⟩

end Go.Proofs.Ytjjmoibnmdbpeaa.Pr

/- Layouts: how small a system is; where all stands. WALKS of soughref17.Small, layout.Of, soughref32.Of. Layouts: whether a system is small. WALK of soughref17.Small (printed by tools/gen_layb.py). ARGUMENTS that are systems: the rows that stand behind them. Layouts: where cells, flags, the count and deques stand. WALKS of the methods. Layouts: facts of a layout that is right. -/
import Derived.Test.YtjjmoibnmdbpeaaSyf
import Derived.Test.YtjjmoibnmdbpeaaAtomOpen
import Derived.Test.YtjjmoibnmdbpeaaPgm
import Derived.Lib.SmallJoins

namespace Go.Proofs.Ytjjmoibnmdbpeaa.Pr
set_option linter.unusedVariables false
set_option linter.unusedSimpArgs false
open Go Go.RowKit

def offE (s : Sys) (k : Int) : Int := if checkS s = 0 then (if k < 1 then 1 else if 64 < k then 1 else 0) else checkS s
def layV (s : Sys) (k : Int) : Value := if offE s k = 0 then .agg #[.int .i64 s.what, .int .i64 (Ws.wordsN s.what s.width), .int .i64 s.nodes, .int .i64 k] else .agg #[.int .i64 0, .int .i64 0, .int .i64 0, .int .i64 0]

set_option maxRecDepth 100000 in
set_option maxHeartbeats 4000000 in
theorem lof_any (s : Sys) (k : Int) (w : World) (h : SysAt w s) :
    Calls Try.prog 9 #[.agg #[.int .i64 s.what, .int .i64 s.width, .int .i64 s.nodes, s.edv, s.env, s.inv, s.tv], .int .i64 k] w fun e w' => e = .returned (.tuple #[layV s k, .int .i64 (offE s k)]) ∧ Below w.heap.size w w' := by
  have f0 := fun (W : World) (hB : Below w.heap.size w W) => scheck_any s W (h.below hB)
  unfold layV offE
  generalize checkS s = c at f0 ⊢
  obtain ⟨what, width, nodes, ED, EN, INI, T, edv, env, inv, tv⟩ := s
  obtain ⟨hed, hen, hini, ht, htr, hio, hel, hil, htl⟩ := h
  obtain ⟨dp, dc, hdv⟩ : ∃ p c, edv = .slice p ED.length c := sl_len hed
  obtain ⟨np, nc, hnv⟩ : ∃ p c, env = .slice p EN.length c := sl_len hen
  obtain ⟨ip, ic, hiv⟩ : ∃ p c, inv = .slice p INI.length c := sl_len hini
  obtain ⟨tp, tc, htv⟩ : ∃ p c, tv = .slice p T.length c := sl_len ht
  subst hdv hnv hiv htv
  clear hed hen hini ht htr hio hel hil htl
  have f1 := fun W => Ws.words_any what width W
  generalize Ws.wordsN what width = n at f1 ⊢
  have hb2 : Below w.heap.size w ((w.alloc (.cells #[.int .i64 what, .int .i64 width, .int .i64 nodes, .slice dp ED.length dc, .slice np EN.length nc, .slice ip INI.length ic, .slice tp T.length tc] 27)).alloc (.cells #[.int .i64 0, .int .i64 0, .int .i64 0, .int .i64 0] 31)) := ((Below.refl _ _).alloc (Nat.le_refl _) _).alloc (by simp) _
  by_cases q0 : c = 0
  rotate_left
  · have q0b : (c != 0) = true := by simpa using q0
    simp only [q0, if_false]
    go_enter Try.func9, Try.ntmps9
    go_wp2_with (go_at_call 31; refine' Calls.aft _ _ (f0 _ hb2) _; rotate_left 2; (first | (with_reducible exact After.below _; rfl) | (with_reducible exact below_drew (After.below _); rfl) | (with_reducible exact below_set (After.below _) _ _; (go_simp; rfl)) | (with_reducible exact below_set (below_set (After.below _) _ _) _ _; (go_simp; rfl)) | (with_reducible exact below_set (below_set (below_set (After.below _) _ _) _ _) _ _; (go_simp; rfl)) | (with_reducible exact below_set (below_set (below_set (below_set (After.below _) _ _) _ _) _ _) _ _; (go_simp; rfl)) | (exact Below.refl _ _; rfl)); intro x1; have hle := After.le x1; (try simp at hle))
    refine bodyPost_ret (v := .tuple #[.agg #[.int .i64 0, .int .i64 0, .int .i64 0, .int .i64 0], .int .i64 c]) (by simp only [results, Try.results9]; go_simp) rfl ⟨rfl, ?_⟩
    (repeat (first | exact Below.refl _ _ | apply Below.drew | refine Below.alloc ?_ ?_ _ | refine Below.setCell ?_ ?_ _ | refine Below.trans ?_ (Below.mono (After.below _) ?_))); (all_goals (first | (simp; done) | (simp; omega) | omega))
  subst q0
  simp only [if_true]
  by_cases q1 : k < 1
  · have q1b : decide (k < 1) = true := by simpa using q1
    simp only [q1, if_true]
    go_enter Try.func9, Try.ntmps9
    go_wp2_with (go_at_call 31; refine' Calls.aft _ _ (f0 _ hb2) _; rotate_left 2; (first | (with_reducible exact After.below _; rfl) | (with_reducible exact below_drew (After.below _); rfl) | (with_reducible exact below_set (After.below _) _ _; (go_simp; rfl)) | (with_reducible exact below_set (below_set (After.below _) _ _) _ _; (go_simp; rfl)) | (with_reducible exact below_set (below_set (below_set (After.below _) _ _) _ _) _ _; (go_simp; rfl)) | (with_reducible exact below_set (below_set (below_set (below_set (After.below _) _ _) _ _) _ _) _ _; (go_simp; rfl)) | (exact Below.refl _ _; rfl)); intro x1; have hle := After.le x1; (try simp at hle))
    refine bodyPost_ret (v := .tuple #[.agg #[.int .i64 0, .int .i64 0, .int .i64 0, .int .i64 0], .int .i64 1]) (by simp only [results, Try.results9]; go_simp) rfl ⟨rfl, ?_⟩
    (repeat (first | exact Below.refl _ _ | apply Below.drew | refine Below.alloc ?_ ?_ _ | refine Below.setCell ?_ ?_ _ | refine Below.trans ?_ (Below.mono (After.below _) ?_))); (all_goals (first | (simp; done) | (simp; omega) | omega))
  by_cases q2 : 64 < k
  · simp only [q1, q2, if_true, if_false]
    go_enter Try.func9, Try.ntmps9
    go_wp2_with (go_at_call 31; refine' Calls.aft _ _ (f0 _ hb2) _; rotate_left 2; (first | (with_reducible exact After.below _; rfl) | (with_reducible exact below_drew (After.below _); rfl) | (with_reducible exact below_set (After.below _) _ _; (go_simp; rfl)) | (with_reducible exact below_set (below_set (After.below _) _ _) _ _; (go_simp; rfl)) | (with_reducible exact below_set (below_set (below_set (After.below _) _ _) _ _) _ _; (go_simp; rfl)) | (with_reducible exact below_set (below_set (below_set (below_set (After.below _) _ _) _ _) _ _) _ _; (go_simp; rfl)) | (exact Below.refl _ _; rfl)); intro x1; have hle := After.le x1; (try simp at hle))
    refine bodyPost_ret (v := .tuple #[.agg #[.int .i64 0, .int .i64 0, .int .i64 0, .int .i64 0], .int .i64 1]) (by simp only [results, Try.results9]; go_simp) rfl ⟨rfl, ?_⟩
    (repeat (first | exact Below.refl _ _ | apply Below.drew | refine Below.alloc ?_ ?_ _ | refine Below.setCell ?_ ?_ _ | refine Below.trans ?_ (Below.mono (After.below _) ?_))); (all_goals (first | (simp; done) | (simp; omega) | omega))
  simp only [q1, q2, if_false, if_true]
  go_enter Try.func9, Try.ntmps9
  go_wp2_with (go_at_call 31; refine' Calls.aft _ _ (f0 _ hb2) _; rotate_left 2; (first | (with_reducible exact After.below _; rfl) | (with_reducible exact below_drew (After.below _); rfl) | (with_reducible exact below_set (After.below _) _ _; (go_simp; rfl)) | (with_reducible exact below_set (below_set (After.below _) _ _) _ _; (go_simp; rfl)) | (with_reducible exact below_set (below_set (below_set (After.below _) _ _) _ _) _ _; (go_simp; rfl)) | (with_reducible exact below_set (below_set (below_set (below_set (After.below _) _ _) _ _) _ _) _ _; (go_simp; rfl)) | (exact Below.refl _ _; rfl)); intro x1; have hle := After.le x1; (try simp at hle))
  refine' region_tail 11 _ _ (by kernel_rfl) (by kernel_rfl) _; rotate_left 2; (first | (with_reducible exact After.below _; rfl) | (with_reducible exact below_drew (After.below _); rfl) | (with_reducible exact below_set (After.below _) _ _; (go_simp; rfl)) | (with_reducible exact below_set (below_set (After.below _) _ _) _ _; (go_simp; rfl)) | (with_reducible exact below_set (below_set (below_set (After.below _) _ _) _ _) _ _; (go_simp; rfl)) | (with_reducible exact below_set (below_set (below_set (below_set (After.below _) _ _) _ _) _ _) _ _; (go_simp; rfl)) | (exact Below.refl _ _; rfl)); simp only [List.take_succ_cons, List.take_zero, List.drop_succ_cons, List.drop_zero]; (repeat (go_big_quiet_step (first | (go_at_call 32; exact Calls.after_of (Calls.behind (f1 _)))))); refine wpQuiet_nil ?_; intro z
  go_wp2_with fail
  refine bodyPost_ret (v := .tuple #[.agg #[.int .i64 what, .int .i64 n, .int .i64 nodes, .int .i64 k], .int .i64 0]) (by simp only [results, Try.results9]; go_simp) rfl ⟨rfl, ?_⟩
  have hx := z.le
  simp at hx
  (repeat (first | exact Below.refl _ _ | apply Below.drew | refine Below.alloc ?_ ?_ _ | refine Below.setCell ?_ ?_ _ | refine Below.trans ?_ (Below.mono (After.below _) ?_))); (all_goals (first | (simp; done) | (simp; omega) | omega))

set_option maxRecDepth 100000 in
set_option maxHeartbeats 4000000 in
theorem rof32_any (s : Sys) (k : Int) (w : World) (h : SysAt w s) :
    Calls Try.prog 10 #[.agg #[.int .i64 s.what, .int .i64 s.width, .int .i64 s.nodes, s.edv, s.env, s.inv, s.tv], .int .i64 k] w fun e w' => e = .returned (.tuple #[layV s k, .int .i64 (offE s k)]) ∧ Below w.heap.size w w' := by
  have f0 := fun (W : World) (hB : Below w.heap.size w W) => rscheck_any s W (h.below hB)
  unfold layV offE
  generalize checkS s = c at f0 ⊢
  obtain ⟨what, width, nodes, ED, EN, INI, T, edv, env, inv, tv⟩ := s
  obtain ⟨hed, hen, hini, ht, htr, hio, hel, hil, htl⟩ := h
  obtain ⟨dp, dc, hdv⟩ : ∃ p c, edv = .slice p ED.length c := sl_len hed
  obtain ⟨np, nc, hnv⟩ : ∃ p c, env = .slice p EN.length c := sl_len hen
  obtain ⟨ip, ic, hiv⟩ : ∃ p c, inv = .slice p INI.length c := sl_len hini
  obtain ⟨tp, tc, htv⟩ : ∃ p c, tv = .slice p T.length c := sl_len ht
  subst hdv hnv hiv htv
  clear hed hen hini ht htr hio hel hil htl
  have f1 := fun W => Ws.rwords_any what width W
  generalize Ws.wordsN what width = n at f1 ⊢
  have hb2 : Below w.heap.size w ((w.alloc (.cells #[.int .i64 what, .int .i64 width, .int .i64 nodes, .slice dp ED.length dc, .slice np EN.length nc, .slice ip INI.length ic, .slice tp T.length tc] 27)).alloc (.cells #[.int .i64 0, .int .i64 0, .int .i64 0, .int .i64 0] 35)) := ((Below.refl _ _).alloc (Nat.le_refl _) _).alloc (by simp) _
  by_cases q0 : c = 0
  rotate_left
  · have q0b : (c != 0) = true := by simpa using q0
    simp only [q0, if_false]
    go_enter Try.func10, Try.ntmps10
    go_wp2_with (go_at_call 33; refine' Calls.aft _ _ (f0 _ hb2) _; rotate_left 2; (first | (with_reducible exact After.below _; rfl) | (with_reducible exact below_drew (After.below _); rfl) | (with_reducible exact below_set (After.below _) _ _; (go_simp; rfl)) | (with_reducible exact below_set (below_set (After.below _) _ _) _ _; (go_simp; rfl)) | (with_reducible exact below_set (below_set (below_set (After.below _) _ _) _ _) _ _; (go_simp; rfl)) | (with_reducible exact below_set (below_set (below_set (below_set (After.below _) _ _) _ _) _ _) _ _; (go_simp; rfl)) | (exact Below.refl _ _; rfl)); intro x1; have hle := After.le x1; (try simp at hle))
    refine bodyPost_ret (v := .tuple #[.agg #[.int .i64 0, .int .i64 0, .int .i64 0, .int .i64 0], .int .i64 c]) (by simp only [results, Try.results10]; go_simp) rfl ⟨rfl, ?_⟩
    (repeat (first | exact Below.refl _ _ | apply Below.drew | refine Below.alloc ?_ ?_ _ | refine Below.setCell ?_ ?_ _ | refine Below.trans ?_ (Below.mono (After.below _) ?_))); (all_goals (first | (simp; done) | (simp; omega) | omega))
  subst q0
  simp only [if_true]
  by_cases q1 : k < 1
  · have q1b : decide (k < 1) = true := by simpa using q1
    simp only [q1, if_true]
    go_enter Try.func10, Try.ntmps10
    go_wp2_with (go_at_call 33; refine' Calls.aft _ _ (f0 _ hb2) _; rotate_left 2; (first | (with_reducible exact After.below _; rfl) | (with_reducible exact below_drew (After.below _); rfl) | (with_reducible exact below_set (After.below _) _ _; (go_simp; rfl)) | (with_reducible exact below_set (below_set (After.below _) _ _) _ _; (go_simp; rfl)) | (with_reducible exact below_set (below_set (below_set (After.below _) _ _) _ _) _ _; (go_simp; rfl)) | (with_reducible exact below_set (below_set (below_set (below_set (After.below _) _ _) _ _) _ _) _ _; (go_simp; rfl)) | (exact Below.refl _ _; rfl)); intro x1; have hle := After.le x1; (try simp at hle))
    refine bodyPost_ret (v := .tuple #[.agg #[.int .i64 0, .int .i64 0, .int .i64 0, .int .i64 0], .int .i64 1]) (by simp only [results, Try.results10]; go_simp) rfl ⟨rfl, ?_⟩
    (repeat (first | exact Below.refl _ _ | apply Below.drew | refine Below.alloc ?_ ?_ _ | refine Below.setCell ?_ ?_ _ | refine Below.trans ?_ (Below.mono (After.below _) ?_))); (all_goals (first | (simp; done) | (simp; omega) | omega))
  by_cases q2 : 64 < k
  · simp only [q1, q2, if_true, if_false]
    go_enter Try.func10, Try.ntmps10
    go_wp2_with (go_at_call 33; refine' Calls.aft _ _ (f0 _ hb2) _; rotate_left 2; (first | (with_reducible exact After.below _; rfl) | (with_reducible exact below_drew (After.below _); rfl) | (with_reducible exact below_set (After.below _) _ _; (go_simp; rfl)) | (with_reducible exact below_set (below_set (After.below _) _ _) _ _; (go_simp; rfl)) | (with_reducible exact below_set (below_set (below_set (After.below _) _ _) _ _) _ _; (go_simp; rfl)) | (with_reducible exact below_set (below_set (below_set (below_set (After.below _) _ _) _ _) _ _) _ _; (go_simp; rfl)) | (exact Below.refl _ _; rfl)); intro x1; have hle := After.le x1; (try simp at hle))
    refine bodyPost_ret (v := .tuple #[.agg #[.int .i64 0, .int .i64 0, .int .i64 0, .int .i64 0], .int .i64 1]) (by simp only [results, Try.results10]; go_simp) rfl ⟨rfl, ?_⟩
    (repeat (first | exact Below.refl _ _ | apply Below.drew | refine Below.alloc ?_ ?_ _ | refine Below.setCell ?_ ?_ _ | refine Below.trans ?_ (Below.mono (After.below _) ?_))); (all_goals (first | (simp; done) | (simp; omega) | omega))
  simp only [q1, q2, if_false, if_true]
  go_enter Try.func10, Try.ntmps10
  go_wp2_with (go_at_call 33; refine' Calls.aft _ _ (f0 _ hb2) _; rotate_left 2; (first | (with_reducible exact After.below _; rfl) | (with_reducible exact below_drew (After.below _); rfl) | (with_reducible exact below_set (After.below _) _ _; (go_simp; rfl)) | (with_reducible exact below_set (below_set (After.below _) _ _) _ _; (go_simp; rfl)) | (with_reducible exact below_set (below_set (below_set (After.below _) _ _) _ _) _ _; (go_simp; rfl)) | (with_reducible exact below_set (below_set (below_set (below_set (After.below _) _ _) _ _) _ _) _ _; (go_simp; rfl)) | (exact Below.refl _ _; rfl)); intro x1; have hle := After.le x1; (try simp at hle))
  refine' region_tail 11 _ _ (by kernel_rfl) (by kernel_rfl) _; rotate_left 2; (first | (with_reducible exact After.below _; rfl) | (with_reducible exact below_drew (After.below _); rfl) | (with_reducible exact below_set (After.below _) _ _; (go_simp; rfl)) | (with_reducible exact below_set (below_set (After.below _) _ _) _ _; (go_simp; rfl)) | (with_reducible exact below_set (below_set (below_set (After.below _) _ _) _ _) _ _; (go_simp; rfl)) | (with_reducible exact below_set (below_set (below_set (below_set (After.below _) _ _) _ _) _ _) _ _; (go_simp; rfl)) | (exact Below.refl _ _; rfl)); simp only [List.take_succ_cons, List.take_zero, List.drop_succ_cons, List.drop_zero]; (repeat (go_big_quiet_step (first | (go_at_call 34; exact Calls.after_of (Calls.behind (f1 _)))))); refine wpQuiet_nil ?_; intro z
  go_wp2_with fail
  refine bodyPost_ret (v := .tuple #[.agg #[.int .i64 what, .int .i64 n, .int .i64 nodes, .int .i64 k], .int .i64 0]) (by simp only [results, Try.results10]; go_simp) rfl ⟨rfl, ?_⟩
  have hx := z.le
  simp at hx
  (repeat (first | exact Below.refl _ _ | apply Below.drew | refine Below.alloc ?_ ?_ _ | refine Below.setCell ?_ ?_ _ | refine Below.trans ?_ (Below.mono (After.below _) ?_))); (all_goals (first | (simp; done) | (simp; omega) | omega))

end Go.Proofs.Ytjjmoibnmdbpeaa.Pr

namespace Go.Proofs.Ytjjmoibnmdbpeaa.Pr
set_option linter.unusedVariables false
set_option linter.unusedSimpArgs false
open Go Go.RowKit

structure TnRd (w : World) (t : Tn) : Prop where
  g : Sl w t.gv Ws.encW t.g
  k : Sl w t.kv Ws.encW t.k
  l : Sl w t.lv Cd.cs t.l
  go : Ws.okW t.g
  ko : Ws.okW t.k
structure SysRd (w : World) (s : Sys) : Prop where
  ed : Sl w s.edv Ed.cs s.ed
  en : Sl w s.env Ws.encI s.en
  ini : Sl w s.inv Ws.encW s.ini
  t : Sl w s.tv Tn.cs s.t
  tr : ∀ x ∈ s.t, TnRd w x
  io : Ws.okW s.ini
theorem TnRd.below {w q : World} {t : Tn} (h : TnRd w t) (hq : Below w.heap.size w q) : TnRd q t := ⟨h.g.below hq, h.k.below hq, h.l.below hq, h.go, h.ko⟩
theorem SysRd.below {w q : World} {s : Sys} (h : SysRd w s) (hq : Below w.heap.size w q) : SysRd q s := ⟨h.ed.below hq, h.en.below hq, h.ini.below hq, h.t.below hq, fun x hx => (h.tr x hx).below hq, h.io⟩
def smallT (x : Tn) : Bool := decide (x.g.length ≤ 4) && (decide (x.k.length ≤ 4) && decide (x.l.length ≤ 6))
def smallA (s : Sys) : Bool := !((decide (7 < s.nodes) || decide (10 < s.width)) && (decide (s.nodes ≤ 256) && decide (s.width ≤ 1024)))
def smallY (s : Sys) : Bool := smallA s && (decide (s.t.length ≤ 8) && (decide (s.ed.length ≤ 16) && (decide (s.en.length ≤ 10) && (decide (s.ini.length ≤ 20) && s.t.all smallT))))
theorem SysRd.at {w : World} {s : Sys} (h : SysRd w s) (hs : smallY s = true) : SysAt w s := by
  simp only [smallY, Bool.and_eq_true, decide_eq_true_eq, List.all_eq_true, smallT] at hs
  obtain ⟨_, h1, h2, h3, h4, h5⟩ := hs
  exact ⟨h.ed, h.en, h.ini, h.t, fun x hx => ⟨(h.tr x hx).g, (h.tr x hx).k, (h.tr x hx).l, (h.tr x hx).go, (h.tr x hx).ko, by have := (h5 x hx).1; omega, by have := (h5 x hx).2.1; omega, by have := (h5 x hx).2.2; omega⟩, h.io, by omega, by omega, by omega⟩

set_option maxRecDepth 100000 in
set_option maxHeartbeats 16000000 in
theorem small17_any (s : Sys) (w : World) (h : SysRd w s) :
    Calls Try.prog 8 #[.agg #[.int .i64 s.what, .int .i64 s.width, .int .i64 s.nodes, s.edv, s.env, s.inv, s.tv]] w fun e w' => e = .returned (.bool (smallY s)) ∧ Below w.heap.size w w' := by
  obtain ⟨what, width, nodes, ED, EN, INI, T, edv, env, inv, tv⟩ := s
  obtain ⟨hed, hen, hini, ht, htr, hio⟩ := h
  have ht : Sl w tv Tn.cs T := ht
  have htr : ∀ x ∈ T, TnRd w x := htr
  obtain ⟨dp, dc, hdv⟩ : ∃ p c, edv = .slice p ED.length c := sl_len hed
  obtain ⟨np, nc, hnv⟩ : ∃ p c, env = .slice p EN.length c := sl_len hen
  obtain ⟨ip, ic, hiv⟩ : ∃ p c, inv = .slice p INI.length c := sl_len hini
  obtain ⟨tb, toff, tp, tc, htv, htp, htc⟩ := ht.open Tn.cs_len
  subst hdv hnv hiv htv
  clear hed hen hini ht hio
  have hb1 : Below w.heap.size w (w.alloc (.cells #[.int .i64 what, .int .i64 width, .int .i64 nodes, .slice dp ED.length dc, .slice np EN.length nc, .slice ip INI.length ic, .slice tp T.length tc] 27)) := (Below.refl _ _).alloc (Nat.le_refl _) _
  unfold smallY smallA
  show Calls _ _ _ _ fun e w' => e = .returned (.bool ((!((decide (7 < nodes) || decide (10 < width)) && (decide (nodes ≤ 256) && decide (width ≤ 1024)))) && (decide (T.length ≤ 8) && (decide (ED.length ≤ 16) && (decide (EN.length ≤ 10) && (decide (INI.length ≤ 20) && T.all smallT)))))) ∧ _
  obtain ⟨RT, hRT⟩ : ∃ R, Hid (T.all smallT = R) := ⟨_, rfl⟩
  rw [show T.all smallT = RT from hRT]
  by_cases a1 : 7 < nodes
  · by_cases a3 : nodes ≤ 256
    · by_cases a4 : width ≤ 1024
      · simp only [decide_eq_true a1, decide_eq_true a3, decide_eq_true a4, Bool.true_or, Bool.or_true, Bool.or_false, Bool.false_or, Bool.and_true, Bool.true_and, Bool.and_false, Bool.false_and, Bool.not_true, Bool.not_false]
        clear hRT htc htp htr
        go_enter Try.func8, Try.ntmps8
        go_wp2_with fail
        refine bodyPost_ret (v := .bool false) (by simp only [results, Try.results8]; go_simp) rfl ⟨rfl, ?_⟩
        (repeat (first | exact Below.refl _ _ | apply Below.drew | refine Below.alloc ?_ ?_ _ | refine Below.setCell ?_ ?_ _ | refine Below.trans ?_ (Below.mono (After.below _) ?_))); (all_goals (first | (simp; done) | (simp; omega) | omega))
      · simp only [decide_eq_true a1, decide_eq_true a3, decide_eq_false a4, Bool.true_or, Bool.or_true, Bool.or_false, Bool.false_or, Bool.and_true, Bool.true_and, Bool.and_false, Bool.false_and, Bool.not_true, Bool.not_false]
        by_cases l1 : T.length ≤ 8
        rotate_left
        · rw [decide_eq_false l1]
          have l1b : (8 : Int) < T.length := by omega
          simp only [Bool.false_and, Bool.and_false]
          clear l1
          clear hRT htc htp htr
          go_enter Try.func8, Try.ntmps8
          go_wp2_with fail
          refine bodyPost_ret (v := .bool false) (by simp only [results, Try.results8]; go_simp) rfl ⟨rfl, ?_⟩
          (repeat (first | exact Below.refl _ _ | apply Below.drew | refine Below.alloc ?_ ?_ _ | refine Below.setCell ?_ ?_ _ | refine Below.trans ?_ (Below.mono (After.below _) ?_))); (all_goals (first | (simp; done) | (simp; omega) | omega))
        rw [decide_eq_true l1]
        have l1b : ¬ (8 : Int) < T.length := by omega
        clear l1
        by_cases l2 : ED.length ≤ 16
        rotate_left
        · rw [decide_eq_false l2]
          have l2b : (16 : Int) < ED.length := by omega
          simp only [Bool.false_and, Bool.and_false]
          clear l2
          clear hRT htc htp htr
          go_enter Try.func8, Try.ntmps8
          go_wp2_with fail
          refine bodyPost_ret (v := .bool false) (by simp only [results, Try.results8]; go_simp) rfl ⟨rfl, ?_⟩
          (repeat (first | exact Below.refl _ _ | apply Below.drew | refine Below.alloc ?_ ?_ _ | refine Below.setCell ?_ ?_ _ | refine Below.trans ?_ (Below.mono (After.below _) ?_))); (all_goals (first | (simp; done) | (simp; omega) | omega))
        rw [decide_eq_true l2]
        have l2b : ¬ (16 : Int) < ED.length := by omega
        clear l2
        by_cases l3 : EN.length ≤ 10
        rotate_left
        · rw [decide_eq_false l3]
          have l3b : (10 : Int) < EN.length := by omega
          simp only [Bool.false_and, Bool.and_false]
          clear l3
          clear hRT htc htp htr
          go_enter Try.func8, Try.ntmps8
          go_wp2_with fail
          refine bodyPost_ret (v := .bool false) (by simp only [results, Try.results8]; go_simp) rfl ⟨rfl, ?_⟩
          (repeat (first | exact Below.refl _ _ | apply Below.drew | refine Below.alloc ?_ ?_ _ | refine Below.setCell ?_ ?_ _ | refine Below.trans ?_ (Below.mono (After.below _) ?_))); (all_goals (first | (simp; done) | (simp; omega) | omega))
        rw [decide_eq_true l3]
        have l3b : ¬ (10 : Int) < EN.length := by omega
        clear l3
        by_cases l4 : INI.length ≤ 20
        rotate_left
        · rw [decide_eq_false l4]
          have l4b : (20 : Int) < INI.length := by omega
          simp only [Bool.false_and, Bool.and_false]
          clear l4
          clear hRT htc htp htr
          go_enter Try.func8, Try.ntmps8
          go_wp2_with fail
          refine bodyPost_ret (v := .bool false) (by simp only [results, Try.results8]; go_simp) rfl ⟨rfl, ?_⟩
          (repeat (first | exact Below.refl _ _ | apply Below.drew | refine Below.alloc ?_ ?_ _ | refine Below.setCell ?_ ?_ _ | refine Below.trans ?_ (Below.mono (After.below _) ?_))); (all_goals (first | (simp; done) | (simp; omega) | omega))
        rw [decide_eq_true l4]
        have l4b : ¬ (20 : Int) < INI.length := by omega
        clear l4
        simp only [Bool.true_and]
        go_enter Try.func8, Try.ntmps8
        go_wp2_with fail
        go_loopw [50] (fun i wr => ∃ k : Nat, k ≤ T.length ∧ i = .int .i64 k ∧ (T.take k).all smallT = true ∧ Below w.heap.size w wr) (fun i _ => T.length - (intOf i).toNat)
        case atStart => exact ⟨0, Nat.zero_le _, rfl, by simp, hb1⟩
        case round =>
          obtain ⟨k, hk, rfl, hall, hB⟩ := hrel
          have hw := hB.size
          by_cases hlt : k < T.length
          · obtain rfl := htp (by omega)
            have hlt2 : (k : Int) < T.length := by omega
            have hbad : smallT (T[k]'hlt) = false → RT = false := fun h => by rw [← show T.all smallT = RT from hRT]; exact all_bad hlt h
            have hnext : smallT (T[k]'hlt) = true → (T.take (k + 1)).all smallT = true := fun h => all_next hlt hall h
            have hcr : ∀ r u, ((T[k]'hlt).cs)[r]? = some u → wr.cell? ⟨tb, toff + k * 3 + r, none⟩ = some u := fun r u hu => by
              rw [Nat.add_assoc]
              exact nextC hB (htc k hlt r u hu)
            have hTn := htr _ (List.getElem_mem hlt)
            clear htc
            generalize T[k]'hlt = x at hcr hbad hnext hTn
            have e0 : wr.cell? ⟨tb, toff + k * 3, none⟩ = some x.gv := hcr 0 _ rfl
            have el := World.block_lt_of_cell? _ _ e0
            have e1 : wr.cell? ⟨tb, toff + k * 3 + 1, none⟩ = some x.kv := hcr 1 _ rfl
            have e2 : wr.cell? ⟨tb, toff + k * 3 + 2, none⟩ = some x.lv := hcr 2 _ rfl
            obtain ⟨gp, gc, hgv⟩ := sl_len hTn.g
            obtain ⟨kp, kc, hkv⟩ := sl_len hTn.k
            obtain ⟨lp, lc, hlv⟩ := sl_len hTn.l
            rw [hgv] at e0
            rw [hkv] at e1
            rw [hlv] at e2
            have hdf : smallT x = (decide (x.g.length ≤ 4) && (decide (x.k.length ≤ 4) && decide (x.l.length ≤ 6))) := rfl
            rw [hdf] at hbad hnext
            have hba : Below wr.heap.size wr (wr.alloc (.cells #[.slice gp x.g.length gc, .slice kp x.k.length kc, .slice lp x.l.length lc] 81)) := (Below.refl _ _).alloc (Nat.le_refl _) _
            clear hcr hTn hgv hkv hlv hdf
            generalize x.g.length = g1 at *
            generalize x.k.length = g2 at *
            generalize x.l.length = g3 at *
            by_cases q1 : g1 ≤ 4
            rotate_left
            · have q1b : (4 : Int) < g1 := by omega
              have hf := hbad (by rw [decide_eq_false q1]; rfl)
              subst hf
              clear hbad hnext hRT q1
              go_wp2_with fail
              go_ret
              exact ⟨by simp, nextB hba hB⟩
            have q1b : ¬ (4 : Int) < g1 := by omega
            by_cases q2 : g2 ≤ 4
            rotate_left
            · have q2b : (4 : Int) < g2 := by omega
              have hf := hbad (by rw [decide_eq_false q2, Bool.and_comm]; rfl)
              subst hf
              clear hbad hnext hRT q1 q2
              go_wp2_with fail
              go_ret
              exact ⟨by simp, nextB hba hB⟩
            have q2b : ¬ (4 : Int) < g2 := by omega
            by_cases q3 : g3 ≤ 6
            rotate_left
            · have q3b : (6 : Int) < g3 := by omega
              have hf := hbad (by rw [decide_eq_false q3]; simp)
              subst hf
              clear hbad hnext hRT q1 q2 q3
              go_wp2_with fail
              go_ret
              exact ⟨by simp, nextB hba hB⟩
            have q3b : ¬ (6 : Int) < g3 := by omega
            have hx := And.intro True.intro (hnext (by rw [decide_eq_true q1, decide_eq_true q2, decide_eq_true q3]; rfl))
            clear hbad hnext q1 q2 q3
            go_wp2_with fail
            go_roundw
            case rel => exact ⟨k + 1, by omega, by simp, hx.2, nextB hba hB⟩
            case measure => simp [intOf]; omega
          · have hks : k = T.length := by omega
            have hlt2 : ¬ (k : Int) < T.length := by omega
            have hRt : RT = true := by rw [← show T.all smallT = RT from hRT]; rw [hks, List.take_length] at hall; exact hall
            subst hRt
            clear htc hRT hks
            go_wp2_with fail
            go_ret
            exact ⟨by simp, hB⟩
    · simp only [decide_eq_true a1, decide_eq_false a3, Bool.true_or, Bool.or_true, Bool.or_false, Bool.false_or, Bool.and_true, Bool.true_and, Bool.and_false, Bool.false_and, Bool.not_true, Bool.not_false]
      by_cases l1 : T.length ≤ 8
      rotate_left
      · rw [decide_eq_false l1]
        have l1b : (8 : Int) < T.length := by omega
        simp only [Bool.false_and, Bool.and_false]
        clear l1
        clear hRT htc htp htr
        go_enter Try.func8, Try.ntmps8
        go_wp2_with fail
        refine bodyPost_ret (v := .bool false) (by simp only [results, Try.results8]; go_simp) rfl ⟨rfl, ?_⟩
        (repeat (first | exact Below.refl _ _ | apply Below.drew | refine Below.alloc ?_ ?_ _ | refine Below.setCell ?_ ?_ _ | refine Below.trans ?_ (Below.mono (After.below _) ?_))); (all_goals (first | (simp; done) | (simp; omega) | omega))
      rw [decide_eq_true l1]
      have l1b : ¬ (8 : Int) < T.length := by omega
      clear l1
      by_cases l2 : ED.length ≤ 16
      rotate_left
      · rw [decide_eq_false l2]
        have l2b : (16 : Int) < ED.length := by omega
        simp only [Bool.false_and, Bool.and_false]
        clear l2
        clear hRT htc htp htr
        go_enter Try.func8, Try.ntmps8
        go_wp2_with fail
        refine bodyPost_ret (v := .bool false) (by simp only [results, Try.results8]; go_simp) rfl ⟨rfl, ?_⟩
        (repeat (first | exact Below.refl _ _ | apply Below.drew | refine Below.alloc ?_ ?_ _ | refine Below.setCell ?_ ?_ _ | refine Below.trans ?_ (Below.mono (After.below _) ?_))); (all_goals (first | (simp; done) | (simp; omega) | omega))
      rw [decide_eq_true l2]
      have l2b : ¬ (16 : Int) < ED.length := by omega
      clear l2
      by_cases l3 : EN.length ≤ 10
      rotate_left
      · rw [decide_eq_false l3]
        have l3b : (10 : Int) < EN.length := by omega
        simp only [Bool.false_and, Bool.and_false]
        clear l3
        clear hRT htc htp htr
        go_enter Try.func8, Try.ntmps8
        go_wp2_with fail
        refine bodyPost_ret (v := .bool false) (by simp only [results, Try.results8]; go_simp) rfl ⟨rfl, ?_⟩
        (repeat (first | exact Below.refl _ _ | apply Below.drew | refine Below.alloc ?_ ?_ _ | refine Below.setCell ?_ ?_ _ | refine Below.trans ?_ (Below.mono (After.below _) ?_))); (all_goals (first | (simp; done) | (simp; omega) | omega))
      rw [decide_eq_true l3]
      have l3b : ¬ (10 : Int) < EN.length := by omega
      clear l3
      by_cases l4 : INI.length ≤ 20
      rotate_left
      · rw [decide_eq_false l4]
        have l4b : (20 : Int) < INI.length := by omega
        simp only [Bool.false_and, Bool.and_false]
        clear l4
        clear hRT htc htp htr
        go_enter Try.func8, Try.ntmps8
        go_wp2_with fail
        refine bodyPost_ret (v := .bool false) (by simp only [results, Try.results8]; go_simp) rfl ⟨rfl, ?_⟩
        (repeat (first | exact Below.refl _ _ | apply Below.drew | refine Below.alloc ?_ ?_ _ | refine Below.setCell ?_ ?_ _ | refine Below.trans ?_ (Below.mono (After.below _) ?_))); (all_goals (first | (simp; done) | (simp; omega) | omega))
      rw [decide_eq_true l4]
      have l4b : ¬ (20 : Int) < INI.length := by omega
      clear l4
      simp only [Bool.true_and]
      go_enter Try.func8, Try.ntmps8
      go_wp2_with fail
      go_loopw [50] (fun i wr => ∃ k : Nat, k ≤ T.length ∧ i = .int .i64 k ∧ (T.take k).all smallT = true ∧ Below w.heap.size w wr) (fun i _ => T.length - (intOf i).toNat)
      case atStart => exact ⟨0, Nat.zero_le _, rfl, by simp, hb1⟩
      case round =>
        obtain ⟨k, hk, rfl, hall, hB⟩ := hrel
        have hw := hB.size
        by_cases hlt : k < T.length
        · obtain rfl := htp (by omega)
          have hlt2 : (k : Int) < T.length := by omega
          have hbad : smallT (T[k]'hlt) = false → RT = false := fun h => by rw [← show T.all smallT = RT from hRT]; exact all_bad hlt h
          have hnext : smallT (T[k]'hlt) = true → (T.take (k + 1)).all smallT = true := fun h => all_next hlt hall h
          have hcr : ∀ r u, ((T[k]'hlt).cs)[r]? = some u → wr.cell? ⟨tb, toff + k * 3 + r, none⟩ = some u := fun r u hu => by
            rw [Nat.add_assoc]
            exact nextC hB (htc k hlt r u hu)
          have hTn := htr _ (List.getElem_mem hlt)
          clear htc
          generalize T[k]'hlt = x at hcr hbad hnext hTn
          have e0 : wr.cell? ⟨tb, toff + k * 3, none⟩ = some x.gv := hcr 0 _ rfl
          have el := World.block_lt_of_cell? _ _ e0
          have e1 : wr.cell? ⟨tb, toff + k * 3 + 1, none⟩ = some x.kv := hcr 1 _ rfl
          have e2 : wr.cell? ⟨tb, toff + k * 3 + 2, none⟩ = some x.lv := hcr 2 _ rfl
          obtain ⟨gp, gc, hgv⟩ := sl_len hTn.g
          obtain ⟨kp, kc, hkv⟩ := sl_len hTn.k
          obtain ⟨lp, lc, hlv⟩ := sl_len hTn.l
          rw [hgv] at e0
          rw [hkv] at e1
          rw [hlv] at e2
          have hdf : smallT x = (decide (x.g.length ≤ 4) && (decide (x.k.length ≤ 4) && decide (x.l.length ≤ 6))) := rfl
          rw [hdf] at hbad hnext
          have hba : Below wr.heap.size wr (wr.alloc (.cells #[.slice gp x.g.length gc, .slice kp x.k.length kc, .slice lp x.l.length lc] 81)) := (Below.refl _ _).alloc (Nat.le_refl _) _
          clear hcr hTn hgv hkv hlv hdf
          generalize x.g.length = g1 at *
          generalize x.k.length = g2 at *
          generalize x.l.length = g3 at *
          by_cases q1 : g1 ≤ 4
          rotate_left
          · have q1b : (4 : Int) < g1 := by omega
            have hf := hbad (by rw [decide_eq_false q1]; rfl)
            subst hf
            clear hbad hnext hRT q1
            go_wp2_with fail
            go_ret
            exact ⟨by simp, nextB hba hB⟩
          have q1b : ¬ (4 : Int) < g1 := by omega
          by_cases q2 : g2 ≤ 4
          rotate_left
          · have q2b : (4 : Int) < g2 := by omega
            have hf := hbad (by rw [decide_eq_false q2, Bool.and_comm]; rfl)
            subst hf
            clear hbad hnext hRT q1 q2
            go_wp2_with fail
            go_ret
            exact ⟨by simp, nextB hba hB⟩
          have q2b : ¬ (4 : Int) < g2 := by omega
          by_cases q3 : g3 ≤ 6
          rotate_left
          · have q3b : (6 : Int) < g3 := by omega
            have hf := hbad (by rw [decide_eq_false q3]; simp)
            subst hf
            clear hbad hnext hRT q1 q2 q3
            go_wp2_with fail
            go_ret
            exact ⟨by simp, nextB hba hB⟩
          have q3b : ¬ (6 : Int) < g3 := by omega
          have hx := And.intro True.intro (hnext (by rw [decide_eq_true q1, decide_eq_true q2, decide_eq_true q3]; rfl))
          clear hbad hnext q1 q2 q3
          go_wp2_with fail
          go_roundw
          case rel => exact ⟨k + 1, by omega, by simp, hx.2, nextB hba hB⟩
          case measure => simp [intOf]; omega
        · have hks : k = T.length := by omega
          have hlt2 : ¬ (k : Int) < T.length := by omega
          have hRt : RT = true := by rw [← show T.all smallT = RT from hRT]; rw [hks, List.take_length] at hall; exact hall
          subst hRt
          clear htc hRT hks
          go_wp2_with fail
          go_ret
          exact ⟨by simp, hB⟩
  have a3 : nodes ≤ 256 := by omega
  by_cases a2 : 10 < width
  · by_cases a4 : width ≤ 1024
    · simp only [decide_eq_false a1, decide_eq_true a2, decide_eq_true a3, decide_eq_true a4, Bool.true_or, Bool.or_true, Bool.or_false, Bool.false_or, Bool.and_true, Bool.true_and, Bool.and_false, Bool.false_and, Bool.not_true, Bool.not_false]
      clear hRT htc htp htr
      go_enter Try.func8, Try.ntmps8
      go_wp2_with fail
      refine bodyPost_ret (v := .bool false) (by simp only [results, Try.results8]; go_simp) rfl ⟨rfl, ?_⟩
      (repeat (first | exact Below.refl _ _ | apply Below.drew | refine Below.alloc ?_ ?_ _ | refine Below.setCell ?_ ?_ _ | refine Below.trans ?_ (Below.mono (After.below _) ?_))); (all_goals (first | (simp; done) | (simp; omega) | omega))
    · simp only [decide_eq_false a1, decide_eq_true a2, decide_eq_true a3, decide_eq_false a4, Bool.true_or, Bool.or_true, Bool.or_false, Bool.false_or, Bool.and_true, Bool.true_and, Bool.and_false, Bool.false_and, Bool.not_true, Bool.not_false]
      by_cases l1 : T.length ≤ 8
      rotate_left
      · rw [decide_eq_false l1]
        have l1b : (8 : Int) < T.length := by omega
        simp only [Bool.false_and, Bool.and_false]
        clear l1
        clear hRT htc htp htr
        go_enter Try.func8, Try.ntmps8
        go_wp2_with fail
        refine bodyPost_ret (v := .bool false) (by simp only [results, Try.results8]; go_simp) rfl ⟨rfl, ?_⟩
        (repeat (first | exact Below.refl _ _ | apply Below.drew | refine Below.alloc ?_ ?_ _ | refine Below.setCell ?_ ?_ _ | refine Below.trans ?_ (Below.mono (After.below _) ?_))); (all_goals (first | (simp; done) | (simp; omega) | omega))
      rw [decide_eq_true l1]
      have l1b : ¬ (8 : Int) < T.length := by omega
      clear l1
      by_cases l2 : ED.length ≤ 16
      rotate_left
      · rw [decide_eq_false l2]
        have l2b : (16 : Int) < ED.length := by omega
        simp only [Bool.false_and, Bool.and_false]
        clear l2
        clear hRT htc htp htr
        go_enter Try.func8, Try.ntmps8
        go_wp2_with fail
        refine bodyPost_ret (v := .bool false) (by simp only [results, Try.results8]; go_simp) rfl ⟨rfl, ?_⟩
        (repeat (first | exact Below.refl _ _ | apply Below.drew | refine Below.alloc ?_ ?_ _ | refine Below.setCell ?_ ?_ _ | refine Below.trans ?_ (Below.mono (After.below _) ?_))); (all_goals (first | (simp; done) | (simp; omega) | omega))
      rw [decide_eq_true l2]
      have l2b : ¬ (16 : Int) < ED.length := by omega
      clear l2
      by_cases l3 : EN.length ≤ 10
      rotate_left
      · rw [decide_eq_false l3]
        have l3b : (10 : Int) < EN.length := by omega
        simp only [Bool.false_and, Bool.and_false]
        clear l3
        clear hRT htc htp htr
        go_enter Try.func8, Try.ntmps8
        go_wp2_with fail
        refine bodyPost_ret (v := .bool false) (by simp only [results, Try.results8]; go_simp) rfl ⟨rfl, ?_⟩
        (repeat (first | exact Below.refl _ _ | apply Below.drew | refine Below.alloc ?_ ?_ _ | refine Below.setCell ?_ ?_ _ | refine Below.trans ?_ (Below.mono (After.below _) ?_))); (all_goals (first | (simp; done) | (simp; omega) | omega))
      rw [decide_eq_true l3]
      have l3b : ¬ (10 : Int) < EN.length := by omega
      clear l3
      by_cases l4 : INI.length ≤ 20
      rotate_left
      · rw [decide_eq_false l4]
        have l4b : (20 : Int) < INI.length := by omega
        simp only [Bool.false_and, Bool.and_false]
        clear l4
        clear hRT htc htp htr
        go_enter Try.func8, Try.ntmps8
        go_wp2_with fail
        refine bodyPost_ret (v := .bool false) (by simp only [results, Try.results8]; go_simp) rfl ⟨rfl, ?_⟩
        (repeat (first | exact Below.refl _ _ | apply Below.drew | refine Below.alloc ?_ ?_ _ | refine Below.setCell ?_ ?_ _ | refine Below.trans ?_ (Below.mono (After.below _) ?_))); (all_goals (first | (simp; done) | (simp; omega) | omega))
      rw [decide_eq_true l4]
      have l4b : ¬ (20 : Int) < INI.length := by omega
      clear l4
      simp only [Bool.true_and]
      go_enter Try.func8, Try.ntmps8
      go_wp2_with fail
      go_loopw [50] (fun i wr => ∃ k : Nat, k ≤ T.length ∧ i = .int .i64 k ∧ (T.take k).all smallT = true ∧ Below w.heap.size w wr) (fun i _ => T.length - (intOf i).toNat)
      case atStart => exact ⟨0, Nat.zero_le _, rfl, by simp, hb1⟩
      case round =>
        obtain ⟨k, hk, rfl, hall, hB⟩ := hrel
        have hw := hB.size
        by_cases hlt : k < T.length
        · obtain rfl := htp (by omega)
          have hlt2 : (k : Int) < T.length := by omega
          have hbad : smallT (T[k]'hlt) = false → RT = false := fun h => by rw [← show T.all smallT = RT from hRT]; exact all_bad hlt h
          have hnext : smallT (T[k]'hlt) = true → (T.take (k + 1)).all smallT = true := fun h => all_next hlt hall h
          have hcr : ∀ r u, ((T[k]'hlt).cs)[r]? = some u → wr.cell? ⟨tb, toff + k * 3 + r, none⟩ = some u := fun r u hu => by
            rw [Nat.add_assoc]
            exact nextC hB (htc k hlt r u hu)
          have hTn := htr _ (List.getElem_mem hlt)
          clear htc
          generalize T[k]'hlt = x at hcr hbad hnext hTn
          have e0 : wr.cell? ⟨tb, toff + k * 3, none⟩ = some x.gv := hcr 0 _ rfl
          have el := World.block_lt_of_cell? _ _ e0
          have e1 : wr.cell? ⟨tb, toff + k * 3 + 1, none⟩ = some x.kv := hcr 1 _ rfl
          have e2 : wr.cell? ⟨tb, toff + k * 3 + 2, none⟩ = some x.lv := hcr 2 _ rfl
          obtain ⟨gp, gc, hgv⟩ := sl_len hTn.g
          obtain ⟨kp, kc, hkv⟩ := sl_len hTn.k
          obtain ⟨lp, lc, hlv⟩ := sl_len hTn.l
          rw [hgv] at e0
          rw [hkv] at e1
          rw [hlv] at e2
          have hdf : smallT x = (decide (x.g.length ≤ 4) && (decide (x.k.length ≤ 4) && decide (x.l.length ≤ 6))) := rfl
          rw [hdf] at hbad hnext
          have hba : Below wr.heap.size wr (wr.alloc (.cells #[.slice gp x.g.length gc, .slice kp x.k.length kc, .slice lp x.l.length lc] 81)) := (Below.refl _ _).alloc (Nat.le_refl _) _
          clear hcr hTn hgv hkv hlv hdf
          generalize x.g.length = g1 at *
          generalize x.k.length = g2 at *
          generalize x.l.length = g3 at *
          by_cases q1 : g1 ≤ 4
          rotate_left
          · have q1b : (4 : Int) < g1 := by omega
            have hf := hbad (by rw [decide_eq_false q1]; rfl)
            subst hf
            clear hbad hnext hRT q1
            go_wp2_with fail
            go_ret
            exact ⟨by simp, nextB hba hB⟩
          have q1b : ¬ (4 : Int) < g1 := by omega
          by_cases q2 : g2 ≤ 4
          rotate_left
          · have q2b : (4 : Int) < g2 := by omega
            have hf := hbad (by rw [decide_eq_false q2, Bool.and_comm]; rfl)
            subst hf
            clear hbad hnext hRT q1 q2
            go_wp2_with fail
            go_ret
            exact ⟨by simp, nextB hba hB⟩
          have q2b : ¬ (4 : Int) < g2 := by omega
          by_cases q3 : g3 ≤ 6
          rotate_left
          · have q3b : (6 : Int) < g3 := by omega
            have hf := hbad (by rw [decide_eq_false q3]; simp)
            subst hf
            clear hbad hnext hRT q1 q2 q3
            go_wp2_with fail
            go_ret
            exact ⟨by simp, nextB hba hB⟩
          have q3b : ¬ (6 : Int) < g3 := by omega
          have hx := And.intro True.intro (hnext (by rw [decide_eq_true q1, decide_eq_true q2, decide_eq_true q3]; rfl))
          clear hbad hnext q1 q2 q3
          go_wp2_with fail
          go_roundw
          case rel => exact ⟨k + 1, by omega, by simp, hx.2, nextB hba hB⟩
          case measure => simp [intOf]; omega
        · have hks : k = T.length := by omega
          have hlt2 : ¬ (k : Int) < T.length := by omega
          have hRt : RT = true := by rw [← show T.all smallT = RT from hRT]; rw [hks, List.take_length] at hall; exact hall
          subst hRt
          clear htc hRT hks
          go_wp2_with fail
          go_ret
          exact ⟨by simp, hB⟩
  simp only [decide_eq_false a1, decide_eq_false a2, Bool.true_or, Bool.or_true, Bool.or_false, Bool.false_or, Bool.and_true, Bool.true_and, Bool.and_false, Bool.false_and, Bool.not_true, Bool.not_false]
  by_cases l1 : T.length ≤ 8
  rotate_left
  · rw [decide_eq_false l1]
    have l1b : (8 : Int) < T.length := by omega
    simp only [Bool.false_and, Bool.and_false]
    clear l1
    clear hRT htc htp htr
    go_enter Try.func8, Try.ntmps8
    go_wp2_with fail
    refine bodyPost_ret (v := .bool false) (by simp only [results, Try.results8]; go_simp) rfl ⟨rfl, ?_⟩
    (repeat (first | exact Below.refl _ _ | apply Below.drew | refine Below.alloc ?_ ?_ _ | refine Below.setCell ?_ ?_ _ | refine Below.trans ?_ (Below.mono (After.below _) ?_))); (all_goals (first | (simp; done) | (simp; omega) | omega))
  rw [decide_eq_true l1]
  have l1b : ¬ (8 : Int) < T.length := by omega
  clear l1
  by_cases l2 : ED.length ≤ 16
  rotate_left
  · rw [decide_eq_false l2]
    have l2b : (16 : Int) < ED.length := by omega
    simp only [Bool.false_and, Bool.and_false]
    clear l2
    clear hRT htc htp htr
    go_enter Try.func8, Try.ntmps8
    go_wp2_with fail
    refine bodyPost_ret (v := .bool false) (by simp only [results, Try.results8]; go_simp) rfl ⟨rfl, ?_⟩
    (repeat (first | exact Below.refl _ _ | apply Below.drew | refine Below.alloc ?_ ?_ _ | refine Below.setCell ?_ ?_ _ | refine Below.trans ?_ (Below.mono (After.below _) ?_))); (all_goals (first | (simp; done) | (simp; omega) | omega))
  rw [decide_eq_true l2]
  have l2b : ¬ (16 : Int) < ED.length := by omega
  clear l2
  by_cases l3 : EN.length ≤ 10
  rotate_left
  · rw [decide_eq_false l3]
    have l3b : (10 : Int) < EN.length := by omega
    simp only [Bool.false_and, Bool.and_false]
    clear l3
    clear hRT htc htp htr
    go_enter Try.func8, Try.ntmps8
    go_wp2_with fail
    refine bodyPost_ret (v := .bool false) (by simp only [results, Try.results8]; go_simp) rfl ⟨rfl, ?_⟩
    (repeat (first | exact Below.refl _ _ | apply Below.drew | refine Below.alloc ?_ ?_ _ | refine Below.setCell ?_ ?_ _ | refine Below.trans ?_ (Below.mono (After.below _) ?_))); (all_goals (first | (simp; done) | (simp; omega) | omega))
  rw [decide_eq_true l3]
  have l3b : ¬ (10 : Int) < EN.length := by omega
  clear l3
  by_cases l4 : INI.length ≤ 20
  rotate_left
  · rw [decide_eq_false l4]
    have l4b : (20 : Int) < INI.length := by omega
    simp only [Bool.false_and, Bool.and_false]
    clear l4
    clear hRT htc htp htr
    go_enter Try.func8, Try.ntmps8
    go_wp2_with fail
    refine bodyPost_ret (v := .bool false) (by simp only [results, Try.results8]; go_simp) rfl ⟨rfl, ?_⟩
    (repeat (first | exact Below.refl _ _ | apply Below.drew | refine Below.alloc ?_ ?_ _ | refine Below.setCell ?_ ?_ _ | refine Below.trans ?_ (Below.mono (After.below _) ?_))); (all_goals (first | (simp; done) | (simp; omega) | omega))
  rw [decide_eq_true l4]
  have l4b : ¬ (20 : Int) < INI.length := by omega
  clear l4
  simp only [Bool.true_and]
  go_enter Try.func8, Try.ntmps8
  go_wp2_with fail
  go_loopw [50] (fun i wr => ∃ k : Nat, k ≤ T.length ∧ i = .int .i64 k ∧ (T.take k).all smallT = true ∧ Below w.heap.size w wr) (fun i _ => T.length - (intOf i).toNat)
  case atStart => exact ⟨0, Nat.zero_le _, rfl, by simp, hb1⟩
  case round =>
    obtain ⟨k, hk, rfl, hall, hB⟩ := hrel
    have hw := hB.size
    by_cases hlt : k < T.length
    · obtain rfl := htp (by omega)
      have hlt2 : (k : Int) < T.length := by omega
      have hbad : smallT (T[k]'hlt) = false → RT = false := fun h => by rw [← show T.all smallT = RT from hRT]; exact all_bad hlt h
      have hnext : smallT (T[k]'hlt) = true → (T.take (k + 1)).all smallT = true := fun h => all_next hlt hall h
      have hcr : ∀ r u, ((T[k]'hlt).cs)[r]? = some u → wr.cell? ⟨tb, toff + k * 3 + r, none⟩ = some u := fun r u hu => by
        rw [Nat.add_assoc]
        exact nextC hB (htc k hlt r u hu)
      have hTn := htr _ (List.getElem_mem hlt)
      clear htc
      generalize T[k]'hlt = x at hcr hbad hnext hTn
      have e0 : wr.cell? ⟨tb, toff + k * 3, none⟩ = some x.gv := hcr 0 _ rfl
      have el := World.block_lt_of_cell? _ _ e0
      have e1 : wr.cell? ⟨tb, toff + k * 3 + 1, none⟩ = some x.kv := hcr 1 _ rfl
      have e2 : wr.cell? ⟨tb, toff + k * 3 + 2, none⟩ = some x.lv := hcr 2 _ rfl
      obtain ⟨gp, gc, hgv⟩ := sl_len hTn.g
      obtain ⟨kp, kc, hkv⟩ := sl_len hTn.k
      obtain ⟨lp, lc, hlv⟩ := sl_len hTn.l
      rw [hgv] at e0
      rw [hkv] at e1
      rw [hlv] at e2
      have hdf : smallT x = (decide (x.g.length ≤ 4) && (decide (x.k.length ≤ 4) && decide (x.l.length ≤ 6))) := rfl
      rw [hdf] at hbad hnext
      have hba : Below wr.heap.size wr (wr.alloc (.cells #[.slice gp x.g.length gc, .slice kp x.k.length kc, .slice lp x.l.length lc] 81)) := (Below.refl _ _).alloc (Nat.le_refl _) _
      clear hcr hTn hgv hkv hlv hdf
      generalize x.g.length = g1 at *
      generalize x.k.length = g2 at *
      generalize x.l.length = g3 at *
      by_cases q1 : g1 ≤ 4
      rotate_left
      · have q1b : (4 : Int) < g1 := by omega
        have hf := hbad (by rw [decide_eq_false q1]; rfl)
        subst hf
        clear hbad hnext hRT q1
        go_wp2_with fail
        go_ret
        exact ⟨by simp, nextB hba hB⟩
      have q1b : ¬ (4 : Int) < g1 := by omega
      by_cases q2 : g2 ≤ 4
      rotate_left
      · have q2b : (4 : Int) < g2 := by omega
        have hf := hbad (by rw [decide_eq_false q2, Bool.and_comm]; rfl)
        subst hf
        clear hbad hnext hRT q1 q2
        go_wp2_with fail
        go_ret
        exact ⟨by simp, nextB hba hB⟩
      have q2b : ¬ (4 : Int) < g2 := by omega
      by_cases q3 : g3 ≤ 6
      rotate_left
      · have q3b : (6 : Int) < g3 := by omega
        have hf := hbad (by rw [decide_eq_false q3]; simp)
        subst hf
        clear hbad hnext hRT q1 q2 q3
        go_wp2_with fail
        go_ret
        exact ⟨by simp, nextB hba hB⟩
      have q3b : ¬ (6 : Int) < g3 := by omega
      have hx := And.intro True.intro (hnext (by rw [decide_eq_true q1, decide_eq_true q2, decide_eq_true q3]; rfl))
      clear hbad hnext q1 q2 q3
      go_wp2_with fail
      go_roundw
      case rel => exact ⟨k + 1, by omega, by simp, hx.2, nextB hba hB⟩
      case measure => simp [intOf]; omega
    · have hks : k = T.length := by omega
      have hlt2 : ¬ (k : Int) < T.length := by omega
      have hRt : RT = true := by rw [← show T.all smallT = RT from hRT]; rw [hks, List.take_length] at hall; exact hall
      subst hRt
      clear htc hRT hks
      go_wp2_with fail
      go_ret
      exact ⟨by simp, hB⟩


end Go.Proofs.Ytjjmoibnmdbpeaa.Pr

namespace Go.Proofs.Ytjjmoibnmdbpeaa.Pr
set_option linter.unusedVariables false
set_option linter.unusedSimpArgs false
open Go Go.ChangeShapes Go.WideShapes Go.ChangeAt Go.RowKit Go.Joins

instance : Inhabited Ed := ⟨⟨0, 0⟩⟩
instance : Inhabited Cd := ⟨⟨0, 0, ⟨0, 0, 0⟩, ⟨0, 0, 0⟩⟩⟩
instance : Inhabited Tn := ⟨⟨[], [], [], .int .i64 0, .int .i64 0, .int .i64 0⟩⟩

section
variable {H : Type} {enc : TypeId × Value → H} {W : World} {base : Nat} {v : Value} {d : DataW H} {p : List MemPlace}

theorem cells_W {n : Nat} {cs : List Value} {y : DataW H × List MemPlace} (h : DataW.trod enc Try.prog W 0 (fun _ => true) true n 78 cs = some y) : ∃ x : Nat, cs = Ws.encW x ∧ x < 2 ^ 64 := by
  obtain ⟨q, e0, _, hwf⟩ := DataW.trod_int Try.underlying78 h
  have hb : 0 ≤ q ∧ q ≤ 18446744073709551615 := by simpa [Lit.wf, IntKind.min, IntKind.max, IntKind.signed, IntKind.bits] using hwf
  refine ⟨q.toNat, ?_, by omega⟩
  rw [e0, Ws.encW, Int.toNat_of_nonneg hb.1]

theorem cells_I {n : Nat} {cs : List Value} {y : DataW H × List MemPlace} (h : DataW.trod enc Try.prog W 0 (fun _ => true) true n 3 cs = some y) : ∃ x : Int, cs = Ws.encI x ∧ True := by
  obtain ⟨a, e, _, _⟩ := DataW.trod_int Try.underlying3 h
  exact ⟨a, e, trivial⟩

theorem cells_Ed {n : Nat} {cs : List Value} {y : DataW H × List MemPlace} (h : DataW.trod enc Try.prog W 0 (fun _ => true) true n 148 cs = some y) : ∃ x : Ed, cs = x.cs ∧ True := by
  obtain ⟨y0, y1, m, rfl, hl, h0, h1⟩ := trod_struct2 Try.underlying148 h
  obtain ⟨a, e0, _, _⟩ := DataW.trod_int Try.underlying3 h0
  obtain ⟨b, e1, _, _⟩ := DataW.trod_int Try.underlying3 h1
  have k : Try.prog.cellsOf 148 = 2 := by kernel_rfl
  have k1 : Try.prog.cellsOf 3 = 1 := by kernel_rfl
  rw [k] at hl
  obtain ⟨c0, c1, rfl⟩ := list2 hl
  simp only [k1] at e0 e1
  simp at e0 e1
  subst e0 e1
  exact ⟨⟨a, b⟩, rfl, trivial⟩

theorem cells_Rf {n : Nat} {cs : List Value} {y : DataW H × List MemPlace} (h : DataW.trod enc Try.prog W 0 (fun _ => true) true n 152 cs = some y) : ∃ x : Rf, cs = [.int .i64 x.v, .int .i64 x.a, .int .i64 x.b] := by
  obtain ⟨y0, y1, m, rfl, hl, h0, h1⟩ := trod_struct2 Try.underlying152 h
  obtain ⟨v, e0, _, _⟩ := DataW.trod_int Try.underlying3 h0
  obtain ⟨a, b, e1⟩ := cells_num h1
  have k : Try.prog.cellsOf 152 = 3 := by kernel_rfl
  have k1 : Try.prog.cellsOf 3 = 1 := by kernel_rfl
  have k2 : Try.prog.cellsOf 69 = 2 := by kernel_rfl
  rw [k] at hl
  obtain ⟨c0, c1, c2, rfl⟩ := list3 hl
  simp only [k1, k2] at e0 e1
  simp at e0 e1
  obtain ⟨e1, e2⟩ := e1
  subst e0 e1 e2
  exact ⟨⟨v, a, b⟩, rfl⟩

theorem cells_Cd {n : Nat} {cs : List Value} {y : DataW H × List MemPlace} (h : DataW.trod enc Try.prog W 0 (fun _ => true) true n 154 cs = some y) : ∃ x : Cd, cs = x.cs ∧ True := by
  obtain ⟨y0, y1, y2, y3, m, rfl, hl, h0, h1, h2, h3⟩ := trod_struct4 Try.underlying154 h
  obtain ⟨v, e0, _, _⟩ := DataW.trod_int Try.underlying3 h0
  obtain ⟨o, e1, _, _⟩ := DataW.trod_int Try.underlying3 h1
  obtain ⟨a, e2⟩ := cells_Rf h2
  obtain ⟨b, e3⟩ := cells_Rf h3
  have k : Try.prog.cellsOf 154 = 8 := by kernel_rfl
  have k1 : Try.prog.cellsOf 3 = 1 := by kernel_rfl
  have k2 : Try.prog.cellsOf 152 = 3 := by kernel_rfl
  rw [k] at hl
  obtain ⟨c0, c1, c2, c3, c4, c5, c6, c7, rfl⟩ := list8 hl
  simp only [k1, k2] at e0 e1 e2 e3
  simp at e0 e1 e2 e3
  obtain ⟨e2, e4, e5⟩ := e2
  obtain ⟨e3, e6, e7⟩ := e3
  subst e0 e1 e2 e3 e4 e5 e6 e7
  exact ⟨⟨v, o, a, b⟩, rfl, trivial⟩

theorem cells_Tn {n : Nat} {cs : List Value} {y : DataW H × List MemPlace} (h : DataW.trod enc Try.prog W 0 (fun _ => true) true n 81 cs = some y) : ∃ t : Tn, cs = t.cs ∧ TnRd W t := by
  obtain ⟨y0, y1, y2, m, rfl, hl, h0, h1, h2⟩ := Go.Deep.trod_struct3 Try.underlying81 h
  obtain ⟨G, ⟨gv, e0, hG⟩, hgo⟩ := slice_T (ec := Ws.encW) (k := 1) Try.underlying24 (by kernel_rfl) (fun _ => rfl) (by decide) (fun x => x < 2 ^ 64) (fun n cs' y' h => cells_W h) h0
  obtain ⟨K, ⟨kv, e1, hK⟩, hko⟩ := slice_T (ec := Ws.encW) (k := 1) Try.underlying24 (by kernel_rfl) (fun _ => rfl) (by decide) (fun x => x < 2 ^ 64) (fun n cs' y' h => cells_W h) h1
  obtain ⟨L, ⟨lv, e2, hL⟩, _⟩ := slice_T (ec := Cd.cs) (k := 8) (α := Cd) Try.underlying79 (by kernel_rfl) Cd.cs_len (by decide) (fun _ => True) (fun n cs' y' h => cells_Cd h) h2
  have k0 : Try.prog.cellsOf 81 = 3 := by kernel_rfl
  have k1 : Try.prog.cellsOf 24 = 1 := by kernel_rfl
  have k2 : Try.prog.cellsOf 79 = 1 := by kernel_rfl
  rw [k0] at hl
  obtain ⟨c0, c1, c2, rfl⟩ := list3 hl
  simp only [k1, k2] at e0 e1 e2
  simp at e0 e1 e2
  subst e0 e1 e2
  exact ⟨⟨G, K, L, _, _, _⟩, rfl, ⟨hG, hK, hL, hgo, hko⟩⟩

set_option maxRecDepth 100000 in
theorem open_sys (hv : Value.okWide Try.prog W .any base 27 v) (h : DataW.Trod enc Try.prog W 0 (fun _ => true) true 27 v d p) :
    ∃ s : Sys, v = .agg #[.int .i64 s.what, .int .i64 s.width, .int .i64 s.nodes, s.edv, s.env, s.inv, s.tv] ∧ SysRd W s := by
  obtain ⟨cs, rfl, hsz⟩ := okWide_struct Try.underlying27 hv
  obtain ⟨fuel, hf⟩ := h
  obtain ⟨xs, n, _, _, hl, hlen, hf⟩ := DataW.trod_struct Try.underlying27 hf
  have kI : Try.prog.cellsOf 3 = 1 := by kernel_rfl
  have k0 : Try.prog.cellsOf 27 = 7 := by kernel_rfl
  have k3 : Try.prog.cellsOf 22 = 1 := by kernel_rfl
  have k4 : Try.prog.cellsOf 23 = 1 := by kernel_rfl
  have k5 : Try.prog.cellsOf 24 = 1 := by kernel_rfl
  have k6 : Try.prog.cellsOf 25 = 1 := by kernel_rfl
  rw [k0] at hl
  match xs, hlen with
  | [y0, y1, y2, y3, y4, y5, y6], _ =>
    obtain ⟨a0, e0, _, _⟩ := DataW.trod_int Try.underlying3 (hf 0 _ rfl)
    obtain ⟨a1, e1, _, _⟩ := DataW.trod_int Try.underlying3 (hf 1 _ rfl)
    obtain ⟨a2, e2, _, _⟩ := DataW.trod_int Try.underlying3 (hf 2 _ rfl)
    obtain ⟨ED, ⟨edv, e3, hED⟩, _⟩ := slice_T (ec := Ed.cs) (k := 2) (α := Ed) Try.underlying22 (by kernel_rfl) Ed.cs_len (by decide) (fun _ => True) (fun n cs' y' h => cells_Ed h) (hf 3 _ rfl)
    obtain ⟨EN, ⟨env, e4, hEN⟩, _⟩ := slice_T (ec := Ws.encI) (k := 1) Try.underlying23 (by kernel_rfl) (fun _ => rfl) (by decide) (fun _ => True) (fun n cs' y' h => cells_I h) (hf 4 _ rfl)
    obtain ⟨IN, ⟨inv, e5, hIN⟩, hio⟩ := slice_T (ec := Ws.encW) (k := 1) Try.underlying24 (by kernel_rfl) (fun _ => rfl) (by decide) (fun x => x < 2 ^ 64) (fun n cs' y' h => cells_W h) (hf 5 _ rfl)
    obtain ⟨T, ⟨tv, e6, hT⟩, htr⟩ := slice_T (ec := Tn.cs) (k := 3) (α := Tn) Try.underlying25 (by kernel_rfl) Tn.cs_len (by decide) (fun t => TnRd W t) (fun n cs' y' h => cells_Tn h) (hf 6 _ rfl)
    simp only [Value.cells] at hl e0 e1 e2 e3 e4 e5 e6
    obtain ⟨l⟩ := cs
    obtain ⟨c0, c1, c2, c3, c4, c5, c6, rfl⟩ := list7 (cs := l) hl
    simp at e0 e1 e2 e3 e4 e5 e6
    simp only [kI, k3, k4, k5, k6] at e0 e1 e2 e3 e4 e5 e6
    simp at e0 e1 e2 e3 e4 e5 e6
    subst e0 e1 e2 e3 e4 e5 e6
    exact ⟨⟨a0, a1, a2, ED, EN, IN, T, _, _, _, _⟩, rfl, ⟨hED, hEN, hIN, hT, htr, hio⟩⟩
end

end Go.Proofs.Ytjjmoibnmdbpeaa.Pr

namespace Go.Proofs.Ytjjmoibnmdbpeaa.Pr
set_option linter.unusedVariables false
set_option linter.unusedSimpArgs false
open Go Go.RowKit

theorem droom_any (x : Int) (h0 : 1 ≤ x) (h1 : x ≤ 4096) (w : World) : Calls Try.prog 75 #[.int .i64 x] w fun e w' => e = .returned (.int .i64 x) ∧ w = w' := by
  go_enter Try.func75, Try.ntmps75
  go_wp2_with fail
  go_ret
  refine ⟨?_, rfl⟩
  rw [show min (max x 1) 4096 = x by omega]
  rfl

theorem dwords_any (x : Int) (h0 : 1 ≤ x) (h1 : x ≤ 4096) (w : World) : Calls Try.prog 37 #[.int .i64 x] w fun e w' => e = .returned (.int .i64 (2 + x)) ∧ w = w' := by
  go_enter Try.func37, Try.ntmps37
  go_wp2_with (go_at_call 75; refine Calls.same (droom_any x h0 h1 _) ?_)
  go_ret
  exact ⟨rfl, rfl⟩

theorem room27_any (x : Int) (h0 : 1 ≤ x) (h1 : x ≤ 4096) (w : World) : Calls Try.prog 38 #[.int .i64 x] w fun e w' => e = .returned (.int .i64 x) ∧ w = w' := by
  go_enter Try.func38, Try.ntmps38
  go_wp2_with fail
  go_ret
  refine ⟨?_, rfl⟩
  rw [show min (max x 1) 4096 = x by omega]
  rfl

def dq (n nodes w : Int) : Int := nodes * n + nodes + 1 + w * (2 + (nodes + 1))

theorem flags_any (what n nodes k : Int) (h0 : 0 ≤ nodes * n) (h1 : nodes * n ≤ 1000000) (w : World) :
    Calls Try.prog 35 #[.agg #[.int .i64 what, .int .i64 n, .int .i64 nodes, .int .i64 k]] w fun e w' => e = .returned (.int .i64 (nodes * n)) ∧ Below w.heap.size w w' := by
  go_enter Try.func35, Try.ntmps35
  go_wp2_with fail
  go_ret
  exact ⟨rfl, (Below.refl _ _).alloc (Nat.le_refl _) _⟩

theorem lroom_any (what n nodes k : Int) (h0 : 0 ≤ nodes) (h1 : nodes ≤ 1000) (w : World) :
    Calls Try.prog 16 #[.agg #[.int .i64 what, .int .i64 n, .int .i64 nodes, .int .i64 k]] w fun e w' => e = .returned (.int .i64 (nodes + 1)) ∧ Below w.heap.size w w' := by
  go_enter Try.func16, Try.ntmps16
  go_wp2_with fail
  go_ret
  exact ⟨rfl, (Below.refl _ _).alloc (Nat.le_refl _) _⟩

theorem cell_any (what n nodes k v : Int) (h0 : 0 ≤ v * n) (h1 : v * n ≤ 1000000) (w : World) :
    Calls Try.prog 11 #[.agg #[.int .i64 what, .int .i64 n, .int .i64 nodes, .int .i64 k], .int .i64 v] w fun e w' => e = .returned (.agg #[.int .i64 (v * n), .int .i64 what, .int .i64 n]) ∧ Below w.heap.size w w' := by
  go_enter Try.func11, Try.ntmps11
  go_wp2_with fail
  refine bodyPost_ret (v := .agg #[.int .i64 (v * n), .int .i64 what, .int .i64 n]) (by simp only [results, Try.results11]; go_simp) rfl ⟨rfl, ?_⟩
  (repeat (first | exact Below.refl _ _ | apply Below.drew | refine Below.alloc ?_ ?_ _ | refine Below.setCell ?_ ?_ _ | refine Below.trans ?_ (Below.mono (After.below _) ?_))); (all_goals (first | (simp; done) | (simp; omega) | omega))

theorem count_any (what n nodes k : Int) (h0 : 0 ≤ nodes * n) (h1 : nodes * n ≤ 1000000) (g0 : 0 ≤ nodes) (g1 : nodes ≤ 1000) (w : World) :
    Calls Try.prog 36 #[.agg #[.int .i64 what, .int .i64 n, .int .i64 nodes, .int .i64 k]] w fun e w' => e = .returned (.int .i64 (nodes * n + nodes)) ∧ Below w.heap.size w w' := by
  have f0 := fun W => flags_any what n nodes k h0 h1 W
  go_enter Try.func36, Try.ntmps36
  go_wp2_with fail
  refine' region_whole _ _ (by kernel_rfl) (by kernel_rfl) _; rotate_left 2; (first | (with_reducible exact After.below _; rfl) | (with_reducible exact below_drew (After.below _); rfl) | (with_reducible exact below_set (After.below _) _ _; (go_simp; rfl)) | (with_reducible exact below_set (below_set (After.below _) _ _) _ _; (go_simp; rfl)) | (with_reducible exact below_set (below_set (below_set (After.below _) _ _) _ _) _ _; (go_simp; rfl)) | (with_reducible exact below_set (below_set (below_set (below_set (After.below _) _ _) _ _) _ _) _ _; (go_simp; rfl)) | (exact Below.refl _ _; rfl)); (repeat (go_big_quiet_step (first | (go_at_call 35; exact Calls.after_of (f0 _))))); refine wpQuiet_nil ?_; intro z
  go_wp2_with fail
  go_ret
  refine ⟨rfl, ?_⟩
  have hx := z.le
  simp at hx
  (repeat (first | exact Below.refl _ _ | apply Below.drew | refine Below.alloc ?_ ?_ _ | refine Below.setCell ?_ ?_ _ | refine Below.trans ?_ (Below.mono (After.below _) ?_))); (all_goals (first | (simp; done) | (simp; omega) | omega))

theorem board_any (what n nodes k : Int) (h0 : 0 ≤ nodes * n) (h1 : nodes * n ≤ 1000000) (g0 : 0 ≤ nodes) (g1 : nodes ≤ 1000) (w : World) :
    Calls Try.prog 12 #[.agg #[.int .i64 what, .int .i64 n, .int .i64 nodes, .int .i64 k]] w fun e w' => e = .returned (.agg #[.int .i64 (nodes * n), .int .i64 (nodes * n + nodes)]) ∧ Below w.heap.size w w' := by
  have f0 := fun W => flags_any what n nodes k h0 h1 W
  have f1 := fun W => count_any what n nodes k h0 h1 g0 g1 W
  go_enter Try.func12, Try.ntmps12
  go_wp2_with fail
  refine' region_tail 5 _ _ (by kernel_rfl) (by kernel_rfl) _; rotate_left 2; (first | (with_reducible exact After.below _; rfl) | (with_reducible exact below_drew (After.below _); rfl) | (with_reducible exact below_set (After.below _) _ _; (go_simp; rfl)) | (with_reducible exact below_set (below_set (After.below _) _ _) _ _; (go_simp; rfl)) | (with_reducible exact below_set (below_set (below_set (After.below _) _ _) _ _) _ _; (go_simp; rfl)) | (with_reducible exact below_set (below_set (below_set (below_set (After.below _) _ _) _ _) _ _) _ _; (go_simp; rfl)) | (exact Below.refl _ _; rfl)); simp only [List.take_succ_cons, List.take_zero, List.drop_succ_cons, List.drop_zero]; (repeat (go_big_quiet_step (first | (go_at_call 35; exact Calls.after_of (f0 _)) | (go_at_call 36; exact Calls.after_of (f1 _))))); refine wpQuiet_nil ?_; intro z
  go_wp2_with fail
  refine bodyPost_ret (v := .agg #[.int .i64 (nodes * n), .int .i64 (nodes * n + nodes)]) (by simp only [results, Try.results12]; go_simp) rfl ⟨rfl, ?_⟩
  have hx := z.le
  simp at hx
  (repeat (first | exact Below.refl _ _ | apply Below.drew | refine Below.alloc ?_ ?_ _ | refine Below.setCell ?_ ?_ _ | refine Below.trans ?_ (Below.mono (After.below _) ?_))); (all_goals (first | (simp; done) | (simp; omega) | omega))

set_option maxRecDepth 100000 in
theorem ldeque_any (what n nodes k v : Int) (h0 : 0 ≤ nodes * n) (h1 : nodes * n ≤ 1000000) (g0 : 0 ≤ nodes) (g1 : nodes ≤ 1000) (e0 : 0 ≤ v * (2 + (nodes + 1))) (e1 : v * (2 + (nodes + 1)) ≤ 1000000) (w : World) :
    Calls Try.prog 13 #[.agg #[.int .i64 what, .int .i64 n, .int .i64 nodes, .int .i64 k], .int .i64 v] w fun e w' => e = .returned (.agg #[.int .i64 (dq n nodes v), .int .i64 (nodes + 1)]) ∧ Below w.heap.size w w' := by
  have f0 := fun W => lroom_any what n nodes k g0 g1 W
  have f1 := fun W => count_any what n nodes k h0 h1 g0 g1 W
  have f2 := fun W => dwords_any (nodes + 1) (by omega) (by omega) W
  unfold dq
  go_enter Try.func13, Try.ntmps13
  go_wp2_with fail
  refine' region_tail 12 _ _ (by kernel_rfl) (by kernel_rfl) _; rotate_left 2; (first | (with_reducible exact After.below _; rfl) | (with_reducible exact below_drew (After.below _); rfl) | (with_reducible exact below_set (After.below _) _ _; (go_simp; rfl)) | (with_reducible exact below_set (below_set (After.below _) _ _) _ _; (go_simp; rfl)) | (with_reducible exact below_set (below_set (below_set (After.below _) _ _) _ _) _ _; (go_simp; rfl)) | (with_reducible exact below_set (below_set (below_set (below_set (After.below _) _ _) _ _) _ _) _ _; (go_simp; rfl)) | (exact Below.refl _ _; rfl)); simp only [List.take_succ_cons, List.take_zero, List.drop_succ_cons, List.drop_zero]; (repeat (go_big_quiet_step (first | (go_at_call 16; exact Calls.after_of (f0 _)) | (go_at_call 36; exact Calls.after_of (f1 _)) | (go_at_call 37; exact Calls.after_of (Calls.behind (f2 _)))))); refine wpQuiet_nil ?_; intro z
  go_wp2_with fail
  refine bodyPost_ret (v := .agg #[.int .i64 (nodes * n + nodes + 1 + v * (2 + (nodes + 1))), .int .i64 (nodes + 1)]) (by simp only [results, Try.results13]; go_simp) rfl ⟨rfl, ?_⟩
  have hx := z.le
  simp at hx
  (repeat (first | exact Below.refl _ _ | apply Below.drew | refine Below.alloc ?_ ?_ _ | refine Below.setCell ?_ ?_ _ | refine Below.trans ?_ (Below.mono (After.below _) ?_))); (all_goals (first | (simp; done) | (simp; omega) | omega))

theorem rdeque_any (what n nodes k v : Int) (h0 : 0 ≤ nodes * n) (h1 : nodes * n ≤ 1000000) (g0 : 0 ≤ nodes) (g1 : nodes ≤ 1000) (e0 : 0 ≤ v * (2 + (nodes + 1))) (e1 : v * (2 + (nodes + 1)) ≤ 1000000) (w : World) :
    Calls Try.prog 17 #[.agg #[.int .i64 what, .int .i64 n, .int .i64 nodes, .int .i64 k], .int .i64 v] w fun e w' => e = .returned (.int .i64 (dq n nodes v)) ∧ Below w.heap.size w w' := by
  have f2 := fun W => room27_any (nodes + 1) (by omega) (by omega) W
  unfold dq
  go_enter Try.func17, Try.ntmps17
  go_wp2_with fail
  refine' region_whole _ _ (by kernel_rfl) (by kernel_rfl) _; rotate_left 2; (first | (with_reducible exact After.below _; rfl) | (with_reducible exact below_drew (After.below _); rfl) | (with_reducible exact below_set (After.below _) _ _; (go_simp; rfl)) | (with_reducible exact below_set (below_set (After.below _) _ _) _ _; (go_simp; rfl)) | (with_reducible exact below_set (below_set (below_set (After.below _) _ _) _ _) _ _; (go_simp; rfl)) | (with_reducible exact below_set (below_set (below_set (below_set (After.below _) _ _) _ _) _ _) _ _; (go_simp; rfl)) | (exact Below.refl _ _; rfl)); (repeat (go_big_quiet_step (first | (go_at_call 38; exact Calls.after_of (Calls.behind (f2 _)))))); refine wpQuiet_nil ?_; intro z
  go_wp2_with fail
  refine bodyPost_ret (v := .int .i64 (nodes * n + nodes + 1 + v * (2 + (nodes + 1)))) (by simp only [results, Try.results17]; go_simp) rfl ⟨rfl, ?_⟩
  have hx := z.le
  simp at hx
  (repeat (first | exact Below.refl _ _ | apply Below.drew | refine Below.alloc ?_ ?_ _ | refine Below.setCell ?_ ?_ _ | refine Below.trans ?_ (Below.mono (After.below _) ?_))); (all_goals (first | (simp; done) | (simp; omega) | omega))

theorem lsize_any (what n nodes v : Int) (h0 : 0 ≤ nodes * n) (h1 : nodes * n ≤ 1000000) (g0 : 0 ≤ nodes) (g1 : nodes ≤ 1000) (e0 : 0 ≤ v * (2 + (nodes + 1))) (e1 : v * (2 + (nodes + 1)) ≤ 1000000) (w : World) :
    Calls Try.prog 14 #[.agg #[.int .i64 what, .int .i64 n, .int .i64 nodes, .int .i64 v]] w fun e w' => e = .returned (.int .i64 (dq n nodes v)) ∧ Below w.heap.size w w' := by
  have f0 := fun W => ldeque_any what n nodes v v h0 h1 g0 g1 e0 e1 W
  have hf : ∀ (a b : Int) (W : World), (Instr.field 45 (.agg #[.int .i64 a, .int .i64 b]) 0).run Try.prog W = .ok (.int .i64 a) W := fun a b W => by kernel_rfl
  go_enter Try.func14, Try.ntmps14
  go_wp2_with (go_at_call 13; refine' Calls.aft _ _ (f0 _) _; rotate_left 2; (first | (with_reducible exact After.below _; rfl) | (with_reducible exact below_drew (After.below _); rfl) | (with_reducible exact below_set (After.below _) _ _; (go_simp; rfl)) | (with_reducible exact below_set (below_set (After.below _) _ _) _ _; (go_simp; rfl)) | (with_reducible exact below_set (below_set (below_set (After.below _) _ _) _ _) _ _; (go_simp; rfl)) | (with_reducible exact below_set (below_set (below_set (below_set (After.below _) _ _) _ _) _ _) _ _; (go_simp; rfl)) | (exact Below.refl _ _; rfl)); intro x1; have hle := After.le x1; (try simp at hle))
  go_ret
  refine ⟨rfl, ?_⟩
  (repeat (first | exact Below.refl _ _ | apply Below.drew | refine Below.alloc ?_ ?_ _ | refine Below.setCell ?_ ?_ _ | refine Below.trans ?_ (Below.mono (After.below _) ?_))); (all_goals (first | (simp; done) | (simp; omega) | omega))

theorem rsize_any (what n nodes v : Int) (h0 : 0 ≤ nodes * n) (h1 : nodes * n ≤ 1000000) (g0 : 0 ≤ nodes) (g1 : nodes ≤ 1000) (e0 : 0 ≤ v * (2 + (nodes + 1))) (e1 : v * (2 + (nodes + 1)) ≤ 1000000) (w : World) :
    Calls Try.prog 15 #[.agg #[.int .i64 what, .int .i64 n, .int .i64 nodes, .int .i64 v]] w fun e w' => e = .returned (.int .i64 (dq n nodes v)) ∧ Below w.heap.size w w' := by
  have f0 := fun W => rdeque_any what n nodes v v h0 h1 g0 g1 e0 e1 W
  go_enter Try.func15, Try.ntmps15
  go_wp2_with (go_at_call 17; refine' Calls.aft _ _ (f0 _) _; rotate_left 2; (first | (with_reducible exact After.below _; rfl) | (with_reducible exact below_drew (After.below _); rfl) | (with_reducible exact below_set (After.below _) _ _; (go_simp; rfl)) | (with_reducible exact below_set (below_set (After.below _) _ _) _ _; (go_simp; rfl)) | (with_reducible exact below_set (below_set (below_set (After.below _) _ _) _ _) _ _; (go_simp; rfl)) | (with_reducible exact below_set (below_set (below_set (below_set (After.below _) _ _) _ _) _ _) _ _; (go_simp; rfl)) | (exact Below.refl _ _; rfl)); intro x1; have hle := After.le x1; (try simp at hle))
  go_ret
  refine ⟨rfl, ?_⟩
  (repeat (first | exact Below.refl _ _ | apply Below.drew | refine Below.alloc ?_ ?_ _ | refine Below.setCell ?_ ?_ _ | refine Below.trans ?_ (Below.mono (After.below _) ?_))); (all_goals (first | (simp; done) | (simp; omega) | omega))

def sys0 (v0 v1 v2 v3 : Value) : Sys := ⟨1, 1, 1, [], [], [0], [⟨[0], [0], [], v1, v2, .slice none 0 0⟩], .slice none 0 0, .slice none 0 0, v0, v3⟩
theorem sys0_ok (v0 v1 v2 v3 : Value) : checkS (sys0 v0 v1 v2 v3) = 0 := by kernel_rfl
theorem sys0_words : Ws.wordsN 1 1 = 1 := by decide +kernel

def L1 : Obj := .cells #[.int .u64 0] 78
def L2 (w : World) : Obj := .cells #[.slice (some ⟨w.heap.size + 1, 0, none⟩) 1 1, .slice (some ⟨w.heap.size + 1 + 1, 0, none⟩) 1 1, .slice none 0 0] 81
def L3 (w : World) : Obj := .cells #[.int .i64 1, .int .i64 1, .int .i64 1, .slice none 0 0, .slice none 0 0, .slice (some ⟨w.heap.size, 0, none⟩) 1 1, .slice (some ⟨w.heap.size + 1 + 1 + 1, 0, none⟩) 1 1] 27
def LW (w : World) : World := ((((w.alloc L1).alloc L1).alloc L1).alloc (L2 w)).alloc (L3 w)
theorem LW_0 (w : World) : (LW w).heap[w.heap.size]? = some L1 := by
  unfold LW
  rw [heap_alloc_old _ _ (by simp; try omega), heap_alloc_old _ _ (by simp; try omega), heap_alloc_old _ _ (by simp; try omega), heap_alloc_old _ _ (by simp)]
  exact heap_alloc_new _ _
theorem LW_1 (w : World) : (LW w).heap[w.heap.size + 1]? = some L1 := by
  unfold LW
  rw [heap_alloc_old _ _ (by simp; try omega), heap_alloc_old _ _ (by simp; try omega), heap_alloc_old _ _ (by simp), show w.heap.size + 1 = (w.alloc L1).heap.size by simp]
  exact heap_alloc_new _ _
theorem LW_2 (w : World) : (LW w).heap[w.heap.size + 1 + 1]? = some L1 := by
  unfold LW
  rw [heap_alloc_old _ _ (by simp; try omega), heap_alloc_old _ _ (by simp), show w.heap.size + 1 + 1 = ((w.alloc L1).alloc L1).heap.size by simp]
  exact heap_alloc_new _ _
theorem LW_3 (w : World) : (LW w).heap[w.heap.size + 1 + 1 + 1]? = some (L2 w) := by
  unfold LW
  rw [heap_alloc_old _ _ (by simp), show w.heap.size + 1 + 1 + 1 = (((w.alloc L1).alloc L1).alloc L1).heap.size by simp]
  exact heap_alloc_new _ _
theorem LW_below (w : World) : Below w.heap.size w (LW w) := (((((Below.refl _ _).alloc (Nat.le_refl _) _).alloc (by simp) _).alloc (by simp; try omega) _).alloc (by simp; try omega) _).alloc (by simp; try omega) _
theorem LW_at (w : World) : SysAt (LW w) (sys0 (.slice (some ⟨w.heap.size, 0, none⟩) 1 1) (.slice (some ⟨w.heap.size + 1, 0, none⟩) 1 1) (.slice (some ⟨w.heap.size + 1 + 1, 0, none⟩) 1 1) (.slice (some ⟨w.heap.size + 1 + 1 + 1, 0, none⟩) 1 1)) := by
  have z : Ws.okW [0] := by intro x hx; simp at hx; subst hx; decide
  refine ⟨Sl.nil, Sl.nil, Sl.lit [0] rfl rfl (LW_0 w), Sl.lit ([⟨[0], [0], [], .slice (some ⟨w.heap.size + 1, 0, none⟩) 1 1, .slice (some ⟨w.heap.size + 1 + 1, 0, none⟩) 1 1, .slice none 0 0⟩] : List Tn) rfl rfl (LW_3 w), fun x hx => ?_, z, by simp [sys0], by simp [sys0], by simp [sys0]⟩
  have : x = ⟨[0], [0], [], .slice (some ⟨w.heap.size + 1, 0, none⟩) 1 1, .slice (some ⟨w.heap.size + 1 + 1, 0, none⟩) 1 1, .slice none 0 0⟩ := by simpa [sys0] using hx
  subst this
  exact ⟨Sl.lit [0] rfl rfl (LW_1 w), Sl.lit [0] rfl rfl (LW_2 w), Sl.nil, z, z, by simp, by simp, by simp⟩

set_option maxRecDepth 100000 in
theorem awake32_any (w : World) : Calls Try.prog 7 #[] w fun e w' => e = .returned (.bool true) ∧ Below w.heap.size w w' := by
  have hof := lof_any _ 1 _ (LW_at w)
  unfold layV offE at hof
  rw [sys0_ok] at hof
  simp only [sys0, sys0_words] at hof
  have hBW := LW_below w
  unfold LW L1 L2 L3 at hof hBW
  have f1 := fun W => lsize_any 1 1 1 1 (by decide) (by decide) (by decide) (by decide) (by decide) (by decide) W
  have f2 := fun W => board_any 1 1 1 1 (by decide) (by decide) (by decide) (by decide) W
  simp only [dq] at f1
  have hf : ∀ (a b : Int) (W : World), (Instr.field 42 (.agg #[.int .i64 a, .int .i64 b]) 1).run Try.prog W = .ok (.int .i64 b) W := fun a b W => by kernel_rfl
  go_enter Try.func7, Try.ntmps7
  go_wp2_with (first | (go_at_call 9; refine (hof).mono ?_; rintro e q ⟨rfl, hq⟩) | (go_at_call 14; refine' Calls.aft _ _ (f1 _) _; rotate_left 2; (exact Below.refl _ _; rfl); intro x1; have hle := After.le x1; (try simp at hle)) | (go_at_call 12; refine' Calls.aft _ _ (f2 _) _; rotate_left 2; (exact Below.refl _ _; rfl); intro x2; have hle := After.le x2; (try simp at hle)))
  go_ret
  exact ⟨rfl, nextB x2.below (nextB x1.below ((hBW.trans (hq.mono hBW.size)).alloc (hBW.trans (hq.mono hBW.size)).size _))⟩


end Go.Proofs.Ytjjmoibnmdbpeaa.Pr

namespace Go.Proofs.Ytjjmoibnmdbpeaa.Pr
set_option linter.unusedVariables false
set_option linter.unusedSimpArgs false
open Go Go.RowKit

theorem off_facts {s : Sys} {k : Int} (h : offE s k = 0) : 1 ≤ s.nodes ∧ s.nodes ≤ 256 ∧ 1 ≤ k ∧ k ≤ 64 := by
  unfold offE at h
  by_cases hc : checkS s = 0
  · rw [if_pos hc] at h
    have hr : rightB s.nodes s.ed = true := by
      unfold checkS at hc
      by_cases h1 : Ws.isL s.what s.width = true
      · rw [if_pos h1] at hc
        by_cases h2 : rightB s.nodes s.ed = true
        · exact h2
        · rw [if_neg h2] at hc; exact absurd hc (by decide)
      · rw [if_neg h1] at hc; exact absurd hc (by decide)
    simp only [rightB, Bool.and_eq_true, decide_eq_true_eq] at hr
    refine ⟨hr.1, hr.2.1, ?_, ?_⟩ <;> (split at h; omega; split at h <;> omega)
  · rw [if_neg hc] at h
    exact absurd h hc

theorem mul_range {a b A B : Int} (h0 : 0 ≤ a) (h1 : a ≤ A) (h2 : 0 ≤ b) (h3 : b ≤ B) (hA : A * B ≤ 1000000) : 0 ≤ a * b ∧ a * b ≤ 1000000 := by
  refine ⟨Int.mul_nonneg h0 h2, Int.le_trans (Int.mul_le_mul h1 h3 h2 (by omega)) hA⟩


end Go.Proofs.Ytjjmoibnmdbpeaa.Pr

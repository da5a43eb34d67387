/- PLAIN: places in lists; the variables and sites of programs. PLAIN: a text put into a rising list, as a loop does it. WALK of soughref04.put. WALK of soughref04.Vars. WALKS of slices.Index at texts and at sites, tables.place, tables.Block, soughref06.Block. -/
import Derived.Test.YtmnplnhblniimaaMI
import Derived.Test.YtmnplnhblniimaaPgm
import Derived.Test.YtmnplnhblniimaaGaussc
import Derived.Test.YtmnplnhblniimaaOwn
import Derived.LoopTactic
import Derived.Deep.RegionLaw

namespace Go.Proofs.Ytmnplnhblniimaa.Pr
set_option linter.unusedVariables false
set_option linter.unusedSimpArgs false
open Go

/-- The first place of x in a list; -1: there is none. -/
def idx {α : Type} [DecidableEq α] : List α → α → Int
  | [], _ => -1
  | y :: L, x => if y = x then 0 else if idx L x < 0 then -1 else idx L x + 1

theorem idx_hit {α : Type} [DecidableEq α] {x : α} : ∀ {L : List α} {k : Nat}, (∀ j, j < k → L[j]? ≠ some x) → L[k]? = some x → idx L x = k
  | [], _, _, h => by simp at h
  | y :: L, 0, _, h => by
    have e : y = x := by simpa using h
    simp [idx, e]
  | y :: L, k + 1, h0, h => by
    have e : y ≠ x := by simpa using h0 0 (by omega)
    have ih := idx_hit (L := L) (k := k) (fun j hj => by simpa using h0 (j + 1) (by omega)) (by simpa using h)
    have : ¬ ((k : Int) < 0) := by omega
    simp [idx, e, ih, this]

theorem idx_none {α : Type} [DecidableEq α] {x : α} : ∀ {L : List α}, (∀ j, j < L.length → L[j]? ≠ some x) → idx L x = -1
  | [], _ => rfl
  | y :: L, h0 => by
    have e : y ≠ x := by simpa using h0 0 (by simp)
    have ih := idx_none (L := L) (x := x) (fun j hj => by simpa using h0 (j + 1) (by simp; omega))
    simp [idx, e, ih]

theorem idx_mem {α : Type} [DecidableEq α] {x : α} : ∀ {L : List α}, 0 ≤ idx L x ↔ x ∈ L
  | [] => by simp [idx]
  | y :: L => by
    have ih := idx_mem (L := L) (x := x)
    by_cases e : y = x
    · simp [idx, e]
    · have e' : ¬ x = y := fun h => e h.symm
      simp only [idx, e, if_false, List.mem_cons, e', false_or]
      rw [← ih]
      split <;> omega

theorem idx_range {α : Type} [DecidableEq α] (x : α) : ∀ (L : List α), -1 ≤ idx L x ∧ idx L x < L.length
  | [] => by simp [idx]
  | y :: L => by
    have ih := idx_range x L
    simp only [idx, List.length_cons]
    split
    · omega
    · split <;> omega

/-! Variables. -/
def stVars (l : List St) (T : List ByteArray) : Nat → List ByteArray
  | 0 => T
  | k + 1 => match l[k]? with
    | some s => putS (putS (putS (stVars l T k) s.v) s.e.x.v) s.e.y.v
    | none => stVars l T k
def blVars (P : List Bl) : Nat → List ByteArray
  | 0 => []
  | i + 1 => match P[i]? with
    | some b => putS (stVars b.l (blVars P i) b.l.length) b.t.x.v
    | none => blVars P i
def vars (P : List Bl) : List ByteArray := blVars P P.length

theorem putS_len (T : List ByteArray) (s : ByteArray) : (putS T s).length ≤ T.length + 1 := by
  unfold putS
  split
  · omega
  · split
    · omega
    · have := posS_le T s
      simp only [List.length_append, List.length_cons, List.length_take, List.length_drop]
      omega
theorem stVars_len (l : List St) (T : List ByteArray) : ∀ k, (stVars l T k).length ≤ T.length + 3 * k
  | 0 => by simp [stVars]
  | k + 1 => by
    have ih := stVars_len l T k
    simp only [stVars]
    split
    · rename_i s _
      have h1 := putS_len (stVars l T k) s.v
      have h2 := putS_len (putS (stVars l T k) s.v) s.e.x.v
      have h3 := putS_len (putS (putS (stVars l T k) s.v) s.e.x.v) s.e.y.v
      omega
    · omega
theorem stVars_rise {l : List St} {T : List ByteArray} (h : Rise T) : ∀ k, Rise (stVars l T k)
  | 0 => h
  | k + 1 => by
    have ih := stVars_rise (l := l) h k
    simp only [stVars]
    split
    · exact putS_rise (putS_rise (putS_rise ih _) _) _
    · exact ih
theorem blVars_rise (P : List Bl) : ∀ i, Rise (blVars P i)
  | 0 => List.Pairwise.nil
  | i + 1 => by
    have ih := blVars_rise P i
    simp only [blVars]
    split
    · exact putS_rise (stVars_rise ih _) _
    · exact ih
theorem blVars_len {P : List Bl} (h : ∀ b ∈ P, b.l.length ≤ 12) : ∀ i, (blVars P i).length ≤ 37 * i
  | 0 => by simp [blVars]
  | i + 1 => by
    have ih := blVars_len h i
    simp only [blVars]
    split
    · rename_i b hb
      have h1 := stVars_len b.l (blVars P i) b.l.length
      have h2 := putS_len (stVars b.l (blVars P i) b.l.length) b.t.x.v
      have h3 := h b (List.mem_of_getElem? hb)
      omega
    · omega

/-! Sites. -/
structure Si where
  b : Int
  k : Int
  v : ByteArray
deriving DecidableEq, Inhabited
def Si.cs (s : Si) : List Value := [.int .i64 s.b, .int .i64 s.k, .string s.v]
theorem Si.cs_len (s : Si) : s.cs.length = 3 := rfl

def siteOf (i k : Nat) (s : St) : List Si := if s.k = 1 ∨ s.k = 2 then [⟨i, k, s.v⟩] else []
def stSites (i : Nat) (l : List St) : Nat → List Si
  | 0 => []
  | k + 1 => stSites i l k ++ match l[k]? with | some s => siteOf i k s | none => []
def blSites (P : List Bl) : Nat → List Si
  | 0 => []
  | i + 1 => blSites P i ++ match P[i]? with | some b => stSites i b.l b.l.length | none => []
def sitesOf (P : List Bl) : List Si := (vars P).map (fun v => ⟨-1, 0, v⟩) ++ blSites P P.length

theorem stSites_mem {i : Nat} {l : List St} {x : Si} : ∀ {n : Nat}, x ∈ stSites i l n → x.b = i ∧ ∃ k : Nat, k < l.length ∧ x.k = k
  | 0, h => by simp [stSites] at h
  | n + 1, h => by
    simp only [stSites, List.mem_append] at h
    rcases h with h | h
    · exact stSites_mem h
    · split at h
      · rename_i s hs
        have hlt := (List.getElem?_eq_some_iff.1 hs).1
        unfold siteOf at h
        split at h
        · simp at h; subst h; exact ⟨rfl, n, hlt, rfl⟩
        · simp at h
      · simp at h
theorem blSites_mem {P : List Bl} {x : Si} : ∀ {n : Nat}, x ∈ blSites P n → ∃ (i : Nat) (b : Bl) (k : Nat), P[i]? = some b ∧ x.b = i ∧ k < b.l.length ∧ x.k = k
  | 0, h => by simp [blSites] at h
  | n + 1, h => by
    simp only [blSites, List.mem_append] at h
    rcases h with h | h
    · exact blSites_mem h
    · split at h
      · rename_i b hb
        obtain ⟨h1, k, h2, h3⟩ := stSites_mem h
        exact ⟨n, b, k, hb, h1, h2, h3⟩
      · simp at h
theorem stSites_len (i : Nat) (l : List St) : ∀ n, (stSites i l n).length ≤ n
  | 0 => by simp [stSites]
  | n + 1 => by
    have ih := stSites_len i l n
    simp only [stSites, List.length_append]
    split
    · unfold siteOf; split <;> simp <;> omega
    · simp; omega
theorem blSites_len {P : List Bl} (h : ∀ b ∈ P, b.l.length ≤ 12) : ∀ n, (blSites P n).length ≤ 12 * n
  | 0 => by simp [blSites]
  | n + 1 => by
    have ih := blSites_len h n
    simp only [blSites, List.length_append]
    split
    · rename_i b hb
      have h1 := stSites_len n b.l b.l.length
      have h3 := h b (List.mem_of_getElem? hb)
      omega
    · simp; omega

/-- Site names. -/
def digS (n : Nat) : ByteArray := ⟨(digN n).toArray⟩
def startS : ByteArray := ⟨#[64, 115, 116, 97, 114, 116]⟩
def nameOf (P : List Bl) (s : Si) : ByteArray :=
  if s.b = -1 then s.v ++ startS else
  if s ∈ sitesOf P then s.v ++ ⟨#[64]⟩ ++ (P.getD s.b.toNat default).n ++ ⟨#[46]⟩ ++ digS s.k.toNat else ⟨#[]⟩

end Go.Proofs.Ytmnplnhblniimaa.Pr

namespace Go.Proofs.Ytmnplnhblniimaa.Pr
set_option linter.unusedVariables false
set_option linter.unusedSimpArgs false
open Go

structure PutSt where
  done : Bool
  out : List ByteArray
def stepP (s : ByteArray) (p : PutSt) (x : ByteArray) : PutSt :=
  match p.done with
  | true => ⟨true, p.out ++ [x]⟩
  | false => match ltS x s with
    | true => ⟨false, p.out ++ [x]⟩
    | false => match ltS s x with
      | true => ⟨true, (p.out ++ [s]) ++ [x]⟩
      | false => ⟨true, p.out ++ [x]⟩
def runP (s : ByteArray) (T : List ByteArray) (p : PutSt) : Nat → PutSt
  | 0 => p
  | k + 1 => match T[k]? with | some x => stepP s (runP s T p k) x | none => runP s T p k
def finP (s : ByteArray) (p : PutSt) : List ByteArray := match p.done with | true => p.out | false => p.out ++ [s]

theorem runP_foldl (s : ByteArray) (T : List ByteArray) (p : PutSt) : ∀ k, k ≤ T.length → runP s T p k = (T.take k).foldl (stepP s) p
  | 0, _ => rfl
  | k + 1, h => by
    have ih := runP_foldl s T p k (by omega)
    have hk : k < T.length := by omega
    rw [List.take_succ_eq_append_getElem hk, List.foldl_append, ← ih]
    simp only [runP, List.getElem?_eq_getElem hk, List.foldl_cons, List.foldl_nil]

theorem fold_done (s : ByteArray) : ∀ (T out : List ByteArray), T.foldl (stepP s) ⟨true, out⟩ = ⟨true, out ++ T⟩
  | [], out => by simp
  | x :: T, out => by
    rw [List.foldl_cons, show stepP s ⟨true, out⟩ x = ⟨true, out ++ [x]⟩ from rfl, fold_done s T]
    simp

theorem fold_put {s : ByteArray} (hs : s.size ≠ 0) : ∀ (T out : List ByteArray), Rise T → finP s (T.foldl (stepP s) ⟨false, out⟩) = out ++ putS T s
  | [], out, _ => by simp [finP, putS, hs, posS]
  | x :: T, out, hr => by
    obtain ⟨hx, hr'⟩ := List.pairwise_cons.1 hr
    rw [List.foldl_cons]
    cases h1 : ltS x s with
    | true =>
      rw [show stepP s ⟨false, out⟩ x = ⟨false, out ++ [x]⟩ by simp [stepP, h1], fold_put hs T _ hr']
      have e : posS (x :: T) s = posS T s + 1 := by simp [posS, h1]
      have e2 : putS (x :: T) s = x :: putS T s := by
        unfold putS
        rw [if_neg hs, if_neg hs, e]
        simp only [List.getElem?_cons_succ, List.take_succ_cons, List.drop_succ_cons]
        split <;> simp
      rw [e2]; simp
    | false =>
      have e : posS (x :: T) s = 0 := by simp [posS, h1]
      cases h2 : ltS s x with
      | true =>
        rw [show stepP s ⟨false, out⟩ x = ⟨true, (out ++ [s]) ++ [x]⟩ by simp [stepP, h1, h2], fold_done]
        have hne : ¬ (x = s) := fun h => by subst h; rw [ltS_irrefl] at h2; cases h2
        have e2 : putS (x :: T) s = s :: x :: T := by
          unfold putS
          rw [if_neg hs, e]
          simp [hne]
        rw [e2]; simp [finP]
      | false =>
        rw [show stepP s ⟨false, out⟩ x = ⟨true, out ++ [x]⟩ by simp [stepP, h1, h2], fold_done]
        have he : x = s := by
          by_cases h : x = s
          · exact h
          · have := ltS_total h1 h
            rw [h2] at this; cases this
        have e2 : putS (x :: T) s = x :: T := by
          unfold putS
          rw [if_neg hs, e]
          simp [he]
        rw [e2]; simp [finP]

def emptyB (s : ByteArray) : Bool := s.toList == []
theorem emptyB_iff (s : ByteArray) : emptyB s = true ↔ s.size = 0 := by
  unfold emptyB
  rw [ByteArray.toList_eq]
  cases s with
  | mk d => simp [ByteArray.size]

theorem put_is {T : List ByteArray} (hr : Rise T) (s : ByteArray) : finP s (runP s T ⟨emptyB s, []⟩ T.length) = putS T s := by
  rw [runP_foldl s T _ _ (Nat.le_refl _), List.take_length]
  cases h : emptyB s with
  | true =>
    rw [fold_done]
    have := (emptyB_iff s).1 h
    simp [finP, putS, this]
  | false =>
    rw [fold_put (fun h0 => by rw [(emptyB_iff s).2 h0] at h; cases h) T [] hr]
    simp

theorem runP_len (s : ByteArray) (T : List ByteArray) (p : PutSt) : ∀ k, (runP s T p k).out.length ≤ p.out.length + 2 * k
  | 0 => by simp [runP]
  | k + 1 => by
    have ih := runP_len s T p k
    simp only [runP]
    split
    · simp only [stepP]
      split
      · simp; omega
      · split
        · simp; omega
        · split <;> simp <;> omega
    · omega

end Go.Proofs.Ytmnplnhblniimaa.Pr

namespace Go.Proofs.Ytmnplnhblniimaa.Pr
set_option linter.unusedVariables false
set_option linter.unusedSimpArgs false
open Go Go.RowKit

def encS (s : ByteArray) : List Value := [.string s]
theorem encS_len (s : ByteArray) : (encS s).length = 1 := rfl
theorem s_info : (Try.prog.info? 9).map (fun i => (i.zero, i.size, i.bytes)) = some (some (.string ⟨#[]⟩), 1, 16) := by kernel_rfl
theorem info_parts {t : TypeId} {z : Value} {s b : Nat} (h : (Try.prog.info? t).map (fun i => (i.zero, i.size, i.bytes)) = some (some z, s, b)) : ∃ i, Try.prog.info? t = some i ∧ i.zero = some z ∧ i.size = s ∧ i.bytes = b := by
  cases hi : Try.prog.info? t with
  | none => rw [hi] at h; cases h
  | some i =>
    rw [hi] at h
    simp only [Option.map_some, Option.some.injEq, Prod.mk.injEq] at h
    exact ⟨i, rfl, h.1, h.2.1, h.2.2⟩
def intOf : Value → Int | .int _ q => q | _ => 0

theorem Sl.strs {w : World} {v : Value} {L : List ByteArray} (h : Sl w v encS L) :
    ∃ (b off : Nat) (p : Option Addr) (cap : Nat), v = .slice p L.length cap ∧ (0 < L.length → p = some ⟨b, off, none⟩) ∧
      ∀ (i : Nat) (hi : i < L.length), w.cell? ⟨b, off + i, none⟩ = some (.string (L[i]'hi)) := by
  obtain ⟨b, off, p, cap, hv, hp, hc⟩ := h.open encS_len
  exact ⟨b, off, p, cap, hv, hp, fun i hi => by have := hc i hi 0 _ rfl; simpa using this⟩

theorem flat_snoc (X : List ByteArray) (s : ByteArray) : (X ++ [s]).flatMap encS = X.flatMap encS ++ [.string s] := by rw [List.flatMap_append]; rfl

theorem own_snocS {w : World} {base : Nat} {v : Value} {X : List ByteArray} {s : ByteArray} (h : w.ownsRow base 9 1 v (X.length + 1) (X.flatMap encS ++ [.string s])) : w.ownsRow base 9 1 v (X ++ [s]).length ((X ++ [s]).flatMap encS) := by
  rw [flat_snoc, List.length_append]
  exact h

end Go.Proofs.Ytmnplnhblniimaa.Pr

namespace Go.Proofs.Ytmnplnhblniimaa.Pr
set_option linter.unusedVariables false
set_option linter.unusedSimpArgs false
open Go Go.RowKit

theorem Pg.open {w : World} {v : Value} {P : List Bl} (h : Pg w v P) :
    ∃ (b off : Nat) (p : Option Addr) (cap : Nat), v = .slice p P.length cap ∧ (0 < P.length → p = some ⟨b, off, none⟩) ∧
      ∀ (i : Nat) (hi : i < P.length), (∀ (r : Nat) (u : Value), ((P[i]'hi).cs)[r]? = some u → w.cell? ⟨b, off + (i * 8 + r), none⟩ = some u) ∧ Sl w (P[i]'hi).lv St.cs (P[i]'hi).l := by
  obtain ⟨b, off, p, cap, hv, hp, hc⟩ := h.1.open Bl.cs_len
  exact ⟨b, off, p, cap, hv, hp, fun i hi => ⟨hc i hi, h.2 _ (List.getElem_mem hi)⟩⟩

/-- A call whose answer is told by what it is good for, as one step of a region that draws its order. -/
theorem step_callS {P : Program} {ops : Array Oper} {o : Oper} {a : Act} {w : World} {K : Act → World → Prop} {Q : Exit → Act → World → Prop} {E : Prop} (hgd : o.guard = none) (f : FuncId) (vs : Array Value) (S : Value → World → Prop)
    (hop : (execOp a.eval o).run P w = .ok (.enter f vs) w)
    (h : Calls P f vs w fun e w' => ∃ v, e = .returned v ∧ S v w' ∧ Below w.heap.size w w') (hk : ∀ v w', S v w' → Below w.heap.size w w' → K (a.put o.dst v) w') :
    if Region.wanted o (yielded ops a.tmps) = true then Oper.wp P o a w K Q else E := by
  have hw : Region.wanted o (yielded ops a.tmps) = true := by simp [Region.wanted, hgd]
  rw [if_pos hw]
  unfold Oper.wp
  rw [hop, Oper.upon_enter]
  exact h.mono fun e w' ⟨v, he, hs, hb⟩ => by subst he; exact hk v w' hs hb

end Go.Proofs.Ytmnplnhblniimaa.Pr

namespace Go.Proofs.Ytmnplnhblniimaa.Pr
set_option linter.unusedVariables false
set_option linter.unusedSimpArgs false
open Go Go.RowKit

theorem beq_str {a b : ByteArray} : (a.toList == b.toList) = decide (a = b) := by
  rw [Bool.eq_iff_iff]
  simp only [beq_iff_eq, decide_eq_true_eq]
  exact ⟨toList_inj, fun h => by rw [h]⟩

set_option maxRecDepth 100000 in
theorem index_any (L : List ByteArray) (x : ByteArray) (hl : L.length ≤ 1000000) (v : Value) (w : World) (h : Sl w v encS L) :
    Calls Try.prog 71 #[v, .string x] w fun e w' => e = .returned (.int .i64 (idx L x)) ∧ w = w' := by
  obtain ⟨b, off, p, cap, rfl, hp, hc⟩ := Sl.strs h
  obtain ⟨R, hR⟩ : ∃ R, Hid (idx L x = R) := ⟨_, rfl⟩
  rw [hR]
  go_enter Try.func71, Try.ntmps71
  go_wp2_with fail
  go_loop [8] (fun i => ∃ k : Nat, k ≤ L.length ∧ i = .int .i64 k ∧ ∀ j, j < k → L[j]? ≠ some x) (fun i => L.length - (intOf i).toNat)
  case atStart => exact ⟨0, Nat.zero_le _, rfl, fun j hj => by omega⟩
  case round =>
    obtain ⟨k, hk, rfl, hno⟩ := hrel
    by_cases hlt : k < L.length
    · obtain rfl := hp (by omega)
      have hlt2 : (k : Int) < L.length := by omega
      have c0 := hc k hlt
      have hg := World.block_lt_of_cell? _ _ c0
      have hhit : L[k]'hlt = x → R = k := fun h => by rw [← hR]; exact idx_hit hno (by rw [List.getElem?_eq_getElem hlt, h])
      have hmiss : L[k]'hlt ≠ x → ∀ j, j < k + 1 → L[j]? ≠ some x := fun h j hj => by
        rcases Nat.lt_succ_iff_lt_or_eq.1 hj with hj | rfl
        · exact hno j hj
        · rw [List.getElem?_eq_getElem hlt]; simpa using h
      clear hc hno
      generalize L[k]'hlt = y at c0 hhit hmiss
      by_cases hyx : y = x
      · subst hyx
        have hRk := hhit rfl
        have f1 : (y.toList == y.toList) = true := by simp
        clear hhit hmiss
        subst hRk
        go_wp2_with fail
        refine bodyPost_ret (v := .int .i64 k) (by simp only [results, Try.results71]; go_simp) rfl ⟨rfl, rfl⟩
      · have f1 : (x.toList == y.toList) = false := by rw [beq_str]; exact decide_eq_false (fun h => hyx h.symm)
        have hm := And.intro True.intro (hmiss hyx)
        clear hhit hmiss
        go_wp2_with fail
        go_round
        case rel => exact ⟨k + 1, by omega, by simp, hm.2⟩
        case measure => simp [intOf]; omega
    · have hks : k = L.length := by omega
      subst hks
      have hlt2 : ¬ (L.length : Int) < L.length := by omega
      have hRk : R = -1 := by rw [← hR]; exact idx_none hno
      subst hRk
      clear hc hno
      go_wp2_with fail
      refine bodyPost_ret (v := .int .i64 (-1)) (by simp only [results, Try.results71]; go_simp) rfl ⟨rfl, rfl⟩

def placeV (i : Int) : Value := .tuple #[.int .i64 (max i 0), .bool (decide (0 ≤ i))]

def Si.eqB (s t : Si) : Bool := s.b == t.b && (s.k == t.k && s.v.toList == t.v.toList)
theorem Si.eqB_iff (s t : Si) : Si.eqB s t = decide (s = t) := by
  rw [Bool.eq_iff_iff]
  simp only [Si.eqB, Bool.and_eq_true, beq_iff_eq, decide_eq_true_eq]
  constructor
  · rintro ⟨h1, h2, h3⟩
    have := toList_inj h3
    cases s; cases t; simp_all
  · rintro rfl; exact ⟨rfl, rfl, rfl⟩

end Go.Proofs.Ytmnplnhblniimaa.Pr

/- MAPS keyed by expressions; tables.Exprs. tables.Exprs: whether an expression has a variable. -/
import Derived.Test.YtjjmoibnmdbpeaaEqs
import Derived.Test.YtjjmoibnmdbpeaaChki
import Derived.Maps.Own
import Derived.Test.YtjjmoibnmdbpeaaChke

namespace Go.Proofs.Ytjjmoibnmdbpeaa.Pr
set_option linter.unusedVariables false
set_option linter.unusedSimpArgs false
open Go Go.RowKit

def exV (x : Ex) : Value := .agg #[.int .i64 x.op, .string x.x.v, .int .i64 x.x.a, .int .i64 x.x.b, .string x.y.v, .int .i64 x.y.a, .int .i64 x.y.b]

set_option maxRecDepth 100000 in
theorem eqX0 (op : Int) (v : ByteArray) (a b : Int) (vy : ByteArray) (ay bY : Int) (op2 : Int) (v2 : ByteArray) (a2 b2 : Int) (vy2 : ByteArray) (ay2 by2 : Int) (w : World) :
    (Op.equal 73 (exV ⟨op, ⟨v, a, b⟩, ⟨vy, ay, bY⟩⟩) (exV ⟨op2, ⟨v2, a2, b2⟩, ⟨vy2, ay2, by2⟩⟩)).run Try.prog w = .ok (eqE ⟨op, ⟨v, a, b⟩, ⟨vy, ay, bY⟩⟩ ⟨op2, ⟨v2, a2, b2⟩, ⟨vy2, ay2, by2⟩⟩) w := by
  have u3 := Try.underlying3
  have a3 := Try.isAgg3
  have z3 := Try.sizeOf3
  have u9 := Try.underlying9
  have a9 := Try.isAgg9
  have z9 := Try.sizeOf9
  have u7 := Try.underlying69
  have a7 := Try.isAgg69
  have z7 := Try.sizeOf69
  have u8 := Try.underlying71
  have a8 := Try.isAgg71
  have z8 := Try.sizeOf71
  have u6 := Try.underlying73
  have a6 := Try.isAgg73
  have z6 := Try.sizeOf73
  have hmd : Op.maxDepth = 10000 := rfl
  unfold exV Op.equal
  rw [hmd]
  simp only [eqA, eqE]
  go_simp
  by_cases h0 : op = op2
  rotate_left
  · simp [h0]
  by_cases h1 : v.toList = v2.toList
  rotate_left
  · simp [h0, h1]
  by_cases h2 : a = a2
  rotate_left
  · simp [h0, h1, h2]
  by_cases h3 : b = b2
  rotate_left
  · simp [h0, h1, h2, h3]
  by_cases h4 : vy.toList = vy2.toList
  rotate_left
  · simp [h0, h1, h2, h3, h4]
  by_cases h5 : ay = ay2
  rotate_left
  · simp [h0, h1, h2, h3, h4, h5]
  by_cases h6 : bY = by2 <;> simp [h0, h1, h2, h3, h4, h5, h6]
theorem eqX (x y : Ex) (w : World) : (Op.equal 73 (exV x) (exV y)).run Try.prog w = .ok (eqE x y) w := by
  obtain ⟨op, ⟨v, a, b⟩, ⟨vy, ay, bY⟩⟩ := x
  obtain ⟨op2, ⟨v2, a2, b2⟩, ⟨vy2, ay2, by2⟩⟩ := y
  exact eqX0 _ _ _ _ _ _ _ _ _ _ _ _ _ _ w

theorem ckI (em : Bool) (n : Nat) (a : Int) (w : World) : (Instr.checkKey em (n + 1) 3 (.int .i64 a)).run Try.prog w = .ok () w := by
  have u3 := Try.underlying3
  unfold Instr.checkKey
  go_simp
theorem ckS (em : Bool) (n : Nat) (s : ByteArray) (w : World) : (Instr.checkKey em (n + 1) 9 (.string s)).run Try.prog w = .ok () w := by
  have u9 := Try.underlying9
  unfold Instr.checkKey
  go_simp
theorem ckN (em : Bool) (n : Nat) (a b : Int) (w : World) : (Instr.checkKey em (n + 1 + 1) 69 (.agg #[.int .i64 a, .int .i64 b])).run Try.prog w = .ok () w := by
  have u7 := Try.underlying69
  have a3 := Try.isAgg3
  have z3 := Try.sizeOf3
  have h1 := fun a w => ckI em n a w
  rw [Instr.checkKey]
  go_simp
theorem ckA (em : Bool) (n : Nat) (v : ByteArray) (a b : Int) (w : World) : (Instr.checkKey em (n + 1 + 1 + 1) 71 (.agg #[.string v, .int .i64 a, .int .i64 b])).run Try.prog w = .ok () w := by
  have u8 := Try.underlying71
  have a9 := Try.isAgg9
  have z9 := Try.sizeOf9
  have a7 := Try.isAgg69
  have z7 := Try.sizeOf69
  have h1 := fun a w => ckS em (n + 1) a w
  have h2 := fun a b w => ckN em n a b w
  rw [Instr.checkKey]
  go_simp
theorem ckX (x : Ex) (em : Bool) (w : World) : (Instr.checkKey em 10000 73 (exV x)).run Try.prog w = .ok () w := by
  have u6 := Try.underlying73
  have a3 := Try.isAgg3
  have z3 := Try.sizeOf3
  have a8 := Try.isAgg71
  have z8 := Try.sizeOf71
  have h1 := fun a w => ckI em 9998 a w
  have h2 := fun v a b w => ckA em 9996 v a b w
  unfold exV
  rw [Instr.checkKey]
  go_simp

theorem lt_of_obj {W : World} {k : Nat} {o : Obj} (h : W.heap[k]? = some o) : k < W.heap.size := (Array.getElem?_eq_some_iff.1 h).1

/-- The block is a map whose keys are these expressions, each at 1. -/
def Mx (W : World) (b : Nat) (L : List Ex) : Prop := ∃ es clock, W.heap[b]? = some (.map es clock) ∧ es.toList.map MapEntry.key = L.map exV ∧ ∀ e ∈ es.toList, e.val = .int .i64 1

theorem findX (x : Ex) (w : World) : ∀ (L : List Ex) (es : List MapEntry) (i : Nat), es.map MapEntry.key = L.map exV → (∀ e ∈ es, e.val = .int .i64 1) →
    ∃ r, (Instr.findAsking 73 (exV x) es i).run Try.prog w = .ok r w ∧ ((L.any (eqE x) = true ∧ ∃ j, r = some (j, .int .i64 1)) ∨ (L.any (eqE x) = false ∧ r = none))
  | [], [], i, _, _ => ⟨none, by simp [Instr.findAsking], .inr ⟨rfl, rfl⟩⟩
  | [], e :: es, i, h, _ => by simp at h
  | y :: L, [], i, h, _ => by simp at h
  | y :: L, e :: es, i, h, hv => by
    simp only [List.map_cons, List.cons.injEq] at h
    have h1 := hv e (by simp)
    cases he : eqE x y
    · obtain ⟨r, hr, hc⟩ := findX x w L es (i + 1) h.2 (fun e2 h2 => hv e2 (by simp [h2]))
      refine ⟨r, ?_, ?_⟩
      · simp [Instr.findAsking, h.1, eqX, he, hr]
      · rw [List.any_cons, he, Bool.false_or]
        exact hc
    · refine ⟨some (i, .int .i64 1), ?_, .inl ⟨by rw [List.any_cons, he, Bool.true_or], i, rfl⟩⟩
      simp [Instr.findAsking, h.1, eqX, he, h1]

theorem findKX (x : Ex) (w : World) (L : List Ex) (es : List MapEntry) (h : es.map MapEntry.key = L.map exV) (hv : ∀ e ∈ es, e.val = .int .i64 1) :
    ∃ r, (Instr.findKey 73 (exV x) es).run Try.prog w = .ok r w ∧ ((L.any (eqE x) = true ∧ ∃ j, r = some (j, .int .i64 1)) ∨ (L.any (eqE x) = false ∧ r = none)) := by
  have u6 := Try.underlying73
  cases es with
  | nil =>
    have : L = [] := by cases L with | nil => rfl | cons y L => simp at h
    subst this
    exact ⟨none, by simp [Instr.findKey, Instr.findNow, u6], .inr ⟨rfl, rfl⟩⟩
  | cons e es =>
    obtain ⟨r, hr, hc⟩ := findX x w L (e :: es) 0 h hv
    refine ⟨r, ?_, hc⟩
    simp [Instr.findKey, Instr.findNow, Instr.sameNow, u6, hr]

theorem Mx.lookup {W : World} {b : Nat} {L : List Ex} (h : Mx W b L) (x : Ex) : (Instr.lookup 97 (.map (some b)) (exV x) false).run Try.prog W = .ok (.int .i64 (if L.any (eqE x) = true then 1 else 0)) W := by
  obtain ⟨es, clock, hb, hk, hv⟩ := h
  have u := Try.underlying97
  obtain ⟨r, hr, hc⟩ := findKX x W L es.toList hk hv
  have hg := MapKept.run_getObj_map (P := Try.prog) hb
  have hz : (zeroValue 3).run Try.prog W = .ok (.int .i64 0) W := by go_simp
  rcases hc with ⟨ha, j, rfl⟩ | ⟨ha, rfl⟩
  · rw [if_pos ha]
    simp [Instr.lookup, u, hg, ckX, hr]
  · rw [if_neg (by rw [ha]; simp)]
    simp [Instr.lookup, u, hg, ckX, hr, hz]

theorem Mx.update {W : World} {b : Nat} {L : List Ex} (h : Mx W b L) (x : Ex) (hx : L.any (eqE x) = false) : ∃ W', (Instr.mapUpdate 97 (.map (some b)) (exV x) (.int .i64 1)).run Try.prog W = .ok () W' ∧ Mx W' b (L ++ [x]) ∧ W.grownBy W' (some b) := by
  obtain ⟨es, clock, hb, hk, hv⟩ := h
  have u := Try.underlying97
  obtain ⟨r, hr, hc⟩ := findKX x W L es.toList hk hv
  have hg := MapKept.run_getObj_map (P := Try.prog) hb
  rcases hc with ⟨ha, j, rfl⟩ | ⟨ha, rfl⟩
  · rw [hx] at ha
    cases ha
  · refine ⟨ChangeMaps.setBlock W b (.map (es.push ⟨exV x, .int .i64 1, clock⟩) (clock + 1)), ?_, ⟨_, _, ChangeMaps.heap_setBlock_same hb _, ?_, ?_⟩, ⟨rfl, rfl, rfl, by simp [ChangeMaps.setBlock], fun i _ hi => ChangeMaps.heap_setBlock_other hb _ (fun e => hi (by rw [e]))⟩⟩
    · simp [Instr.mapUpdate, u, hg, ckX, hr, MapKept.run_setObj_map _ hb, Result.andThen, ChangeMaps.setBlock]
    · simp [hk]
    · intro e he
      simp only [Array.toList_push, List.mem_append, List.mem_singleton] at he
      rcases he with he | rfl
      · exact hv e he
      · rfl

theorem Mx.kept {W W' : World} {b : Nat} {L : List Ex} {row : Option Nat} (h : Mx W b L) (hg : W.grownBy W' row) (hne : some b ≠ row) : Mx W' b L := by
  obtain ⟨es, clock, hb, hk, hv⟩ := h
  exact ⟨es, clock, (hg.block b (lt_of_obj hb) hne).trans hb, hk, hv⟩
theorem Mx.below {W W' : World} {b : Nat} {L : List Ex} (h : Mx W b L) (hB : Below W.heap.size W W') : Mx W' b L := by
  obtain ⟨es, clock, hb, hk, hv⟩ := h
  exact ⟨es, clock, (hB.block b (lt_of_obj hb)).trans hb, hk, hv⟩
theorem Mx.made (W : World) : Mx (W.alloc (.map #[] 0)) W.heap.size [] := ⟨#[], 0, heap_alloc_new _ _, rfl, fun e he => by simp at he⟩

end Go.Proofs.Ytjjmoibnmdbpeaa.Pr

namespace Go.Proofs.Ytjjmoibnmdbpeaa.Pr
set_option linter.unusedVariables false
set_option linter.unusedSimpArgs false
open Go Go.RowKit

/-- An atom has no variable. -/
def noV (a : At) : Bool := emptyB a.v

set_option maxRecDepth 100000 in
theorem exprs1_any (v : ByteArray) (a b : Int) (w : World) :
    Calls Try.prog 47 #[.agg #[.string v, .int .i64 a, .int .i64 b]] w fun e w' => e = .returned (.bool !(noV ⟨v, a, b⟩)) ∧ Below w.heap.size w w' := by
  show Calls Try.prog _ _ _ (fun e w' => e = .returned (.bool !(v.toList == [])) ∧ _)
  go_enter Try.func47, Try.ntmps47
  go_wp2_with fail
  refine bodyPost_ret (v := .bool !(v.toList == [])) (by simp only [results, Try.results47]; go_simp) rfl ⟨rfl, ?_⟩
  (repeat (first | exact Below.refl _ _ | apply Below.drew | refine Below.alloc ?_ ?_ _ | refine Below.setCell ?_ ?_ _ | refine Below.trans ?_ (Below.mono (After.below _) ?_))); (all_goals (first | (simp; done) | (simp; omega) | omega))

set_option maxRecDepth 100000 in
set_option maxHeartbeats 1000000 in
theorem indexX_any (L : List At) (hl : L.length ≤ 1000) (v : Value) (w : World) (h : Sl w v At.cs L) :
    Calls Try.prog 85 #[v, .func (.func 47) #[] #[]] w fun e w' => ∃ i : Int, e = .returned (.int .i64 i) ∧ decide (0 ≤ i) = (!(L.all noV)) ∧ Below w.heap.size w w' := by
  obtain ⟨b, off, p, cap, rfl, hp, hc⟩ := h.open At.cs_len
  obtain ⟨R, hR⟩ : ∃ R, Hid (L.all noV = R) := ⟨_, rfl⟩
  rw [hR]
  go_enter Try.func85, Try.ntmps85
  go_wp2_with fail
  go_loopw [8] (fun i wr => ∃ k : Nat, k ≤ L.length ∧ i = .int .i64 k ∧ (L.take k).all noV = true ∧ Below w.heap.size w wr) (fun i _ => L.length - (intOf i).toNat)
  case atStart => exact ⟨0, Nat.zero_le _, rfl, by simp, Below.refl _ _⟩
  case round =>
    obtain ⟨k, hk, rfl, hall, hB⟩ := hrel
    have hw := hB.size
    by_cases hlt : k < L.length
    · obtain rfl := hp (by omega)
      have hlt2 : (k : Int) < L.length := by omega
      have hbad : noV (L[k]'hlt) = false → R = false := fun h => by rw [← hR]; exact all_bad hlt h
      have hnext : noV (L[k]'hlt) = true → (L.take (k + 1)).all noV = true := fun h => all_next hlt hall h
      have hcr : ∀ r u, ((L[k]'hlt).cs)[r]? = some u → wr.cell? ⟨b, off + k * 3 + r, none⟩ = some u := fun r u hu => by
        rw [Nat.add_assoc]
        exact (hB.cell (p := ⟨b, off + (k * 3 + r), none⟩) (World.block_lt_of_cell? _ _ (hc k hlt r u hu))).trans (hc k hlt r u hu)
      clear hc hall
      generalize L[k]'hlt = s at hcr hbad hnext
      have e0 : wr.cell? ⟨b, off + k * 3, none⟩ = some (.string s.v) := hcr 0 _ rfl
      have hg := World.block_lt_of_cell? _ _ e0
      have e1 := hcr 1 _ rfl
      have e2 := hcr 2 _ rfl
      clear hcr
      have hra := exprs1_any s.v s.a s.b wr
      cases hn : noV s
      · rw [show (noV s) = false from hn] at hra
        have hf := hbad hn
        subst hf
        clear hbad hnext hn
        go_wp2_with ((go_at_call 47; refine' Calls.aft _ _ (hra) _; rotate_left 2; (exact Below.refl _ _; rfl); intro x1; have hle := After.le x1; (try simp at hle)))
        refine bodyPost_ret (v := .int .i64 k) (by simp only [results, Try.results85]; go_simp) rfl ⟨_, rfl, by simp, hB.trans (x1.below.mono hw)⟩
      · rw [show (noV s) = true from hn] at hra
        have hx := And.intro True.intro (hnext hn)
        clear hbad hnext hn
        go_wp2_with ((go_at_call 47; refine' Calls.aft _ _ (hra) _; rotate_left 2; (exact Below.refl _ _; rfl); intro x1; have hle := After.le x1; (try simp at hle)))
        go_roundw
        case rel => exact ⟨k + 1, by omega, by simp, hx.2, hB.trans (x1.below.mono hw)⟩
        case measure => simp [intOf]; omega
    · have hks : k = L.length := by omega
      subst hks
      have hlt2 : ¬ (L.length : Int) < L.length := by omega
      have hRt : R = true := by rw [← hR]; rw [List.take_length] at hall; exact hall
      subst hRt
      clear hc
      go_wp2_with fail
      refine bodyPost_ret (v := .int .i64 (-1)) (by simp only [results, Try.results85]; go_simp) rfl ⟨_, rfl, by decide, hB⟩

set_option maxRecDepth 100000 in
theorem containsX_any (L : List At) (hl : L.length ≤ 1000) (v : Value) (w : World) (h : Sl w v At.cs L) :
    Calls Try.prog 45 #[v, .func (.func 47) #[] #[]] w fun e w' => e = .returned (.bool !(L.all noV)) ∧ Below w.heap.size w w' := by
  have hix := indexX_any L hl v w h
  generalize L.all noV = z at hix ⊢
  obtain ⟨p, c, rfl⟩ : ∃ p c, v = .slice p L.length c := by obtain ⟨b, off, p, cap, hv, _⟩ := h; exact ⟨p, cap, hv⟩
  go_enter Try.func45, Try.ntmps45
  go_wp2_with ((go_at_call 85; refine' Calls.aftS _ _ (hix) _; rotate_left 2; (first | (with_reducible exact After.below _; rfl) | (with_reducible exact below_drew (After.below _); rfl) | (with_reducible exact below_set (After.below _) _ _; (go_simp; rfl)) | (with_reducible exact below_set (below_set (After.below _) _ _) _ _; (go_simp; rfl)) | (with_reducible exact below_set (below_set (below_set (After.below _) _ _) _ _) _ _; (go_simp; rfl)) | (with_reducible exact below_set (below_set (below_set (below_set (After.below _) _ _) _ _) _ _) _ _; (go_simp; rfl)) | (exact Below.refl _ _; rfl)); intro i x1 hi; have hle := After.le x1; (try simp at hle)))
  refine bodyPost_ret (v := .bool !z) (by simp only [results, Try.results45]; go_simp) rfl ⟨rfl, x1.below⟩

/-- The expressions so far, and a statement's. -/
def addX (L : List Ex) (s : St) : List Ex := if s.k = 1 ∧ s.e.op ≠ 0 ∧ (atomsOf s.e).all noV = false ∧ L.any (eqE s.e) = false then L ++ [s.e] else L
def stX (L : List Ex) (l : List St) : List Ex := l.foldl addX L
def exprsOf (P : List Bl) : List Ex := P.foldl (fun L b => stX L b.l) []
theorem stX_next (L : List Ex) (l : List St) (k : Nat) (hk : k < l.length) : stX L (l.take (k + 1)) = addX (stX L (l.take k)) (l[k]'hk) := by
  unfold stX
  rw [List.take_succ_eq_append_getElem hk, List.foldl_append]
  rfl
theorem exprs_next (P : List Bl) (k : Nat) (hk : k < P.length) : exprsOf (P.take (k + 1)) = stX (exprsOf (P.take k)) (P[k]'hk).l := by
  unfold exprsOf
  rw [List.take_succ_eq_append_getElem hk, List.foldl_append]
  rfl
theorem addX_len (L : List Ex) (s : St) : (addX L s).length ≤ L.length + 1 := by
  unfold addX
  split
  · simp
  · omega
theorem stX_len (L : List Ex) : ∀ (l : List St), (stX L l).length ≤ L.length + l.length := fun l => by
  unfold stX
  induction l generalizing L with
  | nil => simp
  | cons s l ih =>
    have h1 := ih (addX L s)
    have h2 := addX_len L s
    simp only [List.foldl_cons, List.length_cons]
    omega
theorem exprs_len {P : List Bl} (h : ∀ b ∈ P, b.l.length ≤ 12) : ∀ k, k ≤ P.length → (exprsOf (P.take k)).length ≤ 12 * k
  | 0, _ => by simp [exprsOf]
  | k + 1, hk => by
    have ih := exprs_len h k (by omega)
    rw [exprs_next P k (by omega)]
    have h1 := stX_len (exprsOf (P.take k)) (P[k]'(by omega)).l
    have h2 := h _ (List.getElem_mem (by omega : k < P.length))
    omega

theorem ex_info : (Try.prog.info? 73).map (fun i => (i.zero, i.size, i.bytes)) = some (some (.agg #[.int .i64 0, .string ⟨#[]⟩, .int .i64 0, .int .i64 0, .string ⟨#[]⟩, .int .i64 0, .int .i64 0]), 7, 72) := by kernel_rfl

/-- m[x] = 1 AT THE OPERATION. -/
theorem wpList_mapX (w : World) {ops : Array Oper} {rest : List Oper} {o : Oper} {a : Act} {Q : Exit → Act → World → Prop} (hg : o.guard = none) (m x v : Operand) (hop : o.op = Op.mapUpdate 97 m x v)
    (b : Nat) (L : List Ex) (y : Ex) (hm : a.eval m = .map (some b)) (hx : a.eval x = exV y) (hv : a.eval v = .int .i64 1) (hM : Mx w b L) (hn : L.any (eqE y) = false)
    (hK : ∀ w', Mx w' b (L ++ [y]) → w.grownBy w' (some b) → wpList Try.prog ops Q rest (a.put o.dst undef) w') : wpList Try.prog ops Q (o :: rest) a w := by
  refine wpList_plain hg fun K' hK' => ?_
  obtain ⟨w', hrun, r1, r2⟩ := hM.update y hn
  unfold Oper.wp
  simp [execOp, hop, hm, hx, hv, hrun, Result.andThen]
  exact hK' _ _ (hK w' r1 r2)

/-- The expressions so far: the row, and the map. -/
structure EX (w : World) (L : List Ex) (wr : World) (o : Value) : Prop where
  row : wr.ownsRow w.heap.size 73 7 o L.length (L.flatMap Ex.cs)
  mp : Mx wr (w.heap.size + 1) L
  be : Below w.heap.size w wr
theorem EX.below {w : World} {L : List Ex} {wr q : World} {o : Value} (h : EX w L wr o) (hq : Below wr.heap.size wr q) : EX w L q o := ⟨own_below h.row hq, h.mp.below hq, h.be.trans (hq.mono h.be.size)⟩
theorem EX.lt {w : World} {L : List Ex} {wr : World} {o : Value} (h : EX w L wr o) : w.heap.size + 1 < wr.heap.size := by
  obtain ⟨es, clock, hb, _⟩ := h.mp
  exact lt_of_obj hb
theorem EX.ne {w : World} {L : List Ex} {wr : World} {o : Value} (h : EX w L wr o) : o.ownBlock ≠ some (w.heap.size + 1) := by
  intro he
  obtain ⟨es, clock, hb, _⟩ := h.mp
  rcases h.row.2 with ⟨rfl, _⟩ | ⟨g, cap, cur, rfl, hbg, hg, _⟩
  · cases he
  · cases he
    rw [hg] at hb
    cases hb

set_option maxRecDepth 100000 in
set_option maxHeartbeats 4000000 in
theorem exprs_any (P : List Bl) (pv : Value) (w : World) (h : Pg w pv P) (h12 : P.length ≤ 12) (hl12 : ∀ b ∈ P, b.l.length ≤ 12) :
    Calls Try.prog 24 #[.agg #[pv]] w fun e w' => ∃ o, e = .returned o ∧ w'.ownsRow w.heap.size 73 7 o (exprsOf P).length ((exprsOf P).flatMap Ex.cs) ∧ Below w.heap.size w w' := by
  obtain ⟨i0, hi, hz0, hz1, hz2⟩ := info_parts ex_info
  obtain ⟨bb, off, p, cap, rfl, hp, hc⟩ := Pg.open h
  clear h
  have hmk : ∀ W : World, (Instr.makeMap 97 none).run Try.prog W = .ok (.map (some W.heap.size)) (W.alloc (.map #[] 0)) := fun W => by simp [Instr.makeMap]
  have hE0 : EX w [] ((w.alloc (.cells #[.slice p P.length cap] 57)).alloc (.map #[] 0)) (.slice none 0 0) := by
    refine ⟨World.ownsRow_nil _ _ _ _, ?_, ((Below.refl _ _).alloc (Nat.le_refl _) _).alloc (by simp) _⟩
    have := Mx.made (w.alloc (.cells #[.slice p P.length cap] 57))
    rwa [show (w.alloc (.cells #[.slice p P.length cap] 57)).heap.size = w.heap.size + 1 by simp] at this
  go_enter Try.func24, Try.ntmps24
  go_wp2_with fail
  go_loopw [3, 15] (fun o i wr => ∃ k : Nat, k ≤ P.length ∧ i = .int .i64 k ∧ EX w (exprsOf (P.take k)) wr o) (fun _ i _ => P.length - (intOf i).toNat)
  case atStart => exact ⟨0, Nat.zero_le _, rfl, hE0⟩
  case round =>
    obtain ⟨k, hk, rfl, hX⟩ := hrel
    clear hE0
    have hB := hX.be
    have hw := hB.size
    obtain ⟨op, oc, rfl⟩ : ∃ p c, _ = Value.slice p (exprsOf (P.take k)).length c := own_len hX.row
    by_cases hlt : k < P.length
    · obtain rfl := hp (by omega)
      have hlt2 : (k : Int) < P.length := by omega
      have hcw : ∀ r u, ((P[k]'hlt).cs)[r]? = some u → wr.cell? ⟨bb, off + k * 8 + r, none⟩ = some u := fun r u hu => by
        rw [Nat.add_assoc]
        have h7 := (hc k hlt).1 r u hu
        exact (hB.cell (p := ⟨bb, off + (k * 8 + r), none⟩) (World.block_lt_of_cell? _ _ h7)).trans h7
      have hsl := (hc k hlt).2
      have hlen := hl12 _ (List.getElem_mem hlt)
      have hHn : Hid (exprsOf (P.take (k + 1)) = stX (exprsOf (P.take k)) (P[k]'hlt).l) := exprs_next P k hlt
      have hxl := exprs_len hl12 k (by omega)
      clear hc
      generalize P[k]'hlt = B at hcw hsl hlen hHn
      generalize exprsOf (P.take k) = L0 at hX hHn hxl
      obtain ⟨lb, loff, lp, lcap, hlv, hlp, hlc⟩ := hsl.open St.cs_len
      have c0 : wr.cell? ⟨bb, off + k * 8, none⟩ = some (.string B.n) := hcw 0 _ rfl
      have hbw := World.block_lt_of_cell? _ _ c0
      have c1 := hcw 1 _ rfl
      have c2 := hcw 2 _ rfl
      have c3 := hcw 3 _ rfl
      have c4 := hcw 4 _ rfl
      have c5 := hcw 5 _ rfl
      have c6 := hcw 6 _ rfl
      have c7 := hcw 7 _ rfl
      clear hcw
      rw [hlv] at c1
      go_wp2_with fail
      obtain ⟨W1, hW1⟩ : ∃ W1, W1 = wr.alloc (.cells #[.string B.n, .slice lp B.l.length lcap, .int .i64 B.t.k, .string B.t.x.v, .int .i64 B.t.x.a, .int .i64 B.t.x.b, .string B.t.t, .string B.t.e] 91) := ⟨_, rfl⟩
      have hX1 : EX w L0 W1 (.slice op L0.length oc) := by rw [hW1]; exact hX.below ((Below.refl _ _).alloc (Nat.le_refl _) _)
      rw [← hW1]
      clear hW1 c0 c1 c2 c3 c4 c5 c6 c7 hX hbw hlv
      go_loopw [3, 22] (fun o i wr => ∃ j : Nat, j ≤ B.l.length ∧ i = .int .i64 j ∧ EX w (stX L0 (B.l.take j)) wr o) (fun _ i _ => B.l.length - (intOf i).toNat)
      case atStart => exact ⟨0, Nat.zero_le _, rfl, hX1⟩
      case round =>
        obtain ⟨j, hj, rfl, hXj⟩ := hrel
        clear hX1
        have hBj := hXj.be
        have hwj := hBj.size
        obtain ⟨op, oc, rfl⟩ : ∃ p c, _ = Value.slice p (stX L0 (B.l.take j)).length c := own_len hXj.row
        by_cases hjt : j < B.l.length
        · obtain rfl := hlp (by omega)
          have hjt2 : (j : Int) < B.l.length := by omega
          have hcj : ∀ r u, ((B.l[j]'hjt).cs)[r]? = some u → wr.cell? ⟨lb, loff + j * 9 + r, none⟩ = some u := fun r u hu => by
            rw [Nat.add_assoc]
            exact (hBj.cell (p := ⟨lb, loff + (j * 9 + r), none⟩) (World.block_lt_of_cell? _ _ (hlc j hjt r u hu))).trans (hlc j hjt r u hu)
          have hH2 : Hid (stX L0 (B.l.take (j + 1)) = addX (stX L0 (B.l.take j)) (B.l[j]'hjt)) := stX_next L0 B.l j hjt
          have hll := stX_len L0 (B.l.take j)
          have hl3 : (B.l.take j).length ≤ 12 := by rw [List.length_take]; omega
          clear hlc
          generalize (B.l[j]'hjt) = s at hcj hH2
          generalize stX L0 (B.l.take j) = L1 at hXj hH2 hll
          have e0 : wr.cell? ⟨lb, loff + j * 9, none⟩ = some (.int .i64 s.k) := hcj 0 _ rfl
          have hbq := World.block_lt_of_cell? _ _ e0
          have e1 := hcj 1 _ rfl
          have e2 := hcj 2 _ rfl
          have e3 := hcj 3 _ rfl
          have e4 := hcj 4 _ rfl
          have e5 := hcj 5 _ rfl
          have e6 := hcj 6 _ rfl
          have e7 := hcj 7 _ rfl
          have e8 := hcj 8 _ rfl
          clear hcj
          obtain ⟨sk, sv, ⟨sop, ⟨v1, a1, b1⟩, ⟨v2, a2, b2⟩⟩⟩ := s
          have hat := fun W : World => atoms_any sop v1 a1 b1 v2 a2 b2 W
          have hal : (atomsOf ⟨sop, ⟨v1, a1, b1⟩, ⟨v2, a2, b2⟩⟩).length ≤ 1000 := by
            unfold atomsOf
            split
            · simp
            · split <;> simp
          have hco := fun v W hS => containsX_any (atomsOf ⟨sop, ⟨v1, a1, b1⟩, ⟨v2, a2, b2⟩⟩) hal v W hS
          have hadd : Hid (addX L1 ⟨sk, sv, ⟨sop, ⟨v1, a1, b1⟩, ⟨v2, a2, b2⟩⟩⟩ = if sk = 1 ∧ sop ≠ 0 ∧ (atomsOf ⟨sop, ⟨v1, a1, b1⟩, ⟨v2, a2, b2⟩⟩).all noV = false ∧ L1.any (eqE ⟨sop, ⟨v1, a1, b1⟩, ⟨v2, a2, b2⟩⟩) = false then L1 ++ [⟨sop, ⟨v1, a1, b1⟩, ⟨v2, a2, b2⟩⟩] else L1) := rfl
          have hno : (sk ≠ 1 ∨ sop = 0 ∨ (atomsOf ⟨sop, ⟨v1, a1, b1⟩, ⟨v2, a2, b2⟩⟩).all noV = true ∨ L1.any (eqE ⟨sop, ⟨v1, a1, b1⟩, ⟨v2, a2, b2⟩⟩) = true) → stX L0 (B.l.take (j + 1)) = L1 := fun hh => by
            rw [show stX L0 (B.l.take (j + 1)) = _ from hH2, show addX L1 _ = _ from hadd, if_neg]
            rintro ⟨g1, g2, g3, g4⟩
            rcases hh with hh | hh | hh | hh
            · exact hh g1
            · exact g2 hh
            · rw [g3] at hh; cases hh
            · rw [g4] at hh; cases hh
          have hyes : sk = 1 → sop ≠ 0 → (atomsOf ⟨sop, ⟨v1, a1, b1⟩, ⟨v2, a2, b2⟩⟩).all noV = false → L1.any (eqE ⟨sop, ⟨v1, a1, b1⟩, ⟨v2, a2, b2⟩⟩) = false → stX L0 (B.l.take (j + 1)) = L1 ++ [⟨sop, ⟨v1, a1, b1⟩, ⟨v2, a2, b2⟩⟩] := fun g1 g2 g3 g4 => by
            rw [show stX L0 (B.l.take (j + 1)) = _ from hH2, show addX L1 _ = _ from hadd, if_pos ⟨g1, g2, g3, g4⟩]
          clear hadd
          generalize atomsOf ⟨sop, ⟨v1, a1, b1⟩, ⟨v2, a2, b2⟩⟩ = A at hat hco hno hyes hal
          generalize hnvv : A.all noV = nv at hco hno hyes
          clear hnvv
          have e0 : wr.cell? ⟨lb, loff + j * 9, none⟩ = some (.int .i64 sk) := e0
          have e1 : wr.cell? ⟨lb, loff + j * 9 + 1, none⟩ = some (.string sv) := e1
          have e2 : wr.cell? ⟨lb, loff + j * 9 + 2, none⟩ = some (.int .i64 sop) := e2
          have e3 : wr.cell? ⟨lb, loff + j * 9 + 3, none⟩ = some (.string v1) := e3
          have e4 : wr.cell? ⟨lb, loff + j * 9 + 4, none⟩ = some (.int .i64 a1) := e4
          have e5 : wr.cell? ⟨lb, loff + j * 9 + 5, none⟩ = some (.int .i64 b1) := e5
          have e6 : wr.cell? ⟨lb, loff + j * 9 + 6, none⟩ = some (.string v2) := e6
          have e7 : wr.cell? ⟨lb, loff + j * 9 + 7, none⟩ = some (.int .i64 a2) := e7
          have e8 : wr.cell? ⟨lb, loff + j * 9 + 8, none⟩ = some (.int .i64 b2) := e8
          have hXb : ∀ q, Below ((wr.alloc (.cells #[.int .i64 sk, .string sv, .int .i64 sop, .string v1, .int .i64 a1, .int .i64 b1, .string v2, .int .i64 a2, .int .i64 b2] 86)).alloc (.cells #[.int .i64 sop, .string v1, .int .i64 a1, .int .i64 b1, .string v2, .int .i64 a2, .int .i64 b2] 73)).heap.size ((wr.alloc (.cells #[.int .i64 sk, .string sv, .int .i64 sop, .string v1, .int .i64 a1, .int .i64 b1, .string v2, .int .i64 a2, .int .i64 b2] 86)).alloc (.cells #[.int .i64 sop, .string v1, .int .i64 a1, .int .i64 b1, .string v2, .int .i64 a2, .int .i64 b2] 73)) q → EX w L1 q (.slice op L1.length oc) := fun q hq =>
            (hXj.below (((Below.refl wr.heap.size wr).alloc (Nat.le_refl _) _).alloc (by simp) _)).below hq
          by_cases h1 : sk = 1
          · subst h1
            by_cases h2 : sop = 0
            · subst h2
              have hnn : Hid (stX L0 (B.l.take (j + 1)) = L1) := hno (.inr (.inl rfl))
              clear hno
              clear hyes
              go_wp2_with (first | ((go_at_call 46; refine' Calls.aftS _ _ (hat _) _; rotate_left 2; (exact Below.refl _ _; rfl); intro av x1 ho1; have hle := After.le x1; (try simp at hle)); obtain ⟨ap, ac, rfl⟩ : ∃ p c, av = .slice p A.length c := by obtain ⟨b, off, p, cap, hv, _⟩ := ho1; exact ⟨p, cap, hv⟩) | (go_at_call 45; refine' Calls.aft _ _ (hco _ _ ho1) _; rotate_left 2; (exact Below.refl _ _; rfl); intro x2; have hle := After.le x2; (try simp at hle)))
              refine ⟨⟨j + 1, by omega, by simp, ?_⟩, by simp [intOf]; omega⟩
              rw [show stX L0 (B.l.take (j + 1)) = L1 from hnn]
              exact hXb _ (x1.below.trans (x2.below.mono x1.below.size))
            · cases nv
              · have hlk : ∀ q, Below ((wr.alloc (.cells #[.int .i64 1, .string sv, .int .i64 sop, .string v1, .int .i64 a1, .int .i64 b1, .string v2, .int .i64 a2, .int .i64 b2] 86)).alloc (.cells #[.int .i64 sop, .string v1, .int .i64 a1, .int .i64 b1, .string v2, .int .i64 a2, .int .i64 b2] 73)).heap.size ((wr.alloc (.cells #[.int .i64 1, .string sv, .int .i64 sop, .string v1, .int .i64 a1, .int .i64 b1, .string v2, .int .i64 a2, .int .i64 b2] 86)).alloc (.cells #[.int .i64 sop, .string v1, .int .i64 a1, .int .i64 b1, .string v2, .int .i64 a2, .int .i64 b2] 73)) q → (Instr.lookup 97 (.map (some (w.heap.size + 1))) (.agg #[.int .i64 sop, .string v1, .int .i64 a1, .int .i64 b1, .string v2, .int .i64 a2, .int .i64 b2]) false).run Try.prog q = .ok (.int .i64 (if L1.any (eqE ⟨sop, ⟨v1, a1, b1⟩, ⟨v2, a2, b2⟩⟩) = true then 1 else 0)) q := fun q hq => (hXb q hq).mp.lookup ⟨sop, ⟨v1, a1, b1⟩, ⟨v2, a2, b2⟩⟩
                cases hany : L1.any (eqE ⟨sop, ⟨v1, a1, b1⟩, ⟨v2, a2, b2⟩⟩)
                · have hyy : Hid (stX L0 (B.l.take (j + 1)) = L1 ++ [⟨sop, ⟨v1, a1, b1⟩, ⟨v2, a2, b2⟩⟩]) := hyes rfl h2 rfl hany
                  rw [hany] at hlk
                  have hlk : ∀ q, Below ((wr.alloc (.cells #[.int .i64 1, .string sv, .int .i64 sop, .string v1, .int .i64 a1, .int .i64 b1, .string v2, .int .i64 a2, .int .i64 b2] 86)).alloc (.cells #[.int .i64 sop, .string v1, .int .i64 a1, .int .i64 b1, .string v2, .int .i64 a2, .int .i64 b2] 73)).heap.size ((wr.alloc (.cells #[.int .i64 1, .string sv, .int .i64 sop, .string v1, .int .i64 a1, .int .i64 b1, .string v2, .int .i64 a2, .int .i64 b2] 86)).alloc (.cells #[.int .i64 sop, .string v1, .int .i64 a1, .int .i64 b1, .string v2, .int .i64 a2, .int .i64 b2] 73)) q → (Instr.lookup 97 (.map (some (w.heap.size + 1))) (.agg #[.int .i64 sop, .string v1, .int .i64 a1, .int .i64 b1, .string v2, .int .i64 a2, .int .i64 b2]) false).run Try.prog q = .ok (.int .i64 0) q := hlk
                  have hbx := heap_alloc_new (wr.alloc (.cells #[.int .i64 1, .string sv, .int .i64 sop, .string v1, .int .i64 a1, .int .i64 b1, .string v2, .int .i64 a2, .int .i64 b2] 86)) (.cells #[.int .i64 sop, .string v1, .int .i64 a1, .int .i64 b1, .string v2, .int .i64 a2, .int .i64 b2] 73)
                  rw [show (wr.alloc (.cells #[.int .i64 1, .string sv, .int .i64 sop, .string v1, .int .i64 a1, .int .i64 b1, .string v2, .int .i64 a2, .int .i64 b2] 86)).heap.size = wr.heap.size + 1 by simp] at hbx
                  have hmb := hXj.lt
                  clear hno hyes
                  go_wp2_with (first | ((go_at_call 46; refine' Calls.aftS _ _ (hat _) _; rotate_left 2; (exact Below.refl _ _; rfl); intro av x1 ho1; have hle := After.le x1; (try simp at hle)); obtain ⟨ap, ac, rfl⟩ : ∃ p c, av = .slice p A.length c := by obtain ⟨b, off, p, cap, hv, _⟩ := ho1; exact ⟨p, cap, hv⟩) | ((go_at_call 45; refine' Calls.aft _ _ (hco _ _ ho1) _; rotate_left 2; (exact Below.refl _ _; rfl); intro x2; have hle := After.le x2; (try simp at hle)); have hb2 := x1.below.trans (x2.below.mono x1.below.size); have hlq := hlk _ hb2; have hX2 := hXb _ hb2; have hbx2 := (hb2.block _ (lt_of_obj hbx)).trans hbx) | (at_mapUpdate; refine wpList_mapX _ rfl _ _ _ rfl (w.heap.size + 1) L1 ⟨sop, ⟨v1, a1, b1⟩, ⟨v2, a2, b2⟩⟩ rfl rfl rfl hX2.mp hany ?_; intro W3 hM3 hg3; have hbx3 := (hg3.block _ (lt_of_obj hbx2) (by simp; omega)).trans hbx2; have q0 := (cell_of_row W3 _ 0 _ _ (0, 0) hbx3).trans (rfl : _ = some (Value.int .i64 sop)); have q1 := (cell_of_row W3 _ 1 _ _ (0, 0) hbx3).trans (rfl : _ = some (Value.string v1)); have q2 := (cell_of_row W3 _ 2 _ _ (0, 0) hbx3).trans (rfl : _ = some (Value.int .i64 a1)); have q3 := (cell_of_row W3 _ 3 _ _ (0, 0) hbx3).trans (rfl : _ = some (Value.int .i64 b1)); have q4 := (cell_of_row W3 _ 4 _ _ (0, 0) hbx3).trans (rfl : _ = some (Value.string v2)); have q5 := (cell_of_row W3 _ 5 _ _ (0, 0) hbx3).trans (rfl : _ = some (Value.int .i64 a2)); have q6 := (cell_of_row W3 _ 6 _ _ (0, 0) hbx3).trans (rfl : _ = some (Value.int .i64 b2)); have ql := lt_of_obj hbx3; have hr3 := hX2.row.kept hg3 (.inr hX2.ne); have hB3 : Below w.heap.size w W3 := Below.grown (w := _) hX2.be hg3 hX2.be.size (fun q hq => by cases hq; omega)) | (at_builtin; refine wpList_append_own _ rfl _ _ 62 rfl w.heap.size 73 i0 (.agg #[.int .i64 0, .string ⟨#[]⟩, .int .i64 0, .int .i64 0, .string ⟨#[]⟩, .int .i64 0, .int .i64 0]) 7 72 Try.underlying62 hi hz0 hz1 hz2 rfl (by decide) _ L1.length (L1.flatMap Ex.cs) rfl (hr3.alloc _) _ 1 1 [.int .i64 sop, .string v1, .int .i64 a1, .int .i64 b1, .string v2, .int .i64 a2, .int .i64 b2] rfl rfl (news_at rfl) (by intro u hu; simp at hu; rcases hu with rfl | rfl | rfl | rfl | rfl | rfl | rfl <;> rfl) (by unfold maxLen; omega) (by omega) (by have := hB3.size; simp; omega) ?_; intro v6 W6 ho6 hg6 hv6))
                  have hEn : EX w (L1 ++ [⟨sop, ⟨v1, a1, b1⟩, ⟨v2, a2, b2⟩⟩]) W6 v6 := by
                    refine ⟨?_, ?_, ?_⟩
                    · rw [List.flatMap_append, List.length_append]
                      exact ho6
                    · exact (hM3.below ((Below.refl W3.heap.size W3).alloc (Nat.le_refl _) _)).kept hg6 (fun he => hX2.ne he.symm)
                    · exact Below.grown (w := _) (hB3.alloc hB3.size _) hg6 (by have := hB3.size; simp; omega) (fun q hq => (hr3.lt q hq).1)
                  go_roundw
                  case rel => exact ⟨j + 1, by omega, by simp, by rw [show stX L0 (B.l.take (j + 1)) = _ from hyy]; exact hEn⟩
                  case measure => simp [intOf]; omega
                · have hnn : Hid (stX L0 (B.l.take (j + 1)) = L1) := hno (.inr (.inr (.inr hany)))
                  clear hno
                  rw [hany] at hlk
                  have hlk : ∀ q, Below ((wr.alloc (.cells #[.int .i64 1, .string sv, .int .i64 sop, .string v1, .int .i64 a1, .int .i64 b1, .string v2, .int .i64 a2, .int .i64 b2] 86)).alloc (.cells #[.int .i64 sop, .string v1, .int .i64 a1, .int .i64 b1, .string v2, .int .i64 a2, .int .i64 b2] 73)).heap.size ((wr.alloc (.cells #[.int .i64 1, .string sv, .int .i64 sop, .string v1, .int .i64 a1, .int .i64 b1, .string v2, .int .i64 a2, .int .i64 b2] 86)).alloc (.cells #[.int .i64 sop, .string v1, .int .i64 a1, .int .i64 b1, .string v2, .int .i64 a2, .int .i64 b2] 73)) q → (Instr.lookup 97 (.map (some (w.heap.size + 1))) (.agg #[.int .i64 sop, .string v1, .int .i64 a1, .int .i64 b1, .string v2, .int .i64 a2, .int .i64 b2]) false).run Try.prog q = .ok (.int .i64 1) q := hlk
                  clear hyes
                  go_wp2_with (first | ((go_at_call 46; refine' Calls.aftS _ _ (hat _) _; rotate_left 2; (exact Below.refl _ _; rfl); intro av x1 ho1; have hle := After.le x1; (try simp at hle)); obtain ⟨ap, ac, rfl⟩ : ∃ p c, av = .slice p A.length c := by obtain ⟨b, off, p, cap, hv, _⟩ := ho1; exact ⟨p, cap, hv⟩) | ((go_at_call 45; refine' Calls.aft _ _ (hco _ _ ho1) _; rotate_left 2; (exact Below.refl _ _; rfl); intro x2; have hle := After.le x2; (try simp at hle)); have hlq := hlk _ (x1.below.trans (x2.below.mono x1.below.size))))
                  refine ⟨⟨j + 1, by omega, by simp, ?_⟩, by simp [intOf]; omega⟩
                  rw [show stX L0 (B.l.take (j + 1)) = L1 from hnn]
                  exact hXb _ (x1.below.trans (x2.below.mono x1.below.size))
              · have hnn : Hid (stX L0 (B.l.take (j + 1)) = L1) := hno (.inr (.inr (.inl rfl)))
                clear hno
                clear hyes
                go_wp2_with (first | ((go_at_call 46; refine' Calls.aftS _ _ (hat _) _; rotate_left 2; (exact Below.refl _ _; rfl); intro av x1 ho1; have hle := After.le x1; (try simp at hle)); obtain ⟨ap, ac, rfl⟩ : ∃ p c, av = .slice p A.length c := by obtain ⟨b, off, p, cap, hv, _⟩ := ho1; exact ⟨p, cap, hv⟩) | (go_at_call 45; refine' Calls.aft _ _ (hco _ _ ho1) _; rotate_left 2; (exact Below.refl _ _; rfl); intro x2; have hle := After.le x2; (try simp at hle)))
                refine ⟨⟨j + 1, by omega, by simp, ?_⟩, by simp [intOf]; omega⟩
                rw [show stX L0 (B.l.take (j + 1)) = L1 from hnn]
                exact hXb _ (x1.below.trans (x2.below.mono x1.below.size))
          · have hnn : Hid (stX L0 (B.l.take (j + 1)) = L1) := hno (.inl h1)
            clear hno
            clear hyes
            go_wp2_with (first | ((go_at_call 46; refine' Calls.aftS _ _ (hat _) _; rotate_left 2; (exact Below.refl _ _; rfl); intro av x1 ho1; have hle := After.le x1; (try simp at hle)); obtain ⟨ap, ac, rfl⟩ : ∃ p c, av = .slice p A.length c := by obtain ⟨b, off, p, cap, hv, _⟩ := ho1; exact ⟨p, cap, hv⟩) | (go_at_call 45; refine' Calls.aft _ _ (hco _ _ ho1) _; rotate_left 2; (exact Below.refl _ _; rfl); intro x2; have hle := After.le x2; (try simp at hle)))
            refine ⟨⟨j + 1, by omega, by simp, ?_⟩, by simp [intOf]; omega⟩
            rw [show stX L0 (B.l.take (j + 1)) = L1 from hnn]
            exact hXb _ (x1.below.trans (x2.below.mono x1.below.size))
        · have hks : j = B.l.length := by omega
          subst hks
          have hjt2 : ¬ (B.l.length : Int) < B.l.length := by omega
          go_wp2_with fail
          go_roundw
          case rel => exact ⟨k + 1, by omega, by simp, by rw [show exprsOf (P.take (k + 1)) = _ from hHn]; have h9 := hXj; simp only [List.take_length] at h9 ⊢; exact h9⟩
          case measure => simp [intOf]; omega
    · have hks : k = P.length := by omega
      subst hks
      have hlt2 : ¬ (P.length : Int) < P.length := by omega
      go_wp2_with fail
      refine bodyPost_ret (v := .slice op (exprsOf (P.take P.length)).length oc) (by simp only [results, Try.results24]; go_simp) rfl ⟨_, rfl, ?_, hB⟩
      have := hX.row
      rw [List.take_length] at this ⊢
      exact this

end Go.Proofs.Ytjjmoibnmdbpeaa.Pr

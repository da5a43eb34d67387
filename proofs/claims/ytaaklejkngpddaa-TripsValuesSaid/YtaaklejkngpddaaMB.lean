/- MAPS keyed by expressions; tables.Exprs. tables.Exprs: whether an expression has a variable. trips.has. The closures of trips.Known. WALK of the second closure of trips.Known. WALK of trips.walk with the closures of trips.Known; trips.Known. -/
import Derived.Test.YtaaklejkngpddaaEqs
import Derived.Test.YtaaklejkngpddaaChki
import Derived.Maps.Own
import Derived.Test.YtaaklejkngpddaaChke
import Derived.Test.YtaaklejkngpddaaMA
import Derived.BigQuiet

namespace Go.Proofs.Ytaaklejkngpddaa.Pr
set_option linter.unusedVariables false
set_option linter.unusedSimpArgs false
open Go Go.RowKit

def exV (x : Ex) : Value := .agg #[.int .i64 x.op, .string x.x.v, .int .i64 x.x.a, .int .i64 x.x.b, .string x.y.v, .int .i64 x.y.a, .int .i64 x.y.b]

set_option maxRecDepth 100000 in
theorem eqX0 (op : Int) (v : ByteArray) (a b : Int) (vy : ByteArray) (ay bY : Int) (op2 : Int) (v2 : ByteArray) (a2 b2 : Int) (vy2 : ByteArray) (ay2 by2 : Int) (w : World) :
    (Op.equal 31 (exV ⟨op, ⟨v, a, b⟩, ⟨vy, ay, bY⟩⟩) (exV ⟨op2, ⟨v2, a2, b2⟩, ⟨vy2, ay2, by2⟩⟩)).run Try.prog w = .ok (eqE ⟨op, ⟨v, a, b⟩, ⟨vy, ay, bY⟩⟩ ⟨op2, ⟨v2, a2, b2⟩, ⟨vy2, ay2, by2⟩⟩) w := by
  have u3 := Try.underlying3
  have a3 := Try.isAgg3
  have z3 := Try.sizeOf3
  have u9 := Try.underlying9
  have a9 := Try.isAgg9
  have z9 := Try.sizeOf9
  have u7 := Try.underlying27
  have a7 := Try.isAgg27
  have z7 := Try.sizeOf27
  have u8 := Try.underlying29
  have a8 := Try.isAgg29
  have z8 := Try.sizeOf29
  have u6 := Try.underlying31
  have a6 := Try.isAgg31
  have z6 := Try.sizeOf31
  have hmd : Op.maxDepth = 10000 := rfl
  unfold exV Op.equal
  rw [hmd]
  simp only [eqA, eqE]
  go_simp
  by_cases h0 : op = op2
  rotate_left
  · simp [h0]
  by_cases h1 : v.toList = v2.toList
  rotate_left
  · simp [h0, h1]
  by_cases h2 : a = a2
  rotate_left
  · simp [h0, h1, h2]
  by_cases h3 : b = b2
  rotate_left
  · simp [h0, h1, h2, h3]
  by_cases h4 : vy.toList = vy2.toList
  rotate_left
  · simp [h0, h1, h2, h3, h4]
  by_cases h5 : ay = ay2
  rotate_left
  · simp [h0, h1, h2, h3, h4, h5]
  by_cases h6 : bY = by2 <;> simp [h0, h1, h2, h3, h4, h5, h6]
theorem eqX (x y : Ex) (w : World) : (Op.equal 31 (exV x) (exV y)).run Try.prog w = .ok (eqE x y) w := by
  obtain ⟨op, ⟨v, a, b⟩, ⟨vy, ay, bY⟩⟩ := x
  obtain ⟨op2, ⟨v2, a2, b2⟩, ⟨vy2, ay2, by2⟩⟩ := y
  exact eqX0 _ _ _ _ _ _ _ _ _ _ _ _ _ _ w

theorem ckI (em : Bool) (n : Nat) (a : Int) (w : World) : (Instr.checkKey em (n + 1) 3 (.int .i64 a)).run Try.prog w = .ok () w := by
  have u3 := Try.underlying3
  unfold Instr.checkKey
  go_simp
theorem ckS (em : Bool) (n : Nat) (s : ByteArray) (w : World) : (Instr.checkKey em (n + 1) 9 (.string s)).run Try.prog w = .ok () w := by
  have u9 := Try.underlying9
  unfold Instr.checkKey
  go_simp
theorem ckN (em : Bool) (n : Nat) (a b : Int) (w : World) : (Instr.checkKey em (n + 1 + 1) 27 (.agg #[.int .i64 a, .int .i64 b])).run Try.prog w = .ok () w := by
  have u7 := Try.underlying27
  have a3 := Try.isAgg3
  have z3 := Try.sizeOf3
  have h1 := fun a w => ckI em n a w
  rw [Instr.checkKey]
  go_simp
theorem ckA (em : Bool) (n : Nat) (v : ByteArray) (a b : Int) (w : World) : (Instr.checkKey em (n + 1 + 1 + 1) 29 (.agg #[.string v, .int .i64 a, .int .i64 b])).run Try.prog w = .ok () w := by
  have u8 := Try.underlying29
  have a9 := Try.isAgg9
  have z9 := Try.sizeOf9
  have a7 := Try.isAgg27
  have z7 := Try.sizeOf27
  have h1 := fun a w => ckS em (n + 1) a w
  have h2 := fun a b w => ckN em n a b w
  rw [Instr.checkKey]
  go_simp
theorem ckX (x : Ex) (em : Bool) (w : World) : (Instr.checkKey em 10000 31 (exV x)).run Try.prog w = .ok () w := by
  have u6 := Try.underlying31
  have a3 := Try.isAgg3
  have z3 := Try.sizeOf3
  have a8 := Try.isAgg29
  have z8 := Try.sizeOf29
  have h1 := fun a w => ckI em 9998 a w
  have h2 := fun v a b w => ckA em 9996 v a b w
  unfold exV
  rw [Instr.checkKey]
  go_simp

theorem lt_of_obj {W : World} {k : Nat} {o : Obj} (h : W.heap[k]? = some o) : k < W.heap.size := (Array.getElem?_eq_some_iff.1 h).1

/-- The block is a map whose keys are these expressions, each at 1. -/
def Mx (W : World) (b : Nat) (L : List Ex) : Prop := ∃ es clock, W.heap[b]? = some (.map es clock) ∧ es.toList.map MapEntry.key = L.map exV ∧ ∀ e ∈ es.toList, e.val = .int .i64 1

theorem findX (x : Ex) (w : World) : ∀ (L : List Ex) (es : List MapEntry) (i : Nat), es.map MapEntry.key = L.map exV → (∀ e ∈ es, e.val = .int .i64 1) →
    ∃ r, (Instr.findAsking 31 (exV x) es i).run Try.prog w = .ok r w ∧ ((L.any (eqE x) = true ∧ ∃ j, r = some (j, .int .i64 1)) ∨ (L.any (eqE x) = false ∧ r = none))
  | [], [], i, _, _ => ⟨none, by simp [Instr.findAsking], .inr ⟨rfl, rfl⟩⟩
  | [], e :: es, i, h, _ => by simp at h
  | y :: L, [], i, h, _ => by simp at h
  | y :: L, e :: es, i, h, hv => by
    simp only [List.map_cons, List.cons.injEq] at h
    have h1 := hv e (by simp)
    cases he : eqE x y
    · obtain ⟨r, hr, hc⟩ := findX x w L es (i + 1) h.2 (fun e2 h2 => hv e2 (by simp [h2]))
      refine ⟨r, ?_, ?_⟩
      · simp [Instr.findAsking, h.1, eqX, he, hr]
      · rw [List.any_cons, he, Bool.false_or]
        exact hc
    · refine ⟨some (i, .int .i64 1), ?_, .inl ⟨by rw [List.any_cons, he, Bool.true_or], i, rfl⟩⟩
      simp [Instr.findAsking, h.1, eqX, he, h1]

theorem findKX (x : Ex) (w : World) (L : List Ex) (es : List MapEntry) (h : es.map MapEntry.key = L.map exV) (hv : ∀ e ∈ es, e.val = .int .i64 1) :
    ∃ r, (Instr.findKey 31 (exV x) es).run Try.prog w = .ok r w ∧ ((L.any (eqE x) = true ∧ ∃ j, r = some (j, .int .i64 1)) ∨ (L.any (eqE x) = false ∧ r = none)) := by
  have u6 := Try.underlying31
  cases es with
  | nil =>
    have : L = [] := by cases L with | nil => rfl | cons y L => simp at h
    subst this
    exact ⟨none, by simp [Instr.findKey, Instr.findNow, u6], .inr ⟨rfl, rfl⟩⟩
  | cons e es =>
    obtain ⟨r, hr, hc⟩ := findX x w L (e :: es) 0 h hv
    refine ⟨r, ?_, hc⟩
    simp [Instr.findKey, Instr.findNow, Instr.sameNow, u6, hr]

theorem Mx.lookup {W : World} {b : Nat} {L : List Ex} (h : Mx W b L) (x : Ex) : (Instr.lookup 123 (.map (some b)) (exV x) false).run Try.prog W = .ok (.int .i64 (if L.any (eqE x) = true then 1 else 0)) W := by
  obtain ⟨es, clock, hb, hk, hv⟩ := h
  have u := Try.underlying123
  obtain ⟨r, hr, hc⟩ := findKX x W L es.toList hk hv
  have hg := MapKept.run_getObj_map (P := Try.prog) hb
  have hz : (zeroValue 3).run Try.prog W = .ok (.int .i64 0) W := by go_simp
  rcases hc with ⟨ha, j, rfl⟩ | ⟨ha, rfl⟩
  · rw [if_pos ha]
    simp [Instr.lookup, u, hg, ckX, hr]
  · rw [if_neg (by rw [ha]; simp)]
    simp [Instr.lookup, u, hg, ckX, hr, hz]

theorem Mx.update {W : World} {b : Nat} {L : List Ex} (h : Mx W b L) (x : Ex) (hx : L.any (eqE x) = false) : ∃ W', (Instr.mapUpdate 123 (.map (some b)) (exV x) (.int .i64 1)).run Try.prog W = .ok () W' ∧ Mx W' b (L ++ [x]) ∧ W.grownBy W' (some b) := by
  obtain ⟨es, clock, hb, hk, hv⟩ := h
  have u := Try.underlying123
  obtain ⟨r, hr, hc⟩ := findKX x W L es.toList hk hv
  have hg := MapKept.run_getObj_map (P := Try.prog) hb
  rcases hc with ⟨ha, j, rfl⟩ | ⟨ha, rfl⟩
  · rw [hx] at ha
    cases ha
  · refine ⟨ChangeMaps.setBlock W b (.map (es.push ⟨exV x, .int .i64 1, clock⟩) (clock + 1)), ?_, ⟨_, _, ChangeMaps.heap_setBlock_same hb _, ?_, ?_⟩, ⟨rfl, rfl, rfl, by simp [ChangeMaps.setBlock], fun i _ hi => ChangeMaps.heap_setBlock_other hb _ (fun e => hi (by rw [e]))⟩⟩
    · simp [Instr.mapUpdate, u, hg, ckX, hr, MapKept.run_setObj_map _ hb, Result.andThen, ChangeMaps.setBlock]
    · simp [hk]
    · intro e he
      simp only [Array.toList_push, List.mem_append, List.mem_singleton] at he
      rcases he with he | rfl
      · exact hv e he
      · rfl

theorem Mx.kept {W W' : World} {b : Nat} {L : List Ex} {row : Option Nat} (h : Mx W b L) (hg : W.grownBy W' row) (hne : some b ≠ row) : Mx W' b L := by
  obtain ⟨es, clock, hb, hk, hv⟩ := h
  exact ⟨es, clock, (hg.block b (lt_of_obj hb) hne).trans hb, hk, hv⟩
theorem Mx.below {W W' : World} {b : Nat} {L : List Ex} (h : Mx W b L) (hB : Below W.heap.size W W') : Mx W' b L := by
  obtain ⟨es, clock, hb, hk, hv⟩ := h
  exact ⟨es, clock, (hB.block b (lt_of_obj hb)).trans hb, hk, hv⟩
theorem Mx.made (W : World) : Mx (W.alloc (.map #[] 0)) W.heap.size [] := ⟨#[], 0, heap_alloc_new _ _, rfl, fun e he => by simp at he⟩

end Go.Proofs.Ytaaklejkngpddaa.Pr

namespace Go.Proofs.Ytaaklejkngpddaa.Pr
set_option linter.unusedVariables false
set_option linter.unusedSimpArgs false
open Go Go.RowKit

/-- An atom has no variable. -/
def noV (a : At) : Bool := emptyB a.v

set_option maxRecDepth 100000 in
theorem exprs1_any (v : ByteArray) (a b : Int) (w : World) :
    Calls Try.prog 68 #[.agg #[.string v, .int .i64 a, .int .i64 b]] w fun e w' => e = .returned (.bool !(noV ⟨v, a, b⟩)) ∧ Below w.heap.size w w' := by
  show Calls Try.prog _ _ _ (fun e w' => e = .returned (.bool !(v.toList == [])) ∧ _)
  go_enter Try.func68, Try.ntmps68
  go_wp2_with fail
  refine bodyPost_ret (v := .bool !(v.toList == [])) (by simp only [results, Try.results68]; go_simp) rfl ⟨rfl, ?_⟩
  (repeat (first | exact Below.refl _ _ | apply Below.drew | refine Below.alloc ?_ ?_ _ | refine Below.setCell ?_ ?_ _ | refine Below.trans ?_ (Below.mono (After.below _) ?_))); (all_goals (first | (simp; done) | (simp; omega) | omega))

set_option maxRecDepth 100000 in
set_option maxHeartbeats 1000000 in
theorem indexX_any (L : List At) (hl : L.length ≤ 1000) (v : Value) (w : World) (h : Sl w v At.cs L) :
    Calls Try.prog 91 #[v, .func (.func 68) #[] #[]] w fun e w' => ∃ i : Int, e = .returned (.int .i64 i) ∧ decide (0 ≤ i) = (!(L.all noV)) ∧ Below w.heap.size w w' := by
  obtain ⟨b, off, p, cap, rfl, hp, hc⟩ := h.open At.cs_len
  obtain ⟨R, hR⟩ : ∃ R, Hid (L.all noV = R) := ⟨_, rfl⟩
  rw [hR]
  go_enter Try.func91, Try.ntmps91
  go_wp2_with fail
  go_loopw [8] (fun i wr => ∃ k : Nat, k ≤ L.length ∧ i = .int .i64 k ∧ (L.take k).all noV = true ∧ Below w.heap.size w wr) (fun i _ => L.length - (intOf i).toNat)
  case atStart => exact ⟨0, Nat.zero_le _, rfl, by simp, Below.refl _ _⟩
  case round =>
    obtain ⟨k, hk, rfl, hall, hB⟩ := hrel
    have hw := hB.size
    by_cases hlt : k < L.length
    · obtain rfl := hp (by omega)
      have hlt2 : (k : Int) < L.length := by omega
      have hbad : noV (L[k]'hlt) = false → R = false := fun h => by rw [← hR]; exact all_bad hlt h
      have hnext : noV (L[k]'hlt) = true → (L.take (k + 1)).all noV = true := fun h => all_next hlt hall h
      have hcr : ∀ r u, ((L[k]'hlt).cs)[r]? = some u → wr.cell? ⟨b, off + k * 3 + r, none⟩ = some u := fun r u hu => by
        rw [Nat.add_assoc]
        exact (hB.cell (p := ⟨b, off + (k * 3 + r), none⟩) (World.block_lt_of_cell? _ _ (hc k hlt r u hu))).trans (hc k hlt r u hu)
      clear hc hall
      generalize L[k]'hlt = s at hcr hbad hnext
      have e0 : wr.cell? ⟨b, off + k * 3, none⟩ = some (.string s.v) := hcr 0 _ rfl
      have hg := World.block_lt_of_cell? _ _ e0
      have e1 := hcr 1 _ rfl
      have e2 := hcr 2 _ rfl
      clear hcr
      have hra := exprs1_any s.v s.a s.b wr
      cases hn : noV s
      · rw [show (noV s) = false from hn] at hra
        have hf := hbad hn
        subst hf
        clear hbad hnext hn
        go_wp2_with ((go_at_call 68; refine' Calls.aft _ _ (hra) _; rotate_left 2; (exact Below.refl _ _; rfl); intro x1; have hle := After.le x1; (try simp at hle)))
        refine bodyPost_ret (v := .int .i64 k) (by simp only [results, Try.results91]; go_simp) rfl ⟨_, rfl, by simp, hB.trans (x1.below.mono hw)⟩
      · rw [show (noV s) = true from hn] at hra
        have hx := And.intro True.intro (hnext hn)
        clear hbad hnext hn
        go_wp2_with ((go_at_call 68; refine' Calls.aft _ _ (hra) _; rotate_left 2; (exact Below.refl _ _; rfl); intro x1; have hle := After.le x1; (try simp at hle)))
        go_roundw
        case rel => exact ⟨k + 1, by omega, by simp, hx.2, hB.trans (x1.below.mono hw)⟩
        case measure => simp [intOf]; omega
    · have hks : k = L.length := by omega
      subst hks
      have hlt2 : ¬ (L.length : Int) < L.length := by omega
      have hRt : R = true := by rw [← hR]; rw [List.take_length] at hall; exact hall
      subst hRt
      clear hc
      go_wp2_with fail
      refine bodyPost_ret (v := .int .i64 (-1)) (by simp only [results, Try.results91]; go_simp) rfl ⟨_, rfl, by decide, hB⟩

set_option maxRecDepth 100000 in
theorem containsX_any (L : List At) (hl : L.length ≤ 1000) (v : Value) (w : World) (h : Sl w v At.cs L) :
    Calls Try.prog 66 #[v, .func (.func 68) #[] #[]] w fun e w' => e = .returned (.bool !(L.all noV)) ∧ Below w.heap.size w w' := by
  have hix := indexX_any L hl v w h
  generalize L.all noV = z at hix ⊢
  obtain ⟨p, c, rfl⟩ : ∃ p c, v = .slice p L.length c := by obtain ⟨b, off, p, cap, hv, _⟩ := h; exact ⟨p, cap, hv⟩
  go_enter Try.func66, Try.ntmps66
  go_wp2_with ((go_at_call 91; refine' Calls.aftS _ _ (hix) _; rotate_left 2; (first | (with_reducible exact After.below _; rfl) | (with_reducible exact below_drew (After.below _); rfl) | (with_reducible exact below_set (After.below _) _ _; (go_simp; rfl)) | (with_reducible exact below_set (below_set (After.below _) _ _) _ _; (go_simp; rfl)) | (with_reducible exact below_set (below_set (below_set (After.below _) _ _) _ _) _ _; (go_simp; rfl)) | (with_reducible exact below_set (below_set (below_set (below_set (After.below _) _ _) _ _) _ _) _ _; (go_simp; rfl)) | (exact Below.refl _ _; rfl)); intro i x1 hi; have hle := After.le x1; (try simp at hle)))
  refine bodyPost_ret (v := .bool !z) (by simp only [results, Try.results66]; go_simp) rfl ⟨rfl, x1.below⟩

/-- The expressions so far, and a statement's. -/
def addX (L : List Ex) (s : St) : List Ex := if s.k = 1 ∧ s.e.op ≠ 0 ∧ (atomsOf s.e).all noV = false ∧ L.any (eqE s.e) = false then L ++ [s.e] else L
def stX (L : List Ex) (l : List St) : List Ex := l.foldl addX L
def exprsOf (P : List Bl) : List Ex := P.foldl (fun L b => stX L b.l) []
theorem stX_next (L : List Ex) (l : List St) (k : Nat) (hk : k < l.length) : stX L (l.take (k + 1)) = addX (stX L (l.take k)) (l[k]'hk) := by
  unfold stX
  rw [List.take_succ_eq_append_getElem hk, List.foldl_append]
  rfl
theorem exprs_next (P : List Bl) (k : Nat) (hk : k < P.length) : exprsOf (P.take (k + 1)) = stX (exprsOf (P.take k)) (P[k]'hk).l := by
  unfold exprsOf
  rw [List.take_succ_eq_append_getElem hk, List.foldl_append]
  rfl
theorem addX_len (L : List Ex) (s : St) : (addX L s).length ≤ L.length + 1 := by
  unfold addX
  split
  · simp
  · omega
theorem stX_len (L : List Ex) : ∀ (l : List St), (stX L l).length ≤ L.length + l.length := fun l => by
  unfold stX
  induction l generalizing L with
  | nil => simp
  | cons s l ih =>
    have h1 := ih (addX L s)
    have h2 := addX_len L s
    simp only [List.foldl_cons, List.length_cons]
    omega
theorem exprs_len {P : List Bl} (h : ∀ b ∈ P, b.l.length ≤ 12) : ∀ k, k ≤ P.length → (exprsOf (P.take k)).length ≤ 12 * k
  | 0, _ => by simp [exprsOf]
  | k + 1, hk => by
    have ih := exprs_len h k (by omega)
    rw [exprs_next P k (by omega)]
    have h1 := stX_len (exprsOf (P.take k)) (P[k]'(by omega)).l
    have h2 := h _ (List.getElem_mem (by omega : k < P.length))
    omega

theorem ex_info : (Try.prog.info? 31).map (fun i => (i.zero, i.size, i.bytes)) = some (some (.agg #[.int .i64 0, .string ⟨#[]⟩, .int .i64 0, .int .i64 0, .string ⟨#[]⟩, .int .i64 0, .int .i64 0]), 7, 72) := by kernel_rfl

/-- m[x] = 1 AT THE OPERATION. -/
theorem wpList_mapX (w : World) {ops : Array Oper} {rest : List Oper} {o : Oper} {a : Act} {Q : Exit → Act → World → Prop} (hg : o.guard = none) (m x v : Operand) (hop : o.op = Op.mapUpdate 123 m x v)
    (b : Nat) (L : List Ex) (y : Ex) (hm : a.eval m = .map (some b)) (hx : a.eval x = exV y) (hv : a.eval v = .int .i64 1) (hM : Mx w b L) (hn : L.any (eqE y) = false)
    (hK : ∀ w', Mx w' b (L ++ [y]) → w.grownBy w' (some b) → wpList Try.prog ops Q rest (a.put o.dst undef) w') : wpList Try.prog ops Q (o :: rest) a w := by
  refine wpList_plain hg fun K' hK' => ?_
  obtain ⟨w', hrun, r1, r2⟩ := hM.update y hn
  unfold Oper.wp
  simp [execOp, hop, hm, hx, hv, hrun, Result.andThen]
  exact hK' _ _ (hK w' r1 r2)

/-- The expressions so far: the row, and the map. -/
structure EX (w : World) (L : List Ex) (wr : World) (o : Value) : Prop where
  row : wr.ownsRow w.heap.size 31 7 o L.length (L.flatMap Ex.cs)
  mp : Mx wr (w.heap.size + 1) L
  be : Below w.heap.size w wr
theorem EX.below {w : World} {L : List Ex} {wr q : World} {o : Value} (h : EX w L wr o) (hq : Below wr.heap.size wr q) : EX w L q o := ⟨own_below h.row hq, h.mp.below hq, h.be.trans (hq.mono h.be.size)⟩
theorem EX.lt {w : World} {L : List Ex} {wr : World} {o : Value} (h : EX w L wr o) : w.heap.size + 1 < wr.heap.size := by
  obtain ⟨es, clock, hb, _⟩ := h.mp
  exact lt_of_obj hb
theorem EX.ne {w : World} {L : List Ex} {wr : World} {o : Value} (h : EX w L wr o) : o.ownBlock ≠ some (w.heap.size + 1) := by
  intro he
  obtain ⟨es, clock, hb, _⟩ := h.mp
  rcases h.row.2 with ⟨rfl, _⟩ | ⟨g, cap, cur, rfl, hbg, hg, _⟩
  · cases he
  · cases he
    rw [hg] at hb
    cases hb

set_option maxRecDepth 100000 in
set_option maxHeartbeats 4000000 in
theorem exprs_any (P : List Bl) (pv : Value) (w : World) (h : Pg w pv P) (h12 : P.length ≤ 12) (hl12 : ∀ b ∈ P, b.l.length ≤ 12) :
    Calls Try.prog 36 #[.agg #[pv]] w fun e w' => ∃ o, e = .returned o ∧ w'.ownsRow w.heap.size 31 7 o (exprsOf P).length ((exprsOf P).flatMap Ex.cs) ∧ Below w.heap.size w w' := by
  obtain ⟨i0, hi, hz0, hz1, hz2⟩ := info_parts ex_info
  obtain ⟨bb, off, p, cap, rfl, hp, hc⟩ := Pg.open h
  clear h
  have hmk : ∀ W : World, (Instr.makeMap 123 none).run Try.prog W = .ok (.map (some W.heap.size)) (W.alloc (.map #[] 0)) := fun W => by simp [Instr.makeMap]
  have hE0 : EX w [] ((w.alloc (.cells #[.slice p P.length cap] 24)).alloc (.map #[] 0)) (.slice none 0 0) := by
    refine ⟨World.ownsRow_nil _ _ _ _, ?_, ((Below.refl _ _).alloc (Nat.le_refl _) _).alloc (by simp) _⟩
    have := Mx.made (w.alloc (.cells #[.slice p P.length cap] 24))
    rwa [show (w.alloc (.cells #[.slice p P.length cap] 24)).heap.size = w.heap.size + 1 by simp] at this
  go_enter Try.func36, Try.ntmps36
  go_wp2_with fail
  go_loopw [3, 15] (fun o i wr => ∃ k : Nat, k ≤ P.length ∧ i = .int .i64 k ∧ EX w (exprsOf (P.take k)) wr o) (fun _ i _ => P.length - (intOf i).toNat)
  case atStart => exact ⟨0, Nat.zero_le _, rfl, hE0⟩
  case round =>
    obtain ⟨k, hk, rfl, hX⟩ := hrel
    clear hE0
    have hB := hX.be
    have hw := hB.size
    obtain ⟨op, oc, rfl⟩ : ∃ p c, _ = Value.slice p (exprsOf (P.take k)).length c := own_len hX.row
    by_cases hlt : k < P.length
    · obtain rfl := hp (by omega)
      have hlt2 : (k : Int) < P.length := by omega
      have hcw : ∀ r u, ((P[k]'hlt).cs)[r]? = some u → wr.cell? ⟨bb, off + k * 8 + r, none⟩ = some u := fun r u hu => by
        rw [Nat.add_assoc]
        have h7 := (hc k hlt).1 r u hu
        exact (hB.cell (p := ⟨bb, off + (k * 8 + r), none⟩) (World.block_lt_of_cell? _ _ h7)).trans h7
      have hsl := (hc k hlt).2
      have hlen := hl12 _ (List.getElem_mem hlt)
      have hHn : Hid (exprsOf (P.take (k + 1)) = stX (exprsOf (P.take k)) (P[k]'hlt).l) := exprs_next P k hlt
      have hxl := exprs_len hl12 k (by omega)
      clear hc
      generalize P[k]'hlt = B at hcw hsl hlen hHn
      generalize exprsOf (P.take k) = L0 at hX hHn hxl
      obtain ⟨lb, loff, lp, lcap, hlv, hlp, hlc⟩ := hsl.open St.cs_len
      have c0 : wr.cell? ⟨bb, off + k * 8, none⟩ = some (.string B.n) := hcw 0 _ rfl
      have hbw := World.block_lt_of_cell? _ _ c0
      have c1 := hcw 1 _ rfl
      have c2 := hcw 2 _ rfl
      have c3 := hcw 3 _ rfl
      have c4 := hcw 4 _ rfl
      have c5 := hcw 5 _ rfl
      have c6 := hcw 6 _ rfl
      have c7 := hcw 7 _ rfl
      clear hcw
      rw [hlv] at c1
      go_wp2_with fail
      obtain ⟨W1, hW1⟩ : ∃ W1, W1 = wr.alloc (.cells #[.string B.n, .slice lp B.l.length lcap, .int .i64 B.t.k, .string B.t.x.v, .int .i64 B.t.x.a, .int .i64 B.t.x.b, .string B.t.t, .string B.t.e] 95) := ⟨_, rfl⟩
      have hX1 : EX w L0 W1 (.slice op L0.length oc) := by rw [hW1]; exact hX.below ((Below.refl _ _).alloc (Nat.le_refl _) _)
      rw [← hW1]
      clear hW1 c0 c1 c2 c3 c4 c5 c6 c7 hX hbw hlv
      go_loopw [3, 22] (fun o i wr => ∃ j : Nat, j ≤ B.l.length ∧ i = .int .i64 j ∧ EX w (stX L0 (B.l.take j)) wr o) (fun _ i _ => B.l.length - (intOf i).toNat)
      case atStart => exact ⟨0, Nat.zero_le _, rfl, hX1⟩
      case round =>
        obtain ⟨j, hj, rfl, hXj⟩ := hrel
        clear hX1
        have hBj := hXj.be
        have hwj := hBj.size
        obtain ⟨op, oc, rfl⟩ : ∃ p c, _ = Value.slice p (stX L0 (B.l.take j)).length c := own_len hXj.row
        by_cases hjt : j < B.l.length
        · obtain rfl := hlp (by omega)
          have hjt2 : (j : Int) < B.l.length := by omega
          have hcj : ∀ r u, ((B.l[j]'hjt).cs)[r]? = some u → wr.cell? ⟨lb, loff + j * 9 + r, none⟩ = some u := fun r u hu => by
            rw [Nat.add_assoc]
            exact (hBj.cell (p := ⟨lb, loff + (j * 9 + r), none⟩) (World.block_lt_of_cell? _ _ (hlc j hjt r u hu))).trans (hlc j hjt r u hu)
          have hH2 : Hid (stX L0 (B.l.take (j + 1)) = addX (stX L0 (B.l.take j)) (B.l[j]'hjt)) := stX_next L0 B.l j hjt
          have hll := stX_len L0 (B.l.take j)
          have hl3 : (B.l.take j).length ≤ 12 := by rw [List.length_take]; omega
          clear hlc
          generalize (B.l[j]'hjt) = s at hcj hH2
          generalize stX L0 (B.l.take j) = L1 at hXj hH2 hll
          have e0 : wr.cell? ⟨lb, loff + j * 9, none⟩ = some (.int .i64 s.k) := hcj 0 _ rfl
          have hbq := World.block_lt_of_cell? _ _ e0
          have e1 := hcj 1 _ rfl
          have e2 := hcj 2 _ rfl
          have e3 := hcj 3 _ rfl
          have e4 := hcj 4 _ rfl
          have e5 := hcj 5 _ rfl
          have e6 := hcj 6 _ rfl
          have e7 := hcj 7 _ rfl
          have e8 := hcj 8 _ rfl
          clear hcj
          obtain ⟨sk, sv, ⟨sop, ⟨v1, a1, b1⟩, ⟨v2, a2, b2⟩⟩⟩ := s
          have hat := fun W : World => atoms_any sop v1 a1 b1 v2 a2 b2 W
          have hal : (atomsOf ⟨sop, ⟨v1, a1, b1⟩, ⟨v2, a2, b2⟩⟩).length ≤ 1000 := by
            unfold atomsOf
            split
            · simp
            · split <;> simp
          have hco := fun v W hS => containsX_any (atomsOf ⟨sop, ⟨v1, a1, b1⟩, ⟨v2, a2, b2⟩⟩) hal v W hS
          have hadd : Hid (addX L1 ⟨sk, sv, ⟨sop, ⟨v1, a1, b1⟩, ⟨v2, a2, b2⟩⟩⟩ = if sk = 1 ∧ sop ≠ 0 ∧ (atomsOf ⟨sop, ⟨v1, a1, b1⟩, ⟨v2, a2, b2⟩⟩).all noV = false ∧ L1.any (eqE ⟨sop, ⟨v1, a1, b1⟩, ⟨v2, a2, b2⟩⟩) = false then L1 ++ [⟨sop, ⟨v1, a1, b1⟩, ⟨v2, a2, b2⟩⟩] else L1) := rfl
          have hno : (sk ≠ 1 ∨ sop = 0 ∨ (atomsOf ⟨sop, ⟨v1, a1, b1⟩, ⟨v2, a2, b2⟩⟩).all noV = true ∨ L1.any (eqE ⟨sop, ⟨v1, a1, b1⟩, ⟨v2, a2, b2⟩⟩) = true) → stX L0 (B.l.take (j + 1)) = L1 := fun hh => by
            rw [show stX L0 (B.l.take (j + 1)) = _ from hH2, show addX L1 _ = _ from hadd, if_neg]
            rintro ⟨g1, g2, g3, g4⟩
            rcases hh with hh | hh | hh | hh
            · exact hh g1
            · exact g2 hh
            · rw [g3] at hh; cases hh
            · rw [g4] at hh; cases hh
          have hyes : sk = 1 → sop ≠ 0 → (atomsOf ⟨sop, ⟨v1, a1, b1⟩, ⟨v2, a2, b2⟩⟩).all noV = false → L1.any (eqE ⟨sop, ⟨v1, a1, b1⟩, ⟨v2, a2, b2⟩⟩) = false → stX L0 (B.l.take (j + 1)) = L1 ++ [⟨sop, ⟨v1, a1, b1⟩, ⟨v2, a2, b2⟩⟩] := fun g1 g2 g3 g4 => by
            rw [show stX L0 (B.l.take (j + 1)) = _ from hH2, show addX L1 _ = _ from hadd, if_pos ⟨g1, g2, g3, g4⟩]
          clear hadd
          generalize atomsOf ⟨sop, ⟨v1, a1, b1⟩, ⟨v2, a2, b2⟩⟩ = A at hat hco hno hyes hal
          generalize hnvv : A.all noV = nv at hco hno hyes
          clear hnvv
          have e0 : wr.cell? ⟨lb, loff + j * 9, none⟩ = some (.int .i64 sk) := e0
          have e1 : wr.cell? ⟨lb, loff + j * 9 + 1, none⟩ = some (.string sv) := e1
          have e2 : wr.cell? ⟨lb, loff + j * 9 + 2, none⟩ = some (.int .i64 sop) := e2
          have e3 : wr.cell? ⟨lb, loff + j * 9 + 3, none⟩ = some (.string v1) := e3
          have e4 : wr.cell? ⟨lb, loff + j * 9 + 4, none⟩ = some (.int .i64 a1) := e4
          have e5 : wr.cell? ⟨lb, loff + j * 9 + 5, none⟩ = some (.int .i64 b1) := e5
          have e6 : wr.cell? ⟨lb, loff + j * 9 + 6, none⟩ = some (.string v2) := e6
          have e7 : wr.cell? ⟨lb, loff + j * 9 + 7, none⟩ = some (.int .i64 a2) := e7
          have e8 : wr.cell? ⟨lb, loff + j * 9 + 8, none⟩ = some (.int .i64 b2) := e8
          have hXb : ∀ q, Below ((wr.alloc (.cells #[.int .i64 sk, .string sv, .int .i64 sop, .string v1, .int .i64 a1, .int .i64 b1, .string v2, .int .i64 a2, .int .i64 b2] 90)).alloc (.cells #[.int .i64 sop, .string v1, .int .i64 a1, .int .i64 b1, .string v2, .int .i64 a2, .int .i64 b2] 31)).heap.size ((wr.alloc (.cells #[.int .i64 sk, .string sv, .int .i64 sop, .string v1, .int .i64 a1, .int .i64 b1, .string v2, .int .i64 a2, .int .i64 b2] 90)).alloc (.cells #[.int .i64 sop, .string v1, .int .i64 a1, .int .i64 b1, .string v2, .int .i64 a2, .int .i64 b2] 31)) q → EX w L1 q (.slice op L1.length oc) := fun q hq =>
            (hXj.below (((Below.refl wr.heap.size wr).alloc (Nat.le_refl _) _).alloc (by simp) _)).below hq
          by_cases h1 : sk = 1
          · subst h1
            by_cases h2 : sop = 0
            · subst h2
              have hnn : Hid (stX L0 (B.l.take (j + 1)) = L1) := hno (.inr (.inl rfl))
              clear hno
              clear hyes
              go_wp2_with (first | ((go_at_call 67; refine' Calls.aftS _ _ (hat _) _; rotate_left 2; (exact Below.refl _ _; rfl); intro av x1 ho1; have hle := After.le x1; (try simp at hle)); obtain ⟨ap, ac, rfl⟩ : ∃ p c, av = .slice p A.length c := by obtain ⟨b, off, p, cap, hv, _⟩ := ho1; exact ⟨p, cap, hv⟩) | (go_at_call 66; refine' Calls.aft _ _ (hco _ _ ho1) _; rotate_left 2; (exact Below.refl _ _; rfl); intro x2; have hle := After.le x2; (try simp at hle)))
              refine ⟨⟨j + 1, by omega, by simp, ?_⟩, by simp [intOf]; omega⟩
              rw [show stX L0 (B.l.take (j + 1)) = L1 from hnn]
              exact hXb _ (x1.below.trans (x2.below.mono x1.below.size))
            · cases nv
              · have hlk : ∀ q, Below ((wr.alloc (.cells #[.int .i64 1, .string sv, .int .i64 sop, .string v1, .int .i64 a1, .int .i64 b1, .string v2, .int .i64 a2, .int .i64 b2] 90)).alloc (.cells #[.int .i64 sop, .string v1, .int .i64 a1, .int .i64 b1, .string v2, .int .i64 a2, .int .i64 b2] 31)).heap.size ((wr.alloc (.cells #[.int .i64 1, .string sv, .int .i64 sop, .string v1, .int .i64 a1, .int .i64 b1, .string v2, .int .i64 a2, .int .i64 b2] 90)).alloc (.cells #[.int .i64 sop, .string v1, .int .i64 a1, .int .i64 b1, .string v2, .int .i64 a2, .int .i64 b2] 31)) q → (Instr.lookup 123 (.map (some (w.heap.size + 1))) (.agg #[.int .i64 sop, .string v1, .int .i64 a1, .int .i64 b1, .string v2, .int .i64 a2, .int .i64 b2]) false).run Try.prog q = .ok (.int .i64 (if L1.any (eqE ⟨sop, ⟨v1, a1, b1⟩, ⟨v2, a2, b2⟩⟩) = true then 1 else 0)) q := fun q hq => (hXb q hq).mp.lookup ⟨sop, ⟨v1, a1, b1⟩, ⟨v2, a2, b2⟩⟩
                cases hany : L1.any (eqE ⟨sop, ⟨v1, a1, b1⟩, ⟨v2, a2, b2⟩⟩)
                · have hyy : Hid (stX L0 (B.l.take (j + 1)) = L1 ++ [⟨sop, ⟨v1, a1, b1⟩, ⟨v2, a2, b2⟩⟩]) := hyes rfl h2 rfl hany
                  rw [hany] at hlk
                  have hlk : ∀ q, Below ((wr.alloc (.cells #[.int .i64 1, .string sv, .int .i64 sop, .string v1, .int .i64 a1, .int .i64 b1, .string v2, .int .i64 a2, .int .i64 b2] 90)).alloc (.cells #[.int .i64 sop, .string v1, .int .i64 a1, .int .i64 b1, .string v2, .int .i64 a2, .int .i64 b2] 31)).heap.size ((wr.alloc (.cells #[.int .i64 1, .string sv, .int .i64 sop, .string v1, .int .i64 a1, .int .i64 b1, .string v2, .int .i64 a2, .int .i64 b2] 90)).alloc (.cells #[.int .i64 sop, .string v1, .int .i64 a1, .int .i64 b1, .string v2, .int .i64 a2, .int .i64 b2] 31)) q → (Instr.lookup 123 (.map (some (w.heap.size + 1))) (.agg #[.int .i64 sop, .string v1, .int .i64 a1, .int .i64 b1, .string v2, .int .i64 a2, .int .i64 b2]) false).run Try.prog q = .ok (.int .i64 0) q := hlk
                  have hbx := heap_alloc_new (wr.alloc (.cells #[.int .i64 1, .string sv, .int .i64 sop, .string v1, .int .i64 a1, .int .i64 b1, .string v2, .int .i64 a2, .int .i64 b2] 90)) (.cells #[.int .i64 sop, .string v1, .int .i64 a1, .int .i64 b1, .string v2, .int .i64 a2, .int .i64 b2] 31)
                  rw [show (wr.alloc (.cells #[.int .i64 1, .string sv, .int .i64 sop, .string v1, .int .i64 a1, .int .i64 b1, .string v2, .int .i64 a2, .int .i64 b2] 90)).heap.size = wr.heap.size + 1 by simp] at hbx
                  have hmb := hXj.lt
                  clear hno hyes
                  go_wp2_with (first | ((go_at_call 67; refine' Calls.aftS _ _ (hat _) _; rotate_left 2; (exact Below.refl _ _; rfl); intro av x1 ho1; have hle := After.le x1; (try simp at hle)); obtain ⟨ap, ac, rfl⟩ : ∃ p c, av = .slice p A.length c := by obtain ⟨b, off, p, cap, hv, _⟩ := ho1; exact ⟨p, cap, hv⟩) | ((go_at_call 66; refine' Calls.aft _ _ (hco _ _ ho1) _; rotate_left 2; (exact Below.refl _ _; rfl); intro x2; have hle := After.le x2; (try simp at hle)); have hb2 := x1.below.trans (x2.below.mono x1.below.size); have hlq := hlk _ hb2; have hX2 := hXb _ hb2; have hbx2 := (hb2.block _ (lt_of_obj hbx)).trans hbx) | (at_mapUpdate; refine wpList_mapX _ rfl _ _ _ rfl (w.heap.size + 1) L1 ⟨sop, ⟨v1, a1, b1⟩, ⟨v2, a2, b2⟩⟩ rfl rfl rfl hX2.mp hany ?_; intro W3 hM3 hg3; have hbx3 := (hg3.block _ (lt_of_obj hbx2) (by simp; omega)).trans hbx2; have q0 := (cell_of_row W3 _ 0 _ _ (0, 0) hbx3).trans (rfl : _ = some (Value.int .i64 sop)); have q1 := (cell_of_row W3 _ 1 _ _ (0, 0) hbx3).trans (rfl : _ = some (Value.string v1)); have q2 := (cell_of_row W3 _ 2 _ _ (0, 0) hbx3).trans (rfl : _ = some (Value.int .i64 a1)); have q3 := (cell_of_row W3 _ 3 _ _ (0, 0) hbx3).trans (rfl : _ = some (Value.int .i64 b1)); have q4 := (cell_of_row W3 _ 4 _ _ (0, 0) hbx3).trans (rfl : _ = some (Value.string v2)); have q5 := (cell_of_row W3 _ 5 _ _ (0, 0) hbx3).trans (rfl : _ = some (Value.int .i64 a2)); have q6 := (cell_of_row W3 _ 6 _ _ (0, 0) hbx3).trans (rfl : _ = some (Value.int .i64 b2)); have ql := lt_of_obj hbx3; have hr3 := hX2.row.kept hg3 (.inr hX2.ne); have hB3 : Below w.heap.size w W3 := Below.grown (w := _) hX2.be hg3 hX2.be.size (fun q hq => by cases hq; omega)) | (at_builtin; refine wpList_append_own _ rfl _ _ 83 rfl w.heap.size 31 i0 (.agg #[.int .i64 0, .string ⟨#[]⟩, .int .i64 0, .int .i64 0, .string ⟨#[]⟩, .int .i64 0, .int .i64 0]) 7 72 Try.underlying83 hi hz0 hz1 hz2 rfl (by decide) _ L1.length (L1.flatMap Ex.cs) rfl (hr3.alloc _) _ 1 1 [.int .i64 sop, .string v1, .int .i64 a1, .int .i64 b1, .string v2, .int .i64 a2, .int .i64 b2] rfl rfl (news_at rfl) (by intro u hu; simp at hu; rcases hu with rfl | rfl | rfl | rfl | rfl | rfl | rfl <;> rfl) (by unfold maxLen; omega) (by omega) (by have := hB3.size; simp; omega) ?_; intro v6 W6 ho6 hg6 hv6))
                  have hEn : EX w (L1 ++ [⟨sop, ⟨v1, a1, b1⟩, ⟨v2, a2, b2⟩⟩]) W6 v6 := by
                    refine ⟨?_, ?_, ?_⟩
                    · rw [List.flatMap_append, List.length_append]
                      exact ho6
                    · exact (hM3.below ((Below.refl W3.heap.size W3).alloc (Nat.le_refl _) _)).kept hg6 (fun he => hX2.ne he.symm)
                    · exact Below.grown (w := _) (hB3.alloc hB3.size _) hg6 (by have := hB3.size; simp; omega) (fun q hq => (hr3.lt q hq).1)
                  go_roundw
                  case rel => exact ⟨j + 1, by omega, by simp, by rw [show stX L0 (B.l.take (j + 1)) = _ from hyy]; exact hEn⟩
                  case measure => simp [intOf]; omega
                · have hnn : Hid (stX L0 (B.l.take (j + 1)) = L1) := hno (.inr (.inr (.inr hany)))
                  clear hno
                  rw [hany] at hlk
                  have hlk : ∀ q, Below ((wr.alloc (.cells #[.int .i64 1, .string sv, .int .i64 sop, .string v1, .int .i64 a1, .int .i64 b1, .string v2, .int .i64 a2, .int .i64 b2] 90)).alloc (.cells #[.int .i64 sop, .string v1, .int .i64 a1, .int .i64 b1, .string v2, .int .i64 a2, .int .i64 b2] 31)).heap.size ((wr.alloc (.cells #[.int .i64 1, .string sv, .int .i64 sop, .string v1, .int .i64 a1, .int .i64 b1, .string v2, .int .i64 a2, .int .i64 b2] 90)).alloc (.cells #[.int .i64 sop, .string v1, .int .i64 a1, .int .i64 b1, .string v2, .int .i64 a2, .int .i64 b2] 31)) q → (Instr.lookup 123 (.map (some (w.heap.size + 1))) (.agg #[.int .i64 sop, .string v1, .int .i64 a1, .int .i64 b1, .string v2, .int .i64 a2, .int .i64 b2]) false).run Try.prog q = .ok (.int .i64 1) q := hlk
                  clear hyes
                  go_wp2_with (first | ((go_at_call 67; refine' Calls.aftS _ _ (hat _) _; rotate_left 2; (exact Below.refl _ _; rfl); intro av x1 ho1; have hle := After.le x1; (try simp at hle)); obtain ⟨ap, ac, rfl⟩ : ∃ p c, av = .slice p A.length c := by obtain ⟨b, off, p, cap, hv, _⟩ := ho1; exact ⟨p, cap, hv⟩) | ((go_at_call 66; refine' Calls.aft _ _ (hco _ _ ho1) _; rotate_left 2; (exact Below.refl _ _; rfl); intro x2; have hle := After.le x2; (try simp at hle)); have hlq := hlk _ (x1.below.trans (x2.below.mono x1.below.size))))
                  refine ⟨⟨j + 1, by omega, by simp, ?_⟩, by simp [intOf]; omega⟩
                  rw [show stX L0 (B.l.take (j + 1)) = L1 from hnn]
                  exact hXb _ (x1.below.trans (x2.below.mono x1.below.size))
              · have hnn : Hid (stX L0 (B.l.take (j + 1)) = L1) := hno (.inr (.inr (.inl rfl)))
                clear hno
                clear hyes
                go_wp2_with (first | ((go_at_call 67; refine' Calls.aftS _ _ (hat _) _; rotate_left 2; (exact Below.refl _ _; rfl); intro av x1 ho1; have hle := After.le x1; (try simp at hle)); obtain ⟨ap, ac, rfl⟩ : ∃ p c, av = .slice p A.length c := by obtain ⟨b, off, p, cap, hv, _⟩ := ho1; exact ⟨p, cap, hv⟩) | (go_at_call 66; refine' Calls.aft _ _ (hco _ _ ho1) _; rotate_left 2; (exact Below.refl _ _; rfl); intro x2; have hle := After.le x2; (try simp at hle)))
                refine ⟨⟨j + 1, by omega, by simp, ?_⟩, by simp [intOf]; omega⟩
                rw [show stX L0 (B.l.take (j + 1)) = L1 from hnn]
                exact hXb _ (x1.below.trans (x2.below.mono x1.below.size))
          · have hnn : Hid (stX L0 (B.l.take (j + 1)) = L1) := hno (.inl h1)
            clear hno
            clear hyes
            go_wp2_with (first | ((go_at_call 67; refine' Calls.aftS _ _ (hat _) _; rotate_left 2; (exact Below.refl _ _; rfl); intro av x1 ho1; have hle := After.le x1; (try simp at hle)); obtain ⟨ap, ac, rfl⟩ : ∃ p c, av = .slice p A.length c := by obtain ⟨b, off, p, cap, hv, _⟩ := ho1; exact ⟨p, cap, hv⟩) | (go_at_call 66; refine' Calls.aft _ _ (hco _ _ ho1) _; rotate_left 2; (exact Below.refl _ _; rfl); intro x2; have hle := After.le x2; (try simp at hle)))
            refine ⟨⟨j + 1, by omega, by simp, ?_⟩, by simp [intOf]; omega⟩
            rw [show stX L0 (B.l.take (j + 1)) = L1 from hnn]
            exact hXb _ (x1.below.trans (x2.below.mono x1.below.size))
        · have hks : j = B.l.length := by omega
          subst hks
          have hjt2 : ¬ (B.l.length : Int) < B.l.length := by omega
          go_wp2_with fail
          go_roundw
          case rel => exact ⟨k + 1, by omega, by simp, by rw [show exprsOf (P.take (k + 1)) = _ from hHn]; have h9 := hXj; simp only [List.take_length] at h9 ⊢; exact h9⟩
          case measure => simp [intOf]; omega
    · have hks : k = P.length := by omega
      subst hks
      have hlt2 : ¬ (P.length : Int) < P.length := by omega
      go_wp2_with fail
      refine bodyPost_ret (v := .slice op (exprsOf (P.take P.length)).length oc) (by simp only [results, Try.results36]; go_simp) rfl ⟨_, rfl, ?_, hB⟩
      have := hX.row
      rw [List.take_length] at this ⊢
      exact this

end Go.Proofs.Ytaaklejkngpddaa.Pr

namespace Go.Proofs.Ytaaklejkngpddaa.Pr
set_option linter.unusedVariables false
set_option linter.unusedSimpArgs false
open Go Go.RowKit

/-- An atom is not this variable. -/
def notV (x : ByteArray) (a : At) : Bool := !(a.v.toList == x.toList)
/-- An expression has a variable. -/
def hasX (e : Ex) (x : ByteArray) : Bool := !((atomsOf e).all (notV x))

set_option maxRecDepth 100000 in
theorem has1_any (x : ByteArray) (B : Nat) (v : ByteArray) (a b : Int) (w : World) (hx : w.cell? ⟨B, 0, none⟩ = some (.string x)) :
    Calls Try.prog 90 #[.agg #[.string v, .int .i64 a, .int .i64 b], .pointer (some ⟨B, 0, none⟩)] w fun e w' => e = .returned (.bool !(notV x ⟨v, a, b⟩)) ∧ Below w.heap.size w w' := by
  have hbl := World.block_lt_of_cell? _ _ hx
  show Calls Try.prog _ _ _ (fun e w' => e = .returned (.bool !(!(v.toList == x.toList))) ∧ _)
  rw [Bool.not_not]
  go_enter Try.func90, Try.ntmps90
  go_wp2_with fail
  refine bodyPost_ret (v := .bool (v.toList == x.toList)) (by simp only [results, Try.results90]; go_simp) rfl ⟨rfl, ?_⟩
  (repeat (first | exact Below.refl _ _ | apply Below.drew | refine Below.alloc ?_ ?_ _ | refine Below.setCell ?_ ?_ _ | refine Below.trans ?_ (Below.mono (After.below _) ?_))); (all_goals (first | (simp; done) | (simp; omega) | omega))

set_option maxRecDepth 100000 in
set_option maxHeartbeats 1000000 in
theorem indexH_any (L : List At) (hl : L.length ≤ 1000) (x : ByteArray) (B : Nat) (v : Value) (w : World) (h : Sl w v At.cs L) (hx : w.cell? ⟨B, 0, none⟩ = some (.string x)) :
    Calls Try.prog 91 #[v, .func (.func 90) #[] #[.pointer (some ⟨B, 0, none⟩)]] w fun e w' => ∃ i : Int, e = .returned (.int .i64 i) ∧ decide (0 ≤ i) = (!(L.all (notV x))) ∧ Below w.heap.size w w' := by
  obtain ⟨b, off, p, cap, rfl, hp, hc⟩ := h.open At.cs_len
  obtain ⟨R, hR⟩ : ∃ R, Hid (L.all (notV x) = R) := ⟨_, rfl⟩
  rw [hR]
  go_enter Try.func91, Try.ntmps91
  go_wp2_with fail
  go_loopw [8] (fun i wr => ∃ k : Nat, k ≤ L.length ∧ i = .int .i64 k ∧ (L.take k).all (notV x) = true ∧ Below w.heap.size w wr) (fun i _ => L.length - (intOf i).toNat)
  case atStart => exact ⟨0, Nat.zero_le _, rfl, by simp, Below.refl _ _⟩
  case round =>
    obtain ⟨k, hk, rfl, hall, hB⟩ := hrel
    have hw := hB.size
    by_cases hlt : k < L.length
    · obtain rfl := hp (by omega)
      have hlt2 : (k : Int) < L.length := by omega
      have hbad : (notV x) (L[k]'hlt) = false → R = false := fun h => by rw [← hR]; exact all_bad hlt h
      have hnext : (notV x) (L[k]'hlt) = true → (L.take (k + 1)).all (notV x) = true := fun h => all_next hlt hall h
      have hcr : ∀ r u, ((L[k]'hlt).cs)[r]? = some u → wr.cell? ⟨b, off + k * 3 + r, none⟩ = some u := fun r u hu => by
        rw [Nat.add_assoc]
        exact (hB.cell (p := ⟨b, off + (k * 3 + r), none⟩) (World.block_lt_of_cell? _ _ (hc k hlt r u hu))).trans (hc k hlt r u hu)
      clear hc hall
      generalize L[k]'hlt = s at hcr hbad hnext
      have e0 : wr.cell? ⟨b, off + k * 3, none⟩ = some (.string s.v) := hcr 0 _ rfl
      have hg := World.block_lt_of_cell? _ _ e0
      have e1 := hcr 1 _ rfl
      have e2 := hcr 2 _ rfl
      clear hcr
      have hra := has1_any x B s.v s.a s.b wr (nextC hB hx)
      cases hn : (notV x s)
      · rw [show ((notV x s)) = false from hn] at hra
        have hf := hbad hn
        subst hf
        clear hbad hnext hn
        go_wp2_with ((go_at_call 90; refine' Calls.aft _ _ (hra) _; rotate_left 2; (exact Below.refl _ _; rfl); intro x1; have hle := After.le x1; (try simp at hle)))
        refine bodyPost_ret (v := .int .i64 k) (by simp only [results, Try.results91]; go_simp) rfl ⟨_, rfl, by simp, hB.trans (x1.below.mono hw)⟩
      · rw [show ((notV x s)) = true from hn] at hra
        have hx := And.intro True.intro (hnext hn)
        clear hbad hnext hn
        go_wp2_with ((go_at_call 90; refine' Calls.aft _ _ (hra) _; rotate_left 2; (exact Below.refl _ _; rfl); intro x1; have hle := After.le x1; (try simp at hle)))
        go_roundw
        case rel => exact ⟨k + 1, by omega, by simp, hx.2, hB.trans (x1.below.mono hw)⟩
        case measure => simp [intOf]; omega
    · have hks : k = L.length := by omega
      subst hks
      have hlt2 : ¬ (L.length : Int) < L.length := by omega
      have hRt : R = true := by rw [← hR]; rw [List.take_length] at hall; exact hall
      subst hRt
      clear hc
      go_wp2_with fail
      refine bodyPost_ret (v := .int .i64 (-1)) (by simp only [results, Try.results91]; go_simp) rfl ⟨_, rfl, by decide, hB⟩

set_option maxRecDepth 100000 in
theorem containsH_any (L : List At) (hl : L.length ≤ 1000) (x : ByteArray) (B : Nat) (v : Value) (w : World) (h : Sl w v At.cs L) (hx : w.cell? ⟨B, 0, none⟩ = some (.string x)) :
    Calls Try.prog 66 #[v, .func (.func 90) #[] #[.pointer (some ⟨B, 0, none⟩)]] w fun e w' => e = .returned (.bool !(L.all (notV x))) ∧ Below w.heap.size w w' := by
  have hix := indexH_any L hl x B v w h hx
  generalize L.all (notV x) = z at hix ⊢
  obtain ⟨p, c, rfl⟩ : ∃ p c, v = .slice p L.length c := by obtain ⟨b, off, p, cap, hv, _⟩ := h; exact ⟨p, cap, hv⟩
  go_enter Try.func66, Try.ntmps66
  go_wp2_with ((go_at_call 91; refine' Calls.aftS _ _ (hix) _; rotate_left 2; (first | (with_reducible exact After.below _; rfl) | (with_reducible exact below_drew (After.below _); rfl) | (with_reducible exact below_set (After.below _) _ _; (go_simp; rfl)) | (with_reducible exact below_set (below_set (After.below _) _ _) _ _; (go_simp; rfl)) | (with_reducible exact below_set (below_set (below_set (After.below _) _ _) _ _) _ _; (go_simp; rfl)) | (with_reducible exact below_set (below_set (below_set (below_set (After.below _) _ _) _ _) _ _) _ _; (go_simp; rfl)) | (exact Below.refl _ _; rfl)); intro i x1 hi; have hle := After.le x1; (try simp at hle)))
  refine bodyPost_ret (v := .bool !z) (by simp only [results, Try.results66]; go_simp) rfl ⟨rfl, x1.below⟩


set_option maxRecDepth 100000 in
set_option maxHeartbeats 1000000 in
theorem tripsHas_any (e : Ex) (x : ByteArray) (w : World) :
    Calls Try.prog 62 #[.agg #[.int .i64 e.op, .string e.x.v, .int .i64 e.x.a, .int .i64 e.x.b, .string e.y.v, .int .i64 e.y.a, .int .i64 e.y.b], .string x] w fun e' w' => e' = .returned (.bool (hasX e x)) ∧ Below w.heap.size w w' := by
  have hmf : ∀ (fn : Fn) (first cap : Array Value) (w : World), (Instr.makeFunc fn first cap).run Try.prog w = .ok (.func fn first cap) w := fun _ _ _ _ => rfl
  have hat := fun W : World => atoms_any e.op e.x.v e.x.a e.x.b e.y.v e.y.a e.y.b W
  have hal : (atomsOf e).length ≤ 1000 := by
    unfold atomsOf
    split
    · simp
    · split <;> simp
  have hat : ∀ W, Calls Try.prog 67 #[.agg #[.int .i64 e.op, .string e.x.v, .int .i64 e.x.a, .int .i64 e.x.b, .string e.y.v, .int .i64 e.y.a, .int .i64 e.y.b]] W fun e' w' => ∃ o, e' = .returned o ∧ Sl w' o At.cs (atomsOf e) ∧ Below W.heap.size W w' := hat
  have hco := fun v W hS hx => containsH_any (atomsOf e) hal x (w.heap.size + 1) v W hS hx
  unfold hasX
  generalize atomsOf e = A at hat hco hal ⊢
  generalize A.all (notV x) = z at hco ⊢
  go_enter Try.func62, Try.ntmps62
  go_wp2_with (first | ((go_at_call 67; refine' Calls.aftS _ _ (hat _) _; rotate_left 2; (exact Below.refl _ _; rfl); intro av x1 ho1; have hle := After.le x1; (try simp at hle)); obtain ⟨ap, ac, rfl⟩ : ∃ p c, av = .slice p A.length c := sl_len ho1; have hbx := (x1.below.cell (p := ⟨w.heap.size + 1, 0, none⟩) (by simp)).trans (by simp : _ = some (Value.string x))) | (go_at_call 66; refine' Calls.aft _ _ (hco _ _ ho1 hbx) _; rotate_left 2; (exact Below.refl _ _; rfl); intro x2; have hle := After.le x2; (try simp at hle)))
  refine bodyPost_ret (v := .bool !z) (by simp only [results, Try.results62]; go_simp) rfl ⟨rfl, ?_⟩
  (repeat (first | exact Below.refl _ _ | apply Below.drew | refine Below.alloc ?_ ?_ _ | refine Below.setCell ?_ ?_ _ | refine Below.trans ?_ (Below.mono (After.below _) ?_))); (all_goals (first | (simp; done) | (simp; omega) | omega))

end Go.Proofs.Ytaaklejkngpddaa.Pr

namespace Go.Proofs.Ytaaklejkngpddaa.Pr
set_option linter.unusedVariables false
set_option linter.unusedSimpArgs false
open Go Go.RowKit

def ecB (x : Bool) : List Value := [.bool x]
theorem ecB_len (x : Bool) : (ecB x).length = 1 := rfl
theorem flatB : ∀ (L : List Bool), L.flatMap ecB = L.map Value.bool := fun L => by induction L with | nil => rfl | cons a L ih => simp [ecB, List.flatMap_cons, ih]
theorem ecB_get (L : List Bool) (k : Nat) (hk : k < L.length) : (L.flatMap ecB)[k]? = some (.bool (L[k]'hk)) := by
  rw [flatB, List.getElem?_map, List.getElem?_eq_getElem hk]
  rfl
theorem own_setB {w : World} {base : Nat} {L : List Bool} {cap g : Nat} (h : w.ownsRow base 4 1 (.slice (some ⟨g, 0, none⟩) L.length cap) L.length (L.flatMap ecB)) (k : Nat) (x : Bool) :
    (w.setCell ⟨g, k, none⟩ (.bool x)).ownsRow base 4 1 (.slice (some ⟨g, 0, none⟩) L.length cap) L.length ((L.set k x).flatMap ecB) := by
  have e : (L.set k x).flatMap ecB = (L.flatMap ecB).set k (.bool x) := by rw [flatB, flatB, List.map_set]
  rw [e]
  exact (h.stored k _).1

/-- What a call leaves alone that writes lists of ints and bools of its own alone. -/
structure KeepU (base : Nat) (w w' : World) : Prop where
  os : w'.os = w.os
  tape : w'.tape = w.tape
  output : w'.output = w.output
  size : w.heap.size ≤ w'.heap.size
  block : ∀ k, k < w.heap.size → (k < base ∨ ∃ cs t f, w.heap[k]? = some (.cells cs t f) ∧ t ≠ 3 ∧ t ≠ 76 ∧ t ≠ 80 ∧ t ≠ 4) → w'.heap[k]? = w.heap[k]?

theorem KeepU.refl (base : Nat) (w : World) : KeepU base w w := ⟨rfl, rfl, rfl, Nat.le_refl _, fun _ _ _ => rfl⟩
theorem KeepU.trans {base : Nat} {a b c : World} (h : KeepU base a b) (k : KeepU base b c) : KeepU base a c :=
  ⟨k.os.trans h.os, k.tape.trans h.tape, k.output.trans h.output, Nat.le_trans h.size k.size, fun j hj hc => (k.block j (Nat.lt_of_lt_of_le hj h.size) (by
    rcases hc with hc | ⟨cs, t, f, h1, h2⟩
    · exact .inl hc
    · exact .inr ⟨cs, t, f, (h.block j hj (.inr ⟨cs, t, f, h1, h2⟩)).trans h1, h2⟩)).trans (h.block j hj hc)⟩
theorem KeepU.below {base : Nat} {w w' : World} (h : KeepU base w w') (hb : base ≤ w.heap.size) : Below base w w' :=
  ⟨h.os, h.tape, h.output, h.size, fun k hk => h.block k (by omega) (.inl hk)⟩
theorem KeepU.of_below {base : Nat} {w w' : World} (h : Below w.heap.size w w') : KeepU base w w' :=
  ⟨h.os, h.tape, h.output, h.size, fun k hk _ => h.block k hk⟩
theorem KeepU.blk {base : Nat} {w w' : World} {k : Nat} {cs : Array Value} {t : TypeId} {f : Nat × Nat} (h : KeepU base w w') (hk : w.heap[k]? = some (.cells cs t f)) (h1 : t ≠ 3) (h2 : t ≠ 76) (h3 : t ≠ 80) (h4 : t ≠ 4) : w'.heap[k]? = some (.cells cs t f) :=
  (h.block k (lt_of_some hk) (.inr ⟨cs, t, f, hk, h1, h2, h3, h4⟩)).trans hk
/-- A row of ints or of lists, of its own, has grown. -/
theorem KeepU.grown {base size n : Nat} {t : TypeId} {w w' : World} {v : Value} {xs : List Value} (h : w.grownBy w' v.ownBlock) (hown : w.ownsRow base t size v n xs) (ht : t = 3 ∨ t = 76) : KeepU base w w' :=
  ⟨h.os, h.tape, h.output, h.size, fun k hk hc => h.block k hk fun he => by
    rcases hown.2 with ⟨rfl, _⟩ | ⟨g, cap, cur, rfl, hbg, hg, _⟩
    · cases he
    · cases he
      rcases hc with hc | ⟨cs, t', f, h1, h2, h3, h4⟩
      · have hc' : g < base := hc
        omega
      · rw [hg] at h1
        cases h1
        rcases ht with ht | ht
        · exact h2 ht
        · exact h3 ht⟩
/-- A cell of such a block is stored into. -/
theorem KeepU.stored {base B j : Nat} {w : World} {u : Value} {cs : Array Value} {t : TypeId} {f : Nat × Nat} (hB : w.heap[B]? = some (.cells cs t f)) (ht : t = 3 ∨ t = 76 ∨ t = 80 ∨ t = 4) (hb : base ≤ B) : KeepU base w (w.setCell ⟨B, j, none⟩ u) :=
  ⟨rfl, rfl, rfl, by simp [World.setCell], fun k hk hc => Below.heap_setCell _ _ _ _ fun he => by
    have he' : B = k := he.symm
    subst he'
    rcases hc with hc | ⟨cs2, t2, f2, h1, h2, h3, h4, h5⟩
    · omega
    · rw [hB] at h1
      cases h1
      rcases ht with ht | ht | ht | ht
      · exact h2 ht
      · exact h3 ht
      · exact h4 ht
      · exact h5 ht⟩

/-- What stands while lists are told: the lists so far, at ov in block bo; which are known, at nv in block bn. -/
structure KS (base bo bn : Nat) (X : List Lv) (now : List Bool) (W : World) (ov nv : Value) : Prop where
  ob : W.heap[bo]? = some (.cells #[ov] 80 (0, 0))
  nb : W.heap[bn]? = some (.cells #[nv] 118 (0, 0))
  no : W.ownsRow base 4 1 nv now.length (now.flatMap ecB)
  oo : W.ownsRow base 76 1 ov X.length (X.flatMap Lv.cs)
  xr : ∀ x ∈ X, W.ownsRow base 3 1 x.v x.l.length (x.l.flatMap ecI)
  ho : base ≤ bo
  hn : base ≤ bn

theorem KS.below {base bo bn : Nat} {X : List Lv} {now : List Bool} {W q : World} {ov nv : Value} (h : KS base bo bn X now W ov nv) (hq : Below W.heap.size W q) : KS base bo bn X now q ov nv :=
  ⟨blk_next hq h.ob, blk_next hq h.nb, own_below h.no hq, own_below h.oo hq, fun x hx => own_below (h.xr x hx) hq, h.ho, h.hn⟩

theorem KS.visit {base bo bn : Nat} {X : List Lv} {now : List Bool} {l : List Int} {W W6 : World} {ov nv v v' : Value} (h : KS base bo bn X now W ov nv) (hv : W.ownsRow base 3 1 v l.length (l.flatMap ecI))
    (hg : W.grownBy W6 ov.ownBlock) (ho : W6.ownsRow base 76 1 v' (X.length + 1) (X.flatMap Lv.cs ++ [v])) :
    KS base bo bn (X ++ [⟨l, v⟩]) now (W6.setCell ⟨bo, 0, none⟩ v') v' nv ∧ KeepU base W (W6.setCell ⟨bo, 0, none⟩ v') := by
  have hbb : bn ≠ bo := fun he => by
    have h1 := h.nb
    rw [he, h.ob] at h1
    cases h1
  have g1 : W6.heap[bo]? = some (.cells #[ov] 80 (0, 0)) := (hg.block _ (lt_of_some h.ob) (fun he => own_ne h.oo h.ob (by decide) he.symm)).trans h.ob
  have g2 : W6.heap[bn]? = some (.cells #[nv] 118 (0, 0)) := (hg.block _ (lt_of_some h.nb) (fun he => own_ne h.oo h.nb (by decide) he.symm)).trans h.nb
  have hs : ∀ (u : Value) (l : List Int), W.ownsRow base 3 1 u l.length (l.flatMap ecI) → (W6.setCell ⟨bo, 0, none⟩ v').ownsRow base 3 1 u l.length (l.flatMap ecI) := fun u l hu => by
    have h1 := hu.kept hg (ownTy hu h.oo (by decide))
    exact ownsRow_setCell_other h1 (own_ne h1 g1 (by decide)) _
  have hno := h.no.kept hg (ownTy h.no h.oo (by decide))
  refine ⟨⟨heap_setCell_same _ bo 0 _ _ v' g1, (heap_setCell_other _ _ _ _ hbb).trans g2, ownsRow_setCell_other hno (own_ne hno g1 (by decide)) _, ?_, ?_, h.ho, h.hn⟩, ?_⟩
  · rw [flat_snocL, List.length_append]
    exact ownsRow_setCell_other ho (own_ne ho g1 (by decide)) _
  · intro x hx
    rcases List.mem_append.1 hx with hx | hx
    · exact hs _ _ (h.xr x hx)
    · obtain rfl := List.mem_singleton.1 hx
      exact hs _ _ hv
  · exact (KeepU.grown hg h.oo (.inr rfl)).trans (KeepU.stored g1 (.inr (.inr (.inl rfl))) h.ho)

theorem KS.put {base bo bn g c : Nat} {X : List Lv} {now : List Bool} {W : World} {ov : Value} (h : KS base bo bn X now W ov (.slice (some ⟨g, 0, none⟩) now.length c)) (M : Nat) (x : Bool) :
    KS base bo bn X (now.set M x) (W.setCell ⟨g, M, none⟩ (.bool x)) ov (.slice (some ⟨g, 0, none⟩) now.length c) ∧ KeepU base W (W.setCell ⟨g, M, none⟩ (.bool x)) := by
  have hb := (h.no.lt g rfl).1
  have hgt : ∃ cs f, W.heap[g]? = some (.cells cs 4 f) := by
    rcases h.no.2 with ⟨he, _⟩ | ⟨g', cap, cur, he, hbg, hg, _⟩
    · cases he
    · cases he
      exact ⟨_, _, hg⟩
  obtain ⟨cs, f, hg⟩ := hgt
  have h1 : bo ≠ g := fun he => by
    have := h.ob
    rw [he, hg] at this
    cases this
  have h2 : bn ≠ g := fun he => by
    have := h.nb
    rw [he, hg] at this
    cases this
  refine ⟨⟨(heap_setCell_other _ _ _ _ h1).trans h.ob, (heap_setCell_other _ _ _ _ h2).trans h.nb, ?_, ownsRow_setCell_other h.oo (own_ne h.oo hg (by decide)) _, fun y hy => ownsRow_setCell_other (h.xr y hy) (own_ne (h.xr y hy) hg (by decide)) _, h.ho, h.hn⟩, KeepU.stored hg (.inr (.inr (.inr rfl))) hb⟩
  rw [List.length_set]
  exact own_setB h.no M x

/-- Which are known. -/
def idxT (now : List Bool) : Nat → List Int
  | 0 => []
  | k + 1 => if now[k]? = some true then idxT now k ++ [(k : Int)] else idxT now k
theorem idxT_len (now : List Bool) : ∀ k, (idxT now k).length ≤ k
  | 0 => Nat.le_refl _
  | k + 1 => by
    have ih := idxT_len now k
    unfold idxT
    split
    · simp; omega
    · omega

set_option maxRecDepth 100000 in
set_option maxHeartbeats 2000000 in
theorem known1_any (base bo bn : Nat) (X : List Lv) (now : List Bool) (W : World) (ov nv : Value) (h : KS base bo bn X now W ov nv) (hl : now.length ≤ 1000000) (hX : X.length ≤ 100000) (hb : base ≤ W.heap.size) :
    Calls Try.prog 59 #[.pointer (some ⟨bn, 0, none⟩), .pointer (some ⟨bo, 0, none⟩)] W fun e W' => e = .returned (.tuple #[]) ∧ (∃ (ov' v : Value), KS base bo bn (X ++ [⟨idxT now now.length, v⟩]) now W' ov' nv) ∧ KeepU base W W' := by
  obtain ⟨i0, hi, hz0, hz1, hz2⟩ := info_parts ii_info
  obtain ⟨j0, hj, hy0, hy1, hy2⟩ := info_parts i_info
  obtain ⟨np, nc, rfl⟩ := own_len h.no
  obtain ⟨op, oc, rfl⟩ := own_len h.oo
  have p1 := cell_of_one h.nb
  have l1 := lt_of_some h.nb
  go_enter Try.func59, Try.ntmps59
  go_wp2_with fail
  clear p1 l1
  go_loopw [2, 7] (fun o i wr => ∃ k : Nat, k ≤ now.length ∧ i = .int .i64 k ∧ wr.ownsRow W.heap.size 3 1 o (idxT now k).length ((idxT now k).flatMap ecI) ∧ Below W.heap.size W wr) (fun _ i _ => now.length - (intOf i).toNat)
  case atStart => exact ⟨0, Nat.zero_le _, rfl, World.ownsRow_nil _ _ _ _, Below.refl _ _⟩
  case round =>
    obtain ⟨k, hk, rfl, hown, hB⟩ := hrel
    have hsz := hB.size
    have hd := h.below hB
    obtain ⟨qp, qc, rfl⟩ : ∃ p c, _ = Value.slice p (idxT now k).length c := own_len hown
    by_cases hlt : k < now.length
    · have hlt2 : (k : Int) < now.length := by omega
      obtain ⟨g, gc, hgv, hg1, hg2⟩ := own_some hd.no (by omega)
      injection hgv with hgv1 _ hgv3
      subst hgv1 hgv3
      have dd := (hd.no.cellAt k (by omega)).trans (ecB_get now k hlt)
      have hil := idxT_len now k
      cases hv : now[k]'hlt
      · have hH : Hid (idxT now (k + 1) = idxT now k) := by
          show (if now[k]? = some true then _ else _) = _
          rw [if_neg (by rw [List.getElem?_eq_getElem hlt, hv]; simp)]
        rw [hv] at dd
        go_wp2_with fail
        go_roundw
        case rel => exact ⟨k + 1, by omega, by simp, by rw [show idxT now (k + 1) = _ from hH]; exact hown, hB⟩
        case measure => simp [intOf]; omega
      · have hH : Hid (idxT now (k + 1) = idxT now k ++ [(k : Int)]) := by
          show (if now[k]? = some true then _ else _) = _
          rw [if_pos (by rw [List.getElem?_eq_getElem hlt, hv])]
        rw [hv] at dd
        generalize idxT now k = T at hown hH hil
        go_wp2_with (at_builtin; refine wpList_append_own _ rfl _ _ 76 rfl W.heap.size 3 j0 (.int .i64 0) 1 8 Try.underlying76 hj hy0 hy1 hy2 rfl (by decide) _ T.length (T.flatMap ecI) rfl (hown.alloc _) _ 1 1 [.int .i64 (k : Int)] rfl rfl (news_at rfl) (by intro u hu; simp at hu; subst hu; rfl) (by unfold maxLen; omega) (by omega) (by simp; omega) ?_; intro v2 w1 hown' hgrow _)
        have hlt1 := hown.lt
        have hB2 : Below W.heap.size W w1 := Below.grown (w := _) (hB.alloc hsz _) hgrow (by simp; omega) (fun q hq => (hlt1 q hq).1)
        go_wp2_with fail
        go_roundw
        case rel => exact ⟨k + 1, by omega, by simp, by rw [show idxT now (k + 1) = _ from hH, List.flatMap_append, List.length_append]; exact hown', hB2⟩
        case measure => simp [intOf]; omega
    · have hks : k = now.length := by omega
      subst hks
      have hlt2 : ¬ (now.length : Int) < now.length := by omega
      have p0 := cell_of_one hd.ob
      have l0 := lt_of_some hd.ob
      generalize hT0 : idxT now now.length = T at hown ⊢
      have hT : Hid (idxT now now.length = T) := hT0
      clear hT0
      have hq := hd.below ((Below.refl wr.heap.size wr).alloc (Nat.le_refl _) (.cells #[.slice qp T.length qc] 76))
      go_wp2_with (at_builtin; refine wpList_append_own _ rfl _ _ 80 rfl base 76 i0 (.slice none 0 0) 1 24 Try.underlying80 hi hz0 hz1 hz2 rfl (by decide) _ X.length (X.flatMap Lv.cs) rfl hq.oo _ 1 1 [.slice qp T.length qc] rfl rfl (news_at rfl) (by intro u hu; simp at hu; subst hu; rfl) (by unfold maxLen; omega) (by omega) (by simp; omega) ?_; intro v6 W6 ho6 hg6 hv6; obtain ⟨wp6, wc6, rfl⟩ := own_len ho6; have hb6 := (hg6.block bo (lt_of_some hq.ob) (fun he => own_ne hq.oo hq.ob (by decide) he.symm)).trans hq.ob; have t0 := cell_of_one hb6; have tf := frozen_of_row W6 bo 0 _ _ hb6; have tl := lt_of_some hb6)
      obtain ⟨hL, hK⟩ := hq.visit (own_base (hown.alloc _) hb) hg6 ho6
      have hK2 := ((KeepU.of_below (base := base) hB).trans (KeepU.of_below ((Below.refl wr.heap.size wr).alloc (Nat.le_refl _) (.cells #[.slice qp T.length qc] 76)))).trans hK
      go_end0
      exact ⟨rfl, ⟨_, _, by rw [show idxT now now.length = T from hT]; exact hL⟩, hK2⟩

end Go.Proofs.Ytaaklejkngpddaa.Pr

namespace Go.Proofs.Ytaaklejkngpddaa.Pr
set_option linter.unusedVariables false
set_option linter.unusedSimpArgs false
open Go Go.RowKit

/-- Whether an expression is known behind a statement. -/
def knowB (s : St) (x : Ex) (b : Bool) : Bool := (b || (s.k == 1 && eqE s.e x)) && (emptyB s.v || !(hasX x s.v))
def knowK (E : List Ex) (s : St) : Nat → List Bool → List Bool
  | 0, n => n
  | j + 1, n => match E[j]? with
    | some x => (knowK E s j n).set j (knowB s x ((knowK E s j n).getD j false))
    | none => knowK E s j n
theorem knowK_len (E : List Ex) (s : St) : ∀ (j : Nat) (n : List Bool), (knowK E s j n).length = n.length
  | 0, n => rfl
  | j + 1, n => by
    have ih := knowK_len E s j n
    unfold knowK
    split
    · rw [List.length_set]; exact ih
    · exact ih

set_option maxRecDepth 100000 in
set_option maxHeartbeats 8000000 in
theorem known2_any (E : List Ex) (hEl : E.length ≤ 1000) (be bo bn : Nat) (sk : Int) (sv : ByteArray) (sop : Int) (s1 : ByteArray) (sa1 sb1 : Int) (s2 : ByteArray) (sa2 sb2 : Int) (b k : Int) (X : List Lv) (now : List Bool) (hnl : now.length = E.length) (W0 W : World) (ov nv ev : Value) (hs : Sl W0 ev Ex.cs E)
    (hbe : W0.heap[be]? = some (.cells #[ev] 83 (0, 0))) (hlow : Below W0.heap.size W0 W) (h : KS W0.heap.size bo bn X now W ov nv) :
    Calls Try.prog 61 #[.int .i64 b, .int .i64 k, .agg #[.int .i64 sk, .string sv, .int .i64 sop, .string s1, .int .i64 sa1, .int .i64 sb1, .string s2, .int .i64 sa2, .int .i64 sb2], .pointer (some ⟨be, 0, none⟩), .pointer (some ⟨bn, 0, none⟩)] W fun e W' => e = .returned (.tuple #[]) ∧ KS W0.heap.size bo bn X (knowK E ⟨sk, sv, ⟨sop, ⟨s1, sa1, sb1⟩, ⟨s2, sa2, sb2⟩⟩⟩ E.length now) W' ov nv ∧ KeepU W0.heap.size W W' := by
  obtain ⟨eb, eoff, ep, ecap, rfl, hep, hec⟩ := hs.open (k := 7) (fun _ => rfl)
  have hzle := hlow.size
  have hst9 := heap_alloc_new W (.cells #[.int .i64 sk, .string sv, .int .i64 sop, .string s1, .int .i64 sa1, .int .i64 sb1, .string s2, .int .i64 sa2, .int .i64 sb2] 90)
  have hLa := h.below ((Below.refl W.heap.size W).alloc (Nat.le_refl _) (.cells #[.int .i64 sk, .string sv, .int .i64 sop, .string s1, .int .i64 sa1, .int .i64 sb1, .string s2, .int .i64 sa2, .int .i64 sb2] 90))
  have hKa : KeepU W0.heap.size W (W.alloc (.cells #[.int .i64 sk, .string sv, .int .i64 sop, .string s1, .int .i64 sa1, .int .i64 sb1, .string s2, .int .i64 sa2, .int .i64 sb2] 90)) := KeepU.of_below ((Below.refl W.heap.size W).alloc (Nat.le_refl _) _)
  have c5 := cell_of_one (blk_next hlow hbe)
  have l5 := lt_of_some (blk_next hlow hbe)
  have hHn : Hid (now.length = E.length) := hnl
  clear hnl hs
  go_enter Try.func61, Try.ntmps61
  go_wp2_with fail
  go_loopw [12] (fun i wr => ∃ j : Nat, j ≤ E.length ∧ i = .int .i64 j ∧ KS W0.heap.size bo bn X (knowK E ⟨sk, sv, ⟨sop, ⟨s1, sa1, sb1⟩, ⟨s2, sa2, sb2⟩⟩⟩ j now) wr ov nv ∧ KeepU W0.heap.size (W.alloc (.cells #[.int .i64 sk, .string sv, .int .i64 sop, .string s1, .int .i64 sa1, .int .i64 sb1, .string s2, .int .i64 sa2, .int .i64 sb2] 90)) wr) (fun i _ => E.length - (intOf i).toNat)
  case atStart => exact ⟨0, Nat.zero_le _, rfl, hLa, KeepU.refl _ _⟩
  case round =>
    obtain ⟨j, hj, rfl, hL, hK⟩ := hrel
    clear hLa c5 l5
    have hK0 := hKa.trans hK
    have hBr : Below W0.heap.size W0 wr := hlow.trans (hK0.below hzle)
    have hszr := hBr.size
    by_cases hlt : j < E.length
    · obtain rfl := hep (by omega)
      have hlt2 : (j : Int) < E.length := by omega
      have e9 := hK.blk hst9 (by decide) (by decide) (by decide) (by decide)
      have hcr : ∀ r u, ((E[j]'hlt).cs)[r]? = some u → wr.cell? ⟨eb, eoff + j * 7 + r, none⟩ = some u := fun r u hu => by
        rw [Nat.add_assoc]
        exact nextC hBr (hec j hlt r u hu)
      have hN1l : (knowK E ⟨sk, sv, ⟨sop, ⟨s1, sa1, sb1⟩, ⟨s2, sa2, sb2⟩⟩⟩ j now).length = E.length := (knowK_len E ⟨sk, sv, ⟨sop, ⟨s1, sa1, sb1⟩, ⟨s2, sa2, sb2⟩⟩⟩ j now).trans hHn
      have hjn0 : j < (knowK E ⟨sk, sv, ⟨sop, ⟨s1, sa1, sb1⟩, ⟨s2, sa2, sb2⟩⟩⟩ j now).length := by omega
      have hHs : Hid (knowK E ⟨sk, sv, ⟨sop, ⟨s1, sa1, sb1⟩, ⟨s2, sa2, sb2⟩⟩⟩ (j + 1) now = (knowK E ⟨sk, sv, ⟨sop, ⟨s1, sa1, sb1⟩, ⟨s2, sa2, sb2⟩⟩⟩ j now).set j (knowB ⟨sk, sv, ⟨sop, ⟨s1, sa1, sb1⟩, ⟨s2, sa2, sb2⟩⟩⟩ (E[j]'hlt) ((knowK E ⟨sk, sv, ⟨sop, ⟨s1, sa1, sb1⟩, ⟨s2, sa2, sb2⟩⟩⟩ j now).getD j false))) := by
        show _ = _
        simp only [knowK, List.getElem?_eq_getElem hlt]
      clear hec hep
      have hN2 : E.length ≤ (knowK E ⟨sk, sv, ⟨sop, ⟨s1, sa1, sb1⟩, ⟨s2, sa2, sb2⟩⟩⟩ j now).length := by omega
      clear hN1l
      generalize E[j]'hlt = x at hcr hHs
      generalize knowK E ⟨sk, sv, ⟨sop, ⟨s1, sa1, sb1⟩, ⟨s2, sa2, sb2⟩⟩⟩ j now = N1 at hL hHs hN2 hjn0
      have hjn : j < N1.length := hjn0
      obtain ⟨xop, ⟨x1, xa1, xb1⟩, ⟨x2, xa2, xb2⟩⟩ := x
      have d0 : wr.cell? ⟨eb, eoff + j * 7, none⟩ = some (.int .i64 xop) := hcr 0 _ rfl
      have dl := World.block_lt_of_cell? _ _ d0
      have d1 : wr.cell? ⟨eb, eoff + j * 7 + 1, none⟩ = some (.string x1) := hcr 1 _ rfl
      have d2 : wr.cell? ⟨eb, eoff + j * 7 + 2, none⟩ = some (.int .i64 xa1) := hcr 2 _ rfl
      have d3 : wr.cell? ⟨eb, eoff + j * 7 + 3, none⟩ = some (.int .i64 xb1) := hcr 3 _ rfl
      have d4 : wr.cell? ⟨eb, eoff + j * 7 + 4, none⟩ = some (.string x2) := hcr 4 _ rfl
      have d5 : wr.cell? ⟨eb, eoff + j * 7 + 5, none⟩ = some (.int .i64 xa2) := hcr 5 _ rfl
      have d6 : wr.cell? ⟨eb, eoff + j * 7 + 6, none⟩ = some (.int .i64 xb2) := hcr 6 _ rfl
      clear hcr
      obtain ⟨g, gc, rfl, hg1, hg2⟩ := own_some hL.no (by omega)
      have hjn2 : (j : Int) < N1.length := by omega
      have hhas := fun V : World => tripsHas_any ⟨xop, ⟨x1, xa1, xb1⟩, ⟨x2, xa2, xb2⟩⟩ sv V
      have hV1 : Below wr.heap.size wr (wr.alloc (.cells #[.int .i64 xop, .string x1, .int .i64 xa1, .int .i64 xb1, .string x2, .int .i64 xa2, .int .i64 xb2] 31)) := (Below.refl _ _).alloc (Nat.le_refl _) _
      have hL1 := hL.below hV1
      have m0 := cell_of_one hL1.nb
      have ml := lt_of_some hL1.nb
      have dd := (hL1.no.cellAt j (by omega)).trans (ecB_get N1 j hjn)
      have ggl := (hL1.no.lt g rfl).2
      have hst1 := blk_next hV1 e9
      obtain ⟨k0, k1, k2, k3, k4, k5, k6, k7, k8⟩ := nine hst1
      have kl := lt_of_some hst1
      clear e9
      have hbb : Hid (N1.getD j false = N1[j]'hjn) := by show _ = _; simp [List.getD, List.getElem?_eq_getElem hjn]
      generalize hb0 : N1[j]'hjn = b0 at dd
      have hbb : Hid (N1.getD j false = b0) := by rw [← hb0]; exact hbb
      clear hb0
      go_wp2_with fail
      cases b0
      · by_cases h1 : sk = 1
        · subst h1
          cases heq : eqE ⟨sop, ⟨s1, sa1, sb1⟩, ⟨s2, sa2, sb2⟩⟩ ⟨xop, ⟨x1, xa1, xb1⟩, ⟨x2, xa2, xb2⟩⟩
          · generalize hzz : hasX ⟨xop, ⟨x1, xa1, xb1⟩, ⟨x2, xa2, xb2⟩⟩ sv = zh at hhas
            have hfin : Hid (knowK E ⟨1, sv, ⟨sop, ⟨s1, sa1, sb1⟩, ⟨s2, sa2, sb2⟩⟩⟩ (j + 1) now = N1.set j (false)) := by
              show _ = _
              rw [show knowK E ⟨1, sv, ⟨sop, ⟨s1, sa1, sb1⟩, ⟨s2, sa2, sb2⟩⟩⟩ (j + 1) now = _ from hHs]
              congr 1
              rw [show N1.getD j false = _ from hbb]
              simp [knowB, heq]
            clear hHs
            refine' region_tail 30 _ _ (by kernel_rfl) (by kernel_rfl) _; rotate_left 2; (first | (with_reducible exact After.below _; rfl) | (with_reducible exact below_drew (After.below _); rfl) | (with_reducible exact below_set (After.below _) _ _; (go_simp; rfl)) | (with_reducible exact below_set (below_set (After.below _) _ _) _ _; (go_simp; rfl)) | (with_reducible exact below_set (below_set (below_set (After.below _) _ _) _ _) _ _; (go_simp; rfl)) | (with_reducible exact below_set (below_set (below_set (below_set (After.below _) _ _) _ _) _ _) _ _; (go_simp; rfl)) | (exact Below.refl _ _; rfl)); simp only [List.take_succ_cons, List.take_zero, List.drop_succ_cons, List.drop_zero]; (repeat (go_big_quiet_step (first | (go_at_call 62; exact Calls.after_of (hhas _))))); refine wpQuiet_nil ?_; intro z
            have hLz := hL1.below z.below
            have n0 := cell_of_one hLz.nb
            have q0 := hLz.no.frozenAt j
            have dz := (hLz.no.cellAt j (by omega)).trans (ecB_get N1 j hjn)
            have gl := (hLz.no.lt g rfl).2
            go_wp2_with fail
            obtain ⟨hLp, hKp⟩ := hLz.put j (false)
            refine ⟨⟨j + 1, by omega, by simp, ?_, hK.trans ((KeepU.of_below hV1).trans ((KeepU.of_below z.below).trans hKp))⟩, by simp [intOf]; omega⟩
            rw [show knowK E ⟨1, sv, ⟨sop, ⟨s1, sa1, sb1⟩, ⟨s2, sa2, sb2⟩⟩⟩ (j + 1) now = _ from hfin]
            exact hLp
          · skip
            cases hem : (sv.toList == [])
            · have hem2 : emptyB sv = false := hem
              generalize hzz : hasX ⟨xop, ⟨x1, xa1, xb1⟩, ⟨x2, xa2, xb2⟩⟩ sv = zh at hhas
              have hfin : Hid (knowK E ⟨1, sv, ⟨sop, ⟨s1, sa1, sb1⟩, ⟨s2, sa2, sb2⟩⟩⟩ (j + 1) now = N1.set j (!zh)) := by
                show _ = _
                rw [show knowK E ⟨1, sv, ⟨sop, ⟨s1, sa1, sb1⟩, ⟨s2, sa2, sb2⟩⟩⟩ (j + 1) now = _ from hHs]
                congr 1
                rw [show N1.getD j false = _ from hbb]
                simp [knowB, heq, hem2, hzz]
              clear hHs
              refine' region_tail 30 _ _ (by kernel_rfl) (by kernel_rfl) _; rotate_left 2; (first | (with_reducible exact After.below _; rfl) | (with_reducible exact below_drew (After.below _); rfl) | (with_reducible exact below_set (After.below _) _ _; (go_simp; rfl)) | (with_reducible exact below_set (below_set (After.below _) _ _) _ _; (go_simp; rfl)) | (with_reducible exact below_set (below_set (below_set (After.below _) _ _) _ _) _ _; (go_simp; rfl)) | (with_reducible exact below_set (below_set (below_set (below_set (After.below _) _ _) _ _) _ _) _ _; (go_simp; rfl)) | (exact Below.refl _ _; rfl)); simp only [List.take_succ_cons, List.take_zero, List.drop_succ_cons, List.drop_zero]; (repeat (go_big_quiet_step (first | (go_at_call 62; exact Calls.after_of (hhas _))))); refine wpQuiet_nil ?_; intro z
              have hLz := hL1.below z.below
              have n0 := cell_of_one hLz.nb
              have q0 := hLz.no.frozenAt j
              have dz := (hLz.no.cellAt j (by omega)).trans (ecB_get N1 j hjn)
              have gl := (hLz.no.lt g rfl).2
              go_wp2_with fail
              obtain ⟨hLp, hKp⟩ := hLz.put j (!zh)
              refine ⟨⟨j + 1, by omega, by simp, ?_, hK.trans ((KeepU.of_below hV1).trans ((KeepU.of_below z.below).trans hKp))⟩, by simp [intOf]; omega⟩
              rw [show knowK E ⟨1, sv, ⟨sop, ⟨s1, sa1, sb1⟩, ⟨s2, sa2, sb2⟩⟩⟩ (j + 1) now = _ from hfin]
              exact hLp
            · have hem2 : emptyB sv = true := hem
              have hfin : Hid (knowK E ⟨1, sv, ⟨sop, ⟨s1, sa1, sb1⟩, ⟨s2, sa2, sb2⟩⟩⟩ (j + 1) now = N1.set j (true)) := by
                show _ = _
                rw [show knowK E ⟨1, sv, ⟨sop, ⟨s1, sa1, sb1⟩, ⟨s2, sa2, sb2⟩⟩⟩ (j + 1) now = _ from hHs]
                congr 1
                rw [show N1.getD j false = _ from hbb]
                simp [knowB, heq, hem2]
              clear hHs
              refine' region_tail 30 _ _ (by kernel_rfl) (by kernel_rfl) _; rotate_left 2; (first | (with_reducible exact After.below _; rfl) | (with_reducible exact below_drew (After.below _); rfl) | (with_reducible exact below_set (After.below _) _ _; (go_simp; rfl)) | (with_reducible exact below_set (below_set (After.below _) _ _) _ _; (go_simp; rfl)) | (with_reducible exact below_set (below_set (below_set (After.below _) _ _) _ _) _ _; (go_simp; rfl)) | (with_reducible exact below_set (below_set (below_set (below_set (After.below _) _ _) _ _) _ _) _ _; (go_simp; rfl)) | (exact Below.refl _ _; rfl)); simp only [List.take_succ_cons, List.take_zero, List.drop_succ_cons, List.drop_zero]; (repeat (go_big_quiet_step (first | (go_at_call 62; exact Calls.after_of (hhas _))))); refine wpQuiet_nil ?_; intro z
              have hLz := hL1.below z.below
              have n0 := cell_of_one hLz.nb
              have q0 := hLz.no.frozenAt j
              have dz := (hLz.no.cellAt j (by omega)).trans (ecB_get N1 j hjn)
              have gl := (hLz.no.lt g rfl).2
              go_wp2_with fail
              obtain ⟨hLp, hKp⟩ := hLz.put j (true)
              refine ⟨⟨j + 1, by omega, by simp, ?_, hK.trans ((KeepU.of_below hV1).trans ((KeepU.of_below z.below).trans hKp))⟩, by simp [intOf]; omega⟩
              rw [show knowK E ⟨1, sv, ⟨sop, ⟨s1, sa1, sb1⟩, ⟨s2, sa2, sb2⟩⟩⟩ (j + 1) now = _ from hfin]
              exact hLp
        · have h1b : (sk == 1) = false := by simp [h1]
          have h1c : decide (sk = 1) = false := by simp [h1]
          generalize hzz : hasX ⟨xop, ⟨x1, xa1, xb1⟩, ⟨x2, xa2, xb2⟩⟩ sv = zh at hhas
          have hfin : Hid (knowK E ⟨sk, sv, ⟨sop, ⟨s1, sa1, sb1⟩, ⟨s2, sa2, sb2⟩⟩⟩ (j + 1) now = N1.set j (false)) := by
            show _ = _
            rw [show knowK E ⟨sk, sv, ⟨sop, ⟨s1, sa1, sb1⟩, ⟨s2, sa2, sb2⟩⟩⟩ (j + 1) now = _ from hHs]
            congr 1
            rw [show N1.getD j false = _ from hbb]
            simp [knowB, h1b]
          clear hHs
          refine' region_tail 30 _ _ (by kernel_rfl) (by kernel_rfl) _; rotate_left 2; (first | (with_reducible exact After.below _; rfl) | (with_reducible exact below_drew (After.below _); rfl) | (with_reducible exact below_set (After.below _) _ _; (go_simp; rfl)) | (with_reducible exact below_set (below_set (After.below _) _ _) _ _; (go_simp; rfl)) | (with_reducible exact below_set (below_set (below_set (After.below _) _ _) _ _) _ _; (go_simp; rfl)) | (with_reducible exact below_set (below_set (below_set (below_set (After.below _) _ _) _ _) _ _) _ _; (go_simp; rfl)) | (exact Below.refl _ _; rfl)); simp only [List.take_succ_cons, List.take_zero, List.drop_succ_cons, List.drop_zero]; (repeat (go_big_quiet_step (first | (go_at_call 62; exact Calls.after_of (hhas _))))); refine wpQuiet_nil ?_; intro z
          have hLz := hL1.below z.below
          have n0 := cell_of_one hLz.nb
          have q0 := hLz.no.frozenAt j
          have dz := (hLz.no.cellAt j (by omega)).trans (ecB_get N1 j hjn)
          have gl := (hLz.no.lt g rfl).2
          go_wp2_with fail
          obtain ⟨hLp, hKp⟩ := hLz.put j (false)
          refine ⟨⟨j + 1, by omega, by simp, ?_, hK.trans ((KeepU.of_below hV1).trans ((KeepU.of_below z.below).trans hKp))⟩, by simp [intOf]; omega⟩
          rw [show knowK E ⟨sk, sv, ⟨sop, ⟨s1, sa1, sb1⟩, ⟨s2, sa2, sb2⟩⟩⟩ (j + 1) now = _ from hfin]
          exact hLp
      · skip
        cases hem : (sv.toList == [])
        · have hem2 : emptyB sv = false := hem
          generalize hzz : hasX ⟨xop, ⟨x1, xa1, xb1⟩, ⟨x2, xa2, xb2⟩⟩ sv = zh at hhas
          have hfin : Hid (knowK E ⟨sk, sv, ⟨sop, ⟨s1, sa1, sb1⟩, ⟨s2, sa2, sb2⟩⟩⟩ (j + 1) now = N1.set j (!zh)) := by
            show _ = _
            rw [show knowK E ⟨sk, sv, ⟨sop, ⟨s1, sa1, sb1⟩, ⟨s2, sa2, sb2⟩⟩⟩ (j + 1) now = _ from hHs]
            congr 1
            rw [show N1.getD j false = _ from hbb]
            simp [knowB, Bool.true_or, hem2, hzz]
          clear hHs
          refine' region_tail 30 _ _ (by kernel_rfl) (by kernel_rfl) _; rotate_left 2; (first | (with_reducible exact After.below _; rfl) | (with_reducible exact below_drew (After.below _); rfl) | (with_reducible exact below_set (After.below _) _ _; (go_simp; rfl)) | (with_reducible exact below_set (below_set (After.below _) _ _) _ _; (go_simp; rfl)) | (with_reducible exact below_set (below_set (below_set (After.below _) _ _) _ _) _ _; (go_simp; rfl)) | (with_reducible exact below_set (below_set (below_set (below_set (After.below _) _ _) _ _) _ _) _ _; (go_simp; rfl)) | (exact Below.refl _ _; rfl)); simp only [List.take_succ_cons, List.take_zero, List.drop_succ_cons, List.drop_zero]; (repeat (go_big_quiet_step (first | (go_at_call 62; exact Calls.after_of (hhas _))))); refine wpQuiet_nil ?_; intro z
          have hLz := hL1.below z.below
          have n0 := cell_of_one hLz.nb
          have q0 := hLz.no.frozenAt j
          have dz := (hLz.no.cellAt j (by omega)).trans (ecB_get N1 j hjn)
          have gl := (hLz.no.lt g rfl).2
          go_wp2_with fail
          obtain ⟨hLp, hKp⟩ := hLz.put j (!zh)
          refine ⟨⟨j + 1, by omega, by simp, ?_, hK.trans ((KeepU.of_below hV1).trans ((KeepU.of_below z.below).trans hKp))⟩, by simp [intOf]; omega⟩
          rw [show knowK E ⟨sk, sv, ⟨sop, ⟨s1, sa1, sb1⟩, ⟨s2, sa2, sb2⟩⟩⟩ (j + 1) now = _ from hfin]
          exact hLp
        · have hem2 : emptyB sv = true := hem
          have hfin : Hid (knowK E ⟨sk, sv, ⟨sop, ⟨s1, sa1, sb1⟩, ⟨s2, sa2, sb2⟩⟩⟩ (j + 1) now = N1.set j (true)) := by
            show _ = _
            rw [show knowK E ⟨sk, sv, ⟨sop, ⟨s1, sa1, sb1⟩, ⟨s2, sa2, sb2⟩⟩⟩ (j + 1) now = _ from hHs]
            congr 1
            rw [show N1.getD j false = _ from hbb]
            simp [knowB, Bool.true_or, hem2]
          clear hHs
          refine' region_tail 30 _ _ (by kernel_rfl) (by kernel_rfl) _; rotate_left 2; (first | (with_reducible exact After.below _; rfl) | (with_reducible exact below_drew (After.below _); rfl) | (with_reducible exact below_set (After.below _) _ _; (go_simp; rfl)) | (with_reducible exact below_set (below_set (After.below _) _ _) _ _; (go_simp; rfl)) | (with_reducible exact below_set (below_set (below_set (After.below _) _ _) _ _) _ _; (go_simp; rfl)) | (with_reducible exact below_set (below_set (below_set (below_set (After.below _) _ _) _ _) _ _) _ _; (go_simp; rfl)) | (exact Below.refl _ _; rfl)); simp only [List.take_succ_cons, List.take_zero, List.drop_succ_cons, List.drop_zero]; (repeat (go_big_quiet_step (first | (go_at_call 62; exact Calls.after_of (hhas _))))); refine wpQuiet_nil ?_; intro z
          have hLz := hL1.below z.below
          have n0 := cell_of_one hLz.nb
          have q0 := hLz.no.frozenAt j
          have dz := (hLz.no.cellAt j (by omega)).trans (ecB_get N1 j hjn)
          have gl := (hLz.no.lt g rfl).2
          go_wp2_with fail
          obtain ⟨hLp, hKp⟩ := hLz.put j (true)
          refine ⟨⟨j + 1, by omega, by simp, ?_, hK.trans ((KeepU.of_below hV1).trans ((KeepU.of_below z.below).trans hKp))⟩, by simp [intOf]; omega⟩
          rw [show knowK E ⟨sk, sv, ⟨sop, ⟨s1, sa1, sb1⟩, ⟨s2, sa2, sb2⟩⟩⟩ (j + 1) now = _ from hfin]
          exact hLp
    · have hks : j = E.length := by omega
      subst hks
      have hlt2 : ¬ (E.length : Int) < E.length := by omega
      clear hec hep
      go_wp2_with fail
      go_end0
      exact ⟨rfl, hL, hK0⟩

end Go.Proofs.Ytaaklejkngpddaa.Pr

namespace Go.Proofs.Ytaaklejkngpddaa.Pr
set_option linter.unusedVariables false
set_option linter.unusedSimpArgs false
open Go Go.RowKit

def doneK (E : List Ex) (l : List St) : Nat → List Bool → List Bool
  | 0, n => n
  | k + 1, n => match l[k]? with
    | some s => knowK E s E.length (doneK E l k n)
    | none => doneK E l k n
theorem doneK_len (E : List Ex) (l : List St) : ∀ (k : Nat) (n : List Bool), (doneK E l k n).length = n.length
  | 0, n => rfl
  | k + 1, n => by
    have ih := doneK_len E l k n
    unfold doneK
    split
    · rw [knowK_len]; exact ih
    · exact ih
/-- Behind so many visits: the lists that have been told, and which are known. -/
def knownW (P : List Bl) (E : List Ex) (L : List Ps) (n0 : List Bool) : Nat → List (List Int) × List Bool
  | 0 => ([], n0)
  | m + 1 => match L[m]? with
    | some p => ((knownW P E L n0 m).1 ++ [idxT (knownW P E L n0 m).2 (knownW P E L n0 m).2.length], doneK E (P.getD p.b.toNat default).l (P.getD p.b.toNat default).l.length (knownW P E L n0 m).2)
    | none => knownW P E L n0 m
theorem knownW_len (P : List Bl) (E : List Ex) (L : List Ps) (n0 : List Bool) : ∀ m, (knownW P E L n0 m).2.length = n0.length
  | 0 => rfl
  | m + 1 => by
    have ih := knownW_len P E L n0 m
    unfold knownW
    split
    · rw [doneK_len]; exact ih
    · exact ih
theorem KeepU.own {base b s n : Nat} {t : TypeId} {w w' : World} {v : Value} {xs : List Value} (h : KeepU base w w') (ho : w.ownsRow b t s v n xs) (h1 : t ≠ 3) (h2 : t ≠ 76) (h3 : t ≠ 80) (h4 : t ≠ 4) : w'.ownsRow b t s v n xs := by
  rcases ho with ⟨q, h5 | ⟨g, cap, cur, rfl, hbg, hg, rest⟩⟩
  · exact ⟨q, .inl h5⟩
  · exact ⟨q, .inr ⟨g, cap, cur, rfl, hbg, h.blk hg h1 h2 h3 h4, rest⟩⟩

set_option maxRecDepth 100000 in
set_option maxHeartbeats 4000000 in
theorem walkK_any (P : List Bl) (I : List Nu) (hc0 : checkOf P = 0) (E : List Ex) (hS : E.length ≤ 1000) (most : Int) (bs bo bn : Nat) (now : List Bool) (hnl : now.length = E.length) (W0 W : World) (ov nv sv pv iv : Value) (hP : Pg W0 pv P) (h12 : P.length ≤ 12) (hl12 : ∀ b ∈ P, b.l.length ≤ 12) (hI : Sl W0 iv Nu.cs I) (hs : Sl W0 sv Ex.cs E)
    (hsb : W0.heap[bs]? = some (.cells #[sv] 83 (0, 0))) (hlow : Below W0.heap.size W0 W) (h : KS W0.heap.size bo bn [] now W ov nv) :
    Calls Try.prog 60 #[.agg #[pv], iv, .int .i64 most, .func (.func 59) #[] #[.pointer (some ⟨bn, 0, none⟩), .pointer (some ⟨bo, 0, none⟩)], .func (.func 61) #[] #[.pointer (some ⟨bs, 0, none⟩), .pointer (some ⟨bn, 0, none⟩)]] W fun e W' => e = .returned (.int .i64 0) ∧
      (∃ (X : List Lv) (ov' : Value) (n' : List Bool), X.map Lv.l = (knownW P E (fromS P I (capN most) (beginS P) true).1 now (fromS P I (capN most) (beginS P) true).1.length).1 ∧ KS W0.heap.size bo bn X n' W' ov' nv) ∧ KeepU W0.heap.size W W' := by
  have hall := fun (V : World) (hB : Below W0.heap.size W0 V) => allF_ok P I hc0 most pv iv V (hP.below hB) h12 hl12 (hI.below hB)
  have hOk := (fromS_ok (I := I) hc0 hl12 (capN most) (beginS P) true ⟨Int.le_refl 0, by have := (proper_vars hc0).2; show (0 : Int) < P.length; omega, by simp [beginS], Int.le_refl 0⟩).2.2
  have hLl := (fromS_len P I (capN most) (beginS P) true).1
  have hcn : capN most ≤ 4096 := by unfold capN; omega
  generalize fromS P I (capN most) (beginS P) true = T at hall hOk hLl
  obtain ⟨L, sa, ga⟩ := T
  generalize hgg : (!ga) = gg at hall
  clear hgg
  have hall : ∀ (V : World) (hB : Below W0.heap.size W0 V), Calls Try.prog 21 #[.agg #[pv], iv, .int .i64 most] V fun e w' => ∃ x : Value × Value, e = .returned ((fun x : Value × Value => Value.tuple #[.agg #[x.1, x.2, .bool gg], .int .i64 0]) x) ∧ (fun (x : Value × Value) W2 => FOut W2 V.heap.size L sa.r.o x.1 x.2) x w' ∧ Below V.heap.size V w' := fun V hB =>
    (hall V hB).mono fun e w' ⟨vv, ov, he, hr, hb⟩ => ⟨(vv, ov), he, hr, hb⟩
  have hOk : ∀ t ∈ L, OkS P t := fun t ht => (hOk t ht).1
  have hLl : L.length ≤ 4096 := Nat.le_trans hLl hcn
  show Calls Try.prog _ _ _ (fun e W' => e = .returned (.int .i64 0) ∧ (∃ (X : List Lv) (ov' : Value) (n' : List Bool), X.map Lv.l = (knownW P E L now L.length).1 ∧ KS W0.heap.size bo bn X n' W' ov' nv) ∧ KeepU W0.heap.size W W')
  have hlw := knownW_len P E L now
  have hH := And.intro True.intro (And.intro hP hs)
  obtain ⟨bb, off, p, cap, rfl, hpp, hpc⟩ := Pg.open hP
  obtain ⟨ip, ic, rfl⟩ : ∃ p c, iv = .slice p I.length c := sl_len hI
  have hzle := hlow.size
  have hBp : Below W0.heap.size W0 (W.alloc (.cells #[.slice p P.length cap] 24)) := hlow.alloc hzle _
  have hHn : Hid (now.length = E.length) := hnl
  generalize sa.r.o = Oa at hall
  clear hP hI hs hcn hnl
  go_enter Try.func60, Try.ntmps60
  go_wp2_with ((go_at_call 21; refine' Calls.aftS _ _ (hall _ hBp) _; rotate_left 2; (exact Below.refl _ _; rfl); intro v1 x1 ho1; have hle := After.le x1; (try simp at hle)); obtain ⟨va, oa⟩ := v1; have ho1 : FOut x1.val _ L Oa va oa := ho1; obtain ⟨⟨ap, ac, rfl⟩, aop, aoc, rfl⟩ := ho1.len)
  obtain ⟨V1, hV1⟩ : ∃ V1, V1 = x1.val.alloc (.cells #[.slice ap L.length ac, .slice aop Oa.length aoc, .bool gg] 53) := ⟨_, rfl⟩
  have hxv : Below x1.val.heap.size x1.val V1 := by rw [hV1]; exact (Below.refl _ _).alloc (Nat.le_refl _) _
  have hWv : Below W.heap.size W V1 := nextB hxv (((Below.refl W.heap.size W).alloc (Nat.le_refl _) (.cells #[.slice p P.length cap] 24)).trans (x1.below.mono (by simp)))
  have hfo := ho1.below hxv
  have e5 : V1.heap[W.heap.size]? = some (.cells #[.slice p P.length cap] 24 (0, 0)) := blk_next hxv (blk_next x1.below (heap_alloc_new _ _))
  rw [← hV1]
  clear hV1 hxv ho1 hall hBp
  have hL0 := h.below hWv
  have hKv : KeepU W0.heap.size W V1 := KeepU.of_below hWv
  obtain ⟨⟨Xs, hXm, hXo, hXr⟩, _⟩ := hfo
  have hXl : Xs.length = L.length := by rw [← hXm, List.length_map]
  have hXm2 : Hid (Xs.map Sv.p = L) := hXm
  have hXl2 : Hid (Xs.length = L.length) := hXl
  clear hXm h hWv
  rw [show V1.ownsRow _ 47 4 (.slice ap L.length ac) Xs.length (Xs.flatMap Sv.cs) = V1.ownsRow _ 47 4 (.slice ap L.length ac) L.length (Xs.flatMap Sv.cs) by rw [hXl]] at hXo
  clear hXl
  have hsr : W0.heap.size ≤ V1.heap.size := Nat.le_trans hzle hKv.size
  go_loopw [30] (fun i wr => ∃ (m : Nat) (X : List Lv) (ov' : Value), m ≤ L.length ∧ i = .int .i64 m ∧ X.map Lv.l = (knownW P E L now m).1 ∧ X.length = m ∧ KS W0.heap.size bo bn X (knownW P E L now m).2 wr ov' nv ∧ KeepU W0.heap.size V1 wr) (fun i _ => L.length - (intOf i).toNat)
  case atStart => exact ⟨0, [], ov, Nat.zero_le _, rfl, rfl, rfl, hL0, KeepU.refl _ _⟩
  case round =>
    obtain ⟨m, X, ov1, hm, rfl, hXm, hXlen, hLm, hKm⟩ := hrel
    clear hL0
    have hsz := hKm.size
    have hB0 : Below W0.heap.size W0 wr := hlow.trans ((hKv.trans hKm).below hzle)
    by_cases hlt : m < L.length
    · have hlt2 : (m : Int) < L.length := by omega
      have hxo := hKm.own hXo (by decide) (by decide) (by decide) (by decide)
      have hmx : m < Xs.length := by have : Xs.length = L.length := hXl2; omega
      obtain ⟨rb, roff, rp, rcap, hrv, hrp, hrc⟩ := (Sl.of_own (L := Xs) (by have : Xs.length = L.length := hXl2; rw [this]; exact hxo) : Sl wr (.slice ap L.length ac) Sv.cs Xs).open Sv.cs_len
      injection hrv with hrv1 hrv2 hrv3
      subst hrv1 hrv3
      obtain rfl := hrp (by omega)
      have hLp : L[m]'hlt = (Xs[m]'hmx).p := by
        have h9 : Xs.map Sv.p = L := hXm2
        have h8 : L[m]? = some (Xs[m]'hmx).p := by rw [← h9, List.getElem?_map, List.getElem?_eq_getElem hmx]; rfl
        rw [List.getElem?_eq_getElem hlt] at h8
        exact Option.some.inj h8
      have hok := hOk _ (List.getElem_mem hlt)
      have hlw1 : knownW P E L now (m + 1) = ((knownW P E L now m).1 ++ [idxT (knownW P E L now m).2 (knownW P E L now m).2.length], doneK E (P.getD (L[m]'hlt).b.toNat default).l (P.getD (L[m]'hlt).b.toNat default).l.length (knownW P E L now m).2) := by
        simp only [knownW, List.getElem?_eq_getElem hlt]
      have hcv : ∀ r u, ((Xs[m]'hmx).cs)[r]? = some u → wr.cell? ⟨rb, roff + m * 4 + r, none⟩ = some u := fun r u hu => by
        rw [Nat.add_assoc]
        exact hrc m hmx r u hu
      have hRn := hXr _ (List.getElem_mem hmx)
      have hnl2 := hlw m
      clear hrc hxo hrp hrv2
      rw [hLp] at hlw1 hok
      clear hLp
      generalize knownW P E L now m = A at hXm hLm hlw1 hnl2
      obtain ⟨A1, A2⟩ := A
      generalize Xs[m]'hmx = xs at hlw1 hok hcv hRn
      obtain ⟨⟨cb, cr⟩, ev, oo⟩ := xs
      obtain ⟨g1, g2, g3, g4⟩ := hok
      have g1 : 0 ≤ cb := g1
      have g2 : cb < P.length := g2
      obtain ⟨kb, rfl⟩ : ∃ k : Nat, cb = k := ⟨cb.toNat, (Int.toNat_of_nonneg g1).symm⟩
      have hkb : kb < P.length := by omega
      have hRn : Rn _ _ ev oo cr := hRn
      obtain ⟨ep, ec, rfl⟩ := own_len hRn.e
      obtain ⟨qp, qc, rfl⟩ := own_len hRn.o
      clear hRn g1 g3 g4
      have hgd : P.getD ((kb : Nat) : Int).toNat default = P[kb]'hkb := by rw [Int.toNat_natCast]; simp [List.getD, List.getElem?_eq_getElem hkb]
      have hlw1 : knownW P E L now (m + 1) = (A1 ++ [idxT A2 A2.length], doneK E (P.getD ((kb : Nat) : Int).toNat default).l (P.getD ((kb : Nat) : Int).toNat default).l.length A2) := hlw1
      rw [hgd] at hlw1
      have hHw : Hid (knownW P E L now (m + 1) = (A1 ++ [idxT A2 A2.length], doneK E (P[kb]'hkb).l (P[kb]'hkb).l.length A2)) := hlw1
      clear hlw1 hgd
      have d0 : wr.cell? ⟨rb, roff + m * 4, none⟩ = some (.int .i64 kb) := hcv 0 _ rfl
      have dl := World.block_lt_of_cell? _ _ d0
      have d1 : wr.cell? ⟨rb, roff + m * 4 + 1, none⟩ = some (.slice ep cr.e.length ec) := hcv 1 _ rfl
      have d2 : wr.cell? ⟨rb, roff + m * 4 + 2, none⟩ = some (.int .i64 cr.i) := hcv 2 _ rfl
      have d3 : wr.cell? ⟨rb, roff + m * 4 + 3, none⟩ = some (.slice qp cr.o.length qc) := hcv 3 _ rfl
      clear hcv
      have hcb : ∀ r u, ((P[kb]'hkb).cs)[r]? = some u → W0.cell? ⟨bb, off + kb * 8 + r, none⟩ = some u := fun r u hu => by
        rw [Nat.add_assoc]
        exact (hpc kb hkb).1 r u hu
      obtain rfl := hpp (by omega)
      have hstm := (hpc kb hkb).2
      have hll := hl12 _ (List.getElem_mem hkb)
      have hnl3 : A2.length ≤ 1000000 := by have : A2.length = now.length := hnl2; have : now.length = E.length := hHn; omega
      have hnl4 : Hid (A2.length = E.length) := by have h1 : A2.length = now.length := hnl2; have h2 : now.length = E.length := hHn; exact h1.trans h2
      clear hnl2
      generalize P[kb]'hkb = B at hHw hcb hstm hll
      obtain ⟨lb, loff, lp, lcap, hlv, hlp, hlc⟩ := hstm.open St.cs_len
      have b1 : W0.cell? ⟨bb, off + kb * 8 + 1, none⟩ = some (.slice lp B.l.length lcap) := by rw [← hlv]; exact hcb 1 _ rfl
      clear hcb hstm hlv
      obtain ⟨V2, hV2⟩ : ∃ V2, V2 = wr.alloc (.cells #[.int .i64 kb, .slice ep cr.e.length ec, .int .i64 cr.i, .slice qp cr.o.length qc] 47) := ⟨_, rfl⟩
      have hwv : Below wr.heap.size wr V2 := by rw [hV2]; exact (Below.refl _ _).alloc (Nat.le_refl _) _
      have hco := known1_any W0.heap.size bo bn X A2 V2 ov1 nv (hLm.below hwv) hnl3 (by omega) (by have := hwv.size; omega)
      have e14 : V2.heap[wr.heap.size]? = some (.cells #[.int .i64 kb, .slice ep cr.e.length ec, .int .i64 cr.i, .slice qp cr.o.length qc] 47 (0, 0)) := by rw [hV2]; exact heap_alloc_new _ _
      rw [hV2] at hco e14 hwv
      go_wp2_with (go_at_call 59; refine hco.mono ?_; rintro e W2 ⟨rfl, ⟨ov2, v2, hL2⟩, hK2⟩; have hK3 := (hKm.trans (KeepU.of_below hwv)).trans hK2; have hB2 : Below W0.heap.size W0 W2 := hlow.trans ((hKv.trans hK3).below hzle); have f5 := cell_of_one (hK3.blk e5 (by decide) (by decide) (by decide) (by decide)); have l5 := World.block_lt_of_cell? _ _ f5; obtain ⟨h14, _, _, _, _, l14⟩ := four (hK2.blk e14 (by decide) (by decide) (by decide) (by decide)); have b1' := nextC hB2 b1; have bl' := World.block_lt_of_cell? _ _ b1')
      have hnl5 : A2.length = E.length := hnl4
      have hvd : ∀ k : Nat, (doneK E B.l k A2).length = E.length := fun k => (doneK_len E B.l k A2).trans hnl5
      clear hnl5
      go_loopw [44] (fun i wq => ∃ k : Nat, k ≤ B.l.length ∧ i = .int .i64 k ∧ KS W0.heap.size bo bn (X ++ [⟨idxT A2 A2.length, v2⟩]) (doneK E B.l k A2) wq ov2 nv ∧ KeepU W0.heap.size W2 wq) (fun i _ => B.l.length - (intOf i).toNat)
      case atStart => exact ⟨0, Nat.zero_le _, rfl, hL2, KeepU.refl _ _⟩
      case round =>
        obtain ⟨k, hk, rfl, hLk, hKk⟩ := hrel
        have hBk : Below W0.heap.size W0 wr := hlow.trans ((hKv.trans (hK3.trans hKk)).below hzle)
        have hszk := hBk.size
        by_cases hlk : k < B.l.length
        · obtain rfl := hlp (by omega)
          have hlk2 : (k : Int) < B.l.length := by omega
          have hcs : ∀ r u, ((B.l[k]'hlk).cs)[r]? = some u → wr.cell? ⟨lb, loff + k * 9 + r, none⟩ = some u := fun r u hu => by
            rw [Nat.add_assoc]
            exact nextC hBk (hlc k hlk r u hu)
          have hdn : doneK E B.l (k + 1) A2 = knowK E (B.l[k]'hlk) E.length (doneK E B.l k A2) := by
            simp only [doneK, List.getElem?_eq_getElem hlk]
          have hln := hvd k
          generalize B.l[k]'hlk = s at hcs hdn
          have hHd : Hid (doneK E B.l (k + 1) A2 = knowK E s E.length (doneK E B.l k A2)) := hdn
          clear hdn
          generalize doneK E B.l k A2 = N1 at hLk hHd hln
          have e0 : wr.cell? ⟨lb, loff + k * 9, none⟩ = some (.int .i64 s.k) := hcs 0 _ rfl
          have hbq := World.block_lt_of_cell? _ _ e0
          have e1 := hcs 1 _ rfl
          have e2 := hcs 2 _ rfl
          have e3 := hcs 3 _ rfl
          have e4 := hcs 4 _ rfl
          have e5' := hcs 5 _ rfl
          have e6 := hcs 6 _ rfl
          have e7 := hcs 7 _ rfl
          have e8 := hcs 8 _ rfl
          obtain ⟨k14, _, _, _, _, q14⟩ := four (hKk.blk (hK2.blk e14 (by decide) (by decide) (by decide) (by decide)) (by decide) (by decide) (by decide) (by decide))
          clear hcs
          obtain ⟨V4, hV4⟩ : ∃ V4, V4 = wr.alloc (.cells #[.int .i64 s.k, .string s.v, .int .i64 s.e.op, .string s.e.x.v, .int .i64 s.e.x.a, .int .i64 s.e.x.b, .string s.e.y.v, .int .i64 s.e.y.a, .int .i64 s.e.y.b] 90) := ⟨_, rfl⟩
          have hB4 : Below wr.heap.size wr V4 := by rw [hV4]; exact (Below.refl _ _).alloc (Nat.le_refl _) _
          have hdo := known2_any E hS bs bo bn s.k s.v s.e.op s.e.x.v s.e.x.a s.e.x.b s.e.y.v s.e.y.a s.e.y.b (kb : Int) (k : Int) (X ++ [⟨idxT A2 A2.length, v2⟩]) N1 hln W0 V4 ov2 nv sv hH.2.2 hsb (hBk.trans (hB4.mono hszk)) (hLk.below hB4)
          rw [hV4] at hdo hB4
          clear hln
          go_wp2_with (go_at_call 61; refine hdo.mono ?_; rintro e W5 ⟨rfl, hL5, hK5⟩)
          go_roundw
          case rel => exact ⟨k + 1, by omega, by simp, by rw [show doneK E B.l (k + 1) A2 = _ from hHd]; exact hL5, hKk.trans ((KeepU.of_below hB4).trans hK5)⟩
          case measure => simp [intOf]; omega
        · have hks : k = B.l.length := by omega
          subst hks
          have hlk2 : ¬ (B.l.length : Int) < B.l.length := by omega
          go_wp2_with fail
          go_roundw
          case rel => exact ⟨m + 1, X ++ [⟨idxT A2 A2.length, v2⟩], ov2, by omega, by simp, by rw [show knownW P E L now (m + 1) = _ from hHw]; simp [hXm], by simp [hXlen], by rw [show knownW P E L now (m + 1) = _ from hHw]; exact hLk, hK3.trans hKk⟩
          case measure => simp [intOf]; omega
    · have hks : m = L.length := by omega
      subst hks
      have hlt2 : ¬ (L.length : Int) < L.length := by omega
      go_wp2_with fail
      refine bodyPost_ret (v := .int .i64 0) (by simp only [results, Try.results60]; go_simp) rfl ?_
      refine ⟨rfl, ?_, hKv.trans hKm⟩
      exact ⟨X, hXm, ov1, (knownW P E L now L.length).2, hLm⟩

theorem b_info : (Try.prog.info? 4).map (fun i => (i.zero, i.size, i.bytes)) = some (some (.bool false), 1, 1) := by kernel_rfl
theorem zerosB (n : Nat) : (madeCells (Value.bool false).cells (n * 1)).toList = (List.replicate n false).flatMap ecB := by
  show (madeCells #[Value.bool false] (n * 1)).toList = _
  rw [toList_madeCells_one, Nat.mul_one, flatB]
  simp

theorem KS.start {W0 w3 : World} {b0 n : Nat} {nv : Value} (hown : w3.ownsRow b0 4 1 nv n ((List.replicate n false).flatMap ecB)) (hb : W0.heap.size ≤ b0) (hB : Below W0.heap.size W0 w3) :
    KS W0.heap.size (w3.heap.size + 1) w3.heap.size [] (List.replicate n false) ((w3.alloc (.cells #[nv] 118)).alloc (.cells #[.slice none 0 0] 80)) (.slice none 0 0) nv ∧
      Below W0.heap.size W0 ((w3.alloc (.cells #[nv] 118)).alloc (.cells #[.slice none 0 0] 80)) := by
  have hs := hB.size
  refine ⟨⟨?_, ?_, ?_, World.ownsRow_nil _ _ _ _, (fun x hx => by simp at hx), by omega, hs⟩, (hB.alloc hs _).alloc (by simp; omega) _⟩
  · rw [show w3.heap.size + 1 = (w3.alloc (.cells #[nv] 118)).heap.size by simp]
    exact heap_alloc_new _ _
  · rw [heap_alloc_old _ _ (by simp)]
    exact heap_alloc_new _ _
  · rw [List.length_replicate]
    exact own_base ((hown.alloc _).alloc _) hb

set_option maxRecDepth 100000 in
set_option maxHeartbeats 4000000 in
theorem known_with (P : List Bl) (most : Int) (pv iv : Value) (W : World) (hP : Pg W pv P) (h12 : P.length ≤ 12) (hl12 : ∀ b ∈ P, b.l.length ≤ 12) (K : Int) (R : Value → World → Prop) (il : Nat)
    (hiv : ∃ p c, iv = .slice p il c)
    (hwalk : ∀ (W0 V : World) (bs bo bn : Nat) (sv nv : Value), Below W.heap.size W W0 → Sl W0 sv Ex.cs (exprsOf P) → W0.heap[bs]? = some (.cells #[sv] 83 (0, 0)) → Below W0.heap.size W0 V →
      KS W0.heap.size bo bn [] (List.replicate (exprsOf P).length false) V (.slice none 0 0) nv → Calls Try.prog 60 #[.agg #[pv], iv, .int .i64 most, .func (.func 59) #[] #[.pointer (some ⟨bn, 0, none⟩), .pointer (some ⟨bo, 0, none⟩)], .func (.func 61) #[] #[.pointer (some ⟨bs, 0, none⟩), .pointer (some ⟨bn, 0, none⟩)]] V fun e W' => e = .returned (.int .i64 K) ∧
        (∃ ov', W'.heap[bo]? = some (.cells #[ov'] 80 (0, 0)) ∧ R ov' W' ∧ (∃ p n c, ov' = .slice p n c)) ∧ Below W.heap.size W W') :
    Calls Try.prog 34 #[.agg #[pv], iv, .int .i64 most] W fun e W' => ∃ ov, e = .returned (.tuple #[ov, .int .i64 K]) ∧ R ov W' ∧ Below W.heap.size W W' := by
  obtain ⟨i0, hi, hz0, hz1, hz2⟩ := info_parts b_info
  obtain ⟨p, cap, rfl⟩ : ∃ p c, pv = .slice p P.length c := sl_len hP.1
  obtain ⟨ip, ic, rfl⟩ := hiv
  have hmf : ∀ (fn : Fn) (first cap : Array Value) (w : World), (Instr.makeFunc fn first cap).run Try.prog w = .ok (.func fn first cap) w := fun _ _ _ _ => rfl
  have hB1 : Below W.heap.size W (W.alloc (.cells #[.slice p P.length cap] 24)) := (Below.refl _ _).alloc (Nat.le_refl _) _
  have hex := exprs_any P _ _ (hP.below hB1) h12 hl12
  have hel : (exprsOf P).length ≤ 1000 := by have := exprs_len hl12 P.length (Nat.le_refl _); rw [List.take_length] at this; omega
  have hpb0 := heap_alloc_new W (.cells #[.slice p P.length cap] 24)
  generalize exprsOf P = E at hwalk hex hel
  clear hP
  go_enter Try.func34, Try.ntmps34
  go_wp2_with (first | (go_at_call 36; refine hex.mono ?_; rintro e W1 ⟨sv, rfl, hsv, hBs⟩; obtain ⟨svp, svc, rfl⟩ : ∃ p c, sv = .slice p E.length c := own_len hsv; have y0 := nextC hBs (cell_of_one hpb0); have yl := World.block_lt_of_cell? _ _ y0; have hBw := hB1.trans (hBs.mono hB1.size); have hBv := hBw.alloc hBw.size (.cells #[.slice svp E.length svc] 83)) | (at_make; refine wpList_make_full _ rfl _ _ 118 rfl (W1.alloc (.cells #[.slice svp E.length svc] 83)).heap.size 4 i0 (.bool false) 1 Try.underlying118 hi hz0 hz1 .i64 .i64 _ _ E.length rfl rfl rfl rfl (by rw [hz2]; omega) (by unfold maxLen; omega) (Nat.le_refl _) ?_; intro w3 hown hgrow; rw [zerosB] at hown; have h23 : Below (W1.alloc (.cells #[.slice svp E.length svc] 83)).heap.size (W1.alloc (.cells #[.slice svp E.length svc] 83)) w3 := Below.grown (w := _) (Below.refl _ _) hgrow (Nat.le_refl _) (fun q hq => by cases hq); have y3 := nextC h23 (nextC ((Below.refl W1.heap.size W1).alloc (Nat.le_refl _) (.cells #[.slice svp E.length svc] 83)) y0); have yl3 := World.block_lt_of_cell? _ _ y3; simp only [World.size_alloc] at hown; obtain ⟨hst, hbe⟩ := KS.start (W0 := W1.alloc (.cells #[.slice svp E.length svc] 83)) hown (by simp) h23; have hsv0 : Sl (W1.alloc (.cells #[.slice svp E.length svc] 83)) _ Ex.cs E := Sl.below (Sl.of_own hsv) ((Below.refl W1.heap.size W1).alloc (Nat.le_refl _) _)) | (go_at_call 60; refine (hwalk _ _ W1.heap.size _ _ _ _ hBv hsv0 (heap_alloc_new _ _) hbe hst).mono ?_; rintro e W9 ⟨rfl, ⟨ov', hb9, hR, ⟨op, on, oc, rfl⟩⟩, hB9⟩; have z0 := cell_of_one hb9; have zl := World.block_lt_of_cell? _ _ z0))
  refine bodyPost_ret (v := .tuple #[.slice op on oc, .int .i64 K]) (by simp only [results, Try.results34]; go_simp) rfl ⟨_, rfl, hR, hB9⟩

theorem known_ok (P : List Bl) (I : List Nu) (hc0 : checkOf P = 0) (most : Int) (pv iv : Value) (W : World) (hP : Pg W pv P) (h12 : P.length ≤ 12) (hl12 : ∀ b ∈ P, b.l.length ≤ 12) (hI : Sl W iv Nu.cs I) :
    Calls Try.prog 34 #[.agg #[pv], iv, .int .i64 most] W fun e W' => ∃ ov, e = .returned (.tuple #[ov, .int .i64 0]) ∧
      (∃ X : List Lv, X.map Lv.l = (knownW P (exprsOf P) (fromS P I (capN most) (beginS P) true).1 (List.replicate (exprsOf P).length false) (fromS P I (capN most) (beginS P) true).1.length).1 ∧ Sl W' ov Lv.cs X ∧ ∀ x ∈ X, Sl W' x.v ecI x.l) ∧ Below W.heap.size W W' := by
  have hel : (exprsOf P).length ≤ 1000 := by have := exprs_len hl12 P.length (Nat.le_refl _); rw [List.take_length] at this; omega
  refine known_with P most pv iv W hP h12 hl12 0 (fun ov W' => ∃ X : List Lv, X.map Lv.l = (knownW P (exprsOf P) (fromS P I (capN most) (beginS P) true).1 (List.replicate (exprsOf P).length false) (fromS P I (capN most) (beginS P) true).1.length).1 ∧ Sl W' ov Lv.cs X ∧ ∀ x ∈ X, Sl W' x.v ecI x.l) I.length (sl_len hI) ?_
  intro W0 V bs bo bn sv nv h1 h2 h3 h5 h6
  refine (walkK_any P I hc0 (exprsOf P) hel most bs bo bn _ (by simp) W0 V _ nv sv pv iv (hP.below h1) h12 hl12 (hI.below h1) h2 h3 h5 h6).mono ?_
  rintro e W' ⟨rfl, ⟨X, ov', n', hX, hL⟩, hK⟩
  exact ⟨rfl, ⟨ov', hL.ob, ⟨X, hX, Sl.of_own hL.oo, fun x hx => Sl.of_own (hL.xr x hx)⟩, own_len' hL.oo⟩, h1.trans ((h5.trans (hK.below h5.size)).mono h1.size)⟩

theorem known_bad (P : List Bl) (I : List Nu) (hc0 : checkOf P ≠ 0) (most : Int) (pv iv : Value) (W : World) (hP : Pg W pv P) (h12 : P.length ≤ 12) (hl12 : ∀ b ∈ P, b.l.length ≤ 12) (hI : Sl W iv Nu.cs I) :
    Calls Try.prog 34 #[.agg #[pv], iv, .int .i64 most] W fun e W' => ∃ ov, e = .returned (.tuple #[ov, .int .i64 (checkOf P)]) ∧ ov = .slice none 0 0 ∧ Below W.heap.size W W' := by
  refine known_with P most pv iv W hP h12 hl12 (checkOf P) (fun ov W' => ov = .slice none 0 0) I.length (sl_len hI) ?_
  intro W0 V bs bo bn sv nv h1 h2 h3 h5 h6
  have h15 := h1.trans (h5.mono h1.size)
  refine (walkL_bad P I hc0 most _ _ V pv iv (hP.below h15) h12 hl12 (hI.below h15)).mono ?_
  rintro e W' ⟨rfl, hB⟩
  exact ⟨rfl, ⟨_, (h6.below hB).ob, rfl, ⟨_, _, _, rfl⟩⟩, h15.trans (hB.mono h15.size)⟩

end Go.Proofs.Ytaaklejkngpddaa.Pr

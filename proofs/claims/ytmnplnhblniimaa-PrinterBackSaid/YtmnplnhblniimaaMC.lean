/- WALKS of proper.Atoms, soughref04.Atoms, proper.fine, proper.expr, soughref04.atom, soughref04.expr. EQUALITY of atoms, expressions, statements, ends: as the model runs it. WALKS of proper.expr, proper.stmt, proper.term; soughref04.atom, expr, stmt, term. WALKS of proper.stmt, proper.term, soughref04.stmt, soughref04.term. WALKS of proper.block, proper.Stmts, soughref04.Stmts, proper.names, slices.Contains, soughref04.has, soughref04.Texts. -/
import Derived.Test.YtmnplnhblniimaaChk
import Derived.Test.YtmnplnhblniimaaMJ
import Derived.Test.YtmnplnhblniimaaMH

namespace Go.Proofs.Ytmnplnhblniimaa.Pr
set_option linter.unusedVariables false
set_option linter.unusedSimpArgs false
open Go Go.RowKit

theorem At.cs_len (x : At) : x.cs.length = 3 := rfl
theorem op_cases (op : Int) : (op = 0 ∨ op = 4) ∨ (op = 1 ∨ op = 2 ∨ op = 3) ∨ ((op == 0) = false ∧ (op == 4) = false ∧ (op == 1) = false ∧ (op == 2) = false ∧ (op == 3) = false ∧ ¬ (op = 0 ∨ op = 4) ∧ ¬ (op = 1 ∨ op = 2 ∨ op = 3)) := by
  by_cases h0 : op = 0 ∨ op = 4
  · exact .inl h0
  by_cases h1 : op = 1 ∨ op = 2 ∨ op = 3
  · exact .inr (.inl h1)
  · refine .inr (.inr ⟨?_, ?_, ?_, ?_, ?_, h0, h1⟩) <;> (simp; omega)

set_option maxRecDepth 100000 in
theorem atoms_any (op : Int) (v1 : ByteArray) (a1 b1 : Int) (v2 : ByteArray) (a2 b2 : Int) (w : World) :
    Calls Try.prog 103 #[.agg #[.int .i64 op, .string v1, .int .i64 a1, .int .i64 b1, .string v2, .int .i64 a2, .int .i64 b2]] w fun e w' => ∃ o, e = .returned o ∧ Sl w' o At.cs (atomsOf ⟨op, ⟨v1, a1, b1⟩, ⟨v2, a2, b2⟩⟩) ∧ Below w.heap.size w w' := by
  have one : ∀ W : World, Sl (W.alloc (.cells #[.string v1, .int .i64 a1, .int .i64 b1] 46)) (.slice (some ⟨W.heap.size, 0, none⟩) 1 1) At.cs [⟨v1, a1, b1⟩] := fun W => Sl.lit ([⟨v1, a1, b1⟩] : List At) rfl rfl (heap_alloc_new W _)
  have two : ∀ W : World, Sl (W.alloc (.cells #[.string v1, .int .i64 a1, .int .i64 b1, .string v2, .int .i64 a2, .int .i64 b2] 46)) (.slice (some ⟨W.heap.size, 0, none⟩) 2 2) At.cs [⟨v1, a1, b1⟩, ⟨v2, a2, b2⟩] := fun W => Sl.lit ([⟨v1, a1, b1⟩, ⟨v2, a2, b2⟩] : List At) rfl rfl (heap_alloc_new W _)
  have Hd := And.intro one two
  clear one two
  rcases op_cases op with (rfl | rfl) | (rfl | rfl | rfl) | ⟨g0, g4, g1, g2, g3, n0, n1⟩
  · rw [show atomsOf ⟨0, ⟨v1, a1, b1⟩, ⟨v2, a2, b2⟩⟩ = [⟨v1, a1, b1⟩] from rfl]
    go_enter Try.func103, Try.ntmps103
    go_wp2_with fail
    refine bodyPost_ret (v := .slice (some ⟨w.heap.size + 1, 0, none⟩) 1 1) (by simp only [results, Try.results103]; go_simp) rfl ⟨_, rfl, ?_, ?_⟩
    · have := Hd.1 (w.alloc (.cells #[.int .i64 0, .string v1, .int .i64 a1, .int .i64 b1, .string v2, .int .i64 a2, .int .i64 b2] 48))
      simpa using this
    · exact ((Below.refl _ _).alloc (Nat.le_refl _) _).alloc (by simp) _
  · rw [show atomsOf ⟨4, ⟨v1, a1, b1⟩, ⟨v2, a2, b2⟩⟩ = [⟨v1, a1, b1⟩] from rfl]
    go_enter Try.func103, Try.ntmps103
    go_wp2_with fail
    refine bodyPost_ret (v := .slice (some ⟨w.heap.size + 1, 0, none⟩) 1 1) (by simp only [results, Try.results103]; go_simp) rfl ⟨_, rfl, ?_, ?_⟩
    · have := Hd.1 (w.alloc (.cells #[.int .i64 4, .string v1, .int .i64 a1, .int .i64 b1, .string v2, .int .i64 a2, .int .i64 b2] 48))
      simpa using this
    · exact ((Below.refl _ _).alloc (Nat.le_refl _) _).alloc (by simp) _
  · rw [show atomsOf ⟨1, ⟨v1, a1, b1⟩, ⟨v2, a2, b2⟩⟩ = [⟨v1, a1, b1⟩, ⟨v2, a2, b2⟩] from rfl]
    go_enter Try.func103, Try.ntmps103
    go_wp2_with fail
    refine bodyPost_ret (v := .slice (some ⟨w.heap.size + 1, 0, none⟩) 2 2) (by simp only [results, Try.results103]; go_simp) rfl ⟨_, rfl, ?_, ?_⟩
    · have := Hd.2 (w.alloc (.cells #[.int .i64 1, .string v1, .int .i64 a1, .int .i64 b1, .string v2, .int .i64 a2, .int .i64 b2] 48))
      simpa using this
    · exact ((Below.refl _ _).alloc (Nat.le_refl _) _).alloc (by simp) _
  · rw [show atomsOf ⟨2, ⟨v1, a1, b1⟩, ⟨v2, a2, b2⟩⟩ = [⟨v1, a1, b1⟩, ⟨v2, a2, b2⟩] from rfl]
    go_enter Try.func103, Try.ntmps103
    go_wp2_with fail
    refine bodyPost_ret (v := .slice (some ⟨w.heap.size + 1, 0, none⟩) 2 2) (by simp only [results, Try.results103]; go_simp) rfl ⟨_, rfl, ?_, ?_⟩
    · have := Hd.2 (w.alloc (.cells #[.int .i64 2, .string v1, .int .i64 a1, .int .i64 b1, .string v2, .int .i64 a2, .int .i64 b2] 48))
      simpa using this
    · exact ((Below.refl _ _).alloc (Nat.le_refl _) _).alloc (by simp) _
  · rw [show atomsOf ⟨3, ⟨v1, a1, b1⟩, ⟨v2, a2, b2⟩⟩ = [⟨v1, a1, b1⟩, ⟨v2, a2, b2⟩] from rfl]
    go_enter Try.func103, Try.ntmps103
    go_wp2_with fail
    refine bodyPost_ret (v := .slice (some ⟨w.heap.size + 1, 0, none⟩) 2 2) (by simp only [results, Try.results103]; go_simp) rfl ⟨_, rfl, ?_, ?_⟩
    · have := Hd.2 (w.alloc (.cells #[.int .i64 3, .string v1, .int .i64 a1, .int .i64 b1, .string v2, .int .i64 a2, .int .i64 b2] 48))
      simpa using this
    · exact ((Below.refl _ _).alloc (Nat.le_refl _) _).alloc (by simp) _
  · rw [show atomsOf ⟨op, ⟨v1, a1, b1⟩, ⟨v2, a2, b2⟩⟩ = [] by simp only [atomsOf]; rw [if_neg n0, if_neg n1]]
    clear n0 n1
    go_enter Try.func103, Try.ntmps103
    go_wp2_with fail
    refine bodyPost_ret (v := .slice none 0 0) (by simp only [results, Try.results103]; go_simp) rfl ⟨_, rfl, Sl.nil, ?_⟩
    exact (Below.refl _ _).alloc (Nat.le_refl _) _

theorem atomB_def (v : ByteArray) (a b : Int) : atomB ⟨v, a, b⟩ = if v.toList = [] then (a == wr a && b == wr b) else (Tk.nameB v && (a == 0 && b == 0)) := by
  unfold atomB isNumB zeroN emptyB
  by_cases h : v.toList = []
  · simp [h]
  · have : (v.toList == []) = false := by simpa using h
    simp [this, h]

set_option maxRecDepth 100000 in
set_option maxHeartbeats 1000000 in
theorem fine_any (L : List At) (hl : L.length ≤ 1000) (v : Value) (w : World) (h : Sl w v At.cs L) :
    Calls Try.prog 92 #[v] w fun e w' => e = .returned (.bool (L.all atomB)) ∧ Below w.heap.size w w' := by
  obtain ⟨b, off, p, cap, rfl, hp, hc⟩ := h.open At.cs_len
  obtain ⟨R, hR⟩ : ∃ R, Hid (L.all atomB = R) := ⟨_, rfl⟩
  rw [hR]
  go_enter Try.func92, Try.ntmps92
  go_wp2_with fail
  go_loopw [7] (fun i wr => ∃ k : Nat, k ≤ L.length ∧ i = .int .i64 k ∧ (L.take k).all atomB = true ∧ Below w.heap.size w wr) (fun i _ => L.length - (intOf i).toNat)
  case atStart => exact ⟨0, Nat.zero_le _, rfl, by simp, Below.refl _ _⟩
  case round =>
    obtain ⟨k, hk, rfl, hall, hB⟩ := hrel
    have hw := hB.size
    by_cases hlt : k < L.length
    · obtain rfl := hp (by omega)
      have hlt2 : (k : Int) < L.length := by omega
      have hbad : atomB (L[k]'hlt) = false → R = false := fun h => by rw [← hR]; exact all_bad hlt h
      have hnext : atomB (L[k]'hlt) = true → (L.take (k + 1)).all atomB = true := fun h => all_next hlt hall h
      have hcr : ∀ r u, ((L[k]'hlt).cs)[r]? = some u → wr.cell? ⟨b, off + k * 3 + r, none⟩ = some u := fun r u hu => by
        rw [Nat.add_assoc]
        exact (hB.cell (p := ⟨b, off + (k * 3 + r), none⟩) (World.block_lt_of_cell? _ _ (hc k hlt r u hu))).trans (hc k hlt r u hu)
      clear hc hall
      generalize L[k]'hlt = y at hcr hbad hnext
      obtain ⟨yv, ya, yb⟩ := y
      have c0 : wr.cell? ⟨b, off + k * 3, none⟩ = some (.string yv) := hcr 0 _ rfl
      have c1 : wr.cell? ⟨b, off + k * 3 + 1, none⟩ = some (.int .i64 ya) := hcr 1 _ rfl
      have c2 : wr.cell? ⟨b, off + k * 3 + 2, none⟩ = some (.int .i64 yb) := hcr 2 _ rfl
      have hg := World.block_lt_of_cell? _ _ c0
      clear hcr
      rw [atomB_def] at hbad hnext
      have hnm := Tk.name_any yv
      have his := is_any ya yb
      cases he : (yv.toList == [])
      · have he2 : ¬ yv.toList = [] := by simpa using he
        have he3 : (yv.toList != []) = true := by rw [bne, he]; rfl
        rw [if_neg he2] at hbad hnext
        clear his
        cases hnb : Tk.nameB yv
        · rw [hnb] at hnm hbad
          have hf := hbad rfl
          subst hf
          clear hbad hnext
          go_wp2_with ((go_at_call 63; refine Calls.same (hnm _) ?_))
          go_ret
          exact ⟨rfl, hB.alloc hw _⟩
        · rw [hnb, Bool.true_and] at hbad hnext
          rw [hnb] at hnm
          cases ha : (ya == 0)
          · rw [ha] at hbad
            have hf := hbad rfl
            have ha2 : ¬ ya = 0 := by simpa using ha
            subst hf
            clear hbad hnext
            go_wp2_with ((go_at_call 63; refine Calls.same (hnm _) ?_))
            go_ret
            exact ⟨rfl, hB.alloc hw _⟩
          · have ha2 : ya = 0 := by simpa using ha
            subst ha2
            cases hb : (yb == 0)
            · rw [hb] at hbad
              have hf := hbad rfl
              have hb2 : ¬ yb = 0 := by simpa using hb
              subst hf
              clear hbad hnext
              go_wp2_with ((go_at_call 63; refine Calls.same (hnm _) ?_))
              go_ret
              exact ⟨rfl, hB.alloc hw _⟩
            · have hb2 : yb = 0 := by simpa using hb
              subst hb2
              have hx := And.intro True.intro (hnext rfl)
              clear hbad hnext
              go_wp2_with ((go_at_call 63; refine Calls.same (hnm _) ?_))
              go_roundw
              case rel => exact ⟨k + 1, by omega, by simp, hx.2, hB.alloc hw _⟩
              case measure => simp [intOf]; omega
      · have he2 : yv.toList = [] := by simpa using he
        rw [if_pos he2] at hbad hnext
        have he3 : (yv.toList != []) = false := by rw [bne, he]; rfl
        clear hnm he2
        cases hn : (ya == Go.Proofs.Ytmnplnhblniimaa.wr ya && yb == Go.Proofs.Ytmnplnhblniimaa.wr yb)
        · rw [hn] at his
          have hf := hbad hn
          subst hf
          clear hbad hnext hn
          go_wp2_with ((go_at_call 102; refine' Calls.aft _ _ (his _) _; rotate_left 2; (first | (with_reducible exact After.below _; rfl) | (with_reducible exact below_drew (After.below _); rfl) | (with_reducible exact below_set (After.below _) _ _; (go_simp; rfl)) | (with_reducible exact below_set (below_set (After.below _) _ _) _ _; (go_simp; rfl)) | (with_reducible exact below_set (below_set (below_set (After.below _) _ _) _ _) _ _; (go_simp; rfl)) | (with_reducible exact below_set (below_set (below_set (below_set (After.below _) _ _) _ _) _ _) _ _; (go_simp; rfl)) | (exact Below.refl _ _; rfl)); intro x1; have hle := After.le x1; (try simp at hle)))
          go_ret
          exact ⟨rfl, (hB.alloc hw _).trans (x1.below.mono (by simp; omega))⟩
        · rw [hn] at his
          have hx := And.intro True.intro (hnext hn)
          clear hbad hnext hn
          go_wp2_with ((go_at_call 102; refine' Calls.aft _ _ (his _) _; rotate_left 2; (first | (with_reducible exact After.below _; rfl) | (with_reducible exact below_drew (After.below _); rfl) | (with_reducible exact below_set (After.below _) _ _; (go_simp; rfl)) | (with_reducible exact below_set (below_set (After.below _) _ _) _ _; (go_simp; rfl)) | (with_reducible exact below_set (below_set (below_set (After.below _) _ _) _ _) _ _; (go_simp; rfl)) | (with_reducible exact below_set (below_set (below_set (below_set (After.below _) _ _) _ _) _ _) _ _; (go_simp; rfl)) | (exact Below.refl _ _; rfl)); intro x1; have hle := After.le x1; (try simp at hle)))
          go_roundw
          case rel => exact ⟨k + 1, by omega, by simp, hx.2, (hB.alloc hw _).trans (x1.below.mono (by simp; omega))⟩
          case measure => simp [intOf]; omega
    · have hks : k = L.length := by omega
      subst hks
      have hlt2 : ¬ (L.length : Int) < L.length := by omega
      have hRt : R = true := by rw [← hR]; rw [List.take_length] at hall; exact hall
      subst hRt
      clear hc
      go_wp2_with fail
      go_ret
      exact ⟨rfl, hB⟩

end Go.Proofs.Ytmnplnhblniimaa.Pr

namespace Go.Proofs.Ytmnplnhblniimaa.Pr
set_option linter.unusedVariables false
set_option linter.unusedSimpArgs false
open Go Go.RowKit

def eqA (x y : At) : Bool := x.v.toList == y.v.toList && (x.a == y.a && x.b == y.b)
def eqE (x y : Ex) : Bool := x.op == y.op && (eqA x.x y.x && eqA x.y y.y)
def eqS (x y : St) : Bool := x.k == y.k && (x.v.toList == y.v.toList && eqE x.e y.e)
def eqT (x y : Te) : Bool := x.k == y.k && (eqA x.x y.x && (x.t.toList == y.t.toList && x.e.toList == y.e.toList))

set_option maxRecDepth 100000 in
@[go_sem high] theorem binEqAtom (v : ByteArray) (a : Int) (b : Int) (v2 : ByteArray) (a2 : Int) (b2 : Int) (w : World) :
    (binOp .eql 46 (.agg #[.string v, .int .i64 a, .int .i64 b]) (.agg #[.string v2, .int .i64 a2, .int .i64 b2])).run Try.prog w = .ok (.bool ((eqA ⟨v, a, b⟩ ⟨v2, a2, b2⟩))) w := by
  have u3 := Try.underlying3
  have a3 := Try.isAgg3
  have z3 := Try.sizeOf3
  have u9 := Try.underlying9
  have a9 := Try.isAgg9
  have z9 := Try.sizeOf9
  have u7 := Try.underlying44
  have a7 := Try.isAgg44
  have z7 := Try.sizeOf44
  have u8 := Try.underlying46
  have a8 := Try.isAgg46
  have z8 := Try.sizeOf46
  have u6 := Try.underlying48
  have a6 := Try.isAgg48
  have z6 := Try.sizeOf48
  have u5 := Try.underlying76
  have u4 := Try.underlying58
  simp only [eqA, eqE, eqS, eqT]
  go_simp
  by_cases h0 : v.toList = v2.toList
  rotate_left
  · simp [h0]
  by_cases h1 : a = a2
  rotate_left
  · simp [h0, h1]
  by_cases h2 : b = b2 <;> simp [h0, h1, h2]

set_option maxRecDepth 100000 in
@[go_sem high] theorem nbinEqAtom (v : ByteArray) (a : Int) (b : Int) (v2 : ByteArray) (a2 : Int) (b2 : Int) (w : World) :
    (binOp .neq 46 (.agg #[.string v, .int .i64 a, .int .i64 b]) (.agg #[.string v2, .int .i64 a2, .int .i64 b2])).run Try.prog w = .ok (.bool (!(eqA ⟨v, a, b⟩ ⟨v2, a2, b2⟩))) w := by
  have u3 := Try.underlying3
  have a3 := Try.isAgg3
  have z3 := Try.sizeOf3
  have u9 := Try.underlying9
  have a9 := Try.isAgg9
  have z9 := Try.sizeOf9
  have u7 := Try.underlying44
  have a7 := Try.isAgg44
  have z7 := Try.sizeOf44
  have u8 := Try.underlying46
  have a8 := Try.isAgg46
  have z8 := Try.sizeOf46
  have u6 := Try.underlying48
  have a6 := Try.isAgg48
  have z6 := Try.sizeOf48
  have u5 := Try.underlying76
  have u4 := Try.underlying58
  simp only [eqA, eqE, eqS, eqT]
  go_simp
  by_cases h0 : v.toList = v2.toList
  rotate_left
  · simp [h0]
  by_cases h1 : a = a2
  rotate_left
  · simp [h0, h1]
  by_cases h2 : b = b2 <;> simp [h0, h1, h2]

@[go_sem high] theorem guardEqAtom (op : BinOp) (x y : Operand) (xs ys : Array Value) (w : World) : (eqGuard op 46 x y (.agg xs) (.agg ys)).run Try.prog w = .ok () w := run_eqGuard_agg w op _ x y xs ys (by kernel_rfl)

set_option maxRecDepth 100000 in
@[go_sem high] theorem binEqExpr (op : Int) (v1 : ByteArray) (a1 : Int) (b1 : Int) (vy : ByteArray) (ay : Int) (by_ : Int) (op2 : Int) (v12 : ByteArray) (a12 : Int) (b12 : Int) (vy2 : ByteArray) (ay2 : Int) (by_2 : Int) (w : World) :
    (binOp .eql 48 (.agg #[.int .i64 op, .string v1, .int .i64 a1, .int .i64 b1, .string vy, .int .i64 ay, .int .i64 by_]) (.agg #[.int .i64 op2, .string v12, .int .i64 a12, .int .i64 b12, .string vy2, .int .i64 ay2, .int .i64 by_2])).run Try.prog w = .ok (.bool ((eqE ⟨op, ⟨v1, a1, b1⟩, ⟨vy, ay, by_⟩⟩ ⟨op2, ⟨v12, a12, b12⟩, ⟨vy2, ay2, by_2⟩⟩))) w := by
  have u3 := Try.underlying3
  have a3 := Try.isAgg3
  have z3 := Try.sizeOf3
  have u9 := Try.underlying9
  have a9 := Try.isAgg9
  have z9 := Try.sizeOf9
  have u7 := Try.underlying44
  have a7 := Try.isAgg44
  have z7 := Try.sizeOf44
  have u8 := Try.underlying46
  have a8 := Try.isAgg46
  have z8 := Try.sizeOf46
  have u6 := Try.underlying48
  have a6 := Try.isAgg48
  have z6 := Try.sizeOf48
  have u5 := Try.underlying76
  have u4 := Try.underlying58
  simp only [eqA, eqE, eqS, eqT]
  go_simp
  by_cases h0 : op = op2
  rotate_left
  · simp [h0]
  by_cases h1 : v1.toList = v12.toList
  rotate_left
  · simp [h0, h1]
  by_cases h2 : a1 = a12
  rotate_left
  · simp [h0, h1, h2]
  by_cases h3 : b1 = b12
  rotate_left
  · simp [h0, h1, h2, h3]
  by_cases h4 : vy.toList = vy2.toList
  rotate_left
  · simp [h0, h1, h2, h3, h4]
  by_cases h5 : ay = ay2
  rotate_left
  · simp [h0, h1, h2, h3, h4, h5]
  by_cases h6 : by_ = by_2 <;> simp [h0, h1, h2, h3, h4, h5, h6]

set_option maxRecDepth 100000 in
@[go_sem high] theorem nbinEqExpr (op : Int) (v1 : ByteArray) (a1 : Int) (b1 : Int) (vy : ByteArray) (ay : Int) (by_ : Int) (op2 : Int) (v12 : ByteArray) (a12 : Int) (b12 : Int) (vy2 : ByteArray) (ay2 : Int) (by_2 : Int) (w : World) :
    (binOp .neq 48 (.agg #[.int .i64 op, .string v1, .int .i64 a1, .int .i64 b1, .string vy, .int .i64 ay, .int .i64 by_]) (.agg #[.int .i64 op2, .string v12, .int .i64 a12, .int .i64 b12, .string vy2, .int .i64 ay2, .int .i64 by_2])).run Try.prog w = .ok (.bool (!(eqE ⟨op, ⟨v1, a1, b1⟩, ⟨vy, ay, by_⟩⟩ ⟨op2, ⟨v12, a12, b12⟩, ⟨vy2, ay2, by_2⟩⟩))) w := by
  have u3 := Try.underlying3
  have a3 := Try.isAgg3
  have z3 := Try.sizeOf3
  have u9 := Try.underlying9
  have a9 := Try.isAgg9
  have z9 := Try.sizeOf9
  have u7 := Try.underlying44
  have a7 := Try.isAgg44
  have z7 := Try.sizeOf44
  have u8 := Try.underlying46
  have a8 := Try.isAgg46
  have z8 := Try.sizeOf46
  have u6 := Try.underlying48
  have a6 := Try.isAgg48
  have z6 := Try.sizeOf48
  have u5 := Try.underlying76
  have u4 := Try.underlying58
  simp only [eqA, eqE, eqS, eqT]
  go_simp
  by_cases h0 : op = op2
  rotate_left
  · simp [h0]
  by_cases h1 : v1.toList = v12.toList
  rotate_left
  · simp [h0, h1]
  by_cases h2 : a1 = a12
  rotate_left
  · simp [h0, h1, h2]
  by_cases h3 : b1 = b12
  rotate_left
  · simp [h0, h1, h2, h3]
  by_cases h4 : vy.toList = vy2.toList
  rotate_left
  · simp [h0, h1, h2, h3, h4]
  by_cases h5 : ay = ay2
  rotate_left
  · simp [h0, h1, h2, h3, h4, h5]
  by_cases h6 : by_ = by_2 <;> simp [h0, h1, h2, h3, h4, h5, h6]

@[go_sem high] theorem guardEqExpr (op : BinOp) (x y : Operand) (xs ys : Array Value) (w : World) : (eqGuard op 48 x y (.agg xs) (.agg ys)).run Try.prog w = .ok () w := run_eqGuard_agg w op _ x y xs ys (by kernel_rfl)

set_option maxRecDepth 100000 in
@[go_sem high] theorem binEqStmt (k : Int) (v : ByteArray) (op : Int) (v1 : ByteArray) (a1 : Int) (b1 : Int) (vy : ByteArray) (ay : Int) (by_ : Int) (k2 : Int) (v2 : ByteArray) (op2 : Int) (v12 : ByteArray) (a12 : Int) (b12 : Int) (vy2 : ByteArray) (ay2 : Int) (by_2 : Int) (w : World) :
    (binOp .eql 76 (.agg #[.int .i64 k, .string v, .int .i64 op, .string v1, .int .i64 a1, .int .i64 b1, .string vy, .int .i64 ay, .int .i64 by_]) (.agg #[.int .i64 k2, .string v2, .int .i64 op2, .string v12, .int .i64 a12, .int .i64 b12, .string vy2, .int .i64 ay2, .int .i64 by_2])).run Try.prog w = .ok (.bool ((eqS ⟨k, v, ⟨op, ⟨v1, a1, b1⟩, ⟨vy, ay, by_⟩⟩⟩ ⟨k2, v2, ⟨op2, ⟨v12, a12, b12⟩, ⟨vy2, ay2, by_2⟩⟩⟩))) w := by
  have u3 := Try.underlying3
  have a3 := Try.isAgg3
  have z3 := Try.sizeOf3
  have u9 := Try.underlying9
  have a9 := Try.isAgg9
  have z9 := Try.sizeOf9
  have u7 := Try.underlying44
  have a7 := Try.isAgg44
  have z7 := Try.sizeOf44
  have u8 := Try.underlying46
  have a8 := Try.isAgg46
  have z8 := Try.sizeOf46
  have u6 := Try.underlying48
  have a6 := Try.isAgg48
  have z6 := Try.sizeOf48
  have u5 := Try.underlying76
  have u4 := Try.underlying58
  simp only [eqA, eqE, eqS, eqT]
  go_simp
  by_cases h0 : k = k2
  rotate_left
  · simp [h0]
  by_cases h1 : v.toList = v2.toList
  rotate_left
  · simp [h0, h1]
  by_cases h2 : op = op2
  rotate_left
  · simp [h0, h1, h2]
  by_cases h3 : v1.toList = v12.toList
  rotate_left
  · simp [h0, h1, h2, h3]
  by_cases h4 : a1 = a12
  rotate_left
  · simp [h0, h1, h2, h3, h4]
  by_cases h5 : b1 = b12
  rotate_left
  · simp [h0, h1, h2, h3, h4, h5]
  by_cases h6 : vy.toList = vy2.toList
  rotate_left
  · simp [h0, h1, h2, h3, h4, h5, h6]
  by_cases h7 : ay = ay2
  rotate_left
  · simp [h0, h1, h2, h3, h4, h5, h6, h7]
  by_cases h8 : by_ = by_2 <;> simp [h0, h1, h2, h3, h4, h5, h6, h7, h8]

set_option maxRecDepth 100000 in
@[go_sem high] theorem nbinEqStmt (k : Int) (v : ByteArray) (op : Int) (v1 : ByteArray) (a1 : Int) (b1 : Int) (vy : ByteArray) (ay : Int) (by_ : Int) (k2 : Int) (v2 : ByteArray) (op2 : Int) (v12 : ByteArray) (a12 : Int) (b12 : Int) (vy2 : ByteArray) (ay2 : Int) (by_2 : Int) (w : World) :
    (binOp .neq 76 (.agg #[.int .i64 k, .string v, .int .i64 op, .string v1, .int .i64 a1, .int .i64 b1, .string vy, .int .i64 ay, .int .i64 by_]) (.agg #[.int .i64 k2, .string v2, .int .i64 op2, .string v12, .int .i64 a12, .int .i64 b12, .string vy2, .int .i64 ay2, .int .i64 by_2])).run Try.prog w = .ok (.bool (!(eqS ⟨k, v, ⟨op, ⟨v1, a1, b1⟩, ⟨vy, ay, by_⟩⟩⟩ ⟨k2, v2, ⟨op2, ⟨v12, a12, b12⟩, ⟨vy2, ay2, by_2⟩⟩⟩))) w := by
  have u3 := Try.underlying3
  have a3 := Try.isAgg3
  have z3 := Try.sizeOf3
  have u9 := Try.underlying9
  have a9 := Try.isAgg9
  have z9 := Try.sizeOf9
  have u7 := Try.underlying44
  have a7 := Try.isAgg44
  have z7 := Try.sizeOf44
  have u8 := Try.underlying46
  have a8 := Try.isAgg46
  have z8 := Try.sizeOf46
  have u6 := Try.underlying48
  have a6 := Try.isAgg48
  have z6 := Try.sizeOf48
  have u5 := Try.underlying76
  have u4 := Try.underlying58
  simp only [eqA, eqE, eqS, eqT]
  go_simp
  by_cases h0 : k = k2
  rotate_left
  · simp [h0]
  by_cases h1 : v.toList = v2.toList
  rotate_left
  · simp [h0, h1]
  by_cases h2 : op = op2
  rotate_left
  · simp [h0, h1, h2]
  by_cases h3 : v1.toList = v12.toList
  rotate_left
  · simp [h0, h1, h2, h3]
  by_cases h4 : a1 = a12
  rotate_left
  · simp [h0, h1, h2, h3, h4]
  by_cases h5 : b1 = b12
  rotate_left
  · simp [h0, h1, h2, h3, h4, h5]
  by_cases h6 : vy.toList = vy2.toList
  rotate_left
  · simp [h0, h1, h2, h3, h4, h5, h6]
  by_cases h7 : ay = ay2
  rotate_left
  · simp [h0, h1, h2, h3, h4, h5, h6, h7]
  by_cases h8 : by_ = by_2 <;> simp [h0, h1, h2, h3, h4, h5, h6, h7, h8]

@[go_sem high] theorem guardEqStmt (op : BinOp) (x y : Operand) (xs ys : Array Value) (w : World) : (eqGuard op 76 x y (.agg xs) (.agg ys)).run Try.prog w = .ok () w := run_eqGuard_agg w op _ x y xs ys (by kernel_rfl)

set_option maxRecDepth 100000 in
@[go_sem high] theorem binEqTerm (k : Int) (v : ByteArray) (a : Int) (b : Int) (t : ByteArray) (e : ByteArray) (k2 : Int) (v2 : ByteArray) (a2 : Int) (b2 : Int) (t2 : ByteArray) (e2 : ByteArray) (w : World) :
    (binOp .eql 58 (.agg #[.int .i64 k, .string v, .int .i64 a, .int .i64 b, .string t, .string e]) (.agg #[.int .i64 k2, .string v2, .int .i64 a2, .int .i64 b2, .string t2, .string e2])).run Try.prog w = .ok (.bool ((eqT ⟨k, ⟨v, a, b⟩, t, e⟩ ⟨k2, ⟨v2, a2, b2⟩, t2, e2⟩))) w := by
  have u3 := Try.underlying3
  have a3 := Try.isAgg3
  have z3 := Try.sizeOf3
  have u9 := Try.underlying9
  have a9 := Try.isAgg9
  have z9 := Try.sizeOf9
  have u7 := Try.underlying44
  have a7 := Try.isAgg44
  have z7 := Try.sizeOf44
  have u8 := Try.underlying46
  have a8 := Try.isAgg46
  have z8 := Try.sizeOf46
  have u6 := Try.underlying48
  have a6 := Try.isAgg48
  have z6 := Try.sizeOf48
  have u5 := Try.underlying76
  have u4 := Try.underlying58
  simp only [eqA, eqE, eqS, eqT]
  go_simp
  by_cases h0 : k = k2
  rotate_left
  · simp [h0]
  by_cases h1 : v.toList = v2.toList
  rotate_left
  · simp [h0, h1]
  by_cases h2 : a = a2
  rotate_left
  · simp [h0, h1, h2]
  by_cases h3 : b = b2
  rotate_left
  · simp [h0, h1, h2, h3]
  by_cases h4 : t.toList = t2.toList
  rotate_left
  · simp [h0, h1, h2, h3, h4]
  by_cases h5 : e.toList = e2.toList <;> simp [h0, h1, h2, h3, h4, h5]

set_option maxRecDepth 100000 in
@[go_sem high] theorem nbinEqTerm (k : Int) (v : ByteArray) (a : Int) (b : Int) (t : ByteArray) (e : ByteArray) (k2 : Int) (v2 : ByteArray) (a2 : Int) (b2 : Int) (t2 : ByteArray) (e2 : ByteArray) (w : World) :
    (binOp .neq 58 (.agg #[.int .i64 k, .string v, .int .i64 a, .int .i64 b, .string t, .string e]) (.agg #[.int .i64 k2, .string v2, .int .i64 a2, .int .i64 b2, .string t2, .string e2])).run Try.prog w = .ok (.bool (!(eqT ⟨k, ⟨v, a, b⟩, t, e⟩ ⟨k2, ⟨v2, a2, b2⟩, t2, e2⟩))) w := by
  have u3 := Try.underlying3
  have a3 := Try.isAgg3
  have z3 := Try.sizeOf3
  have u9 := Try.underlying9
  have a9 := Try.isAgg9
  have z9 := Try.sizeOf9
  have u7 := Try.underlying44
  have a7 := Try.isAgg44
  have z7 := Try.sizeOf44
  have u8 := Try.underlying46
  have a8 := Try.isAgg46
  have z8 := Try.sizeOf46
  have u6 := Try.underlying48
  have a6 := Try.isAgg48
  have z6 := Try.sizeOf48
  have u5 := Try.underlying76
  have u4 := Try.underlying58
  simp only [eqA, eqE, eqS, eqT]
  go_simp
  by_cases h0 : k = k2
  rotate_left
  · simp [h0]
  by_cases h1 : v.toList = v2.toList
  rotate_left
  · simp [h0, h1]
  by_cases h2 : a = a2
  rotate_left
  · simp [h0, h1, h2]
  by_cases h3 : b = b2
  rotate_left
  · simp [h0, h1, h2, h3]
  by_cases h4 : t.toList = t2.toList
  rotate_left
  · simp [h0, h1, h2, h3, h4]
  by_cases h5 : e.toList = e2.toList <;> simp [h0, h1, h2, h3, h4, h5]

@[go_sem high] theorem guardEqTerm (op : BinOp) (x y : Operand) (xs ys : Array Value) (w : World) : (eqGuard op 58 x y (.agg xs) (.agg ys)).run Try.prog w = .ok () w := run_eqGuard_agg w op _ x y xs ys (by kernel_rfl)

end Go.Proofs.Ytmnplnhblniimaa.Pr

namespace Go.Proofs.Ytmnplnhblniimaa.Pr
set_option linter.unusedVariables false
set_option linter.unusedSimpArgs false
open Go Go.RowKit

theorem Sl.len {α : Type} {enc : α → List Value} {w : World} {v : Value} {L : List α} {n : Nat} (h : Sl w v enc L) (hn : n = L.length) : ∃ p c, v = .slice p n c := by
  obtain ⟨_, _, p, c, h, _⟩ := h
  exact ⟨p, c, by rw [hn]; exact h⟩
theorem zeroA_eq (v : ByteArray) (a b : Int) : eqA ⟨v, a, b⟩ ⟨⟨#[]⟩, 0, 0⟩ = zeroA ⟨v, a, b⟩ := by
  unfold eqA zeroA zeroN emptyB
  rw [show (⟨#[]⟩ : ByteArray).toList = [] by decide +kernel]
theorem zeroE_eq (op : Int) (x y : At) : eqE ⟨op, x, y⟩ ⟨0, ⟨⟨#[]⟩, 0, 0⟩, ⟨⟨#[]⟩, 0, 0⟩⟩ = zeroE ⟨op, x, y⟩ := by
  obtain ⟨v, a, b⟩ := x
  obtain ⟨v2, a2, b2⟩ := y
  show (op == 0 && (eqA _ _ && eqA _ _)) = _
  rw [zeroA_eq, zeroA_eq]; rfl

theorem exprB_1 (op : Int) (h : op = 0 ∨ op = 4) (x y : At) : exprB ⟨op, x, y⟩ = (atomB x && zeroA y) := by unfold exprB; rw [if_pos h]
theorem exprB_2 (op : Int) (h : op = 1 ∨ op = 2 ∨ op = 3) (x y : At) : exprB ⟨op, x, y⟩ = (atomB x && atomB y) := by unfold exprB; rw [if_neg (show ¬ (op = 0 ∨ op = 4) by omega), if_pos h]
theorem exprB_3 (op : Int) (h : ¬ (op = 0 ∨ op = 4)) (h2 : ¬ (op = 1 ∨ op = 2 ∨ op = 3)) (x y : At) : exprB ⟨op, x, y⟩ = false := by unfold exprB; rw [if_neg h, if_neg h2]

set_option maxRecDepth 100000 in
set_option maxHeartbeats 1000000 in
theorem expr_any (op : Int) (v1 : ByteArray) (a1 b1 : Int) (v2 : ByteArray) (a2 b2 : Int) (w : World) :
    Calls Try.prog 94 #[.agg #[.int .i64 op, .string v1, .int .i64 a1, .int .i64 b1, .string v2, .int .i64 a2, .int .i64 b2]] w fun e w' => e = .returned (.bool (exprB ⟨op, ⟨v1, a1, b1⟩, ⟨v2, a2, b2⟩⟩)) ∧ Below w.heap.size w w' := by
  have hat := atoms_any op v1 a1 b1 v2 a2 b2
  rcases op_cases op with hop | hop | ⟨g0, g4, g1, g2, g3, n0, n1⟩
  · rw [exprB_1 op hop]
    rw [show atomsOf ⟨op, ⟨v1, a1, b1⟩, ⟨v2, a2, b2⟩⟩ = [⟨v1, a1, b1⟩] by simp only [atomsOf]; rw [if_pos hop]] at hat
    have hfi := fun v w h => fine_any [⟨v1, a1, b1⟩] (by simp) v w h
    simp only [List.all_cons, List.all_nil, Bool.and_true] at hfi
    have hz := zeroA_eq v2 a2 b2
    generalize atomB ⟨v1, a1, b1⟩ = f at hfi
    generalize zeroA ⟨v2, a2, b2⟩ = z at hz
    clear hop
    cases f <;> cases z <;> simp only [Bool.and_true, Bool.and_false, Bool.false_and, Bool.true_and]
    all_goals (
      go_enter Try.func94, Try.ntmps94
      go_wp2_with (first | ((go_at_call 103; refine' Calls.aftS _ _ (hat _) _; rotate_left 2; (first | (with_reducible exact After.below _; rfl) | (with_reducible exact below_drew (After.below _); rfl) | (with_reducible exact below_set (After.below _) _ _; (go_simp; rfl)) | (with_reducible exact below_set (below_set (After.below _) _ _) _ _; (go_simp; rfl)) | (with_reducible exact below_set (below_set (below_set (After.below _) _ _) _ _) _ _; (go_simp; rfl)) | (with_reducible exact below_set (below_set (below_set (below_set (After.below _) _ _) _ _) _ _) _ _; (go_simp; rfl)) | (exact Below.refl _ _; rfl)); intro o x1 ho; have hle := After.le x1; (try simp at hle)); obtain ⟨p9, c9, rfl⟩ := Sl.len ho (rfl : 1 = _)) | (go_at_call 92; refine' Calls.aft _ _ (hfi _ _ ho) _; rotate_left 2; (first | (with_reducible exact After.below _; rfl) | (with_reducible exact below_drew (After.below _); rfl) | (with_reducible exact below_set (After.below _) _ _; (go_simp; rfl)) | (with_reducible exact below_set (below_set (After.below _) _ _) _ _; (go_simp; rfl)) | (with_reducible exact below_set (below_set (below_set (After.below _) _ _) _ _) _ _; (go_simp; rfl)) | (with_reducible exact below_set (below_set (below_set (below_set (After.below _) _ _) _ _) _ _) _ _; (go_simp; rfl)) | (exact Below.refl _ _; rfl)); intro x2; have hle := After.le x2; (try simp at hle)))
      go_ret
      refine ⟨rfl, ?_⟩
      (repeat (first | exact Below.refl _ _ | apply Below.drew | refine Below.alloc ?_ ?_ _ | refine Below.setCell ?_ ?_ _ | refine Below.trans ?_ (Below.mono (After.below _) ?_))); (all_goals (first | (simp; done) | (simp; omega) | omega)))
  · rw [exprB_2 op hop]
    rw [show atomsOf ⟨op, ⟨v1, a1, b1⟩, ⟨v2, a2, b2⟩⟩ = [⟨v1, a1, b1⟩, ⟨v2, a2, b2⟩] by simp only [atomsOf]; rw [if_neg (by omega), if_pos hop]] at hat
    have hfi := fun v w h => fine_any [⟨v1, a1, b1⟩, ⟨v2, a2, b2⟩] (by simp) v w h
    simp only [List.all_cons, List.all_nil, Bool.and_true] at hfi
    generalize (atomB ⟨v1, a1, b1⟩ && atomB ⟨v2, a2, b2⟩) = f at hfi
    clear hop
    cases f
    all_goals (
      go_enter Try.func94, Try.ntmps94
      go_wp2_with (first | ((go_at_call 103; refine' Calls.aftS _ _ (hat _) _; rotate_left 2; (first | (with_reducible exact After.below _; rfl) | (with_reducible exact below_drew (After.below _); rfl) | (with_reducible exact below_set (After.below _) _ _; (go_simp; rfl)) | (with_reducible exact below_set (below_set (After.below _) _ _) _ _; (go_simp; rfl)) | (with_reducible exact below_set (below_set (below_set (After.below _) _ _) _ _) _ _; (go_simp; rfl)) | (with_reducible exact below_set (below_set (below_set (below_set (After.below _) _ _) _ _) _ _) _ _; (go_simp; rfl)) | (exact Below.refl _ _; rfl)); intro o x1 ho; have hle := After.le x1; (try simp at hle)); obtain ⟨p9, c9, rfl⟩ := Sl.len ho (rfl : 2 = _)) | (go_at_call 92; refine' Calls.aft _ _ (hfi _ _ ho) _; rotate_left 2; (first | (with_reducible exact After.below _; rfl) | (with_reducible exact below_drew (After.below _); rfl) | (with_reducible exact below_set (After.below _) _ _; (go_simp; rfl)) | (with_reducible exact below_set (below_set (After.below _) _ _) _ _; (go_simp; rfl)) | (with_reducible exact below_set (below_set (below_set (After.below _) _ _) _ _) _ _; (go_simp; rfl)) | (with_reducible exact below_set (below_set (below_set (below_set (After.below _) _ _) _ _) _ _) _ _; (go_simp; rfl)) | (exact Below.refl _ _; rfl)); intro x2; have hle := After.le x2; (try simp at hle)))
      go_ret
      refine ⟨rfl, ?_⟩
      (repeat (first | exact Below.refl _ _ | apply Below.drew | refine Below.alloc ?_ ?_ _ | refine Below.setCell ?_ ?_ _ | refine Below.trans ?_ (Below.mono (After.below _) ?_))); (all_goals (first | (simp; done) | (simp; omega) | omega)))
  · rw [exprB_3 op n0 n1]
    rw [show atomsOf ⟨op, ⟨v1, a1, b1⟩, ⟨v2, a2, b2⟩⟩ = [] by simp only [atomsOf]; rw [if_neg n0, if_neg n1]] at hat
    clear n0 n1
    go_enter Try.func94, Try.ntmps94
    go_wp2_with ((go_at_call 103; refine' Calls.aftS _ _ (hat _) _; rotate_left 2; (first | (with_reducible exact After.below _; rfl) | (with_reducible exact below_drew (After.below _); rfl) | (with_reducible exact below_set (After.below _) _ _; (go_simp; rfl)) | (with_reducible exact below_set (below_set (After.below _) _ _) _ _; (go_simp; rfl)) | (with_reducible exact below_set (below_set (below_set (After.below _) _ _) _ _) _ _; (go_simp; rfl)) | (with_reducible exact below_set (below_set (below_set (below_set (After.below _) _ _) _ _) _ _) _ _; (go_simp; rfl)) | (exact Below.refl _ _; rfl)); intro o x1 ho; have hle := After.le x1; (try simp at hle)); obtain ⟨p9, c9, rfl⟩ := Sl.len ho (rfl : 0 = _))
    go_ret
    refine ⟨rfl, ?_⟩
    (repeat (first | exact Below.refl _ _ | apply Below.drew | refine Below.alloc ?_ ?_ _ | refine Below.setCell ?_ ?_ _ | refine Below.trans ?_ (Below.mono (After.below _) ?_))); (all_goals (first | (simp; done) | (simp; omega) | omega))

theorem exprB_list (op : Int) (x y : At) : exprB ⟨op, x, y⟩ = ((atomsOf ⟨op, x, y⟩).all atomB && (((atomsOf ⟨op, x, y⟩).length : Int) == 2 || (((atomsOf ⟨op, x, y⟩).length : Int) == 1 && zeroA y))) := by
  rcases op_cases op with hop | hop | ⟨_, _, _, _, _, n0, n1⟩
  · rw [exprB_1 op hop, show atomsOf ⟨op, x, y⟩ = [x] by simp only [atomsOf]; rw [if_pos hop]]
    simp
  · rw [exprB_2 op hop, show atomsOf ⟨op, x, y⟩ = [x, y] by simp only [atomsOf]; rw [if_neg (by omega), if_pos hop]]
    simp
  · rw [exprB_3 op n0 n1, show atomsOf ⟨op, x, y⟩ = [] by simp only [atomsOf]; rw [if_neg n0, if_neg n1]]
    simp
theorem atomsOf_len (x : Ex) : (atomsOf x).length ≤ 2 := by
  unfold atomsOf
  split
  · simp
  · split <;> simp

end Go.Proofs.Ytmnplnhblniimaa.Pr

namespace Go.Proofs.Ytmnplnhblniimaa.Pr
set_option linter.unusedVariables false
set_option linter.unusedSimpArgs false
open Go Go.RowKit

theorem k_cases (k : Int) : k = 1 ∨ k = 2 ∨ k = 3 ∨ ((k == 1) = false ∧ (k == 2) = false ∧ (k == 3) = false ∧ k ≠ 1 ∧ k ≠ 2 ∧ k ≠ 3) := by
  by_cases h1 : k = 1
  · exact .inl h1
  by_cases h2 : k = 2
  · exact .inr (.inl h2)
  by_cases h3 : k = 3
  · exact .inr (.inr (.inl h3))
  · exact .inr (.inr (.inr ⟨by simp [h1], by simp [h2], by simp [h3], h1, h2, h3⟩))

theorem eqT_1 (k : Int) (v : ByteArray) (a b : Int) (t e : ByteArray) : eqT ⟨k, ⟨v, a, b⟩, t, e⟩ ⟨k, ⟨⟨#[]⟩, 0, 0⟩, t, ⟨#[]⟩⟩ = (emptyB e && zeroA ⟨v, a, b⟩) := by
  show (k == k && (eqA _ _ && (t.toList == t.toList && e.toList == (⟨#[]⟩ : ByteArray).toList))) = _
  rw [zeroA_eq, show (⟨#[]⟩ : ByteArray).toList = [] by decide +kernel]
  simp [emptyB, Bool.and_comm]
theorem eqT_3 (k : Int) (v : ByteArray) (a b : Int) (t e : ByteArray) : eqT ⟨k, ⟨v, a, b⟩, t, e⟩ ⟨k, ⟨⟨#[]⟩, 0, 0⟩, ⟨#[]⟩, ⟨#[]⟩⟩ = (emptyB t && (emptyB e && zeroA ⟨v, a, b⟩)) := by
  show (k == k && (eqA _ _ && (t.toList == (⟨#[]⟩ : ByteArray).toList && e.toList == (⟨#[]⟩ : ByteArray).toList))) = _
  rw [zeroA_eq, show (⟨#[]⟩ : ByteArray).toList = [] by decide +kernel]
  simp only [beq_self_eq_true, Bool.true_and, emptyB]
  cases (t.toList == []) <;> cases (e.toList == []) <;> cases zeroA ⟨v, a, b⟩ <;> rfl

set_option maxRecDepth 100000 in
set_option maxHeartbeats 1000000 in
theorem stmt_any (k : Int) (v : ByteArray) (op : Int) (v1 : ByteArray) (a1 b1 : Int) (v2 : ByteArray) (a2 b2 : Int) (w : World) :
    Calls Try.prog 67 #[.agg #[.int .i64 k, .string v, .int .i64 op, .string v1, .int .i64 a1, .int .i64 b1, .string v2, .int .i64 a2, .int .i64 b2]] w fun e w' => e = .returned (.bool (stmtB ⟨k, v, ⟨op, ⟨v1, a1, b1⟩, ⟨v2, a2, b2⟩⟩⟩)) ∧ Below w.heap.size w w' := by
  have hnm := Tk.name_any v
  have hex := expr_any op v1 a1 b1 v2 a2 b2
  have hz := zeroE_eq op ⟨v1, a1, b1⟩ ⟨v2, a2, b2⟩
  rcases k_cases k with rfl | rfl | rfl | ⟨g1, g2, g3, n1, n2, n3⟩
  · rw [show stmtB ⟨1, v, ⟨op, ⟨v1, a1, b1⟩, ⟨v2, a2, b2⟩⟩⟩ = (Tk.nameB v && exprB ⟨op, ⟨v1, a1, b1⟩, ⟨v2, a2, b2⟩⟩) from rfl]
    clear hz
    generalize Tk.nameB v = n at hnm
    generalize exprB ⟨op, ⟨v1, a1, b1⟩, ⟨v2, a2, b2⟩⟩ = x at hex
    cases n <;> cases x <;> simp only [Bool.and_true, Bool.and_false, Bool.false_and, Bool.true_and]
    all_goals (
      go_enter Try.func67, Try.ntmps67
      go_wp2_with (first | (go_at_call 63; refine Calls.same (hnm _) ?_) | (go_at_call 94; refine' Calls.aft _ _ (hex _) _; rotate_left 2; (first | (with_reducible exact After.below _; rfl) | (with_reducible exact below_drew (After.below _); rfl) | (with_reducible exact below_set (After.below _) _ _; (go_simp; rfl)) | (with_reducible exact below_set (below_set (After.below _) _ _) _ _; (go_simp; rfl)) | (with_reducible exact below_set (below_set (below_set (After.below _) _ _) _ _) _ _; (go_simp; rfl)) | (with_reducible exact below_set (below_set (below_set (below_set (After.below _) _ _) _ _) _ _) _ _; (go_simp; rfl)) | (exact Below.refl _ _; rfl)); intro x2; have hle := After.le x2; (try simp at hle)))
      go_ret
      refine ⟨rfl, ?_⟩
      (repeat (first | exact Below.refl _ _ | apply Below.drew | refine Below.alloc ?_ ?_ _ | refine Below.setCell ?_ ?_ _ | refine Below.trans ?_ (Below.mono (After.below _) ?_))); (all_goals (first | (simp; done) | (simp; omega) | omega)))
  · rw [show stmtB ⟨2, v, ⟨op, ⟨v1, a1, b1⟩, ⟨v2, a2, b2⟩⟩⟩ = (Tk.nameB v && zeroE ⟨op, ⟨v1, a1, b1⟩, ⟨v2, a2, b2⟩⟩) from rfl]
    clear hex
    generalize Tk.nameB v = n at hnm
    generalize zeroE ⟨op, ⟨v1, a1, b1⟩, ⟨v2, a2, b2⟩⟩ = x at hz
    cases n <;> cases x <;> simp only [Bool.and_true, Bool.and_false, Bool.false_and, Bool.true_and]
    all_goals (
      go_enter Try.func67, Try.ntmps67
      go_wp2_with (go_at_call 63; refine Calls.same (hnm _) ?_)
      go_ret
      refine ⟨rfl, ?_⟩
      (repeat (first | exact Below.refl _ _ | apply Below.drew | refine Below.alloc ?_ ?_ _ | refine Below.setCell ?_ ?_ _ | refine Below.trans ?_ (Below.mono (After.below _) ?_))); (all_goals (first | (simp; done) | (simp; omega) | omega)))
  · rw [show stmtB ⟨3, v, ⟨op, ⟨v1, a1, b1⟩, ⟨v2, a2, b2⟩⟩⟩ = (emptyB v && (op == 0 && exprB ⟨op, ⟨v1, a1, b1⟩, ⟨v2, a2, b2⟩⟩)) from rfl]
    clear hz hnm
    generalize exprB ⟨op, ⟨v1, a1, b1⟩, ⟨v2, a2, b2⟩⟩ = x at hex
    cases h0 : (op == 0) <;> cases he : emptyB v <;> cases x <;> simp only [Bool.and_true, Bool.and_false, Bool.false_and, Bool.true_and]
    all_goals (
      unfold emptyB at he
      go_enter Try.func67, Try.ntmps67
      go_wp2_with (go_at_call 94; refine' Calls.aft _ _ (hex _) _; rotate_left 2; (first | (with_reducible exact After.below _; rfl) | (with_reducible exact below_drew (After.below _); rfl) | (with_reducible exact below_set (After.below _) _ _; (go_simp; rfl)) | (with_reducible exact below_set (below_set (After.below _) _ _) _ _; (go_simp; rfl)) | (with_reducible exact below_set (below_set (below_set (After.below _) _ _) _ _) _ _; (go_simp; rfl)) | (with_reducible exact below_set (below_set (below_set (below_set (After.below _) _ _) _ _) _ _) _ _; (go_simp; rfl)) | (exact Below.refl _ _; rfl)); intro x2; have hle := After.le x2; (try simp at hle))
      go_ret
      refine ⟨rfl, ?_⟩
      (repeat (first | exact Below.refl _ _ | apply Below.drew | refine Below.alloc ?_ ?_ _ | refine Below.setCell ?_ ?_ _ | refine Below.trans ?_ (Below.mono (After.below _) ?_))); (all_goals (first | (simp; done) | (simp; omega) | omega)))
  · rw [show stmtB ⟨k, v, ⟨op, ⟨v1, a1, b1⟩, ⟨v2, a2, b2⟩⟩⟩ = false by unfold stmtB; rw [if_neg n1, if_neg n2, if_neg n3]]
    clear hz hnm hex n1 n2 n3
    go_enter Try.func67, Try.ntmps67
    go_wp2_with fail
    go_ret
    refine ⟨rfl, ?_⟩
    (repeat (first | exact Below.refl _ _ | apply Below.drew | refine Below.alloc ?_ ?_ _ | refine Below.setCell ?_ ?_ _ | refine Below.trans ?_ (Below.mono (After.below _) ?_))); (all_goals (first | (simp; done) | (simp; omega) | omega))

set_option maxRecDepth 100000 in
set_option maxHeartbeats 2000000 in
theorem term_any (k : Int) (v : ByteArray) (a b : Int) (t e : ByteArray) (w : World) :
    Calls Try.prog 64 #[.agg #[.int .i64 k, .string v, .int .i64 a, .int .i64 b, .string t, .string e]] w fun r w' => r = .returned (.bool (termB ⟨k, ⟨v, a, b⟩, t, e⟩)) ∧ Below w.heap.size w w' := by
  have hnt := Tk.name_any t
  have hne := Tk.name_any e
  have hz1 := eqT_1 1 v a b t e
  have hz3 := eqT_3 3 v a b t e
  have hza := zeroA_eq v a b
  have hat : ∀ (W : World) (sb : Nat), sb = W.heap.size → Calls Try.prog 92 #[.slice (some ⟨sb, 0, none⟩) 1 1] (W.alloc (.cells #[.string v, .int .i64 a, .int .i64 b] 46)) fun r w' => r = .returned (.bool (atomB ⟨v, a, b⟩)) ∧ Below (W.alloc (.cells #[.string v, .int .i64 a, .int .i64 b] 46)).heap.size (W.alloc (.cells #[.string v, .int .i64 a, .int .i64 b] 46)) w' := fun W sb hsb => by
    subst hsb
    have := fine_any [⟨v, a, b⟩] (by simp) _ _ (Sl.lit ([⟨v, a, b⟩] : List At) rfl rfl (heap_alloc_new W (.cells #[.string v, .int .i64 a, .int .i64 b] 46)) (c := 1))
    simpa using this
  rcases k_cases k with rfl | rfl | rfl | ⟨g1, g2, g3, n1, n2, n3⟩
  · rw [show termB ⟨1, ⟨v, a, b⟩, t, e⟩ = (Tk.nameB t && (emptyB e && zeroA ⟨v, a, b⟩)) from rfl]
    clear hat hne hz3
    generalize Tk.nameB t = n at hnt
    clear hza
    generalize (emptyB e && zeroA ⟨v, a, b⟩) = z at hz1
    cases n <;> cases z <;> simp only [Bool.and_true, Bool.and_false, Bool.false_and, Bool.true_and]
    all_goals (
      go_enter Try.func64, Try.ntmps64
      go_wp2_with (go_at_call 63; refine Calls.same (hnt _) ?_)
      go_ret
      refine ⟨rfl, ?_⟩
      (repeat (first | exact Below.refl _ _ | apply Below.drew | refine Below.alloc ?_ ?_ _ | refine Below.setCell ?_ ?_ _ | refine Below.trans ?_ (Below.mono (After.below _) ?_))); (all_goals (first | (simp; done) | (simp; omega) | omega)))
  · rw [show termB ⟨2, ⟨v, a, b⟩, t, e⟩ = (Tk.nameB t && (Tk.nameB e && atomB ⟨v, a, b⟩)) from rfl]
    clear hz1 hz3 hza
    generalize Tk.nameB t = n at hnt
    generalize Tk.nameB e = m at hne
    generalize atomB ⟨v, a, b⟩ = z at hat
    cases n <;> cases m <;> cases z <;> simp only [Bool.and_true, Bool.and_false, Bool.false_and, Bool.true_and]
    all_goals (
      go_enter Try.func64, Try.ntmps64
      go_wp2_with (first | (go_at_call 63; first | (with_reducible refine Calls.same (hnt _) ?_) | (with_reducible refine Calls.same (hne _) ?_)) | (go_at_call 92; refine' Calls.aft _ _ (hat _ _ (by simp)) _; rotate_left 2; (first | (with_reducible exact After.below _; rfl) | (with_reducible exact below_drew (After.below _); rfl) | (with_reducible exact below_set (After.below _) _ _; (go_simp; rfl)) | (with_reducible exact below_set (below_set (After.below _) _ _) _ _; (go_simp; rfl)) | (with_reducible exact below_set (below_set (below_set (After.below _) _ _) _ _) _ _; (go_simp; rfl)) | (with_reducible exact below_set (below_set (below_set (below_set (After.below _) _ _) _ _) _ _) _ _; (go_simp; rfl)) | (exact Below.refl _ _; rfl)); intro x3; have hle := After.le x3; (try simp at hle)))
      go_ret
      refine ⟨rfl, ?_⟩
      (repeat (first | exact Below.refl _ _ | apply Below.drew | refine Below.alloc ?_ ?_ _ | refine Below.setCell ?_ ?_ _ | refine Below.trans ?_ (Below.mono (After.below _) ?_))); (all_goals (first | (simp; done) | (simp; omega) | omega)))
  · rw [show termB ⟨3, ⟨v, a, b⟩, t, e⟩ = (emptyB t && (emptyB e && zeroA ⟨v, a, b⟩)) from rfl]
    clear hat hne hnt hz1
    clear hza
    generalize (emptyB t && (emptyB e && zeroA ⟨v, a, b⟩)) = z at hz3
    go_enter Try.func64, Try.ntmps64
    go_wp2_with fail
    refine bodyPost_ret (v := .bool z) (by simp only [results, Try.results64]; go_simp) rfl ⟨rfl, ?_⟩
    (repeat (first | exact Below.refl _ _ | apply Below.drew | refine Below.alloc ?_ ?_ _ | refine Below.setCell ?_ ?_ _ | refine Below.trans ?_ (Below.mono (After.below _) ?_))); (all_goals (first | (simp; done) | (simp; omega) | omega))
  · rw [show termB ⟨k, ⟨v, a, b⟩, t, e⟩ = false by unfold termB; rw [if_neg n1, if_neg n2, if_neg n3]]
    clear hat hne hnt hz1 hz3 hza n1 n2 n3
    go_enter Try.func64, Try.ntmps64
    go_wp2_with fail
    go_ret
    refine ⟨rfl, ?_⟩
    (repeat (first | exact Below.refl _ _ | apply Below.drew | refine Below.alloc ?_ ?_ _ | refine Below.setCell ?_ ?_ _ | refine Below.trans ?_ (Below.mono (After.below _) ?_))); (all_goals (first | (simp; done) | (simp; omega) | omega))

end Go.Proofs.Ytmnplnhblniimaa.Pr

namespace Go.Proofs.Ytmnplnhblniimaa.Pr
set_option linter.unusedVariables false
set_option linter.unusedSimpArgs false
open Go Go.RowKit

set_option maxRecDepth 100000 in
theorem block1_any (k : Int) (v : ByteArray) (op : Int) (v1 : ByteArray) (a1 b1 : Int) (v2 : ByteArray) (a2 b2 : Int) (w : World) :
    Calls Try.prog 66 #[.agg #[.int .i64 k, .string v, .int .i64 op, .string v1, .int .i64 a1, .int .i64 b1, .string v2, .int .i64 a2, .int .i64 b2]] w fun e w' => e = .returned (.bool !(stmtB ⟨k, v, ⟨op, ⟨v1, a1, b1⟩, ⟨v2, a2, b2⟩⟩⟩)) ∧ Below w.heap.size w w' := by
  have hst := stmt_any k v op v1 a1 b1 v2 a2 b2
  generalize stmtB ⟨k, v, ⟨op, ⟨v1, a1, b1⟩, ⟨v2, a2, b2⟩⟩⟩ = z at hst
  cases z <;> simp only [Bool.not_false, Bool.not_true]
  all_goals (
    go_enter Try.func66, Try.ntmps66
    go_wp2_with ((go_at_call 67; refine' Calls.aft _ _ (hst _) _; rotate_left 2; (first | (with_reducible exact After.below _; rfl) | (with_reducible exact below_drew (After.below _); rfl) | (with_reducible exact below_set (After.below _) _ _; (go_simp; rfl)) | (with_reducible exact below_set (below_set (After.below _) _ _) _ _; (go_simp; rfl)) | (with_reducible exact below_set (below_set (below_set (After.below _) _ _) _ _) _ _; (go_simp; rfl)) | (with_reducible exact below_set (below_set (below_set (below_set (After.below _) _ _) _ _) _ _) _ _; (go_simp; rfl)) | (exact Below.refl _ _; rfl)); intro x1; have hle := After.le x1; (try simp at hle)))
    go_ret
    refine ⟨rfl, ?_⟩
    (repeat (first | exact Below.refl _ _ | apply Below.drew | refine Below.alloc ?_ ?_ _ | refine Below.setCell ?_ ?_ _ | refine Below.trans ?_ (Below.mono (After.below _) ?_))); (all_goals (first | (simp; done) | (simp; omega) | omega)))

set_option maxRecDepth 100000 in
set_option maxHeartbeats 1000000 in
theorem indexf_any (L : List St) (hl : L.length ≤ 1000) (v : Value) (w : World) (h : Sl w v St.cs L) :
    Calls Try.prog 93 #[v, .func (.func 66) #[] #[]] w fun e w' => ∃ i : Int, e = .returned (.int .i64 i) ∧ decide (0 ≤ i) = (!(L.all stmtB)) ∧ Below w.heap.size w w' := by
  obtain ⟨b, off, p, cap, rfl, hp, hc⟩ := h.open St.cs_len
  obtain ⟨R, hR⟩ : ∃ R, Hid (L.all stmtB = R) := ⟨_, rfl⟩
  rw [hR]
  go_enter Try.func93, Try.ntmps93
  go_wp2_with fail
  go_loopw [8] (fun i wr => ∃ k : Nat, k ≤ L.length ∧ i = .int .i64 k ∧ (L.take k).all stmtB = true ∧ Below w.heap.size w wr) (fun i _ => L.length - (intOf i).toNat)
  case atStart => exact ⟨0, Nat.zero_le _, rfl, by simp, Below.refl _ _⟩
  case round =>
    obtain ⟨k, hk, rfl, hall, hB⟩ := hrel
    have hw := hB.size
    by_cases hlt : k < L.length
    · obtain rfl := hp (by omega)
      have hlt2 : (k : Int) < L.length := by omega
      have hbad : stmtB (L[k]'hlt) = false → R = false := fun h => by rw [← hR]; exact all_bad hlt h
      have hnext : stmtB (L[k]'hlt) = true → (L.take (k + 1)).all stmtB = true := fun h => all_next hlt hall h
      have hcr : ∀ r u, ((L[k]'hlt).cs)[r]? = some u → wr.cell? ⟨b, off + k * 9 + r, none⟩ = some u := fun r u hu => by
        rw [Nat.add_assoc]
        exact (hB.cell (p := ⟨b, off + (k * 9 + r), none⟩) (World.block_lt_of_cell? _ _ (hc k hlt r u hu))).trans (hc k hlt r u hu)
      clear hc hall
      generalize L[k]'hlt = s at hcr hbad hnext
      have e0 : wr.cell? ⟨b, off + k * 9, none⟩ = some (.int .i64 s.k) := hcr 0 _ rfl
      have hg := World.block_lt_of_cell? _ _ e0
      have e1 := hcr 1 _ rfl
      have e2 := hcr 2 _ rfl
      have e3 := hcr 3 _ rfl
      have e4 := hcr 4 _ rfl
      have e5 := hcr 5 _ rfl
      have e6 := hcr 6 _ rfl
      have e7 := hcr 7 _ rfl
      have e8 := hcr 8 _ rfl
      clear hcr
      have hra := block1_any s.k s.v s.e.op s.e.x.v s.e.x.a s.e.x.b s.e.y.v s.e.y.a s.e.y.b
      rw [show (⟨s.k, s.v, ⟨s.e.op, ⟨s.e.x.v, s.e.x.a, s.e.x.b⟩, ⟨s.e.y.v, s.e.y.a, s.e.y.b⟩⟩⟩ : St) = s from rfl] at hra
      cases hn : stmtB s
      · rw [hn] at hra
        have hf := hbad hn
        subst hf
        clear hbad hnext hn
        go_wp2_with ((go_at_call 66; refine' Calls.aft _ _ (hra _) _; rotate_left 2; (first | (with_reducible exact After.below _; rfl) | (with_reducible exact below_drew (After.below _); rfl) | (with_reducible exact below_set (After.below _) _ _; (go_simp; rfl)) | (with_reducible exact below_set (below_set (After.below _) _ _) _ _; (go_simp; rfl)) | (with_reducible exact below_set (below_set (below_set (After.below _) _ _) _ _) _ _; (go_simp; rfl)) | (with_reducible exact below_set (below_set (below_set (below_set (After.below _) _ _) _ _) _ _) _ _; (go_simp; rfl)) | (exact Below.refl _ _; rfl)); intro x1; have hle := After.le x1; (try simp at hle)))
        refine bodyPost_ret (v := .int .i64 k) (by simp only [results, Try.results93]; go_simp) rfl ⟨_, rfl, by simp, hB.trans (x1.below.mono hw)⟩
      · rw [hn] at hra
        have hx := And.intro True.intro (hnext hn)
        clear hbad hnext hn
        go_wp2_with ((go_at_call 66; refine' Calls.aft _ _ (hra _) _; rotate_left 2; (first | (with_reducible exact After.below _; rfl) | (with_reducible exact below_drew (After.below _); rfl) | (with_reducible exact below_set (After.below _) _ _; (go_simp; rfl)) | (with_reducible exact below_set (below_set (After.below _) _ _) _ _; (go_simp; rfl)) | (with_reducible exact below_set (below_set (below_set (After.below _) _ _) _ _) _ _; (go_simp; rfl)) | (with_reducible exact below_set (below_set (below_set (below_set (After.below _) _ _) _ _) _ _) _ _; (go_simp; rfl)) | (exact Below.refl _ _; rfl)); intro x1; have hle := After.le x1; (try simp at hle)))
        go_roundw
        case rel => exact ⟨k + 1, by omega, by simp, hx.2, hB.trans (x1.below.mono hw)⟩
        case measure => simp [intOf]; omega
    · have hks : k = L.length := by omega
      subst hks
      have hlt2 : ¬ (L.length : Int) < L.length := by omega
      have hRt : R = true := by rw [← hR]; rw [List.take_length] at hall; exact hall
      subst hRt
      clear hc
      go_wp2_with fail
      refine bodyPost_ret (v := .int .i64 (-1)) (by simp only [results, Try.results93]; go_simp) rfl ⟨_, rfl, by decide, hB⟩

set_option maxRecDepth 100000 in
theorem containsf_any (L : List St) (hl : L.length ≤ 1000) (v : Value) (w : World) (h : Sl w v St.cs L) :
    Calls Try.prog 65 #[v, .func (.func 66) #[] #[]] w fun e w' => e = .returned (.bool !(L.all stmtB)) ∧ Below w.heap.size w w' := by
  have hix := indexf_any L hl v w h
  generalize L.all stmtB = z at hix ⊢
  go_enter Try.func65, Try.ntmps65
  go_wp2_with ((go_at_call 93; refine' Calls.aftS _ _ (hix) _; rotate_left 2; (first | (with_reducible exact After.below _; rfl) | (with_reducible exact below_drew (After.below _); rfl) | (with_reducible exact below_set (After.below _) _ _; (go_simp; rfl)) | (with_reducible exact below_set (below_set (After.below _) _ _) _ _; (go_simp; rfl)) | (with_reducible exact below_set (below_set (below_set (After.below _) _ _) _ _) _ _; (go_simp; rfl)) | (with_reducible exact below_set (below_set (below_set (below_set (After.below _) _ _) _ _) _ _) _ _; (go_simp; rfl)) | (exact Below.refl _ _; rfl)); intro i x1 hi; have hle := After.le x1; (try simp at hle)))
  refine bodyPost_ret (v := .bool !z) (by simp only [results, Try.results65]; go_simp) rfl ⟨rfl, x1.below⟩

set_option maxRecDepth 100000 in
theorem pblock_any (B : Bl) (hl : B.l.length ≤ 1000) (lp : Option Addr) (lcap : Nat) (w : World) (h : Sl w (.slice lp B.l.length lcap) St.cs B.l) :
    Calls Try.prog 35 #[.agg #[.string B.n, .slice lp B.l.length lcap, .int .i64 B.t.k, .string B.t.x.v, .int .i64 B.t.x.a, .int .i64 B.t.x.b, .string B.t.t, .string B.t.e]] w fun e w' => e = .returned (.bool (blockB B)) ∧ Below w.heap.size w w' := by
  have hnm := Tk.name_any B.n
  have htm := term_any B.t.k B.t.x.v B.t.x.a B.t.x.b B.t.t B.t.e
  rw [show (⟨B.t.k, ⟨B.t.x.v, B.t.x.a, B.t.x.b⟩, B.t.t, B.t.e⟩ : Te) = B.t from rfl] at htm
  have hcf := fun W (hB : Below w.heap.size w W) => containsf_any B.l hl _ W (h.below hB)
  have hb0 : Below w.heap.size w (w.alloc (.cells #[.string B.n, .slice lp B.l.length lcap, .int .i64 B.t.k, .string B.t.x.v, .int .i64 B.t.x.a, .int .i64 B.t.x.b, .string B.t.t, .string B.t.e] 61)) := (Below.refl _ _).alloc (Nat.le_refl _) _
  rw [show blockB B = (Tk.nameB B.n && (termB B.t && B.l.all stmtB)) by unfold blockB; rw [Bool.and_assoc]]
  generalize Tk.nameB B.n = n at hnm
  generalize termB B.t = t at htm
  generalize B.l.all stmtB = s at hcf
  cases n <;> cases t <;> cases s <;> simp only [Bool.and_true, Bool.and_false, Bool.false_and, Bool.true_and]
  all_goals (
    go_enter Try.func35, Try.ntmps35
    go_wp2_with (first | (go_at_call 63; refine Calls.same (hnm _) ?_) | (go_at_call 64; refine' Calls.aft _ _ (htm _) _; rotate_left 2; (first | (with_reducible exact After.below _; rfl) | (with_reducible exact below_drew (After.below _); rfl) | (with_reducible exact below_set (After.below _) _ _; (go_simp; rfl)) | (with_reducible exact below_set (below_set (After.below _) _ _) _ _; (go_simp; rfl)) | (with_reducible exact below_set (below_set (below_set (After.below _) _ _) _ _) _ _; (go_simp; rfl)) | (with_reducible exact below_set (below_set (below_set (below_set (After.below _) _ _) _ _) _ _) _ _; (go_simp; rfl)) | (exact Below.refl _ _; rfl)); intro x1; have hle := After.le x1; (try simp at hle)) | (go_at_call 65; refine' Calls.aft _ _ (hcf _ (hb0.trans (x1.below.mono (by simp)))) _; rotate_left 2; (first | (with_reducible exact After.below _; rfl) | (with_reducible exact below_drew (After.below _); rfl) | (with_reducible exact below_set (After.below _) _ _; (go_simp; rfl)) | (with_reducible exact below_set (below_set (After.below _) _ _) _ _; (go_simp; rfl)) | (with_reducible exact below_set (below_set (below_set (After.below _) _ _) _ _) _ _; (go_simp; rfl)) | (with_reducible exact below_set (below_set (below_set (below_set (After.below _) _ _) _ _) _ _) _ _; (go_simp; rfl)) | (exact Below.refl _ _; rfl)); intro x2; have hle := After.le x2; (try simp at hle)))
    go_ret
    refine ⟨rfl, ?_⟩
    (repeat (first | exact Below.refl _ _ | apply Below.drew | refine Below.alloc ?_ ?_ _ | refine Below.setCell ?_ ?_ _ | refine Below.trans ?_ (Below.mono (After.below _) ?_))); (all_goals (first | (simp; done) | (simp; omega) | omega)))

end Go.Proofs.Ytmnplnhblniimaa.Pr

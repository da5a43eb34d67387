/- PLAIN: a program's text. WALK of soughref05.Program. -/
import Derived.Test.YtjjmoibnmdbpeaaPrintg
import Derived.Test.YtjjmoibnmdbpeaaSmall
namespace Go.Proofs.Ytjjmoibnmdbpeaa.Pr
set_option linter.unusedVariables false
set_option linter.unusedSimpArgs false
open Go Go.RowKit

def stT (s : St) : ByteArray := stmtT s.k s.v s.e.op s.e.x.v s.e.x.a s.e.x.b s.e.y.v s.e.y.a s.e.y.b
def teT (t : Te) : ByteArray := termT t.k t.x.v t.x.a t.x.b t.t t.e
def tabS : ByteArray := ⟨#[9]⟩
def nlS : ByteArray := ⟨#[10]⟩
def blkS : ByteArray := ⟨#[98, 108, 111, 99, 107, 32]⟩
def brS : ByteArray := ⟨#[32, 123]⟩
def accS (l : List St) (t : ByteArray) : Nat → ByteArray
  | 0 => t
  | k + 1 => match l[k]? with
    | some s => accS l t k ++ ((tabS ++ stT s) ++ nlS)
    | none => accS l t k
def accB (P : List Bl) : Nat → ByteArray
  | 0 => ⟨#[]⟩
  | i + 1 => match P[i]? with
    | some b => accS b.l (accB P i ++ ((blkS ++ b.n) ++ ⟨#[32, 123, 10]⟩)) b.l.length ++ ((tabS ++ teT b.t) ++ ⟨#[10, 125, 10]⟩)
    | none => accB P i
def progT (P : List Bl) : ByteArray := accB P P.length

theorem stT_size {s : St} (h : stSmall s = true) : (stT s).size ≤ 200000 := by
  simp only [stSmall, Bool.and_eq_true, decide_eq_true_eq] at h
  have := exprT_size s.e.op s.e.x.v s.e.y.v s.e.x.a s.e.x.b s.e.y.a s.e.y.b (by omega) (by omega)
  unfold stT stmtT
  split
  · simp only [ByteArray.size_append]
    have e1 : (⟨#[32, 61, 32]⟩ : ByteArray).size = 3 := rfl
    have e2 : (⟨#[59]⟩ : ByteArray).size = 1 := rfl
    omega
  · split
    · simp only [ByteArray.size_append]
      have e1 : (⟨#[105, 110, 32]⟩ : ByteArray).size = 3 := rfl
      have e2 : (⟨#[59]⟩ : ByteArray).size = 1 := rfl
      omega
    · split
      · simp only [ByteArray.size_append]
        have e1 : (⟨#[111, 117, 116, 32]⟩ : ByteArray).size = 4 := rfl
        have e2 : (⟨#[59]⟩ : ByteArray).size = 1 := rfl
        omega
      · have e1 : (⟨#[]⟩ : ByteArray).size = 0 := rfl
        omega
theorem teT_size {t : Te} (h1 : t.x.v.size ≤ 40) (h2 : t.t.size ≤ 40) (h3 : t.e.size ≤ 40) : (teT t).size ≤ 200000 := by
  have := atomT_size t.x.v t.x.a t.x.b
  unfold teT termT
  split
  · simp only [ByteArray.size_append]
    have e1 : (⟨#[103, 111, 116, 111, 32]⟩ : ByteArray).size = 5 := rfl
    have e2 : (⟨#[59]⟩ : ByteArray).size = 1 := rfl
    omega
  · split
    · simp only [ByteArray.size_append]
      have e1 : (⟨#[105, 102, 32]⟩ : ByteArray).size = 3 := rfl
      have e2 : (⟨#[59]⟩ : ByteArray).size = 1 := rfl
      have e3 : (⟨#[32, 116, 104, 101, 110, 32]⟩ : ByteArray).size = 6 := rfl
      have e4 : (⟨#[32, 101, 108, 115, 101, 32]⟩ : ByteArray).size = 6 := rfl
      omega
    · split
      · have e1 : (⟨#[114, 101, 116, 59]⟩ : ByteArray).size = 4 := rfl
        omega
      · have e1 : (⟨#[]⟩ : ByteArray).size = 0 := rfl
        omega
theorem accS_size {l : List St} (h : ∀ s ∈ l, stSmall s = true) (t : ByteArray) : ∀ k, (accS l t k).size ≤ t.size + 200010 * k
  | 0 => by simp [accS]
  | k + 1 => by
    have ih := accS_size h t k
    simp only [accS]
    split
    · rename_i s hs
      have := stT_size (h s (List.mem_of_getElem? hs))
      simp only [ByteArray.size_append]
      have e1 : tabS.size = 1 := rfl
      have e2 : nlS.size = 1 := rfl
      omega
    · omega
theorem small_bl {P : List Bl} (h : smallB P = true) : ∀ b ∈ P, b.l.length ≤ 12 ∧ b.n.size ≤ 40 ∧ b.t.t.size ≤ 40 ∧ b.t.e.size ≤ 40 ∧ b.t.x.v.size ≤ 40 ∧ ∀ s ∈ b.l, stSmall s = true := by
  simp only [smallB, Bool.and_eq_true, decide_eq_true_eq, List.all_eq_true] at h
  intro b hb
  have := h.2 b hb
  simpa only [blSmall, Bool.and_eq_true, decide_eq_true_eq, List.all_eq_true] using this
theorem accB_size {P : List Bl} (h : ∀ b ∈ P, b.l.length ≤ 12 ∧ b.n.size ≤ 40 ∧ b.t.t.size ≤ 40 ∧ b.t.e.size ≤ 40 ∧ b.t.x.v.size ≤ 40 ∧ ∀ s ∈ b.l, stSmall s = true) : ∀ k, (accB P k).size ≤ 3000000 * k
  | 0 => Nat.zero_le _
  | k + 1 => by
    have ih := accB_size h k
    simp only [accB]
    split
    · rename_i b hb
      obtain ⟨h1, h2, h3, h4, h5, h6⟩ := h b (List.mem_of_getElem? hb)
      have h7 := accS_size h6 (accB P k ++ ((blkS ++ b.n) ++ ⟨#[32, 123, 10]⟩)) b.l.length
      have h8 := teT_size h5 h3 h4
      simp only [ByteArray.size_append] at h7 ⊢
      have e1 : tabS.size = 1 := rfl
      have e2 : blkS.size = 6 := rfl
      have e3 : (⟨#[32, 123, 10]⟩ : ByteArray).size = 3 := rfl
      have e4 : (⟨#[10, 125, 10]⟩ : ByteArray).size = 3 := rfl
      omega
    · omega

set_option maxRecDepth 100000 in
set_option maxHeartbeats 2000000 in
theorem rprogT_any (P : List Bl) (hs : smallB P = true) (pv : Value) (w : World) (h : Pg w pv P) :
    Calls Try.prog 30 #[.agg #[pv]] w fun e w' => e = .returned (.string (progT P)) ∧ Below w.heap.size w w' := by
  have hsb := small_bl hs
  have hsz := accB_size hsb
  have h12 : P.length ≤ 12 := by simp only [smallB, Bool.and_eq_true, decide_eq_true_eq] at hs; exact hs.1
  obtain ⟨b, off, p, cap, rfl, hp, hc⟩ := Pg.open h
  clear h hs
  go_enter Try.func30, Try.ntmps30
  go_wp2_with fail
  go_loopw [3, 11] (fun t i wr => ∃ k : Nat, k ≤ P.length ∧ i = .int .i64 k ∧ t = .string (accB P k) ∧ Below w.heap.size w wr) (fun _ i _ => P.length - (intOf i).toNat)
  case atStart => exact ⟨0, Nat.zero_le _, rfl, rfl, (Below.refl _ _).alloc (Nat.le_refl _) _⟩
  case round =>
    obtain ⟨k, hk, rfl, rfl, hB⟩ := hrel
    have hw := hB.size
    by_cases hlt : k < P.length
    · obtain rfl := hp (by omega)
      have hlt2 : (k : Int) < P.length := by omega
      have hcw : ∀ r u, ((P[k]'hlt).cs)[r]? = some u → w.cell? ⟨b, off + (k * 8 + r), none⟩ = some u := (hc k hlt).1
      have hsl := (hc k hlt).2
      have hz := hsz k
      have hz2 := hsz (k + 1)
      have hB0 := hsb _ (List.getElem_mem hlt)
      have he : accB P (k + 1) = accS (P[k]'hlt).l (accB P k ++ ((blkS ++ (P[k]'hlt).n) ++ ⟨#[32, 123, 10]⟩)) (P[k]'hlt).l.length ++ ((tabS ++ teT (P[k]'hlt).t) ++ ⟨#[10, 125, 10]⟩) := by simp only [accB, List.getElem?_eq_getElem hlt]
      have hH : Hid (accB P (k + 1) = accS (P[k]'hlt).l (accB P k ++ ((blkS ++ (P[k]'hlt).n) ++ ⟨#[32, 123, 10]⟩)) (P[k]'hlt).l.length ++ ((tabS ++ teT (P[k]'hlt).t) ++ ⟨#[10, 125, 10]⟩)) := he
      clear he hc hsz hsb hz2
      generalize P[k]'hlt = B at hcw hsl hB0 hH
      generalize accB P k = T0 at hz hH ⊢
      obtain ⟨hB1, hB2, hB3, hB4, hB5, hB6⟩ := hB0
      have hcr : ∀ r u, B.cs[r]? = some u → wr.cell? ⟨b, off + k * 8 + r, none⟩ = some u := fun r u hu => by
        rw [Nat.add_assoc]
        exact (hB.cell (p := ⟨b, off + (k * 8 + r), none⟩) (World.block_lt_of_cell? _ _ (hcw r u hu))).trans (hcw r u hu)
      obtain ⟨lb, loff, lp, lcap, hlv, hlp, hlc⟩ := hsl.open St.cs_len
      have c0 : wr.cell? ⟨b, off + k * 8, none⟩ = some (.string B.n) := hcr 0 _ rfl
      have hbw := World.block_lt_of_cell? _ _ c0
      have c1 := hcr 1 _ rfl
      have c2 := hcr 2 _ rfl
      have c3 := hcr 3 _ rfl
      have c4 := hcr 4 _ rfl
      have c5 := hcr 5 _ rfl
      have c6 := hcr 6 _ rfl
      have c7 := hcr 7 _ rfl
      clear hcr hcw
      rw [hlv] at c1
      have y1 : ¬ (9223372036854775807 < 6 + B.n.size) := by omega
      have y2 : ¬ (9223372036854775807 < 6 + B.n.size + 3) := by omega
      have y3 : ¬ (9223372036854775807 < T0.size + (6 + B.n.size + 3)) := by omega
      go_wp2_with fail
      have hTm : ∀ W, Calls Try.prog 62 #[.agg #[.int .i64 B.t.k, .string B.t.x.v, .int .i64 B.t.x.a, .int .i64 B.t.x.b, .string B.t.t, .string B.t.e]] W fun r w' => r = .returned (.string (teT B.t)) ∧ Below W.heap.size W w' := fun W => rterm_any B.t.k B.t.x.v B.t.x.a B.t.x.b B.t.t B.t.e (by omega) (by omega) (by omega) W
      have hTs := teT_size hB5 hB3 hB4
      obtain ⟨W1, hW1⟩ : ∃ W1, W1 = (wr.alloc (Obj.cells #[Value.string B.n, Value.slice lp B.l.length lcap, Value.int IntKind.i64 B.t.k, Value.string B.t.x.v, Value.int IntKind.i64 B.t.x.a, Value.int IntKind.i64 B.t.x.b, Value.string B.t.t, Value.string B.t.e] 91)) := ⟨_, rfl⟩
      have hB1' : Below w.heap.size w W1 := by rw [hW1]; exact hB.alloc hw _
      have hbk : W1.heap[wr.heap.size]? = some (Obj.cells #[Value.string B.n, Value.slice lp B.l.length lcap, Value.int IntKind.i64 B.t.k, Value.string B.t.x.v, Value.int IntKind.i64 B.t.x.a, Value.int IntKind.i64 B.t.x.b, Value.string B.t.t, Value.string B.t.e] 91) := by rw [hW1]; exact heap_alloc_new _ _
      have hst : Below W1.heap.size W1 (wr.alloc (Obj.cells #[Value.string B.n, Value.slice lp B.l.length lcap, Value.int IntKind.i64 B.t.k, Value.string B.t.x.v, Value.int IntKind.i64 B.t.x.a, Value.int IntKind.i64 B.t.x.b, Value.string B.t.t, Value.string B.t.e] 91)) := by rw [hW1]; exact Below.refl _ _
      clear hW1 c0 c1 c2 c3 c4 c5 c6 c7 hbw
      have hAz := accS_size hB6 (T0 ++ ((blkS ++ B.n) ++ ⟨#[32, 123, 10]⟩))
      have hT1z : (T0 ++ ((blkS ++ B.n) ++ ⟨#[32, 123, 10]⟩)).size ≤ T0.size + 60 := by
        simp only [ByteArray.size_append]
        have e2 : blkS.size = 6 := rfl
        have e3 : (⟨#[32, 123, 10]⟩ : ByteArray).size = 3 := rfl
        omega
      have hfr : T0 ++ ((⟨#[98, 108, 111, 99, 107, 32]⟩ ++ B.n) ++ ⟨#[32, 123, 10]⟩) = T0 ++ ((blkS ++ B.n) ++ ⟨#[32, 123, 10]⟩) := rfl
      rw [hfr]
      clear hfr
      generalize T0 ++ ((blkS ++ B.n) ++ ⟨#[32, 123, 10]⟩) = T1 at hH hAz hT1z ⊢
      go_loopw [3, 24] (fun t i wr => ∃ j : Nat, j ≤ B.l.length ∧ i = .int .i64 j ∧ t = .string (accS B.l T1 j) ∧ Below W1.heap.size W1 wr) (fun _ i _ => B.l.length - (intOf i).toNat)
      case atStart => exact ⟨0, Nat.zero_le _, rfl, rfl, hst⟩
      case round =>
        obtain ⟨j, hj, rfl, rfl, hBj⟩ := hrel
        have hwj := hBj.size
        have hBw := hB1'.trans (hBj.mono hB1'.size)
        by_cases hjt : j < B.l.length
        · obtain rfl := hlp (by omega)
          have hjt2 : (j : Int) < B.l.length := by omega
          have hlcj := hlc j hjt
          have hss := hB6 _ (List.getElem_mem hjt)
          have haz := hAz j
          have he : Hid (accS B.l T1 (j + 1) = accS B.l T1 j ++ ((tabS ++ stT (B.l[j]'hjt)) ++ nlS)) := by show _ = _; simp only [accS, List.getElem?_eq_getElem hjt]
          clear hlc hAz hB6
          generalize (B.l[j]'hjt) = s at hlcj hss he
          generalize accS B.l T1 j = X at haz he ⊢
          have hcj : ∀ r u, s.cs[r]? = some u → wr.cell? ⟨lb, loff + j * 9 + r, none⟩ = some u := fun r u hu => by
            rw [Nat.add_assoc]
            exact (hBw.cell (p := ⟨lb, loff + (j * 9 + r), none⟩) (World.block_lt_of_cell? _ _ (hlcj r u hu))).trans (hlcj r u hu)
          have e0 : wr.cell? ⟨lb, loff + j * 9, none⟩ = some (.int .i64 s.k) := hcj 0 _ rfl
          have hbq := World.block_lt_of_cell? _ _ e0
          have e1 := hcj 1 _ rfl
          have e2 := hcj 2 _ rfl
          have e3 := hcj 3 _ rfl
          have e4 := hcj 4 _ rfl
          have e5 := hcj 5 _ rfl
          have e6 := hcj 6 _ rfl
          have e7 := hcj 7 _ rfl
          have e8 := hcj 8 _ rfl
          clear hcj hlcj
          have hSz := stT_size hss
          have hSm : ∀ W, Calls Try.prog 61 #[.agg #[.int .i64 s.k, .string s.v, .int .i64 s.e.op, .string s.e.x.v, .int .i64 s.e.x.a, .int .i64 s.e.x.b, .string s.e.y.v, .int .i64 s.e.y.a, .int .i64 s.e.y.b]] W fun r w' => r = .returned (.string (stT s)) ∧ Below W.heap.size W w' := fun W => by
            simp only [stSmall, Bool.and_eq_true, decide_eq_true_eq] at hss
            exact rstmt_any s.k s.v s.e.op s.e.x.v s.e.y.v s.e.x.a s.e.x.b s.e.y.a s.e.y.b (by omega) (by omega) (by omega) W
          generalize stT s = S at he hSz hSm
          have z1 : ¬ (9223372036854775807 < 1 + S.size) := by omega
          have z2 : ¬ (9223372036854775807 < 1 + S.size + 1) := by omega
          have z3 : ¬ (9223372036854775807 < X.size + (1 + S.size + 1)) := by omega
          go_wp2_with (go_at_call 61; refine (hSm _).mono ?_; rintro e W5 ⟨rfl, hq5⟩)
          go_roundw
          case rel => exact ⟨j + 1, by omega, by simp, by rw [he]; rfl, (hBj.alloc hwj _).trans (hq5.mono (by simp; omega))⟩
          case measure => simp [intOf]; omega
        · have hks : j = B.l.length := by omega
          subst hks
          have hjt2 : ¬ (B.l.length : Int) < B.l.length := by omega
          have haz := hAz B.l.length
          have hbk2 := (hBj.block _ (lt_of_block hbk)).trans hbk
          have d2 := (cell_of_row wr _ 2 _ _ (0, 0) hbk2).trans (rfl : _ = some (Value.int .i64 B.t.k))
          have d3 := (cell_of_row wr _ 3 _ _ (0, 0) hbk2).trans (rfl : _ = some (Value.string B.t.x.v))
          have d4 := (cell_of_row wr _ 4 _ _ (0, 0) hbk2).trans (rfl : _ = some (Value.int .i64 B.t.x.a))
          have d5 := (cell_of_row wr _ 5 _ _ (0, 0) hbk2).trans (rfl : _ = some (Value.int .i64 B.t.x.b))
          have d6 := (cell_of_row wr _ 6 _ _ (0, 0) hbk2).trans (rfl : _ = some (Value.string B.t.t))
          have d7 := (cell_of_row wr _ 7 _ _ (0, 0) hbk2).trans (rfl : _ = some (Value.string B.t.e))
          have dl := lt_of_block hbk2
          clear hbk2 hbk hlc hAz hB6
          generalize accS B.l T1 B.l.length = X at haz hH ⊢
          generalize teT B.t = S at hTm hTs hH
          have z1 : ¬ (9223372036854775807 < 1 + S.size) := by omega
          have z2 : ¬ (9223372036854775807 < 1 + S.size + 3) := by omega
          have z3 : ¬ (9223372036854775807 < X.size + (1 + S.size + 3)) := by omega
          go_wp2_with (go_at_call 62; refine (hTm _).mono ?_; rintro e W5 ⟨rfl, hq5⟩)
          go_roundw
          case rel => exact ⟨k + 1, by omega, by simp, by rw [hH]; rfl, hBw.trans (hq5.mono hBw.size)⟩
          case measure => simp [intOf]; omega
    · have hks : k = P.length := by omega
      subst hks
      have hlt2 : ¬ (P.length : Int) < P.length := by omega
      clear hc
      go_wp2_with fail
      refine bodyPost_ret (v := .string (accB P P.length)) (by simp only [results, Try.results30]; go_simp) rfl ⟨rfl, hB⟩

end Go.Proofs.Ytjjmoibnmdbpeaa.Pr

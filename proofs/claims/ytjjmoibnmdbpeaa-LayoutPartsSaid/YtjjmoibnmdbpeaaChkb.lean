/- WALKS of proper.Atoms, soughref04.Atoms, proper.fine, proper.expr, soughref04.atom, soughref04.expr. -/
import Derived.Test.YtjjmoibnmdbpeaaChk
import Derived.Test.YtjjmoibnmdbpeaaLit
namespace Go.Proofs.Ytjjmoibnmdbpeaa.Pr
set_option linter.unusedVariables false
set_option linter.unusedSimpArgs false
open Go Go.RowKit

theorem At.cs_len (x : At) : x.cs.length = 3 := rfl
theorem op_cases (op : Int) : (op = 0 ∨ op = 4) ∨ (op = 1 ∨ op = 2 ∨ op = 3) ∨ ((op == 0) = false ∧ (op == 4) = false ∧ (op == 1) = false ∧ (op == 2) = false ∧ (op == 3) = false ∧ ¬ (op = 0 ∨ op = 4) ∧ ¬ (op = 1 ∨ op = 2 ∨ op = 3)) := by
  by_cases h0 : op = 0 ∨ op = 4
  · exact .inl h0
  by_cases h1 : op = 1 ∨ op = 2 ∨ op = 3
  · exact .inr (.inl h1)
  · refine .inr (.inr ⟨?_, ?_, ?_, ?_, ?_, h0, h1⟩) <;> (simp; omega)

set_option maxRecDepth 100000 in
theorem atoms_any (op : Int) (v1 : ByteArray) (a1 b1 : Int) (v2 : ByteArray) (a2 b2 : Int) (w : World) :
    Calls Try.prog 46 #[.agg #[.int .i64 op, .string v1, .int .i64 a1, .int .i64 b1, .string v2, .int .i64 a2, .int .i64 b2]] w fun e w' => ∃ o, e = .returned o ∧ Sl w' o At.cs (atomsOf ⟨op, ⟨v1, a1, b1⟩, ⟨v2, a2, b2⟩⟩) ∧ Below w.heap.size w w' := by
  have one : ∀ W : World, Sl (W.alloc (.cells #[.string v1, .int .i64 a1, .int .i64 b1] 71)) (.slice (some ⟨W.heap.size, 0, none⟩) 1 1) At.cs [⟨v1, a1, b1⟩] := fun W => Sl.lit ([⟨v1, a1, b1⟩] : List At) rfl rfl (heap_alloc_new W _)
  have two : ∀ W : World, Sl (W.alloc (.cells #[.string v1, .int .i64 a1, .int .i64 b1, .string v2, .int .i64 a2, .int .i64 b2] 71)) (.slice (some ⟨W.heap.size, 0, none⟩) 2 2) At.cs [⟨v1, a1, b1⟩, ⟨v2, a2, b2⟩] := fun W => Sl.lit ([⟨v1, a1, b1⟩, ⟨v2, a2, b2⟩] : List At) rfl rfl (heap_alloc_new W _)
  have Hd := And.intro one two
  clear one two
  rcases op_cases op with (rfl | rfl) | (rfl | rfl | rfl) | ⟨g0, g4, g1, g2, g3, n0, n1⟩
  · rw [show atomsOf ⟨0, ⟨v1, a1, b1⟩, ⟨v2, a2, b2⟩⟩ = [⟨v1, a1, b1⟩] from rfl]
    go_enter Try.func46, Try.ntmps46
    go_wp2_with fail
    refine bodyPost_ret (v := .slice (some ⟨w.heap.size + 1, 0, none⟩) 1 1) (by simp only [results, Try.results46]; go_simp) rfl ⟨_, rfl, ?_, ?_⟩
    · have := Hd.1 (w.alloc (.cells #[.int .i64 0, .string v1, .int .i64 a1, .int .i64 b1, .string v2, .int .i64 a2, .int .i64 b2] 73))
      simpa using this
    · exact ((Below.refl _ _).alloc (Nat.le_refl _) _).alloc (by simp) _
  · rw [show atomsOf ⟨4, ⟨v1, a1, b1⟩, ⟨v2, a2, b2⟩⟩ = [⟨v1, a1, b1⟩] from rfl]
    go_enter Try.func46, Try.ntmps46
    go_wp2_with fail
    refine bodyPost_ret (v := .slice (some ⟨w.heap.size + 1, 0, none⟩) 1 1) (by simp only [results, Try.results46]; go_simp) rfl ⟨_, rfl, ?_, ?_⟩
    · have := Hd.1 (w.alloc (.cells #[.int .i64 4, .string v1, .int .i64 a1, .int .i64 b1, .string v2, .int .i64 a2, .int .i64 b2] 73))
      simpa using this
    · exact ((Below.refl _ _).alloc (Nat.le_refl _) _).alloc (by simp) _
  · rw [show atomsOf ⟨1, ⟨v1, a1, b1⟩, ⟨v2, a2, b2⟩⟩ = [⟨v1, a1, b1⟩, ⟨v2, a2, b2⟩] from rfl]
    go_enter Try.func46, Try.ntmps46
    go_wp2_with fail
    refine bodyPost_ret (v := .slice (some ⟨w.heap.size + 1, 0, none⟩) 2 2) (by simp only [results, Try.results46]; go_simp) rfl ⟨_, rfl, ?_, ?_⟩
    · have := Hd.2 (w.alloc (.cells #[.int .i64 1, .string v1, .int .i64 a1, .int .i64 b1, .string v2, .int .i64 a2, .int .i64 b2] 73))
      simpa using this
    · exact ((Below.refl _ _).alloc (Nat.le_refl _) _).alloc (by simp) _
  · rw [show atomsOf ⟨2, ⟨v1, a1, b1⟩, ⟨v2, a2, b2⟩⟩ = [⟨v1, a1, b1⟩, ⟨v2, a2, b2⟩] from rfl]
    go_enter Try.func46, Try.ntmps46
    go_wp2_with fail
    refine bodyPost_ret (v := .slice (some ⟨w.heap.size + 1, 0, none⟩) 2 2) (by simp only [results, Try.results46]; go_simp) rfl ⟨_, rfl, ?_, ?_⟩
    · have := Hd.2 (w.alloc (.cells #[.int .i64 2, .string v1, .int .i64 a1, .int .i64 b1, .string v2, .int .i64 a2, .int .i64 b2] 73))
      simpa using this
    · exact ((Below.refl _ _).alloc (Nat.le_refl _) _).alloc (by simp) _
  · rw [show atomsOf ⟨3, ⟨v1, a1, b1⟩, ⟨v2, a2, b2⟩⟩ = [⟨v1, a1, b1⟩, ⟨v2, a2, b2⟩] from rfl]
    go_enter Try.func46, Try.ntmps46
    go_wp2_with fail
    refine bodyPost_ret (v := .slice (some ⟨w.heap.size + 1, 0, none⟩) 2 2) (by simp only [results, Try.results46]; go_simp) rfl ⟨_, rfl, ?_, ?_⟩
    · have := Hd.2 (w.alloc (.cells #[.int .i64 3, .string v1, .int .i64 a1, .int .i64 b1, .string v2, .int .i64 a2, .int .i64 b2] 73))
      simpa using this
    · exact ((Below.refl _ _).alloc (Nat.le_refl _) _).alloc (by simp) _
  · rw [show atomsOf ⟨op, ⟨v1, a1, b1⟩, ⟨v2, a2, b2⟩⟩ = [] by simp only [atomsOf]; rw [if_neg n0, if_neg n1]]
    clear n0 n1
    go_enter Try.func46, Try.ntmps46
    go_wp2_with fail
    refine bodyPost_ret (v := .slice none 0 0) (by simp only [results, Try.results46]; go_simp) rfl ⟨_, rfl, Sl.nil, ?_⟩
    exact (Below.refl _ _).alloc (Nat.le_refl _) _

set_option maxRecDepth 100000 in
theorem ratoms_any (op : Int) (v1 : ByteArray) (a1 b1 : Int) (v2 : ByteArray) (a2 b2 : Int) (w : World) :
    Calls Try.prog 128 #[.agg #[.int .i64 op, .string v1, .int .i64 a1, .int .i64 b1, .string v2, .int .i64 a2, .int .i64 b2]] w fun e w' => ∃ o, e = .returned o ∧ Sl w' o At.cs (atomsOf ⟨op, ⟨v1, a1, b1⟩, ⟨v2, a2, b2⟩⟩) ∧ Below w.heap.size w w' := by
  have one : ∀ W : World, Sl (W.alloc (.cells #[.string v1, .int .i64 a1, .int .i64 b1] 71)) (.slice (some ⟨W.heap.size, 0, none⟩) 1 1) At.cs [⟨v1, a1, b1⟩] := fun W => Sl.lit ([⟨v1, a1, b1⟩] : List At) rfl rfl (heap_alloc_new W _)
  have two : ∀ W : World, Sl (W.alloc (.cells #[.string v1, .int .i64 a1, .int .i64 b1, .string v2, .int .i64 a2, .int .i64 b2] 71)) (.slice (some ⟨W.heap.size, 0, none⟩) 2 2) At.cs [⟨v1, a1, b1⟩, ⟨v2, a2, b2⟩] := fun W => Sl.lit ([⟨v1, a1, b1⟩, ⟨v2, a2, b2⟩] : List At) rfl rfl (heap_alloc_new W _)
  have Hd := And.intro one two
  clear one two
  rcases op_cases op with (rfl | rfl) | (rfl | rfl | rfl) | ⟨g0, g4, g1, g2, g3, n0, n1⟩
  · rw [show atomsOf ⟨0, ⟨v1, a1, b1⟩, ⟨v2, a2, b2⟩⟩ = [⟨v1, a1, b1⟩] from rfl]
    go_enter Try.func128, Try.ntmps128
    go_wp2_with fail
    refine bodyPost_ret (v := .slice (some ⟨w.heap.size + 1, 0, none⟩) 1 1) (by simp only [results, Try.results128]; go_simp) rfl ⟨_, rfl, ?_, ?_⟩
    · have := Hd.1 (w.alloc (.cells #[.int .i64 0, .string v1, .int .i64 a1, .int .i64 b1, .string v2, .int .i64 a2, .int .i64 b2] 73))
      simpa using this
    · exact ((Below.refl _ _).alloc (Nat.le_refl _) _).alloc (by simp) _
  · rw [show atomsOf ⟨4, ⟨v1, a1, b1⟩, ⟨v2, a2, b2⟩⟩ = [⟨v1, a1, b1⟩] from rfl]
    go_enter Try.func128, Try.ntmps128
    go_wp2_with fail
    refine bodyPost_ret (v := .slice (some ⟨w.heap.size + 1, 0, none⟩) 1 1) (by simp only [results, Try.results128]; go_simp) rfl ⟨_, rfl, ?_, ?_⟩
    · have := Hd.1 (w.alloc (.cells #[.int .i64 4, .string v1, .int .i64 a1, .int .i64 b1, .string v2, .int .i64 a2, .int .i64 b2] 73))
      simpa using this
    · exact ((Below.refl _ _).alloc (Nat.le_refl _) _).alloc (by simp) _
  · rw [show atomsOf ⟨1, ⟨v1, a1, b1⟩, ⟨v2, a2, b2⟩⟩ = [⟨v1, a1, b1⟩, ⟨v2, a2, b2⟩] from rfl]
    go_enter Try.func128, Try.ntmps128
    go_wp2_with fail
    refine bodyPost_ret (v := .slice (some ⟨w.heap.size + 1, 0, none⟩) 2 2) (by simp only [results, Try.results128]; go_simp) rfl ⟨_, rfl, ?_, ?_⟩
    · have := Hd.2 (w.alloc (.cells #[.int .i64 1, .string v1, .int .i64 a1, .int .i64 b1, .string v2, .int .i64 a2, .int .i64 b2] 73))
      simpa using this
    · exact ((Below.refl _ _).alloc (Nat.le_refl _) _).alloc (by simp) _
  · rw [show atomsOf ⟨2, ⟨v1, a1, b1⟩, ⟨v2, a2, b2⟩⟩ = [⟨v1, a1, b1⟩, ⟨v2, a2, b2⟩] from rfl]
    go_enter Try.func128, Try.ntmps128
    go_wp2_with fail
    refine bodyPost_ret (v := .slice (some ⟨w.heap.size + 1, 0, none⟩) 2 2) (by simp only [results, Try.results128]; go_simp) rfl ⟨_, rfl, ?_, ?_⟩
    · have := Hd.2 (w.alloc (.cells #[.int .i64 2, .string v1, .int .i64 a1, .int .i64 b1, .string v2, .int .i64 a2, .int .i64 b2] 73))
      simpa using this
    · exact ((Below.refl _ _).alloc (Nat.le_refl _) _).alloc (by simp) _
  · rw [show atomsOf ⟨3, ⟨v1, a1, b1⟩, ⟨v2, a2, b2⟩⟩ = [⟨v1, a1, b1⟩, ⟨v2, a2, b2⟩] from rfl]
    go_enter Try.func128, Try.ntmps128
    go_wp2_with fail
    refine bodyPost_ret (v := .slice (some ⟨w.heap.size + 1, 0, none⟩) 2 2) (by simp only [results, Try.results128]; go_simp) rfl ⟨_, rfl, ?_, ?_⟩
    · have := Hd.2 (w.alloc (.cells #[.int .i64 3, .string v1, .int .i64 a1, .int .i64 b1, .string v2, .int .i64 a2, .int .i64 b2] 73))
      simpa using this
    · exact ((Below.refl _ _).alloc (Nat.le_refl _) _).alloc (by simp) _
  · rw [show atomsOf ⟨op, ⟨v1, a1, b1⟩, ⟨v2, a2, b2⟩⟩ = [] by simp only [atomsOf]; rw [if_neg n0, if_neg n1]]
    clear n0 n1
    go_enter Try.func128, Try.ntmps128
    go_wp2_with fail
    refine bodyPost_ret (v := .slice none 0 0) (by simp only [results, Try.results128]; go_simp) rfl ⟨_, rfl, Sl.nil, ?_⟩
    exact (Below.refl _ _).alloc (Nat.le_refl _) _

theorem atomB_def (v : ByteArray) (a b : Int) : atomB ⟨v, a, b⟩ = if v.toList = [] then (a == wr a && b == wr b) else (Tk.nameB v && (a == 0 && b == 0)) := by
  unfold atomB isNumB zeroN emptyB
  by_cases h : v.toList = []
  · simp [h]
  · have : (v.toList == []) = false := by simpa using h
    simp [this, h]

set_option maxRecDepth 100000 in
set_option maxHeartbeats 1000000 in
theorem fine_any (L : List At) (hl : L.length ≤ 1000) (v : Value) (w : World) (h : Sl w v At.cs L) :
    Calls Try.prog 118 #[v] w fun e w' => e = .returned (.bool (L.all atomB)) ∧ Below w.heap.size w w' := by
  obtain ⟨b, off, p, cap, rfl, hp, hc⟩ := h.open At.cs_len
  obtain ⟨R, hR⟩ : ∃ R, Hid (L.all atomB = R) := ⟨_, rfl⟩
  rw [hR]
  go_enter Try.func118, Try.ntmps118
  go_wp2_with fail
  go_loopw [7] (fun i wr => ∃ k : Nat, k ≤ L.length ∧ i = .int .i64 k ∧ (L.take k).all atomB = true ∧ Below w.heap.size w wr) (fun i _ => L.length - (intOf i).toNat)
  case atStart => exact ⟨0, Nat.zero_le _, rfl, by simp, Below.refl _ _⟩
  case round =>
    obtain ⟨k, hk, rfl, hall, hB⟩ := hrel
    have hw := hB.size
    by_cases hlt : k < L.length
    · obtain rfl := hp (by omega)
      have hlt2 : (k : Int) < L.length := by omega
      have hbad : atomB (L[k]'hlt) = false → R = false := fun h => by rw [← hR]; exact all_bad hlt h
      have hnext : atomB (L[k]'hlt) = true → (L.take (k + 1)).all atomB = true := fun h => all_next hlt hall h
      have hcr : ∀ r u, ((L[k]'hlt).cs)[r]? = some u → wr.cell? ⟨b, off + k * 3 + r, none⟩ = some u := fun r u hu => by
        rw [Nat.add_assoc]
        exact (hB.cell (p := ⟨b, off + (k * 3 + r), none⟩) (World.block_lt_of_cell? _ _ (hc k hlt r u hu))).trans (hc k hlt r u hu)
      clear hc hall
      generalize L[k]'hlt = y at hcr hbad hnext
      obtain ⟨yv, ya, yb⟩ := y
      have c0 : wr.cell? ⟨b, off + k * 3, none⟩ = some (.string yv) := hcr 0 _ rfl
      have c1 : wr.cell? ⟨b, off + k * 3 + 1, none⟩ = some (.int .i64 ya) := hcr 1 _ rfl
      have c2 : wr.cell? ⟨b, off + k * 3 + 2, none⟩ = some (.int .i64 yb) := hcr 2 _ rfl
      have hg := World.block_lt_of_cell? _ _ c0
      clear hcr
      rw [atomB_def] at hbad hnext
      have hnm := Tk.name_any yv
      have his := is_any ya yb
      cases he : (yv.toList == [])
      · have he2 : ¬ yv.toList = [] := by simpa using he
        have he3 : (yv.toList != []) = true := by rw [bne, he]; rfl
        rw [if_neg he2] at hbad hnext
        clear his
        cases hnb : Tk.nameB yv
        · rw [hnb] at hnm hbad
          have hf := hbad rfl
          subst hf
          clear hbad hnext
          go_wp2_with ((go_at_call 76; refine Calls.same (hnm _) ?_))
          go_ret
          exact ⟨rfl, hB.alloc hw _⟩
        · rw [hnb, Bool.true_and] at hbad hnext
          rw [hnb] at hnm
          cases ha : (ya == 0)
          · rw [ha] at hbad
            have hf := hbad rfl
            have ha2 : ¬ ya = 0 := by simpa using ha
            subst hf
            clear hbad hnext
            go_wp2_with ((go_at_call 76; refine Calls.same (hnm _) ?_))
            go_ret
            exact ⟨rfl, hB.alloc hw _⟩
          · have ha2 : ya = 0 := by simpa using ha
            subst ha2
            cases hb : (yb == 0)
            · rw [hb] at hbad
              have hf := hbad rfl
              have hb2 : ¬ yb = 0 := by simpa using hb
              subst hf
              clear hbad hnext
              go_wp2_with ((go_at_call 76; refine Calls.same (hnm _) ?_))
              go_ret
              exact ⟨rfl, hB.alloc hw _⟩
            · have hb2 : yb = 0 := by simpa using hb
              subst hb2
              have hx := And.intro True.intro (hnext rfl)
              clear hbad hnext
              go_wp2_with ((go_at_call 76; refine Calls.same (hnm _) ?_))
              go_roundw
              case rel => exact ⟨k + 1, by omega, by simp, hx.2, hB.alloc hw _⟩
              case measure => simp [intOf]; omega
      · have he2 : yv.toList = [] := by simpa using he
        rw [if_pos he2] at hbad hnext
        have he3 : (yv.toList != []) = false := by rw [bne, he]; rfl
        clear hnm he2
        cases hn : (ya == Go.Proofs.Ytjjmoibnmdbpeaa.wr ya && yb == Go.Proofs.Ytjjmoibnmdbpeaa.wr yb)
        · rw [hn] at his
          have hf := hbad hn
          subst hf
          clear hbad hnext hn
          go_wp2_with ((go_at_call 138; refine' Calls.aft _ _ (his _) _; rotate_left 2; (first | (with_reducible exact After.below _; rfl) | (with_reducible exact below_drew (After.below _); rfl) | (with_reducible exact below_set (After.below _) _ _; (go_simp; rfl)) | (with_reducible exact below_set (below_set (After.below _) _ _) _ _; (go_simp; rfl)) | (with_reducible exact below_set (below_set (below_set (After.below _) _ _) _ _) _ _; (go_simp; rfl)) | (with_reducible exact below_set (below_set (below_set (below_set (After.below _) _ _) _ _) _ _) _ _; (go_simp; rfl)) | (exact Below.refl _ _; rfl)); intro x1; have hle := After.le x1; (try simp at hle)))
          go_ret
          exact ⟨rfl, (hB.alloc hw _).trans (x1.below.mono (by simp; omega))⟩
        · rw [hn] at his
          have hx := And.intro True.intro (hnext hn)
          clear hbad hnext hn
          go_wp2_with ((go_at_call 138; refine' Calls.aft _ _ (his _) _; rotate_left 2; (first | (with_reducible exact After.below _; rfl) | (with_reducible exact below_drew (After.below _); rfl) | (with_reducible exact below_set (After.below _) _ _; (go_simp; rfl)) | (with_reducible exact below_set (below_set (After.below _) _ _) _ _; (go_simp; rfl)) | (with_reducible exact below_set (below_set (below_set (After.below _) _ _) _ _) _ _; (go_simp; rfl)) | (with_reducible exact below_set (below_set (below_set (below_set (After.below _) _ _) _ _) _ _) _ _; (go_simp; rfl)) | (exact Below.refl _ _; rfl)); intro x1; have hle := After.le x1; (try simp at hle)))
          go_roundw
          case rel => exact ⟨k + 1, by omega, by simp, hx.2, (hB.alloc hw _).trans (x1.below.mono (by simp; omega))⟩
          case measure => simp [intOf]; omega
    · have hks : k = L.length := by omega
      subst hks
      have hlt2 : ¬ (L.length : Int) < L.length := by omega
      have hRt : R = true := by rw [← hR]; rw [List.take_length] at hall; exact hall
      subst hRt
      clear hc
      go_wp2_with fail
      go_ret
      exact ⟨rfl, hB⟩

end Go.Proofs.Ytjjmoibnmdbpeaa.Pr

/- TablesNames, the plain law: unlike sites of a proper program have unlike names; unlike expressions have unlike texts. TablesNames: it answers true. WALKS of tables.ExprName and of the law. -/
import Derived.Test.YtjjmoibnmdbpeaaMA
import Derived.Test.YtjjmoibnmdbpeaaTab
import Derived.Test.YtjjmoibnmdbpeaaTokenc
import Derived.Test.YtjjmoibnmdbpeaaChkg
import Derived.Test.YtjjmoibnmdbpeaaPrintc
import Derived.Test.YtjjmoibnmdbpeaaTrs
import Derived.Test.YtjjmoibnmdbpeaaTabm
import Derived.Test.YtjjmoibnmdbpeaaChkh
import Derived.Deep.CutRange

namespace Go.Proofs.Ytjjmoibnmdbpeaa
set_option linter.unusedVariables false
set_option linter.unusedSimpArgs false
open Go.RowKit Flo

theorem digN_digit (n : Nat) : ∀ c ∈ digN n, 48 ≤ c.toNat ∧ c.toNat ≤ 57 := by
  induction n using Nat.strongRecOn with
  | _ n ih =>
    rw [digN]
    split
    · rename_i h
      intro c hc
      simp only [List.mem_singleton] at hc
      subst hc
      rw [UInt8.toNat_ofNat']
      omega
    · intro c hc
      rcases List.mem_append.1 hc with hc | hc
      · exact ih (n / 10) (by omega) c hc
      · simp only [List.mem_singleton] at hc
        subst hc
        rw [UInt8.toNat_ofNat']
        omega
theorem digN_ne (n : Nat) : digN n ≠ [] := by
  rw [digN]; split <;> simp
def undig (l : List UInt8) : Nat := l.foldl (fun a c => 10 * a + (c.toNat - 48)) 0
theorem undig_digN (n : Nat) : undig (digN n) = n := by
  induction n using Nat.strongRecOn with
  | _ n ih =>
    rw [digN]
    split
    · rename_i h
      simp only [undig, List.foldl_cons, List.foldl_nil, UInt8.toNat_ofNat']
      omega
    · have := ih (n / 10) (by omega)
      simp only [undig, List.foldl_append, List.foldl_cons, List.foldl_nil, UInt8.toNat_ofNat'] at this ⊢
      rw [this]
      omega
theorem digN_inj {m n : Nat} (h : digN m = digN n) : m = n := by rw [← undig_digN m, h, undig_digN]
theorem digs_char (n : Int) : ∀ c ∈ digs n, c ≠ 40 ∧ c ≠ 44 ∧ c ≠ 41 ∧ c ≠ 32 := by
  have key : ∀ m : Nat, ∀ c ∈ digN m, c ≠ 40 ∧ c ≠ 44 ∧ c ≠ 41 ∧ c ≠ 32 := fun m c hc => by
    have := digN_digit m c hc
    refine ⟨?_, ?_, ?_, ?_⟩ <;> (intro e; subst e; simp at this)
  unfold digs
  split
  · intro c hc
    rcases List.mem_cons.1 hc with rfl | hc
    · decide
    · exact key _ c hc
  · exact key _
theorem digs_inj {m n : Int} (h : digs m = digs n) : m = n := by
  have key : ∀ k : Nat, ∀ l, digN k ≠ 45 :: l := fun k l e => by
    have := digN_digit k 45 (by rw [e]; simp)
    simp at this
  unfold digs at h
  split at h <;> split at h
  · have := digN_inj (List.cons.inj h).2; omega
  · exact absurd h.symm (key _ _)
  · exact absurd h (key _ _)
  · have := digN_inj h; omega
/-- The first byte of a number's digits. -/
theorem digs_first (n : Int) : ∃ c l, digs n = c :: l ∧ (c = 45 ∨ (48 ≤ c.toNat ∧ c.toNat ≤ 57)) := by
  unfold digs
  split
  · exact ⟨45, _, rfl, .inl rfl⟩
  · cases h : digN n.natAbs with
    | nil => exact absurd h (digN_ne _)
    | cons c l => exact ⟨c, l, rfl, .inr (digN_digit _ c (by rw [h]; simp))⟩

/-- Two lists in front of a mark that neither holds. -/
theorem split_at {l m r s : List UInt8} {c : UInt8} (hl : ∀ x ∈ l, x ≠ c) (hm : ∀ x ∈ m, x ≠ c) (h : l ++ c :: r = m ++ c :: s) : l = m ∧ r = s := by
  induction l generalizing m with
  | nil =>
    cases m with
    | nil => simpa using h
    | cons y m =>
      simp at h
      exact absurd h.1.symm (hm y (by simp))
  | cons x l ih =>
    cases m with
    | nil =>
      simp at h
      exact absurd h.1 (hl x (by simp))
    | cons y m =>
      simp only [List.cons_append, List.cons.injEq] at h
      obtain ⟨rfl, h⟩ := h
      have := ih (fun z hz => hl z (by simp [hz])) (fun z hz => hm z (by simp [hz])) h
      exact ⟨by rw [this.1], this.2⟩
theorem textN_iff (a b c d : Int) : textN a b = textN c d ↔ (wr a = wr c ∧ wr b = wr d) := by
  refine ⟨fun h => ?_, fun h => by unfold textN; rw [h.1, h.2]⟩
  have key : ∀ k l, digs k ≠ 40 :: l := fun k l e => by
    have := digs_char k 40 (by rw [e]; simp)
    simp at this
  unfold textN at h
  split at h <;> split at h
  · rename_i h1 h2
    exact ⟨digs_inj h, by rw [h1, h2]⟩
  · exact absurd h (key _ _)
  · exact absurd h.symm (key _ _)
  · have h' := (List.cons.inj h).2
    obtain ⟨e1, e2⟩ := split_at (fun x hx => (digs_char _ x hx).2.1) (fun x hx => (digs_char _ x hx).2.1) h'
    obtain ⟨e3, _⟩ := split_at (c := 41) (r := []) (s := []) (fun x hx => (digs_char _ x hx).2.2.1) (fun x hx => (digs_char _ x hx).2.2.1) e2
    exact ⟨digs_inj e1, digs_inj e3⟩
theorem textN_char (a b : Int) : ∀ c ∈ textN a b, c ≠ 32 := by
  unfold textN
  split
  · exact fun c hc => (digs_char _ c hc).2.2.2
  · intro c hc
    rcases List.mem_cons.1 hc with rfl | hc
    · decide
    rcases List.mem_append.1 hc with hc | hc
    · exact (digs_char _ c hc).2.2.2
    rcases List.mem_cons.1 hc with rfl | hc
    · decide
    rcases List.mem_append.1 hc with hc | hc
    · exact (digs_char _ c hc).2.2.2
    · rw [List.mem_singleton.1 hc]; decide
theorem textN_first (a b : Int) : ∃ c l, textN a b = c :: l ∧ (c = 40 ∨ c = 45 ∨ (48 ≤ c.toNat ∧ c.toNat ≤ 57)) := by
  unfold textN
  split
  · obtain ⟨c, l, h1, h2⟩ := digs_first (wr a)
    exact ⟨c, l, h1, .inr h2⟩
  · exact ⟨_, _, rfl, .inl rfl⟩

end Go.Proofs.Ytjjmoibnmdbpeaa

namespace Go.Proofs.Ytjjmoibnmdbpeaa.Pr
set_option linter.unusedVariables false
set_option linter.unusedSimpArgs false
open Go Go.RowKit Flo

/-- A text's bytes. -/
def bl (s : ByteArray) : List UInt8 := s.data.toList
theorem bl_inj {s t : ByteArray} (h : bl s = bl t) : s = t := by
  cases s; cases t
  simp only [bl, Array.toList_inj] at h
  rw [h]
theorem bl_append (s t : ByteArray) : bl (s ++ t) = bl s ++ bl t := by
  unfold bl
  rw [ByteArray.data_append, Array.toList_append]
theorem bl_nil {s : ByteArray} (h : s.toList = []) : s = ⟨#[]⟩ := by
  rw [ByteArray.toList_eq] at h
  cases s
  simp_all

theorem name_bytes {s : ByteArray} (h : Tk.nameB s = true) : (∀ c ∈ bl s, Tk.alnumB (c.toNat : Int) = true) ∧ (∃ c l, bl s = c :: l ∧ Tk.letterB (c.toNat : Int) = true) ∧ s.size ≤ 12 ∧ s.toList ≠ [] := by
  unfold Tk.nameB at h
  simp only [Bool.and_eq_true, decide_eq_true_eq] at h
  obtain ⟨⟨⟨⟨h1, h2⟩, h3⟩, _⟩, h5⟩ := h
  have hb : ∀ j (hj : j < (bl s).length), Tk.byt s j = (((bl s)[j]'hj).toNat : Int) := fun j hj => by
    cases s with
    | mk d =>
      have hd : j < d.size := by simpa [bl] using hj
      simp [Tk.byt, ByteArray.get!, bl, hd]
  have hsz : (bl s).length = s.size := by cases s; simp [bl, ByteArray.size]
  refine ⟨fun c hc => ?_, ?_, h2, fun he => ?_⟩
  · obtain ⟨j, hj, rfl⟩ := List.mem_iff_getElem.1 hc
    rw [← hb j hj]
    exact Tk.runTo_mem Tk.alnumB s 0 j (Nat.zero_le _) (by omega)
  · cases hl : bl s with
    | nil => rw [hl] at hsz; simp at hsz; omega
    | cons c l =>
      refine ⟨c, l, rfl, ?_⟩
      have h9 := hb 0 (by rw [hl]; simp)
      rw [h9] at h3
      simpa [hl] using h3
  · rw [bl_nil he] at h1
    simp [ByteArray.size] at h1
theorem alnum_not {c : UInt8} (h : Tk.alnumB (c.toNat : Int) = true) : c ≠ 64 ∧ c ≠ 46 ∧ c ≠ 32 := by
  refine ⟨?_, ?_, ?_⟩ <;> (intro e; subst e; revert h; decide)

/-- A proper program's parts. -/
theorem proper9 {P : List Bl} (h : checkOf P = 0) : (∀ b ∈ P, blockB b = true) ∧ twiceB P P.length = false := by
  unfold checkOf at h
  split at h
  · cases h
  · split at h
    · cases h
    · rename_i h1
      split at h
      · cases h
      · split at h
        · cases h
        · rename_i h2
          exact ⟨List.all_eq_true.1 (by simpa using h1), by simpa using h2⟩
/-- A variable's name, or none. -/
def okV (v : ByteArray) : Prop := v.size = 0 ∨ Tk.nameB v = true
theorem okV_atom {a : At} (h : atomB a = true) : okV a.v := by
  unfold atomB at h
  split at h
  · rename_i he
    exact .inl ((emptyB_iff _).1 he)
  · rw [Bool.and_eq_true] at h
    exact .inr h.1
theorem okV_zero {a : At} (h : zeroA a = true) : okV a.v := by
  unfold zeroA at h
  rw [Bool.and_eq_true] at h
  exact .inl ((emptyB_iff _).1 h.1)
theorem okV_expr {x : Ex} (h : exprB x = true) : okV x.x.v ∧ okV x.y.v := by
  unfold exprB at h
  split at h
  · rw [Bool.and_eq_true] at h
    exact ⟨okV_atom h.1, okV_zero h.2⟩
  · split at h
    · rw [Bool.and_eq_true] at h
      exact ⟨okV_atom h.1, okV_atom h.2⟩
    · cases h
theorem okV_stmt {s : St} (h : stmtB s = true) : okV s.v ∧ okV s.e.x.v ∧ okV s.e.y.v := by
  unfold stmtB at h
  split at h
  · rw [Bool.and_eq_true] at h
    exact ⟨.inr h.1, okV_expr h.2⟩
  · split at h
    · rw [Bool.and_eq_true] at h
      have h2 := h.2
      unfold zeroE at h2
      rw [Bool.and_eq_true, Bool.and_eq_true] at h2
      exact ⟨.inr h.1, okV_zero h2.2.1, okV_zero h2.2.2⟩
    · split at h
      · rw [Bool.and_eq_true, Bool.and_eq_true] at h
        exact ⟨.inl ((emptyB_iff _).1 h.1), okV_expr h.2.2⟩
      · cases h
theorem okV_term {t : Te} (h : termB t = true) : okV t.x.v := by
  unfold termB at h
  split at h
  · rw [Bool.and_eq_true, Bool.and_eq_true] at h
    exact okV_zero h.2.2
  · split at h
    · rw [Bool.and_eq_true, Bool.and_eq_true] at h
      exact okV_atom h.2.2
    · split at h
      · rw [Bool.and_eq_true, Bool.and_eq_true] at h
        exact okV_zero h.2.2
      · cases h
theorem block9 {b : Bl} (h : blockB b = true) : Tk.nameB b.n = true ∧ okV b.t.x.v ∧ ∀ s ∈ b.l, stmtB s = true := by
  unfold blockB at h
  rw [Bool.and_eq_true, Bool.and_eq_true] at h
  exact ⟨h.1.1, okV_term h.1.2, List.all_eq_true.1 h.2⟩
theorem putS_name {T : List ByteArray} {s : ByteArray} (h : ∀ x ∈ T, Tk.nameB x = true) (hs : okV s) : ∀ x ∈ putS T s, Tk.nameB x = true := by
  intro x hx
  unfold putS at hx
  split at hx
  · exact h x hx
  · rename_i h0
    split at hx
    · exact h x hx
    · rcases List.mem_append.1 hx with hx | hx
      · exact h x (List.mem_of_mem_take hx)
      · rcases List.mem_cons.1 hx with rfl | hx
        · exact hs.resolve_left h0
        · exact h x (List.mem_of_mem_drop hx)
theorem stVars_name {l : List St} {T : List ByteArray} (h : ∀ x ∈ T, Tk.nameB x = true) (hl : ∀ s ∈ l, stmtB s = true) : ∀ k, ∀ x ∈ stVars l T k, Tk.nameB x = true
  | 0 => h
  | k + 1 => by
    have ih := stVars_name h hl k
    simp only [stVars]
    split
    · rename_i s hs
      have := okV_stmt (hl s (List.mem_of_getElem? hs))
      exact putS_name (putS_name (putS_name ih this.1) this.2.1) this.2.2
    · exact ih
theorem blVars_name {P : List Bl} (h : ∀ b ∈ P, blockB b = true) : ∀ k, ∀ x ∈ blVars P k, Tk.nameB x = true
  | 0 => fun x hx => by simp [blVars] at hx
  | k + 1 => by
    have ih := blVars_name h k
    simp only [blVars]
    split
    · rename_i b hb
      have := block9 (h b (List.mem_of_getElem? hb))
      exact putS_name (stVars_name ih this.2.2 _) this.2.1
    · exact ih

/-- A site, as its program has it. -/
theorem stSites_is {i : Nat} {l : List St} {x : Si} : ∀ {n : Nat}, x ∈ stSites i l n → ∃ (k : Nat) (s : St), k < n ∧ l[k]? = some s ∧ x = ⟨i, k, s.v⟩ ∧ (s.k = 1 ∨ s.k = 2)
  | 0, h => by simp [stSites] at h
  | n + 1, h => by
    simp only [stSites, List.mem_append] at h
    rcases h with h | h
    · obtain ⟨k, s, h1, h2⟩ := stSites_is h
      exact ⟨k, s, by omega, h2⟩
    · split at h
      · rename_i s hs
        unfold siteOf at h
        split at h
        · rename_i hk
          exact ⟨n, s, by omega, hs, by simpa using h, hk⟩
        · simp at h
      · simp at h
theorem blSites_is {P : List Bl} {x : Si} : ∀ {n : Nat}, x ∈ blSites P n → ∃ (i : Nat) (b : Bl) (k : Nat) (s : St), i < n ∧ P[i]? = some b ∧ b.l[k]? = some s ∧ x = ⟨i, k, s.v⟩ ∧ (s.k = 1 ∨ s.k = 2)
  | 0, h => by simp [blSites] at h
  | n + 1, h => by
    simp only [blSites, List.mem_append] at h
    rcases h with h | h
    · obtain ⟨i, b, k, s, h0, h1⟩ := blSites_is h
      exact ⟨i, b, k, s, by omega, h1⟩
    · split at h
      · rename_i b hb
        obtain ⟨k, s, hk0, hs, hx, hk⟩ := stSites_is h
        exact ⟨n, b, k, s, by omega, hb, hs, hx, hk⟩
      · simp at h

/-- No site stands twice among a program's. -/
theorem stSites_nodup (i : Nat) (l : List St) : ∀ n, (stSites i l n).Pairwise (· ≠ ·)
  | 0 => by simp [stSites]
  | n + 1 => by
    simp only [stSites]
    refine List.pairwise_append.2 ⟨stSites_nodup i l n, ?_, fun x hx y hy => ?_⟩
    · split
      · unfold siteOf
        split <;> simp
      · simp
    · obtain ⟨k, s, hk, _, rfl, _⟩ := stSites_is hx
      split at hy
      · unfold siteOf at hy
        split at hy
        · rw [List.mem_singleton.1 hy]
          intro he
          injection he with _ h2 _
          omega
        · simp at hy
      · simp at hy
theorem blSites_nodup (P : List Bl) : ∀ n, (blSites P n).Pairwise (· ≠ ·)
  | 0 => by simp [blSites]
  | n + 1 => by
    simp only [blSites]
    refine List.pairwise_append.2 ⟨blSites_nodup P n, ?_, fun x hx y hy => ?_⟩
    · split
      · exact stSites_nodup _ _ _
      · simp
    · obtain ⟨i, b, k, s, hi, _, _, rfl, _⟩ := blSites_is hx
      split at hy
      · obtain ⟨k2, s2, _, _, rfl, _⟩ := stSites_is hy
        intro he
        injection he with h1 _ _
        omega
      · simp at hy
theorem sites_nodup (P : List Bl) : (sitesOf P).Pairwise (· ≠ ·) := by
  unfold sitesOf
  refine List.pairwise_append.2 ⟨?_, blSites_nodup P _, fun x hx y hy => ?_⟩
  · rw [List.pairwise_map]
    refine (blVars_rise P P.length : Rise _).imp fun {a b} h he => ?_
    injection he with _ _ h3
    rw [h3, ltS_irrefl] at h
    cases h
  · obtain ⟨v, _, rfl⟩ := List.mem_map.1 hx
    obtain ⟨i, b, k, s, _, _, _, rfl, _⟩ := blSites_is hy
    intro he
    injection he with h1 _ _
    omega

theorem twice_not {P : List Bl} (h : twiceB P P.length = false) {i j : Nat} {b c : Bl} (hi : P[i]? = some b) (hj : P[j]? = some c) (hn : b.n = c.n) : i = j := by
  have key : ∀ {i j : Nat} {b c : Bl}, P[i]? = some b → P[j]? = some c → b.n = c.n → ¬ i < j := by
    intro i j b c hi hj hn hlt
    have hjl := (List.getElem?_eq_some_iff.1 hj).1
    unfold twiceB at h
    rw [List.any_eq_false] at h
    have h9 := h j (List.mem_range.2 hjl)
    rw [hj] at h9
    refine h9 ?_
    show hasN P j c.n = true
    unfold hasN
    rw [List.any_eq_true]
    refine ⟨b, ?_, by simp [hn]⟩
    rw [List.mem_iff_getElem?]
    exact ⟨i, by rw [List.getElem?_take, if_pos hlt]; exact hi⟩
  have h1 := key hi hj hn
  have h2 := key hj hi hn.symm
  omega

/-- Unlike sites of a proper program have unlike names. -/
theorem site_names {P : List Bl} (hc : checkOf P = 0) {x y : Si} (hx : x ∈ sitesOf P) (hy : y ∈ sitesOf P) (h : nameOf P x = nameOf P y) : x = y := by
  obtain ⟨hb, ht⟩ := proper9 hc
  have hv := blVars_name hb P.length
  have kind : ∀ z ∈ sitesOf P, (∃ v, z = ⟨-1, 0, v⟩ ∧ Tk.nameB v = true ∧ bl (nameOf P z) = bl v ++ 64 :: [115, 116, 97, 114, 116]) ∨ ∃ (i : Nat) (b : Bl) (k : Nat) (s : St), P[i]? = some b ∧ b.l[k]? = some s ∧ z = ⟨i, k, s.v⟩ ∧ Tk.nameB s.v = true ∧ Tk.nameB b.n = true ∧ bl (nameOf P z) = bl s.v ++ 64 :: (bl b.n ++ 46 :: digN k) := by
    intro z hz
    have hz0 := hz
    unfold sitesOf at hz
    rcases List.mem_append.1 hz with hz | hz
    · obtain ⟨v, hm, rfl⟩ := List.mem_map.1 hz
      refine .inl ⟨v, rfl, hv v hm, ?_⟩
      unfold nameOf
      rw [if_pos rfl, bl_append]
      rfl
    · obtain ⟨i, b, k, s, _, h1, h2, rfl, h4⟩ := blSites_is hz
      have hbb := block9 (hb b (List.mem_of_getElem? h1))
      have hst := hbb.2.2 s (List.mem_of_getElem? h2)
      have hsn : Tk.nameB s.v = true := by
        unfold stmtB at hst
        split at hst
        · rw [Bool.and_eq_true] at hst; exact hst.1
        · split at hst
          · rw [Bool.and_eq_true] at hst; exact hst.1
          · omega
      refine .inr ⟨i, b, k, s, h1, h2, rfl, hsn, hbb.1, ?_⟩
      have hne : ¬ ((i : Int) = -1) := by omega
      have hg : P.getD ((i : Int)).toNat default = b := by rw [Int.toNat_natCast]; simp [List.getD, h1]
      have e0 : nameOf P ⟨i, k, s.v⟩ = s.v ++ ⟨#[64]⟩ ++ b.n ++ ⟨#[46]⟩ ++ digS k := by
        unfold nameOf
        show (if (i : Int) = -1 then _ else if (⟨i, k, s.v⟩ : Si) ∈ sitesOf P then s.v ++ ⟨#[64]⟩ ++ (P.getD ((i : Int)).toNat default).n ++ ⟨#[46]⟩ ++ digS ((k : Int)).toNat else _) = _
        rw [if_neg hne, if_pos hz0, hg, Int.toNat_natCast]
      rw [e0, bl_append, bl_append, bl_append, bl_append]
      show bl s.v ++ [64] ++ bl b.n ++ [46] ++ digN k = _
      simp
  have no64 : ∀ {v}, Tk.nameB v = true → ∀ c ∈ bl v, c ≠ 64 := fun hv c hc => (alnum_not ((name_bytes hv).1 c hc)).1
  have no46 : ∀ {v}, Tk.nameB v = true → ∀ c ∈ bl v, c ≠ 46 := fun hv c hc => (alnum_not ((name_bytes hv).1 c hc)).2.1
  have h9 := congrArg bl h
  rcases kind x hx with ⟨v, rfl, h1, h2⟩ | ⟨i, b, k, s, h1, h2, rfl, h3, h4, h5⟩
  · rcases kind y hy with ⟨v', rfl, k1, k2⟩ | ⟨i', b', k', s', k1, k2, rfl, k3, k4, k5⟩
    · rw [h2, k2] at h9
      rw [bl_inj (split_at (no64 h1) (no64 k1) h9).1]
    · rw [h2, k5] at h9
      have h8 := (split_at (no64 h1) (no64 k3) h9).2
      have h7 : (46 : UInt8) ∈ [115, 116, 97, 114, 116] := by rw [h8]; simp
      exact absurd h7 (by decide)
  · rcases kind y hy with ⟨v', rfl, k1, k2⟩ | ⟨i', b', k', s', k1, k2, rfl, k3, k4, k5⟩
    · rw [h5, k2] at h9
      have h8 := (split_at (no64 h3) (no64 k1) h9).2
      have h7 : (46 : UInt8) ∈ [115, 116, 97, 114, 116] := by rw [← h8]; simp
      exact absurd h7 (by decide)
    · rw [h5, k5] at h9
      obtain ⟨e1, e2⟩ := split_at (no64 h3) (no64 k3) h9
      obtain ⟨e3, e4⟩ := split_at (no46 h4) (no46 k4) e2
      have e5 := twice_not ht h1 k1 (bl_inj e3)
      rw [bl_inj e1, e5, digN_inj e4]

/-! Expressions. -/
def atomL (a : At) : List UInt8 := bl (atomT a.v a.a a.b)
theorem atomL_kind {a : At} (h : atomB a = true) : (a.v = ⟨#[]⟩ ∧ atomL a = textN a.a a.b ∧ a.a = wr a.a ∧ a.b = wr a.b) ∨ (Tk.nameB a.v = true ∧ atomL a = bl a.v ∧ a.a = 0 ∧ a.b = 0) := by
  unfold atomB at h
  unfold atomL atomT
  split at h
  · rename_i he
    have he2 : a.v.toList = [] := by simpa [emptyB] using he
    unfold isNumB at h
    simp only [Bool.and_eq_true, beq_iff_eq] at h
    rw [if_pos he2]
    exact .inl ⟨bl_nil he2, rfl, h.1, h.2⟩
  · rw [Bool.and_eq_true] at h
    have h2 := h.2
    unfold zeroN at h2
    simp only [Bool.and_eq_true, beq_iff_eq] at h2
    rw [if_neg (name_bytes h.1).2.2.2]
    exact .inr ⟨h.1, rfl, h2.1, h2.2⟩
theorem atomL_char {a : At} (h : atomB a = true) : ∀ c ∈ atomL a, c ≠ 32 := by
  rcases atomL_kind h with ⟨_, h1, _⟩ | ⟨h1, h2, _⟩
  · rw [h1]; exact textN_char _ _
  · rw [h2]; exact fun c hc => (alnum_not ((name_bytes h1).1 c hc)).2.2
theorem atomL_inj {a b : At} (ha : atomB a = true) (hb : atomB b = true) (h : atomL a = atomL b) : a = b := by
  obtain ⟨v, x, y⟩ := a
  obtain ⟨v', x', y'⟩ := b
  have no : ∀ {v x y}, Tk.nameB v = true → bl v ≠ textN x y := fun {v x y} hv he => by
    obtain ⟨c, l, h1, h2⟩ := (name_bytes hv).2.1
    obtain ⟨d, m, h3, h4⟩ := textN_first x y
    rw [h1, h3] at he
    injection he with he _
    subst he
    revert h2
    unfold Tk.letterB
    simp only [Bool.or_eq_true, Bool.and_eq_true, decide_eq_true_eq]
    intro h2
    rcases h4 with rfl | rfl | h4
    · simp at h2
    · simp at h2
    · omega
  rcases atomL_kind ha with ⟨h1, h2, h3, h4⟩ | ⟨h1, h2, h3, h4⟩
  · rcases atomL_kind hb with ⟨k1, k2, k3, k4⟩ | ⟨k1, k2, k3, k4⟩
    · rw [h2, k2] at h
      obtain ⟨e1, e2⟩ := (textN_iff _ _ _ _).1 h
      have h1 : v = ⟨#[]⟩ := h1
      have k1 : v' = ⟨#[]⟩ := k1
      have e3 : x = x' := by rw [show x = wr x from h3, show x' = wr x' from k3]; exact e1
      have e4 : y = y' := by rw [show y = wr y from h4, show y' = wr y' from k4]; exact e2
      rw [h1, k1, e3, e4]
    · rw [h2, k2] at h
      exact absurd h.symm (no k1)
  · rcases atomL_kind hb with ⟨k1, k2, k3, k4⟩ | ⟨k1, k2, k3, k4⟩
    · rw [h2, k2] at h
      exact absurd h (no h1)
    · rw [h2, k2] at h
      have e1 : v = v' := bl_inj h
      have h3 : x = 0 := h3
      have h4 : y = 0 := h4
      have k3 : x' = 0 := k3
      have k4 : y' = 0 := k4
      rw [e1, h3, h4, k3, k4]

def exprX (x : Ex) : ByteArray := exprT x.op x.x.v x.x.a x.x.b x.y.v x.y.a x.y.b
theorem zero9_eq {a b : At} (ha : zeroA a = true) (hb : zeroA b = true) : a = b := by
  obtain ⟨v, x, y⟩ := a
  obtain ⟨v', x', y'⟩ := b
  simp only [zeroA, zeroN, emptyB, Bool.and_eq_true, beq_iff_eq] at ha hb
  rw [bl_nil ha.1, bl_nil hb.1, ha.2.1, ha.2.2, hb.2.1, hb.2.2]

/-- An expression's text, by its operation. -/
theorem exprX_kind {x : Ex} (h : exprB x = true) : (x.op = 0 ∧ atomB x.x = true ∧ zeroA x.y = true ∧ bl (exprX x) = atomL x.x) ∨ (x.op = 4 ∧ atomB x.x = true ∧ zeroA x.y = true ∧ bl (exprX x) = [99, 111, 110, 106] ++ 32 :: atomL x.x) ∨ ∃ c : UInt8, ((x.op = 1 ∧ c = 43) ∨ (x.op = 2 ∧ c = 45) ∨ (x.op = 3 ∧ c = 42)) ∧ atomB x.x = true ∧ atomB x.y = true ∧ bl (exprX x) = atomL x.x ++ 32 :: ([c] ++ 32 :: atomL x.y) := by
  unfold exprB at h
  split at h
  · rename_i ho
    rw [Bool.and_eq_true] at h
    rcases ho with ho | ho
    · refine .inl ⟨ho, h.1, h.2, ?_⟩
      unfold exprX exprT
      rw [if_pos ho]
      rfl
    · refine .inr (.inl ⟨ho, h.1, h.2, ?_⟩)
      unfold exprX exprT
      rw [ho]
      simp only [show ((4 : Int) = 0) = False by simp, show ((4 : Int) = 1) = False by simp, show ((4 : Int) = 2) = False by simp, show ((4 : Int) = 3) = False by simp, if_false, if_true, bl_append]
      rfl
  · split at h
    · rename_i ho
      rw [Bool.and_eq_true] at h
      refine .inr (.inr ?_)
      rcases ho with ho | ho | ho
      · refine ⟨43, .inl ⟨ho, rfl⟩, h.1, h.2, ?_⟩
        unfold exprX exprT
        rw [ho]
        simp only [show ((1 : Int) = 0) = False by simp, if_false, if_true, bl_append, List.append_assoc]
        rfl
      · refine ⟨45, .inr (.inl ⟨ho, rfl⟩), h.1, h.2, ?_⟩
        unfold exprX exprT
        rw [ho]
        simp only [show ((2 : Int) = 0) = False by simp, show ((2 : Int) = 1) = False by simp, if_false, if_true, bl_append, List.append_assoc]
        rfl
      · refine ⟨42, .inr (.inr ⟨ho, rfl⟩), h.1, h.2, ?_⟩
        unfold exprX exprT
        rw [ho]
        simp only [show ((3 : Int) = 0) = False by simp, show ((3 : Int) = 1) = False by simp, show ((3 : Int) = 2) = False by simp, if_false, if_true, bl_append, List.append_assoc]
        rfl
    · cases h
theorem exprX_inj {x y : Ex} (hx : exprB x = true) (hy : exprB y = true) (h : exprX x = exprX y) : x = y := by
  have h9 := congrArg bl h
  have conj : ∀ c ∈ ([99, 111, 110, 106] : List UInt8), c ≠ 32 := by decide
  obtain ⟨o, a, b⟩ := x
  obtain ⟨o', a', b'⟩ := y
  rcases exprX_kind hx with ⟨e1, e2, e3, e4⟩ | ⟨e1, e2, e3, e4⟩ | ⟨c, e1, e2, e3, e4⟩
  · rcases exprX_kind hy with ⟨f1, f2, f3, f4⟩ | ⟨f1, f2, f3, f4⟩ | ⟨c', f1, f2, f3, f4⟩
    · rw [e4, f4] at h9
      have e1 : o = 0 := e1
      have f1 : o' = 0 := f1
      have g1 : a = a' := atomL_inj e2 f2 h9
      have g2 : b = b' := zero9_eq e3 f3
      rw [e1, f1, g1, g2]
    · rw [e4, f4] at h9
      exact absurd rfl (atomL_char e2 32 (by rw [h9]; simp))
    · rw [e4, f4] at h9
      exact absurd rfl (atomL_char e2 32 (by rw [h9]; simp))
  · rcases exprX_kind hy with ⟨f1, f2, f3, f4⟩ | ⟨f1, f2, f3, f4⟩ | ⟨c', f1, f2, f3, f4⟩
    · rw [e4, f4] at h9
      exact absurd rfl (atomL_char f2 32 (by rw [← h9]; simp))
    · rw [e4, f4] at h9
      have e1 : o = 4 := e1
      have f1 : o' = 4 := f1
      have g1 : a = a' := atomL_inj e2 f2 (split_at conj conj h9).2
      have g2 : b = b' := zero9_eq e3 f3
      rw [e1, f1, g1, g2]
    · rw [e4, f4] at h9
      have h8 := (split_at conj (atomL_char f2) h9).2
      exact absurd rfl (atomL_char e2 32 (by rw [h8]; simp))
  · rcases exprX_kind hy with ⟨f1, f2, f3, f4⟩ | ⟨f1, f2, f3, f4⟩ | ⟨c', f1, f2, f3, f4⟩
    · rw [e4, f4] at h9
      exact absurd rfl (atomL_char f2 32 (by rw [← h9]; simp))
    · rw [e4, f4] at h9
      have h8 := (split_at (atomL_char e2) conj h9).2
      exact absurd rfl (atomL_char f2 32 (by rw [← h8]; simp))
    · rw [e4, f4] at h9
      obtain ⟨g1, g2⟩ := split_at (atomL_char e2) (atomL_char f2) h9
      have hcc : ∀ {c : UInt8} {o : Int}, (o = 1 ∧ c = 43) ∨ (o = 2 ∧ c = 45) ∨ (o = 3 ∧ c = 42) → ∀ d ∈ [c], d ≠ 32 := fun {c o} h d hd => by
        rw [List.mem_singleton.1 hd]
        rcases h with ⟨_, rfl⟩ | ⟨_, rfl⟩ | ⟨_, rfl⟩ <;> decide
      obtain ⟨g3, g4⟩ := split_at (hcc e1) (hcc f1) g2
      have g3 : c = c' := by simpa using g3
      subst g3
      have g5 : o = o' := by
        have e1 : (o = 1 ∧ c = 43) ∨ (o = 2 ∧ c = 45) ∨ (o = 3 ∧ c = 42) := e1
        have f1 : (o' = 1 ∧ c = 43) ∨ (o' = 2 ∧ c = 45) ∨ (o' = 3 ∧ c = 42) := f1
        rcases e1 with ⟨rfl, rfl⟩ | ⟨rfl, rfl⟩ | ⟨rfl, rfl⟩ <;> rcases f1 with ⟨rfl, h2⟩ | ⟨rfl, h2⟩ | ⟨rfl, h2⟩ <;> first | rfl | (revert h2; decide)
      have g6 : a = a' := atomL_inj e2 f2 g1
      have g7 : b = b' := atomL_inj e3 f3 g4
      rw [g5, g6, g7]

/-- The expressions of a proper program are proper, and none stands twice. -/
theorem eqE_self (x : Ex) : eqE x x = true := by simp [eqE, eqA]
theorem addX_keep {L : List Ex} {s : St} (hs : stmtB s = true) (h : (∀ x ∈ L, exprB x = true) ∧ L.Pairwise (· ≠ ·)) : (∀ x ∈ addX L s, exprB x = true) ∧ (addX L s).Pairwise (· ≠ ·) := by
  unfold addX
  split
  · rename_i hk
    have he : exprB s.e = true := by
      unfold stmtB at hs
      rw [if_pos hk.1, Bool.and_eq_true] at hs
      exact hs.2
    refine ⟨fun x hx => ?_, List.pairwise_append.2 ⟨h.2, by simp, fun x hx y hy => ?_⟩⟩
    · rcases List.mem_append.1 hx with hx | hx
      · exact h.1 x hx
      · rw [List.mem_singleton.1 hx]; exact he
    · rw [List.mem_singleton.1 hy]
      rintro rfl
      have h9 := hk.2.2.2
      rw [List.any_eq_false] at h9
      exact h9 _ hx (eqE_self _)
  · exact h
theorem stX_keep {l : List St} (hl : ∀ s ∈ l, stmtB s = true) : ∀ {L : List Ex}, (∀ x ∈ L, exprB x = true) ∧ L.Pairwise (· ≠ ·) → (∀ x ∈ stX L l, exprB x = true) ∧ (stX L l).Pairwise (· ≠ ·) := by
  induction l with
  | nil => intro L h; exact h
  | cons s l ih =>
    intro L h
    exact ih (fun t ht => hl t (by simp [ht])) (addX_keep (hl s (by simp)) h)
theorem exprs_keep {P : List Bl} (hb : ∀ b ∈ P, blockB b = true) : (∀ x ∈ exprsOf P, exprB x = true) ∧ (exprsOf P).Pairwise (· ≠ ·) := by
  have key : ∀ (Q : List Bl), (∀ b ∈ Q, blockB b = true) → ∀ {L : List Ex}, (∀ x ∈ L, exprB x = true) ∧ L.Pairwise (· ≠ ·) → (∀ x ∈ Q.foldl (fun L b => stX L b.l) L, exprB x = true) ∧ (Q.foldl (fun L b => stX L b.l) L).Pairwise (· ≠ ·) := by
    intro Q
    induction Q with
    | nil => intro _ L h; exact h
    | cons b Q ih =>
      intro hq L h
      exact ih (fun c hc => hq c (by simp [hc])) (stX_keep (block9 (hq b (by simp))).2.2 h)
  exact key P hb ⟨fun x hx => by simp at hx, by simp⟩

theorem pair_at {α : Type} {L : List α} (h : L.Pairwise (· ≠ ·)) {i k : Nat} (hi : i < L.length) (hk : k < i) : L[i]'hi ≠ L[k]'(by omega) :=
  fun he => (List.pairwise_iff_getElem.1 h) k i (by omega) hi hk he.symm

theorem site_differ {P : List Bl} (hc : checkOf P = 0) {i k : Nat} (hi : i < (sitesOf P).length) (hk : k < i) : ((nameOf P ((sitesOf P)[i]'hi)).toList == (nameOf P ((sitesOf P)[k]'(by omega))).toList) = false := by
  cases hq : ((nameOf P ((sitesOf P)[i]'hi)).toList == (nameOf P ((sitesOf P)[k]'(by omega))).toList)
  · rfl
  · exact absurd (site_names hc (List.getElem_mem hi) (List.getElem_mem _) (toList_inj (by simpa using hq))) (pair_at (sites_nodup P) hi hk)
theorem expr_differ {P : List Bl} (hc : checkOf P = 0) {i k : Nat} (hi : i < (exprsOf P).length) (hk : k < i) : ((exprX ((exprsOf P)[i]'hi)).toList == (exprX ((exprsOf P)[k]'(by omega))).toList) = false := by
  have h1 := exprs_keep (proper9 hc).1
  cases hq : ((exprX ((exprsOf P)[i]'hi)).toList == (exprX ((exprsOf P)[k]'(by omega))).toList)
  · rfl
  · exact absurd (exprX_inj (h1.1 _ (List.getElem_mem hi)) (h1.1 _ (List.getElem_mem _)) (toList_inj (by simpa using hq))) (pair_at h1.2 hi hk)

end Go.Proofs.Ytjjmoibnmdbpeaa.Pr

namespace Go.Proofs.Ytjjmoibnmdbpeaa.Pr
set_option linter.unusedVariables false
set_option linter.unusedSimpArgs false
open Go Go.RowKit

theorem stepS {P : Program} {ops : Array Oper} {o : Oper} {a : Act} {w : World} {K : Act → World → Prop} {Q : Exit → Act → World → Prop} {E : Prop} (hgd : o.guard = none) (f : FuncId) (vs : Array Value) {α : Type} (g : α → Value) (S : α → World → Prop)
    (hop : (execOp a.eval o).run P w = .ok (.enter f vs) w)
    (h : Calls P f vs w fun e w' => ∃ v, e = .returned (g v) ∧ S v w' ∧ Below w.heap.size w w') (hk : ∀ v w', S v w' → Below w.heap.size w w' → K (a.put o.dst (g v)) w') :
    if Region.wanted o (yielded ops a.tmps) = true then Oper.wp P o a w K Q else E :=
  step_callS hgd f vs (fun v w' => ∃ x, v = g x ∧ S x w') hop (h.mono fun e w' ⟨v, he, hs, hb⟩ => ⟨_, he, ⟨v, rfl, hs⟩, hb⟩) (fun v w' ⟨x, hx, hs⟩ hb => by subst hx; exact hk x w' hs hb)
theorem nextB {w W q : World} (hq : Below W.heap.size W q) (h : Below w.heap.size w W) : Below w.heap.size w q := h.trans (hq.mono h.size)
theorem nextC {W q : World} {a : Addr} {v : Value} (hq : Below W.heap.size W q) (h : W.cell? a = some v) : q.cell? a = some v := (hq.cell (p := a) (World.block_lt_of_cell? _ _ h)).trans h
theorem sl_len {α : Type} {enc : α → List Value} {W : World} {v : Value} {L : List α} (h : Sl W v enc L) : ∃ p c, v = .slice p L.length c := by
  obtain ⟨b, off, p, cap, hv, _⟩ := h
  exact ⟨p, cap, hv⟩

theorem sites_len9 {P : List Bl} (h12 : P.length ≤ 12) (hl12 : ∀ b ∈ P, b.l.length ≤ 12) : (sitesOf P).length ≤ 1000 := by
  have h1 : ∀ (i : Nat) (l : List St) (n : Nat), (stSites i l n).length ≤ n := fun i l n => by
    induction n with
    | zero => simp [stSites]
    | succ n ih =>
      simp only [stSites, List.length_append]
      split
      · unfold siteOf
        split <;> simp <;> omega
      · simp; omega
  have h2 : ∀ n, (blSites P n).length ≤ 12 * n := fun n => by
    induction n with
    | zero => simp [blSites]
    | succ n ih =>
      simp only [blSites, List.length_append]
      split
      · rename_i b hb
        have := h1 n b.l b.l.length
        have := hl12 b (List.mem_iff_getElem?.2 ⟨n, hb⟩)
        omega
      · simp; omega
  have h3 := blVars_len hl12 P.length
  have h4 := h2 P.length
  have h5 : (vars P).length ≤ 400 ∨ True := .inr trivial
  unfold sitesOf
  rw [List.length_append, List.length_map]
  have h6 : (vars P).length = (blVars P P.length).length := rfl
  omega
theorem site_differ2 {P : List Bl} (hc : checkOf P = 0) (i k : Nat) (x y : Si) (hx : (sitesOf P)[i]? = some x) (hy : (sitesOf P)[k]? = some y) (hk : k < i) : ((nameOf P x).toList == (nameOf P y).toList) = false := by
  obtain ⟨h1, h2⟩ := List.getElem?_eq_some_iff.1 hx
  obtain ⟨h3, h4⟩ := List.getElem?_eq_some_iff.1 hy
  have h9 := site_differ hc h1 hk
  rw [h2, h4] at h9
  exact h9
theorem expr_differ2 {P : List Bl} (hc : checkOf P = 0) (i k : Nat) (x y : Ex) (hx : (exprsOf P)[i]? = some x) (hy : (exprsOf P)[k]? = some y) (hk : k < i) : ((exprX x).toList == (exprX y).toList) = false := by
  obtain ⟨h1, h2⟩ := List.getElem?_eq_some_iff.1 hx
  obtain ⟨h3, h4⟩ := List.getElem?_eq_some_iff.1 hy
  have h9 := expr_differ hc h1 hk
  rw [h2, h4] at h9
  exact h9
theorem okV_size {v : ByteArray} (h : okV v) : v.size ≤ 1000 := by
  rcases h with h | h
  · omega
  · have := (name_bytes h).2.2.1; omega
theorem site_size {P : List Bl} (hc : checkOf P = 0) {x : Si} (hx : x ∈ sitesOf P) : x.v.size ≤ 1000 := by
  obtain ⟨hb, _⟩ := proper9 hc
  unfold sitesOf at hx
  rcases List.mem_append.1 hx with hx | hx
  · obtain ⟨v, hv, rfl⟩ := List.mem_map.1 hx
    exact okV_size (.inr (blVars_name hb _ v hv))
  · obtain ⟨i, b, k, s, _, h1, h2, rfl, _⟩ := blSites_is hx
    exact okV_size (okV_stmt ((block9 (hb b (List.mem_of_getElem? h1))).2.2 s (List.mem_of_getElem? h2))).1

set_option maxRecDepth 100000 in
theorem ename_any (op : Int) (v1 : ByteArray) (a1 b1 : Int) (v2 : ByteArray) (a2 b2 : Int) (h1 : v1.size ≤ 1000) (h2 : v2.size ≤ 1000) (w : World) :
    Calls Try.prog 26 #[.agg #[.int .i64 op, .string v1, .int .i64 a1, .int .i64 b1, .string v2, .int .i64 a2, .int .i64 b2]] w fun e w' => e = .returned (.string (exprX ⟨op, ⟨v1, a1, b1⟩, ⟨v2, a2, b2⟩⟩)) ∧ Below w.heap.size w w' := by
  have he := fun W => Go.Proofs.Ytjjmoibnmdbpeaa.expr_any op v1 v2 a1 b1 a2 b2 h1 h2 W
  have he : ∀ W, Calls Try.prog 50 #[.agg #[.int .i64 op, .string v1, .int .i64 a1, .int .i64 b1, .string v2, .int .i64 a2, .int .i64 b2]] W fun e w' => e = .returned (.string (exprX ⟨op, ⟨v1, a1, b1⟩, ⟨v2, a2, b2⟩⟩)) ∧ Below W.heap.size W w' := he
  generalize exprX ⟨op, ⟨v1, a1, b1⟩, ⟨v2, a2, b2⟩⟩ = t at he ⊢
  go_enter Try.func26, Try.ntmps26
  go_wp2_with (go_at_call 50; refine' Calls.aft _ _ (he _) _; rotate_left 2; (exact Below.refl _ _; rfl); intro x1; have hle := After.le x1; (try simp at hle))
  go_ret
  exact ⟨rfl, nextB x1.below ((Below.refl _ _).alloc (Nat.le_refl _) _)⟩

set_option maxRecDepth 100000 in
set_option maxHeartbeats 4000000 in
theorem tablesNames_few (P : List Bl) (pv : Value) (w : World) (h : Pg w pv P) (hs : smallB P = false) :
    Calls Try.prog 5 #[.agg #[pv]] w fun e w' => e = .returned (.bool true) ∧ Below w.heap.size w w' := by
  obtain ⟨p, cap, rfl⟩ : ∃ p cap, pv = .slice p P.length cap := by obtain ⟨b, off, p, cap, hv, _⟩ := h.1; exact ⟨p, cap, hv⟩
  have hsm := fun (W : World) (hB : Below w.heap.size w W) => small_any P _ W (h.below hB)
  rw [hs] at hsm
  have hb1 : Below w.heap.size w (w.alloc (.cells #[.slice p P.length cap] 57)) := (Below.refl _ _).alloc (Nat.le_refl _) _
  clear h hs
  go_enter Try.func5, Try.ntmps5
  go_wp2_with (first | (go_at_call 20; refine' Calls.aft _ _ (awake_any _) _; rotate_left 2; (first | (with_reducible exact After.below _; rfl) | (with_reducible exact below_drew (After.below _); rfl) | (with_reducible exact below_set (After.below _) _ _; (go_simp; rfl)) | (with_reducible exact below_set (below_set (After.below _) _ _) _ _; (go_simp; rfl)) | (with_reducible exact below_set (below_set (below_set (After.below _) _ _) _ _) _ _; (go_simp; rfl)) | (with_reducible exact below_set (below_set (below_set (below_set (After.below _) _ _) _ _) _ _) _ _; (go_simp; rfl)) | (exact Below.refl _ _; rfl)); intro x1; have hle := After.le x1; (try simp at hle)) | (go_at_call 21; refine' Calls.aft _ _ (hsm _ (hb1.trans (x1.below.mono hb1.size))) _; rotate_left 2; (first | (with_reducible exact After.below _; rfl) | (with_reducible exact below_drew (After.below _); rfl) | (with_reducible exact below_set (After.below _) _ _; (go_simp; rfl)) | (with_reducible exact below_set (below_set (After.below _) _ _) _ _; (go_simp; rfl)) | (with_reducible exact below_set (below_set (below_set (After.below _) _ _) _ _) _ _; (go_simp; rfl)) | (with_reducible exact below_set (below_set (below_set (below_set (After.below _) _ _) _ _) _ _) _ _; (go_simp; rfl)) | (exact Below.refl _ _; rfl)); intro x2; have hle := After.le x2; (try simp at hle)))
  go_ret
  refine ⟨rfl, ?_⟩
  (repeat (first | exact Below.refl _ _ | apply Below.drew | refine Below.alloc ?_ ?_ _ | refine Below.setCell ?_ ?_ _ | refine Below.trans ?_ (Below.mono (After.below _) ?_))); (all_goals (first | (simp; done) | (simp; omega) | omega))

set_option maxRecDepth 100000 in
set_option maxHeartbeats 4000000 in
theorem tablesNames_bad (P : List Bl) (pv : Value) (w : World) (h : Pg w pv P) (hs : smallB P = true) (hc : checkOf P ≠ 0) :
    Calls Try.prog 5 #[.agg #[pv]] w fun e w' => e = .returned (.bool true) ∧ Below w.heap.size w w' := by
  obtain ⟨h12, hl12, hn40⟩ := small_len hs
  obtain ⟨p, cap, rfl⟩ : ∃ p cap, pv = .slice p P.length cap := by obtain ⟨b, off, p, cap, hv, _⟩ := h.1; exact ⟨p, cap, hv⟩
  have hsm := fun (W : World) (hB : Below w.heap.size w W) => small_any P _ W (h.below hB)
  have hck := fun (W : World) (hB : Below w.heap.size w W) => pcheck_any P h12 hl12 _ W (h.below hB)
  rw [hs] at hsm
  generalize checkOf P = X at hc hck
  have hcb : (X != 0) = true := by simpa using hc
  have hb1 : Below w.heap.size w (w.alloc (.cells #[.slice p P.length cap] 57)) := (Below.refl _ _).alloc (Nat.le_refl _) _
  clear h hs
  go_enter Try.func5, Try.ntmps5
  go_wp2_with (first | (go_at_call 20; refine' Calls.aft _ _ (awake_any _) _; rotate_left 2; (first | (with_reducible exact After.below _; rfl) | (with_reducible exact below_drew (After.below _); rfl) | (with_reducible exact below_set (After.below _) _ _; (go_simp; rfl)) | (with_reducible exact below_set (below_set (After.below _) _ _) _ _; (go_simp; rfl)) | (with_reducible exact below_set (below_set (below_set (After.below _) _ _) _ _) _ _; (go_simp; rfl)) | (with_reducible exact below_set (below_set (below_set (below_set (After.below _) _ _) _ _) _ _) _ _; (go_simp; rfl)) | (exact Below.refl _ _; rfl)); intro x1; have hle := After.le x1; (try simp at hle)) | (go_at_call 21; refine' Calls.aft _ _ (hsm _ (hb1.trans (x1.below.mono hb1.size))) _; rotate_left 2; (first | (with_reducible exact After.below _; rfl) | (with_reducible exact below_drew (After.below _); rfl) | (with_reducible exact below_set (After.below _) _ _; (go_simp; rfl)) | (with_reducible exact below_set (below_set (After.below _) _ _) _ _; (go_simp; rfl)) | (with_reducible exact below_set (below_set (below_set (After.below _) _ _) _ _) _ _; (go_simp; rfl)) | (with_reducible exact below_set (below_set (below_set (below_set (After.below _) _ _) _ _) _ _) _ _; (go_simp; rfl)) | (exact Below.refl _ _; rfl)); intro x2; have hle := After.le x2; (try simp at hle)) | (go_at_call 22; refine' Calls.aft _ _ (hck _ (hb1.trans (x2.below.mono hb1.size))) _; rotate_left 2; (first | (with_reducible exact After.below _; rfl) | (with_reducible exact below_drew (After.below _); rfl) | (with_reducible exact below_set (After.below _) _ _; (go_simp; rfl)) | (with_reducible exact below_set (below_set (After.below _) _ _) _ _; (go_simp; rfl)) | (with_reducible exact below_set (below_set (below_set (After.below _) _ _) _ _) _ _; (go_simp; rfl)) | (with_reducible exact below_set (below_set (below_set (below_set (After.below _) _ _) _ _) _ _) _ _; (go_simp; rfl)) | (exact Below.refl _ _; rfl)); intro x5; have hle := After.le x5; (try simp at hle)))
  go_ret
  refine ⟨by first | rfl | simp, ?_⟩
  (repeat (first | exact Below.refl _ _ | apply Below.drew | refine Below.alloc ?_ ?_ _ | refine Below.setCell ?_ ?_ _ | refine Below.trans ?_ (Below.mono (After.below _) ?_))); (all_goals (first | (simp; done) | (simp; omega) | omega))

set_option maxRecDepth 100000 in
set_option maxHeartbeats 8000000 in
theorem tablesNames_ok (P : List Bl) (pv : Value) (w : World) (h : Pg w pv P) (hs : smallB P = true) (hc : checkOf P = 0) :
    Calls Try.prog 5 #[.agg #[pv]] w fun e w' => e = .returned (.bool true) ∧ Below w.heap.size w w' := by
  obtain ⟨h12, hl12, hn40⟩ := small_len hs
  obtain ⟨p, cap, rfl⟩ : ∃ p cap, pv = .slice p P.length cap := by obtain ⟨b, off, p, cap, hv, _⟩ := h.1; exact ⟨p, cap, hv⟩
  have hsm := fun (W : World) (hB : Below w.heap.size w W) => small_any P _ W (h.below hB)
  have hck := fun (W : World) (hB : Below w.heap.size w W) => pcheck_any P h12 hl12 _ W (h.below hB)
  rw [hs] at hsm
  rw [hc] at hck
  have hex : ∀ (V : World) (hB : Below w.heap.size w V), Calls Try.prog 24 #[.agg #[.slice p P.length cap]] V fun e w' => ∃ v, e = .returned ((fun v : Value => v) v) ∧ (fun (v : Value) w' => Sl w' v Ex.cs (exprsOf P)) v w' ∧ Below V.heap.size V w' := fun V hB => (exprs_any P _ V (h.below hB) h12 hl12).mono fun e w' ⟨o, he, ho, hb⟩ => ⟨o, he, Sl.of_own ho, hb⟩
  have hsi : ∀ (V : World) (hB : Below w.heap.size w V), Calls Try.prog 23 #[.agg #[.slice p P.length cap]] V fun e w' => ∃ v, e = .returned ((fun v : Value => v) v) ∧ (fun (v : Value) w' => Sl w' v Si.cs (sitesOf P)) v w' ∧ Below V.heap.size V w' := fun V hB => tsites_any P _ V (h.below hB) h12 hl12
  have hna := fun (y : Si) (hy : y ∈ sitesOf P) (W : World) (hB : Below w.heap.size w W) => tname_any P y.b y.k y.v _ W (h.below hB) h12 hl12 hn40 (site_size hc hy)
  have hen := fun (x : Ex) (hx : x ∈ exprsOf P) (W : World) => ename_any x.op x.x.v x.x.a x.x.b x.y.v x.y.a x.y.b (okV_size (okV_expr ((exprs_keep (proper9 hc).1).1 x hx)).1) (okV_size (okV_expr ((exprs_keep (proper9 hc).1).1 x hx)).2) W
  have hdS := site_differ2 hc
  have hdE := expr_differ2 hc
  have hel : (exprsOf P).length ≤ 1000 := by have := exprs_len hl12 P.length (Nat.le_refl _); rw [List.take_length] at this; omega
  have hsl : (sitesOf P).length ≤ 1000 := sites_len9 h12 hl12
  have hb1 : Below w.heap.size w (w.alloc (.cells #[.slice p P.length cap] 57)) := (Below.refl _ _).alloc (Nat.le_refl _) _
  clear h hs
  go_enter Try.func5, Try.ntmps5
  go_wp2_with (first | (go_at_call 20; refine' Calls.aft _ _ (awake_any _) _; rotate_left 2; (first | (with_reducible exact After.below _; rfl) | (with_reducible exact below_drew (After.below _); rfl) | (with_reducible exact below_set (After.below _) _ _; (go_simp; rfl)) | (with_reducible exact below_set (below_set (After.below _) _ _) _ _; (go_simp; rfl)) | (with_reducible exact below_set (below_set (below_set (After.below _) _ _) _ _) _ _; (go_simp; rfl)) | (with_reducible exact below_set (below_set (below_set (below_set (After.below _) _ _) _ _) _ _) _ _; (go_simp; rfl)) | (exact Below.refl _ _; rfl)); intro x1; have hle := After.le x1; (try simp at hle)) | ((go_at_call 21; refine' Calls.aft _ _ (hsm _ (hb1.trans (x1.below.mono hb1.size))) _; rotate_left 2; (first | (with_reducible exact After.below _; rfl) | (with_reducible exact below_drew (After.below _); rfl) | (with_reducible exact below_set (After.below _) _ _; (go_simp; rfl)) | (with_reducible exact below_set (below_set (After.below _) _ _) _ _; (go_simp; rfl)) | (with_reducible exact below_set (below_set (below_set (After.below _) _ _) _ _) _ _; (go_simp; rfl)) | (with_reducible exact below_set (below_set (below_set (below_set (After.below _) _ _) _ _) _ _) _ _; (go_simp; rfl)) | (exact Below.refl _ _; rfl)); intro x2; have hle := After.le x2; (try simp at hle)); have hB2 : Below w.heap.size w x2.val := hb1.trans (x2.below.mono hb1.size); have y0 : x2.val.cell? ⟨w.heap.size, 0, none⟩ = some (Value.slice p P.length cap) := (x2.below.cell (p := ⟨w.heap.size, 0, none⟩) (by simp)).trans (by simp : _ = some (Value.slice p P.length cap))) | ((go_at_call 22; refine' Calls.aft _ _ (hck _ hB2) _; rotate_left 2; (exact Below.refl _ _; rfl); intro x3; have hle := After.le x3; (try simp at hle)); have hB3 := nextB x3.below hB2))
  have y3 := nextC x3.below y0
  obtain ⟨W6, hW6⟩ : ∃ W6, W6 = x3.val := ⟨_, rfl⟩
  rw [← hW6] at y3 hB3
  rw [← hW6]
  clear hW6 y0 hB2 hsm hck hle hb1
  have hd : Below W6.heap.size W6 W6.drew := (Below.refl W6.heap.size W6).drew
  have yd := nextC hd y3
  have yl := World.block_lt_of_cell? _ _ yd
  have hBd := nextB hd hB3
  go_cut [3, 4] from 1000 to 1000 (fun v3 v4 wx => ∃ (ep : Option Addr) (ec : Nat) (sp : Option Addr) (sc : Nat), v3 = .slice sp (sitesOf P).length sc ∧ v4 = .slice ep (exprsOf P).length ec ∧ Sl wx (.slice ep (exprsOf P).length ec) Ex.cs (exprsOf P) ∧ Sl wx (.slice sp (sitesOf P).length sc) Si.cs (sitesOf P) ∧ Below W6.heap.size W6 wx)
  case first =>
    first | (go_region_law (first | (refine stepS rfl 23 #[.agg #[.slice p P.length cap]] (fun v : Value => v) (fun (v : Value) w' => Sl w' v Si.cs (sitesOf P)) ?hop2 (hsi _ hBd) ?_; (case hop2 => (go_simp; done)); intro sv9 q1 hoS hq1; obtain ⟨sp, sc, rfl⟩ : ∃ p c, sv9 = .slice p (sitesOf P).length c := sl_len hoS; have yq := nextC hq1 yd; have ylq := World.block_lt_of_cell? _ _ yq; have hBq := nextB hq1 hBd) | (refine stepS rfl 24 #[.agg #[.slice p P.length cap]] (fun v : Value => v) (fun (v : Value) w' => Sl w' v Ex.cs (exprsOf P)) ?hop1 (hex _ hBq) ?_; (case hop1 => (go_simp; done)); intro ev q2 hoE hq2; obtain ⟨ep, ec, rfl⟩ : ∃ p c, ev = .slice p (exprsOf P).length c := sl_len hoE))) | fail
    all_goals (go_wp2_with fail; go_meet; exact ⟨ep, ec, sp, sc, rfl, rfl, hoE, hoS.below hq2, nextB hq2 (nextB hq1 hd)⟩)
  case rest =>
    obtain ⟨ep, ec, sp, sc, rfl, rfl, hoE, hoS, hB9⟩ := hcut
    obtain ⟨Wb, hWb⟩ : ∃ Wb, Wb = wc := ⟨wc, rfl⟩
    subst hWb
    have hBb := nextB hB9 hB3
    have y0 := nextC hB9 y3
    clear hB9 y3 hd yd yl hBd hex hsi hB3
    obtain ⟨eb, eoff, ep9, ec9, hev, hep, hec⟩ := hoE.open (k := 7) (fun _ => rfl)
    injection hev with he1 he2 he3
    subst he1 he3
    clear he2
    obtain ⟨sbb, soff, sp9, sc9, hsv, hsp, hsc⟩ := hoS.open Si.cs_len
    injection hsv with hs1 hs2 hs3
    subst hs1 hs3
    clear hs2 hoE hoS
    generalize hSS : sitesOf P = S at hna hdS hsl hsp hsc
    generalize hEE : exprsOf P = E at hen hdE hel hep hec
    clear hSS hEE
    go_wp2_with fail
    go_loopw [25] (fun i9 wr => ∃ i : Nat, i ≤ S.length ∧ i9 = .int .i64 i ∧ Below Wb.heap.size Wb wr) (fun i9 _ => S.length - (intOf i9).toNat)
    case atStart => exact ⟨0, Nat.zero_le _, rfl, Below.refl _ _⟩
    case round =>
      obtain ⟨i, hi, rfl, hB⟩ := hrel
      have hw := hB.size
      by_cases hlt : i < S.length
      · obtain rfl := hsp (by omega)
        have hlt2 : (i : Int) < S.length := by omega
        go_wp2_with fail
        go_loopw [29] (fun i9 wq => ∃ k : Nat, k ≤ i ∧ i9 = .int .i64 k ∧ Below wr.heap.size wr wq) (fun i9 _ => i - (intOf i9).toNat)
        case atStart => exact ⟨0, Nat.zero_le _, rfl, Below.refl _ _⟩
        case round =>
          obtain ⟨k, hk, rfl, hBk⟩ := hrel
          have hwk := hBk.size
          have hBz := nextB hBk hB
          by_cases hkt : k < i
          · have hkt2 : (k : Int) < i := by omega
            have hkS : (k : Int) < S.length := by omega
            have y0w := nextC hBz y0
            have y0l := World.block_lt_of_cell? _ _ y0w
            have hci : ∀ r u, ((S[i]'hlt).cs)[r]? = some u → wr.cell? ⟨sbb, soff + i * 3 + r, none⟩ = some u := fun r u hu => by
              rw [Nat.add_assoc]
              exact nextC hBz (hsc i hlt r u hu)
            have hck9 : ∀ r u, ((S[k]'(by omega)).cs)[r]? = some u → wr.cell? ⟨sbb, soff + k * 3 + r, none⟩ = some u := fun r u hu => by
              rw [Nat.add_assoc]
              exact nextC hBz (hsc k (by omega) r u hu)
            have hdd := hdS i k _ _ (List.getElem?_eq_getElem hlt) (List.getElem?_eq_getElem (show k < S.length by omega)) hkt
            have n1 := fun (z : After wr) => hna _ (List.getElem_mem hlt) z.val (nextB z.below (nextB hBz hBb))
            have n2 := fun (z : After wr) => hna _ (List.getElem_mem (show k < S.length by omega)) z.val (nextB z.below (nextB hBz hBb))
            generalize S[i]'hlt = y at hci hdd n1
            generalize S[k]'(show k < S.length by omega) = x at hck9 hdd n2
            obtain ⟨yb, yk, yv⟩ := y
            obtain ⟨xb, xk, xv⟩ := x
            have c0 : wr.cell? ⟨sbb, soff + i * 3, none⟩ = some (.int .i64 yb) := hci 0 _ rfl
            have cl := World.block_lt_of_cell? _ _ c0
            have c1 : wr.cell? ⟨sbb, soff + i * 3 + 1, none⟩ = some (.int .i64 yk) := hci 1 _ rfl
            have c2 : wr.cell? ⟨sbb, soff + i * 3 + 2, none⟩ = some (.string yv) := hci 2 _ rfl
            have d0 : wr.cell? ⟨sbb, soff + k * 3, none⟩ = some (.int .i64 xb) := hck9 0 _ rfl
            have d1 : wr.cell? ⟨sbb, soff + k * 3 + 1, none⟩ = some (.int .i64 xk) := hck9 1 _ rfl
            have d2 : wr.cell? ⟨sbb, soff + k * 3 + 2, none⟩ = some (.string xv) := hck9 2 _ rfl
            have n1 : ∀ (z : After wr), Calls Try.prog 25 #[.agg #[.slice p P.length cap], .agg #[.int .i64 yb, .int .i64 yk, .string yv]] z.val fun e w' => e = .returned (.string (nameOf P ⟨yb, yk, yv⟩)) ∧ Below z.val.heap.size z.val w' := n1
            have n2 : ∀ (z : After wr), Calls Try.prog 25 #[.agg #[.slice p P.length cap], .agg #[.int .i64 xb, .int .i64 xk, .string xv]] z.val fun e w' => e = .returned (.string (nameOf P ⟨xb, xk, xv⟩)) ∧ Below z.val.heap.size z.val w' := n2
            generalize nameOf P ⟨yb, yk, yv⟩ = m1 at n1 hdd
            generalize nameOf P ⟨xb, xk, xv⟩ = m2 at n2 hdd
            clear hci hck9
            go_wp2_with fail
            refine' region_whole _ _ (by kernel_rfl) (by kernel_rfl) _; rotate_left 2; (exact Below.refl _ _; rfl); (repeat (go_big_quiet_step (first | (go_at_call 25; first | (with_reducible exact Calls.after_of (n1 _)) | (with_reducible exact Calls.after_of (n2 _)))))); refine wpQuiet_nil ?_; intro z
            go_wp2_with fail
            go_roundw
            case rel => exact ⟨k + 1, by omega, by simp, nextB z.below hBk⟩
            case measure => simp [intOf]; omega
          · have hks : k = i := by omega
            have hkt2 : ¬ (k : Int) < i := by omega
            clear hks
            go_wp2_with fail
            go_roundw
            case rel => exact ⟨i + 1, by omega, by simp, hBz⟩
            case measure => simp [intOf]; omega
      · have hks : i = S.length := by omega
        have hlt2 : ¬ (i : Int) < S.length := by omega
        clear hks
        obtain ⟨Wd, hWd⟩ : ∃ Wd, Wd = wr := ⟨wr, rfl⟩
        subst hWd
        go_wp2_with fail
        go_loopw [49] (fun i9 wr => ∃ i : Nat, i ≤ E.length ∧ i9 = .int .i64 i ∧ Below Wd.heap.size Wd wr) (fun i9 _ => E.length - (intOf i9).toNat)
        case atStart => exact ⟨0, Nat.zero_le _, rfl, Below.refl _ _⟩
        case round =>
          obtain ⟨j, hj, rfl, hBj⟩ := hrel
          have hwj := hBj.size
          have hBx := nextB hBj hB
          by_cases hjt : j < E.length
          · obtain rfl := hep (by omega)
            have hjt2 : (j : Int) < E.length := by omega
            go_wp2_with fail
            go_loopw [53] (fun i9 wq => ∃ k : Nat, k ≤ j ∧ i9 = .int .i64 k ∧ Below wr.heap.size wr wq) (fun i9 _ => j - (intOf i9).toNat)
            case atStart => exact ⟨0, Nat.zero_le _, rfl, Below.refl _ _⟩
            case round =>
              obtain ⟨k, hk, rfl, hBk⟩ := hrel
              have hwk := hBk.size
              have hBz := nextB hBk hBx
              by_cases hkt : k < j
              · have hkt2 : (k : Int) < j := by omega
                have hkS : (k : Int) < E.length := by omega
                have hci : ∀ r u, ((E[j]'hjt).cs)[r]? = some u → wr.cell? ⟨eb, eoff + j * 7 + r, none⟩ = some u := fun r u hu => by
                  rw [Nat.add_assoc]
                  exact nextC hBz (hec j hjt r u hu)
                have hck9 : ∀ r u, ((E[k]'(by omega)).cs)[r]? = some u → wr.cell? ⟨eb, eoff + k * 7 + r, none⟩ = some u := fun r u hu => by
                  rw [Nat.add_assoc]
                  exact nextC hBz (hec k (by omega) r u hu)
                have hdd := hdE j k _ _ (List.getElem?_eq_getElem hjt) (List.getElem?_eq_getElem (show k < E.length by omega)) hkt
                have n1 := fun (z : After wr) => hen _ (List.getElem_mem hjt) z.val
                have n2 := fun (z : After wr) => hen _ (List.getElem_mem (show k < E.length by omega)) z.val
                generalize E[j]'hjt = y at hci hdd n1
                generalize E[k]'(show k < E.length by omega) = x at hck9 hdd n2
                obtain ⟨yo, ⟨y1, ya1, yb1⟩, ⟨y2, ya2, yb2⟩⟩ := y
                obtain ⟨xo, ⟨x1, xa1, xb1⟩, ⟨x2, xa2, xb2⟩⟩ := x
                have c0 : wr.cell? ⟨eb, eoff + j * 7, none⟩ = some (.int .i64 yo) := hci 0 _ rfl
                have cl := World.block_lt_of_cell? _ _ c0
                have c1 : wr.cell? ⟨eb, eoff + j * 7 + 1, none⟩ = some (.string y1) := hci 1 _ rfl
                have c2 : wr.cell? ⟨eb, eoff + j * 7 + 2, none⟩ = some (.int .i64 ya1) := hci 2 _ rfl
                have c3 : wr.cell? ⟨eb, eoff + j * 7 + 3, none⟩ = some (.int .i64 yb1) := hci 3 _ rfl
                have c4 : wr.cell? ⟨eb, eoff + j * 7 + 4, none⟩ = some (.string y2) := hci 4 _ rfl
                have c5 : wr.cell? ⟨eb, eoff + j * 7 + 5, none⟩ = some (.int .i64 ya2) := hci 5 _ rfl
                have c6 : wr.cell? ⟨eb, eoff + j * 7 + 6, none⟩ = some (.int .i64 yb2) := hci 6 _ rfl
                have d0 : wr.cell? ⟨eb, eoff + k * 7, none⟩ = some (.int .i64 xo) := hck9 0 _ rfl
                have d1 : wr.cell? ⟨eb, eoff + k * 7 + 1, none⟩ = some (.string x1) := hck9 1 _ rfl
                have d2 : wr.cell? ⟨eb, eoff + k * 7 + 2, none⟩ = some (.int .i64 xa1) := hck9 2 _ rfl
                have d3 : wr.cell? ⟨eb, eoff + k * 7 + 3, none⟩ = some (.int .i64 xb1) := hck9 3 _ rfl
                have d4 : wr.cell? ⟨eb, eoff + k * 7 + 4, none⟩ = some (.string x2) := hck9 4 _ rfl
                have d5 : wr.cell? ⟨eb, eoff + k * 7 + 5, none⟩ = some (.int .i64 xa2) := hck9 5 _ rfl
                have d6 : wr.cell? ⟨eb, eoff + k * 7 + 6, none⟩ = some (.int .i64 xb2) := hck9 6 _ rfl
                have n1 : ∀ (z : After wr), Calls Try.prog 26 #[.agg #[.int .i64 yo, .string y1, .int .i64 ya1, .int .i64 yb1, .string y2, .int .i64 ya2, .int .i64 yb2]] z.val fun e w' => e = .returned (.string (exprX ⟨yo, ⟨y1, ya1, yb1⟩, ⟨y2, ya2, yb2⟩⟩)) ∧ Below z.val.heap.size z.val w' := n1
                have n2 : ∀ (z : After wr), Calls Try.prog 26 #[.agg #[.int .i64 xo, .string x1, .int .i64 xa1, .int .i64 xb1, .string x2, .int .i64 xa2, .int .i64 xb2]] z.val fun e w' => e = .returned (.string (exprX ⟨xo, ⟨x1, xa1, xb1⟩, ⟨x2, xa2, xb2⟩⟩)) ∧ Below z.val.heap.size z.val w' := n2
                generalize exprX ⟨yo, ⟨y1, ya1, yb1⟩, ⟨y2, ya2, yb2⟩⟩ = m1 at n1 hdd
                generalize exprX ⟨xo, ⟨x1, xa1, xb1⟩, ⟨x2, xa2, xb2⟩⟩ = m2 at n2 hdd
                clear hci hck9
                go_wp2_with fail
                refine' region_whole _ _ (by kernel_rfl) (by kernel_rfl) _; rotate_left 2; (exact Below.refl _ _; rfl); (repeat (go_big_quiet_step (first | (go_at_call 26; first | (with_reducible exact Calls.after_of (n1 _)) | (with_reducible exact Calls.after_of (n2 _)))))); refine wpQuiet_nil ?_; intro z
                go_wp2_with fail
                go_roundw
                case rel => exact ⟨k + 1, by omega, by simp, nextB z.below hBk⟩
                case measure => simp [intOf]; omega
              · have hks : k = j := by omega
                have hkt2 : ¬ (k : Int) < j := by omega
                clear hks
                go_wp2_with fail
                go_roundw
                case rel => exact ⟨j + 1, by omega, by simp, nextB hBk hBj⟩
                case measure => simp [intOf]; omega
          · have hks : j = E.length := by omega
            have hjt2 : ¬ (j : Int) < E.length := by omega
            clear hks
            go_wp2_with fail
            go_ret
            exact ⟨rfl, nextB hBx hBb⟩

theorem tablesNames_any (P : List Bl) (pv : Value) (w : World) (h : Pg w pv P) :
    Calls Try.prog 5 #[.agg #[pv]] w fun e w' => e = .returned (.bool true) ∧ Below w.heap.size w w' := by
  cases hs : smallB P
  · exact tablesNames_few P pv w h hs
  · by_cases hc : checkOf P = 0
    · exact tablesNames_ok P pv w h hs hc
    · exact tablesNames_bad P pv w h hs hc

end Go.Proofs.Ytjjmoibnmdbpeaa.Pr

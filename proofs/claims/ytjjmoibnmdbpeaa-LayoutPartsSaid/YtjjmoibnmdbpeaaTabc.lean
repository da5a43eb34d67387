/- WALK of soughref04.put. -/
import Derived.Test.YtjjmoibnmdbpeaaTabb
import Derived.Test.YtjjmoibnmdbpeaaOwn
import Derived.LoopTactic
namespace Go.Proofs.Ytjjmoibnmdbpeaa.Pr
set_option linter.unusedVariables false
set_option linter.unusedSimpArgs false
open Go Go.RowKit

def encS (s : ByteArray) : List Value := [.string s]
theorem encS_len (s : ByteArray) : (encS s).length = 1 := rfl
theorem s_info : (Try.prog.info? 9).map (fun i => (i.zero, i.size, i.bytes)) = some (some (.string ⟨#[]⟩), 1, 16) := by kernel_rfl
theorem info_parts {t : TypeId} {z : Value} {s b : Nat} (h : (Try.prog.info? t).map (fun i => (i.zero, i.size, i.bytes)) = some (some z, s, b)) : ∃ i, Try.prog.info? t = some i ∧ i.zero = some z ∧ i.size = s ∧ i.bytes = b := by
  cases hi : Try.prog.info? t with
  | none => rw [hi] at h; cases h
  | some i =>
    rw [hi] at h
    simp only [Option.map_some, Option.some.injEq, Prod.mk.injEq] at h
    exact ⟨i, rfl, h.1, h.2.1, h.2.2⟩
def intOf : Value → Int | .int _ q => q | _ => 0

theorem Sl.strs {w : World} {v : Value} {L : List ByteArray} (h : Sl w v encS L) :
    ∃ (b off : Nat) (p : Option Addr) (cap : Nat), v = .slice p L.length cap ∧ (0 < L.length → p = some ⟨b, off, none⟩) ∧
      ∀ (i : Nat) (hi : i < L.length), w.cell? ⟨b, off + i, none⟩ = some (.string (L[i]'hi)) := by
  obtain ⟨b, off, p, cap, hv, hp, hc⟩ := h.open encS_len
  exact ⟨b, off, p, cap, hv, hp, fun i hi => by have := hc i hi 0 _ rfl; simpa using this⟩

theorem flat_snoc (X : List ByteArray) (s : ByteArray) : (X ++ [s]).flatMap encS = X.flatMap encS ++ [.string s] := by rw [List.flatMap_append]; rfl

theorem own_snocS {w : World} {base : Nat} {v : Value} {X : List ByteArray} {s : ByteArray} (h : w.ownsRow base 9 1 v (X.length + 1) (X.flatMap encS ++ [.string s])) : w.ownsRow base 9 1 v (X ++ [s]).length ((X ++ [s]).flatMap encS) := by
  rw [flat_snoc, List.length_append]
  exact h

set_option maxRecDepth 100000 in
set_option maxHeartbeats 1000000 in
theorem rput_any (T : List ByteArray) (s : ByteArray) (hr : Rise T) (hl : T.length ≤ 100000) (v : Value) (w : World) (h : Sl w v encS T) :
    Calls Try.prog 96 #[v, .string s] w fun e w' => ∃ o, e = .returned o ∧ w'.ownsRow w.heap.size 9 1 o (putS T s).length ((putS T s).flatMap encS) ∧ Below w.heap.size w w' := by
  obtain ⟨i0, hi, hz0, hz1, hz2⟩ := info_parts s_info
  obtain ⟨b, off, p, cap, rfl, hp, hc⟩ := Sl.strs h
  have hfin := put_is hr s
  have hR : Hid (finP s (runP s T ⟨emptyB s, []⟩ T.length) = putS T s) := hfin
  clear hfin
  generalize putS T s = R at hR
  have he : (s.toList == []) = emptyB s := rfl
  go_enter Try.func96, Try.ntmps96
  go_wp2_with fail
  go_loopw [5, 6, 13] (fun o d i wr => ∃ k : Nat, k ≤ T.length ∧ i = .int .i64 k ∧ d = .bool (runP s T ⟨emptyB s, []⟩ k).done ∧ wr.ownsRow w.heap.size 9 1 o (runP s T ⟨emptyB s, []⟩ k).out.length ((runP s T ⟨emptyB s, []⟩ k).out.flatMap encS) ∧ Below w.heap.size w wr) (fun _ _ i _ => T.length - (intOf i).toNat)
  case atStart => exact ⟨0, Nat.zero_le _, rfl, rfl, World.ownsRow_nil _ _ _ _, Below.refl _ _⟩
  case round =>
    obtain ⟨k, hk, rfl, rfl, hown, hB⟩ := hrel
    have hw := hB.size
    have hlen := runP_len s T ⟨emptyB s, []⟩ k
    simp only [List.length_nil] at hlen
    by_cases hlt : k < T.length
    · obtain rfl := hp (by omega)
      have hlt2 : (k : Int) < T.length := by omega
      have c0 := hc k hlt
      have hg := World.block_lt_of_cell? _ _ c0
      have c2 := (hB.cell (p := ⟨b, off + k, none⟩) hg).trans c0
      have hgw := World.block_lt_of_cell? _ _ c2
      have hz : runP s T ⟨emptyB s, []⟩ (k + 1) = stepP s (runP s T ⟨emptyB s, []⟩ k) (T[k]'hlt) := by
        simp only [runP, List.getElem?_eq_getElem hlt]
      clear hc
      generalize T[k]'hlt = x at c0 c2 hz
      generalize runP s T ⟨emptyB s, []⟩ k = q at hown hlen hz ⊢
      obtain ⟨d, X⟩ := q
      simp only at hown hlen hz
      cases d
      · cases h1 : ltS x s
        · have h1' : Op.bytesLess x.toList s.toList = false := h1
          cases h2 : ltS s x
          · have hxs : s = x := by
              by_cases h : x = s
              · exact h.symm
              · have := ltS_total h1 h
                rw [h2] at this; cases this
            subst hxs
            have h3' : (s.toList == s.toList) = true := by simp
            have hS : Hid (runP s T ⟨emptyB s, []⟩ (k + 1) = ⟨true, X ++ [s]⟩) := by show _ = _; rw [hz]; simp [stepP, h1, h2]
            clear hz h1 h2
            go_wp2_with (at_builtin; refine wpList_append_own _ rfl _ _ 92 rfl w.heap.size 9 i0 (.string ⟨#[]⟩) 1 16 Try.underlying92 hi hz0 hz1 hz2 rfl (by decide) _ X.length (X.flatMap encS) rfl (hown.alloc _) _ 1 1 [.string s] rfl rfl (news_at rfl) (by intro u hu; simp at hu; subst hu; rfl) (by unfold maxLen; omega) (by omega) (by simp; omega) ?_; intro v2 w1 hown' hgrow _)
            have hlt1 := hown.lt
            have hB2 : Below w.heap.size w w1 := Below.grown (w := _) (hB.alloc hw _) hgrow (by simp; omega) (fun q hq => (hlt1 q hq).1)
            go_wp2_with fail
            go_roundw
            case rel => exact ⟨k + 1, by omega, by simp, by rw [hS], by rw [hS]; exact own_snocS hown', hB2⟩
            case measure => simp [intOf]; omega
          · have h2' : Op.bytesLess s.toList x.toList = true := h2
            have hS : Hid (runP s T ⟨emptyB s, []⟩ (k + 1) = ⟨true, (X ++ [s]) ++ [x]⟩) := by show _ = _; rw [hz]; simp [stepP, h1, h2]
            clear hz h1 h2
            go_wp2_with (at_builtin; first | (refine wpList_append_own _ rfl _ _ 92 rfl w.heap.size 9 i0 (.string ⟨#[]⟩) 1 16 Try.underlying92 hi hz0 hz1 hz2 rfl (by decide) _ (X ++ [s]).length ((X ++ [s]).flatMap encS) rfl (hown2.alloc _) _ 1 1 [.string x] rfl rfl (news_at rfl) (by intro u hu; simp at hu; subst hu; rfl) (by simp [maxLen]; omega) (by simp; omega) (by simp; omega) ?_; intro v3 w2 hown3 hgrow2 _) | (refine wpList_append_own _ rfl _ _ 92 rfl w.heap.size 9 i0 (.string ⟨#[]⟩) 1 16 Try.underlying92 hi hz0 hz1 hz2 rfl (by decide) _ X.length (X.flatMap encS) rfl (hown.alloc _) _ 1 1 [.string s] rfl rfl (news_at rfl) (by intro u hu; simp at hu; subst hu; rfl) (by unfold maxLen; omega) (by omega) (by simp; omega) ?_; intro v2 w1 hown' hgrow _; have hlt1 := hown.lt; have hown2 := own_snocS hown'; have hB2 : Below w.heap.size w w1 := Below.grown (w := _) (hB.alloc hw _) hgrow (by simp; omega) (fun q hq => (hlt1 q hq).1); have hw2 := hB2.size; have c3 := (hB2.cell (p := ⟨b, off + k, none⟩) hg).trans c0))
            have hlt2' := hown2.lt
            have hB3 : Below w.heap.size w w2 := Below.grown (w := _) (hB2.alloc hw2 _) hgrow2 (by simp; omega) (fun q hq => (hlt2' q hq).1)
            go_wp2_with fail
            go_roundw
            case rel => exact ⟨k + 1, by omega, by simp, by rw [hS], by rw [hS]; exact own_snocS hown3, hB3⟩
            case measure => simp [intOf]; omega
        · have h1' : Op.bytesLess s.toList x.toList = false := ltS_asymm h1
          have h3' : (s.toList == x.toList) = false := by
            rw [beq_eq_false_iff_ne]; intro h; have := toList_inj h; subst this; rw [ltS_irrefl] at h1; cases h1
          have hS : Hid (runP s T ⟨emptyB s, []⟩ (k + 1) = ⟨false, X ++ [x]⟩) := by show _ = _; rw [hz]; simp [stepP, h1]
          clear hz h1
          go_wp2_with (at_builtin; refine wpList_append_own _ rfl _ _ 92 rfl w.heap.size 9 i0 (.string ⟨#[]⟩) 1 16 Try.underlying92 hi hz0 hz1 hz2 rfl (by decide) _ X.length (X.flatMap encS) rfl (hown.alloc _) _ 1 1 [.string x] rfl rfl (news_at rfl) (by intro u hu; simp at hu; subst hu; rfl) (by unfold maxLen; omega) (by omega) (by simp; omega) ?_; intro v2 w1 hown' hgrow _)
          have hlt1 := hown.lt
          have hB2 : Below w.heap.size w w1 := Below.grown (w := _) (hB.alloc hw _) hgrow (by simp; omega) (fun q hq => (hlt1 q hq).1)
          go_wp2_with fail
          go_roundw
          case rel => exact ⟨k + 1, by omega, by simp, by rw [hS], by rw [hS]; exact own_snocS hown', hB2⟩
          case measure => simp [intOf]; omega
      · have hS : Hid (runP s T ⟨emptyB s, []⟩ (k + 1) = ⟨true, X ++ [x]⟩) := by show _ = _; rw [hz]; rfl
        clear hz
        go_wp2_with (at_builtin; refine wpList_append_own _ rfl _ _ 92 rfl w.heap.size 9 i0 (.string ⟨#[]⟩) 1 16 Try.underlying92 hi hz0 hz1 hz2 rfl (by decide) _ X.length (X.flatMap encS) rfl (hown.alloc _) _ 1 1 [.string x] rfl rfl (news_at rfl) (by intro u hu; simp at hu; subst hu; rfl) (by unfold maxLen; omega) (by omega) (by simp; omega) ?_; intro v2 w1 hown' hgrow _)
        have hlt1 := hown.lt
        have hB2 : Below w.heap.size w w1 := Below.grown (w := _) (hB.alloc hw _) hgrow (by simp; omega) (fun q hq => (hlt1 q hq).1)
        go_wp2_with fail
        go_roundw
        case rel => exact ⟨k + 1, by omega, by simp, by rw [hS], by rw [hS]; exact own_snocS hown', hB2⟩
        case measure => simp [intOf]; omega
    · have hks : k = T.length := by omega
      have hlt2 : ¬ (k : Int) < T.length := by omega
      subst hks
      clear hc
      generalize runP s T ⟨emptyB s, []⟩ T.length = q at hown hlen hR ⊢
      obtain ⟨d, X⟩ := q
      simp only at hown hlen
      cases d
      · go_wp2_with (at_builtin; refine wpList_append_own _ rfl _ _ 92 rfl w.heap.size 9 i0 (.string ⟨#[]⟩) 1 16 Try.underlying92 hi hz0 hz1 hz2 rfl (by decide) _ X.length (X.flatMap encS) rfl (hown.alloc _) _ 1 1 [.string s] rfl rfl (news_at rfl) (by intro u hu; simp at hu; subst hu; rfl) (by unfold maxLen; omega) (by omega) (by simp; omega) ?_; intro v2 w1 hown' hgrow _)
        have hlt1 := hown.lt
        have hB2 : Below w.heap.size w w1 := Below.grown (w := _) (hB.alloc hw _) hgrow (by simp; omega) (fun q hq => (hlt1 q hq).1)
        go_wp2_with fail
        refine bodyPost_ret (v := v2) (by simp only [results, Try.results96]; go_simp) rfl ⟨_, rfl, by rw [← hR]; exact own_snocS hown', hB2⟩
      · go_wp2_with fail
        refine bodyPost_ret (v := u5) (by simp only [results, Try.results96]; go_simp) rfl ⟨_, rfl, by rw [← hR]; exact hown, hB⟩

end Go.Proofs.Ytjjmoibnmdbpeaa.Pr

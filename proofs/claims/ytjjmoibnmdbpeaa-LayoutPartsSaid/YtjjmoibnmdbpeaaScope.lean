/- A SCOPE WITH ONE LABEL JUMPED BACK TO AND OTHERS JUMPED FORWARD TO: what holds at every jump back (J), a measure, and at most n jumps forward, walked on where they come. -/
import Derived.Test.YtjjmoibnmdbpeaaAfter
namespace Go.Proofs.Ytjjmoibnmdbpeaa
set_option linter.unusedVariables false
open Go

/-- By a goto to l0: J; to another label (n more such): what stands there is walked on; else Q. -/
def via (P : Program) (c : Code) (l0 : Nat) (J : Act → World → Prop) (Q : Exit → Act → World → Prop) : Nat → Exit → Act → World → Prop
  | 0 => Exit.jump l0 J Q
  | n + 1 => fun e a w => match e with
    | .goto l => (l = l0 ∧ J a w) ∨ ∃ rest, findLabel c l = some rest ∧ rest.wp P (via P c l0 J Q n) a w
    | e => Q e a w

section
variable {P : Program} {a : Act} {w : World} {Q : Exit → Act → World → Prop} {J : Act → World → Prop} {c : Code} {l0 : Nat}

theorem via_arrives {n : Nat} {d : Code} (hd : d.wp P (via P c l0 J Q n) a w) (b : Frame) (k : List Item) (cs : List Frame) :
    ∃ e a' w', Exit.jump l0 J Q e a' w' ∧ Arrives P (lone (b.at a (.code d :: .inScope c :: k)) cs w) b (.inScope c :: k) cs e a' w' := by
  induction n generalizing d a w with
  | zero => exact hd b (.inScope c :: k) cs
  | succ n ih =>
    obtain ⟨e, a₁, w₁, hq, harr⟩ := hd b (.inScope c :: k) cs
    cases e with
    | goto l' =>
      simp only [via] at hq
      rcases hq with ⟨rfl, hJ⟩ | ⟨rest, hf, hr⟩
      · exact ⟨.goto l', a₁, w₁, ⟨rfl, hJ⟩, harr⟩
      · have hg : gotoIn l' (.inScope c :: k) = some (.code rest :: .inScope c :: k) := by simp [gotoIn, hf]
        obtain ⟨e₂, a₂, w₂, hq₂, harr₂⟩ := ih hr
        exact ⟨e₂, a₂, w₂, hq₂, .of_steps (harr _ hg) harr₂⟩
    | normal => simp only [via] at hq; exact ⟨.normal, a₁, w₁, hq, harr⟩
    | exit id => simp only [via] at hq; exact ⟨.exit id, a₁, w₁, hq, harr⟩
    | ret => simp only [via] at hq; exact ⟨.ret, a₁, w₁, hq, harr⟩
    | panic ch => simp only [via] at hq; exact ⟨.panic ch, a₁, w₁, hq, harr⟩
    | outgrown => simp only [via] at hq; exact ⟨.outgrown, a₁, w₁, hq, harr⟩

theorem wp_scope_via {rest : Code} (l0 : Nat) (n : Nat) (J : Act → World → Prop) (μ : Act → World → Nat) (hf : findLabel c l0 = some rest)
    (first : c.wp P (via P c l0 J Q n) a w)
    (pass : ∀ a w, J a w → rest.wp P (via P c l0 (fun a' w' => J a' w' ∧ μ a' w' < μ a w) Q n) a w) : (Code.scope c).wp P Q a w := by
  intro b k cs
  have hg : gotoIn l0 (.inScope c :: k) = some (.code rest :: .inScope c :: k) := by simp [gotoIn, hf]
  have key : ∀ n a w, μ a w = n → J a w → ∃ e a' w', Q e a' w' ∧ Arrives P (lone (b.at a (.code rest :: .inScope c :: k)) cs w) b k cs e a' w' := by
    intro n
    induction n using Nat.strongRecOn with
    | _ n ih =>
      intro a w hn hJ
      obtain ⟨e, a₁, w₁, hq, harr⟩ := via_arrives (pass a w hJ) b k cs
      cases e with
      | normal => exact ⟨.normal, a₁, w₁, hq, Steps.trans harr (.one step_inScope)⟩
      | exit id => exact ⟨.exit id, a₁, w₁, hq, fun k' hk => harr k' (by simp [exitTo, hk])⟩
      | goto l' =>
        obtain ⟨rfl, hJ', hlt⟩ := hq
        obtain ⟨e₂, a₂, w₂, hq₂, harr₂⟩ := ih _ (by omega) a₁ w₁ rfl hJ'
        exact ⟨e₂, a₂, w₂, hq₂, .of_steps (harr _ hg) harr₂⟩
      | ret => exact ⟨_, a₁, w₁, hq, harr⟩
      | panic ch => exact ⟨_, a₁, w₁, hq, harr⟩
      | outgrown => exact ⟨_, a₁, w₁, hq, harr⟩
  obtain ⟨e, a₁, w₁, hq, harr⟩ := via_arrives first b k cs
  cases e with
  | normal => exact ⟨.normal, a₁, w₁, hq, .head step_scope (Steps.trans harr (.one step_inScope))⟩
  | exit id => exact ⟨.exit id, a₁, w₁, hq, fun k' hk => .head step_scope (harr k' (by simp [exitTo, hk]))⟩
  | goto l' =>
    obtain ⟨rfl, hJ'⟩ := hq
    obtain ⟨e₂, a₂, w₂, hq₂, harr₂⟩ := key _ a₁ w₁ rfl hJ'
    exact ⟨e₂, a₂, w₂, hq₂, .of_steps (.head step_scope (harr _ hg)) harr₂⟩
  | ret => exact ⟨_, a₁, w₁, hq, .of_steps (.one step_scope) harr⟩
  | panic ch => exact ⟨_, a₁, w₁, hq, .of_steps (.one step_scope) harr⟩
  | outgrown => exact ⟨_, a₁, w₁, hq, .of_steps (.one step_scope) harr⟩

theorem via_mono {J' : Act → World → Prop} (hJ : ∀ a w, J a w → J' a w) : ∀ (n : Nat) (e : Exit) (a : Act) (w : World), via P c l0 J Q n e a w → via P c l0 J' Q n e a w
  | 0, e, a, w, h => by
    cases e with
    | goto l => exact ⟨h.1, hJ _ _ h.2⟩
    | normal => exact h
    | exit id => exact h
    | ret => exact h
    | panic ch => exact h
    | outgrown => exact h
  | n + 1, e, a, w, h => by
    cases e with
    | goto l =>
      simp only [via] at h ⊢
      rcases h with ⟨h1, h2⟩ | ⟨rest, hf, hr⟩
      · exact .inl ⟨h1, hJ _ _ h2⟩
      · exact .inr ⟨rest, hf, Code.wp_mono (fun e a w h => via_mono hJ n e a w h) hr⟩
    | normal => simp only [via] at h ⊢; exact h
    | exit id => simp only [via] at h ⊢; exact h
    | ret => simp only [via] at h ⊢; exact h
    | panic ch => simp only [via] at h ⊢; exact h
    | outgrown => simp only [via] at h ⊢; exact h

/-- The same where the run also falls into the label from above. -/
theorem wp_scope_falls {rest : Code} (l0 : Nat) (n : Nat) (J : Act → World → Prop) (μ : Act → World → Nat) (hf : findLabel c l0 = some (Code.skip.seq rest))
    (pass : ∀ a w, J a w → rest.wp P (via P c l0 (fun a' w' => J a' w' ∧ μ a' w' < μ a w) Q n) a w)
    (first : (∀ a w, J a w → rest.wp P (via P c l0 J Q n) a w) → c.wp P (via P c l0 J Q n) a w) : (Code.scope c).wp P Q a w :=
  wp_scope_via l0 n J μ hf (first fun a w h => Code.wp_mono (fun e a w h => via_mono (fun _ _ h => h.1) n e a w h) (pass a w h)) fun a w h => wp_seq (wp_skip (pass a w h))

@[go_sem] theorem then_goto (K : Act → World → Prop) (l : Nat) : Exit.then K Q (.goto l) a w = Q (.goto l) a w := rfl
theorem then_ret (K : Act → World → Prop) : Exit.then K Q .ret a w = Q .ret a w := rfl
theorem block_ret (id : Nat) : Exit.inBlock id Q .ret a w = Q .ret a w := rfl
@[go_sem] theorem block_goto (id l : Nat) : Exit.inBlock id Q (.goto l) a w = Q (.goto l) a w := rfl
@[go_sem] theorem via_normal (n : Nat) : via P c l0 J Q n .normal a w = Q .normal a w := by cases n <;> rfl
@[go_sem] theorem via_ret (n : Nat) : via P c l0 J Q n .ret a w = Q .ret a w := by cases n <;> rfl
@[go_sem] theorem via_exit (n i : Nat) : via P c l0 J Q n (.exit i) a w = Q (.exit i) a w := by cases n <;> rfl
theorem via_back (n : Nat) (h : J a w) : via P c l0 J Q n (.goto l0) a w := by
  cases n with
  | zero => exact ⟨rfl, h⟩
  | succ n => simp only [via]; exact .inl ⟨trivial, h⟩
theorem via_fore {n l : Nat} {rest : Code} (hf : findLabel c l = some rest) (h : rest.wp P (via P c l0 J Q n) a w) : via P c l0 J Q (n + 1) (.goto l) a w := by
  simp only [via]; exact .inr ⟨rest, hf, h⟩
end

end Go.Proofs.Ytjjmoibnmdbpeaa

/- A scope in which the run jumps to labels a bounded number of times. No condition. -/
import Derived.WalkKit
import Derived.WalkMore
import Derived.ScopeJumps
namespace Go.Proofs.Ytnnlnffdbdpmbaa
open Go

/-- As Q; by a goto to a label: K of it. -/
def gotos (K : Nat → Act → World → Prop) (Q : Exit → Act → World → Prop) : Exit → Act → World → Prop
  | .goto l, a, w => K l a w
  | e, a, w => Q e a w

section
variable {P : Program} {Q : Exit → Act → World → Prop}
@[go_sem] theorem gotos_normal {K : Nat → Act → World → Prop} {a : Act} {w : World} : gotos K Q .normal a w = Q .normal a w := rfl
@[go_sem] theorem gotos_exit {K : Nat → Act → World → Prop} {a : Act} {w : World} (id : Nat) : gotos K Q (.exit id) a w = Q (.exit id) a w := rfl
@[go_sem] theorem gotos_ret {K : Nat → Act → World → Prop} {a : Act} {w : World} : gotos K Q .ret a w = Q .ret a w := rfl
@[go_sem] theorem gotos_panic {K : Nat → Act → World → Prop} {a : Act} {w : World} (ch : List PanicEntry) : gotos K Q (.panic ch) a w = Q (.panic ch) a w := rfl
theorem gotos_goto {K : Nat → Act → World → Prop} {a : Act} {w : World} (l : Nat) : gotos K Q (.goto l) a w = K l a w := rfl

/-- What is left of a scope's code 'c', with at most so many jumps more. -/
def wpScope (P : Program) (c : Code) (Q : Exit → Act → World → Prop) : Nat → Code → Act → World → Prop
  | 0, d, a, w => d.wp P (Exit.noGoto Q) a w
  | n + 1, d, a, w => d.wp P (gotos (fun l a w => ∃ rest, findLabel c l = some rest ∧ wpScope P c Q n rest a w) Q) a w

theorem wp_scope_n {c : Code} {a : Act} {w : World} (n : Nat) (h : wpScope P c Q n c a w) : (Code.scope c).wp P Q a w := by
  intro b k cs
  have key : ∀ n d a w, wpScope P c Q n d a w → ∃ e a' w', Q e a' w' ∧ Arrives P (lone (b.at a (.code d :: .inScope c :: k)) cs w) b k cs e a' w' := by
    intro n
    induction n with
    | zero =>
      intro d a w hn
      obtain ⟨e, a₁, w₁, hq, harr⟩ := hn b (.inScope c :: k) cs
      cases e with
      | normal => exact ⟨.normal, a₁, w₁, hq, Steps.trans harr (.one step_inScope)⟩
      | exit id => exact ⟨.exit id, a₁, w₁, hq, fun k' hk => harr k' (by simp [exitTo, hk])⟩
      | goto l' => exact hq.elim
      | ret => exact ⟨_, a₁, w₁, hq, harr⟩
      | panic ch => exact ⟨_, a₁, w₁, hq, harr⟩
      | outgrown => exact ⟨_, a₁, w₁, hq, harr⟩
    | succ n ih =>
      intro d a w hn
      obtain ⟨e, a₁, w₁, hq, harr⟩ := hn b (.inScope c :: k) cs
      cases e with
      | normal => exact ⟨.normal, a₁, w₁, hq, Steps.trans harr (.one step_inScope)⟩
      | exit id => exact ⟨.exit id, a₁, w₁, hq, fun k' hk => harr k' (by simp [exitTo, hk])⟩
      | goto l' =>
        obtain ⟨rest, hf, hr⟩ := hq
        obtain ⟨e₂, a₂, w₂, hq₂, harr₂⟩ := ih rest a₁ w₁ hr
        have hg : gotoIn l' (.inScope c :: k) = some (.code rest :: .inScope c :: k) := by simp [gotoIn, hf]
        exact ⟨e₂, a₂, w₂, hq₂, .of_steps (harr _ hg) harr₂⟩
      | ret => exact ⟨_, a₁, w₁, hq, harr⟩
      | panic ch => exact ⟨_, a₁, w₁, hq, harr⟩
      | outgrown => exact ⟨_, a₁, w₁, hq, harr⟩
  obtain ⟨e, a₁, w₁, hq, harr⟩ := key n c a w h
  exact ⟨e, a₁, w₁, hq, .of_steps (.one step_scope) harr⟩
end
end Go.Proofs.Ytnnlnffdbdpmbaa

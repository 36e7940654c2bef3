/- A region that draws its order, walked once in the order of the text, where its operations may also write: the class of worlds hangs on what has come up. No condition. -/
import Derived.WalkKit
import Derived.RegionTactic
import Derived.Still
import Derived.Deep.Draws
import Derived.KernelRfl
namespace Go.Proofs.YtghoggjllcbalaaDoor
open Go

section
variable {P : Program} {ops : Array Oper} {C : Array Bool → World → Prop} {md : Region.Mode}

/-- What one operation's run must come to: the value 'v' and a world that meets 'D'. -/
def StUpon (P : Program) (v : Value) (D : World → Prop) : Result Next → Prop
  | .ok (.value u) w' => u = v ∧ D w'
  | .ok .skip w' => v = undef ∧ D w'
  | .ok (.enter f args) w' => Calls P f args w' fun e w'' => e = .returned v ∧ D w''
  | _ => False

theorem StUpon.imp {v : Value} {D D' : World → Prop} (h : ∀ w, D w → D' w) {r : Result Next} (hh : StUpon P v D r) : StUpon P v D' r := by
  cases r with
  | halt x w => exact hh.elim
  | ok n w =>
    cases n <;> simp only [StUpon] at hh ⊢
    case value u => exact ⟨hh.1, h _ hh.2⟩
    case skip => exact ⟨hh.1, h _ hh.2⟩
    case enter f args => exact Calls.mono hh fun _ _ ⟨he, hw⟩ => ⟨he, h _ hw⟩

/-- The state of the region when operation 'i' comes up: the class, the operations that it waits for have come up, it has not. -/
structure StAt (C : Array Bool → World → Prop) (ops : Array Oper) (i : Nat) (o : Oper) (L : Array Bool) (w : World) : Prop where
  cls : C L w
  size : L.size = ops.size
  own : L.getD i true = false
  deps : ∀ e ∈ o.after, Region.binds .any e = true → L.getD e.on false = true
  closed : ∀ j oj, ops[j]? = some oj → L.getD j false = true → ∀ e ∈ oj.after, Region.binds .any e = true → L.getD e.on false = true

/-- Operation 'i' waits for 'j', by at most so many steps. -/
def waits (ops : Array Oper) : Nat → Nat → Nat → Bool
  | 0, _, _ => false
  | n + 1, i, j => match ops[i]? with
    | none => false
    | some o => o.after.any fun e => Region.binds .any e && (e.on == j || waits ops n e.on j)

theorem waits_closed {L : Array Bool} (hc : ∀ j oj, ops[j]? = some oj → L.getD j false = true → ∀ e ∈ oj.after, Region.binds .any e = true → L.getD e.on false = true) :
    ∀ (n i j : Nat) (o : Oper), ops[i]? = some o → (∀ e ∈ o.after, Region.binds .any e = true → L.getD e.on false = true) → waits ops n i j = true → L.getD j false = true
  | 0, _, _, _, _, _, h => by simp [waits] at h
  | n + 1, i, j, o, ho, hd, h => by
    simp only [waits, ho, Array.any_eq_true] at h
    obtain ⟨x, hx, h⟩ := h
    simp only [Bool.and_eq_true, Bool.or_eq_true, beq_iff_eq] at h
    obtain ⟨hb, h⟩ := h
    have hLe := hd _ (Array.getElem_mem hx) hb
    rcases h with h | h
    · rw [← h]; exact hLe
    · cases hoe : ops[o.after[x].on]? with
      | none => cases n <;> simp [waits, hoe] at h
      | some oe => exact waits_closed hc n _ j oe hoe (fun e he hb' => hc _ oe hoe hLe e he hb') h

theorem StAt.waits {i j n : Nat} {o : Oper} {L : Array Bool} {w : World} (h : StAt C ops i o L w) (ho : ops[i]? = some o) (hw : waits ops n i j = true) : L.getD j false = true :=
  waits_closed h.closed n i j o ho h.deps hw

theorem closed_set {L : Array Bool} {i : Nat} {o : Oper} (hc : ∀ j oj, ops[j]? = some oj → L.getD j false = true → ∀ e ∈ oj.after, Region.binds .any e = true → L.getD e.on false = true)
    (ho : ops[i]? = some o) (hd : ∀ e ∈ o.after, Region.binds .any e = true → L.getD e.on false = true) :
    ∀ j oj, ops[j]? = some oj → (L.setIfInBounds i true).getD j false = true → ∀ e ∈ oj.after, Region.binds .any e = true → (L.setIfInBounds i true).getD e.on false = true := by
  have mono : ∀ j, L.getD j false = true → (L.setIfInBounds i true).getD j false = true := by
    intro j h
    simp only [Array.getD_eq_getD_getElem?, Array.getElem?_setIfInBounds] at h ⊢
    split
    · rename_i e
      subst e
      split
      · rfl
      · rename_i h'
        simp [Array.getElem?_eq_none (Nat.ge_of_not_lt h')] at h
    · exact h
  intro j oj hj hL e he hb
  refine mono _ ?_
  by_cases hji : i = j
  · subst hji
    rw [ho] at hj
    injection hj with hj
    subst hj
    exact hd e he hb
  · refine hc j oj hj ?_ e he hb
    simp only [Array.getD_eq_getD_getElem?, Array.getElem?_setIfInBounds] at hL ⊢
    rwa [if_neg hji] at hL

/-- Operation 'i' yields 'v', whatever has come up, and the class goes on. -/
def StYields (P : Program) (C : Array Bool → World → Prop) (ops : Array Oper) (i : Nat) (o : Oper) (v : Value) (a : Act) : Prop :=
  ∀ L w, StAt C ops i o L w → if Region.wanted o (yielded ops a.tmps) then StUpon P v (C (L.setIfInBounds i true)) ((execOp a.eval o).run P w) else v = undef ∧ C (L.setIfInBounds i true) w

theorem StYields.of_same {i : Nat} {o : Oper} {v : Value} {a a' : Act} (hy : StYields P C ops i o v a) (he : execOp a'.eval o = execOp a.eval o)
    (hw : Region.wanted o (yielded ops a'.tmps) = Region.wanted o (yielded ops a.tmps)) : StYields P C ops i o v a' := by
  unfold StYields at *
  rw [he, hw]
  exact hy

/-- Whatever order is picked from here on. -/
def wpAnyT (P : Program) (C : Array Bool → World → Prop) (ops : Array Oper) (Q : Act → Prop) : Nat → Array Bool → Act → Prop
  | 0, L, a => Region.ready .any ops L = [] ∧ Q a
  | fuel + 1, L, a =>
    (Region.ready .any ops L = [] → Q a) ∧
    ∀ i ∈ Region.ready .any ops L, ∃ o v, ops[i]? = some o ∧ StYields P C ops i o v a ∧ wpAnyT P C ops Q fuel (L.setIfInBounds i true) (a.put o.dst v)

theorem wpAny_of_T {Q : Act → Prop} {Q' : Exit → Act → World → Prop} (hQ : ∀ a L w, C L w → Region.ready .any ops L = [] → L.size = ops.size → Q a → Q' .normal a w) :
    ∀ (fuel : Nat) (L : Array Bool) (a : Act) (w : World), C L w → L.size = ops.size →
      (∀ j oj, ops[j]? = some oj → L.getD j false = true → ∀ e ∈ oj.after, Region.binds .any e = true → L.getD e.on false = true) → wpAnyT P C ops Q fuel L a → wpAny P .any ops Q' fuel L a w
  | 0, L, a, w, hC, hs, _, h => ⟨h.1, hQ a L w hC h.1 hs h.2⟩
  | fuel + 1, L, a, w, hC, hs, hcl, h => by
    refine ⟨fun h0 => hQ a L w hC h0 hs (h.1 h0), fun i hi => ?_⟩
    obtain ⟨o, v, ho, hy, hn⟩ := h.2 i hi
    obtain ⟨hun, o', ho', hall⟩ := mem_ready.1 hi
    have heq : o' = o := by rw [ho] at ho'; injection ho' with h1; exact h1.symm
    subst heq
    have hcl' := closed_set hcl ho (fun e he hb => hall e he hb)
    have hst := hy L w ⟨hC, hs, hun, fun e he hb => hall e he hb, hcl⟩
    unfold wpOp
    simp only [ho]
    split
    · rename_i hw
      rw [if_pos hw] at hst
      refine .inl ?_
      unfold Oper.wp
      generalize (execOp a.eval o').run P w = r at *
      cases r with
      | halt x w' => exact hst.elim
      | ok n w' =>
        cases n <;> simp only [StUpon] at hst <;> simp only [Oper.upon]
        case value u =>
          obtain ⟨rfl, hD⟩ := hst
          exact wpAny_of_T hQ fuel _ _ _ hD (by simpa using hs) hcl' hn
        case skip =>
          obtain ⟨rfl, hD⟩ := hst
          exact wpAny_of_T hQ fuel _ _ _ hD (by simpa using hs) hcl' hn
        case enter f args =>
          refine Calls.mono hst fun e w'' ⟨he, hD⟩ => ?_
          subst he
          exact wpAny_of_T hQ fuel _ _ _ hD (by simpa using hs) hcl' hn
    · rename_i hw
      rw [if_neg hw] at hst
      obtain ⟨rfl, hD⟩ := hst
      exact wpAny_of_T hQ fuel _ _ _ hD (by simpa using hs) hcl' hn

theorem wpAnyT_first {Q : Act → Prop} {i : Nat} {oi : Oper} {v : Value} (hi : ops[i]? = some oi) (hsel : ∀ (j : Nat) (o : Oper) cs b, ops[j]? = some o → o.op ≠ .select cs b) :
    ∀ (fuel : Nat) (L : Array Bool) (a : Act),
      (∀ j oj, ops[j]? = some oj → j ≠ i → L.getD j true = false → (∀ e ∈ oj.after, Region.binds .any e = true → e.on ≠ i) → oi.apart ops oj = true) →
      i ∈ Region.ready .any ops L → StYields P C ops i oi v a →
      wpAnyT P C ops Q fuel (L.setIfInBounds i true) (a.put oi.dst v) → wpAnyT P C ops Q (fuel + 1) L a := by
  intro fuel
  induction fuel with
  | zero =>
    intro L a _ hr hy H
    refine ⟨fun h => (by rw [h] at hr; cases hr), fun j hj => ?_⟩
    by_cases hji : j = i
    · subst hji; exact ⟨oi, v, hi, hy, H⟩
    · have := ready_mono hj hji
      rw [H.1] at this
      cases this
  | succ fuel ih =>
    intro L a hfree hr hy H
    refine ⟨fun h => (by rw [h] at hr; cases hr), fun j hj => ?_⟩
    by_cases hji : j = i
    · subst hji; exact ⟨oi, v, hi, hy, H⟩
    · obtain ⟨oj, u, hoj, hyj, hn⟩ := H.2 j (ready_mono hj hji)
      obtain ⟨hjun, oj', hoj', hall⟩ := mem_ready.1 hj
      have heq : oj' = oj := by rw [hoj] at hoj'; injection hoj' with h1; exact h1.symm
      subst heq
      have hnot : ∀ e ∈ oj'.after, Region.binds .any e = true → e.on ≠ i := fun e he hb heq => by
        have h1 := hall e he hb
        have h0 := (mem_ready.1 hr).1
        rw [heq] at h1
        rcases Nat.lt_or_ge i L.size with h' | h'
        · simp [h'] at h0 h1; rw [h0] at h1; cases h1
        · simp [Array.getElem?_eq_none h'] at h1
      have hap := hfree j oj' hoj hji hjun hnot
      obtain ⟨h1, h2, h3⟩ := Oper.apart_spec hap
      have hsi : ∀ cs b, oi.op ≠ .select cs b := fun cs b => hsel i oi cs b hi
      have hsj : ∀ cs b, oj'.op ≠ .select cs b := fun cs b => hsel j oj' cs b hoj
      refine ⟨oj', u, hoj, hyj.of_same (execOp_put oj' hsj a oi.dst v h1).symm (wanted_put oj' a oi.dst v h1).symm, ?_⟩
      have hfree' : ∀ k ok, ops[k]? = some ok → k ≠ i → (L.setIfInBounds j true).getD k true = false →
          (∀ e ∈ ok.after, Region.binds .any e = true → e.on ≠ i) → oi.apart ops ok = true := fun k ok hk hki hun hno => by
        refine hfree k ok hk hki ?_ hno
        by_cases hjk : j = k
        · subst hjk; exact hjun
        · rw [getD_set_ne true hjk] at hun; exact hun
      refine ih (L.setIfInBounds j true) (a.put oj'.dst u) hfree' (ready_mono hr (Ne.symm hji))
        (hy.of_same (execOp_put oi hsi a oj'.dst u h3) (wanted_put oi a oj'.dst u h3)) ?_
      rw [Array.setIfInBounds_comm _ _ hji, ← Act.put_comm a v u h2]
      exact hn

/-- The walk in the order of the text. -/
def wpT (P : Program) (C : Array Bool → World → Prop) (ops : Array Oper) (Q : Act → Prop) : List Oper → Nat → Act → Prop
  | [], _, a => Q a
  | o :: rest, k, a => ∃ v, StYields P C ops k o v a ∧ wpT P C ops Q rest (k + 1) (a.put o.dst v)

theorem wpAnyT_lex {Q : Act → Prop} (hs : Region.noSelect ops = true) : ∀ (l : List Oper) (k : Nat) (L : Array Bool) (a : Act), (∀ j, l[j]? = ops[k + j]?) →
    Region.lexFrom .any ops l.length k L = true → wpT P C ops Q l k a → wpAnyT P C ops Q l.length L a
  | [], _, _, _, _, hB, h => ⟨by simpa [Region.lexFrom] using hB, h⟩
  | o :: l, k, L, a, hl, hB, h => by
    have h0 : ops[k]? = some o := by simpa using (hl 0).symm
    simp only [List.length_cons, Region.lexFrom, Bool.and_eq_true] at hB
    obtain ⟨⟨hr, hf⟩, hB'⟩ := hB
    obtain ⟨v, hy, hK⟩ := h
    exact wpAnyT_first h0 (Region.noSelect_spec hs) l.length L a (Region.free_spec h0 hf) (by simpa using hr) hy
      (wpAnyT_lex hs l (k + 1) _ _ (fun j => by have := hl (j + 1); simpa [Nat.add_assoc, Nat.add_comm 1 j] using this) hB' hK)

/-- The region, its operations written out. -/
theorem wp_region_T {id : Nat} {Q : Exit → Act → World → Prop} {a : Act} {w : World} {l : List Oper} (C : Array Bool → World → Prop) (hm : P.follows .mixedOrders = true) (hB : Region.lexB .any l.toArray = true)
    (hC : C (Array.replicate l.length false) w.drew)
    (h : wpT P C l.toArray (fun a' => ∀ L w', C L w' → Region.ready .any l.toArray L = [] → L.size = l.length → Q .normal a' w') l 0 a) : (Code.region id l.toArray true).wp P Q a w := by
  simp only [Region.lexB, Bool.and_eq_true] at hB
  refine wp_region_any hm (wpAny_of_T (C := C) (Q := fun a' => ∀ L w', C L w' → Region.ready .any l.toArray L = [] → L.size = l.length → Q .normal a' w')
    (fun a' L w' hc hr hs hq => hq L w' hc hr (by simpa using hs)) _ _ _ _ (by simpa using hC) (by simp) (fun j oj _ h => by simp [Array.getD_eq_getD_getElem?, Array.getElem?_replicate] at h; split at h <;> simp at h) ?_)
  have := wpAnyT_lex (C := C) hB.1 l 0 (Array.replicate l.toArray.size false) a (by simp) (by simpa using hB.2) h
  simpa using this

/-- A class that does not look at what has come up. -/
theorem wp_region_D {id : Nat} {Q : Exit → Act → World → Prop} {a : Act} {w : World} {l : List Oper} (D : World → Prop) (hm : P.follows .mixedOrders = true) (hB : Region.lexB .any l.toArray = true)
    (hC : D w.drew)
    (h : wpT P (fun _ => D) l.toArray (fun a' => ∀ w', D w' → Q .normal a' w') l 0 a) : (Code.region id l.toArray true).wp P Q a w := by
  refine wp_region_T (fun _ => D) hm hB hC ?_
  have mono : ∀ (l' : List Oper) (k : Nat) (a : Act), wpT P (fun _ => D) l.toArray (fun a' => ∀ w', D w' → Q .normal a' w') l' k a →
      wpT P (fun _ => D) l.toArray (fun a' => ∀ (L : Array Bool) w', D w' → Region.ready .any l.toArray L = [] → L.size = l.length → Q .normal a' w') l' k a := by
    intro l'
    induction l' with
    | nil => exact fun _ _ hh _ w' hw _ _ => hh w' hw
    | cons o l' ih => exact fun k a ⟨v, hy, hn⟩ => ⟨v, hy, ih _ _ hn⟩
  exact mono l 0 a h

theorem wpT_nil {Q : Act → Prop} {a : Act} {k : Nat} (h : Q a) : wpT P C ops Q [] k a := h
/-- One operation at a time, what follows behind a variable. -/
theorem wpT_step {Q : Act → Prop} {a : Act} {o : Oper} {k : Nat} {rest : List Oper} (v : Value) (hy : StYields P C ops k o v a)
    (h : wpT P C ops Q rest (k + 1) (a.put o.dst v)) : wpT P C ops Q (o :: rest) k a := ⟨v, hy, h⟩

end
end Go.Proofs.YtghoggjllcbalaaDoor

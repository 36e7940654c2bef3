/- A region that draws its order, some of whose operations, in one forced order, turn the world from class to class. No condition. -/
import Derived.Test.YtojleleohhaigaaDoorCfGa
namespace Go.Proofs.YtojleleohhaigaaDoor
open Go

/-- How many of these have come up. -/
def cnt (E : List Nat) (L : Array Bool) : Nat := (E.filter fun e => L.getD e false).length
theorem cnt_true {E : List Nat} {L : Array Bool} (h : ∀ e ∈ E, L.getD e false = true) : cnt E L = E.length := by
  unfold cnt
  rw [List.filter_eq_self.2 h]
theorem cnt_false {E : List Nat} {L : Array Bool} (h : ∀ e ∈ E, L.getD e false = false) : cnt E L = 0 := by
  unfold cnt
  rw [List.filter_eq_nil_iff.2 (fun e he => by rw [h e he]; simp)]
  rfl
theorem cnt_app (E F : List Nat) (L : Array Bool) : cnt (E ++ F) L = cnt E L + cnt F L := by simp [cnt]
theorem getD_set_ne {L : Array Bool} {i e : Nat} (h : e ≠ i) : (L.setIfInBounds i true).getD e false = L.getD e false := by
  simp only [Array.getD_eq_getD_getElem?, Array.getElem?_setIfInBounds, if_neg (Ne.symm h)]
theorem cnt_set {E : List Nat} {L : Array Bool} {i : Nat} (h : i ∉ E) : cnt E (L.setIfInBounds i true) = cnt E L := by
  unfold cnt
  congr 1
  refine List.filter_congr fun e he => ?_
  rw [getD_set_ne (fun hh => h (by rw [← hh]; exact he))]

/-- The class, by how many effects have come up. -/
def CE (E : List Nat) (D : Nat → World → Prop) (L : Array Bool) (w : World) : Prop := D (cnt E L) w

section
variable {P : Program} {ops : Array Oper} {E : List Nat} {D : Nat → World → Prop}
theorem stE_pure {i : Nat} {o : Oper} {v : Value} {a : Act} (hi : i ∉ E) (hw : Region.wanted o (yielded ops a.tmps) = true) (h : ∀ k w, D k w → (execOp a.eval o).run P w = .ok (.value v) w) : StYields P (CE E D) ops i o v a := by
  intro L w hs
  have hc : D (cnt E L) w := hs.cls
  rw [if_pos hw, h _ w hc]
  refine ⟨rfl, ?_⟩
  show D (cnt E (L.setIfInBounds i true)) w
  rw [cnt_set hi]
  exact hc
theorem stE_eff {i n : Nat} {o : Oper} {v : Value} {a : Act} (E1 E2 : List Nat) (hE : E = E1 ++ i :: E2) (ho : ops[i]? = some o) (h1 : E1.all (fun e => waits ops n i e) = true) (h2 : E2.all (fun e => waits ops n e i) = true) (hn1 : i ∉ E1) (hn2 : i ∉ E2)
    (hw : Region.wanted o (yielded ops a.tmps) = true) (h : ∀ w, D E1.length w → StUpon P v (D (E1.length + 1)) ((execOp a.eval o).run P w)) : StYields P (CE E D) ops i o v a := by
  intro L w hs
  have hown := hs.own
  have hlt : i < L.size := by
    rcases Nat.lt_or_ge i L.size with h | h
    · exact h
    · simp [Array.getD_eq_getD_getElem?, Array.getElem?_eq_none h] at hown
  have hiF : L.getD i false = false := by
    simp only [Array.getD_eq_getD_getElem?, Array.getElem?_eq_getElem hlt, Option.getD_some] at hown ⊢
    exact hown
  have hiT : (L.setIfInBounds i true).getD i false = true := by
    simp [Array.getD_eq_getD_getElem?, hlt]
  have a1 : ∀ e ∈ E1, L.getD e false = true := fun e he => hs.waits ho (List.all_eq_true.1 h1 e he)
  have a2 : ∀ e ∈ E2, L.getD e false = false := by
    intro e he
    cases hL : L.getD e false with
    | false => rfl
    | true =>
      have hwe := List.all_eq_true.1 h2 e he
      cases hoe : ops[e]? with
      | none => cases n <;> simp [waits, hoe] at hwe
      | some oe =>
        have := waits_closed hs.closed n e i oe hoe (fun x hx hb => hs.closed e oe hoe hL x hx hb) hwe
        rw [hiF] at this
        cases this
  have c0 : cnt E L = E1.length := by
    rw [hE, cnt_app, cnt_true a1, cnt_false (fun e he => by rcases List.mem_cons.1 he with rfl | he; exact hiF; exact a2 e he)]
    rfl
  have c1 : cnt E (L.setIfInBounds i true) = E1.length + 1 := by
    have : cnt (i :: E2) (L.setIfInBounds i true) = 1 := by
      show cnt ([i] ++ E2) _ = 1
      rw [cnt_app, cnt_true (fun e he => by rw [List.mem_singleton.1 he]; exact hiT), cnt_false (fun e he => by rw [getD_set_ne (fun hh => hn2 (by rw [← hh]; exact he))]; exact a2 e he)]
      rfl
    rw [hE, cnt_app, this, cnt_true (fun e he => by rw [getD_set_ne (fun hh => hn1 (by rw [← hh]; exact he))]; exact a1 e he)]
  have hc : D E1.length w := by
    have := hs.cls
    unfold CE at this
    rwa [c0] at this
  rw [if_pos hw]
  refine StUpon.imp (fun w' hD => ?_) (h w hc)
  show D (cnt E (L.setIfInBounds i true)) w'
  rw [c1]
  exact hD

theorem wp_region_E {id : Nat} {Q : Exit → Act → World → Prop} {a : Act} {w : World} {l : List Oper} (E : List Nat) (D : Nat → World → Prop) (hm : P.follows .mixedOrders = true) (hB : Region.lexB .any l.toArray = true) (hE : (E.all fun e => e < l.length) = true) (hX : lexOk l = true)
    (hC : D 0 w.drew) (h : wpT P (CE E D) l.toArray (fun a' => ∀ w', D E.length w' → Q .normal a' w') l 0 a) : (Code.region id l.toArray true).wp P Q a w := by
  refine wp_region_T (CE E D) hm hB ?_ ?_
  · show D (cnt E _) w.drew
    rw [cnt_false]
    · exact hC
    · intro e _
      simp [Array.getD_eq_getD_getElem?, Array.getElem?_replicate]
      split <;> simp
  · have mono : ∀ (l' : List Oper) (k : Nat) (a : Act), wpT P (CE E D) l.toArray (fun a' => ∀ w', D E.length w' → Q .normal a' w') l' k a →
        wpT P (CE E D) l.toArray (fun a' => ∀ (L : Array Bool) w', CE E D L w' → Region.ready .any l.toArray L = [] → L.size = l.length → Q .normal a' w') l' k a := by
      intro l'
      induction l' with
      | nil =>
        intro k a hh L w' hw hr hs
        refine hh w' ?_
        have hall := all_of_ready (lex_of hX) (by simpa using hs) hr
        have hc : D (cnt E L) w' := hw
        rw [cnt_true (fun e he => hall e (by have := List.all_eq_true.1 hE e he; simpa using this))] at hc
        exact hc
      | cons o l' ih => exact fun k a ⟨v, hy, hn⟩ => ⟨v, hy, ih _ _ hn⟩
    exact mono l 0 a h
end
end Go.Proofs.YtojleleohhaigaaDoor

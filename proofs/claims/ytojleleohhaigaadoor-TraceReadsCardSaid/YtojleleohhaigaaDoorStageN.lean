/- A region that draws its order and makes one new variable of what calls answer. No condition. -/
import Derived.Test.YtojleleohhaigaaDoorStageI
import Derived.Test.YtojleleohhaigaaDoorCfGa
namespace Go.Proofs.YtojleleohhaigaaDoor
open Go Go.RowKit

/-- What the operations' slots hold. -/
def readF (a : Act) (l : List Oper) (i : Nat) : Value := match l[i]? with
  | some o => match o.dst with
    | some d => a.tmps.getD d undef
    | none => undef
  | none => undef

section
variable {P : Program} {Q : Exit → Act → World → Prop}
theorem wp_region_keeps {id : Nat} {a : Act} {w : World} {l : List Oper} (I : Array Bool → Act → World → Prop) (hm : P.follows .mixedOrders = true) (hX : lexOk l = true) (hg : ∀ o ∈ l, o.guard = none)
    (hK : ∀ i o L a w, UpAt l i o L → I L a w → o.wp P a w (fun a' w' => I (L.setIfInBounds i true) a' w') Q)
    (h0 : I (Array.replicate l.length false) a w.drew) (hend : ∀ L a w, I L a w → (∀ i, i < l.length → L.getD i false = true) → Q .normal a w) :
    (Code.region id l.toArray true).wp P Q a w :=
  wp_region_any hm (wpAny_of_keeps hX hg hK hend _ _ _ _ (by simpa using h0) (by simp) (fun j oj _ h => by simp [Array.getD_eq_getD_getElem?, Array.getElem?_replicate] at h; split at h <;> simp at h) (by simp))

/-- What stands while the variable is made. -/
structure NewI (a : Act) (l : List Oper) (n : Nat) (T : TypeId) (zero cs : Array Value) (vs : Nat → Value) (w0 : World) (L : Array Bool) (f : Nat → Value) (w : World) : Prop where
  vals : ∀ i, i < n → L.getD i false = true → f i = vs i
  cell : L.getD n false = true → ∃ b, f n = .pointer (some ⟨b, 0, none⟩) ∧ w0.heap.size ≤ b ∧ Blk w b T (if L.getD (n + 1) false then cs else zero)
  last : L.getD (n + 1) false = true → L.getD n false = true
  only : Only [] w0 w

theorem wp_region_new {id : Nat} {a : Act} {w : World} {l : List Oper} (n : Nat) (T : TypeId) (zero cs : Array Value) (vs : Nat → Value)
    (hm : P.follows .mixedOrders = true) (hlen : l.length = n + 2) (hX : lexOk l = true) (hg : ∀ o ∈ l, o.guard = none)
    (u : Nat → Value) (ha : a = mkF a (l.take (n + 1)) 0 u)
    (hput : ∀ i o, i < n + 1 → l[i]? = some o → ∀ f v, (mkF a (l.take (n + 1)) 0 f).put o.dst v = mkF a (l.take (n + 1)) 0 (fun j => if j = i then v else f j))
    (hhead : ∀ i o, i < n → l[i]? = some o → ∀ f w', (∀ e ∈ o.after, Region.binds .any e = true → f e.on = vs e.on) → Only [] w w' →
      o.wp P (mkF a (l.take (n + 1)) 0 f) w' (fun a'' w'' => a'' = (mkF a (l.take (n + 1)) 0 f).put o.dst (vs i) ∧ Only [] w' w'') Q)
    (halloc : ∀ o, l[n]? = some o → ∀ f w', (execOp (mkF a (l.take (n + 1)) 0 f).eval o).run P w' = .ok (.value (.pointer (some ⟨w'.heap.size, 0, none⟩))) (w'.alloc (.cells zero T)))
    (hstore : ∀ o, l[n + 1]? = some o → (o.dst = none ∧ ∀ i, i < n + 1 → ∃ e ∈ o.after, Region.binds .any e = true ∧ e.on = i) ∧ ∀ f b w', (∀ i, i < n → f i = vs i) → f n = .pointer (some ⟨b, 0, none⟩) → Blk w' b T zero →
      ∃ w'', (execOp (mkF a (l.take (n + 1)) 0 f).eval o).run P w' = .ok .skip w'' ∧ Blk w'' b T cs ∧ Only [b] w' w'')
    (hend : ∀ f b w', (∀ i, i < n → f i = vs i) → f n = .pointer (some ⟨b, 0, none⟩) → w.heap.size ≤ b → Blk w' b T cs → Only [] w w' → Q .normal (mkF a (l.take (n + 1)) 0 f) w') :
    (Code.region id l.toArray true).wp P Q a w := by
  refine wp_region_keeps (fun L a' w' => ∃ f, a' = mkF a (l.take (n + 1)) 0 f ∧ NewI a l n T zero cs vs w L f w') hm hX hg ?_ ⟨u, ha, ?_⟩ ?_
  · rintro i o L a' w' hU ⟨f, rfl, hI⟩
    have hi := hU.lt
    have hset : ∀ j, (L.setIfInBounds i true).getD j false = if j = i then true else L.getD j false := by
      intro j
      simp only [Array.getD_eq_getD_getElem?, Array.getElem?_setIfInBounds]
      by_cases hij : i = j
      · subst hij; simp [hU.size, hi]
      · rw [if_neg hij, if_neg (Ne.symm hij)]
    by_cases h1 : i < n
    · have hdeps : ∀ e ∈ o.after, Region.binds .any e = true → f e.on = vs e.on := fun e he hb => by
        have hlt := lex_of hX i o (by simpa using hU.at_) e he hb
        exact hI.vals _ (by omega) (hU.deps e he hb)
      refine Oper.wp_mono ?_ (hhead i o h1 hU.at_ f w' hdeps hI.only)
      rintro a'' w'' ⟨rfl, hO⟩
      refine ⟨_, hput i o (by omega) hU.at_ f _, ?_, ?_, ?_, hI.only.trans hO⟩
      · intro j hj hL
        by_cases hji : j = i
        · simp [hji]
        · simp only [hset, if_neg hji] at hL ⊢
          exact hI.vals j hj hL
      · intro hL
        simp only [hset, if_neg (show ¬ n = i by omega), if_neg (show ¬ n + 1 = i by omega)] at hL ⊢
        obtain ⟨b, hb1, hb2, hb3⟩ := hI.cell hL
        exact ⟨b, hb1, hb2, hO.blk hb3 (by simp)⟩
      · intro hL
        simp only [hset, if_neg (show ¬ n = i by omega), if_neg (show ¬ n + 1 = i by omega)] at hL ⊢
        exact hI.last hL
    by_cases h2 : i = n
    · subst h2
      have hr := halloc o hU.at_ f w'
      have h3 : L.getD (i + 1) false = false := by
        cases hv : L.getD (i + 1) false with
        | false => rfl
        | true =>
          have := hI.last hv
          rw [hU.own] at this
          cases this
      unfold Oper.wp
      rw [hr]
      refine ⟨_, hput i o (by omega) hU.at_ f _, ?_, ?_, ?_, hI.only.alloc _⟩
      · intro j hj hL
        simp only [hset, if_neg (show ¬ j = i by omega)] at hL ⊢
        exact hI.vals j hj hL
      · intro hL
        refine ⟨w'.heap.size, by simp, hI.only.size, ?_⟩
        simp only [hset, if_neg (show ¬ i + 1 = i by omega), h3]
        exact Blk.new' rfl rfl
      · intro hL
        simp only [hset, if_true]
    · obtain rfl : i = n + 1 := by omega
      obtain ⟨⟨hdst, hdp⟩, hst⟩ := hstore o hU.at_
      have hdone : ∀ j, j < n + 1 → L.getD j false = true := fun j hj => by
        obtain ⟨e, he, hb, ho⟩ := hdp j hj
        have := hU.deps e he hb
        rwa [ho] at this
      obtain ⟨b, hb1, hb2, hb3⟩ := hI.cell (hdone n (by omega))
      rw [hU.own] at hb3
      simp only [Bool.false_eq_true, if_false] at hb3
      obtain ⟨w'', hr, hB, hO⟩ := hst f b w' (fun j hj => hI.vals j hj (hdone j (by omega))) hb1 hb3
      unfold Oper.wp
      rw [hr]
      refine ⟨f, by rw [hdst]; rfl, ?_, ?_, ?_, hI.only.trans' hO (by intro x hx; simp only [List.mem_cons, List.not_mem_nil, or_false] at hx; intro h; omega)⟩
      · intro j hj hL
        exact hI.vals j hj (hdone j (by omega))
      · intro hL
        refine ⟨b, hb1, hb2, ?_⟩
        simp only [hset, if_true]
        exact hB
      · intro hL
        simp only [hset, if_neg (show ¬ n = n + 1 by omega)]
        exact hdone n (by omega)
  · refine ⟨?_, ?_, ?_, (Only.refl [] w).drew⟩
    all_goals
      intros
      rename_i hL
      simp only [Array.getD_eq_getD_getElem?, Array.getElem?_replicate] at hL
      split at hL <;> simp at hL
  · rintro L a' w' ⟨f, rfl, hI⟩ hall
    obtain ⟨b, hb1, hb2, hb3⟩ := hI.cell (hall n (by omega))
    rw [hall (n + 1) (by omega)] at hb3
    exact hend f b w' (fun i hi => hI.vals i hi (hall i (by omega))) hb1 hb2 hb3 hI.only
end
end Go.Proofs.YtojleleohhaigaaDoor

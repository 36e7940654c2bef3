/- A region that draws its order, in a round of a range over a function. No condition. -/
import Derived.Test.YtojleleohhaigaaDoorStageE
import Derived.OrdersIn
import Derived.TacticsIn
namespace Go.Proofs.YtojleleohhaigaaDoor
open Go

section
variable {P : Program} {Q : Exit → Act → World → Prop}
/-- No operation is a defer statement. -/
def noDefer (l : List Oper) : Bool := l.all fun o => match o.op with | .defer _ => false | _ => true
theorem noDefer_of {l : List Oper} (h : noDefer l = true) {o : Oper} (ho : o ∈ l) : ∀ c, o.op ≠ .defer c := by
  intro c e
  have := List.all_eq_true.1 h o ho
  rw [e] at this
  cases this
theorem rows_in {lr m : Nat} {row : String} {args : Array Value} {w : World} {R : Value → World → Prop} (h : Rows P row args w R) : RowsIn (Fence.wide.inRound lr) m P row args w R := by
  intro c cs _
  obtain ⟨v, w', hr, hs⟩ := h c cs
  exact ⟨v, w', hr, stepsIn_wide.2 hs⟩
theorem oper_in {lr m : Nat} {o : Oper} {a : Act} {w : World} {K : Act → World → Prop} (hnd : ∀ c, o.op ≠ .defer c) (h : o.wp P a w K Q) : o.wpIn (Fence.wide.inRound lr) m P a w K Q := by
  refine ⟨fun _ _ => trivial, ?_⟩
  have e : o.semAt (Fence.wide.inRound lr).round a.eval = execOp a.eval o := Oper.semAt_some lr _ _ hnd
  rw [e]
  unfold Oper.wp at h
  revert h
  generalize (execOp a.eval o).run P w = r
  intro h
  cases r with
  | halt x w' => cases x <;> first | exact h | exact h.elim
  | ok nx w' =>
    cases nx with
    | value v => exact h
    | skip => exact h
    | defer d => exact h
    | enter f args =>
      refine ⟨(fun hh => by cases hh), ?_⟩
      have := (callsIn_wide (n := m - 1)).2 h
      exact this
    | row row args => exact ⟨(fun hh => by cases hh), rows_in h⟩
    | _ => exact h.elim
theorem wpAny_in {lr m : Nat} {md : Region.Mode} {ops : Array Oper} (hno : ¬ LetsOut Q) (hnd : ∀ o ∈ ops, ∀ c, o.op ≠ .defer c) : ∀ (fuel : Nat) (L : Array Bool) (a : Act) (w : World), wpAny P md ops Q fuel L a w → wpAnyIn (Fence.wide.inRound lr) m P md ops Q fuel L a w
  | 0, L, a, w, h => h
  | fuel + 1, L, a, w, h => by
    refine ⟨h.1, fun i hi => ?_⟩
    have h2 := h.2 i hi
    unfold wpOp at h2
    unfold wpOpIn
    split
    · rename_i hn
      rw [hn] at h2
      exact wpAny_in hno hnd fuel _ _ _ h2
    · rename_i o ho
      rw [ho] at h2
      have hm : o ∈ ops := Array.mem_of_getElem? ho
      simp only at h2 ⊢
      split
      · rename_i hw
        rw [if_pos hw] at h2
        rcases h2 with h2 | h2
        · exact oper_in (hnd o hm) (Oper.wp_mono (fun a w hh => wpAny_in hno hnd fuel _ a w hh) h2)
        · exact absurd h2.2 hno
      · rename_i hw
        rw [if_neg hw] at h2
        exact ⟨fun _ _ => trivial, wpAny_in hno hnd fuel _ _ _ h2⟩
end
section
variable {P : Program} {Q : Exit → Act → World → Prop} {a : Act} {w : World} {o0 : Oper} {l : List Oper}
theorem wpIn_region_PT (lr m : Nat) (hno : ¬ LetsOut Q) (hnd : noDefer (o0 :: l) = true) {id : Nat} (n : Nat) (v0 : Value) (D : World → Prop) (hm : P.follows .mixedOrders = true) (hB : preTailB (o0 :: l).toArray (n + 1) = true)
    (hQ : ∀ c a w, Q (.panic c) (a.put o0.dst v0) w → Q (.panic c) a w) (h0 : Yields P (o0 :: l).toArray o0 v0 a)
    (hC : D w.drew) (h : wpT P (fun _ => D) (o0 :: l).toArray (fun a' => ∀ w', D w' → wpList P (o0 :: l).toArray Q (l.drop n) a' w') (l.take n) 1 (a.put o0.dst v0)) : (Code.region id (o0 :: l).toArray true).wpIn (Fence.wide.inRound lr) m P Q a w := by
  simp only [preTailB, Bool.and_eq_true, decide_eq_true_eq] at hB
  obtain ⟨⟨⟨⟨⟨⟨⟨hsel, -⟩, hn⟩, hs⟩, hc⟩, hr0⟩, hf0⟩, hlex⟩ := hB
  have hsz : (o0 :: l).toArray.size = l.length + 1 := by simp
  have hn' : n < l.length := by rw [hsz] at hn; omega
  have htl : (l.take n).length = n := by simp; omega
  have hdl : (l.drop n).length = (o0 :: l).toArray.size - (n + 1) := by simp
  have hr0' : 0 ∈ Region.ready .any (o0 :: l).toArray (Array.replicate (o0 :: l).toArray.size false) := by simpa using hr0
  have inv0 : HeadInv .any (o0 :: l).toArray (n + 1) (Array.replicate (o0 :: l).toArray.size false) :=
    ⟨by simp, fun j oj _ hl => (by rw [getD_replicate_false] at hl; cases hl), fun t _ ht => getD_in (by simpa using ht) (getD_replicate_false _ _)⟩
  have inv1 : PreInv (o0 :: l).toArray 1 (n + 1) ((Array.replicate (o0 :: l).toArray.size false).setIfInBounds 0 true) :=
    ⟨inv0.set hr0' (by omega), fun i hi => by
      obtain rfl : i = 0 := by omega
      simp [Array.getD_eq_getD_getElem?]⟩
  have H := wpAnyTL_lex (P := P) (C := fun _ => D) (g := (o0 :: l).toArray.size - (n + 1)) hsel (I := PreInv (o0 :: l).toArray 1 (n + 1)) (fun _ _ inv hi hin => inv.set hi hin) (fun _ i inv hin hun t ht => pre_waits hs hc hn inv _ i rfl hin hun t ht) (l.take n) 1 _ (a.put o0.dst v0) (fun j hj => by
    have hj' : j < n := by rw [htl] at hj; exact hj
    simp [hj', Nat.add_comm 1 j]) (by rw [htl]; omega) inv1 (by rw [htl]; exact hlex) h
  refine wpIn_region_any hm (wpAny_in hno (fun o ho => noDefer_of hnd (by simpa using ho)) _ _ _ _ ?_)
  have key := wpAny_of_TL (Q' := Q) (g := (o0 :: l).toArray.size - (n + 1)) (fun L a' w' hL hD => by
    have := wpAny_of_seq (md := .any) (Q' := Q) (l.drop n) (n + 1) L a' w' (fun j => by simp [List.getElem?_drop, Nat.add_right_comm n 1 j]) (by rw [hdl]; exact hL.1) (hL.2 w' hD)
    rwa [hdl] at this) _ _ _ w.drew hC (by simp) inv1.closed H
  rw [htl] at key
  have hfin := wpAny_first (P := P) (md := .any) (Q := Q) (i := 0) (oi := o0) (v := v0) (ops := (o0 :: l).toArray) rfl (Region.noSelect_spec hsel) hQ _ (Array.replicate (o0 :: l).toArray.size false) a w.drew (Region.free_spec rfl hf0) hr0' h0 key
  rw [show n + ((o0 :: l).toArray.size - (n + 1)) + 1 = (o0 :: l).toArray.size by omega] at hfin
  exact hfin
end

section
variable {P : Program} {Q : Exit → Act → World → Prop}
/-- What stands when operation i comes up. -/
structure UpAt (l : List Oper) (i : Nat) (o : Oper) (L : Array Bool) : Prop where
  at_ : l[i]? = some o
  size : L.size = l.length
  own : L.getD i false = false
  deps : ∀ e ∈ o.after, Region.binds .any e = true → L.getD e.on false = true
  closed : ∀ (j : Nat) oj, l[j]? = some oj → L.getD j false = true → ∀ e ∈ oj.after, Region.binds .any e = true → L.getD e.on false = true

theorem UpAt.cnt {l : List Oper} {i n : Nat} {o : Oper} {L : Array Bool} (h : UpAt l i o L) (E1 E2 : List Nat) (h1 : E1.all (fun e => waits l.toArray n i e) = true) (h2 : E2.all (fun e => waits l.toArray n e i) = true) (hn1 : i ∉ E1) (hn2 : i ∉ E2) :
    Go.Proofs.YtojleleohhaigaaDoor.cnt (E1 ++ i :: E2) L = E1.length ∧ Go.Proofs.YtojleleohhaigaaDoor.cnt (E1 ++ i :: E2) (L.setIfInBounds i true) = E1.length + 1 := by
  have hi : i < l.length := by
    rcases Nat.lt_or_ge i l.length with h' | h'
    · exact h'
    · have := h.at_; rw [List.getElem?_eq_none h'] at this; cases this
  have hcl : ∀ (j : Nat) oj, l.toArray[j]? = some oj → L.getD j false = true → ∀ e ∈ oj.after, Region.binds .any e = true → L.getD e.on false = true := fun j oj hj => h.closed j oj (by simpa using hj)
  have hiT : (L.setIfInBounds i true).getD i false = true := by
    simp [Array.getD_eq_getD_getElem?, h.size, hi]
  have a1 : ∀ e ∈ E1, L.getD e false = true := fun e he => waits_closed hcl n i e o (by simpa using h.at_) h.deps (List.all_eq_true.1 h1 e he)
  have a2 : ∀ e ∈ E2, L.getD e false = false := by
    intro e he
    cases hL : L.getD e false with
    | false => rfl
    | true =>
      have hwe := List.all_eq_true.1 h2 e he
      cases hoe : l.toArray[e]? with
      | none => cases n <;> simp only [waits, hoe, Bool.false_eq_true] at hwe
      | some oe =>
        have := waits_closed hcl n e i oe hoe (fun x hx hb => hcl e oe hoe hL x hx hb) hwe
        rw [h.own] at this
        cases this
  constructor
  · rw [cnt_app, cnt_true a1, cnt_false (fun e he => by rcases List.mem_cons.1 he with rfl | he; exact h.own; exact a2 e he)]
    rfl
  · have : Go.Proofs.YtojleleohhaigaaDoor.cnt (i :: E2) (L.setIfInBounds i true) = 1 := by
      show Go.Proofs.YtojleleohhaigaaDoor.cnt ([i] ++ E2) _ = 1
      rw [cnt_app, cnt_true (fun e he => by rw [List.mem_singleton.1 he]; exact hiT), cnt_false (fun e he => by rw [getD_set_ne (fun hh => hn2 (by rw [← hh]; exact he))]; exact a2 e he)]
      rfl
    rw [cnt_app, this, cnt_true (fun e he => by rw [getD_set_ne (fun hh => hn1 (by rw [← hh]; exact he))]; exact a1 e he)]

theorem UpAt.later {l : List Oper} {i n e : Nat} {o : Oper} {L : Array Bool} (h : UpAt l i o L) (hw : waits l.toArray n e i = true) : L.getD e false = false := by
  have hcl : ∀ (j : Nat) oj, l.toArray[j]? = some oj → L.getD j false = true → ∀ e ∈ oj.after, Region.binds .any e = true → L.getD e.on false = true := fun j oj hj => h.closed j oj (by simpa using hj)
  cases hL : L.getD e false with
  | false => rfl
  | true =>
    cases hoe : l.toArray[e]? with
    | none => cases n <;> simp only [waits, hoe, Bool.false_eq_true] at hw
    | some oe =>
      have := waits_closed hcl n e i oe hoe (fun x hx hb => hcl e oe hoe hL x hx hb) hw
      rw [h.own] at this
      cases this
theorem UpAt.before {l : List Oper} {i n e : Nat} {o : Oper} {L : Array Bool} (h : UpAt l i o L) (hw : waits l.toArray n i e = true) : L.getD e false = true :=
  waits_closed (fun j oj hj => h.closed j oj (by simpa using hj)) n i e o (by simpa using h.at_) h.deps hw
theorem UpAt.lt {l : List Oper} {i : Nat} {o : Oper} {L : Array Bool} (h : UpAt l i o L) : i < l.length := by
  rcases Nat.lt_or_ge i l.length with h' | h'
  · exact h'
  · have := h.at_; rw [List.getElem?_eq_none h'] at this; cases this

theorem wpAny_of_keeps {l : List Oper} {I : Array Bool → Act → World → Prop} (hX : lexOk l = true) (hg : ∀ o ∈ l, o.guard = none)
    (hK : ∀ i o L a w, UpAt l i o L → I L a w → o.wp P a w (fun a' w' => I (L.setIfInBounds i true) a' w') Q)
    (hend : ∀ L a w, I L a w → (∀ i, i < l.length → L.getD i false = true) → Q .normal a w) :
    ∀ (fuel : Nat) (L : Array Bool) (a : Act) (w : World), I L a w → L.size = l.length → (∀ (j : Nat) oj, l[j]? = some oj → L.getD j false = true → ∀ e ∈ oj.after, Region.binds .any e = true → L.getD e.on false = true) → L.toList.count false ≤ fuel → wpAny P .any l.toArray Q fuel L a w
  | 0, L, a, w, hI, hs, hcl, hc => by
    have h0 : ∀ i, i < l.length → L.getD i false = true := fun i hi => by
      have hi2 : i < L.size := by omega
      have hm : false ∉ L.toList := by
        intro h
        have := List.count_pos_iff.2 h
        omega
      simp only [Array.getD_eq_getD_getElem?, Array.getElem?_eq_getElem hi2, Option.getD_some]
      cases hv : L[i] with
      | true => rfl
      | false => exact absurd (by rw [← hv]; simp) hm
    refine ⟨?_, hend L a w hI h0⟩
    refine List.eq_nil_iff_forall_not_mem.2 fun i hi => ?_
    obtain ⟨h1, o, ho, -⟩ := mem_ready.1 hi
    have hi2 : i < l.length := by
      rcases Nat.lt_or_ge i l.length with h | h
      · exact h
      · rw [Array.getElem?_eq_none (by simpa using h)] at ho; cases ho
    have := h0 i hi2
    have hi3 : i < L.size := by omega
    simp only [Array.getD_eq_getD_getElem?, Array.getElem?_eq_getElem hi3, Option.getD_some] at h1 this
    rw [this] at h1
    cases h1
  | fuel + 1, L, a, w, hI, hs, hcl, hc => by
    refine ⟨fun h0 => hend L a w hI (fun i hi => all_of_ready (lex_of hX) (by simpa using hs) h0 i (by simpa using hi)), fun i hi => ?_⟩
    obtain ⟨hun, o, ho, hall⟩ := mem_ready.1 hi
    have ho' : l[i]? = some o := by simpa using ho
    have hi2 : i < L.size := by
      rcases Nat.lt_or_ge i L.size with h | h
      · exact h
      · simp [Array.getD_eq_getD_getElem?, Array.getElem?_eq_none h] at hun
    have hv : L[i] = false := by simpa [Array.getD_eq_getD_getElem?, Array.getElem?_eq_getElem hi2] using hun
    have hown : L.getD i false = false := by simpa [Array.getD_eq_getD_getElem?, Array.getElem?_eq_getElem hi2] using hun
    have hk := hK i o L a w ⟨ho', hs, hown, hall, hcl⟩ hI
    unfold wpOp
    simp only [ho]
    rw [if_pos (by unfold Region.wanted; rw [hg o (List.mem_of_getElem? ho')])]
    refine .inl (Oper.wp_mono (fun a' w' hI' => ?_) hk)
    refine wpAny_of_keeps hX hg hK hend fuel _ _ _ hI' (by simpa using hs) ?_ ?_
    · intro j oj hj hL e he hb
      exact closed_set (ops := l.toArray) (fun j oj hj => hcl j oj (by simpa using hj)) ho hall j oj (by simpa using hj) hL e he hb
    · have hl : i < L.toList.length := by simpa using hi2
      rw [Array.toList_setIfInBounds, List.count_set hl]
      have hp : 0 < L.toList.count false := List.count_pos_iff.2 (by rw [← hv]; simp)
      have e1 : (L.toList[i] == false) = true := by simpa using hv
      have e2 : ((true : Bool) == false) = false := rfl
      rw [e1, e2, if_pos rfl, if_neg (by simp)]
      omega

theorem wpIn_region_keeps (lr m : Nat) {id : Nat} {a : Act} {w : World} {l : List Oper} (I : Array Bool → Act → World → Prop) (hno : ¬ LetsOut Q) (hnd : noDefer l = true) (hm : P.follows .mixedOrders = true) (hX : lexOk l = true) (hg : ∀ o ∈ l, o.guard = none)
    (hK : ∀ i o L a w, UpAt l i o L → I L a w → o.wp P a w (fun a' w' => I (L.setIfInBounds i true) a' w') Q)
    (h0 : I (Array.replicate l.length false) a w.drew) (hend : ∀ L a w, I L a w → (∀ i, i < l.length → L.getD i false = true) → Q .normal a w) :
    (Code.region id l.toArray true).wpIn (Fence.wide.inRound lr) m P Q a w :=
  wpIn_region_any hm (wpAny_in hno (fun o ho => noDefer_of hnd (by simpa using ho)) _ _ _ _ (wpAny_of_keeps hX hg hK hend _ _ _ _ (by simpa using h0) (by simp) (fun j oj _ h => by simp [Array.getD_eq_getD_getElem?, Array.getElem?_replicate] at h; split at h <;> simp at h) (by simp)))
end
end Go.Proofs.YtojleleohhaigaaDoor

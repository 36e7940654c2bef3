/- A region that draws its order and ends in operations in one forced order: the first ones walked over a class of worlds, the last ones in their order, over whatever world of that class. No condition. -/
import Derived.Test.YtghoggjllcbalaaDoorStageD
import Derived.StillTail
namespace Go.Proofs.YtghoggjllcbalaaDoor
open Go

section
variable {P : Program} {ops : Array Oper} {C : Array Bool → World → Prop}

def wpAnyTL (P : Program) (C : Array Bool → World → Prop) (ops : Array Oper) (n : Nat) (T : Array Bool → Act → Prop) : Nat → Array Bool → Act → Prop
  | 0, L, a => T L a
  | f + 1, L, a => Region.ready .any ops L ≠ [] ∧ ∀ i ∈ Region.ready .any ops L, i < n ∧ ∃ o v, ops[i]? = some o ∧ StYields P C ops i o v a ∧ wpAnyTL P C ops n T f (L.setIfInBounds i true) (a.put o.dst v)

theorem wpAny_of_TL {n g : Nat} {T : Array Bool → Act → Prop} {Q' : Exit → Act → World → Prop} (hT : ∀ L a w, T L a → C L w → wpAny P .any ops Q' g L a w) :
    ∀ (f : Nat) (L : Array Bool) (a : Act) (w : World), C L w → L.size = ops.size →
      (∀ j oj, ops[j]? = some oj → L.getD j false = true → ∀ e ∈ oj.after, Region.binds .any e = true → L.getD e.on false = true) → wpAnyTL P C ops n T f L a → wpAny P .any ops Q' (f + g) L a w
  | 0, L, a, w, hC, _, _, h => by rw [Nat.zero_add]; exact hT _ _ _ h hC
  | f + 1, L, a, w, hC, hs, hcl, h => by
    rw [show f + 1 + g = (f + g) + 1 by omega]
    refine ⟨fun h0 => absurd h0 h.1, fun i hi => ?_⟩
    obtain ⟨-, o, v, ho, hy, hn⟩ := h.2 i hi
    obtain ⟨hun, o', ho', hall⟩ := mem_ready.1 hi
    have heq : o' = o := by rw [ho] at ho'; injection ho' with h1; exact h1.symm
    subst heq
    have hcl' := closed_set hcl ho (fun e he hb => hall e he hb)
    have hst := hy L w ⟨hC, hs, hun, fun e he hb => hall e he hb, hcl⟩
    unfold wpOp
    simp only [ho]
    split
    · rename_i hw
      rw [if_pos hw] at hst
      refine .inl ?_
      unfold Oper.wp
      generalize (execOp a.eval o').run P w = r at *
      cases r with
      | halt x w' => exact hst.elim
      | ok n w' =>
        cases n <;> simp only [StUpon] at hst <;> simp only [Oper.upon]
        case value u =>
          obtain ⟨rfl, hD⟩ := hst
          exact wpAny_of_TL hT f _ _ _ hD (by simpa using hs) hcl' hn
        case skip =>
          obtain ⟨rfl, hD⟩ := hst
          exact wpAny_of_TL hT f _ _ _ hD (by simpa using hs) hcl' hn
        case enter f' args =>
          refine Calls.mono hst fun e w'' ⟨he, hD⟩ => ?_
          subst he
          exact wpAny_of_TL hT f _ _ _ hD (by simpa using hs) hcl' hn
    · rename_i hw
      rw [if_neg hw] at hst
      obtain ⟨rfl, hD⟩ := hst
      exact wpAny_of_TL hT f _ _ _ hD (by simpa using hs) hcl' hn

theorem wpAnyTL_first {n i : Nat} {oi : Oper} {v : Value} {T : Array Bool → Act → Prop} (hi : ops[i]? = some oi) (hsel : ∀ (j : Nat) (o : Oper) cs b, ops[j]? = some o → o.op ≠ .select cs b)
    {I : Array Bool → Prop} (hset : ∀ L i, I L → i ∈ Region.ready .any ops L → i < n → I (L.setIfInBounds i true)) (hwait : ∀ L i, I L → i < n → L.getD i true = false → ∀ t, n ≤ t → t ∉ Region.ready .any ops L) (hin : i < n)
    (hdone : ∀ L a, T L a → ∀ j ∈ Region.ready .any ops L, n ≤ j) :
    ∀ (f : Nat) (L : Array Bool) (a : Act), I L →
      (∀ j oj, ops[j]? = some oj → j ≠ i → L.getD j true = false → (∀ e ∈ oj.after, Region.binds .any e = true → e.on ≠ i) → oi.apart ops oj = true) →
      i ∈ Region.ready .any ops L → StYields P C ops i oi v a →
      wpAnyTL P C ops n T f (L.setIfInBounds i true) (a.put oi.dst v) → wpAnyTL P C ops n T (f + 1) L a := by
  intro f
  induction f with
  | zero =>
    intro L a inv _ hr hy H
    have hun := (mem_ready.1 hr).1
    refine ⟨fun h => (by rw [h] at hr; cases hr), fun j hj => ?_⟩
    have hjn : j < n := by
      rcases Nat.lt_or_ge j n with h | h
      · exact h
      · exact absurd hj (hwait L i inv hin hun j h)
    refine ⟨hjn, ?_⟩
    by_cases hji : j = i
    · subst hji; exact ⟨oi, v, hi, hy, H⟩
    · have := hdone _ _ H j (ready_mono hj hji)
      omega
  | succ f ih =>
    intro L a inv hfree hr hy H
    have hun := (mem_ready.1 hr).1
    refine ⟨fun h => (by rw [h] at hr; cases hr), fun j hj => ?_⟩
    have hjn : j < n := by
      rcases Nat.lt_or_ge j n with h | h
      · exact h
      · exact absurd hj (hwait L i inv hin hun j h)
    refine ⟨hjn, ?_⟩
    by_cases hji : j = i
    · subst hji; exact ⟨oi, v, hi, hy, H⟩
    · obtain ⟨-, oj, u, hoj, hyj, hn'⟩ := H.2 j (ready_mono hj hji)
      obtain ⟨hjun, oj', hoj', hall⟩ := mem_ready.1 hj
      have heq : oj' = oj := by rw [hoj] at hoj'; injection hoj' with h1; exact h1.symm
      subst heq
      have hnot : ∀ e ∈ oj'.after, Region.binds .any e = true → e.on ≠ i := fun e he hb heq => by
        have h1 := hall e he hb
        rw [heq, getD_both hun] at h1
        cases h1
      have hap := hfree j oj' hoj hji hjun hnot
      obtain ⟨h1, h2, h3⟩ := Oper.apart_spec hap
      have hsi : ∀ cs b, oi.op ≠ .select cs b := fun cs b => hsel i oi cs b hi
      have hsj : ∀ cs b, oj'.op ≠ .select cs b := fun cs b => hsel j oj' cs b hoj
      refine ⟨oj', u, hoj, hyj.of_same (execOp_put oj' hsj a oi.dst v h1).symm (wanted_put oj' a oi.dst v h1).symm, ?_⟩
      have hfree' : ∀ k ok, ops[k]? = some ok → k ≠ i → (L.setIfInBounds j true).getD k true = false →
          (∀ e ∈ ok.after, Region.binds .any e = true → e.on ≠ i) → oi.apart ops ok = true := fun k ok hk hki hun hno => by
        refine hfree k ok hk hki ?_ hno
        by_cases hjk : j = k
        · subst hjk; exact hjun
        · rw [getD_set_ne true hjk] at hun; exact hun
      refine ih (L.setIfInBounds j true) (a.put oj'.dst u) (hset _ _ inv hj hjn) hfree' (ready_mono hr (Ne.symm hji))
        (hy.of_same (execOp_put oi hsi a oj'.dst u h3) (wanted_put oi a oj'.dst u h3)) ?_
      rw [Array.setIfInBounds_comm _ _ hji, ← Act.put_comm a v u h2]
      exact hn'

theorem wpAnyTL_lex {n g : Nat} {Lq : Act → Prop} (hsel : Region.noSelect ops = true) {I : Array Bool → Prop} (hset : ∀ L i, I L → i ∈ Region.ready .any ops L → i < n → I (L.setIfInBounds i true)) (hwait : ∀ L i, I L → i < n → L.getD i true = false → ∀ t, n ≤ t → t ∉ Region.ready .any ops L) :
    ∀ (l : List Oper) (k : Nat) (L : Array Bool) (a : Act), (∀ j, j < l.length → l[j]? = ops[k + j]?) → k + l.length = n → I L →
    Region.lexHead .any ops g l.length k L = true → wpT P C ops Lq l k a →
    wpAnyTL P C ops n (fun L' a' => Region.seqB .any ops g n L' = true ∧ Lq a') l.length L a
  | [], k, L, a, _, hk, _, hB, h => by
    have : k = n := by simpa using hk
    subst this
    exact ⟨by simpa [Region.lexHead] using hB, h⟩
  | o :: l, k, L, a, hl, hk, inv, hB, h => by
    have h0 : ops[k]? = some o := by simpa using (hl 0 (by simp)).symm
    simp only [List.length_cons, Region.lexHead, Bool.and_eq_true] at hB
    obtain ⟨⟨hr, hf⟩, hB'⟩ := hB
    have hkn : k < n := by simp only [List.length_cons] at hk; omega
    have hr' : k ∈ Region.ready .any ops L := by simpa using hr
    obtain ⟨v, hy, hK⟩ := h
    exact wpAnyTL_first h0 (Region.noSelect_spec hsel) hset hwait hkn (fun L' a' hL => seqB_ready hL.1) l.length L a inv (Region.free_spec h0 hf) hr' hy
      (wpAnyTL_lex hsel hset hwait l (k + 1) _ _ (fun j hj => by have := hl (j + 1) (by simp; omega); simpa [Nat.add_assoc, Nat.add_comm 1 j] using this) (by simp only [List.length_cons] at hk; omega) (hset _ _ inv hr' hkn) hB' hK)

theorem wp_region_TT {id : Nat} {Q : Exit → Act → World → Prop} {a : Act} {w : World} {l : List Oper} (n : Nat) (D : World → Prop) (hm : P.follows .mixedOrders = true) (hB : Region.lexTailB .any l.toArray n = true)
    (hC : D w.drew) (h : wpT P (fun _ => D) l.toArray (fun a' => ∀ w', D w' → wpList P l.toArray Q (l.drop n) a' w') (l.take n) 0 a) : (Code.region id l.toArray true).wp P Q a w := by
  simp only [Region.lexTailB, Bool.and_eq_true, decide_eq_true_eq] at hB
  obtain ⟨⟨⟨⟨hsel, hn⟩, hs⟩, hc⟩, hlex⟩ := hB
  have hn' : n < l.length := by simpa using hn
  have htl : (l.take n).length = n := by simp; omega
  have hdl : (l.drop n).length = l.toArray.size - n := by simp
  have inv0 : HeadInv .any l.toArray n (Array.replicate l.toArray.size false) :=
    ⟨by simp, fun j oj _ hl => (by rw [getD_replicate_false] at hl; cases hl), fun t _ ht => getD_in (by simpa using ht) (getD_replicate_false _ _)⟩
  have H := wpAnyTL_lex (C := fun _ => D) (g := l.toArray.size - n) hsel (I := HeadInv .any l.toArray n) (fun _ _ inv hi hin => inv.set hi hin) (fun _ i inv hin hun t ht => tail_waits hs hc hn inv _ i rfl hin hun t ht) (l.take n) 0 _ a (fun j hj => by
    have hj' : j < n := by rw [htl] at hj; exact hj
    simp [hj']) (by simpa using htl) inv0 (by rw [htl]; exact hlex) h
  refine wp_region_any hm ?_
  have := wpAny_of_TL (Q' := Q) (g := l.toArray.size - n) (fun L a' w' hL hD => by
    have := wpAny_of_seq (md := .any) (Q' := Q) (l.drop n) n L a' w' (fun j => by simp [List.getElem?_drop]) (by rw [hdl]; exact hL.1) (hL.2 w' hD)
    rwa [hdl] at this) _ _ _ w.drew hC (by simp) (fun j oj _ h => by rw [getD_replicate_false] at h; cases h) H
  rw [htl, show n + (l.toArray.size - n) = l.toArray.size by omega] at this
  exact this

/-- The head's operations from 'm' on are waited for. -/
def sinkM (ops : Array Oper) (m n : Nat) : Bool :=
  (List.range n).all fun i => decide (i < m) || (List.range (n + 1)).any fun j => decide (i < j) && Region.waitsFor .any ops j i

structure PreInv (ops : Array Oper) (m n : Nat) (L : Array Bool) : Prop extends HeadInv .any ops n L where
  pre : ∀ i, i < m → L.getD i true = true

theorem PreInv.set {m n i : Nat} {L : Array Bool} (inv : PreInv ops m n L) (hi : i ∈ Region.ready .any ops L) (hin : i < n) : PreInv ops m n (L.setIfInBounds i true) :=
  ⟨inv.toHeadInv.set hi hin, fun k hk => by
    by_cases h : i = k
    · subst h
      have h1 := inv.pre i hk
      have h0 := (mem_ready.1 hi).1
      rw [h1] at h0
      cases h0
    · rw [getD_set_ne true h]; exact inv.pre k hk⟩

theorem pre_waits {m n : Nat} {L : Array Bool} (hs : sinkM ops m n = true) (hc : Region.chainB .any ops n = true) (hn : n < ops.size) (inv : PreInv ops m n L) :
    ∀ (d i : Nat), n - i = d → i < n → L.getD i true = false → ∀ t, n ≤ t → t ∉ Region.ready .any ops L := by
  intro d
  induction d using Nat.strongRecOn with
  | _ d ih =>
    intro i hd hi hun t ht hr
    obtain ⟨_, ot, hot, hall⟩ := mem_ready.1 hr
    have htlt : t < ops.size := (Array.getElem?_eq_some_iff.1 hot).1
    by_cases htn : t = n
    · subst htn
      have h1 := List.all_eq_true.1 hs i (List.mem_range.2 hi)
      have him : ¬ i < m := fun h => by rw [inv.pre i h] at hun; cases hun
      simp only [him, decide_false, Bool.false_or] at h1
      obtain ⟨j, hj, hj2⟩ := List.any_eq_true.1 h1
      simp only [Bool.and_eq_true, decide_eq_true_eq] at hj2
      obtain ⟨oj, hoj, e, he, hb, hon⟩ := Region.waitsFor_spec hj2.2
      have hjle : j ≤ t := by have := List.mem_range.1 hj; omega
      by_cases hjt : j = t
      · subst hjt
        have : oj = ot := Option.some.inj (hoj.symm.trans hot)
        subst this
        have h2 := hall e he hb
        rw [hon, getD_both hun] at h2
        cases h2
      · cases hl : L.getD j false with
        | true =>
          have h2 := inv.closed j oj hoj hl e he hb
          rw [hon, getD_both hun] at h2
          cases h2
        | false =>
          have hjs : j < L.size := by rw [inv.size]; omega
          exact ih (t - j) (by omega) j rfl (by omega) (getD_in hjs hl) t (Nat.le_refl _) hr
    · have h1 := List.all_eq_true.1 hc t (List.mem_range.2 htlt)
      simp only [Bool.or_eq_true, decide_eq_true_eq] at h1
      rcases h1 with h1 | h1
      · omega
      · obtain ⟨o', ho', e, he, hb, hon⟩ := Region.waitsFor_spec h1
        have : o' = ot := Option.some.inj (ho'.symm.trans hot)
        subst this
        have h2 := hall e he hb
        rw [hon, getD_both (inv.tail (t - 1) (by omega) (by omega))] at h2
        cases h2

/-- As before; operation 0 may come up at any time, changes nothing, and is taken first. -/
def preTailB (ops : Array Oper) (n : Nat) : Bool :=
  Region.noSelect ops && decide (1 < n) && decide (n < ops.size) && sinkM ops 1 n && Region.chainB .any ops n && (Region.ready .any ops (Array.replicate ops.size false)).contains 0 && Region.free .any ops (Array.replicate ops.size false) 0 &&
    Region.lexHead .any ops (ops.size - n) (n - 1) 1 ((Array.replicate ops.size false).setIfInBounds 0 true)

theorem wp_region_PT {id : Nat} {Q : Exit → Act → World → Prop} {a : Act} {w : World} {o0 : Oper} {l : List Oper} (n : Nat) (v0 : Value) (D : World → Prop) (hm : P.follows .mixedOrders = true) (hB : preTailB (o0 :: l).toArray (n + 1) = true)
    (hQ : ∀ c a w, Q (.panic c) (a.put o0.dst v0) w → Q (.panic c) a w) (h0 : Yields P (o0 :: l).toArray o0 v0 a)
    (hC : D w.drew) (h : wpT P (fun _ => D) (o0 :: l).toArray (fun a' => ∀ w', D w' → wpList P (o0 :: l).toArray Q (l.drop n) a' w') (l.take n) 1 (a.put o0.dst v0)) : (Code.region id (o0 :: l).toArray true).wp P Q a w := by
  simp only [preTailB, Bool.and_eq_true, decide_eq_true_eq] at hB
  obtain ⟨⟨⟨⟨⟨⟨⟨hsel, -⟩, hn⟩, hs⟩, hc⟩, hr0⟩, hf0⟩, hlex⟩ := hB
  have hsz : (o0 :: l).toArray.size = l.length + 1 := by simp
  have hn' : n < l.length := by rw [hsz] at hn; omega
  have htl : (l.take n).length = n := by simp; omega
  have hdl : (l.drop n).length = (o0 :: l).toArray.size - (n + 1) := by simp
  have hr0' : 0 ∈ Region.ready .any (o0 :: l).toArray (Array.replicate (o0 :: l).toArray.size false) := by simpa using hr0
  have inv0 : HeadInv .any (o0 :: l).toArray (n + 1) (Array.replicate (o0 :: l).toArray.size false) :=
    ⟨by simp, fun j oj _ hl => (by rw [getD_replicate_false] at hl; cases hl), fun t _ ht => getD_in (by simpa using ht) (getD_replicate_false _ _)⟩
  have inv1 : PreInv (o0 :: l).toArray 1 (n + 1) ((Array.replicate (o0 :: l).toArray.size false).setIfInBounds 0 true) :=
    ⟨inv0.set hr0' (by omega), fun i hi => by
      obtain rfl : i = 0 := by omega
      simp [Array.getD_eq_getD_getElem?]⟩
  have H := wpAnyTL_lex (P := P) (C := fun _ => D) (g := (o0 :: l).toArray.size - (n + 1)) hsel (I := PreInv (o0 :: l).toArray 1 (n + 1)) (fun _ _ inv hi hin => inv.set hi hin) (fun _ i inv hin hun t ht => pre_waits hs hc hn inv _ i rfl hin hun t ht) (l.take n) 1 _ (a.put o0.dst v0) (fun j hj => by
    have hj' : j < n := by rw [htl] at hj; exact hj
    simp [hj', Nat.add_comm 1 j]) (by rw [htl]; omega) inv1 (by rw [htl]; exact hlex) h
  refine wp_region_any hm ?_
  have key := wpAny_of_TL (Q' := Q) (g := (o0 :: l).toArray.size - (n + 1)) (fun L a' w' hL hD => by
    have := wpAny_of_seq (md := .any) (Q' := Q) (l.drop n) (n + 1) L a' w' (fun j => by simp [List.getElem?_drop, Nat.add_right_comm n 1 j]) (by rw [hdl]; exact hL.1) (hL.2 w' hD)
    rwa [hdl] at this) _ _ _ w.drew hC (by simp) inv1.closed H
  rw [htl] at key
  have hfin := wpAny_first (P := P) (md := .any) (Q := Q) (i := 0) (oi := o0) (v := v0) (ops := (o0 :: l).toArray) rfl (Region.noSelect_spec hsel) hQ _ (Array.replicate (o0 :: l).toArray.size false) a w.drew (Region.free_spec rfl hf0) hr0' h0 key
  rw [show n + ((o0 :: l).toArray.size - (n + 1)) + 1 = (o0 :: l).toArray.size by omega] at hfin
  exact hfin
end
end Go.Proofs.YtghoggjllcbalaaDoor

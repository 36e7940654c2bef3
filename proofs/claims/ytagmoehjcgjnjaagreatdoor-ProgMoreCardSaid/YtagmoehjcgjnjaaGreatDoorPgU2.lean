/- The region of 'append(append([]T{}, l...), x)', its steps in any order. Conditions: the lists are short. -/
import Derived.Test.YtagmoehjcgjnjaaGreatDoorPgU
namespace Go.Proofs.YtagmoehjcgjnjaaGreatDoor
open Go Go.RowKit

theorem getSet {L : Array Bool} {i : Nat} (hi : i < L.size) (j : Nat) : (L.setIfInBounds i true).getD j false = if j = i then true else L.getD j false := by
  simp only [Array.getD_eq_getD_getElem?, Array.getElem?_setIfInBounds]
  by_cases hij : i = j
  · subst hij; simp [hi]
  · rw [if_neg hij, if_neg (Ne.symm hij)]
theorem getFalse {L : Array Bool} {i : Nat} (hi : i < L.size) (h : L.getD i true = false) : L.getD i false = false := by
  simpa [Array.getD_eq_getD_getElem?, Array.getElem?_eq_getElem hi] using h
theorem Only.grown {w0 w w' : World} (h : Only [] w0 w) {r : Option Nat} (hg : w.grownBy w' r) (hr : ∀ k, r = some k → w0.heap.size ≤ k) : Only [] w0 w' :=
  ⟨hg.os.trans h.os, hg.tape.trans h.tape, hg.output.trans h.output, Nat.le_trans h.size hg.size, fun k hk hn => (hg.block k (Nat.lt_of_lt_of_le hk h.size) (fun e => by have := hr k e.symm; omega)).trans (h.block k hk hn)⟩

theorem wp_add {id : Nat} {Q : Exit → Act → World → Prop} {a : Act} {w : World} {o0 o1 o2 o3 o4 o5 o6 : Oper} (mk : (Nat → Value) → Act) (V : Value) (l : List In) (x : In) (xb : Nat) (s1 s20 s21 s3 s4 s50 s51 s6 : Operand)
    (hlex : lexOk [o0, o1, o2, o3, o4, o5, o6] = true) (ha : a = mk (fun _ => undef))
    (hg : ∀ o ∈ [o0, o1, o2, o3, o4, o5, o6], o.guard = none)
    (hput : ∀ (i : Nat) (o : Oper), [o0, o1, o2, o3, o4, o5, o6][i]? = some o → ∀ f v, (mk f).put o.dst v = mk (fun j => if j = i then v else f j))
    (e0 : o0.op = .buildSlice 22 0 #[]) (e1 : o1.op = .move s1) (v1 : ∀ f, (mk f).eval s1 = V)
    (e2 : o2.op = .call { callee := .builtin .append, args := #[s20, s21], argTypes := #[22, 22] }) (t2 : o2.type = 22) (v20 : ∀ f, (mk f).eval s20 = f 0) (v21 : ∀ f, (mk f).eval s21 = f 1)
    (e3 : o3.op = .load 33 s3) (v3 : ∀ f, (mk f).eval s3 = .pointer (some ⟨xb, 0, none⟩))
    (e4 : o4.op = .buildSlice 22 1 #[(0, s4)]) (v4 : ∀ f, (mk f).eval s4 = f 3)
    (e5 : o5.op = .call { callee := .builtin .append, args := #[s50, s51], argTypes := #[22, 22] }) (t5 : o5.type = 22) (v50 : ∀ f, (mk f).eval s50 = f 2) (v51 : ∀ f, (mk f).eval s51 = f 4)
    (e6 : o6.op = .assign s6) (v6 : ∀ f, (mk f).eval s6 = f 5)
    (d20 : ∃ e ∈ o2.after, Region.binds .any e = true ∧ e.on = 0) (d21 : ∃ e ∈ o2.after, Region.binds .any e = true ∧ e.on = 1) (d4 : ∃ e ∈ o4.after, Region.binds .any e = true ∧ e.on = 3)
    (d52 : ∃ e ∈ o5.after, Region.binds .any e = true ∧ e.on = 2) (d54 : ∃ e ∈ o5.after, Region.binds .any e = true ∧ e.on = 4) (d6 : ∃ e ∈ o6.after, Region.binds .any e = true ∧ e.on = 5)
    (hV : InS w V l) (hl : l.length ≤ 1000000) (hX : w.rangeAt xb 0 x.cs.toList) (hxb : xb < w.heap.size)
    (hend : ∀ f w', Only [] w w' → InR w' w.heap.size (f 6) (l ++ [x]) → Q .normal (mk f) w') : (Code.region id [o0, o1, o2, o3, o4, o5, o6].toArray true).wp Tryz.prog Q a w := by
  refine wp_region_inv (fun L a w' => ∃ f, a = mk f ∧ Adds w V l x f (fun i => L.getD i false) w') (by kernel_rfl) (lex_of hlex) ?_ ⟨_, ha, ?_⟩ ?_
  · rintro i o L a W ho hun hs hdep ⟨f, rfl, hA⟩
    rw [List.getElem?_toArray] at ho
    have hs' : L.size = 7 := by simpa using hs
    have hi : i < 7 := by
      rcases Nat.lt_or_ge i 7 with h | h
      · exact h
      · rw [List.getElem?_eq_none (by simpa using h)] at ho; cases ho
    have hset := fun j => getSet (L := L) (i := i) (by omega) j
    have hF := getFalse (by omega) hun
    have dep : ∀ k, (∃ e ∈ o.after, Region.binds .any e = true ∧ e.on = k) → L.getD k false = true := fun k ⟨e, he, hb, hk⟩ => by rw [← hk]; exact hdep e he hb
    refine ⟨by unfold Region.wanted; rw [hg o (List.mem_of_getElem? ho)], ?_⟩
    have hsz := hA.on.size
    have hpu := hput i o ho
    have n2 : i = 0 → L.getD 2 false = true → False := fun h h2 => by have := hA.q2 h2; subst h; rw [hF] at this; cases this
    match i, hi, ho with
    | 0, _, ho =>
      obtain rfl : o0 = o := by simpa using ho
      refine ⟨.slice (some ⟨W.heap.size, 0, none⟩) 0 0, W.alloc (.cells #[] 33), .inl (by unfold execOp; simp only [e0, List.map_toArray, List.map_nil, Sem.run_bind, Sem.run_pure, Result.andThen_ok, run_bs0]), _, hpu f _, ?_⟩
      have h2 : L.getD 2 false = false := by
        cases h : L.getD 2 false with
        | false => rfl
        | true => exact (n2 rfl h).elim
      refine ⟨hA.on.alloc _, ?_, ?_, ?_, ?_, ?_, ?_, ?_, ?_, ?_, ?_⟩ <;> simp only [hset, Nat.reduceEqDiff, if_false, if_true]
      · exact fun _ _ => ⟨W.heap.size, rfl, Blk.new _ _ _, hsz⟩
      · exact hA.p1
      · rw [h2]; intro h; cases h
      · exact hA.p3
      · intro h h5
        obtain ⟨g, h1, hB, hb⟩ := hA.p4 h h5
        exact ⟨g, h1, hB.alloc _, hb⟩
      · intro h; have := hA.q5 h; rw [h2] at this; cases this
      · exact hA.p6
      · exact fun _ => trivial
      · exact hA.q5
      · exact hA.q6
    | 1, _, ho =>
      obtain rfl : o1 = o := by simpa using ho
      refine ⟨V, W, .inl (by unfold execOp; simp only [e1, v1, Sem.run_pure]), _, hpu f _, ?_⟩
      refine ⟨hA.on, ?_, ?_, ?_, ?_, ?_, ?_, ?_, ?_, ?_, ?_⟩ <;> simp only [hset, Nat.reduceEqDiff, if_false, if_true]
      · exact hA.p0
      · intros; first | rfl | trivial
      · exact hA.p2
      · exact hA.p3
      · exact hA.p4
      · exact hA.p5
      · exact hA.p6
      · exact hA.q2
      · exact hA.q5
      · exact hA.q6
    | 2, _, ho =>
      obtain rfl : o2 = o := by simpa using ho
      obtain ⟨g0, hf0, hB0, hb0⟩ := hA.p0 (dep 0 d20) hF
      have hf1 := hA.p1 (dep 1 d21)
      obtain ⟨v', W', hr, hR, hgr⟩ := run_ap_l W w.heap.size hsz g0 hb0 hB0 V l (hV.only0 hA.on) hl
      refine ⟨v', W', .inl (by unfold execOp; simp only [e2, t2, resolve, invoke, builtin, Sem.run_bind, Sem.run_pure, Result.andThen_ok, List.map_toArray, List.map_cons, List.map_nil, v20, v21, hf0, hf1, hr]), _, hpu f _, ?_⟩
      have h5 : L.getD 5 false = false := by
        cases h : L.getD 5 false with
        | false => rfl
        | true => have := hA.q5 h; rw [hF] at this; cases this
      refine ⟨hA.on.grown hgr (fun k e => by cases e; exact hb0), ?_, ?_, ?_, ?_, ?_, ?_, ?_, ?_, ?_, ?_⟩ <;> simp only [hset, Nat.reduceEqDiff, if_false, if_true]
      · intro _ h; cases h
      · exact hA.p1
      · exact fun _ _ => hR
      · exact hA.p3
      · intro h h5
        obtain ⟨g, h1, hB, hb⟩ := hA.p4 h h5
        refine ⟨g, h1, (hgr.block g hB.lt (fun e => ?_)).trans hB, hb⟩
        cases e
        have := hB0.symm.trans hB
        injection this with this
        injection this with this
        cases this
      · rw [h5]; intro h; cases h
      · exact hA.p6
      · exact fun _ => dep 0 d20
      · exact fun _ => trivial
      · exact hA.q6
    | 3, _, ho =>
      obtain rfl : o3 = o := by simpa using ho
      have hX' := rng_only hX hA.on hxb (by simp)
      refine ⟨x.agg, W, .inl (by
        unfold execOp
        simp only [e3, v3, Instr.loadAt, Instr.sureAddr, Sem.run_bind, Sem.run_pure, Result.andThen_ok, run_loadVar_mid W xb 0 _ x.cs.toList _ hX' Tryz.underlying33 rfl (by kernel_rfl)]), _, hpu f _, ?_⟩
      refine ⟨hA.on, ?_, ?_, ?_, ?_, ?_, ?_, ?_, ?_, ?_, ?_⟩ <;> simp only [hset, Nat.reduceEqDiff, if_false, if_true]
      · exact hA.p0
      · exact hA.p1
      · exact hA.p2
      · intros; first | rfl | trivial
      · exact hA.p4
      · exact hA.p5
      · exact hA.p6
      · exact hA.q2
      · exact hA.q5
      · exact hA.q6
    | 4, _, ho =>
      obtain rfl : o4 = o := by simpa using ho
      have hf3 := hA.p3 (dep 3 d4)
      refine ⟨.slice (some ⟨W.heap.size, 0, none⟩) 1 1, W.alloc (.cells x.cs 33), .inl (by unfold execOp; simp only [e4, List.map_toArray, List.map_cons, List.map_nil, v4, hf3, Sem.run_bind, Sem.run_pure, Result.andThen_ok, run_bs1]), _, hpu f _, ?_⟩
      refine ⟨hA.on.alloc _, ?_, ?_, ?_, ?_, ?_, ?_, ?_, ?_, ?_, ?_⟩ <;> simp only [hset, Nat.reduceEqDiff, if_false, if_true]
      · intro h h2
        obtain ⟨g, h1, hB, hb⟩ := hA.p0 h h2
        exact ⟨g, h1, hB.alloc _, hb⟩
      · exact hA.p1
      · intro h h5
        exact (hA.p2 h h5).only ((Only.refl [] W).alloc _) (fun z hz => by cases hz)
      · exact hA.p3
      · exact fun _ _ => ⟨W.heap.size, rfl, Blk.new _ _ _, hsz⟩
      · intro h
        exact (hA.p5 h).only ((Only.refl [] W).alloc _) (fun z hz => by cases hz)
      · exact hA.p6
      · exact hA.q2
      · exact hA.q5
      · exact hA.q6
    | 5, _, ho =>
      obtain rfl : o5 = o := by simpa using ho
      have hR2 := hA.p2 (dep 2 d52) hF
      obtain ⟨g, hf4, hB, hb⟩ := hA.p4 (dep 4 d54) hF
      obtain ⟨v', W', hr, hR, hgr⟩ := run_ap_x W w.heap.size hsz (f 2) l hR2 hl g x hB
      refine ⟨v', W', .inl (by unfold execOp; simp only [e5, t5, resolve, invoke, builtin, Sem.run_bind, Sem.run_pure, Result.andThen_ok, List.map_toArray, List.map_cons, List.map_nil, v50, v51, hf4, hr]), _, hpu f _, ?_⟩
      have hown : ∀ k, (f 2).ownBlock = some k → w.heap.size ≤ k := by
        intro k hk
        rcases hR2.2 with ⟨h, -⟩ | ⟨g', cap, cur, h, hgb, -⟩
        · rw [h] at hk; cases hk
        · rw [h] at hk; cases hk; exact hgb
      have h6 : L.getD 6 false = false := by
        cases h : L.getD 6 false with
        | false => rfl
        | true => have := hA.q6 h; rw [hF] at this; cases this
      refine ⟨hA.on.grown hgr hown, ?_, ?_, ?_, ?_, ?_, ?_, ?_, ?_, ?_, ?_⟩ <;> simp only [hset, Nat.reduceEqDiff, if_false, if_true]
      · intro _ h; have := dep 2 d52; rw [h] at this; cases this
      · exact hA.p1
      · intro _ h; cases h
      · exact hA.p3
      · intro _ h; cases h
      · exact fun _ => hR
      · rw [h6]; intro h; cases h
      · exact hA.q2
      · exact fun _ => dep 2 d52
      · exact fun _ => trivial
    | 6, _, ho =>
      obtain rfl : o6 = o := by simpa using ho
      refine ⟨f 5, W, .inl (by unfold execOp; simp only [e6, v6, Sem.run_pure]), _, hpu f _, ?_⟩
      refine ⟨hA.on, ?_, ?_, ?_, ?_, ?_, ?_, ?_, ?_, ?_, ?_⟩ <;> simp only [hset, Nat.reduceEqDiff, if_false, if_true]
      · exact hA.p0
      · exact hA.p1
      · exact hA.p2
      · exact hA.p3
      · exact hA.p4
      · exact hA.p5
      · intros; first | rfl | trivial
      · exact hA.q2
      · exact hA.q5
      · exact fun _ => dep 5 d6
  · have hf : ∀ j, (Array.replicate [o0, o1, o2, o3, o4, o5, o6].length false).getD j false = false := fun j => by simp [Array.getD_eq_getD_getElem?, Array.getElem?_replicate]; split <;> rfl
    refine ⟨(Only.refl [] w).drew, ?_, ?_, ?_, ?_, ?_, ?_, ?_, ?_, ?_, ?_⟩ <;> (simp only [hf]; intro h; cases h)
  · rintro L a W ⟨f, rfl, hA⟩ hall
    refine hend f W hA.on ?_
    rw [hA.p6 (hall 6 (by simp))]
    exact hA.p5 (hall 5 (by simp))
/-- The same, the frame read off the operations. -/
theorem wp_addF {id : Nat} {Q : Exit → Act → World → Prop} {a : Act} {w : World} {o0 o1 o2 o3 o4 o5 o6 : Oper} (V : Value) (l : List In) (x : In) (xb : Nat) (s1 s20 s21 s3 s4 s50 s51 s6 : Operand)
    (hlex : lexOk [o0, o1, o2, o3, o4, o5, o6] = true) (ha : a = mkF a [o0, o1, o2, o3, o4, o5, o6] 0 (fun _ => undef))
    (hg : ∀ o ∈ [o0, o1, o2, o3, o4, o5, o6], o.guard = none)
    (hput : ∀ (i : Nat) (o : Oper), [o0, o1, o2, o3, o4, o5, o6][i]? = some o → ∀ f v, (mkF a [o0, o1, o2, o3, o4, o5, o6] 0 f).put o.dst v = mkF a [o0, o1, o2, o3, o4, o5, o6] 0 (fun j => if j = i then v else f j))
    (e0 : o0.op = .buildSlice 22 0 #[]) (e1 : o1.op = .move s1) (v1 : ∀ f, (mkF a [o0, o1, o2, o3, o4, o5, o6] 0 f).eval s1 = V)
    (e2 : o2.op = .call { callee := .builtin .append, args := #[s20, s21], argTypes := #[22, 22] }) (t2 : o2.type = 22) (v20 : ∀ f, (mkF a [o0, o1, o2, o3, o4, o5, o6] 0 f).eval s20 = f 0) (v21 : ∀ f, (mkF a [o0, o1, o2, o3, o4, o5, o6] 0 f).eval s21 = f 1)
    (e3 : o3.op = .load 33 s3) (v3 : ∀ f, (mkF a [o0, o1, o2, o3, o4, o5, o6] 0 f).eval s3 = .pointer (some ⟨xb, 0, none⟩))
    (e4 : o4.op = .buildSlice 22 1 #[(0, s4)]) (v4 : ∀ f, (mkF a [o0, o1, o2, o3, o4, o5, o6] 0 f).eval s4 = f 3)
    (e5 : o5.op = .call { callee := .builtin .append, args := #[s50, s51], argTypes := #[22, 22] }) (t5 : o5.type = 22) (v50 : ∀ f, (mkF a [o0, o1, o2, o3, o4, o5, o6] 0 f).eval s50 = f 2) (v51 : ∀ f, (mkF a [o0, o1, o2, o3, o4, o5, o6] 0 f).eval s51 = f 4)
    (e6 : o6.op = .assign s6) (v6 : ∀ f, (mkF a [o0, o1, o2, o3, o4, o5, o6] 0 f).eval s6 = f 5)
    (d20 : ∃ e ∈ o2.after, Region.binds .any e = true ∧ e.on = 0) (d21 : ∃ e ∈ o2.after, Region.binds .any e = true ∧ e.on = 1) (d4 : ∃ e ∈ o4.after, Region.binds .any e = true ∧ e.on = 3)
    (d52 : ∃ e ∈ o5.after, Region.binds .any e = true ∧ e.on = 2) (d54 : ∃ e ∈ o5.after, Region.binds .any e = true ∧ e.on = 4) (d6 : ∃ e ∈ o6.after, Region.binds .any e = true ∧ e.on = 5)
    (hV : InS w V l) (hl : l.length ≤ 1000000) (hX : w.rangeAt xb 0 x.cs.toList) (hxb : xb < w.heap.size)
    (hend : ∀ f w', Only [] w w' → InR w' w.heap.size (f 6) (l ++ [x]) → Q .normal (mkF a [o0, o1, o2, o3, o4, o5, o6] 0 f) w') : (Code.region id [o0, o1, o2, o3, o4, o5, o6].toArray true).wp Tryz.prog Q a w :=
  wp_add (fun f => mkF a [o0, o1, o2, o3, o4, o5, o6] 0 f) V l x xb s1 s20 s21 s3 s4 s50 s51 s6 hlex ha hg hput e0 e1 v1 e2 t2 v20 v21 e3 v3 e4 v4 e5 t5 v50 v51 e6 v6 d20 d21 d4 d52 d54 d6 hV hl hX hxb hend
end Go.Proofs.YtagmoehjcgjnjaaGreatDoor

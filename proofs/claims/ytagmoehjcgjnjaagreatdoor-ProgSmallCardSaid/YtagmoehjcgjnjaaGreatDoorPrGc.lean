/- Appends, with where the row lies behind; rows of instructions written over. No condition. LentProgram and KeptProgram of the statements' kit, walked. Condition: the row is short. The kit's flats at no lists, walked. No condition. Families of rows that lie apart, written over and appended to. No condition. -/
import Derived.Test.YtagmoehjcgjnjaaGreatDoorPgH
import Derived.Test.YtagmoehjcgjnjaaGreatDoorPgU
import Derived.Test.YtagmoehjcgjnjaaGreatDoorPgB
import Derived.OwnWalk
import Derived.Deep.DeepCutAuto
import Derived.Outline
namespace Go.Proofs.YtagmoehjcgjnjaaGreatDoor
open Go Go.RowKit

theorem run_append_two {P : Program} (w : World) (base : Nat) (t ty e : TypeId) (i : TypeInfo) (z : Value) (size bytes : Nat) (ht : P.underlying t = some (.slice e)) (hi : P.info? e = some i) (hz : i.zero = some z)
    (hsize : i.size = size) (hby : i.bytes = bytes) (hzs : z.cells.size = size) (hsz : 0 < size)
    (v : Value) (n : Nat) (xs : List Value) (hown : w.ownsRow base e size v n xs)
    (a : Addr) (m c : Nat) (news : List Value) (hl : news.length = m * size) (hnews : ∀ j u, news[j]? = some u → w.cell? (a.add j) = some u) (h1 : ∀ u ∈ news, u.oneCell' = true)
    (h63 : n + m ≤ maxLen) (hbytes : (n + m) * bytes ≤ 140737488355328) (hbase : base ≤ w.heap.size) :
    ∃ v' w', (Builtin.append_ #[t, t] ty #[v, .slice (some a) m c]).run P w = .ok v' w' ∧ w'.ownsRow base e size v' (n + m) (xs ++ news) ∧
      ((∃ g cap, v = .slice (some ⟨g, 0, none⟩) n cap ∧ v' = .slice (some ⟨g, 0, none⟩) (n + m) cap ∧ w.grownBy w' (some g)) ∨ ((∀ q, v'.ownBlock = some q → w.heap.size ≤ q) ∧ w.grownBy w' none)) := by
  obtain ⟨v', w', hr, ho, hg, h0⟩ := run_append_own w base t ty e i z size bytes ht hi hz hsize hby hzs hsz v n xs hown a m c news hl hnews h1 h63 hbytes hbase
  refine ⟨v', w', hr, ho, ?_⟩
  rcases hown.2 with ⟨rfl, rfl⟩ | ⟨g, cap, cur, rfl, hbg, hgg, hnc, hcm, hcs, htake⟩
  · right
    have hx : xs = [] := List.eq_nil_of_length_eq_zero (by simpa using hown.1)
    subst hx
    obtain ⟨v2, w2, hr2, ho2, hg2, -⟩ := run_append_own w w.heap.size t ty e i z size bytes ht hi hz hsize hby hzs hsz (.slice none 0 0) 0 [] (World.ownsRow_nil _ _ _ _) a m c news hl hnews h1 h63 hbytes (Nat.le_refl _)
    rw [hr] at hr2
    injection hr2 with e1 e2
    subst e1
    subst e2
    exact ⟨fun q hq => (ho2.lt q hq).1, hg2⟩
  · by_cases hroom : n + m ≤ cap
    · left
      subst hsize
      have hfit : n * i.size + news.length ≤ cur.size := by rw [hl, hcs, ← Nat.add_mul]; exact Nat.mul_le_mul_right _ hroom
      have hr2 := run_append_room (P := P) w t ty e i ht hi g n cap cur hgg a m c news hl hnews h1 hroom hfit
      rw [hr] at hr2
      injection hr2 with e1 e2
      exact ⟨g, cap, rfl, e1, hg⟩
    · right
      subst hsize
      subst hby
      have holds : ∀ j u, xs[j]? = some u → w.cell? ((⟨g, 0, none⟩ : Addr).add j) = some u := hown.cells (g := g) rfl
      have hr2 := run_append_grow (P := P) w t ty e i z ht hi hz ⟨g, 0, none⟩ n cap xs hown.1 holds a m c news hl hnews (by omega) (by simp only [maxLen] at h63; omega) (growslice_fits (by simp only [maxLen] at h63; omega) hbytes)
      rw [hr] at hr2
      injection hr2 with e1 e2
      subst e2
      refine ⟨fun q hq => ?_, ⟨rfl, rfl, rfl, by simp, fun k hk _ => by first | exact heap_alloc_old w.drew _ k hk | exact heap_alloc_old w.drew _ hk⟩⟩
      rw [e1] at hq
      simp [Value.ownBlock] at hq
      omega

/-- The mark of a place in a list of instructions. -/
def markI (k i : Nat) : In := ⟨0, 0, 0, false, 0, 1000003 * ((k : Int) + 7) + (i : Int), Cf.zero⟩
def marks (k n : Nat) : List In := (List.range n).map (markI k)
theorem marks_snoc (k n : Nat) : marks k (n + 1) = marks k n ++ [markI k n] := by simp [marks, List.range_succ]
theorem marks_len (k n : Nat) : (marks k n).length = n := by simp [marks]
theorem marks_at {k n i : Nat} (h : i < n) : (marks k n)[i]? = some (markI k i) := by simp [marks, h]
theorem marks_take {k n i : Nat} (h : i ≤ n) : (marks k n).take i = marks k i := by
  simp only [marks, ← List.map_take, List.take_range]
  rw [Nat.min_eq_left h]

theorem setL_size : ∀ (vs : List Value) (o : Nat) (cs : Array Value), (setL cs o vs).size = cs.size
  | [], _, _ => rfl
  | v :: r, o, cs => by rw [setL, setL_size r]; simp
theorem setL_toList : ∀ (vs : List Value) (o : Nat) (cs : Array Value), o + vs.length ≤ cs.size → (setL cs o vs).toList = cs.toList.take o ++ vs ++ cs.toList.drop (o + vs.length)
  | [], o, cs, _ => by simp [setL]
  | v :: r, o, cs, h => by
    simp only [List.length_cons] at h
    rw [setL, setL_toList r (o + 1) _ (by simp; omega)]
    have ho : o < cs.toList.length := by simp; omega
    simp only [Array.toList_setIfInBounds]
    have e1 : (cs.toList.set o v).take (o + 1) = cs.toList.take o ++ [v] := by
      rw [List.take_succ_eq_append_getElem (by simpa using ho), List.take_set_of_le (Nat.le_refl _)]
      simp
    have e2 : (cs.toList.set o v).drop (o + 1 + r.length) = cs.toList.drop (o + 1 + r.length) := List.drop_set_of_lt (by omega)
    rw [e1, e2, List.length_cons, show o + 1 + r.length = o + (r.length + 1) by omega]
    simp
theorem flatI_app (l m : List In) : flatI (l ++ m) = flatI l ++ flatI m := by simp [flatI]
theorem flatI_set : ∀ (l : List In) (i : Nat) (x : In), i < l.length → flatI (l.set i x) = (flatI l).take (i * 18) ++ x.cs.toList ++ (flatI l).drop (i * 18 + 18)
  | [], i, x, h => by simp at h
  | y :: r, 0, x, _ => by simp [flatI]
  | y :: r, i + 1, x, h => by
    have ih := flatI_set r i x (by simpa using h)
    have e : ∀ (z : In) (t : List In), flatI (z :: t) = z.cs.toList ++ flatI t := fun z t => by simp [flatI]
    have hy : y.cs.toList.length = 18 := rfl
    rw [List.set_cons_succ, e, ih, e]
    have h1 : (y.cs.toList ++ flatI r).take ((i + 1) * 18) = y.cs.toList ++ (flatI r).take (i * 18) := by
      rw [List.take_append, hy, List.take_of_length_le (by omega), show (i + 1) * 18 - 18 = i * 18 by omega]
    have h2 : (y.cs.toList ++ flatI r).drop ((i + 1) * 18 + 18) = (flatI r).drop (i * 18 + 18) := by
      rw [List.drop_append, hy, List.drop_eq_nil_of_le (by omega), List.nil_append, show (i + 1) * 18 + 18 - 18 = i * 18 + 18 by omega]
    rw [h1, h2]
    simp only [List.append_assoc]

/-- A row's block. -/
theorem InR.opened {w : World} {base : Nat} {v : Value} {l : List In} (h : InR w base v l) (h0 : 0 < l.length) :
    ∃ g cap cur, v = .slice (some ⟨g, 0, none⟩) l.length cap ∧ base ≤ g ∧ Blk w g 33 cur ∧ l.length ≤ cap ∧ cap ≤ maxLen ∧ cur.size = cap * 18 ∧ cur.toList.take (l.length * 18) = flatI l := by
  obtain ⟨-, ⟨-, h1⟩ | ⟨g, cap, cur, rfl, hb, hg, hn, hm, hs, ht⟩⟩ := h
  · omega
  · exact ⟨g, cap, cur, rfl, hb, hg, hn, hm, hs, ht⟩
theorem InR.closed {w : World} {base g cap : Nat} {l : List In} {cur : Array Value} (hb : base ≤ g) (hg : Blk w g 33 cur) (hn : l.length ≤ cap) (hm : cap ≤ maxLen) (hs : cur.size = cap * 18) (ht : cur.toList.take (l.length * 18) = flatI l) :
    InR w base (.slice (some ⟨g, 0, none⟩) l.length cap) l := ⟨flatI_len l, .inr ⟨g, cap, cur, rfl, hb, hg, hn, hm, hs, ht⟩⟩
theorem InR.put {_w w' : World} {base g cap i : Nat} {l : List In} {cur : Array Value} (x : In) (hb : base ≤ g) (hn : l.length ≤ cap) (hm : cap ≤ maxLen) (hs : cur.size = cap * 18) (ht : cur.toList.take (l.length * 18) = flatI l) (hi : i < l.length)
    (hg : Blk w' g 33 (setL cur (i * 18) x.cs.toList)) : InR w' base (.slice (some ⟨g, 0, none⟩) l.length cap) (l.set i x) := by
  have hx : x.cs.toList.length = 18 := rfl
  have hfit : i * 18 + x.cs.toList.length ≤ cur.size := by rw [hx, hs]; omega
  have hl : l.length = (l.set i x).length := by simp
  rw [hl]
  refine InR.closed hb hg (by omega) hm (by rw [setL_size]; exact hs) ?_
  rw [setL_toList _ _ _ hfit, hx, flatI_set l i x hi, ← ht, ← hl]
  have hc : cur.toList.length = cap * 18 := by simpa using hs
  rw [List.take_take, Nat.min_eq_left (by omega : i * 18 ≤ l.length * 18)]
  have e1 : (cur.toList.take (i * 18) ++ x.cs.toList).length = i * 18 + 18 := by rw [List.length_append, hx, List.length_take, hc]; omega
  rw [List.take_append, e1, List.take_of_length_le (by rw [e1]; omega), List.drop_take, show l.length * 18 - (i * 18 + 18) = l.length * 18 - (i * 18 + 18) from rfl]
/-- A row in whose block, at its end, more is written. -/
theorem InR.prefix_ {w w' : World} {base g n cap : Nat} {v : Value} {l m : List In} (h : InR w base v l) (hv : v.ownBlock = some g) (hw : ∀ cur, Blk w g 33 cur → cur.size = cap * 18) (h' : InR w' base (.slice (some ⟨g, 0, none⟩) n cap) (l ++ m)) : InR w' base v l := by
  obtain ⟨hfl, ⟨rfl, -⟩ | ⟨g1, c1, cur1, rfl, hb1, hg1, hn1, hm1, hs1, ht1⟩⟩ := h
  · simp [Value.ownBlock] at hv
  · simp [Value.ownBlock] at hv
    subst hv
    have hc := hw cur1 hg1
    obtain rfl : c1 = cap := by omega
    obtain ⟨hfl2, ⟨hh, -⟩ | ⟨g2, c2, cur2, hv2, hb2, hg2, hn2, hm2, hs2, ht2⟩⟩ := h'
    · cases hh
    · simp only [Value.slice.injEq, Option.some.injEq, Addr.mk.injEq, and_true] at hv2
      obtain ⟨rfl, rfl, rfl⟩ := hv2
      refine ⟨hfl, .inr ⟨g1, c1, cur2, rfl, hb1, hg2, hn1, hm1, hs2, ?_⟩⟩
      have : cur2.toList.take (l.length * 18) = (cur2.toList.take ((l ++ m).length * 18)).take (l.length * 18) := by
        rw [List.take_take, Nat.min_eq_left (by simp; omega)]
      rw [this, ht2, flatI_app, ← flatI_len l, List.take_left]
end Go.Proofs.YtagmoehjcgjnjaaGreatDoor

namespace Go.Proofs.YtagmoehjcgjnjaaGreatDoor
open Go Go.RowKit
attribute [local go_sem ↓] in_eql36 in_neq36

theorem mark_any (k i : Nat) (hk : k < 1000) (hi : i < 1000000) (w : World) :
    Calls Tryz.prog 75 #[.int .i64 k, .int .i64 i] w fun e w' => e = .returned (.int .i64 (1000003 * ((k : Int) + 7) + (i : Int))) ∧ Only [] w w' := by
  go_enter Tryz.func75, Tryz.ntmps75
  go_wp2
  go_ret
  refine ⟨?_, Only.refl _ _⟩
  rfl
set_option maxHeartbeats 1000000 in
theorem markI_any (k i : Nat) (hk : k < 1000) (hi : i < 1000000) (w : World) :
    Calls Tryz.prog 47 #[.int .i64 k, .int .i64 i] w fun e w' => e = .returned (markI k i).agg ∧ Only [] w w' := by
  have HM := Lib.hid (mark_any k i hk hi)
  have HE : Hid ((1000003 * ((k : Int) + 7) + (i : Int)) = (markI k i).to) := rfl
  have HI : Hid (markI k i = ⟨0, 0, 0, false, 0, (markI k i).to, Cf.zero⟩) := rfl
  rw [HE.out] at HM
  rw [HI.out]
  generalize (markI k i).to = m at *
  go_enter Tryz.func47, Tryz.ntmps47
  go_wp2_with (first
    | (go_at_call 75; refine (HM.out _).mono ?_; rintro e w1 ⟨rfl, hO1⟩)
    | (refine wpList_st 33 (In.mk 0 0 0 false 0 m Cf.zero).cs.toList w.heap.size 0 _ _ rfl (by kernel_rfl) rfl rfl rfl rfl (hO1.blk (Blk.new w 33 (In.only 0).cs) (by simp)) (Nat.le_of_ble_eq_true rfl) ?_; intro w4 hB4 hO5))
  have hB5 : Blk w4 w.heap.size 33 (In.mk 0 0 0 false 0 m Cf.zero).cs := by
    have e : setL (In.only 0).cs 0 (In.mk 0 0 0 false 0 m Cf.zero).cs.toList = (In.mk 0 0 0 false 0 m Cf.zero).cs := setL_in _ _
    rw [← e]
    exact hB4
  have hr := run_loadVar_mid w4 w.heap.size 0 _ (In.mk 0 0 0 false 0 m Cf.zero).cs.toList _ (Blk.rng hB5) Tryz.underlying33 rfl (by kernel_rfl)
  exact bodyPost_ret (v := (In.mk 0 0 0 false 0 m Cf.zero).agg) (by simp [results, Tryz.results47, asAddr, hr]) rfl ⟨rfl, (((Only.refl [] w).alloc (.cells (In.only 0).cs 33)).trans hO1).trans' hO5 (by intro z hz hlt; simp at hz; omega)⟩

theorem row_lt0 {w : World} {base g n cap : Nat} {xs : List Value} (h : w.ownsRow base 33 18 (.slice (some ⟨g, 0, none⟩) n cap) n xs) : g < w.heap.size := (h.lt g rfl).2
theorem rowI_only {w w' : World} {base : Nat} {v : Value} {n : Nat} {xs : List Value} (h : w.ownsRow base 33 18 v n xs) (hO : Only [] w w') : w'.ownsRow base 33 18 v n xs := row_onlyB h hO
theorem cells_at {w : World} {g : Nat} {t : TypeId} {cs : Array Value} (h : Blk w g t cs) : ∀ (j : Nat) u, cs.toList[j]? = some u → w.cell? ((⟨g, 0, none⟩ : Addr).add j) = some u := by
  intro j u hu
  rw [Addr.add_mid, Nat.zero_add, h.cell j, ← Array.getElem?_toList]
  exact hu
theorem one_of (x : In) : ∀ u ∈ x.cs.toList, u.oneCell' = true := by
  intro u hu
  simp only [List.mem_cons, List.not_mem_nil, or_false] at hu
  rcases hu with rfl | rfl | rfl | rfl | rfl | rfl | rfl | rfl | rfl | rfl | rfl | rfl | rfl | rfl | rfl | rfl | rfl | rfl <;> rfl
theorem run_append_none {P : Program} (w : World) (t ty e : TypeId) (i : TypeInfo) (ht : P.underlying t = some (.slice e)) (hi : P.info? e = some i) (g n cap c : Nat) (hroom : n ≤ cap) :
    (Builtin.append_ #[t, t] ty #[.slice (some ⟨g, 0, none⟩) n cap, .slice none 0 c]).run P w = .ok (.slice (some ⟨g, 0, none⟩) n cap) w := by
  simp [Builtin.append_, run_underlying ht, sizeOf, typeInfo, hi, Builtin.lenOf, Builtin.firstCells, loadCells, storeCells, hroom, Result.andThen]
theorem wpList_append_none {P : Program} (w : World) {ops : Array Oper} {rest : List Oper} {o : Oper} {a : Act} {Q : Exit → Act → World → Prop}
    (hg : o.guard = none) (s x : Operand) (t : TypeId) (hop : o.op = Op.call { callee := Callee.builtin Builtin.append, args := #[s, x], argTypes := #[t, t] })
    (e : TypeId) (i : TypeInfo) (h1 : P.underlying t = some (.slice e)) (h2 : P.info? e = some i) (g k cap c : Nat) (hs : a.eval s = .slice (some ⟨g, 0, none⟩) k cap) (hx : a.eval x = .slice none 0 c) (b1 : k ≤ cap)
    (hK : wpList P ops Q rest (a.put o.dst (.slice (some ⟨g, 0, none⟩) k cap)) w) : wpList P ops Q (o :: rest) a w := by
  refine wpList_plain hg fun K hK' => ?_
  have hrun := run_append_none (P := P) w t o.type e i h1 h2 g k cap c b1
  unfold Oper.wp
  simp [execOp, hop, resolve, invoke, builtin, hs, hx, hrun, Result.andThen]
  exact hK' _ _ hK

set_option maxRecDepth 100000 in
set_option maxHeartbeats 4000000 in
theorem lent_any (l : List In) (hl : l.length ≤ 100000) (v : Value) (w : World) (hv : InS w v l) :
    Calls Tryz.prog 22 #[v] w fun e w' => ∃ g cap, e = .returned (.slice (some ⟨g, 0, none⟩) l.length cap) ∧ InR w' w.heap.size (.slice (some ⟨g, 0, none⟩) (l.length + 12) cap) (l ++ marks 1 12) ∧ Only [] w w' := by
  obtain ⟨i0, hi0, hz0, hz1, hz2⟩ := info_parts infoInstr
  have HV := Lib.hid hv
  obtain ⟨p, c, rfl⟩ := hv.len
  clear hv
  have hcap : ((l.length : Int) + 12) = ((l.length + 12 : Nat) : Int) := by omega
  have HC := Lib.hid hcap
  clear hcap
  have hmk : i0.bytes * (l.length + 12) ≤ 281474976710656 := by rw [hz2]; omega
  have HM := Lib.hid hmk
  clear hmk
  go_enter Tryz.func22, Tryz.ntmps22
  go_upto_region 2 with (refine wpList_make_own _ rfl _ _ 22 rfl w.heap.size 33 i0 _ 18 Tryz.underlying22 hi0 hz0 hz1 .i64 .i64 _ (l.length + 12) rfl rfl HC.out HM.out (by unfold maxLen; omega) (Nat.le_refl _) ?_; intro w1 hown1 hg1)
  have hO1 : Only [] w w1 := ⟨hg1.os, hg1.tape, hg1.output, hg1.size, fun k hk _ => hg1.block k hk (by simp)⟩
  have HO1 := Lib.hid (And.intro hown1 hO1)
  clear hown1 hg1 hO1
  go_cut [3] (fun v wx => v = .slice (some ⟨w.heap.size, 0, none⟩) l.length (l.length + 12) ∧ InR wx w.heap.size (.slice (some ⟨w.heap.size, 0, none⟩) l.length (l.length + 12)) l ∧ Only [] w wx)
  case first =>
    by_cases h0 : l = []
    · subst h0
      cases p with
      | none =>
        go_wp2_with (at_builtin; refine wpList_append_none _ rfl _ _ 22 rfl 33 i0 Tryz.underlying22 hi0 w.heap.size 0 12 c rfl rfl (by omega) ?_)
        go_meet
        exact ⟨rfl, HO1.out.1, HO1.out.2⟩
      | some ad =>
        go_wp2_with (at_builtin; refine wpList_append_fits _ rfl _ _ 22 rfl w.heap.size 33 i0 18 Tryz.underlying22 hi0 hz1 w.heap.size 0 12 [] rfl HO1.out.1 ad 0 c [] rfl rfl (fun _ _ h => by simp at h) (fun _ h => by simp at h) (by omega) ?_; intro w2 hown2 hg2)
        go_meet
        exact ⟨rfl, hown2, HO1.out.2.trans' (S' := [w.heap.size]) ⟨hg2.os, hg2.tape, hg2.output, hg2.size, fun k hk hn => hg2.block k hk (by simpa using hn)⟩ (by intro z hz hlt; simp at hz; omega)⟩
    · obtain ⟨b, off, c2, hvv, h1, hlc, hb, hE⟩ := HV.out.resolve_left (fun ⟨_, _, _, h⟩ => h0 h)
      simp only [Value.slice.injEq, true_and] at hvv
      obtain ⟨rfl, rfl⟩ := hvv
      have HN : Hid (∀ (j : Nat) u, (flatI l)[j]? = some u → w1.cell? ((⟨b, off, none⟩ : Addr).add j) = some u) := Lib.hid (fun j u hu => by
        have := flatI_row (w := w1) (b := b) (off := off) l 0 (fun j x hj => by rw [Nat.zero_add]; exact rng_only (hE j x hj) HO1.out.2 hb (by simp)) j u hu
        rw [Addr.add_mid]
        simpa using this)
      clear hE h0
      go_wp2_with (at_builtin; refine wpList_append_fits _ rfl _ _ 22 rfl w.heap.size 33 i0 18 Tryz.underlying22 hi0 hz1 w.heap.size 0 (l.length + 12) [] rfl HO1.out.1 ⟨b, off, none⟩ l.length c (flatI l) rfl (flatI_len l) HN.out one_cells (by omega) ?_; intro w2 hown2 hg2)
      go_meet
      rw [Nat.zero_add] at hown2
      exact ⟨by simp, hown2, HO1.out.2.trans' (S' := [w.heap.size]) ⟨hg2.os, hg2.tape, hg2.output, hg2.size, fun k hk hn => hg2.block k hk (by simpa using hn)⟩ (by intro z hz hlt; simp at hz; omega)⟩
  case rest =>
    obtain ⟨rfl, hR, hO⟩ := hcut
    clear HO1 HV HM
    go_wp2_with fail
    go_loopw [3, 4] (fun o i wr => ∃ k : Nat, i = .int .i64 k ∧ k ≤ 12 ∧ o = .slice (some ⟨w.heap.size, 0, none⟩) (l.length + k) (l.length + 12) ∧ InR wr w.heap.size (.slice (some ⟨w.heap.size, 0, none⟩) (l.length + k) (l.length + 12)) (l ++ marks 1 k) ∧ Only [] w wr) (fun _ i _ => 12 - (intOf i).toNat)
    case atStart => exact ⟨0, rfl, by omega, rfl, by simpa [marks] using hR, hO⟩
    case round =>
      clear hR hO
      obtain ⟨k, rfl, hk, rfl, hR, hO⟩ := hrel
      by_cases hkl : k < 12
      · have hki : (k : Int) < 12 := by omega
        have HK := Lib.hid (markI_any 1 k (by omega) (by omega))
        have hmk := marks_snoc 1 k
        have hown0 : wr.ownsRow w.heap.size 33 18 (.slice (some ⟨w.heap.size, 0, none⟩) (l.length + k) (l.length + 12)) (l.length + k) (flatI (l ++ marks 1 k)) := by
          have := hR
          unfold InR at this
          rw [List.length_append, marks_len] at this
          exact this
        have HR := Lib.hid hown0
        have HT := Lib.hid hmk
        have HO := Lib.hid hO
        have hwl := hO.size
        have hlt := row_lt0 hown0
        clear hR hO hown0 hmk
        generalize markI 1 k = x at *
        go_wp2_with (first
          | (go_at_call 47; refine (HK.out _).mono ?_; rintro e w2 ⟨rfl, hO2⟩)
          | (at_builtin; refine wpList_append_fits _ rfl _ _ 22 rfl w.heap.size 33 i0 18 Tryz.underlying22 hi0 hz1 w.heap.size (l.length + k) (l.length + 12) (flatI (l ++ marks 1 k)) rfl (rowI_only HR.out (hO2.alloc (.cells x.cs 33))) ⟨w2.heap.size, 0, none⟩ 1 1 x.cs.toList rfl rfl (cells_at (Blk.new w2 33 x.cs)) (one_of x) (by omega) ?_; intro w3 hown3 hg3))
        refine ⟨⟨k + 1, by go_num, by omega, by rw [Nat.add_assoc], ?_, ?_⟩, ?_⟩
        · unfold InR
          rw [HT.out, ← List.append_assoc, flatI_snoc, List.length_append, List.length_append, marks_len, List.length_singleton]
          exact hown3
        · exact (HO.out.trans (hO2.alloc (.cells x.cs 33))).trans' (S' := [w.heap.size]) ⟨hg3.os, hg3.tape, hg3.output, hg3.size, fun k hk hn => hg3.block k hk (by simpa using hn)⟩ (by intro z hz hlt; simp at hz; omega)
        · simp [intOf]
          omega
      · obtain rfl : k = 12 := by omega
        have hki : ¬ ((12 : Nat) : Int) < 12 := by omega
        go_wp2_with fail
        go_returns
        exact ⟨_, _, rfl, hR, hO⟩

set_option maxRecDepth 100000 in
set_option maxHeartbeats 4000000 in
theorem kept_any (l : List In) (hl : l.length ≤ 100000) (base g cap : Nat) (v : Value) (w : World) (hv : InS w v l) (hR : InR w base (.slice (some ⟨g, 0, none⟩) (l.length + 12) cap) (l ++ marks 1 12)) :
    Calls Tryz.prog 25 #[.slice (some ⟨g, 0, none⟩) l.length cap, v] w fun e w' => e = .returned (.bool true) ∧ Only [] w w' := by
  have HV := Lib.hid hv
  obtain ⟨p, c, rfl⟩ := hv.len
  have hcap : l.length + 12 ≤ cap ∧ g < w.heap.size ∧ ∀ (j : Nat) y, (l ++ marks 1 12)[j]? = some y → w.rangeAt g (0 + j * 18) y.cs.toList := by
    have hin := hR.ins
    rcases hin with ⟨p2, c2, h1, h2⟩ | ⟨b, off, c2, h1, h2, h3, h4, h5⟩
    · simp only [Value.slice.injEq] at h1; omega
    · simp only [Value.slice.injEq, Option.some.injEq, Addr.mk.injEq, and_true] at h1
      obtain ⟨⟨rfl, rfl⟩, h6, rfl⟩ := h1
      exact ⟨by omega, h4, h5⟩
  have HC := Lib.hid hcap.2
  have hc1 := hcap.1
  have hc1i : (l.length : Int) + 12 ≤ (cap : Int) := by omega
  have hnb : ((l.length : Int) != (l.length : Int)) = false := by simp
  clear hv hR hcap
  go_enter Tryz.func25, Tryz.ntmps25
  go_wp2_with fail
  go_loopw [6] (fun i wr => ∃ k : Nat, i = .int .i64 k ∧ k ≤ l.length + 12 ∧ Only [] w wr) (fun i _ => l.length + 12 - (intOf i).toNat)
  case atStart => exact ⟨0, rfl, by omega, Only.refl _ _⟩
  case round =>
    obtain ⟨k, rfl, hk, hO⟩ := hrel
    by_cases hkl : k < l.length + 12
    · have hki : (k : Int) < ((l.length + 12 : Nat) : Int) := by omega
      have hki3 : (k : Int) < (l.length : Int) + 12 := by omega
      have hk0 : (0 : Int) ≤ (k : Int) := by omega
      by_cases hkn : k < l.length
      · have hki2 : (k : Int) < (l.length : Int) := by omega
        have hdc : decide (l.length ≤ k) = false := decide_eq_false (by omega)
        obtain ⟨b, off, c2, hvv, h0, hlc, hb, hE⟩ := HV.out.resolve_left (fun ⟨_, _, _, h⟩ => by rw [h] at hkn; simp at hkn)
        simp only [Value.slice.injEq, true_and] at hvv
        obtain ⟨rfl, rfl⟩ := hvv
        have HX2 : Hid (∀ W, Only [] wr W → W.rangeAt b (off + k * 18) l[k].cs.toList) := Lib.hid (fun W hW => rng_only (hE k l[k] (by simp)) (hO.trans hW) hb (by simp))
        have HX1 : Hid (∀ W, Only [] wr W → W.rangeAt g (0 + k * 18) l[k].cs.toList) := Lib.hid (fun W hW => rng_only (HC.out.2 k l[k] (by rw [List.getElem?_append_left hkn]; simp)) (hO.trans hW) HC.out.1 (by simp))
        have HX1z : Hid (∀ W, Only [] wr W → W.rangeAt g (k * 18) l[k].cs.toList) := Lib.hid (fun W hW => by have := HX1.out W hW; rwa [Nat.zero_add] at this)
        clear hE
        generalize l[k] = x at *
        have hs2 : In.same ⟨x.op, x.sz, x.ad, x.ix, x.dt, x.to, ⟨x.cf.kd, x.cf.ix, x.cf.wo, x.cf.ln, x.cf.on, x.cf.rw, x.cf.fr, x.cf.tt, x.cf.rd, x.cf.wt, x.cf.rk, x.cf.lk⟩⟩ ⟨x.op, x.sz, x.ad, x.ix, x.dt, x.to, ⟨x.cf.kd, x.cf.ix, x.cf.wo, x.cf.ln, x.cf.on, x.cf.rw, x.cf.fr, x.cf.tt, x.cf.rd, x.cf.wt, x.cf.rk, x.cf.lk⟩⟩ = true := (In.same_iff x x).2 rfl
        have HK := Lib.hid (markI_any 1 0 (by omega) (by omega))
        go_wp2_with fail
        refine wp_region_D (Only [] wr) (by kernel_rfl) (by kernel_rfl) ((Only.refl _ _).drew) ?_
        repeat (first
          | (refine wpT_step _ (stD_skip rfl) ?_
             simp only [Act.put, List.setIfInBounds_toArray, List.set_cons_succ, List.set_cons_zero, Nat.reduceAdd])
          | (refine wpT_step ?_ (stD rfl (fun w' hD => ?_)) ?_
             rotate_left
             · first
                 | (refine @st_ld (Only [] wr) _ _ _ (.tmp 30) ?_ g (0 + k * 18) ?_ x (HX1.out _ hD) hD <;> rfl)
                 | (refine @st_ld (Only [] wr) _ _ _ (.tmp 30) ?_ g (k * 18) ?_ x (HX1z.out _ hD) hD <;> rfl)
                 | (refine @st_ld (Only [] wr) _ _ _ (.tmp 34) ?_ b (off + k * 18) ?_ x (HX2.out _ hD) hD <;> rfl)
                 | (go_simp; refine ⟨?_, hD⟩; rfl)
                 | (go_simp; refine (HK.out w').mono ?_; rintro e w'' ⟨rfl, h⟩; refine ⟨?_, hD.trans h⟩; rfl)
             simp only [Act.put, List.setIfInBounds_toArray, List.set_cons_succ, List.set_cons_zero, Nat.reduceAdd]))
        refine wpT_nil ?_
        intro w6 hD
        go_wp2_with fail
        refine ⟨⟨k + 1, by go_num, by omega, hO.trans hD⟩, ?_⟩
        simp [intOf]
        omega
      · have hki2 : ¬ (k : Int) < (l.length : Int) := by omega
        have hki4 : (l.length : Int) ≤ (k : Int) := by omega
        have hdc : decide (l.length ≤ k) = true := decide_eq_true (by omega)
        have hdc2 : decide (k < l.length) = false := decide_eq_false (by omega)
        have hsub : (k : Int) - (l.length : Int) = ((k - l.length : Nat) : Int) := by omega
        have HK := Lib.hid (markI_any 1 (k - l.length) (by omega) (by omega))
        rw [← hsub] at HK
        have HX1 : Hid (∀ W, Only [] wr W → W.rangeAt g (0 + k * 18) (markI 1 (k - l.length)).cs.toList) := Lib.hid (fun W hW => rng_only (HC.out.2 k (markI 1 (k - l.length)) (by rw [List.getElem?_append_right (by omega)]; exact marks_at (by omega))) (hO.trans hW) HC.out.1 (by simp))
        have HX1z : Hid (∀ W, Only [] wr W → W.rangeAt g (k * 18) (markI 1 (k - l.length)).cs.toList) := Lib.hid (fun W hW => by have := HX1.out W hW; rwa [Nat.zero_add] at this)
        generalize markI 1 (k - l.length) = x at *
        have HS := Lib.hid hsub
        have hwr : IntKind.i64.wrap ((k : Int) - (l.length : Int)) = (k : Int) - (l.length : Int) := IntWalk.i64_in _ (by omega)
        clear hsub
        have hs2 : In.same ⟨x.op, x.sz, x.ad, x.ix, x.dt, x.to, ⟨x.cf.kd, x.cf.ix, x.cf.wo, x.cf.ln, x.cf.on, x.cf.rw, x.cf.fr, x.cf.tt, x.cf.rd, x.cf.wt, x.cf.rk, x.cf.lk⟩⟩ ⟨x.op, x.sz, x.ad, x.ix, x.dt, x.to, ⟨x.cf.kd, x.cf.ix, x.cf.wo, x.cf.ln, x.cf.on, x.cf.rw, x.cf.fr, x.cf.tt, x.cf.rd, x.cf.wt, x.cf.rk, x.cf.lk⟩⟩ = true := (In.same_iff x x).2 rfl
        go_wp2_with fail
        refine wp_region_D (Only [] wr) (by kernel_rfl) (by kernel_rfl) ((Only.refl _ _).drew) ?_
        repeat (first
          | (refine wpT_step _ (stD_skip rfl) ?_
             simp only [Act.put, List.setIfInBounds_toArray, List.set_cons_succ, List.set_cons_zero, Nat.reduceAdd])
          | (refine wpT_step ?_ (stD rfl (fun w' hD => ?_)) ?_
             rotate_left
             · first
                 | (refine @st_ld (Only [] wr) _ _ _ (.tmp 47) ?_ g (0 + k * 18) ?_ x (HX1.out _ hD) hD <;> rfl)
                 | (refine @st_ld (Only [] wr) _ _ _ (.tmp 47) ?_ g (k * 18) ?_ x (HX1z.out _ hD) hD <;> rfl)
                 | (go_simp; refine ⟨?_, hD⟩; rfl)
                 | (go_simp; refine (HK.out w').mono ?_; rintro e w'' ⟨rfl, h⟩; refine ⟨?_, hD.trans h⟩; rfl)
             simp only [Act.put, List.setIfInBounds_toArray, List.set_cons_succ, List.set_cons_zero, Nat.reduceAdd]))
        refine wpT_nil ?_
        intro w6 hD
        go_wp2_with fail
        refine ⟨⟨k + 1, by go_num, by omega, hO.trans hD⟩, ?_⟩
        simp [intOf]
        omega
    · have hki : ¬ (k : Int) < ((l.length + 12 : Nat) : Int) := by omega
      have hki3 : ¬ (k : Int) < (l.length : Int) + 12 := by omega
      go_wp2_with fail
      go_returns
      exact ⟨rfl, hO⟩
end Go.Proofs.YtagmoehjcgjnjaaGreatDoor

namespace Go.Proofs.YtagmoehjcgjnjaaGreatDoor
open Go Go.RowKit

set_option maxRecDepth 100000 in
set_option maxHeartbeats 2000000 in
theorem flat0_Limbs (w : World) : Calls Tryz.prog 78 #[.slice none 0 0] w fun e w' => e = .returned (.bool true) ∧ Only [] w w' := by
  have hms : ∀ W, (Instr.makeSlice 85 (.int .i64 0) (.int .i64 0)).run Tryz.prog W = .ok (.slice (some ⟨W.heap.size, 0, none⟩) 0 0) (W.alloc (.cells #[] 41)) := fun W => by kernel_rfl
  go_enter Tryz.func78, Tryz.ntmps78
  go_wp2_with fail
  go_loopw [3] (fun i wr => i = .int .i64 0 ∧ Only [] w wr) (fun _ _ => 0)
  case atStart => exact ⟨rfl, Only.refl _ _⟩
  case round =>
    obtain ⟨rfl, hO⟩ := hrel
    go_wp2_with fail
    go_loopw [6] (fun i wr => i = .int .i64 0 ∧ Only [] w wr) (fun _ _ => 0)
    case atStart => exact ⟨rfl, hO.alloc _⟩
    case round =>
      clear hO
      obtain ⟨rfl, hO⟩ := hrel
      go_wp2_with fail
      go_loopw [9] (fun i wr => i = .int .i64 0 ∧ Only [] w wr) (fun _ _ => 0)
      case atStart => exact ⟨rfl, hO⟩
      case round =>
        clear hO
        obtain ⟨rfl, hO⟩ := hrel
        go_wp2_with fail
        go_loopw [11] (fun i wr => i = .int .i64 0 ∧ Only [] w wr) (fun _ _ => 0)
        case atStart => exact ⟨rfl, hO⟩
        case round =>
          clear hO
          obtain ⟨rfl, hO⟩ := hrel
          go_wp2_with fail
          go_loopw [14] (fun i wr => i = .int .i64 0 ∧ Only [] w wr) (fun _ _ => 0)
          case atStart => exact ⟨rfl, hO⟩
          case round =>
            clear hO
            obtain ⟨rfl, hO⟩ := hrel
            go_wp2_with fail
            go_returns
            exact ⟨rfl, hO⟩

set_option maxRecDepth 100000 in
set_option maxHeartbeats 2000000 in
theorem flat0_Words (w : World) : Calls Tryz.prog 79 #[.slice none 0 0] w fun e w' => e = .returned (.bool true) ∧ Only [] w w' := by
  have hms : ∀ W, (Instr.makeSlice 86 (.int .i64 0) (.int .i64 0)).run Tryz.prog W = .ok (.slice (some ⟨W.heap.size, 0, none⟩) 0 0) (W.alloc (.cells #[] 158)) := fun W => by kernel_rfl
  go_enter Tryz.func79, Tryz.ntmps79
  go_wp2_with fail
  go_loopw [3] (fun i wr => i = .int .i64 0 ∧ Only [] w wr) (fun _ _ => 0)
  case atStart => exact ⟨rfl, Only.refl _ _⟩
  case round =>
    obtain ⟨rfl, hO⟩ := hrel
    go_wp2_with fail
    go_loopw [6] (fun i wr => i = .int .i64 0 ∧ Only [] w wr) (fun _ _ => 0)
    case atStart => exact ⟨rfl, hO.alloc _⟩
    case round =>
      clear hO
      obtain ⟨rfl, hO⟩ := hrel
      go_wp2_with fail
      go_loopw [9] (fun i wr => i = .int .i64 0 ∧ Only [] w wr) (fun _ _ => 0)
      case atStart => exact ⟨rfl, hO⟩
      case round =>
        clear hO
        obtain ⟨rfl, hO⟩ := hrel
        go_wp2_with fail
        go_loopw [11] (fun i wr => i = .int .i64 0 ∧ Only [] w wr) (fun _ _ => 0)
        case atStart => exact ⟨rfl, hO⟩
        case round =>
          clear hO
          obtain ⟨rfl, hO⟩ := hrel
          go_wp2_with fail
          go_loopw [14] (fun i wr => i = .int .i64 0 ∧ Only [] w wr) (fun _ _ => 0)
          case atStart => exact ⟨rfl, hO⟩
          case round =>
            clear hO
            obtain ⟨rfl, hO⟩ := hrel
            go_wp2_with fail
            go_returns
            exact ⟨rfl, hO⟩

set_option maxRecDepth 100000 in
set_option maxHeartbeats 2000000 in
theorem flat0_Ints (w : World) : Calls Tryz.prog 80 #[.slice none 0 0] w fun e w' => e = .returned (.bool true) ∧ Only [] w w' := by
  have hms : ∀ W, (Instr.makeSlice 87 (.int .i64 0) (.int .i64 0)).run Tryz.prog W = .ok (.slice (some ⟨W.heap.size, 0, none⟩) 0 0) (W.alloc (.cells #[] 42)) := fun W => by kernel_rfl
  go_enter Tryz.func80, Tryz.ntmps80
  go_wp2_with fail
  go_loopw [3] (fun i wr => i = .int .i64 0 ∧ Only [] w wr) (fun _ _ => 0)
  case atStart => exact ⟨rfl, Only.refl _ _⟩
  case round =>
    obtain ⟨rfl, hO⟩ := hrel
    go_wp2_with fail
    go_loopw [6] (fun i wr => i = .int .i64 0 ∧ Only [] w wr) (fun _ _ => 0)
    case atStart => exact ⟨rfl, hO.alloc _⟩
    case round =>
      clear hO
      obtain ⟨rfl, hO⟩ := hrel
      go_wp2_with fail
      go_loopw [9] (fun i wr => i = .int .i64 0 ∧ Only [] w wr) (fun _ _ => 0)
      case atStart => exact ⟨rfl, hO⟩
      case round =>
        clear hO
        obtain ⟨rfl, hO⟩ := hrel
        go_wp2_with fail
        go_loopw [11] (fun i wr => i = .int .i64 0 ∧ Only [] w wr) (fun _ _ => 0)
        case atStart => exact ⟨rfl, hO⟩
        case round =>
          clear hO
          obtain ⟨rfl, hO⟩ := hrel
          go_wp2_with fail
          go_loopw [14] (fun i wr => i = .int .i64 0 ∧ Only [] w wr) (fun _ _ => 0)
          case atStart => exact ⟨rfl, hO⟩
          case round =>
            clear hO
            obtain ⟨rfl, hO⟩ := hrel
            go_wp2_with fail
            go_returns
            exact ⟨rfl, hO⟩

set_option maxRecDepth 100000 in
set_option maxHeartbeats 2000000 in
theorem flat0_Longs (w : World) : Calls Tryz.prog 81 #[.slice none 0 0] w fun e w' => e = .returned (.bool true) ∧ Only [] w w' := by
  have hms : ∀ W, (Instr.makeSlice 88 (.int .i64 0) (.int .i64 0)).run Tryz.prog W = .ok (.slice (some ⟨W.heap.size, 0, none⟩) 0 0) (W.alloc (.cells #[] 159)) := fun W => by kernel_rfl
  go_enter Tryz.func81, Tryz.ntmps81
  go_wp2_with fail
  go_loopw [3] (fun i wr => i = .int .i64 0 ∧ Only [] w wr) (fun _ _ => 0)
  case atStart => exact ⟨rfl, Only.refl _ _⟩
  case round =>
    obtain ⟨rfl, hO⟩ := hrel
    go_wp2_with fail
    go_loopw [6] (fun i wr => i = .int .i64 0 ∧ Only [] w wr) (fun _ _ => 0)
    case atStart => exact ⟨rfl, hO.alloc _⟩
    case round =>
      clear hO
      obtain ⟨rfl, hO⟩ := hrel
      go_wp2_with fail
      go_loopw [9] (fun i wr => i = .int .i64 0 ∧ Only [] w wr) (fun _ _ => 0)
      case atStart => exact ⟨rfl, hO⟩
      case round =>
        clear hO
        obtain ⟨rfl, hO⟩ := hrel
        go_wp2_with fail
        go_loopw [11] (fun i wr => i = .int .i64 0 ∧ Only [] w wr) (fun _ _ => 0)
        case atStart => exact ⟨rfl, hO⟩
        case round =>
          clear hO
          obtain ⟨rfl, hO⟩ := hrel
          go_wp2_with fail
          go_loopw [14] (fun i wr => i = .int .i64 0 ∧ Only [] w wr) (fun _ _ => 0)
          case atStart => exact ⟨rfl, hO⟩
          case round =>
            clear hO
            obtain ⟨rfl, hO⟩ := hrel
            go_wp2_with fail
            go_returns
            exact ⟨rfl, hO⟩

set_option maxRecDepth 100000 in
set_option maxHeartbeats 2000000 in
theorem flat0_Texts (w : World) : Calls Tryz.prog 82 #[.slice none 0 0] w fun e w' => e = .returned (.bool true) ∧ Only [] w w' := by
  have hms : ∀ W, (Instr.makeSlice 89 (.int .i64 0) (.int .i64 0)).run Tryz.prog W = .ok (.slice (some ⟨W.heap.size, 0, none⟩) 0 0) (W.alloc (.cells #[] 43)) := fun W => by kernel_rfl
  go_enter Tryz.func82, Tryz.ntmps82
  go_wp2_with fail
  go_loopw [3] (fun i wr => i = .int .i64 0 ∧ Only [] w wr) (fun _ _ => 0)
  case atStart => exact ⟨rfl, Only.refl _ _⟩
  case round =>
    obtain ⟨rfl, hO⟩ := hrel
    go_wp2_with fail
    go_loopw [6] (fun i wr => i = .int .i64 0 ∧ Only [] w wr) (fun _ _ => 0)
    case atStart => exact ⟨rfl, hO.alloc _⟩
    case round =>
      clear hO
      obtain ⟨rfl, hO⟩ := hrel
      go_wp2_with fail
      go_loopw [9] (fun i wr => i = .int .i64 0 ∧ Only [] w wr) (fun _ _ => 0)
      case atStart => exact ⟨rfl, hO⟩
      case round =>
        clear hO
        obtain ⟨rfl, hO⟩ := hrel
        go_wp2_with fail
        go_loopw [11] (fun i wr => i = .int .i64 0 ∧ Only [] w wr) (fun _ _ => 0)
        case atStart => exact ⟨rfl, hO⟩
        case round =>
          clear hO
          obtain ⟨rfl, hO⟩ := hrel
          go_wp2_with fail
          go_loopw [14] (fun i wr => i = .int .i64 0 ∧ Only [] w wr) (fun _ _ => 0)
          case atStart => exact ⟨rfl, hO⟩
          case round =>
            clear hO
            obtain ⟨rfl, hO⟩ := hrel
            go_wp2_with fail
            go_returns
            exact ⟨rfl, hO⟩

set_option maxRecDepth 100000 in
set_option maxHeartbeats 2000000 in
theorem flat0_Bytes (w : World) : Calls Tryz.prog 83 #[.slice none 0 0] w fun e w' => e = .returned (.bool true) ∧ Only [] w w' := by
  have hms : ∀ W, (Instr.makeSlice 90 (.int .i64 0) (.int .i64 0)).run Tryz.prog W = .ok (.slice (some ⟨W.heap.size, 0, none⟩) 0 0) (W.alloc (.cells #[] 105)) := fun W => by kernel_rfl
  go_enter Tryz.func83, Tryz.ntmps83
  go_wp2_with fail
  go_loopw [3] (fun i wr => i = .int .i64 0 ∧ Only [] w wr) (fun _ _ => 0)
  case atStart => exact ⟨rfl, Only.refl _ _⟩
  case round =>
    obtain ⟨rfl, hO⟩ := hrel
    go_wp2_with fail
    go_loopw [6] (fun i wr => i = .int .i64 0 ∧ Only [] w wr) (fun _ _ => 0)
    case atStart => exact ⟨rfl, hO.alloc _⟩
    case round =>
      clear hO
      obtain ⟨rfl, hO⟩ := hrel
      go_wp2_with fail
      go_loopw [9] (fun i wr => i = .int .i64 0 ∧ Only [] w wr) (fun _ _ => 0)
      case atStart => exact ⟨rfl, hO⟩
      case round =>
        clear hO
        obtain ⟨rfl, hO⟩ := hrel
        go_wp2_with fail
        go_loopw [11] (fun i wr => i = .int .i64 0 ∧ Only [] w wr) (fun _ _ => 0)
        case atStart => exact ⟨rfl, hO⟩
        case round =>
          clear hO
          obtain ⟨rfl, hO⟩ := hrel
          go_wp2_with fail
          go_loopw [14] (fun i wr => i = .int .i64 0 ∧ Only [] w wr) (fun _ _ => 0)
          case atStart => exact ⟨rfl, hO⟩
          case round =>
            clear hO
            obtain ⟨rfl, hO⟩ := hrel
            go_wp2_with fail
            go_returns
            exact ⟨rfl, hO⟩

set_option maxRecDepth 100000 in
set_option maxHeartbeats 2000000 in
theorem flat0_Truths (w : World) : Calls Tryz.prog 84 #[.slice none 0 0] w fun e w' => e = .returned (.bool true) ∧ Only [] w w' := by
  have hms : ∀ W, (Instr.makeSlice 91 (.int .i64 0) (.int .i64 0)).run Tryz.prog W = .ok (.slice (some ⟨W.heap.size, 0, none⟩) 0 0) (W.alloc (.cells #[] 161)) := fun W => by kernel_rfl
  go_enter Tryz.func84, Tryz.ntmps84
  go_wp2_with fail
  go_loopw [3] (fun i wr => i = .int .i64 0 ∧ Only [] w wr) (fun _ _ => 0)
  case atStart => exact ⟨rfl, Only.refl _ _⟩
  case round =>
    obtain ⟨rfl, hO⟩ := hrel
    go_wp2_with fail
    go_loopw [6] (fun i wr => i = .int .i64 0 ∧ Only [] w wr) (fun _ _ => 0)
    case atStart => exact ⟨rfl, hO.alloc _⟩
    case round =>
      clear hO
      obtain ⟨rfl, hO⟩ := hrel
      go_wp2_with fail
      go_loopw [9] (fun i wr => i = .int .i64 0 ∧ Only [] w wr) (fun _ _ => 0)
      case atStart => exact ⟨rfl, hO⟩
      case round =>
        clear hO
        obtain ⟨rfl, hO⟩ := hrel
        go_wp2_with fail
        go_loopw [11] (fun i wr => i = .int .i64 0 ∧ Only [] w wr) (fun _ _ => 0)
        case atStart => exact ⟨rfl, hO⟩
        case round =>
          clear hO
          obtain ⟨rfl, hO⟩ := hrel
          go_wp2_with fail
          go_loopw [14] (fun i wr => i = .int .i64 0 ∧ Only [] w wr) (fun _ _ => 0)
          case atStart => exact ⟨rfl, hO⟩
          case round =>
            clear hO
            obtain ⟨rfl, hO⟩ := hrel
            go_wp2_with fail
            go_returns
            exact ⟨rfl, hO⟩

set_option maxRecDepth 100000 in
set_option maxHeartbeats 2000000 in
theorem flat0_Reaches (w : World) : Calls Tryz.prog 85 #[.slice none 0 0] w fun e w' => e = .returned (.bool true) ∧ Only [] w w' := by
  have hms : ∀ W, (Instr.makeSlice 92 (.int .i64 0) (.int .i64 0)).run Tryz.prog W = .ok (.slice (some ⟨W.heap.size, 0, none⟩) 0 0) (W.alloc (.cells #[] 162)) := fun W => by kernel_rfl
  go_enter Tryz.func85, Tryz.ntmps85
  go_wp2_with fail
  go_loopw [3] (fun i wr => i = .int .i64 0 ∧ Only [] w wr) (fun _ _ => 0)
  case atStart => exact ⟨rfl, Only.refl _ _⟩
  case round =>
    obtain ⟨rfl, hO⟩ := hrel
    go_wp2_with fail
    go_loopw [6] (fun i wr => i = .int .i64 0 ∧ Only [] w wr) (fun _ _ => 0)
    case atStart => exact ⟨rfl, hO.alloc _⟩
    case round =>
      clear hO
      obtain ⟨rfl, hO⟩ := hrel
      go_wp2_with fail
      go_loopw [9] (fun i wr => i = .int .i64 0 ∧ Only [] w wr) (fun _ _ => 0)
      case atStart => exact ⟨rfl, hO⟩
      case round =>
        clear hO
        obtain ⟨rfl, hO⟩ := hrel
        go_wp2_with fail
        go_loopw [11] (fun i wr => i = .int .i64 0 ∧ Only [] w wr) (fun _ _ => 0)
        case atStart => exact ⟨rfl, hO⟩
        case round =>
          clear hO
          obtain ⟨rfl, hO⟩ := hrel
          go_wp2_with fail
          go_loopw [14] (fun i wr => i = .int .i64 0 ∧ Only [] w wr) (fun _ _ => 0)
          case atStart => exact ⟨rfl, hO⟩
          case round =>
            clear hO
            obtain ⟨rfl, hO⟩ := hrel
            go_wp2_with fail
            go_returns
            exact ⟨rfl, hO⟩

set_option maxRecDepth 100000 in
set_option maxHeartbeats 2000000 in
theorem flat0_Accesses (w : World) : Calls Tryz.prog 86 #[.slice none 0 0] w fun e w' => e = .returned (.bool true) ∧ Only [] w w' := by
  have hms : ∀ W, (Instr.makeSlice 93 (.int .i64 0) (.int .i64 0)).run Tryz.prog W = .ok (.slice (some ⟨W.heap.size, 0, none⟩) 0 0) (W.alloc (.cells #[] 164)) := fun W => by kernel_rfl
  go_enter Tryz.func86, Tryz.ntmps86
  go_wp2_with fail
  go_loopw [3] (fun i wr => i = .int .i64 0 ∧ Only [] w wr) (fun _ _ => 0)
  case atStart => exact ⟨rfl, Only.refl _ _⟩
  case round =>
    obtain ⟨rfl, hO⟩ := hrel
    go_wp2_with fail
    go_loopw [6] (fun i wr => i = .int .i64 0 ∧ Only [] w wr) (fun _ _ => 0)
    case atStart => exact ⟨rfl, hO.alloc _⟩
    case round =>
      clear hO
      obtain ⟨rfl, hO⟩ := hrel
      go_wp2_with fail
      go_loopw [9] (fun i wr => i = .int .i64 0 ∧ Only [] w wr) (fun _ _ => 0)
      case atStart => exact ⟨rfl, hO⟩
      case round =>
        clear hO
        obtain ⟨rfl, hO⟩ := hrel
        go_wp2_with fail
        go_loopw [11] (fun i wr => i = .int .i64 0 ∧ Only [] w wr) (fun _ _ => 0)
        case atStart => exact ⟨rfl, hO⟩
        case round =>
          clear hO
          obtain ⟨rfl, hO⟩ := hrel
          go_wp2_with fail
          go_loopw [14] (fun i wr => i = .int .i64 0 ∧ Only [] w wr) (fun _ _ => 0)
          case atStart => exact ⟨rfl, hO⟩
          case round =>
            clear hO
            obtain ⟨rfl, hO⟩ := hrel
            go_wp2_with fail
            go_returns
            exact ⟨rfl, hO⟩

set_option maxRecDepth 100000 in
set_option maxHeartbeats 2000000 in
theorem flat0_Replies (w : World) : Calls Tryz.prog 87 #[.slice none 0 0] w fun e w' => e = .returned (.bool true) ∧ Only [] w w' := by
  have hms : ∀ W, (Instr.makeSlice 94 (.int .i64 0) (.int .i64 0)).run Tryz.prog W = .ok (.slice (some ⟨W.heap.size, 0, none⟩) 0 0) (W.alloc (.cells #[] 168)) := fun W => by kernel_rfl
  go_enter Tryz.func87, Tryz.ntmps87
  go_wp2_with fail
  go_loopw [3] (fun i wr => i = .int .i64 0 ∧ Only [] w wr) (fun _ _ => 0)
  case atStart => exact ⟨rfl, Only.refl _ _⟩
  case round =>
    obtain ⟨rfl, hO⟩ := hrel
    go_wp2_with fail
    go_loopw [6] (fun i wr => i = .int .i64 0 ∧ Only [] w wr) (fun _ _ => 0)
    case atStart => exact ⟨rfl, hO.alloc _⟩
    case round =>
      clear hO
      obtain ⟨rfl, hO⟩ := hrel
      go_wp2_with fail
      go_loopw [9] (fun i wr => i = .int .i64 0 ∧ Only [] w wr) (fun _ _ => 0)
      case atStart => exact ⟨rfl, hO⟩
      case round =>
        clear hO
        obtain ⟨rfl, hO⟩ := hrel
        go_wp2_with fail
        go_loopw [11] (fun i wr => i = .int .i64 0 ∧ Only [] w wr) (fun _ _ => 0)
        case atStart => exact ⟨rfl, hO⟩
        case round =>
          clear hO
          obtain ⟨rfl, hO⟩ := hrel
          go_wp2_with fail
          go_loopw [14] (fun i wr => i = .int .i64 0 ∧ Only [] w wr) (fun _ _ => 0)
          case atStart => exact ⟨rfl, hO⟩
          case round =>
            clear hO
            obtain ⟨rfl, hO⟩ := hrel
            go_wp2_with fail
            go_returns
            exact ⟨rfl, hO⟩

set_option maxRecDepth 100000 in
set_option maxHeartbeats 2000000 in
theorem flat0_Regions (w : World) : Calls Tryz.prog 88 #[.slice none 0 0] w fun e w' => e = .returned (.bool true) ∧ Only [] w w' := by
  have hms : ∀ W, (Instr.makeSlice 95 (.int .i64 0) (.int .i64 0)).run Tryz.prog W = .ok (.slice (some ⟨W.heap.size, 0, none⟩) 0 0) (W.alloc (.cells #[] 172)) := fun W => by kernel_rfl
  go_enter Tryz.func88, Tryz.ntmps88
  go_wp2_with fail
  go_loopw [3] (fun i wr => i = .int .i64 0 ∧ Only [] w wr) (fun _ _ => 0)
  case atStart => exact ⟨rfl, Only.refl _ _⟩
  case round =>
    obtain ⟨rfl, hO⟩ := hrel
    go_wp2_with fail
    go_loopw [6] (fun i wr => i = .int .i64 0 ∧ Only [] w wr) (fun _ _ => 0)
    case atStart => exact ⟨rfl, hO.alloc _⟩
    case round =>
      clear hO
      obtain ⟨rfl, hO⟩ := hrel
      go_wp2_with fail
      go_loopw [9] (fun i wr => i = .int .i64 0 ∧ Only [] w wr) (fun _ _ => 0)
      case atStart => exact ⟨rfl, hO⟩
      case round =>
        clear hO
        obtain ⟨rfl, hO⟩ := hrel
        go_wp2_with fail
        go_loopw [11] (fun i wr => i = .int .i64 0 ∧ Only [] w wr) (fun _ _ => 0)
        case atStart => exact ⟨rfl, hO⟩
        case round =>
          clear hO
          obtain ⟨rfl, hO⟩ := hrel
          go_wp2_with fail
          go_loopw [14] (fun i wr => i = .int .i64 0 ∧ Only [] w wr) (fun _ _ => 0)
          case atStart => exact ⟨rfl, hO⟩
          case round =>
            clear hO
            obtain ⟨rfl, hO⟩ := hrel
            go_wp2_with fail
            go_returns
            exact ⟨rfl, hO⟩

set_option maxRecDepth 100000 in
set_option maxHeartbeats 2000000 in
theorem flat0_Devices (w : World) : Calls Tryz.prog 89 #[.slice none 0 0] w fun e w' => e = .returned (.bool true) ∧ Only [] w w' := by
  have hms : ∀ W, (Instr.makeSlice 96 (.int .i64 0) (.int .i64 0)).run Tryz.prog W = .ok (.slice (some ⟨W.heap.size, 0, none⟩) 0 0) (W.alloc (.cells #[] 174)) := fun W => by kernel_rfl
  go_enter Tryz.func89, Tryz.ntmps89
  go_wp2_with fail
  go_loopw [3] (fun i wr => i = .int .i64 0 ∧ Only [] w wr) (fun _ _ => 0)
  case atStart => exact ⟨rfl, Only.refl _ _⟩
  case round =>
    obtain ⟨rfl, hO⟩ := hrel
    go_wp2_with fail
    go_loopw [6] (fun i wr => i = .int .i64 0 ∧ Only [] w wr) (fun _ _ => 0)
    case atStart => exact ⟨rfl, hO.alloc _⟩
    case round =>
      clear hO
      obtain ⟨rfl, hO⟩ := hrel
      go_wp2_with fail
      go_loopw [9] (fun i wr => i = .int .i64 0 ∧ Only [] w wr) (fun _ _ => 0)
      case atStart => exact ⟨rfl, hO⟩
      case round =>
        clear hO
        obtain ⟨rfl, hO⟩ := hrel
        go_wp2_with fail
        go_loopw [11] (fun i wr => i = .int .i64 0 ∧ Only [] w wr) (fun _ _ => 0)
        case atStart => exact ⟨rfl, hO⟩
        case round =>
          clear hO
          obtain ⟨rfl, hO⟩ := hrel
          go_wp2_with fail
          go_loopw [14] (fun i wr => i = .int .i64 0 ∧ Only [] w wr) (fun _ _ => 0)
          case atStart => exact ⟨rfl, hO⟩
          case round =>
            clear hO
            obtain ⟨rfl, hO⟩ := hrel
            go_wp2_with fail
            go_returns
            exact ⟨rfl, hO⟩

set_option maxRecDepth 100000 in
set_option maxHeartbeats 2000000 in
theorem flat0_Holds (w : World) : Calls Tryz.prog 90 #[.slice none 0 0] w fun e w' => e = .returned (.bool true) ∧ Only [] w w' := by
  have hms : ∀ W, (Instr.makeSlice 97 (.int .i64 0) (.int .i64 0)).run Tryz.prog W = .ok (.slice (some ⟨W.heap.size, 0, none⟩) 0 0) (W.alloc (.cells #[] 179)) := fun W => by kernel_rfl
  go_enter Tryz.func90, Tryz.ntmps90
  go_wp2_with fail
  go_loopw [3] (fun i wr => i = .int .i64 0 ∧ Only [] w wr) (fun _ _ => 0)
  case atStart => exact ⟨rfl, Only.refl _ _⟩
  case round =>
    obtain ⟨rfl, hO⟩ := hrel
    go_wp2_with fail
    go_loopw [6] (fun i wr => i = .int .i64 0 ∧ Only [] w wr) (fun _ _ => 0)
    case atStart => exact ⟨rfl, hO.alloc _⟩
    case round =>
      clear hO
      obtain ⟨rfl, hO⟩ := hrel
      go_wp2_with fail
      go_loopw [9] (fun i wr => i = .int .i64 0 ∧ Only [] w wr) (fun _ _ => 0)
      case atStart => exact ⟨rfl, hO⟩
      case round =>
        clear hO
        obtain ⟨rfl, hO⟩ := hrel
        go_wp2_with fail
        go_loopw [11] (fun i wr => i = .int .i64 0 ∧ Only [] w wr) (fun _ _ => 0)
        case atStart => exact ⟨rfl, hO⟩
        case round =>
          clear hO
          obtain ⟨rfl, hO⟩ := hrel
          go_wp2_with fail
          go_loopw [14] (fun i wr => i = .int .i64 0 ∧ Only [] w wr) (fun _ _ => 0)
          case atStart => exact ⟨rfl, hO⟩
          case round =>
            clear hO
            obtain ⟨rfl, hO⟩ := hrel
            go_wp2_with fail
            go_returns
            exact ⟨rfl, hO⟩

set_option maxRecDepth 100000 in
set_option maxHeartbeats 2000000 in
theorem flat0_Confs (w : World) : Calls Tryz.prog 91 #[.slice none 0 0] w fun e w' => e = .returned (.bool true) ∧ Only [] w w' := by
  have hms : ∀ W, (Instr.makeSlice 98 (.int .i64 0) (.int .i64 0)).run Tryz.prog W = .ok (.slice (some ⟨W.heap.size, 0, none⟩) 0 0) (W.alloc (.cells #[] 183)) := fun W => by kernel_rfl
  go_enter Tryz.func91, Tryz.ntmps91
  go_wp2_with fail
  go_loopw [3] (fun i wr => i = .int .i64 0 ∧ Only [] w wr) (fun _ _ => 0)
  case atStart => exact ⟨rfl, Only.refl _ _⟩
  case round =>
    obtain ⟨rfl, hO⟩ := hrel
    go_wp2_with fail
    go_loopw [6] (fun i wr => i = .int .i64 0 ∧ Only [] w wr) (fun _ _ => 0)
    case atStart => exact ⟨rfl, hO.alloc _⟩
    case round =>
      clear hO
      obtain ⟨rfl, hO⟩ := hrel
      go_wp2_with fail
      go_loopw [9] (fun i wr => i = .int .i64 0 ∧ Only [] w wr) (fun _ _ => 0)
      case atStart => exact ⟨rfl, hO⟩
      case round =>
        clear hO
        obtain ⟨rfl, hO⟩ := hrel
        go_wp2_with fail
        go_loopw [11] (fun i wr => i = .int .i64 0 ∧ Only [] w wr) (fun _ _ => 0)
        case atStart => exact ⟨rfl, hO⟩
        case round =>
          clear hO
          obtain ⟨rfl, hO⟩ := hrel
          go_wp2_with fail
          go_loopw [14] (fun i wr => i = .int .i64 0 ∧ Only [] w wr) (fun _ _ => 0)
          case atStart => exact ⟨rfl, hO⟩
          case round =>
            clear hO
            obtain ⟨rfl, hO⟩ := hrel
            go_wp2_with fail
            go_returns
            exact ⟨rfl, hO⟩

set_option maxRecDepth 100000 in
set_option maxHeartbeats 2000000 in
theorem flat0_Program (w : World) : Calls Tryz.prog 92 #[.slice none 0 0] w fun e w' => e = .returned (.bool true) ∧ Only [] w w' := by
  have hms : ∀ W, (Instr.makeSlice 65 (.int .i64 0) (.int .i64 0)).run Tryz.prog W = .ok (.slice (some ⟨W.heap.size, 0, none⟩) 0 0) (W.alloc (.cells #[] 22)) := fun W => by kernel_rfl
  go_enter Tryz.func92, Tryz.ntmps92
  go_wp2_with fail
  go_loopw [3] (fun i wr => i = .int .i64 0 ∧ Only [] w wr) (fun _ _ => 0)
  case atStart => exact ⟨rfl, Only.refl _ _⟩
  case round =>
    obtain ⟨rfl, hO⟩ := hrel
    go_wp2_with fail
    go_loopw [6] (fun i wr => i = .int .i64 0 ∧ Only [] w wr) (fun _ _ => 0)
    case atStart => exact ⟨rfl, hO.alloc _⟩
    case round =>
      clear hO
      obtain ⟨rfl, hO⟩ := hrel
      go_wp2_with fail
      go_loopw [9] (fun i wr => i = .int .i64 0 ∧ Only [] w wr) (fun _ _ => 0)
      case atStart => exact ⟨rfl, hO⟩
      case round =>
        clear hO
        obtain ⟨rfl, hO⟩ := hrel
        go_wp2_with fail
        go_loopw [11] (fun i wr => i = .int .i64 0 ∧ Only [] w wr) (fun _ _ => 0)
        case atStart => exact ⟨rfl, hO⟩
        case round =>
          clear hO
          obtain ⟨rfl, hO⟩ := hrel
          go_wp2_with fail
          go_loopw [14] (fun i wr => i = .int .i64 0 ∧ Only [] w wr) (fun _ _ => 0)
          case atStart => exact ⟨rfl, hO⟩
          case round =>
            clear hO
            obtain ⟨rfl, hO⟩ := hrel
            go_wp2_with fail
            go_returns
            exact ⟨rfl, hO⟩

set_option maxRecDepth 100000 in
set_option maxHeartbeats 2000000 in
theorem flat0_Inputs (w : World) : Calls Tryz.prog 93 #[.slice none 0 0] w fun e w' => e = .returned (.bool true) ∧ Only [] w w' := by
  have hms : ∀ W, (Instr.makeSlice 99 (.int .i64 0) (.int .i64 0)).run Tryz.prog W = .ok (.slice (some ⟨W.heap.size, 0, none⟩) 0 0) (W.alloc (.cells #[] 185)) := fun W => by kernel_rfl
  go_enter Tryz.func93, Tryz.ntmps93
  go_wp2_with fail
  go_loopw [3] (fun i wr => i = .int .i64 0 ∧ Only [] w wr) (fun _ _ => 0)
  case atStart => exact ⟨rfl, Only.refl _ _⟩
  case round =>
    obtain ⟨rfl, hO⟩ := hrel
    go_wp2_with fail
    go_loopw [6] (fun i wr => i = .int .i64 0 ∧ Only [] w wr) (fun _ _ => 0)
    case atStart => exact ⟨rfl, hO.alloc _⟩
    case round =>
      clear hO
      obtain ⟨rfl, hO⟩ := hrel
      go_wp2_with fail
      go_loopw [9] (fun i wr => i = .int .i64 0 ∧ Only [] w wr) (fun _ _ => 0)
      case atStart => exact ⟨rfl, hO⟩
      case round =>
        clear hO
        obtain ⟨rfl, hO⟩ := hrel
        go_wp2_with fail
        go_loopw [11] (fun i wr => i = .int .i64 0 ∧ Only [] w wr) (fun _ _ => 0)
        case atStart => exact ⟨rfl, hO⟩
        case round =>
          clear hO
          obtain ⟨rfl, hO⟩ := hrel
          go_wp2_with fail
          go_loopw [14] (fun i wr => i = .int .i64 0 ∧ Only [] w wr) (fun _ _ => 0)
          case atStart => exact ⟨rfl, hO⟩
          case round =>
            clear hO
            obtain ⟨rfl, hO⟩ := hrel
            go_wp2_with fail
            go_returns
            exact ⟨rfl, hO⟩

set_option maxRecDepth 100000 in
set_option maxHeartbeats 2000000 in
theorem flat0_Events (w : World) : Calls Tryz.prog 94 #[.slice none 0 0] w fun e w' => e = .returned (.bool true) ∧ Only [] w w' := by
  have hms : ∀ W, (Instr.makeSlice 100 (.int .i64 0) (.int .i64 0)).run Tryz.prog W = .ok (.slice (some ⟨W.heap.size, 0, none⟩) 0 0) (W.alloc (.cells #[] 189)) := fun W => by kernel_rfl
  go_enter Tryz.func94, Tryz.ntmps94
  go_wp2_with fail
  go_loopw [3] (fun i wr => i = .int .i64 0 ∧ Only [] w wr) (fun _ _ => 0)
  case atStart => exact ⟨rfl, Only.refl _ _⟩
  case round =>
    obtain ⟨rfl, hO⟩ := hrel
    go_wp2_with fail
    go_loopw [6] (fun i wr => i = .int .i64 0 ∧ Only [] w wr) (fun _ _ => 0)
    case atStart => exact ⟨rfl, hO.alloc _⟩
    case round =>
      clear hO
      obtain ⟨rfl, hO⟩ := hrel
      go_wp2_with fail
      go_loopw [9] (fun i wr => i = .int .i64 0 ∧ Only [] w wr) (fun _ _ => 0)
      case atStart => exact ⟨rfl, hO⟩
      case round =>
        clear hO
        obtain ⟨rfl, hO⟩ := hrel
        go_wp2_with fail
        go_loopw [11] (fun i wr => i = .int .i64 0 ∧ Only [] w wr) (fun _ _ => 0)
        case atStart => exact ⟨rfl, hO⟩
        case round =>
          clear hO
          obtain ⟨rfl, hO⟩ := hrel
          go_wp2_with fail
          go_loopw [14] (fun i wr => i = .int .i64 0 ∧ Only [] w wr) (fun _ _ => 0)
          case atStart => exact ⟨rfl, hO⟩
          case round =>
            clear hO
            obtain ⟨rfl, hO⟩ := hrel
            go_wp2_with fail
            go_returns
            exact ⟨rfl, hO⟩
end Go.Proofs.YtagmoehjcgjnjaaGreatDoor

namespace Go.Proofs.YtagmoehjcgjnjaaGreatDoor
open Go Go.RowKit

theorem InR.keep {w w' : World} {base : Nat} {v : Value} {l : List In} (h : InR w base v l) (hk : ∀ g, v.ownBlock = some g → w'.heap[g]? = w.heap[g]?) : InR w' base v l := by
  refine ⟨h.1, h.2.imp id ?_⟩
  rintro ⟨g, cap, cur, rfl, hb, hg, r⟩
  exact ⟨g, cap, cur, rfl, hb, (hk g rfl).trans hg, r⟩
theorem InR.own {w : World} {base b : Nat} {v : Value} {l : List In} (h : InR w base v l) (hb : v.ownBlock = some b) : base ≤ b ∧ b < w.heap.size ∧ ∃ cur, Blk w b 33 cur := by
  obtain ⟨-, ⟨rfl, -⟩ | ⟨g, cap, cur, rfl, hb2, hg, r⟩⟩ := h
  · simp [Value.ownBlock] at hb
  · simp [Value.ownBlock] at hb
    subst hb
    exact ⟨hb2, Blk.lt hg, cur, hg⟩

/-- Rows, each with a number: those of unlike numbers lie apart. -/
def Fam (W : World) (base : Nat) (F : Nat → Value → List In → Prop) : Prop :=
  (∀ k v l, F k v l → InR W base v l) ∧ ∀ k k' v v' l l' b, F k v l → F k' v' l' → v.ownBlock = some b → v'.ownBlock = some b → k = k'
/-- Only blocks of instructions have changed, and only own ones. -/
def Tch (base : Nat) (W W' : World) : Prop := ∃ S, Only S W W' ∧ ∀ z ∈ S, base ≤ z ∧ ∃ cur, Blk W z 33 cur
theorem Tch.blk {base B t : Nat} {W W' : World} {bc : Array Value} (h : Tch base W W') (ht : t ≠ 33) (hB : Blk W B t bc) : Blk W' B t bc := by
  obtain ⟨S, hO, hS⟩ := h
  refine hO.blk hB (fun hm => ?_)
  obtain ⟨-, cur, hc⟩ := hS B hm
  exact Blk.ne_ hB hc ht rfl
theorem Tch.onlyB {base : Nat} {W W' : World} (h : Tch base W W') (hb : base ≤ W.heap.size) : OnlyB base [] W W' := by
  obtain ⟨S, hO, hS⟩ := h
  exact ⟨hO.os, hO.tape, hO.output, hO.size, fun k hk _ => hO.block k (by omega) (fun hm => by have := (hS k hm).1; omega)⟩
theorem Fam.sub {W : World} {base : Nat} {F F' : Nat → Value → List In → Prop} (h : Fam W base F) (hs : ∀ k v l, F' k v l → F k v l) : Fam W base F' :=
  ⟨fun k v l hf => h.1 k v l (hs k v l hf), fun k k' v v' l l' b h1 h2 => h.2 k k' v v' l l' b (hs _ _ _ h1) (hs _ _ _ h2)⟩
theorem Fam.only {S : List Nat} {W W' : World} {base : Nat} {F : Nat → Value → List In → Prop} (h : Fam W base F) (hO : Only S W W') (hS : ∀ z ∈ S, ∀ cur, ¬ Blk W z 33 cur) : Fam W' base F :=
  ⟨fun k v l hf => (h.1 k v l hf).keep (fun g hg => by
    obtain ⟨-, hlt, cur, hc⟩ := (h.1 k v l hf).own hg
    exact hO.block g hlt (fun hm => hS g hm cur hc)), h.2⟩
theorem Fam.call {W W' : World} {base : Nat} {F : Nat → Value → List In → Prop} (h : Fam W base F) (hO : Only [] W W') : Fam W' base F := h.only hO (by simp)
theorem Fam.put {W : World} {base k i : Nat} {v : Value} {l : List In} {F : Nat → Value → List In → Prop} (h : Fam W base F) (hk : F k v l) (hi : i < l.length) (hu : ∀ v' l', F k v' l' → v' = v ∧ l' = l) :
    ∃ g c cur, v = .slice (some ⟨g, 0, none⟩) l.length c ∧ l.length ≤ c ∧ base ≤ g ∧ Blk W g 33 cur ∧ i * 18 + 18 ≤ cur.size ∧ ∀ x W', Blk W' g 33 (setL cur (i * 18) x.cs.toList) → Only [g] W W' →
      Fam W' base (fun k' v' l' => (F k' v' l' ∧ k' ≠ k) ∨ (k' = k ∧ v' = v ∧ l' = l.set i x)) := by
  obtain ⟨g, cap, cur, rfl, hb, hg, hn, hm, hs, ht⟩ := (h.1 k v l hk).opened (by omega)
  refine ⟨g, cap, cur, rfl, hn, hb, hg, by omega, fun x W' hW hO => ⟨?_, ?_⟩⟩
  · rintro k' v' l' (⟨hf, hne⟩ | ⟨rfl, rfl, rfl⟩)
    · refine (h.1 k' v' l' hf).keep (fun g' hg' => ?_)
      refine hO.block g' ((h.1 k' v' l' hf).own hg').2.1 (fun hm => ?_)
      simp only [List.mem_cons, List.not_mem_nil, or_false] at hm
      subst hm
      exact hne (h.2 k' k _ _ _ _ g' hf hk hg' rfl)
    · exact InR.put (_w := W) x hb hn hm hs ht hi hW
  · rintro k1 k2 v1 v2 l1 l2 b (⟨h1, -⟩ | ⟨rfl, rfl, rfl⟩) (⟨h2, -⟩ | ⟨rfl, rfl, rfl⟩) hb1 hb2
    · exact h.2 k1 k2 v1 v2 l1 l2 b h1 h2 hb1 hb2
    · exact h.2 k1 _ v1 _ l1 _ b h1 hk hb1 hb2
    · exact h.2 _ k2 _ v2 _ l2 b hk h2 hb1 hb2
    · rfl
theorem Fam.add {W : World} {base k : Nat} {v : Value} {l : List In} {F : Nat → Value → List In → Prop} (h : Fam W base F) (hr : InR W base v l) (hn : ∀ b, v.ownBlock = some b → ∀ k' v' l', F k' v' l' → v'.ownBlock = some b → k' = k) :
    Fam W base (fun k' v' l' => F k' v' l' ∨ (k' = k ∧ v' = v ∧ l' = l)) := by
  refine ⟨?_, ?_⟩
  · rintro k' v' l' (hf | ⟨rfl, rfl, rfl⟩)
    · exact h.1 k' v' l' hf
    · exact hr
  · rintro k1 k2 v1 v2 l1 l2 b (h1 | ⟨rfl, rfl, rfl⟩) (h2 | ⟨rfl, rfl, rfl⟩) hb1 hb2
    · exact h.2 k1 k2 v1 v2 l1 l2 b h1 h2 hb1 hb2
    · exact hn b hb2 k1 v1 l1 h1 hb1
    · exact (hn b hb1 k2 v2 l2 h2 hb2).symm
    · rfl
theorem Fam.app {W W2 : World} {base k : Nat} {v v2 : Value} {l ms : List In} {F : Nat → Value → List In → Prop} (h : Fam W base F) (hk : F k v l) (hpre : ∀ v' l', F k v' l' → ∃ m, l = l' ++ m) (hr : InR W2 base v2 (l ++ ms))
    (h2 : (∃ g cap, v = .slice (some ⟨g, 0, none⟩) l.length cap ∧ v2 = .slice (some ⟨g, 0, none⟩) (l ++ ms).length cap ∧ W.grownBy W2 (some g)) ∨ ((∀ q, v2.ownBlock = some q → W.heap.size ≤ q) ∧ W.grownBy W2 none)) :
    Fam W2 base (fun k' v' l' => F k' v' l' ∨ (k' = k ∧ v' = v2 ∧ l' = l ++ ms)) ∧ Tch base W W2 := by
  rcases h2 with ⟨g, cap, rfl, rfl, hg⟩ | ⟨hq, hg⟩
  · have hin := h.1 _ _ _ hk
    obtain ⟨hbg, hglt, cur0, hc0⟩ := hin.own (b := g) rfl
    have hsz : ∀ cur, Blk W g 33 cur → cur.size = cap * 18 := fun cur hc => by
      obtain ⟨-, ⟨hh, -⟩ | ⟨g1, c1, cur1, hv1, -, hg1, -, -, hs1, -⟩⟩ := hin
      · cases hh
      · simp only [Value.slice.injEq, Option.some.injEq, Addr.mk.injEq, and_true] at hv1
        obtain ⟨rfl, -, rfl⟩ := hv1
        have := Option.some.inj (hc.symm.trans hg1)
        simp only [Obj.cells.injEq] at this
        rw [this.1]
        exact hs1
    have hO : Only [g] W W2 := ⟨hg.os, hg.tape, hg.output, hg.size, fun j hj hn => hg.block j hj (fun e => hn (by simp [Option.some.inj e]))⟩
    refine ⟨Fam.add ⟨fun k' v' l' hf => ?_, h.2⟩ hr (fun b hb k' v' l' hf hb' => ?_), [g], hO, fun z hz => by simp only [List.mem_cons, List.not_mem_nil, or_false] at hz; subst hz; exact ⟨hbg, cur0, hc0⟩⟩
    · by_cases hbv : v'.ownBlock = some g
      · have hkk := h.2 k' k _ _ _ _ g hf hk hbv rfl
        subst hkk
        obtain ⟨m, hm⟩ := hpre v' l' hf
        refine (h.1 _ _ _ hf).prefix_ hbv hsz (m := m ++ ms) ?_ (n := (l ++ ms).length)
        rw [← List.append_assoc, ← hm]
        exact hr
      · exact (h.1 _ _ _ hf).keep (fun g' hg' => hO.block g' ((h.1 _ _ _ hf).own hg').2.1 (by intro hm; simp only [List.mem_cons, List.not_mem_nil, or_false] at hm; subst hm; exact hbv hg'))
    · simp [Value.ownBlock] at hb
      subst hb
      exact h.2 k' k _ _ _ _ g hf hk hb' rfl
  · have hO : Only [] W W2 := ⟨hg.os, hg.tape, hg.output, hg.size, fun j hj _ => hg.block j hj (by simp)⟩
    refine ⟨Fam.add (h.call hO) hr (fun b hb k' v' l' hf hb' => ?_), [], hO, by simp⟩
    have h1 := hq b hb
    have h2 := ((h.1 _ _ _ hf).own hb').2.1
    omega

/-- Instructions lie at a place. -/
theorem wpList_append_fam {w : World} {ops : Array Oper} {rest : List Oper} {o : Oper} {a : Act} {Q : Exit → Act → World → Prop} (hgd : o.guard = none) (s y : Operand)
    (ho : o.op = .call { callee := .builtin .append, args := #[s, y], argTypes := #[22, 22] }) (base k : Nat) (l ms : List In) (v : Value) (F : Nat → Value → List In → Prop) (hs : a.eval s = v) (h : Fam w base F) (hk : F k v l) (hpre : ∀ v' l', F k v' l' → ∃ m, l = l' ++ m)
    (g n c : Nat) (hy : a.eval y = .slice (some ⟨g, 0, none⟩) n c) (hn : n = ms.length) (hB : ∀ (j : Nat) u, (flatI ms)[j]? = some u → w.cell? ((⟨g, 0, none⟩ : Addr).add j) = some u) (hl : l.length + ms.length ≤ 1000000) (hbase : base ≤ w.heap.size)
    (hK : ∀ v' w', Fam w' base (fun k' v'' l' => F k' v'' l' ∨ (k' = k ∧ v'' = v' ∧ l' = l ++ ms)) → Tch base w w' → (∃ p c, v' = .slice p (l ++ ms).length c) → wpList Tryz.prog ops Q rest (a.put o.dst v') w') : wpList Tryz.prog ops Q (o :: rest) a w := by
  subst hn
  obtain ⟨i0, hi0, hz0, hz1, hz2⟩ := info_parts infoInstr
  have hR := h.1 _ _ _ hk
  obtain ⟨v', w', hr, hown, h2⟩ := run_append_two (P := Tryz.prog) w base 22 o.type 33 i0 _ 18 120 Tryz.underlying22 hi0 hz0 hz1 hz2 rfl (by decide) v l.length _ hR ⟨g, 0, none⟩ ms.length c (flatI ms) (flatI_len ms) hB one_cells (by unfold maxLen; omega) (by omega) hbase
  have hR2 : InR w' base v' (l ++ ms) := by
    unfold InR
    rw [flatI_app, List.length_append]
    exact hown
  have h3 := h.app hk hpre hR2 (by
    rcases h2 with ⟨g1, cap, e1, e2, hg⟩ | h2
    · exact .inl ⟨g1, cap, e1, by rw [List.length_append]; exact e2, hg⟩
    · exact .inr h2)
  refine wpList_plain hgd fun K hK' => ?_
  unfold Oper.wp execOp
  simp only [ho, resolve, invoke, builtin, Sem.run_bind, Sem.run_pure, Result.andThen_ok, List.map_toArray, List.map_cons, List.map_nil, hs, hy, hr]
  exact hK' _ _ (hK v' w' h3.1 h3.2 hR2.ins.len)
end Go.Proofs.YtagmoehjcgjnjaaGreatDoor

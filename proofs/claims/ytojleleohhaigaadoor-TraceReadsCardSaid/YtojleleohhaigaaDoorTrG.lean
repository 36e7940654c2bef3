/- slices.Grow of nil, slices.Concat of two rows of events, walked. No condition. -/
import Derived.Test.YtojleleohhaigaaDoorTrR
import Derived.Lib.AppendZeros
namespace Go.Proofs.YtojleleohhaigaaDoor
open Go Go.RowKit

set_option maxRecDepth 100000 in
set_option maxHeartbeats 2000000 in
theorem grow_any (k : Nat) (hk : k ≤ 1000000) (w : World) : Calls Tryd.prog 56 #[.slice none 0 0, .int .i64 k] w fun e w' => ∃ v, e = .returned v ∧ w'.ownsRow w.heap.size 44 5 v 0 [] ∧ Only [] w w' := by
  have h1 : ¬ ((k : Int) < 0) := by omega
  have h2 : IntKind.i64.wrap (k : Int) = k := IntWalk.i64_in _ (by omega)
  by_cases h0 : k = 0
  · subst h0
    go_enter Tryd.func56, Tryd.ntmps56
    go_wp2
    go_returns
    exact ⟨_, rfl, ⟨rfl, .inl ⟨rfl, rfl⟩⟩, Only.refl _ _⟩
  · obtain ⟨i0, hi0, hz0, hz1, hz2⟩ := info_parts infoEvent
    have h3 : (0 : Int) < (k : Int) := by omega
    have hrz := fun ty => Lib.run_append_nil_zeros w 24 3 ty 44 i0 _ .i64 .i64 Tryd.underlying24 Tryd.underlying3 hi0 hz0 k (by omega) (by omega) (by omega) (by rw [hz2]; omega)
    have hG1 := grownCap_ge w k 0 44
    have hG2 := grownCap_le_maxLen w k 0 44 (by unfold maxLen; omega)
    generalize grownCap w k 0 44 = G at hrz hG1 hG2
    have hsz : (Builtin.zeroCells (Value.agg #[.int .i64 0, .int .i64 0, .int .u32 0, .int .i64 0, .int .i64 0]).cells k ++ Builtin.zeroCells (Value.agg #[.int .i64 0, .int .i64 0, .int .u32 0, .int .i64 0, .int .i64 0]).cells (G - k)).size = G * 5 := by
      rw [Array.size_append, size_zeroCells, size_zeroCells]
      show k * 5 + (G - k) * 5 = G * 5
      omega
    generalize Builtin.zeroCells (Value.agg #[.int .i64 0, .int .i64 0, .int .u32 0, .int .i64 0, .int .i64 0]).cells k ++ Builtin.zeroCells (Value.agg #[.int .i64 0, .int .i64 0, .int .u32 0, .int .i64 0, .int .i64 0]).cells (G - k) = cs at hrz hsz
    have Hrz := Lib.hid hrz
    have Hi := Lib.hid hi0
    clear hrz hz0 hz1 hz2 hi0
    unfold maxLen at hG2
    go_enter Tryd.func56, Tryd.ntmps56
    go_wp2_with (at_builtin; refine Lib.wpList_append_run _ rfl _ _ _ _ rfl _ _ rfl rfl _ _ (Hrz.out _) ?_)
    go_returns
    refine ⟨_, rfl, ⟨rfl, .inr ⟨w.heap.size, G, cs, rfl, Nat.le_refl _, ?_, by omega, by unfold maxLen; omega, hsz, rfl⟩⟩, ((Only.refl _ _).drew).alloc _⟩
    exact Blk.new w _ _

/-- Nothing appended onto an own row. -/
theorem append_none {w : World} {base : Nat} {v : Value} {n : Nat} {xs : List Value} (h : w.ownsRow base 44 5 v n xs) (ty : TypeId) (p : Option Addr) (c : Nat) :
    (Builtin.append_ #[24, 24] ty #[v, .slice p 0 c]).run Tryd.prog w = .ok v w := by
  obtain ⟨i0, hi0, hz0, hz1, hz2⟩ := info_parts infoEvent
  have hfc : (Builtin.firstCells 5 0 (.slice p 0 c)).run Tryd.prog w = .ok #[] w := by
    cases p with
    | none => rfl
    | some a => rfl
  obtain ⟨-, ⟨rfl, rfl⟩ | ⟨g, cap, cur, rfl, hb, hg, hn, hm, hs, ht⟩⟩ := h
  · simp [Builtin.append_, run_underlying Tryd.underlying24, sizeOf, typeInfo, hi0, hz1, hfc, Builtin.lenOf]
  · simp [Builtin.append_, run_underlying Tryd.underlying24, sizeOf, typeInfo, hi0, hz1, hfc, Builtin.lenOf, hn, storeCells]

theorem EvAt.cells {w : World} {b o : Nat} {x : Ev} (h : EvAt w b o x) : ∀ (i : Nat) u, x.list[i]? = some u → w.cell? ⟨b, o + i, none⟩ = some u := by
  intro i u hu
  match i, hu with
  | 0, hu => simp at hu; subst hu; exact h.c0
  | 1, hu => simp at hu; subst hu; exact h.c1
  | 2, hu => simp at hu; subst hu; exact h.c2
  | 3, hu => simp at hu; subst hu; exact h.c3
  | 4, hu => simp at hu; subst hu; exact h.c4
  | i + 5, hu => simp at hu
theorem flat_cells {w : World} {b off : Nat} : ∀ {l : List Ev} {k : Nat}, (∀ (j : Nat) x, l[j]? = some x → EvAt w b (off + (k + j) * 5) x) → ∀ (j : Nat) u, (flat l)[j]? = some u → w.cell? ⟨b, off + k * 5 + j, none⟩ = some u
  | [], _, _, j, u, hu => by simp [flat] at hu
  | x :: r, k, h, j, u, hu => by
    have hf : flat (x :: r) = x.list ++ flat r := rfl
    rw [hf] at hu
    rcases Nat.lt_or_ge j 5 with hj | hj
    · rw [List.getElem?_append_left (by simpa using hj)] at hu
      exact EvAt.cells (h 0 x rfl) j u hu
    · rw [List.getElem?_append_right (by simpa using hj)] at hu
      have ih := flat_cells (l := r) (k := k + 1) (fun j y hy => by
        have := h (j + 1) y (by simpa using hy)
        rwa [show k + (j + 1) = k + 1 + j by omega] at this) (j - 5) u (by simpa using hu)
      rwa [show off + (k + 1) * 5 + (j - 5) = off + k * 5 + j by omega] at ih
theorem flat_one (l : List Ev) : ∀ u ∈ flat l, u.oneCell' = true := by
  intro u hu
  simp only [flat, List.mem_flatMap] at hu
  obtain ⟨x, -, hx⟩ := hu
  simp only [Ev.list, List.mem_cons, List.not_mem_nil, or_false] at hx
  rcases hx with rfl | rfl | rfl | rfl | rfl <;> rfl
theorem flat_app (l m : List Ev) : flat (l ++ m) = flat l ++ flat m := by simp [flat]

theorem wpList_append_evs {w : World} {ops : Array Oper} {rest : List Oper} {o : Oper} {a : Act} {Q : Exit → Act → World → Prop} (hgd : o.guard = none) (s x : Operand)
    (ho : o.op = .call { callee := .builtin .append, args := #[s, x], argTypes := #[24, 24] }) (base : Nat) (v : Value) (l : List Ev) (hs : a.eval s = v) (hown : w.ownsRow base 44 5 v l.length (flat l))
    (u : Value) (m : List Ev) (hx : a.eval x = u) (hu : EvS w u m) (hlen : l.length + m.length ≤ 1000000) (hbase : base ≤ w.heap.size)
    (h : ∀ v' w', w'.ownsRow base 44 5 v' (l ++ m).length (flat (l ++ m)) → Only v.ownBlock.toList w w' → wpList Tryd.prog ops Q rest (a.put o.dst v') w') : wpList Tryd.prog ops Q (o :: rest) a w := by
  rcases hu with ⟨p, c, rfl, rfl⟩ | ⟨b, off, c, rfl, h0, hlc, hb, hE⟩
  · refine Lib.wpList_append_run w hgd s x _ _ ho _ _ hs hx v w (append_none hown _ p c) (h v w ?_ (Only.refl _ _))
    simpa using hown
  · obtain ⟨i0, hi0, hz0, hz1, hz2⟩ := info_parts infoEvent
    refine wpList_append_own _ hgd s x 24 ho base 44 i0 _ 5 40 Tryd.underlying24 hi0 hz0 hz1 hz2 rfl (by decide) v l.length _ hs hown ⟨b, off, none⟩ m.length c (flat m) hx (flat_len m) ?_ (flat_one m) (by unfold maxLen; omega) (by omega) hbase ?_
    · intro j u hu
      have := flat_cells (k := 0) (by simpa using hE) j u hu
      rw [plus_at]
      simpa using this
    · intro v' w' ho hg _
      refine h v' w' ?_ ⟨hg.os, hg.tape, hg.output, hg.size, fun k hk hn => hg.block k hk (fun e => hn (by simp [e]))⟩
      rw [flat_app, List.length_append]
      exact ho

theorem own_step2 {w w1 w2 : World} {e : TypeId} {size : Nat} {v : Value} {n : Nat} {xs : List Value} (hO : Only [] w w1) (h : w1.ownsRow w.heap.size e size v n xs) (hg : Only v.ownBlock.toList w1 w2) : Only [] w w2 := by
  refine hO.trans' hg ?_
  intro g hgm hlt
  rcases h.2 with ⟨rfl, -⟩ | ⟨g', cap, cur, rfl, hb, -⟩
  · simp [Value.ownBlock] at hgm
  · simp [Value.ownBlock] at hgm
    omega

set_option maxRecDepth 100000 in
set_option maxHeartbeats 4000000 in
theorem concat_any (l m : List Ev) (va vb : Value) (g : Nat) (hlm : l.length + m.length ≤ 1000000) (w : World) (hg : Blk w g 24 #[va, vb]) (ha : EvS w va l) (hb : EvS w vb m) :
    Calls Tryd.prog 31 #[.slice (some ⟨g, 0, none⟩) 2 2] w fun e w' => ∃ v, e = .returned v ∧ EvR w' w.heap.size v (l ++ m) ∧ Only [] w w' := by
  have hgl := hg.lt
  have c0 : w.cell? ⟨g, 0, none⟩ = some va := hg.cell 0
  have c1 : w.cell? ⟨g, 1, none⟩ = some vb := hg.cell 1
  obtain ⟨pa, ca, rfl⟩ := ha.len
  obtain ⟨pb, cb, rfl⟩ := hb.len
  have HA := Lib.hid (And.intro ha hb)
  clear ha hb
  have hw1 : IntKind.i64.wrap (l.length : Int) = (l.length : Int) := IntWalk.i64_in _ (by omega)
  have hw2 : IntKind.i64.wrap ((l.length : Int) + (m.length : Int)) = (l.length : Int) + (m.length : Int) := IntWalk.i64_in _ (by omega)
  have hn1 : ¬ (l.length : Int) < 0 := by omega
  have hn2 : ¬ (l.length : Int) + (m.length : Int) < 0 := by omega
  have HGr := Lib.hid (grow_any (l.length + m.length) hlm)
  have hcast : ((l.length + m.length : Nat) : Int) = (l.length : Int) + (m.length : Int) := by omega
  rw [hcast] at HGr
  go_enter Tryd.func31, Tryd.ntmps31
  go_wp2_with fail
  go_loopw [3, 11] (fun s i wr => ((s = .int .i64 0 ∧ i = .int .i64 0) ∨ (s = .int .i64 l.length ∧ i = .int .i64 1) ∨ (s = .int .i64 ((l.length : Int) + (m.length : Int)) ∧ i = .int .i64 2)) ∧ wr = w) (fun _ i _ => 2 - (intOf i).toNat)
  case atStart => exact ⟨.inl ⟨rfl, rfl⟩, rfl⟩
  case round =>
    obtain ⟨h, rfl⟩ := hrel
    obtain ⟨w, hw⟩ : ∃ x, x = wr := ⟨_, rfl⟩
    subst hw
    rcases h with ⟨rfl, rfl⟩ | ⟨rfl, rfl⟩ | ⟨rfl, rfl⟩
    · go_wp2_with fail
      exact ⟨⟨.inr (.inl ⟨by simp, by simp⟩), trivial⟩, by simp [intOf]⟩
    · go_wp2_with fail
      exact ⟨⟨.inr (.inr ⟨by simp, by simp⟩), trivial⟩, by simp [intOf]⟩
    · go_wp2_with (go_at_call 56; refine (HGr.out _).mono ?_; rintro e w1 ⟨v, rfl, hR, hO⟩)
      clear HGr hcast
      go_loopw [6, 27] (fun v6 i wz => ∃ (k : Nat) (x : List Ev), i = .int .i64 k ∧ Hid ((k = 0 ∧ x = []) ∨ (k = 1 ∧ x = l) ∨ (k = 2 ∧ x = l ++ m)) ∧ wz.ownsRow w.heap.size 44 5 v6 x.length (flat x) ∧ Only [] w wz) (fun _ i _ => 2 - (intOf i).toNat)
      case atStart => exact ⟨0, [], rfl, .inl ⟨rfl, rfl⟩, hR, hO⟩
      case round =>
        clear hR hO
        obtain ⟨k, x, rfl, hk, hR, hO⟩ := hrel
        have d0 := (hO.cell hgl (by simp)).trans c0
        have d1 := (hO.cell hgl (by simp)).trans c1
        have hsz := hO.size
        rcases hk.out with ⟨rfl, rfl⟩ | ⟨rfl, rfl⟩ | ⟨rfl, rfl⟩
        · have HE := Lib.hid (HA.out.1.only0 hO)
          clear hk
          go_wp2_with (at_builtin; refine wpList_append_evs rfl _ _ rfl w.heap.size _ [] rfl hR _ l rfl HE.out (by simp; omega) hsz ?_; intro v' w4 hR4 hg4)
          refine ⟨⟨1, l, by simp, .inr (.inl ⟨rfl, rfl⟩), hR4, own_step2 hO hR hg4⟩, by simp [intOf]⟩
        · have HE := Lib.hid (HA.out.2.only0 hO)
          clear hk
          go_wp2_with (at_builtin; refine wpList_append_evs rfl _ _ rfl w.heap.size _ _ rfl hR _ m rfl HE.out hlm hsz ?_; intro v' w4 hR4 hg4)
          refine ⟨⟨2, _, by simp, .inr (.inr ⟨rfl, rfl⟩), hR4, own_step2 hO hR hg4⟩, by simp [intOf]⟩
        · clear hk
          go_wp2_with fail
          go_returns
          exact ⟨_, rfl, hR, hO⟩
end Go.Proofs.YtojleleohhaigaaDoor

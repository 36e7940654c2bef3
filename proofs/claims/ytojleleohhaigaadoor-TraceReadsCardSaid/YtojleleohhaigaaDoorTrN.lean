/- slices.MinFunc at one or two events, walked. Condition: cycles are small. -/
import Derived.Test.YtojleleohhaigaaDoorTrG
namespace Go.Proofs.YtojleleohhaigaaDoor
open Go Go.RowKit

set_option maxHeartbeats 400000 in
theorem cmp_10 (x1 x2 x3 x4 x5 y1 y2 y3 y4 y5 : Int) (hx : 0 ≤ x1 ∧ x1 < 4096) (hy : 0 ≤ y1 ∧ y1 < 4096) (w : World) :
    Calls Tryd.prog 33 #[.agg #[.int .i64 x1, .int .i64 x2, .int .u32 x3, .int .i64 x4, .int .i64 x5], .agg #[.int .i64 y1, .int .i64 y2, .int .u32 y3, .int .i64 y4, .int .i64 y5]] w fun e w' => e = .returned (.int .i64 (x1 - y1)) ∧ Only [] w w' := by
  have hw : IntKind.i64.wrap (x1 - y1) = x1 - y1 := IntWalk.i64_in _ (by omega)
  go_enter Tryd.func33, Tryd.ntmps33
  go_wp2
  go_returns
  exact ⟨by simp [hw], ((Only.refl _ _).alloc _).alloc _⟩

/-- The one that is kept. -/
def pickE (m y : Ev) : Ev := if y.cy < m.cy then y else m
def minE : List Ev → Ev
  | [] => default
  | x :: r => r.foldl pickE x
theorem ev0 : (Value.agg #[.int .i64 0, .int .i64 0, .int .u32 0, .int .i64 0, .int .i64 0]).cells = Ev.cs ⟨0, 0, 0, 0, 0⟩ := rfl

set_option maxRecDepth 100000 in
set_option maxHeartbeats 4000000 in
theorem min_any (l : List Ev) (h0 : 0 < l.length) (hl : l.length ≤ 1000000) (hr : ∀ x ∈ l, 0 ≤ x.cy ∧ x.cy < 4096) (v : Value) (w : World) (hv : EvS w v l) :
    Calls Tryd.prog 32 #[v, .func (.func 33) #[] #[]] w fun e w' => e = .returned (minE l).agg ∧ Only [] w w' := by
  obtain ⟨b, off, c, rfl, -, hlc, hb, hE⟩ := hv.resolve_left (fun ⟨_, _, _, h⟩ => by rw [h] at h0; simp at h0)
  have e0 : l[0]? = some l[0] := by simp
  have hE0 := hE 0 l[0] e0
  rw [Nat.zero_mul, Nat.add_zero] at hE0
  have HE := Lib.hid (And.intro hE hr)
  have hx := hr l[0] (by simp)
  have HM : Hid (minE l = (l.drop 1).foldl pickE l[0]) := Lib.hid (by
    cases l with
    | nil => simp at h0
    | cons x r => rfl)
  generalize l[0] = x at hE0 hx HM
  clear e0 hE hv hr
  obtain ⟨c0, c1, c2, c3, c4⟩ := hE0
  have h1 : ¬ (l.length : Int) < 1 := by omega
  go_enter Tryd.func32, Tryd.ntmps32
  go_wp2_with fail
  clear c0 c1 c2 c3 c4
  go_loopw [6] (fun i wr => ∃ (k : Nat) (m : Ev), i = .int .i64 k ∧ 1 ≤ k ∧ k ≤ l.length ∧ Hid (minE l = (l.drop k).foldl pickE m) ∧ (0 ≤ m.cy ∧ m.cy < 4096) ∧ Blk wr w.heap.size 44 (Ev.cs ⟨0, 0, 0, 0, 0⟩) ∧ Blk wr (w.heap.size + 1) 44 m.cs ∧ Only [] w wr) (fun i _ => l.length - (intOf i).toNat)
  case atStart =>
    exact ⟨1, x, rfl, by omega, by omega, HM, hx, (Blk.new' rfl rfl).alloc _, Blk.new' rfl (by simp), ((Only.refl _ _).alloc _).alloc _⟩
  case round =>
    clear HM
    obtain ⟨k, m, rfl, hk1, hk, HM, hm, hB4, hB5, hO⟩ := hrel
    have hb4 := hB4.lt
    by_cases hkl : k < l.length
    · have hki : (k : Int) < (l.length : Int) := by omega
      have ek : l[k]? = some l[k] := by simp
      have hEk := (HE.out.1 k l[k] ek).only hO hb (by simp)
      have hy := HE.out.2 l[k] (by simp)
      have hdrop : l.drop k = l[k] :: l.drop (k + 1) := List.drop_eq_getElem_cons hkl
      rw [hdrop] at HM
      generalize l[k] = y at hEk hy HM ek
      have hlk := hkl
      have hbr : b < wr.heap.size := Nat.lt_of_lt_of_le hb hO.size
      have HN : Hid (minE l = (l.drop (k + 1)).foldl pickE (pickE m y)) := Lib.hid HM.out
      have HK := Lib.hid (And.intro hEk hB5)
      clear hdrop HM ek hkl hEk
      go_wp2_with fail
      refine wp_region_D (Only [] wr) (by kernel_rfl) (by kernel_rfl) ((Only.refl _ _).drew) ?_
      repeat (
        refine wpT_step ?_ (stD rfl (fun w' hD => ?_)) ?_
        rotate_left
        · obtain ⟨c0, c1, c2, c3, c4⟩ := HK.out.1.only hD hbr (by simp)
          obtain ⟨d0, d1, d2, d3, d4, -⟩ := Blk.ev (hD.blk HK.out.2 (by simp))
          go_simp
          first
            | (refine ⟨?_, hD⟩; rfl)
            | (change Calls _ _ _ _ _
               refine (cmp_10 _ _ _ _ _ _ _ _ _ _ hy hm w').mono ?_
               rintro e w'' ⟨rfl, h⟩
               refine ⟨?_, hD.trans h⟩
               rfl)
        simp only [Act.put, List.setIfInBounds_toArray, List.set_cons_succ, List.set_cons_zero, Nat.zero_add, Nat.reduceAdd])
      refine wpT_nil ?_
      intro w5 hD
      have hO5 : Only [] w w5 := hO.trans hD
      have hB4' := hD.blk hB4 (by simp)
      have hB5' := hD.blk hB5 (by simp)
      obtain ⟨c0, c1, c2, c3, c4⟩ := HK.out.1.only hD hbr (by simp)
      obtain ⟨d0, d1, d2, d3, d4, df⟩ := Blk.ev hB5'
      have hb45 : w.heap.size ≠ w.heap.size + 1 := by omega
      by_cases hc : y.cy < m.cy
      · have hc1 : y.cy - m.cy < 0 := by omega
        have hpk : pickE m y = y := if_pos hc
        rw [hpk] at HN
        clear hc hpk HK HE
        have HB5 := Lib.hid hB5'
        have HB4 := Lib.hid hB4'
        clear hB5' hB4' hB4 hB5 hO hD
        go_wp2_with fail
        refine ⟨⟨k + 1, y, by go_num, by omega, by omega, HN, hy, ?_, ?_, ?_⟩, ?_⟩
        · exact (((((HB4.out.far hb45 _).far hb45 _).far hb45 _).far hb45 _).far hb45 _)
        · exact ((((((HB5.out.set_ 0 _).set_ 1 _).set_ 2 _).set_ 3 _).set_ 4 _))
        · exact hO5.trans' (S' := [w.heap.size + 1]) ((((((Only.refl _ _).set1 (by simp) 0 _).set1 (by simp) 1 _).set1 (by simp) 2 _).set1 (by simp) 3 _).set1 (by simp) 4 _) (by intro z hz; simp at hz; omega)
        · simp [intOf]
          omega
      · have hc1 : ¬ y.cy - m.cy < 0 := by omega
        have hpk : pickE m y = m := if_neg hc
        rw [hpk] at HN
        clear hc hpk HK HE
        go_wp2_with fail
        refine ⟨⟨k + 1, m, by go_num, by omega, by omega, HN, hm, hB4', hB5', hO5⟩, ?_⟩
        simp [intOf]
        omega
    · have hki : ¬ (k : Int) < (l.length : Int) := by omega
      have HV : Hid (minE l = m) := Lib.hid (by rw [HM.out, List.drop_eq_nil_of_le (by omega)]; rfl)
      clear HM
      obtain ⟨d0, d1, d2, d3, d4, df⟩ := Blk.ev hB5
      obtain ⟨f0, f1, f2, f3, f4, ff⟩ := Blk.ev hB4
      have hO2 : Only [] w wr := hO
      clear hB5 hO HE
      go_wp2_with fail
      refine bodyPost_ret (v := m.agg) (by simp [results, Tryd.results32, go_sem, f0, f1, f2, f3, f4]) rfl ?_
      refine ⟨by rw [HV.out], ?_⟩
      exact hO2.trans' (S' := [w.heap.size]) ((((((Only.refl _ _).set1 (by simp) 0 _).set1 (by simp) 1 _).set1 (by simp) 2 _).set1 (by simp) 3 _).set1 (by simp) 4 _) (by intro z hz; simp at hz; omega)
end Go.Proofs.YtojleleohhaigaaDoor

/- The document's side of traces: Right, walked. Condition: the row is short. -/
import Derived.Test.YtojleleohhaigaaDoorTsN
namespace Go.Proofs.YtojleleohhaigaaDoor
open Go Go.RowKit

def prevOf (l : List Ev) : Nat → Option Ev
  | 0 => none
  | k + 1 => l[k]?
theorem rightF_no {x : Ev} {a : Option Ev} {r : List Ev} (h : x.may a = false) : rightF a (x :: r) = false := by simp [rightF, h]
theorem rightF_yes {x : Ev} {a : Option Ev} {r : List Ev} (h : x.may a = true) : rightF a (x :: r) = rightF (some x) r := by simp [rightF, h]
theorem Only.al {w wr : World} (h : Only [] w wr) (o : Obj) : Only [] w (wr.alloc o) := h.alloc o

set_option maxRecDepth 100000 in
set_option maxHeartbeats 8000000 in
theorem rright_ev (l : List Ev) (hl : l.length ≤ 1000000) (v : Value) (w : World) (hv : EvS w v l) : Calls Tryd.prog 57 #[v] w fun e w' => e = .returned (.bool (rightL l)) ∧ Only [] w w' := by
  rcases hv with ⟨p, c, rfl, rfl⟩ | ⟨b, off, c, rfl, h0, hlc, hb, hE⟩
  · go_enter Tryd.func57, Tryd.ntmps57
    go_wp2
    go_loopw [3] (fun s wr => s = .int .i64 0 ∧ Only [] w wr) (fun _ _ => 0)
    case atStart => exact ⟨rfl, Only.refl _ _⟩
    case round =>
      obtain ⟨rfl, hO⟩ := hrel
      go_wp2
      go_returns
      exact ⟨rfl, hO⟩
  · have HE := Lib.hid hE
    clear hE
    go_enter Tryd.func57, Tryd.ntmps57
    go_wp2
    go_loopw [3] (fun s wr => ∃ k : Nat, s = .int .i64 k ∧ k ≤ l.length ∧ Hid (rightL l = rightF (prevOf l k) (l.drop k)) ∧ Only [] w wr) (fun i _ => l.length - (intOf i).toNat)
    case atStart => exact ⟨0, rfl, by omega, rfl, Only.refl _ _⟩
    case round =>
      obtain ⟨k, rfl, hk, HR, hO⟩ := hrel
      have hbr : b < wr.heap.size := Nat.lt_of_lt_of_le hb hO.size
      by_cases hkl : k < l.length
      · have hki : (k : Int) < (l.length : Int) := by omega
        have hdrop : l.drop k = l[k] :: l.drop (k + 1) := List.drop_eq_getElem_cons hkl
        have ek : l[k]? = some l[k] := by simp
        have hEk := (HE.out k l[k] ek).only hO hb (by simp)
        have hpr : prevOf l (k + 1) = some l[k] := ek
        rw [hdrop] at HR
        generalize l[k] = x at HR hEk hpr
        obtain ⟨cy, kd, va, er, ln⟩ := x
        obtain ⟨c0, c1, c2, c3, c4⟩ := hEk
        simp only at c0 c1 c2 c3 c4
        have hlk : k < l.length := hkl
        clear ek hdrop
        by_cases hA : cy < 0
        · have HV : Hid (rightL l = false) := Lib.hid (by rw [HR.out]; apply rightF_no; simp [Ev.may, Ev.rng, Ev.own]; omega)
          clear HR
          go_wp2
          go_returns
          exact ⟨by rw [HV.out]; rfl, by first | exact hO.al _ | exact (hO.al _).drew⟩
        by_cases hB : 4095 < cy
        · have HV : Hid (rightL l = false) := Lib.hid (by rw [HR.out]; apply rightF_no; simp [Ev.may, Ev.rng, Ev.own]; omega)
          clear HR
          go_wp2
          go_returns
          exact ⟨by rw [HV.out]; rfl, by first | exact hO.al _ | exact (hO.al _).drew⟩
        by_cases hK1 : kd = 1
        · subst hK1
          by_cases hL : ln = 0
          · subst hL
            rcases k with _ | m
            · rw [Nat.zero_mul, Nat.add_zero] at c0 c1 c2 c3 c4
              have HV : Hid (rightL l = rightF (prevOf l 1) (l.drop 1)) := Lib.hid (by rw [HR.out, hpr]; apply rightF_yes; simp [Ev.may, Ev.rng, Ev.own, Ev.behind, prevOf]; try omega)
              clear HR
              go_wp2
              refine wp_region_D (fun x => x = (wr.alloc (.cells (Ev.cs ⟨cy, 1, va, er, 0⟩) 44)).drew) (by kernel_rfl) (by kernel_rfl) rfl ?_
              repeat (first
                | (refine wpT_step _ (stD_skip rfl) ?_
                   simp only [Act.put, List.setIfInBounds_toArray, List.set_cons_succ, List.set_cons_zero, Nat.zero_add, Nat.reduceAdd])
                | (refine wpT_step ?_ (stD rfl (fun w' hD => ?_)) ?_
                   rotate_left
                   · subst hD
                     go_simp
                     (refine ⟨?_, rfl⟩; rfl)
                   simp only [Act.put, List.setIfInBounds_toArray, List.set_cons_succ, List.set_cons_zero, Nat.zero_add, Nat.reduceAdd]))
              refine wpT_nil ?_
              intro w6 hD
              subst hD
              go_wp2
              refine ⟨⟨1, by first | rfl | go_num, by omega, HV, (hO.al _).drew⟩, ?_⟩
              simp [intOf]
              omega
            · have hm : m < l.length := by omega
              have em : l[m]? = some l[m] := by simp
              have hEm := (HE.out m l[m] em).only hO hb (by simp)
              have hpm : prevOf l (m + 1) = some l[m] := em
              rw [hpm] at HR
              generalize l[m] = y at HR hEm
              obtain ⟨cy', kd', va', er', ln'⟩ := y
              obtain ⟨d0, d1, d2, d3, d4⟩ := hEm
              simp only at d0 d1 d2 d3 d4
              clear em hpm
              have hmi : (m : Int) < (l.length : Int) := by omega
              have hm0 : (0 : Int) ≤ (m : Int) := by omega
              have hmw : IntKind.i64.wrap (m : Int) = (m : Int) := IntWalk.i64_in _ (by omega)
              have hmp : (0 : Int) < (m : Int) + 1 := by omega
              by_cases hC : cy < cy'
              · have HV : Hid (rightL l = false) := Lib.hid (by rw [HR.out]; apply rightF_no; simp [Ev.may, Ev.rng, Ev.own, Ev.behind]; omega)
                clear HR
                go_wp2
                refine wp_region_D (fun x => x = (wr.alloc (.cells (Ev.cs ⟨cy, 1, va, er, 0⟩) 44)).drew) (by kernel_rfl) (by kernel_rfl) rfl ?_
                repeat (first
                  | (refine wpT_step _ (stD_skip rfl) ?_
                     simp only [Act.put, List.setIfInBounds_toArray, List.set_cons_succ, List.set_cons_zero, Nat.zero_add, Nat.reduceAdd])
                  | (refine wpT_step ?_ (stD rfl (fun w' hD => ?_)) ?_
                     rotate_left
                     · subst hD
                       go_simp
                       (refine ⟨?_, rfl⟩; rfl)
                     simp only [Act.put, List.setIfInBounds_toArray, List.set_cons_succ, List.set_cons_zero, Nat.zero_add, Nat.reduceAdd]))
                refine wpT_nil ?_
                intro w6 hD
                subst hD
                go_wp2
                go_returns
                exact ⟨by rw [HV.out]; rfl, by first | exact hO.al _ | exact (hO.al _).drew⟩
              have hCd : decide (cy < cy') = false := by simpa using hC
              by_cases hD : cy = cy'
              · subst hD
                by_cases hG : 1 ≤ kd'
                · have HV : Hid (rightL l = false) := Lib.hid (by rw [HR.out]; apply rightF_no; simp [Ev.may, Ev.rng, Ev.own, Ev.behind]; omega)
                  clear HR
                  go_wp2
                  refine wp_region_D (fun x => x = (wr.alloc (.cells (Ev.cs ⟨cy, 1, va, er, 0⟩) 44)).drew) (by kernel_rfl) (by kernel_rfl) rfl ?_
                  repeat (first
                    | (refine wpT_step _ (stD_skip rfl) ?_
                       simp only [Act.put, List.setIfInBounds_toArray, List.set_cons_succ, List.set_cons_zero, Nat.zero_add, Nat.reduceAdd])
                    | (refine wpT_step ?_ (stD rfl (fun w' hD => ?_)) ?_
                       rotate_left
                       · subst hD
                         go_simp
                         (refine ⟨?_, rfl⟩; rfl)
                       simp only [Act.put, List.setIfInBounds_toArray, List.set_cons_succ, List.set_cons_zero, Nat.zero_add, Nat.reduceAdd]))
                  refine wpT_nil ?_
                  intro w6 hD
                  subst hD
                  go_wp2
                  go_returns
                  exact ⟨by rw [HV.out]; rfl, by first | exact hO.al _ | exact (hO.al _).drew⟩
                · have hGd : decide (1 ≤ kd') = false := by simpa using hG
                  have HV : Hid (rightL l = rightF (prevOf l (m + 1 + 1)) (l.drop (m + 1 + 1))) := Lib.hid (by rw [HR.out, hpr]; apply rightF_yes; simp [Ev.may, Ev.rng, Ev.own, Ev.behind]; omega)
                  clear HR
                  go_wp2
                  refine wp_region_D (fun x => x = (wr.alloc (.cells (Ev.cs ⟨cy, 1, va, er, 0⟩) 44)).drew) (by kernel_rfl) (by kernel_rfl) rfl ?_
                  repeat (first
                    | (refine wpT_step _ (stD_skip rfl) ?_
                       simp only [Act.put, List.setIfInBounds_toArray, List.set_cons_succ, List.set_cons_zero, Nat.zero_add, Nat.reduceAdd])
                    | (refine wpT_step ?_ (stD rfl (fun w' hD => ?_)) ?_
                       rotate_left
                       · subst hD
                         go_simp
                         (refine ⟨?_, rfl⟩; rfl)
                       simp only [Act.put, List.setIfInBounds_toArray, List.set_cons_succ, List.set_cons_zero, Nat.zero_add, Nat.reduceAdd]))
                  refine wpT_nil ?_
                  intro w6 hD
                  subst hD
                  go_wp2
                  refine ⟨⟨m + 1 + 1, by first | rfl | go_num, by omega, HV, (hO.al _).drew⟩, ?_⟩
                  simp [intOf]
                  omega
              · have hDb : (cy == cy') = false := by simpa using hD
                have HV : Hid (rightL l = rightF (prevOf l (m + 1 + 1)) (l.drop (m + 1 + 1))) := Lib.hid (by rw [HR.out, hpr]; apply rightF_yes; simp [Ev.may, Ev.rng, Ev.own, Ev.behind]; omega)
                clear HR
                go_wp2
                refine wp_region_D (fun x => x = (wr.alloc (.cells (Ev.cs ⟨cy, 1, va, er, 0⟩) 44)).drew) (by kernel_rfl) (by kernel_rfl) rfl ?_
                repeat (first
                  | (refine wpT_step _ (stD_skip rfl) ?_
                     simp only [Act.put, List.setIfInBounds_toArray, List.set_cons_succ, List.set_cons_zero, Nat.zero_add, Nat.reduceAdd])
                  | (refine wpT_step ?_ (stD rfl (fun w' hD => ?_)) ?_
                     rotate_left
                     · subst hD
                       go_simp
                       (refine ⟨?_, rfl⟩; rfl)
                     simp only [Act.put, List.setIfInBounds_toArray, List.set_cons_succ, List.set_cons_zero, Nat.zero_add, Nat.reduceAdd]))
                refine wpT_nil ?_
                intro w6 hD
                subst hD
                go_wp2
                refine ⟨⟨m + 1 + 1, by first | rfl | go_num, by omega, HV, (hO.al _).drew⟩, ?_⟩
                simp [intOf]
                omega
          · have hLb : (ln == 0) = false := by simpa using hL
            have HV : Hid (rightL l = false) := Lib.hid (by rw [HR.out]; apply rightF_no; simp [Ev.may, Ev.rng, Ev.own]; omega)
            clear HR
            go_wp2
            go_returns
            exact ⟨by rw [HV.out]; rfl, by first | exact hO.al _ | exact (hO.al _).drew⟩
        have hK1b : (kd == 1) = false := by simpa using hK1
        by_cases hK2 : kd = 2
        · subst hK2
          by_cases hV : va = 0
          · subst hV
            by_cases hR : er = 0
            · subst hR
              by_cases hL0 : ln < 0
              · have HV : Hid (rightL l = false) := Lib.hid (by rw [HR.out]; apply rightF_no; simp [Ev.may, Ev.rng, Ev.own]; omega)
                clear HR
                go_wp2
                go_returns
                exact ⟨by rw [HV.out]; rfl, by first | exact hO.al _ | exact (hO.al _).drew⟩
              by_cases hL7 : 7 < ln
              · have HV : Hid (rightL l = false) := Lib.hid (by rw [HR.out]; apply rightF_no; simp [Ev.may, Ev.rng, Ev.own]; omega)
                clear HR
                go_wp2
                go_returns
                exact ⟨by rw [HV.out]; rfl, by first | exact hO.al _ | exact (hO.al _).drew⟩
              rcases k with _ | m
              · rw [Nat.zero_mul, Nat.add_zero] at c0 c1 c2 c3 c4
                have HV : Hid (rightL l = rightF (prevOf l 1) (l.drop 1)) := Lib.hid (by rw [HR.out, hpr]; apply rightF_yes; simp [Ev.may, Ev.rng, Ev.own, Ev.behind, prevOf]; try omega)
                clear HR
                go_wp2
                refine wp_region_D (fun x => x = (wr.alloc (.cells (Ev.cs ⟨cy, 2, 0, 0, ln⟩) 44)).drew) (by kernel_rfl) (by kernel_rfl) rfl ?_
                repeat (first
                  | (refine wpT_step _ (stD_skip rfl) ?_
                     simp only [Act.put, List.setIfInBounds_toArray, List.set_cons_succ, List.set_cons_zero, Nat.zero_add, Nat.reduceAdd])
                  | (refine wpT_step ?_ (stD rfl (fun w' hD => ?_)) ?_
                     rotate_left
                     · subst hD
                       go_simp
                       (refine ⟨?_, rfl⟩; rfl)
                     simp only [Act.put, List.setIfInBounds_toArray, List.set_cons_succ, List.set_cons_zero, Nat.zero_add, Nat.reduceAdd]))
                refine wpT_nil ?_
                intro w6 hD
                subst hD
                go_wp2
                refine ⟨⟨1, by first | rfl | go_num, by omega, HV, (hO.al _).drew⟩, ?_⟩
                simp [intOf]
                omega
              · have hm : m < l.length := by omega
                have em : l[m]? = some l[m] := by simp
                have hEm := (HE.out m l[m] em).only hO hb (by simp)
                have hpm : prevOf l (m + 1) = some l[m] := em
                rw [hpm] at HR
                generalize l[m] = y at HR hEm
                obtain ⟨cy', kd', va', er', ln'⟩ := y
                obtain ⟨d0, d1, d2, d3, d4⟩ := hEm
                simp only at d0 d1 d2 d3 d4
                clear em hpm
                have hmi : (m : Int) < (l.length : Int) := by omega
                have hm0 : (0 : Int) ≤ (m : Int) := by omega
                have hmw : IntKind.i64.wrap (m : Int) = (m : Int) := IntWalk.i64_in _ (by omega)
                have hmp : (0 : Int) < (m : Int) + 1 := by omega
                by_cases hC : cy < cy'
                · have HV : Hid (rightL l = false) := Lib.hid (by rw [HR.out]; apply rightF_no; simp [Ev.may, Ev.rng, Ev.own, Ev.behind]; omega)
                  clear HR
                  go_wp2
                  refine wp_region_D (fun x => x = (wr.alloc (.cells (Ev.cs ⟨cy, 2, 0, 0, ln⟩) 44)).drew) (by kernel_rfl) (by kernel_rfl) rfl ?_
                  repeat (first
                    | (refine wpT_step _ (stD_skip rfl) ?_
                       simp only [Act.put, List.setIfInBounds_toArray, List.set_cons_succ, List.set_cons_zero, Nat.zero_add, Nat.reduceAdd])
                    | (refine wpT_step ?_ (stD rfl (fun w' hD => ?_)) ?_
                       rotate_left
                       · subst hD
                         go_simp
                         (refine ⟨?_, rfl⟩; rfl)
                       simp only [Act.put, List.setIfInBounds_toArray, List.set_cons_succ, List.set_cons_zero, Nat.zero_add, Nat.reduceAdd]))
                  refine wpT_nil ?_
                  intro w6 hD
                  subst hD
                  go_wp2
                  go_returns
                  exact ⟨by rw [HV.out]; rfl, by first | exact hO.al _ | exact (hO.al _).drew⟩
                have hCd : decide (cy < cy') = false := by simpa using hC
                by_cases hD : cy = cy'
                · subst hD
                  by_cases hG : 2 ≤ kd'
                  · have HV : Hid (rightL l = false) := Lib.hid (by rw [HR.out]; apply rightF_no; simp [Ev.may, Ev.rng, Ev.own, Ev.behind]; omega)
                    clear HR
                    go_wp2
                    refine wp_region_D (fun x => x = (wr.alloc (.cells (Ev.cs ⟨cy, 2, 0, 0, ln⟩) 44)).drew) (by kernel_rfl) (by kernel_rfl) rfl ?_
                    repeat (first
                      | (refine wpT_step _ (stD_skip rfl) ?_
                         simp only [Act.put, List.setIfInBounds_toArray, List.set_cons_succ, List.set_cons_zero, Nat.zero_add, Nat.reduceAdd])
                      | (refine wpT_step ?_ (stD rfl (fun w' hD => ?_)) ?_
                         rotate_left
                         · subst hD
                           go_simp
                           (refine ⟨?_, rfl⟩; rfl)
                         simp only [Act.put, List.setIfInBounds_toArray, List.set_cons_succ, List.set_cons_zero, Nat.zero_add, Nat.reduceAdd]))
                    refine wpT_nil ?_
                    intro w6 hD
                    subst hD
                    go_wp2
                    go_returns
                    exact ⟨by rw [HV.out]; rfl, by first | exact hO.al _ | exact (hO.al _).drew⟩
                  · have hGd : decide (2 ≤ kd') = false := by simpa using hG
                    have HV : Hid (rightL l = rightF (prevOf l (m + 1 + 1)) (l.drop (m + 1 + 1))) := Lib.hid (by rw [HR.out, hpr]; apply rightF_yes; simp [Ev.may, Ev.rng, Ev.own, Ev.behind]; omega)
                    clear HR
                    go_wp2
                    refine wp_region_D (fun x => x = (wr.alloc (.cells (Ev.cs ⟨cy, 2, 0, 0, ln⟩) 44)).drew) (by kernel_rfl) (by kernel_rfl) rfl ?_
                    repeat (first
                      | (refine wpT_step _ (stD_skip rfl) ?_
                         simp only [Act.put, List.setIfInBounds_toArray, List.set_cons_succ, List.set_cons_zero, Nat.zero_add, Nat.reduceAdd])
                      | (refine wpT_step ?_ (stD rfl (fun w' hD => ?_)) ?_
                         rotate_left
                         · subst hD
                           go_simp
                           (refine ⟨?_, rfl⟩; rfl)
                         simp only [Act.put, List.setIfInBounds_toArray, List.set_cons_succ, List.set_cons_zero, Nat.zero_add, Nat.reduceAdd]))
                    refine wpT_nil ?_
                    intro w6 hD
                    subst hD
                    go_wp2
                    refine ⟨⟨m + 1 + 1, by first | rfl | go_num, by omega, HV, (hO.al _).drew⟩, ?_⟩
                    simp [intOf]
                    omega
                · have hDb : (cy == cy') = false := by simpa using hD
                  have HV : Hid (rightL l = rightF (prevOf l (m + 1 + 1)) (l.drop (m + 1 + 1))) := Lib.hid (by rw [HR.out, hpr]; apply rightF_yes; simp [Ev.may, Ev.rng, Ev.own, Ev.behind]; omega)
                  clear HR
                  go_wp2
                  refine wp_region_D (fun x => x = (wr.alloc (.cells (Ev.cs ⟨cy, 2, 0, 0, ln⟩) 44)).drew) (by kernel_rfl) (by kernel_rfl) rfl ?_
                  repeat (first
                    | (refine wpT_step _ (stD_skip rfl) ?_
                       simp only [Act.put, List.setIfInBounds_toArray, List.set_cons_succ, List.set_cons_zero, Nat.zero_add, Nat.reduceAdd])
                    | (refine wpT_step ?_ (stD rfl (fun w' hD => ?_)) ?_
                       rotate_left
                       · subst hD
                         go_simp
                         (refine ⟨?_, rfl⟩; rfl)
                       simp only [Act.put, List.setIfInBounds_toArray, List.set_cons_succ, List.set_cons_zero, Nat.zero_add, Nat.reduceAdd]))
                  refine wpT_nil ?_
                  intro w6 hD
                  subst hD
                  go_wp2
                  refine ⟨⟨m + 1 + 1, by first | rfl | go_num, by omega, HV, (hO.al _).drew⟩, ?_⟩
                  simp [intOf]
                  omega
            · have hRb : (er == 0) = false := by simpa using hR
              have HV : Hid (rightL l = false) := Lib.hid (by rw [HR.out]; apply rightF_no; simp [Ev.may, Ev.rng, Ev.own]; omega)
              clear HR
              go_wp2
              go_returns
              exact ⟨by rw [HV.out]; rfl, by first | exact hO.al _ | exact (hO.al _).drew⟩
          · have hVb : (va == 0) = false := by simpa using hV
            have HV : Hid (rightL l = false) := Lib.hid (by rw [HR.out]; apply rightF_no; simp [Ev.may, Ev.rng, Ev.own]; omega)
            clear HR
            go_wp2
            go_returns
            exact ⟨by rw [HV.out]; rfl, by first | exact hO.al _ | exact (hO.al _).drew⟩
        · have hK2b : (kd == 2) = false := by simpa using hK2
          have HV : Hid (rightL l = false) := Lib.hid (by rw [HR.out]; apply rightF_no; simp [Ev.may, Ev.rng, Ev.own]; omega)
          clear HR
          go_wp2
          go_returns
          exact ⟨by rw [HV.out]; rfl, by first | exact hO.al _ | exact (hO.al _).drew⟩
      · have hki : ¬ (k : Int) < (l.length : Int) := by omega
        have HV : Hid (rightL l = true) := Lib.hid (by rw [HR.out, List.drop_eq_nil_of_le (by omega)]; rfl)
        clear HR
        go_wp2
        go_returns
        exact ⟨by rw [HV.out]; rfl, hO⟩
end Go.Proofs.YtojleleohhaigaaDoor

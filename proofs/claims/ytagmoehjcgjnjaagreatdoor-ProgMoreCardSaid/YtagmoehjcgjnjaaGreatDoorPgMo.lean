/- The statement ProgMore, walked. Conditions: the listed variables are laid; words fit. -/
import Derived.Test.YtagmoehjcgjnjaaGreatDoorPgMp
namespace Go.Proofs.YtagmoehjcgjnjaaGreatDoor
open Go Go.RowKit

set_option maxRecDepth 100000 in
set_option maxHeartbeats 1000000 in
theorem pmore_any (l : List In) (hll : l.length < 9223372036854775808) (hf : ∀ x ∈ l, x.Fits) (x : In) (hxf : x.Fits) (v : Value) (w : World) (hg : Gl w) (hv : InS w v l) :
    Calls Tryz.prog 3 #[v, x.agg] w fun e w' => e = .returned (.bool true) ∧ Only [] w w' := by
  have HA := Lib.hid (fun W (h : Only [] w W) => pawake_any W (hg.only h))
  have hO0 : Only [] w (w.alloc (.cells x.cs 33)) := (Only.refl _ _).alloc _
  obtain ⟨pv, cv, rfl⟩ := hv.len
  by_cases h1 : 200 < l.length
  · have h1i : (200 : Int) < (l.length : Int) := by omega
    clear hv
    go_enter Tryz.func3, Tryz.ntmps3
    go_wp2_with (go_at_call 8; refine (HA.out _ hO0).mono ?_; rintro e w1 ⟨rfl, hO1⟩)
    go_returns
    exact ⟨rfl, hO0.trans hO1⟩
  · have h1i : ¬ (200 : Int) < (l.length : Int) := by omega
    have HRg := Lib.hid (fun W (h : Only [] w W) => pright_any l (by omega) hf _ W (hv.only0 h))
    have HL : Hid (l.length ≤ 200) := Lib.hid (by omega)
    cases hok : okR l with
    | false =>
      rw [hok] at HRg
      clear hv h1 hok
      go_enter Tryz.func3, Tryz.ntmps3
      go_wp2_with (first
        | (go_at_call 8; refine (HA.out _ hO0).mono ?_; rintro e w1 ⟨rfl, hO1⟩)
        | (go_at_call 9; change Calls _ _ _ _ _; (with_reducible refine (HRg.out _ (hO0.trans hO1)).mono ?_); rintro e w2 ⟨rfl, hO2⟩))
      go_returns
      exact ⟨rfl, (hO0.trans hO1).trans hO2⟩
    | true =>
      rw [hok] at HRg
      have hX0 : (w.alloc (.cells x.cs 33)).rangeAt w.heap.size 0 x.cs.toList := Blk.rng (Blk.new _ _ _)
      have HV := Lib.hid hv
      have HP := Lib.hid (okR_more hok x)
      have HQ := Lib.hid (fun h => okR_less hok h)
      clear hv h1 hok
      go_enter Tryz.func3, Tryz.ntmps3
      go_wp2_with (first
        | (go_at_call 8; refine (HA.out _ hO0).mono ?_; rintro e w1 ⟨rfl, hO1⟩)
        | (go_at_call 9; change Calls _ _ _ _ _; (with_reducible refine (HRg.out _ (hO0.trans hO1)).mono ?_); rintro e w2 ⟨rfl, hO2⟩))
      have hOx := hO1.trans hO2
      have HX2 := Lib.hid (rng_only hX0 hOx (Blk.new _ _ _).lt (by simp))
      have hOw := (hO0.trans hO1).trans hO2
      have hlt : w.heap.size < w2.heap.size := Nat.lt_of_lt_of_le (Blk.new w 33 x.cs).lt hOx.size
      clear hX0 hOx hO0 hO1 hO2 HRg
      refine wp_addF (.slice pv l.length cv) l x w.heap.size (.tmp 0) (.tmp 18) (.tmp 19) (.tmp 3) (.tmp 21) (.tmp 20) (.tmp 22) (.tmp 23) (by kernel_rfl) (by simp only [mkF, Act.put, List.setIfInBounds_toArray, List.set_cons_succ, List.set_cons_zero]) ?_ ?_
        rfl rfl ?v1 rfl rfl ?v20 ?v21 rfl ?v3 rfl ?v4 rfl rfl ?v50 ?v51 rfl ?v6
        (by simp [Region.binds]) (by simp [Region.binds]) (by simp [Region.binds]) (by simp [Region.binds]) (by simp [Region.binds]) (by simp [Region.binds])
        (HV.out.only0 hOw) (by have := HL.out; omega) HX2.out hlt ?_
      case v1 | v20 | v21 | v3 | v4 | v50 | v51 | v6 =>
        intro f
        simp only [mkF, Act.put, List.setIfInBounds_toArray, List.set_cons_succ, List.set_cons_zero, Nat.zero_add, Nat.reduceAdd]
        rfl
      · intro o ho
        simp only [List.mem_cons, List.not_mem_nil, or_false] at ho
        rcases ho with rfl | rfl | rfl | rfl | rfl | rfl | rfl <;> rfl
      · intro i o ho f v
        have hi : i < 7 := by
          rcases Nat.lt_or_ge i 7 with h | h
          · exact h
          · rw [List.getElem?_eq_none (by simpa using h)] at ho; cases ho
        have : i = 0 ∨ i = 1 ∨ i = 2 ∨ i = 3 ∨ i = 4 ∨ i = 5 ∨ i = 6 := by omega
        rcases this with rfl | rfl | rfl | rfl | rfl | rfl | rfl <;> (cases ho; simp [mkF, Act.put])
      · intro f wa hOa hRa
        have hm := hRa.ins
        obtain ⟨pm, cm, hme⟩ := hm.len
        rw [hme] at hm
        simp only [mkF, Act.put, List.setIfInBounds_toArray, List.set_cons_succ, List.set_cons_zero, hme, Nat.zero_add, Nat.reduceAdd]
        have hOwa := hOw.trans hOa
        have HXa : Hid (∀ W, Only [] wa W → W.rangeAt w.heap.size 0 x.cs.toList) := Lib.hid (fun W h => rng_only (rng_only HX2.out hOa hlt (by simp)) h (Nat.lt_of_lt_of_le hlt hOa.size) (by simp))
        have HT5 : Hid (∀ W, Only [] wa W → W.cell? ⟨w.heap.size, 5, none⟩ = some (.int .i64 x.to)) := Lib.hid (fun W h => HXa.out W h 5 _ rfl)
        have HRm := Lib.hid (fun W (h : Only [] wa W) => pright_any (l ++ [x]) (by have := HL.out; simp; omega) (fun y hy => by
          rcases List.mem_append.1 hy with h | h
          · exact hf y h
          · simp at h; subst h; exact hxf) _ W (hm.only0 h))
        have HIx := Lib.hid (fun W (h : Only [] wa W) => instr_any x (by have := hxf.dt; omega) W)
        have hlm : ((l ++ [x]).length : Int) = (l.length : Int) + 1 := by simp
        generalize (l ++ [x]).length = nm at hlm HRm
        rw [HP.out] at HRm
        clear HP HX2 hlt hOw hRa hme hm
        generalize f 0 = f0
        generalize f 1 = f1
        generalize f 2 = f2
        generalize f 3 = f3
        generalize f 4 = f4
        generalize f 5 = f5
        go_upto_region 6 with fail
        go_cut [40] (fun v wx => v = .bool false ∧ Only [] wa wx)
        case first =>
          cases hxo : x.ok with
          | false =>
            rw [hxo, Bool.false_and, Bool.false_and] at HRm
            rw [hxo] at HIx
            refine wp_region_D (Only [] wa) (by kernel_rfl) (by kernel_rfl) ((Only.refl _ _).drew) ?_
            repeat (first
              | (refine wpT_step _ (stD_skip rfl) ?_
                 simp only [Act.put, List.setIfInBounds_toArray, List.set_cons_succ, List.set_cons_zero, Nat.zero_add, Nat.reduceAdd])
              | (refine wpT_step ?_ (stD rfl (fun w' hD => ?_)) ?_
                 rotate_left
                 · first
                     | (refine @st_ld (Only [] wa) _ _ _ (.tmp 3) ?_ w.heap.size 0 ?_ x (HXa.out _ hD) hD <;> rfl)
                     | (have hc5 := HT5.out w' hD
                        go_simp
                        first
                          | (rw [if_neg (by omega)]; refine ⟨?_, hD⟩; rfl)
                          | (refine ⟨?_, hD⟩; rfl)
                          | (change Calls _ _ _ _ _; (with_reducible refine (HRm.out w' hD).mono ?_); rintro e w'' ⟨rfl, h⟩; refine ⟨?_, hD.trans h⟩; rfl)
                          | (change Calls _ _ _ _ _; (with_reducible refine (HIx.out w' hD).mono ?_); rintro e w'' ⟨rfl, h⟩; refine ⟨?_, hD.trans h⟩; rfl))
                 simp only [Act.put, List.setIfInBounds_toArray, List.set_cons_succ, List.set_cons_zero, Nat.zero_add, Nat.reduceAdd]))
            refine wpT_nil ?_
            intro wb hOb
            go_wp2_with fail
            go_meet
            exact ⟨rfl, hOb⟩
          | true =>
            rw [hxo, Bool.true_and] at HRm
            rw [hxo] at HIx
            by_cases hto : x.to ≤ (l.length : Int) + 1
            · have hto' : x.to ≤ (nm : Int) := by omega
              rw [decide_eq_true hto, Bool.true_and] at HRm
              by_cases h64 : (l.length : Int) < 64
              · rw [decide_eq_true h64] at HRm
                refine wp_region_D (Only [] wa) (by kernel_rfl) (by kernel_rfl) ((Only.refl _ _).drew) ?_
                repeat (first
                  | (refine wpT_step _ (stD_skip rfl) ?_
                     simp only [Act.put, List.setIfInBounds_toArray, List.set_cons_succ, List.set_cons_zero, Nat.zero_add, Nat.reduceAdd])
                  | (refine wpT_step ?_ (stD rfl (fun w' hD => ?_)) ?_
                     rotate_left
                     · first
                         | (refine @st_ld (Only [] wa) _ _ _ (.tmp 3) ?_ w.heap.size 0 ?_ x (HXa.out _ hD) hD <;> rfl)
                         | (have hc5 := HT5.out w' hD
                            go_simp
                            first
                              | (rw [if_neg (by omega)]; refine ⟨?_, hD⟩; rfl)
                              | (refine ⟨?_, hD⟩; rfl)
                              | (change Calls _ _ _ _ _; (with_reducible refine (HRm.out w' hD).mono ?_); rintro e w'' ⟨rfl, h⟩; refine ⟨?_, hD.trans h⟩; rfl)
                              | (change Calls _ _ _ _ _; (with_reducible refine (HIx.out w' hD).mono ?_); rintro e w'' ⟨rfl, h⟩; refine ⟨?_, hD.trans h⟩; rfl))
                     simp only [Act.put, List.setIfInBounds_toArray, List.set_cons_succ, List.set_cons_zero, Nat.zero_add, Nat.reduceAdd]))
                refine wpT_nil ?_
                intro wb hOb
                go_wp2_with fail
                go_meet
                exact ⟨rfl, hOb⟩
              · rw [decide_eq_false h64] at HRm
                refine wp_region_D (Only [] wa) (by kernel_rfl) (by kernel_rfl) ((Only.refl _ _).drew) ?_
                repeat (first
                  | (refine wpT_step _ (stD_skip rfl) ?_
                     simp only [Act.put, List.setIfInBounds_toArray, List.set_cons_succ, List.set_cons_zero, Nat.zero_add, Nat.reduceAdd])
                  | (refine wpT_step ?_ (stD rfl (fun w' hD => ?_)) ?_
                     rotate_left
                     · first
                         | (refine @st_ld (Only [] wa) _ _ _ (.tmp 3) ?_ w.heap.size 0 ?_ x (HXa.out _ hD) hD <;> rfl)
                         | (have hc5 := HT5.out w' hD
                            go_simp
                            first
                              | (rw [if_neg (by omega)]; refine ⟨?_, hD⟩; rfl)
                              | (refine ⟨?_, hD⟩; rfl)
                              | (change Calls _ _ _ _ _; (with_reducible refine (HRm.out w' hD).mono ?_); rintro e w'' ⟨rfl, h⟩; refine ⟨?_, hD.trans h⟩; rfl)
                              | (change Calls _ _ _ _ _; (with_reducible refine (HIx.out w' hD).mono ?_); rintro e w'' ⟨rfl, h⟩; refine ⟨?_, hD.trans h⟩; rfl))
                     simp only [Act.put, List.setIfInBounds_toArray, List.set_cons_succ, List.set_cons_zero, Nat.zero_add, Nat.reduceAdd]))
                refine wpT_nil ?_
                intro wb hOb
                go_wp2_with fail
                go_meet
                exact ⟨rfl, hOb⟩
            · have hto' : ¬ x.to ≤ (nm : Int) := by omega
              rw [decide_eq_false hto, Bool.false_and] at HRm
              refine wp_region_D (Only [] wa) (by kernel_rfl) (by kernel_rfl) ((Only.refl _ _).drew) ?_
              repeat (first
                | (refine wpT_step _ (stD_skip rfl) ?_
                   simp only [Act.put, List.setIfInBounds_toArray, List.set_cons_succ, List.set_cons_zero, Nat.zero_add, Nat.reduceAdd])
                | (refine wpT_step ?_ (stD rfl (fun w' hD => ?_)) ?_
                   rotate_left
                   · first
                       | (refine @st_ld (Only [] wa) _ _ _ (.tmp 3) ?_ w.heap.size 0 ?_ x (HXa.out _ hD) hD <;> rfl)
                       | (have hc5 := HT5.out w' hD
                          go_simp
                          first
                            | (rw [if_neg (by omega)]; refine ⟨?_, hD⟩; rfl)
                            | (refine ⟨?_, hD⟩; rfl)
                            | (change Calls _ _ _ _ _; (with_reducible refine (HRm.out w' hD).mono ?_); rintro e w'' ⟨rfl, h⟩; refine ⟨?_, hD.trans h⟩; rfl)
                            | (change Calls _ _ _ _ _; (with_reducible refine (HIx.out w' hD).mono ?_); rintro e w'' ⟨rfl, h⟩; refine ⟨?_, hD.trans h⟩; rfl))
                   simp only [Act.put, List.setIfInBounds_toArray, List.set_cons_succ, List.set_cons_zero, Nat.zero_add, Nat.reduceAdd]))
              refine wpT_nil ?_
              intro wb hOb
              go_wp2_with fail
              go_meet
              exact ⟨rfl, hOb⟩
        case rest =>
          obtain ⟨rfl, hOb⟩ := hcut
          have hOt := hOwa.trans hOb
          clear hOb hOwa HXa HT5 HRm HIx hlm
          by_cases h0 : l = []
          · subst h0
            clear HV
            go_wp2
            go_returns
            exact ⟨rfl, hOt⟩
          · have hlp := List.length_pos_iff.2 h0
            have hlp0 : ¬ (l.length : Int) = 0 := by omega
            have hw1 : IntKind.i64.wrap ((l.length : Int) - 1) = (l.length : Int) - 1 := IntWalk.i64_in _ (by have := HL.out; omega)
            obtain ⟨b, off, c, hve, -, hlc, hb, hE⟩ := HV.out.resolve_left (fun ⟨_, _, _, h⟩ => h0 h)
            cases hve
            have HE := Lib.hid hE
            clear hE
            go_wp2
            go_loopw [6, 7] (fun t s wr => ∃ k : Nat, t = .int .i64 (maxTo (l.take k)) ∧ s = .int .i64 k ∧ k + 1 ≤ l.length ∧ Only [] w wr) (fun _ i _ => l.length - (intOf i).toNat)
            case atStart => exact ⟨0, rfl, rfl, by omega, hOt⟩
            case round =>
              obtain ⟨k, rfl, rfl, hk, hO⟩ := hrel
              by_cases hkl : k + 1 < l.length
              · have hki : (k : Int) < (l.length : Int) - 1 := by omega
                have hki2 : (k : Int) < (l.length : Int) := by omega
                have e1 : l[k]? = some l[k] := by simp
                have ht1 : l.take (k + 1) = l.take k ++ [l[k]] := by simp
                have hc5 : wr.cell? ⟨b, off + k * 18 + 5, none⟩ = some (.int .i64 l[k].to) := rng_only (HE.out k l[k] e1) hO hb (by simp) 5 _ rfl
                have HM : Hid (maxTo (l.take (k + 1)) = max (maxTo (l.take k)) l[k].to) := Lib.hid (by rw [ht1, maxTo_snoc])
                generalize l[k].to = tk at hc5 HM
                generalize maxTo (l.take k) = mk at HM
                clear e1 ht1
                go_wp2
                refine ⟨⟨k + 1, ?_, by go_num, by omega, hO⟩, ?_⟩
                · rw [HM.out]
                · simp [intOf]; omega
              · have hki : ¬ (k : Int) < (l.length : Int) - 1 := by omega
                have hkk : k + 1 = l.length := by omega
                have hk1 : ((l.length : Int) - 1).toNat = k := by omega
                have hk2 : (0 : Int) ≤ (l.length : Int) - 1 := by omega
                have hd : l.take k = l.dropLast := by rw [List.dropLast_eq_take]; congr 1; omega
                have HRd := Lib.hid (fun W (h : Only [] wr W) => pright_any l.dropLast (by rw [List.length_dropLast]; have := HL.out; omega) (fun y hy => hf y ((List.dropLast_sublist _).subset hy)) (.slice (some ⟨b, off, none⟩) k cv) W ((HV.out.less (n := k) hkk).only0 (hO.trans h)))
                rw [HQ.out hlp] at HRd
                rw [hd]
                generalize maxTo l.dropLast = mt at HRd
                clear hd
                go_wp2_with (go_at_call 9; change Calls _ _ _ _ _; (with_reducible refine (HRd.out _ (Only.refl _ _)).mono ?_); rintro e w5 ⟨rfl, hO5⟩)
                go_returns
                exact ⟨by simp, hO.trans hO5⟩
end Go.Proofs.YtagmoehjcgjnjaaGreatDoor

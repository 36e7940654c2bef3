/- The statement ProgLines, walked. Conditions: the listed variables are laid; words fit. -/
import Derived.Test.YtagmoehjcgjnjaaGreatDoorPgBk
import Derived.Test.YtagmoehjcgjnjaaGreatDoorPgLn0
namespace Go.Proofs.YtagmoehjcgjnjaaGreatDoor
open Go Go.RowKit

set_option maxRecDepth 100000 in
set_option maxHeartbeats 8000000 in
theorem plines_any (l : List In) (hll : l.length < 9223372036854775808) (hf : ∀ x ∈ l, x.Fits) (t : List UInt8) (htl : t.length < 9223372036854775808) (v : Value) (w : World) (hg : Gl w) (hv : InS w v l) :
    Calls Tryz.prog 7 #[v, str t] w fun e w' => e = .returned (.bool true) ∧ Only [] w w' := by
  have HA := Lib.hid (pawake_any w hg)
  obtain ⟨pv, cv, rfl⟩ := hv.len
  by_cases h1 : 200 < l.length
  · have h1i : (200 : Int) < (l.length : Int) := by omega
    clear hv
    go_enter Tryz.func7, Tryz.ntmps7
    go_wp2_with (go_at_call 8; refine HA.out.mono ?_; rintro e w1 ⟨rfl, hO1⟩)
    go_returns
    exact ⟨rfl, hO1⟩
  · by_cases h2 : 4000 < t.length
    · have h1i : ¬ (200 : Int) < (l.length : Int) := by omega
      have h2i : (4000 : Int) < (t.length : Int) := by omega
      clear hv
      go_enter Tryz.func7, Tryz.ntmps7
      go_wp2_with (go_at_call 8; refine HA.out.mono ?_; rintro e w1 ⟨rfl, hO1⟩)
      go_returns
      exact ⟨rfl, hO1⟩
    · have h1i : ¬ (200 : Int) < (l.length : Int) := by omega
      have h2i : ¬ (4000 : Int) < (t.length : Int) := by omega
      have HRg := Lib.hid (fun W (h : Only [] w W) => pright_any l (by omega) hf _ W (hv.only0 h))
      have HV := Lib.hid hv
      have HL : Hid (l.length ≤ 200) := Lib.hid (by omega)
      have HT : Hid (t.length ≤ 800000) := Lib.hid (by omega)
      have HG := Lib.hid hg
      clear h1 h2 hll htl
      cases hok : okR l with
      | false =>
        rw [hok] at HRg
        clear hok hv hg hf HL HV
        by_cases h8 : (rdA t).2.2 = 8
        · obtain ⟨kb, hk0, hki, hkn⟩ := rd_eight h8
          have hr : rdA t = ((rdA t).1, kb + 1, 8) := Prod.ext rfl (Prod.ext hkn h8)
          have HRt := Lib.hid (fun W (h : Only [] w W) => pread_ins t HT.out W (HG.out.only h) hr)
          have HF0 := Lib.hid (Fr.start hki)
          clear hr h8 hki hkn
          go_enter Tryz.func7, Tryz.ntmps7
          go_wp2_with (first
            | (go_at_call 8; refine HA.out.mono ?_; rintro e w1 ⟨rfl, hO1⟩)
            | (go_at_call 9; change Calls _ _ _ _ _; (with_reducible refine (HRg.out _ hO1).mono ?_); rintro e w3 ⟨rfl, hO3⟩)
            | (go_at_call 15; change Calls _ _ _ _ _; (with_reducible refine (HRt.out _ (hO1.trans hO3)).mono ?_); rintro e w6 ⟨v9, rfl, hE9, hO6⟩))
          go_loopw [16, 17, 18] (fun a f i wr => ∃ j f' i' : Nat, a = .int .i64 ((j : Int) + 1) ∧ f = .int .i64 f' ∧ i = .int .i64 i' ∧ Hid (Fr t kb j f' i') ∧ j ≤ f' ∧ f' ≤ i' ∧ i' ≤ t.length ∧ Only [] w wr) (fun _ _ i _ => t.length + 1 - (intOf i).toNat)
          case atStart => exact ⟨0, 0, 0, rfl, rfl, rfl, HF0, by omega, by omega, by omega, (hO1.trans hO3).trans hO6⟩
          case round =>
            obtain ⟨j, f', i', rfl, rfl, rfl, HF, hjf, hfi, hil, hO⟩ := hrel
            have hle : (i' : Int) ≤ (t.length : Int) := by omega
            have hli : (t.length : Int) ≤ 4000 := by omega
            have hfi2 : (f' : Int) ≤ (i' : Int) := by omega
            by_cases hlt : i' < t.length
            · have hlti : (i' : Int) < (t.length : Int) := by omega
              by_cases h10 : t[i'] = 10
              · have hcut := HF.out.cut hlt h10 hk0
                have hbt := byte_is t i' (by simpa [ByteArray.size] using hlt) hlt h10
                generalize hT : (t.drop f').take (i' - f') = tt at hcut
                have htl : tt.length < 900000 := by rw [← hT, List.length_take, List.length_drop]; omega
                have hstr : Value.string ((ByteArray.mk t.toArray).extract f' i') = str tt := by rw [cut_any, hT]
                have HOn : Hid (∀ W, Only [] w W → Calls Tryz.prog 18 #[Value.string ((ByteArray.mk t.toArray).extract f' i')] W fun e w' => e = .returned (.tuple #[(oneX tt).agg, .int .i64 (oneE tt)]) ∧ Only [] W w') := Lib.hid (fun W h => by rw [hstr]; exact one_any tt htl W (HG.out.only h))
                clear htl hstr hT
                cases hb : badL tt with
                | true =>
                  have hkj := hcut.1 hb
                  have ho8 : oneE tt = 8 := one_bad hb
                  rw [ho8] at HOn
                  generalize oneX tt = xx at HOn
                  subst hkj
                  clear hcut HF
                  go_wp2_with (first
                    | (go_at_call 18; change Calls _ _ _ _ _; (with_reducible refine (HOn.out _ hO).mono ?_); rintro e w7 ⟨rfl, hO7⟩)
                    | (refine wpList_st 33 xx.cs.toList w7.heap.size 0 _ _ rfl (by kernel_rfl) rfl rfl rfl rfl (Blk.new w7 33 (In.only 0).cs) (Nat.le_of_ble_eq_true rfl) ?_; intro w8 hB8 hO8))
                  go_returns
                  exact ⟨rfl, (hO.trans hO7).trans (((Only.refl [] w7).alloc (.cells (In.only 0).cs 33)).trans' hO8 (by intro z hz hlt; simp at hz; omega))⟩
                | false =>
                  have hnx := hcut.2 hb
                  have ho0 : oneE tt = 0 := one_ok hb
                  rw [ho0] at HOn
                  generalize oneX tt = xx at HOn
                  have HF2 := Lib.hid hnx.1
                  have hne1 : ((j : Int) + 1 == kb + 1) = false := by have := hnx.2; simp; omega
                  have hne2 : ¬ (j : Int) + 1 = kb + 1 := by have := hnx.2; omega
                  clear hcut HF hnx
                  go_wp2_with (first
                    | (go_at_call 18; change Calls _ _ _ _ _; (with_reducible refine (HOn.out _ hO).mono ?_); rintro e w7 ⟨rfl, hO7⟩)
                    | (refine wpList_st 33 xx.cs.toList w7.heap.size 0 _ _ rfl (by kernel_rfl) rfl rfl rfl rfl (Blk.new w7 33 (In.only 0).cs) (Nat.le_of_ble_eq_true rfl) ?_; intro w8 hB8 hO8))
                  refine ⟨⟨j + 1, i' + 1, i' + 1, by go_num, by go_num, by go_num, HF2, by omega, by omega, by omega, (hO.trans hO7).trans (((Only.refl [] w7).alloc (.cells (In.only 0).cs 33)).trans' hO8 (by intro z hz hlt; simp at hz; omega))⟩, ?_⟩
                  simp [intOf]; omega
              · have hbt := byte_not t i' (by simpa [ByteArray.size] using hlt) hlt h10
                have HF2 := Lib.hid (HF.out.next hlt h10)
                clear HF
                go_wp2
                refine ⟨⟨j, f', i' + 1, rfl, rfl, by go_num, HF2, by omega, by omega, by omega, hO⟩, ?_⟩
                simp [intOf]; omega
            · have hlti : ¬ (i' : Int) < (t.length : Int) := by omega
              obtain rfl : i' = t.length := by omega
              have hcut := HF.out.last hk0
              generalize hT : (t.drop f').take (t.length - f') = tt at hcut
              have htl : tt.length < 900000 := by rw [← hT, List.length_take, List.length_drop]; omega
              have hstr : Value.string ((ByteArray.mk t.toArray).extract f' t.length) = str tt := by rw [cut_any, hT]
              have HOn : Hid (∀ W, Only [] w W → Calls Tryz.prog 18 #[Value.string ((ByteArray.mk t.toArray).extract f' t.length)] W fun e w' => e = .returned (.tuple #[(oneX tt).agg, .int .i64 (oneE tt)]) ∧ Only [] W w') := Lib.hid (fun W h => by rw [hstr]; exact one_any tt htl W (HG.out.only h))
              clear htl hstr hT
              have hkj := hcut.2
              have ho8 : oneE tt = 8 := one_bad hcut.1
              rw [ho8] at HOn
              generalize oneX tt = xx at HOn
              subst hkj
              clear hcut HF
              go_wp2_with (first
                | (go_at_call 18; change Calls _ _ _ _ _; (with_reducible refine (HOn.out _ hO).mono ?_); rintro e w7 ⟨rfl, hO7⟩)
                | (refine wpList_st 33 xx.cs.toList w7.heap.size 0 _ _ rfl (by kernel_rfl) rfl rfl rfl rfl (Blk.new w7 33 (In.only 0).cs) (Nat.le_of_ble_eq_true rfl) ?_; intro w8 hB8 hO8))
              go_returns
              exact ⟨rfl, (hO.trans hO7).trans (((Only.refl [] w7).alloc (.cells (In.only 0).cs 33)).trans' hO8 (by intro z hz hlt; simp at hz; omega))⟩
        · have hr : rdA t = ((rdA t).1, (rdA t).2.1, (rdA t).2.2) := rfl
          have HRt := Lib.hid (fun W (h : Only [] w W) => pread_ins t HT.out W (HG.out.only h) hr)
          have h8b : ((rdA t).2.2 != 8) = true := by simpa using h8
          clear hr
          generalize (rdA t).2.1 = n at HRt
          generalize (rdA t).2.2 = er at HRt h8 h8b
          go_enter Tryz.func7, Tryz.ntmps7
          go_wp2_with (first
            | (go_at_call 8; refine HA.out.mono ?_; rintro e w1 ⟨rfl, hO1⟩)
            | (go_at_call 9; change Calls _ _ _ _ _; (with_reducible refine (HRg.out _ hO1).mono ?_); rintro e w3 ⟨rfl, hO3⟩)
            | (go_at_call 15; change Calls _ _ _ _ _; (with_reducible refine (HRt.out _ (hO1.trans hO3)).mono ?_); rintro e w6 ⟨v9, rfl, hE9, hO6⟩))
          go_returns
          exact ⟨rfl, (hO1.trans hO3).trans hO6⟩
      | true =>
        rw [hok] at HRg
        have HS := Lib.hid (fun W (h : Only [] w W) => pshow_any l (by have := HL.out; omega) hf _ W (hg.only h) (hv.only0 h))
        have e1 : pshown l = allT l l.length := by rw [allT_all]; simp [pshown, hok]
        have e2 : pshowE l = 0 := by simp [pshowE, hok]
        rw [e1, e2] at HS
        have HK := Lib.hid (okR_iff.1 hok).2
        have HFt := Lib.hid hf
        have HE : Hid (∀ (k : Nat) x, l[k]? = some x → ∃ b off, pv = some ⟨b, off, none⟩ ∧ b < w.heap.size ∧ w.rangeAt b (off + k * 18) x.cs.toList) := Lib.hid (fun k x hx => by
          rcases HV.out with ⟨p, c, h, rfl⟩ | ⟨b, off, c, h, -, -, hb, hE⟩
          · simp at hx
          · cases h
            exact ⟨b, off, rfl, hb, hE k x hx⟩)
        have HTL : Hid (∀ k, k ≤ l.length → (allT l k).length ≤ 200000) := Lib.hid (fun k hk => allT_len hf hok k hk)
        have hl2 : (l.length : Int) ≤ 200 := by have := HL.out; omega
        clear e1 e2 hok hv hg hf HV
        by_cases h8 : (rdA t).2.2 = 8
        · obtain ⟨kb, hk0, hki, hkn⟩ := rd_eight h8
          have hr : rdA t = ((rdA t).1, kb + 1, 8) := Prod.ext rfl (Prod.ext hkn h8)
          have HRt := Lib.hid (fun W (h : Only [] w W) => pread_ins t HT.out W (HG.out.only h) hr)
          have HF0 := Lib.hid (Fr.start hki)
          clear hr h8 hki hkn
          go_enter Tryz.func7, Tryz.ntmps7
          go_wp2_with (first
            | (go_at_call 8; refine HA.out.mono ?_; rintro e w1 ⟨rfl, hO1⟩)
            | (go_at_call 9; change Calls _ _ _ _ _; (with_reducible refine (HRg.out _ hO1).mono ?_); rintro e w3 ⟨rfl, hO3⟩))
          go_loopw [5, 6] (fun s i wr => ∃ k : Nat, s = str (allT l k) ∧ i = .int .i64 k ∧ k ≤ l.length ∧ Only [] w wr) (fun _ i _ => l.length - (intOf i).toNat)
          case atStart => exact ⟨0, rfl, rfl, by omega, hO1.trans hO3⟩
          case round =>
            obtain ⟨k, rfl, rfl, hk, hO⟩ := hrel
            by_cases hkl : k < l.length
            · have hki : (k : Int) < (l.length : Int) := by omega
              obtain ⟨b, off, hpv, hb, hE⟩ := HE.out k l[k] (by simp)
              have hlp : l[k] ∈ l := List.getElem_mem hkl
              have HX := Lib.hid (rng_only hE hO hb (by simp))
              have hxo := (HK.out l[k] hlp).1
              have hxf := HFt.out l[k] hlp
              have HLn := Lib.hid (fun W (h : Only [] wr W) => line_any l[k] hxf W (HG.out.only (hO.trans h)))
              rw [show l[k].shown = l[k].line by simp [In.shown, hxo], show l[k].err = 0 by simp [In.err, hxo]] at HLn
              have hol := one_line hxf hxo
              have HOn := Lib.hid (fun W (h : Only [] wr W) => one_any l[k].line (by have := line_len (ShI.of l[k] hxf hxo); omega) W (HG.out.only (hO.trans h)))
              rw [hol.2.1, hol.2.2] at HOn
              have HAl : Hid ((k = 0 → allT l (k + 1) = l[k].line) ∧ (0 < k → allT l (k + 1) = allT l k ++ 10 :: l[k].line)) := Lib.hid ⟨fun h => by subst h; exact allT_first l hkl, fun h => allT_next l k hkl h⟩
              have hln : l[k].line.length ≤ 600 := line_len (ShI.of l[k] hxf hxo)
              have hla := HTL.out k hk
              generalize l[k].line = ln at HLn HOn HAl hln
              have hlr : b < wr.heap.size := Nat.lt_of_lt_of_le hb hO.size
              generalize l[k] = x at HX HLn HOn
              have hss : x.same x = true := (In.same_iff x x).2 rfl
              have hs2 : In.same ⟨x.op, x.sz, x.ad, x.ix, x.dt, x.to, ⟨x.cf.kd, x.cf.ix, x.cf.wo, x.cf.ln, x.cf.on, x.cf.rw, x.cf.fr, x.cf.tt, x.cf.rd, x.cf.wt, x.cf.rk, x.cf.lk⟩⟩ ⟨x.op, x.sz, x.ad, x.ix, x.dt, x.to, ⟨x.cf.kd, x.cf.ix, x.cf.wo, x.cf.ln, x.cf.on, x.cf.rw, x.cf.fr, x.cf.tt, x.cf.rd, x.cf.wt, x.cf.rk, x.cf.lk⟩⟩ = true := hss
              subst hpv
              clear hol hxo hxf hlp hE hss
              go_wp2_with (first
                | (refine wpList_ld 33 x b (off + k * 18) _ rfl (.inl rfl) rfl rfl HX.out ?_)
                | (go_at_call 17; change Calls _ _ _ _ _; (with_reducible refine (HLn.out _ (Only.refl _ _)).mono ?_); rintro e w4 ⟨rfl, hO4⟩)
                | (go_at_call 18; change Calls _ _ _ _ _; (with_reducible refine (HOn.out _ hO4).mono ?_); rintro e w5 ⟨rfl, hO5⟩)
                | (refine wpList_st 33 x.cs.toList w5.heap.size 0 _ _ rfl (by kernel_rfl) rfl rfl rfl rfl (Blk.new w5 33 (In.only 0).cs) (Nat.le_of_ble_eq_true rfl) ?_; intro w7 hB7 hO7; rw [setL_in] at hB7))
              have hO57 : Only [] w5 w7 := ((Only.refl [] w5).alloc (.cells (In.only 0).cs 33)).trans' hO7 (by intro z hz hlt; simp at hz; omega)
              have hO47 := (hO4.trans hO5).trans hO57
              have HX7 := Lib.hid ((World.rangeAt_drew _ _ _ _).2 (rng_only HX.out hO47 hlr (by simp)))
              have HB7 := Lib.hid ((World.rangeAt_drew _ _ _ _).2 (Blk.rng hB7))
              have hOw := hO.trans hO47
              clear hO57 hO47 hO4 hO5 hO7 hB7 HX hO
              refine wp_region_D (fun z => z = w7.drew) (by kernel_rfl) (by kernel_rfl) rfl ?_
              repeat (
                refine wpT_step ?_ (stD rfl (fun w1 hD => ?_)) ?_
                rotate_left
                · subst hD
                  first
                    | (refine @st_ld (fun z => z = w7.drew) _ _ _ (.tmp 9) ?_ w5.heap.size 0 ?_ x HB7.out rfl <;> rfl)
                    | (refine @st_ld (fun z => z = w7.drew) _ _ _ (.tmp 62) ?_ b (off + k * 18) ?_ x HX7.out rfl <;> rfl)
                    | (go_simp; refine ⟨?_, rfl⟩; rfl)
                simp only [Act.put, List.setIfInBounds_toArray, List.set_cons_succ, List.set_cons_zero, Nat.zero_add, Nat.reduceAdd])
              refine wpT_nil ?_
              intro w8 hD
              subst hD
              by_cases hk0' : k = 0
              · have hal := Lib.hid (HAl.out.1 hk0')
                have hz := Lib.hid hk0'
                have hkz : ¬ (0 : Int) < (k : Int) := by omega
                clear hk0' HAl
                go_wp2_with fail
                refine ⟨⟨k + 1, ?_, by go_num, by omega, hOw.drew⟩, ?_⟩
                · rw [hal.out]
                  have e0 : allT l k = [] := by rw [hz.out]; rfl
                  rw [e0]
                  exact (str_two [] ln).trans (by rw [List.nil_append])
                · simp [intOf]; omega
              · have hal := Lib.hid (HAl.out.2 (by omega))
                clear HAl
                have hkz : (0 : Int) < (k : Int) := by omega
                go_wp2_with fail
                refine ⟨⟨k + 1, ?_, by go_num, by omega, hOw.drew⟩, ?_⟩
                · rw [hal.out]
                  exact str_nl _ _
                · simp [intOf]; omega
            · have hki : ¬ (k : Int) < (l.length : Int) := by omega
              obtain rfl : k = l.length := by omega
              have hla := HTL.out l.length (Nat.le_refl _)
              clear HE HK HFt HTL
              go_wp2_with (first
                | (go_at_call 14; change Calls _ _ _ _ _; (with_reducible refine (HS.out _ hO).mono ?_); rintro e w5 ⟨rfl, hO5⟩)
                | (go_at_call 15; change Calls _ _ _ _ _; (with_reducible refine (HRt.out _ (hO.trans hO5)).mono ?_); rintro e w6 ⟨v9, rfl, hE9, hO6⟩))
              go_loopw [16, 17, 18] (fun a f i wr => ∃ j f' i' : Nat, a = .int .i64 ((j : Int) + 1) ∧ f = .int .i64 f' ∧ i = .int .i64 i' ∧ Hid (Fr t kb j f' i') ∧ j ≤ f' ∧ f' ≤ i' ∧ i' ≤ t.length ∧ Only [] w wr) (fun _ _ i _ => t.length + 1 - (intOf i).toNat)
              case atStart => exact ⟨0, 0, 0, rfl, rfl, rfl, HF0, by omega, by omega, by omega, (hO.trans hO5).trans hO6⟩
              case round =>
                obtain ⟨j, f', i', rfl, rfl, rfl, HF, hjf, hfi, hil, hO⟩ := hrel
                have hle : (i' : Int) ≤ (t.length : Int) := by omega
                have hli : (t.length : Int) ≤ 4000 := by omega
                have hfi2 : (f' : Int) ≤ (i' : Int) := by omega
                by_cases hlt : i' < t.length
                · have hlti : (i' : Int) < (t.length : Int) := by omega
                  by_cases h10 : t[i'] = 10
                  · have hcut := HF.out.cut hlt h10 hk0
                    have hbt := byte_is t i' (by simpa [ByteArray.size] using hlt) hlt h10
                    generalize hT : (t.drop f').take (i' - f') = tt at hcut
                    have htl : tt.length < 900000 := by rw [← hT, List.length_take, List.length_drop]; omega
                    have hstr : Value.string ((ByteArray.mk t.toArray).extract f' i') = str tt := by rw [cut_any, hT]
                    have HOn : Hid (∀ W, Only [] w W → Calls Tryz.prog 18 #[Value.string ((ByteArray.mk t.toArray).extract f' i')] W fun e w' => e = .returned (.tuple #[(oneX tt).agg, .int .i64 (oneE tt)]) ∧ Only [] W w') := Lib.hid (fun W h => by rw [hstr]; exact one_any tt htl W (HG.out.only h))
                    clear htl hstr hT
                    cases hb : badL tt with
                    | true =>
                      have hkj := hcut.1 hb
                      have ho8 : oneE tt = 8 := one_bad hb
                      rw [ho8] at HOn
                      generalize oneX tt = xx at HOn
                      subst hkj
                      clear hcut HF
                      go_wp2_with (first
                        | (go_at_call 18; change Calls _ _ _ _ _; (with_reducible refine (HOn.out _ hO).mono ?_); rintro e w7 ⟨rfl, hO7⟩)
                        | (refine wpList_st 33 xx.cs.toList w7.heap.size 0 _ _ rfl (by kernel_rfl) rfl rfl rfl rfl (Blk.new w7 33 (In.only 0).cs) (Nat.le_of_ble_eq_true rfl) ?_; intro w8 hB8 hO8))
                      go_returns
                      exact ⟨rfl, (hO.trans hO7).trans (((Only.refl [] w7).alloc (.cells (In.only 0).cs 33)).trans' hO8 (by intro z hz hlt; simp at hz; omega))⟩
                    | false =>
                      have hnx := hcut.2 hb
                      have ho0 : oneE tt = 0 := one_ok hb
                      rw [ho0] at HOn
                      generalize oneX tt = xx at HOn
                      have HF2 := Lib.hid hnx.1
                      have hne1 : ((j : Int) + 1 == kb + 1) = false := by have := hnx.2; simp; omega
                      have hne2 : ¬ (j : Int) + 1 = kb + 1 := by have := hnx.2; omega
                      clear hcut HF hnx
                      go_wp2_with (first
                        | (go_at_call 18; change Calls _ _ _ _ _; (with_reducible refine (HOn.out _ hO).mono ?_); rintro e w7 ⟨rfl, hO7⟩)
                        | (refine wpList_st 33 xx.cs.toList w7.heap.size 0 _ _ rfl (by kernel_rfl) rfl rfl rfl rfl (Blk.new w7 33 (In.only 0).cs) (Nat.le_of_ble_eq_true rfl) ?_; intro w8 hB8 hO8))
                      refine ⟨⟨j + 1, i' + 1, i' + 1, by go_num, by go_num, by go_num, HF2, by omega, by omega, by omega, (hO.trans hO7).trans (((Only.refl [] w7).alloc (.cells (In.only 0).cs 33)).trans' hO8 (by intro z hz hlt; simp at hz; omega))⟩, ?_⟩
                      simp [intOf]; omega
                  · have hbt := byte_not t i' (by simpa [ByteArray.size] using hlt) hlt h10
                    have HF2 := Lib.hid (HF.out.next hlt h10)
                    clear HF
                    go_wp2
                    refine ⟨⟨j, f', i' + 1, rfl, rfl, by go_num, HF2, by omega, by omega, by omega, hO⟩, ?_⟩
                    simp [intOf]; omega
                · have hlti : ¬ (i' : Int) < (t.length : Int) := by omega
                  obtain rfl : i' = t.length := by omega
                  have hcut := HF.out.last hk0
                  generalize hT : (t.drop f').take (t.length - f') = tt at hcut
                  have htl : tt.length < 900000 := by rw [← hT, List.length_take, List.length_drop]; omega
                  have hstr : Value.string ((ByteArray.mk t.toArray).extract f' t.length) = str tt := by rw [cut_any, hT]
                  have HOn : Hid (∀ W, Only [] w W → Calls Tryz.prog 18 #[Value.string ((ByteArray.mk t.toArray).extract f' t.length)] W fun e w' => e = .returned (.tuple #[(oneX tt).agg, .int .i64 (oneE tt)]) ∧ Only [] W w') := Lib.hid (fun W h => by rw [hstr]; exact one_any tt htl W (HG.out.only h))
                  clear htl hstr hT
                  have hkj := hcut.2
                  have ho8 : oneE tt = 8 := one_bad hcut.1
                  rw [ho8] at HOn
                  generalize oneX tt = xx at HOn
                  subst hkj
                  clear hcut HF
                  go_wp2_with (first
                    | (go_at_call 18; change Calls _ _ _ _ _; (with_reducible refine (HOn.out _ hO).mono ?_); rintro e w7 ⟨rfl, hO7⟩)
                    | (refine wpList_st 33 xx.cs.toList w7.heap.size 0 _ _ rfl (by kernel_rfl) rfl rfl rfl rfl (Blk.new w7 33 (In.only 0).cs) (Nat.le_of_ble_eq_true rfl) ?_; intro w8 hB8 hO8))
                  go_returns
                  exact ⟨rfl, (hO.trans hO7).trans (((Only.refl [] w7).alloc (.cells (In.only 0).cs 33)).trans' hO8 (by intro z hz hlt; simp at hz; omega))⟩
        · have hr : rdA t = ((rdA t).1, (rdA t).2.1, (rdA t).2.2) := rfl
          have HRt := Lib.hid (fun W (h : Only [] w W) => pread_ins t HT.out W (HG.out.only h) hr)
          have h8b : ((rdA t).2.2 != 8) = true := by simpa using h8
          clear hr
          generalize (rdA t).2.1 = n at HRt
          generalize (rdA t).2.2 = er at HRt h8 h8b
          go_enter Tryz.func7, Tryz.ntmps7
          go_wp2_with (first
            | (go_at_call 8; refine HA.out.mono ?_; rintro e w1 ⟨rfl, hO1⟩)
            | (go_at_call 9; change Calls _ _ _ _ _; (with_reducible refine (HRg.out _ hO1).mono ?_); rintro e w3 ⟨rfl, hO3⟩))
          go_loopw [5, 6] (fun s i wr => ∃ k : Nat, s = str (allT l k) ∧ i = .int .i64 k ∧ k ≤ l.length ∧ Only [] w wr) (fun _ i _ => l.length - (intOf i).toNat)
          case atStart => exact ⟨0, rfl, rfl, by omega, hO1.trans hO3⟩
          case round =>
            obtain ⟨k, rfl, rfl, hk, hO⟩ := hrel
            by_cases hkl : k < l.length
            · have hki : (k : Int) < (l.length : Int) := by omega
              obtain ⟨b, off, hpv, hb, hE⟩ := HE.out k l[k] (by simp)
              have hlp : l[k] ∈ l := List.getElem_mem hkl
              have HX := Lib.hid (rng_only hE hO hb (by simp))
              have hxo := (HK.out l[k] hlp).1
              have hxf := HFt.out l[k] hlp
              have HLn := Lib.hid (fun W (h : Only [] wr W) => line_any l[k] hxf W (HG.out.only (hO.trans h)))
              rw [show l[k].shown = l[k].line by simp [In.shown, hxo], show l[k].err = 0 by simp [In.err, hxo]] at HLn
              have hol := one_line hxf hxo
              have HOn := Lib.hid (fun W (h : Only [] wr W) => one_any l[k].line (by have := line_len (ShI.of l[k] hxf hxo); omega) W (HG.out.only (hO.trans h)))
              rw [hol.2.1, hol.2.2] at HOn
              have HAl : Hid ((k = 0 → allT l (k + 1) = l[k].line) ∧ (0 < k → allT l (k + 1) = allT l k ++ 10 :: l[k].line)) := Lib.hid ⟨fun h => by subst h; exact allT_first l hkl, fun h => allT_next l k hkl h⟩
              have hln : l[k].line.length ≤ 600 := line_len (ShI.of l[k] hxf hxo)
              have hla := HTL.out k hk
              generalize l[k].line = ln at HLn HOn HAl hln
              have hlr : b < wr.heap.size := Nat.lt_of_lt_of_le hb hO.size
              generalize l[k] = x at HX HLn HOn
              have hss : x.same x = true := (In.same_iff x x).2 rfl
              have hs2 : In.same ⟨x.op, x.sz, x.ad, x.ix, x.dt, x.to, ⟨x.cf.kd, x.cf.ix, x.cf.wo, x.cf.ln, x.cf.on, x.cf.rw, x.cf.fr, x.cf.tt, x.cf.rd, x.cf.wt, x.cf.rk, x.cf.lk⟩⟩ ⟨x.op, x.sz, x.ad, x.ix, x.dt, x.to, ⟨x.cf.kd, x.cf.ix, x.cf.wo, x.cf.ln, x.cf.on, x.cf.rw, x.cf.fr, x.cf.tt, x.cf.rd, x.cf.wt, x.cf.rk, x.cf.lk⟩⟩ = true := hss
              subst hpv
              clear hol hxo hxf hlp hE hss
              go_wp2_with (first
                | (refine wpList_ld 33 x b (off + k * 18) _ rfl (.inl rfl) rfl rfl HX.out ?_)
                | (go_at_call 17; change Calls _ _ _ _ _; (with_reducible refine (HLn.out _ (Only.refl _ _)).mono ?_); rintro e w4 ⟨rfl, hO4⟩)
                | (go_at_call 18; change Calls _ _ _ _ _; (with_reducible refine (HOn.out _ hO4).mono ?_); rintro e w5 ⟨rfl, hO5⟩)
                | (refine wpList_st 33 x.cs.toList w5.heap.size 0 _ _ rfl (by kernel_rfl) rfl rfl rfl rfl (Blk.new w5 33 (In.only 0).cs) (Nat.le_of_ble_eq_true rfl) ?_; intro w7 hB7 hO7; rw [setL_in] at hB7))
              have hO57 : Only [] w5 w7 := ((Only.refl [] w5).alloc (.cells (In.only 0).cs 33)).trans' hO7 (by intro z hz hlt; simp at hz; omega)
              have hO47 := (hO4.trans hO5).trans hO57
              have HX7 := Lib.hid ((World.rangeAt_drew _ _ _ _).2 (rng_only HX.out hO47 hlr (by simp)))
              have HB7 := Lib.hid ((World.rangeAt_drew _ _ _ _).2 (Blk.rng hB7))
              have hOw := hO.trans hO47
              clear hO57 hO47 hO4 hO5 hO7 hB7 HX hO
              refine wp_region_D (fun z => z = w7.drew) (by kernel_rfl) (by kernel_rfl) rfl ?_
              repeat (
                refine wpT_step ?_ (stD rfl (fun w1 hD => ?_)) ?_
                rotate_left
                · subst hD
                  first
                    | (refine @st_ld (fun z => z = w7.drew) _ _ _ (.tmp 9) ?_ w5.heap.size 0 ?_ x HB7.out rfl <;> rfl)
                    | (refine @st_ld (fun z => z = w7.drew) _ _ _ (.tmp 62) ?_ b (off + k * 18) ?_ x HX7.out rfl <;> rfl)
                    | (go_simp; refine ⟨?_, rfl⟩; rfl)
                simp only [Act.put, List.setIfInBounds_toArray, List.set_cons_succ, List.set_cons_zero, Nat.zero_add, Nat.reduceAdd])
              refine wpT_nil ?_
              intro w8 hD
              subst hD
              by_cases hk0' : k = 0
              · have hal := Lib.hid (HAl.out.1 hk0')
                have hz := Lib.hid hk0'
                have hkz : ¬ (0 : Int) < (k : Int) := by omega
                clear hk0' HAl
                go_wp2_with fail
                refine ⟨⟨k + 1, ?_, by go_num, by omega, hOw.drew⟩, ?_⟩
                · rw [hal.out]
                  have e0 : allT l k = [] := by rw [hz.out]; rfl
                  rw [e0]
                  exact (str_two [] ln).trans (by rw [List.nil_append])
                · simp [intOf]; omega
              · have hal := Lib.hid (HAl.out.2 (by omega))
                clear HAl
                have hkz : (0 : Int) < (k : Int) := by omega
                go_wp2_with fail
                refine ⟨⟨k + 1, ?_, by go_num, by omega, hOw.drew⟩, ?_⟩
                · rw [hal.out]
                  exact str_nl _ _
                · simp [intOf]; omega
            · have hki : ¬ (k : Int) < (l.length : Int) := by omega
              obtain rfl : k = l.length := by omega
              have hla := HTL.out l.length (Nat.le_refl _)
              clear HE HK HFt HTL
              go_wp2_with (first
                | (go_at_call 14; change Calls _ _ _ _ _; (with_reducible refine (HS.out _ hO).mono ?_); rintro e w5 ⟨rfl, hO5⟩)
                | (go_at_call 15; change Calls _ _ _ _ _; (with_reducible refine (HRt.out _ (hO.trans hO5)).mono ?_); rintro e w6 ⟨v9, rfl, hE9, hO6⟩))
              go_returns
              exact ⟨rfl, (hO.trans hO5).trans hO6⟩
end Go.Proofs.YtagmoehjcgjnjaaGreatDoor

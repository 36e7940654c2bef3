/- The document's side of traces: Show, walked. Conditions: the row is short, its values fit. -/
import Derived.Test.YtojleleohhaigaaDoorTsR
import Derived.Test.YtojleleohhaigaaDoorStageE
namespace Go.Proofs.YtojleleohhaigaaDoor
open Go Go.RowKit
attribute [local go_sem] str_cat

theorem right_both : ∀ {l : List Ev} {a : Option Ev}, rightF a l = true → ∀ x ∈ l, x.rng = true ∧ x.own = true
  | [], _, _ => by simp
  | y :: r, a, h => by
    simp only [rightF, Bool.and_eq_true] at h
    intro x hx
    rcases List.mem_cons.1 hx with rfl | hx
    · have := h.1
      simp [Ev.may] at this
      exact ⟨this.1.1, this.1.2⟩
    · exact right_both h.2 x hx

set_option maxRecDepth 100000 in
set_option maxHeartbeats 8000000 in
theorem rshow_ev (l : List Ev) (hl : l.length ≤ 300000) (hf : ∀ x ∈ l, x.Fits) (v : Value) (w : World) (hv : EvS w v l) :
    Calls Tryd.prog 45 #[v] w fun e w' => e = .returned (.tuple #[str (shown l), .int .i64 (showE l)]) ∧ Only [] w w' := by
  have HR := Lib.hid (rright_ev l (by omega) v w hv)
  obtain ⟨pv, cv, rfl⟩ := hv.len
  cases hr : rightL l with
  | false =>
    rw [hr] at HR
    have e1 : shown l = [] := by simp [shown, okT, hr]
    have e2 : showE l = 4 := by simp [showE, okT, hr]
    rw [e1, e2]
    clear e1 e2 hv hf
    go_enter Tryd.func45, Tryd.ntmps45
    go_wp2_with (go_at_call 57; refine HR.out.mono ?_; rintro e w1 ⟨rfl, hO1⟩)
    go_returns
    exact ⟨rfl, hO1⟩
  | true =>
    rw [hr] at HR
    have HS : Hid (∀ x ∈ l, x.odd = false → LineS x) := Lib.hid (fun x hx ho => .of (hf x hx) (right_both hr x hx).1 (right_both hr x hx).2 ho)
    have HN : Hid (∀ x ∈ l, x.odd = true → shown l = [] ∧ showE l = 4) := Lib.hid (fun x hx ho => by
      have : l.any Ev.odd = true := List.any_eq_true.2 ⟨x, hx, ho⟩
      constructor
      · simp [shown, okT, this]
      · simp [showE, okT, this])
    have HY : Hid ((∀ x ∈ l, LineS x ∧ x.odd = false) → shown l = showT l ∧ showE l = 0) := Lib.hid (fun h => by
      have : l.any Ev.odd = false := by
        rw [List.any_eq_false]
        intro x hx
        simp [(h x hx).2]
      constructor
      · simp [shown, okT, this, hr]
      · simp [showE, okT, this, hr])
    have HV := Lib.hid hv
    clear hv hf hr
    go_enter Tryd.func45, Tryd.ntmps45
    go_wp2_with (go_at_call 57; refine HR.out.mono ?_; rintro e w1 ⟨rfl, hO1⟩)
    clear HR
    go_loopw [4, 5] (fun o i wr => ∃ k : Nat, i = .int .i64 k ∧ k ≤ l.length ∧ o = str (showT (l.take k)) ∧ Hid (∀ x ∈ l.take k, LineS x ∧ x.odd = false) ∧ Only [] w wr) (fun _ i _ => l.length - (intOf i).toNat)
    case atStart => exact ⟨0, rfl, by omega, rfl, Lib.hid (by simp), hO1⟩
    case round =>
      clear hO1
      obtain ⟨k, rfl, hk, rfl, HK, hO⟩ := hrel
      by_cases hkl : k < l.length
      · have hki : (k : Int) < (l.length : Int) := by omega
        have ek : l[k]? = some l[k] := by simp
        have hmem : l[k] ∈ l := by simp
        obtain ⟨sb, off, rfl, hsb, hlc, hE⟩ := (EvS.only0 HV.out hO).here (by omega)
        obtain ⟨d0, d1, d2, d3, d4⟩ := hE k l[k] ek
        have htk : showT (l.take (k + 1)) = showT (l.take k) ++ (l[k].line ++ [10]) := by
          rw [show l.take (k + 1) = l.take k ++ [l[k]] by simp, showT_app]
          simp [showT]
        have hall : ∀ x ∈ l.take (k + 1), x ∈ l.take k ∨ x = l[k] := by
          intro x hx
          rw [show l.take (k + 1) = l.take k ++ [l[k]] by simp] at hx
          rcases List.mem_append.1 hx with h | h
          · exact .inl h
          · exact .inr (List.mem_singleton.1 h)
        have hlen : (showT (l.take k)).length ≤ 300000 * 37 := Nat.le_trans (showT_len (fun x hx => (HK.out x hx).1)) (by simp; omega)
        have hsh := HS.out l[k] hmem
        have hno := HN.out l[k] hmem
        generalize l[k] = x at *
        generalize showT (l.take k) = T at htk hlen ⊢
        have HT := Lib.hid htk
        have HA := Lib.hid hall
        have hlk := hkl
        clear hE ek htk hall hmem HV HS HN hkl
        cases ho : x.odd with
        | true =>
          have HZ := Lib.hid (hno ho)
          clear hsh hno HT HA HK
          obtain ⟨cy, kd, va, er, ln⟩ := x
          simp only at d0 d1 d2 d3 d4
          by_cases h0 : er < 0
          · clear ho
            go_wp2
            repeat (go_quiet (fail); go_wp2)
            go_returns
            exact ⟨by rw [HZ.out.1, HZ.out.2]; rfl, by first | exact hO.al _ | exact (hO.al _).drewN _ | exact (hO.al _).drew⟩
          · have h9 : 99 < er := by simp [Ev.odd] at ho; omega
            clear ho
            go_wp2
            repeat (go_quiet (fail); go_wp2)
            go_returns
            exact ⟨by rw [HZ.out.1, HZ.out.2]; rfl, by first | exact hO.al _ | exact (hO.al _).drewN _ | exact (hO.al _).drew⟩
        | false =>
          have hs := hsh ho
          have HK2 : Hid (∀ y ∈ l.take (k + 1), LineS y ∧ y.odd = false) := Lib.hid (fun y hy => by
            rcases HA.out y hy with h | rfl
            · exact HK.out y h
            · exact ⟨hs, ho⟩)
          clear hsh hno HA HK ho
          cases hs with
          | reply a v e h1 h2 h3 =>
            have HX : Hid ((⟨a, 1, v, e, 0⟩ : Ev).line = numL 10 a ++ 32 :: ([114, 101, 112, 108, 121] ++ 32 :: (numL 16 v ++ 32 :: numL 10 e))) := Lib.hid (by
              show Lib.join [numL 10 a, [114, 101, 112, 108, 121], numL 16 v, numL 10 e] [32] = _
              rw [join_two, join_two, join_two, Lib.join_one])
            have NA := Lib.hid (rnumber_10 a (by omega))
            have NV := Lib.hid (rnumber_16 v (by omega))
            have NE := Lib.hid (rnumber_10 e (by omega))
            have lA : (numL 10 a).length ≤ 16 := rnum_len 10 (by omega) 15 a (by omega)
            have lV : (numL 16 v).length ≤ 16 := rnum_len 16 (by omega) 15 v (by omega)
            have lE : (numL 10 e).length ≤ 16 := rnum_len 10 (by omega) 15 e (by omega)
            have wv : IntKind.i64.wrap (v : Int) = (v : Int) := IntWalk.i64_in _ (by omega)
            have we : IntKind.i64.wrap (e : Int) = (e : Int) := IntWalk.i64_in _ (by omega)
            have e0 : ¬ (e : Int) < 0 := by omega
            have e9 : ¬ 99 < (e : Int) := by omega
            generalize numL 10 a = A at *
            generalize numL 16 v = V at *
            generalize numL 10 e = E at *
            go_wp2_with (first
              | (go_at_call 58; change Calls _ _ _ _ _; (with_reducible refine (NA.out _).mono ?_); rintro e w2 ⟨rfl, hO2⟩; obtain ⟨f0, f1, f2, f3, f4, -⟩ := Blk.ev (x := ⟨a, 1, v, e, 0⟩) (hO2.blk (Blk.new' rfl rfl) (by simp))))
            have hB : Blk w2 wr.heap.size 44 (Ev.cs ⟨a, 1, v, e, 0⟩) := hO2.blk (Blk.new' rfl rfl) (by simp)
            clear f0 f1 f2 f3 f4
            refine wp_region_TT 13 (Only [] w2) (by kernel_rfl) (by kernel_rfl) ((Only.refl _ _).drew) ?_
            simp only [List.take_succ_cons, List.take_zero, List.drop_succ_cons, List.drop_zero]
            repeat (
              refine wpT_step ?_ (stD rfl (fun w' hD => ?_)) ?_
              rotate_left
              · obtain ⟨c0, c1, c2, c3, c4, -⟩ := Blk.ev (x := ⟨a, 1, v, e, 0⟩) (hD.blk hB (by simp))
                go_simp
                first
                | (rw [if_neg (by omega)]; refine ⟨?_, hD⟩; rfl)
                | (refine ⟨?_, hD⟩; rfl)
                | (change Calls _ _ _ _ _
                   with_reducible refine (NV.out w').mono ?_
                   rintro e w'' ⟨rfl, h⟩
                   refine ⟨?_, hD.trans h⟩
                   rfl)
                | (change Calls _ _ _ _ _
                   with_reducible refine (NE.out w').mono ?_
                   rintro e w'' ⟨rfl, h⟩
                   refine ⟨?_, hD.trans h⟩
                   rfl)
              simp only [Act.put, List.setIfInBounds_toArray, List.set_cons_succ, List.set_cons_zero, Nat.zero_add, Nat.reduceAdd])
            refine wpT_nil ?_
            intro w6 hD
            have hO6 : Only [] w w6 := ((hO.al _).trans hO2).trans hD
            go_wp2_with fail
            refine ⟨⟨k + 1, by go_num, by omega, ?_, HK2, hO6⟩, ?_⟩
            · rw [HT.out, HX.out]
              simp
            · simp [intOf]
              omega
          | call a n h1 h2 =>
            have HX : Hid ((⟨a, 2, 0, 0, n⟩ : Ev).line = numL 10 a ++ 32 :: ([99, 97, 108, 108] ++ 32 :: numL 10 n)) := Lib.hid (by
              show Lib.join [numL 10 a, [99, 97, 108, 108], numL 10 n] [32] = _
              rw [join_two, join_two, Lib.join_one])
            have NA := Lib.hid (rnumber_10 a (by omega))
            have NE := Lib.hid (rnumber_10 n (by omega))
            have lA : (numL 10 a).length ≤ 16 := rnum_len 10 (by omega) 15 a (by omega)
            have lE : (numL 10 n).length ≤ 16 := rnum_len 10 (by omega) 15 n (by omega)
            generalize numL 10 a = A at *
            generalize numL 10 n = E at *
            go_wp2_with (first
              | (go_at_call 58; change Calls _ _ _ _ _; (with_reducible refine (NA.out _).mono ?_); rintro e w2 ⟨rfl, hO2⟩; obtain ⟨f0, f1, f2, f3, f4, -⟩ := Blk.ev (x := ⟨a, 2, 0, 0, n⟩) (hO2.blk (Blk.new' rfl rfl) (by simp)))
              | (go_at_call 58; change Calls _ _ _ _ _; (with_reducible refine (NE.out _).mono ?_); rintro e w3 ⟨rfl, hO3⟩))
            refine ⟨⟨k + 1, by go_num, by omega, ?_, HK2, ((hO.al _).trans hO2).trans hO3⟩, ?_⟩
            · rw [HT.out, HX.out]
              simp
            · simp [intOf]
              omega
      · have hki : ¬ (k : Int) < (l.length : Int) := by omega
        have hall := HK.out
        rw [List.take_of_length_le (by omega)] at hall ⊢
        have HZ := Lib.hid (HY.out hall)
        clear hall HK HY HN HS HV
        go_wp2
        go_returns
        exact ⟨by rw [HZ.out.1, HZ.out.2]; rfl, hO⟩
end Go.Proofs.YtojleleohhaigaaDoor

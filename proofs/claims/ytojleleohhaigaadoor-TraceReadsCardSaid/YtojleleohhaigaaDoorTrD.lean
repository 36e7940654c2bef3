/- Differ of package trace, walked. No condition. -/
import Derived.Test.YtojleleohhaigaaDoorTrN
namespace Go.Proofs.YtojleleohhaigaaDoor
open Go Go.RowKit
attribute [local go_sem high] ev_neq10 ev_eql10

/-- What is left of two rows behind what they begin with alike. -/
def strip : List Ev → List Ev → List Ev × List Ev
  | x :: r, y :: s => if x = y then strip r s else (x :: r, y :: s)
  | l, m => (l, m)
def differN (a b : List Ev) : Int × Bool := match strip a b with
  | (x :: _, y :: _) => (if y.cy < x.cy then y.cy else x.cy, true)
  | (x :: _, []) => (x.cy, true)
  | ([], y :: _) => (y.cy, true)
  | ([], []) => (0, false)
def differ (a b : List Ev) : Int × Bool := if rightL a && rightL b then differN a b else (0, false)

/-- A part of a row. -/
theorem EvS.cut {w : World} {p : Option Addr} {c : Nat} {l : List Ev} (h : EvS w (.slice p l.length c) l) (k n : Nat) (hk : k + n ≤ l.length) : EvS w (.slice (if c = k then p else p.map (·.add (k * 5))) n (c - k)) ((l.drop k).take n) := by
  have hlen : ((l.drop k).take n).length = n := by simp; omega
  by_cases hn : n = 0
  · subst hn
    exact .inl ⟨_, _, rfl, by simp⟩
  · rcases h with ⟨p', c', he, rfl⟩ | ⟨b, off, c', he, h0, hlc, hb, hE⟩
    · simp at hk; omega
    · simp only [Value.slice.injEq, and_true, true_and] at he
      obtain ⟨rfl, rfl⟩ := he
      rw [if_neg (by omega)]
      refine .inr ⟨b, off + k * 5, c - k, ?_, by omega, by omega, hb, fun j x hj => ?_⟩
      · rw [hlen]
        simp [plus_at]
      · have hj' : l[k + j]? = some x := by
          rw [List.getElem?_take, List.getElem?_drop] at hj
          split at hj
          · exact hj
          · cases hj
        have := hE (k + j) x hj'
        rwa [show off + (k + j) * 5 = off + k * 5 + j * 5 by omega] at this

theorem EvS.at_ {w : World} {p : Option Addr} {n c : Nat} {l : List Ev} (h : EvS w (.slice p n c) l) (h0 : 0 < l.length) : ∃ b off, p = some ⟨b, off, none⟩ ∧ b < w.heap.size ∧ l.length ≤ c ∧ ∀ (j : Nat) x, l[j]? = some x → EvAt w b (off + j * 5) x := by
  rcases h with ⟨p', c', he, rfl⟩ | ⟨b, off, c', he, -, hlc, hb, hE⟩
  · simp at h0
  · simp only [Value.slice.injEq] at he
    obtain ⟨rfl, -, rfl⟩ := he
    exact ⟨b, off, rfl, hb, hlc, hE⟩

theorem EvS.cap {w : World} {p : Option Addr} {n c : Nat} {l : List Ev} (h : EvS w (.slice p n c) l) : l.length ≤ c := by
  rcases h with ⟨p', c', he, rfl⟩ | ⟨b, off, c', he, -, hlc, -⟩
  · simp
  · simp only [Value.slice.injEq] at he
    obtain ⟨-, -, rfl⟩ := he
    exact hlc
theorem EvS.one {w : World} {b o c : Nat} {x : Ev} (h : EvAt w b o x) (hb : b < w.heap.size) (hc : 1 ≤ c) : EvS w (.slice (some ⟨b, o, none⟩) 1 c) [x] := by
  refine .inr ⟨b, o, c, rfl, by simp, by simpa using hc, hb, fun j z hj => ?_⟩
  match j, hj with
  | 0, hj =>
    simp at hj
    subst hj
    simpa using h
  | j + 1, hj => simp at hj
theorem right_rng : ∀ {l : List Ev} {a : Option Ev}, rightF a l = true → ∀ x ∈ l, 0 ≤ x.cy ∧ x.cy < 4096
  | [], _, _ => by simp
  | y :: r, a, h => by
    simp only [rightF, Bool.and_eq_true] at h
    intro x hx
    rcases List.mem_cons.1 hx with rfl | hx
    · have := h.1
      simp [Ev.may, Ev.rng] at this
      omega
    · exact right_rng h.2 x hx

set_option maxRecDepth 100000 in
set_option maxHeartbeats 8000000 in
theorem differ_right (l m : List Ev) (hl : l.length ≤ 300000) (hm : m.length ≤ 300000) (v u : Value) (w : World) (hv : EvS w v l) (hu : EvS w u m) (hrl : rightL l = true) (hrm : rightL m = true) :
    Calls Tryd.prog 12 #[v, u] w fun e w' => e = .returned (.tuple #[.int .i64 (differN l m).1, .bool (differN l m).2]) ∧ Only [] w w' := by
  have HR1 := fun W hO => right_any l (by omega) v W (hv.only0 (w' := W) hO)
  have HR2 := fun W hO => right_any m (by omega) u W (hu.only0 (w' := W) hO)
  rw [hrl] at HR1
  rw [hrm] at HR2
  have HR := Lib.hid (And.intro HR1 HR2)
  have HRng := Lib.hid (And.intro (right_rng hrl) (right_rng hrm))
  clear HR1 HR2 hrl hrm
  obtain ⟨pa, ca, rfl⟩ := hv.len
  obtain ⟨pb, cb, rfl⟩ := hu.len
  have HA := Lib.hid (And.intro hv hu)
  clear hv hu
  go_enter Tryd.func12, Tryd.ntmps12
  go_wp2_with (first
    | (go_at_call 11; change Calls _ _ _ _ _; (with_reducible refine (HR.out.1 w (Only.refl _ _)).mono ?_); rintro e w1 ⟨rfl, hO1⟩)
    | (go_at_call 11; change Calls _ _ _ _ _; (with_reducible refine (HR.out.2 _ hO1).mono ?_); rintro e w2 ⟨rfl, hO2⟩))
  have hO0 : Only [] w w2 := hO1.trans hO2
  clear HR hO1 hO2
  go_loopw [6] (fun i wr => ∃ k : Nat, i = .int .i64 k ∧ k ≤ l.length ∧ k ≤ m.length ∧ Hid (strip l m = strip (l.drop k) (m.drop k)) ∧ Only [] w wr) (fun i _ => l.length - (intOf i).toNat)
  case atStart => exact ⟨0, rfl, by omega, by omega, rfl, hO0⟩
  case round =>
    clear hO0
    obtain ⟨k, rfl, hk, hk2, HS, hO⟩ := hrel
    have HX := Lib.hid (And.intro (HA.out.1.only0 hO) (HA.out.2.only0 hO))
    clear HA
    by_cases hkl : k < l.length
    · by_cases hkm : k < m.length
      · have e1 : l[k]? = some l[k] := by simp
        have e2 : m[k]? = some m[k] := by simp
        obtain ⟨b, off, rfl, hb, hlc, hE⟩ := HX.out.1.at_ (by omega)
        obtain ⟨b2, off2, rfl, hb2, hlc2, hE2⟩ := HX.out.2.at_ (by omega)
        obtain ⟨c0, c1, c2, c3, c4⟩ := hE k _ e1
        obtain ⟨d0, d1, d2, d3, d4⟩ := hE2 k _ e2
        have hd1 : l.drop k = l[k] :: l.drop (k + 1) := List.drop_eq_getElem_cons hkl
        have hd2 : m.drop k = m[k] :: m.drop (k + 1) := List.drop_eq_getElem_cons hkm
        rw [hd1, hd2] at HS
        clear hE hE2
        have g1 : decide ((k : Int) < (l.length : Int)) = true := by simpa using hkl
        have g2 : decide ((k : Int) < (m.length : Int)) = true := by simpa using hkm
        have ki1 : (k : Int) < (l.length : Int) := by omega
        have ki2 : (k : Int) < (m.length : Int) := by omega
        generalize l[k] = x at *
        generalize m[k] = y at *
        have HZ := Lib.hid (And.intro (And.intro e1 e2) (And.intro hd1 hd2))
        clear e1 e2 hd1 hd2
        cases hs : x.same y with
        | true =>
          have HN : Hid (strip l m = strip (l.drop (k + 1)) (m.drop (k + 1))) := Lib.hid (by rw [HS.out, strip, if_pos ((Ev.same_iff _ _).1 hs)])
          have hs2 : Ev.same ⟨x.cy, x.kd, x.va, x.er, x.ln⟩ ⟨y.cy, y.kd, y.va, y.er, y.ln⟩ = true := hs
          clear HS HX HZ
          go_wp2_with fail
          go_quiet (fail)
          go_wp2
          go_roundw
          case rel => exact ⟨k + 1, by go_num, by omega, by omega, HN, hO.drewN _⟩
          case measure => simp [intOf]; omega
        | false =>
          have HN : Hid (differN l m = ((minE [x, y]).cy, true)) := Lib.hid (by
            unfold differN
            rw [HS.out, strip, if_neg (Ev.same_no hs)]
            show (if y.cy < x.cy then y.cy else x.cy, true) = ((if y.cy < x.cy then y else x).cy, true)
            split <;> rfl)
          have hs2 : Ev.same ⟨x.cy, x.kd, x.va, x.er, x.ln⟩ ⟨y.cy, y.kd, y.va, y.er, y.ln⟩ = false := hs
          clear HS
          go_wp2_with fail
          go_quiet (fail)
          go_wp2_with fail
          have hw1 : IntKind.i64.wrap ((k : Int) + 1) = (k : Int) + 1 := IntWalk.i64_in _ (by omega)
          have hn3 : (k : Int) ≤ (k : Int) + 1 := by omega
          have hn4 : ((k : Int) + 1).toNat = k + 1 := by omega
          have hm1 : ¬ (l.length : Int) < (k : Int) + 1 := by omega
          have hn1 : (k : Int) + 1 ≤ (ca : Int) := by omega
          have hq1 : ¬ ca = k := by omega
          have hm2 : ¬ (m.length : Int) < (k : Int) + 1 := by omega
          have hn2 : (k : Int) + 1 ≤ (cb : Int) := by omega
          have hq2 : ¬ cb = k := by omega
          have HV1 : Hid (EvS wr (.slice (some ⟨b, off + k * 5, none⟩) 1 (ca - k)) [x]) := Lib.hid (EvS.one ⟨c0, c1, c2, c3, c4⟩ hb (by omega))
          have HV2 : Hid (EvS wr (.slice (some ⟨b2, off2 + k * 5, none⟩) 1 (cb - k)) [y]) := Lib.hid (EvS.one ⟨d0, d1, d2, d3, d4⟩ hb2 (by omega))
          have HRX : Hid (∀ z ∈ ([x] ++ [y] : List Ev), 0 ≤ z.cy ∧ z.cy < 4096) := Lib.hid (by
            have hx := HRng.out
            (rintro z hz; simp at hz; rcases hz with rfl | rfl; exact hx.1 _ (List.mem_of_getElem? HZ.out.1.1); exact hx.2 _ (List.mem_of_getElem? HZ.out.1.2)))
          clear HX HRng
          refine wp_region_TT 16 (Only [] wr) (by kernel_rfl) (by kernel_rfl) ((Only.refl _ _).drewN _).drew ?_
          simp only [List.take_succ_cons, List.take_zero, List.drop_succ_cons, List.drop_zero]
          repeat (
            refine wpT_step ?_ (stD rfl (fun w' hD => ?_)) ?_
            rotate_left
            · go_simp
              (refine ⟨?_, hD⟩; rfl)
            simp only [Act.put, List.setIfInBounds_toArray, List.set_cons_succ, List.set_cons_zero, Nat.zero_add, Nat.reduceAdd])
          refine wpT_nil ?_
          intro w6 hD
          have hO6 : Only [] w w6 := hO.trans hD
          have hfield : ∀ w, (Instr.field 44 (minE ([x] ++ [y])).agg 0).run Tryd.prog w = .ok (.int .i64 (minE ([x] ++ [y])).cy) w := fun _ => by kernel_rfl
          simp only [List.nil_append, List.cons_append] at hfield
          go_wp2_with (first
            | (go_at_call 31; refine (concat_any [x] [y] _ _ _ (by simp) _ (Blk.new' rfl rfl) (HV1.out.only0 (hD.alloc _)) (HV2.out.only0 (hD.alloc _))).mono ?_; rintro e w7 ⟨v7, rfl, hR7, hO7⟩; obtain ⟨p7, c7, rfl⟩ := (EvR.evs hR7).len)
            | (go_at_call 32; refine (min_any ([x] ++ [y]) (by simp) (by simp) HRX.out _ _ (EvR.evs hR7)).mono ?_; rintro e w8 ⟨rfl, hO8⟩))
          go_returns
          exact ⟨by rw [HN.out]; rfl, ((hO6.alloc _).trans hO7).trans hO8⟩
      · have e1 : l[k]? = some l[k] := by simp
        obtain ⟨b, off, rfl, hb, hlc, hE⟩ := HX.out.1.at_ (by omega)
        obtain ⟨c0, c1, c2, c3, c4⟩ := hE k _ e1
        have hd1 : l.drop k = l[k] :: l.drop (k + 1) := List.drop_eq_getElem_cons hkl
        have hd2 : m.drop k = [] := List.drop_eq_nil_of_le (by omega)
        rw [hd1, hd2] at HS
        have hlc2 : m.length ≤ cb := HX.out.2.cap
        clear hE
        have g1 : decide ((k : Int) < (l.length : Int)) = true := by simpa using hkl
        have g2 : decide ((k : Int) < (m.length : Int)) = false := by simpa using hkm
        generalize l[k] = x at *
        have HZ := Lib.hid e1
        clear e1 hd1 hd2
        have HN : Hid (differN l m = (x.cy, true)) := Lib.hid (by unfold differN; rw [HS.out]; rfl)
        clear HS
        go_wp2_with fail
        go_quiet (fail)
        go_wp2_with fail
        have hw1 : IntKind.i64.wrap ((k : Int) + 1) = (k : Int) + 1 := IntWalk.i64_in _ (by omega)
        have hn3 : (k : Int) ≤ (k : Int) + 1 := by omega
        have hn4 : ((k : Int) + 1).toNat = k + 1 := by omega
        have hm1 : ¬ (l.length : Int) < (k : Int) + 1 := by omega
        have hn1 : (k : Int) + 1 ≤ (ca : Int) := by omega
        have hq1 : ¬ ca = k := by omega
        have hm2 : (m.length : Int) < (k : Int) + 1 := by omega
        have hn2 : (m.length : Int) ≤ (cb : Int) := by omega
        have hq2 : m.length - k = 0 := by omega
        have hp2 : (k : Int) ≤ (m.length : Int) := by omega
        have HV1 : Hid (EvS wr (.slice (some ⟨b, off + k * 5, none⟩) 1 (ca - k)) [x]) := Lib.hid (EvS.one ⟨c0, c1, c2, c3, c4⟩ hb (by omega))
        have HRX : Hid (∀ z ∈ ([x] ++ [] : List Ev), 0 ≤ z.cy ∧ z.cy < 4096) := Lib.hid (by
          have hx := HRng.out
          (rintro z hz; simp at hz; subst hz; exact hx.1 _ (List.mem_of_getElem? HZ.out)))
        clear HX HRng
        refine wp_region_TT 16 (Only [] wr) (by kernel_rfl) (by kernel_rfl) ((Only.refl _ _).drewN _).drew ?_
        simp only [List.take_succ_cons, List.take_zero, List.drop_succ_cons, List.drop_zero]
        repeat (
          refine wpT_step ?_ (stD rfl (fun w' hD => ?_)) ?_
          rotate_left
          · go_simp
            (refine ⟨?_, hD⟩; rfl)
          simp only [Act.put, List.setIfInBounds_toArray, List.set_cons_succ, List.set_cons_zero, Nat.zero_add, Nat.reduceAdd])
        refine wpT_nil ?_
        intro w6 hD
        have hO6 : Only [] w w6 := hO.trans hD
        generalize (if cb = k then pb else Option.map (fun x => x.add (k * 5)) pb) = pz2
        have hfield : ∀ w, (Instr.field 44 (minE ([x] ++ [])).agg 0).run Tryd.prog w = .ok (.int .i64 (minE ([x] ++ [])).cy) w := fun _ => by kernel_rfl
        simp only [List.nil_append, List.cons_append] at hfield
        go_wp2_with (first
          | (go_at_call 31; refine (concat_any [x] [] _ _ _ (by simp) _ (Blk.new' rfl rfl) (HV1.out.only0 (hD.alloc _)) (.inl ⟨_, _, rfl, rfl⟩)).mono ?_; rintro e w7 ⟨v7, rfl, hR7, hO7⟩; obtain ⟨p7, c7, rfl⟩ := (EvR.evs hR7).len)
          | (go_at_call 32; refine (min_any ([x] ++ []) (by simp) (by simp) HRX.out _ _ (EvR.evs hR7)).mono ?_; rintro e w8 ⟨rfl, hO8⟩))
        go_returns
        exact ⟨by rw [HN.out]; rfl, ((hO6.alloc _).trans hO7).trans hO8⟩
    · by_cases hkm : k < m.length
      · have e2 : m[k]? = some m[k] := by simp
        obtain ⟨b2, off2, rfl, hb2, hlc2, hE2⟩ := HX.out.2.at_ (by omega)
        obtain ⟨d0, d1, d2, d3, d4⟩ := hE2 k _ e2
        have hd2 : m.drop k = m[k] :: m.drop (k + 1) := List.drop_eq_getElem_cons hkm
        have hd1 : l.drop k = [] := List.drop_eq_nil_of_le (by omega)
        rw [hd1, hd2] at HS
        have hlc : l.length ≤ ca := HX.out.1.cap
        clear hE2
        have g1 : decide ((k : Int) < (l.length : Int)) = false := by simpa using hkl
        generalize m[k] = y at *
        have HZ := Lib.hid e2
        clear e2 hd1 hd2
        have HN : Hid (differN l m = (y.cy, true)) := Lib.hid (by unfold differN; rw [HS.out]; rfl)
        clear HS
        go_wp2_with fail
        go_quiet (fail)
        go_wp2_with fail
        have hw1 : IntKind.i64.wrap ((k : Int) + 1) = (k : Int) + 1 := IntWalk.i64_in _ (by omega)
        have hn3 : (k : Int) ≤ (k : Int) + 1 := by omega
        have hn4 : ((k : Int) + 1).toNat = k + 1 := by omega
        have hm1 : (l.length : Int) < (k : Int) + 1 := by omega
        have hn1 : (l.length : Int) ≤ (ca : Int) := by omega
        have hq1 : l.length - k = 0 := by omega
        have hp1 : (k : Int) ≤ (l.length : Int) := by omega
        have hm2 : ¬ (m.length : Int) < (k : Int) + 1 := by omega
        have hn2 : (k : Int) + 1 ≤ (cb : Int) := by omega
        have hq2 : ¬ cb = k := by omega
        have HV2 : Hid (EvS wr (.slice (some ⟨b2, off2 + k * 5, none⟩) 1 (cb - k)) [y]) := Lib.hid (EvS.one ⟨d0, d1, d2, d3, d4⟩ hb2 (by omega))
        have HRX : Hid (∀ z ∈ ([] ++ [y] : List Ev), 0 ≤ z.cy ∧ z.cy < 4096) := Lib.hid (by
          have hx := HRng.out
          (rintro z hz; simp at hz; subst hz; exact hx.2 _ (List.mem_of_getElem? HZ.out)))
        clear HX HRng
        refine wp_region_TT 16 (Only [] wr) (by kernel_rfl) (by kernel_rfl) ((Only.refl _ _).drewN _).drew ?_
        simp only [List.take_succ_cons, List.take_zero, List.drop_succ_cons, List.drop_zero]
        repeat (
          refine wpT_step ?_ (stD rfl (fun w' hD => ?_)) ?_
          rotate_left
          · go_simp
            (refine ⟨?_, hD⟩; rfl)
          simp only [Act.put, List.setIfInBounds_toArray, List.set_cons_succ, List.set_cons_zero, Nat.zero_add, Nat.reduceAdd])
        refine wpT_nil ?_
        intro w6 hD
        have hO6 : Only [] w w6 := hO.trans hD
        generalize (if ca = k then pa else Option.map (fun x => x.add (k * 5)) pa) = pz1
        have hfield : ∀ w, (Instr.field 44 (minE ([] ++ [y])).agg 0).run Tryd.prog w = .ok (.int .i64 (minE ([] ++ [y])).cy) w := fun _ => by kernel_rfl
        simp only [List.nil_append, List.cons_append] at hfield
        go_wp2_with (first
          | (go_at_call 31; refine (concat_any [] [y] _ _ _ (by simp) _ (Blk.new' rfl rfl) (.inl ⟨_, _, rfl, rfl⟩) (HV2.out.only0 (hD.alloc _))).mono ?_; rintro e w7 ⟨v7, rfl, hR7, hO7⟩; obtain ⟨p7, c7, rfl⟩ := (EvR.evs hR7).len)
          | (go_at_call 32; refine (min_any ([] ++ [y]) (by simp) (by simp) HRX.out _ _ (EvR.evs hR7)).mono ?_; rintro e w8 ⟨rfl, hO8⟩))
        go_returns
        exact ⟨by rw [HN.out]; rfl, ((hO6.alloc _).trans hO7).trans hO8⟩
      · have hd1 : l.drop k = [] := List.drop_eq_nil_of_le (by omega)
        have hd2 : m.drop k = [] := List.drop_eq_nil_of_le (by omega)
        rw [hd1, hd2] at HS
        clear hd1 hd2
        have hlc : l.length ≤ ca := HX.out.1.cap
        have hlc2 : m.length ≤ cb := HX.out.2.cap
        have g1 : decide ((k : Int) < (l.length : Int)) = false := by simpa using hkl
        have HN : Hid (differN l m = (0, false)) := Lib.hid (by unfold differN; rw [HS.out]; rfl)
        clear HS
        go_wp2_with fail
        go_quiet (fail)
        go_wp2_with fail
        have hw1 : IntKind.i64.wrap ((k : Int) + 1) = (k : Int) + 1 := IntWalk.i64_in _ (by omega)
        have hn3 : (k : Int) ≤ (k : Int) + 1 := by omega
        have hn4 : ((k : Int) + 1).toNat = k + 1 := by omega
        have hm1 : (l.length : Int) < (k : Int) + 1 := by omega
        have hn1 : (l.length : Int) ≤ (ca : Int) := by omega
        have hq1 : l.length - k = 0 := by omega
        have hp1 : (k : Int) ≤ (l.length : Int) := by omega
        have hm2 : (m.length : Int) < (k : Int) + 1 := by omega
        have hn2 : (m.length : Int) ≤ (cb : Int) := by omega
        have hq2 : m.length - k = 0 := by omega
        have hp2 : (k : Int) ≤ (m.length : Int) := by omega
        have HRX : Hid (∀ z ∈ ([] ++ [] : List Ev), 0 ≤ z.cy ∧ z.cy < 4096) := Lib.hid (by
          have hx := HRng.out
          (rintro z hz; simp at hz))
        clear HX HRng
        refine wp_region_TT 16 (Only [] wr) (by kernel_rfl) (by kernel_rfl) ((Only.refl _ _).drewN _).drew ?_
        simp only [List.take_succ_cons, List.take_zero, List.drop_succ_cons, List.drop_zero]
        repeat (
          refine wpT_step ?_ (stD rfl (fun w' hD => ?_)) ?_
          rotate_left
          · go_simp
            (refine ⟨?_, hD⟩; rfl)
          simp only [Act.put, List.setIfInBounds_toArray, List.set_cons_succ, List.set_cons_zero, Nat.zero_add, Nat.reduceAdd])
        refine wpT_nil ?_
        intro w6 hD
        have hO6 : Only [] w w6 := hO.trans hD
        generalize (if ca = k then pa else Option.map (fun x => x.add (k * 5)) pa) = pz1
        generalize (if cb = k then pb else Option.map (fun x => x.add (k * 5)) pb) = pz2
        go_wp2_with (go_at_call 31; refine (concat_any [] [] _ _ _ (by simp) _ (Blk.new' rfl rfl) (.inl ⟨_, _, rfl, rfl⟩) (.inl ⟨_, _, rfl, rfl⟩)).mono ?_; rintro e w7 ⟨v7, rfl, hR7, hO7⟩; obtain ⟨p7, c7, rfl⟩ := (EvR.evs hR7).len)
        go_returns
        exact ⟨by rw [HN.out]; rfl, (hO6.alloc _).trans hO7⟩

set_option maxHeartbeats 2000000 in
theorem differ_any (l m : List Ev) (hl : l.length ≤ 300000) (hm : m.length ≤ 300000) (v u : Value) (w : World) (hv : EvS w v l) (hu : EvS w u m) :
    Calls Tryd.prog 12 #[v, u] w fun e w' => e = .returned (.tuple #[.int .i64 (differ l m).1, .bool (differ l m).2]) ∧ Only [] w w' := by
  cases hrl : rightL l with
  | true =>
    cases hrm : rightL m with
    | true =>
      have e : differ l m = differN l m := by simp [differ, hrl, hrm]
      rw [e]
      exact differ_right l m hl hm v u w hv hu hrl hrm
    | false =>
      have HD : Hid (differ l m = (0, false)) := Lib.hid (by simp [differ, hrm])
      have HR1 := Lib.hid (right_any l (by omega) v w hv)
      have HR2 := Lib.hid (fun W hO => right_any m (by omega) u W (hu.only0 (w' := W) hO))
      rw [hrl] at HR1
      rw [hrm] at HR2
      clear hv hu
      go_enter Tryd.func12, Tryd.ntmps12
      go_wp2_with (first
        | (go_at_call 11; change Calls _ _ _ _ _; (with_reducible refine HR1.out.mono ?_); rintro e w1 ⟨rfl, hO1⟩)
        | (go_at_call 11; change Calls _ _ _ _ _; (with_reducible refine (HR2.out _ hO1).mono ?_); rintro e w2 ⟨rfl, hO2⟩))
      go_returns
      exact ⟨by rw [HD.out]; rfl, hO1.trans hO2⟩
  | false =>
    have HD : Hid (differ l m = (0, false)) := Lib.hid (by simp [differ, hrl])
    have HR1 := Lib.hid (right_any l (by omega) v w hv)
    rw [hrl] at HR1
    clear hv hu
    go_enter Tryd.func12, Tryd.ntmps12
    go_wp2_with (go_at_call 11; change Calls _ _ _ _ _; (with_reducible refine HR1.out.mono ?_); rintro e w1 ⟨rfl, hO1⟩)
    go_returns
    exact ⟨by rw [HD.out]; rfl, hO1⟩
end Go.Proofs.YtojleleohhaigaaDoor

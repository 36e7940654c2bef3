/- The document's Right of prog, walked. Condition: the row is short. The document's Line of prog, walked. Condition: its words fit. The document's Line and Show of prog, walked. Conditions: the row is short, its words fit. -/
import Derived.Test.YtagmoehjcgjnjaaGreatDoorPrI
import Derived.Test.YtagmoehjcgjnjaaGreatDoorPgW0
import Derived.Test.YtagmoehjcgjnjaaGreatDoorPrGa
import Derived.Test.YtagmoehjcgjnjaaGreatDoorCrG
import Derived.Test.YtagmoehjcgjnjaaGreatDoorPgH
namespace Go.Proofs.YtagmoehjcgjnjaaGreatDoor
open Go Go.RowKit

/-- Of all instructions ahead of a place. -/
theorem okR_no {l : List In} {k : Nat} (hk : k < l.length) (h : (l[k].ok = false) ∨ ((l.length : Int) < l[k].to)) : okR l = false := by
  cases ho : okR l with
  | false => rfl
  | true =>
    have := (okR_iff.1 ho).2 l[k] (by simp)
    rcases h with h | h
    · rw [this.1] at h; cases h
    · omega
theorem okR_yes {l : List In} (h : ∀ x ∈ l, x.ok = true ∧ x.to ≤ l.length) : okR l = decide (l.length ≤ 64) := by
  by_cases hl : l.length ≤ 64
  · rw [okR_iff.2 ⟨hl, h⟩, decide_eq_true hl]
  · rw [decide_eq_false hl]
    cases ho : okR l with
    | false => rfl
    | true => exact absurd (okR_iff.1 ho).1 hl

set_option maxRecDepth 100000 in
set_option maxHeartbeats 2000000 in
theorem rpright_any (l : List In) (hl : l.length ≤ 1000000) (v : Value) (w : World) (hv : InS w v l) :
    Calls Tryz.prog 24 #[v] w fun e w' => e = .returned (.bool (okR l)) ∧ Only [] w w' := by
  have HN := Lib.hid (fun k hk => @okR_no l k hk)
  have HY := Lib.hid (fun h => @okR_yes l h)
  have HV := Lib.hid hv
  obtain ⟨p, c, rfl⟩ := hv.len
  clear hv
  generalize okR l = r at *
  go_enter Tryz.func24, Tryz.ntmps24
  go_wp2_with fail
  go_loopw [3] (fun i wr => ∃ k : Nat, i = .int .i64 k ∧ k ≤ l.length ∧ Hid (∀ x ∈ l.take k, x.ok = true ∧ x.to ≤ l.length) ∧ Only [] w wr) (fun i _ => l.length - (intOf i).toNat)
  case atStart => exact ⟨0, rfl, by omega, Lib.hid (by simp), Only.refl _ _⟩
  case round =>
    obtain ⟨k, rfl, hk, HK, hO⟩ := hrel
    by_cases hkl : k < l.length
    · have hki : (k : Int) < (l.length : Int) := by omega
      obtain ⟨b, off, c2, hvv, h0, hlc, hb, hE⟩ := HV.out.resolve_left (fun ⟨_, _, _, h⟩ => by rw [h] at hkl; simp at hkl)
      simp only [Value.slice.injEq, true_and] at hvv
      obtain ⟨rfl, rfl⟩ := hvv
      have hr0 := rng_only (hE k l[k] (by simp)) hO hb (by simp)
      have HX := Lib.hid hr0
      have c5 : wr.cell? ⟨b, off + k * 18 + 5, none⟩ = some (.int .i64 l[k].to) := hr0 5 _ rfl
      have ht : ∀ x ∈ l.take (k + 1), x ∈ l.take k ∨ x = l[k] := by
        intro x hx
        rw [show l.take (k + 1) = l.take k ++ [l[k]] by simp] at hx
        rcases List.mem_append.1 hx with h | h
        · exact .inl h
        · exact .inr (List.mem_singleton.1 h)
      have HT := Lib.hid ht
      have HNk := Lib.hid (HN.out k hkl)
      have HI := Lib.hid (rinstr_any l[k])
      clear hr0 hE ht
      generalize l[k] = x at *
      cases ho : x.ok with
      | false =>
        rw [ho] at HI
        have HZ := Lib.hid (HNk.out (.inl ho))
        clear HNk HN HY ho
        go_wp2_with (first
          | (refine wpList_ld 33 x b (off + k * 18) _ rfl (.inl rfl) rfl rfl HX.out ?_)
          | (go_at_call 27; refine (HI.out _).mono ?_; rintro e w1 ⟨rfl, hO1⟩))
        go_returns
        exact ⟨by rw [HZ.out]; rfl, hO.trans hO1⟩
      | true =>
        rw [ho] at HI
        by_cases hto : (l.length : Int) < x.to
        · have HZ := Lib.hid (HNk.out (.inr hto))
          clear HNk HN HY ho
          go_wp2_with (first
            | (refine wpList_ld 33 x b (off + k * 18) _ rfl (.inl rfl) rfl rfl HX.out ?_)
            | (go_at_call 27; refine (HI.out _).mono ?_; rintro e w1 ⟨rfl, hO1⟩; have c5' : w1.cell? ⟨b, off + k * 18 + 5, none⟩ = some (.int .i64 x.to) := (rng_only HX.out hO1 (Nat.lt_of_lt_of_le hb hO.size) (by simp)) 5 _ rfl))
          go_returns
          exact ⟨by rw [HZ.out]; rfl, hO.trans hO1⟩
        · have HK2 : Hid (∀ y ∈ l.take (k + 1), y.ok = true ∧ y.to ≤ l.length) := Lib.hid (fun y hy => by
            rcases HT.out y hy with h | rfl
            · exact HK.out y h
            · exact ⟨ho, by omega⟩)
          clear HNk HN HK HT ho
          go_wp2_with (first
            | (refine wpList_ld 33 x b (off + k * 18) _ rfl (.inl rfl) rfl rfl HX.out ?_)
            | (go_at_call 27; refine (HI.out _).mono ?_; rintro e w1 ⟨rfl, hO1⟩; have c5' : w1.cell? ⟨b, off + k * 18 + 5, none⟩ = some (.int .i64 x.to) := (rng_only HX.out hO1 (Nat.lt_of_lt_of_le hb hO.size) (by simp)) 5 _ rfl))
          refine ⟨⟨k + 1, by go_num, by omega, HK2, hO.trans hO1⟩, ?_⟩
          simp [intOf]
          omega
    · have hki : ¬ (k : Int) < (l.length : Int) := by omega
      have hall := HK.out
      rw [List.take_of_length_le (by omega)] at hall
      have HZ := Lib.hid (HY.out hall)
      clear hall HK HY HN
      go_wp2
      go_returns
      exact ⟨by rw [HZ.out]; simp; omega, hO⟩
end Go.Proofs.YtagmoehjcgjnjaaGreatDoor

namespace Go.Proofs.YtagmoehjcgjnjaaGreatDoor
open Go Go.RowKit
attribute [local go_sem] str_cat

set_option maxRecDepth 100000 in
set_option maxHeartbeats 8000000 in
theorem rline_1 (sz ad dt tg : Nat) (h1 : sz < 4294967296) (h2 : ad < 4294967296) (h3 : dt < 4294967296) (h4 : tg < 4294967296) (x : In) (hx : x = ⟨1, sz, ad, false, dt, tg, Cf.zero⟩) (hok : x.ok = true) (w : World) :
    Calls Tryz.prog 26 #[x.agg] w fun e w' => e = .returned (.tuple #[str ([108, 111, 97, 100] ++ 32 :: (numL 10 sz ++ 32 :: numL 16 ad)), .int .i64 0]) ∧ Only [] w w' := by
  have HI := Lib.hid (rinstr_any x)
  rw [hok] at HI
  have HX := Lib.hid hx
  have HN := Lib.hid (Blk.new w 33 x.cs)
  have HR := Lib.hid HN.out.rng
  have NS := Lib.hid (rnumber_10 sz (by omega))
  have NA := Lib.hid (rnumber_16 ad (by omega))
  have ND := Lib.hid (rnumber_16 dt (by omega))
  have NT := Lib.hid (rnumber_10 tg (by omega))
  have NI := Lib.hid (rnumber_10 dt (by omega))
  have lS : (numL 10 sz).length ≤ 16 := rnum_len 10 (by omega) 15 sz (by omega)
  have lA : (numL 16 ad).length ≤ 16 := rnum_len 16 (by omega) 15 ad (by omega)
  have lD : (numL 16 dt).length ≤ 16 := rnum_len 16 (by omega) 15 dt (by omega)
  have lT : (numL 10 tg).length ≤ 16 := rnum_len 10 (by omega) 15 tg (by omega)
  have lI : (numL 10 dt).length ≤ 16 := rnum_len 10 (by omega) 15 dt (by omega)
  have wa : IntKind.i64.wrap (ad : Int) = (ad : Int) := IntWalk.i64_in _ (by omega)
  have wd : IntKind.i64.wrap (dt : Int) = (dt : Int) := IntWalk.i64_in _ (by omega)
  generalize numL 10 sz = S at *
  generalize numL 16 ad = A at *
  generalize numL 16 dt = D at *
  generalize numL 10 tg = T at *
  generalize numL 10 dt = I at *



  clear h1 h2 h3 h4 hok hx
  go_enter Tryz.func26, Tryz.ntmps26
  go_upto_region 3 with (first
    | (refine wpList_ld 33 x w.heap.size 0 _ rfl (.inl rfl) rfl rfl HR.out ?_)
    | (go_at_call 27; refine (HI.out _).mono ?_; rintro e w1 ⟨rfl, hO1⟩))
  have hB1 := hO1.blk HN.out (by simp)
  have HO := Lib.hid (((Only.refl [] w).alloc (.cells x.cs 33)).trans hO1)
  rw [HX.out] at hB1
  have HB := Lib.hid hB1
  have HF : Hid (∀ W, Only [] w1 W → InC W w.heap.size ⟨1, sz, ad, false, dt, tg, Cf.zero⟩) := Lib.hid (fun W h => Blk.in_ (h.blk HB.out (by simp)))
  clear HN HR HI hO1 hB1
  refine wp_region_D (Only [] w1) (by kernel_rfl) (by kernel_rfl) ((Only.refl _ _).drew) ?_
  repeat (
    refine wpT_step ?_ (stD rfl (fun w' hD => ?_)) ?_
    rotate_left
    · obtain ⟨c0, c1, c2, -⟩ := HF.out w' hD
      simp only at c0 c1 c2
      go_simp
      first
        | (rw [if_neg (by omega)]; refine ⟨?_, hD⟩; rfl)
        | (refine ⟨?_, hD⟩; rfl)
        | (change Calls _ _ _ _ _; (with_reducible refine (NS.out w').mono ?_); rintro e w'' ⟨rfl, h⟩; refine ⟨?_, hD.trans h⟩; rfl)
        | (change Calls _ _ _ _ _; (with_reducible refine (NA.out w').mono ?_); rintro e w'' ⟨rfl, h⟩; refine ⟨?_, hD.trans h⟩; rfl)
    simp only [Act.put, List.setIfInBounds_toArray, List.set_cons_succ, List.set_cons_zero, Nat.zero_add, Nat.reduceAdd])
  refine wpT_nil ?_
  intro w2 hD2
  obtain ⟨c0, c1, c2, c3, c4, c5, -⟩ := HF.out w2 hD2
  simp only at c0 c1 c2 c3 c4 c5
  go_wp2_with (first
    | (go_at_call 48; change Calls _ _ _ _ _; (with_reducible refine (ND.out _).mono ?_); rintro e w3 ⟨rfl, hO3⟩; have hD3 := hD2.trans hO3; obtain ⟨d0, d1, d2, d3, d4, d5, -⟩ := HF.out w3 hD3; simp only at d0 d1 d2 d3 d4 d5)
    | (go_at_call 48; change Calls _ _ _ _ _; (with_reducible refine (NT.out _).mono ?_); rintro e w4 ⟨rfl, hO4⟩; have hD4 := hD3.trans hO4; obtain ⟨e0, e1, e2, e3, e4, e5, -⟩ := HF.out w4 hD4; simp only at e0 e1 e2 e3 e4 e5))
  all_goals first
    | (exfalso; omega)
    | (go_ret2
       exact ⟨by simp, HO.out.trans hD4⟩)

set_option maxRecDepth 100000 in
set_option maxHeartbeats 8000000 in
theorem rline_1x (sz ad dt tg : Nat) (h1 : sz < 4294967296) (h2 : ad < 4294967296) (h3 : dt < 4294967296) (h4 : tg < 4294967296) (x : In) (hx : x = ⟨1, sz, ad, true, dt, tg, Cf.zero⟩) (hok : x.ok = true) (w : World) :
    Calls Tryz.prog 26 #[x.agg] w fun e w' => e = .returned (.tuple #[str ([108, 111, 97, 100] ++ 32 :: (numL 10 sz ++ 32 :: numL 16 ad) ++ [32, 43]), .int .i64 0]) ∧ Only [] w w' := by
  have HI := Lib.hid (rinstr_any x)
  rw [hok] at HI
  have HX := Lib.hid hx
  have HN := Lib.hid (Blk.new w 33 x.cs)
  have HR := Lib.hid HN.out.rng
  have NS := Lib.hid (rnumber_10 sz (by omega))
  have NA := Lib.hid (rnumber_16 ad (by omega))
  have ND := Lib.hid (rnumber_16 dt (by omega))
  have NT := Lib.hid (rnumber_10 tg (by omega))
  have NI := Lib.hid (rnumber_10 dt (by omega))
  have lS : (numL 10 sz).length ≤ 16 := rnum_len 10 (by omega) 15 sz (by omega)
  have lA : (numL 16 ad).length ≤ 16 := rnum_len 16 (by omega) 15 ad (by omega)
  have lD : (numL 16 dt).length ≤ 16 := rnum_len 16 (by omega) 15 dt (by omega)
  have lT : (numL 10 tg).length ≤ 16 := rnum_len 10 (by omega) 15 tg (by omega)
  have lI : (numL 10 dt).length ≤ 16 := rnum_len 10 (by omega) 15 dt (by omega)
  have wa : IntKind.i64.wrap (ad : Int) = (ad : Int) := IntWalk.i64_in _ (by omega)
  have wd : IntKind.i64.wrap (dt : Int) = (dt : Int) := IntWalk.i64_in _ (by omega)
  generalize numL 10 sz = S at *
  generalize numL 16 ad = A at *
  generalize numL 16 dt = D at *
  generalize numL 10 tg = T at *
  generalize numL 10 dt = I at *



  clear h1 h2 h3 h4 hok hx
  go_enter Tryz.func26, Tryz.ntmps26
  go_upto_region 3 with (first
    | (refine wpList_ld 33 x w.heap.size 0 _ rfl (.inl rfl) rfl rfl HR.out ?_)
    | (go_at_call 27; refine (HI.out _).mono ?_; rintro e w1 ⟨rfl, hO1⟩))
  have hB1 := hO1.blk HN.out (by simp)
  have HO := Lib.hid (((Only.refl [] w).alloc (.cells x.cs 33)).trans hO1)
  rw [HX.out] at hB1
  have HB := Lib.hid hB1
  have HF : Hid (∀ W, Only [] w1 W → InC W w.heap.size ⟨1, sz, ad, true, dt, tg, Cf.zero⟩) := Lib.hid (fun W h => Blk.in_ (h.blk HB.out (by simp)))
  clear HN HR HI hO1 hB1
  refine wp_region_D (Only [] w1) (by kernel_rfl) (by kernel_rfl) ((Only.refl _ _).drew) ?_
  repeat (
    refine wpT_step ?_ (stD rfl (fun w' hD => ?_)) ?_
    rotate_left
    · obtain ⟨c0, c1, c2, -⟩ := HF.out w' hD
      simp only at c0 c1 c2
      go_simp
      first
        | (rw [if_neg (by omega)]; refine ⟨?_, hD⟩; rfl)
        | (refine ⟨?_, hD⟩; rfl)
        | (change Calls _ _ _ _ _; (with_reducible refine (NS.out w').mono ?_); rintro e w'' ⟨rfl, h⟩; refine ⟨?_, hD.trans h⟩; rfl)
        | (change Calls _ _ _ _ _; (with_reducible refine (NA.out w').mono ?_); rintro e w'' ⟨rfl, h⟩; refine ⟨?_, hD.trans h⟩; rfl)
    simp only [Act.put, List.setIfInBounds_toArray, List.set_cons_succ, List.set_cons_zero, Nat.zero_add, Nat.reduceAdd])
  refine wpT_nil ?_
  intro w2 hD2
  obtain ⟨c0, c1, c2, c3, c4, c5, -⟩ := HF.out w2 hD2
  simp only at c0 c1 c2 c3 c4 c5
  go_wp2_with (first
    | (go_at_call 48; change Calls _ _ _ _ _; (with_reducible refine (ND.out _).mono ?_); rintro e w3 ⟨rfl, hO3⟩; have hD3 := hD2.trans hO3; obtain ⟨d0, d1, d2, d3, d4, d5, -⟩ := HF.out w3 hD3; simp only at d0 d1 d2 d3 d4 d5)
    | (go_at_call 48; change Calls _ _ _ _ _; (with_reducible refine (NT.out _).mono ?_); rintro e w4 ⟨rfl, hO4⟩; have hD4 := hD3.trans hO4; obtain ⟨e0, e1, e2, e3, e4, e5, -⟩ := HF.out w4 hD4; simp only at e0 e1 e2 e3 e4 e5))
  all_goals first
    | (exfalso; omega)
    | (go_ret2
       exact ⟨by simp, HO.out.trans hD4⟩)

set_option maxRecDepth 100000 in
set_option maxHeartbeats 8000000 in
theorem rline_2 (sz ad dt tg : Nat) (h1 : sz < 4294967296) (h2 : ad < 4294967296) (h3 : dt < 4294967296) (h4 : tg < 4294967296) (x : In) (hx : x = ⟨2, sz, ad, false, dt, tg, Cf.zero⟩) (hok : x.ok = true) (w : World) :
    Calls Tryz.prog 26 #[x.agg] w fun e w' => e = .returned (.tuple #[str ([115, 116, 111, 114, 101] ++ 32 :: (numL 10 sz ++ 32 :: numL 16 ad) ++ 32 :: numL 16 dt), .int .i64 0]) ∧ Only [] w w' := by
  have HI := Lib.hid (rinstr_any x)
  rw [hok] at HI
  have HX := Lib.hid hx
  have HN := Lib.hid (Blk.new w 33 x.cs)
  have HR := Lib.hid HN.out.rng
  have NS := Lib.hid (rnumber_10 sz (by omega))
  have NA := Lib.hid (rnumber_16 ad (by omega))
  have ND := Lib.hid (rnumber_16 dt (by omega))
  have NT := Lib.hid (rnumber_10 tg (by omega))
  have NI := Lib.hid (rnumber_10 dt (by omega))
  have lS : (numL 10 sz).length ≤ 16 := rnum_len 10 (by omega) 15 sz (by omega)
  have lA : (numL 16 ad).length ≤ 16 := rnum_len 16 (by omega) 15 ad (by omega)
  have lD : (numL 16 dt).length ≤ 16 := rnum_len 16 (by omega) 15 dt (by omega)
  have lT : (numL 10 tg).length ≤ 16 := rnum_len 10 (by omega) 15 tg (by omega)
  have lI : (numL 10 dt).length ≤ 16 := rnum_len 10 (by omega) 15 dt (by omega)
  have wa : IntKind.i64.wrap (ad : Int) = (ad : Int) := IntWalk.i64_in _ (by omega)
  have wd : IntKind.i64.wrap (dt : Int) = (dt : Int) := IntWalk.i64_in _ (by omega)
  generalize numL 10 sz = S at *
  generalize numL 16 ad = A at *
  generalize numL 16 dt = D at *
  generalize numL 10 tg = T at *
  generalize numL 10 dt = I at *



  clear h1 h2 h3 h4 hok hx
  go_enter Tryz.func26, Tryz.ntmps26
  go_upto_region 3 with (first
    | (refine wpList_ld 33 x w.heap.size 0 _ rfl (.inl rfl) rfl rfl HR.out ?_)
    | (go_at_call 27; refine (HI.out _).mono ?_; rintro e w1 ⟨rfl, hO1⟩))
  have hB1 := hO1.blk HN.out (by simp)
  have HO := Lib.hid (((Only.refl [] w).alloc (.cells x.cs 33)).trans hO1)
  rw [HX.out] at hB1
  have HB := Lib.hid hB1
  have HF : Hid (∀ W, Only [] w1 W → InC W w.heap.size ⟨2, sz, ad, false, dt, tg, Cf.zero⟩) := Lib.hid (fun W h => Blk.in_ (h.blk HB.out (by simp)))
  clear HN HR HI hO1 hB1
  refine wp_region_D (Only [] w1) (by kernel_rfl) (by kernel_rfl) ((Only.refl _ _).drew) ?_
  repeat (
    refine wpT_step ?_ (stD rfl (fun w' hD => ?_)) ?_
    rotate_left
    · obtain ⟨c0, c1, c2, -⟩ := HF.out w' hD
      simp only at c0 c1 c2
      go_simp
      first
        | (rw [if_neg (by omega)]; refine ⟨?_, hD⟩; rfl)
        | (refine ⟨?_, hD⟩; rfl)
        | (change Calls _ _ _ _ _; (with_reducible refine (NS.out w').mono ?_); rintro e w'' ⟨rfl, h⟩; refine ⟨?_, hD.trans h⟩; rfl)
        | (change Calls _ _ _ _ _; (with_reducible refine (NA.out w').mono ?_); rintro e w'' ⟨rfl, h⟩; refine ⟨?_, hD.trans h⟩; rfl)
    simp only [Act.put, List.setIfInBounds_toArray, List.set_cons_succ, List.set_cons_zero, Nat.zero_add, Nat.reduceAdd])
  refine wpT_nil ?_
  intro w2 hD2
  obtain ⟨c0, c1, c2, c3, c4, c5, -⟩ := HF.out w2 hD2
  simp only at c0 c1 c2 c3 c4 c5
  go_wp2_with (first
    | (go_at_call 48; change Calls _ _ _ _ _; (with_reducible refine (ND.out _).mono ?_); rintro e w3 ⟨rfl, hO3⟩; have hD3 := hD2.trans hO3; obtain ⟨d0, d1, d2, d3, d4, d5, -⟩ := HF.out w3 hD3; simp only at d0 d1 d2 d3 d4 d5)
    | (go_at_call 48; change Calls _ _ _ _ _; (with_reducible refine (NT.out _).mono ?_); rintro e w4 ⟨rfl, hO4⟩; have hD4 := hD3.trans hO4; obtain ⟨e0, e1, e2, e3, e4, e5, -⟩ := HF.out w4 hD4; simp only at e0 e1 e2 e3 e4 e5))
  all_goals first
    | (exfalso; omega)
    | (go_ret2
       exact ⟨by simp, HO.out.trans hD4⟩)

set_option maxRecDepth 100000 in
set_option maxHeartbeats 8000000 in
theorem rline_2x (sz ad dt tg : Nat) (h1 : sz < 4294967296) (h2 : ad < 4294967296) (h3 : dt < 4294967296) (h4 : tg < 4294967296) (x : In) (hx : x = ⟨2, sz, ad, true, dt, tg, Cf.zero⟩) (hok : x.ok = true) (w : World) :
    Calls Tryz.prog 26 #[x.agg] w fun e w' => e = .returned (.tuple #[str ([115, 116, 111, 114, 101] ++ 32 :: (numL 10 sz ++ 32 :: numL 16 ad) ++ [32, 43] ++ 32 :: numL 16 dt), .int .i64 0]) ∧ Only [] w w' := by
  have HI := Lib.hid (rinstr_any x)
  rw [hok] at HI
  have HX := Lib.hid hx
  have HN := Lib.hid (Blk.new w 33 x.cs)
  have HR := Lib.hid HN.out.rng
  have NS := Lib.hid (rnumber_10 sz (by omega))
  have NA := Lib.hid (rnumber_16 ad (by omega))
  have ND := Lib.hid (rnumber_16 dt (by omega))
  have NT := Lib.hid (rnumber_10 tg (by omega))
  have NI := Lib.hid (rnumber_10 dt (by omega))
  have lS : (numL 10 sz).length ≤ 16 := rnum_len 10 (by omega) 15 sz (by omega)
  have lA : (numL 16 ad).length ≤ 16 := rnum_len 16 (by omega) 15 ad (by omega)
  have lD : (numL 16 dt).length ≤ 16 := rnum_len 16 (by omega) 15 dt (by omega)
  have lT : (numL 10 tg).length ≤ 16 := rnum_len 10 (by omega) 15 tg (by omega)
  have lI : (numL 10 dt).length ≤ 16 := rnum_len 10 (by omega) 15 dt (by omega)
  have wa : IntKind.i64.wrap (ad : Int) = (ad : Int) := IntWalk.i64_in _ (by omega)
  have wd : IntKind.i64.wrap (dt : Int) = (dt : Int) := IntWalk.i64_in _ (by omega)
  generalize numL 10 sz = S at *
  generalize numL 16 ad = A at *
  generalize numL 16 dt = D at *
  generalize numL 10 tg = T at *
  generalize numL 10 dt = I at *



  clear h1 h2 h3 h4 hok hx
  go_enter Tryz.func26, Tryz.ntmps26
  go_upto_region 3 with (first
    | (refine wpList_ld 33 x w.heap.size 0 _ rfl (.inl rfl) rfl rfl HR.out ?_)
    | (go_at_call 27; refine (HI.out _).mono ?_; rintro e w1 ⟨rfl, hO1⟩))
  have hB1 := hO1.blk HN.out (by simp)
  have HO := Lib.hid (((Only.refl [] w).alloc (.cells x.cs 33)).trans hO1)
  rw [HX.out] at hB1
  have HB := Lib.hid hB1
  have HF : Hid (∀ W, Only [] w1 W → InC W w.heap.size ⟨2, sz, ad, true, dt, tg, Cf.zero⟩) := Lib.hid (fun W h => Blk.in_ (h.blk HB.out (by simp)))
  clear HN HR HI hO1 hB1
  refine wp_region_D (Only [] w1) (by kernel_rfl) (by kernel_rfl) ((Only.refl _ _).drew) ?_
  repeat (
    refine wpT_step ?_ (stD rfl (fun w' hD => ?_)) ?_
    rotate_left
    · obtain ⟨c0, c1, c2, -⟩ := HF.out w' hD
      simp only at c0 c1 c2
      go_simp
      first
        | (rw [if_neg (by omega)]; refine ⟨?_, hD⟩; rfl)
        | (refine ⟨?_, hD⟩; rfl)
        | (change Calls _ _ _ _ _; (with_reducible refine (NS.out w').mono ?_); rintro e w'' ⟨rfl, h⟩; refine ⟨?_, hD.trans h⟩; rfl)
        | (change Calls _ _ _ _ _; (with_reducible refine (NA.out w').mono ?_); rintro e w'' ⟨rfl, h⟩; refine ⟨?_, hD.trans h⟩; rfl)
    simp only [Act.put, List.setIfInBounds_toArray, List.set_cons_succ, List.set_cons_zero, Nat.zero_add, Nat.reduceAdd])
  refine wpT_nil ?_
  intro w2 hD2
  obtain ⟨c0, c1, c2, c3, c4, c5, -⟩ := HF.out w2 hD2
  simp only at c0 c1 c2 c3 c4 c5
  go_wp2_with (first
    | (go_at_call 48; change Calls _ _ _ _ _; (with_reducible refine (ND.out _).mono ?_); rintro e w3 ⟨rfl, hO3⟩; have hD3 := hD2.trans hO3; obtain ⟨d0, d1, d2, d3, d4, d5, -⟩ := HF.out w3 hD3; simp only at d0 d1 d2 d3 d4 d5)
    | (go_at_call 48; change Calls _ _ _ _ _; (with_reducible refine (NT.out _).mono ?_); rintro e w4 ⟨rfl, hO4⟩; have hD4 := hD3.trans hO4; obtain ⟨e0, e1, e2, e3, e4, e5, -⟩ := HF.out w4 hD4; simp only at e0 e1 e2 e3 e4 e5))
  all_goals first
    | (exfalso; omega)
    | (go_ret2
       exact ⟨by simp, HO.out.trans hD4⟩)

set_option maxRecDepth 100000 in
set_option maxHeartbeats 8000000 in
theorem rline_3 (sz ad dt tg : Nat) (h1 : sz < 4294967296) (h2 : ad < 4294967296) (h3 : dt < 4294967296) (h4 : tg < 4294967296) (x : In) (hx : x = ⟨3, sz, ad, false, dt, tg, Cf.zero⟩) (hok : x.ok = true) (w : World) :
    Calls Tryz.prog 26 #[x.agg] w fun e w' => e = .returned (.tuple #[str ([112, 117, 116] ++ 32 :: (numL 10 sz ++ 32 :: numL 16 ad)), .int .i64 0]) ∧ Only [] w w' := by
  have HI := Lib.hid (rinstr_any x)
  rw [hok] at HI
  have HX := Lib.hid hx
  have HN := Lib.hid (Blk.new w 33 x.cs)
  have HR := Lib.hid HN.out.rng
  have NS := Lib.hid (rnumber_10 sz (by omega))
  have NA := Lib.hid (rnumber_16 ad (by omega))
  have ND := Lib.hid (rnumber_16 dt (by omega))
  have NT := Lib.hid (rnumber_10 tg (by omega))
  have NI := Lib.hid (rnumber_10 dt (by omega))
  have lS : (numL 10 sz).length ≤ 16 := rnum_len 10 (by omega) 15 sz (by omega)
  have lA : (numL 16 ad).length ≤ 16 := rnum_len 16 (by omega) 15 ad (by omega)
  have lD : (numL 16 dt).length ≤ 16 := rnum_len 16 (by omega) 15 dt (by omega)
  have lT : (numL 10 tg).length ≤ 16 := rnum_len 10 (by omega) 15 tg (by omega)
  have lI : (numL 10 dt).length ≤ 16 := rnum_len 10 (by omega) 15 dt (by omega)
  have wa : IntKind.i64.wrap (ad : Int) = (ad : Int) := IntWalk.i64_in _ (by omega)
  have wd : IntKind.i64.wrap (dt : Int) = (dt : Int) := IntWalk.i64_in _ (by omega)
  generalize numL 10 sz = S at *
  generalize numL 16 ad = A at *
  generalize numL 16 dt = D at *
  generalize numL 10 tg = T at *
  generalize numL 10 dt = I at *



  clear h1 h2 h3 h4 hok hx
  go_enter Tryz.func26, Tryz.ntmps26
  go_upto_region 3 with (first
    | (refine wpList_ld 33 x w.heap.size 0 _ rfl (.inl rfl) rfl rfl HR.out ?_)
    | (go_at_call 27; refine (HI.out _).mono ?_; rintro e w1 ⟨rfl, hO1⟩))
  have hB1 := hO1.blk HN.out (by simp)
  have HO := Lib.hid (((Only.refl [] w).alloc (.cells x.cs 33)).trans hO1)
  rw [HX.out] at hB1
  have HB := Lib.hid hB1
  have HF : Hid (∀ W, Only [] w1 W → InC W w.heap.size ⟨3, sz, ad, false, dt, tg, Cf.zero⟩) := Lib.hid (fun W h => Blk.in_ (h.blk HB.out (by simp)))
  clear HN HR HI hO1 hB1
  refine wp_region_D (Only [] w1) (by kernel_rfl) (by kernel_rfl) ((Only.refl _ _).drew) ?_
  repeat (
    refine wpT_step ?_ (stD rfl (fun w' hD => ?_)) ?_
    rotate_left
    · obtain ⟨c0, c1, c2, -⟩ := HF.out w' hD
      simp only at c0 c1 c2
      go_simp
      first
        | (rw [if_neg (by omega)]; refine ⟨?_, hD⟩; rfl)
        | (refine ⟨?_, hD⟩; rfl)
        | (change Calls _ _ _ _ _; (with_reducible refine (NS.out w').mono ?_); rintro e w'' ⟨rfl, h⟩; refine ⟨?_, hD.trans h⟩; rfl)
        | (change Calls _ _ _ _ _; (with_reducible refine (NA.out w').mono ?_); rintro e w'' ⟨rfl, h⟩; refine ⟨?_, hD.trans h⟩; rfl)
    simp only [Act.put, List.setIfInBounds_toArray, List.set_cons_succ, List.set_cons_zero, Nat.zero_add, Nat.reduceAdd])
  refine wpT_nil ?_
  intro w2 hD2
  obtain ⟨c0, c1, c2, c3, c4, c5, -⟩ := HF.out w2 hD2
  simp only at c0 c1 c2 c3 c4 c5
  go_wp2_with (first
    | (go_at_call 48; change Calls _ _ _ _ _; (with_reducible refine (ND.out _).mono ?_); rintro e w3 ⟨rfl, hO3⟩; have hD3 := hD2.trans hO3; obtain ⟨d0, d1, d2, d3, d4, d5, -⟩ := HF.out w3 hD3; simp only at d0 d1 d2 d3 d4 d5)
    | (go_at_call 48; change Calls _ _ _ _ _; (with_reducible refine (NT.out _).mono ?_); rintro e w4 ⟨rfl, hO4⟩; have hD4 := hD3.trans hO4; obtain ⟨e0, e1, e2, e3, e4, e5, -⟩ := HF.out w4 hD4; simp only at e0 e1 e2 e3 e4 e5))
  all_goals first
    | (exfalso; omega)
    | (go_ret2
       exact ⟨by simp, HO.out.trans hD4⟩)

set_option maxRecDepth 100000 in
set_option maxHeartbeats 8000000 in
theorem rline_3x (sz ad dt tg : Nat) (h1 : sz < 4294967296) (h2 : ad < 4294967296) (h3 : dt < 4294967296) (h4 : tg < 4294967296) (x : In) (hx : x = ⟨3, sz, ad, true, dt, tg, Cf.zero⟩) (hok : x.ok = true) (w : World) :
    Calls Tryz.prog 26 #[x.agg] w fun e w' => e = .returned (.tuple #[str ([112, 117, 116] ++ 32 :: (numL 10 sz ++ 32 :: numL 16 ad) ++ [32, 43]), .int .i64 0]) ∧ Only [] w w' := by
  have HI := Lib.hid (rinstr_any x)
  rw [hok] at HI
  have HX := Lib.hid hx
  have HN := Lib.hid (Blk.new w 33 x.cs)
  have HR := Lib.hid HN.out.rng
  have NS := Lib.hid (rnumber_10 sz (by omega))
  have NA := Lib.hid (rnumber_16 ad (by omega))
  have ND := Lib.hid (rnumber_16 dt (by omega))
  have NT := Lib.hid (rnumber_10 tg (by omega))
  have NI := Lib.hid (rnumber_10 dt (by omega))
  have lS : (numL 10 sz).length ≤ 16 := rnum_len 10 (by omega) 15 sz (by omega)
  have lA : (numL 16 ad).length ≤ 16 := rnum_len 16 (by omega) 15 ad (by omega)
  have lD : (numL 16 dt).length ≤ 16 := rnum_len 16 (by omega) 15 dt (by omega)
  have lT : (numL 10 tg).length ≤ 16 := rnum_len 10 (by omega) 15 tg (by omega)
  have lI : (numL 10 dt).length ≤ 16 := rnum_len 10 (by omega) 15 dt (by omega)
  have wa : IntKind.i64.wrap (ad : Int) = (ad : Int) := IntWalk.i64_in _ (by omega)
  have wd : IntKind.i64.wrap (dt : Int) = (dt : Int) := IntWalk.i64_in _ (by omega)
  generalize numL 10 sz = S at *
  generalize numL 16 ad = A at *
  generalize numL 16 dt = D at *
  generalize numL 10 tg = T at *
  generalize numL 10 dt = I at *



  clear h1 h2 h3 h4 hok hx
  go_enter Tryz.func26, Tryz.ntmps26
  go_upto_region 3 with (first
    | (refine wpList_ld 33 x w.heap.size 0 _ rfl (.inl rfl) rfl rfl HR.out ?_)
    | (go_at_call 27; refine (HI.out _).mono ?_; rintro e w1 ⟨rfl, hO1⟩))
  have hB1 := hO1.blk HN.out (by simp)
  have HO := Lib.hid (((Only.refl [] w).alloc (.cells x.cs 33)).trans hO1)
  rw [HX.out] at hB1
  have HB := Lib.hid hB1
  have HF : Hid (∀ W, Only [] w1 W → InC W w.heap.size ⟨3, sz, ad, true, dt, tg, Cf.zero⟩) := Lib.hid (fun W h => Blk.in_ (h.blk HB.out (by simp)))
  clear HN HR HI hO1 hB1
  refine wp_region_D (Only [] w1) (by kernel_rfl) (by kernel_rfl) ((Only.refl _ _).drew) ?_
  repeat (
    refine wpT_step ?_ (stD rfl (fun w' hD => ?_)) ?_
    rotate_left
    · obtain ⟨c0, c1, c2, -⟩ := HF.out w' hD
      simp only at c0 c1 c2
      go_simp
      first
        | (rw [if_neg (by omega)]; refine ⟨?_, hD⟩; rfl)
        | (refine ⟨?_, hD⟩; rfl)
        | (change Calls _ _ _ _ _; (with_reducible refine (NS.out w').mono ?_); rintro e w'' ⟨rfl, h⟩; refine ⟨?_, hD.trans h⟩; rfl)
        | (change Calls _ _ _ _ _; (with_reducible refine (NA.out w').mono ?_); rintro e w'' ⟨rfl, h⟩; refine ⟨?_, hD.trans h⟩; rfl)
    simp only [Act.put, List.setIfInBounds_toArray, List.set_cons_succ, List.set_cons_zero, Nat.zero_add, Nat.reduceAdd])
  refine wpT_nil ?_
  intro w2 hD2
  obtain ⟨c0, c1, c2, c3, c4, c5, -⟩ := HF.out w2 hD2
  simp only at c0 c1 c2 c3 c4 c5
  go_wp2_with (first
    | (go_at_call 48; change Calls _ _ _ _ _; (with_reducible refine (ND.out _).mono ?_); rintro e w3 ⟨rfl, hO3⟩; have hD3 := hD2.trans hO3; obtain ⟨d0, d1, d2, d3, d4, d5, -⟩ := HF.out w3 hD3; simp only at d0 d1 d2 d3 d4 d5)
    | (go_at_call 48; change Calls _ _ _ _ _; (with_reducible refine (NT.out _).mono ?_); rintro e w4 ⟨rfl, hO4⟩; have hD4 := hD3.trans hO4; obtain ⟨e0, e1, e2, e3, e4, e5, -⟩ := HF.out w4 hD4; simp only at e0 e1 e2 e3 e4 e5))
  all_goals first
    | (exfalso; omega)
    | (go_ret2
       exact ⟨by simp, HO.out.trans hD4⟩)

set_option maxRecDepth 100000 in
set_option maxHeartbeats 8000000 in
theorem rline_4 (sz ad dt tg : Nat) (h1 : sz < 4294967296) (h2 : ad < 4294967296) (h3 : dt < 4294967296) (h4 : tg < 4294967296) (x : In) (hx : x = ⟨4, sz, ad, false, dt, tg, Cf.zero⟩) (hok : x.ok = true) (w : World) :
    Calls Tryz.prog 26 #[x.agg] w fun e w' => e = .returned (.tuple #[str ([119, 97, 105, 116]), .int .i64 0]) ∧ Only [] w w' := by
  have HI := Lib.hid (rinstr_any x)
  rw [hok] at HI
  have HX := Lib.hid hx
  have HN := Lib.hid (Blk.new w 33 x.cs)
  have HR := Lib.hid HN.out.rng
  have NS := Lib.hid (rnumber_10 sz (by omega))
  have NA := Lib.hid (rnumber_16 ad (by omega))
  have ND := Lib.hid (rnumber_16 dt (by omega))
  have NT := Lib.hid (rnumber_10 tg (by omega))
  have NI := Lib.hid (rnumber_10 dt (by omega))
  have lS : (numL 10 sz).length ≤ 16 := rnum_len 10 (by omega) 15 sz (by omega)
  have lA : (numL 16 ad).length ≤ 16 := rnum_len 16 (by omega) 15 ad (by omega)
  have lD : (numL 16 dt).length ≤ 16 := rnum_len 16 (by omega) 15 dt (by omega)
  have lT : (numL 10 tg).length ≤ 16 := rnum_len 10 (by omega) 15 tg (by omega)
  have lI : (numL 10 dt).length ≤ 16 := rnum_len 10 (by omega) 15 dt (by omega)
  have wa : IntKind.i64.wrap (ad : Int) = (ad : Int) := IntWalk.i64_in _ (by omega)
  have wd : IntKind.i64.wrap (dt : Int) = (dt : Int) := IntWalk.i64_in _ (by omega)
  generalize numL 10 sz = S at *
  generalize numL 16 ad = A at *
  generalize numL 16 dt = D at *
  generalize numL 10 tg = T at *
  generalize numL 10 dt = I at *



  clear h1 h2 h3 h4 hok hx
  go_enter Tryz.func26, Tryz.ntmps26
  go_upto_region 3 with (first
    | (refine wpList_ld 33 x w.heap.size 0 _ rfl (.inl rfl) rfl rfl HR.out ?_)
    | (go_at_call 27; refine (HI.out _).mono ?_; rintro e w1 ⟨rfl, hO1⟩))
  have hB1 := hO1.blk HN.out (by simp)
  have HO := Lib.hid (((Only.refl [] w).alloc (.cells x.cs 33)).trans hO1)
  rw [HX.out] at hB1
  have HB := Lib.hid hB1
  have HF : Hid (∀ W, Only [] w1 W → InC W w.heap.size ⟨4, sz, ad, false, dt, tg, Cf.zero⟩) := Lib.hid (fun W h => Blk.in_ (h.blk HB.out (by simp)))
  clear HN HR HI hO1 hB1
  refine wp_region_D (Only [] w1) (by kernel_rfl) (by kernel_rfl) ((Only.refl _ _).drew) ?_
  repeat (
    refine wpT_step ?_ (stD rfl (fun w' hD => ?_)) ?_
    rotate_left
    · obtain ⟨c0, c1, c2, -⟩ := HF.out w' hD
      simp only at c0 c1 c2
      go_simp
      first
        | (rw [if_neg (by omega)]; refine ⟨?_, hD⟩; rfl)
        | (refine ⟨?_, hD⟩; rfl)
        | (change Calls _ _ _ _ _; (with_reducible refine (NS.out w').mono ?_); rintro e w'' ⟨rfl, h⟩; refine ⟨?_, hD.trans h⟩; rfl)
        | (change Calls _ _ _ _ _; (with_reducible refine (NA.out w').mono ?_); rintro e w'' ⟨rfl, h⟩; refine ⟨?_, hD.trans h⟩; rfl)
    simp only [Act.put, List.setIfInBounds_toArray, List.set_cons_succ, List.set_cons_zero, Nat.zero_add, Nat.reduceAdd])
  refine wpT_nil ?_
  intro w2 hD2
  obtain ⟨c0, c1, c2, c3, c4, c5, -⟩ := HF.out w2 hD2
  simp only at c0 c1 c2 c3 c4 c5
  go_wp2_with (first
    | (go_at_call 48; change Calls _ _ _ _ _; (with_reducible refine (ND.out _).mono ?_); rintro e w3 ⟨rfl, hO3⟩; have hD3 := hD2.trans hO3; obtain ⟨d0, d1, d2, d3, d4, d5, -⟩ := HF.out w3 hD3; simp only at d0 d1 d2 d3 d4 d5)
    | (go_at_call 48; change Calls _ _ _ _ _; (with_reducible refine (NT.out _).mono ?_); rintro e w4 ⟨rfl, hO4⟩; have hD4 := hD3.trans hO4; obtain ⟨e0, e1, e2, e3, e4, e5, -⟩ := HF.out w4 hD4; simp only at e0 e1 e2 e3 e4 e5))
  all_goals first
    | (exfalso; omega)
    | (go_ret2
       exact ⟨by simp, HO.out.trans hD4⟩)

set_option maxRecDepth 100000 in
set_option maxHeartbeats 8000000 in
theorem rline_4x (sz ad dt tg : Nat) (h1 : sz < 4294967296) (h2 : ad < 4294967296) (h3 : dt < 4294967296) (h4 : tg < 4294967296) (x : In) (hx : x = ⟨4, sz, ad, true, dt, tg, Cf.zero⟩) (hok : x.ok = true) (w : World) :
    Calls Tryz.prog 26 #[x.agg] w fun e w' => e = .returned (.tuple #[str ([119, 97, 105, 116]), .int .i64 0]) ∧ Only [] w w' := by
  have HI := Lib.hid (rinstr_any x)
  rw [hok] at HI
  have HX := Lib.hid hx
  have HN := Lib.hid (Blk.new w 33 x.cs)
  have HR := Lib.hid HN.out.rng
  have NS := Lib.hid (rnumber_10 sz (by omega))
  have NA := Lib.hid (rnumber_16 ad (by omega))
  have ND := Lib.hid (rnumber_16 dt (by omega))
  have NT := Lib.hid (rnumber_10 tg (by omega))
  have NI := Lib.hid (rnumber_10 dt (by omega))
  have lS : (numL 10 sz).length ≤ 16 := rnum_len 10 (by omega) 15 sz (by omega)
  have lA : (numL 16 ad).length ≤ 16 := rnum_len 16 (by omega) 15 ad (by omega)
  have lD : (numL 16 dt).length ≤ 16 := rnum_len 16 (by omega) 15 dt (by omega)
  have lT : (numL 10 tg).length ≤ 16 := rnum_len 10 (by omega) 15 tg (by omega)
  have lI : (numL 10 dt).length ≤ 16 := rnum_len 10 (by omega) 15 dt (by omega)
  have wa : IntKind.i64.wrap (ad : Int) = (ad : Int) := IntWalk.i64_in _ (by omega)
  have wd : IntKind.i64.wrap (dt : Int) = (dt : Int) := IntWalk.i64_in _ (by omega)
  generalize numL 10 sz = S at *
  generalize numL 16 ad = A at *
  generalize numL 16 dt = D at *
  generalize numL 10 tg = T at *
  generalize numL 10 dt = I at *



  clear h1 h2 h3 h4 hok hx
  go_enter Tryz.func26, Tryz.ntmps26
  go_upto_region 3 with (first
    | (refine wpList_ld 33 x w.heap.size 0 _ rfl (.inl rfl) rfl rfl HR.out ?_)
    | (go_at_call 27; refine (HI.out _).mono ?_; rintro e w1 ⟨rfl, hO1⟩))
  have hB1 := hO1.blk HN.out (by simp)
  have HO := Lib.hid (((Only.refl [] w).alloc (.cells x.cs 33)).trans hO1)
  rw [HX.out] at hB1
  have HB := Lib.hid hB1
  have HF : Hid (∀ W, Only [] w1 W → InC W w.heap.size ⟨4, sz, ad, true, dt, tg, Cf.zero⟩) := Lib.hid (fun W h => Blk.in_ (h.blk HB.out (by simp)))
  clear HN HR HI hO1 hB1
  refine wp_region_D (Only [] w1) (by kernel_rfl) (by kernel_rfl) ((Only.refl _ _).drew) ?_
  repeat (
    refine wpT_step ?_ (stD rfl (fun w' hD => ?_)) ?_
    rotate_left
    · obtain ⟨c0, c1, c2, -⟩ := HF.out w' hD
      simp only at c0 c1 c2
      go_simp
      first
        | (rw [if_neg (by omega)]; refine ⟨?_, hD⟩; rfl)
        | (refine ⟨?_, hD⟩; rfl)
        | (change Calls _ _ _ _ _; (with_reducible refine (NS.out w').mono ?_); rintro e w'' ⟨rfl, h⟩; refine ⟨?_, hD.trans h⟩; rfl)
        | (change Calls _ _ _ _ _; (with_reducible refine (NA.out w').mono ?_); rintro e w'' ⟨rfl, h⟩; refine ⟨?_, hD.trans h⟩; rfl)
    simp only [Act.put, List.setIfInBounds_toArray, List.set_cons_succ, List.set_cons_zero, Nat.zero_add, Nat.reduceAdd])
  refine wpT_nil ?_
  intro w2 hD2
  obtain ⟨c0, c1, c2, c3, c4, c5, -⟩ := HF.out w2 hD2
  simp only at c0 c1 c2 c3 c4 c5
  go_wp2_with (first
    | (go_at_call 48; change Calls _ _ _ _ _; (with_reducible refine (ND.out _).mono ?_); rintro e w3 ⟨rfl, hO3⟩; have hD3 := hD2.trans hO3; obtain ⟨d0, d1, d2, d3, d4, d5, -⟩ := HF.out w3 hD3; simp only at d0 d1 d2 d3 d4 d5)
    | (go_at_call 48; change Calls _ _ _ _ _; (with_reducible refine (NT.out _).mono ?_); rintro e w4 ⟨rfl, hO4⟩; have hD4 := hD3.trans hO4; obtain ⟨e0, e1, e2, e3, e4, e5, -⟩ := HF.out w4 hD4; simp only at e0 e1 e2 e3 e4 e5))
  all_goals first
    | (exfalso; omega)
    | (go_ret2
       exact ⟨by simp, HO.out.trans hD4⟩)

set_option maxRecDepth 100000 in
set_option maxHeartbeats 8000000 in
theorem rline_5 (sz ad dt tg : Nat) (h1 : sz < 4294967296) (h2 : ad < 4294967296) (h3 : dt < 4294967296) (h4 : tg < 4294967296) (x : In) (hx : x = ⟨5, sz, ad, false, dt, tg, Cf.zero⟩) (hok : x.ok = true) (w : World) :
    Calls Tryz.prog 26 #[x.agg] w fun e w' => e = .returned (.tuple #[str ([98, 114, 97, 110, 99, 104] ++ 32 :: numL 16 dt ++ 32 :: numL 10 tg), .int .i64 0]) ∧ Only [] w w' := by
  have HI := Lib.hid (rinstr_any x)
  rw [hok] at HI
  have HX := Lib.hid hx
  have HN := Lib.hid (Blk.new w 33 x.cs)
  have HR := Lib.hid HN.out.rng
  have NS := Lib.hid (rnumber_10 sz (by omega))
  have NA := Lib.hid (rnumber_16 ad (by omega))
  have ND := Lib.hid (rnumber_16 dt (by omega))
  have NT := Lib.hid (rnumber_10 tg (by omega))
  have NI := Lib.hid (rnumber_10 dt (by omega))
  have lS : (numL 10 sz).length ≤ 16 := rnum_len 10 (by omega) 15 sz (by omega)
  have lA : (numL 16 ad).length ≤ 16 := rnum_len 16 (by omega) 15 ad (by omega)
  have lD : (numL 16 dt).length ≤ 16 := rnum_len 16 (by omega) 15 dt (by omega)
  have lT : (numL 10 tg).length ≤ 16 := rnum_len 10 (by omega) 15 tg (by omega)
  have lI : (numL 10 dt).length ≤ 16 := rnum_len 10 (by omega) 15 dt (by omega)
  have wa : IntKind.i64.wrap (ad : Int) = (ad : Int) := IntWalk.i64_in _ (by omega)
  have wd : IntKind.i64.wrap (dt : Int) = (dt : Int) := IntWalk.i64_in _ (by omega)
  generalize numL 10 sz = S at *
  generalize numL 16 ad = A at *
  generalize numL 16 dt = D at *
  generalize numL 10 tg = T at *
  generalize numL 10 dt = I at *



  clear h1 h2 h3 h4 hok hx
  go_enter Tryz.func26, Tryz.ntmps26
  go_upto_region 3 with (first
    | (refine wpList_ld 33 x w.heap.size 0 _ rfl (.inl rfl) rfl rfl HR.out ?_)
    | (go_at_call 27; refine (HI.out _).mono ?_; rintro e w1 ⟨rfl, hO1⟩))
  have hB1 := hO1.blk HN.out (by simp)
  have HO := Lib.hid (((Only.refl [] w).alloc (.cells x.cs 33)).trans hO1)
  rw [HX.out] at hB1
  have HB := Lib.hid hB1
  have HF : Hid (∀ W, Only [] w1 W → InC W w.heap.size ⟨5, sz, ad, false, dt, tg, Cf.zero⟩) := Lib.hid (fun W h => Blk.in_ (h.blk HB.out (by simp)))
  clear HN HR HI hO1 hB1
  refine wp_region_D (Only [] w1) (by kernel_rfl) (by kernel_rfl) ((Only.refl _ _).drew) ?_
  repeat (
    refine wpT_step ?_ (stD rfl (fun w' hD => ?_)) ?_
    rotate_left
    · obtain ⟨c0, c1, c2, -⟩ := HF.out w' hD
      simp only at c0 c1 c2
      go_simp
      first
        | (rw [if_neg (by omega)]; refine ⟨?_, hD⟩; rfl)
        | (refine ⟨?_, hD⟩; rfl)
        | (change Calls _ _ _ _ _; (with_reducible refine (NS.out w').mono ?_); rintro e w'' ⟨rfl, h⟩; refine ⟨?_, hD.trans h⟩; rfl)
        | (change Calls _ _ _ _ _; (with_reducible refine (NA.out w').mono ?_); rintro e w'' ⟨rfl, h⟩; refine ⟨?_, hD.trans h⟩; rfl)
    simp only [Act.put, List.setIfInBounds_toArray, List.set_cons_succ, List.set_cons_zero, Nat.zero_add, Nat.reduceAdd])
  refine wpT_nil ?_
  intro w2 hD2
  obtain ⟨c0, c1, c2, c3, c4, c5, -⟩ := HF.out w2 hD2
  simp only at c0 c1 c2 c3 c4 c5
  go_wp2_with (first
    | (go_at_call 48; change Calls _ _ _ _ _; (with_reducible refine (ND.out _).mono ?_); rintro e w3 ⟨rfl, hO3⟩; have hD3 := hD2.trans hO3; obtain ⟨d0, d1, d2, d3, d4, d5, -⟩ := HF.out w3 hD3; simp only at d0 d1 d2 d3 d4 d5)
    | (go_at_call 48; change Calls _ _ _ _ _; (with_reducible refine (NT.out _).mono ?_); rintro e w4 ⟨rfl, hO4⟩; have hD4 := hD3.trans hO4; obtain ⟨e0, e1, e2, e3, e4, e5, -⟩ := HF.out w4 hD4; simp only at e0 e1 e2 e3 e4 e5))
  all_goals first
    | (exfalso; omega)
    | (go_ret2
       exact ⟨by simp, HO.out.trans hD4⟩)

set_option maxRecDepth 100000 in
set_option maxHeartbeats 8000000 in
theorem rline_5x (sz ad dt tg : Nat) (h1 : sz < 4294967296) (h2 : ad < 4294967296) (h3 : dt < 4294967296) (h4 : tg < 4294967296) (x : In) (hx : x = ⟨5, sz, ad, true, dt, tg, Cf.zero⟩) (hok : x.ok = true) (w : World) :
    Calls Tryz.prog 26 #[x.agg] w fun e w' => e = .returned (.tuple #[str ([98, 114, 97, 110, 99, 104] ++ 32 :: numL 16 dt ++ 32 :: numL 10 tg), .int .i64 0]) ∧ Only [] w w' := by
  have HI := Lib.hid (rinstr_any x)
  rw [hok] at HI
  have HX := Lib.hid hx
  have HN := Lib.hid (Blk.new w 33 x.cs)
  have HR := Lib.hid HN.out.rng
  have NS := Lib.hid (rnumber_10 sz (by omega))
  have NA := Lib.hid (rnumber_16 ad (by omega))
  have ND := Lib.hid (rnumber_16 dt (by omega))
  have NT := Lib.hid (rnumber_10 tg (by omega))
  have NI := Lib.hid (rnumber_10 dt (by omega))
  have lS : (numL 10 sz).length ≤ 16 := rnum_len 10 (by omega) 15 sz (by omega)
  have lA : (numL 16 ad).length ≤ 16 := rnum_len 16 (by omega) 15 ad (by omega)
  have lD : (numL 16 dt).length ≤ 16 := rnum_len 16 (by omega) 15 dt (by omega)
  have lT : (numL 10 tg).length ≤ 16 := rnum_len 10 (by omega) 15 tg (by omega)
  have lI : (numL 10 dt).length ≤ 16 := rnum_len 10 (by omega) 15 dt (by omega)
  have wa : IntKind.i64.wrap (ad : Int) = (ad : Int) := IntWalk.i64_in _ (by omega)
  have wd : IntKind.i64.wrap (dt : Int) = (dt : Int) := IntWalk.i64_in _ (by omega)
  generalize numL 10 sz = S at *
  generalize numL 16 ad = A at *
  generalize numL 16 dt = D at *
  generalize numL 10 tg = T at *
  generalize numL 10 dt = I at *



  clear h1 h2 h3 h4 hok hx
  go_enter Tryz.func26, Tryz.ntmps26
  go_upto_region 3 with (first
    | (refine wpList_ld 33 x w.heap.size 0 _ rfl (.inl rfl) rfl rfl HR.out ?_)
    | (go_at_call 27; refine (HI.out _).mono ?_; rintro e w1 ⟨rfl, hO1⟩))
  have hB1 := hO1.blk HN.out (by simp)
  have HO := Lib.hid (((Only.refl [] w).alloc (.cells x.cs 33)).trans hO1)
  rw [HX.out] at hB1
  have HB := Lib.hid hB1
  have HF : Hid (∀ W, Only [] w1 W → InC W w.heap.size ⟨5, sz, ad, true, dt, tg, Cf.zero⟩) := Lib.hid (fun W h => Blk.in_ (h.blk HB.out (by simp)))
  clear HN HR HI hO1 hB1
  refine wp_region_D (Only [] w1) (by kernel_rfl) (by kernel_rfl) ((Only.refl _ _).drew) ?_
  repeat (
    refine wpT_step ?_ (stD rfl (fun w' hD => ?_)) ?_
    rotate_left
    · obtain ⟨c0, c1, c2, -⟩ := HF.out w' hD
      simp only at c0 c1 c2
      go_simp
      first
        | (rw [if_neg (by omega)]; refine ⟨?_, hD⟩; rfl)
        | (refine ⟨?_, hD⟩; rfl)
        | (change Calls _ _ _ _ _; (with_reducible refine (NS.out w').mono ?_); rintro e w'' ⟨rfl, h⟩; refine ⟨?_, hD.trans h⟩; rfl)
        | (change Calls _ _ _ _ _; (with_reducible refine (NA.out w').mono ?_); rintro e w'' ⟨rfl, h⟩; refine ⟨?_, hD.trans h⟩; rfl)
    simp only [Act.put, List.setIfInBounds_toArray, List.set_cons_succ, List.set_cons_zero, Nat.zero_add, Nat.reduceAdd])
  refine wpT_nil ?_
  intro w2 hD2
  obtain ⟨c0, c1, c2, c3, c4, c5, -⟩ := HF.out w2 hD2
  simp only at c0 c1 c2 c3 c4 c5
  go_wp2_with (first
    | (go_at_call 48; change Calls _ _ _ _ _; (with_reducible refine (ND.out _).mono ?_); rintro e w3 ⟨rfl, hO3⟩; have hD3 := hD2.trans hO3; obtain ⟨d0, d1, d2, d3, d4, d5, -⟩ := HF.out w3 hD3; simp only at d0 d1 d2 d3 d4 d5)
    | (go_at_call 48; change Calls _ _ _ _ _; (with_reducible refine (NT.out _).mono ?_); rintro e w4 ⟨rfl, hO4⟩; have hD4 := hD3.trans hO4; obtain ⟨e0, e1, e2, e3, e4, e5, -⟩ := HF.out w4 hD4; simp only at e0 e1 e2 e3 e4 e5))
  all_goals first
    | (exfalso; omega)
    | (go_ret2
       exact ⟨by simp, HO.out.trans hD4⟩)

set_option maxRecDepth 100000 in
set_option maxHeartbeats 8000000 in
theorem rline_6 (sz ad dt tg : Nat) (h1 : sz < 4294967296) (h2 : ad < 4294967296) (h3 : dt < 4294967296) (h4 : tg < 4294967296) (x : In) (hx : x = ⟨6, sz, ad, false, dt, tg, Cf.zero⟩) (hok : x.ok = true) (w : World) :
    Calls Tryz.prog 26 #[x.agg] w fun e w' => e = .returned (.tuple #[str ([106, 117, 109, 112] ++ 32 :: numL 10 tg), .int .i64 0]) ∧ Only [] w w' := by
  have HI := Lib.hid (rinstr_any x)
  rw [hok] at HI
  have HX := Lib.hid hx
  have HN := Lib.hid (Blk.new w 33 x.cs)
  have HR := Lib.hid HN.out.rng
  have NS := Lib.hid (rnumber_10 sz (by omega))
  have NA := Lib.hid (rnumber_16 ad (by omega))
  have ND := Lib.hid (rnumber_16 dt (by omega))
  have NT := Lib.hid (rnumber_10 tg (by omega))
  have NI := Lib.hid (rnumber_10 dt (by omega))
  have lS : (numL 10 sz).length ≤ 16 := rnum_len 10 (by omega) 15 sz (by omega)
  have lA : (numL 16 ad).length ≤ 16 := rnum_len 16 (by omega) 15 ad (by omega)
  have lD : (numL 16 dt).length ≤ 16 := rnum_len 16 (by omega) 15 dt (by omega)
  have lT : (numL 10 tg).length ≤ 16 := rnum_len 10 (by omega) 15 tg (by omega)
  have lI : (numL 10 dt).length ≤ 16 := rnum_len 10 (by omega) 15 dt (by omega)
  have wa : IntKind.i64.wrap (ad : Int) = (ad : Int) := IntWalk.i64_in _ (by omega)
  have wd : IntKind.i64.wrap (dt : Int) = (dt : Int) := IntWalk.i64_in _ (by omega)
  generalize numL 10 sz = S at *
  generalize numL 16 ad = A at *
  generalize numL 16 dt = D at *
  generalize numL 10 tg = T at *
  generalize numL 10 dt = I at *



  clear h1 h2 h3 h4 hok hx
  go_enter Tryz.func26, Tryz.ntmps26
  go_upto_region 3 with (first
    | (refine wpList_ld 33 x w.heap.size 0 _ rfl (.inl rfl) rfl rfl HR.out ?_)
    | (go_at_call 27; refine (HI.out _).mono ?_; rintro e w1 ⟨rfl, hO1⟩))
  have hB1 := hO1.blk HN.out (by simp)
  have HO := Lib.hid (((Only.refl [] w).alloc (.cells x.cs 33)).trans hO1)
  rw [HX.out] at hB1
  have HB := Lib.hid hB1
  have HF : Hid (∀ W, Only [] w1 W → InC W w.heap.size ⟨6, sz, ad, false, dt, tg, Cf.zero⟩) := Lib.hid (fun W h => Blk.in_ (h.blk HB.out (by simp)))
  clear HN HR HI hO1 hB1
  refine wp_region_D (Only [] w1) (by kernel_rfl) (by kernel_rfl) ((Only.refl _ _).drew) ?_
  repeat (
    refine wpT_step ?_ (stD rfl (fun w' hD => ?_)) ?_
    rotate_left
    · obtain ⟨c0, c1, c2, -⟩ := HF.out w' hD
      simp only at c0 c1 c2
      go_simp
      first
        | (rw [if_neg (by omega)]; refine ⟨?_, hD⟩; rfl)
        | (refine ⟨?_, hD⟩; rfl)
        | (change Calls _ _ _ _ _; (with_reducible refine (NS.out w').mono ?_); rintro e w'' ⟨rfl, h⟩; refine ⟨?_, hD.trans h⟩; rfl)
        | (change Calls _ _ _ _ _; (with_reducible refine (NA.out w').mono ?_); rintro e w'' ⟨rfl, h⟩; refine ⟨?_, hD.trans h⟩; rfl)
    simp only [Act.put, List.setIfInBounds_toArray, List.set_cons_succ, List.set_cons_zero, Nat.zero_add, Nat.reduceAdd])
  refine wpT_nil ?_
  intro w2 hD2
  obtain ⟨c0, c1, c2, c3, c4, c5, -⟩ := HF.out w2 hD2
  simp only at c0 c1 c2 c3 c4 c5
  go_wp2_with (first
    | (go_at_call 48; change Calls _ _ _ _ _; (with_reducible refine (ND.out _).mono ?_); rintro e w3 ⟨rfl, hO3⟩; have hD3 := hD2.trans hO3; obtain ⟨d0, d1, d2, d3, d4, d5, -⟩ := HF.out w3 hD3; simp only at d0 d1 d2 d3 d4 d5)
    | (go_at_call 48; change Calls _ _ _ _ _; (with_reducible refine (NT.out _).mono ?_); rintro e w4 ⟨rfl, hO4⟩; have hD4 := hD3.trans hO4; obtain ⟨e0, e1, e2, e3, e4, e5, -⟩ := HF.out w4 hD4; simp only at e0 e1 e2 e3 e4 e5))
  all_goals first
    | (exfalso; omega)
    | (go_ret2
       exact ⟨by simp, HO.out.trans hD4⟩)

set_option maxRecDepth 100000 in
set_option maxHeartbeats 8000000 in
theorem rline_6x (sz ad dt tg : Nat) (h1 : sz < 4294967296) (h2 : ad < 4294967296) (h3 : dt < 4294967296) (h4 : tg < 4294967296) (x : In) (hx : x = ⟨6, sz, ad, true, dt, tg, Cf.zero⟩) (hok : x.ok = true) (w : World) :
    Calls Tryz.prog 26 #[x.agg] w fun e w' => e = .returned (.tuple #[str ([106, 117, 109, 112] ++ 32 :: numL 10 tg), .int .i64 0]) ∧ Only [] w w' := by
  have HI := Lib.hid (rinstr_any x)
  rw [hok] at HI
  have HX := Lib.hid hx
  have HN := Lib.hid (Blk.new w 33 x.cs)
  have HR := Lib.hid HN.out.rng
  have NS := Lib.hid (rnumber_10 sz (by omega))
  have NA := Lib.hid (rnumber_16 ad (by omega))
  have ND := Lib.hid (rnumber_16 dt (by omega))
  have NT := Lib.hid (rnumber_10 tg (by omega))
  have NI := Lib.hid (rnumber_10 dt (by omega))
  have lS : (numL 10 sz).length ≤ 16 := rnum_len 10 (by omega) 15 sz (by omega)
  have lA : (numL 16 ad).length ≤ 16 := rnum_len 16 (by omega) 15 ad (by omega)
  have lD : (numL 16 dt).length ≤ 16 := rnum_len 16 (by omega) 15 dt (by omega)
  have lT : (numL 10 tg).length ≤ 16 := rnum_len 10 (by omega) 15 tg (by omega)
  have lI : (numL 10 dt).length ≤ 16 := rnum_len 10 (by omega) 15 dt (by omega)
  have wa : IntKind.i64.wrap (ad : Int) = (ad : Int) := IntWalk.i64_in _ (by omega)
  have wd : IntKind.i64.wrap (dt : Int) = (dt : Int) := IntWalk.i64_in _ (by omega)
  generalize numL 10 sz = S at *
  generalize numL 16 ad = A at *
  generalize numL 16 dt = D at *
  generalize numL 10 tg = T at *
  generalize numL 10 dt = I at *



  clear h1 h2 h3 h4 hok hx
  go_enter Tryz.func26, Tryz.ntmps26
  go_upto_region 3 with (first
    | (refine wpList_ld 33 x w.heap.size 0 _ rfl (.inl rfl) rfl rfl HR.out ?_)
    | (go_at_call 27; refine (HI.out _).mono ?_; rintro e w1 ⟨rfl, hO1⟩))
  have hB1 := hO1.blk HN.out (by simp)
  have HO := Lib.hid (((Only.refl [] w).alloc (.cells x.cs 33)).trans hO1)
  rw [HX.out] at hB1
  have HB := Lib.hid hB1
  have HF : Hid (∀ W, Only [] w1 W → InC W w.heap.size ⟨6, sz, ad, true, dt, tg, Cf.zero⟩) := Lib.hid (fun W h => Blk.in_ (h.blk HB.out (by simp)))
  clear HN HR HI hO1 hB1
  refine wp_region_D (Only [] w1) (by kernel_rfl) (by kernel_rfl) ((Only.refl _ _).drew) ?_
  repeat (
    refine wpT_step ?_ (stD rfl (fun w' hD => ?_)) ?_
    rotate_left
    · obtain ⟨c0, c1, c2, -⟩ := HF.out w' hD
      simp only at c0 c1 c2
      go_simp
      first
        | (rw [if_neg (by omega)]; refine ⟨?_, hD⟩; rfl)
        | (refine ⟨?_, hD⟩; rfl)
        | (change Calls _ _ _ _ _; (with_reducible refine (NS.out w').mono ?_); rintro e w'' ⟨rfl, h⟩; refine ⟨?_, hD.trans h⟩; rfl)
        | (change Calls _ _ _ _ _; (with_reducible refine (NA.out w').mono ?_); rintro e w'' ⟨rfl, h⟩; refine ⟨?_, hD.trans h⟩; rfl)
    simp only [Act.put, List.setIfInBounds_toArray, List.set_cons_succ, List.set_cons_zero, Nat.zero_add, Nat.reduceAdd])
  refine wpT_nil ?_
  intro w2 hD2
  obtain ⟨c0, c1, c2, c3, c4, c5, -⟩ := HF.out w2 hD2
  simp only at c0 c1 c2 c3 c4 c5
  go_wp2_with (first
    | (go_at_call 48; change Calls _ _ _ _ _; (with_reducible refine (ND.out _).mono ?_); rintro e w3 ⟨rfl, hO3⟩; have hD3 := hD2.trans hO3; obtain ⟨d0, d1, d2, d3, d4, d5, -⟩ := HF.out w3 hD3; simp only at d0 d1 d2 d3 d4 d5)
    | (go_at_call 48; change Calls _ _ _ _ _; (with_reducible refine (NT.out _).mono ?_); rintro e w4 ⟨rfl, hO4⟩; have hD4 := hD3.trans hO4; obtain ⟨e0, e1, e2, e3, e4, e5, -⟩ := HF.out w4 hD4; simp only at e0 e1 e2 e3 e4 e5))
  all_goals first
    | (exfalso; omega)
    | (go_ret2
       exact ⟨by simp, HO.out.trans hD4⟩)

set_option maxRecDepth 100000 in
set_option maxHeartbeats 8000000 in
theorem rline_7 (sz ad dt tg : Nat) (h1 : sz < 4294967296) (h2 : ad < 4294967296) (h3 : dt < 4294967296) (h4 : tg < 4294967296) (x : In) (hx : x = ⟨7, sz, ad, false, dt, tg, Cf.zero⟩) (hok : x.ok = true) (w : World) :
    Calls Tryz.prog 26 #[x.agg] w fun e w' => e = .returned (.tuple #[str ([105, 100, 108, 101, 32] ++ numL 10 dt), .int .i64 0]) ∧ Only [] w w' := by
  have HI := Lib.hid (rinstr_any x)
  rw [hok] at HI
  have HX := Lib.hid hx
  have HN := Lib.hid (Blk.new w 33 x.cs)
  have HR := Lib.hid HN.out.rng
  have NS := Lib.hid (rnumber_10 sz (by omega))
  have NA := Lib.hid (rnumber_16 ad (by omega))
  have ND := Lib.hid (rnumber_16 dt (by omega))
  have NT := Lib.hid (rnumber_10 tg (by omega))
  have NI := Lib.hid (rnumber_10 dt (by omega))
  have lS : (numL 10 sz).length ≤ 16 := rnum_len 10 (by omega) 15 sz (by omega)
  have lA : (numL 16 ad).length ≤ 16 := rnum_len 16 (by omega) 15 ad (by omega)
  have lD : (numL 16 dt).length ≤ 16 := rnum_len 16 (by omega) 15 dt (by omega)
  have lT : (numL 10 tg).length ≤ 16 := rnum_len 10 (by omega) 15 tg (by omega)
  have lI : (numL 10 dt).length ≤ 16 := rnum_len 10 (by omega) 15 dt (by omega)
  have wa : IntKind.i64.wrap (ad : Int) = (ad : Int) := IntWalk.i64_in _ (by omega)
  have wd : IntKind.i64.wrap (dt : Int) = (dt : Int) := IntWalk.i64_in _ (by omega)
  generalize numL 10 sz = S at *
  generalize numL 16 ad = A at *
  generalize numL 16 dt = D at *
  generalize numL 10 tg = T at *
  generalize numL 10 dt = I at *



  clear h1 h2 h3 h4 hok hx
  go_enter Tryz.func26, Tryz.ntmps26
  go_upto_region 3 with (first
    | (refine wpList_ld 33 x w.heap.size 0 _ rfl (.inl rfl) rfl rfl HR.out ?_)
    | (go_at_call 27; refine (HI.out _).mono ?_; rintro e w1 ⟨rfl, hO1⟩))
  have hB1 := hO1.blk HN.out (by simp)
  have HO := Lib.hid (((Only.refl [] w).alloc (.cells x.cs 33)).trans hO1)
  rw [HX.out] at hB1
  have HB := Lib.hid hB1
  have HF : Hid (∀ W, Only [] w1 W → InC W w.heap.size ⟨7, sz, ad, false, dt, tg, Cf.zero⟩) := Lib.hid (fun W h => Blk.in_ (h.blk HB.out (by simp)))
  clear HN HR HI hO1 hB1
  refine wp_region_D (Only [] w1) (by kernel_rfl) (by kernel_rfl) ((Only.refl _ _).drew) ?_
  repeat (
    refine wpT_step ?_ (stD rfl (fun w' hD => ?_)) ?_
    rotate_left
    · obtain ⟨c0, c1, c2, -⟩ := HF.out w' hD
      simp only at c0 c1 c2
      go_simp
      first
        | (rw [if_neg (by omega)]; refine ⟨?_, hD⟩; rfl)
        | (refine ⟨?_, hD⟩; rfl)
        | (change Calls _ _ _ _ _; (with_reducible refine (NS.out w').mono ?_); rintro e w'' ⟨rfl, h⟩; refine ⟨?_, hD.trans h⟩; rfl)
        | (change Calls _ _ _ _ _; (with_reducible refine (NA.out w').mono ?_); rintro e w'' ⟨rfl, h⟩; refine ⟨?_, hD.trans h⟩; rfl)
    simp only [Act.put, List.setIfInBounds_toArray, List.set_cons_succ, List.set_cons_zero, Nat.zero_add, Nat.reduceAdd])
  refine wpT_nil ?_
  intro w2 hD2
  obtain ⟨c0, c1, c2, c3, c4, c5, -⟩ := HF.out w2 hD2
  simp only at c0 c1 c2 c3 c4 c5
  go_wp2_with (first
    | (go_at_call 48; change Calls _ _ _ _ _; (with_reducible refine (ND.out _).mono ?_); rintro e w3 ⟨rfl, hO3⟩; have hD3 := hD2.trans hO3; obtain ⟨d0, d1, d2, d3, d4, d5, -⟩ := HF.out w3 hD3; simp only at d0 d1 d2 d3 d4 d5)
    | (go_at_call 48; change Calls _ _ _ _ _; (with_reducible refine (NT.out _).mono ?_); rintro e w4 ⟨rfl, hO4⟩; have hD4 := hD3.trans hO4; obtain ⟨e0, e1, e2, e3, e4, e5, -⟩ := HF.out w4 hD4; simp only at e0 e1 e2 e3 e4 e5)
    | (go_at_call 48; change Calls _ _ _ _ _; (with_reducible refine (NI.out _).mono ?_); rintro e w5 ⟨rfl, hO5⟩))
  all_goals first
    | (exfalso; omega)
    | (go_ret2
       exact ⟨by simp, HO.out.trans (hD4.trans hO5)⟩)

set_option maxRecDepth 100000 in
set_option maxHeartbeats 8000000 in
theorem rline_7x (sz ad dt tg : Nat) (h1 : sz < 4294967296) (h2 : ad < 4294967296) (h3 : dt < 4294967296) (h4 : tg < 4294967296) (x : In) (hx : x = ⟨7, sz, ad, true, dt, tg, Cf.zero⟩) (hok : x.ok = true) (w : World) :
    Calls Tryz.prog 26 #[x.agg] w fun e w' => e = .returned (.tuple #[str ([105, 100, 108, 101, 32] ++ numL 10 dt), .int .i64 0]) ∧ Only [] w w' := by
  have HI := Lib.hid (rinstr_any x)
  rw [hok] at HI
  have HX := Lib.hid hx
  have HN := Lib.hid (Blk.new w 33 x.cs)
  have HR := Lib.hid HN.out.rng
  have NS := Lib.hid (rnumber_10 sz (by omega))
  have NA := Lib.hid (rnumber_16 ad (by omega))
  have ND := Lib.hid (rnumber_16 dt (by omega))
  have NT := Lib.hid (rnumber_10 tg (by omega))
  have NI := Lib.hid (rnumber_10 dt (by omega))
  have lS : (numL 10 sz).length ≤ 16 := rnum_len 10 (by omega) 15 sz (by omega)
  have lA : (numL 16 ad).length ≤ 16 := rnum_len 16 (by omega) 15 ad (by omega)
  have lD : (numL 16 dt).length ≤ 16 := rnum_len 16 (by omega) 15 dt (by omega)
  have lT : (numL 10 tg).length ≤ 16 := rnum_len 10 (by omega) 15 tg (by omega)
  have lI : (numL 10 dt).length ≤ 16 := rnum_len 10 (by omega) 15 dt (by omega)
  have wa : IntKind.i64.wrap (ad : Int) = (ad : Int) := IntWalk.i64_in _ (by omega)
  have wd : IntKind.i64.wrap (dt : Int) = (dt : Int) := IntWalk.i64_in _ (by omega)
  generalize numL 10 sz = S at *
  generalize numL 16 ad = A at *
  generalize numL 16 dt = D at *
  generalize numL 10 tg = T at *
  generalize numL 10 dt = I at *



  clear h1 h2 h3 h4 hok hx
  go_enter Tryz.func26, Tryz.ntmps26
  go_upto_region 3 with (first
    | (refine wpList_ld 33 x w.heap.size 0 _ rfl (.inl rfl) rfl rfl HR.out ?_)
    | (go_at_call 27; refine (HI.out _).mono ?_; rintro e w1 ⟨rfl, hO1⟩))
  have hB1 := hO1.blk HN.out (by simp)
  have HO := Lib.hid (((Only.refl [] w).alloc (.cells x.cs 33)).trans hO1)
  rw [HX.out] at hB1
  have HB := Lib.hid hB1
  have HF : Hid (∀ W, Only [] w1 W → InC W w.heap.size ⟨7, sz, ad, true, dt, tg, Cf.zero⟩) := Lib.hid (fun W h => Blk.in_ (h.blk HB.out (by simp)))
  clear HN HR HI hO1 hB1
  refine wp_region_D (Only [] w1) (by kernel_rfl) (by kernel_rfl) ((Only.refl _ _).drew) ?_
  repeat (
    refine wpT_step ?_ (stD rfl (fun w' hD => ?_)) ?_
    rotate_left
    · obtain ⟨c0, c1, c2, -⟩ := HF.out w' hD
      simp only at c0 c1 c2
      go_simp
      first
        | (rw [if_neg (by omega)]; refine ⟨?_, hD⟩; rfl)
        | (refine ⟨?_, hD⟩; rfl)
        | (change Calls _ _ _ _ _; (with_reducible refine (NS.out w').mono ?_); rintro e w'' ⟨rfl, h⟩; refine ⟨?_, hD.trans h⟩; rfl)
        | (change Calls _ _ _ _ _; (with_reducible refine (NA.out w').mono ?_); rintro e w'' ⟨rfl, h⟩; refine ⟨?_, hD.trans h⟩; rfl)
    simp only [Act.put, List.setIfInBounds_toArray, List.set_cons_succ, List.set_cons_zero, Nat.zero_add, Nat.reduceAdd])
  refine wpT_nil ?_
  intro w2 hD2
  obtain ⟨c0, c1, c2, c3, c4, c5, -⟩ := HF.out w2 hD2
  simp only at c0 c1 c2 c3 c4 c5
  go_wp2_with (first
    | (go_at_call 48; change Calls _ _ _ _ _; (with_reducible refine (ND.out _).mono ?_); rintro e w3 ⟨rfl, hO3⟩; have hD3 := hD2.trans hO3; obtain ⟨d0, d1, d2, d3, d4, d5, -⟩ := HF.out w3 hD3; simp only at d0 d1 d2 d3 d4 d5)
    | (go_at_call 48; change Calls _ _ _ _ _; (with_reducible refine (NT.out _).mono ?_); rintro e w4 ⟨rfl, hO4⟩; have hD4 := hD3.trans hO4; obtain ⟨e0, e1, e2, e3, e4, e5, -⟩ := HF.out w4 hD4; simp only at e0 e1 e2 e3 e4 e5)
    | (go_at_call 48; change Calls _ _ _ _ _; (with_reducible refine (NI.out _).mono ?_); rintro e w5 ⟨rfl, hO5⟩))
  all_goals first
    | (exfalso; omega)
    | (go_ret2
       exact ⟨by simp, HO.out.trans (hD4.trans hO5)⟩)

set_option maxRecDepth 100000 in
set_option maxHeartbeats 8000000 in
theorem rline_8 (sz ad dt tg : Nat) (h1 : sz < 4294967296) (h2 : ad < 4294967296) (h3 : dt < 4294967296) (h4 : tg < 4294967296) (x : In) (hx : x = ⟨8, sz, ad, false, dt, tg, Cf.zero⟩) (hok : x.ok = true) (w : World) :
    Calls Tryz.prog 26 #[x.agg] w fun e w' => e = .returned (.tuple #[str ([109, 97, 115, 107] ++ 32 :: numL 16 dt), .int .i64 0]) ∧ Only [] w w' := by
  have HI := Lib.hid (rinstr_any x)
  rw [hok] at HI
  have HX := Lib.hid hx
  have HN := Lib.hid (Blk.new w 33 x.cs)
  have HR := Lib.hid HN.out.rng
  have NS := Lib.hid (rnumber_10 sz (by omega))
  have NA := Lib.hid (rnumber_16 ad (by omega))
  have ND := Lib.hid (rnumber_16 dt (by omega))
  have NT := Lib.hid (rnumber_10 tg (by omega))
  have NI := Lib.hid (rnumber_10 dt (by omega))
  have lS : (numL 10 sz).length ≤ 16 := rnum_len 10 (by omega) 15 sz (by omega)
  have lA : (numL 16 ad).length ≤ 16 := rnum_len 16 (by omega) 15 ad (by omega)
  have lD : (numL 16 dt).length ≤ 16 := rnum_len 16 (by omega) 15 dt (by omega)
  have lT : (numL 10 tg).length ≤ 16 := rnum_len 10 (by omega) 15 tg (by omega)
  have lI : (numL 10 dt).length ≤ 16 := rnum_len 10 (by omega) 15 dt (by omega)
  have wa : IntKind.i64.wrap (ad : Int) = (ad : Int) := IntWalk.i64_in _ (by omega)
  have wd : IntKind.i64.wrap (dt : Int) = (dt : Int) := IntWalk.i64_in _ (by omega)
  generalize numL 10 sz = S at *
  generalize numL 16 ad = A at *
  generalize numL 16 dt = D at *
  generalize numL 10 tg = T at *
  generalize numL 10 dt = I at *



  clear h1 h2 h3 h4 hok hx
  go_enter Tryz.func26, Tryz.ntmps26
  go_upto_region 3 with (first
    | (refine wpList_ld 33 x w.heap.size 0 _ rfl (.inl rfl) rfl rfl HR.out ?_)
    | (go_at_call 27; refine (HI.out _).mono ?_; rintro e w1 ⟨rfl, hO1⟩))
  have hB1 := hO1.blk HN.out (by simp)
  have HO := Lib.hid (((Only.refl [] w).alloc (.cells x.cs 33)).trans hO1)
  rw [HX.out] at hB1
  have HB := Lib.hid hB1
  have HF : Hid (∀ W, Only [] w1 W → InC W w.heap.size ⟨8, sz, ad, false, dt, tg, Cf.zero⟩) := Lib.hid (fun W h => Blk.in_ (h.blk HB.out (by simp)))
  clear HN HR HI hO1 hB1
  refine wp_region_D (Only [] w1) (by kernel_rfl) (by kernel_rfl) ((Only.refl _ _).drew) ?_
  repeat (
    refine wpT_step ?_ (stD rfl (fun w' hD => ?_)) ?_
    rotate_left
    · obtain ⟨c0, c1, c2, -⟩ := HF.out w' hD
      simp only at c0 c1 c2
      go_simp
      first
        | (rw [if_neg (by omega)]; refine ⟨?_, hD⟩; rfl)
        | (refine ⟨?_, hD⟩; rfl)
        | (change Calls _ _ _ _ _; (with_reducible refine (NS.out w').mono ?_); rintro e w'' ⟨rfl, h⟩; refine ⟨?_, hD.trans h⟩; rfl)
        | (change Calls _ _ _ _ _; (with_reducible refine (NA.out w').mono ?_); rintro e w'' ⟨rfl, h⟩; refine ⟨?_, hD.trans h⟩; rfl)
    simp only [Act.put, List.setIfInBounds_toArray, List.set_cons_succ, List.set_cons_zero, Nat.zero_add, Nat.reduceAdd])
  refine wpT_nil ?_
  intro w2 hD2
  obtain ⟨c0, c1, c2, c3, c4, c5, -⟩ := HF.out w2 hD2
  simp only at c0 c1 c2 c3 c4 c5
  go_wp2_with (first
    | (go_at_call 48; change Calls _ _ _ _ _; (with_reducible refine (ND.out _).mono ?_); rintro e w3 ⟨rfl, hO3⟩; have hD3 := hD2.trans hO3; obtain ⟨d0, d1, d2, d3, d4, d5, -⟩ := HF.out w3 hD3; simp only at d0 d1 d2 d3 d4 d5)
    | (go_at_call 48; change Calls _ _ _ _ _; (with_reducible refine (NT.out _).mono ?_); rintro e w4 ⟨rfl, hO4⟩; have hD4 := hD3.trans hO4; obtain ⟨e0, e1, e2, e3, e4, e5, -⟩ := HF.out w4 hD4; simp only at e0 e1 e2 e3 e4 e5))
  all_goals first
    | (exfalso; omega)
    | (go_ret2
       exact ⟨by simp, HO.out.trans hD4⟩)

set_option maxRecDepth 100000 in
set_option maxHeartbeats 8000000 in
theorem rline_8x (sz ad dt tg : Nat) (h1 : sz < 4294967296) (h2 : ad < 4294967296) (h3 : dt < 4294967296) (h4 : tg < 4294967296) (x : In) (hx : x = ⟨8, sz, ad, true, dt, tg, Cf.zero⟩) (hok : x.ok = true) (w : World) :
    Calls Tryz.prog 26 #[x.agg] w fun e w' => e = .returned (.tuple #[str ([109, 97, 115, 107] ++ 32 :: numL 16 dt), .int .i64 0]) ∧ Only [] w w' := by
  have HI := Lib.hid (rinstr_any x)
  rw [hok] at HI
  have HX := Lib.hid hx
  have HN := Lib.hid (Blk.new w 33 x.cs)
  have HR := Lib.hid HN.out.rng
  have NS := Lib.hid (rnumber_10 sz (by omega))
  have NA := Lib.hid (rnumber_16 ad (by omega))
  have ND := Lib.hid (rnumber_16 dt (by omega))
  have NT := Lib.hid (rnumber_10 tg (by omega))
  have NI := Lib.hid (rnumber_10 dt (by omega))
  have lS : (numL 10 sz).length ≤ 16 := rnum_len 10 (by omega) 15 sz (by omega)
  have lA : (numL 16 ad).length ≤ 16 := rnum_len 16 (by omega) 15 ad (by omega)
  have lD : (numL 16 dt).length ≤ 16 := rnum_len 16 (by omega) 15 dt (by omega)
  have lT : (numL 10 tg).length ≤ 16 := rnum_len 10 (by omega) 15 tg (by omega)
  have lI : (numL 10 dt).length ≤ 16 := rnum_len 10 (by omega) 15 dt (by omega)
  have wa : IntKind.i64.wrap (ad : Int) = (ad : Int) := IntWalk.i64_in _ (by omega)
  have wd : IntKind.i64.wrap (dt : Int) = (dt : Int) := IntWalk.i64_in _ (by omega)
  generalize numL 10 sz = S at *
  generalize numL 16 ad = A at *
  generalize numL 16 dt = D at *
  generalize numL 10 tg = T at *
  generalize numL 10 dt = I at *



  clear h1 h2 h3 h4 hok hx
  go_enter Tryz.func26, Tryz.ntmps26
  go_upto_region 3 with (first
    | (refine wpList_ld 33 x w.heap.size 0 _ rfl (.inl rfl) rfl rfl HR.out ?_)
    | (go_at_call 27; refine (HI.out _).mono ?_; rintro e w1 ⟨rfl, hO1⟩))
  have hB1 := hO1.blk HN.out (by simp)
  have HO := Lib.hid (((Only.refl [] w).alloc (.cells x.cs 33)).trans hO1)
  rw [HX.out] at hB1
  have HB := Lib.hid hB1
  have HF : Hid (∀ W, Only [] w1 W → InC W w.heap.size ⟨8, sz, ad, true, dt, tg, Cf.zero⟩) := Lib.hid (fun W h => Blk.in_ (h.blk HB.out (by simp)))
  clear HN HR HI hO1 hB1
  refine wp_region_D (Only [] w1) (by kernel_rfl) (by kernel_rfl) ((Only.refl _ _).drew) ?_
  repeat (
    refine wpT_step ?_ (stD rfl (fun w' hD => ?_)) ?_
    rotate_left
    · obtain ⟨c0, c1, c2, -⟩ := HF.out w' hD
      simp only at c0 c1 c2
      go_simp
      first
        | (rw [if_neg (by omega)]; refine ⟨?_, hD⟩; rfl)
        | (refine ⟨?_, hD⟩; rfl)
        | (change Calls _ _ _ _ _; (with_reducible refine (NS.out w').mono ?_); rintro e w'' ⟨rfl, h⟩; refine ⟨?_, hD.trans h⟩; rfl)
        | (change Calls _ _ _ _ _; (with_reducible refine (NA.out w').mono ?_); rintro e w'' ⟨rfl, h⟩; refine ⟨?_, hD.trans h⟩; rfl)
    simp only [Act.put, List.setIfInBounds_toArray, List.set_cons_succ, List.set_cons_zero, Nat.zero_add, Nat.reduceAdd])
  refine wpT_nil ?_
  intro w2 hD2
  obtain ⟨c0, c1, c2, c3, c4, c5, -⟩ := HF.out w2 hD2
  simp only at c0 c1 c2 c3 c4 c5
  go_wp2_with (first
    | (go_at_call 48; change Calls _ _ _ _ _; (with_reducible refine (ND.out _).mono ?_); rintro e w3 ⟨rfl, hO3⟩; have hD3 := hD2.trans hO3; obtain ⟨d0, d1, d2, d3, d4, d5, -⟩ := HF.out w3 hD3; simp only at d0 d1 d2 d3 d4 d5)
    | (go_at_call 48; change Calls _ _ _ _ _; (with_reducible refine (NT.out _).mono ?_); rintro e w4 ⟨rfl, hO4⟩; have hD4 := hD3.trans hO4; obtain ⟨e0, e1, e2, e3, e4, e5, -⟩ := HF.out w4 hD4; simp only at e0 e1 e2 e3 e4 e5))
  all_goals first
    | (exfalso; omega)
    | (go_ret2
       exact ⟨by simp, HO.out.trans hD4⟩)

set_option maxRecDepth 100000 in
set_option maxHeartbeats 8000000 in
theorem rline_9 (sz ad dt tg : Nat) (cf : Cf) (hcf : cf.Fits) (h1 : sz < 4294967296) (h2 : ad < 4294967296) (h3 : dt < 4294967296) (h4 : tg < 4294967296) (x : In) (hx : x = ⟨9, sz, ad, false, dt, tg, cf⟩) (hok : x.ok = true) (w : World) :
    Calls Tryz.prog 26 #[x.agg] w fun e w' => e = .returned (.tuple #[str ([99, 111, 110, 102, 32] ++ cf.shown), .int .i64 0]) ∧ Only [] w w' := by
  have HI := Lib.hid (rinstr_any x)
  rw [hok] at HI
  have HX := Lib.hid hx
  have HN := Lib.hid (Blk.new w 33 x.cs)
  have HR := Lib.hid HN.out.rng
  have NS := Lib.hid (rnumber_10 sz (by omega))
  have NA := Lib.hid (rnumber_16 ad (by omega))
  have ND := Lib.hid (rnumber_16 dt (by omega))
  have NT := Lib.hid (rnumber_10 tg (by omega))
  have NI := Lib.hid (rnumber_10 dt (by omega))
  have lS : (numL 10 sz).length ≤ 16 := rnum_len 10 (by omega) 15 sz (by omega)
  have lA : (numL 16 ad).length ≤ 16 := rnum_len 16 (by omega) 15 ad (by omega)
  have lD : (numL 16 dt).length ≤ 16 := rnum_len 16 (by omega) 15 dt (by omega)
  have lT : (numL 10 tg).length ≤ 16 := rnum_len 10 (by omega) 15 tg (by omega)
  have lI : (numL 10 dt).length ≤ 16 := rnum_len 10 (by omega) 15 dt (by omega)
  have wa : IntKind.i64.wrap (ad : Int) = (ad : Int) := IntWalk.i64_in _ (by omega)
  have wd : IntKind.i64.wrap (dt : Int) = (dt : Int) := IntWalk.i64_in _ (by omega)
  generalize numL 10 sz = S at *
  generalize numL 16 ad = A at *
  generalize numL 16 dt = D at *
  generalize numL 10 tg = T at *
  generalize numL 10 dt = I at *
  have lC := shown_len hcf
  have NC := Lib.hid (rshow_any cf hcf)
  generalize cf.shown = C at *
  clear h1 h2 h3 h4 hok hx
  go_enter Tryz.func26, Tryz.ntmps26
  go_upto_region 3 with (first
    | (refine wpList_ld 33 x w.heap.size 0 _ rfl (.inl rfl) rfl rfl HR.out ?_)
    | (go_at_call 27; refine (HI.out _).mono ?_; rintro e w1 ⟨rfl, hO1⟩))
  have hB1 := hO1.blk HN.out (by simp)
  have HO := Lib.hid (((Only.refl [] w).alloc (.cells x.cs 33)).trans hO1)
  rw [HX.out] at hB1
  have HB := Lib.hid hB1
  have HF : Hid (∀ W, Only [] w1 W → InC W w.heap.size ⟨9, sz, ad, false, dt, tg, cf⟩) := Lib.hid (fun W h => Blk.in_ (h.blk HB.out (by simp)))
  clear HN HR HI hO1 hB1
  refine wp_region_D (Only [] w1) (by kernel_rfl) (by kernel_rfl) ((Only.refl _ _).drew) ?_
  repeat (
    refine wpT_step ?_ (stD rfl (fun w' hD => ?_)) ?_
    rotate_left
    · obtain ⟨c0, c1, c2, -⟩ := HF.out w' hD
      simp only at c0 c1 c2
      go_simp
      first
        | (rw [if_neg (by omega)]; refine ⟨?_, hD⟩; rfl)
        | (refine ⟨?_, hD⟩; rfl)
        | (change Calls _ _ _ _ _; (with_reducible refine (NS.out w').mono ?_); rintro e w'' ⟨rfl, h⟩; refine ⟨?_, hD.trans h⟩; rfl)
        | (change Calls _ _ _ _ _; (with_reducible refine (NA.out w').mono ?_); rintro e w'' ⟨rfl, h⟩; refine ⟨?_, hD.trans h⟩; rfl)
    simp only [Act.put, List.setIfInBounds_toArray, List.set_cons_succ, List.set_cons_zero, Nat.zero_add, Nat.reduceAdd])
  refine wpT_nil ?_
  intro w2 hD2
  obtain ⟨c0, c1, c2, c3, c4, c5, -⟩ := HF.out w2 hD2
  simp only at c0 c1 c2 c3 c4 c5
  go_wp2_with (first
    | (go_at_call 48; change Calls _ _ _ _ _; (with_reducible refine (ND.out _).mono ?_); rintro e w3 ⟨rfl, hO3⟩; have hD3 := hD2.trans hO3; obtain ⟨d0, d1, d2, d3, d4, d5, -⟩ := HF.out w3 hD3; simp only at d0 d1 d2 d3 d4 d5)
    | (go_at_call 48; change Calls _ _ _ _ _; (with_reducible refine (NT.out _).mono ?_); rintro e w4 ⟨rfl, hO4⟩; have hD4 := hD3.trans hO4; obtain ⟨e0, e1, e2, e3, e4, e5, -⟩ := HF.out w4 hD4; simp only at e0 e1 e2 e3 e4 e5)
    | (refine wpList_ldc cf w.heap.size 6 _ rfl rfl rfl (Blk.rngC (hD4.blk HB.out (by simp))) ?_)
    | (go_at_call 49; change Calls _ _ _ _ _; (with_reducible refine (NC.out _).mono ?_); rintro e w5 ⟨rfl, hO5⟩))
  all_goals first
    | (exfalso; omega)
    | (go_ret2
       exact ⟨by simp, HO.out.trans (hD4.trans hO5)⟩)

set_option maxRecDepth 100000 in
set_option maxHeartbeats 8000000 in
theorem rline_9x (sz ad dt tg : Nat) (cf : Cf) (hcf : cf.Fits) (h1 : sz < 4294967296) (h2 : ad < 4294967296) (h3 : dt < 4294967296) (h4 : tg < 4294967296) (x : In) (hx : x = ⟨9, sz, ad, true, dt, tg, cf⟩) (hok : x.ok = true) (w : World) :
    Calls Tryz.prog 26 #[x.agg] w fun e w' => e = .returned (.tuple #[str ([99, 111, 110, 102, 32] ++ cf.shown), .int .i64 0]) ∧ Only [] w w' := by
  have HI := Lib.hid (rinstr_any x)
  rw [hok] at HI
  have HX := Lib.hid hx
  have HN := Lib.hid (Blk.new w 33 x.cs)
  have HR := Lib.hid HN.out.rng
  have NS := Lib.hid (rnumber_10 sz (by omega))
  have NA := Lib.hid (rnumber_16 ad (by omega))
  have ND := Lib.hid (rnumber_16 dt (by omega))
  have NT := Lib.hid (rnumber_10 tg (by omega))
  have NI := Lib.hid (rnumber_10 dt (by omega))
  have lS : (numL 10 sz).length ≤ 16 := rnum_len 10 (by omega) 15 sz (by omega)
  have lA : (numL 16 ad).length ≤ 16 := rnum_len 16 (by omega) 15 ad (by omega)
  have lD : (numL 16 dt).length ≤ 16 := rnum_len 16 (by omega) 15 dt (by omega)
  have lT : (numL 10 tg).length ≤ 16 := rnum_len 10 (by omega) 15 tg (by omega)
  have lI : (numL 10 dt).length ≤ 16 := rnum_len 10 (by omega) 15 dt (by omega)
  have wa : IntKind.i64.wrap (ad : Int) = (ad : Int) := IntWalk.i64_in _ (by omega)
  have wd : IntKind.i64.wrap (dt : Int) = (dt : Int) := IntWalk.i64_in _ (by omega)
  generalize numL 10 sz = S at *
  generalize numL 16 ad = A at *
  generalize numL 16 dt = D at *
  generalize numL 10 tg = T at *
  generalize numL 10 dt = I at *
  have lC := shown_len hcf
  have NC := Lib.hid (rshow_any cf hcf)
  generalize cf.shown = C at *
  clear h1 h2 h3 h4 hok hx
  go_enter Tryz.func26, Tryz.ntmps26
  go_upto_region 3 with (first
    | (refine wpList_ld 33 x w.heap.size 0 _ rfl (.inl rfl) rfl rfl HR.out ?_)
    | (go_at_call 27; refine (HI.out _).mono ?_; rintro e w1 ⟨rfl, hO1⟩))
  have hB1 := hO1.blk HN.out (by simp)
  have HO := Lib.hid (((Only.refl [] w).alloc (.cells x.cs 33)).trans hO1)
  rw [HX.out] at hB1
  have HB := Lib.hid hB1
  have HF : Hid (∀ W, Only [] w1 W → InC W w.heap.size ⟨9, sz, ad, true, dt, tg, cf⟩) := Lib.hid (fun W h => Blk.in_ (h.blk HB.out (by simp)))
  clear HN HR HI hO1 hB1
  refine wp_region_D (Only [] w1) (by kernel_rfl) (by kernel_rfl) ((Only.refl _ _).drew) ?_
  repeat (
    refine wpT_step ?_ (stD rfl (fun w' hD => ?_)) ?_
    rotate_left
    · obtain ⟨c0, c1, c2, -⟩ := HF.out w' hD
      simp only at c0 c1 c2
      go_simp
      first
        | (rw [if_neg (by omega)]; refine ⟨?_, hD⟩; rfl)
        | (refine ⟨?_, hD⟩; rfl)
        | (change Calls _ _ _ _ _; (with_reducible refine (NS.out w').mono ?_); rintro e w'' ⟨rfl, h⟩; refine ⟨?_, hD.trans h⟩; rfl)
        | (change Calls _ _ _ _ _; (with_reducible refine (NA.out w').mono ?_); rintro e w'' ⟨rfl, h⟩; refine ⟨?_, hD.trans h⟩; rfl)
    simp only [Act.put, List.setIfInBounds_toArray, List.set_cons_succ, List.set_cons_zero, Nat.zero_add, Nat.reduceAdd])
  refine wpT_nil ?_
  intro w2 hD2
  obtain ⟨c0, c1, c2, c3, c4, c5, -⟩ := HF.out w2 hD2
  simp only at c0 c1 c2 c3 c4 c5
  go_wp2_with (first
    | (go_at_call 48; change Calls _ _ _ _ _; (with_reducible refine (ND.out _).mono ?_); rintro e w3 ⟨rfl, hO3⟩; have hD3 := hD2.trans hO3; obtain ⟨d0, d1, d2, d3, d4, d5, -⟩ := HF.out w3 hD3; simp only at d0 d1 d2 d3 d4 d5)
    | (go_at_call 48; change Calls _ _ _ _ _; (with_reducible refine (NT.out _).mono ?_); rintro e w4 ⟨rfl, hO4⟩; have hD4 := hD3.trans hO4; obtain ⟨e0, e1, e2, e3, e4, e5, -⟩ := HF.out w4 hD4; simp only at e0 e1 e2 e3 e4 e5)
    | (refine wpList_ldc cf w.heap.size 6 _ rfl rfl rfl (Blk.rngC (hD4.blk HB.out (by simp))) ?_)
    | (go_at_call 49; change Calls _ _ _ _ _; (with_reducible refine (NC.out _).mono ?_); rintro e w5 ⟨rfl, hO5⟩))
  all_goals first
    | (exfalso; omega)
    | (go_ret2
       exact ⟨by simp, HO.out.trans (hD4.trans hO5)⟩)

set_option maxRecDepth 100000 in
set_option maxHeartbeats 8000000 in
theorem rline_10 (sz ad dt tg : Nat) (h1 : sz < 4294967296) (h2 : ad < 4294967296) (h3 : dt < 4294967296) (h4 : tg < 4294967296) (x : In) (hx : x = ⟨10, sz, ad, false, dt, tg, Cf.zero⟩) (hok : x.ok = true) (w : World) :
    Calls Tryz.prog 26 #[x.agg] w fun e w' => e = .returned (.tuple #[str ([104, 97, 108, 116]), .int .i64 0]) ∧ Only [] w w' := by
  have HI := Lib.hid (rinstr_any x)
  rw [hok] at HI
  have HX := Lib.hid hx
  have HN := Lib.hid (Blk.new w 33 x.cs)
  have HR := Lib.hid HN.out.rng
  have NS := Lib.hid (rnumber_10 sz (by omega))
  have NA := Lib.hid (rnumber_16 ad (by omega))
  have ND := Lib.hid (rnumber_16 dt (by omega))
  have NT := Lib.hid (rnumber_10 tg (by omega))
  have NI := Lib.hid (rnumber_10 dt (by omega))
  have lS : (numL 10 sz).length ≤ 16 := rnum_len 10 (by omega) 15 sz (by omega)
  have lA : (numL 16 ad).length ≤ 16 := rnum_len 16 (by omega) 15 ad (by omega)
  have lD : (numL 16 dt).length ≤ 16 := rnum_len 16 (by omega) 15 dt (by omega)
  have lT : (numL 10 tg).length ≤ 16 := rnum_len 10 (by omega) 15 tg (by omega)
  have lI : (numL 10 dt).length ≤ 16 := rnum_len 10 (by omega) 15 dt (by omega)
  have wa : IntKind.i64.wrap (ad : Int) = (ad : Int) := IntWalk.i64_in _ (by omega)
  have wd : IntKind.i64.wrap (dt : Int) = (dt : Int) := IntWalk.i64_in _ (by omega)
  generalize numL 10 sz = S at *
  generalize numL 16 ad = A at *
  generalize numL 16 dt = D at *
  generalize numL 10 tg = T at *
  generalize numL 10 dt = I at *



  clear h1 h2 h3 h4 hok hx
  go_enter Tryz.func26, Tryz.ntmps26
  go_upto_region 3 with (first
    | (refine wpList_ld 33 x w.heap.size 0 _ rfl (.inl rfl) rfl rfl HR.out ?_)
    | (go_at_call 27; refine (HI.out _).mono ?_; rintro e w1 ⟨rfl, hO1⟩))
  have hB1 := hO1.blk HN.out (by simp)
  have HO := Lib.hid (((Only.refl [] w).alloc (.cells x.cs 33)).trans hO1)
  rw [HX.out] at hB1
  have HB := Lib.hid hB1
  have HF : Hid (∀ W, Only [] w1 W → InC W w.heap.size ⟨10, sz, ad, false, dt, tg, Cf.zero⟩) := Lib.hid (fun W h => Blk.in_ (h.blk HB.out (by simp)))
  clear HN HR HI hO1 hB1
  refine wp_region_D (Only [] w1) (by kernel_rfl) (by kernel_rfl) ((Only.refl _ _).drew) ?_
  repeat (
    refine wpT_step ?_ (stD rfl (fun w' hD => ?_)) ?_
    rotate_left
    · obtain ⟨c0, c1, c2, -⟩ := HF.out w' hD
      simp only at c0 c1 c2
      go_simp
      first
        | (rw [if_neg (by omega)]; refine ⟨?_, hD⟩; rfl)
        | (refine ⟨?_, hD⟩; rfl)
        | (change Calls _ _ _ _ _; (with_reducible refine (NS.out w').mono ?_); rintro e w'' ⟨rfl, h⟩; refine ⟨?_, hD.trans h⟩; rfl)
        | (change Calls _ _ _ _ _; (with_reducible refine (NA.out w').mono ?_); rintro e w'' ⟨rfl, h⟩; refine ⟨?_, hD.trans h⟩; rfl)
    simp only [Act.put, List.setIfInBounds_toArray, List.set_cons_succ, List.set_cons_zero, Nat.zero_add, Nat.reduceAdd])
  refine wpT_nil ?_
  intro w2 hD2
  obtain ⟨c0, c1, c2, c3, c4, c5, -⟩ := HF.out w2 hD2
  simp only at c0 c1 c2 c3 c4 c5
  go_wp2_with (first
    | (go_at_call 48; change Calls _ _ _ _ _; (with_reducible refine (ND.out _).mono ?_); rintro e w3 ⟨rfl, hO3⟩; have hD3 := hD2.trans hO3; obtain ⟨d0, d1, d2, d3, d4, d5, -⟩ := HF.out w3 hD3; simp only at d0 d1 d2 d3 d4 d5)
    | (go_at_call 48; change Calls _ _ _ _ _; (with_reducible refine (NT.out _).mono ?_); rintro e w4 ⟨rfl, hO4⟩; have hD4 := hD3.trans hO4; obtain ⟨e0, e1, e2, e3, e4, e5, -⟩ := HF.out w4 hD4; simp only at e0 e1 e2 e3 e4 e5))
  all_goals first
    | (exfalso; omega)
    | (go_ret2
       exact ⟨by simp, HO.out.trans hD4⟩)

set_option maxRecDepth 100000 in
set_option maxHeartbeats 8000000 in
theorem rline_10x (sz ad dt tg : Nat) (h1 : sz < 4294967296) (h2 : ad < 4294967296) (h3 : dt < 4294967296) (h4 : tg < 4294967296) (x : In) (hx : x = ⟨10, sz, ad, true, dt, tg, Cf.zero⟩) (hok : x.ok = true) (w : World) :
    Calls Tryz.prog 26 #[x.agg] w fun e w' => e = .returned (.tuple #[str ([104, 97, 108, 116]), .int .i64 0]) ∧ Only [] w w' := by
  have HI := Lib.hid (rinstr_any x)
  rw [hok] at HI
  have HX := Lib.hid hx
  have HN := Lib.hid (Blk.new w 33 x.cs)
  have HR := Lib.hid HN.out.rng
  have NS := Lib.hid (rnumber_10 sz (by omega))
  have NA := Lib.hid (rnumber_16 ad (by omega))
  have ND := Lib.hid (rnumber_16 dt (by omega))
  have NT := Lib.hid (rnumber_10 tg (by omega))
  have NI := Lib.hid (rnumber_10 dt (by omega))
  have lS : (numL 10 sz).length ≤ 16 := rnum_len 10 (by omega) 15 sz (by omega)
  have lA : (numL 16 ad).length ≤ 16 := rnum_len 16 (by omega) 15 ad (by omega)
  have lD : (numL 16 dt).length ≤ 16 := rnum_len 16 (by omega) 15 dt (by omega)
  have lT : (numL 10 tg).length ≤ 16 := rnum_len 10 (by omega) 15 tg (by omega)
  have lI : (numL 10 dt).length ≤ 16 := rnum_len 10 (by omega) 15 dt (by omega)
  have wa : IntKind.i64.wrap (ad : Int) = (ad : Int) := IntWalk.i64_in _ (by omega)
  have wd : IntKind.i64.wrap (dt : Int) = (dt : Int) := IntWalk.i64_in _ (by omega)
  generalize numL 10 sz = S at *
  generalize numL 16 ad = A at *
  generalize numL 16 dt = D at *
  generalize numL 10 tg = T at *
  generalize numL 10 dt = I at *



  clear h1 h2 h3 h4 hok hx
  go_enter Tryz.func26, Tryz.ntmps26
  go_upto_region 3 with (first
    | (refine wpList_ld 33 x w.heap.size 0 _ rfl (.inl rfl) rfl rfl HR.out ?_)
    | (go_at_call 27; refine (HI.out _).mono ?_; rintro e w1 ⟨rfl, hO1⟩))
  have hB1 := hO1.blk HN.out (by simp)
  have HO := Lib.hid (((Only.refl [] w).alloc (.cells x.cs 33)).trans hO1)
  rw [HX.out] at hB1
  have HB := Lib.hid hB1
  have HF : Hid (∀ W, Only [] w1 W → InC W w.heap.size ⟨10, sz, ad, true, dt, tg, Cf.zero⟩) := Lib.hid (fun W h => Blk.in_ (h.blk HB.out (by simp)))
  clear HN HR HI hO1 hB1
  refine wp_region_D (Only [] w1) (by kernel_rfl) (by kernel_rfl) ((Only.refl _ _).drew) ?_
  repeat (
    refine wpT_step ?_ (stD rfl (fun w' hD => ?_)) ?_
    rotate_left
    · obtain ⟨c0, c1, c2, -⟩ := HF.out w' hD
      simp only at c0 c1 c2
      go_simp
      first
        | (rw [if_neg (by omega)]; refine ⟨?_, hD⟩; rfl)
        | (refine ⟨?_, hD⟩; rfl)
        | (change Calls _ _ _ _ _; (with_reducible refine (NS.out w').mono ?_); rintro e w'' ⟨rfl, h⟩; refine ⟨?_, hD.trans h⟩; rfl)
        | (change Calls _ _ _ _ _; (with_reducible refine (NA.out w').mono ?_); rintro e w'' ⟨rfl, h⟩; refine ⟨?_, hD.trans h⟩; rfl)
    simp only [Act.put, List.setIfInBounds_toArray, List.set_cons_succ, List.set_cons_zero, Nat.zero_add, Nat.reduceAdd])
  refine wpT_nil ?_
  intro w2 hD2
  obtain ⟨c0, c1, c2, c3, c4, c5, -⟩ := HF.out w2 hD2
  simp only at c0 c1 c2 c3 c4 c5
  go_wp2_with (first
    | (go_at_call 48; change Calls _ _ _ _ _; (with_reducible refine (ND.out _).mono ?_); rintro e w3 ⟨rfl, hO3⟩; have hD3 := hD2.trans hO3; obtain ⟨d0, d1, d2, d3, d4, d5, -⟩ := HF.out w3 hD3; simp only at d0 d1 d2 d3 d4 d5)
    | (go_at_call 48; change Calls _ _ _ _ _; (with_reducible refine (NT.out _).mono ?_); rintro e w4 ⟨rfl, hO4⟩; have hD4 := hD3.trans hO4; obtain ⟨e0, e1, e2, e3, e4, e5, -⟩ := HF.out w4 hD4; simp only at e0 e1 e2 e3 e4 e5))
  all_goals first
    | (exfalso; omega)
    | (go_ret2
       exact ⟨by simp, HO.out.trans hD4⟩)
end Go.Proofs.YtagmoehjcgjnjaaGreatDoor

namespace Go.Proofs.YtagmoehjcgjnjaaGreatDoor
open Go Go.RowKit
attribute [local go_sem] str_cat

set_option maxHeartbeats 1000000 in
theorem rline_no (x : In) (hok : x.ok = false) (w : World) :
    Calls Tryz.prog 26 #[x.agg] w fun e w' => e = .returned (.tuple #[str [], .int .i64 4]) ∧ Only [] w w' := by
  have HI := Lib.hid (rinstr_any x)
  rw [hok] at HI
  have HR := Lib.hid (Blk.new w 33 x.cs).rng
  clear hok
  go_enter Tryz.func26, Tryz.ntmps26
  go_wp2_with (first
    | (refine wpList_ld 33 x w.heap.size 0 _ rfl (.inl rfl) rfl rfl HR.out ?_)
    | (go_at_call 27; refine (HI.out _).mono ?_; rintro e w1 ⟨rfl, hO1⟩))
  go_ret2
  exact ⟨rfl, ((Only.refl [] w).alloc _).trans hO1⟩

theorem rpline_any (x : In) (hf : x.Fits) (w : World) :
    Calls Tryz.prog 26 #[x.agg] w fun e w' => e = .returned (.tuple #[str x.shown, .int .i64 x.err]) ∧ Only [] w w' := by
  unfold In.shown In.err
  cases hok : x.ok with
  | false => exact rline_no x hok w
  | true =>
    simp only [if_true]
    have key : ∀ a, x.line = a → (Calls Tryz.prog 26 #[x.agg] w fun e w' => e = .returned (.tuple #[str a, .int .i64 0]) ∧ Only [] w w') → Calls Tryz.prog 26 #[x.agg] w fun e w' => e = .returned (.tuple #[str x.line, .int .i64 0]) ∧ Only [] w w' := fun a h k => by rw [h]; exact k
    cases ShI.of x hf hok with
    | ld k sz ad ix hk h1 h2 =>
      have h0 : 0 < sz := by omega
      rcases hk with rfl | rfl <;> cases ix
      · refine key _ ?_ (rline_1 sz ad 0 0 (by omega) h2 (by omega) (by omega) _ rfl hok w)
        simp [In.line, In.words, opW, dec, hexa, h0, joinC_two, Lib.join_one]
      · refine key _ ?_ (rline_1x sz ad 0 0 (by omega) h2 (by omega) (by omega) _ rfl hok w)
        simp [In.line, In.words, opW, dec, hexa, h0, joinC_two, Lib.join_one]
      · refine key _ ?_ (rline_3 sz ad 0 0 (by omega) h2 (by omega) (by omega) _ rfl hok w)
        simp [In.line, In.words, opW, dec, hexa, h0, joinC_two, Lib.join_one]
      · refine key _ ?_ (rline_3x sz ad 0 0 (by omega) h2 (by omega) (by omega) _ rfl hok w)
        simp [In.line, In.words, opW, dec, hexa, h0, joinC_two, Lib.join_one]
    | st sz ad dt ix h1 h2 h3 =>
      have h0 : 0 < sz := by omega
      cases ix
      · refine key _ ?_ (rline_2 sz ad dt 0 (by omega) h2 h3 (by omega) _ rfl hok w)
        simp [In.line, In.words, opW, dec, hexa, h0, joinC_two, Lib.join_one]
      · refine key _ ?_ (rline_2x sz ad dt 0 (by omega) h2 h3 (by omega) _ rfl hok w)
        simp [In.line, In.words, opW, dec, hexa, h0, joinC_two, Lib.join_one]
    | no k hk =>
      rcases hk with rfl | rfl
      · refine key _ ?_ (rline_4 0 0 0 0 (by omega) (by omega) (by omega) (by omega) _ rfl hok w)
        simp [In.line, In.words, opW, Lib.join_one]
      · refine key _ ?_ (rline_10 0 0 0 0 (by omega) (by omega) (by omega) (by omega) _ rfl hok w)
        simp [In.line, In.words, opW, Lib.join_one]
    | br dt tg h1 h2 =>
      refine key _ ?_ (rline_5 0 0 dt tg (by omega) (by omega) h1 (by omega) _ rfl hok w)
      simp [In.line, In.words, opW, dec, hexa, joinC_two, Lib.join_one]
    | jp tg h1 =>
      refine key _ ?_ (rline_6 0 0 0 tg (by omega) (by omega) (by omega) (by omega) _ rfl hok w)
      simp [In.line, In.words, opW, dec, joinC_two, Lib.join_one]
    | id dt h1 =>
      refine key _ ?_ (rline_7 0 0 dt 0 (by omega) (by omega) (by omega) (by omega) _ rfl hok w)
      simp [In.line, In.words, opW, dec, joinC_two, Lib.join_one]
    | ms dt h1 =>
      refine key _ ?_ (rline_8 0 0 dt 0 (by omega) (by omega) (by omega) (by omega) _ rfl hok w)
      simp [In.line, In.words, opW, hexa, joinC_two, Lib.join_one]
    | cf c h1 h2 =>
      refine key _ ?_ (rline_9 0 0 0 0 c h1 (by omega) (by omega) (by omega) (by omega) _ rfl hok w)
      simp [In.line, In.words, opW, joinC_two, Lib.join_one]

theorem joinC_snoc (c : UInt8) (y : List UInt8) : ∀ (xs : List (List UInt8)), 0 < xs.length → Lib.join (xs ++ [y]) [c] = Lib.join xs [c] ++ c :: y
  | [], h => by simp at h
  | [x], _ => by
    simp only [List.cons_append, List.nil_append]
    rw [joinC_two, Lib.join_one, Lib.join_one]
  | x :: z :: r, _ => by
    have ih := joinC_snoc c y (z :: r) (by simp)
    simp only [List.cons_append] at ih ⊢
    rw [joinC_two, joinC_two, ih]
    simp
theorem showT_snoc (l : List In) (x : In) : showT (l ++ [x]) = if l.length = 0 then showT l ++ x.line else showT l ++ 10 :: x.line := by
  unfold showT
  rw [List.map_append]
  by_cases h : l.length = 0
  · rw [if_pos h, List.eq_nil_of_length_eq_zero h]
    simp [Lib.join, List.intercalate]
  · rw [if_neg h]
    exact joinC_snoc 10 x.line (l.map In.line) (by rw [List.length_map]; omega)
theorem showT_len {l : List In} (h : ∀ x ∈ l, x.Fits ∧ x.ok = true) : (showT l).length ≤ l.length * 601 := by
  have := joins_len 10 600 (l.map In.line) (fun y hy => by
    obtain ⟨x, hm, rfl⟩ := List.mem_map.1 hy
    exact line_len (ShI.of x (h x hm).1 (h x hm).2))
  rw [List.length_map] at this
  exact this

set_option maxRecDepth 100000 in
set_option maxHeartbeats 4000000 in
theorem rpshow_any (l : List In) (hl : l.length ≤ 1000000) (hf : ∀ x ∈ l, x.Fits) (v : Value) (w : World) (hv : InS w v l) :
    Calls Tryz.prog 23 #[v] w fun e w' => e = .returned (.tuple #[str (pshown l), .int .i64 (pshowE l)]) ∧ Only [] w w' := by
  have HR := Lib.hid (rpright_any l hl v w hv)
  have HI := Lib.hid hv
  obtain ⟨pv, cv, rfl⟩ := hv.len
  unfold pshown pshowE
  cases hok : okR l with
  | false =>
    rw [hok] at HR
    clear hok hv hf
    go_enter Tryz.func23, Tryz.ntmps23
    go_wp2_with (go_at_call 24; refine HR.out.mono ?_; rintro e w1 ⟨rfl, hO1⟩)
    go_ret2
    exact ⟨rfl, hO1⟩
  | true =>
    rw [hok] at HR
    have hok2 := okR_iff.1 hok
    have HS := Lib.hid (fun x (hx : x ∈ l) => And.intro (hf x hx) (hok2.2 x hx).1)
    have hl64 := hok2.1
    clear hok hok2 hv hf
    go_enter Tryz.func23, Tryz.ntmps23
    go_wp2_with (go_at_call 24; refine HR.out.mono ?_; rintro e w1 ⟨rfl, hO1⟩)
    clear HR
    go_loopw [4, 5] (fun s i wr => ∃ k : Nat, s = str (showT (l.take k)) ∧ i = .int .i64 k ∧ k ≤ l.length ∧ Only [] w wr) (fun _ i _ => l.length - (intOf i).toNat)
    case atStart => exact ⟨0, rfl, rfl, by omega, hO1⟩
    case round =>
      clear hO1
      obtain ⟨k, rfl, rfl, hk, hO⟩ := hrel
      by_cases hkl : k < l.length
      · have hki : (k : Int) < (l.length : Int) := by omega
        obtain ⟨b, off, c, hvv, h0, hlc, hb, hE⟩ := HI.out.resolve_left (fun ⟨_, _, _, h⟩ => by rw [h] at hkl; simp at hkl)
        simp only [Value.slice.injEq, true_and] at hvv
        obtain ⟨rfl, rfl⟩ := hvv
        have HX := Lib.hid (rng_only (hE k l[k] (by simp)) hO hb (by simp))
        have hs := HS.out l[k] (by simp)
        have htk : showT (l.take (k + 1)) = if k = 0 then showT (l.take k) ++ l[k].line else showT (l.take k) ++ 10 :: l[k].line := by
          rw [List.take_succ_eq_append_getElem hkl, showT_snoc, List.length_take, Nat.min_eq_left (by omega)]
        have HL := Lib.hid (fun W => rpline_any l[k] hs.1 W)
        have hsh : l[k].shown = l[k].line ∧ l[k].err = 0 := by unfold In.shown In.err; rw [hs.2]; exact ⟨rfl, rfl⟩
        rw [hsh.1, hsh.2] at HL
        have hln := line_len (ShI.of _ hs.1 hs.2)
        have hTl : (showT (l.take k)).length ≤ 64 * 601 := by
          have := showT_len (l := l.take k) (fun x hx => HS.out x (List.mem_of_mem_take hx))
          rw [List.length_take] at this
          have : min k l.length * 601 ≤ 64 * 601 := Nat.mul_le_mul_right _ (by omega)
          omega
        generalize l[k].line = tl at *
        generalize showT (l.take k) = T at *
        generalize l[k] = x at *
        clear hs hsh hE
        by_cases hz : 0 < (k : Int)
        · have HTK : Hid (showT (l.take (k + 1)) = T ++ 10 :: tl) := Lib.hid (by rw [htk, if_neg (by omega)])
          clear htk
          go_wp2_with (first
            | (refine wpList_ld 33 x b (off + k * 18) _ rfl (.inl rfl) rfl rfl HX.out ?_)
            | (go_at_call 26; refine (HL.out _).mono ?_; rintro e w5 ⟨rfl, hO5⟩))
          refine ⟨⟨k + 1, ?_, by go_num, by omega, hO.trans hO5⟩, by simp [intOf]; omega⟩
          rw [HTK.out]
        · have HTK : Hid (showT (l.take (k + 1)) = T ++ tl) := Lib.hid (by rw [htk, if_pos (by omega)])
          clear htk
          go_wp2_with (first
            | (refine wpList_ld 33 x b (off + k * 18) _ rfl (.inl rfl) rfl rfl HX.out ?_)
            | (go_at_call 26; refine (HL.out _).mono ?_; rintro e w5 ⟨rfl, hO5⟩))
          refine ⟨⟨k + 1, ?_, by go_num, by omega, hO.trans hO5⟩, by simp [intOf]; omega⟩
          rw [HTK.out]
      · obtain rfl : k = l.length := by omega
        have hki : ¬ (l.length : Int) < (l.length : Int) := by omega
        have HT : Hid (showT (l.take l.length) = showT l) := Lib.hid (by rw [List.take_length])
        generalize showT (l.take l.length) = T at *
        go_wp2
        go_ret2
        exact ⟨by rw [← HT.out]; rfl, hO⟩
end Go.Proofs.YtagmoehjcgjnjaaGreatDoor

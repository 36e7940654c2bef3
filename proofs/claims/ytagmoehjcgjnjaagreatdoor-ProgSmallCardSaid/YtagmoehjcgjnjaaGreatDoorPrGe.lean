/- The kit's bag of lists of programs, walked. Conditions: the lists are few and short. The statement ProgTells, its parts: what is shown, walked. Conditions: the listed variables are laid; values fit. The statement ProgTells, walked. Conditions: the listed variables are laid; values fit. -/
import Derived.Test.YtagmoehjcgjnjaaGreatDoorPrA2
import Derived.Test.YtagmoehjcgjnjaaGreatDoorPrGc
import Derived.Test.YtagmoehjcgjnjaaGreatDoorPrGd
import Derived.Test.YtagmoehjcgjnjaaGreatDoorPgBk
namespace Go.Proofs.YtagmoehjcgjnjaaGreatDoor
open Go Go.RowKit

/-- A bag that holds lists of programs alone. -/
abbrev bagC (v : Value) : Array Value := #[.slice none 0 0, .slice none 0 0, .slice none 0 0, .slice none 0 0, .slice none 0 0, .slice none 0 0, .slice none 0 0, .slice none 0 0, .slice none 0 0, .slice none 0 0, .slice none 0 0, .slice none 0 0, .slice none 0 0, .slice none 0 0, v, .slice none 0 0, .slice none 0 0]
theorem Only.ob {w w' : World} {base : Nat} (h : Only [] w w') (hb : base ≤ w.heap.size) : OnlyB base [] w w' := h.b hb

set_option maxRecDepth 100000 in
set_option maxHeartbeats 8000000 in
theorem apart_walk (bb base : Nat) (v : Value) (w : World) (hb : base ≤ w.heap.size) (hB : Blk w bb 102 (bagC v))
    (hP : ∀ W, Only [] w W → Calls Tryz.prog 92 #[v] W fun e w' => e = .returned (.bool true) ∧ OnlyB base [] W w' ∧ ∀ b t cs, t ≠ 33 → Blk W b t cs → Blk w' b t cs) :
    Calls Tryz.prog 56 #[.pointer (some ⟨bb, 0, none⟩)] w fun e w' => e = .returned (.bool true) ∧ OnlyB base [] w w' := by
  have HC : Hid (∀ W, Blk W bb 102 (bagC v) → ∀ i u, (bagC v)[i]? = some u → W.cell? ⟨bb, i, none⟩ = some u) := Lib.hid (fun W hW i u hu => by rw [hW.cell i]; exact hu)
  have HP := Lib.hid hP
  have HS : Hid (∀ W, OnlyB base [] w W → base ≤ W.heap.size) := Lib.hid (fun W hW => Nat.le_trans hb hW.size)
  have hA0 : Only [] w w := Only.refl _ _
  have HB := Lib.hid hB
  have c0 := HC.out w hB 0 _ rfl
  clear hB hP
  go_enter Tryz.func56, Tryz.ntmps56
  go_wp2_with (first
    | (go_at_call 78; refine (flat0_Limbs _).mono ?_; rintro e w1 ⟨rfl, hO1⟩; have hA1 := hA0.trans hO1; have c1 := HC.out w1 (hA1.blk HB.out (by simp)) 1 _ rfl)
    | (go_at_call 79; refine (flat0_Words _).mono ?_; rintro e w2 ⟨rfl, hO2⟩; have hA2 := hA1.trans hO2; have c2 := HC.out w2 (hA2.blk HB.out (by simp)) 2 _ rfl)
    | (go_at_call 80; refine (flat0_Ints _).mono ?_; rintro e w3 ⟨rfl, hO3⟩; have hA3 := hA2.trans hO3; have c3 := HC.out w3 (hA3.blk HB.out (by simp)) 3 _ rfl)
    | (go_at_call 81; refine (flat0_Longs _).mono ?_; rintro e w4 ⟨rfl, hO4⟩; have hA4 := hA3.trans hO4; have c4 := HC.out w4 (hA4.blk HB.out (by simp)) 4 _ rfl)
    | (go_at_call 82; refine (flat0_Texts _).mono ?_; rintro e w5 ⟨rfl, hO5⟩; have hA5 := hA4.trans hO5; have c5 := HC.out w5 (hA5.blk HB.out (by simp)) 5 _ rfl)
    | (go_at_call 83; refine (flat0_Bytes _).mono ?_; rintro e w6 ⟨rfl, hO6⟩; have hA6 := hA5.trans hO6; have c6 := HC.out w6 (hA6.blk HB.out (by simp)) 6 _ rfl)
    | (go_at_call 84; refine (flat0_Truths _).mono ?_; rintro e w7 ⟨rfl, hO7⟩; have hA7 := hA6.trans hO7; have c7 := HC.out w7 (hA7.blk HB.out (by simp)) 7 _ rfl)
    | (go_at_call 85; refine (flat0_Reaches _).mono ?_; rintro e w8 ⟨rfl, hO8⟩; have hA8 := hA7.trans hO8; have c8 := HC.out w8 (hA8.blk HB.out (by simp)) 8 _ rfl)
    | (go_at_call 86; refine (flat0_Accesses _).mono ?_; rintro e w9 ⟨rfl, hO9⟩; have hA9 := hA8.trans hO9; have c9 := HC.out w9 (hA9.blk HB.out (by simp)) 9 _ rfl)
    | (go_at_call 87; refine (flat0_Replies _).mono ?_; rintro e w10 ⟨rfl, hO10⟩; have hA10 := hA9.trans hO10; have c10 := HC.out w10 (hA10.blk HB.out (by simp)) 10 _ rfl)
    | (go_at_call 88; refine (flat0_Regions _).mono ?_; rintro e w11 ⟨rfl, hO11⟩; have hA11 := hA10.trans hO11; have c11 := HC.out w11 (hA11.blk HB.out (by simp)) 11 _ rfl)
    | (go_at_call 89; refine (flat0_Devices _).mono ?_; rintro e w12 ⟨rfl, hO12⟩; have hA12 := hA11.trans hO12; have c12 := HC.out w12 (hA12.blk HB.out (by simp)) 12 _ rfl)
    | (go_at_call 90; refine (flat0_Holds _).mono ?_; rintro e w13 ⟨rfl, hO13⟩; have hA13 := hA12.trans hO13; have c13 := HC.out w13 (hA13.blk HB.out (by simp)) 13 _ rfl)
    | (go_at_call 91; refine (flat0_Confs _).mono ?_; rintro e w14 ⟨rfl, hO14⟩; have hA14 := hA13.trans hO14; have c14 := HC.out w14 (hA14.blk HB.out (by simp)) 14 _ rfl)
    | (go_at_call 92; refine (HP.out _ hA14).mono ?_; rintro e w15 ⟨rfl, hO15, hN15⟩; have hD15 := (hA14.ob hb).trans hO15; have HB15 := Lib.hid (hN15 bb _ _ (by decide) (hA14.blk HB.out (by simp))); clear hN15; have c15 := HC.out w15 HB15.out 15 _ rfl)
    | (go_at_call 93; refine (flat0_Inputs _).mono ?_; rintro e w16 ⟨rfl, hO16⟩; have hD16 := hD15.trans (hO16.ob (HS.out _ hD15)); have c16 := HC.out w16 (hO16.blk HB15.out (by simp)) 16 _ rfl)
    | (go_at_call 94; refine (flat0_Events _).mono ?_; rintro e w17 ⟨rfl, hO17⟩; have hD17 := hD16.trans (hO17.ob (HS.out _ hD16))))
  go_returns
  exact ⟨rfl, hD17⟩

set_option maxRecDepth 100000 in
set_option maxHeartbeats 4000000 in
theorem put_walk (bb n m cm : Nat) (p pv : Option Addr) (cv : Nat) (xs : List Value) (w0 w : World) (hO0 : Only [] w0 w) (hbb : w0.heap.size ≤ bb) (hB : Blk w bb 102 (bagC (.slice pv n cv))) (hrow : w.ownsRow (bb + 1) 22 1 (.slice pv n cv) n xs) (hn : n ≤ 1000) :
    Calls Tryz.prog 55 #[.pointer (some ⟨bb, 0, none⟩), .slice p m cm] w fun e w' => e = .returned (.tuple #[]) ∧ Only [] w0 w' ∧ ∃ pv' cv', Blk w' bb 102 (bagC (.slice pv' (n + 1) cv')) ∧ w'.ownsRow (bb + 1) 22 1 (.slice pv' (n + 1) cv') (n + 1) (xs ++ [.slice p m cm]) := by
  obtain ⟨i0, hi0, hz0, hz1, hz2⟩ := info_parts infoSl
  have c14 : w.cell? ⟨bb, 14, none⟩ = some (.slice pv n cv) := hB.cell 14
  have HB := Lib.hid hB
  have HR := Lib.hid hrow
  have hlt := hB.lt
  clear hB hrow
  go_enter Tryz.func55, Tryz.ntmps55
  go_wp2_with (at_builtin; refine wpList_append_own _ rfl _ _ 65 rfl (bb + 1) 22 i0 (.slice none 0 0) 1 24 Tryz.underlying65 hi0 hz0 hz1 hz2 rfl (by decide) (.slice pv n cv) n _ rfl (row_onlyB HR.out ((Only.refl [] w).alloc (.cells #[.slice p m cm] 22))) ⟨w.heap.size, 0, none⟩ 1 1 [.slice p m cm] rfl rfl ?c1 ?c2 ?c3 ?c4 ?c5 ?_)
  case c1 => exact cells_at (Blk.new w 22 #[.slice p m cm])
  case c2 =>
    intro u hu
    simp only [List.mem_cons, List.not_mem_nil, or_false] at hu
    subst hu
    rfl
  case c3 => unfold maxLen; omega
  case c4 => omega
  case c5 => simp; omega
  intro v' w4 hown4 hgrow _
  have hform : ∃ p4 c4, v' = .slice p4 (n + 1) c4 := by
    rcases hown4.2 with ⟨-, h⟩ | ⟨g, cap, cur, rfl, -⟩
    · omega
    · exact ⟨_, _, rfl⟩
  obtain ⟨p4, c4, rfl⟩ := hform
  have hown0 : ∀ g, (Value.slice pv n cv).ownBlock = some g → bb + 1 ≤ g := fun g hg => (HR.out.lt g hg).1
  have HB4 := Lib.hid (show Blk w4 bb 102 (bagC (.slice pv n cv)) from (hgrow.block bb (by simp; omega) (fun e => by have := hown0 bb e.symm; omega)).trans (HB.out.alloc _))
  have HO4 : Hid (Only [] w0 w4) := Lib.hid ((hO0.alloc (.cells #[.slice p m cm] 22)).trans' (S' := (Value.slice pv n cv).ownBlock.toList) ⟨hgrow.os, hgrow.tape, hgrow.output, hgrow.size, fun k hk hn => hgrow.block k hk (fun e => hn (by simp [← e]))⟩ (by
    intro z hz hlt
    have := hown0 z (by simpa using hz)
    omega))
  have HR4 := Lib.hid hown4
  have c14' : w4.cell? ⟨bb, 14, none⟩ = some (.slice pv n cv) := HB4.out.cell 14
  have f14 : w4.frozen? ⟨bb, 14, none⟩ = false := HB4.out.frozen 14
  clear hown4 hgrow c14 hown0
  go_wp2_with fail
  go_returns
  refine ⟨rfl, HO4.out.setCell (.inr hbb) _, p4, c4, HB4.out.set_ 14 _, ?_⟩
  obtain ⟨h1, ⟨h2, -⟩ | ⟨g, cap, cur, hv, hb, hg, r⟩⟩ := HR4.out
  · cases h2
  · exact ⟨h1, .inr ⟨g, cap, cur, hv, hb, Blk.far (g := g) hg (by simp only; omega) _, r⟩⟩

set_option maxRecDepth 100000 in
set_option maxHeartbeats 4000000 in
theorem apartP_any (N B c base : Nat) (bc : Array Value) (vv : Nat → Value) (L : Nat → List In) (w : World) (hN0 : 0 < N) (hN : N ≤ 400) (_hc : N ≤ c) (hL : ∀ k, k < N → (L k).length ≤ 100000) (hbc : ∀ k, k < N → bc[k]? = some (vv k)) (hS : SW w base B bc (F1 N vv L) w) :
    Calls Tryz.prog 30 #[.slice (some ⟨B, 0, none⟩) N c] w fun e w' => e = .returned (.bool true) ∧ OnlyB base [] w w' := by
  have HV : Hid (∀ k, k < N → ∃ p c, vv k = .slice p (L k).length c) := Lib.hid (fun k hk => (hS.fam.1 k (vv k) (L k) ⟨hk, rfl, rfl⟩).ins.len)
  have HL := Lib.hid hL
  have HBC := Lib.hid hbc
  have HS := Lib.hid hS
  have HW0 := Lib.hid (And.intro ((Only.refl [] w).alloc (.cells (bagC (.slice none 0 0)) 102)) (Blk.new w 102 (bagC (.slice none 0 0))))
  clear hL hbc hS
  go_enter Tryz.func30, Tryz.ntmps30
  go_wp2_with fail
  go_loopw [4] (fun s wr => ∃ (k : Nat) (pv : Option Addr) (cv : Nat), s = .int .i64 k ∧ k ≤ N ∧ Hid (Only [] w wr ∧ Blk wr w.heap.size 102 (bagC (.slice pv k cv)) ∧ wr.ownsRow (w.heap.size + 1) 22 1 (.slice pv k cv) k ((List.range k).map vv))) (fun s _ => N - (intOf s).toNat)
  case atStart => exact ⟨0, none, 0, rfl, by omega, Lib.hid ⟨HW0.out.1, HW0.out.2, World.ownsRow_nil _ _ _ _⟩⟩
  case round =>
    clear HW0
    obtain ⟨k, pv, cv, rfl, hk, HM⟩ := hrel
    by_cases hkN : k < N
    · have hki : (k : Int) < (N : Int) := by omega
      have hk0 : (0 : Int) ≤ (k : Int) := by omega
      obtain ⟨p, cp, hv⟩ := HV.out k hkN
      have HVk := Lib.hid hv
      have cB : wr.cell? ⟨B, k, none⟩ = some (.slice p (L k).length cp) := by rw [(HM.out.1.blk HS.out.ls (by simp)).cell k, HBC.out k hkN, hv]
      clear hv
      have HP := Lib.hid (put_walk w.heap.size k (L k).length cp p pv cv ((List.range k).map vv) w wr HM.out.1 (Nat.le_refl _) HM.out.2.1 HM.out.2.2 (by omega))
      go_wp2_with (go_at_call 55; refine HP.out.mono ?_; rintro e w5 ⟨rfl, hO5, p5, c5, hB5, hR5⟩)
      refine ⟨⟨k + 1, p5, c5, by go_num, by omega, Lib.hid ⟨hO5, hB5, ?_⟩⟩, ?_⟩
      · rw [List.range_succ, List.map_append]
        rw [← HVk.out] at hR5
        exact hR5
      · simp [intOf]
        omega
    · have hki : ¬ (k : Int) < (N : Int) := by omega
      have HA : Hid (Calls Tryz.prog 56 #[.pointer (some ⟨w.heap.size, 0, none⟩)] wr fun e w' => e = .returned (.bool true) ∧ OnlyB base [] wr w') := Lib.hid (by
        have hkk : k = N := by omega
        have hM := HM.out
        rw [hkk] at hM
        refine apart_walk w.heap.size base _ wr (Nat.le_trans HS.out.bs hM.1.size) hM.2.1 (fun W hW => ?_)
        obtain ⟨h1, ⟨-, h2⟩ | ⟨g, cap, cur, hvv, hb, hg, hn, hm, hs, ht⟩⟩ := hM.2.2
        · omega
        · rw [hvv]
          refine flatP_any N g cap base cur vv L W hN hn HL.out (fun j hj => ?_) ⟨(HS.out.fam.call hM.1).call hW, hW.blk hg (by simp), OnlyB.refl _ _ _, Nat.le_trans HS.out.bs (Nat.le_trans hM.1.size hW.size), fun b t cs _ h => h⟩
          have hj2 : ((List.range N).map vv)[j]? = some (vv j) := by simp [hj]
          rw [← ht, List.getElem?_take_of_lt (by omega), Array.getElem?_toList] at hj2
          exact hj2)
      go_wp2_with (go_at_call 56; refine HA.out.mono ?_; rintro e w5 ⟨rfl, hO5⟩)
      go_returns
      exact ⟨rfl, (HM.out.1.b HS.out.bs).trans hO5⟩
end Go.Proofs.YtagmoehjcgjnjaaGreatDoor

namespace Go.Proofs.YtagmoehjcgjnjaaGreatDoor
open Go Go.RowKit
attribute [local go_sem ↓] in_eql36 in_neq36 str_neq

theorem InR.head {w : World} {base g n m cap : Nat} {l ms : List In} (h : InR w base (.slice (some ⟨g, 0, none⟩) n cap) (l ++ ms)) (hn : n = l.length + m) : InS w (.slice (some ⟨g, 0, none⟩) l.length cap) l := by
  have hin := h.ins
  by_cases h0 : l = []
  · subst h0
    exact .inl ⟨_, _, rfl, rfl⟩
  · rcases hin with ⟨p2, c2, h1, h2⟩ | ⟨b, off, c2, h1, h2, h3, h4, h5⟩
    · simp only [List.append_eq_nil_iff] at h2
      exact absurd h2.1 h0
    · simp only [Value.slice.injEq, Option.some.injEq, Addr.mk.injEq, and_true] at h1
      obtain ⟨⟨rfl, rfl⟩, h6, rfl⟩ := h1
      exact .inr ⟨g, 0, cap, rfl, List.length_pos_iff.2 h0, by omega, h4, fun j x hj => h5 j x (by rw [List.getElem?_append_left (by rcases Nat.lt_or_ge j l.length with hh | hh; exact hh; rw [List.getElem?_eq_none hh] at hj; cases hj)]; exact hj)⟩

set_option maxRecDepth 100000 in
set_option maxHeartbeats 4000000 in
theorem pshows_any (l : List In) (hl : l.length ≤ 100000) (hf : ∀ x ∈ l, x.Fits) (v : Value) (w : World) (hg : Gl w) (hv : InS w v l) :
    Calls Tryz.prog 11 #[v] w fun e w' => e = .returned (.bool true) ∧ Only [] w w' := by
  have HV := Lib.hid hv
  have HF := Lib.hid hf
  have HG := Lib.hid hg
  have HLt := Lib.hid (lent_any l hl v w hv)
  have HSp : Hid (∀ W u, InS W u l → Gl W → Calls Tryz.prog 14 #[u] W fun e w' => e = .returned (.tuple #[str (pshown l), .int .i64 (pshowE l)]) ∧ Only [] W w') := Lib.hid (fun W u hu hgW => pshow_any l (by omega) hf u W hgW hu)
  have HRp : Hid (∀ W u, InS W u l → Calls Tryz.prog 9 #[u] W fun e w' => e = .returned (.bool (okR l)) ∧ Only [] W w') := Lib.hid (fun W u hu => pright_any l (by omega) hf u W hu)
  have HSr : Hid (∀ W u, InS W u l → Calls Tryz.prog 23 #[u] W fun e w' => e = .returned (.tuple #[str (pshown l), .int .i64 (pshowE l)]) ∧ Only [] W w') := Lib.hid (fun W u hu => rpshow_any l (by omega) hf u W hu)
  have HRr : Hid (∀ W u, InS W u l → Calls Tryz.prog 24 #[u] W fun e w' => e = .returned (.bool (okR l)) ∧ Only [] W w') := Lib.hid (fun W u hu => rpright_any l (by omega) u W hu)
  have HKp : Hid (∀ W base g cap u, InS W u l → InR W base (.slice (some ⟨g, 0, none⟩) (l.length + 12) cap) (l ++ marks 1 12) → Calls Tryz.prog 25 #[.slice (some ⟨g, 0, none⟩) l.length cap, u] W fun e w' => e = .returned (.bool true) ∧ Only [] W w') := Lib.hid (fun W base g cap u hu hR => kept_any l hl base g cap u W hu hR)
  obtain ⟨p, c, rfl⟩ := hv.len
  clear hv hf hg
  have hbb : (okR l != okR l) = false := by simp
  have hss : (pshown l != pshown l) = false := by simp
  have hee : (pshowE l != pshowE l) = false := by simp
  generalize okR l = r at *
  generalize pshown l = sh at *
  generalize pshowE l = se at *
  go_enter Tryz.func11, Tryz.ntmps11
  go_wp2_with fail
  refine HLt.out.mono ?_
  rintro e w1 ⟨g, cap, rfl, hR1, hO1⟩
  have HIn : Hid (∀ W, Only [] w1 W → InS W (.slice (some ⟨g, 0, none⟩) l.length cap) l ∧ InR W w.heap.size (.slice (some ⟨g, 0, none⟩) (l.length + 12) cap) (l ++ marks 1 12)) := Lib.hid (fun W hW => by
    have hR : InR W w.heap.size (.slice (some ⟨g, 0, none⟩) (l.length + 12) cap) (l ++ marks 1 12) := hR1.only hW (by simp)
    exact ⟨InR.head hR rfl, hR⟩)
  have HIl : Hid (∀ W, Only [] w1 W → InS W (.slice p l.length c) l) := Lib.hid (fun W hW => HV.out.only0 (hO1.trans hW))
  have HGl : Hid (∀ W, Only [] w1 W → Gl W) := Lib.hid (fun W hW => HG.out.only (hO1.trans hW))
  have hA1 : Only [] w1 w1 := Only.refl _ _
  have HO1 := Lib.hid hO1
  clear hR1 HLt hO1
  go_wp2_with (first
    | (go_at_call 14; refine (HSp.out _ _ (HIn.out _ hA1).1 (HGl.out _ hA1)).mono ?_; rintro e w2 ⟨rfl, hO2⟩; have hA2 := hA1.trans hO2)
    | (go_at_call 23; refine (HSr.out _ _ (HIl.out _ hA2)).mono ?_; rintro e w3 ⟨rfl, hO3⟩; have hA3 := hA2.trans hO3)
    | (go_at_call 9; refine (HRp.out _ _ (HIn.out _ hA3).1).mono ?_; rintro e w4 ⟨rfl, hO4⟩; have hA4 := hA3.trans hO4)
    | (go_at_call 24; refine (HRr.out _ _ (HIl.out _ hA4)).mono ?_; rintro e w5 ⟨rfl, hO5⟩; have hA5 := hA4.trans hO5)
    | (go_at_call 25; refine (HKp.out _ _ _ _ _ (HIl.out _ hA5) (HIn.out _ hA5).2).mono ?_; rintro e w6 ⟨rfl, hO6⟩; have hA6 := hA5.trans hO6))
  clear HSp HSr HRp HRr HKp HIn hA1 hA2 hA3 hA4 hA5 hO2 hO3 hO4 hO5 hO6
  go_loopw [8] (fun s wr => ∃ k : Nat, s = .int .i64 k ∧ k ≤ l.length ∧ Only [] w1 wr) (fun s _ => l.length - (intOf s).toNat)
  case atStart => exact ⟨0, rfl, by omega, hA6⟩
  case round =>
    clear hA6
    obtain ⟨k, rfl, hk, hO⟩ := hrel
    by_cases hkl : k < l.length
    · have hki : (k : Int) < (l.length : Int) := by omega
      obtain ⟨b, off, c2, hvv, h0, hlc, hb, hE⟩ := (HIl.out wr hO).resolve_left (fun ⟨_, _, _, h⟩ => by rw [h] at hkl; simp at hkl)
      simp only [Value.slice.injEq, true_and] at hvv
      obtain ⟨rfl, rfl⟩ := hvv
      have HX : Hid (∀ W, Only [] wr W → W.rangeAt b (off + k * 18) l[k].cs.toList) := Lib.hid (fun W hW => rng_only (hE k l[k] (by simp)) hW hb (by simp))
      have hfx := HF.out l[k] (by simp)
      have HLp := Lib.hid (fun W hgW => line_any l[k] hfx W hgW)
      have HLr := Lib.hid (fun W => rpline_any l[k] hfx W)
      have HIp := Lib.hid (fun W => instr_any l[k] (by have := hfx.dt; omega) W)
      have HIr := Lib.hid (fun W => rinstr_any l[k] W)
      have hb2 : (l[k].ok != l[k].ok) = false := by simp
      have hs2 : (l[k].shown != l[k].shown) = false := by simp
      have he2 : (l[k].err != l[k].err) = false := by simp
      clear hE hfx
      generalize l[k].ok = ox at *
      generalize l[k].shown = sx at *
      generalize l[k].err = ex at *
      generalize l[k] = x at *
      have hB0 : Only [] wr wr := Only.refl _ _
      go_wp2_with (first
        | (refine wpList_ld 33 x b (off + k * 18) _ rfl (.inl rfl) rfl rfl (HX.out _ hB0) ?_)
        | (refine wpList_ld 33 x b (off + k * 18) _ rfl (.inl rfl) rfl rfl (HX.out _ hO2) ?_)
        | (go_at_call 17; refine (HLp.out _ (HGl.out _ hO)).mono ?_; rintro e w2 ⟨rfl, hO2⟩)
        | (go_at_call 26; refine (HLr.out _).mono ?_; rintro e w3 ⟨rfl, hO3⟩))
      have hB3 : Only [] wr w3 := hO2.trans hO3
      refine wp_region_D (Only [] wr) (by kernel_rfl) (by kernel_rfl) hB3.drew ?_
      repeat (first
        | (refine wpT_step _ (stD_skip rfl) ?_
           simp only [Act.put, List.setIfInBounds_toArray, List.set_cons_succ, List.set_cons_zero, Nat.zero_add, Nat.reduceAdd])
        | (refine wpT_step ?_ (stD rfl (fun w' hD => ?_)) ?_
           rotate_left
           · first
               | (refine @st_ld (Only [] wr) _ _ _ (.tmp 70) ?_ b (off + k * 18) ?_ x (HX.out _ hD) hD <;> rfl)
               | (refine @st_ld (Only [] wr) _ _ _ (.tmp 75) ?_ b (off + k * 18) ?_ x (HX.out _ hD) hD <;> rfl)
               | (go_simp; refine ⟨?_, hD⟩; rfl)
               | (go_simp; refine (HIp.out w').mono ?_; rintro e w'' ⟨rfl, h⟩; refine ⟨?_, hD.trans h⟩; rfl)
               | (go_simp; refine (HIr.out w').mono ?_; rintro e w'' ⟨rfl, h⟩; refine ⟨?_, hD.trans h⟩; rfl)
           simp only [Act.put, List.setIfInBounds_toArray, List.set_cons_succ, List.set_cons_zero, Nat.reduceAdd]))
      refine wpT_nil ?_
      intro w6 hD
      go_wp2_with fail
      refine ⟨⟨k + 1, by go_num, by omega, hO.trans hD⟩, ?_⟩
      simp [intOf]
      omega
    · have hki : ¬ (k : Int) < (l.length : Int) := by omega
      go_wp2_with fail
      go_returns
      exact ⟨rfl, HO1.out.trans hO⟩
end Go.Proofs.YtagmoehjcgjnjaaGreatDoor

namespace Go.Proofs.YtagmoehjcgjnjaaGreatDoor
open Go Go.RowKit
attribute [local go_sem ↓] in_eql36 in_neq36 str_neq

theorem In.same_self (x : In) : In.same ⟨x.op, x.sz, x.ad, x.ix, x.dt, x.to, ⟨x.cf.kd, x.cf.ix, x.cf.wo, x.cf.ln, x.cf.on, x.cf.rw, x.cf.fr, x.cf.tt, x.cf.rd, x.cf.wt, x.cf.rk, x.cf.lk⟩⟩ ⟨x.op, x.sz, x.ad, x.ix, x.dt, x.to, ⟨x.cf.kd, x.cf.ix, x.cf.wo, x.cf.ln, x.cf.on, x.cf.rw, x.cf.fr, x.cf.tt, x.cf.rd, x.cf.wt, x.cf.rk, x.cf.lk⟩⟩ = true := (In.same_iff x x).2 rfl
theorem rd_len (s : List UInt8) : (rdA s).1.length ≤ 64 := by
  unfold rdA
  split
  · simp
  · split
    · simp
    · split
      · simp
      · split
        · simp
        · simp only [List.length_map]; omega

theorem wpList_eql {ops : Array Oper} {rest : List Oper} {op : Oper} {a : Act} {w : World} {Q : Exit → Act → World → Prop} (y z : Operand) (ho : op.op = .binOp .eql 33 y z 33) (hw : Region.wanted op (yielded ops a.tmps) = true) (x : In) (h1 : a.eval y = x.agg) (h2 : a.eval z = x.agg)
    (hk : wpList Tryz.prog ops Q rest (a.put op.dst (.bool true)) w) : wpList Tryz.prog ops Q (op :: rest) a w :=
  BigFrame.wpList_want hw fun K hK => by
    have hr : (execOp a.eval op).run Tryz.prog w = .ok (.value (.bool true)) w := by
      unfold execOp
      simp only [ho, h1, h2, Sem.run_bind, Sem.run_pure, Result.andThen_ok, run_eqGuard_agg w BinOp.eql 33 y z _ _ eqg_no, in_eql x x w, (In.same_iff x x).2 rfl]
    unfold Oper.wp
    rw [hr]
    exact hK _ _ hk
theorem two_at {k : Nat} (hk : k < 2) (a b : Value) : (#[a, b] : Array Value)[k]? = some (if k = 0 then a else b) := by
  have : k = 0 ∨ k = 1 := by omega
  rcases this with rfl | rfl <;> rfl

set_option maxRecDepth 100000 in
set_option maxHeartbeats 4000000 in
theorem preads_walk (t : List UInt8) (ht : t.length ≤ 100000) (w : World) (hg : Gl w) :
    Calls Tryz.prog 12 #[str t] w fun e w' => e = .returned (.bool true) ∧ Only [] w w' := by
  have HG := Lib.hid hg
  have HRp : Hid (∀ W, Gl W → Calls Tryz.prog 15 #[str t] W fun e w' => ∃ p c, e = .returned (.tuple #[.slice p (rdA t).1.length c, .int .i64 (rdA t).2.1, .int .i64 (rdA t).2.2]) ∧ InR w' W.heap.size (.slice p (rdA t).1.length c) (rdA t).1 ∧ Only [] W w') := Lib.hid (fun W hgW => by
    refine (pread_any t (by omega) W hgW).mono ?_
    rintro e w' ⟨v, rfl, hR, hO⟩
    obtain ⟨p, c, rfl⟩ := hR.ins.len
    exact ⟨p, c, rfl, hR, hO⟩)
  have HRr : Hid (∀ W, Calls Tryz.prog 28 #[str t] W fun e w' => ∃ p c, e = .returned (.tuple #[.slice p (rdA t).1.length c, .int .i64 (rdA t).2.1, .int .i64 (rdA t).2.2]) ∧ InR w' W.heap.size (.slice p (rdA t).1.length c) (rdA t).1 ∧ Only [] W w') := Lib.hid (fun W => by
    refine (rpread_any t (by omega) W).mono ?_
    rintro e w' ⟨v, rfl, hR, hO⟩
    obtain ⟨p, c, rfl⟩ := hR.ins.len
    exact ⟨p, c, rfl, hR, hO⟩)
  have HOp := Lib.hid (fun W hgW => one_any t (by omega) W hgW)
  have HOr := Lib.hid (fun W => rone_any t (by omega) W)
  have hlen := rd_len t
  have HSm : Hid (∀ W u v, InS W u (rdA t).1 → InS W v (rdA t).1 → Calls Tryz.prog 16 #[u, v] W fun e w' => e = .returned (.bool true) ∧ Only [] W w') := Lib.hid (fun W u v hu hv => by
    have := same_program (rdA t).1 (rdA t).1 (by omega) (by omega) u v W hu hv
    rw [decide_eq_true (rfl : (rdA t).1 = (rdA t).1)] at this
    exact this)
  clear hg
  generalize (rdA t).2.1 = n at *
  generalize (rdA t).2.2 = er at *
  generalize (rdA t).1 = A at *
  generalize oneX t = x at *
  generalize oneE t = ee at *
  have hs2 := In.same_self x
  go_enter Tryz.func12, Tryz.ntmps12
  go_upto_region 2 with (go_at_call 15; refine (HRp.out _ HG.out).mono ?_; rintro e w1 ⟨p1, c1, rfl, hR1, hO1⟩)
  have HR1 := Lib.hid hR1
  clear hR1
  go_upto_region 3 with (go_at_call 28; refine (HRr.out _).mono ?_; rintro e w2 ⟨p2, c2, rfl, hR2, hO2⟩)
  have HR2 := Lib.hid hR2
  have HO2 := Lib.hid (hO1.trans hO2)
  clear hR2
  go_upto_region 4 with (first
    | (go_at_call 18; refine (HOp.out _ (HG.out.only HO2.out)).mono ?_; rintro e w3 ⟨rfl, hO3⟩)
    | (refine wpList_st 33 x.cs.toList w3.heap.size 0 _ _ rfl (by kernel_rfl) rfl rfl rfl rfl (Blk.new w3 33 (In.only 0).cs) (Nat.le_of_ble_eq_true rfl) ?_; intro w4 hB4 hO4))
  have HB4 := Lib.hid (blk_setL (x := x) (y := In.only 0) hB4)
  have hO34 : Only [] w2 w4 := (hO3.alloc (.cells (In.only 0).cs 33)).trans' hO4 (by intro z hz hlt; simp at hz; have := hO3.size; omega)
  have HO4 := Lib.hid (HO2.out.trans hO34)
  clear hB4 hO4 hO3
  go_upto_region 5 with (first
    | (go_at_call 29; refine (HOr.out _).mono ?_; rintro e w5 ⟨rfl, hO5⟩)
    | (refine wpList_st 33 x.cs.toList w5.heap.size 0 _ _ rfl (by kernel_rfl) rfl rfl rfl rfl (Blk.new w5 33 (In.only 0).cs) (Nat.le_of_ble_eq_true rfl) ?_; intro w6 hB6 hO6))
  have HB6 := Lib.hid (blk_setL (x := x) (y := In.only 0) hB6)
  have hO56 : Only [] w4 w6 := (hO5.alloc (.cells (In.only 0).cs 33)).trans' hO6 (by intro z hz hlt; simp at hz; have := hO5.size; omega)
  have HO6 := Lib.hid (HO4.out.trans hO56)
  clear hB6 hO6 hO5
  go_upto_region 6 with (go_at_call 15; refine (HRp.out _ (HG.out.only HO6.out)).mono ?_; rintro e w7 ⟨p7, c7, rfl, hR7, hO7⟩)
  have HW : Hid (∀ W, Only [] w7 W → InS W (.slice p1 A.length c1) A ∧ InS W (.slice p2 A.length c2) A ∧ W.rangeAt w3.heap.size 0 x.cs.toList ∧ W.rangeAt w5.heap.size 0 x.cs.toList ∧ Only [] w W ∧
      SW (W.alloc (.cells #[.slice p1 A.length c1, .slice p7 A.length c7] 22)) w.heap.size W.heap.size #[.slice p1 A.length c1, .slice p7 A.length c7] (F1 2 (fun j => if j = 0 then .slice p1 A.length c1 else .slice p7 A.length c7) (fun _ => A)) (W.alloc (.cells #[.slice p1 A.length c1, .slice p7 A.length c7] 22))) := Lib.hid (by
    intro W hW
    have h2W : Only [] w2 W := ((hO34.trans hO56).trans hO7).trans hW
    have h1W : Only [] w1 W := hO2.trans h2W
    have h6W : Only [] w6 W := hO7.trans hW
    have h4W : Only [] w4 W := hO56.trans h6W
    have hr1 := HR1.out.only h1W (by simp)
    have hr7 := (hR7.only hW (by simp)).base (base' := w.heap.size) (Nat.le_trans hO1.size (Nat.le_trans hO2.size (Nat.le_trans hO34.size hO56.size)))
    have hOa : Only [] W (W.alloc (.cells #[.slice p1 A.length c1, .slice p7 A.length c7] 22)) := (Only.refl _ _).alloc _
    refine ⟨hr1.ins, (HR2.out.only h2W (by simp)).ins, Blk.rng (h4W.blk HB4.out (by simp)), Blk.rng (h6W.blk HB6.out (by simp)), hO1.trans h1W, ⟨?_, ?_⟩, Blk.new _ _ _, OnlyB.refl _ _ _, Nat.le_trans (hO1.trans h1W).size hOa.size, fun b t cs _ h => h⟩
    · rintro k v l ⟨hk, rfl, rfl⟩
      by_cases h0 : k = 0
      · simp only [h0, if_true]
        exact hr1.only hOa (by simp)
      · simp only [h0, if_false]
        exact hr7.only hOa (by simp)
    · have key : ∀ b, (Value.slice p1 A.length c1).ownBlock = some b → (Value.slice p7 A.length c7).ownBlock = some b → False := fun b h1 h7 => by
        have e1 := (HR1.out.own h1).2.1
        have e7 := (hR7.own h7).1
        have := Nat.le_trans hO2.size (Nat.le_trans hO34.size hO56.size)
        omega
      rintro k k' v v' l l' b ⟨hk, rfl, -⟩ ⟨hk', rfl, -⟩ h1 h2
      by_cases e1 : k = 0 <;> by_cases e2 : k' = 0
      · omega
      · simp only [e1, if_true] at h1
        simp only [e2, if_false] at h2
        exact (key b h1 h2).elim
      · simp only [e1, if_false] at h1
        simp only [e2, if_true] at h2
        exact (key b h2 h1).elim
      · omega)
  have hA7 : Only [] w7 w7 := Only.refl _ _
  clear hR7 hO1 hO2 hO34 hO56 hO7
  have hnn : (n == n) = true := by simp
  have hrr : (er == er) = true := by simp
  have hee : (ee == ee) = true := by simp
  go_wp2_with (first
    | (go_at_call 16; refine (HSm.out _ _ _ (HW.out _ hA7).1 (HW.out _ hA7).2.1).mono ?_; rintro e w8 ⟨rfl, hO8⟩; have hA8 := hA7.trans hO8)
    | (refine wpList_ld 33 x w3.heap.size 0 _ rfl (.inl rfl) rfl rfl (HW.out _ hA8).2.2.1 ?_)
    | (refine wpList_ld 33 x w5.heap.size 0 _ rfl (.inl rfl) rfl rfl (HW.out _ hA8).2.2.2.1 ?_)
    | (refine wpList_eql _ _ rfl rfl x rfl rfl ?_)
    | (go_at_call 30; refine (apartP_any 2 w8.heap.size 2 w.heap.size _ _ _ _ (by omega) (by omega) (Nat.le_refl _) (fun k hk => by omega) (fun k hk => two_at hk _ _) (HW.out _ hA8).2.2.2.2.2).mono ?_; rintro e w9 ⟨rfl, hO9⟩))
  go_returns
  exact ⟨rfl, ((HW.out _ hA8).2.2.2.2.1.alloc _).thenB hO9⟩

set_option maxHeartbeats 1000000 in
theorem ptells_any (l : List In) (hll : l.length < 9223372036854775808) (hf : ∀ x ∈ l, x.Fits) (t : List UInt8) (htl : t.length < 9223372036854775808) (v : Value) (w : World) (hg : Gl w) (hv : InS w v l) :
    Calls Tryz.prog 4 #[v, str t] w fun e w' => e = .returned (.bool true) ∧ Only [] w w' := by
  have HG := Lib.hid hg
  have HA := Lib.hid (fun W (h : Only [] w W) => pawake_any W (hg.only h))
  by_cases h1 : 200 < l.length
  · have h1i : (200 : Int) < (l.length : Int) := by omega
    obtain ⟨p, c, rfl⟩ := hv.len
    clear hv
    go_enter Tryz.func4, Tryz.ntmps4
    go_wp2_with (go_at_call 8; refine (HA.out _ (Only.refl _ _)).mono ?_; rintro e w1 ⟨rfl, hO1⟩)
    go_returns
    exact ⟨rfl, hO1⟩
  · have h1i : ¬ (200 : Int) < (l.length : Int) := by omega
    by_cases h2 : 4000 < t.length
    · have h2i : (4000 : Int) < (t.length : Int) := by omega
      obtain ⟨p, c, rfl⟩ := hv.len
      clear hv
      go_enter Tryz.func4, Tryz.ntmps4
      go_wp2_with (go_at_call 8; refine (HA.out _ (Only.refl _ _)).mono ?_; rintro e w1 ⟨rfl, hO1⟩)
      go_returns
      exact ⟨rfl, hO1⟩
    · have h2i : ¬ (4000 : Int) < (t.length : Int) := by omega
      have HS := Lib.hid (pshows_any l (by omega) hf v w hg hv)
      have HR := Lib.hid (fun W (h : Only [] w W) => preads_walk t (by omega) W (hg.only h))
      obtain ⟨p, c, rfl⟩ := hv.len
      clear hv
      go_enter Tryz.func4, Tryz.ntmps4
      go_wp2_with (first
        | (go_at_call 11; refine HS.out.mono ?_; rintro e w1 ⟨rfl, hO1⟩)
        | (go_at_call 12; refine (HR.out _ hO1).mono ?_; rintro e w2 ⟨rfl, hO2⟩)
        | (go_at_call 8; refine (HA.out _ (hO1.trans hO2)).mono ?_; rintro e w3 ⟨rfl, hO3⟩))
      go_returns
      exact ⟨rfl, (hO1.trans hO2).trans hO3⟩
end Go.Proofs.YtagmoehjcgjnjaaGreatDoor

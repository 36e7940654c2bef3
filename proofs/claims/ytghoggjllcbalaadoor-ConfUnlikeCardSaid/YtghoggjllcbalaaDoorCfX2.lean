/- ConfUnlike of septumlaw21, walked. Conditions: the addresses are uint32; the listed variables are laid. -/
import Derived.Test.YtghoggjllcbalaaDoorCfX1
import Derived.Test.YtghoggjllcbalaaDoorCfGi
namespace Go.Proofs.YtghoggjllcbalaaDoor
open Go Go.RowKit
attribute [local go_sem ↓] str_eql str_neq cf_neq24 cf_eql24

set_option maxRecDepth 100000 in
set_option maxHeartbeats 4000000 in
theorem unlike_any (a b : Cf) (ha : a.Fits) (hb : b.Fits) (w : World) (hg : Gl w) :
    Calls Tryd.prog 4 #[a.agg, b.agg] w fun e w' => e = .returned (.bool true) ∧ Only [] w w' := by
  have HSa := Lib.hid (show_any a ha)
  have HSb := Lib.hid (show_any b hb)
  have HT : Hid (a.right = true → b.right = true → (a.text == b.text) = a.same b) := Lib.hid fun h h' => text_same ha hb h h'
  go_enter Tryd.func4, Tryd.ntmps4
  go_wp2_with fail
  have hA0 : CfB (w.alloc (.cells #[.int .i64 a.kd, .int .i64 a.ix, .int .i64 a.wo, .int .i64 a.ln, .bool a.on, .int .i64 a.rw, .int .u32 a.fr, .int .u32 a.tt, .bool a.rd, .bool a.wt, .int .i64 a.rk, .bool a.lk] 29)) w.heap.size a := Blk.new' rfl rfl
  have hB0 : CfB ((w.alloc (.cells #[.int .i64 a.kd, .int .i64 a.ix, .int .i64 a.wo, .int .i64 a.ln, .bool a.on, .int .i64 a.rw, .int .u32 a.fr, .int .u32 a.tt, .bool a.rd, .bool a.wt, .int .i64 a.rk, .bool a.lk] 29)).alloc (.cells #[.int .i64 b.kd, .int .i64 b.ix, .int .i64 b.wo, .int .i64 b.ln, .bool b.on, .int .i64 b.rw, .int .u32 b.fr, .int .u32 b.tt, .bool b.rd, .bool b.wt, .int .i64 b.rk, .bool b.lk] 29)) (w.heap.size + 1) b := Blk.new' rfl (by simp)
  have hA0 := hA0.alloc (.cells #[.int .i64 b.kd, .int .i64 b.ix, .int .i64 b.wo, .int .i64 b.ln, .bool b.on, .int .i64 b.rw, .int .u32 b.fr, .int .u32 b.tt, .bool b.rd, .bool b.wt, .int .i64 b.rk, .bool b.lk] 29)
  have hO0 := ((Only.refl [] w).alloc (.cells #[.int .i64 a.kd, .int .i64 a.ix, .int .i64 a.wo, .int .i64 a.ln, .bool a.on, .int .i64 a.rw, .int .u32 a.fr, .int .u32 a.tt, .bool a.rd, .bool a.wt, .int .i64 a.rk, .bool a.lk] 29)).alloc (.cells #[.int .i64 b.kd, .int .i64 b.ix, .int .i64 b.wo, .int .i64 b.ln, .bool b.on, .int .i64 b.rw, .int .u32 b.fr, .int .u32 b.tt, .bool b.rd, .bool b.wt, .int .i64 b.rk, .bool b.lk] 29)
  refine (awake_any _ (hg.only hO0)).mono ?_
  rintro e w1 ⟨rfl, hO1⟩
  have hA1 := hO1.cf hA0 (by simp)
  have hB1 := hO1.cf hB0 (by simp)
  have hOa := hO0.trans hO1
  clear hA0 hB0 hO0 hO1
  obtain ⟨c0, c1, c2, c3, c4, c5, c6, c7, c8, c9, c10, c11, -⟩ := hA1.c
  go_wp2_with fail
  refine (HSa.out _ (hg.only hOa)).mono ?_
  rintro e w2 ⟨rfl, hO2⟩
  have hA2 := hO2.cf hA1 (by simp)
  have hB2 := hO2.cf hB1 (by simp)
  have hOb := hOa.trans hO2
  clear hA1 hB1 hOa hO2 c0 c1 c2 c3 c4 c5 c6 c7 c8 c9 c10 c11
  obtain ⟨c0, c1, c2, c3, c4, c5, c6, c7, c8, c9, c10, c11, -⟩ := hB2.c
  go_wp2_with fail
  refine (HSb.out _ (hg.only hOb)).mono ?_
  rintro e w3 ⟨rfl, hO3⟩
  have hA3 := hO3.cf hA2 (by simp)
  have hB3 := hO3.cf hB2 (by simp)
  have hOc := hOb.trans hO3
  clear hA2 hB2 hOb hO3 c0 c1 c2 c3 c4 c5 c6 c7 c8 c9 c10 c11 HSa HSb
  obtain ⟨ra, hra⟩ : ∃ o, a.right = o := ⟨_, rfl⟩
  cases ra
  · rw [show a.err = 4 by simp [Cf.err, hra]]
    clear hra HT
    go_wp2_with fail
    go_ret
    exact ⟨rfl, hOc⟩
  rw [show a.shown = a.text by simp [Cf.shown, hra], show a.err = 0 by simp [Cf.err, hra]]
  have hlen : a.text.length ≤ 60 := text_len (Shape.of a ha hra)
  have HF := Lib.hid (fun i x h => text_fine a i x h)
  have hne : 0 < a.text.length := List.length_pos_iff.2 (text_ne a)
  obtain ⟨rb, hrb⟩ : ∃ o, b.right = o := ⟨_, rfl⟩
  obtain ⟨sm, hsm⟩ : ∃ o, a.same b = o := ⟨_, rfl⟩
  have HG := Lib.hid hg
  have hF2 : rb = true → (a.text == b.text) = sm := fun h => by rw [← hsm]; exact HT.out hra (by rw [hrb, h])
  have HS : Hid (str b.shown = str (if rb then b.text else []) ∧ b.err = if rb then 0 else 4) := ⟨by simp [Cf.shown, hrb], by simp [Cf.err, hrb]⟩
  rw [HS.out.1, HS.out.2]
  generalize a.text = ta at *
  generalize b.text = tb at *
  clear HT hra hrb HS
  have hloop : ∀ (t : Nat), True := fun _ => trivial
  clear hloop
  obtain ⟨c0, c1, c2, c3, c4, c5, c6, c7, c8, c9, c10, c11, -⟩ := hA3.c
  obtain ⟨d0, d1, d2, d3, d4, d5, d6, d7, d8, d9, d10, d11, -⟩ := hB3.c
  have hsm' : Cf.same ⟨a.kd, a.ix, a.wo, a.ln, a.on, a.rw, a.fr, a.tt, a.rd, a.wt, a.rk, a.lk⟩ ⟨b.kd, b.ix, b.wo, b.ln, b.on, b.rw, b.fr, b.tt, b.rd, b.wt, b.rk, b.lk⟩ = sm := hsm
  clear hsm
  have hsm2 : (sm != sm) = false := by simp
  have HC := Lib.hid hOc
  clear hOc
  have HB : Hid (∀ i x, ta[i]? = some x → Fine ta i x) := HF
  clear HF
  cases rb
  · simp only [Bool.false_eq_true, if_false]
    clear hF2
    have hF3 : True := trivial
    go_wp2_with fail
    go_loop [9] (fun i => ∃ k : Nat, k ≤ ta.length ∧ i = .int .i64 k) (fun i => ta.length - (intOf i).toNat)
    case atStart => exact ⟨0, Nat.zero_le _, rfl⟩
    case round =>
      obtain ⟨k, hk, rfl⟩ := hrel
      by_cases hlt : k < ta.length
      · have hF := HB.out k ta[k] (List.getElem?_eq_getElem hlt)
        have hsz : k < (ByteArray.mk ta.toArray).size := by simpa [ByteArray.size] using hlt
        have hX : ((((ByteArray.mk ta.toArray)[k]'hsz).toNat : Int) = 45 ∨ (48 ≤ (((ByteArray.mk ta.toArray)[k]'hsz).toNat : Int) ∧ (((ByteArray.mk ta.toArray)[k]'hsz).toNat : Int) ≤ 57)) ∨
            (97 ≤ (((ByteArray.mk ta.toArray)[k]'hsz).toNat : Int) ∧ (((ByteArray.mk ta.toArray)[k]'hsz).toNat : Int) ≤ 122) ∨
            ((((ByteArray.mk ta.toArray)[k]'hsz).toNat : Int) = 32 ∧ 0 < k ∧ (k : Int) < ta.length - 1 ∧ ∃ h : k - 1 < (ByteArray.mk ta.toArray).size, ¬ (((ByteArray.mk ta.toArray)[k - 1]'h).toNat : Int) = 32) := by
          have he : (ByteArray.mk ta.toArray)[k]'hsz = ta[k] := rfl
          rw [he]
          rcases hF with (h | h | h) | ⟨h1, h2, h3, d, h4, h5⟩
          · exact .inl (.inl (by omega))
          · exact .inl (.inr (by omega))
          · exact .inr (.inl (by omega))
          · refine .inr (.inr ⟨by rw [h1]; rfl, h2, by omega, by simp [ByteArray.size]; omega, ?_⟩)
            have hk1 : k - 1 < ta.length := by omega
            rw [List.getElem?_eq_getElem hk1] at h4
            injection h4 with h4
            intro h
            have hd : (ByteArray.mk ta.toArray)[k - 1]'(by simp [ByteArray.size]; omega) = ta[k - 1] := rfl
            rw [hd, h4] at h
            refine h5 (UInt8.toNat_inj.1 ?_)
            have : (32 : UInt8).toNat = 32 := rfl
            omega
        clear hF3 hF
        rcases hX with (hX | ⟨hX1, hX2⟩) | ⟨hX1, hX2⟩ | ⟨hX, hX3, hX4, hX5, hX6⟩
        all_goals
          go_wp2
          all_goals first
            | (refine ⟨⟨k + 1, by omega, by go_num⟩, ?_⟩
               simp [intOf]
               omega)
            | (exfalso; omega)
      · have hkn : ¬ ((k : Int) < ta.length) := by omega
        go_wp2
        go_ret
        exact ⟨rfl, HC.out⟩
  · simp only [if_true]
    have hF3 := hF2 rfl
    clear hF2
    go_wp2_with fail
    go_loop [9] (fun i => ∃ k : Nat, k ≤ ta.length ∧ i = .int .i64 k) (fun i => ta.length - (intOf i).toNat)
    case atStart => exact ⟨0, Nat.zero_le _, rfl⟩
    case round =>
      obtain ⟨k, hk, rfl⟩ := hrel
      by_cases hlt : k < ta.length
      · have hF := HB.out k ta[k] (List.getElem?_eq_getElem hlt)
        have hsz : k < (ByteArray.mk ta.toArray).size := by simpa [ByteArray.size] using hlt
        have hX : ((((ByteArray.mk ta.toArray)[k]'hsz).toNat : Int) = 45 ∨ (48 ≤ (((ByteArray.mk ta.toArray)[k]'hsz).toNat : Int) ∧ (((ByteArray.mk ta.toArray)[k]'hsz).toNat : Int) ≤ 57)) ∨
            (97 ≤ (((ByteArray.mk ta.toArray)[k]'hsz).toNat : Int) ∧ (((ByteArray.mk ta.toArray)[k]'hsz).toNat : Int) ≤ 122) ∨
            ((((ByteArray.mk ta.toArray)[k]'hsz).toNat : Int) = 32 ∧ 0 < k ∧ (k : Int) < ta.length - 1 ∧ ∃ h : k - 1 < (ByteArray.mk ta.toArray).size, ¬ (((ByteArray.mk ta.toArray)[k - 1]'h).toNat : Int) = 32) := by
          have he : (ByteArray.mk ta.toArray)[k]'hsz = ta[k] := rfl
          rw [he]
          rcases hF with (h | h | h) | ⟨h1, h2, h3, d, h4, h5⟩
          · exact .inl (.inl (by omega))
          · exact .inl (.inr (by omega))
          · exact .inr (.inl (by omega))
          · refine .inr (.inr ⟨by rw [h1]; rfl, h2, by omega, by simp [ByteArray.size]; omega, ?_⟩)
            have hk1 : k - 1 < ta.length := by omega
            rw [List.getElem?_eq_getElem hk1] at h4
            injection h4 with h4
            intro h
            have hd : (ByteArray.mk ta.toArray)[k - 1]'(by simp [ByteArray.size]; omega) = ta[k - 1] := rfl
            rw [hd, h4] at h
            refine h5 (UInt8.toNat_inj.1 ?_)
            have : (32 : UInt8).toNat = 32 := rfl
            omega
        clear hF3 hF
        rcases hX with (hX | ⟨hX1, hX2⟩) | ⟨hX1, hX2⟩ | ⟨hX, hX3, hX4, hX5, hX6⟩
        all_goals
          go_wp2
          all_goals first
            | (refine ⟨⟨k + 1, by omega, by go_num⟩, ?_⟩
               simp [intOf]
               omega)
            | (exfalso; omega)
      · have hkn : ¬ ((k : Int) < ta.length) := by omega
        go_wp2
        go_ret
        exact ⟨rfl, HC.out⟩
end Go.Proofs.YtghoggjllcbalaaDoor

/- ConfBack of septumlaw21, walked. Conditions: the addresses are uint32; the listed variables are laid. -/
import Derived.Test.YtghoggjllcbalaaDoorCfW
namespace Go.Proofs.YtghoggjllcbalaaDoor
open Go Go.RowKit
attribute [local go_sem ↓] str_eql str_neq cf_neq24 cf_eql24

theorem same_self (c : Cf) : c.same c = true := (Cf.same_iff c c).2 rfl
attribute [local go_sem] same_self
theorem read_back {c : Cf} (hf : c.Fits) (hr : c.right = true) (w : World) (hg : Gl w) : Calls Tryd.prog 11 #[str c.text] w fun e w' => e = .returned (.tuple #[c.agg, .int .i64 0]) ∧ Only [] w w' := by
  have h := read_text c.text (by have := text_len (Shape.of c hf hr); omega) w hg
  have k : Says c.text c := ⟨hf, hr, rfl⟩
  rw [(read_yes k).1, (read_yes k).2] at h
  exact h

set_option maxRecDepth 100000 in
set_option maxHeartbeats 4000000 in
theorem back_any (c : Cf) (hf : c.Fits) (s : List UInt8) (w : World) (hg : Gl w) :
    Calls Tryd.prog 3 #[c.agg, str s] w fun e w' => e = .returned (.bool true) ∧ Only [] w w' := by
  go_enter Tryd.func3, Tryd.ntmps3
  go_wp2_with fail
  have hE0 : CfB (w.alloc (.cells #[.int .i64 c.kd, .int .i64 c.ix, .int .i64 c.wo, .int .i64 c.ln, .bool c.on, .int .i64 c.rw, .int .u32 c.fr, .int .u32 c.tt, .bool c.rd, .bool c.wt, .int .i64 c.rk, .bool c.lk] 29)) w.heap.size c := Blk.new' rfl rfl
  have hO0 := (Only.refl [] w).alloc (.cells #[.int .i64 c.kd, .int .i64 c.ix, .int .i64 c.wo, .int .i64 c.ln, .bool c.on, .int .i64 c.rw, .int .u32 c.fr, .int .u32 c.tt, .bool c.rd, .bool c.wt, .int .i64 c.rk, .bool c.lk] 29)
  refine (awake_any _ (hg.only hO0)).mono ?_
  rintro e w1 ⟨rfl, hO1⟩
  have hE1 := hO1.cf hE0 (by simp)
  have hOa := hO0.trans hO1
  clear hE0 hO0 hO1
  obtain ⟨c0, c1, c2, c3, c4, c5, c6, c7, c8, c9, c10, c11, -⟩ := hE1.c
  go_wp2_with fail
  refine (show_any c hf _ (hg.only hOa)).mono ?_
  rintro e w2 ⟨rfl, hO2⟩
  have hE2 := hO2.cf hE1 (by simp)
  have hlt2 := hE2.lt
  have hOb := hOa.trans hO2
  clear hE1 hOa hO2 c0 c1 c2 c3 c4 c5 c6 c7 c8 c9 c10 c11
  obtain ⟨c0, c1, c2, c3, c4, c5, c6, c7, c8, c9, c10, c11, -⟩ := hE2.c
  obtain ⟨rg, hrg⟩ : ∃ o, c.right = o := ⟨_, rfl⟩
  have HR := Lib.hid (right_any c)
  rw [hrg] at HR
  have Hg := Lib.hid hrg
  cases rg
  · rw [show c.shown = [] by simp [Cf.shown, hrg], show c.err = 4 by simp [Cf.err, hrg]]
    clear hrg
    go_wp2_with fail
    refine (HR.out _).mono ?_
    rintro e w3 ⟨rfl, hO3⟩
    have hOz := hOb.trans hO3
    clear hE2 hOb hO3 c0 c1 c2 c3 c4 c5 c6 c7 c8 c9 c10 c11
    obtain ⟨w4, hw4⟩ : ∃ x, x = w3 := ⟨_, rfl⟩
    rw [← hw4] at hOz ⊢
    clear hw4
    have te : ([] == ([] : List UInt8)) = true := rfl
    go_wp2_with fail
    · go_ret
      exact ⟨rfl, hOz⟩
    · have hlen2 : s.length < 1000000 := by omega
      have hrd := read_text s hlen2 _ (hg.only (hOz))
      by_cases hs : ∃ d, Says s d
      · obtain ⟨d, hd⟩ := hs
        rw [(read_yes hd).1, (read_yes hd).2] at hrd
        refine hrd.mono ?_
        rintro e w5 ⟨rfl, hO5⟩
        have hOf := (hOz).trans hO5
        obtain ⟨hdf, hdr, hdt⟩ := hd
        have HS := Lib.hid (show_ok d hdf hdr)
        have HT := Lib.hid (right_any d)
        rw [hdt] at HS
        rw [hdr] at HT
        clear hdf hdr hdt hrd hO5
        go_wp2_with fail
        have hD : CfB (w5.alloc (.cells #[.int .i64 d.kd, .int .i64 d.ix, .int .i64 d.wo, .int .i64 d.ln, .bool d.on, .int .i64 d.rw, .int .u32 d.fr, .int .u32 d.tt, .bool d.rd, .bool d.wt, .int .i64 d.rk, .bool d.lk] 29)) w5.heap.size d := Blk.new' rfl rfl
        refine (HS.out _ (hg.only (hOf.alloc _))).mono ?_
        rintro e w6 ⟨rfl, hO6⟩
        have hD6 := hO6.cf hD (by simp)
        have hOg := (hOf.alloc _).trans hO6
        clear hD hOf hO6
        obtain ⟨d0, d1, d2, d3, d4, d5, d6, d7, d8, d9, d10, d11, -⟩ := hD6.c
        have hlt6 := hD6.lt
        go_wp2_with fail
        refine (HT.out _).mono ?_
        rintro e w7 ⟨rfl, hO7⟩
        have ts : (s == s) = true := by simp
        go_wp2_with fail
        go_ret
        exact ⟨rfl, hOg.trans hO7⟩
      · have hno := read_no (s := s) (fun d hd => hs ⟨d, hd⟩)
        rw [hno.1, hno.2] at hrd
        clear hno hs
        refine hrd.mono ?_
        rintro e w5 ⟨rfl, hO5⟩
        have hOf := (hOz).trans hO5
        clear hrd hO5
        rw [show Cf.none.agg = .agg #[.int .i64 0, .int .i64 0, .int .i64 0, .int .i64 0, .bool false, .int .i64 0, .int .u32 0, .int .u32 0, .bool false, .bool false, .int .i64 0, .bool false] from rfl]
        go_wp2_with fail
        go_ret
        exact ⟨rfl, by repeat (first | with_reducible exact hOf | with_reducible refine Only.alloc ?_ _)⟩
  · rw [show c.shown = c.text by simp [Cf.shown, hrg], show c.err = 0 by simp [Cf.err, hrg]]
    go_wp2_with fail
    refine (HR.out _).mono ?_
    rintro e w3 ⟨rfl, hO3⟩
    have hE3 := hO3.cf hE2 (by simp)
    have hOc := hOb.trans hO3
    clear hE2 hOb hO3 c0 c1 c2 c3 c4 c5 c6 c7 c8 c9 c10 c11
    go_wp2_with fail
    refine (read_back hf hrg _ (hg.only hOc)).mono ?_
    rintro e w4 ⟨rfl, hO4⟩
    have hE4 := hO4.cf hE3 (by simp)
    have hOz := hOc.trans hO4
    clear hE3 hOc hO4
    obtain ⟨c0, c1, c2, c3, c4, c5, c6, c7, c8, c9, c10, c11, -⟩ := hE4.c
    clear hrg
    have hlt := hE4.lt
    have hOy := hOz.alloc (.cells #[.int .i64 c.kd, .int .i64 c.ix, .int .i64 c.wo, .int .i64 c.ln, .bool c.on, .int .i64 c.rw, .int .u32 c.fr, .int .u32 c.tt, .bool c.rd, .bool c.wt, .int .i64 c.rk, .bool c.lk] 29)
    go_wp2_with fail
    · go_ret
      exact ⟨rfl, hOy⟩
    · have hlen2 : s.length < 1000000 := by omega
      have hrd := read_text s hlen2 _ (hg.only (hOy))
      by_cases hs : ∃ d, Says s d
      · obtain ⟨d, hd⟩ := hs
        rw [(read_yes hd).1, (read_yes hd).2] at hrd
        refine hrd.mono ?_
        rintro e w5 ⟨rfl, hO5⟩
        have hOf := (hOy).trans hO5
        obtain ⟨hdf, hdr, hdt⟩ := hd
        have HS := Lib.hid (show_ok d hdf hdr)
        have HT := Lib.hid (right_any d)
        rw [hdt] at HS
        rw [hdr] at HT
        clear hdf hdr hdt hrd hO5
        go_wp2_with fail
        have hD : CfB (w5.alloc (.cells #[.int .i64 d.kd, .int .i64 d.ix, .int .i64 d.wo, .int .i64 d.ln, .bool d.on, .int .i64 d.rw, .int .u32 d.fr, .int .u32 d.tt, .bool d.rd, .bool d.wt, .int .i64 d.rk, .bool d.lk] 29)) w5.heap.size d := Blk.new' rfl rfl
        refine (HS.out _ (hg.only (hOf.alloc _))).mono ?_
        rintro e w6 ⟨rfl, hO6⟩
        have hD6 := hO6.cf hD (by simp)
        have hOg := (hOf.alloc _).trans hO6
        clear hD hOf hO6
        obtain ⟨d0, d1, d2, d3, d4, d5, d6, d7, d8, d9, d10, d11, -⟩ := hD6.c
        have hlt6 := hD6.lt
        go_wp2_with fail
        refine (HT.out _).mono ?_
        rintro e w7 ⟨rfl, hO7⟩
        have ts : (s == s) = true := by simp
        go_wp2_with fail
        go_ret
        exact ⟨rfl, hOg.trans hO7⟩
      · have hno := read_no (s := s) (fun d hd => hs ⟨d, hd⟩)
        rw [hno.1, hno.2] at hrd
        clear hno hs
        refine hrd.mono ?_
        rintro e w5 ⟨rfl, hO5⟩
        have hOf := (hOy).trans hO5
        clear hrd hO5
        rw [show Cf.none.agg = .agg #[.int .i64 0, .int .i64 0, .int .i64 0, .int .i64 0, .bool false, .int .i64 0, .int .u32 0, .int .u32 0, .bool false, .bool false, .int .i64 0, .bool false] from rfl]
        go_wp2_with fail
        go_ret
        exact ⟨rfl, by repeat (first | with_reducible exact hOf | with_reducible refine Only.alloc ?_ _)⟩
end Go.Proofs.YtghoggjllcbalaaDoor

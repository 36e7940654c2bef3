/- The stepper of layer 14 (steps), walked: an engine's step is the document's. Conditions: both blocks as Of makes them, of one state that fits. -/
import Derived.Test.YtnnlnffdbdpmbaaRefC
import Derived.Test.YtnnlnffdbdpmbaaDmaE
import Derived.Test.YtnnlnffdbdpmbaaDmaF
import Derived.Test.YtnnlnffdbdpmbaaStageD
namespace Go.Proofs.Ytnnlnffdbdpmbaa
open Go Go.RowKit

theorem access_eq (wd a d : Int) (x : Bool) (w : World) : (binOp .eql 30 (.agg #[.int .i64 wd, .bool x, .int .u32 a, .int .i64 4, .int .u32 d]) (.agg #[.int .i64 wd, .bool x, .int .u32 a, .int .i64 4, .int .u32 d])).run Try.prog w = .ok (.bool true) w := by
  simp [go_sem]

/-- What the stepper's asker does. -/
def StepR (ba : Nat) (v e : Int) (val err : Int) (w w' : World) : Prop := val = v ∧ err = e ∧ Only [ba] w w' ∧ Blk w' ba 3 #[.int .i64 1]

set_option maxHeartbeats 1000000 in
theorem steps_ask (wd a d v e : Int) (x : Bool) (bw ba bz : Nat) (w : World) (hw : Blk w bw 30 #[.int .i64 wd, .bool x, .int .u32 a, .int .i64 4, .int .u32 d]) (ha : Blk w ba 3 #[.int .i64 0]) (hz : Blk w bz 33 #[.int .u32 v, .int .i64 e]) :
    Calls Try.prog 37 #[.agg #[.int .i64 wd, .bool x, .int .u32 a, .int .i64 4, .int .u32 d], .pointer (some ⟨bw, 0, none⟩), .pointer (some ⟨ba, 0, none⟩), .pointer (some ⟨bz, 0, none⟩)] w fun r w' => ∃ val err, r = .returned (reply val err) ∧ StepR ba v e val err w w' := by
  have l1 := hw.lt
  have l2 := ha.lt
  have l3 := hz.lt
  have n1 : ¬ ba = bz := fun h => Blk.ne_ ha hz (by decide) h
  have n2 : ¬ bz = ba := fun h => n1 h.symm
  have a0 : w.cell? ⟨bw, 0, none⟩ = some (.int .i64 wd) := hw.cell 0
  have a1 : w.cell? ⟨bw, 1, none⟩ = some (.bool x) := hw.cell 1
  have a2 : w.cell? ⟨bw, 2, none⟩ = some (.int .u32 a) := hw.cell 2
  have a3 : w.cell? ⟨bw, 3, none⟩ = some (.int .i64 4) := hw.cell 3
  have a4 : w.cell? ⟨bw, 4, none⟩ = some (.int .u32 d) := hw.cell 4
  have b0 : w.cell? ⟨ba, 0, none⟩ = some (.int .i64 0) := ha.cell 0
  have f0 := ha.frozen 0
  have z0 : w.cell? ⟨bz, 0, none⟩ = some (.int .u32 v) := hz.cell 0
  have z1 : w.cell? ⟨bz, 1, none⟩ = some (.int .i64 e) := hz.cell 1
  have heq := fun w => access_eq wd a d x w
  have hne : ¬ ba = w.heap.size + 1 := by omega
  have hne0 : ¬ ba = w.heap.size := by omega
  go_enter Try.func37, Try.ntmps37
  go_wp2
  go_returns
  refine ⟨v, e, rfl, rfl, rfl, ?_, ?_⟩
  · repeat (first | (with_reducible exact Only.refl _ _) | (with_reducible refine Only.alloc ?_ _) | (with_reducible refine Only.set1 ?_ (by simp) _ _) | (with_reducible refine Only.setCell ?_ (.inr (by simp)) _))
  · exact ((ha.set_ 0 _).alloc _).alloc _

theorem steps_asker (wd a d v e : Int) (x : Bool) (b bw ba bz : Nat) (w : World) (s : ES) (hE : EngB w b s) (hw : Blk w bw 30 #[.int .i64 wd, .bool x, .int .u32 a, .int .i64 4, .int .u32 d]) (ha : Blk w ba 3 #[.int .i64 0]) (hz : Blk w bz 33 #[.int .u32 v, .int .i64 e]) :
    Asker w [ba] b 37 #[] #[.pointer (some ⟨bw, 0, none⟩), .pointer (some ⟨ba, 0, none⟩), .pointer (some ⟨bz, 0, none⟩)] (.agg #[.int .i64 wd, .bool x, .int .u32 a, .int .i64 4, .int .u32 d]) (StepR ba v e) where
  run := fun args w => by kernel_rfl
  ask := fun w1 h1 => steps_ask wd a d v e x bw ba bz w1 (h1.blk hw (by simp)) (h1.blk ha (by simp)) (h1.blk hz (by simp))
  only := fun _ _ _ _ h => h.2.2.1
  low := fun y hy => by
    have : y = ba := by simpa using hy
    subst this
    exact ha.lt
  own := fun hm => Blk.ne_ hE ha (by decide) (by simpa using hm)

set_option maxHeartbeats 2000000 in
theorem steps_any (b r : Nat) (s : ES) (wd val err : Int) (w : World) (hE : EngB w b s) (hR : RefB w r s) (hh : s.has = false → s.h = 0) :
    Calls Try.prog 19 #[.pointer (some ⟨b, 0, none⟩), .pointer (some ⟨r, 0, none⟩), .int .i64 wd, reply val err] w fun e w' => e = .returned (.bool true) ∧ EngB w' b (if s.busy then s.told val err else s) ∧ RefB w' r (if s.busy then s.told val err else s) ∧ Only [b, r] w w' := by
  have hlt := hE.lt
  have hltr := hR.lt
  have hbr : b ≠ r := Blk.ne_ hE hR (by decide)
  go_enter Try.func19, Try.ntmps19
  go_wp2_with fail
  refine (rnext_any r s wd _ (hR.alloc _)).mono ?_
  rintro e w1 ⟨rfl, hO1⟩
  have hE1 : EngB w1 b s := hO1.blk (hE.alloc _) (by simp)
  have hR1 : RefB w1 r s := hO1.blk (hR.alloc _) (by simp)
  have hz1 : Blk w1 w.heap.size 33 #[.int .u32 val, .int .i64 err] := hO1.blk (Blk.new' rfl rfl) (by simp)
  have hO := ((Only.refl [] w).alloc _).trans hO1
  have hs1 : w.heap.size < w1.heap.size := hz1.lt
  clear hO1 hE hR
  obtain ⟨f, t, l, h, has, busy, den, done, calls⟩ := s
  unfold ES.next
  simp only at hh
  cases busy
  · simp only [if_false, Bool.false_eq_true]
    go_wp2_with fail
    refine (step_idle b _ _ wd _ ((hE1.alloc _).alloc _) rfl).mono ?_
    rintro e w2 ⟨rfl, hO2⟩
    have ha2 : Blk w2 (w1.heap.size + 1) 3 #[.int .i64 0] := hO2.blk (Blk.new' rfl (by simp)) (by simp)
    have hE2 : EngB w2 b _ := hO2.blk ((hE1.alloc _).alloc _) (by simp)
    have hR2 : RefB w2 r _ := hO2.blk ((hR1.alloc _).alloc _) (by simp)
    have hO3 := ((hO.alloc _).alloc _).trans hO2
    have a0 : w2.cell? ⟨w1.heap.size + 1, 0, none⟩ = some (.int .i64 0) := ha2.cell 0
    clear hO2 hO hE1 hR1 hz1
    go_wp2_with fail
    go_returns
    exact ⟨rfl, hE2, hR2, hO3.mono (by simp)⟩
  · simp only [if_true]
    have hbn : b < w1.heap.size := by omega
    have hrn : r < w1.heap.size := by omega
    cases has
    · obtain rfl := hh rfl
      simp only [ES.asks, if_false, Bool.false_eq_true]
      go_wp2_with fail
      have hA := steps_asker wd f 0 val err false b w1.heap.size (w1.heap.size + 1) w.heap.size _ _ ((hE1.alloc (.cells #[.int .i64 wd, .bool false, .int .u32 f, .int .i64 4, .int .u32 0] 30)).alloc (.cells #[.int .i64 0] 3)) ((Blk.new' rfl rfl).alloc _) (Blk.new' rfl (by simp)) ((hz1.alloc _).alloc _)
      have hO2 : Only [] w ((w1.alloc (.cells #[.int .i64 wd, .bool false, .int .u32 f, .int .i64 4, .int .u32 0] 30)).alloc (.cells #[.int .i64 0] 3)) := (hO.alloc _).alloc _
      have hR2 : RefB ((w1.alloc (.cells #[.int .i64 wd, .bool false, .int .u32 f, .int .i64 4, .int .u32 0] 30)).alloc (.cells #[.int .i64 0] 3)) r _ := (hR1.alloc _).alloc _
      have hz2 : Blk ((w1.alloc (.cells #[.int .i64 wd, .bool false, .int .u32 f, .int .i64 4, .int .u32 0] 30)).alloc (.cells #[.int .i64 0] 3)) w.heap.size 33 #[.int .u32 val, .int .i64 err] := (hz1.alloc _).alloc _
      refine (step_read b _ _ _ _ wd _ ((hE1.alloc _).alloc _) rfl rfl rfl _ _ hA).mono ?_
      rintro e w3 ⟨val', err', wa, wb, rr, cs, hOa, ⟨rfl, rfl, hOn, hone⟩, rfl, hE3, hrr, hcs, hO3⟩
      simp only [World.size_alloc] at hrr
      have hn1 : r ∉ [w1.heap.size + 1] := by simp; omega
      have hn2 : r ∉ [b, rr] := by simp; omega
      have hn3 : w.heap.size ∉ [w1.heap.size + 1] := by simp; omega
      have hn4 : w.heap.size ∉ [b, rr] := by simp; omega
      have hn5 : w1.heap.size + 1 ∉ [b, rr] := by simp; omega
      have hR3 : RefB w3 r _ := hO3.blk (hOn.blk (hOa.blk hR2 (by simp)) hn1) hn2
      have hz3 := hO3.blk (hOn.blk (hOa.blk hz2 (by simp)) hn3) hn4
      have ha3 := hO3.blk hone hn5
      have hO4 : Only [b] w w3 := (((hO2.trans hOa).mono (by simp) : Only [b] w wa).trans' hOn (by simp; omega)).trans' hO3 (by simp; omega)
      have z0 : w3.cell? ⟨w.heap.size, 0, none⟩ = some (.int .u32 val') := hz3.cell 0
      have z1 : w3.cell? ⟨w.heap.size, 1, none⟩ = some (.int .i64 err') := hz3.cell 1
      clear hA hO2 hR2 hz2 hOa hOn hone hO3 hz3 hO hE1 hR1 hz1 hcs
      go_wp2_with fail
      refine (rtold_any r _ val' err' _ hR3 rfl).mono ?_
      rintro e w4 ⟨rfl, hR4, hO5⟩
      have hE4 : EngB w4 b _ := hO5.blk hE3 (by simpa using hbr)
      have ha4 := hO5.blk ha3 (by simp; omega)
      have a0 : w4.cell? ⟨w1.heap.size + 1, 0, none⟩ = some (.int .i64 1) := ha4.cell 0
      have hO6 : Only [b, r] w w4 := (hO4.mono (by simp) : Only [b, r] w w3).trans' hO5 (by simp)
      clear hO5 hO4 hE3 hR3 ha3 z0 z1
      go_wp2_with fail
      go_returns
      exact ⟨rfl, hE4, hR4, hO6⟩
    · simp only [ES.asks, if_true]
      go_wp2_with fail
      have hA := steps_asker wd t h val err true b w1.heap.size (w1.heap.size + 1) w.heap.size _ _ ((hE1.alloc (.cells #[.int .i64 wd, .bool true, .int .u32 t, .int .i64 4, .int .u32 h] 30)).alloc (.cells #[.int .i64 0] 3)) ((Blk.new' rfl rfl).alloc _) (Blk.new' rfl (by simp)) ((hz1.alloc _).alloc _)
      have hO2 : Only [] w ((w1.alloc (.cells #[.int .i64 wd, .bool true, .int .u32 t, .int .i64 4, .int .u32 h] 30)).alloc (.cells #[.int .i64 0] 3)) := (hO.alloc _).alloc _
      have hR2 : RefB ((w1.alloc (.cells #[.int .i64 wd, .bool true, .int .u32 t, .int .i64 4, .int .u32 h] 30)).alloc (.cells #[.int .i64 0] 3)) r _ := (hR1.alloc _).alloc _
      have hz2 : Blk ((w1.alloc (.cells #[.int .i64 wd, .bool true, .int .u32 t, .int .i64 4, .int .u32 h] 30)).alloc (.cells #[.int .i64 0] 3)) w.heap.size 33 #[.int .u32 val, .int .i64 err] := (hz1.alloc _).alloc _
      refine (step_write b _ _ _ _ wd _ ((hE1.alloc _).alloc _) rfl rfl _ _ hA).mono ?_
      rintro e w3 ⟨val', err', wa, wb, rr, cs, hOa, ⟨rfl, rfl, hOn, hone⟩, rfl, hE3, hrr, hcs, hO3⟩
      simp only [World.size_alloc] at hrr
      have hn1 : r ∉ [w1.heap.size + 1] := by simp; omega
      have hn2 : r ∉ [b, rr] := by simp; omega
      have hn3 : w.heap.size ∉ [w1.heap.size + 1] := by simp; omega
      have hn4 : w.heap.size ∉ [b, rr] := by simp; omega
      have hn5 : w1.heap.size + 1 ∉ [b, rr] := by simp; omega
      have hR3 : RefB w3 r _ := hO3.blk (hOn.blk (hOa.blk hR2 (by simp)) hn1) hn2
      have hz3 := hO3.blk (hOn.blk (hOa.blk hz2 (by simp)) hn3) hn4
      have ha3 := hO3.blk hone hn5
      have hO4 : Only [b] w w3 := (((hO2.trans hOa).mono (by simp) : Only [b] w wa).trans' hOn (by simp; omega)).trans' hO3 (by simp; omega)
      have z0 : w3.cell? ⟨w.heap.size, 0, none⟩ = some (.int .u32 val') := hz3.cell 0
      have z1 : w3.cell? ⟨w.heap.size, 1, none⟩ = some (.int .i64 err') := hz3.cell 1
      clear hA hO2 hR2 hz2 hOa hOn hone hO3 hz3 hO hE1 hR1 hz1 hcs
      go_wp2_with fail
      refine (rtold_any r _ val' err' _ hR3 rfl).mono ?_
      rintro e w4 ⟨rfl, hR4, hO5⟩
      have hE4 : EngB w4 b _ := hO5.blk hE3 (by simpa using hbr)
      have ha4 := hO5.blk ha3 (by simp; omega)
      have a0 : w4.cell? ⟨w1.heap.size + 1, 0, none⟩ = some (.int .i64 1) := ha4.cell 0
      have hO6 : Only [b, r] w w4 := (hO4.mono (by simp) : Only [b, r] w w3).trans' hO5 (by simp)
      clear hO5 hO4 hE3 hR3 ha3 z0 z1
      go_wp2_with fail
      go_returns
      exact ⟨rfl, hE4, hR4, hO6⟩
end Go.Proofs.Ytnnlnffdbdpmbaa

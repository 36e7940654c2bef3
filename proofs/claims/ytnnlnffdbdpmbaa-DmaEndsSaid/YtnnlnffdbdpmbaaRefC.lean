/- The document's engine of layer 14: its Next and Told, walked. Conditions: its block as Of makes it; words of their kinds. -/
import Derived.Test.YtnnlnffdbdpmbaaRefA
import Derived.Test.YtnnlnffdbdpmbaaDmaD
import Derived.Deep.RegionWith
namespace Go.Proofs.Ytnnlnffdbdpmbaa
open Go Go.RowKit

/-- What Next answers. -/
def ES.next (s : ES) (wd : Int) : Value := if s.busy then .tuple #[s.asks wd, .bool true] else .tuple #[.agg #[.int .i64 0, .bool false, .int .u32 0, .int .i64 0, .int .u32 0], .bool false]

set_option maxHeartbeats 4000000 in
theorem rnext_any (b : Nat) (s : ES) (wd : Int) (w : World) (hb : RefB w b s) :
    Calls Try.prog 36 #[.pointer (some ⟨b, 0, none⟩), .int .i64 wd] w fun e w' => e = .returned (s.next wd) ∧ Only [] w w' := by
  have hlt := hb.lt
  obtain ⟨c0, c1, c2, c3, c4, c5, c6, c7, c8, -⟩ := hb.c
  obtain ⟨f, t, l, h, has, busy, den, done, calls⟩ := s
  simp only at *
  have hO : Only [] w w := Only.refl _ _
  cases busy <;> cases has
  iterate 3
    · go_enter Try.func36, Try.ntmps36
      go_wp2
      go_returns
      refine ⟨?_, ?_⟩
      · first | rfl | (simp [ES.next, ES.asks])
      · repeat (first | exact Only.refl _ _ | refine Only.setCell ?_ (.inr (by simp)) _ | refine Only.alloc ?_ _)
  go_enter Try.func36, Try.ntmps36
  go_wp2
  go_region_with fail
  all_goals
    go_wp2
    go_returns
    refine ⟨?_, ?_⟩
    · first | rfl | (simp [ES.next, ES.asks])
    · repeat (first | exact Only.refl _ _ | refine Only.drew ?_ | refine Only.setCell ?_ (.inr (by simp)) _ | refine Only.alloc ?_ _)

set_option maxHeartbeats 4000000 in
theorem rtold_any (b : Nat) (s : ES) (val err : Int) (w : World) (hb : RefB w b s) (hi : s.busy = true) :
    Calls Try.prog 38 #[.pointer (some ⟨b, 0, none⟩), reply val err] w fun e w' => e = .returned (.tuple #[]) ∧ RefB w' b (s.told val err) ∧ Only [b] w w' := by
  have hlt := hb.lt
  have hne : ¬ w.heap.size = b := by omega
  have hne' : ¬ b = w.heap.size := by omega
  obtain ⟨c0, c1, c2, c3, c4, c5, c6, c7, c8, fr⟩ := hb.c
  have f0 := fr 0
  have f1 := fr 1
  have f2 := fr 2
  have f3 := fr 3
  have f4 := fr 4
  have f5 := fr 5
  have f6 := fr 6
  have f7 := fr 7
  clear fr
  have hO : Only [b] w w := Only.refl _ _
  obtain ⟨f, t, l, h, has, busy, den, done, calls⟩ := s
  simp only at *
  subst hi
  by_cases he : err = 0
  · subst he
    cases has
    · go_enter Try.func38, Try.ntmps38
      go_wp2
      go_returns
      refine ⟨rfl, ?_, by repeat (first | (with_reducible refine Only.alloc ?_ _) | (with_reducible refine Only.set1 ?_ (by simp) _ _) | (with_reducible exact hO))⟩
      exact (((hb.set_ 4 _).set_ 3 _).set_ 0 _).alloc _
    · by_cases hl : (l - 1) % 4294967296 = 0
      · have n1 : ((l - 1) % 4294967296 == 0) = true := by simpa using hl
        have n2 : decide ((l - 1) % 4294967296 > 0) = false := by simp; omega
        go_enter Try.func38, Try.ntmps38
        go_wp2
        go_returns
        refine ⟨rfl, ?_, by repeat (first | (with_reducible refine Only.alloc ?_ _) | (with_reducible refine Only.set1 ?_ (by simp) _ _) | (with_reducible exact hO))⟩
        simp only [ES.told, ne_eq, not_true, if_false, if_true, n2, Bool.not_false, Bool.or_true]
        rw [hl]
        exact ((((((hb.set_ 4 _).set_ 3 _).set_ 1 _).set_ 2 _).set_ 7 _).set_ 5 _).alloc _
      · have n1 : ((l - 1) % 4294967296 == 0) = false := by simpa using hl
        have n2 : decide ((l - 1) % 4294967296 > 0) = true := by simp; omega
        go_enter Try.func38, Try.ntmps38
        go_wp2
        go_returns
        refine ⟨rfl, ?_, by repeat (first | (with_reducible refine Only.alloc ?_ _) | (with_reducible refine Only.set1 ?_ (by simp) _ _) | (with_reducible exact hO))⟩
        simp only [ES.told, ne_eq, not_true, if_false, if_true, n2, Bool.not_true, Bool.or_false]
        exact ((((hb.set_ 4 _).set_ 3 _).set_ 1 _).set_ 2 _).alloc _
  have ne : (err == 0) = false := by simpa using he
  go_enter Try.func38, Try.ntmps38
  go_wp2
  go_returns
  refine ⟨rfl, ?_, by repeat (first | (with_reducible refine Only.alloc ?_ _) | (with_reducible refine Only.set1 ?_ (by simp) _ _) | (with_reducible exact hO))⟩
  unfold ES.told
  rw [if_pos he]
  exact ((((hb.set_ 4 _).set_ 3 _).set_ 6 _).set_ 5 _).alloc _
end Go.Proofs.Ytnnlnffdbdpmbaa

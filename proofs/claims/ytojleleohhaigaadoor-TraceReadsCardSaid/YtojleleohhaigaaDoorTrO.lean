/- Show of package trace: what it leans on, walked. No condition. -/
import Derived.Test.YtojleleohhaigaaDoorTrM
import Derived.Test.YtojleleohhaigaaDoorTrR
import Derived.Test.YtojleleohhaigaaDoorTrB
import Derived.Lib.AppendStr
import Derived.Lib.UnsafeStr
namespace Go.Proofs.YtojleleohhaigaaDoor
open Go Go.RowKit

set_option maxHeartbeats 400000 in
theorem odd_5 (x1 x2 x3 x4 x5 : Int) (w : World) : Calls Tryd.prog 18 #[.agg #[.int .i64 x1, .int .i64 x2, .int .u32 x3, .int .i64 x4, .int .i64 x5]] w fun e w' => e = .returned (.bool (Ev.odd ⟨x1, x2, x3, x4, x5⟩)) ∧ Only [] w w' := odd_any ⟨x1, x2, x3, x4, x5⟩ w

set_option maxRecDepth 100000 in
set_option maxHeartbeats 2000000 in
theorem idx_any (l : List Ev) (hl : l.length ≤ 1000000) (v : Value) (w : World) (hv : EvS w v l) :
    Calls Tryd.prog 46 #[v, .func (.func 18) #[] #[]] w fun e w' => ∃ i : Int, e = .returned (.int .i64 i) ∧ decide (0 ≤ i) = l.any Ev.odd ∧ Only [] w w' := by
  rcases hv with ⟨p, c, rfl, rfl⟩ | ⟨b, off, c, rfl, h0, hlc, hb, hE⟩
  · go_enter Tryd.func46, Tryd.ntmps46
    go_wp2
    go_loopw [8] (fun s wr => s = .int .i64 0 ∧ Only [] w wr) (fun _ _ => 0)
    case atStart => exact ⟨rfl, Only.refl _ _⟩
    case round =>
      obtain ⟨rfl, hO⟩ := hrel
      go_wp2
      go_returns
      exact ⟨-1, rfl, rfl, hO⟩
  · have HE := Lib.hid hE
    clear hE
    go_enter Tryd.func46, Tryd.ntmps46
    go_wp2
    go_loopw [8] (fun s wr => ∃ k : Nat, s = .int .i64 k ∧ k ≤ l.length ∧ Hid (l.any Ev.odd = (l.drop k).any Ev.odd) ∧ Only [] w wr) (fun i _ => l.length - (intOf i).toNat)
    case atStart => exact ⟨0, rfl, by omega, rfl, Only.refl _ _⟩
    case round =>
      obtain ⟨k, rfl, hk, HR, hO⟩ := hrel
      by_cases hkl : k < l.length
      · have hki : (k : Int) < (l.length : Int) := by omega
        have hdrop : l.drop k = l[k] :: l.drop (k + 1) := List.drop_eq_getElem_cons hkl
        obtain ⟨d0, d1, d2, d3, d4⟩ := (HE.out k l[k] (by simp)).only hO hb (by simp)
        rw [hdrop] at HR
        generalize l[k] = x at HR d0 d1 d2 d3 d4
        have hlk : k < l.length := hkl
        have HD := Lib.hid (odd_5 x.cy x.kd x.va x.er x.ln)
        cases ho : x.odd with
        | true =>
          have HV : Hid (l.any Ev.odd = true) := Lib.hid (by rw [HR.out]; simp [ho])
          have ho2 : Ev.odd ⟨x.cy, x.kd, x.va, x.er, x.ln⟩ = true := ho
          rw [ho2] at HD
          clear HR HE
          go_wp2_with (go_at_call 18; refine (HD.out _).mono ?_; rintro e w' ⟨rfl, hO2⟩)
          go_returns
          exact ⟨k, rfl, by rw [HV.out]; simp, hO.trans hO2⟩
        | false =>
          have HV : Hid (l.any Ev.odd = (l.drop (k + 1)).any Ev.odd) := Lib.hid (by rw [HR.out]; simp [ho])
          have ho2 : Ev.odd ⟨x.cy, x.kd, x.va, x.er, x.ln⟩ = false := ho
          rw [ho2] at HD
          clear HR HE
          go_wp2_with (go_at_call 18; refine (HD.out _).mono ?_; rintro e w' ⟨rfl, hO2⟩)
          refine ⟨⟨k + 1, by go_num, by omega, HV, hO.trans hO2⟩, ?_⟩
          simp [intOf]
          omega
      · have hki : ¬ (k : Int) < (l.length : Int) := by omega
        have HV : Hid (l.any Ev.odd = false) := Lib.hid (by rw [HR.out, List.drop_eq_nil_of_le (by omega)]; rfl)
        clear HR
        go_wp2
        go_returns
        exact ⟨-1, rfl, by rw [HV.out]; rfl, hO⟩

set_option maxHeartbeats 1000000 in
theorem contains_any (l : List Ev) (hl : l.length ≤ 1000000) (v : Value) (w : World) (hv : EvS w v l) :
    Calls Tryd.prog 19 #[v, .func (.func 18) #[] #[]] w fun e w' => e = .returned (.bool (l.any Ev.odd)) ∧ Only [] w w' := by
  have H := Lib.hid (idx_any l hl v w hv)
  clear hv
  go_enter Tryd.func19, Tryd.ntmps19
  go_wp2_with (go_at_call 46; refine H.out.mono ?_; rintro e w' ⟨i, rfl, hi, hO⟩)
  go_returns
  exact ⟨by rw [← hi]; rfl, hO⟩

/-- A builder stands. -/
theorem builder_only {B b : Nat} {bs : List Value} {w w' : World} (h : Lib.IsBuilder 52 5 B b bs w) (hO : Only [] w w') : Lib.IsBuilder 52 5 B b bs w' := by
  have key : ∀ p, Lib.BuilderAt 52 5 B b p bs w → Lib.BuilderAt 52 5 B b p bs w' := by
    rintro p ⟨hB, v, hb, hown, hne⟩
    exact ⟨hB, v, (hO.block b (Blk.lt hb) (by simp)).trans hb, own_only0 hown hO, hne⟩
  exact h.imp (key _) (key _)
theorem builder_new {w : World} : Lib.IsBuilder 52 5 w.heap.size w.heap.size [] (w.alloc (.cells #[.pointer none, .slice none 0 0] 52)) :=
  .inl ⟨Nat.le_refl _, .slice none 0 0, Blk.new w _ _, ⟨rfl, .inl ⟨rfl, rfl⟩⟩, by simp [Value.ownBlock]⟩
theorem only_below {w0 w w' : World} (hO : Only [] w0 w) (h : Below w0.heap.size w w') : Only [] w0 w' :=
  ⟨h.os.trans hO.os, h.tape.trans hO.tape, h.output.trans hO.output, Nat.le_trans hO.size h.size, fun k hk hn => (h.block k hk).trans (hO.block k hk hn)⟩
theorem write_any (B b : Nat) (l m : List UInt8) (w : World) (h : Lib.IsBuilder 52 5 B b (Lib.byteCells l) w) (hlen : l.length + m.length ≤ 140737488355328) (hBw : B ≤ w.heap.size) :
    Calls Tryd.prog 23 #[.pointer (some ⟨b, 0, none⟩), str m] w fun e w' => (∃ v, e = .returned v) ∧ Lib.IsBuilder 52 5 B b (Lib.byteCells (l ++ m)) w' ∧ Below B w w' := by
  refine (Any.Builder_WriteString (P := Tryd.prog) (ρ := Tryd.lays156_ren) { Tryd.lays156 with } Tryd.Builder_Extra_156 B b (Lib.byteCells l) ⟨m.toArray⟩ w h (by rw [Lib.byteCells_length]; simpa [ByteArray.size] using hlen) hBw).mono ?_
  rintro e w' ⟨rfl, hA, hb⟩
  refine ⟨⟨_, rfl⟩, .inr ?_, hb⟩
  have : Lib.byteCells (l ++ m) = Lib.byteCells l ++ Lib.strCells ⟨m.toArray⟩ := by simp [Lib.byteCells, Lib.strCells]
  rw [this]
  exact hA
end Go.Proofs.YtojleleohhaigaaDoor

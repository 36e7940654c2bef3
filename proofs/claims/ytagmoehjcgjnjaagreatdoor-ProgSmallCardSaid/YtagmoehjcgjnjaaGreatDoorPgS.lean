/- The methods of prog.shape, walked. No condition. -/
import Derived.Test.YtagmoehjcgjnjaaGreatDoorPgV
import Derived.Deep.QuietTactic
import Derived.BigQuiet
import Derived.Deep.MidRow
import Derived.BigFrame
namespace Go.Proofs.YtagmoehjcgjnjaaGreatDoor
open Go Go.RowKit
attribute [local go_sem ↓] in_eql36 in_neq36

/-- A shape in a block of its own. -/
abbrev ShB (w : World) (b : Nat) (x : In) : Prop := Blk w b 61 x.cs

theorem Blk.rng {w : World} {b t : Nat} {x : In} (h : Blk w b t x.cs) : w.rangeAt b 0 x.cs.toList := fun j v hj => by
  rw [Nat.zero_add, h.cell j, ← Array.getElem?_toList, hj]
/-- An instruction is read, whole, wherever it lies; a shape too. -/
theorem wpList_ld {ops : Array Oper} {rest : List Oper} {op : Oper} {a : Act} {w : World} {Q : Exit → Act → World → Prop} (T : TypeId) (x : In) (b o : Nat) (y : Operand) (ho : op.op = .load T y)
    (hT : T = 33 ∨ T = 61) (hw : Region.wanted op (yielded ops a.tmps) = true) (hx : a.eval y = .pointer (some ⟨b, o, none⟩)) (h : w.rangeAt b o x.cs.toList)
    (hk : wpList Tryz.prog ops Q rest (a.put op.dst x.agg) w) : wpList Tryz.prog ops Q (op :: rest) a w :=
  BigFrame.wpList_want hw fun K hK => by
    rcases hT with rfl | rfl
    · exact wp_load_mid _ y ho b o hx x.cs.toList _ h Tryz.underlying33 rfl (by kernel_rfl) (hK _ _ hk)
    · exact wp_load_mid _ y ho b o hx x.cs.toList _ h Tryz.underlying61 rfl (by kernel_rfl) (hK _ _ hk)

set_option maxHeartbeats 1000000 in
theorem none_any (x : In) (w : World) : Calls Tryz.prog 41 #[x.agg] w fun e w' => e = .returned (.bool x.none_) ∧ Only [] w w' := by
  have hr : (w.alloc (.cells x.cs 61)).rangeAt w.heap.size 0 x.cs.toList := Blk.rng (Blk.new _ _ _)
  have Hr := Lib.hid hr
  clear hr
  go_enter Tryz.func41, Tryz.ntmps41
  go_wp2_with (refine wpList_ld 33 x w.heap.size 0 _ rfl (.inl rfl) rfl rfl Hr.out ?_)
  go_returns
  exact ⟨rfl, (Only.refl _ _).alloc _⟩

set_option maxHeartbeats 1000000 in
theorem place_any (b : Nat) (x : In) (w : World) (h : ShB w b x) : Calls Tryz.prog 72 #[.pointer (some ⟨b, 0, none⟩)] w fun e w' => e = .returned (.bool x.at_) ∧ ShB w' b x.noAt ∧ Only [b] w w' := by
  obtain ⟨c0, c1, c2, c3, c4, c5, c6, c7, c8, c9, c10, c11, c12, c13, c14, c15, c16, c17, cf⟩ := Blk.in_ h
  clear c0 c4 c5 c6 c7 c8 c9 c10 c11 c12 c13 c14 c15 c16 c17
  have f1 := cf 1
  have f2 := cf 2
  have f3 := cf 3
  have H := Lib.hid h
  clear h cf
  have fin : ∀ w', w' = ((w.setCell ⟨b, 1, none⟩ (.int .i64 0)).setCell ⟨b, 2, none⟩ (.int .u32 0)).setCell ⟨b, 3, none⟩ (.bool false) → ShB w' b x.noAt ∧ Only [b] w w' := by
    rintro w' rfl
    exact ⟨((H.out.set_ 1 _).set_ 2 _).set_ 3 _, (((Only.refl _ _).set1 (by simp) _ _).set1 (by simp) _ _).set1 (by simp) _ _⟩
  by_cases h1 : x.sz = 1
  · have e : x.at_ = true := by simp [In.at_, h1]
    have b1 : (x.sz == 1) = true := by simpa using h1
    have Hf := Lib.hid fin
    rw [e]
    clear h1 e fin
    go_enter Tryz.func72, Tryz.ntmps72
    go_wp2
    go_returns
    exact ⟨rfl, Hf.out _ rfl⟩
  have b1 : (x.sz == 1) = false := by simpa using h1
  by_cases h2 : x.sz = 2
  · have e : x.at_ = true := by simp [In.at_, h2]
    have b2 : (x.sz == 2) = true := by simpa using h2
    have Hf := Lib.hid fin
    rw [e]
    clear h1 h2 e fin
    go_enter Tryz.func72, Tryz.ntmps72
    go_wp2
    go_returns
    exact ⟨rfl, Hf.out _ rfl⟩
  have b2 : (x.sz == 2) = false := by simpa using h2
  have e : x.at_ = (x.sz == 4) := by simp [In.at_, h1, h2]
  rw [e]
  have Hf := Lib.hid fin
  clear h1 h2 e fin
  go_enter Tryz.func72, Tryz.ntmps72
  go_wp2
  go_returns
  exact ⟨rfl, Hf.out _ rfl⟩

set_option maxHeartbeats 1000000 in
theorem data_any (b : Nat) (x : In) (m : Int) (w : World) (h : ShB w b x) : Calls Tryz.prog 73 #[.pointer (some ⟨b, 0, none⟩), .int .u32 m] w fun e w' => e = .returned (.bool (decide (x.dt ≤ m))) ∧ ShB w' b x.noDt ∧ Only [b] w w' := by
  have c4 := (Blk.in_ h).c4
  have f4 := (Blk.in_ h).fr 4
  have H := Lib.hid h
  clear h
  go_enter Tryz.func73, Tryz.ntmps73
  go_wp2
  go_returns
  exact ⟨rfl, H.out.set_ 4 _, (Only.refl _ _).set1 (by simp) _ _⟩

set_option maxHeartbeats 1000000 in
theorem to_any (b : Nat) (x : In) (w : World) (h : ShB w b x) : Calls Tryz.prog 74 #[.pointer (some ⟨b, 0, none⟩)] w fun e w' => e = .returned (.bool x.goes) ∧ ShB w' b x.noTo ∧ Only [b] w w' := by
  have c5 := (Blk.in_ h).c5
  have f5 := (Blk.in_ h).fr 5
  have H := Lib.hid h
  clear h
  by_cases h0 : 0 ≤ x.to
  · have e : x.goes = decide (x.to ≤ 64) := by simp [In.goes, h0]
    rw [e]
    clear e
    go_enter Tryz.func74, Tryz.ntmps74
    go_wp2
    go_returns
    exact ⟨rfl, H.out.set_ 5 _, (Only.refl _ _).set1 (by simp) _ _⟩
  · have e : x.goes = false := by simp [In.goes, h0]
    rw [e]
    clear e
    go_enter Tryz.func74, Tryz.ntmps74
    go_wp2
    go_returns
    exact ⟨rfl, H.out.set_ 5 _, (Only.refl _ _).set1 (by simp) _ _⟩
end Go.Proofs.YtagmoehjcgjnjaaGreatDoor

/- What each Op asks of an instruction, walked: the methods of prog.shape by value. No condition. -/
import Derived.Test.YtagmoehjcgjnjaaGreatDoorPgS
namespace Go.Proofs.YtagmoehjcgjnjaaGreatDoor
open Go Go.RowKit

theorem ShB.new (w : World) (x : In) : ShB (w.alloc (.cells x.cs 61)) w.heap.size x := Blk.new w _ _
theorem Only.fresh {b : Nat} {o : Obj} {w w' : World} (h : Only [b] (w.alloc o) w') (hb : b = w.heap.size) : Only [] w w' := by
  subst hb
  exact (((Only.refl [w.heap.size] w).alloc o).trans h).mono (by simp)

set_option maxHeartbeats 1000000 in
theorem load_any (x : In) (w : World) : Calls Tryz.prog 39 #[x.agg] w fun e w' => e = .returned (.bool x.load) ∧ Only [] w w' := by
  obtain ⟨r, hr⟩ : ∃ r, x.at_ = r := ⟨_, rfl⟩
  have e : x.load = (r && x.noAt.none_) := by rw [← hr]; rfl
  rw [e]
  have HP := Lib.hid (place_any w.heap.size x _ (ShB.new w x))
  rw [hr] at HP
  clear hr e
  cases r
  · go_enter Tryz.func39, Tryz.ntmps39
    go_wp2_with fail
    refine HP.out.mono ?_
    rintro e w1 ⟨rfl, hB1, hO1⟩
    go_wp2_with fail
    go_returns
    exact ⟨rfl, hO1.fresh rfl⟩
  · go_enter Tryz.func39, Tryz.ntmps39
    go_wp2_with fail
    refine HP.out.mono ?_
    rintro e w1 ⟨rfl, hB1, hO1⟩
    have HR := Lib.hid hB1.rng
    clear hB1 HP
    go_wp2_with (refine wpList_ld 61 x.noAt w.heap.size 0 _ rfl (.inr rfl) rfl rfl HR.out ?_)
    refine (none_any x.noAt _).mono ?_
    rintro e w2 ⟨rfl, hO2⟩
    go_wp2_with fail
    go_returns
    exact ⟨rfl, (hO1.fresh rfl).trans hO2⟩

set_option maxHeartbeats 1000000 in
theorem jump_any (x : In) (w : World) : Calls Tryz.prog 43 #[x.agg] w fun e w' => e = .returned (.bool x.jump) ∧ Only [] w w' := by
  obtain ⟨r, hr⟩ : ∃ r, x.goes = r := ⟨_, rfl⟩
  have e : x.jump = (r && x.noTo.none_) := by rw [← hr]; rfl
  rw [e]
  have HP := Lib.hid (to_any w.heap.size x _ (ShB.new w x))
  rw [hr] at HP
  clear hr e
  cases r
  · go_enter Tryz.func43, Tryz.ntmps43
    go_wp2_with fail
    refine HP.out.mono ?_
    rintro e w1 ⟨rfl, hB1, hO1⟩
    go_wp2_with fail
    go_returns
    exact ⟨rfl, hO1.fresh rfl⟩
  · go_enter Tryz.func43, Tryz.ntmps43
    go_wp2_with fail
    refine HP.out.mono ?_
    rintro e w1 ⟨rfl, hB1, hO1⟩
    have HR := Lib.hid hB1.rng
    clear hB1 HP
    go_wp2_with (refine wpList_ld 61 x.noTo w.heap.size 0 _ rfl (.inr rfl) rfl rfl HR.out ?_)
    refine (none_any x.noTo _).mono ?_
    rintro e w2 ⟨rfl, hO2⟩
    go_wp2_with fail
    go_returns
    exact ⟨rfl, (hO1.fresh rfl).trans hO2⟩

set_option maxHeartbeats 1000000 in
theorem idle_any (x : In) (w : World) : Calls Tryz.prog 44 #[x.agg] w fun e w' => e = .returned (.bool x.idle) ∧ Only [] w w' := by
  obtain ⟨r, hr⟩ : ∃ r, decide (x.dt ≤ 9999) = r := ⟨_, rfl⟩
  have e : x.idle = (r && x.noDt.none_) := by rw [← hr]; rfl
  rw [e]
  have HP := Lib.hid (data_any w.heap.size x 9999 _ (ShB.new w x))
  rw [hr] at HP
  clear hr e
  cases r
  · go_enter Tryz.func44, Tryz.ntmps44
    go_wp2_with fail
    refine HP.out.mono ?_
    rintro e w1 ⟨rfl, hB1, hO1⟩
    go_wp2_with fail
    go_returns
    exact ⟨rfl, hO1.fresh rfl⟩
  · go_enter Tryz.func44, Tryz.ntmps44
    go_wp2_with fail
    refine HP.out.mono ?_
    rintro e w1 ⟨rfl, hB1, hO1⟩
    have HR := Lib.hid hB1.rng
    clear hB1 HP
    go_wp2_with (refine wpList_ld 61 x.noDt w.heap.size 0 _ rfl (.inr rfl) rfl rfl HR.out ?_)
    refine (none_any x.noDt _).mono ?_
    rintro e w2 ⟨rfl, hO2⟩
    go_wp2_with fail
    go_returns
    exact ⟨rfl, (hO1.fresh rfl).trans hO2⟩

set_option maxHeartbeats 1000000 in
theorem mask_any (x : In) (w : World) : Calls Tryz.prog 45 #[x.agg] w fun e w' => e = .returned (.bool x.mask) ∧ Only [] w w' := by
  obtain ⟨r, hr⟩ : ∃ r, decide (x.dt ≤ 255) = r := ⟨_, rfl⟩
  have e : x.mask = (r && x.noDt.none_) := by rw [← hr]; rfl
  rw [e]
  have HP := Lib.hid (data_any w.heap.size x 255 _ (ShB.new w x))
  rw [hr] at HP
  clear hr e
  cases r
  · go_enter Tryz.func45, Tryz.ntmps45
    go_wp2_with fail
    refine HP.out.mono ?_
    rintro e w1 ⟨rfl, hB1, hO1⟩
    go_wp2_with fail
    go_returns
    exact ⟨rfl, hO1.fresh rfl⟩
  · go_enter Tryz.func45, Tryz.ntmps45
    go_wp2_with fail
    refine HP.out.mono ?_
    rintro e w1 ⟨rfl, hB1, hO1⟩
    have HR := Lib.hid hB1.rng
    clear hB1 HP
    go_wp2_with (refine wpList_ld 61 x.noDt w.heap.size 0 _ rfl (.inr rfl) rfl rfl HR.out ?_)
    refine (none_any x.noDt _).mono ?_
    rintro e w2 ⟨rfl, hO2⟩
    go_wp2_with fail
    go_returns
    exact ⟨rfl, (hO1.fresh rfl).trans hO2⟩

set_option maxHeartbeats 1000000 in
theorem store_any (x : In) (hx : x.dt ≤ 4294967295) (w : World) : Calls Tryz.prog 40 #[x.agg] w fun e w' => e = .returned (.bool x.store) ∧ Only [] w w' := by
  obtain ⟨r, hr⟩ : ∃ r, x.at_ = r := ⟨_, rfl⟩
  have e : x.store = (r && x.noAt.noDt.none_) := by rw [← hr]; rfl
  rw [e]
  have HP := Lib.hid (place_any w.heap.size x _ (ShB.new w x))
  rw [hr] at HP
  have hd : decide (x.noAt.dt ≤ 4294967295) = true := decide_eq_true hx
  have HD := Lib.hid (fun W h => data_any w.heap.size x.noAt 4294967295 W h)
  rw [hd] at HD
  clear hr e hx hd
  cases r
  · go_enter Tryz.func40, Tryz.ntmps40
    go_wp2_with fail
    refine HP.out.mono ?_
    rintro e w1 ⟨rfl, hB1, hO1⟩
    go_wp2_with fail
    go_returns
    exact ⟨rfl, hO1.fresh rfl⟩
  · go_enter Tryz.func40, Tryz.ntmps40
    go_wp2_with fail
    refine HP.out.mono ?_
    rintro e w1 ⟨rfl, hB1, hO1⟩
    have HB1 := Lib.hid hB1
    clear hB1 HP
    go_wp2_with fail
    refine (HD.out _ HB1.out).mono ?_
    rintro e w2 ⟨rfl, hB2, hO2⟩
    have HR := Lib.hid hB2.rng
    clear hB2 HD HB1
    go_wp2_with (refine wpList_ld 61 x.noAt.noDt w.heap.size 0 _ rfl (.inr rfl) rfl rfl HR.out ?_)
    refine (none_any x.noAt.noDt _).mono ?_
    rintro e w3 ⟨rfl, hO3⟩
    go_wp2_with fail
    go_returns
    exact ⟨rfl, ((hO1.trans hO2).fresh rfl).trans hO3⟩

set_option maxHeartbeats 1000000 in
theorem branch_any (x : In) (hx : x.dt ≤ 4294967295) (w : World) : Calls Tryz.prog 42 #[x.agg] w fun e w' => e = .returned (.bool x.branch) ∧ Only [] w w' := by
  obtain ⟨r, hr⟩ : ∃ r, x.goes = r := ⟨_, rfl⟩
  have e : x.branch = (r && x.noTo.noDt.none_) := by rw [← hr]; rfl
  rw [e]
  have HP := Lib.hid (to_any w.heap.size x _ (ShB.new w x))
  rw [hr] at HP
  have hd : decide (x.noTo.dt ≤ 4294967295) = true := decide_eq_true hx
  have HD := Lib.hid (fun W h => data_any w.heap.size x.noTo 4294967295 W h)
  rw [hd] at HD
  clear hr e hx hd
  cases r
  · go_enter Tryz.func42, Tryz.ntmps42
    go_wp2_with fail
    refine HP.out.mono ?_
    rintro e w1 ⟨rfl, hB1, hO1⟩
    go_wp2_with fail
    go_returns
    exact ⟨rfl, hO1.fresh rfl⟩
  · go_enter Tryz.func42, Tryz.ntmps42
    go_wp2_with fail
    refine HP.out.mono ?_
    rintro e w1 ⟨rfl, hB1, hO1⟩
    have HB1 := Lib.hid hB1
    clear hB1 HP
    go_wp2_with fail
    refine (HD.out _ HB1.out).mono ?_
    rintro e w2 ⟨rfl, hB2, hO2⟩
    have HR := Lib.hid hB2.rng
    clear hB2 HD HB1
    go_wp2_with (refine wpList_ld 61 x.noTo.noDt w.heap.size 0 _ rfl (.inr rfl) rfl rfl HR.out ?_)
    refine (none_any x.noTo.noDt _).mono ?_
    rintro e w3 ⟨rfl, hO3⟩
    go_wp2_with fail
    go_returns
    exact ⟨rfl, ((hO1.trans hO2).fresh rfl).trans hO3⟩

/-- A shape's command is read; its place is written. -/
theorem Blk.rngC {w : World} {b t : Nat} {x : In} (h : Blk w b t x.cs) : w.rangeAt b 6 x.cf.list := fun j v hj => by
  rw [h.cell (6 + j)]
  have hj' : j < 12 := by
    rcases Nat.lt_or_ge j 12 with h | h
    · exact h
    · rw [List.getElem?_eq_none (by simpa using h)] at hj; cases hj
  have : j = 0 ∨ j = 1 ∨ j = 2 ∨ j = 3 ∨ j = 4 ∨ j = 5 ∨ j = 6 ∨ j = 7 ∨ j = 8 ∨ j = 9 ∨ j = 10 ∨ j = 11 := by omega
  rcases this with rfl | rfl | rfl | rfl | rfl | rfl | rfl | rfl | rfl | rfl | rfl | rfl <;> exact hj
theorem wpList_ldc {ops : Array Oper} {rest : List Oper} {op : Oper} {a : Act} {w : World} {Q : Exit → Act → World → Prop} (c : Cf) (b o : Nat) (y : Operand) (ho : op.op = .load 31 y)
    (hw : Region.wanted op (yielded ops a.tmps) = true) (hx : a.eval y = .pointer (some ⟨b, o, none⟩)) (h : w.rangeAt b o c.list)
    (hk : wpList Tryz.prog ops Q rest (a.put op.dst c.agg) w) : wpList Tryz.prog ops Q (op :: rest) a w :=
  BigFrame.wpList_want hw fun K hK => wp_load_mid _ y ho b o hx c.list _ h Tryz.underlying31 rfl (by kernel_rfl) (hK _ _ hk)
end Go.Proofs.YtagmoehjcgjnjaaGreatDoor

/- Commands as values: what a command is, and its equality. No condition. -/
import Derived.Test.YtghoggjllcbalaaDoorMem
import Derived.Test.YtghoggjllcbalaaDoorStage
import Derived.Test.YtghoggjllcbalaaDoorStageD
import Derived.Test.YtghoggjllcbalaaDoorProg
import Derived.BigRegion
import Derived.BigQuiet
import Derived.Deep.QuietTactic
import Derived.Handy
import Derived.LoopTactic
import Derived.Lib.Hide
namespace Go.Proofs.YtghoggjllcbalaaDoor
open Go Go.RowKit

/-- A command. -/
structure Cf where
  kd : Int
  ix : Int
  wo : Int
  ln : Int
  on : Bool
  rw : Int
  fr : Int
  tt : Int
  rd : Bool
  wt : Bool
  rk : Int
  lk : Bool

abbrev Cf.agg (c : Cf) : Value := .agg #[.int .i64 c.kd, .int .i64 c.ix, .int .i64 c.wo, .int .i64 c.ln, .bool c.on, .int .i64 c.rw, .int .u32 c.fr, .int .u32 c.tt, .bool c.rd, .bool c.wt, .int .i64 c.rk, .bool c.lk]
/-- A command in a block of its own. -/
def CfB (w : World) (b : Nat) (c : Cf) : Prop := Blk w b 29 #[.int .i64 c.kd, .int .i64 c.ix, .int .i64 c.wo, .int .i64 c.ln, .bool c.on, .int .i64 c.rw, .int .u32 c.fr, .int .u32 c.tt, .bool c.rd, .bool c.wt, .int .i64 c.rk, .bool c.lk]

structure CfC (w : World) (b : Nat) (c : Cf) : Prop where
  c0 : w.cell? ⟨b, 0, none⟩ = some (.int .i64 c.kd)
  c1 : w.cell? ⟨b, 1, none⟩ = some (.int .i64 c.ix)
  c2 : w.cell? ⟨b, 2, none⟩ = some (.int .i64 c.wo)
  c3 : w.cell? ⟨b, 3, none⟩ = some (.int .i64 c.ln)
  c4 : w.cell? ⟨b, 4, none⟩ = some (.bool c.on)
  c5 : w.cell? ⟨b, 5, none⟩ = some (.int .i64 c.rw)
  c6 : w.cell? ⟨b, 6, none⟩ = some (.int .u32 c.fr)
  c7 : w.cell? ⟨b, 7, none⟩ = some (.int .u32 c.tt)
  c8 : w.cell? ⟨b, 8, none⟩ = some (.bool c.rd)
  c9 : w.cell? ⟨b, 9, none⟩ = some (.bool c.wt)
  c10 : w.cell? ⟨b, 10, none⟩ = some (.int .i64 c.rk)
  c11 : w.cell? ⟨b, 11, none⟩ = some (.bool c.lk)
  fr : ∀ i, w.frozen? ⟨b, i, none⟩ = false
theorem CfB.c {w : World} {b : Nat} {s : Cf} (h : CfB w b s) : CfC w b s :=
  ⟨h.cell 0, h.cell 1, h.cell 2, h.cell 3, h.cell 4, h.cell 5, h.cell 6, h.cell 7, h.cell 8, h.cell 9, h.cell 10, h.cell 11, h.frozen⟩
theorem Only.cf {S : List Nat} {w w' : World} {b : Nat} {s : Cf} (hO : Only S w w') (h : CfB w b s) (hb : b ∉ S) : CfB w' b s := hO.blk h hb
theorem CfB.alloc {w : World} {b : Nat} {s : Cf} (h : CfB w b s) (o : Obj) : CfB (w.alloc o) b s := Blk.alloc h o

/-- Are two commands one? -/
def Cf.same (c d : Cf) : Bool :=
  c.kd == d.kd && c.ix == d.ix && c.wo == d.wo && c.ln == d.ln && c.on == d.on && c.rw == d.rw && c.fr == d.fr && c.tt == d.tt && c.rd == d.rd && c.wt == d.wt && c.rk == d.rk && c.lk == d.lk

theorem Cf.same_iff (c d : Cf) : c.same d = true ↔ c = d := by
  obtain ⟨a1, a2, a3, a4, a5, a6, a7, a8, a9, a10, a11, a12⟩ := c
  obtain ⟨b1, b2, b3, b4, b5, b6, b7, b8, b9, b10, b11, b12⟩ := d
  simp [Cf.same, and_assoc]

theorem ite_ok (p : Prop) [Decidable p] (b : Bool) (w : World) : (if p then Result.ok (Value.bool b) w else Result.ok (Value.bool false) w) = Result.ok (Value.bool (decide p && b)) w := by
  by_cases h : p <;> simp [h]
theorem ite_ko (p : Prop) [Decidable p] (b : Bool) (w : World) : (if p then Result.ok (Value.bool b) w else Result.ok (Value.bool true) w) = Result.ok (Value.bool (!decide p || b)) w := by
  by_cases h : p <;> simp [h]

theorem cf_eql (c d : Cf) (w : World) : (binOp .eql 29 c.agg d.agg).run Tryd.prog w = .ok (.bool (c.same d)) w := by
  simp [go_sem]
  simp only [ite_ok, Cf.same, Bool.beq_eq_decide_eq, Bool.and_assoc, Bool.and_true]

theorem cf_neq (c d : Cf) (w : World) : (binOp .neq 29 c.agg d.agg).run Tryd.prog w = .ok (.bool (!c.same d)) w := by
  simp [go_sem]
  simp only [ite_ko, Cf.same, Bool.beq_eq_decide_eq, Bool.not_and, Bool.or_assoc, Bool.or_false]


section
variable (a1 a2 a3 a4 a6 a7 a8 a11 b1 b2 b3 b4 b6 b7 b8 b11 : Int) (a5 a9 a10 a12 b5 b9 b10 b12 : Bool) (w : World)
/-- The same, for the walk, ahead of all other rules. -/
theorem cf_neq24 : (binOp .neq 29 (.agg #[.int .i64 a1, .int .i64 a2, .int .i64 a3, .int .i64 a4, .bool a5, .int .i64 a6, .int .u32 a7, .int .u32 a8, .bool a9, .bool a10, .int .i64 a11, .bool a12])
    (.agg #[.int .i64 b1, .int .i64 b2, .int .i64 b3, .int .i64 b4, .bool b5, .int .i64 b6, .int .u32 b7, .int .u32 b8, .bool b9, .bool b10, .int .i64 b11, .bool b12])).run Tryd.prog w
    = .ok (.bool (!Cf.same ⟨a1, a2, a3, a4, a5, a6, a7, a8, a9, a10, a11, a12⟩ ⟨b1, b2, b3, b4, b5, b6, b7, b8, b9, b10, b11, b12⟩)) w := cf_neq ⟨a1, a2, a3, a4, a5, a6, a7, a8, a9, a10, a11, a12⟩ ⟨b1, b2, b3, b4, b5, b6, b7, b8, b9, b10, b11, b12⟩ w
theorem cf_eql24 : (binOp .eql 29 (.agg #[.int .i64 a1, .int .i64 a2, .int .i64 a3, .int .i64 a4, .bool a5, .int .i64 a6, .int .u32 a7, .int .u32 a8, .bool a9, .bool a10, .int .i64 a11, .bool a12])
    (.agg #[.int .i64 b1, .int .i64 b2, .int .i64 b3, .int .i64 b4, .bool b5, .int .i64 b6, .int .u32 b7, .int .u32 b8, .bool b9, .bool b10, .int .i64 b11, .bool b12])).run Tryd.prog w
    = .ok (.bool (Cf.same ⟨a1, a2, a3, a4, a5, a6, a7, a8, a9, a10, a11, a12⟩ ⟨b1, b2, b3, b4, b5, b6, b7, b8, b9, b10, b11, b12⟩)) w := cf_eql ⟨a1, a2, a3, a4, a5, a6, a7, a8, a9, a10, a11, a12⟩ ⟨b1, b2, b3, b4, b5, b6, b7, b8, b9, b10, b11, b12⟩ w
end
end Go.Proofs.YtghoggjllcbalaaDoor

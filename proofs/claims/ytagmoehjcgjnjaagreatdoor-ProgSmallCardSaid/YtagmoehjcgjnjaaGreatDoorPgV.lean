/- Instructions as values, and their equality. No condition. -/
import Derived.Test.YtagmoehjcgjnjaaGreatDoorCfGb
namespace Go.Proofs.YtagmoehjcgjnjaaGreatDoor
open Go Go.RowKit

abbrev Cf.list (x : Cf) : List Value := [.int .i64 x.kd, .int .i64 x.ix, .int .i64 x.wo, .int .i64 x.ln, .bool x.on, .int .i64 x.rw, .int .u32 x.fr, .int .u32 x.tt, .bool x.rd, .bool x.wt, .int .i64 x.rk, .bool x.lk]
/-- An instruction. -/
structure In where
  op : Int
  sz : Int
  ad : Int
  ix : Bool
  dt : Int
  to : Int
  cf : Cf
abbrev In.cs (x : In) : Array Value := #[.int .i64 x.op, .int .i64 x.sz, .int .u32 x.ad, .bool x.ix, .int .u32 x.dt, .int .i64 x.to, .int .i64 x.cf.kd, .int .i64 x.cf.ix, .int .i64 x.cf.wo, .int .i64 x.cf.ln, .bool x.cf.on, .int .i64 x.cf.rw, .int .u32 x.cf.fr, .int .u32 x.cf.tt, .bool x.cf.rd, .bool x.cf.wt, .int .i64 x.cf.rk, .bool x.cf.lk]
abbrev In.agg (x : In) : Value := .agg #[.int .i64 x.op, .int .i64 x.sz, .int .u32 x.ad, .bool x.ix, .int .u32 x.dt, .int .i64 x.to, .int .i64 x.cf.kd, .int .i64 x.cf.ix, .int .i64 x.cf.wo, .int .i64 x.cf.ln, .bool x.cf.on, .int .i64 x.cf.rw, .int .u32 x.cf.fr, .int .u32 x.cf.tt, .bool x.cf.rd, .bool x.cf.wt, .int .i64 x.cf.rk, .bool x.cf.lk]
/-- It fills a block. -/
structure InC (w : World) (b : Nat) (x : In) : Prop where
  c0 : w.cell? ⟨b, 0, none⟩ = some (.int .i64 x.op)
  c1 : w.cell? ⟨b, 1, none⟩ = some (.int .i64 x.sz)
  c2 : w.cell? ⟨b, 2, none⟩ = some (.int .u32 x.ad)
  c3 : w.cell? ⟨b, 3, none⟩ = some (.bool x.ix)
  c4 : w.cell? ⟨b, 4, none⟩ = some (.int .u32 x.dt)
  c5 : w.cell? ⟨b, 5, none⟩ = some (.int .i64 x.to)
  c6 : w.cell? ⟨b, 6, none⟩ = some (.int .i64 x.cf.kd)
  c7 : w.cell? ⟨b, 7, none⟩ = some (.int .i64 x.cf.ix)
  c8 : w.cell? ⟨b, 8, none⟩ = some (.int .i64 x.cf.wo)
  c9 : w.cell? ⟨b, 9, none⟩ = some (.int .i64 x.cf.ln)
  c10 : w.cell? ⟨b, 10, none⟩ = some (.bool x.cf.on)
  c11 : w.cell? ⟨b, 11, none⟩ = some (.int .i64 x.cf.rw)
  c12 : w.cell? ⟨b, 12, none⟩ = some (.int .u32 x.cf.fr)
  c13 : w.cell? ⟨b, 13, none⟩ = some (.int .u32 x.cf.tt)
  c14 : w.cell? ⟨b, 14, none⟩ = some (.bool x.cf.rd)
  c15 : w.cell? ⟨b, 15, none⟩ = some (.bool x.cf.wt)
  c16 : w.cell? ⟨b, 16, none⟩ = some (.int .i64 x.cf.rk)
  c17 : w.cell? ⟨b, 17, none⟩ = some (.bool x.cf.lk)
  fr : ∀ i, w.frozen? ⟨b, i, none⟩ = false
theorem Blk.in_ {w : World} {b t : Nat} {x : In} (h : Blk w b t x.cs) : InC w b x :=
  ⟨h.cell 0, h.cell 1, h.cell 2, h.cell 3, h.cell 4, h.cell 5, h.cell 6, h.cell 7, h.cell 8, h.cell 9, h.cell 10, h.cell 11, h.cell 12, h.cell 13, h.cell 14, h.cell 15, h.cell 16, h.cell 17, h.frozen⟩
/-- Are two instructions one? -/
def In.same (x y : In) : Bool :=
  x.op == y.op && x.sz == y.sz && x.ad == y.ad && x.ix == y.ix && x.dt == y.dt && x.to == y.to && x.cf.kd == y.cf.kd && x.cf.ix == y.cf.ix && x.cf.wo == y.cf.wo && x.cf.ln == y.cf.ln && x.cf.on == y.cf.on && x.cf.rw == y.cf.rw && x.cf.fr == y.cf.fr && x.cf.tt == y.cf.tt && x.cf.rd == y.cf.rd && x.cf.wt == y.cf.wt && x.cf.rk == y.cf.rk && x.cf.lk == y.cf.lk
theorem In.same_iff (x y : In) : x.same y = true ↔ x = y := by
  obtain ⟨a0, a1, a2, a3, a4, a5, ⟨a6, a7, a8, a9, a10, a11, a12, a13, a14, a15, a16, a17⟩⟩ := x
  obtain ⟨b0, b1, b2, b3, b4, b5, ⟨b6, b7, b8, b9, b10, b11, b12, b13, b14, b15, b16, b17⟩⟩ := y
  simp [In.same, and_assoc]
set_option maxRecDepth 100000 in
set_option maxHeartbeats 2000000 in
theorem in_eql (x y : In) (w : World) : (binOp .eql 33 x.agg y.agg).run Tryz.prog w = .ok (.bool (x.same y)) w := by
  simp [go_sem]
  simp only [ite_ok, In.same, Bool.beq_eq_decide_eq, Bool.and_assoc, Bool.and_true]
set_option maxRecDepth 100000 in
set_option maxHeartbeats 2000000 in
theorem in_neq (x y : In) (w : World) : (binOp .neq 33 x.agg y.agg).run Tryz.prog w = .ok (.bool (!x.same y)) w := by
  simp [go_sem]
  simp only [ite_ko, In.same, Bool.beq_eq_decide_eq, Bool.not_and, Bool.or_assoc, Bool.or_false]

section
variable (a0 a1 a2 a4 a5 a6 a7 a8 a9 a11 a12 a13 a16 b0 b1 b2 b4 b5 b6 b7 b8 b9 b11 b12 b13 b16 : Int) (a3 a10 a14 a15 a17 b3 b10 b14 b15 b17 : Bool) (w : World)
/-- The same, for the walk, ahead of all other rules. -/
theorem in_eql36 : (binOp .eql 33 (.agg #[.int .i64 a0, .int .i64 a1, .int .u32 a2, .bool a3, .int .u32 a4, .int .i64 a5, .int .i64 a6, .int .i64 a7, .int .i64 a8, .int .i64 a9, .bool a10, .int .i64 a11, .int .u32 a12, .int .u32 a13, .bool a14, .bool a15, .int .i64 a16, .bool a17]) (.agg #[.int .i64 b0, .int .i64 b1, .int .u32 b2, .bool b3, .int .u32 b4, .int .i64 b5, .int .i64 b6, .int .i64 b7, .int .i64 b8, .int .i64 b9, .bool b10, .int .i64 b11, .int .u32 b12, .int .u32 b13, .bool b14, .bool b15, .int .i64 b16, .bool b17])).run Tryz.prog w
    = .ok (.bool (In.same ⟨a0, a1, a2, a3, a4, a5, ⟨a6, a7, a8, a9, a10, a11, a12, a13, a14, a15, a16, a17⟩⟩ ⟨b0, b1, b2, b3, b4, b5, ⟨b6, b7, b8, b9, b10, b11, b12, b13, b14, b15, b16, b17⟩⟩)) w := in_eql ⟨a0, a1, a2, a3, a4, a5, ⟨a6, a7, a8, a9, a10, a11, a12, a13, a14, a15, a16, a17⟩⟩ ⟨b0, b1, b2, b3, b4, b5, ⟨b6, b7, b8, b9, b10, b11, b12, b13, b14, b15, b16, b17⟩⟩ w
theorem in_neq36 : (binOp .neq 33 (.agg #[.int .i64 a0, .int .i64 a1, .int .u32 a2, .bool a3, .int .u32 a4, .int .i64 a5, .int .i64 a6, .int .i64 a7, .int .i64 a8, .int .i64 a9, .bool a10, .int .i64 a11, .int .u32 a12, .int .u32 a13, .bool a14, .bool a15, .int .i64 a16, .bool a17]) (.agg #[.int .i64 b0, .int .i64 b1, .int .u32 b2, .bool b3, .int .u32 b4, .int .i64 b5, .int .i64 b6, .int .i64 b7, .int .i64 b8, .int .i64 b9, .bool b10, .int .i64 b11, .int .u32 b12, .int .u32 b13, .bool b14, .bool b15, .int .i64 b16, .bool b17])).run Tryz.prog w
    = .ok (.bool (!In.same ⟨a0, a1, a2, a3, a4, a5, ⟨a6, a7, a8, a9, a10, a11, a12, a13, a14, a15, a16, a17⟩⟩ ⟨b0, b1, b2, b3, b4, b5, ⟨b6, b7, b8, b9, b10, b11, b12, b13, b14, b15, b16, b17⟩⟩)) w := in_neq ⟨a0, a1, a2, a3, a4, a5, ⟨a6, a7, a8, a9, a10, a11, a12, a13, a14, a15, a16, a17⟩⟩ ⟨b0, b1, b2, b3, b4, b5, ⟨b6, b7, b8, b9, b10, b11, b12, b13, b14, b15, b16, b17⟩⟩ w
end

/-- An instruction that names its Op alone. -/
abbrev In.only (n : Int) : In := ⟨n, 0, 0, false, 0, 0, ⟨0, 0, 0, 0, false, 0, 0, 0, false, false, 0, false⟩⟩
def In.none_ (x : In) : Bool := x.same (In.only x.op)
def In.at_ (x : In) : Bool := x.sz == 1 || x.sz == 2 || x.sz == 4
def In.noAt (x : In) : In := ⟨x.op, 0, 0, false, x.dt, x.to, x.cf⟩
def In.noDt (x : In) : In := ⟨x.op, x.sz, x.ad, x.ix, 0, x.to, x.cf⟩
def In.noTo (x : In) : In := ⟨x.op, x.sz, x.ad, x.ix, x.dt, 0, x.cf⟩
def In.noCf (x : In) : In := ⟨x.op, x.sz, x.ad, x.ix, x.dt, x.to, ⟨0, 0, 0, 0, false, 0, 0, 0, false, false, 0, false⟩⟩
def In.goes (x : In) : Bool := decide (0 ≤ x.to) && decide (x.to ≤ 64)
def In.load (x : In) : Bool := x.at_ && x.noAt.none_
def In.store (x : In) : Bool := x.at_ && x.noAt.noDt.none_
def In.branch (x : In) : Bool := x.goes && x.noTo.noDt.none_
def In.jump (x : In) : Bool := x.goes && x.noTo.none_
def In.idle (x : In) : Bool := decide (x.dt ≤ 9999) && x.noDt.none_
def In.mask (x : In) : Bool := decide (x.dt ≤ 255) && x.noDt.none_
def In.conf (x : In) : Bool := x.cf.right && x.noCf.none_
/-- Is an instruction right? -/
def In.ok (x : In) : Bool :=
  if x.op = 1 ∨ x.op = 3 then x.load else if x.op = 2 then x.store else if x.op = 4 ∨ x.op = 10 then x.none_
  else if x.op = 5 then x.branch else if x.op = 6 then x.jump else if x.op = 7 then x.idle else if x.op = 8 then x.mask
  else if x.op = 9 then x.conf else false
end Go.Proofs.YtagmoehjcgjnjaaGreatDoor

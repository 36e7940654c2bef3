/- Events of package trace in memory; what is asked of one, walked. No condition. -/
import Derived.Test.YtojleleohhaigaaDoorCfGa
import Derived.Test.YtojleleohhaigaaDoorProg
import Derived.BigRegion
import Derived.BigQuiet
import Derived.Deep.QuietTactic
import Derived.Deep.CutBlock
import Derived.Deep.DeepCutAuto
import Derived.Deep.RegionWith
import Derived.Handy
import Derived.LoopTactic
import Derived.Lib.Hide
import Derived.IntWalk
namespace Go.Proofs.YtojleleohhaigaaDoor
open Go Go.RowKit

/-- An event. -/
structure Ev where
  cy : Int
  kd : Int
  va : Int
  er : Int
  ln : Int
deriving DecidableEq, Inhabited
abbrev Ev.agg (x : Ev) : Value := .agg #[.int .i64 x.cy, .int .i64 x.kd, .int .u32 x.va, .int .i64 x.er, .int .i64 x.ln]
/-- It lies at a place. -/
structure EvAt (w : World) (b o : Nat) (x : Ev) : Prop where
  c0 : w.cell? ⟨b, o, none⟩ = some (.int .i64 x.cy)
  c1 : w.cell? ⟨b, o + 1, none⟩ = some (.int .i64 x.kd)
  c2 : w.cell? ⟨b, o + 2, none⟩ = some (.int .u32 x.va)
  c3 : w.cell? ⟨b, o + 3, none⟩ = some (.int .i64 x.er)
  c4 : w.cell? ⟨b, o + 4, none⟩ = some (.int .i64 x.ln)
theorem EvAt.only {S : List Nat} {w w' : World} {b o : Nat} {x : Ev} (h : EvAt w b o x) (hO : Only S w w') (hb : b < w.heap.size) (hS : b ∉ S) : EvAt w' b o x :=
  ⟨(hO.cell hb hS).trans h.c0, (hO.cell hb hS).trans h.c1, (hO.cell hb hS).trans h.c2, (hO.cell hb hS).trans h.c3, (hO.cell hb hS).trans h.c4⟩

/-- It fills a block. -/
structure EvC (w : World) (b : Nat) (x : Ev) : Prop where
  c0 : w.cell? ⟨b, 0, none⟩ = some (.int .i64 x.cy)
  c1 : w.cell? ⟨b, 1, none⟩ = some (.int .i64 x.kd)
  c2 : w.cell? ⟨b, 2, none⟩ = some (.int .u32 x.va)
  c3 : w.cell? ⟨b, 3, none⟩ = some (.int .i64 x.er)
  c4 : w.cell? ⟨b, 4, none⟩ = some (.int .i64 x.ln)
  fr : ∀ i, w.frozen? ⟨b, i, none⟩ = false
abbrev Ev.cs (x : Ev) : Array Value := #[.int .i64 x.cy, .int .i64 x.kd, .int .u32 x.va, .int .i64 x.er, .int .i64 x.ln]
theorem Blk.ev {w : World} {b t : Nat} {x : Ev} (h : Blk w b t x.cs) : EvC w b x := ⟨h.cell 0, h.cell 1, h.cell 2, h.cell 3, h.cell 4, h.frozen⟩
theorem EvC.at_ {w : World} {b : Nat} {x : Ev} (h : EvC w b x) : EvAt w b 0 x := ⟨h.c0, h.c1, h.c2, h.c3, h.c4⟩

/-- What may stand where: the parts of Right. -/
def Ev.rng (x : Ev) : Bool := decide (0 ≤ x.cy) && decide (x.cy < 4096) && decide (0 ≤ x.ln) && decide (x.ln < 8)
def Ev.own (x : Ev) : Bool := (x.kd == 1 && x.ln == 0) || (x.kd == 2 && x.va == 0 && x.er == 0)
def Ev.behind (x : Ev) : Option Ev → Bool
  | none => true
  | some a => decide (a.cy < x.cy) || (x.cy == a.cy && decide (a.kd < x.kd))
def Ev.may (x : Ev) (a : Option Ev) : Bool := x.rng && x.own && x.behind a
def rightF : Option Ev → List Ev → Bool
  | _, [] => true
  | a, x :: r => x.may a && rightF (some x) r
def rightL (l : List Ev) : Bool := rightF none l

/-- A pointer to the event ahead, if there is one. -/
def PtrEv (w : World) (pv : Value) : Option Ev → Prop
  | none => pv = .pointer none
  | some a => ∃ b o, pv = .pointer (some ⟨b, o, none⟩) ∧ b < w.heap.size ∧ EvAt w b o a
theorem PtrEv.only {S : List Nat} {w w' : World} {pv : Value} {a : Option Ev} (h : PtrEv w pv a) (hO : Only S w w') (hS : ∀ b o, pv = .pointer (some ⟨b, o, none⟩) → b ∉ S) : PtrEv w' pv a := by
  cases a with
  | none => exact h
  | some a =>
    obtain ⟨b, o, rfl, hb, hE⟩ := h
    exact ⟨b, o, rfl, Nat.lt_of_lt_of_le hb hO.size, hE.only hO hb (hS b o rfl)⟩

set_option maxHeartbeats 400000 in
theorem reply_5 (x1 x2 x3 x4 x5 : Int) (w : World) : Calls Tryd.prog 21 #[.agg #[.int .i64 x1, .int .i64 x2, .int .u32 x3, .int .i64 x4, .int .i64 x5]] w fun e w' => e = .returned (.bool (x2 == 1)) ∧ Only [] w w' := by
  go_enter Tryd.func21, Tryd.ntmps21
  go_wp2
  go_returns
  exact ⟨by simp, (Only.refl _ _).alloc _⟩
set_option maxHeartbeats 400000 in
theorem call_5 (x1 x2 x3 x4 x5 : Int) (w : World) : Calls Tryd.prog 37 #[.agg #[.int .i64 x1, .int .i64 x2, .int .u32 x3, .int .i64 x4, .int .i64 x5]] w fun e w' => e = .returned (.bool (x2 == 2)) ∧ Only [] w w' := by
  go_enter Tryd.func37, Tryd.ntmps37
  go_wp2
  go_returns
  exact ⟨by simp, (Only.refl _ _).alloc _⟩
/-- Is its error none that has a text? -/
def Ev.odd (x : Ev) : Bool := decide (x.er < 0) || decide (99 < x.er)
set_option maxHeartbeats 400000 in
theorem odd_any (x : Ev) (w : World) : Calls Tryd.prog 18 #[x.agg] w fun e w' => e = .returned (.bool x.odd) ∧ Only [] w w' := by
  by_cases h : x.er < 0
  · have e : x.odd = true := by simp [Ev.odd, h]
    rw [e]
    go_enter Tryd.func18, Tryd.ntmps18
    go_wp2
    go_returns
    exact ⟨rfl, (Only.refl _ _).alloc _⟩
  · by_cases h2 : 99 < x.er
    · have e : x.odd = true := by simp [Ev.odd, h2]
      rw [e]
      go_enter Tryd.func18, Tryd.ntmps18
      go_wp2
      go_returns
      exact ⟨rfl, (Only.refl _ _).alloc _⟩
    · have e : x.odd = false := by simp [Ev.odd, h, h2]
      rw [e]
      go_enter Tryd.func18, Tryd.ntmps18
      go_wp2
      go_returns
      exact ⟨rfl, (Only.refl _ _).alloc _⟩
end Go.Proofs.YtojleleohhaigaaDoor

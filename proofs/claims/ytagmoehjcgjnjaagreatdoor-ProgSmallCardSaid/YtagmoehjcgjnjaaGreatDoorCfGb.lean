/- Commands as values: what a command is, and its equality. No condition. The functions within and named of package conf, walked. No condition. Right of package conf, walked where the kind is none, or a part is not its own. Conditions: those of the cases. Right of package conf, walked where the index is out of its bounds. Conditions: those of the case. Right of package conf, walked at a region. Conditions: those of the case. Right of package conf, walked at the other kinds. Conditions: those of the case. Right of package conf: whether a command can be said. No condition. -/
import Derived.Test.YtagmoehjcgjnjaaGreatDoorCfGa
import Derived.Test.YtagmoehjcgjnjaaGreatDoorProg
import Derived.BigRegion
import Derived.BigQuiet
import Derived.Deep.QuietTactic
import Derived.Handy
import Derived.LoopTactic
import Derived.Lib.Hide
import Derived.Deep.RegionWith
namespace Go.Proofs.YtagmoehjcgjnjaaGreatDoor
open Go Go.RowKit

/-- A command. -/
structure Cf where
  kd : Int
  ix : Int
  wo : Int
  ln : Int
  on : Bool
  rw : Int
  fr : Int
  tt : Int
  rd : Bool
  wt : Bool
  rk : Int
  lk : Bool

abbrev Cf.agg (c : Cf) : Value := .agg #[.int .i64 c.kd, .int .i64 c.ix, .int .i64 c.wo, .int .i64 c.ln, .bool c.on, .int .i64 c.rw, .int .u32 c.fr, .int .u32 c.tt, .bool c.rd, .bool c.wt, .int .i64 c.rk, .bool c.lk]
/-- A command in a block of its own. -/
def CfB (w : World) (b : Nat) (c : Cf) : Prop := Blk w b 31 #[.int .i64 c.kd, .int .i64 c.ix, .int .i64 c.wo, .int .i64 c.ln, .bool c.on, .int .i64 c.rw, .int .u32 c.fr, .int .u32 c.tt, .bool c.rd, .bool c.wt, .int .i64 c.rk, .bool c.lk]

structure CfC (w : World) (b : Nat) (c : Cf) : Prop where
  c0 : w.cell? ⟨b, 0, none⟩ = some (.int .i64 c.kd)
  c1 : w.cell? ⟨b, 1, none⟩ = some (.int .i64 c.ix)
  c2 : w.cell? ⟨b, 2, none⟩ = some (.int .i64 c.wo)
  c3 : w.cell? ⟨b, 3, none⟩ = some (.int .i64 c.ln)
  c4 : w.cell? ⟨b, 4, none⟩ = some (.bool c.on)
  c5 : w.cell? ⟨b, 5, none⟩ = some (.int .i64 c.rw)
  c6 : w.cell? ⟨b, 6, none⟩ = some (.int .u32 c.fr)
  c7 : w.cell? ⟨b, 7, none⟩ = some (.int .u32 c.tt)
  c8 : w.cell? ⟨b, 8, none⟩ = some (.bool c.rd)
  c9 : w.cell? ⟨b, 9, none⟩ = some (.bool c.wt)
  c10 : w.cell? ⟨b, 10, none⟩ = some (.int .i64 c.rk)
  c11 : w.cell? ⟨b, 11, none⟩ = some (.bool c.lk)
  fr : ∀ i, w.frozen? ⟨b, i, none⟩ = false
theorem CfB.c {w : World} {b : Nat} {s : Cf} (h : CfB w b s) : CfC w b s :=
  ⟨h.cell 0, h.cell 1, h.cell 2, h.cell 3, h.cell 4, h.cell 5, h.cell 6, h.cell 7, h.cell 8, h.cell 9, h.cell 10, h.cell 11, h.frozen⟩
theorem Only.cf {S : List Nat} {w w' : World} {b : Nat} {s : Cf} (hO : Only S w w') (h : CfB w b s) (hb : b ∉ S) : CfB w' b s := hO.blk h hb
theorem CfB.alloc {w : World} {b : Nat} {s : Cf} (h : CfB w b s) (o : Obj) : CfB (w.alloc o) b s := Blk.alloc h o

/-- Are two commands one? -/
def Cf.same (c d : Cf) : Bool :=
  c.kd == d.kd && c.ix == d.ix && c.wo == d.wo && c.ln == d.ln && c.on == d.on && c.rw == d.rw && c.fr == d.fr && c.tt == d.tt && c.rd == d.rd && c.wt == d.wt && c.rk == d.rk && c.lk == d.lk

theorem Cf.same_iff (c d : Cf) : c.same d = true ↔ c = d := by
  obtain ⟨a1, a2, a3, a4, a5, a6, a7, a8, a9, a10, a11, a12⟩ := c
  obtain ⟨b1, b2, b3, b4, b5, b6, b7, b8, b9, b10, b11, b12⟩ := d
  simp [Cf.same, and_assoc]

theorem ite_ok (p : Prop) [Decidable p] (b : Bool) (w : World) : (if p then Result.ok (Value.bool b) w else Result.ok (Value.bool false) w) = Result.ok (Value.bool (decide p && b)) w := by
  by_cases h : p <;> simp [h]
theorem ite_ko (p : Prop) [Decidable p] (b : Bool) (w : World) : (if p then Result.ok (Value.bool b) w else Result.ok (Value.bool true) w) = Result.ok (Value.bool (!decide p || b)) w := by
  by_cases h : p <;> simp [h]

theorem cf_eql (c d : Cf) (w : World) : (binOp .eql 31 c.agg d.agg).run Tryz.prog w = .ok (.bool (c.same d)) w := by
  simp [go_sem]
  simp only [ite_ok, Cf.same, Bool.beq_eq_decide_eq, Bool.and_assoc, Bool.and_true]

theorem cf_neq (c d : Cf) (w : World) : (binOp .neq 31 c.agg d.agg).run Tryz.prog w = .ok (.bool (!c.same d)) w := by
  simp [go_sem]
  simp only [ite_ko, Cf.same, Bool.beq_eq_decide_eq, Bool.not_and, Bool.or_assoc, Bool.or_false]


section
variable (a1 a2 a3 a4 a6 a7 a8 a11 b1 b2 b3 b4 b6 b7 b8 b11 : Int) (a5 a9 a10 a12 b5 b9 b10 b12 : Bool) (w : World)
/-- The same, for the walk, ahead of all other rules. -/
theorem cf_neq24 : (binOp .neq 31 (.agg #[.int .i64 a1, .int .i64 a2, .int .i64 a3, .int .i64 a4, .bool a5, .int .i64 a6, .int .u32 a7, .int .u32 a8, .bool a9, .bool a10, .int .i64 a11, .bool a12])
    (.agg #[.int .i64 b1, .int .i64 b2, .int .i64 b3, .int .i64 b4, .bool b5, .int .i64 b6, .int .u32 b7, .int .u32 b8, .bool b9, .bool b10, .int .i64 b11, .bool b12])).run Tryz.prog w
    = .ok (.bool (!Cf.same ⟨a1, a2, a3, a4, a5, a6, a7, a8, a9, a10, a11, a12⟩ ⟨b1, b2, b3, b4, b5, b6, b7, b8, b9, b10, b11, b12⟩)) w := cf_neq ⟨a1, a2, a3, a4, a5, a6, a7, a8, a9, a10, a11, a12⟩ ⟨b1, b2, b3, b4, b5, b6, b7, b8, b9, b10, b11, b12⟩ w
theorem cf_eql24 : (binOp .eql 31 (.agg #[.int .i64 a1, .int .i64 a2, .int .i64 a3, .int .i64 a4, .bool a5, .int .i64 a6, .int .u32 a7, .int .u32 a8, .bool a9, .bool a10, .int .i64 a11, .bool a12])
    (.agg #[.int .i64 b1, .int .i64 b2, .int .i64 b3, .int .i64 b4, .bool b5, .int .i64 b6, .int .u32 b7, .int .u32 b8, .bool b9, .bool b10, .int .i64 b11, .bool b12])).run Tryz.prog w
    = .ok (.bool (Cf.same ⟨a1, a2, a3, a4, a5, a6, a7, a8, a9, a10, a11, a12⟩ ⟨b1, b2, b3, b4, b5, b6, b7, b8, b9, b10, b11, b12⟩)) w := cf_eql ⟨a1, a2, a3, a4, a5, a6, a7, a8, a9, a10, a11, a12⟩ ⟨b1, b2, b3, b4, b5, b6, b7, b8, b9, b10, b11, b12⟩ w
end
end Go.Proofs.YtagmoehjcgjnjaaGreatDoor

namespace Go.Proofs.YtagmoehjcgjnjaaGreatDoor
open Go Go.RowKit

/-- Is a number from 0 to another? -/
def inB (n b : Int) : Bool := decide (0 ≤ n) && decide (n ≤ b)
theorem inB_true {n b : Int} : inB n b = true ↔ 0 ≤ n ∧ n ≤ b := by simp [inB]

set_option maxHeartbeats 1000000 in
theorem within_any (b n : Int) (g : Nat) (w : World) (hg : Blk w g 3 #[.int .i64 n]) :
    Calls Tryz.prog 103 #[.int .i64 b, .slice (some ⟨g, 0, none⟩) 1 1] w fun e w' => e = .returned (.bool (inB n b)) ∧ Only [] w w' := by
  have hlt := hg.lt
  have c0 : w.cell? ⟨g, 0, none⟩ = some (.int .i64 n) := hg.cell 0
  by_cases h0 : 0 ≤ n
  · by_cases h1 : n ≤ b
    · have e : inB n b = true := inB_true.2 ⟨h0, h1⟩
      rw [e]
      have n0 : ¬ n < 0 := by omega
      have n1 : ¬ b < n := by omega
      go_enter Tryz.func103, Tryz.ntmps103
      go_wp2
      go_rounds 2
      go_ret
      exact ⟨rfl, (Only.refl _ _).alloc _⟩
    · have e : inB n b = false := by simp [inB]; omega
      rw [e]
      have n0 : ¬ n < 0 := by omega
      have n1 : b < n := by omega
      go_enter Tryz.func103, Tryz.ntmps103
      go_wp2
      go_rounds 2
      go_ret
      exact ⟨rfl, (Only.refl _ _).alloc _⟩
  · have e : inB n b = false := by simp [inB]; omega
    rw [e]
    have n0 : n < 0 := by omega
    go_enter Tryz.func103, Tryz.ntmps103
    go_wp2
    go_rounds 2
    go_ret
    exact ⟨rfl, (Only.refl _ _).alloc _⟩

/-- A command with what its kind names alone. -/
def Cf.named (c : Cf) : Cf :=
  if c.kd = 1 then ⟨1, c.ix, 0, 0, c.on, c.rw, c.fr, c.tt, c.rd, c.wt, c.rk, c.lk⟩
  else if c.kd = 3 ∨ c.kd = 5 then ⟨c.kd, c.ix, c.wo, 0, false, 0, 0, 0, false, false, 0, false⟩
  else if c.kd = 6 then ⟨c.kd, c.ix, 0, c.ln, false, 0, 0, 0, false, false, 0, false⟩
  else if c.kd = 7 then ⟨c.kd, 0, 0, 0, false, 0, 0, 0, false, false, 0, false⟩
  else ⟨c.kd, c.ix, 0, 0, false, 0, 0, 0, false, false, 0, false⟩

set_option maxHeartbeats 1000000 in
theorem named_any (c : Cf) (w : World) :
    Calls Tryz.prog 102 #[c.agg] w fun e w' => e = .returned c.named.agg ∧ Only [] w w' := by
  obtain ⟨kd, ix, wo, ln, on, rw, fr, tt, rd, wt, rk, lk⟩ := c
  by_cases h1 : kd = 1
  · subst h1
    go_enter Tryz.func102, Tryz.ntmps102
    go_wp2
    go_returns
    exact ⟨rfl, by repeat (first | exact Only.refl _ _ | refine Only.setCell ?_ (.inr (by simp)) _ | refine Only.alloc ?_ _)⟩
  by_cases h3 : kd = 3
  · subst h3
    go_enter Tryz.func102, Tryz.ntmps102
    go_wp2
    go_returns
    exact ⟨rfl, by repeat (first | exact Only.refl _ _ | refine Only.setCell ?_ (.inr (by simp)) _ | refine Only.alloc ?_ _)⟩
  by_cases h5 : kd = 5
  · subst h5
    go_enter Tryz.func102, Tryz.ntmps102
    go_wp2
    go_returns
    exact ⟨rfl, by repeat (first | exact Only.refl _ _ | refine Only.setCell ?_ (.inr (by simp)) _ | refine Only.alloc ?_ _)⟩
  by_cases h6 : kd = 6
  · subst h6
    go_enter Tryz.func102, Tryz.ntmps102
    go_wp2
    go_returns
    exact ⟨rfl, by repeat (first | exact Only.refl _ _ | refine Only.setCell ?_ (.inr (by simp)) _ | refine Only.alloc ?_ _)⟩
  by_cases h7 : kd = 7
  · subst h7
    go_enter Tryz.func102, Tryz.ntmps102
    go_wp2
    go_returns
    exact ⟨rfl, by repeat (first | exact Only.refl _ _ | refine Only.setCell ?_ (.inr (by simp)) _ | refine Only.alloc ?_ _)⟩
  have n1 : (kd == 1) = false := by simpa using h1
  have n3 : (kd == 3) = false := by simpa using h3
  have n5 : (kd == 5) = false := by simpa using h5
  have n6 : (kd == 6) = false := by simpa using h6
  have n7 : (kd == 7) = false := by simpa using h7
  have e : Cf.named ⟨kd, ix, wo, ln, on, rw, fr, tt, rd, wt, rk, lk⟩ = ⟨kd, ix, 0, 0, false, 0, 0, 0, false, false, 0, false⟩ := by
    simp [Cf.named, h1, h3, h5, h6, h7]
  rw [e]
  clear h1 h3 h5 h6 h7 e
  go_enter Tryz.func102, Tryz.ntmps102
  go_wp2
  go_returns
  exact ⟨rfl, by repeat (first | exact Only.refl _ _ | refine Only.setCell ?_ (.inr (by simp)) _ | refine Only.alloc ?_ _)⟩
end Go.Proofs.YtagmoehjcgjnjaaGreatDoor

namespace Go.Proofs.YtagmoehjcgjnjaaGreatDoor
open Go Go.RowKit

attribute [local go_sem ↓] cf_neq24 cf_eql24

/-- Can a command be said? -/
def Cf.right (c : Cf) : Bool :=
  decide (1 ≤ c.kd) && decide (c.kd ≤ 7) && c.same c.named && inB c.ix 999 &&
    (if c.kd = 1 then c.on && inB c.rw 99 && inB c.rk 999 else inB c.wo 99 && inB (max c.ln 0) 99 && decide (-1 ≤ c.ln))

set_option maxHeartbeats 4000000 in
theorem right_lo (c : Cf) (w : World) (h : c.kd < 1 ∨ 7 < c.kd) :
    Calls Tryz.prog 63 #[c.agg] w fun e w' => e = .returned (.bool c.right) ∧ Only [] w w' := by
  have e : c.right = false := by simp [Cf.right]; omega
  rw [e]
  obtain ⟨kd, ix, wo, ln, on, rw, fr, tt, rd, wt, rk, lk⟩ := c
  simp only at h
  clear e
  rcases h with h1 | h1
  · have n1 : decide (kd < 1) = true := by simpa using h1
    go_enter Tryz.func63, Tryz.ntmps63
    go_wp2_with fail
    go_region
    all_goals (go_wp2; go_ret; exact ⟨rfl, ((Only.refl _ _).alloc _).drew⟩)
  · have n1 : decide (kd < 1) = false := by simp; omega
    have n2 : decide (7 < kd) = true := by simpa using h1
    clear h1
    go_enter Tryz.func63, Tryz.ntmps63
    go_wp2_with fail
    go_region
    all_goals (go_wp2; go_ret; exact ⟨rfl, ((Only.refl _ _).alloc _).drew⟩)

set_option maxRecDepth 100000 in
set_option maxHeartbeats 4000000 in
theorem right_un (c d : Cf) (w : World) (h1 : 1 ≤ c.kd) (h2 : c.kd ≤ 7) (hd : c.named = d) (h3 : c.same d = false) :
    Calls Tryz.prog 63 #[c.agg] w fun e w' => e = .returned (.bool false) ∧ Only [] w w' := by
  have hb : CfB (w.alloc (.cells #[.int .i64 c.kd, .int .i64 c.ix, .int .i64 c.wo, .int .i64 c.ln, .bool c.on, .int .i64 c.rw, .int .u32 c.fr, .int .u32 c.tt, .bool c.rd, .bool c.wt, .int .i64 c.rk, .bool c.lk] 31)) w.heap.size c := Blk.new' rfl rfl
  have Hn := Lib.hid (named_any c)
  rw [hd] at Hn
  clear hd
  obtain ⟨kd, ix, wo, ln, on, rw, fr, tt, rd, wt, rk, lk⟩ := c
  obtain ⟨kd', ix', wo', ln', on', rw', fr', tt', rd', wt', rk', lk'⟩ := d
  simp only at h1 h2 hb
  have n1 : decide (kd < 1) = false := by simp; omega
  have n2 : decide (7 < kd) = false := by simp; omega
  clear h1 h2
  go_enter Tryz.func63, Tryz.ntmps63
  go_wp2_with fail
  refine wp_region_D (Only [] (w.alloc (.cells #[.int .i64 kd, .int .i64 ix, .int .i64 wo, .int .i64 ln, .bool on, .int .i64 rw, .int .u32 fr, .int .u32 tt, .bool rd, .bool wt, .int .i64 rk, .bool lk] 31))) (by kernel_rfl) (by kernel_rfl) ((Only.refl _ _).drew) ?_
  repeat (first
    | (refine wpT_step ?_ (stD rfl (fun w' hD => ?_)) ?_
       rotate_left
       · obtain ⟨c0, c1, c2, c3, c4, c5, c6, c7, c8, c9, c10, c11, -⟩ := (hD.cf hb (by simp)).c
         simp only at c0 c1 c2 c3 c4 c5 c6 c7 c8 c9 c10 c11
         go_simp
         first
           | (refine ⟨?_, hD⟩; rfl)
           | (refine (Hn.out w').mono ?_; rintro e w'' ⟨rfl, h⟩; refine ⟨?_, hD.trans h⟩; rfl)
       simp only [Act.put, List.setIfInBounds_toArray, List.set_cons_succ, List.set_cons_zero, Nat.zero_add, Nat.reduceAdd])
    | (refine wpT_step _ (stD_skip rfl) ?_
       simp only [Act.put, List.setIfInBounds_toArray, List.set_cons_succ, List.set_cons_zero, Nat.reduceAdd]))
  refine wpT_nil ?_
  intro w5 hD
  go_wp2_with fail
  go_ret
  exact ⟨rfl, ((Only.refl _ _).alloc _).trans hD⟩
end Go.Proofs.YtagmoehjcgjnjaaGreatDoor

namespace Go.Proofs.YtagmoehjcgjnjaaGreatDoor
open Go Go.RowKit

attribute [local go_sem ↓] cf_neq24 cf_eql24


set_option maxHeartbeats 4000000 in
theorem right_ix (c : Cf) (w : World) (h1 : 1 ≤ c.kd) (h2 : c.kd ≤ 7) (h3 : c.named = c) (h4 : inB c.ix 999 = false) :
    Calls Tryz.prog 63 #[c.agg] w fun e w' => e = .returned (.bool false) ∧ Only [] w w' := by
  have hb : CfB (w.alloc (.cells #[.int .i64 c.kd, .int .i64 c.ix, .int .i64 c.wo, .int .i64 c.ln, .bool c.on, .int .i64 c.rw, .int .u32 c.fr, .int .u32 c.tt, .bool c.rd, .bool c.wt, .int .i64 c.rk, .bool c.lk] 31)) w.heap.size c := Blk.new' rfl rfl
  have hs : c.same c = true := (Cf.same_iff c c).2 rfl
  have Hn := Lib.hid (named_any c)
  rw [h3] at Hn
  clear h3
  obtain ⟨kd, ix, wo, ln, on, rw, fr, tt, rd, wt, rk, lk⟩ := c
  simp only at h1 h2 h4 hb
  have n1 : decide (kd < 1) = false := by simp; omega
  have n2 : decide (7 < kd) = false := by simp; omega
  clear h1 h2
  have H4 := Lib.hid h4
  clear h4
  go_enter Tryz.func63, Tryz.ntmps63
  go_wp2_with fail
  go_region_with (first
    | (go_at_call 102; refine (Hn.out _).mono ?_; rintro e w1 ⟨rfl, hO1⟩; obtain ⟨c0, c1, c2, c3, c4, c5, c6, c7, c8, c9, c10, c11, -⟩ := (hO1.cf (hb.drew) (by simp)).c)
    | (go_at_call 103; refine (within_any _ _ _ _ (Blk.new' rfl rfl)).mono ?_; rintro e w2 ⟨rfl, hO2⟩; rw [H4.out]))
  all_goals (go_wp2_with fail; go_ret; exact ⟨rfl, (((((Only.refl _ _).alloc _).drew).trans hO1).alloc _).trans hO2⟩)

end Go.Proofs.YtagmoehjcgjnjaaGreatDoor

namespace Go.Proofs.YtagmoehjcgjnjaaGreatDoor
open Go Go.RowKit

attribute [local go_sem ↓] cf_neq24 cf_eql24

set_option maxHeartbeats 8000000 in
theorem right_rg (c : Cf) (w : World) (h1 : c.kd = 1) (h3 : c.named = c) (h4 : inB c.ix 999 = true) :
    Calls Tryz.prog 63 #[c.agg] w fun e w' => e = .returned (.bool (c.on && inB c.rw 99 && inB c.rk 999)) ∧ Only [] w w' := by
  have hb : CfB (w.alloc (.cells #[.int .i64 c.kd, .int .i64 c.ix, .int .i64 c.wo, .int .i64 c.ln, .bool c.on, .int .i64 c.rw, .int .u32 c.fr, .int .u32 c.tt, .bool c.rd, .bool c.wt, .int .i64 c.rk, .bool c.lk] 31)) w.heap.size c := Blk.new' rfl rfl
  have hs : c.same c = true := (Cf.same_iff c c).2 rfl
  have Hn := Lib.hid (named_any c)
  rw [h3] at Hn
  clear h3
  obtain ⟨kd, ix, wo, ln, on, rw, fr, tt, rd, wt, rk, lk⟩ := c
  simp only at h1 h4 hb
  subst h1
  have H4 := Lib.hid h4
  clear h4
  go_enter Tryz.func63, Tryz.ntmps63
  go_wp2_with fail
  go_region_with (first
    | (go_at_call 102; refine (Hn.out _).mono ?_; rintro e w1 ⟨rfl, hO1⟩; obtain ⟨c0, c1, c2, c3, c4, c5, c6, c7, c8, c9, c10, c11, -⟩ := (hO1.cf (hb.drew) (by simp)).c)
    | (go_at_call 103; refine (within_any _ _ _ _ (Blk.new' rfl rfl)).mono ?_; rintro e w2 ⟨rfl, hO2⟩; rw [H4.out]))
  all_goals
    have hE := hO2.cf ((hO1.cf (hb.drew) (by simp)).alloc (.cells #[.int .i64 ix] 3)) (by simp)
    have hO := (((((Only.refl [] w).alloc _).drew).trans hO1).alloc _).trans hO2
    clear c0 c1 c2 c3 c4 c5 c6 c7 c8 c9 c10 c11 hO1 hO2 Hn H4 hb hs
    obtain ⟨c0, c1, c2, c3, c4, c5, c6, c7, c8, c9, c10, c11, -⟩ := hE.c
    simp only at c0 c4 c5 c10
    clear c1 c2 c3 c6 c7 c8 c9 c11
    cases on
    · go_wp2_with fail
      go_ret
      exact ⟨rfl, hO⟩
    · go_wp2_with fail
      refine (within_any _ _ _ _ (Blk.new' rfl rfl)).mono ?_
      rintro e w3 ⟨rfl, hO3⟩
      have hE3 := hO3.cf (hE.alloc (.cells #[.int .i64 rw] 3)) (by simp)
      have hOa := (hO.alloc (.cells #[.int .i64 rw] 3)).trans hO3
      have c10 : w3.cell? ⟨w.heap.size, 10, none⟩ = some (.int .i64 rk) := hE3.c.c10
      clear c0 c4 c5 hE hO3 hO
      cases hy : inB rw 99
      · go_wp2_with fail
        go_ret
        exact ⟨by show Ending.returned (.bool false) = .returned (.bool (true && inB rw 99 && inB rk 999)); rw [hy]; rfl, hOa⟩
      · have Hy := Lib.hid hy
        clear hy
        go_wp2_with fail
        refine (within_any _ _ _ _ (Blk.new' rfl rfl)).mono ?_
        rintro e w4 ⟨rfl, hO4⟩
        go_wp2_with fail
        go_ret
        exact ⟨by show Ending.returned (.bool (inB rk 999)) = .returned (.bool (true && inB rw 99 && inB rk 999)); rw [Hy.out]; rfl, (hOa.alloc _).trans hO4⟩
end Go.Proofs.YtagmoehjcgjnjaaGreatDoor

namespace Go.Proofs.YtagmoehjcgjnjaaGreatDoor
open Go Go.RowKit

attribute [local go_sem ↓] cf_neq24 cf_eql24


set_option maxHeartbeats 8000000 in
theorem right_nr (c : Cf) (w : World) (h1 : 2 ≤ c.kd) (h2 : c.kd ≤ 7) (h3 : c.named = c) (h4 : inB c.ix 999 = true) :
    Calls Tryz.prog 63 #[c.agg] w fun e w' => e = .returned (.bool (inB c.wo 99 && inB (max c.ln 0) 99 && decide (-1 ≤ c.ln))) ∧ Only [] w w' := by
  have hb : CfB (w.alloc (.cells #[.int .i64 c.kd, .int .i64 c.ix, .int .i64 c.wo, .int .i64 c.ln, .bool c.on, .int .i64 c.rw, .int .u32 c.fr, .int .u32 c.tt, .bool c.rd, .bool c.wt, .int .i64 c.rk, .bool c.lk] 31)) w.heap.size c := Blk.new' rfl rfl
  have hs : c.same c = true := (Cf.same_iff c c).2 rfl
  have Hn := Lib.hid (named_any c)
  rw [h3] at Hn
  clear h3
  obtain ⟨kd, ix, wo, ln, on, rw, fr, tt, rd, wt, rk, lk⟩ := c
  simp only at h1 h2 h4 hb
  have n1 : decide (kd < 1) = false := by simp; omega
  have n2 : decide (7 < kd) = false := by simp; omega
  have n3 : (kd == 1) = false := by simp; omega
  clear h1 h2
  have H4 := Lib.hid h4
  clear h4
  go_enter Tryz.func63, Tryz.ntmps63
  go_wp2_with fail
  go_region_with (first
    | (go_at_call 102; refine (Hn.out _).mono ?_; rintro e w1 ⟨rfl, hO1⟩; obtain ⟨c0, c1, c2, c3, c4, c5, c6, c7, c8, c9, c10, c11, -⟩ := (hO1.cf (hb.drew) (by simp)).c)
    | (go_at_call 103; refine (within_any _ _ _ _ (Blk.new' rfl rfl)).mono ?_; rintro e w2 ⟨rfl, hO2⟩; rw [H4.out]))
  all_goals
    have hE := hO2.cf ((hO1.cf (hb.drew) (by simp)).alloc (.cells #[.int .i64 ix] 3)) (by simp)
    have hO := (((((Only.refl [] w).alloc _).drew).trans hO1).alloc _).trans hO2
    clear c0 c1 c2 c3 c4 c5 c6 c7 c8 c9 c10 c11 hO1 hO2 Hn H4 hb hs n1 n2
    obtain ⟨c0, c1, c2, c3, c4, c5, c6, c7, c8, c9, c10, c11, -⟩ := hE.c
    simp only at c0 c2 c3
    clear c1 c4 c5 c6 c7 c8 c9 c10 c11
    go_wp2_with fail
    refine (within_any _ _ _ _ (Blk.new' rfl rfl)).mono ?_
    rintro e w3 ⟨rfl, hO3⟩
    have hE3 := hO3.cf (hE.alloc (.cells #[.int .i64 wo] 3)) (by simp)
    have hOa := (hO.alloc (.cells #[.int .i64 wo] 3)).trans hO3
    have c3 : w3.cell? ⟨w.heap.size, 3, none⟩ = some (.int .i64 ln) := hE3.c.c3
    clear c0 c2 hE hO3 hO
    cases hy : inB wo 99
    · go_wp2_with fail
      go_ret
      exact ⟨by show Ending.returned (.bool false) = .returned (.bool (inB wo 99 && inB (max ln 0) 99 && decide (-1 ≤ ln))); rw [hy]; rfl, hOa⟩
    · have Hy := Lib.hid hy
      clear hy
      rcases (by omega : 0 ≤ ln ∨ ln < 0) with hl | hl
      · have hm : max ln 0 = ln := by omega
        have Hm := Lib.hid hm
        clear hm
        go_wp2_with fail
        refine (within_any _ _ _ _ (Blk.new' rfl rfl)).mono ?_
        rintro e w4 ⟨rfl, hO4⟩
        have hE4 := hO4.cf (hE3.alloc (.cells #[.int .i64 ln] 3)) (by simp)
        have c3 : w4.cell? ⟨w.heap.size, 3, none⟩ = some (.int .i64 ln) := hE4.c.c3
        have hOb := (hOa.alloc (.cells #[.int .i64 ln] 3)).trans hO4
        cases hz : inB ln 99
        · go_wp2_with fail
          go_ret
          exact ⟨by show Ending.returned (.bool false) = .returned (.bool (inB wo 99 && inB (max ln 0) 99 && decide (-1 ≤ ln))); rw [Hy.out, Hm.out, hz]; rfl, hOb⟩
        · have Hz := Lib.hid hz
          clear hz
          go_wp2_with fail
          go_ret
          exact ⟨by show Ending.returned (.bool (decide (-1 ≤ ln))) = .returned (.bool (inB wo 99 && inB (max ln 0) 99 && decide (-1 ≤ ln))); rw [Hy.out, Hm.out, Hz.out]; simp, hOb⟩
      · have hm : max ln 0 = 0 := by omega
        have Hm := Lib.hid hm
        clear hm
        go_wp2_with fail
        refine (within_any _ _ _ _ (Blk.new' rfl rfl)).mono ?_
        rintro e w4 ⟨rfl, hO4⟩
        have hE4 := hO4.cf (hE3.alloc (.cells #[.int .i64 0] 3)) (by simp)
        have c3 : w4.cell? ⟨w.heap.size, 3, none⟩ = some (.int .i64 ln) := hE4.c.c3
        have hOb := (hOa.alloc (.cells #[.int .i64 0] 3)).trans hO4
        have hz : inB 0 99 = true := rfl
        go_wp2_with fail
        go_ret
        exact ⟨by show Ending.returned (.bool (decide (-1 ≤ ln))) = .returned (.bool (inB wo 99 && inB (max ln 0) 99 && decide (-1 ≤ ln))); rw [Hy.out, Hm.out, hz]; simp, hOb⟩
end Go.Proofs.YtagmoehjcgjnjaaGreatDoor

namespace Go.Proofs.YtagmoehjcgjnjaaGreatDoor
open Go Go.RowKit

theorem right_any (c : Cf) (w : World) :
    Calls Tryz.prog 63 #[c.agg] w fun e w' => e = .returned (.bool c.right) ∧ Only [] w w' := by
  by_cases h0 : c.kd < 1 ∨ 7 < c.kd
  · exact right_lo c w h0
  have h1 : 1 ≤ c.kd := by omega
  have h2 : c.kd ≤ 7 := by omega
  cases hs : c.same c.named with
  | false =>
    have e : c.right = false := by simp [Cf.right, hs]
    rw [e]
    exact right_un c _ w h1 h2 rfl hs
  | true =>
    have h3 : c.named = c := ((Cf.same_iff _ _).1 hs).symm
    cases hi : inB c.ix 999 with
    | false =>
      have e : c.right = false := by simp [Cf.right, hi]
      rw [e]
      exact right_ix c w h1 h2 h3 hi
    | true =>
      by_cases hk : c.kd = 1
      · have e : c.right = (c.on && inB c.rw 99 && inB c.rk 999) := by simp [Cf.right, hs, hi, hk]
        rw [e]
        exact right_rg c w hk h3 hi
      · have e : c.right = (inB c.wo 99 && inB (max c.ln 0) 99 && decide (-1 ≤ c.ln)) := by simp [Cf.right, hs, hi, hk, h1, h2]
        rw [e]
        exact right_nr c w (by omega) h2 h3 hi
end Go.Proofs.YtagmoehjcgjnjaaGreatDoor

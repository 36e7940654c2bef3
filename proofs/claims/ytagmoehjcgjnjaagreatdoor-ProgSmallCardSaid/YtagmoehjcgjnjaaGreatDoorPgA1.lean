/- scan of package prog, walked. Conditions: the listed variables are laid; words are short. -/
import Derived.Test.YtagmoehjcgjnjaaGreatDoorPgN2
import Derived.Test.YtagmoehjcgjnjaaGreatDoorPgX
import Derived.Test.YtagmoehjcgjnjaaGreatDoorCfR6
import Derived.Deep.DeepCutAuto
import Derived.Deep.CutBlock
import Derived.Outline
namespace Go.Proofs.YtagmoehjcgjnjaaGreatDoor
open Go Go.RowKit
attribute [local go_sem ↓] str_eql
attribute [local go_sem] run_store_fn

/-- One number more. -/
def numS (b : Nat) (p : In × List (List UInt8)) : In × List (List UInt8) := ((if numK b (p.2.headD []) then p.1 else p.1.withOp 0), p.2.tail)

/-- What is known of the Op between two rounds. -/
def OpSt (k o : Int) (seen : Array Nat) : Prop := o = k ∨ (o = 0 ∧ ∃ n : Nat, k = n ∧ Comes seen n)
theorem OpSt.start (l : List UInt8) : OpSt (opOf l) 0 #[] := by
  rcases opOf_spec l with h | ⟨h1, h2, -⟩
  · exact .inl h.symm
  · exact .inr ⟨rfl, (opOf l).toNat, by omega, by omega, by omega, by simp⟩
theorem OpSt.miss {l : List UInt8} {o : Int} {seen : Array Nat} {k b : Nat} (h : OpSt (opOf l) o seen) (hk : 1 ≤ k ∧ k ≤ 10) (hb : b + 1 = k) (hl : opW k ≠ l) : OpSt (opOf l) o (seen.push b) := by
  rcases h with h | ⟨h, n, hn, hc⟩
  · exact .inl h
  · refine .inr ⟨h, n, hn, hc.push ?_⟩
    intro e
    rcases opOf_spec l with h0 | ⟨-, -, h3⟩
    · have := hc.1; omega
    · apply hl
      rw [h3, hn, ← e, hb]
theorem OpSt.hit {l : List UInt8} {seen : Array Nat} {k b : Nat} (hk : 1 ≤ k ∧ k ≤ 10) (hl : opW k = l) : OpSt (opOf l) k (seen.push b) := by
  refine .inl ?_
  rw [← hl, opOf_W _ (by omega)]
theorem OpSt.done {k o : Int} {seen : Array Nat} (h : OpSt k o seen) (h0 : (leftOf kindsE seen).size = 0) : o = k := by
  rcases h with h | ⟨-, n, -, hc⟩
  · exact h
  · have := hc.none; omega

/-- What the words behind the first one say. -/
def In.withTo (x : In) (n : Int) : In := ⟨x.op, x.sz, x.ad, x.ix, x.dt, n, x.cf⟩
def In.withDt (x : In) (n : Int) : In := ⟨x.op, x.sz, x.ad, x.ix, n, x.to, x.cf⟩
def In.withAt (x : In) (sz ad : Int) (ix : Bool) : In := ⟨x.op, sz, ad, ix, x.dt, x.to, x.cf⟩
def In.withCf (x : In) (c : Cf) : In := ⟨x.op, x.sz, x.ad, x.ix, x.dt, x.to, c⟩
def toP (x : In) (r : List (List UInt8)) : In := (numS 10 (x, r)).1.withTo (numV 10 (r.headD []))
def idleP (x : In) (r : List (List UInt8)) : In := (numS 10 (x, r)).1.withDt (numV 10 (r.headD []))
def dataP (x : In) (r : List (List UInt8)) : In :=
  let y := (numS 16 (x, r)).1.withDt (numV 16 (r.headD []))
  if y.op = 5 then toP y r.tail else y
def atP (x : In) (r : List (List UInt8)) : In :=
  let y := (numS 16 (numS 10 (x, r))).1.withAt (numV 10 (r.headD [])) (numV 16 (r.tail.headD [])) (r.tail.tail.headD [] == [43])
  if y.op = 2 then dataP y (if r.tail.tail.headD [] == [43] then r.tail.tail.tail else r.tail.tail) else y
def restP (k : Int) (r : List (List UInt8)) : In :=
  if k = 1 ∨ k = 2 ∨ k = 3 then atP (In.only k) r else if k = 5 ∨ k = 8 then dataP (In.only k) r else if k = 6 then toP (In.only k) r else if k = 7 then idleP (In.only k) r
  else if k = 9 then (In.only 9).withCf (readC (Lib.join r [32]) (parse (Lib.join r [32]))) else In.only k
/-- What a line's words say. -/
def scanP (ws : List (List UInt8)) : In := restP (opOf (ws.headD [])) ws.tail

theorem toP_eq {x : In} {r : List (List UInt8)} {y : In} (hy : (if numK 10 (r.headD []) then x else x.withOp 0) = y) : toP x r = y.withTo (numV 10 (r.headD [])) := by subst hy; rfl
theorem dataP_eq {x : In} {r : List (List UInt8)} {y : In} (hy : (if numK 16 (r.headD []) then x else x.withOp 0) = y) :
    dataP x r = if y.op = 5 then toP (y.withDt (numV 16 (r.headD []))) r.tail else y.withDt (numV 16 (r.headD [])) := by subst hy; rfl
theorem atP_eq {x : In} {r : List (List UInt8)} {y z : In} (hy : (if numK 10 (r.headD []) then x else x.withOp 0) = y) (hz : (if numK 16 (r.tail.headD []) then y else y.withOp 0) = z) :
    atP x r = if z.op = 2 then dataP (z.withAt (numV 10 (r.headD [])) (numV 16 (r.tail.headD [])) (r.tail.tail.headD [] == [43])) (if r.tail.tail.headD [] == [43] then r.tail.tail.tail else r.tail.tail)
      else z.withAt (numV 10 (r.headD [])) (numV 16 (r.tail.headD [])) (r.tail.tail.headD [] == [43]) := by subst hy; subst hz; rfl
theorem op_if {b : Bool} {x : In} : (if b then x else x.withOp 0).op = if b then x.op else 0 := by cases b <;> rfl

theorem join_off (sb off : Nat) (xs : List (List UInt8)) (w : World) (hc : ∀ (j : Nat) l, xs[j]? = some l → w.cell? ⟨sb, off + j, none⟩ = some (str l)) (hg : sb < w.heap.size) (hn : xs.length ≤ 1000000) (hlen : (Lib.join xs [32]).length ≤ 140737488355328) :
    Calls Tryz.prog 31 #[.slice (some ⟨sb, off, none⟩) xs.length xs.length, .string ⟨#[32]⟩] w fun e w' => e = .returned (str (Lib.join xs [32])) ∧ Only [] w w' := by
  have hx : (xs.map fun l => (⟨l.toArray⟩ : ByteArray)).map (·.data.toList) = xs := by
    rw [List.map_map]
    exact (List.map_congr_left (g := id) (fun l _ => by simp)).trans (List.map_id xs)
  have hsh := Tryz.strings_Join sb off xs.length (xs.map fun l => ⟨l.toArray⟩) ⟨#[32]⟩ w (fun j x hj => by
    rw [List.getElem?_map] at hj
    obtain ⟨l, hl, rfl⟩ := Option.map_eq_some_iff.1 hj
    exact hc j l hl) hg (by simp; omega) (by simp) (by rw [hx]; exact hlen)
  rw [hx, List.length_map] at hsh
  refine hsh.mono ?_
  rintro e w' ⟨rfl, hO⟩
  exact ⟨rfl, Only.of_below hO⟩
theorem setL_full (c : Cf) : setL Cf.zero.list.toArray 0 c.list = c.list.toArray := by simp [setL]
theorem setL_scs (x : In) (v : Value) (c : Cf) : setL (x.scs v) 7 c.list = (x.withCf c).scs v := by simp [setL, In.withCf]
theorem Blk.rngF {w : World} {b t : Nat} {cs : List Value} (h : Blk w b t cs.toArray) : w.rangeAt b 0 cs := fun j v hj => by
  rw [Nat.zero_add, h.cell j, ← Array.getElem?_toList]
  exact hj

theorem wrap_num (b : Nat) (l : List UInt8) : IntKind.i64.wrap (numV b l : Int) = (numV b l : Int) := IntWalk.i64_in _ (by have := numV_max b l; omega)

end Go.Proofs.YtagmoehjcgjnjaaGreatDoor

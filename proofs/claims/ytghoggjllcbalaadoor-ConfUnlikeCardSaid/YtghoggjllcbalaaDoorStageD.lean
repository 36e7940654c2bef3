/- A region that draws its order, its operations one by one, over a class of worlds. No condition. -/
import Derived.Test.YtghoggjllcbalaaDoorStage
namespace Go.Proofs.YtghoggjllcbalaaDoor
open Go

section
variable {P : Program} {ops : Array Oper}
theorem stD {D : World → Prop} {i : Nat} {o : Oper} {v : Value} {a : Act} (hw : Region.wanted o (yielded ops a.tmps) = true) (h : ∀ w, D w → StUpon P v D ((execOp a.eval o).run P w)) : StYields P (fun _ => D) ops i o v a := by
  intro L w hs
  rw [if_pos hw]
  exact h w hs.cls
theorem stD_pure {D : World → Prop} {i : Nat} {o : Oper} {v : Value} {a : Act} (hw : Region.wanted o (yielded ops a.tmps) = true) (h : ∀ w, D w → (execOp a.eval o).run P w = .ok (.value v) w) : StYields P (fun _ => D) ops i o v a := by
  intro L w hs
  rw [if_pos hw, h w hs.cls]
  exact ⟨rfl, hs.cls⟩
theorem stD_skip {D : World → Prop} {i : Nat} {o : Oper} {a : Act} (hw : Region.wanted o (yielded ops a.tmps) = false) : StYields P (fun _ => D) ops i o undef a := by
  intro L w hs
  rw [if_neg (by rw [hw]; simp)]
  exact ⟨rfl, hs.cls⟩
theorem stD_call {D : World → Prop} {i : Nat} {o : Oper} {v : Value} {a : Act} {f : FuncId} {args : Array Value} (hw : Region.wanted o (yielded ops a.tmps) = true) (h : ∀ w, D w → (execOp a.eval o).run P w = .ok (.enter f args) w)
    (hc : ∀ w, D w → Calls P f args w fun e w' => e = .returned v ∧ D w') : StYields P (fun _ => D) ops i o v a := by
  intro L w hs
  rw [if_pos hw, h w hs.cls]
  exact hc w hs.cls
end
end Go.Proofs.YtghoggjllcbalaaDoor

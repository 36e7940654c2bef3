/-
  No cell of these rows narrows 'for every input' (looked for: loops, veiled, ifaces, maps, wideKeys, modest, calm, conditions, laid).
  DERIVED. THE GIVEN ROWS OF THIS SEAT. 4 by the template 'for every input the law returns true; each argument reads behind the call as it read before'; 0 by the template 'total and deterministic' (their statements: YtnnlnffdbdpmbaaTotals.lean).
  GIVEN WITH THE SEED: the statements are not yours to turn. If you find one false, say at which input.
  Laid BY PROGRAM, IN A SANDBOX (cutbox-rows.mjs): the forced cells as the released guide's own fill.sh prints them over the translation 147a8dc446630268… (all of the seat's roots in one cut). By AI agents, Wed Nov 11 2026. No macro, syntax, notation, axiom, sorry.
-/
import Derived.Test.YtnnlnffdbdpmbaaChecked
import GoSem.Claim
import GoSem.ClaimJoined
import GoSem.ClaimMapViews
import Derived.JoinedTies
import Derived.KernelRfl
namespace Go.Proofs.Ytnnlnffdbdpmbaa
/- THE CELL 'sum', in the pinned program and in every row, IS THE sha256 OF THE DUMP (.gsa) THAT YtnnlnffdbdpmbaaProg.lean LOADS. Nothing in Lean hashes anything: it is a label: what it is worth is what the hold of that sum in a sandbox is worth. -/
noncomputable def Try.pinned : Pinned := { name := "ytnnlnffdbdpmbaa", sum := "147a8dc446630268758ce734ee07add9a8f473712e8bbb93a742687cf8738499", checked := Try.checked }
namespace Rows
def none {H : Type} : Left H := { results := [], args := [] }

/-- 'septumlaw14.DmaStops': WHATEVER THE INPUT: true; the input reads as it did. -/
def dmaStopsSpec : ChangeSpec := { name := "dmaStops", fn := fun _ => fun
  | [d1, d2, d3] => { results := [.lit (.bool true)], args := [d1, d2, d3] }
  | _ => none }
def dmaStopsRow : OpenClaim := { program := "ytnnlnffdbdpmbaa", sum := "147a8dc446630268758ce734ee07add9a8f473712e8bbb93a742687cf8738499", func := "septum/septumlaw14.DmaStops", spec := "dmaStops", unfollowed := true, recurses := true, apart := false }
def DmaStopsSaid : Prop := dmaStopsRow.holds Try.pinned (OpenSpec.ofChange dmaStopsSpec)

/-- ITS FALSE NEIGHBOUR: 'it returns false'. Refute it at one input. -/
def dmaStopsWrong : ChangeSpec := { name := "dmaStops", fn := fun _ => fun
  | [d1, d2, d3] => { results := [.lit (.bool false)], args := [d1, d2, d3] }
  | _ => none }
def DmaStopsWrongFalsely : Prop := dmaStopsRow.holds Try.pinned (OpenSpec.ofChange dmaStopsWrong)

/-- 'septumlaw14.DmaDoes': WHATEVER THE INPUT: true; the input reads as it did. -/
def dmaDoesSpec : ChangeSpec := { name := "dmaDoes", fn := fun _ => fun
  | [d1, d2] => { results := [.lit (.bool true)], args := [d1, d2] }
  | _ => none }
def dmaDoesRow : OpenClaim := { program := "ytnnlnffdbdpmbaa", sum := "147a8dc446630268758ce734ee07add9a8f473712e8bbb93a742687cf8738499", func := "septum/septumlaw14.DmaDoes", spec := "dmaDoes", unfollowed := true, recurses := true, apart := false }
def DmaDoesSaid : Prop := dmaDoesRow.holds Try.pinned (OpenSpec.ofChange dmaDoesSpec)

/-- ITS FALSE NEIGHBOUR: 'it returns false'. Refute it at one input. -/
def dmaDoesWrong : ChangeSpec := { name := "dmaDoes", fn := fun _ => fun
  | [d1, d2] => { results := [.lit (.bool false)], args := [d1, d2] }
  | _ => none }
def DmaDoesWrongFalsely : Prop := dmaDoesRow.holds Try.pinned (OpenSpec.ofChange dmaDoesWrong)

/-- 'septumlaw14.DmaEnds': WHATEVER THE INPUT: true; the input reads as it did. -/
def dmaEndsSpec : ChangeSpec := { name := "dmaEnds", fn := fun _ => fun
  | [] => { results := [.lit (.bool true)], args := [] }
  | _ => none }
def dmaEndsRow : OpenClaim := { program := "ytnnlnffdbdpmbaa", sum := "147a8dc446630268758ce734ee07add9a8f473712e8bbb93a742687cf8738499", func := "septum/septumlaw14.DmaEnds", spec := "dmaEnds", unfollowed := true, recurses := true, apart := false }
def DmaEndsSaid : Prop := dmaEndsRow.holds Try.pinned (OpenSpec.ofChange dmaEndsSpec)

/-- ITS FALSE NEIGHBOUR: 'it returns false'. Refute it at one input. -/
def dmaEndsWrong : ChangeSpec := { name := "dmaEnds", fn := fun _ => fun
  | [] => { results := [.lit (.bool false)], args := [] }
  | _ => none }
def DmaEndsWrongFalsely : Prop := dmaEndsRow.holds Try.pinned (OpenSpec.ofChange dmaEndsWrong)

/-- 'septumlaw14.DmaMoves': WHATEVER THE INPUT: true; the input reads as it did. -/
def dmaMovesSpec : ChangeSpec := { name := "dmaMoves", fn := fun _ => fun
  | [d1, d2, d3, d4, d5, d6] => { results := [.lit (.bool true)], args := [d1, d2, d3, d4, d5, d6] }
  | _ => none }
def dmaMovesRow : OpenClaim := { program := "ytnnlnffdbdpmbaa", sum := "147a8dc446630268758ce734ee07add9a8f473712e8bbb93a742687cf8738499", func := "septum/septumlaw14.DmaMoves", spec := "dmaMoves", unfollowed := true, recurses := true, apart := false }
def DmaMovesSaid : Prop := dmaMovesRow.holds Try.pinned (OpenSpec.ofChange dmaMovesSpec)

/-- ITS FALSE NEIGHBOUR: 'it returns false'. Refute it at one input. -/
def dmaMovesWrong : ChangeSpec := { name := "dmaMoves", fn := fun _ => fun
  | [d1, d2, d3, d4, d5, d6] => { results := [.lit (.bool false)], args := [d1, d2, d3, d4, d5, d6] }
  | _ => none }
def DmaMovesWrongFalsely : Prop := dmaMovesRow.holds Try.pinned (OpenSpec.ofChange dmaMovesWrong)

/- THE SECOND FORM. 'bulk': how many values and letters a reading holds, each counted each time it is reached (what is shared counts as often as it is met; a slice's spare places count too). A statement '..UptoSaid' is the law's where the arguments, and the package variables that the reading takes, are together of bulk at most 1048576: NARROWER than '..Said'. Prove '..Said' where nothing that the law and all that it calls make is longer than what came in: it says more and counts as full. Else prove '..UptoSaid'. A law counts once. -/
mutual
def uptoBulk {H : Type} : DataW H → Nat
  | .lit (.string bytes) => bytes.length + 1
  | .lit _ => 1
  | .nil => 1
  | .ptr d => uptoBulk d + 1
  | .slice elems spare => uptoBulkAll elems + uptoBulkAll spare + 1
  | .agg parts => uptoBulkAll parts + 1
  | .iface _ d => uptoBulk d + 1
  | .map entries => uptoBulkEntries entries + 1
  | .held _ => 1
def uptoBulkAll {H : Type} : List (DataW H) → Nat
  | [] => 0
  | d :: r => uptoBulk d + uptoBulkAll r
def uptoBulkEntries {H : Type} : List (Lit × DataW H) → Nat
  | [] => 0
  | x :: r => uptoBulkEntry x + uptoBulkEntries r
def uptoBulkEntry {H : Type} : Lit × DataW H → Nat
  | (.string bytes, d) => bytes.length + uptoBulk d + 1
  | (_, d) => uptoBulk d + 1
 end
def uptoSmall : (H : Type) → List (DataW H) → Bool := fun _ ds => decide (uptoBulkAll ds ≤ 1048576)
def OpenSpec.upto (s : _root_.Go.ChangeSpec) : _root_.Go.OpenSpec := { _root_.Go.OpenSpec.ofChange s with cond := some uptoSmall }

/-- 'septumlaw14.DmaStops', WHERE WHAT IT READS IS OF BULK AT MOST 1048576: true; the input reads as it did. -/
def dmaStopsUptoRow : OpenClaim := { program := "ytnnlnffdbdpmbaa", sum := "147a8dc446630268758ce734ee07add9a8f473712e8bbb93a742687cf8738499", func := "septum/septumlaw14.DmaStops", spec := "dmaStops", unfollowed := true, recurses := true, apart := false, narrowed := true }
def DmaStopsUptoSaid : Prop := dmaStopsUptoRow.holds Try.pinned (OpenSpec.upto dmaStopsSpec)

/-- 'septumlaw14.DmaDoes', WHERE WHAT IT READS IS OF BULK AT MOST 1048576: true; the input reads as it did. -/
def dmaDoesUptoRow : OpenClaim := { program := "ytnnlnffdbdpmbaa", sum := "147a8dc446630268758ce734ee07add9a8f473712e8bbb93a742687cf8738499", func := "septum/septumlaw14.DmaDoes", spec := "dmaDoes", unfollowed := true, recurses := true, apart := false, narrowed := true }
def DmaDoesUptoSaid : Prop := dmaDoesUptoRow.holds Try.pinned (OpenSpec.upto dmaDoesSpec)

/-- 'septumlaw14.DmaEnds', WHERE WHAT IT READS IS OF BULK AT MOST 1048576: true; the input reads as it did. -/
def dmaEndsUptoRow : OpenClaim := { program := "ytnnlnffdbdpmbaa", sum := "147a8dc446630268758ce734ee07add9a8f473712e8bbb93a742687cf8738499", func := "septum/septumlaw14.DmaEnds", spec := "dmaEnds", unfollowed := true, recurses := true, apart := false, narrowed := true }
def DmaEndsUptoSaid : Prop := dmaEndsUptoRow.holds Try.pinned (OpenSpec.upto dmaEndsSpec)

/-- 'septumlaw14.DmaMoves', WHERE WHAT IT READS IS OF BULK AT MOST 1048576: true; the input reads as it did. -/
def dmaMovesUptoRow : OpenClaim := { program := "ytnnlnffdbdpmbaa", sum := "147a8dc446630268758ce734ee07add9a8f473712e8bbb93a742687cf8738499", func := "septum/septumlaw14.DmaMoves", spec := "dmaMoves", unfollowed := true, recurses := true, apart := false, narrowed := true }
def DmaMovesUptoSaid : Prop := dmaMovesUptoRow.holds Try.pinned (OpenSpec.upto dmaMovesSpec)

end Rows
end Go.Proofs.Ytnnlnffdbdpmbaa

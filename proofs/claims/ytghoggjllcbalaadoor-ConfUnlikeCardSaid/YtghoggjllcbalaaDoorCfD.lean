/- Read of package conf as a plain function. No condition. -/
import Derived.Test.YtghoggjllcbalaaDoorCfR3
import Derived.Test.YtghoggjllcbalaaDoorCfT
import Derived.Lib.SplitLaws
namespace Go.Proofs.YtghoggjllcbalaaDoor
open Go Go.RowKit

/-- A text's words, parted by one blank. -/
def wordsB (s : List UInt8) : List ByteArray := Lib.splitB ⟨#[32]⟩ 0 (Lib.countB ⟨s.toArray⟩ ⟨#[32]⟩) ⟨s.toArray⟩
def wordsOf (s : List UInt8) : List (List UInt8) := (wordsB s).map (·.data.toList)

theorem wordsOf_length (s : List UInt8) : (wordsOf s).length = Lib.countB ⟨s.toArray⟩ ⟨#[32]⟩ + 1 := by
  unfold wordsOf wordsB
  rw [List.length_map, Lib.splitB_all _ (by decide) 0 _ _ rfl]
theorem wordsB_str (s : List UInt8) : (wordsB s).map Value.string = (wordsOf s).map str := by
  unfold wordsOf
  rw [List.map_map]
  refine List.map_congr_left fun b _ => ?_
  simp

/-- The kinds' words. -/
def kindsB : List ByteArray := [⟨#[]⟩, ⟨#[114, 101, 103, 105, 111, 110]⟩, ⟨#[99, 108, 101, 97, 114]⟩, ⟨#[103, 105, 118, 101]⟩, ⟨#[116, 97, 107, 101]⟩, ⟨#[109, 111, 118, 101]⟩, ⟨#[114, 111, 117, 116, 101]⟩, ⟨#[108, 111, 99, 107]⟩]
/-- The kind that a word names. -/
def kindOf (l : List UInt8) : Int := Lib.idxOfS kindsB ⟨l.toArray⟩

/-- No command. -/
def Cf.none : Cf := ⟨0, 0, 0, 0, false, 0, 0, 0, false, false, 0, false⟩
/-- A command of a Kind, an Index, and the words behind, and what is left of these. -/
def parseC (k ix : Int) (p : Rds) : Cf × Rds :=
  if k = 1 then (⟨1, ix, 0, 0, true, p.nv, p.n.xv, p.n.x.xv, hasB p.n.x.x.h 114, hasB p.n.x.x.h 119, p.n.x.x.t.nv, !p.n.x.x.t.n.1.isEmpty⟩, p.g)
  else if k = 3 ∨ k = 5 then (⟨k, ix, p.nv, 0, false, 0, 0, 0, false, false, 0, false⟩, p.n)
  else if k = 6 then (⟨6, ix, 0, p.lv, false, 0, 0, 0, false, false, 0, false⟩, p.l)
  else (⟨k, ix, 0, 0, false, 0, 0, 0, false, false, 0, false⟩, p)
/-- The same, the Index from the words. -/
def parseK (k : Int) (p : Rds) : Cf × Rds := if k = 7 then parseC 7 0 p else parseC k p.nv p.n
/-- A text's command, if it says one, and whether all words were right. -/
def parse (s : List UInt8) : Cf × Rds := parseK (kindOf (Rds.h (wordsOf s, true))) (Rds.t (wordsOf s, true))
/-- What Read answers. -/
def readC (s : List UInt8) (r : Cf × Rds) : Cf := if r.2.2 && r.1.right && r.1.text == s then r.1 else .none
def readE (s : List UInt8) (r : Cf × Rds) : Int := if r.2.2 && r.1.right && r.1.text == s then 0 else 8

end Go.Proofs.YtghoggjllcbalaaDoor

/- Read of package conf. Conditions: the text is short; the listed variables are laid. -/
import Derived.Test.YtagmoehjcgjnjaaGreatDoorCfGg
import Derived.Test.YtagmoehjcgjnjaaGreatDoorCfGh
namespace Go.Proofs.YtagmoehjcgjnjaaGreatDoor
open Go Go.RowKit

theorem read_any (s : List UInt8) (hs : s.length ≤ 1000000) (hS : Short (wordsOf s)) (w : World) (hg : Gl w) :
    Calls Tryz.prog 71 #[str s] w fun e w' => e = .returned (.tuple #[(readC s (parse s)).agg, .int .i64 (readE s (parse s))]) ∧ Only [] w w' := by
  by_cases h1 : kindOf (Rds.h (wordsOf s, true)) = 1
  · exact read_1 s h1 hs hS w hg
  by_cases h3 : kindOf (Rds.h (wordsOf s, true)) = 3
  · exact read_3 s h3 hs hS w hg
  by_cases h5 : kindOf (Rds.h (wordsOf s, true)) = 5
  · exact read_5 s h5 hs hS w hg
  by_cases h6 : kindOf (Rds.h (wordsOf s, true)) = 6
  · exact read_6 s h6 hs hS w hg
  by_cases h7 : kindOf (Rds.h (wordsOf s, true)) = 7
  · exact read_7 s h7 hs hS w hg
  exact read_0 s ⟨h1, h3, h5, h6, h7⟩ hs hS w hg
end Go.Proofs.YtagmoehjcgjnjaaGreatDoor

/- The page's own window on data: kioskref12.Reasm. Condition: the buffer may be. -/
import Derived.Test.YtceohcbokbalhaaGreatPkAD
import Derived.Test.YtceohcbokbalhaaGreatAhiC
namespace Go.Proofs.YtceohcbokbalhaaGreat
open Go.RowKit
set_option linter.unusedVariables false
set_option linter.unusedSimpArgs false
set_option maxRecDepth 100000
set_option maxHeartbeats 4000000
section
variable {n s : Int} {ps : List Pt} {xs : List Int} {k : Nat} {x : Int}
end
theorem Ren.pll {L I F : Prs} {h : Hp} {r r' d d' : Nat} (h0 : I.has r r' = true) (h1 : I.has d d' = true) (ps : List Pt) : Ren (qOf L I F) h (.list r 2 (ps.map (prt d))) (.list r' 2 (ps.map (prt d'))) := by
  obtain ⟨a, b, c⟩ := parts_ll (L := L) (F := F) (h := h) h1 ps
  exact .list _ _ _ _ _ ((Prs.has_iff I r r').1 h0) a b c
end Go.Proofs.YtceohcbokbalhaaGreat

/- The pieces of a window on data. No condition but lengths. -/
import Derived.Test.YtceohcbokbalhaaGreatPkAB
namespace Go.Proofs.YtceohcbokbalhaaGreat
open Go.RowKit
set_option linter.unusedVariables false
set_option linter.unusedSimpArgs false
set_option maxRecDepth 100000
set_option maxHeartbeats 4000000
def rowsF (r r' : Nat) : List Pt → List (List AV)
  | [] => []
  | p :: l => prg r p :: l.map (prg r')
theorem RowsRen.cons {q : Rn} {h : Hp} {a b : List AV} {x y : List (List AV)} (H : Cells q h a b) (h2 : RowsRen q h x y) : RowsRen q h (a :: x) (b :: y) := by
  simpa using RowsRen.app (RowsRen.one H) h2
theorem rowsF_ren {L I F : Prs} {h : Hp} {r r' s s' : Nat} (h1 : I.has r s = true) (h2 : I.has r' s' = true) : ∀ l : List Pt, RowsRen (qOf L I F) h (rowsF r r' l) (rowsF s s' l)
  | [] => RowsRen.nil
  | p :: l => RowsRen.cons (.cons (.val _) (.cons (Ren.gg h1 p.2) .nil)) (parts_gg h2 l)
end Go.Proofs.YtceohcbokbalhaaGreat

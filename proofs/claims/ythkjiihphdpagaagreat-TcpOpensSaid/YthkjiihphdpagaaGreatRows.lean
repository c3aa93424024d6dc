/-
  No cell of these rows narrows 'for every input' (looked for: loops, veiled, ifaces, maps, wideKeys, modest, calm, conditions, laid).
  DERIVED. THE GIVEN ROWS OF THIS SEAT. 6 by the template 'for every input the law returns true; each argument reads behind the call as it read before'; 0 by the template 'total and deterministic' (their statements: YthkjiihphdpagaaGreatTotals.lean).
  GIVEN WITH THE SEED: the statements are not yours to turn. If you find one false, say at which input.
  Laid BY PROGRAM, IN A SANDBOX (cutbox-rows.mjs): the forced cells as the released guide's own fill.sh prints them over the translation bc9c83fbd010a9cf… (all of the seat's roots in one cut). By AI agents, Wed Nov 11 2026. No macro, syntax, notation, axiom, sorry.
-/
import Derived.Test.YthkjiihphdpagaaGreatChecked
import GoSem.Claim
import GoSem.ClaimJoined
import GoSem.ClaimMapViews
import Derived.JoinedTies
import Derived.KernelRfl
namespace Go.Proofs.YthkjiihphdpagaaGreat
/- THE CELL 'sum', in the pinned program and in every row, IS THE sha256 OF THE DUMP (.gsa) THAT YthkjiihphdpagaaGreatProg.lean LOADS. Nothing in Lean hashes anything: it is a label: what it is worth is what the hold of that sum in a sandbox is worth. -/
noncomputable def Tryz.pinned : Pinned := { name := "ythkjiihphdpagaagreat", sum := "bc9c83fbd010a9cf057a105ae6ea17c57defeec39a8c779fc7d096ede7adf014", checked := Tryz.checked }
namespace Rows
def none {H : Type} : Left H := { results := [], args := [] }

/-- 'kiosklaw16.TcpTakes': WHATEVER THE INPUT: true; the input reads as it did. -/
def tcpTakesSpec : ChangeSpec := { name := "tcpTakes", fn := fun _ => fun
  | [d] => { results := [.lit (.bool true)], args := [d] }
  | _ => none }
def tcpTakesRow : OpenClaim := { program := "ythkjiihphdpagaagreat", sum := "bc9c83fbd010a9cf057a105ae6ea17c57defeec39a8c779fc7d096ede7adf014", func := "kiosk/kiosklaw16.TcpTakes", spec := "tcpTakes", unfollowed := true, recurses := true, apart := false }
def TcpTakesSaid : Prop := tcpTakesRow.holds Tryz.pinned (OpenSpec.ofChange tcpTakesSpec)

/-- ITS FALSE NEIGHBOUR: 'it returns false'. Refute it at one input. -/
def tcpTakesWrong : ChangeSpec := { name := "tcpTakes", fn := fun _ => fun
  | [d] => { results := [.lit (.bool false)], args := [d] }
  | _ => none }
def TcpTakesWrongFalsely : Prop := tcpTakesRow.holds Tryz.pinned (OpenSpec.ofChange tcpTakesWrong)

/-- 'kiosklaw16.TcpSends': WHATEVER THE INPUT: true; the input reads as it did. -/
def tcpSendsSpec : ChangeSpec := { name := "tcpSends", fn := fun _ => fun
  | [d] => { results := [.lit (.bool true)], args := [d] }
  | _ => none }
def tcpSendsRow : OpenClaim := { program := "ythkjiihphdpagaagreat", sum := "bc9c83fbd010a9cf057a105ae6ea17c57defeec39a8c779fc7d096ede7adf014", func := "kiosk/kiosklaw16.TcpSends", spec := "tcpSends", unfollowed := true, recurses := true, apart := false }
def TcpSendsSaid : Prop := tcpSendsRow.holds Tryz.pinned (OpenSpec.ofChange tcpSendsSpec)

/-- ITS FALSE NEIGHBOUR: 'it returns false'. Refute it at one input. -/
def tcpSendsWrong : ChangeSpec := { name := "tcpSends", fn := fun _ => fun
  | [d] => { results := [.lit (.bool false)], args := [d] }
  | _ => none }
def TcpSendsWrongFalsely : Prop := tcpSendsRow.holds Tryz.pinned (OpenSpec.ofChange tcpSendsWrong)

/-- 'kiosklaw16.TcpCloses': WHATEVER THE INPUT: true; the input reads as it did. -/
def tcpClosesSpec : ChangeSpec := { name := "tcpCloses", fn := fun _ => fun
  | [d] => { results := [.lit (.bool true)], args := [d] }
  | _ => none }
def tcpClosesRow : OpenClaim := { program := "ythkjiihphdpagaagreat", sum := "bc9c83fbd010a9cf057a105ae6ea17c57defeec39a8c779fc7d096ede7adf014", func := "kiosk/kiosklaw16.TcpCloses", spec := "tcpCloses", unfollowed := true, recurses := true, apart := false }
def TcpClosesSaid : Prop := tcpClosesRow.holds Tryz.pinned (OpenSpec.ofChange tcpClosesSpec)

/-- ITS FALSE NEIGHBOUR: 'it returns false'. Refute it at one input. -/
def tcpClosesWrong : ChangeSpec := { name := "tcpCloses", fn := fun _ => fun
  | [d] => { results := [.lit (.bool false)], args := [d] }
  | _ => none }
def TcpClosesWrongFalsely : Prop := tcpClosesRow.holds Tryz.pinned (OpenSpec.ofChange tcpClosesWrong)

/-- 'kiosklaw16.TcpAborts': WHATEVER THE INPUT: true; the input reads as it did. -/
def tcpAbortsSpec : ChangeSpec := { name := "tcpAborts", fn := fun _ => fun
  | [d] => { results := [.lit (.bool true)], args := [d] }
  | _ => none }
def tcpAbortsRow : OpenClaim := { program := "ythkjiihphdpagaagreat", sum := "bc9c83fbd010a9cf057a105ae6ea17c57defeec39a8c779fc7d096ede7adf014", func := "kiosk/kiosklaw16.TcpAborts", spec := "tcpAborts", unfollowed := true, recurses := true, apart := false }
def TcpAbortsSaid : Prop := tcpAbortsRow.holds Tryz.pinned (OpenSpec.ofChange tcpAbortsSpec)

/-- ITS FALSE NEIGHBOUR: 'it returns false'. Refute it at one input. -/
def tcpAbortsWrong : ChangeSpec := { name := "tcpAborts", fn := fun _ => fun
  | [d] => { results := [.lit (.bool false)], args := [d] }
  | _ => none }
def TcpAbortsWrongFalsely : Prop := tcpAbortsRow.holds Tryz.pinned (OpenSpec.ofChange tcpAbortsWrong)

/-- 'kiosklaw16.TcpTicks': WHATEVER THE INPUT: true; the input reads as it did. -/
def tcpTicksSpec : ChangeSpec := { name := "tcpTicks", fn := fun _ => fun
  | [d] => { results := [.lit (.bool true)], args := [d] }
  | _ => none }
def tcpTicksRow : OpenClaim := { program := "ythkjiihphdpagaagreat", sum := "bc9c83fbd010a9cf057a105ae6ea17c57defeec39a8c779fc7d096ede7adf014", func := "kiosk/kiosklaw16.TcpTicks", spec := "tcpTicks", unfollowed := true, recurses := true, apart := false }
def TcpTicksSaid : Prop := tcpTicksRow.holds Tryz.pinned (OpenSpec.ofChange tcpTicksSpec)

/-- ITS FALSE NEIGHBOUR: 'it returns false'. Refute it at one input. -/
def tcpTicksWrong : ChangeSpec := { name := "tcpTicks", fn := fun _ => fun
  | [d] => { results := [.lit (.bool false)], args := [d] }
  | _ => none }
def TcpTicksWrongFalsely : Prop := tcpTicksRow.holds Tryz.pinned (OpenSpec.ofChange tcpTicksWrong)

/-- 'kiosklaw16.TcpOpens': WHATEVER THE INPUT: true; the input reads as it did. -/
def tcpOpensSpec : ChangeSpec := { name := "tcpOpens", fn := fun _ => fun
  | [d] => { results := [.lit (.bool true)], args := [d] }
  | _ => none }
def tcpOpensRow : OpenClaim := { program := "ythkjiihphdpagaagreat", sum := "bc9c83fbd010a9cf057a105ae6ea17c57defeec39a8c779fc7d096ede7adf014", func := "kiosk/kiosklaw16.TcpOpens", spec := "tcpOpens", unfollowed := true, recurses := true, apart := false }
def TcpOpensSaid : Prop := tcpOpensRow.holds Tryz.pinned (OpenSpec.ofChange tcpOpensSpec)

/-- ITS FALSE NEIGHBOUR: 'it returns false'. Refute it at one input. -/
def tcpOpensWrong : ChangeSpec := { name := "tcpOpens", fn := fun _ => fun
  | [d] => { results := [.lit (.bool false)], args := [d] }
  | _ => none }
def TcpOpensWrongFalsely : Prop := tcpOpensRow.holds Tryz.pinned (OpenSpec.ofChange tcpOpensWrong)

/- THE SECOND FORM. 'bulk': how many values and letters a reading holds, each counted each time it is reached (what is shared counts as often as it is met; a slice's spare places count too). A statement '..UptoSaid' is the law's where the arguments, and the package variables that the reading takes, are together of bulk at most 1048576: NARROWER than '..Said'. Prove '..Said' where nothing that the law and all that it calls make is longer than what came in: it says more and counts as full. Else prove '..UptoSaid'. A law counts once. -/
mutual
def uptoBulk {H : Type} : DataW H → Nat
  | .lit (.string bytes) => bytes.length + 1
  | .lit _ => 1
  | .nil => 1
  | .ptr d => uptoBulk d + 1
  | .slice elems spare => uptoBulkAll elems + uptoBulkAll spare + 1
  | .agg parts => uptoBulkAll parts + 1
  | .iface _ d => uptoBulk d + 1
  | .map entries => uptoBulkEntries entries + 1
  | .held _ => 1
def uptoBulkAll {H : Type} : List (DataW H) → Nat
  | [] => 0
  | d :: r => uptoBulk d + uptoBulkAll r
def uptoBulkEntries {H : Type} : List (Lit × DataW H) → Nat
  | [] => 0
  | x :: r => uptoBulkEntry x + uptoBulkEntries r
def uptoBulkEntry {H : Type} : Lit × DataW H → Nat
  | (.string bytes, d) => bytes.length + uptoBulk d + 1
  | (_, d) => uptoBulk d + 1
 end
def uptoSmall : (H : Type) → List (DataW H) → Bool := fun _ ds => decide (uptoBulkAll ds ≤ 1048576)
def OpenSpec.upto (s : _root_.Go.ChangeSpec) : _root_.Go.OpenSpec := { _root_.Go.OpenSpec.ofChange s with cond := some uptoSmall }

/-- 'kiosklaw16.TcpTakes', WHERE WHAT IT READS IS OF BULK AT MOST 1048576: true; the input reads as it did. -/
def tcpTakesUptoRow : OpenClaim := { program := "ythkjiihphdpagaagreat", sum := "bc9c83fbd010a9cf057a105ae6ea17c57defeec39a8c779fc7d096ede7adf014", func := "kiosk/kiosklaw16.TcpTakes", spec := "tcpTakes", unfollowed := true, recurses := true, apart := false, narrowed := true }
def TcpTakesUptoSaid : Prop := tcpTakesUptoRow.holds Tryz.pinned (OpenSpec.upto tcpTakesSpec)

/-- 'kiosklaw16.TcpSends', WHERE WHAT IT READS IS OF BULK AT MOST 1048576: true; the input reads as it did. -/
def tcpSendsUptoRow : OpenClaim := { program := "ythkjiihphdpagaagreat", sum := "bc9c83fbd010a9cf057a105ae6ea17c57defeec39a8c779fc7d096ede7adf014", func := "kiosk/kiosklaw16.TcpSends", spec := "tcpSends", unfollowed := true, recurses := true, apart := false, narrowed := true }
def TcpSendsUptoSaid : Prop := tcpSendsUptoRow.holds Tryz.pinned (OpenSpec.upto tcpSendsSpec)

/-- 'kiosklaw16.TcpCloses', WHERE WHAT IT READS IS OF BULK AT MOST 1048576: true; the input reads as it did. -/
def tcpClosesUptoRow : OpenClaim := { program := "ythkjiihphdpagaagreat", sum := "bc9c83fbd010a9cf057a105ae6ea17c57defeec39a8c779fc7d096ede7adf014", func := "kiosk/kiosklaw16.TcpCloses", spec := "tcpCloses", unfollowed := true, recurses := true, apart := false, narrowed := true }
def TcpClosesUptoSaid : Prop := tcpClosesUptoRow.holds Tryz.pinned (OpenSpec.upto tcpClosesSpec)

/-- 'kiosklaw16.TcpAborts', WHERE WHAT IT READS IS OF BULK AT MOST 1048576: true; the input reads as it did. -/
def tcpAbortsUptoRow : OpenClaim := { program := "ythkjiihphdpagaagreat", sum := "bc9c83fbd010a9cf057a105ae6ea17c57defeec39a8c779fc7d096ede7adf014", func := "kiosk/kiosklaw16.TcpAborts", spec := "tcpAborts", unfollowed := true, recurses := true, apart := false, narrowed := true }
def TcpAbortsUptoSaid : Prop := tcpAbortsUptoRow.holds Tryz.pinned (OpenSpec.upto tcpAbortsSpec)

/-- 'kiosklaw16.TcpTicks', WHERE WHAT IT READS IS OF BULK AT MOST 1048576: true; the input reads as it did. -/
def tcpTicksUptoRow : OpenClaim := { program := "ythkjiihphdpagaagreat", sum := "bc9c83fbd010a9cf057a105ae6ea17c57defeec39a8c779fc7d096ede7adf014", func := "kiosk/kiosklaw16.TcpTicks", spec := "tcpTicks", unfollowed := true, recurses := true, apart := false, narrowed := true }
def TcpTicksUptoSaid : Prop := tcpTicksUptoRow.holds Tryz.pinned (OpenSpec.upto tcpTicksSpec)

/-- 'kiosklaw16.TcpOpens', WHERE WHAT IT READS IS OF BULK AT MOST 1048576: true; the input reads as it did. -/
def tcpOpensUptoRow : OpenClaim := { program := "ythkjiihphdpagaagreat", sum := "bc9c83fbd010a9cf057a105ae6ea17c57defeec39a8c779fc7d096ede7adf014", func := "kiosk/kiosklaw16.TcpOpens", spec := "tcpOpens", unfollowed := true, recurses := true, apart := false, narrowed := true }
def TcpOpensUptoSaid : Prop := tcpOpensUptoRow.holds Tryz.pinned (OpenSpec.upto tcpOpensSpec)

end Rows
end Go.Proofs.YthkjiihphdpagaaGreat

/-
  No cell of these rows narrows 'for every input' (looked for: loops, veiled, ifaces, maps, wideKeys, modest, calm, conditions, laid).
  DERIVED. THE GIVEN ROWS OF THIS SEAT. 3 by the template 'for every input the law returns true; each argument reads behind the call as it read before'; 0 by the template 'total and deterministic' (their statements: YtceohcbokbalhaaTotals.lean).
  GIVEN WITH THE SEED: the statements are not yours to turn. If you find one false, say at which input.
  Laid BY PROGRAM, IN A SANDBOX (cutbox-rows.mjs): the forced cells as the released guide's own fill.sh prints them over the translation a699004617699fa9… (all of the seat's roots in one cut). By AI agents, Wed Nov 11 2026. No macro, syntax, notation, axiom, sorry.
-/
import Derived.Test.YtceohcbokbalhaaChecked
import GoSem.Claim
import GoSem.ClaimJoined
import GoSem.ClaimMapViews
import Derived.JoinedTies
import Derived.KernelRfl
namespace Go.Proofs.Ytceohcbokbalhaa
/- THE CELL 'sum', in the pinned program and in every row, IS THE sha256 OF THE DUMP (.gsa) THAT YtceohcbokbalhaaProg.lean LOADS. Nothing in Lean hashes anything: it is a label: what it is worth is what the hold of that sum in a sandbox is worth. -/
noncomputable def Try.pinned : Pinned := { name := "ytceohcbokbalhaa", sum := "a699004617699fa9bf741cd84918dfc4a47c672a964ead70b667dbccf7f73776", checked := Try.checked }
namespace Rows
def none {H : Type} : Left H := { results := [], args := [] }

/-- 'kiosklaw17.HostKeeps': WHATEVER THE INPUT: true; the input reads as it did. -/
def hostKeepsSpec : ChangeSpec := { name := "hostKeeps", fn := fun _ => fun
  | [d] => { results := [.lit (.bool true)], args := [d] }
  | _ => none }
def hostKeepsRow : OpenClaim := { program := "ytceohcbokbalhaa", sum := "a699004617699fa9bf741cd84918dfc4a47c672a964ead70b667dbccf7f73776", func := "kiosk/kiosklaw17.HostKeeps", spec := "hostKeeps", unfollowed := true, recurses := true, plainKeys := false, apart := false }
def HostKeepsSaid : Prop := hostKeepsRow.holds Try.pinned (OpenSpec.ofChange hostKeepsSpec)

/-- ITS FALSE NEIGHBOUR: 'it returns false'. Refute it at one input. -/
def hostKeepsWrong : ChangeSpec := { name := "hostKeeps", fn := fun _ => fun
  | [d] => { results := [.lit (.bool false)], args := [d] }
  | _ => none }
def HostKeepsWrongFalsely : Prop := hostKeepsRow.holds Try.pinned (OpenSpec.ofChange hostKeepsWrong)

/-- 'kiosklaw17.HostFull': WHATEVER THE INPUT: true; the input reads as it did. -/
def hostFullSpec : ChangeSpec := { name := "hostFull", fn := fun _ => fun
  | [d] => { results := [.lit (.bool true)], args := [d] }
  | _ => none }
def hostFullRow : OpenClaim := { program := "ytceohcbokbalhaa", sum := "a699004617699fa9bf741cd84918dfc4a47c672a964ead70b667dbccf7f73776", func := "kiosk/kiosklaw17.HostFull", spec := "hostFull", unfollowed := true, recurses := true, plainKeys := false, apart := false }
def HostFullSaid : Prop := hostFullRow.holds Try.pinned (OpenSpec.ofChange hostFullSpec)

/-- ITS FALSE NEIGHBOUR: 'it returns false'. Refute it at one input. -/
def hostFullWrong : ChangeSpec := { name := "hostFull", fn := fun _ => fun
  | [d] => { results := [.lit (.bool false)], args := [d] }
  | _ => none }
def HostFullWrongFalsely : Prop := hostFullRow.holds Try.pinned (OpenSpec.ofChange hostFullWrong)

/-- 'kiosklaw17.HostTwo': WHATEVER THE INPUT: true; the input reads as it did. -/
def hostTwoSpec : ChangeSpec := { name := "hostTwo", fn := fun _ => fun
  | [d] => { results := [.lit (.bool true)], args := [d] }
  | _ => none }
def hostTwoRow : OpenClaim := { program := "ytceohcbokbalhaa", sum := "a699004617699fa9bf741cd84918dfc4a47c672a964ead70b667dbccf7f73776", func := "kiosk/kiosklaw17.HostTwo", spec := "hostTwo", unfollowed := true, recurses := true, plainKeys := false, apart := false }
def HostTwoSaid : Prop := hostTwoRow.holds Try.pinned (OpenSpec.ofChange hostTwoSpec)

/-- ITS FALSE NEIGHBOUR: 'it returns false'. Refute it at one input. -/
def hostTwoWrong : ChangeSpec := { name := "hostTwo", fn := fun _ => fun
  | [d] => { results := [.lit (.bool false)], args := [d] }
  | _ => none }
def HostTwoWrongFalsely : Prop := hostTwoRow.holds Try.pinned (OpenSpec.ofChange hostTwoWrong)

/- THE SECOND FORM. 'bulk': how many values and letters a reading holds, each counted each time it is reached (what is shared counts as often as it is met; a slice's spare places count too). A statement '..UptoSaid' is the law's where the arguments, and the package variables that the reading takes, are together of bulk at most 1048576: NARROWER than '..Said'. Prove '..Said' where nothing that the law and all that it calls make is longer than what came in: it says more and counts as full. Else prove '..UptoSaid'. A law counts once. -/
mutual
def uptoBulk {H : Type} : DataW H → Nat
  | .lit (.string bytes) => bytes.length + 1
  | .lit _ => 1
  | .nil => 1
  | .ptr d => uptoBulk d + 1
  | .slice elems spare => uptoBulkAll elems + uptoBulkAll spare + 1
  | .agg parts => uptoBulkAll parts + 1
  | .iface _ d => uptoBulk d + 1
  | .map entries => uptoBulkEntries entries + 1
  | .held _ => 1
def uptoBulkAll {H : Type} : List (DataW H) → Nat
  | [] => 0
  | d :: r => uptoBulk d + uptoBulkAll r
def uptoBulkEntries {H : Type} : List (Lit × DataW H) → Nat
  | [] => 0
  | x :: r => uptoBulkEntry x + uptoBulkEntries r
def uptoBulkEntry {H : Type} : Lit × DataW H → Nat
  | (.string bytes, d) => bytes.length + uptoBulk d + 1
  | (_, d) => uptoBulk d + 1
 end
def uptoSmall : (H : Type) → List (DataW H) → Bool := fun _ ds => decide (uptoBulkAll ds ≤ 1048576)
def OpenSpec.upto (s : _root_.Go.ChangeSpec) : _root_.Go.OpenSpec := { _root_.Go.OpenSpec.ofChange s with cond := some uptoSmall }

/-- 'kiosklaw17.HostKeeps', WHERE WHAT IT READS IS OF BULK AT MOST 1048576: true; the input reads as it did. -/
def hostKeepsUptoRow : OpenClaim := { program := "ytceohcbokbalhaa", sum := "a699004617699fa9bf741cd84918dfc4a47c672a964ead70b667dbccf7f73776", func := "kiosk/kiosklaw17.HostKeeps", spec := "hostKeeps", unfollowed := true, recurses := true, plainKeys := false, apart := false, narrowed := true }
def HostKeepsUptoSaid : Prop := hostKeepsUptoRow.holds Try.pinned (OpenSpec.upto hostKeepsSpec)

/-- 'kiosklaw17.HostFull', WHERE WHAT IT READS IS OF BULK AT MOST 1048576: true; the input reads as it did. -/
def hostFullUptoRow : OpenClaim := { program := "ytceohcbokbalhaa", sum := "a699004617699fa9bf741cd84918dfc4a47c672a964ead70b667dbccf7f73776", func := "kiosk/kiosklaw17.HostFull", spec := "hostFull", unfollowed := true, recurses := true, plainKeys := false, apart := false, narrowed := true }
def HostFullUptoSaid : Prop := hostFullUptoRow.holds Try.pinned (OpenSpec.upto hostFullSpec)

/-- 'kiosklaw17.HostTwo', WHERE WHAT IT READS IS OF BULK AT MOST 1048576: true; the input reads as it did. -/
def hostTwoUptoRow : OpenClaim := { program := "ytceohcbokbalhaa", sum := "a699004617699fa9bf741cd84918dfc4a47c672a964ead70b667dbccf7f73776", func := "kiosk/kiosklaw17.HostTwo", spec := "hostTwo", unfollowed := true, recurses := true, plainKeys := false, apart := false, narrowed := true }
def HostTwoUptoSaid : Prop := hostTwoUptoRow.holds Try.pinned (OpenSpec.upto hostTwoSpec)

end Rows
end Go.Proofs.Ytceohcbokbalhaa

/-
  No cell of these rows narrows 'for every input' (looked for: loops, veiled, ifaces, maps, wideKeys, modest, calm, conditions, laid).
  DERIVED. THE GIVEN ROWS OF THIS SEAT. 6 by the template 'for every input the law returns true; each argument reads behind the call as it read before'; 0 by the template 'total and deterministic' (their statements: YtceohcbokbalhaaGreatTotals.lean).
  GIVEN WITH THE SEED: the statements are not yours to turn. If you find one false, say at which input.
  Laid BY PROGRAM, IN A SANDBOX (cutbox-rows.mjs): the forced cells as the released guide's own fill.sh prints them over the translation e7f1f991baa399f7… (all of the seat's roots in one cut). By AI agents, Wed Nov 11 2026. No macro, syntax, notation, axiom, sorry.
-/
import Derived.Test.YtceohcbokbalhaaGreatChecked
import GoSem.Claim
import GoSem.ClaimJoined
import GoSem.ClaimMapViews
import Derived.JoinedTies
import Derived.KernelRfl
namespace Go.Proofs.YtceohcbokbalhaaGreat
/- THE CELL 'sum', in the pinned program and in every row, IS THE sha256 OF THE DUMP (.gsa) THAT YtceohcbokbalhaaGreatProg.lean LOADS. Nothing in Lean hashes anything: it is a label: what it is worth is what the hold of that sum in a sandbox is worth. -/
noncomputable def Tryz.pinned : Pinned := { name := "ytceohcbokbalhaagreat", sum := "e7f1f991baa399f779f97f74dfd7f88e966033725d4e7c2d6b1596a4a6c41da3", checked := Tryz.checked }
namespace Rows
def none {H : Type} : Left H := { results := [], args := [] }

/-- 'kiosklaw17.HostTakes': WHATEVER THE INPUT: true; the input reads as it did. -/
def hostTakesSpec : ChangeSpec := { name := "hostTakes", fn := fun _ => fun
  | [d] => { results := [.lit (.bool true)], args := [d] }
  | _ => none }
def hostTakesRow : OpenClaim := { program := "ytceohcbokbalhaagreat", sum := "e7f1f991baa399f779f97f74dfd7f88e966033725d4e7c2d6b1596a4a6c41da3", func := "kiosk/kiosklaw17.HostTakes", spec := "hostTakes", unfollowed := true, recurses := true, plainKeys := false, apart := false }
def HostTakesSaid : Prop := hostTakesRow.holds Tryz.pinned (OpenSpec.ofChange hostTakesSpec)

/-- ITS FALSE NEIGHBOUR: 'it returns false'. Refute it at one input. -/
def hostTakesWrong : ChangeSpec := { name := "hostTakes", fn := fun _ => fun
  | [d] => { results := [.lit (.bool false)], args := [d] }
  | _ => none }
def HostTakesWrongFalsely : Prop := hostTakesRow.holds Tryz.pinned (OpenSpec.ofChange hostTakesWrong)

/-- 'kiosklaw17.HostSends': WHATEVER THE INPUT: true; the input reads as it did. -/
def hostSendsSpec : ChangeSpec := { name := "hostSends", fn := fun _ => fun
  | [d] => { results := [.lit (.bool true)], args := [d] }
  | _ => none }
def hostSendsRow : OpenClaim := { program := "ytceohcbokbalhaagreat", sum := "e7f1f991baa399f779f97f74dfd7f88e966033725d4e7c2d6b1596a4a6c41da3", func := "kiosk/kiosklaw17.HostSends", spec := "hostSends", unfollowed := true, recurses := true, plainKeys := false, apart := false }
def HostSendsSaid : Prop := hostSendsRow.holds Tryz.pinned (OpenSpec.ofChange hostSendsSpec)

/-- ITS FALSE NEIGHBOUR: 'it returns false'. Refute it at one input. -/
def hostSendsWrong : ChangeSpec := { name := "hostSends", fn := fun _ => fun
  | [d] => { results := [.lit (.bool false)], args := [d] }
  | _ => none }
def HostSendsWrongFalsely : Prop := hostSendsRow.holds Tryz.pinned (OpenSpec.ofChange hostSendsWrong)

/-- 'kiosklaw17.HostCloses': WHATEVER THE INPUT: true; the input reads as it did. -/
def hostClosesSpec : ChangeSpec := { name := "hostCloses", fn := fun _ => fun
  | [d] => { results := [.lit (.bool true)], args := [d] }
  | _ => none }
def hostClosesRow : OpenClaim := { program := "ytceohcbokbalhaagreat", sum := "e7f1f991baa399f779f97f74dfd7f88e966033725d4e7c2d6b1596a4a6c41da3", func := "kiosk/kiosklaw17.HostCloses", spec := "hostCloses", unfollowed := true, recurses := true, plainKeys := false, apart := false }
def HostClosesSaid : Prop := hostClosesRow.holds Tryz.pinned (OpenSpec.ofChange hostClosesSpec)

/-- ITS FALSE NEIGHBOUR: 'it returns false'. Refute it at one input. -/
def hostClosesWrong : ChangeSpec := { name := "hostCloses", fn := fun _ => fun
  | [d] => { results := [.lit (.bool false)], args := [d] }
  | _ => none }
def HostClosesWrongFalsely : Prop := hostClosesRow.holds Tryz.pinned (OpenSpec.ofChange hostClosesWrong)

/-- 'kiosklaw17.HostAborts': WHATEVER THE INPUT: true; the input reads as it did. -/
def hostAbortsSpec : ChangeSpec := { name := "hostAborts", fn := fun _ => fun
  | [d] => { results := [.lit (.bool true)], args := [d] }
  | _ => none }
def hostAbortsRow : OpenClaim := { program := "ytceohcbokbalhaagreat", sum := "e7f1f991baa399f779f97f74dfd7f88e966033725d4e7c2d6b1596a4a6c41da3", func := "kiosk/kiosklaw17.HostAborts", spec := "hostAborts", unfollowed := true, recurses := true, plainKeys := false, apart := false }
def HostAbortsSaid : Prop := hostAbortsRow.holds Tryz.pinned (OpenSpec.ofChange hostAbortsSpec)

/-- ITS FALSE NEIGHBOUR: 'it returns false'. Refute it at one input. -/
def hostAbortsWrong : ChangeSpec := { name := "hostAborts", fn := fun _ => fun
  | [d] => { results := [.lit (.bool false)], args := [d] }
  | _ => none }
def HostAbortsWrongFalsely : Prop := hostAbortsRow.holds Tryz.pinned (OpenSpec.ofChange hostAbortsWrong)

/-- 'kiosklaw17.HostTicks': WHATEVER THE INPUT: true; the input reads as it did. -/
def hostTicksSpec : ChangeSpec := { name := "hostTicks", fn := fun _ => fun
  | [d] => { results := [.lit (.bool true)], args := [d] }
  | _ => none }
def hostTicksRow : OpenClaim := { program := "ytceohcbokbalhaagreat", sum := "e7f1f991baa399f779f97f74dfd7f88e966033725d4e7c2d6b1596a4a6c41da3", func := "kiosk/kiosklaw17.HostTicks", spec := "hostTicks", unfollowed := true, recurses := true, plainKeys := false, apart := false }
def HostTicksSaid : Prop := hostTicksRow.holds Tryz.pinned (OpenSpec.ofChange hostTicksSpec)

/-- ITS FALSE NEIGHBOUR: 'it returns false'. Refute it at one input. -/
def hostTicksWrong : ChangeSpec := { name := "hostTicks", fn := fun _ => fun
  | [d] => { results := [.lit (.bool false)], args := [d] }
  | _ => none }
def HostTicksWrongFalsely : Prop := hostTicksRow.holds Tryz.pinned (OpenSpec.ofChange hostTicksWrong)

/-- 'kiosklaw17.HostExact': WHATEVER THE INPUT: true; the input reads as it did. -/
def hostExactSpec : ChangeSpec := { name := "hostExact", fn := fun _ => fun
  | [d] => { results := [.lit (.bool true)], args := [d] }
  | _ => none }
def hostExactRow : OpenClaim := { program := "ytceohcbokbalhaagreat", sum := "e7f1f991baa399f779f97f74dfd7f88e966033725d4e7c2d6b1596a4a6c41da3", func := "kiosk/kiosklaw17.HostExact", spec := "hostExact", unfollowed := true, recurses := true, plainKeys := false, apart := false }
def HostExactSaid : Prop := hostExactRow.holds Tryz.pinned (OpenSpec.ofChange hostExactSpec)

/-- ITS FALSE NEIGHBOUR: 'it returns false'. Refute it at one input. -/
def hostExactWrong : ChangeSpec := { name := "hostExact", fn := fun _ => fun
  | [d] => { results := [.lit (.bool false)], args := [d] }
  | _ => none }
def HostExactWrongFalsely : Prop := hostExactRow.holds Tryz.pinned (OpenSpec.ofChange hostExactWrong)

/- THE SECOND FORM. 'bulk': how many values and letters a reading holds, each counted each time it is reached (what is shared counts as often as it is met; a slice's spare places count too). A statement '..UptoSaid' is the law's where the arguments, and the package variables that the reading takes, are together of bulk at most 1048576: NARROWER than '..Said'. Prove '..Said' where nothing that the law and all that it calls make is longer than what came in: it says more and counts as full. Else prove '..UptoSaid'. A law counts once. -/
mutual
def uptoBulk {H : Type} : DataW H → Nat
  | .lit (.string bytes) => bytes.length + 1
  | .lit _ => 1
  | .nil => 1
  | .ptr d => uptoBulk d + 1
  | .slice elems spare => uptoBulkAll elems + uptoBulkAll spare + 1
  | .agg parts => uptoBulkAll parts + 1
  | .iface _ d => uptoBulk d + 1
  | .map entries => uptoBulkEntries entries + 1
  | .held _ => 1
def uptoBulkAll {H : Type} : List (DataW H) → Nat
  | [] => 0
  | d :: r => uptoBulk d + uptoBulkAll r
def uptoBulkEntries {H : Type} : List (Lit × DataW H) → Nat
  | [] => 0
  | x :: r => uptoBulkEntry x + uptoBulkEntries r
def uptoBulkEntry {H : Type} : Lit × DataW H → Nat
  | (.string bytes, d) => bytes.length + uptoBulk d + 1
  | (_, d) => uptoBulk d + 1
 end
def uptoSmall : (H : Type) → List (DataW H) → Bool := fun _ ds => decide (uptoBulkAll ds ≤ 1048576)
def OpenSpec.upto (s : _root_.Go.ChangeSpec) : _root_.Go.OpenSpec := { _root_.Go.OpenSpec.ofChange s with cond := some uptoSmall }

/-- 'kiosklaw17.HostTakes', WHERE WHAT IT READS IS OF BULK AT MOST 1048576: true; the input reads as it did. -/
def hostTakesUptoRow : OpenClaim := { program := "ytceohcbokbalhaagreat", sum := "e7f1f991baa399f779f97f74dfd7f88e966033725d4e7c2d6b1596a4a6c41da3", func := "kiosk/kiosklaw17.HostTakes", spec := "hostTakes", unfollowed := true, recurses := true, plainKeys := false, apart := false, narrowed := true }
def HostTakesUptoSaid : Prop := hostTakesUptoRow.holds Tryz.pinned (OpenSpec.upto hostTakesSpec)

/-- 'kiosklaw17.HostSends', WHERE WHAT IT READS IS OF BULK AT MOST 1048576: true; the input reads as it did. -/
def hostSendsUptoRow : OpenClaim := { program := "ytceohcbokbalhaagreat", sum := "e7f1f991baa399f779f97f74dfd7f88e966033725d4e7c2d6b1596a4a6c41da3", func := "kiosk/kiosklaw17.HostSends", spec := "hostSends", unfollowed := true, recurses := true, plainKeys := false, apart := false, narrowed := true }
def HostSendsUptoSaid : Prop := hostSendsUptoRow.holds Tryz.pinned (OpenSpec.upto hostSendsSpec)

/-- 'kiosklaw17.HostCloses', WHERE WHAT IT READS IS OF BULK AT MOST 1048576: true; the input reads as it did. -/
def hostClosesUptoRow : OpenClaim := { program := "ytceohcbokbalhaagreat", sum := "e7f1f991baa399f779f97f74dfd7f88e966033725d4e7c2d6b1596a4a6c41da3", func := "kiosk/kiosklaw17.HostCloses", spec := "hostCloses", unfollowed := true, recurses := true, plainKeys := false, apart := false, narrowed := true }
def HostClosesUptoSaid : Prop := hostClosesUptoRow.holds Tryz.pinned (OpenSpec.upto hostClosesSpec)

/-- 'kiosklaw17.HostAborts', WHERE WHAT IT READS IS OF BULK AT MOST 1048576: true; the input reads as it did. -/
def hostAbortsUptoRow : OpenClaim := { program := "ytceohcbokbalhaagreat", sum := "e7f1f991baa399f779f97f74dfd7f88e966033725d4e7c2d6b1596a4a6c41da3", func := "kiosk/kiosklaw17.HostAborts", spec := "hostAborts", unfollowed := true, recurses := true, plainKeys := false, apart := false, narrowed := true }
def HostAbortsUptoSaid : Prop := hostAbortsUptoRow.holds Tryz.pinned (OpenSpec.upto hostAbortsSpec)

/-- 'kiosklaw17.HostTicks', WHERE WHAT IT READS IS OF BULK AT MOST 1048576: true; the input reads as it did. -/
def hostTicksUptoRow : OpenClaim := { program := "ytceohcbokbalhaagreat", sum := "e7f1f991baa399f779f97f74dfd7f88e966033725d4e7c2d6b1596a4a6c41da3", func := "kiosk/kiosklaw17.HostTicks", spec := "hostTicks", unfollowed := true, recurses := true, plainKeys := false, apart := false, narrowed := true }
def HostTicksUptoSaid : Prop := hostTicksUptoRow.holds Tryz.pinned (OpenSpec.upto hostTicksSpec)

/-- 'kiosklaw17.HostExact', WHERE WHAT IT READS IS OF BULK AT MOST 1048576: true; the input reads as it did. -/
def hostExactUptoRow : OpenClaim := { program := "ytceohcbokbalhaagreat", sum := "e7f1f991baa399f779f97f74dfd7f88e966033725d4e7c2d6b1596a4a6c41da3", func := "kiosk/kiosklaw17.HostExact", spec := "hostExact", unfollowed := true, recurses := true, plainKeys := false, apart := false, narrowed := true }
def HostExactUptoSaid : Prop := hostExactUptoRow.holds Tryz.pinned (OpenSpec.upto hostExactSpec)

end Rows
end Go.Proofs.YtceohcbokbalhaaGreat

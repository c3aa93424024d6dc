/-
  No cell of these rows narrows 'for every input' (looked for: loops, veiled, ifaces, maps, wideKeys, modest, calm, conditions, laid).
  DERIVED. THE GIVEN ROWS OF THIS SEAT. 10 by the template 'for every input the law returns true; each argument reads behind the call as it read before'; 0 by the template 'total and deterministic' (their statements: YtoknaaoioglapaaGreatTotals.lean).
  GIVEN WITH THE SEED: the statements are not yours to turn. If you find one false, say at which input.
  Laid BY PROGRAM, IN A SANDBOX (cutbox-rows.mjs): the forced cells as the released guide's own fill.sh prints them over the translation 30bf779b714b08f7… (all of the seat's roots in one cut). By AI agents, Wed Nov 11 2026. No macro, syntax, notation, axiom, sorry.
-/
import Derived.Test.YtoknaaoioglapaaGreatChecked
import GoSem.Claim
import GoSem.ClaimJoined
import GoSem.ClaimMapViews
import Derived.JoinedTies
import Derived.KernelRfl
namespace Go.Proofs.YtoknaaoioglapaaGreat
/- THE CELL 'sum', in the pinned program and in every row, IS THE sha256 OF THE DUMP (.gsa) THAT YtoknaaoioglapaaGreatProg.lean LOADS. Nothing in Lean hashes anything: it is a label: what it is worth is what the hold of that sum in a sandbox is worth. -/
noncomputable def Tryz.pinned : Pinned := { name := "ytoknaaoioglapaagreat", sum := "30bf779b714b08f735b2529f534eefc768a065a6f4c791aff861e30bbb57450d", checked := Tryz.checked }
namespace Rows
def none {H : Type} : Left H := { results := [], args := [] }

/-- 'kiosklaw16.TcpSynReceived': WHATEVER THE INPUT: true; the input reads as it did. -/
def tcpSynReceivedSpec : ChangeSpec := { name := "tcpSynReceived", fn := fun _ => fun
  | [d] => { results := [.lit (.bool true)], args := [d] }
  | _ => none }
def tcpSynReceivedRow : OpenClaim := { program := "ytoknaaoioglapaagreat", sum := "30bf779b714b08f735b2529f534eefc768a065a6f4c791aff861e30bbb57450d", func := "kiosk/kiosklaw16.TcpSynReceived", spec := "tcpSynReceived", unfollowed := true, recurses := true, apart := false }
def TcpSynReceivedSaid : Prop := tcpSynReceivedRow.holds Tryz.pinned (OpenSpec.ofChange tcpSynReceivedSpec)

/-- ITS FALSE NEIGHBOUR: 'it returns false'. Refute it at one input. -/
def tcpSynReceivedWrong : ChangeSpec := { name := "tcpSynReceived", fn := fun _ => fun
  | [d] => { results := [.lit (.bool false)], args := [d] }
  | _ => none }
def TcpSynReceivedWrongFalsely : Prop := tcpSynReceivedRow.holds Tryz.pinned (OpenSpec.ofChange tcpSynReceivedWrong)

/-- 'kiosklaw16.TcpEstablished': WHATEVER THE INPUT: true; the input reads as it did. -/
def tcpEstablishedSpec : ChangeSpec := { name := "tcpEstablished", fn := fun _ => fun
  | [d] => { results := [.lit (.bool true)], args := [d] }
  | _ => none }
def tcpEstablishedRow : OpenClaim := { program := "ytoknaaoioglapaagreat", sum := "30bf779b714b08f735b2529f534eefc768a065a6f4c791aff861e30bbb57450d", func := "kiosk/kiosklaw16.TcpEstablished", spec := "tcpEstablished", unfollowed := true, recurses := true, apart := false }
def TcpEstablishedSaid : Prop := tcpEstablishedRow.holds Tryz.pinned (OpenSpec.ofChange tcpEstablishedSpec)

/-- ITS FALSE NEIGHBOUR: 'it returns false'. Refute it at one input. -/
def tcpEstablishedWrong : ChangeSpec := { name := "tcpEstablished", fn := fun _ => fun
  | [d] => { results := [.lit (.bool false)], args := [d] }
  | _ => none }
def TcpEstablishedWrongFalsely : Prop := tcpEstablishedRow.holds Tryz.pinned (OpenSpec.ofChange tcpEstablishedWrong)

/-- 'kiosklaw16.TcpFinWait1': WHATEVER THE INPUT: true; the input reads as it did. -/
def tcpFinWait1Spec : ChangeSpec := { name := "tcpFinWait1", fn := fun _ => fun
  | [d] => { results := [.lit (.bool true)], args := [d] }
  | _ => none }
def tcpFinWait1Row : OpenClaim := { program := "ytoknaaoioglapaagreat", sum := "30bf779b714b08f735b2529f534eefc768a065a6f4c791aff861e30bbb57450d", func := "kiosk/kiosklaw16.TcpFinWait1", spec := "tcpFinWait1", unfollowed := true, recurses := true, apart := false }
def TcpFinWait1Said : Prop := tcpFinWait1Row.holds Tryz.pinned (OpenSpec.ofChange tcpFinWait1Spec)

/-- ITS FALSE NEIGHBOUR: 'it returns false'. Refute it at one input. -/
def tcpFinWait1Wrong : ChangeSpec := { name := "tcpFinWait1", fn := fun _ => fun
  | [d] => { results := [.lit (.bool false)], args := [d] }
  | _ => none }
def TcpFinWait1WrongFalsely : Prop := tcpFinWait1Row.holds Tryz.pinned (OpenSpec.ofChange tcpFinWait1Wrong)

/-- 'kiosklaw16.TcpFinWait2': WHATEVER THE INPUT: true; the input reads as it did. -/
def tcpFinWait2Spec : ChangeSpec := { name := "tcpFinWait2", fn := fun _ => fun
  | [d] => { results := [.lit (.bool true)], args := [d] }
  | _ => none }
def tcpFinWait2Row : OpenClaim := { program := "ytoknaaoioglapaagreat", sum := "30bf779b714b08f735b2529f534eefc768a065a6f4c791aff861e30bbb57450d", func := "kiosk/kiosklaw16.TcpFinWait2", spec := "tcpFinWait2", unfollowed := true, recurses := true, apart := false }
def TcpFinWait2Said : Prop := tcpFinWait2Row.holds Tryz.pinned (OpenSpec.ofChange tcpFinWait2Spec)

/-- ITS FALSE NEIGHBOUR: 'it returns false'. Refute it at one input. -/
def tcpFinWait2Wrong : ChangeSpec := { name := "tcpFinWait2", fn := fun _ => fun
  | [d] => { results := [.lit (.bool false)], args := [d] }
  | _ => none }
def TcpFinWait2WrongFalsely : Prop := tcpFinWait2Row.holds Tryz.pinned (OpenSpec.ofChange tcpFinWait2Wrong)

/-- 'kiosklaw16.TcpCloseWait': WHATEVER THE INPUT: true; the input reads as it did. -/
def tcpCloseWaitSpec : ChangeSpec := { name := "tcpCloseWait", fn := fun _ => fun
  | [d] => { results := [.lit (.bool true)], args := [d] }
  | _ => none }
def tcpCloseWaitRow : OpenClaim := { program := "ytoknaaoioglapaagreat", sum := "30bf779b714b08f735b2529f534eefc768a065a6f4c791aff861e30bbb57450d", func := "kiosk/kiosklaw16.TcpCloseWait", spec := "tcpCloseWait", unfollowed := true, recurses := true, apart := false }
def TcpCloseWaitSaid : Prop := tcpCloseWaitRow.holds Tryz.pinned (OpenSpec.ofChange tcpCloseWaitSpec)

/-- ITS FALSE NEIGHBOUR: 'it returns false'. Refute it at one input. -/
def tcpCloseWaitWrong : ChangeSpec := { name := "tcpCloseWait", fn := fun _ => fun
  | [d] => { results := [.lit (.bool false)], args := [d] }
  | _ => none }
def TcpCloseWaitWrongFalsely : Prop := tcpCloseWaitRow.holds Tryz.pinned (OpenSpec.ofChange tcpCloseWaitWrong)

/-- 'kiosklaw16.TcpClosings': WHATEVER THE INPUT: true; the input reads as it did. -/
def tcpClosingsSpec : ChangeSpec := { name := "tcpClosings", fn := fun _ => fun
  | [d] => { results := [.lit (.bool true)], args := [d] }
  | _ => none }
def tcpClosingsRow : OpenClaim := { program := "ytoknaaoioglapaagreat", sum := "30bf779b714b08f735b2529f534eefc768a065a6f4c791aff861e30bbb57450d", func := "kiosk/kiosklaw16.TcpClosings", spec := "tcpClosings", unfollowed := true, recurses := true, apart := false }
def TcpClosingsSaid : Prop := tcpClosingsRow.holds Tryz.pinned (OpenSpec.ofChange tcpClosingsSpec)

/-- ITS FALSE NEIGHBOUR: 'it returns false'. Refute it at one input. -/
def tcpClosingsWrong : ChangeSpec := { name := "tcpClosings", fn := fun _ => fun
  | [d] => { results := [.lit (.bool false)], args := [d] }
  | _ => none }
def TcpClosingsWrongFalsely : Prop := tcpClosingsRow.holds Tryz.pinned (OpenSpec.ofChange tcpClosingsWrong)

/-- 'kiosklaw16.TcpLastAck': WHATEVER THE INPUT: true; the input reads as it did. -/
def tcpLastAckSpec : ChangeSpec := { name := "tcpLastAck", fn := fun _ => fun
  | [d] => { results := [.lit (.bool true)], args := [d] }
  | _ => none }
def tcpLastAckRow : OpenClaim := { program := "ytoknaaoioglapaagreat", sum := "30bf779b714b08f735b2529f534eefc768a065a6f4c791aff861e30bbb57450d", func := "kiosk/kiosklaw16.TcpLastAck", spec := "tcpLastAck", unfollowed := true, recurses := true, apart := false }
def TcpLastAckSaid : Prop := tcpLastAckRow.holds Tryz.pinned (OpenSpec.ofChange tcpLastAckSpec)

/-- ITS FALSE NEIGHBOUR: 'it returns false'. Refute it at one input. -/
def tcpLastAckWrong : ChangeSpec := { name := "tcpLastAck", fn := fun _ => fun
  | [d] => { results := [.lit (.bool false)], args := [d] }
  | _ => none }
def TcpLastAckWrongFalsely : Prop := tcpLastAckRow.holds Tryz.pinned (OpenSpec.ofChange tcpLastAckWrong)

/-- 'kiosklaw16.TcpTimeWait': WHATEVER THE INPUT: true; the input reads as it did. -/
def tcpTimeWaitSpec : ChangeSpec := { name := "tcpTimeWait", fn := fun _ => fun
  | [d] => { results := [.lit (.bool true)], args := [d] }
  | _ => none }
def tcpTimeWaitRow : OpenClaim := { program := "ytoknaaoioglapaagreat", sum := "30bf779b714b08f735b2529f534eefc768a065a6f4c791aff861e30bbb57450d", func := "kiosk/kiosklaw16.TcpTimeWait", spec := "tcpTimeWait", unfollowed := true, recurses := true, apart := false }
def TcpTimeWaitSaid : Prop := tcpTimeWaitRow.holds Tryz.pinned (OpenSpec.ofChange tcpTimeWaitSpec)

/-- ITS FALSE NEIGHBOUR: 'it returns false'. Refute it at one input. -/
def tcpTimeWaitWrong : ChangeSpec := { name := "tcpTimeWait", fn := fun _ => fun
  | [d] => { results := [.lit (.bool false)], args := [d] }
  | _ => none }
def TcpTimeWaitWrongFalsely : Prop := tcpTimeWaitRow.holds Tryz.pinned (OpenSpec.ofChange tcpTimeWaitWrong)

/-- 'kiosklaw16.TcpClosed': WHATEVER THE INPUT: true; the input reads as it did. -/
def tcpClosedSpec : ChangeSpec := { name := "tcpClosed", fn := fun _ => fun
  | [d] => { results := [.lit (.bool true)], args := [d] }
  | _ => none }
def tcpClosedRow : OpenClaim := { program := "ytoknaaoioglapaagreat", sum := "30bf779b714b08f735b2529f534eefc768a065a6f4c791aff861e30bbb57450d", func := "kiosk/kiosklaw16.TcpClosed", spec := "tcpClosed", unfollowed := true, recurses := true, apart := false }
def TcpClosedSaid : Prop := tcpClosedRow.holds Tryz.pinned (OpenSpec.ofChange tcpClosedSpec)

/-- ITS FALSE NEIGHBOUR: 'it returns false'. Refute it at one input. -/
def tcpClosedWrong : ChangeSpec := { name := "tcpClosed", fn := fun _ => fun
  | [d] => { results := [.lit (.bool false)], args := [d] }
  | _ => none }
def TcpClosedWrongFalsely : Prop := tcpClosedRow.holds Tryz.pinned (OpenSpec.ofChange tcpClosedWrong)

/-- 'kiosklaw16.TcpExact': WHATEVER THE INPUT: true; the input reads as it did. -/
def tcpExactSpec : ChangeSpec := { name := "tcpExact", fn := fun _ => fun
  | [d] => { results := [.lit (.bool true)], args := [d] }
  | _ => none }
def tcpExactRow : OpenClaim := { program := "ytoknaaoioglapaagreat", sum := "30bf779b714b08f735b2529f534eefc768a065a6f4c791aff861e30bbb57450d", func := "kiosk/kiosklaw16.TcpExact", spec := "tcpExact", unfollowed := true, recurses := true, apart := false }
def TcpExactSaid : Prop := tcpExactRow.holds Tryz.pinned (OpenSpec.ofChange tcpExactSpec)

/-- ITS FALSE NEIGHBOUR: 'it returns false'. Refute it at one input. -/
def tcpExactWrong : ChangeSpec := { name := "tcpExact", fn := fun _ => fun
  | [d] => { results := [.lit (.bool false)], args := [d] }
  | _ => none }
def TcpExactWrongFalsely : Prop := tcpExactRow.holds Tryz.pinned (OpenSpec.ofChange tcpExactWrong)

/- THE SECOND FORM. 'bulk': how many values and letters a reading holds, each counted each time it is reached (what is shared counts as often as it is met; a slice's spare places count too). A statement '..UptoSaid' is the law's where the arguments, and the package variables that the reading takes, are together of bulk at most 1048576: NARROWER than '..Said'. Prove '..Said' where nothing that the law and all that it calls make is longer than what came in: it says more and counts as full. Else prove '..UptoSaid'. A law counts once. -/
mutual
def uptoBulk {H : Type} : DataW H → Nat
  | .lit (.string bytes) => bytes.length + 1
  | .lit _ => 1
  | .nil => 1
  | .ptr d => uptoBulk d + 1
  | .slice elems spare => uptoBulkAll elems + uptoBulkAll spare + 1
  | .agg parts => uptoBulkAll parts + 1
  | .iface _ d => uptoBulk d + 1
  | .map entries => uptoBulkEntries entries + 1
  | .held _ => 1
def uptoBulkAll {H : Type} : List (DataW H) → Nat
  | [] => 0
  | d :: r => uptoBulk d + uptoBulkAll r
def uptoBulkEntries {H : Type} : List (Lit × DataW H) → Nat
  | [] => 0
  | x :: r => uptoBulkEntry x + uptoBulkEntries r
def uptoBulkEntry {H : Type} : Lit × DataW H → Nat
  | (.string bytes, d) => bytes.length + uptoBulk d + 1
  | (_, d) => uptoBulk d + 1
 end
def uptoSmall : (H : Type) → List (DataW H) → Bool := fun _ ds => decide (uptoBulkAll ds ≤ 1048576)
def OpenSpec.upto (s : _root_.Go.ChangeSpec) : _root_.Go.OpenSpec := { _root_.Go.OpenSpec.ofChange s with cond := some uptoSmall }

/-- 'kiosklaw16.TcpSynReceived', WHERE WHAT IT READS IS OF BULK AT MOST 1048576: true; the input reads as it did. -/
def tcpSynReceivedUptoRow : OpenClaim := { program := "ytoknaaoioglapaagreat", sum := "30bf779b714b08f735b2529f534eefc768a065a6f4c791aff861e30bbb57450d", func := "kiosk/kiosklaw16.TcpSynReceived", spec := "tcpSynReceived", unfollowed := true, recurses := true, apart := false, narrowed := true }
def TcpSynReceivedUptoSaid : Prop := tcpSynReceivedUptoRow.holds Tryz.pinned (OpenSpec.upto tcpSynReceivedSpec)

/-- 'kiosklaw16.TcpEstablished', WHERE WHAT IT READS IS OF BULK AT MOST 1048576: true; the input reads as it did. -/
def tcpEstablishedUptoRow : OpenClaim := { program := "ytoknaaoioglapaagreat", sum := "30bf779b714b08f735b2529f534eefc768a065a6f4c791aff861e30bbb57450d", func := "kiosk/kiosklaw16.TcpEstablished", spec := "tcpEstablished", unfollowed := true, recurses := true, apart := false, narrowed := true }
def TcpEstablishedUptoSaid : Prop := tcpEstablishedUptoRow.holds Tryz.pinned (OpenSpec.upto tcpEstablishedSpec)

/-- 'kiosklaw16.TcpFinWait1', WHERE WHAT IT READS IS OF BULK AT MOST 1048576: true; the input reads as it did. -/
def tcpFinWait1UptoRow : OpenClaim := { program := "ytoknaaoioglapaagreat", sum := "30bf779b714b08f735b2529f534eefc768a065a6f4c791aff861e30bbb57450d", func := "kiosk/kiosklaw16.TcpFinWait1", spec := "tcpFinWait1", unfollowed := true, recurses := true, apart := false, narrowed := true }
def TcpFinWait1UptoSaid : Prop := tcpFinWait1UptoRow.holds Tryz.pinned (OpenSpec.upto tcpFinWait1Spec)

/-- 'kiosklaw16.TcpFinWait2', WHERE WHAT IT READS IS OF BULK AT MOST 1048576: true; the input reads as it did. -/
def tcpFinWait2UptoRow : OpenClaim := { program := "ytoknaaoioglapaagreat", sum := "30bf779b714b08f735b2529f534eefc768a065a6f4c791aff861e30bbb57450d", func := "kiosk/kiosklaw16.TcpFinWait2", spec := "tcpFinWait2", unfollowed := true, recurses := true, apart := false, narrowed := true }
def TcpFinWait2UptoSaid : Prop := tcpFinWait2UptoRow.holds Tryz.pinned (OpenSpec.upto tcpFinWait2Spec)

/-- 'kiosklaw16.TcpCloseWait', WHERE WHAT IT READS IS OF BULK AT MOST 1048576: true; the input reads as it did. -/
def tcpCloseWaitUptoRow : OpenClaim := { program := "ytoknaaoioglapaagreat", sum := "30bf779b714b08f735b2529f534eefc768a065a6f4c791aff861e30bbb57450d", func := "kiosk/kiosklaw16.TcpCloseWait", spec := "tcpCloseWait", unfollowed := true, recurses := true, apart := false, narrowed := true }
def TcpCloseWaitUptoSaid : Prop := tcpCloseWaitUptoRow.holds Tryz.pinned (OpenSpec.upto tcpCloseWaitSpec)

/-- 'kiosklaw16.TcpClosings', WHERE WHAT IT READS IS OF BULK AT MOST 1048576: true; the input reads as it did. -/
def tcpClosingsUptoRow : OpenClaim := { program := "ytoknaaoioglapaagreat", sum := "30bf779b714b08f735b2529f534eefc768a065a6f4c791aff861e30bbb57450d", func := "kiosk/kiosklaw16.TcpClosings", spec := "tcpClosings", unfollowed := true, recurses := true, apart := false, narrowed := true }
def TcpClosingsUptoSaid : Prop := tcpClosingsUptoRow.holds Tryz.pinned (OpenSpec.upto tcpClosingsSpec)

/-- 'kiosklaw16.TcpLastAck', WHERE WHAT IT READS IS OF BULK AT MOST 1048576: true; the input reads as it did. -/
def tcpLastAckUptoRow : OpenClaim := { program := "ytoknaaoioglapaagreat", sum := "30bf779b714b08f735b2529f534eefc768a065a6f4c791aff861e30bbb57450d", func := "kiosk/kiosklaw16.TcpLastAck", spec := "tcpLastAck", unfollowed := true, recurses := true, apart := false, narrowed := true }
def TcpLastAckUptoSaid : Prop := tcpLastAckUptoRow.holds Tryz.pinned (OpenSpec.upto tcpLastAckSpec)

/-- 'kiosklaw16.TcpTimeWait', WHERE WHAT IT READS IS OF BULK AT MOST 1048576: true; the input reads as it did. -/
def tcpTimeWaitUptoRow : OpenClaim := { program := "ytoknaaoioglapaagreat", sum := "30bf779b714b08f735b2529f534eefc768a065a6f4c791aff861e30bbb57450d", func := "kiosk/kiosklaw16.TcpTimeWait", spec := "tcpTimeWait", unfollowed := true, recurses := true, apart := false, narrowed := true }
def TcpTimeWaitUptoSaid : Prop := tcpTimeWaitUptoRow.holds Tryz.pinned (OpenSpec.upto tcpTimeWaitSpec)

/-- 'kiosklaw16.TcpClosed', WHERE WHAT IT READS IS OF BULK AT MOST 1048576: true; the input reads as it did. -/
def tcpClosedUptoRow : OpenClaim := { program := "ytoknaaoioglapaagreat", sum := "30bf779b714b08f735b2529f534eefc768a065a6f4c791aff861e30bbb57450d", func := "kiosk/kiosklaw16.TcpClosed", spec := "tcpClosed", unfollowed := true, recurses := true, apart := false, narrowed := true }
def TcpClosedUptoSaid : Prop := tcpClosedUptoRow.holds Tryz.pinned (OpenSpec.upto tcpClosedSpec)

/-- 'kiosklaw16.TcpExact', WHERE WHAT IT READS IS OF BULK AT MOST 1048576: true; the input reads as it did. -/
def tcpExactUptoRow : OpenClaim := { program := "ytoknaaoioglapaagreat", sum := "30bf779b714b08f735b2529f534eefc768a065a6f4c791aff861e30bbb57450d", func := "kiosk/kiosklaw16.TcpExact", spec := "tcpExact", unfollowed := true, recurses := true, apart := false, narrowed := true }
def TcpExactUptoSaid : Prop := tcpExactUptoRow.holds Tryz.pinned (OpenSpec.upto tcpExactSpec)

end Rows
end Go.Proofs.YtoknaaoioglapaaGreat

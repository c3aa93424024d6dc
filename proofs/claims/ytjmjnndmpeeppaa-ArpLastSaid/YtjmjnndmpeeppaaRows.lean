/-
  No cell of these rows narrows 'for every input' (looked for: loops, veiled, ifaces, maps, wideKeys, modest, calm, conditions, laid).
  DERIVED. THE GIVEN ROWS OF THIS SEAT. 12 by the template 'for every input the law returns true; each argument reads behind the call as it read before'; 0 by the template 'total and deterministic' (their statements: YtjmjnndmpeeppaaTotals.lean).
  GIVEN WITH THE SEED: the statements are not yours to turn. If you find one false, say at which input.
  Laid BY PROGRAM, IN A SANDBOX (cutbox-rows.mjs): the forced cells as the released guide's own fill.sh prints them over the translation 4a738d73a7f7217e… (all of the seat's roots in one cut). By AI agents, Wed Nov 11 2026. No macro, syntax, notation, axiom, sorry.
-/
import Derived.Test.YtjmjnndmpeeppaaChecked
import GoSem.Claim
import GoSem.ClaimJoined
import GoSem.ClaimMapViews
import Derived.JoinedTies
import Derived.KernelRfl
namespace Go.Proofs.Ytjmjnndmpeeppaa
/- THE CELL 'sum', in the pinned program and in every row, IS THE sha256 OF THE DUMP (.gsa) THAT YtjmjnndmpeeppaaProg.lean LOADS. Nothing in Lean hashes anything: it is a label: what it is worth is what the hold of that sum in a sandbox is worth. -/
noncomputable def Try.pinned : Pinned := { name := "ytjmjnndmpeeppaa", sum := "4a738d73a7f7217e881ff83185fbfa89927573e778f34a2f24676c46a0e79608", checked := Try.checked }
namespace Rows
def none {H : Type} : Left H := { results := [], args := [] }

/-- 'kiosklaw14.ReasmWindow': WHATEVER THE INPUT: true; the input reads as it did. -/
def reasmWindowSpec : ChangeSpec := { name := "reasmWindow", fn := fun _ => fun
  | [d] => { results := [.lit (.bool true)], args := [d] }
  | _ => none }
def reasmWindowRow : OpenClaim := { program := "ytjmjnndmpeeppaa", sum := "4a738d73a7f7217e881ff83185fbfa89927573e778f34a2f24676c46a0e79608", func := "kiosk/kiosklaw14.ReasmWindow", spec := "reasmWindow", unfollowed := true, recurses := true, apart := false }
def ReasmWindowSaid : Prop := reasmWindowRow.holds Try.pinned (OpenSpec.ofChange reasmWindowSpec)

/-- ITS FALSE NEIGHBOUR: 'it returns false'. Refute it at one input. -/
def reasmWindowWrong : ChangeSpec := { name := "reasmWindow", fn := fun _ => fun
  | [d] => { results := [.lit (.bool false)], args := [d] }
  | _ => none }
def ReasmWindowWrongFalsely : Prop := reasmWindowRow.holds Try.pinned (OpenSpec.ofChange reasmWindowWrong)

/-- 'kiosklaw14.ReasmOnce': WHATEVER THE INPUT: true; the input reads as it did. -/
def reasmOnceSpec : ChangeSpec := { name := "reasmOnce", fn := fun _ => fun
  | [d] => { results := [.lit (.bool true)], args := [d] }
  | _ => none }
def reasmOnceRow : OpenClaim := { program := "ytjmjnndmpeeppaa", sum := "4a738d73a7f7217e881ff83185fbfa89927573e778f34a2f24676c46a0e79608", func := "kiosk/kiosklaw14.ReasmOnce", spec := "reasmOnce", unfollowed := true, recurses := true, apart := false }
def ReasmOnceSaid : Prop := reasmOnceRow.holds Try.pinned (OpenSpec.ofChange reasmOnceSpec)

/-- ITS FALSE NEIGHBOUR: 'it returns false'. Refute it at one input. -/
def reasmOnceWrong : ChangeSpec := { name := "reasmOnce", fn := fun _ => fun
  | [d] => { results := [.lit (.bool false)], args := [d] }
  | _ => none }
def ReasmOnceWrongFalsely : Prop := reasmOnceRow.holds Try.pinned (OpenSpec.ofChange reasmOnceWrong)

/-- 'kiosklaw14.ReasmExact': WHATEVER THE INPUT: true; the input reads as it did. -/
def reasmExactSpec : ChangeSpec := { name := "reasmExact", fn := fun _ => fun
  | [d] => { results := [.lit (.bool true)], args := [d] }
  | _ => none }
def reasmExactRow : OpenClaim := { program := "ytjmjnndmpeeppaa", sum := "4a738d73a7f7217e881ff83185fbfa89927573e778f34a2f24676c46a0e79608", func := "kiosk/kiosklaw14.ReasmExact", spec := "reasmExact", unfollowed := true, recurses := true, apart := false }
def ReasmExactSaid : Prop := reasmExactRow.holds Try.pinned (OpenSpec.ofChange reasmExactSpec)

/-- ITS FALSE NEIGHBOUR: 'it returns false'. Refute it at one input. -/
def reasmExactWrong : ChangeSpec := { name := "reasmExact", fn := fun _ => fun
  | [d] => { results := [.lit (.bool false)], args := [d] }
  | _ => none }
def ReasmExactWrongFalsely : Prop := reasmExactRow.holds Try.pinned (OpenSpec.ofChange reasmExactWrong)

/-- 'kiosklaw14.ReasmStream': WHATEVER THE INPUT: true; the input reads as it did. -/
def reasmStreamSpec : ChangeSpec := { name := "reasmStream", fn := fun _ => fun
  | [d] => { results := [.lit (.bool true)], args := [d] }
  | _ => none }
def reasmStreamRow : OpenClaim := { program := "ytjmjnndmpeeppaa", sum := "4a738d73a7f7217e881ff83185fbfa89927573e778f34a2f24676c46a0e79608", func := "kiosk/kiosklaw14.ReasmStream", spec := "reasmStream", unfollowed := true, recurses := true, apart := false }
def ReasmStreamSaid : Prop := reasmStreamRow.holds Try.pinned (OpenSpec.ofChange reasmStreamSpec)

/-- ITS FALSE NEIGHBOUR: 'it returns false'. Refute it at one input. -/
def reasmStreamWrong : ChangeSpec := { name := "reasmStream", fn := fun _ => fun
  | [d] => { results := [.lit (.bool false)], args := [d] }
  | _ => none }
def ReasmStreamWrongFalsely : Prop := reasmStreamRow.holds Try.pinned (OpenSpec.ofChange reasmStreamWrong)

/-- 'kiosklaw9.ArpOrder': WHATEVER THE INPUT: true; the input reads as it did. -/
def arpOrderSpec : ChangeSpec := { name := "arpOrder", fn := fun _ => fun
  | [d] => { results := [.lit (.bool true)], args := [d] }
  | _ => none }
def arpOrderRow : OpenClaim := { program := "ytjmjnndmpeeppaa", sum := "4a738d73a7f7217e881ff83185fbfa89927573e778f34a2f24676c46a0e79608", func := "kiosk/kiosklaw9.ArpOrder", spec := "arpOrder", inPlace := ["slices.overlaps[kiosk/api.Neighbour]"], unfollowed := true, recurses := true, apart := false }
def ArpOrderSaid : Prop := arpOrderRow.holds Try.pinned (OpenSpec.ofChange arpOrderSpec)

/-- ITS FALSE NEIGHBOUR: 'it returns false'. Refute it at one input. -/
def arpOrderWrong : ChangeSpec := { name := "arpOrder", fn := fun _ => fun
  | [d] => { results := [.lit (.bool false)], args := [d] }
  | _ => none }
def ArpOrderWrongFalsely : Prop := arpOrderRow.holds Try.pinned (OpenSpec.ofChange arpOrderWrong)

/-- 'kiosklaw9.ArpExact': WHATEVER THE INPUT: true; the input reads as it did. -/
def arpExactSpec : ChangeSpec := { name := "arpExact", fn := fun _ => fun
  | [d] => { results := [.lit (.bool true)], args := [d] }
  | _ => none }
def arpExactRow : OpenClaim := { program := "ytjmjnndmpeeppaa", sum := "4a738d73a7f7217e881ff83185fbfa89927573e778f34a2f24676c46a0e79608", func := "kiosk/kiosklaw9.ArpExact", spec := "arpExact", inPlace := ["slices.overlaps[kiosk/api.Neighbour]"], unfollowed := true, recurses := true, apart := false }
def ArpExactSaid : Prop := arpExactRow.holds Try.pinned (OpenSpec.ofChange arpExactSpec)

/-- ITS FALSE NEIGHBOUR: 'it returns false'. Refute it at one input. -/
def arpExactWrong : ChangeSpec := { name := "arpExact", fn := fun _ => fun
  | [d] => { results := [.lit (.bool false)], args := [d] }
  | _ => none }
def ArpExactWrongFalsely : Prop := arpExactRow.holds Try.pinned (OpenSpec.ofChange arpExactWrong)

/-- 'kiosklaw9.ArpLast': WHATEVER THE INPUT: true; the input reads as it did. -/
def arpLastSpec : ChangeSpec := { name := "arpLast", fn := fun _ => fun
  | [d] => { results := [.lit (.bool true)], args := [d] }
  | _ => none }
def arpLastRow : OpenClaim := { program := "ytjmjnndmpeeppaa", sum := "4a738d73a7f7217e881ff83185fbfa89927573e778f34a2f24676c46a0e79608", func := "kiosk/kiosklaw9.ArpLast", spec := "arpLast", inPlace := ["slices.overlaps[kiosk/api.Neighbour]"], unfollowed := true, recurses := true, apart := false }
def ArpLastSaid : Prop := arpLastRow.holds Try.pinned (OpenSpec.ofChange arpLastSpec)

/-- ITS FALSE NEIGHBOUR: 'it returns false'. Refute it at one input. -/
def arpLastWrong : ChangeSpec := { name := "arpLast", fn := fun _ => fun
  | [d] => { results := [.lit (.bool false)], args := [d] }
  | _ => none }
def ArpLastWrongFalsely : Prop := arpLastRow.holds Try.pinned (OpenSpec.ofChange arpLastWrong)

/-- 'kiosklaw9.ArpLearns': WHATEVER THE INPUT: true; the input reads as it did. -/
def arpLearnsSpec : ChangeSpec := { name := "arpLearns", fn := fun _ => fun
  | [d] => { results := [.lit (.bool true)], args := [d] }
  | _ => none }
def arpLearnsRow : OpenClaim := { program := "ytjmjnndmpeeppaa", sum := "4a738d73a7f7217e881ff83185fbfa89927573e778f34a2f24676c46a0e79608", func := "kiosk/kiosklaw9.ArpLearns", spec := "arpLearns", inPlace := ["slices.overlaps[kiosk/api.Neighbour]"], unfollowed := true, recurses := true, apart := false }
def ArpLearnsSaid : Prop := arpLearnsRow.holds Try.pinned (OpenSpec.ofChange arpLearnsSpec)

/-- ITS FALSE NEIGHBOUR: 'it returns false'. Refute it at one input. -/
def arpLearnsWrong : ChangeSpec := { name := "arpLearns", fn := fun _ => fun
  | [d] => { results := [.lit (.bool false)], args := [d] }
  | _ => none }
def ArpLearnsWrongFalsely : Prop := arpLearnsRow.holds Try.pinned (OpenSpec.ofChange arpLearnsWrong)

/-- 'kiosklaw9.ArpFinds': WHATEVER THE INPUT: true; the input reads as it did. -/
def arpFindsSpec : ChangeSpec := { name := "arpFinds", fn := fun _ => fun
  | [d] => { results := [.lit (.bool true)], args := [d] }
  | _ => none }
def arpFindsRow : OpenClaim := { program := "ytjmjnndmpeeppaa", sum := "4a738d73a7f7217e881ff83185fbfa89927573e778f34a2f24676c46a0e79608", func := "kiosk/kiosklaw9.ArpFinds", spec := "arpFinds", inPlace := ["slices.overlaps[kiosk/api.Neighbour]"], unfollowed := true, recurses := true, apart := false }
def ArpFindsSaid : Prop := arpFindsRow.holds Try.pinned (OpenSpec.ofChange arpFindsSpec)

/-- ITS FALSE NEIGHBOUR: 'it returns false'. Refute it at one input. -/
def arpFindsWrong : ChangeSpec := { name := "arpFinds", fn := fun _ => fun
  | [d] => { results := [.lit (.bool false)], args := [d] }
  | _ => none }
def ArpFindsWrongFalsely : Prop := arpFindsRow.holds Try.pinned (OpenSpec.ofChange arpFindsWrong)

/-- 'kiosklaw9.ArpTicks': WHATEVER THE INPUT: true; the input reads as it did. -/
def arpTicksSpec : ChangeSpec := { name := "arpTicks", fn := fun _ => fun
  | [d] => { results := [.lit (.bool true)], args := [d] }
  | _ => none }
def arpTicksRow : OpenClaim := { program := "ytjmjnndmpeeppaa", sum := "4a738d73a7f7217e881ff83185fbfa89927573e778f34a2f24676c46a0e79608", func := "kiosk/kiosklaw9.ArpTicks", spec := "arpTicks", inPlace := ["slices.overlaps[kiosk/api.Neighbour]"], unfollowed := true, recurses := true, apart := false }
def ArpTicksSaid : Prop := arpTicksRow.holds Try.pinned (OpenSpec.ofChange arpTicksSpec)

/-- ITS FALSE NEIGHBOUR: 'it returns false'. Refute it at one input. -/
def arpTicksWrong : ChangeSpec := { name := "arpTicks", fn := fun _ => fun
  | [d] => { results := [.lit (.bool false)], args := [d] }
  | _ => none }
def ArpTicksWrongFalsely : Prop := arpTicksRow.holds Try.pinned (OpenSpec.ofChange arpTicksWrong)

/-- 'kiosklaw9.ArpBytes': WHATEVER THE INPUT: true; the input reads as it did. -/
def arpBytesSpec : ChangeSpec := { name := "arpBytes", fn := fun _ => fun
  | [d] => { results := [.lit (.bool true)], args := [d] }
  | _ => none }
def arpBytesRow : OpenClaim := { program := "ytjmjnndmpeeppaa", sum := "4a738d73a7f7217e881ff83185fbfa89927573e778f34a2f24676c46a0e79608", func := "kiosk/kiosklaw9.ArpBytes", spec := "arpBytes", inPlace := ["slices.overlaps[kiosk/api.Neighbour]"], unfollowed := true, recurses := true, apart := false }
def ArpBytesSaid : Prop := arpBytesRow.holds Try.pinned (OpenSpec.ofChange arpBytesSpec)

/-- ITS FALSE NEIGHBOUR: 'it returns false'. Refute it at one input. -/
def arpBytesWrong : ChangeSpec := { name := "arpBytes", fn := fun _ => fun
  | [d] => { results := [.lit (.bool false)], args := [d] }
  | _ => none }
def ArpBytesWrongFalsely : Prop := arpBytesRow.holds Try.pinned (OpenSpec.ofChange arpBytesWrong)

/-- 'kiosklaw9.ArpBack': WHATEVER THE INPUT: true; the input reads as it did. -/
def arpBackSpec : ChangeSpec := { name := "arpBack", fn := fun _ => fun
  | [d] => { results := [.lit (.bool true)], args := [d] }
  | _ => none }
def arpBackRow : OpenClaim := { program := "ytjmjnndmpeeppaa", sum := "4a738d73a7f7217e881ff83185fbfa89927573e778f34a2f24676c46a0e79608", func := "kiosk/kiosklaw9.ArpBack", spec := "arpBack", inPlace := ["slices.overlaps[kiosk/api.Neighbour]"], unfollowed := true, recurses := true, apart := false }
def ArpBackSaid : Prop := arpBackRow.holds Try.pinned (OpenSpec.ofChange arpBackSpec)

/-- ITS FALSE NEIGHBOUR: 'it returns false'. Refute it at one input. -/
def arpBackWrong : ChangeSpec := { name := "arpBack", fn := fun _ => fun
  | [d] => { results := [.lit (.bool false)], args := [d] }
  | _ => none }
def ArpBackWrongFalsely : Prop := arpBackRow.holds Try.pinned (OpenSpec.ofChange arpBackWrong)

/- THE SECOND FORM. 'bulk': how many values and letters a reading holds, each counted each time it is reached (what is shared counts as often as it is met; a slice's spare places count too). A statement '..UptoSaid' is the law's where the arguments, and the package variables that the reading takes, are together of bulk at most 1048576: NARROWER than '..Said'. Prove '..Said' where nothing that the law and all that it calls make is longer than what came in: it says more and counts as full. Else prove '..UptoSaid'. A law counts once. -/
mutual
def uptoBulk {H : Type} : DataW H → Nat
  | .lit (.string bytes) => bytes.length + 1
  | .lit _ => 1
  | .nil => 1
  | .ptr d => uptoBulk d + 1
  | .slice elems spare => uptoBulkAll elems + uptoBulkAll spare + 1
  | .agg parts => uptoBulkAll parts + 1
  | .iface _ d => uptoBulk d + 1
  | .map entries => uptoBulkEntries entries + 1
  | .held _ => 1
def uptoBulkAll {H : Type} : List (DataW H) → Nat
  | [] => 0
  | d :: r => uptoBulk d + uptoBulkAll r
def uptoBulkEntries {H : Type} : List (Lit × DataW H) → Nat
  | [] => 0
  | x :: r => uptoBulkEntry x + uptoBulkEntries r
def uptoBulkEntry {H : Type} : Lit × DataW H → Nat
  | (.string bytes, d) => bytes.length + uptoBulk d + 1
  | (_, d) => uptoBulk d + 1
 end
def uptoSmall : (H : Type) → List (DataW H) → Bool := fun _ ds => decide (uptoBulkAll ds ≤ 1048576)
def OpenSpec.upto (s : _root_.Go.ChangeSpec) : _root_.Go.OpenSpec := { _root_.Go.OpenSpec.ofChange s with cond := some uptoSmall }

/-- 'kiosklaw14.ReasmWindow', WHERE WHAT IT READS IS OF BULK AT MOST 1048576: true; the input reads as it did. -/
def reasmWindowUptoRow : OpenClaim := { program := "ytjmjnndmpeeppaa", sum := "4a738d73a7f7217e881ff83185fbfa89927573e778f34a2f24676c46a0e79608", func := "kiosk/kiosklaw14.ReasmWindow", spec := "reasmWindow", unfollowed := true, recurses := true, apart := false, narrowed := true }
def ReasmWindowUptoSaid : Prop := reasmWindowUptoRow.holds Try.pinned (OpenSpec.upto reasmWindowSpec)

/-- 'kiosklaw14.ReasmOnce', WHERE WHAT IT READS IS OF BULK AT MOST 1048576: true; the input reads as it did. -/
def reasmOnceUptoRow : OpenClaim := { program := "ytjmjnndmpeeppaa", sum := "4a738d73a7f7217e881ff83185fbfa89927573e778f34a2f24676c46a0e79608", func := "kiosk/kiosklaw14.ReasmOnce", spec := "reasmOnce", unfollowed := true, recurses := true, apart := false, narrowed := true }
def ReasmOnceUptoSaid : Prop := reasmOnceUptoRow.holds Try.pinned (OpenSpec.upto reasmOnceSpec)

/-- 'kiosklaw14.ReasmExact', WHERE WHAT IT READS IS OF BULK AT MOST 1048576: true; the input reads as it did. -/
def reasmExactUptoRow : OpenClaim := { program := "ytjmjnndmpeeppaa", sum := "4a738d73a7f7217e881ff83185fbfa89927573e778f34a2f24676c46a0e79608", func := "kiosk/kiosklaw14.ReasmExact", spec := "reasmExact", unfollowed := true, recurses := true, apart := false, narrowed := true }
def ReasmExactUptoSaid : Prop := reasmExactUptoRow.holds Try.pinned (OpenSpec.upto reasmExactSpec)

/-- 'kiosklaw14.ReasmStream', WHERE WHAT IT READS IS OF BULK AT MOST 1048576: true; the input reads as it did. -/
def reasmStreamUptoRow : OpenClaim := { program := "ytjmjnndmpeeppaa", sum := "4a738d73a7f7217e881ff83185fbfa89927573e778f34a2f24676c46a0e79608", func := "kiosk/kiosklaw14.ReasmStream", spec := "reasmStream", unfollowed := true, recurses := true, apart := false, narrowed := true }
def ReasmStreamUptoSaid : Prop := reasmStreamUptoRow.holds Try.pinned (OpenSpec.upto reasmStreamSpec)

/-- 'kiosklaw9.ArpOrder', WHERE WHAT IT READS IS OF BULK AT MOST 1048576: true; the input reads as it did. -/
def arpOrderUptoRow : OpenClaim := { program := "ytjmjnndmpeeppaa", sum := "4a738d73a7f7217e881ff83185fbfa89927573e778f34a2f24676c46a0e79608", func := "kiosk/kiosklaw9.ArpOrder", spec := "arpOrder", inPlace := ["slices.overlaps[kiosk/api.Neighbour]"], unfollowed := true, recurses := true, apart := false, narrowed := true }
def ArpOrderUptoSaid : Prop := arpOrderUptoRow.holds Try.pinned (OpenSpec.upto arpOrderSpec)

/-- 'kiosklaw9.ArpExact', WHERE WHAT IT READS IS OF BULK AT MOST 1048576: true; the input reads as it did. -/
def arpExactUptoRow : OpenClaim := { program := "ytjmjnndmpeeppaa", sum := "4a738d73a7f7217e881ff83185fbfa89927573e778f34a2f24676c46a0e79608", func := "kiosk/kiosklaw9.ArpExact", spec := "arpExact", inPlace := ["slices.overlaps[kiosk/api.Neighbour]"], unfollowed := true, recurses := true, apart := false, narrowed := true }
def ArpExactUptoSaid : Prop := arpExactUptoRow.holds Try.pinned (OpenSpec.upto arpExactSpec)

/-- 'kiosklaw9.ArpLast', WHERE WHAT IT READS IS OF BULK AT MOST 1048576: true; the input reads as it did. -/
def arpLastUptoRow : OpenClaim := { program := "ytjmjnndmpeeppaa", sum := "4a738d73a7f7217e881ff83185fbfa89927573e778f34a2f24676c46a0e79608", func := "kiosk/kiosklaw9.ArpLast", spec := "arpLast", inPlace := ["slices.overlaps[kiosk/api.Neighbour]"], unfollowed := true, recurses := true, apart := false, narrowed := true }
def ArpLastUptoSaid : Prop := arpLastUptoRow.holds Try.pinned (OpenSpec.upto arpLastSpec)

/-- 'kiosklaw9.ArpLearns', WHERE WHAT IT READS IS OF BULK AT MOST 1048576: true; the input reads as it did. -/
def arpLearnsUptoRow : OpenClaim := { program := "ytjmjnndmpeeppaa", sum := "4a738d73a7f7217e881ff83185fbfa89927573e778f34a2f24676c46a0e79608", func := "kiosk/kiosklaw9.ArpLearns", spec := "arpLearns", inPlace := ["slices.overlaps[kiosk/api.Neighbour]"], unfollowed := true, recurses := true, apart := false, narrowed := true }
def ArpLearnsUptoSaid : Prop := arpLearnsUptoRow.holds Try.pinned (OpenSpec.upto arpLearnsSpec)

/-- 'kiosklaw9.ArpFinds', WHERE WHAT IT READS IS OF BULK AT MOST 1048576: true; the input reads as it did. -/
def arpFindsUptoRow : OpenClaim := { program := "ytjmjnndmpeeppaa", sum := "4a738d73a7f7217e881ff83185fbfa89927573e778f34a2f24676c46a0e79608", func := "kiosk/kiosklaw9.ArpFinds", spec := "arpFinds", inPlace := ["slices.overlaps[kiosk/api.Neighbour]"], unfollowed := true, recurses := true, apart := false, narrowed := true }
def ArpFindsUptoSaid : Prop := arpFindsUptoRow.holds Try.pinned (OpenSpec.upto arpFindsSpec)

/-- 'kiosklaw9.ArpTicks', WHERE WHAT IT READS IS OF BULK AT MOST 1048576: true; the input reads as it did. -/
def arpTicksUptoRow : OpenClaim := { program := "ytjmjnndmpeeppaa", sum := "4a738d73a7f7217e881ff83185fbfa89927573e778f34a2f24676c46a0e79608", func := "kiosk/kiosklaw9.ArpTicks", spec := "arpTicks", inPlace := ["slices.overlaps[kiosk/api.Neighbour]"], unfollowed := true, recurses := true, apart := false, narrowed := true }
def ArpTicksUptoSaid : Prop := arpTicksUptoRow.holds Try.pinned (OpenSpec.upto arpTicksSpec)

/-- 'kiosklaw9.ArpBytes', WHERE WHAT IT READS IS OF BULK AT MOST 1048576: true; the input reads as it did. -/
def arpBytesUptoRow : OpenClaim := { program := "ytjmjnndmpeeppaa", sum := "4a738d73a7f7217e881ff83185fbfa89927573e778f34a2f24676c46a0e79608", func := "kiosk/kiosklaw9.ArpBytes", spec := "arpBytes", inPlace := ["slices.overlaps[kiosk/api.Neighbour]"], unfollowed := true, recurses := true, apart := false, narrowed := true }
def ArpBytesUptoSaid : Prop := arpBytesUptoRow.holds Try.pinned (OpenSpec.upto arpBytesSpec)

/-- 'kiosklaw9.ArpBack', WHERE WHAT IT READS IS OF BULK AT MOST 1048576: true; the input reads as it did. -/
def arpBackUptoRow : OpenClaim := { program := "ytjmjnndmpeeppaa", sum := "4a738d73a7f7217e881ff83185fbfa89927573e778f34a2f24676c46a0e79608", func := "kiosk/kiosklaw9.ArpBack", spec := "arpBack", inPlace := ["slices.overlaps[kiosk/api.Neighbour]"], unfollowed := true, recurses := true, apart := false, narrowed := true }
def ArpBackUptoSaid : Prop := arpBackUptoRow.holds Try.pinned (OpenSpec.upto arpBackSpec)

end Rows
end Go.Proofs.Ytjmjnndmpeeppaa

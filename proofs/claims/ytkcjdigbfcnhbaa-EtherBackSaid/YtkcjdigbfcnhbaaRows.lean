/-
  No cell of these rows narrows 'for every input' (looked for: loops, veiled, ifaces, maps, wideKeys, modest, calm, conditions, laid).
  DERIVED. THE GIVEN ROWS OF THIS SEAT. 11 by the template 'for every input the law returns true; each argument reads behind the call as it read before'; 0 by the template 'total and deterministic' (their statements: YtkcjdigbfcnhbaaTotals.lean).
  GIVEN WITH THE SEED: the statements are not yours to turn. If you find one false, say at which input.
  Laid BY PROGRAM, IN A SANDBOX (cutbox-rows.mjs): the forced cells as the released guide's own fill.sh prints them over the translation c9f5170dc3441b1c… (all of the seat's roots in one cut). By AI agents, Wed Nov 11 2026. No macro, syntax, notation, axiom, sorry.
-/
import Derived.Test.YtkcjdigbfcnhbaaChecked
import GoSem.Claim
import GoSem.ClaimJoined
import GoSem.ClaimMapViews
import Derived.JoinedTies
import Derived.KernelRfl
namespace Go.Proofs.Ytkcjdigbfcnhbaa
/- THE CELL 'sum', in the pinned program and in every row, IS THE sha256 OF THE DUMP (.gsa) THAT YtkcjdigbfcnhbaaProg.lean LOADS. Nothing in Lean hashes anything: it is a label: what it is worth is what the hold of that sum in a sandbox is worth. -/
noncomputable def Try.pinned : Pinned := { name := "ytkcjdigbfcnhbaa", sum := "c9f5170dc3441b1cdbdda6b24333619ae60b55de701b83d3250b29b366ce7d1b", checked := Try.checked }
namespace Rows
def none {H : Type} : Left H := { results := [], args := [] }

/-- 'kiosklaw12.SpanNumbers': WHATEVER THE INPUT: true; the input reads as it did. -/
def spanNumbersSpec : ChangeSpec := { name := "spanNumbers", fn := fun _ => fun
  | [d] => { results := [.lit (.bool true)], args := [d] }
  | _ => none }
def spanNumbersRow : OpenClaim := { program := "ytkcjdigbfcnhbaa", sum := "c9f5170dc3441b1cdbdda6b24333619ae60b55de701b83d3250b29b366ce7d1b", func := "kiosk/kiosklaw12.SpanNumbers", spec := "spanNumbers", apart := false }
def SpanNumbersSaid : Prop := spanNumbersRow.holds Try.pinned (OpenSpec.ofChange spanNumbersSpec)

/-- ITS FALSE NEIGHBOUR: 'it returns false'. Refute it at one input. -/
def spanNumbersWrong : ChangeSpec := { name := "spanNumbers", fn := fun _ => fun
  | [d] => { results := [.lit (.bool false)], args := [d] }
  | _ => none }
def SpanNumbersWrongFalsely : Prop := spanNumbersRow.holds Try.pinned (OpenSpec.ofChange spanNumbersWrong)

/-- 'kiosklaw8.EtherParses': WHATEVER THE INPUT: true; the input reads as it did. -/
def etherParsesSpec : ChangeSpec := { name := "etherParses", fn := fun _ => fun
  | [d] => { results := [.lit (.bool true)], args := [d] }
  | _ => none }
def etherParsesRow : OpenClaim := { program := "ytkcjdigbfcnhbaa", sum := "c9f5170dc3441b1cdbdda6b24333619ae60b55de701b83d3250b29b366ce7d1b", func := "kiosk/kiosklaw8.EtherParses", spec := "etherParses", apart := false }
def EtherParsesSaid : Prop := etherParsesRow.holds Try.pinned (OpenSpec.ofChange etherParsesSpec)

/-- ITS FALSE NEIGHBOUR: 'it returns false'. Refute it at one input. -/
def etherParsesWrong : ChangeSpec := { name := "etherParses", fn := fun _ => fun
  | [d] => { results := [.lit (.bool false)], args := [d] }
  | _ => none }
def EtherParsesWrongFalsely : Prop := etherParsesRow.holds Try.pinned (OpenSpec.ofChange etherParsesWrong)

/-- 'kiosklaw12.SpanParts': WHATEVER THE INPUT: true; the input reads as it did. -/
def spanPartsSpec : ChangeSpec := { name := "spanParts", fn := fun _ => fun
  | [d] => { results := [.lit (.bool true)], args := [d] }
  | _ => none }
def spanPartsRow : OpenClaim := { program := "ytkcjdigbfcnhbaa", sum := "c9f5170dc3441b1cdbdda6b24333619ae60b55de701b83d3250b29b366ce7d1b", func := "kiosk/kiosklaw12.SpanParts", spec := "spanParts", apart := false }
def SpanPartsSaid : Prop := spanPartsRow.holds Try.pinned (OpenSpec.ofChange spanPartsSpec)

/-- ITS FALSE NEIGHBOUR: 'it returns false'. Refute it at one input. -/
def spanPartsWrong : ChangeSpec := { name := "spanParts", fn := fun _ => fun
  | [d] => { results := [.lit (.bool false)], args := [d] }
  | _ => none }
def SpanPartsWrongFalsely : Prop := spanPartsRow.holds Try.pinned (OpenSpec.ofChange spanPartsWrong)

/-- 'kiosklaw12.SpanHas': WHATEVER THE INPUT: true; the input reads as it did. -/
def spanHasSpec : ChangeSpec := { name := "spanHas", fn := fun _ => fun
  | [d] => { results := [.lit (.bool true)], args := [d] }
  | _ => none }
def spanHasRow : OpenClaim := { program := "ytkcjdigbfcnhbaa", sum := "c9f5170dc3441b1cdbdda6b24333619ae60b55de701b83d3250b29b366ce7d1b", func := "kiosk/kiosklaw12.SpanHas", spec := "spanHas", apart := false }
def SpanHasSaid : Prop := spanHasRow.holds Try.pinned (OpenSpec.ofChange spanHasSpec)

/-- ITS FALSE NEIGHBOUR: 'it returns false'. Refute it at one input. -/
def spanHasWrong : ChangeSpec := { name := "spanHas", fn := fun _ => fun
  | [d] => { results := [.lit (.bool false)], args := [d] }
  | _ => none }
def SpanHasWrongFalsely : Prop := spanHasRow.holds Try.pinned (OpenSpec.ofChange spanHasWrong)

/-- 'kiosklaw12.SpanMeets': WHATEVER THE INPUT: true; the input reads as it did. -/
def spanMeetsSpec : ChangeSpec := { name := "spanMeets", fn := fun _ => fun
  | [d] => { results := [.lit (.bool true)], args := [d] }
  | _ => none }
def spanMeetsRow : OpenClaim := { program := "ytkcjdigbfcnhbaa", sum := "c9f5170dc3441b1cdbdda6b24333619ae60b55de701b83d3250b29b366ce7d1b", func := "kiosk/kiosklaw12.SpanMeets", spec := "spanMeets", apart := false }
def SpanMeetsSaid : Prop := spanMeetsRow.holds Try.pinned (OpenSpec.ofChange spanMeetsSpec)

/-- ITS FALSE NEIGHBOUR: 'it returns false'. Refute it at one input. -/
def spanMeetsWrong : ChangeSpec := { name := "spanMeets", fn := fun _ => fun
  | [d] => { results := [.lit (.bool false)], args := [d] }
  | _ => none }
def SpanMeetsWrongFalsely : Prop := spanMeetsRow.holds Try.pinned (OpenSpec.ofChange spanMeetsWrong)

/-- 'kiosklaw8.EtherBytes': WHATEVER THE INPUT: true; the input reads as it did. -/
def etherBytesSpec : ChangeSpec := { name := "etherBytes", fn := fun _ => fun
  | [d] => { results := [.lit (.bool true)], args := [d] }
  | _ => none }
def etherBytesRow : OpenClaim := { program := "ytkcjdigbfcnhbaa", sum := "c9f5170dc3441b1cdbdda6b24333619ae60b55de701b83d3250b29b366ce7d1b", func := "kiosk/kiosklaw8.EtherBytes", spec := "etherBytes", apart := false }
def EtherBytesSaid : Prop := etherBytesRow.holds Try.pinned (OpenSpec.ofChange etherBytesSpec)

/-- ITS FALSE NEIGHBOUR: 'it returns false'. Refute it at one input. -/
def etherBytesWrong : ChangeSpec := { name := "etherBytes", fn := fun _ => fun
  | [d] => { results := [.lit (.bool false)], args := [d] }
  | _ => none }
def EtherBytesWrongFalsely : Prop := etherBytesRow.holds Try.pinned (OpenSpec.ofChange etherBytesWrong)

/-- 'kiosklaw8.EtherBack': WHATEVER THE INPUT: true; the input reads as it did. -/
def etherBackSpec : ChangeSpec := { name := "etherBack", fn := fun _ => fun
  | [d] => { results := [.lit (.bool true)], args := [d] }
  | _ => none }
def etherBackRow : OpenClaim := { program := "ytkcjdigbfcnhbaa", sum := "c9f5170dc3441b1cdbdda6b24333619ae60b55de701b83d3250b29b366ce7d1b", func := "kiosk/kiosklaw8.EtherBack", spec := "etherBack", apart := false }
def EtherBackSaid : Prop := etherBackRow.holds Try.pinned (OpenSpec.ofChange etherBackSpec)

/-- ITS FALSE NEIGHBOUR: 'it returns false'. Refute it at one input. -/
def etherBackWrong : ChangeSpec := { name := "etherBack", fn := fun _ => fun
  | [d] => { results := [.lit (.bool false)], args := [d] }
  | _ => none }
def EtherBackWrongFalsely : Prop := etherBackRow.holds Try.pinned (OpenSpec.ofChange etherBackWrong)

/-- 'kiosklaw15.TimerLonger': WHATEVER THE INPUT: true; the input reads as it did. -/
def timerLongerSpec : ChangeSpec := { name := "timerLonger", fn := fun _ => fun
  | [d] => { results := [.lit (.bool true)], args := [d] }
  | _ => none }
def timerLongerRow : OpenClaim := { program := "ytkcjdigbfcnhbaa", sum := "c9f5170dc3441b1cdbdda6b24333619ae60b55de701b83d3250b29b366ce7d1b", func := "kiosk/kiosklaw15.TimerLonger", spec := "timerLonger", apart := false }
def TimerLongerSaid : Prop := timerLongerRow.holds Try.pinned (OpenSpec.ofChange timerLongerSpec)

/-- ITS FALSE NEIGHBOUR: 'it returns false'. Refute it at one input. -/
def timerLongerWrong : ChangeSpec := { name := "timerLonger", fn := fun _ => fun
  | [d] => { results := [.lit (.bool false)], args := [d] }
  | _ => none }
def TimerLongerWrongFalsely : Prop := timerLongerRow.holds Try.pinned (OpenSpec.ofChange timerLongerWrong)

/-- 'kiosklaw15.TimerExact': WHATEVER THE INPUT: true; the input reads as it did. -/
def timerExactSpec : ChangeSpec := { name := "timerExact", fn := fun _ => fun
  | [d] => { results := [.lit (.bool true)], args := [d] }
  | _ => none }
def timerExactRow : OpenClaim := { program := "ytkcjdigbfcnhbaa", sum := "c9f5170dc3441b1cdbdda6b24333619ae60b55de701b83d3250b29b366ce7d1b", func := "kiosk/kiosklaw15.TimerExact", spec := "timerExact", apart := false }
def TimerExactSaid : Prop := timerExactRow.holds Try.pinned (OpenSpec.ofChange timerExactSpec)

/-- ITS FALSE NEIGHBOUR: 'it returns false'. Refute it at one input. -/
def timerExactWrong : ChangeSpec := { name := "timerExact", fn := fun _ => fun
  | [d] => { results := [.lit (.bool false)], args := [d] }
  | _ => none }
def TimerExactWrongFalsely : Prop := timerExactRow.holds Try.pinned (OpenSpec.ofChange timerExactWrong)

/-- 'kiosklaw12.SpanCommon': WHATEVER THE INPUT: true; the input reads as it did. -/
def spanCommonSpec : ChangeSpec := { name := "spanCommon", fn := fun _ => fun
  | [d] => { results := [.lit (.bool true)], args := [d] }
  | _ => none }
def spanCommonRow : OpenClaim := { program := "ytkcjdigbfcnhbaa", sum := "c9f5170dc3441b1cdbdda6b24333619ae60b55de701b83d3250b29b366ce7d1b", func := "kiosk/kiosklaw12.SpanCommon", spec := "spanCommon", apart := false }
def SpanCommonSaid : Prop := spanCommonRow.holds Try.pinned (OpenSpec.ofChange spanCommonSpec)

/-- ITS FALSE NEIGHBOUR: 'it returns false'. Refute it at one input. -/
def spanCommonWrong : ChangeSpec := { name := "spanCommon", fn := fun _ => fun
  | [d] => { results := [.lit (.bool false)], args := [d] }
  | _ => none }
def SpanCommonWrongFalsely : Prop := spanCommonRow.holds Try.pinned (OpenSpec.ofChange spanCommonWrong)

/-- 'kiosklaw12.SpanRound': WHATEVER THE INPUT: true; the input reads as it did. -/
def spanRoundSpec : ChangeSpec := { name := "spanRound", fn := fun _ => fun
  | [d] => { results := [.lit (.bool true)], args := [d] }
  | _ => none }
def spanRoundRow : OpenClaim := { program := "ytkcjdigbfcnhbaa", sum := "c9f5170dc3441b1cdbdda6b24333619ae60b55de701b83d3250b29b366ce7d1b", func := "kiosk/kiosklaw12.SpanRound", spec := "spanRound", apart := false }
def SpanRoundSaid : Prop := spanRoundRow.holds Try.pinned (OpenSpec.ofChange spanRoundSpec)

/-- ITS FALSE NEIGHBOUR: 'it returns false'. Refute it at one input. -/
def spanRoundWrong : ChangeSpec := { name := "spanRound", fn := fun _ => fun
  | [d] => { results := [.lit (.bool false)], args := [d] }
  | _ => none }
def SpanRoundWrongFalsely : Prop := spanRoundRow.holds Try.pinned (OpenSpec.ofChange spanRoundWrong)

/- THE SECOND FORM. 'bulk': how many values and letters a reading holds, each counted each time it is reached (what is shared counts as often as it is met; a slice's spare places count too). A statement '..UptoSaid' is the law's where the arguments, and the package variables that the reading takes, are together of bulk at most 1048576: NARROWER than '..Said'. Prove '..Said' where nothing that the law and all that it calls make is longer than what came in: it says more and counts as full. Else prove '..UptoSaid'. A law counts once. -/
mutual
def uptoBulk {H : Type} : DataW H → Nat
  | .lit (.string bytes) => bytes.length + 1
  | .lit _ => 1
  | .nil => 1
  | .ptr d => uptoBulk d + 1
  | .slice elems spare => uptoBulkAll elems + uptoBulkAll spare + 1
  | .agg parts => uptoBulkAll parts + 1
  | .iface _ d => uptoBulk d + 1
  | .map entries => uptoBulkEntries entries + 1
  | .held _ => 1
def uptoBulkAll {H : Type} : List (DataW H) → Nat
  | [] => 0
  | d :: r => uptoBulk d + uptoBulkAll r
def uptoBulkEntries {H : Type} : List (Lit × DataW H) → Nat
  | [] => 0
  | x :: r => uptoBulkEntry x + uptoBulkEntries r
def uptoBulkEntry {H : Type} : Lit × DataW H → Nat
  | (.string bytes, d) => bytes.length + uptoBulk d + 1
  | (_, d) => uptoBulk d + 1
 end
def uptoSmall : (H : Type) → List (DataW H) → Bool := fun _ ds => decide (uptoBulkAll ds ≤ 1048576)
def OpenSpec.upto (s : _root_.Go.ChangeSpec) : _root_.Go.OpenSpec := { _root_.Go.OpenSpec.ofChange s with cond := some uptoSmall }

/-- 'kiosklaw12.SpanNumbers', WHERE WHAT IT READS IS OF BULK AT MOST 1048576: true; the input reads as it did. -/
def spanNumbersUptoRow : OpenClaim := { program := "ytkcjdigbfcnhbaa", sum := "c9f5170dc3441b1cdbdda6b24333619ae60b55de701b83d3250b29b366ce7d1b", func := "kiosk/kiosklaw12.SpanNumbers", spec := "spanNumbers", apart := false, narrowed := true }
def SpanNumbersUptoSaid : Prop := spanNumbersUptoRow.holds Try.pinned (OpenSpec.upto spanNumbersSpec)

/-- 'kiosklaw8.EtherParses', WHERE WHAT IT READS IS OF BULK AT MOST 1048576: true; the input reads as it did. -/
def etherParsesUptoRow : OpenClaim := { program := "ytkcjdigbfcnhbaa", sum := "c9f5170dc3441b1cdbdda6b24333619ae60b55de701b83d3250b29b366ce7d1b", func := "kiosk/kiosklaw8.EtherParses", spec := "etherParses", apart := false, narrowed := true }
def EtherParsesUptoSaid : Prop := etherParsesUptoRow.holds Try.pinned (OpenSpec.upto etherParsesSpec)

/-- 'kiosklaw12.SpanParts', WHERE WHAT IT READS IS OF BULK AT MOST 1048576: true; the input reads as it did. -/
def spanPartsUptoRow : OpenClaim := { program := "ytkcjdigbfcnhbaa", sum := "c9f5170dc3441b1cdbdda6b24333619ae60b55de701b83d3250b29b366ce7d1b", func := "kiosk/kiosklaw12.SpanParts", spec := "spanParts", apart := false, narrowed := true }
def SpanPartsUptoSaid : Prop := spanPartsUptoRow.holds Try.pinned (OpenSpec.upto spanPartsSpec)

/-- 'kiosklaw12.SpanHas', WHERE WHAT IT READS IS OF BULK AT MOST 1048576: true; the input reads as it did. -/
def spanHasUptoRow : OpenClaim := { program := "ytkcjdigbfcnhbaa", sum := "c9f5170dc3441b1cdbdda6b24333619ae60b55de701b83d3250b29b366ce7d1b", func := "kiosk/kiosklaw12.SpanHas", spec := "spanHas", apart := false, narrowed := true }
def SpanHasUptoSaid : Prop := spanHasUptoRow.holds Try.pinned (OpenSpec.upto spanHasSpec)

/-- 'kiosklaw12.SpanMeets', WHERE WHAT IT READS IS OF BULK AT MOST 1048576: true; the input reads as it did. -/
def spanMeetsUptoRow : OpenClaim := { program := "ytkcjdigbfcnhbaa", sum := "c9f5170dc3441b1cdbdda6b24333619ae60b55de701b83d3250b29b366ce7d1b", func := "kiosk/kiosklaw12.SpanMeets", spec := "spanMeets", apart := false, narrowed := true }
def SpanMeetsUptoSaid : Prop := spanMeetsUptoRow.holds Try.pinned (OpenSpec.upto spanMeetsSpec)

/-- 'kiosklaw8.EtherBytes', WHERE WHAT IT READS IS OF BULK AT MOST 1048576: true; the input reads as it did. -/
def etherBytesUptoRow : OpenClaim := { program := "ytkcjdigbfcnhbaa", sum := "c9f5170dc3441b1cdbdda6b24333619ae60b55de701b83d3250b29b366ce7d1b", func := "kiosk/kiosklaw8.EtherBytes", spec := "etherBytes", apart := false, narrowed := true }
def EtherBytesUptoSaid : Prop := etherBytesUptoRow.holds Try.pinned (OpenSpec.upto etherBytesSpec)

/-- 'kiosklaw8.EtherBack', WHERE WHAT IT READS IS OF BULK AT MOST 1048576: true; the input reads as it did. -/
def etherBackUptoRow : OpenClaim := { program := "ytkcjdigbfcnhbaa", sum := "c9f5170dc3441b1cdbdda6b24333619ae60b55de701b83d3250b29b366ce7d1b", func := "kiosk/kiosklaw8.EtherBack", spec := "etherBack", apart := false, narrowed := true }
def EtherBackUptoSaid : Prop := etherBackUptoRow.holds Try.pinned (OpenSpec.upto etherBackSpec)

/-- 'kiosklaw15.TimerLonger', WHERE WHAT IT READS IS OF BULK AT MOST 1048576: true; the input reads as it did. -/
def timerLongerUptoRow : OpenClaim := { program := "ytkcjdigbfcnhbaa", sum := "c9f5170dc3441b1cdbdda6b24333619ae60b55de701b83d3250b29b366ce7d1b", func := "kiosk/kiosklaw15.TimerLonger", spec := "timerLonger", apart := false, narrowed := true }
def TimerLongerUptoSaid : Prop := timerLongerUptoRow.holds Try.pinned (OpenSpec.upto timerLongerSpec)

/-- 'kiosklaw15.TimerExact', WHERE WHAT IT READS IS OF BULK AT MOST 1048576: true; the input reads as it did. -/
def timerExactUptoRow : OpenClaim := { program := "ytkcjdigbfcnhbaa", sum := "c9f5170dc3441b1cdbdda6b24333619ae60b55de701b83d3250b29b366ce7d1b", func := "kiosk/kiosklaw15.TimerExact", spec := "timerExact", apart := false, narrowed := true }
def TimerExactUptoSaid : Prop := timerExactUptoRow.holds Try.pinned (OpenSpec.upto timerExactSpec)

/-- 'kiosklaw12.SpanCommon', WHERE WHAT IT READS IS OF BULK AT MOST 1048576: true; the input reads as it did. -/
def spanCommonUptoRow : OpenClaim := { program := "ytkcjdigbfcnhbaa", sum := "c9f5170dc3441b1cdbdda6b24333619ae60b55de701b83d3250b29b366ce7d1b", func := "kiosk/kiosklaw12.SpanCommon", spec := "spanCommon", apart := false, narrowed := true }
def SpanCommonUptoSaid : Prop := spanCommonUptoRow.holds Try.pinned (OpenSpec.upto spanCommonSpec)

/-- 'kiosklaw12.SpanRound', WHERE WHAT IT READS IS OF BULK AT MOST 1048576: true; the input reads as it did. -/
def spanRoundUptoRow : OpenClaim := { program := "ytkcjdigbfcnhbaa", sum := "c9f5170dc3441b1cdbdda6b24333619ae60b55de701b83d3250b29b366ce7d1b", func := "kiosk/kiosklaw12.SpanRound", spec := "spanRound", apart := false, narrowed := true }
def SpanRoundUptoSaid : Prop := spanRoundUptoRow.holds Try.pinned (OpenSpec.upto spanRoundSpec)

end Rows
end Go.Proofs.Ytkcjdigbfcnhbaa

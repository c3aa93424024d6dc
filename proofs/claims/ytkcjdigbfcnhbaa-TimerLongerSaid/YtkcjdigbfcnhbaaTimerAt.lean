/- A timer in a block of its own: its cells, what becomes of them when it is written over. No condition. -/
import Derived.Test.YtkcjdigbfcnhbaaTimer2
namespace Go.Proofs.Ytkcjdigbfcnhbaa
open Go.RowKit
set_option linter.unusedVariables false

structure TmIs (w : World) (b : Nat) (on : Bool) (l wt tr : Int) : Prop where
  c0 : w.cell? ⟨b, 0, none⟩ = some (.bool on)
  c1 : w.cell? ⟨b, 1, none⟩ = some (.int .i64 l)
  c2 : w.cell? ⟨b, 2, none⟩ = some (.int .i64 wt)
  c3 : w.cell? ⟨b, 3, none⟩ = some (.int .i64 tr)
  f0 : w.frozen? ⟨b, 0, none⟩ = false
  f1 : w.frozen? ⟨b, 1, none⟩ = false
  f2 : w.frozen? ⟨b, 2, none⟩ = false
  f3 : w.frozen? ⟨b, 3, none⟩ = false

theorem TmIs.lt {w : World} {b : Nat} {on : Bool} {l wt tr : Int} (h : TmIs w b on l wt tr) : b < w.heap.size := World.block_lt_of_cell? w _ h.c0

theorem TmIs.at {w w1 : World} {b : Nat} {on : Bool} {l wt tr : Int} (h : TmIs w b on l wt tr) (hB : Below w.heap.size w w1) : TmIs w1 b on l wt tr :=
  ⟨(hB.cell h.lt).trans h.c0, (hB.cell h.lt).trans h.c1, (hB.cell h.lt).trans h.c2, (hB.cell h.lt).trans h.c3, (hB.frozen h.lt).trans h.f0, (hB.frozen h.lt).trans h.f1, (hB.frozen h.lt).trans h.f2, (hB.frozen h.lt).trans h.f3⟩

theorem TmIs.new (w : World) (on : Bool) (l wt tr : Int) (t : TypeId) : TmIs (w.alloc (.cells #[.bool on, .int .i64 l, .int .i64 wt, .int .i64 tr] t)) w.heap.size on l wt tr := by
  constructor <;> simp [go_sem]

theorem TmIs.alloc {w : World} {b : Nat} {on : Bool} {l wt tr : Int} (h : TmIs w b on l wt tr) (o : Obj) : TmIs (w.alloc o) b on l wt tr := h.at ((Below.refl _ _).alloc (Nat.le_refl _) _)

theorem TmIs.store {w : World} {b : Nat} {on : Bool} {l wt tr : Int} (h : TmIs w b on l wt tr) (on' : Bool) (l' wt' tr' : Int) :
    TmIs ((((w.setCell ⟨b, 0, none⟩ (.bool on')).setCell ⟨b, 1, none⟩ (.int .i64 l')).setCell ⟨b, 2, none⟩ (.int .i64 wt')).setCell ⟨b, 3, none⟩ (.int .i64 tr')) b on' l' wt' tr' := by
  obtain ⟨h0, h1, h2, h3, h4, h5, h6, h7⟩ := h
  constructor <;> simp [go_sem, *]
end Go.Proofs.Ytkcjdigbfcnhbaa

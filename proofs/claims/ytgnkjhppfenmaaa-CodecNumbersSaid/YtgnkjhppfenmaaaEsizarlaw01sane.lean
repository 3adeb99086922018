/- sane's contract. -/
import Derived.Test.YtgnkjhppfenmaaaSane
namespace Go.Proofs.Ytgnkjhppfenmaaa.Q
open Go.RowKit Go.Proofs.YtgnkjhppfenmaaaW.PrintWords Go.Proofs.YtgnkjhppfenmaaaW.PrintLast Go.Proofs.YtgnkjhppfenmaaaW.PrintMore
def sizarlaw01_sane.f : Option (Bool) := some true
theorem sizarlaw01_sane.calls (r : Bool) (w : World) (h : sizarlaw01_sane.f = some r) :
    Calls Try.prog 6 #[] w fun e w' => e = .returned (.bool r) ∧ Below w.heap.size w w' := by
  cases h
  exact sane_says w
end Go.Proofs.Ytgnkjhppfenmaaa.Q

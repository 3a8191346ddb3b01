/- The one operation that may come up is taken. -/
import Derived.Test.YtidpmlifodpjlaaSumU
namespace Go.Proofs.Ytidpmlifodpjlaa.Sm
open Go.RowKit
set_option linter.unusedVariables false
theorem take_only {ops : Array Oper} {Q : Exit → Act → World → Prop} {md : Region.Mode} {i : Nat} {oi : Oper} {fuel : Nat} {listed : Array Bool} {a : Act} {w : World} (w' : World) (hi : ops[i]? = some oi) (hd : oi.dst = none)
    (hr : Region.ready md ops listed = [i]) (hw : Region.wanted oi (yielded ops a.tmps) = true) (hy : (execOp a.eval oi).run Try.prog w = .ok .skip w')
    (h : wpAny Try.prog md ops Q fuel (listed.setIfInBounds i true) a w') : wpAny Try.prog md ops Q (fuel + 1) listed a w := by
  refine ⟨fun h0 => (by rw [hr] at h0; cases h0), fun j hj => ?_⟩
  rw [hr] at hj
  obtain rfl : j = i := by simpa using hj
  unfold wpOp
  rw [hi]
  simp only [hw, if_true]
  left
  unfold Oper.wp
  rw [hy]
  simp only [Oper.upon, hd]
  exact h
theorem gw_set {w W : World} (h : Gw w W) (p : Addr) (hp : w.heap.size ≤ p.block) (v : Value) : Gw w (W.setCell p v) := Below.setCell h hp _
end Go.Proofs.Ytidpmlifodpjlaa.Sm

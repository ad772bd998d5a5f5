/- What the law of ValidHand asks. -/
import Derived.Test.YtafihplbchofoaaHand
namespace Go.Proofs.Ytafihplbchofoaa
open Go.ChangeShapes Go.WideShapes Go.ChangeAt Go.RowKit Go.Dt
set_option linter.unusedVariables false
set_option linter.unusedSimpArgs false
theorem Draft.texts {l : List Draft} (hz : Draft.zs l ≤ 1048576) : (∀ d ∈ l, d.xText.size ≤ maxLen) ∧ l.length ≤ 1048576 := by
  have h4 : Draft.zs l = l.length + (l.map fun y => Draft.z y).sum := rfl
  refine ⟨fun d hd => ?_, by omega⟩
  have h := mem_sum Draft.z hd
  have h2 : Draft.z d = d.xText.size := rfl
  have h5 : (l.map fun y => Draft.z y) = l.map Draft.z := rfl
  rw [h5] at h4
  simp only [maxLen]
  omega
theorem Hand.fit_of {x : Hand} (hz : Hand.z x ≤ 1048576) : x.fit := by
  have h : Hand.z x = Log.z x.xFrom + Log.z x.xTo + Draft.zs x.xWaiting := rfl
  have a := Log.long (x := x.xFrom)
  have b := Log.long (x := x.xTo)
  exact ⟨Log.texts (by omega), Log.texts (by omega), (Draft.texts (by omega)).1, by omega, by omega, (Draft.texts (by omega)).2⟩
def ValidHand_f (x : Hand) : Bool := x.ok
theorem ValidHand_lawI (x : Hand) (us : List Value) (W : World) (hr : RoL W (Lo W.heap.size) (Hand.d true x) us) (hz : Hand.z x ≤ 1048576) : Calls Try.prog 20 #[.agg us.toArray] W fun e w' => e = .returned (.bool (ValidHand_f x)) ∧ Below W.heap.size W w' :=
  impl_ValidHand x us W hr (Hand.fit_of hz)
end Go.Proofs.Ytafihplbchofoaa

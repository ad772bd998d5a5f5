/- What the law of ValidHand asks. -/
import Derived.Test.YtmofbfeclecdoaaHand
namespace Go.Proofs.Ytmofbfeclecdoaa
open Go.ChangeShapes Go.WideShapes Go.ChangeAt Go.RowKit Go.Dt
set_option linter.unusedVariables false
set_option linter.unusedSimpArgs false
theorem Draft.texts {l : List Draft} (hz : Draft.zs l ≤ 1048576) : (∀ d ∈ l, d.xText.size ≤ maxLen) ∧ l.length ≤ 1048576 := by
  have h4 : Draft.zs l = l.length + (l.map fun y => Draft.z y).sum := rfl
  refine ⟨fun d hd => ?_, by omega⟩
  have h := mem_sum Draft.z hd
  have h2 : Draft.z d = d.xText.size := rfl
  have h5 : (l.map fun y => Draft.z y) = l.map Draft.z := rfl
  rw [h5] at h4
  simp only [maxLen]
  omega
theorem Hand.fit_of {x : Hand} (hz : Hand.z x ≤ 1048576) : x.fit := by
  have h : Hand.z x = Log.z x.xFrom + Log.z x.xTo + Draft.zs x.xWaiting := rfl
  have a := Log.long (x := x.xFrom)
  have b := Log.long (x := x.xTo)
  exact ⟨Log.texts (by omega), Log.texts (by omega), (Draft.texts (by omega)).1, by omega, by omega, (Draft.texts (by omega)).2⟩
set_option maxRecDepth 100000 in
theorem spec_ValidHand (x : Hand) (us : List Value) (W : World) (hr : RoL W (Lo W.heap.size) (Hand.d true x) us) (hf : x.fit) :
    Calls Try.prog 65 #[.agg us.toArray] W fun e w' => e = .returned (.bool x.ok) ∧ Below W.heap.size W w' := by
  obtain ⟨A2, c2, A4, c4, A5, c5, rfl, r2, l2, m2, r4, l4, m4, r5, l5, m5⟩ := Hand.cells hr
  have hb1 : Below W.heap.size W (W.alloc (.cells #[.int .i64 x.xStage, .int .i64 x.xFrom.xNext, .slice A2 x.xFrom.xMessages.length c2, .int .i64 x.xTo.xNext, .slice A4 x.xTo.xMessages.length c4, .slice A5 x.xWaiting.length c5] 78)) := (Below.refl _ _).alloc (Nat.le_refl _) _
  have xb := Bx.new W #[.int .i64 x.xStage, .int .i64 x.xFrom.xNext, .slice A2 x.xFrom.xMessages.length c2, .int .i64 x.xTo.xNext, .slice A4 x.xTo.xMessages.length c4, .slice A5 x.xWaiting.length c5] 78
  have HI := spec_l10Is x W.heap.size 0 A2 A4 A5 c2 c4 c5 _ (xb.cell 0 rfl) (xb.cell 1 rfl) (xb.cell 2 rfl) (xb.cell 3 rfl) (xb.cell 4 rfl) (xb.cell 5 rfl) (ro_to r2 hb1) (ro_to r4 hb1) (ro_to r5 hb1) hf
  have HB := Lib.hid hb1
  clear hr r2 r4 r5 l2 m2 l4 m4 l5 m5 hf hb1 xb
  generalize x.ok = o at *
  go_enter Try.func65, Try.ntmps65
  go_wp2_with fail
  refine HI.mono ?_
  rintro e w1 ⟨rfl, hb⟩
  go_wp2
  go_ret
  exact ⟨rfl, HB.out.trans (hb.mono (by simp))⟩
def ValidHand_f (x : Hand) : Bool := x.ok
theorem ValidHand_lawS (x : Hand) (us : List Value) (W : World) (hr : RoL W (Lo W.heap.size) (Hand.d true x) us) (hz : Hand.z x ≤ 1048576) : Calls Try.prog 65 #[.agg us.toArray] W fun e w' => e = .returned (.bool (ValidHand_f x)) ∧ Below W.heap.size W w' :=
  spec_ValidHand x us W hr (Hand.fit_of hz)
theorem ValidHand_lawI (x : Hand) (us : List Value) (W : World) (hr : RoL W (Lo W.heap.size) (Hand.d true x) us) (hz : Hand.z x ≤ 1048576) : Calls Try.prog 60 #[.agg us.toArray] W fun e w' => e = .returned (.bool (ValidHand_f x)) ∧ Below W.heap.size W w' :=
  impl_ValidHand x us W hr (Hand.fit_of hz)
end Go.Proofs.Ytmofbfeclecdoaa

/- The walk of FnExactScoreOf. -/
import Derived.Test.YtmofbfeclecdoaaDoorScore
import Derived.Test.YtmofbfeclecdoaaDoorLaw
import Derived.StillTailTactics
namespace Go.Proofs.YtmofbfeclecdoaaDoor
open Go.ChangeShapes Go.WideShapes Go.ChangeAt Go.RowKit Go.Dt
set_option linter.unusedVariables false
set_option linter.unusedSimpArgs false

namespace FnExactScoreOf
set_option maxHeartbeats 1600000 in
set_option maxRecDepth 100000 in
theorem walk (W : World) (ht : Pow10 W) (a0 : Int) (wf0 : (Lit.int .i64 a0).wf = true) (a1 : Int) (wf1 : (Lit.int .i64 a1).wf = true) :
    Calls Tryd.prog 3 #[.int .i64 a0, .int .i64 a1] W fun e w' => e = .returned (.bool true) ∧ Below W.heap.size W w' := by
  have HS := ScoreOf_lawS a0 a1
  have HI := ScoreOf_lawI a0 a1
  generalize ScoreOf_f a0 a1 = r at *
  obtain ⟨r0, r1⟩ := r
  simp only at *
  have hB := Below.refl W.heap.size W
  go_enter Tryd.func3, Tryd.ntmps3
  go_wp2_with fail
  refine (HS  W ).mono ?_
  rintro e w0 ⟨rfl, hb0⟩
  have hk0 := Kp.of_below0 hb0
  replace hB := hB.trans (hk0.below hB.size (fun _ h => h.elim))
  have hs0 := hk0.size_le
  go_wp2_with fail
  refine (HI  w0 (ht.on hB) ).mono ?_
  rintro e w1 ⟨rfl, hb1⟩
  have hk1 := Kp.of_below0 hb1
  replace hB := hB.trans (hk1.below hB.size (fun _ h => h.elim))
  have hs1 := hk1.size_le
  go_wp2
  go_ret
  exact ⟨rfl, hB⟩
end FnExactScoreOf
end Go.Proofs.YtmofbfeclecdoaaDoor

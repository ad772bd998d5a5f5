/- The walk of FnExactCopyHand. -/
import Derived.Test.YtmofbfeclecdoaaScp
import Derived.Test.YtmofbfeclecdoaaYHand
import Derived.Test.YtmofbfeclecdoaaLaw
import Derived.StillTailTactics
namespace Go.Proofs.Ytmofbfeclecdoaa
open Go.ChangeShapes Go.WideShapes Go.ChangeAt Go.RowKit Go.Dt
set_option linter.unusedVariables false
set_option linter.unusedSimpArgs false

namespace FnExactCopyHand
set_option maxHeartbeats 1600000 in
set_option maxRecDepth 100000 in
theorem walk (W : World) (u0 : Array Value) (e0 : List D) (t0 : IsL [.int .i64, .int .i64, .sl 192 8 [.int .i64, .int .i64, .int .i64, .str, .int .i64, .bool, .int .i64, .sl 2 1 [.int .i64]], .int .i64, .sl 192 8 [.int .i64, .int .i64, .int .i64, .str, .int .i64, .bool, .int .i64, .sl 2 1 [.int .i64]], .sl 104 3 [.int .i64, .int .i64, .str]] e0) (x0 : RoL W (Lo W.heap.size) e0 u0.toList) (a1 : Int) (wf1 : (Lit.int .i64 a1).wf = true) :
    Calls Try.prog 17 #[.agg u0, .int .i64 a1] W fun e w' => e = .returned (.bool true) ∧ Below W.heap.size W w' := by
  obtain ⟨y0, rfl, w0⟩ := Hand.is t0
  obtain ⟨us0, rfl⟩ : ∃ us : List Value, u0 = us.toArray := ⟨u0.toList, by simp⟩
  simp only [List.toList_toArray] at x0
  obtain ⟨Ap0_2, cp0_2, Ap0_4, cp0_4, Ap0_5, cp0_5, rfl, -⟩ := Hand.cells x0
  by_cases hs_0 : Hand.z y0 ≤ 1048576
  rotate_left
  · have hB := Below.refl W.heap.size W
    go_enter Try.func17, Try.ntmps17
    have ha0 := Kp.alloc0 W (.cells #[.int .i64 y0.xStage, .int .i64 y0.xFrom.xNext, .slice Ap0_2 y0.xFrom.xMessages.length cp0_2, .int .i64 y0.xTo.xNext, .slice Ap0_4 y0.xTo.xMessages.length cp0_4, .slice Ap0_5 y0.xWaiting.length cp0_5] 97)
    have hx0 : W.heap.size < (W.alloc (.cells #[.int .i64 y0.xStage, .int .i64 y0.xFrom.xNext, .slice Ap0_2 y0.xFrom.xMessages.length cp0_2, .int .i64 y0.xTo.xNext, .slice Ap0_4 y0.xTo.xMessages.length cp0_4, .slice Ap0_5 y0.xWaiting.length cp0_5] 97)).heap.size := by simp
    replace hB := hB.trans (ha0.below hB.size (fun _ h => h.elim))
    have hs0 := ha0.size_le
    have bx0_0 := bx_new W #[.int .i64 y0.xStage, .int .i64 y0.xFrom.xNext, .slice Ap0_2 y0.xFrom.xMessages.length cp0_2, .int .i64 y0.xTo.xNext, .slice Ap0_4 y0.xTo.xMessages.length cp0_4, .slice Ap0_5 y0.xWaiting.length cp0_5] 97 0 (.int .i64 y0.xStage) rfl
    have bx0_1 := bx_new W #[.int .i64 y0.xStage, .int .i64 y0.xFrom.xNext, .slice Ap0_2 y0.xFrom.xMessages.length cp0_2, .int .i64 y0.xTo.xNext, .slice Ap0_4 y0.xTo.xMessages.length cp0_4, .slice Ap0_5 y0.xWaiting.length cp0_5] 97 1 (.int .i64 y0.xFrom.xNext) rfl
    have bx0_2 := bx_new W #[.int .i64 y0.xStage, .int .i64 y0.xFrom.xNext, .slice Ap0_2 y0.xFrom.xMessages.length cp0_2, .int .i64 y0.xTo.xNext, .slice Ap0_4 y0.xTo.xMessages.length cp0_4, .slice Ap0_5 y0.xWaiting.length cp0_5] 97 2 (.slice Ap0_2 y0.xFrom.xMessages.length cp0_2) rfl
    have bx0_3 := bx_new W #[.int .i64 y0.xStage, .int .i64 y0.xFrom.xNext, .slice Ap0_2 y0.xFrom.xMessages.length cp0_2, .int .i64 y0.xTo.xNext, .slice Ap0_4 y0.xTo.xMessages.length cp0_4, .slice Ap0_5 y0.xWaiting.length cp0_5] 97 3 (.int .i64 y0.xTo.xNext) rfl
    have bx0_4 := bx_new W #[.int .i64 y0.xStage, .int .i64 y0.xFrom.xNext, .slice Ap0_2 y0.xFrom.xMessages.length cp0_2, .int .i64 y0.xTo.xNext, .slice Ap0_4 y0.xTo.xMessages.length cp0_4, .slice Ap0_5 y0.xWaiting.length cp0_5] 97 4 (.slice Ap0_4 y0.xTo.xMessages.length cp0_4) rfl
    have bx0_5 := bx_new W #[.int .i64 y0.xStage, .int .i64 y0.xFrom.xNext, .slice Ap0_2 y0.xFrom.xMessages.length cp0_2, .int .i64 y0.xTo.xNext, .slice Ap0_4 y0.xTo.xMessages.length cp0_4, .slice Ap0_5 y0.xWaiting.length cp0_5] 97 5 (.slice Ap0_5 y0.xWaiting.length cp0_5) rfl
    have HZ0 := laws_szHand y0 _ (1048576) (W.alloc (.cells #[.int .i64 y0.xStage, .int .i64 y0.xFrom.xNext, .slice Ap0_2 y0.xFrom.xMessages.length cp0_2, .int .i64 y0.xTo.xNext, .slice Ap0_4 y0.xTo.xMessages.length cp0_4, .slice Ap0_5 y0.xWaiting.length cp0_5] 97)) (rol_to x0 hB) w0 (by omega) (by omega)
    rw [szr_no (by push_cast at *; omega)] at HZ0
    go_wp2_with fail
    refine (HZ0).mono ?_
    rintro e w0 ⟨rfl, hb0⟩
    have hk0 := Kp.of_below0 hb0
    replace bx0_0 := bx_keep bx0_0 hk0 (by omega) (fun h => h)
    replace bx0_1 := bx_keep bx0_1 hk0 (by omega) (fun h => h)
    replace bx0_2 := bx_keep bx0_2 hk0 (by omega) (fun h => h)
    replace bx0_3 := bx_keep bx0_3 hk0 (by omega) (fun h => h)
    replace bx0_4 := bx_keep bx0_4 hk0 (by omega) (fun h => h)
    replace bx0_5 := bx_keep bx0_5 hk0 (by omega) (fun h => h)
    replace hB := hB.trans (hk0.below hB.size (fun _ h => h.elim))
    have hs1 := hk0.size_le
    go_wp2
    go_ret
    exact ⟨rfl, hB⟩
  have hz0 : Hand.z y0 ≤ 1048576 := by omega
  have HT_aH := fun (w : World) (hb : Below W.heap.size W w) => laws_toHand y0 _ w (rol_to x0 hb) hz0
  have HS := CopyHand_lawS y0 a1
  have HI := CopyHand_lawI y0 a1
  have HN := CopyHand_lawN y0 a1 hz0
  generalize CopyHand_f y0 a1 = r at *
  obtain ⟨r0, r1⟩ := r
  simp only at *
  have hsn0 := HN
  have hB := Below.refl W.heap.size W
  go_enter Try.func17, Try.ntmps17
  have ha2 := Kp.alloc0 W (.cells #[.int .i64 y0.xStage, .int .i64 y0.xFrom.xNext, .slice Ap0_2 y0.xFrom.xMessages.length cp0_2, .int .i64 y0.xTo.xNext, .slice Ap0_4 y0.xTo.xMessages.length cp0_4, .slice Ap0_5 y0.xWaiting.length cp0_5] 97)
  have hx2 : W.heap.size < (W.alloc (.cells #[.int .i64 y0.xStage, .int .i64 y0.xFrom.xNext, .slice Ap0_2 y0.xFrom.xMessages.length cp0_2, .int .i64 y0.xTo.xNext, .slice Ap0_4 y0.xTo.xMessages.length cp0_4, .slice Ap0_5 y0.xWaiting.length cp0_5] 97)).heap.size := by simp
  replace hB := hB.trans (ha2.below hB.size (fun _ h => h.elim))
  have hs2 := ha2.size_le
  have bx0_0 := bx_new W #[.int .i64 y0.xStage, .int .i64 y0.xFrom.xNext, .slice Ap0_2 y0.xFrom.xMessages.length cp0_2, .int .i64 y0.xTo.xNext, .slice Ap0_4 y0.xTo.xMessages.length cp0_4, .slice Ap0_5 y0.xWaiting.length cp0_5] 97 0 (.int .i64 y0.xStage) rfl
  have bx0_1 := bx_new W #[.int .i64 y0.xStage, .int .i64 y0.xFrom.xNext, .slice Ap0_2 y0.xFrom.xMessages.length cp0_2, .int .i64 y0.xTo.xNext, .slice Ap0_4 y0.xTo.xMessages.length cp0_4, .slice Ap0_5 y0.xWaiting.length cp0_5] 97 1 (.int .i64 y0.xFrom.xNext) rfl
  have bx0_2 := bx_new W #[.int .i64 y0.xStage, .int .i64 y0.xFrom.xNext, .slice Ap0_2 y0.xFrom.xMessages.length cp0_2, .int .i64 y0.xTo.xNext, .slice Ap0_4 y0.xTo.xMessages.length cp0_4, .slice Ap0_5 y0.xWaiting.length cp0_5] 97 2 (.slice Ap0_2 y0.xFrom.xMessages.length cp0_2) rfl
  have bx0_3 := bx_new W #[.int .i64 y0.xStage, .int .i64 y0.xFrom.xNext, .slice Ap0_2 y0.xFrom.xMessages.length cp0_2, .int .i64 y0.xTo.xNext, .slice Ap0_4 y0.xTo.xMessages.length cp0_4, .slice Ap0_5 y0.xWaiting.length cp0_5] 97 3 (.int .i64 y0.xTo.xNext) rfl
  have bx0_4 := bx_new W #[.int .i64 y0.xStage, .int .i64 y0.xFrom.xNext, .slice Ap0_2 y0.xFrom.xMessages.length cp0_2, .int .i64 y0.xTo.xNext, .slice Ap0_4 y0.xTo.xMessages.length cp0_4, .slice Ap0_5 y0.xWaiting.length cp0_5] 97 4 (.slice Ap0_4 y0.xTo.xMessages.length cp0_4) rfl
  have bx0_5 := bx_new W #[.int .i64 y0.xStage, .int .i64 y0.xFrom.xNext, .slice Ap0_2 y0.xFrom.xMessages.length cp0_2, .int .i64 y0.xTo.xNext, .slice Ap0_4 y0.xTo.xMessages.length cp0_4, .slice Ap0_5 y0.xWaiting.length cp0_5] 97 5 (.slice Ap0_5 y0.xWaiting.length cp0_5) rfl
  have HZ0 := laws_szHand y0 _ (1048576) (W.alloc (.cells #[.int .i64 y0.xStage, .int .i64 y0.xFrom.xNext, .slice Ap0_2 y0.xFrom.xMessages.length cp0_2, .int .i64 y0.xTo.xNext, .slice Ap0_4 y0.xTo.xMessages.length cp0_4, .slice Ap0_5 y0.xWaiting.length cp0_5] 97)) (rol_to x0 hB) w0 (by omega) (by omega)
  rw [szr_yes (by push_cast at *; omega)] at HZ0
  go_wp2_with fail
  refine (HZ0).mono ?_
  rintro e w0 ⟨rfl, hb0⟩
  have hk0 := Kp.of_below0 hb0
  replace bx0_0 := bx_keep bx0_0 hk0 (by omega) (fun h => h)
  replace bx0_1 := bx_keep bx0_1 hk0 (by omega) (fun h => h)
  replace bx0_2 := bx_keep bx0_2 hk0 (by omega) (fun h => h)
  replace bx0_3 := bx_keep bx0_3 hk0 (by omega) (fun h => h)
  replace bx0_4 := bx_keep bx0_4 hk0 (by omega) (fun h => h)
  replace bx0_5 := bx_keep bx0_5 hk0 (by omega) (fun h => h)
  replace hB := hB.trans (hk0.below hB.size (fun _ h => h.elim))
  have hs3 := hk0.size_le
  go_wp2_with fail
  refine (HT_aH w0 hB).mono ?_
  rintro e w1 ⟨us1, F1, rfl, hO1, hb1, hlo1⟩
  have hk1 := Kp.of_below0 hb1
  replace bx0_0 := bx_keep bx0_0 hk1 (by omega) (fun h => h)
  replace bx0_1 := bx_keep bx0_1 hk1 (by omega) (fun h => h)
  replace bx0_2 := bx_keep bx0_2 hk1 (by omega) (fun h => h)
  replace bx0_3 := bx_keep bx0_3 hk1 (by omega) (fun h => h)
  replace bx0_4 := bx_keep bx0_4 hk1 (by omega) (fun h => h)
  replace bx0_5 := bx_keep bx0_5 hk1 (by omega) (fun h => h)
  replace hB := hB.trans (hk1.below hB.size (fun _ h => h.elim))
  have hs4 := hk1.size_le
  obtain ⟨Ao1_2, co1_2, Ao1_4, co1_4, Ao1_5, co1_5, rfl, -⟩ := Hand.cells hO1.ro
  have hhi1 : ∀ b, F1 b → b < w1.heap.size := hO1.lt
  go_wp2_with fail
  refine (HS _ w1 hO1.lo hz0).mono ?_
  rintro e w2 ⟨us2_0, rfl, hO2_0, hb2⟩
  have hk2 := Kp.of_below0 hb2
  replace bx0_0 := bx_keep bx0_0 hk2 (by omega) (fun h => h)
  replace bx0_1 := bx_keep bx0_1 hk2 (by omega) (fun h => h)
  replace bx0_2 := bx_keep bx0_2 hk2 (by omega) (fun h => h)
  replace bx0_3 := bx_keep bx0_3 hk2 (by omega) (fun h => h)
  replace bx0_4 := bx_keep bx0_4 hk2 (by omega) (fun h => h)
  replace bx0_5 := bx_keep bx0_5 hk2 (by omega) (fun h => h)
  replace hO1 := hO1.kp hk2 (fun _ _ h => h)
  replace hB := hB.trans (hk2.below hB.size (fun _ h => h.elim))
  have hs5 := hk2.size_le
  obtain ⟨Ar20_2, cr20_2, Ar20_4, cr20_4, Ar20_5, cr20_5, rfl, -⟩ := Hand.cells hO2_0
  have ha6 := Kp.alloc0 w2 (.cells #[.int .i64 r0.xStage, .int .i64 r0.xFrom.xNext, .slice Ar20_2 r0.xFrom.xMessages.length cr20_2, .int .i64 r0.xTo.xNext, .slice Ar20_4 r0.xTo.xMessages.length cr20_4, .slice Ar20_5 r0.xWaiting.length cr20_5] 78)
  have hx6 : w2.heap.size < (w2.alloc (.cells #[.int .i64 r0.xStage, .int .i64 r0.xFrom.xNext, .slice Ar20_2 r0.xFrom.xMessages.length cr20_2, .int .i64 r0.xTo.xNext, .slice Ar20_4 r0.xTo.xMessages.length cr20_4, .slice Ar20_5 r0.xWaiting.length cr20_5] 78)).heap.size := by simp
  replace bx0_0 := bx_keep bx0_0 ha6 (by omega) (fun h => h)
  replace bx0_1 := bx_keep bx0_1 ha6 (by omega) (fun h => h)
  replace bx0_2 := bx_keep bx0_2 ha6 (by omega) (fun h => h)
  replace bx0_3 := bx_keep bx0_3 ha6 (by omega) (fun h => h)
  replace bx0_4 := bx_keep bx0_4 ha6 (by omega) (fun h => h)
  replace bx0_5 := bx_keep bx0_5 ha6 (by omega) (fun h => h)
  replace hO2_0 := rol_keep hO2_0 ha6 (by omega) (fun _ h => h.elim)
  replace hB := hB.trans (ha6.below hB.size (fun _ h => h.elim))
  have hs6 := ha6.size_le
  have bx1_0 := bx_new w2 #[.int .i64 r0.xStage, .int .i64 r0.xFrom.xNext, .slice Ar20_2 r0.xFrom.xMessages.length cr20_2, .int .i64 r0.xTo.xNext, .slice Ar20_4 r0.xTo.xMessages.length cr20_4, .slice Ar20_5 r0.xWaiting.length cr20_5] 78 0 (.int .i64 r0.xStage) rfl
  have bx1_1 := bx_new w2 #[.int .i64 r0.xStage, .int .i64 r0.xFrom.xNext, .slice Ar20_2 r0.xFrom.xMessages.length cr20_2, .int .i64 r0.xTo.xNext, .slice Ar20_4 r0.xTo.xMessages.length cr20_4, .slice Ar20_5 r0.xWaiting.length cr20_5] 78 1 (.int .i64 r0.xFrom.xNext) rfl
  have bx1_2 := bx_new w2 #[.int .i64 r0.xStage, .int .i64 r0.xFrom.xNext, .slice Ar20_2 r0.xFrom.xMessages.length cr20_2, .int .i64 r0.xTo.xNext, .slice Ar20_4 r0.xTo.xMessages.length cr20_4, .slice Ar20_5 r0.xWaiting.length cr20_5] 78 2 (.slice Ar20_2 r0.xFrom.xMessages.length cr20_2) rfl
  have bx1_3 := bx_new w2 #[.int .i64 r0.xStage, .int .i64 r0.xFrom.xNext, .slice Ar20_2 r0.xFrom.xMessages.length cr20_2, .int .i64 r0.xTo.xNext, .slice Ar20_4 r0.xTo.xMessages.length cr20_4, .slice Ar20_5 r0.xWaiting.length cr20_5] 78 3 (.int .i64 r0.xTo.xNext) rfl
  have bx1_4 := bx_new w2 #[.int .i64 r0.xStage, .int .i64 r0.xFrom.xNext, .slice Ar20_2 r0.xFrom.xMessages.length cr20_2, .int .i64 r0.xTo.xNext, .slice Ar20_4 r0.xTo.xMessages.length cr20_4, .slice Ar20_5 r0.xWaiting.length cr20_5] 78 4 (.slice Ar20_4 r0.xTo.xMessages.length cr20_4) rfl
  have bx1_5 := bx_new w2 #[.int .i64 r0.xStage, .int .i64 r0.xFrom.xNext, .slice Ar20_2 r0.xFrom.xMessages.length cr20_2, .int .i64 r0.xTo.xNext, .slice Ar20_4 r0.xTo.xMessages.length cr20_4, .slice Ar20_5 r0.xWaiting.length cr20_5] 78 5 (.slice Ar20_5 r0.xWaiting.length cr20_5) rfl
  go_wp2_with fail
  refine (HT_aH (w2.alloc (.cells #[.int .i64 r0.xStage, .int .i64 r0.xFrom.xNext, .slice Ar20_2 r0.xFrom.xMessages.length cr20_2, .int .i64 r0.xTo.xNext, .slice Ar20_4 r0.xTo.xMessages.length cr20_4, .slice Ar20_5 r0.xWaiting.length cr20_5] 78)) hB).mono ?_
  rintro e w3 ⟨us3, F3, rfl, hO3, hb3, hlo3⟩
  have hk3 := Kp.of_below0 hb3
  replace bx0_0 := bx_keep bx0_0 hk3 (by omega) (fun h => h)
  replace bx0_1 := bx_keep bx0_1 hk3 (by omega) (fun h => h)
  replace bx0_2 := bx_keep bx0_2 hk3 (by omega) (fun h => h)
  replace bx0_3 := bx_keep bx0_3 hk3 (by omega) (fun h => h)
  replace bx0_4 := bx_keep bx0_4 hk3 (by omega) (fun h => h)
  replace bx0_5 := bx_keep bx0_5 hk3 (by omega) (fun h => h)
  replace bx1_0 := bx_keep bx1_0 hk3 (by omega) (fun h => h)
  replace bx1_1 := bx_keep bx1_1 hk3 (by omega) (fun h => h)
  replace bx1_2 := bx_keep bx1_2 hk3 (by omega) (fun h => h)
  replace bx1_3 := bx_keep bx1_3 hk3 (by omega) (fun h => h)
  replace bx1_4 := bx_keep bx1_4 hk3 (by omega) (fun h => h)
  replace bx1_5 := bx_keep bx1_5 hk3 (by omega) (fun h => h)
  replace hO2_0 := rol_keep hO2_0 hk3 (by omega) (fun _ h => h.elim)
  replace hB := hB.trans (hk3.below hB.size (fun _ h => h.elim))
  have hs7 := hk3.size_le
  obtain ⟨Ao3_2, co3_2, Ao3_4, co3_4, Ao3_5, co3_5, rfl, -⟩ := Hand.cells hO3.ro
  have hhi3 : ∀ b, F3 b → b < w3.heap.size := hO3.lt
  have ha8 := Kp.alloc0 w3 (.cells #[.int .i64 y0.xStage, .int .i64 y0.xFrom.xNext, .slice Ao3_2 y0.xFrom.xMessages.length co3_2, .int .i64 y0.xTo.xNext, .slice Ao3_4 y0.xTo.xMessages.length co3_4, .slice Ao3_5 y0.xWaiting.length co3_5] 78)
  have hx8 : w3.heap.size < (w3.alloc (.cells #[.int .i64 y0.xStage, .int .i64 y0.xFrom.xNext, .slice Ao3_2 y0.xFrom.xMessages.length co3_2, .int .i64 y0.xTo.xNext, .slice Ao3_4 y0.xTo.xMessages.length co3_4, .slice Ao3_5 y0.xWaiting.length co3_5] 78)).heap.size := by simp
  replace bx0_0 := bx_keep bx0_0 ha8 (by omega) (fun h => h)
  replace bx0_1 := bx_keep bx0_1 ha8 (by omega) (fun h => h)
  replace bx0_2 := bx_keep bx0_2 ha8 (by omega) (fun h => h)
  replace bx0_3 := bx_keep bx0_3 ha8 (by omega) (fun h => h)
  replace bx0_4 := bx_keep bx0_4 ha8 (by omega) (fun h => h)
  replace bx0_5 := bx_keep bx0_5 ha8 (by omega) (fun h => h)
  replace bx1_0 := bx_keep bx1_0 ha8 (by omega) (fun h => h)
  replace bx1_1 := bx_keep bx1_1 ha8 (by omega) (fun h => h)
  replace bx1_2 := bx_keep bx1_2 ha8 (by omega) (fun h => h)
  replace bx1_3 := bx_keep bx1_3 ha8 (by omega) (fun h => h)
  replace bx1_4 := bx_keep bx1_4 ha8 (by omega) (fun h => h)
  replace bx1_5 := bx_keep bx1_5 ha8 (by omega) (fun h => h)
  replace hO2_0 := rol_keep hO2_0 ha8 (by omega) (fun _ h => h.elim)
  replace hO3 := hO3.kp ha8 (fun _ _ h => h)
  replace hB := hB.trans (ha8.below hB.size (fun _ h => h.elim))
  have hs8 := ha8.size_le
  have bx2_0 := bx_new w3 #[.int .i64 y0.xStage, .int .i64 y0.xFrom.xNext, .slice Ao3_2 y0.xFrom.xMessages.length co3_2, .int .i64 y0.xTo.xNext, .slice Ao3_4 y0.xTo.xMessages.length co3_4, .slice Ao3_5 y0.xWaiting.length co3_5] 78 0 (.int .i64 y0.xStage) rfl
  have bx2_1 := bx_new w3 #[.int .i64 y0.xStage, .int .i64 y0.xFrom.xNext, .slice Ao3_2 y0.xFrom.xMessages.length co3_2, .int .i64 y0.xTo.xNext, .slice Ao3_4 y0.xTo.xMessages.length co3_4, .slice Ao3_5 y0.xWaiting.length co3_5] 78 1 (.int .i64 y0.xFrom.xNext) rfl
  have bx2_2 := bx_new w3 #[.int .i64 y0.xStage, .int .i64 y0.xFrom.xNext, .slice Ao3_2 y0.xFrom.xMessages.length co3_2, .int .i64 y0.xTo.xNext, .slice Ao3_4 y0.xTo.xMessages.length co3_4, .slice Ao3_5 y0.xWaiting.length co3_5] 78 2 (.slice Ao3_2 y0.xFrom.xMessages.length co3_2) rfl
  have bx2_3 := bx_new w3 #[.int .i64 y0.xStage, .int .i64 y0.xFrom.xNext, .slice Ao3_2 y0.xFrom.xMessages.length co3_2, .int .i64 y0.xTo.xNext, .slice Ao3_4 y0.xTo.xMessages.length co3_4, .slice Ao3_5 y0.xWaiting.length co3_5] 78 3 (.int .i64 y0.xTo.xNext) rfl
  have bx2_4 := bx_new w3 #[.int .i64 y0.xStage, .int .i64 y0.xFrom.xNext, .slice Ao3_2 y0.xFrom.xMessages.length co3_2, .int .i64 y0.xTo.xNext, .slice Ao3_4 y0.xTo.xMessages.length co3_4, .slice Ao3_5 y0.xWaiting.length co3_5] 78 4 (.slice Ao3_4 y0.xTo.xMessages.length co3_4) rfl
  have bx2_5 := bx_new w3 #[.int .i64 y0.xStage, .int .i64 y0.xFrom.xNext, .slice Ao3_2 y0.xFrom.xMessages.length co3_2, .int .i64 y0.xTo.xNext, .slice Ao3_4 y0.xTo.xMessages.length co3_4, .slice Ao3_5 y0.xWaiting.length co3_5] 78 5 (.slice Ao3_5 y0.xWaiting.length co3_5) rfl
  go_wp2_with fail
  refine (HI _ (w3.alloc (.cells #[.int .i64 y0.xStage, .int .i64 y0.xFrom.xNext, .slice Ao3_2 y0.xFrom.xMessages.length co3_2, .int .i64 y0.xTo.xNext, .slice Ao3_4 y0.xTo.xMessages.length co3_4, .slice Ao3_5 y0.xWaiting.length co3_5] 78)) hO3.lo hz0).mono ?_
  rintro e w4 ⟨us4_0, F4_0, rfl, hO4_0, hlo4_0, hb4⟩
  have hk4 := Kp.of_below0 hb4
  replace bx0_0 := bx_keep bx0_0 hk4 (by omega) (fun h => h)
  replace bx0_1 := bx_keep bx0_1 hk4 (by omega) (fun h => h)
  replace bx0_2 := bx_keep bx0_2 hk4 (by omega) (fun h => h)
  replace bx0_3 := bx_keep bx0_3 hk4 (by omega) (fun h => h)
  replace bx0_4 := bx_keep bx0_4 hk4 (by omega) (fun h => h)
  replace bx0_5 := bx_keep bx0_5 hk4 (by omega) (fun h => h)
  replace bx1_0 := bx_keep bx1_0 hk4 (by omega) (fun h => h)
  replace bx1_1 := bx_keep bx1_1 hk4 (by omega) (fun h => h)
  replace bx1_2 := bx_keep bx1_2 hk4 (by omega) (fun h => h)
  replace bx1_3 := bx_keep bx1_3 hk4 (by omega) (fun h => h)
  replace bx1_4 := bx_keep bx1_4 hk4 (by omega) (fun h => h)
  replace bx1_5 := bx_keep bx1_5 hk4 (by omega) (fun h => h)
  replace bx2_0 := bx_keep bx2_0 hk4 (by omega) (fun h => h)
  replace bx2_1 := bx_keep bx2_1 hk4 (by omega) (fun h => h)
  replace bx2_2 := bx_keep bx2_2 hk4 (by omega) (fun h => h)
  replace bx2_3 := bx_keep bx2_3 hk4 (by omega) (fun h => h)
  replace bx2_4 := bx_keep bx2_4 hk4 (by omega) (fun h => h)
  replace bx2_5 := bx_keep bx2_5 hk4 (by omega) (fun h => h)
  replace hO2_0 := rol_keep hO2_0 hk4 (by omega) (fun _ h => h.elim)
  replace hO3 := hO3.kp hk4 (fun _ _ h => h)
  replace hB := hB.trans (hk4.below hB.size (fun _ h => h.elim))
  have hs9 := hk4.size_le
  obtain ⟨Ar40_2, cr40_2, Ar40_4, cr40_4, Ar40_5, cr40_5, rfl, -⟩ := Hand.cells hO4_0.ro
  have hhi4_0 : ∀ b, F4_0 b → b < w4.heap.size := hO4_0.lt
  have ha10 := Kp.alloc0 w4 (.cells #[.int .i64 r0.xStage, .int .i64 r0.xFrom.xNext, .slice Ar40_2 r0.xFrom.xMessages.length cr40_2, .int .i64 r0.xTo.xNext, .slice Ar40_4 r0.xTo.xMessages.length cr40_4, .slice Ar40_5 r0.xWaiting.length cr40_5] 78)
  have hx10 : w4.heap.size < (w4.alloc (.cells #[.int .i64 r0.xStage, .int .i64 r0.xFrom.xNext, .slice Ar40_2 r0.xFrom.xMessages.length cr40_2, .int .i64 r0.xTo.xNext, .slice Ar40_4 r0.xTo.xMessages.length cr40_4, .slice Ar40_5 r0.xWaiting.length cr40_5] 78)).heap.size := by simp
  replace bx0_0 := bx_keep bx0_0 ha10 (by omega) (fun h => h)
  replace bx0_1 := bx_keep bx0_1 ha10 (by omega) (fun h => h)
  replace bx0_2 := bx_keep bx0_2 ha10 (by omega) (fun h => h)
  replace bx0_3 := bx_keep bx0_3 ha10 (by omega) (fun h => h)
  replace bx0_4 := bx_keep bx0_4 ha10 (by omega) (fun h => h)
  replace bx0_5 := bx_keep bx0_5 ha10 (by omega) (fun h => h)
  replace bx1_0 := bx_keep bx1_0 ha10 (by omega) (fun h => h)
  replace bx1_1 := bx_keep bx1_1 ha10 (by omega) (fun h => h)
  replace bx1_2 := bx_keep bx1_2 ha10 (by omega) (fun h => h)
  replace bx1_3 := bx_keep bx1_3 ha10 (by omega) (fun h => h)
  replace bx1_4 := bx_keep bx1_4 ha10 (by omega) (fun h => h)
  replace bx1_5 := bx_keep bx1_5 ha10 (by omega) (fun h => h)
  replace bx2_0 := bx_keep bx2_0 ha10 (by omega) (fun h => h)
  replace bx2_1 := bx_keep bx2_1 ha10 (by omega) (fun h => h)
  replace bx2_2 := bx_keep bx2_2 ha10 (by omega) (fun h => h)
  replace bx2_3 := bx_keep bx2_3 ha10 (by omega) (fun h => h)
  replace bx2_4 := bx_keep bx2_4 ha10 (by omega) (fun h => h)
  replace bx2_5 := bx_keep bx2_5 ha10 (by omega) (fun h => h)
  replace hO2_0 := rol_keep hO2_0 ha10 (by omega) (fun _ h => h.elim)
  replace hO3 := hO3.kp ha10 (fun _ _ h => h)
  replace hO4_0 := hO4_0.kp ha10 (fun _ _ h => h)
  replace hB := hB.trans (ha10.below hB.size (fun _ h => h.elim))
  have hs10 := ha10.size_le
  have bx3_0 := bx_new w4 #[.int .i64 r0.xStage, .int .i64 r0.xFrom.xNext, .slice Ar40_2 r0.xFrom.xMessages.length cr40_2, .int .i64 r0.xTo.xNext, .slice Ar40_4 r0.xTo.xMessages.length cr40_4, .slice Ar40_5 r0.xWaiting.length cr40_5] 78 0 (.int .i64 r0.xStage) rfl
  have bx3_1 := bx_new w4 #[.int .i64 r0.xStage, .int .i64 r0.xFrom.xNext, .slice Ar40_2 r0.xFrom.xMessages.length cr40_2, .int .i64 r0.xTo.xNext, .slice Ar40_4 r0.xTo.xMessages.length cr40_4, .slice Ar40_5 r0.xWaiting.length cr40_5] 78 1 (.int .i64 r0.xFrom.xNext) rfl
  have bx3_2 := bx_new w4 #[.int .i64 r0.xStage, .int .i64 r0.xFrom.xNext, .slice Ar40_2 r0.xFrom.xMessages.length cr40_2, .int .i64 r0.xTo.xNext, .slice Ar40_4 r0.xTo.xMessages.length cr40_4, .slice Ar40_5 r0.xWaiting.length cr40_5] 78 2 (.slice Ar40_2 r0.xFrom.xMessages.length cr40_2) rfl
  have bx3_3 := bx_new w4 #[.int .i64 r0.xStage, .int .i64 r0.xFrom.xNext, .slice Ar40_2 r0.xFrom.xMessages.length cr40_2, .int .i64 r0.xTo.xNext, .slice Ar40_4 r0.xTo.xMessages.length cr40_4, .slice Ar40_5 r0.xWaiting.length cr40_5] 78 3 (.int .i64 r0.xTo.xNext) rfl
  have bx3_4 := bx_new w4 #[.int .i64 r0.xStage, .int .i64 r0.xFrom.xNext, .slice Ar40_2 r0.xFrom.xMessages.length cr40_2, .int .i64 r0.xTo.xNext, .slice Ar40_4 r0.xTo.xMessages.length cr40_4, .slice Ar40_5 r0.xWaiting.length cr40_5] 78 4 (.slice Ar40_4 r0.xTo.xMessages.length cr40_4) rfl
  have bx3_5 := bx_new w4 #[.int .i64 r0.xStage, .int .i64 r0.xFrom.xNext, .slice Ar40_2 r0.xFrom.xMessages.length cr40_2, .int .i64 r0.xTo.xNext, .slice Ar40_4 r0.xTo.xMessages.length cr40_4, .slice Ar40_5 r0.xWaiting.length cr40_5] 78 5 (.slice Ar40_5 r0.xWaiting.length cr40_5) rfl
  have HE5 := laws_eqHand r0 r0 _ _ (w4.alloc (.cells #[.int .i64 r0.xStage, .int .i64 r0.xFrom.xNext, .slice Ar40_2 r0.xFrom.xMessages.length cr40_2, .int .i64 r0.xTo.xNext, .slice Ar40_4 r0.xTo.xMessages.length cr40_4, .slice Ar40_5 r0.xWaiting.length cr40_5] 78)) hO4_0.lo (hO2_0.up (by omega))
  rw [decide_eq_true rfl] at HE5
  go_wp2_with fail
  refine (HE5).mono ?_
  rintro e w5 ⟨rfl, hb5⟩
  have hk5 := Kp.of_below0 hb5
  replace bx0_0 := bx_keep bx0_0 hk5 (by omega) (fun h => h)
  replace bx0_1 := bx_keep bx0_1 hk5 (by omega) (fun h => h)
  replace bx0_2 := bx_keep bx0_2 hk5 (by omega) (fun h => h)
  replace bx0_3 := bx_keep bx0_3 hk5 (by omega) (fun h => h)
  replace bx0_4 := bx_keep bx0_4 hk5 (by omega) (fun h => h)
  replace bx0_5 := bx_keep bx0_5 hk5 (by omega) (fun h => h)
  replace bx1_0 := bx_keep bx1_0 hk5 (by omega) (fun h => h)
  replace bx1_1 := bx_keep bx1_1 hk5 (by omega) (fun h => h)
  replace bx1_2 := bx_keep bx1_2 hk5 (by omega) (fun h => h)
  replace bx1_3 := bx_keep bx1_3 hk5 (by omega) (fun h => h)
  replace bx1_4 := bx_keep bx1_4 hk5 (by omega) (fun h => h)
  replace bx1_5 := bx_keep bx1_5 hk5 (by omega) (fun h => h)
  replace bx2_0 := bx_keep bx2_0 hk5 (by omega) (fun h => h)
  replace bx2_1 := bx_keep bx2_1 hk5 (by omega) (fun h => h)
  replace bx2_2 := bx_keep bx2_2 hk5 (by omega) (fun h => h)
  replace bx2_3 := bx_keep bx2_3 hk5 (by omega) (fun h => h)
  replace bx2_4 := bx_keep bx2_4 hk5 (by omega) (fun h => h)
  replace bx2_5 := bx_keep bx2_5 hk5 (by omega) (fun h => h)
  replace bx3_0 := bx_keep bx3_0 hk5 (by omega) (fun h => h)
  replace bx3_1 := bx_keep bx3_1 hk5 (by omega) (fun h => h)
  replace bx3_2 := bx_keep bx3_2 hk5 (by omega) (fun h => h)
  replace bx3_3 := bx_keep bx3_3 hk5 (by omega) (fun h => h)
  replace bx3_4 := bx_keep bx3_4 hk5 (by omega) (fun h => h)
  replace bx3_5 := bx_keep bx3_5 hk5 (by omega) (fun h => h)
  replace hO2_0 := rol_keep hO2_0 hk5 (by omega) (fun _ h => h.elim)
  replace hO3 := hO3.kp hk5 (fun _ _ h => h)
  replace hO4_0 := hO4_0.kp hk5 (fun _ _ h => h)
  replace hB := hB.trans (hk5.below hB.size (fun _ h => h.elim))
  have hs11 := hk5.size_le
  go_wp2
  go_region_held3 (fun w' => Below w5.heap.size w5 w' ∧ w'.cell? ⟨w3.heap.size, 0, none⟩ = some (.int .i64 y0.xStage) ∧ w'.cell? ⟨w3.heap.size, 1, none⟩ = some (.int .i64 y0.xFrom.xNext) ∧ w'.cell? ⟨w3.heap.size, 2, none⟩ = some (.slice Ao3_2 y0.xFrom.xMessages.length co3_2) ∧ w'.cell? ⟨w3.heap.size, 3, none⟩ = some (.int .i64 y0.xTo.xNext) ∧ w'.cell? ⟨w3.heap.size, 4, none⟩ = some (.slice Ao3_4 y0.xTo.xMessages.length co3_4) ∧ w'.cell? ⟨w3.heap.size, 5, none⟩ = some (.slice Ao3_5 y0.xWaiting.length co3_5) ∧ w'.cell? ⟨W.heap.size, 0, none⟩ = some (.int .i64 y0.xStage) ∧ w'.cell? ⟨W.heap.size, 1, none⟩ = some (.int .i64 y0.xFrom.xNext) ∧ w'.cell? ⟨W.heap.size, 2, none⟩ = some (.slice Ap0_2 y0.xFrom.xMessages.length cp0_2) ∧ w'.cell? ⟨W.heap.size, 3, none⟩ = some (.int .i64 y0.xTo.xNext) ∧ w'.cell? ⟨W.heap.size, 4, none⟩ = some (.slice Ap0_4 y0.xTo.xMessages.length cp0_4) ∧ w'.cell? ⟨W.heap.size, 5, none⟩ = some (.slice Ap0_5 y0.xWaiting.length cp0_5)) (first | exact ⟨below_drew1 _, bx2_0, bx2_1, bx2_2, bx2_3, bx2_4, bx2_5, bx0_0, bx0_1, bx0_2, bx0_3, bx0_4, bx0_5⟩ | exact ⟨hkB6, (hkB6.cell (p := ⟨w3.heap.size, 0, none⟩) (by show w3.heap.size < w5.heap.size; omega)).trans bx2_0, (hkB6.cell (p := ⟨w3.heap.size, 1, none⟩) (by show w3.heap.size < w5.heap.size; omega)).trans bx2_1, (hkB6.cell (p := ⟨w3.heap.size, 2, none⟩) (by show w3.heap.size < w5.heap.size; omega)).trans bx2_2, (hkB6.cell (p := ⟨w3.heap.size, 3, none⟩) (by show w3.heap.size < w5.heap.size; omega)).trans bx2_3, (hkB6.cell (p := ⟨w3.heap.size, 4, none⟩) (by show w3.heap.size < w5.heap.size; omega)).trans bx2_4, (hkB6.cell (p := ⟨w3.heap.size, 5, none⟩) (by show w3.heap.size < w5.heap.size; omega)).trans bx2_5, (hkB6.cell (p := ⟨W.heap.size, 0, none⟩) (by show W.heap.size < w5.heap.size; omega)).trans bx0_0, (hkB6.cell (p := ⟨W.heap.size, 1, none⟩) (by show W.heap.size < w5.heap.size; omega)).trans bx0_1, (hkB6.cell (p := ⟨W.heap.size, 2, none⟩) (by show W.heap.size < w5.heap.size; omega)).trans bx0_2, (hkB6.cell (p := ⟨W.heap.size, 3, none⟩) (by show W.heap.size < w5.heap.size; omega)).trans bx0_3, (hkB6.cell (p := ⟨W.heap.size, 4, none⟩) (by show W.heap.size < w5.heap.size; omega)).trans bx0_4, (hkB6.cell (p := ⟨W.heap.size, 5, none⟩) (by show W.heap.size < w5.heap.size; omega)).trans bx0_5⟩ | exact ⟨hkA6, (hkA6.cell (p := ⟨w3.heap.size, 0, none⟩) (by show w3.heap.size < w5.heap.size; omega)).trans bx2_0, (hkA6.cell (p := ⟨w3.heap.size, 1, none⟩) (by show w3.heap.size < w5.heap.size; omega)).trans bx2_1, (hkA6.cell (p := ⟨w3.heap.size, 2, none⟩) (by show w3.heap.size < w5.heap.size; omega)).trans bx2_2, (hkA6.cell (p := ⟨w3.heap.size, 3, none⟩) (by show w3.heap.size < w5.heap.size; omega)).trans bx2_3, (hkA6.cell (p := ⟨w3.heap.size, 4, none⟩) (by show w3.heap.size < w5.heap.size; omega)).trans bx2_4, (hkA6.cell (p := ⟨w3.heap.size, 5, none⟩) (by show w3.heap.size < w5.heap.size; omega)).trans bx2_5, (hkA6.cell (p := ⟨W.heap.size, 0, none⟩) (by show W.heap.size < w5.heap.size; omega)).trans bx0_0, (hkA6.cell (p := ⟨W.heap.size, 1, none⟩) (by show W.heap.size < w5.heap.size; omega)).trans bx0_1, (hkA6.cell (p := ⟨W.heap.size, 2, none⟩) (by show W.heap.size < w5.heap.size; omega)).trans bx0_2, (hkA6.cell (p := ⟨W.heap.size, 3, none⟩) (by show W.heap.size < w5.heap.size; omega)).trans bx0_3, (hkA6.cell (p := ⟨W.heap.size, 4, none⟩) (by show W.heap.size < w5.heap.size; omega)).trans bx0_4, (hkA6.cell (p := ⟨W.heap.size, 5, none⟩) (by show W.heap.size < w5.heap.size; omega)).trans bx0_5⟩) (first | (go_at_call 66; (with_reducible refine (HT_aH _ hB.drew).mono ?_); rintro e w6 ⟨us6, F6, rfl, hO6, hb6, hlo6⟩; obtain ⟨Ao6_2, co6_2, Ao6_4, co6_4, Ao6_5, co6_5, rfl, -⟩ := Hand.cells hO6.ro; have hkA6 := (below_drew1 w5).trans hb6) | (go_at_call 67; (with_reducible refine (laws_eqHand y0 y0 _ _ _ (hO3.keep hkA6).lo hO6.lo).mono ?_); rintro e w7 ⟨rfl, hb7⟩; have hkB6 := hkA6.trans (hb7.mono hkA6.size)))
  have hk6 := Kp.of_below0 hkB6
  replace bx0_0 := bx_keep bx0_0 hk6 (by omega) (fun h => h)
  replace bx0_1 := bx_keep bx0_1 hk6 (by omega) (fun h => h)
  replace bx0_2 := bx_keep bx0_2 hk6 (by omega) (fun h => h)
  replace bx0_3 := bx_keep bx0_3 hk6 (by omega) (fun h => h)
  replace bx0_4 := bx_keep bx0_4 hk6 (by omega) (fun h => h)
  replace bx0_5 := bx_keep bx0_5 hk6 (by omega) (fun h => h)
  replace bx1_0 := bx_keep bx1_0 hk6 (by omega) (fun h => h)
  replace bx1_1 := bx_keep bx1_1 hk6 (by omega) (fun h => h)
  replace bx1_2 := bx_keep bx1_2 hk6 (by omega) (fun h => h)
  replace bx1_3 := bx_keep bx1_3 hk6 (by omega) (fun h => h)
  replace bx1_4 := bx_keep bx1_4 hk6 (by omega) (fun h => h)
  replace bx1_5 := bx_keep bx1_5 hk6 (by omega) (fun h => h)
  replace bx2_0 := bx_keep bx2_0 hk6 (by omega) (fun h => h)
  replace bx2_1 := bx_keep bx2_1 hk6 (by omega) (fun h => h)
  replace bx2_2 := bx_keep bx2_2 hk6 (by omega) (fun h => h)
  replace bx2_3 := bx_keep bx2_3 hk6 (by omega) (fun h => h)
  replace bx2_4 := bx_keep bx2_4 hk6 (by omega) (fun h => h)
  replace bx2_5 := bx_keep bx2_5 hk6 (by omega) (fun h => h)
  replace bx3_0 := bx_keep bx3_0 hk6 (by omega) (fun h => h)
  replace bx3_1 := bx_keep bx3_1 hk6 (by omega) (fun h => h)
  replace bx3_2 := bx_keep bx3_2 hk6 (by omega) (fun h => h)
  replace bx3_3 := bx_keep bx3_3 hk6 (by omega) (fun h => h)
  replace bx3_4 := bx_keep bx3_4 hk6 (by omega) (fun h => h)
  replace bx3_5 := bx_keep bx3_5 hk6 (by omega) (fun h => h)
  replace hO2_0 := rol_keep hO2_0 hk6 (by omega) (fun _ h => h.elim)
  replace hO3 := hO3.kp hk6 (fun _ _ h => h)
  replace hO4_0 := hO4_0.kp hk6 (fun _ _ h => h)
  replace hB := hB.trans (hk6.below hB.size (fun _ h => h.elim))
  have hs12 := hk6.size_le
  have hsz8 := Hand.sn_z y0
  go_wp2_with fail
  refine (laws_markHand y0 _ F3 (1) w7 hO3 (by omega) (by omega)).mono ?_
  rintro e w8 ⟨rfl, hk8, G8, hm8, hG8⟩
  replace bx0_0 := bx_keep bx0_0 hk8 (by omega) (fun h => by have a1 := hlo3 _ h; have a2 := hhi3 _ h; omega)
  replace bx0_1 := bx_keep bx0_1 hk8 (by omega) (fun h => by have a1 := hlo3 _ h; have a2 := hhi3 _ h; omega)
  replace bx0_2 := bx_keep bx0_2 hk8 (by omega) (fun h => by have a1 := hlo3 _ h; have a2 := hhi3 _ h; omega)
  replace bx0_3 := bx_keep bx0_3 hk8 (by omega) (fun h => by have a1 := hlo3 _ h; have a2 := hhi3 _ h; omega)
  replace bx0_4 := bx_keep bx0_4 hk8 (by omega) (fun h => by have a1 := hlo3 _ h; have a2 := hhi3 _ h; omega)
  replace bx0_5 := bx_keep bx0_5 hk8 (by omega) (fun h => by have a1 := hlo3 _ h; have a2 := hhi3 _ h; omega)
  replace bx1_0 := bx_keep bx1_0 hk8 (by omega) (fun h => by have a1 := hlo3 _ h; have a2 := hhi3 _ h; omega)
  replace bx1_1 := bx_keep bx1_1 hk8 (by omega) (fun h => by have a1 := hlo3 _ h; have a2 := hhi3 _ h; omega)
  replace bx1_2 := bx_keep bx1_2 hk8 (by omega) (fun h => by have a1 := hlo3 _ h; have a2 := hhi3 _ h; omega)
  replace bx1_3 := bx_keep bx1_3 hk8 (by omega) (fun h => by have a1 := hlo3 _ h; have a2 := hhi3 _ h; omega)
  replace bx1_4 := bx_keep bx1_4 hk8 (by omega) (fun h => by have a1 := hlo3 _ h; have a2 := hhi3 _ h; omega)
  replace bx1_5 := bx_keep bx1_5 hk8 (by omega) (fun h => by have a1 := hlo3 _ h; have a2 := hhi3 _ h; omega)
  replace bx2_0 := bx_keep bx2_0 hk8 (by omega) (fun h => by have a1 := hlo3 _ h; have a2 := hhi3 _ h; omega)
  replace bx2_1 := bx_keep bx2_1 hk8 (by omega) (fun h => by have a1 := hlo3 _ h; have a2 := hhi3 _ h; omega)
  replace bx2_2 := bx_keep bx2_2 hk8 (by omega) (fun h => by have a1 := hlo3 _ h; have a2 := hhi3 _ h; omega)
  replace bx2_3 := bx_keep bx2_3 hk8 (by omega) (fun h => by have a1 := hlo3 _ h; have a2 := hhi3 _ h; omega)
  replace bx2_4 := bx_keep bx2_4 hk8 (by omega) (fun h => by have a1 := hlo3 _ h; have a2 := hhi3 _ h; omega)
  replace bx2_5 := bx_keep bx2_5 hk8 (by omega) (fun h => by have a1 := hlo3 _ h; have a2 := hhi3 _ h; omega)
  replace bx3_0 := bx_keep bx3_0 hk8 (by omega) (fun h => by have a1 := hlo3 _ h; have a2 := hhi3 _ h; omega)
  replace bx3_1 := bx_keep bx3_1 hk8 (by omega) (fun h => by have a1 := hlo3 _ h; have a2 := hhi3 _ h; omega)
  replace bx3_2 := bx_keep bx3_2 hk8 (by omega) (fun h => by have a1 := hlo3 _ h; have a2 := hhi3 _ h; omega)
  replace bx3_3 := bx_keep bx3_3 hk8 (by omega) (fun h => by have a1 := hlo3 _ h; have a2 := hhi3 _ h; omega)
  replace bx3_4 := bx_keep bx3_4 hk8 (by omega) (fun h => by have a1 := hlo3 _ h; have a2 := hhi3 _ h; omega)
  replace bx3_5 := bx_keep bx3_5 hk8 (by omega) (fun h => by have a1 := hlo3 _ h; have a2 := hhi3 _ h; omega)
  replace hO2_0 := rol_keep hO2_0 hk8 (by omega) (fun b hx => by have a3 := hlo3 b hx; omega)
  replace hO4_0 := hO4_0.kp hk8 (fun b hy hx => by have a1 := hlo4_0 b hy; have a2 := hhi4_0 b hy; have a3 := hlo3 b hx; have a4 := hhi3 b hx; omega)
  replace hB := hB.trans (hk8.below hB.size (fun b hx => by have a3 := hlo3 b hx; omega))
  have hs13 := hk8.size_le
  have hlo8m : ∀ b, G8 b → _ := fun b h => hlo3 b (hG8 b h)
  have hhi8m : ∀ b, G8 b → _ := fun b h => hhi3 b (hG8 b h)
  have HE9 := laws_eqHand r0 r0 _ _ w8 hO4_0.lo (hO2_0.up (by omega))
  rw [decide_eq_true rfl] at HE9
  go_wp2_with fail
  refine (HE9).mono ?_
  rintro e w9 ⟨rfl, hb9⟩
  have hk9 := Kp.of_below0 hb9
  replace bx0_0 := bx_keep bx0_0 hk9 (by omega) (fun h => h)
  replace bx0_1 := bx_keep bx0_1 hk9 (by omega) (fun h => h)
  replace bx0_2 := bx_keep bx0_2 hk9 (by omega) (fun h => h)
  replace bx0_3 := bx_keep bx0_3 hk9 (by omega) (fun h => h)
  replace bx0_4 := bx_keep bx0_4 hk9 (by omega) (fun h => h)
  replace bx0_5 := bx_keep bx0_5 hk9 (by omega) (fun h => h)
  replace bx1_0 := bx_keep bx1_0 hk9 (by omega) (fun h => h)
  replace bx1_1 := bx_keep bx1_1 hk9 (by omega) (fun h => h)
  replace bx1_2 := bx_keep bx1_2 hk9 (by omega) (fun h => h)
  replace bx1_3 := bx_keep bx1_3 hk9 (by omega) (fun h => h)
  replace bx1_4 := bx_keep bx1_4 hk9 (by omega) (fun h => h)
  replace bx1_5 := bx_keep bx1_5 hk9 (by omega) (fun h => h)
  replace bx2_0 := bx_keep bx2_0 hk9 (by omega) (fun h => h)
  replace bx2_1 := bx_keep bx2_1 hk9 (by omega) (fun h => h)
  replace bx2_2 := bx_keep bx2_2 hk9 (by omega) (fun h => h)
  replace bx2_3 := bx_keep bx2_3 hk9 (by omega) (fun h => h)
  replace bx2_4 := bx_keep bx2_4 hk9 (by omega) (fun h => h)
  replace bx2_5 := bx_keep bx2_5 hk9 (by omega) (fun h => h)
  replace bx3_0 := bx_keep bx3_0 hk9 (by omega) (fun h => h)
  replace bx3_1 := bx_keep bx3_1 hk9 (by omega) (fun h => h)
  replace bx3_2 := bx_keep bx3_2 hk9 (by omega) (fun h => h)
  replace bx3_3 := bx_keep bx3_3 hk9 (by omega) (fun h => h)
  replace bx3_4 := bx_keep bx3_4 hk9 (by omega) (fun h => h)
  replace bx3_5 := bx_keep bx3_5 hk9 (by omega) (fun h => h)
  replace hO2_0 := rol_keep hO2_0 hk9 (by omega) (fun _ h => h.elim)
  replace hm8 := hm8.kp hk9 (fun _ _ h => h)
  replace hO4_0 := hO4_0.kp hk9 (fun _ _ h => h)
  replace hB := hB.trans (hk9.below hB.size (fun _ h => h.elim))
  have hs14 := hk9.size_le
  go_wp2_with fail
  refine (laws_markHand r0 _ F4_0 (1) w9 hO4_0 (by omega) (by omega)).mono ?_
  rintro e w10 ⟨rfl, hk10, G10, hm10, hG10⟩
  replace bx0_0 := bx_keep bx0_0 hk10 (by omega) (fun h => by have a1 := hlo4_0 _ h; have a2 := hhi4_0 _ h; omega)
  replace bx0_1 := bx_keep bx0_1 hk10 (by omega) (fun h => by have a1 := hlo4_0 _ h; have a2 := hhi4_0 _ h; omega)
  replace bx0_2 := bx_keep bx0_2 hk10 (by omega) (fun h => by have a1 := hlo4_0 _ h; have a2 := hhi4_0 _ h; omega)
  replace bx0_3 := bx_keep bx0_3 hk10 (by omega) (fun h => by have a1 := hlo4_0 _ h; have a2 := hhi4_0 _ h; omega)
  replace bx0_4 := bx_keep bx0_4 hk10 (by omega) (fun h => by have a1 := hlo4_0 _ h; have a2 := hhi4_0 _ h; omega)
  replace bx0_5 := bx_keep bx0_5 hk10 (by omega) (fun h => by have a1 := hlo4_0 _ h; have a2 := hhi4_0 _ h; omega)
  replace bx1_0 := bx_keep bx1_0 hk10 (by omega) (fun h => by have a1 := hlo4_0 _ h; have a2 := hhi4_0 _ h; omega)
  replace bx1_1 := bx_keep bx1_1 hk10 (by omega) (fun h => by have a1 := hlo4_0 _ h; have a2 := hhi4_0 _ h; omega)
  replace bx1_2 := bx_keep bx1_2 hk10 (by omega) (fun h => by have a1 := hlo4_0 _ h; have a2 := hhi4_0 _ h; omega)
  replace bx1_3 := bx_keep bx1_3 hk10 (by omega) (fun h => by have a1 := hlo4_0 _ h; have a2 := hhi4_0 _ h; omega)
  replace bx1_4 := bx_keep bx1_4 hk10 (by omega) (fun h => by have a1 := hlo4_0 _ h; have a2 := hhi4_0 _ h; omega)
  replace bx1_5 := bx_keep bx1_5 hk10 (by omega) (fun h => by have a1 := hlo4_0 _ h; have a2 := hhi4_0 _ h; omega)
  replace bx2_0 := bx_keep bx2_0 hk10 (by omega) (fun h => by have a1 := hlo4_0 _ h; have a2 := hhi4_0 _ h; omega)
  replace bx2_1 := bx_keep bx2_1 hk10 (by omega) (fun h => by have a1 := hlo4_0 _ h; have a2 := hhi4_0 _ h; omega)
  replace bx2_2 := bx_keep bx2_2 hk10 (by omega) (fun h => by have a1 := hlo4_0 _ h; have a2 := hhi4_0 _ h; omega)
  replace bx2_3 := bx_keep bx2_3 hk10 (by omega) (fun h => by have a1 := hlo4_0 _ h; have a2 := hhi4_0 _ h; omega)
  replace bx2_4 := bx_keep bx2_4 hk10 (by omega) (fun h => by have a1 := hlo4_0 _ h; have a2 := hhi4_0 _ h; omega)
  replace bx2_5 := bx_keep bx2_5 hk10 (by omega) (fun h => by have a1 := hlo4_0 _ h; have a2 := hhi4_0 _ h; omega)
  replace bx3_0 := bx_keep bx3_0 hk10 (by omega) (fun h => by have a1 := hlo4_0 _ h; have a2 := hhi4_0 _ h; omega)
  replace bx3_1 := bx_keep bx3_1 hk10 (by omega) (fun h => by have a1 := hlo4_0 _ h; have a2 := hhi4_0 _ h; omega)
  replace bx3_2 := bx_keep bx3_2 hk10 (by omega) (fun h => by have a1 := hlo4_0 _ h; have a2 := hhi4_0 _ h; omega)
  replace bx3_3 := bx_keep bx3_3 hk10 (by omega) (fun h => by have a1 := hlo4_0 _ h; have a2 := hhi4_0 _ h; omega)
  replace bx3_4 := bx_keep bx3_4 hk10 (by omega) (fun h => by have a1 := hlo4_0 _ h; have a2 := hhi4_0 _ h; omega)
  replace bx3_5 := bx_keep bx3_5 hk10 (by omega) (fun h => by have a1 := hlo4_0 _ h; have a2 := hhi4_0 _ h; omega)
  replace hO2_0 := rol_keep hO2_0 hk10 (by omega) (fun b hx => by have a3 := hlo4_0 b hx; omega)
  replace hm8 := hm8.kp hk10 (fun b hy hx => by have a1 := hlo8m b hy; have a2 := hhi8m b hy; have a3 := hlo4_0 b hx; have a4 := hhi4_0 b hx; omega)
  replace hB := hB.trans (hk10.below hB.size (fun b hx => by have a3 := hlo4_0 b hx; omega))
  have hs15 := hk10.size_le
  have hlo10m : ∀ b, G10 b → _ := fun b h => hlo4_0 b (hG10 b h)
  have hhi10m : ∀ b, G10 b → _ := fun b h => hhi4_0 b (hG10 b h)
  go_wp2_with fail
  refine (laws_heldHand r0 _ (1) w10 hm10.lo (by omega) (by omega)).mono ?_
  rintro e w11 ⟨rfl, hb11⟩
  have hk11 := Kp.of_below0 hb11
  replace bx0_0 := bx_keep bx0_0 hk11 (by omega) (fun h => h)
  replace bx0_1 := bx_keep bx0_1 hk11 (by omega) (fun h => h)
  replace bx0_2 := bx_keep bx0_2 hk11 (by omega) (fun h => h)
  replace bx0_3 := bx_keep bx0_3 hk11 (by omega) (fun h => h)
  replace bx0_4 := bx_keep bx0_4 hk11 (by omega) (fun h => h)
  replace bx0_5 := bx_keep bx0_5 hk11 (by omega) (fun h => h)
  replace bx1_0 := bx_keep bx1_0 hk11 (by omega) (fun h => h)
  replace bx1_1 := bx_keep bx1_1 hk11 (by omega) (fun h => h)
  replace bx1_2 := bx_keep bx1_2 hk11 (by omega) (fun h => h)
  replace bx1_3 := bx_keep bx1_3 hk11 (by omega) (fun h => h)
  replace bx1_4 := bx_keep bx1_4 hk11 (by omega) (fun h => h)
  replace bx1_5 := bx_keep bx1_5 hk11 (by omega) (fun h => h)
  replace bx2_0 := bx_keep bx2_0 hk11 (by omega) (fun h => h)
  replace bx2_1 := bx_keep bx2_1 hk11 (by omega) (fun h => h)
  replace bx2_2 := bx_keep bx2_2 hk11 (by omega) (fun h => h)
  replace bx2_3 := bx_keep bx2_3 hk11 (by omega) (fun h => h)
  replace bx2_4 := bx_keep bx2_4 hk11 (by omega) (fun h => h)
  replace bx2_5 := bx_keep bx2_5 hk11 (by omega) (fun h => h)
  replace bx3_0 := bx_keep bx3_0 hk11 (by omega) (fun h => h)
  replace bx3_1 := bx_keep bx3_1 hk11 (by omega) (fun h => h)
  replace bx3_2 := bx_keep bx3_2 hk11 (by omega) (fun h => h)
  replace bx3_3 := bx_keep bx3_3 hk11 (by omega) (fun h => h)
  replace bx3_4 := bx_keep bx3_4 hk11 (by omega) (fun h => h)
  replace bx3_5 := bx_keep bx3_5 hk11 (by omega) (fun h => h)
  replace hO2_0 := rol_keep hO2_0 hk11 (by omega) (fun _ h => h.elim)
  replace hm8 := hm8.kp hk11 (fun _ _ h => h)
  replace hm10 := hm10.kp hk11 (fun _ _ h => h)
  replace hB := hB.trans (hk11.below hB.size (fun _ h => h.elim))
  have hs16 := hk11.size_le
  go_wp2_with fail
  refine (HT_aH w11 hB).mono ?_
  rintro e w12 ⟨us12, F12, rfl, hO12, hb12, hlo12⟩
  have hk12 := Kp.of_below0 hb12
  replace bx0_0 := bx_keep bx0_0 hk12 (by omega) (fun h => h)
  replace bx0_1 := bx_keep bx0_1 hk12 (by omega) (fun h => h)
  replace bx0_2 := bx_keep bx0_2 hk12 (by omega) (fun h => h)
  replace bx0_3 := bx_keep bx0_3 hk12 (by omega) (fun h => h)
  replace bx0_4 := bx_keep bx0_4 hk12 (by omega) (fun h => h)
  replace bx0_5 := bx_keep bx0_5 hk12 (by omega) (fun h => h)
  replace bx1_0 := bx_keep bx1_0 hk12 (by omega) (fun h => h)
  replace bx1_1 := bx_keep bx1_1 hk12 (by omega) (fun h => h)
  replace bx1_2 := bx_keep bx1_2 hk12 (by omega) (fun h => h)
  replace bx1_3 := bx_keep bx1_3 hk12 (by omega) (fun h => h)
  replace bx1_4 := bx_keep bx1_4 hk12 (by omega) (fun h => h)
  replace bx1_5 := bx_keep bx1_5 hk12 (by omega) (fun h => h)
  replace bx2_0 := bx_keep bx2_0 hk12 (by omega) (fun h => h)
  replace bx2_1 := bx_keep bx2_1 hk12 (by omega) (fun h => h)
  replace bx2_2 := bx_keep bx2_2 hk12 (by omega) (fun h => h)
  replace bx2_3 := bx_keep bx2_3 hk12 (by omega) (fun h => h)
  replace bx2_4 := bx_keep bx2_4 hk12 (by omega) (fun h => h)
  replace bx2_5 := bx_keep bx2_5 hk12 (by omega) (fun h => h)
  replace bx3_0 := bx_keep bx3_0 hk12 (by omega) (fun h => h)
  replace bx3_1 := bx_keep bx3_1 hk12 (by omega) (fun h => h)
  replace bx3_2 := bx_keep bx3_2 hk12 (by omega) (fun h => h)
  replace bx3_3 := bx_keep bx3_3 hk12 (by omega) (fun h => h)
  replace bx3_4 := bx_keep bx3_4 hk12 (by omega) (fun h => h)
  replace bx3_5 := bx_keep bx3_5 hk12 (by omega) (fun h => h)
  replace hO2_0 := rol_keep hO2_0 hk12 (by omega) (fun _ h => h.elim)
  replace hm8 := hm8.kp hk12 (fun _ _ h => h)
  replace hm10 := hm10.kp hk12 (fun _ _ h => h)
  replace hB := hB.trans (hk12.below hB.size (fun _ h => h.elim))
  have hs17 := hk12.size_le
  obtain ⟨Ao12_2, co12_2, Ao12_4, co12_4, Ao12_5, co12_5, rfl, -⟩ := Hand.cells hO12.ro
  have hhi12 : ∀ b, F12 b → b < w12.heap.size := hO12.lt
  go_wp2_with fail
  refine (HI _ w12 hO12.lo hz0).mono ?_
  rintro e w13 ⟨us13_0, F13_0, rfl, hO13_0, hlo13_0, hb13⟩
  have hk13 := Kp.of_below0 hb13
  replace bx0_0 := bx_keep bx0_0 hk13 (by omega) (fun h => h)
  replace bx0_1 := bx_keep bx0_1 hk13 (by omega) (fun h => h)
  replace bx0_2 := bx_keep bx0_2 hk13 (by omega) (fun h => h)
  replace bx0_3 := bx_keep bx0_3 hk13 (by omega) (fun h => h)
  replace bx0_4 := bx_keep bx0_4 hk13 (by omega) (fun h => h)
  replace bx0_5 := bx_keep bx0_5 hk13 (by omega) (fun h => h)
  replace bx1_0 := bx_keep bx1_0 hk13 (by omega) (fun h => h)
  replace bx1_1 := bx_keep bx1_1 hk13 (by omega) (fun h => h)
  replace bx1_2 := bx_keep bx1_2 hk13 (by omega) (fun h => h)
  replace bx1_3 := bx_keep bx1_3 hk13 (by omega) (fun h => h)
  replace bx1_4 := bx_keep bx1_4 hk13 (by omega) (fun h => h)
  replace bx1_5 := bx_keep bx1_5 hk13 (by omega) (fun h => h)
  replace bx2_0 := bx_keep bx2_0 hk13 (by omega) (fun h => h)
  replace bx2_1 := bx_keep bx2_1 hk13 (by omega) (fun h => h)
  replace bx2_2 := bx_keep bx2_2 hk13 (by omega) (fun h => h)
  replace bx2_3 := bx_keep bx2_3 hk13 (by omega) (fun h => h)
  replace bx2_4 := bx_keep bx2_4 hk13 (by omega) (fun h => h)
  replace bx2_5 := bx_keep bx2_5 hk13 (by omega) (fun h => h)
  replace bx3_0 := bx_keep bx3_0 hk13 (by omega) (fun h => h)
  replace bx3_1 := bx_keep bx3_1 hk13 (by omega) (fun h => h)
  replace bx3_2 := bx_keep bx3_2 hk13 (by omega) (fun h => h)
  replace bx3_3 := bx_keep bx3_3 hk13 (by omega) (fun h => h)
  replace bx3_4 := bx_keep bx3_4 hk13 (by omega) (fun h => h)
  replace bx3_5 := bx_keep bx3_5 hk13 (by omega) (fun h => h)
  replace hO2_0 := rol_keep hO2_0 hk13 (by omega) (fun _ h => h.elim)
  replace hm8 := hm8.kp hk13 (fun _ _ h => h)
  replace hm10 := hm10.kp hk13 (fun _ _ h => h)
  replace hO12 := hO12.kp hk13 (fun _ _ h => h)
  replace hB := hB.trans (hk13.below hB.size (fun _ h => h.elim))
  have hs18 := hk13.size_le
  obtain ⟨Ar130_2, cr130_2, Ar130_4, cr130_4, Ar130_5, cr130_5, rfl, -⟩ := Hand.cells hO13_0.ro
  have hhi13_0 : ∀ b, F13_0 b → b < w13.heap.size := hO13_0.lt
  have ha19 := Kp.alloc0 w13 (.cells #[.int .i64 r0.xStage, .int .i64 r0.xFrom.xNext, .slice Ar130_2 r0.xFrom.xMessages.length cr130_2, .int .i64 r0.xTo.xNext, .slice Ar130_4 r0.xTo.xMessages.length cr130_4, .slice Ar130_5 r0.xWaiting.length cr130_5] 78)
  have hx19 : w13.heap.size < (w13.alloc (.cells #[.int .i64 r0.xStage, .int .i64 r0.xFrom.xNext, .slice Ar130_2 r0.xFrom.xMessages.length cr130_2, .int .i64 r0.xTo.xNext, .slice Ar130_4 r0.xTo.xMessages.length cr130_4, .slice Ar130_5 r0.xWaiting.length cr130_5] 78)).heap.size := by simp
  replace bx0_0 := bx_keep bx0_0 ha19 (by omega) (fun h => h)
  replace bx0_1 := bx_keep bx0_1 ha19 (by omega) (fun h => h)
  replace bx0_2 := bx_keep bx0_2 ha19 (by omega) (fun h => h)
  replace bx0_3 := bx_keep bx0_3 ha19 (by omega) (fun h => h)
  replace bx0_4 := bx_keep bx0_4 ha19 (by omega) (fun h => h)
  replace bx0_5 := bx_keep bx0_5 ha19 (by omega) (fun h => h)
  replace bx1_0 := bx_keep bx1_0 ha19 (by omega) (fun h => h)
  replace bx1_1 := bx_keep bx1_1 ha19 (by omega) (fun h => h)
  replace bx1_2 := bx_keep bx1_2 ha19 (by omega) (fun h => h)
  replace bx1_3 := bx_keep bx1_3 ha19 (by omega) (fun h => h)
  replace bx1_4 := bx_keep bx1_4 ha19 (by omega) (fun h => h)
  replace bx1_5 := bx_keep bx1_5 ha19 (by omega) (fun h => h)
  replace bx2_0 := bx_keep bx2_0 ha19 (by omega) (fun h => h)
  replace bx2_1 := bx_keep bx2_1 ha19 (by omega) (fun h => h)
  replace bx2_2 := bx_keep bx2_2 ha19 (by omega) (fun h => h)
  replace bx2_3 := bx_keep bx2_3 ha19 (by omega) (fun h => h)
  replace bx2_4 := bx_keep bx2_4 ha19 (by omega) (fun h => h)
  replace bx2_5 := bx_keep bx2_5 ha19 (by omega) (fun h => h)
  replace bx3_0 := bx_keep bx3_0 ha19 (by omega) (fun h => h)
  replace bx3_1 := bx_keep bx3_1 ha19 (by omega) (fun h => h)
  replace bx3_2 := bx_keep bx3_2 ha19 (by omega) (fun h => h)
  replace bx3_3 := bx_keep bx3_3 ha19 (by omega) (fun h => h)
  replace bx3_4 := bx_keep bx3_4 ha19 (by omega) (fun h => h)
  replace bx3_5 := bx_keep bx3_5 ha19 (by omega) (fun h => h)
  replace hO2_0 := rol_keep hO2_0 ha19 (by omega) (fun _ h => h.elim)
  replace hm8 := hm8.kp ha19 (fun _ _ h => h)
  replace hm10 := hm10.kp ha19 (fun _ _ h => h)
  replace hO13_0 := hO13_0.kp ha19 (fun _ _ h => h)
  replace hB := hB.trans (ha19.below hB.size (fun _ h => h.elim))
  have hs19 := ha19.size_le
  have bx4_0 := bx_new w13 #[.int .i64 r0.xStage, .int .i64 r0.xFrom.xNext, .slice Ar130_2 r0.xFrom.xMessages.length cr130_2, .int .i64 r0.xTo.xNext, .slice Ar130_4 r0.xTo.xMessages.length cr130_4, .slice Ar130_5 r0.xWaiting.length cr130_5] 78 0 (.int .i64 r0.xStage) rfl
  have bx4_1 := bx_new w13 #[.int .i64 r0.xStage, .int .i64 r0.xFrom.xNext, .slice Ar130_2 r0.xFrom.xMessages.length cr130_2, .int .i64 r0.xTo.xNext, .slice Ar130_4 r0.xTo.xMessages.length cr130_4, .slice Ar130_5 r0.xWaiting.length cr130_5] 78 1 (.int .i64 r0.xFrom.xNext) rfl
  have bx4_2 := bx_new w13 #[.int .i64 r0.xStage, .int .i64 r0.xFrom.xNext, .slice Ar130_2 r0.xFrom.xMessages.length cr130_2, .int .i64 r0.xTo.xNext, .slice Ar130_4 r0.xTo.xMessages.length cr130_4, .slice Ar130_5 r0.xWaiting.length cr130_5] 78 2 (.slice Ar130_2 r0.xFrom.xMessages.length cr130_2) rfl
  have bx4_3 := bx_new w13 #[.int .i64 r0.xStage, .int .i64 r0.xFrom.xNext, .slice Ar130_2 r0.xFrom.xMessages.length cr130_2, .int .i64 r0.xTo.xNext, .slice Ar130_4 r0.xTo.xMessages.length cr130_4, .slice Ar130_5 r0.xWaiting.length cr130_5] 78 3 (.int .i64 r0.xTo.xNext) rfl
  have bx4_4 := bx_new w13 #[.int .i64 r0.xStage, .int .i64 r0.xFrom.xNext, .slice Ar130_2 r0.xFrom.xMessages.length cr130_2, .int .i64 r0.xTo.xNext, .slice Ar130_4 r0.xTo.xMessages.length cr130_4, .slice Ar130_5 r0.xWaiting.length cr130_5] 78 4 (.slice Ar130_4 r0.xTo.xMessages.length cr130_4) rfl
  have bx4_5 := bx_new w13 #[.int .i64 r0.xStage, .int .i64 r0.xFrom.xNext, .slice Ar130_2 r0.xFrom.xMessages.length cr130_2, .int .i64 r0.xTo.xNext, .slice Ar130_4 r0.xTo.xMessages.length cr130_4, .slice Ar130_5 r0.xWaiting.length cr130_5] 78 5 (.slice Ar130_5 r0.xWaiting.length cr130_5) rfl
  have HE14 := laws_eqHand r0 r0 _ _ (w13.alloc (.cells #[.int .i64 r0.xStage, .int .i64 r0.xFrom.xNext, .slice Ar130_2 r0.xFrom.xMessages.length cr130_2, .int .i64 r0.xTo.xNext, .slice Ar130_4 r0.xTo.xMessages.length cr130_4, .slice Ar130_5 r0.xWaiting.length cr130_5] 78)) hO13_0.lo (hO2_0.up (by omega))
  rw [decide_eq_true rfl] at HE14
  go_wp2_with fail
  refine (HE14).mono ?_
  rintro e w14 ⟨rfl, hb14⟩
  have hk14 := Kp.of_below0 hb14
  replace bx0_0 := bx_keep bx0_0 hk14 (by omega) (fun h => h)
  replace bx0_1 := bx_keep bx0_1 hk14 (by omega) (fun h => h)
  replace bx0_2 := bx_keep bx0_2 hk14 (by omega) (fun h => h)
  replace bx0_3 := bx_keep bx0_3 hk14 (by omega) (fun h => h)
  replace bx0_4 := bx_keep bx0_4 hk14 (by omega) (fun h => h)
  replace bx0_5 := bx_keep bx0_5 hk14 (by omega) (fun h => h)
  replace bx1_0 := bx_keep bx1_0 hk14 (by omega) (fun h => h)
  replace bx1_1 := bx_keep bx1_1 hk14 (by omega) (fun h => h)
  replace bx1_2 := bx_keep bx1_2 hk14 (by omega) (fun h => h)
  replace bx1_3 := bx_keep bx1_3 hk14 (by omega) (fun h => h)
  replace bx1_4 := bx_keep bx1_4 hk14 (by omega) (fun h => h)
  replace bx1_5 := bx_keep bx1_5 hk14 (by omega) (fun h => h)
  replace bx2_0 := bx_keep bx2_0 hk14 (by omega) (fun h => h)
  replace bx2_1 := bx_keep bx2_1 hk14 (by omega) (fun h => h)
  replace bx2_2 := bx_keep bx2_2 hk14 (by omega) (fun h => h)
  replace bx2_3 := bx_keep bx2_3 hk14 (by omega) (fun h => h)
  replace bx2_4 := bx_keep bx2_4 hk14 (by omega) (fun h => h)
  replace bx2_5 := bx_keep bx2_5 hk14 (by omega) (fun h => h)
  replace bx3_0 := bx_keep bx3_0 hk14 (by omega) (fun h => h)
  replace bx3_1 := bx_keep bx3_1 hk14 (by omega) (fun h => h)
  replace bx3_2 := bx_keep bx3_2 hk14 (by omega) (fun h => h)
  replace bx3_3 := bx_keep bx3_3 hk14 (by omega) (fun h => h)
  replace bx3_4 := bx_keep bx3_4 hk14 (by omega) (fun h => h)
  replace bx3_5 := bx_keep bx3_5 hk14 (by omega) (fun h => h)
  replace bx4_0 := bx_keep bx4_0 hk14 (by omega) (fun h => h)
  replace bx4_1 := bx_keep bx4_1 hk14 (by omega) (fun h => h)
  replace bx4_2 := bx_keep bx4_2 hk14 (by omega) (fun h => h)
  replace bx4_3 := bx_keep bx4_3 hk14 (by omega) (fun h => h)
  replace bx4_4 := bx_keep bx4_4 hk14 (by omega) (fun h => h)
  replace bx4_5 := bx_keep bx4_5 hk14 (by omega) (fun h => h)
  replace hO2_0 := rol_keep hO2_0 hk14 (by omega) (fun _ h => h.elim)
  replace hm8 := hm8.kp hk14 (fun _ _ h => h)
  replace hm10 := hm10.kp hk14 (fun _ _ h => h)
  replace hO13_0 := hO13_0.kp hk14 (fun _ _ h => h)
  replace hB := hB.trans (hk14.below hB.size (fun _ h => h.elim))
  have hs20 := hk14.size_le
  go_wp2_with fail
  refine (laws_heldHand r0 _ (1) w14 hm10.lo (by omega) (by omega)).mono ?_
  rintro e w15 ⟨rfl, hb15⟩
  have hk15 := Kp.of_below0 hb15
  replace bx0_0 := bx_keep bx0_0 hk15 (by omega) (fun h => h)
  replace bx0_1 := bx_keep bx0_1 hk15 (by omega) (fun h => h)
  replace bx0_2 := bx_keep bx0_2 hk15 (by omega) (fun h => h)
  replace bx0_3 := bx_keep bx0_3 hk15 (by omega) (fun h => h)
  replace bx0_4 := bx_keep bx0_4 hk15 (by omega) (fun h => h)
  replace bx0_5 := bx_keep bx0_5 hk15 (by omega) (fun h => h)
  replace bx1_0 := bx_keep bx1_0 hk15 (by omega) (fun h => h)
  replace bx1_1 := bx_keep bx1_1 hk15 (by omega) (fun h => h)
  replace bx1_2 := bx_keep bx1_2 hk15 (by omega) (fun h => h)
  replace bx1_3 := bx_keep bx1_3 hk15 (by omega) (fun h => h)
  replace bx1_4 := bx_keep bx1_4 hk15 (by omega) (fun h => h)
  replace bx1_5 := bx_keep bx1_5 hk15 (by omega) (fun h => h)
  replace bx2_0 := bx_keep bx2_0 hk15 (by omega) (fun h => h)
  replace bx2_1 := bx_keep bx2_1 hk15 (by omega) (fun h => h)
  replace bx2_2 := bx_keep bx2_2 hk15 (by omega) (fun h => h)
  replace bx2_3 := bx_keep bx2_3 hk15 (by omega) (fun h => h)
  replace bx2_4 := bx_keep bx2_4 hk15 (by omega) (fun h => h)
  replace bx2_5 := bx_keep bx2_5 hk15 (by omega) (fun h => h)
  replace bx3_0 := bx_keep bx3_0 hk15 (by omega) (fun h => h)
  replace bx3_1 := bx_keep bx3_1 hk15 (by omega) (fun h => h)
  replace bx3_2 := bx_keep bx3_2 hk15 (by omega) (fun h => h)
  replace bx3_3 := bx_keep bx3_3 hk15 (by omega) (fun h => h)
  replace bx3_4 := bx_keep bx3_4 hk15 (by omega) (fun h => h)
  replace bx3_5 := bx_keep bx3_5 hk15 (by omega) (fun h => h)
  replace bx4_0 := bx_keep bx4_0 hk15 (by omega) (fun h => h)
  replace bx4_1 := bx_keep bx4_1 hk15 (by omega) (fun h => h)
  replace bx4_2 := bx_keep bx4_2 hk15 (by omega) (fun h => h)
  replace bx4_3 := bx_keep bx4_3 hk15 (by omega) (fun h => h)
  replace bx4_4 := bx_keep bx4_4 hk15 (by omega) (fun h => h)
  replace bx4_5 := bx_keep bx4_5 hk15 (by omega) (fun h => h)
  replace hO2_0 := rol_keep hO2_0 hk15 (by omega) (fun _ h => h.elim)
  replace hm8 := hm8.kp hk15 (fun _ _ h => h)
  replace hm10 := hm10.kp hk15 (fun _ _ h => h)
  replace hO13_0 := hO13_0.kp hk15 (fun _ _ h => h)
  replace hB := hB.trans (hk15.below hB.size (fun _ h => h.elim))
  have hs21 := hk15.size_le
  go_wp2
  go_ret
  exact ⟨rfl, hB⟩
end FnExactCopyHand
end Go.Proofs.Ytmofbfeclecdoaa

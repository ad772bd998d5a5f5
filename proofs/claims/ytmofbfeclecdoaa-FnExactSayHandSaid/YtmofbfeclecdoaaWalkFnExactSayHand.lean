/- The walk of FnExactSayHand. -/
import Derived.Test.YtmofbfeclecdoaaSsh
import Derived.Test.YtmofbfeclecdoaaLawB
import Derived.Test.YtmofbfeclecdoaaYHand
import Derived.Test.YtmofbfeclecdoaaYDraft
import Derived.Test.YtmofbfeclecdoaaLaw
import Derived.StillTailTactics
namespace Go.Proofs.Ytmofbfeclecdoaa
open Go.ChangeShapes Go.WideShapes Go.ChangeAt Go.RowKit Go.Dt
set_option linter.unusedVariables false
set_option linter.unusedSimpArgs false

namespace FnExactSayHand
set_option maxHeartbeats 1600000 in
set_option maxRecDepth 100000 in
theorem walk (W : World) (u0 : Array Value) (e0 : List D) (t0 : IsL [.int .i64, .int .i64, .sl 192 8 [.int .i64, .int .i64, .int .i64, .str, .int .i64, .bool, .int .i64, .sl 2 1 [.int .i64]], .int .i64, .sl 192 8 [.int .i64, .int .i64, .int .i64, .str, .int .i64, .bool, .int .i64, .sl 2 1 [.int .i64]], .sl 104 3 [.int .i64, .int .i64, .str]] e0) (x0 : RoL W (Lo W.heap.size) e0 u0.toList) (u1 : Array Value) (e1 : List D) (t1 : IsL [.int .i64, .int .i64, .str] e1) (x1 : RoL W (Lo W.heap.size) e1 u1.toList) :
    Calls Try.prog 18 #[.agg u0, .agg u1] W fun e w' => e = .returned (.bool true) ∧ Below W.heap.size W w' := by
  obtain ⟨y0, rfl, w0⟩ := Hand.is t0
  obtain ⟨us0, rfl⟩ : ∃ us : List Value, u0 = us.toArray := ⟨u0.toList, by simp⟩
  simp only [List.toList_toArray] at x0
  obtain ⟨Ap0_2, cp0_2, Ap0_4, cp0_4, Ap0_5, cp0_5, rfl, -⟩ := Hand.cells x0
  obtain ⟨y1, rfl, w1⟩ := Draft.is t1
  obtain ⟨us1, rfl⟩ : ∃ us : List Value, u1 = us.toArray := ⟨u1.toList, by simp⟩
  simp only [List.toList_toArray] at x1
  obtain rfl := Draft.cells x1
  by_cases hs_0 : Hand.z y0 ≤ 1048576
  rotate_left
  · have hB := Below.refl W.heap.size W
    go_enter Try.func18, Try.ntmps18
    have ha0 := Kp.alloc0 W (.cells #[.int .i64 y0.xStage, .int .i64 y0.xFrom.xNext, .slice Ap0_2 y0.xFrom.xMessages.length cp0_2, .int .i64 y0.xTo.xNext, .slice Ap0_4 y0.xTo.xMessages.length cp0_4, .slice Ap0_5 y0.xWaiting.length cp0_5] 97)
    have hx0 : W.heap.size < (W.alloc (.cells #[.int .i64 y0.xStage, .int .i64 y0.xFrom.xNext, .slice Ap0_2 y0.xFrom.xMessages.length cp0_2, .int .i64 y0.xTo.xNext, .slice Ap0_4 y0.xTo.xMessages.length cp0_4, .slice Ap0_5 y0.xWaiting.length cp0_5] 97)).heap.size := by simp
    replace hB := hB.trans (ha0.below hB.size (fun _ h => h.elim))
    have hs0 := ha0.size_le
    have bx0_0 := bx_new W #[.int .i64 y0.xStage, .int .i64 y0.xFrom.xNext, .slice Ap0_2 y0.xFrom.xMessages.length cp0_2, .int .i64 y0.xTo.xNext, .slice Ap0_4 y0.xTo.xMessages.length cp0_4, .slice Ap0_5 y0.xWaiting.length cp0_5] 97 0 (.int .i64 y0.xStage) rfl
    have bx0_1 := bx_new W #[.int .i64 y0.xStage, .int .i64 y0.xFrom.xNext, .slice Ap0_2 y0.xFrom.xMessages.length cp0_2, .int .i64 y0.xTo.xNext, .slice Ap0_4 y0.xTo.xMessages.length cp0_4, .slice Ap0_5 y0.xWaiting.length cp0_5] 97 1 (.int .i64 y0.xFrom.xNext) rfl
    have bx0_2 := bx_new W #[.int .i64 y0.xStage, .int .i64 y0.xFrom.xNext, .slice Ap0_2 y0.xFrom.xMessages.length cp0_2, .int .i64 y0.xTo.xNext, .slice Ap0_4 y0.xTo.xMessages.length cp0_4, .slice Ap0_5 y0.xWaiting.length cp0_5] 97 2 (.slice Ap0_2 y0.xFrom.xMessages.length cp0_2) rfl
    have bx0_3 := bx_new W #[.int .i64 y0.xStage, .int .i64 y0.xFrom.xNext, .slice Ap0_2 y0.xFrom.xMessages.length cp0_2, .int .i64 y0.xTo.xNext, .slice Ap0_4 y0.xTo.xMessages.length cp0_4, .slice Ap0_5 y0.xWaiting.length cp0_5] 97 3 (.int .i64 y0.xTo.xNext) rfl
    have bx0_4 := bx_new W #[.int .i64 y0.xStage, .int .i64 y0.xFrom.xNext, .slice Ap0_2 y0.xFrom.xMessages.length cp0_2, .int .i64 y0.xTo.xNext, .slice Ap0_4 y0.xTo.xMessages.length cp0_4, .slice Ap0_5 y0.xWaiting.length cp0_5] 97 4 (.slice Ap0_4 y0.xTo.xMessages.length cp0_4) rfl
    have bx0_5 := bx_new W #[.int .i64 y0.xStage, .int .i64 y0.xFrom.xNext, .slice Ap0_2 y0.xFrom.xMessages.length cp0_2, .int .i64 y0.xTo.xNext, .slice Ap0_4 y0.xTo.xMessages.length cp0_4, .slice Ap0_5 y0.xWaiting.length cp0_5] 97 5 (.slice Ap0_5 y0.xWaiting.length cp0_5) rfl
    have ha1 := Kp.alloc0 (W.alloc (.cells #[.int .i64 y0.xStage, .int .i64 y0.xFrom.xNext, .slice Ap0_2 y0.xFrom.xMessages.length cp0_2, .int .i64 y0.xTo.xNext, .slice Ap0_4 y0.xTo.xMessages.length cp0_4, .slice Ap0_5 y0.xWaiting.length cp0_5] 97)) (.cells #[.int .i64 y1.xSender, .int .i64 y1.xAt, .string y1.xText] 104)
    have hx1 : (W.alloc (.cells #[.int .i64 y0.xStage, .int .i64 y0.xFrom.xNext, .slice Ap0_2 y0.xFrom.xMessages.length cp0_2, .int .i64 y0.xTo.xNext, .slice Ap0_4 y0.xTo.xMessages.length cp0_4, .slice Ap0_5 y0.xWaiting.length cp0_5] 97)).heap.size < ((W.alloc (.cells #[.int .i64 y0.xStage, .int .i64 y0.xFrom.xNext, .slice Ap0_2 y0.xFrom.xMessages.length cp0_2, .int .i64 y0.xTo.xNext, .slice Ap0_4 y0.xTo.xMessages.length cp0_4, .slice Ap0_5 y0.xWaiting.length cp0_5] 97)).alloc (.cells #[.int .i64 y1.xSender, .int .i64 y1.xAt, .string y1.xText] 104)).heap.size := by simp
    replace bx0_0 := bx_keep bx0_0 ha1 (by omega) (fun h => h)
    replace bx0_1 := bx_keep bx0_1 ha1 (by omega) (fun h => h)
    replace bx0_2 := bx_keep bx0_2 ha1 (by omega) (fun h => h)
    replace bx0_3 := bx_keep bx0_3 ha1 (by omega) (fun h => h)
    replace bx0_4 := bx_keep bx0_4 ha1 (by omega) (fun h => h)
    replace bx0_5 := bx_keep bx0_5 ha1 (by omega) (fun h => h)
    replace hB := hB.trans (ha1.below hB.size (fun _ h => h.elim))
    have hs1 := ha1.size_le
    have bx1_0 := bx_new (W.alloc (.cells #[.int .i64 y0.xStage, .int .i64 y0.xFrom.xNext, .slice Ap0_2 y0.xFrom.xMessages.length cp0_2, .int .i64 y0.xTo.xNext, .slice Ap0_4 y0.xTo.xMessages.length cp0_4, .slice Ap0_5 y0.xWaiting.length cp0_5] 97)) #[.int .i64 y1.xSender, .int .i64 y1.xAt, .string y1.xText] 104 0 (.int .i64 y1.xSender) rfl
    simp only [World.size_alloc] at bx1_0
    have bx1_1 := bx_new (W.alloc (.cells #[.int .i64 y0.xStage, .int .i64 y0.xFrom.xNext, .slice Ap0_2 y0.xFrom.xMessages.length cp0_2, .int .i64 y0.xTo.xNext, .slice Ap0_4 y0.xTo.xMessages.length cp0_4, .slice Ap0_5 y0.xWaiting.length cp0_5] 97)) #[.int .i64 y1.xSender, .int .i64 y1.xAt, .string y1.xText] 104 1 (.int .i64 y1.xAt) rfl
    simp only [World.size_alloc] at bx1_1
    have bx1_2 := bx_new (W.alloc (.cells #[.int .i64 y0.xStage, .int .i64 y0.xFrom.xNext, .slice Ap0_2 y0.xFrom.xMessages.length cp0_2, .int .i64 y0.xTo.xNext, .slice Ap0_4 y0.xTo.xMessages.length cp0_4, .slice Ap0_5 y0.xWaiting.length cp0_5] 97)) #[.int .i64 y1.xSender, .int .i64 y1.xAt, .string y1.xText] 104 2 (.string y1.xText) rfl
    simp only [World.size_alloc] at bx1_2
    have HZ0 := laws_szHand y0 _ (1048576) ((W.alloc (.cells #[.int .i64 y0.xStage, .int .i64 y0.xFrom.xNext, .slice Ap0_2 y0.xFrom.xMessages.length cp0_2, .int .i64 y0.xTo.xNext, .slice Ap0_4 y0.xTo.xMessages.length cp0_4, .slice Ap0_5 y0.xWaiting.length cp0_5] 97)).alloc (.cells #[.int .i64 y1.xSender, .int .i64 y1.xAt, .string y1.xText] 104)) (rol_to x0 hB) w0 (by omega) (by omega)
    rw [szr_no (by push_cast at *; omega)] at HZ0
    go_wp2_with fail
    refine (HZ0).mono ?_
    rintro e w0 ⟨rfl, hb0⟩
    have hk0 := Kp.of_below0 hb0
    replace bx0_0 := bx_keep bx0_0 hk0 (by omega) (fun h => h)
    replace bx0_1 := bx_keep bx0_1 hk0 (by omega) (fun h => h)
    replace bx0_2 := bx_keep bx0_2 hk0 (by omega) (fun h => h)
    replace bx0_3 := bx_keep bx0_3 hk0 (by omega) (fun h => h)
    replace bx0_4 := bx_keep bx0_4 hk0 (by omega) (fun h => h)
    replace bx0_5 := bx_keep bx0_5 hk0 (by omega) (fun h => h)
    replace bx1_0 := bx_keep bx1_0 hk0 (by omega) (fun h => h)
    replace bx1_1 := bx_keep bx1_1 hk0 (by omega) (fun h => h)
    replace bx1_2 := bx_keep bx1_2 hk0 (by omega) (fun h => h)
    replace hB := hB.trans (hk0.below hB.size (fun _ h => h.elim))
    have hs2 := hk0.size_le
    go_wp2
    go_ret
    exact ⟨rfl, hB⟩
  by_cases hs_1 : Hand.z y0 + Draft.z y1 ≤ 1048576
  rotate_left
  · have hB := Below.refl W.heap.size W
    go_enter Try.func18, Try.ntmps18
    have ha3 := Kp.alloc0 W (.cells #[.int .i64 y0.xStage, .int .i64 y0.xFrom.xNext, .slice Ap0_2 y0.xFrom.xMessages.length cp0_2, .int .i64 y0.xTo.xNext, .slice Ap0_4 y0.xTo.xMessages.length cp0_4, .slice Ap0_5 y0.xWaiting.length cp0_5] 97)
    have hx3 : W.heap.size < (W.alloc (.cells #[.int .i64 y0.xStage, .int .i64 y0.xFrom.xNext, .slice Ap0_2 y0.xFrom.xMessages.length cp0_2, .int .i64 y0.xTo.xNext, .slice Ap0_4 y0.xTo.xMessages.length cp0_4, .slice Ap0_5 y0.xWaiting.length cp0_5] 97)).heap.size := by simp
    replace hB := hB.trans (ha3.below hB.size (fun _ h => h.elim))
    have hs3 := ha3.size_le
    have bx0_0 := bx_new W #[.int .i64 y0.xStage, .int .i64 y0.xFrom.xNext, .slice Ap0_2 y0.xFrom.xMessages.length cp0_2, .int .i64 y0.xTo.xNext, .slice Ap0_4 y0.xTo.xMessages.length cp0_4, .slice Ap0_5 y0.xWaiting.length cp0_5] 97 0 (.int .i64 y0.xStage) rfl
    have bx0_1 := bx_new W #[.int .i64 y0.xStage, .int .i64 y0.xFrom.xNext, .slice Ap0_2 y0.xFrom.xMessages.length cp0_2, .int .i64 y0.xTo.xNext, .slice Ap0_4 y0.xTo.xMessages.length cp0_4, .slice Ap0_5 y0.xWaiting.length cp0_5] 97 1 (.int .i64 y0.xFrom.xNext) rfl
    have bx0_2 := bx_new W #[.int .i64 y0.xStage, .int .i64 y0.xFrom.xNext, .slice Ap0_2 y0.xFrom.xMessages.length cp0_2, .int .i64 y0.xTo.xNext, .slice Ap0_4 y0.xTo.xMessages.length cp0_4, .slice Ap0_5 y0.xWaiting.length cp0_5] 97 2 (.slice Ap0_2 y0.xFrom.xMessages.length cp0_2) rfl
    have bx0_3 := bx_new W #[.int .i64 y0.xStage, .int .i64 y0.xFrom.xNext, .slice Ap0_2 y0.xFrom.xMessages.length cp0_2, .int .i64 y0.xTo.xNext, .slice Ap0_4 y0.xTo.xMessages.length cp0_4, .slice Ap0_5 y0.xWaiting.length cp0_5] 97 3 (.int .i64 y0.xTo.xNext) rfl
    have bx0_4 := bx_new W #[.int .i64 y0.xStage, .int .i64 y0.xFrom.xNext, .slice Ap0_2 y0.xFrom.xMessages.length cp0_2, .int .i64 y0.xTo.xNext, .slice Ap0_4 y0.xTo.xMessages.length cp0_4, .slice Ap0_5 y0.xWaiting.length cp0_5] 97 4 (.slice Ap0_4 y0.xTo.xMessages.length cp0_4) rfl
    have bx0_5 := bx_new W #[.int .i64 y0.xStage, .int .i64 y0.xFrom.xNext, .slice Ap0_2 y0.xFrom.xMessages.length cp0_2, .int .i64 y0.xTo.xNext, .slice Ap0_4 y0.xTo.xMessages.length cp0_4, .slice Ap0_5 y0.xWaiting.length cp0_5] 97 5 (.slice Ap0_5 y0.xWaiting.length cp0_5) rfl
    have ha4 := Kp.alloc0 (W.alloc (.cells #[.int .i64 y0.xStage, .int .i64 y0.xFrom.xNext, .slice Ap0_2 y0.xFrom.xMessages.length cp0_2, .int .i64 y0.xTo.xNext, .slice Ap0_4 y0.xTo.xMessages.length cp0_4, .slice Ap0_5 y0.xWaiting.length cp0_5] 97)) (.cells #[.int .i64 y1.xSender, .int .i64 y1.xAt, .string y1.xText] 104)
    have hx4 : (W.alloc (.cells #[.int .i64 y0.xStage, .int .i64 y0.xFrom.xNext, .slice Ap0_2 y0.xFrom.xMessages.length cp0_2, .int .i64 y0.xTo.xNext, .slice Ap0_4 y0.xTo.xMessages.length cp0_4, .slice Ap0_5 y0.xWaiting.length cp0_5] 97)).heap.size < ((W.alloc (.cells #[.int .i64 y0.xStage, .int .i64 y0.xFrom.xNext, .slice Ap0_2 y0.xFrom.xMessages.length cp0_2, .int .i64 y0.xTo.xNext, .slice Ap0_4 y0.xTo.xMessages.length cp0_4, .slice Ap0_5 y0.xWaiting.length cp0_5] 97)).alloc (.cells #[.int .i64 y1.xSender, .int .i64 y1.xAt, .string y1.xText] 104)).heap.size := by simp
    replace bx0_0 := bx_keep bx0_0 ha4 (by omega) (fun h => h)
    replace bx0_1 := bx_keep bx0_1 ha4 (by omega) (fun h => h)
    replace bx0_2 := bx_keep bx0_2 ha4 (by omega) (fun h => h)
    replace bx0_3 := bx_keep bx0_3 ha4 (by omega) (fun h => h)
    replace bx0_4 := bx_keep bx0_4 ha4 (by omega) (fun h => h)
    replace bx0_5 := bx_keep bx0_5 ha4 (by omega) (fun h => h)
    replace hB := hB.trans (ha4.below hB.size (fun _ h => h.elim))
    have hs4 := ha4.size_le
    have bx1_0 := bx_new (W.alloc (.cells #[.int .i64 y0.xStage, .int .i64 y0.xFrom.xNext, .slice Ap0_2 y0.xFrom.xMessages.length cp0_2, .int .i64 y0.xTo.xNext, .slice Ap0_4 y0.xTo.xMessages.length cp0_4, .slice Ap0_5 y0.xWaiting.length cp0_5] 97)) #[.int .i64 y1.xSender, .int .i64 y1.xAt, .string y1.xText] 104 0 (.int .i64 y1.xSender) rfl
    simp only [World.size_alloc] at bx1_0
    have bx1_1 := bx_new (W.alloc (.cells #[.int .i64 y0.xStage, .int .i64 y0.xFrom.xNext, .slice Ap0_2 y0.xFrom.xMessages.length cp0_2, .int .i64 y0.xTo.xNext, .slice Ap0_4 y0.xTo.xMessages.length cp0_4, .slice Ap0_5 y0.xWaiting.length cp0_5] 97)) #[.int .i64 y1.xSender, .int .i64 y1.xAt, .string y1.xText] 104 1 (.int .i64 y1.xAt) rfl
    simp only [World.size_alloc] at bx1_1
    have bx1_2 := bx_new (W.alloc (.cells #[.int .i64 y0.xStage, .int .i64 y0.xFrom.xNext, .slice Ap0_2 y0.xFrom.xMessages.length cp0_2, .int .i64 y0.xTo.xNext, .slice Ap0_4 y0.xTo.xMessages.length cp0_4, .slice Ap0_5 y0.xWaiting.length cp0_5] 97)) #[.int .i64 y1.xSender, .int .i64 y1.xAt, .string y1.xText] 104 2 (.string y1.xText) rfl
    simp only [World.size_alloc] at bx1_2
    have HZ0 := laws_szHand y0 _ (1048576) ((W.alloc (.cells #[.int .i64 y0.xStage, .int .i64 y0.xFrom.xNext, .slice Ap0_2 y0.xFrom.xMessages.length cp0_2, .int .i64 y0.xTo.xNext, .slice Ap0_4 y0.xTo.xMessages.length cp0_4, .slice Ap0_5 y0.xWaiting.length cp0_5] 97)).alloc (.cells #[.int .i64 y1.xSender, .int .i64 y1.xAt, .string y1.xText] 104)) (rol_to x0 hB) w0 (by omega) (by omega)
    rw [szr_yes (by push_cast at *; omega)] at HZ0
    go_wp2_with fail
    refine (HZ0).mono ?_
    rintro e w0 ⟨rfl, hb0⟩
    have hk0 := Kp.of_below0 hb0
    replace bx0_0 := bx_keep bx0_0 hk0 (by omega) (fun h => h)
    replace bx0_1 := bx_keep bx0_1 hk0 (by omega) (fun h => h)
    replace bx0_2 := bx_keep bx0_2 hk0 (by omega) (fun h => h)
    replace bx0_3 := bx_keep bx0_3 hk0 (by omega) (fun h => h)
    replace bx0_4 := bx_keep bx0_4 hk0 (by omega) (fun h => h)
    replace bx0_5 := bx_keep bx0_5 hk0 (by omega) (fun h => h)
    replace bx1_0 := bx_keep bx1_0 hk0 (by omega) (fun h => h)
    replace bx1_1 := bx_keep bx1_1 hk0 (by omega) (fun h => h)
    replace bx1_2 := bx_keep bx1_2 hk0 (by omega) (fun h => h)
    replace hB := hB.trans (hk0.below hB.size (fun _ h => h.elim))
    have hs5 := hk0.size_le
    have HZ1 := laws_szDraft y1 _ (1048576 - ((Hand.z y0 : Nat) : Int)) w0 (rol_to x1 hB) w1 (by omega) (by omega)
    rw [szr_no (by push_cast at *; omega)] at HZ1
    go_wp2_with fail
    refine (HZ1).mono ?_
    rintro e w1 ⟨rfl, hb1⟩
    have hk1 := Kp.of_below0 hb1
    replace bx0_0 := bx_keep bx0_0 hk1 (by omega) (fun h => h)
    replace bx0_1 := bx_keep bx0_1 hk1 (by omega) (fun h => h)
    replace bx0_2 := bx_keep bx0_2 hk1 (by omega) (fun h => h)
    replace bx0_3 := bx_keep bx0_3 hk1 (by omega) (fun h => h)
    replace bx0_4 := bx_keep bx0_4 hk1 (by omega) (fun h => h)
    replace bx0_5 := bx_keep bx0_5 hk1 (by omega) (fun h => h)
    replace bx1_0 := bx_keep bx1_0 hk1 (by omega) (fun h => h)
    replace bx1_1 := bx_keep bx1_1 hk1 (by omega) (fun h => h)
    replace bx1_2 := bx_keep bx1_2 hk1 (by omega) (fun h => h)
    replace hB := hB.trans (hk1.below hB.size (fun _ h => h.elim))
    have hs6 := hk1.size_le
    go_wp2
    go_ret
    exact ⟨rfl, hB⟩
  have hz0 : Hand.z y0 ≤ 1048576 := by omega
  have hz1 : Draft.z y1 ≤ 1048576 := by omega
  have HT_aH := fun (w : World) (hb : Below W.heap.size W w) => laws_toHand y0 _ w (rol_to x0 hb) hz0
  have HT_aD := fun (w : World) (hb : Below W.heap.size W w) => laws_toDraft y1 _ w (rol_to x1 hb) hz1
  have HS := SayHand_lawS y0 y1
  have HI := SayHand_lawI y0 y1
  have HN := SayHand_lawN y0 y1 hz0 hz1
  generalize SayHand_f y0 y1 = r at *
  obtain ⟨r0, r1⟩ := r
  simp only at *
  have hsn0 := HN
  have hB := Below.refl W.heap.size W
  go_enter Try.func18, Try.ntmps18
  have ha7 := Kp.alloc0 W (.cells #[.int .i64 y0.xStage, .int .i64 y0.xFrom.xNext, .slice Ap0_2 y0.xFrom.xMessages.length cp0_2, .int .i64 y0.xTo.xNext, .slice Ap0_4 y0.xTo.xMessages.length cp0_4, .slice Ap0_5 y0.xWaiting.length cp0_5] 97)
  have hx7 : W.heap.size < (W.alloc (.cells #[.int .i64 y0.xStage, .int .i64 y0.xFrom.xNext, .slice Ap0_2 y0.xFrom.xMessages.length cp0_2, .int .i64 y0.xTo.xNext, .slice Ap0_4 y0.xTo.xMessages.length cp0_4, .slice Ap0_5 y0.xWaiting.length cp0_5] 97)).heap.size := by simp
  replace hB := hB.trans (ha7.below hB.size (fun _ h => h.elim))
  have hs7 := ha7.size_le
  have bx0_0 := bx_new W #[.int .i64 y0.xStage, .int .i64 y0.xFrom.xNext, .slice Ap0_2 y0.xFrom.xMessages.length cp0_2, .int .i64 y0.xTo.xNext, .slice Ap0_4 y0.xTo.xMessages.length cp0_4, .slice Ap0_5 y0.xWaiting.length cp0_5] 97 0 (.int .i64 y0.xStage) rfl
  have bx0_1 := bx_new W #[.int .i64 y0.xStage, .int .i64 y0.xFrom.xNext, .slice Ap0_2 y0.xFrom.xMessages.length cp0_2, .int .i64 y0.xTo.xNext, .slice Ap0_4 y0.xTo.xMessages.length cp0_4, .slice Ap0_5 y0.xWaiting.length cp0_5] 97 1 (.int .i64 y0.xFrom.xNext) rfl
  have bx0_2 := bx_new W #[.int .i64 y0.xStage, .int .i64 y0.xFrom.xNext, .slice Ap0_2 y0.xFrom.xMessages.length cp0_2, .int .i64 y0.xTo.xNext, .slice Ap0_4 y0.xTo.xMessages.length cp0_4, .slice Ap0_5 y0.xWaiting.length cp0_5] 97 2 (.slice Ap0_2 y0.xFrom.xMessages.length cp0_2) rfl
  have bx0_3 := bx_new W #[.int .i64 y0.xStage, .int .i64 y0.xFrom.xNext, .slice Ap0_2 y0.xFrom.xMessages.length cp0_2, .int .i64 y0.xTo.xNext, .slice Ap0_4 y0.xTo.xMessages.length cp0_4, .slice Ap0_5 y0.xWaiting.length cp0_5] 97 3 (.int .i64 y0.xTo.xNext) rfl
  have bx0_4 := bx_new W #[.int .i64 y0.xStage, .int .i64 y0.xFrom.xNext, .slice Ap0_2 y0.xFrom.xMessages.length cp0_2, .int .i64 y0.xTo.xNext, .slice Ap0_4 y0.xTo.xMessages.length cp0_4, .slice Ap0_5 y0.xWaiting.length cp0_5] 97 4 (.slice Ap0_4 y0.xTo.xMessages.length cp0_4) rfl
  have bx0_5 := bx_new W #[.int .i64 y0.xStage, .int .i64 y0.xFrom.xNext, .slice Ap0_2 y0.xFrom.xMessages.length cp0_2, .int .i64 y0.xTo.xNext, .slice Ap0_4 y0.xTo.xMessages.length cp0_4, .slice Ap0_5 y0.xWaiting.length cp0_5] 97 5 (.slice Ap0_5 y0.xWaiting.length cp0_5) rfl
  have ha8 := Kp.alloc0 (W.alloc (.cells #[.int .i64 y0.xStage, .int .i64 y0.xFrom.xNext, .slice Ap0_2 y0.xFrom.xMessages.length cp0_2, .int .i64 y0.xTo.xNext, .slice Ap0_4 y0.xTo.xMessages.length cp0_4, .slice Ap0_5 y0.xWaiting.length cp0_5] 97)) (.cells #[.int .i64 y1.xSender, .int .i64 y1.xAt, .string y1.xText] 104)
  have hx8 : (W.alloc (.cells #[.int .i64 y0.xStage, .int .i64 y0.xFrom.xNext, .slice Ap0_2 y0.xFrom.xMessages.length cp0_2, .int .i64 y0.xTo.xNext, .slice Ap0_4 y0.xTo.xMessages.length cp0_4, .slice Ap0_5 y0.xWaiting.length cp0_5] 97)).heap.size < ((W.alloc (.cells #[.int .i64 y0.xStage, .int .i64 y0.xFrom.xNext, .slice Ap0_2 y0.xFrom.xMessages.length cp0_2, .int .i64 y0.xTo.xNext, .slice Ap0_4 y0.xTo.xMessages.length cp0_4, .slice Ap0_5 y0.xWaiting.length cp0_5] 97)).alloc (.cells #[.int .i64 y1.xSender, .int .i64 y1.xAt, .string y1.xText] 104)).heap.size := by simp
  replace bx0_0 := bx_keep bx0_0 ha8 (by omega) (fun h => h)
  replace bx0_1 := bx_keep bx0_1 ha8 (by omega) (fun h => h)
  replace bx0_2 := bx_keep bx0_2 ha8 (by omega) (fun h => h)
  replace bx0_3 := bx_keep bx0_3 ha8 (by omega) (fun h => h)
  replace bx0_4 := bx_keep bx0_4 ha8 (by omega) (fun h => h)
  replace bx0_5 := bx_keep bx0_5 ha8 (by omega) (fun h => h)
  replace hB := hB.trans (ha8.below hB.size (fun _ h => h.elim))
  have hs8 := ha8.size_le
  have bx1_0 := bx_new (W.alloc (.cells #[.int .i64 y0.xStage, .int .i64 y0.xFrom.xNext, .slice Ap0_2 y0.xFrom.xMessages.length cp0_2, .int .i64 y0.xTo.xNext, .slice Ap0_4 y0.xTo.xMessages.length cp0_4, .slice Ap0_5 y0.xWaiting.length cp0_5] 97)) #[.int .i64 y1.xSender, .int .i64 y1.xAt, .string y1.xText] 104 0 (.int .i64 y1.xSender) rfl
  simp only [World.size_alloc] at bx1_0
  have bx1_1 := bx_new (W.alloc (.cells #[.int .i64 y0.xStage, .int .i64 y0.xFrom.xNext, .slice Ap0_2 y0.xFrom.xMessages.length cp0_2, .int .i64 y0.xTo.xNext, .slice Ap0_4 y0.xTo.xMessages.length cp0_4, .slice Ap0_5 y0.xWaiting.length cp0_5] 97)) #[.int .i64 y1.xSender, .int .i64 y1.xAt, .string y1.xText] 104 1 (.int .i64 y1.xAt) rfl
  simp only [World.size_alloc] at bx1_1
  have bx1_2 := bx_new (W.alloc (.cells #[.int .i64 y0.xStage, .int .i64 y0.xFrom.xNext, .slice Ap0_2 y0.xFrom.xMessages.length cp0_2, .int .i64 y0.xTo.xNext, .slice Ap0_4 y0.xTo.xMessages.length cp0_4, .slice Ap0_5 y0.xWaiting.length cp0_5] 97)) #[.int .i64 y1.xSender, .int .i64 y1.xAt, .string y1.xText] 104 2 (.string y1.xText) rfl
  simp only [World.size_alloc] at bx1_2
  have HZ0 := laws_szHand y0 _ (1048576) ((W.alloc (.cells #[.int .i64 y0.xStage, .int .i64 y0.xFrom.xNext, .slice Ap0_2 y0.xFrom.xMessages.length cp0_2, .int .i64 y0.xTo.xNext, .slice Ap0_4 y0.xTo.xMessages.length cp0_4, .slice Ap0_5 y0.xWaiting.length cp0_5] 97)).alloc (.cells #[.int .i64 y1.xSender, .int .i64 y1.xAt, .string y1.xText] 104)) (rol_to x0 hB) w0 (by omega) (by omega)
  rw [szr_yes (by push_cast at *; omega)] at HZ0
  go_wp2_with fail
  refine (HZ0).mono ?_
  rintro e w0 ⟨rfl, hb0⟩
  have hk0 := Kp.of_below0 hb0
  replace bx0_0 := bx_keep bx0_0 hk0 (by omega) (fun h => h)
  replace bx0_1 := bx_keep bx0_1 hk0 (by omega) (fun h => h)
  replace bx0_2 := bx_keep bx0_2 hk0 (by omega) (fun h => h)
  replace bx0_3 := bx_keep bx0_3 hk0 (by omega) (fun h => h)
  replace bx0_4 := bx_keep bx0_4 hk0 (by omega) (fun h => h)
  replace bx0_5 := bx_keep bx0_5 hk0 (by omega) (fun h => h)
  replace bx1_0 := bx_keep bx1_0 hk0 (by omega) (fun h => h)
  replace bx1_1 := bx_keep bx1_1 hk0 (by omega) (fun h => h)
  replace bx1_2 := bx_keep bx1_2 hk0 (by omega) (fun h => h)
  replace hB := hB.trans (hk0.below hB.size (fun _ h => h.elim))
  have hs9 := hk0.size_le
  have HZ1 := laws_szDraft y1 _ (1048576 - ((Hand.z y0 : Nat) : Int)) w0 (rol_to x1 hB) w1 (by omega) (by omega)
  rw [szr_yes (by push_cast at *; omega)] at HZ1
  go_wp2_with fail
  refine (HZ1).mono ?_
  rintro e w1 ⟨rfl, hb1⟩
  have hk1 := Kp.of_below0 hb1
  replace bx0_0 := bx_keep bx0_0 hk1 (by omega) (fun h => h)
  replace bx0_1 := bx_keep bx0_1 hk1 (by omega) (fun h => h)
  replace bx0_2 := bx_keep bx0_2 hk1 (by omega) (fun h => h)
  replace bx0_3 := bx_keep bx0_3 hk1 (by omega) (fun h => h)
  replace bx0_4 := bx_keep bx0_4 hk1 (by omega) (fun h => h)
  replace bx0_5 := bx_keep bx0_5 hk1 (by omega) (fun h => h)
  replace bx1_0 := bx_keep bx1_0 hk1 (by omega) (fun h => h)
  replace bx1_1 := bx_keep bx1_1 hk1 (by omega) (fun h => h)
  replace bx1_2 := bx_keep bx1_2 hk1 (by omega) (fun h => h)
  replace hB := hB.trans (hk1.below hB.size (fun _ h => h.elim))
  have hs10 := hk1.size_le
  go_wp2_with fail
  have hA2 : Gain w1 w1.heap.size w1 [] none := Gain.start (Below.refl _ _) (Nat.le_refl _) (fun i e h => by simp at h)
  have HSS2 := Lib.hid (show ∀ w' : World, Below w1.heap.size w1 w' → (fun w' => Below w1.heap.size w1 w' ∧ w'.cell? ⟨W.heap.size, 0, none⟩ = some (.int .i64 y0.xStage) ∧ w'.cell? ⟨W.heap.size, 1, none⟩ = some (.int .i64 y0.xFrom.xNext) ∧ w'.cell? ⟨W.heap.size, 2, none⟩ = some (.slice Ap0_2 y0.xFrom.xMessages.length cp0_2) ∧ w'.cell? ⟨W.heap.size, 3, none⟩ = some (.int .i64 y0.xTo.xNext) ∧ w'.cell? ⟨W.heap.size, 4, none⟩ = some (.slice Ap0_4 y0.xTo.xMessages.length cp0_4) ∧ w'.cell? ⟨W.heap.size, 5, none⟩ = some (.slice Ap0_5 y0.xWaiting.length cp0_5) ∧ w'.cell? ⟨W.heap.size + 1, 0, none⟩ = some (.int .i64 y1.xSender) ∧ w'.cell? ⟨W.heap.size + 1, 1, none⟩ = some (.int .i64 y1.xAt) ∧ w'.cell? ⟨W.heap.size + 1, 2, none⟩ = some (.string y1.xText)) w' from fun w' h => ⟨h, (h.cell (p := ⟨W.heap.size, 0, none⟩) (by show W.heap.size < w1.heap.size; omega)).trans bx0_0, (h.cell (p := ⟨W.heap.size, 1, none⟩) (by show W.heap.size < w1.heap.size; omega)).trans bx0_1, (h.cell (p := ⟨W.heap.size, 2, none⟩) (by show W.heap.size < w1.heap.size; omega)).trans bx0_2, (h.cell (p := ⟨W.heap.size, 3, none⟩) (by show W.heap.size < w1.heap.size; omega)).trans bx0_3, (h.cell (p := ⟨W.heap.size, 4, none⟩) (by show W.heap.size < w1.heap.size; omega)).trans bx0_4, (h.cell (p := ⟨W.heap.size, 5, none⟩) (by show W.heap.size < w1.heap.size; omega)).trans bx0_5, (h.cell (p := ⟨W.heap.size + 1, 0, none⟩) (by show W.heap.size + 1 < w1.heap.size; omega)).trans bx1_0, (h.cell (p := ⟨W.heap.size + 1, 1, none⟩) (by show W.heap.size + 1 < w1.heap.size; omega)).trans bx1_1, (h.cell (p := ⟨W.heap.size + 1, 2, none⟩) (by show W.heap.size + 1 < w1.heap.size; omega)).trans bx1_2⟩)
  go_cut [6, 7] (fun s0 s1 wx => ∃ (p : Nat) (us : List Value), s0 = .pointer (some ⟨p, 0, none⟩) ∧ s1 = .bool r1 ∧ DrS w1 78 (Hand.d true r0) p us us.toArray wx)
  case first =>
    go_region_held3 (fun w' => Below w1.heap.size w1 w' ∧ w'.cell? ⟨W.heap.size, 0, none⟩ = some (.int .i64 y0.xStage) ∧ w'.cell? ⟨W.heap.size, 1, none⟩ = some (.int .i64 y0.xFrom.xNext) ∧ w'.cell? ⟨W.heap.size, 2, none⟩ = some (.slice Ap0_2 y0.xFrom.xMessages.length cp0_2) ∧ w'.cell? ⟨W.heap.size, 3, none⟩ = some (.int .i64 y0.xTo.xNext) ∧ w'.cell? ⟨W.heap.size, 4, none⟩ = some (.slice Ap0_4 y0.xTo.xMessages.length cp0_4) ∧ w'.cell? ⟨W.heap.size, 5, none⟩ = some (.slice Ap0_5 y0.xWaiting.length cp0_5) ∧ w'.cell? ⟨W.heap.size + 1, 0, none⟩ = some (.int .i64 y1.xSender) ∧ w'.cell? ⟨W.heap.size + 1, 1, none⟩ = some (.int .i64 y1.xAt) ∧ w'.cell? ⟨W.heap.size + 1, 2, none⟩ = some (.string y1.xText))
      (((refine HSS2.out _ ?_); (repeat (with_reducible refine Below.setCell ?_ ?_ _)); (first | (with_reducible exact Gain.below hA2) | (with_reducible exact Gain.below (Gain.drew hA2)) | (with_reducible exact Gain.below (Gain.alloc0 hA2 _)) | (with_reducible exact Gain.below (Gain.alloc0 (Gain.drew hA2) _)) | (with_reducible exact Gain.below (Gain.drew (Gain.alloc0 hA2 _)))); (all_goals (first | omega | (dsimp only; omega) | (simp; omega)))))
      ((first | (go_at_call 66; (with_reducible refine (HT_aH _ (Below.trans hB (Below.mono (B := w1.heap.size) (by first | (with_reducible exact Gain.below hA2) | (with_reducible exact Gain.below (Gain.drew hA2)) | (with_reducible exact Gain.below (Gain.alloc hA2 _ _)) | (with_reducible exact Gain.below (Gain.alloc_drew hA2 _ _)) | (with_reducible exact Gain.below (Gain.drew (Gain.alloc hA2 _ _))) | (with_reducible exact Gain.below (Gain.alloc0 hA2 _))) (by omega)))).mono ?_); rintro e v2_0 ⟨ust2_0, Ft2_0, rfl, hOt2_0, hb2_0, hlot2_0⟩; obtain ⟨Aot2_0_2, cot2_0_2, Aot2_0_4, cot2_0_4, Aot2_0_5, cot2_0_5, rfl, -⟩ := Hand.cells hOt2_0.ro; (first | (replace hA2 := Gain.go hb2_0 hA2) | (replace hA2 := Gain.go hb2_0 (Gain.drew hA2)) | (replace hA2 := Gain.go hb2_0 (Gain.alloc hA2 _ _)) | (replace hA2 := Gain.go hb2_0 (Gain.alloc_drew hA2 _ _)) | (replace hA2 := Gain.go hb2_0 (Gain.drew (Gain.alloc hA2 _ _))) | (replace hA2 := Gain.go hb2_0 (Gain.alloc0 hA2 _))); skip; have hT2_0 : Gain v2_0 v2_0.heap.size v2_0 [] none := Gain.start (Below.refl _ _) (Nat.le_refl _) (fun i e h => by simp at h); have hle2_0 := hA2.le; (try (have xp := hA2.bx; have yq0 := xp.cell 0 rfl; have zq0 := xp.free 0; have yq1 := xp.cell 1 rfl; have zq1 := xp.free 1; have yq2 := xp.cell 2 rfl; have zq2 := xp.free 2; have yq3 := xp.cell 3 rfl; have zq3 := xp.free 3; have yq4 := xp.cell 4 rfl; have zq4 := xp.free 4; have yq5 := xp.cell 5 rfl; have zq5 := xp.free 5; have hzp := xp.lt; have hbp := (hA2.box _ _ _ rfl).2.1))) | (go_at_call 78; (with_reducible refine (HT_aD _ (Below.trans hB (Below.mono (B := w1.heap.size) (by first | (with_reducible exact Gain.below hA2) | (with_reducible exact Gain.below (Gain.drew hA2)) | (with_reducible exact Gain.below (Gain.alloc hA2 _ _)) | (with_reducible exact Gain.below (Gain.alloc_drew hA2 _ _)) | (with_reducible exact Gain.below (Gain.drew (Gain.alloc hA2 _ _))) | (with_reducible exact Gain.below (Gain.alloc0 hA2 _))) (by omega)))).mono ?_); rintro e v2_1 ⟨ust2_1, Ft2_1, rfl, hOt2_1, hb2_1, hlot2_1⟩; obtain rfl := Draft.cells hOt2_1.ro; (first | (replace hA2 := Gain.go hb2_1 hA2) | (replace hA2 := Gain.go hb2_1 (Gain.drew hA2)) | (replace hA2 := Gain.go hb2_1 (Gain.alloc hA2 _ _)) | (replace hA2 := Gain.go hb2_1 (Gain.alloc_drew hA2 _ _)) | (replace hA2 := Gain.go hb2_1 (Gain.drew (Gain.alloc hA2 _ _))) | (replace hA2 := Gain.go hb2_1 (Gain.alloc0 hA2 _))); (first | (replace hT2_0 := Gain.go hb2_1 hT2_0) | (replace hT2_0 := Gain.go hb2_1 (Gain.drew hT2_0)) | (replace hT2_0 := Gain.go hb2_1 (Gain.alloc0 hT2_0 _)) | (replace hT2_0 := Gain.go hb2_1 (Gain.drew (Gain.alloc0 hT2_0 _))) | (replace hT2_0 := Gain.go hb2_1 (Gain.alloc0 (Gain.drew hT2_0) _))); have hT2_1 : Gain v2_1 v2_1.heap.size v2_1 [] none := Gain.start (Below.refl _ _) (Nat.le_refl _) (fun i e h => by simp at h); have hle2_1 := hA2.le; (try (have xp := hA2.bx; have yq0 := xp.cell 0 rfl; have zq0 := xp.free 0; have yq1 := xp.cell 1 rfl; have zq1 := xp.free 1; have yq2 := xp.cell 2 rfl; have zq2 := xp.free 2; have yq3 := xp.cell 3 rfl; have zq3 := xp.free 3; have yq4 := xp.cell 4 rfl; have zq4 := xp.free 4; have yq5 := xp.cell 5 rfl; have zq5 := xp.free 5; have hzp := xp.lt; have hbp := (hA2.box _ _ _ rfl).2.1))) | (go_at_call 77; (with_reducible refine (HS _ _ _ (rol_to hOt2_0.lo (by first | (with_reducible exact Gain.below hT2_0) | (with_reducible exact Gain.below (Gain.drew hT2_0)) | (with_reducible exact Gain.below (Gain.alloc0 hT2_0 _)) | (with_reducible exact Gain.below (Gain.drew (Gain.alloc0 hT2_0 _))) | (with_reducible exact Gain.below (Gain.alloc0 (Gain.drew hT2_0) _)))) (rol_to hOt2_1.lo (by first | (with_reducible exact Gain.below hT2_1) | (with_reducible exact Gain.below (Gain.drew hT2_1)) | (with_reducible exact Gain.below (Gain.alloc0 hT2_1 _)) | (with_reducible exact Gain.below (Gain.drew (Gain.alloc0 hT2_1 _))) | (with_reducible exact Gain.below (Gain.alloc0 (Gain.drew hT2_1) _)))) hz0 hz1).mono ?_); rintro e vr2 ⟨usr2, rfl, hOr2, hb2_c⟩; obtain ⟨Arr2_2, crr2_2, Arr2_4, crr2_4, Arr2_5, crr2_5, rfl, -⟩ := Hand.cells hOr2; (try (first | (have hp2 := Gain.bxlt hb2_c hA2) | (have hp2 := Gain.bxlt hb2_c (Gain.drew hA2)) | (have hp2 := Gain.bxlt hb2_c (Gain.alloc hA2 _ _)))); have hleq2 := (by first | (with_reducible exact Gain.leq hb2_c hA2) | (with_reducible exact Gain.leq hb2_c (Gain.drew hA2)) | (with_reducible exact Gain.leq hb2_c (Gain.alloc hA2 _ _)) | (with_reducible exact Gain.leq hb2_c (Gain.alloc_drew hA2 _ _)) | (with_reducible exact Gain.leq hb2_c (Gain.drew (Gain.alloc hA2 _ _))) | (with_reducible exact Gain.leq hb2_c (Gain.alloc0 hA2 _)) : w1.heap.size ≤ _); (first | (replace hA2 := Gain.go hb2_c hA2) | (replace hA2 := Gain.go hb2_c (Gain.drew hA2)) | (replace hA2 := Gain.go hb2_c (Gain.alloc hA2 _ _)) | (replace hA2 := Gain.go hb2_c (Gain.alloc_drew hA2 _ _)) | (replace hA2 := Gain.go hb2_c (Gain.drew (Gain.alloc hA2 _ _))) | (replace hA2 := Gain.go hb2_c (Gain.alloc0 hA2 _))); have hle2 := hA2.le; (try (have xp := hA2.bx; have yq0 := xp.cell 0 rfl; have zq0 := xp.free 0; have yq1 := xp.cell 1 rfl; have zq1 := xp.free 1; have yq2 := xp.cell 2 rfl; have zq2 := xp.free 2; have yq3 := xp.cell 3 rfl; have zq3 := xp.free 3; have yq4 := xp.cell 4 rfl; have zq4 := xp.free 4; have yq5 := xp.cell 5 rfl; have zq5 := xp.free 5; have hzp := xp.lt; have hbp := (hA2.box _ _ _ rfl).2.1)))))
    all_goals
      go_wp2_with fail
      go_meet
      refine ⟨_, [.int .i64 r0.xStage, .int .i64 r0.xFrom.xNext, .slice Arr2_2 r0.xFrom.xMessages.length crr2_2, .int .i64 r0.xTo.xNext, .slice Arr2_4 r0.xTo.xMessages.length crr2_4, .slice Arr2_5 r0.xWaiting.length crr2_5], rfl, rfl, ?_⟩
      first | (with_reducible exact DrS.new hA2 hOr2) | (exact DrS.is (((((((DrS.start hA2 hOr2 hp2).put 0 _).put 1 _).put 2 _).put 3 _).put 4 _).put 5 _) rfl)
  case rest =>
    obtain ⟨p2, us2, rfl, rfl, hD2, hO2x⟩ := hcut
    clear hA2 HSS2
    rename World => w2
    have hb2 := hD2.below
    have hk2 := Kp.of_below0 hb2
    replace bx0_0 := bx_keep bx0_0 hk2 (by omega) (fun h => h)
    replace bx0_1 := bx_keep bx0_1 hk2 (by omega) (fun h => h)
    replace bx0_2 := bx_keep bx0_2 hk2 (by omega) (fun h => h)
    replace bx0_3 := bx_keep bx0_3 hk2 (by omega) (fun h => h)
    replace bx0_4 := bx_keep bx0_4 hk2 (by omega) (fun h => h)
    replace bx0_5 := bx_keep bx0_5 hk2 (by omega) (fun h => h)
    replace bx1_0 := bx_keep bx1_0 hk2 (by omega) (fun h => h)
    replace bx1_1 := bx_keep bx1_1 hk2 (by omega) (fun h => h)
    replace bx1_2 := bx_keep bx1_2 hk2 (by omega) (fun h => h)
    replace hB := hB.trans (hk2.below hB.size (fun _ h => h.elim))
    have hs11 := hk2.size_le
    have hO2_0 := hO2x.mono (Pb' := Lo w2.heap.size) (fun b hb => hb.2)
    obtain ⟨Ar20_2, cr20_2, Ar20_4, cr20_4, Ar20_5, cr20_5, rfl, -⟩ := Hand.cells hO2_0
    have hxl2 := hD2.bx.lt
    have hxg2 := (hD2.box _ _ _ rfl).2.1
    have bx2_0 := hD2.bx.cell 0 rfl
    simp only [List.getElem_toArray, List.getElem_cons_zero, List.getElem_cons_succ] at bx2_0
    have bx2_1 := hD2.bx.cell 1 rfl
    simp only [List.getElem_toArray, List.getElem_cons_zero, List.getElem_cons_succ] at bx2_1
    have bx2_2 := hD2.bx.cell 2 rfl
    simp only [List.getElem_toArray, List.getElem_cons_zero, List.getElem_cons_succ] at bx2_2
    have bx2_3 := hD2.bx.cell 3 rfl
    simp only [List.getElem_toArray, List.getElem_cons_zero, List.getElem_cons_succ] at bx2_3
    have bx2_4 := hD2.bx.cell 4 rfl
    simp only [List.getElem_toArray, List.getElem_cons_zero, List.getElem_cons_succ] at bx2_4
    have bx2_5 := hD2.bx.cell 5 rfl
    simp only [List.getElem_toArray, List.getElem_cons_zero, List.getElem_cons_succ] at bx2_5
    go_wp2_with fail
    refine (HT_aH w2 hB).mono ?_
    rintro e w3 ⟨us3, F3, rfl, hO3, hb3, hlo3⟩
    have hk3 := Kp.of_below0 hb3
    replace bx0_0 := bx_keep bx0_0 hk3 (by omega) (fun h => h)
    replace bx0_1 := bx_keep bx0_1 hk3 (by omega) (fun h => h)
    replace bx0_2 := bx_keep bx0_2 hk3 (by omega) (fun h => h)
    replace bx0_3 := bx_keep bx0_3 hk3 (by omega) (fun h => h)
    replace bx0_4 := bx_keep bx0_4 hk3 (by omega) (fun h => h)
    replace bx0_5 := bx_keep bx0_5 hk3 (by omega) (fun h => h)
    replace bx1_0 := bx_keep bx1_0 hk3 (by omega) (fun h => h)
    replace bx1_1 := bx_keep bx1_1 hk3 (by omega) (fun h => h)
    replace bx1_2 := bx_keep bx1_2 hk3 (by omega) (fun h => h)
    replace bx2_0 := bx_keep bx2_0 hk3 (by omega) (fun h => h)
    replace bx2_1 := bx_keep bx2_1 hk3 (by omega) (fun h => h)
    replace bx2_2 := bx_keep bx2_2 hk3 (by omega) (fun h => h)
    replace bx2_3 := bx_keep bx2_3 hk3 (by omega) (fun h => h)
    replace bx2_4 := bx_keep bx2_4 hk3 (by omega) (fun h => h)
    replace bx2_5 := bx_keep bx2_5 hk3 (by omega) (fun h => h)
    replace hO2_0 := rol_keep hO2_0 hk3 (by omega) (fun _ h => h.elim)
    replace hB := hB.trans (hk3.below hB.size (fun _ h => h.elim))
    have hs12 := hk3.size_le
    obtain ⟨Ao3_2, co3_2, Ao3_4, co3_4, Ao3_5, co3_5, rfl, -⟩ := Hand.cells hO3.ro
    have hhi3 : ∀ b, F3 b → b < w3.heap.size := hO3.lt
    have ha13 := Kp.alloc0 w3 (.cells #[.int .i64 y0.xStage, .int .i64 y0.xFrom.xNext, .slice Ao3_2 y0.xFrom.xMessages.length co3_2, .int .i64 y0.xTo.xNext, .slice Ao3_4 y0.xTo.xMessages.length co3_4, .slice Ao3_5 y0.xWaiting.length co3_5] 78)
    have hx13 : w3.heap.size < (w3.alloc (.cells #[.int .i64 y0.xStage, .int .i64 y0.xFrom.xNext, .slice Ao3_2 y0.xFrom.xMessages.length co3_2, .int .i64 y0.xTo.xNext, .slice Ao3_4 y0.xTo.xMessages.length co3_4, .slice Ao3_5 y0.xWaiting.length co3_5] 78)).heap.size := by simp
    replace bx0_0 := bx_keep bx0_0 ha13 (by omega) (fun h => h)
    replace bx0_1 := bx_keep bx0_1 ha13 (by omega) (fun h => h)
    replace bx0_2 := bx_keep bx0_2 ha13 (by omega) (fun h => h)
    replace bx0_3 := bx_keep bx0_3 ha13 (by omega) (fun h => h)
    replace bx0_4 := bx_keep bx0_4 ha13 (by omega) (fun h => h)
    replace bx0_5 := bx_keep bx0_5 ha13 (by omega) (fun h => h)
    replace bx1_0 := bx_keep bx1_0 ha13 (by omega) (fun h => h)
    replace bx1_1 := bx_keep bx1_1 ha13 (by omega) (fun h => h)
    replace bx1_2 := bx_keep bx1_2 ha13 (by omega) (fun h => h)
    replace bx2_0 := bx_keep bx2_0 ha13 (by omega) (fun h => h)
    replace bx2_1 := bx_keep bx2_1 ha13 (by omega) (fun h => h)
    replace bx2_2 := bx_keep bx2_2 ha13 (by omega) (fun h => h)
    replace bx2_3 := bx_keep bx2_3 ha13 (by omega) (fun h => h)
    replace bx2_4 := bx_keep bx2_4 ha13 (by omega) (fun h => h)
    replace bx2_5 := bx_keep bx2_5 ha13 (by omega) (fun h => h)
    replace hO2_0 := rol_keep hO2_0 ha13 (by omega) (fun _ h => h.elim)
    replace hO3 := hO3.kp ha13 (fun _ _ h => h)
    replace hB := hB.trans (ha13.below hB.size (fun _ h => h.elim))
    have hs13 := ha13.size_le
    have bx3_0 := bx_new w3 #[.int .i64 y0.xStage, .int .i64 y0.xFrom.xNext, .slice Ao3_2 y0.xFrom.xMessages.length co3_2, .int .i64 y0.xTo.xNext, .slice Ao3_4 y0.xTo.xMessages.length co3_4, .slice Ao3_5 y0.xWaiting.length co3_5] 78 0 (.int .i64 y0.xStage) rfl
    have bx3_1 := bx_new w3 #[.int .i64 y0.xStage, .int .i64 y0.xFrom.xNext, .slice Ao3_2 y0.xFrom.xMessages.length co3_2, .int .i64 y0.xTo.xNext, .slice Ao3_4 y0.xTo.xMessages.length co3_4, .slice Ao3_5 y0.xWaiting.length co3_5] 78 1 (.int .i64 y0.xFrom.xNext) rfl
    have bx3_2 := bx_new w3 #[.int .i64 y0.xStage, .int .i64 y0.xFrom.xNext, .slice Ao3_2 y0.xFrom.xMessages.length co3_2, .int .i64 y0.xTo.xNext, .slice Ao3_4 y0.xTo.xMessages.length co3_4, .slice Ao3_5 y0.xWaiting.length co3_5] 78 2 (.slice Ao3_2 y0.xFrom.xMessages.length co3_2) rfl
    have bx3_3 := bx_new w3 #[.int .i64 y0.xStage, .int .i64 y0.xFrom.xNext, .slice Ao3_2 y0.xFrom.xMessages.length co3_2, .int .i64 y0.xTo.xNext, .slice Ao3_4 y0.xTo.xMessages.length co3_4, .slice Ao3_5 y0.xWaiting.length co3_5] 78 3 (.int .i64 y0.xTo.xNext) rfl
    have bx3_4 := bx_new w3 #[.int .i64 y0.xStage, .int .i64 y0.xFrom.xNext, .slice Ao3_2 y0.xFrom.xMessages.length co3_2, .int .i64 y0.xTo.xNext, .slice Ao3_4 y0.xTo.xMessages.length co3_4, .slice Ao3_5 y0.xWaiting.length co3_5] 78 4 (.slice Ao3_4 y0.xTo.xMessages.length co3_4) rfl
    have bx3_5 := bx_new w3 #[.int .i64 y0.xStage, .int .i64 y0.xFrom.xNext, .slice Ao3_2 y0.xFrom.xMessages.length co3_2, .int .i64 y0.xTo.xNext, .slice Ao3_4 y0.xTo.xMessages.length co3_4, .slice Ao3_5 y0.xWaiting.length co3_5] 78 5 (.slice Ao3_5 y0.xWaiting.length co3_5) rfl
    go_wp2_with fail
    generalize hgw : (w3.alloc (.cells #[.int .i64 y0.xStage, .int .i64 y0.xFrom.xNext, .slice Ao3_2 y0.xFrom.xMessages.length co3_2, .int .i64 y0.xTo.xNext, .slice Ao3_4 y0.xTo.xMessages.length co3_4, .slice Ao3_5 y0.xWaiting.length co3_5] 78)) = wz4 at *
    clear hgw
    have hA4 : Gain wz4 wz4.heap.size wz4 [] none := Gain.start (Below.refl _ _) (Nat.le_refl _) (fun i e h => by simp at h)
    have HSS4 := Lib.hid (show ∀ w' : World, Below wz4.heap.size wz4 w' → (fun w' => Below wz4.heap.size wz4 w' ∧ w'.cell? ⟨w3.heap.size, 0, none⟩ = some (.int .i64 y0.xStage) ∧ w'.cell? ⟨w3.heap.size, 1, none⟩ = some (.int .i64 y0.xFrom.xNext) ∧ w'.cell? ⟨w3.heap.size, 2, none⟩ = some (.slice Ao3_2 y0.xFrom.xMessages.length co3_2) ∧ w'.cell? ⟨w3.heap.size, 3, none⟩ = some (.int .i64 y0.xTo.xNext) ∧ w'.cell? ⟨w3.heap.size, 4, none⟩ = some (.slice Ao3_4 y0.xTo.xMessages.length co3_4) ∧ w'.cell? ⟨w3.heap.size, 5, none⟩ = some (.slice Ao3_5 y0.xWaiting.length co3_5) ∧ w'.cell? ⟨W.heap.size + 1, 0, none⟩ = some (.int .i64 y1.xSender) ∧ w'.cell? ⟨W.heap.size + 1, 1, none⟩ = some (.int .i64 y1.xAt) ∧ w'.cell? ⟨W.heap.size + 1, 2, none⟩ = some (.string y1.xText)) w' from fun w' h => ⟨h, (h.cell (p := ⟨w3.heap.size, 0, none⟩) (by show w3.heap.size < wz4.heap.size; omega)).trans bx3_0, (h.cell (p := ⟨w3.heap.size, 1, none⟩) (by show w3.heap.size < wz4.heap.size; omega)).trans bx3_1, (h.cell (p := ⟨w3.heap.size, 2, none⟩) (by show w3.heap.size < wz4.heap.size; omega)).trans bx3_2, (h.cell (p := ⟨w3.heap.size, 3, none⟩) (by show w3.heap.size < wz4.heap.size; omega)).trans bx3_3, (h.cell (p := ⟨w3.heap.size, 4, none⟩) (by show w3.heap.size < wz4.heap.size; omega)).trans bx3_4, (h.cell (p := ⟨w3.heap.size, 5, none⟩) (by show w3.heap.size < wz4.heap.size; omega)).trans bx3_5, (h.cell (p := ⟨W.heap.size + 1, 0, none⟩) (by show W.heap.size + 1 < wz4.heap.size; omega)).trans bx1_0, (h.cell (p := ⟨W.heap.size + 1, 1, none⟩) (by show W.heap.size + 1 < wz4.heap.size; omega)).trans bx1_1, (h.cell (p := ⟨W.heap.size + 1, 2, none⟩) (by show W.heap.size + 1 < wz4.heap.size; omega)).trans bx1_2⟩)
    go_cut [9, 10] (fun s0 s1 wx => ∃ (p : Nat) (us : List Value) (F : Nat → Prop), s0 = .pointer (some ⟨p, 0, none⟩) ∧ s1 = .bool r1 ∧ DrI wz4 78 (Hand.d true r0) p us us.toArray F wx)
    case first =>
      go_region_held3 (fun w' => Below wz4.heap.size wz4 w' ∧ w'.cell? ⟨w3.heap.size, 0, none⟩ = some (.int .i64 y0.xStage) ∧ w'.cell? ⟨w3.heap.size, 1, none⟩ = some (.int .i64 y0.xFrom.xNext) ∧ w'.cell? ⟨w3.heap.size, 2, none⟩ = some (.slice Ao3_2 y0.xFrom.xMessages.length co3_2) ∧ w'.cell? ⟨w3.heap.size, 3, none⟩ = some (.int .i64 y0.xTo.xNext) ∧ w'.cell? ⟨w3.heap.size, 4, none⟩ = some (.slice Ao3_4 y0.xTo.xMessages.length co3_4) ∧ w'.cell? ⟨w3.heap.size, 5, none⟩ = some (.slice Ao3_5 y0.xWaiting.length co3_5) ∧ w'.cell? ⟨W.heap.size + 1, 0, none⟩ = some (.int .i64 y1.xSender) ∧ w'.cell? ⟨W.heap.size + 1, 1, none⟩ = some (.int .i64 y1.xAt) ∧ w'.cell? ⟨W.heap.size + 1, 2, none⟩ = some (.string y1.xText))
        (((refine HSS4.out _ ?_); (repeat (with_reducible refine Below.setCell ?_ ?_ _)); (first | (with_reducible exact Gain.below hA4) | (with_reducible exact Gain.below (Gain.drew hA4)) | (with_reducible exact Gain.below (Gain.alloc0 hA4 _)) | (with_reducible exact Gain.below (Gain.alloc0 (Gain.drew hA4) _)) | (with_reducible exact Gain.below (Gain.drew (Gain.alloc0 hA4 _)))); (all_goals (first | omega | (dsimp only; omega) | (simp; omega)))))
        ((first | (go_at_call 78; (with_reducible refine (HT_aD _ (Below.trans hB (Below.mono (B := wz4.heap.size) (by first | (with_reducible exact Gain.below hA4) | (with_reducible exact Gain.below (Gain.drew hA4)) | (with_reducible exact Gain.below (Gain.alloc hA4 _ _)) | (with_reducible exact Gain.below (Gain.alloc_drew hA4 _ _)) | (with_reducible exact Gain.below (Gain.drew (Gain.alloc hA4 _ _))) | (with_reducible exact Gain.below (Gain.alloc0 hA4 _))) (by omega)))).mono ?_); rintro e v4_0 ⟨ust4_0, Ft4_0, rfl, hOt4_0, hb4_0, hlot4_0⟩; obtain rfl := Draft.cells hOt4_0.ro; (first | (replace hA4 := Gain.go hb4_0 hA4) | (replace hA4 := Gain.go hb4_0 (Gain.drew hA4)) | (replace hA4 := Gain.go hb4_0 (Gain.alloc hA4 _ _)) | (replace hA4 := Gain.go hb4_0 (Gain.alloc_drew hA4 _ _)) | (replace hA4 := Gain.go hb4_0 (Gain.drew (Gain.alloc hA4 _ _))) | (replace hA4 := Gain.go hb4_0 (Gain.alloc0 hA4 _))); skip; have hT4_0 : Gain v4_0 v4_0.heap.size v4_0 [] none := Gain.start (Below.refl _ _) (Nat.le_refl _) (fun i e h => by simp at h); have hle4_0 := hA4.le; (try (have xp := hA4.bx; have yq0 := xp.cell 0 rfl; have zq0 := xp.free 0; have yq1 := xp.cell 1 rfl; have zq1 := xp.free 1; have yq2 := xp.cell 2 rfl; have zq2 := xp.free 2; have yq3 := xp.cell 3 rfl; have zq3 := xp.free 3; have yq4 := xp.cell 4 rfl; have zq4 := xp.free 4; have yq5 := xp.cell 5 rfl; have zq5 := xp.free 5; have hzp := xp.lt; have hbp := (hA4.box _ _ _ rfl).2.1))) | (go_at_call 54; (with_reducible refine (HI _ _ _ (rol_to hO3.lo (by first | (with_reducible exact Gain.below hA4) | (with_reducible exact Gain.below (Gain.drew hA4)) | (with_reducible exact Gain.below (Gain.alloc hA4 _ _)) | (with_reducible exact Gain.below (Gain.alloc_drew hA4 _ _)) | (with_reducible exact Gain.below (Gain.drew (Gain.alloc hA4 _ _))) | (with_reducible exact Gain.below (Gain.alloc0 hA4 _)))) (rol_to hOt4_0.lo (by first | (with_reducible exact Gain.below hT4_0) | (with_reducible exact Gain.below (Gain.drew hT4_0)) | (with_reducible exact Gain.below (Gain.alloc0 hT4_0 _)) | (with_reducible exact Gain.below (Gain.drew (Gain.alloc0 hT4_0 _))) | (with_reducible exact Gain.below (Gain.alloc0 (Gain.drew hT4_0) _)))) hz0 hz1).mono ?_); rintro e vr4 ⟨usr4, Fr4, rfl, hOr4, hlr4, hb4_c⟩; obtain ⟨Arr4_2, crr4_2, Arr4_4, crr4_4, Arr4_5, crr4_5, rfl, -⟩ := Hand.cells hOr4.ro; (try (first | (have hp4 := Gain.bxlt hb4_c hA4) | (have hp4 := Gain.bxlt hb4_c (Gain.drew hA4)) | (have hp4 := Gain.bxlt hb4_c (Gain.alloc hA4 _ _)))); have hleq4 := (by first | (with_reducible exact Gain.leq hb4_c hA4) | (with_reducible exact Gain.leq hb4_c (Gain.drew hA4)) | (with_reducible exact Gain.leq hb4_c (Gain.alloc hA4 _ _)) | (with_reducible exact Gain.leq hb4_c (Gain.alloc_drew hA4 _ _)) | (with_reducible exact Gain.leq hb4_c (Gain.drew (Gain.alloc hA4 _ _))) | (with_reducible exact Gain.leq hb4_c (Gain.alloc0 hA4 _)) : wz4.heap.size ≤ _); (first | (replace hA4 := Gain.go hb4_c hA4) | (replace hA4 := Gain.go hb4_c (Gain.drew hA4)) | (replace hA4 := Gain.go hb4_c (Gain.alloc hA4 _ _)) | (replace hA4 := Gain.go hb4_c (Gain.alloc_drew hA4 _ _)) | (replace hA4 := Gain.go hb4_c (Gain.drew (Gain.alloc hA4 _ _))) | (replace hA4 := Gain.go hb4_c (Gain.alloc0 hA4 _))); have hle4 := hA4.le; (try (have xp := hA4.bx; have yq0 := xp.cell 0 rfl; have zq0 := xp.free 0; have yq1 := xp.cell 1 rfl; have zq1 := xp.free 1; have yq2 := xp.cell 2 rfl; have zq2 := xp.free 2; have yq3 := xp.cell 3 rfl; have zq3 := xp.free 3; have yq4 := xp.cell 4 rfl; have zq4 := xp.free 4; have yq5 := xp.cell 5 rfl; have zq5 := xp.free 5; have hzp := xp.lt; have hbp := (hA4.box _ _ _ rfl).2.1)))))
      all_goals
        go_wp2_with fail
        go_meet
        refine ⟨_, [.int .i64 r0.xStage, .int .i64 r0.xFrom.xNext, .slice Arr4_2 r0.xFrom.xMessages.length crr4_2, .int .i64 r0.xTo.xNext, .slice Arr4_4 r0.xTo.xMessages.length crr4_4, .slice Arr4_5 r0.xWaiting.length crr4_5], Fr4, rfl, rfl, ?_⟩
        first | (with_reducible exact DrI.new hA4 hOr4 hlr4 hleq4) | (exact DrI.is (((((((DrI.start hA4 hOr4 hlr4 hleq4 hp4).put 0 _).put 1 _).put 2 _).put 3 _).put 4 _).put 5 _) rfl)
    case rest =>
      obtain ⟨p4, us4, F4_0, rfl, rfl, hD4, hO4_0, hFp4⟩ := hcut
      clear hA4 HSS4
      rename World => w4
      have hb4 := hD4.below
      have hk4 := Kp.of_below0 hb4
      replace bx0_0 := bx_keep bx0_0 hk4 (by omega) (fun h => h)
      replace bx0_1 := bx_keep bx0_1 hk4 (by omega) (fun h => h)
      replace bx0_2 := bx_keep bx0_2 hk4 (by omega) (fun h => h)
      replace bx0_3 := bx_keep bx0_3 hk4 (by omega) (fun h => h)
      replace bx0_4 := bx_keep bx0_4 hk4 (by omega) (fun h => h)
      replace bx0_5 := bx_keep bx0_5 hk4 (by omega) (fun h => h)
      replace bx1_0 := bx_keep bx1_0 hk4 (by omega) (fun h => h)
      replace bx1_1 := bx_keep bx1_1 hk4 (by omega) (fun h => h)
      replace bx1_2 := bx_keep bx1_2 hk4 (by omega) (fun h => h)
      replace bx2_0 := bx_keep bx2_0 hk4 (by omega) (fun h => h)
      replace bx2_1 := bx_keep bx2_1 hk4 (by omega) (fun h => h)
      replace bx2_2 := bx_keep bx2_2 hk4 (by omega) (fun h => h)
      replace bx2_3 := bx_keep bx2_3 hk4 (by omega) (fun h => h)
      replace bx2_4 := bx_keep bx2_4 hk4 (by omega) (fun h => h)
      replace bx2_5 := bx_keep bx2_5 hk4 (by omega) (fun h => h)
      replace bx3_0 := bx_keep bx3_0 hk4 (by omega) (fun h => h)
      replace bx3_1 := bx_keep bx3_1 hk4 (by omega) (fun h => h)
      replace bx3_2 := bx_keep bx3_2 hk4 (by omega) (fun h => h)
      replace bx3_3 := bx_keep bx3_3 hk4 (by omega) (fun h => h)
      replace bx3_4 := bx_keep bx3_4 hk4 (by omega) (fun h => h)
      replace bx3_5 := bx_keep bx3_5 hk4 (by omega) (fun h => h)
      replace hO2_0 := rol_keep hO2_0 hk4 (by omega) (fun _ h => h.elim)
      replace hO3 := hO3.kp hk4 (fun _ _ h => h)
      replace hB := hB.trans (hk4.below hB.size (fun _ h => h.elim))
      have hs14 := hk4.size_le
      obtain ⟨Ar40_2, cr40_2, Ar40_4, cr40_4, Ar40_5, cr40_5, rfl, -⟩ := Hand.cells hO4_0.ro
      have hxl4 := hD4.bx.lt
      have hxg4 := (hD4.box _ _ _ rfl).2.1
      have bx4_0 := hD4.bx.cell 0 rfl
      simp only [List.getElem_toArray, List.getElem_cons_zero, List.getElem_cons_succ] at bx4_0
      have bx4_1 := hD4.bx.cell 1 rfl
      simp only [List.getElem_toArray, List.getElem_cons_zero, List.getElem_cons_succ] at bx4_1
      have bx4_2 := hD4.bx.cell 2 rfl
      simp only [List.getElem_toArray, List.getElem_cons_zero, List.getElem_cons_succ] at bx4_2
      have bx4_3 := hD4.bx.cell 3 rfl
      simp only [List.getElem_toArray, List.getElem_cons_zero, List.getElem_cons_succ] at bx4_3
      have bx4_4 := hD4.bx.cell 4 rfl
      simp only [List.getElem_toArray, List.getElem_cons_zero, List.getElem_cons_succ] at bx4_4
      have bx4_5 := hD4.bx.cell 5 rfl
      simp only [List.getElem_toArray, List.getElem_cons_zero, List.getElem_cons_succ] at bx4_5
      have hlo4_0 : ∀ b, F4_0 b → wz4.heap.size ≤ b := fun b h => (hFp4 b h).1
      have hne4_0 : ∀ b, F4_0 b → b ≠ p4 := fun b h => (hFp4 b h).2
      have hhi4_0 : ∀ b, F4_0 b → b < w4.heap.size := hO4_0.lt
      have HE5 := laws_eqHand r0 r0 _ _ w4 hO4_0.lo (hO2_0.up (by omega))
      rw [decide_eq_true rfl] at HE5
      go_wp2_with fail
      refine (HE5).mono ?_
      rintro e w5 ⟨rfl, hb5⟩
      have hk5 := Kp.of_below0 hb5
      replace bx0_0 := bx_keep bx0_0 hk5 (by omega) (fun h => h)
      replace bx0_1 := bx_keep bx0_1 hk5 (by omega) (fun h => h)
      replace bx0_2 := bx_keep bx0_2 hk5 (by omega) (fun h => h)
      replace bx0_3 := bx_keep bx0_3 hk5 (by omega) (fun h => h)
      replace bx0_4 := bx_keep bx0_4 hk5 (by omega) (fun h => h)
      replace bx0_5 := bx_keep bx0_5 hk5 (by omega) (fun h => h)
      replace bx1_0 := bx_keep bx1_0 hk5 (by omega) (fun h => h)
      replace bx1_1 := bx_keep bx1_1 hk5 (by omega) (fun h => h)
      replace bx1_2 := bx_keep bx1_2 hk5 (by omega) (fun h => h)
      replace bx2_0 := bx_keep bx2_0 hk5 (by omega) (fun h => h)
      replace bx2_1 := bx_keep bx2_1 hk5 (by omega) (fun h => h)
      replace bx2_2 := bx_keep bx2_2 hk5 (by omega) (fun h => h)
      replace bx2_3 := bx_keep bx2_3 hk5 (by omega) (fun h => h)
      replace bx2_4 := bx_keep bx2_4 hk5 (by omega) (fun h => h)
      replace bx2_5 := bx_keep bx2_5 hk5 (by omega) (fun h => h)
      replace bx3_0 := bx_keep bx3_0 hk5 (by omega) (fun h => h)
      replace bx3_1 := bx_keep bx3_1 hk5 (by omega) (fun h => h)
      replace bx3_2 := bx_keep bx3_2 hk5 (by omega) (fun h => h)
      replace bx3_3 := bx_keep bx3_3 hk5 (by omega) (fun h => h)
      replace bx3_4 := bx_keep bx3_4 hk5 (by omega) (fun h => h)
      replace bx3_5 := bx_keep bx3_5 hk5 (by omega) (fun h => h)
      replace bx4_0 := bx_keep bx4_0 hk5 (by omega) (fun h => h)
      replace bx4_1 := bx_keep bx4_1 hk5 (by omega) (fun h => h)
      replace bx4_2 := bx_keep bx4_2 hk5 (by omega) (fun h => h)
      replace bx4_3 := bx_keep bx4_3 hk5 (by omega) (fun h => h)
      replace bx4_4 := bx_keep bx4_4 hk5 (by omega) (fun h => h)
      replace bx4_5 := bx_keep bx4_5 hk5 (by omega) (fun h => h)
      replace hO2_0 := rol_keep hO2_0 hk5 (by omega) (fun _ h => h.elim)
      replace hO3 := hO3.kp hk5 (fun _ _ h => h)
      replace hO4_0 := hO4_0.kp hk5 (fun _ _ h => h)
      replace hB := hB.trans (hk5.below hB.size (fun _ h => h.elim))
      have hs15 := hk5.size_le
      go_wp2
      go_region_held3 (fun w' => Below w5.heap.size w5 w' ∧ w'.cell? ⟨w3.heap.size, 0, none⟩ = some (.int .i64 y0.xStage) ∧ w'.cell? ⟨w3.heap.size, 1, none⟩ = some (.int .i64 y0.xFrom.xNext) ∧ w'.cell? ⟨w3.heap.size, 2, none⟩ = some (.slice Ao3_2 y0.xFrom.xMessages.length co3_2) ∧ w'.cell? ⟨w3.heap.size, 3, none⟩ = some (.int .i64 y0.xTo.xNext) ∧ w'.cell? ⟨w3.heap.size, 4, none⟩ = some (.slice Ao3_4 y0.xTo.xMessages.length co3_4) ∧ w'.cell? ⟨w3.heap.size, 5, none⟩ = some (.slice Ao3_5 y0.xWaiting.length co3_5) ∧ w'.cell? ⟨W.heap.size, 0, none⟩ = some (.int .i64 y0.xStage) ∧ w'.cell? ⟨W.heap.size, 1, none⟩ = some (.int .i64 y0.xFrom.xNext) ∧ w'.cell? ⟨W.heap.size, 2, none⟩ = some (.slice Ap0_2 y0.xFrom.xMessages.length cp0_2) ∧ w'.cell? ⟨W.heap.size, 3, none⟩ = some (.int .i64 y0.xTo.xNext) ∧ w'.cell? ⟨W.heap.size, 4, none⟩ = some (.slice Ap0_4 y0.xTo.xMessages.length cp0_4) ∧ w'.cell? ⟨W.heap.size, 5, none⟩ = some (.slice Ap0_5 y0.xWaiting.length cp0_5)) (first | exact ⟨below_drew1 _, bx3_0, bx3_1, bx3_2, bx3_3, bx3_4, bx3_5, bx0_0, bx0_1, bx0_2, bx0_3, bx0_4, bx0_5⟩ | exact ⟨hkB6, (hkB6.cell (p := ⟨w3.heap.size, 0, none⟩) (by show w3.heap.size < w5.heap.size; omega)).trans bx3_0, (hkB6.cell (p := ⟨w3.heap.size, 1, none⟩) (by show w3.heap.size < w5.heap.size; omega)).trans bx3_1, (hkB6.cell (p := ⟨w3.heap.size, 2, none⟩) (by show w3.heap.size < w5.heap.size; omega)).trans bx3_2, (hkB6.cell (p := ⟨w3.heap.size, 3, none⟩) (by show w3.heap.size < w5.heap.size; omega)).trans bx3_3, (hkB6.cell (p := ⟨w3.heap.size, 4, none⟩) (by show w3.heap.size < w5.heap.size; omega)).trans bx3_4, (hkB6.cell (p := ⟨w3.heap.size, 5, none⟩) (by show w3.heap.size < w5.heap.size; omega)).trans bx3_5, (hkB6.cell (p := ⟨W.heap.size, 0, none⟩) (by show W.heap.size < w5.heap.size; omega)).trans bx0_0, (hkB6.cell (p := ⟨W.heap.size, 1, none⟩) (by show W.heap.size < w5.heap.size; omega)).trans bx0_1, (hkB6.cell (p := ⟨W.heap.size, 2, none⟩) (by show W.heap.size < w5.heap.size; omega)).trans bx0_2, (hkB6.cell (p := ⟨W.heap.size, 3, none⟩) (by show W.heap.size < w5.heap.size; omega)).trans bx0_3, (hkB6.cell (p := ⟨W.heap.size, 4, none⟩) (by show W.heap.size < w5.heap.size; omega)).trans bx0_4, (hkB6.cell (p := ⟨W.heap.size, 5, none⟩) (by show W.heap.size < w5.heap.size; omega)).trans bx0_5⟩ | exact ⟨hkA6, (hkA6.cell (p := ⟨w3.heap.size, 0, none⟩) (by show w3.heap.size < w5.heap.size; omega)).trans bx3_0, (hkA6.cell (p := ⟨w3.heap.size, 1, none⟩) (by show w3.heap.size < w5.heap.size; omega)).trans bx3_1, (hkA6.cell (p := ⟨w3.heap.size, 2, none⟩) (by show w3.heap.size < w5.heap.size; omega)).trans bx3_2, (hkA6.cell (p := ⟨w3.heap.size, 3, none⟩) (by show w3.heap.size < w5.heap.size; omega)).trans bx3_3, (hkA6.cell (p := ⟨w3.heap.size, 4, none⟩) (by show w3.heap.size < w5.heap.size; omega)).trans bx3_4, (hkA6.cell (p := ⟨w3.heap.size, 5, none⟩) (by show w3.heap.size < w5.heap.size; omega)).trans bx3_5, (hkA6.cell (p := ⟨W.heap.size, 0, none⟩) (by show W.heap.size < w5.heap.size; omega)).trans bx0_0, (hkA6.cell (p := ⟨W.heap.size, 1, none⟩) (by show W.heap.size < w5.heap.size; omega)).trans bx0_1, (hkA6.cell (p := ⟨W.heap.size, 2, none⟩) (by show W.heap.size < w5.heap.size; omega)).trans bx0_2, (hkA6.cell (p := ⟨W.heap.size, 3, none⟩) (by show W.heap.size < w5.heap.size; omega)).trans bx0_3, (hkA6.cell (p := ⟨W.heap.size, 4, none⟩) (by show W.heap.size < w5.heap.size; omega)).trans bx0_4, (hkA6.cell (p := ⟨W.heap.size, 5, none⟩) (by show W.heap.size < w5.heap.size; omega)).trans bx0_5⟩) (first | (go_at_call 66; (with_reducible refine (HT_aH _ hB.drew).mono ?_); rintro e w6 ⟨us6, F6, rfl, hO6, hb6, hlo6⟩; obtain ⟨Ao6_2, co6_2, Ao6_4, co6_4, Ao6_5, co6_5, rfl, -⟩ := Hand.cells hO6.ro; have hkA6 := (below_drew1 w5).trans hb6) | (go_at_call 67; (with_reducible refine (laws_eqHand y0 y0 _ _ _ (hO3.keep hkA6).lo hO6.lo).mono ?_); rintro e w7 ⟨rfl, hb7⟩; have hkB6 := hkA6.trans (hb7.mono hkA6.size)))
      have hk6 := Kp.of_below0 hkB6
      replace bx0_0 := bx_keep bx0_0 hk6 (by omega) (fun h => h)
      replace bx0_1 := bx_keep bx0_1 hk6 (by omega) (fun h => h)
      replace bx0_2 := bx_keep bx0_2 hk6 (by omega) (fun h => h)
      replace bx0_3 := bx_keep bx0_3 hk6 (by omega) (fun h => h)
      replace bx0_4 := bx_keep bx0_4 hk6 (by omega) (fun h => h)
      replace bx0_5 := bx_keep bx0_5 hk6 (by omega) (fun h => h)
      replace bx1_0 := bx_keep bx1_0 hk6 (by omega) (fun h => h)
      replace bx1_1 := bx_keep bx1_1 hk6 (by omega) (fun h => h)
      replace bx1_2 := bx_keep bx1_2 hk6 (by omega) (fun h => h)
      replace bx2_0 := bx_keep bx2_0 hk6 (by omega) (fun h => h)
      replace bx2_1 := bx_keep bx2_1 hk6 (by omega) (fun h => h)
      replace bx2_2 := bx_keep bx2_2 hk6 (by omega) (fun h => h)
      replace bx2_3 := bx_keep bx2_3 hk6 (by omega) (fun h => h)
      replace bx2_4 := bx_keep bx2_4 hk6 (by omega) (fun h => h)
      replace bx2_5 := bx_keep bx2_5 hk6 (by omega) (fun h => h)
      replace bx3_0 := bx_keep bx3_0 hk6 (by omega) (fun h => h)
      replace bx3_1 := bx_keep bx3_1 hk6 (by omega) (fun h => h)
      replace bx3_2 := bx_keep bx3_2 hk6 (by omega) (fun h => h)
      replace bx3_3 := bx_keep bx3_3 hk6 (by omega) (fun h => h)
      replace bx3_4 := bx_keep bx3_4 hk6 (by omega) (fun h => h)
      replace bx3_5 := bx_keep bx3_5 hk6 (by omega) (fun h => h)
      replace bx4_0 := bx_keep bx4_0 hk6 (by omega) (fun h => h)
      replace bx4_1 := bx_keep bx4_1 hk6 (by omega) (fun h => h)
      replace bx4_2 := bx_keep bx4_2 hk6 (by omega) (fun h => h)
      replace bx4_3 := bx_keep bx4_3 hk6 (by omega) (fun h => h)
      replace bx4_4 := bx_keep bx4_4 hk6 (by omega) (fun h => h)
      replace bx4_5 := bx_keep bx4_5 hk6 (by omega) (fun h => h)
      replace hO2_0 := rol_keep hO2_0 hk6 (by omega) (fun _ h => h.elim)
      replace hO3 := hO3.kp hk6 (fun _ _ h => h)
      replace hO4_0 := hO4_0.kp hk6 (fun _ _ h => h)
      replace hB := hB.trans (hk6.below hB.size (fun _ h => h.elim))
      have hs16 := hk6.size_le
      have hsz8 := Hand.sn_z y0
      go_wp2_with fail
      refine (laws_markHand y0 _ F3 (1) w7 hO3 (by omega) (by omega)).mono ?_
      rintro e w8 ⟨rfl, hk8, G8, hm8, hG8⟩
      replace bx0_0 := bx_keep bx0_0 hk8 (by omega) (fun h => by have a1 := hlo3 _ h; have a2 := hhi3 _ h; omega)
      replace bx0_1 := bx_keep bx0_1 hk8 (by omega) (fun h => by have a1 := hlo3 _ h; have a2 := hhi3 _ h; omega)
      replace bx0_2 := bx_keep bx0_2 hk8 (by omega) (fun h => by have a1 := hlo3 _ h; have a2 := hhi3 _ h; omega)
      replace bx0_3 := bx_keep bx0_3 hk8 (by omega) (fun h => by have a1 := hlo3 _ h; have a2 := hhi3 _ h; omega)
      replace bx0_4 := bx_keep bx0_4 hk8 (by omega) (fun h => by have a1 := hlo3 _ h; have a2 := hhi3 _ h; omega)
      replace bx0_5 := bx_keep bx0_5 hk8 (by omega) (fun h => by have a1 := hlo3 _ h; have a2 := hhi3 _ h; omega)
      replace bx1_0 := bx_keep bx1_0 hk8 (by omega) (fun h => by have a1 := hlo3 _ h; have a2 := hhi3 _ h; omega)
      replace bx1_1 := bx_keep bx1_1 hk8 (by omega) (fun h => by have a1 := hlo3 _ h; have a2 := hhi3 _ h; omega)
      replace bx1_2 := bx_keep bx1_2 hk8 (by omega) (fun h => by have a1 := hlo3 _ h; have a2 := hhi3 _ h; omega)
      replace bx2_0 := bx_keep bx2_0 hk8 (by omega) (fun h => by have a1 := hlo3 _ h; have a2 := hhi3 _ h; omega)
      replace bx2_1 := bx_keep bx2_1 hk8 (by omega) (fun h => by have a1 := hlo3 _ h; have a2 := hhi3 _ h; omega)
      replace bx2_2 := bx_keep bx2_2 hk8 (by omega) (fun h => by have a1 := hlo3 _ h; have a2 := hhi3 _ h; omega)
      replace bx2_3 := bx_keep bx2_3 hk8 (by omega) (fun h => by have a1 := hlo3 _ h; have a2 := hhi3 _ h; omega)
      replace bx2_4 := bx_keep bx2_4 hk8 (by omega) (fun h => by have a1 := hlo3 _ h; have a2 := hhi3 _ h; omega)
      replace bx2_5 := bx_keep bx2_5 hk8 (by omega) (fun h => by have a1 := hlo3 _ h; have a2 := hhi3 _ h; omega)
      replace bx3_0 := bx_keep bx3_0 hk8 (by omega) (fun h => by have a1 := hlo3 _ h; have a2 := hhi3 _ h; omega)
      replace bx3_1 := bx_keep bx3_1 hk8 (by omega) (fun h => by have a1 := hlo3 _ h; have a2 := hhi3 _ h; omega)
      replace bx3_2 := bx_keep bx3_2 hk8 (by omega) (fun h => by have a1 := hlo3 _ h; have a2 := hhi3 _ h; omega)
      replace bx3_3 := bx_keep bx3_3 hk8 (by omega) (fun h => by have a1 := hlo3 _ h; have a2 := hhi3 _ h; omega)
      replace bx3_4 := bx_keep bx3_4 hk8 (by omega) (fun h => by have a1 := hlo3 _ h; have a2 := hhi3 _ h; omega)
      replace bx3_5 := bx_keep bx3_5 hk8 (by omega) (fun h => by have a1 := hlo3 _ h; have a2 := hhi3 _ h; omega)
      replace bx4_0 := bx_keep bx4_0 hk8 (by omega) (fun h => by have a1 := hlo3 _ h; have a2 := hhi3 _ h; omega)
      replace bx4_1 := bx_keep bx4_1 hk8 (by omega) (fun h => by have a1 := hlo3 _ h; have a2 := hhi3 _ h; omega)
      replace bx4_2 := bx_keep bx4_2 hk8 (by omega) (fun h => by have a1 := hlo3 _ h; have a2 := hhi3 _ h; omega)
      replace bx4_3 := bx_keep bx4_3 hk8 (by omega) (fun h => by have a1 := hlo3 _ h; have a2 := hhi3 _ h; omega)
      replace bx4_4 := bx_keep bx4_4 hk8 (by omega) (fun h => by have a1 := hlo3 _ h; have a2 := hhi3 _ h; omega)
      replace bx4_5 := bx_keep bx4_5 hk8 (by omega) (fun h => by have a1 := hlo3 _ h; have a2 := hhi3 _ h; omega)
      replace hO2_0 := rol_keep hO2_0 hk8 (by omega) (fun b hx => by have a3 := hlo3 b hx; omega)
      replace hO4_0 := hO4_0.kp hk8 (fun b hy hx => by have a1 := hlo4_0 b hy; have a2 := hhi4_0 b hy; have a3 := hlo3 b hx; have a4 := hhi3 b hx; omega)
      replace hB := hB.trans (hk8.below hB.size (fun b hx => by have a3 := hlo3 b hx; omega))
      have hs17 := hk8.size_le
      have hlo8m : ∀ b, G8 b → _ := fun b h => hlo3 b (hG8 b h)
      have hhi8m : ∀ b, G8 b → _ := fun b h => hhi3 b (hG8 b h)
      have HE9 := laws_eqHand r0 r0 _ _ w8 hO4_0.lo (hO2_0.up (by omega))
      rw [decide_eq_true rfl] at HE9
      go_wp2_with fail
      refine (HE9).mono ?_
      rintro e w9 ⟨rfl, hb9⟩
      have hk9 := Kp.of_below0 hb9
      replace bx0_0 := bx_keep bx0_0 hk9 (by omega) (fun h => h)
      replace bx0_1 := bx_keep bx0_1 hk9 (by omega) (fun h => h)
      replace bx0_2 := bx_keep bx0_2 hk9 (by omega) (fun h => h)
      replace bx0_3 := bx_keep bx0_3 hk9 (by omega) (fun h => h)
      replace bx0_4 := bx_keep bx0_4 hk9 (by omega) (fun h => h)
      replace bx0_5 := bx_keep bx0_5 hk9 (by omega) (fun h => h)
      replace bx1_0 := bx_keep bx1_0 hk9 (by omega) (fun h => h)
      replace bx1_1 := bx_keep bx1_1 hk9 (by omega) (fun h => h)
      replace bx1_2 := bx_keep bx1_2 hk9 (by omega) (fun h => h)
      replace bx2_0 := bx_keep bx2_0 hk9 (by omega) (fun h => h)
      replace bx2_1 := bx_keep bx2_1 hk9 (by omega) (fun h => h)
      replace bx2_2 := bx_keep bx2_2 hk9 (by omega) (fun h => h)
      replace bx2_3 := bx_keep bx2_3 hk9 (by omega) (fun h => h)
      replace bx2_4 := bx_keep bx2_4 hk9 (by omega) (fun h => h)
      replace bx2_5 := bx_keep bx2_5 hk9 (by omega) (fun h => h)
      replace bx3_0 := bx_keep bx3_0 hk9 (by omega) (fun h => h)
      replace bx3_1 := bx_keep bx3_1 hk9 (by omega) (fun h => h)
      replace bx3_2 := bx_keep bx3_2 hk9 (by omega) (fun h => h)
      replace bx3_3 := bx_keep bx3_3 hk9 (by omega) (fun h => h)
      replace bx3_4 := bx_keep bx3_4 hk9 (by omega) (fun h => h)
      replace bx3_5 := bx_keep bx3_5 hk9 (by omega) (fun h => h)
      replace bx4_0 := bx_keep bx4_0 hk9 (by omega) (fun h => h)
      replace bx4_1 := bx_keep bx4_1 hk9 (by omega) (fun h => h)
      replace bx4_2 := bx_keep bx4_2 hk9 (by omega) (fun h => h)
      replace bx4_3 := bx_keep bx4_3 hk9 (by omega) (fun h => h)
      replace bx4_4 := bx_keep bx4_4 hk9 (by omega) (fun h => h)
      replace bx4_5 := bx_keep bx4_5 hk9 (by omega) (fun h => h)
      replace hO2_0 := rol_keep hO2_0 hk9 (by omega) (fun _ h => h.elim)
      replace hm8 := hm8.kp hk9 (fun _ _ h => h)
      replace hO4_0 := hO4_0.kp hk9 (fun _ _ h => h)
      replace hB := hB.trans (hk9.below hB.size (fun _ h => h.elim))
      have hs18 := hk9.size_le
      go_wp2_with fail
      refine (laws_markHand r0 _ F4_0 (1) w9 hO4_0 (by omega) (by omega)).mono ?_
      rintro e w10 ⟨rfl, hk10, G10, hm10, hG10⟩
      replace bx0_0 := bx_keep bx0_0 hk10 (by omega) (fun h => by have a1 := hlo4_0 _ h; have a2 := hhi4_0 _ h; have a3 := hne4_0 _ h; omega)
      replace bx0_1 := bx_keep bx0_1 hk10 (by omega) (fun h => by have a1 := hlo4_0 _ h; have a2 := hhi4_0 _ h; have a3 := hne4_0 _ h; omega)
      replace bx0_2 := bx_keep bx0_2 hk10 (by omega) (fun h => by have a1 := hlo4_0 _ h; have a2 := hhi4_0 _ h; have a3 := hne4_0 _ h; omega)
      replace bx0_3 := bx_keep bx0_3 hk10 (by omega) (fun h => by have a1 := hlo4_0 _ h; have a2 := hhi4_0 _ h; have a3 := hne4_0 _ h; omega)
      replace bx0_4 := bx_keep bx0_4 hk10 (by omega) (fun h => by have a1 := hlo4_0 _ h; have a2 := hhi4_0 _ h; have a3 := hne4_0 _ h; omega)
      replace bx0_5 := bx_keep bx0_5 hk10 (by omega) (fun h => by have a1 := hlo4_0 _ h; have a2 := hhi4_0 _ h; have a3 := hne4_0 _ h; omega)
      replace bx1_0 := bx_keep bx1_0 hk10 (by omega) (fun h => by have a1 := hlo4_0 _ h; have a2 := hhi4_0 _ h; have a3 := hne4_0 _ h; omega)
      replace bx1_1 := bx_keep bx1_1 hk10 (by omega) (fun h => by have a1 := hlo4_0 _ h; have a2 := hhi4_0 _ h; have a3 := hne4_0 _ h; omega)
      replace bx1_2 := bx_keep bx1_2 hk10 (by omega) (fun h => by have a1 := hlo4_0 _ h; have a2 := hhi4_0 _ h; have a3 := hne4_0 _ h; omega)
      replace bx2_0 := bx_keep bx2_0 hk10 (by omega) (fun h => by have a1 := hlo4_0 _ h; have a2 := hhi4_0 _ h; have a3 := hne4_0 _ h; omega)
      replace bx2_1 := bx_keep bx2_1 hk10 (by omega) (fun h => by have a1 := hlo4_0 _ h; have a2 := hhi4_0 _ h; have a3 := hne4_0 _ h; omega)
      replace bx2_2 := bx_keep bx2_2 hk10 (by omega) (fun h => by have a1 := hlo4_0 _ h; have a2 := hhi4_0 _ h; have a3 := hne4_0 _ h; omega)
      replace bx2_3 := bx_keep bx2_3 hk10 (by omega) (fun h => by have a1 := hlo4_0 _ h; have a2 := hhi4_0 _ h; have a3 := hne4_0 _ h; omega)
      replace bx2_4 := bx_keep bx2_4 hk10 (by omega) (fun h => by have a1 := hlo4_0 _ h; have a2 := hhi4_0 _ h; have a3 := hne4_0 _ h; omega)
      replace bx2_5 := bx_keep bx2_5 hk10 (by omega) (fun h => by have a1 := hlo4_0 _ h; have a2 := hhi4_0 _ h; have a3 := hne4_0 _ h; omega)
      replace bx3_0 := bx_keep bx3_0 hk10 (by omega) (fun h => by have a1 := hlo4_0 _ h; have a2 := hhi4_0 _ h; have a3 := hne4_0 _ h; omega)
      replace bx3_1 := bx_keep bx3_1 hk10 (by omega) (fun h => by have a1 := hlo4_0 _ h; have a2 := hhi4_0 _ h; have a3 := hne4_0 _ h; omega)
      replace bx3_2 := bx_keep bx3_2 hk10 (by omega) (fun h => by have a1 := hlo4_0 _ h; have a2 := hhi4_0 _ h; have a3 := hne4_0 _ h; omega)
      replace bx3_3 := bx_keep bx3_3 hk10 (by omega) (fun h => by have a1 := hlo4_0 _ h; have a2 := hhi4_0 _ h; have a3 := hne4_0 _ h; omega)
      replace bx3_4 := bx_keep bx3_4 hk10 (by omega) (fun h => by have a1 := hlo4_0 _ h; have a2 := hhi4_0 _ h; have a3 := hne4_0 _ h; omega)
      replace bx3_5 := bx_keep bx3_5 hk10 (by omega) (fun h => by have a1 := hlo4_0 _ h; have a2 := hhi4_0 _ h; have a3 := hne4_0 _ h; omega)
      replace bx4_0 := bx_keep bx4_0 hk10 (by omega) (fun h => by have a1 := hlo4_0 _ h; have a2 := hhi4_0 _ h; have a3 := hne4_0 _ h; omega)
      replace bx4_1 := bx_keep bx4_1 hk10 (by omega) (fun h => by have a1 := hlo4_0 _ h; have a2 := hhi4_0 _ h; have a3 := hne4_0 _ h; omega)
      replace bx4_2 := bx_keep bx4_2 hk10 (by omega) (fun h => by have a1 := hlo4_0 _ h; have a2 := hhi4_0 _ h; have a3 := hne4_0 _ h; omega)
      replace bx4_3 := bx_keep bx4_3 hk10 (by omega) (fun h => by have a1 := hlo4_0 _ h; have a2 := hhi4_0 _ h; have a3 := hne4_0 _ h; omega)
      replace bx4_4 := bx_keep bx4_4 hk10 (by omega) (fun h => by have a1 := hlo4_0 _ h; have a2 := hhi4_0 _ h; have a3 := hne4_0 _ h; omega)
      replace bx4_5 := bx_keep bx4_5 hk10 (by omega) (fun h => by have a1 := hlo4_0 _ h; have a2 := hhi4_0 _ h; have a3 := hne4_0 _ h; omega)
      replace hO2_0 := rol_keep hO2_0 hk10 (by omega) (fun b hx => by have a3 := hlo4_0 b hx; omega)
      replace hm8 := hm8.kp hk10 (fun b hy hx => by have a1 := hlo8m b hy; have a2 := hhi8m b hy; have a3 := hlo4_0 b hx; have a4 := hhi4_0 b hx; omega)
      replace hB := hB.trans (hk10.below hB.size (fun b hx => by have a3 := hlo4_0 b hx; omega))
      have hs19 := hk10.size_le
      have hlo10m : ∀ b, G10 b → _ := fun b h => hlo4_0 b (hG10 b h)
      have hhi10m : ∀ b, G10 b → _ := fun b h => hhi4_0 b (hG10 b h)
      have hne10m : ∀ b, G10 b → _ := fun b h => hne4_0 b (hG10 b h)
      go_wp2_with fail
      refine (laws_heldHand r0 _ (1) w10 hm10.lo (by omega) (by omega)).mono ?_
      rintro e w11 ⟨rfl, hb11⟩
      have hk11 := Kp.of_below0 hb11
      replace bx0_0 := bx_keep bx0_0 hk11 (by omega) (fun h => h)
      replace bx0_1 := bx_keep bx0_1 hk11 (by omega) (fun h => h)
      replace bx0_2 := bx_keep bx0_2 hk11 (by omega) (fun h => h)
      replace bx0_3 := bx_keep bx0_3 hk11 (by omega) (fun h => h)
      replace bx0_4 := bx_keep bx0_4 hk11 (by omega) (fun h => h)
      replace bx0_5 := bx_keep bx0_5 hk11 (by omega) (fun h => h)
      replace bx1_0 := bx_keep bx1_0 hk11 (by omega) (fun h => h)
      replace bx1_1 := bx_keep bx1_1 hk11 (by omega) (fun h => h)
      replace bx1_2 := bx_keep bx1_2 hk11 (by omega) (fun h => h)
      replace bx2_0 := bx_keep bx2_0 hk11 (by omega) (fun h => h)
      replace bx2_1 := bx_keep bx2_1 hk11 (by omega) (fun h => h)
      replace bx2_2 := bx_keep bx2_2 hk11 (by omega) (fun h => h)
      replace bx2_3 := bx_keep bx2_3 hk11 (by omega) (fun h => h)
      replace bx2_4 := bx_keep bx2_4 hk11 (by omega) (fun h => h)
      replace bx2_5 := bx_keep bx2_5 hk11 (by omega) (fun h => h)
      replace bx3_0 := bx_keep bx3_0 hk11 (by omega) (fun h => h)
      replace bx3_1 := bx_keep bx3_1 hk11 (by omega) (fun h => h)
      replace bx3_2 := bx_keep bx3_2 hk11 (by omega) (fun h => h)
      replace bx3_3 := bx_keep bx3_3 hk11 (by omega) (fun h => h)
      replace bx3_4 := bx_keep bx3_4 hk11 (by omega) (fun h => h)
      replace bx3_5 := bx_keep bx3_5 hk11 (by omega) (fun h => h)
      replace bx4_0 := bx_keep bx4_0 hk11 (by omega) (fun h => h)
      replace bx4_1 := bx_keep bx4_1 hk11 (by omega) (fun h => h)
      replace bx4_2 := bx_keep bx4_2 hk11 (by omega) (fun h => h)
      replace bx4_3 := bx_keep bx4_3 hk11 (by omega) (fun h => h)
      replace bx4_4 := bx_keep bx4_4 hk11 (by omega) (fun h => h)
      replace bx4_5 := bx_keep bx4_5 hk11 (by omega) (fun h => h)
      replace hO2_0 := rol_keep hO2_0 hk11 (by omega) (fun _ h => h.elim)
      replace hm8 := hm8.kp hk11 (fun _ _ h => h)
      replace hm10 := hm10.kp hk11 (fun _ _ h => h)
      replace hB := hB.trans (hk11.below hB.size (fun _ h => h.elim))
      have hs20 := hk11.size_le
      go_wp2_with fail
      have hA12 : Gain w11 w11.heap.size w11 [] none := Gain.start (Below.refl _ _) (Nat.le_refl _) (fun i e h => by simp at h)
      have HSS12 := Lib.hid (show ∀ w' : World, Below w11.heap.size w11 w' → (fun w' => Below w11.heap.size w11 w' ∧ w'.cell? ⟨W.heap.size, 0, none⟩ = some (.int .i64 y0.xStage) ∧ w'.cell? ⟨W.heap.size, 1, none⟩ = some (.int .i64 y0.xFrom.xNext) ∧ w'.cell? ⟨W.heap.size, 2, none⟩ = some (.slice Ap0_2 y0.xFrom.xMessages.length cp0_2) ∧ w'.cell? ⟨W.heap.size, 3, none⟩ = some (.int .i64 y0.xTo.xNext) ∧ w'.cell? ⟨W.heap.size, 4, none⟩ = some (.slice Ap0_4 y0.xTo.xMessages.length cp0_4) ∧ w'.cell? ⟨W.heap.size, 5, none⟩ = some (.slice Ap0_5 y0.xWaiting.length cp0_5) ∧ w'.cell? ⟨W.heap.size + 1, 0, none⟩ = some (.int .i64 y1.xSender) ∧ w'.cell? ⟨W.heap.size + 1, 1, none⟩ = some (.int .i64 y1.xAt) ∧ w'.cell? ⟨W.heap.size + 1, 2, none⟩ = some (.string y1.xText)) w' from fun w' h => ⟨h, (h.cell (p := ⟨W.heap.size, 0, none⟩) (by show W.heap.size < w11.heap.size; omega)).trans bx0_0, (h.cell (p := ⟨W.heap.size, 1, none⟩) (by show W.heap.size < w11.heap.size; omega)).trans bx0_1, (h.cell (p := ⟨W.heap.size, 2, none⟩) (by show W.heap.size < w11.heap.size; omega)).trans bx0_2, (h.cell (p := ⟨W.heap.size, 3, none⟩) (by show W.heap.size < w11.heap.size; omega)).trans bx0_3, (h.cell (p := ⟨W.heap.size, 4, none⟩) (by show W.heap.size < w11.heap.size; omega)).trans bx0_4, (h.cell (p := ⟨W.heap.size, 5, none⟩) (by show W.heap.size < w11.heap.size; omega)).trans bx0_5, (h.cell (p := ⟨W.heap.size + 1, 0, none⟩) (by show W.heap.size + 1 < w11.heap.size; omega)).trans bx1_0, (h.cell (p := ⟨W.heap.size + 1, 1, none⟩) (by show W.heap.size + 1 < w11.heap.size; omega)).trans bx1_1, (h.cell (p := ⟨W.heap.size + 1, 2, none⟩) (by show W.heap.size + 1 < w11.heap.size; omega)).trans bx1_2⟩)
      go_cut [14, 15] (fun s0 s1 wx => ∃ (p : Nat) (us : List Value) (F : Nat → Prop), s0 = .pointer (some ⟨p, 0, none⟩) ∧ s1 = .bool r1 ∧ DrI w11 78 (Hand.d true r0) p us us.toArray F wx)
      case first =>
        go_region_held3 (fun w' => Below w11.heap.size w11 w' ∧ w'.cell? ⟨W.heap.size, 0, none⟩ = some (.int .i64 y0.xStage) ∧ w'.cell? ⟨W.heap.size, 1, none⟩ = some (.int .i64 y0.xFrom.xNext) ∧ w'.cell? ⟨W.heap.size, 2, none⟩ = some (.slice Ap0_2 y0.xFrom.xMessages.length cp0_2) ∧ w'.cell? ⟨W.heap.size, 3, none⟩ = some (.int .i64 y0.xTo.xNext) ∧ w'.cell? ⟨W.heap.size, 4, none⟩ = some (.slice Ap0_4 y0.xTo.xMessages.length cp0_4) ∧ w'.cell? ⟨W.heap.size, 5, none⟩ = some (.slice Ap0_5 y0.xWaiting.length cp0_5) ∧ w'.cell? ⟨W.heap.size + 1, 0, none⟩ = some (.int .i64 y1.xSender) ∧ w'.cell? ⟨W.heap.size + 1, 1, none⟩ = some (.int .i64 y1.xAt) ∧ w'.cell? ⟨W.heap.size + 1, 2, none⟩ = some (.string y1.xText))
          (((refine HSS12.out _ ?_); (repeat (with_reducible refine Below.setCell ?_ ?_ _)); (first | (with_reducible exact Gain.below hA12) | (with_reducible exact Gain.below (Gain.drew hA12)) | (with_reducible exact Gain.below (Gain.alloc0 hA12 _)) | (with_reducible exact Gain.below (Gain.alloc0 (Gain.drew hA12) _)) | (with_reducible exact Gain.below (Gain.drew (Gain.alloc0 hA12 _)))); (all_goals (first | omega | (dsimp only; omega) | (simp; omega)))))
          ((first | (go_at_call 66; (with_reducible refine (HT_aH _ (Below.trans hB (Below.mono (B := w11.heap.size) (by first | (with_reducible exact Gain.below hA12) | (with_reducible exact Gain.below (Gain.drew hA12)) | (with_reducible exact Gain.below (Gain.alloc hA12 _ _)) | (with_reducible exact Gain.below (Gain.alloc_drew hA12 _ _)) | (with_reducible exact Gain.below (Gain.drew (Gain.alloc hA12 _ _))) | (with_reducible exact Gain.below (Gain.alloc0 hA12 _))) (by omega)))).mono ?_); rintro e v12_0 ⟨ust12_0, Ft12_0, rfl, hOt12_0, hb12_0, hlot12_0⟩; obtain ⟨Aot12_0_2, cot12_0_2, Aot12_0_4, cot12_0_4, Aot12_0_5, cot12_0_5, rfl, -⟩ := Hand.cells hOt12_0.ro; (first | (replace hA12 := Gain.go hb12_0 hA12) | (replace hA12 := Gain.go hb12_0 (Gain.drew hA12)) | (replace hA12 := Gain.go hb12_0 (Gain.alloc hA12 _ _)) | (replace hA12 := Gain.go hb12_0 (Gain.alloc_drew hA12 _ _)) | (replace hA12 := Gain.go hb12_0 (Gain.drew (Gain.alloc hA12 _ _))) | (replace hA12 := Gain.go hb12_0 (Gain.alloc0 hA12 _))); skip; have hT12_0 : Gain v12_0 v12_0.heap.size v12_0 [] none := Gain.start (Below.refl _ _) (Nat.le_refl _) (fun i e h => by simp at h); have hle12_0 := hA12.le; (try (have xp := hA12.bx; have yq0 := xp.cell 0 rfl; have zq0 := xp.free 0; have yq1 := xp.cell 1 rfl; have zq1 := xp.free 1; have yq2 := xp.cell 2 rfl; have zq2 := xp.free 2; have yq3 := xp.cell 3 rfl; have zq3 := xp.free 3; have yq4 := xp.cell 4 rfl; have zq4 := xp.free 4; have yq5 := xp.cell 5 rfl; have zq5 := xp.free 5; have hzp := xp.lt; have hbp := (hA12.box _ _ _ rfl).2.1))) | (go_at_call 78; (with_reducible refine (HT_aD _ (Below.trans hB (Below.mono (B := w11.heap.size) (by first | (with_reducible exact Gain.below hA12) | (with_reducible exact Gain.below (Gain.drew hA12)) | (with_reducible exact Gain.below (Gain.alloc hA12 _ _)) | (with_reducible exact Gain.below (Gain.alloc_drew hA12 _ _)) | (with_reducible exact Gain.below (Gain.drew (Gain.alloc hA12 _ _))) | (with_reducible exact Gain.below (Gain.alloc0 hA12 _))) (by omega)))).mono ?_); rintro e v12_1 ⟨ust12_1, Ft12_1, rfl, hOt12_1, hb12_1, hlot12_1⟩; obtain rfl := Draft.cells hOt12_1.ro; (first | (replace hA12 := Gain.go hb12_1 hA12) | (replace hA12 := Gain.go hb12_1 (Gain.drew hA12)) | (replace hA12 := Gain.go hb12_1 (Gain.alloc hA12 _ _)) | (replace hA12 := Gain.go hb12_1 (Gain.alloc_drew hA12 _ _)) | (replace hA12 := Gain.go hb12_1 (Gain.drew (Gain.alloc hA12 _ _))) | (replace hA12 := Gain.go hb12_1 (Gain.alloc0 hA12 _))); (first | (replace hT12_0 := Gain.go hb12_1 hT12_0) | (replace hT12_0 := Gain.go hb12_1 (Gain.drew hT12_0)) | (replace hT12_0 := Gain.go hb12_1 (Gain.alloc0 hT12_0 _)) | (replace hT12_0 := Gain.go hb12_1 (Gain.drew (Gain.alloc0 hT12_0 _))) | (replace hT12_0 := Gain.go hb12_1 (Gain.alloc0 (Gain.drew hT12_0) _))); have hT12_1 : Gain v12_1 v12_1.heap.size v12_1 [] none := Gain.start (Below.refl _ _) (Nat.le_refl _) (fun i e h => by simp at h); have hle12_1 := hA12.le; (try (have xp := hA12.bx; have yq0 := xp.cell 0 rfl; have zq0 := xp.free 0; have yq1 := xp.cell 1 rfl; have zq1 := xp.free 1; have yq2 := xp.cell 2 rfl; have zq2 := xp.free 2; have yq3 := xp.cell 3 rfl; have zq3 := xp.free 3; have yq4 := xp.cell 4 rfl; have zq4 := xp.free 4; have yq5 := xp.cell 5 rfl; have zq5 := xp.free 5; have hzp := xp.lt; have hbp := (hA12.box _ _ _ rfl).2.1))) | (go_at_call 54; (with_reducible refine (HI _ _ _ (rol_to hOt12_0.lo (by first | (with_reducible exact Gain.below hT12_0) | (with_reducible exact Gain.below (Gain.drew hT12_0)) | (with_reducible exact Gain.below (Gain.alloc0 hT12_0 _)) | (with_reducible exact Gain.below (Gain.drew (Gain.alloc0 hT12_0 _))) | (with_reducible exact Gain.below (Gain.alloc0 (Gain.drew hT12_0) _)))) (rol_to hOt12_1.lo (by first | (with_reducible exact Gain.below hT12_1) | (with_reducible exact Gain.below (Gain.drew hT12_1)) | (with_reducible exact Gain.below (Gain.alloc0 hT12_1 _)) | (with_reducible exact Gain.below (Gain.drew (Gain.alloc0 hT12_1 _))) | (with_reducible exact Gain.below (Gain.alloc0 (Gain.drew hT12_1) _)))) hz0 hz1).mono ?_); rintro e vr12 ⟨usr12, Fr12, rfl, hOr12, hlr12, hb12_c⟩; obtain ⟨Arr12_2, crr12_2, Arr12_4, crr12_4, Arr12_5, crr12_5, rfl, -⟩ := Hand.cells hOr12.ro; (try (first | (have hp12 := Gain.bxlt hb12_c hA12) | (have hp12 := Gain.bxlt hb12_c (Gain.drew hA12)) | (have hp12 := Gain.bxlt hb12_c (Gain.alloc hA12 _ _)))); have hleq12 := (by first | (with_reducible exact Gain.leq hb12_c hA12) | (with_reducible exact Gain.leq hb12_c (Gain.drew hA12)) | (with_reducible exact Gain.leq hb12_c (Gain.alloc hA12 _ _)) | (with_reducible exact Gain.leq hb12_c (Gain.alloc_drew hA12 _ _)) | (with_reducible exact Gain.leq hb12_c (Gain.drew (Gain.alloc hA12 _ _))) | (with_reducible exact Gain.leq hb12_c (Gain.alloc0 hA12 _)) : w11.heap.size ≤ _); (first | (replace hA12 := Gain.go hb12_c hA12) | (replace hA12 := Gain.go hb12_c (Gain.drew hA12)) | (replace hA12 := Gain.go hb12_c (Gain.alloc hA12 _ _)) | (replace hA12 := Gain.go hb12_c (Gain.alloc_drew hA12 _ _)) | (replace hA12 := Gain.go hb12_c (Gain.drew (Gain.alloc hA12 _ _))) | (replace hA12 := Gain.go hb12_c (Gain.alloc0 hA12 _))); have hle12 := hA12.le; (try (have xp := hA12.bx; have yq0 := xp.cell 0 rfl; have zq0 := xp.free 0; have yq1 := xp.cell 1 rfl; have zq1 := xp.free 1; have yq2 := xp.cell 2 rfl; have zq2 := xp.free 2; have yq3 := xp.cell 3 rfl; have zq3 := xp.free 3; have yq4 := xp.cell 4 rfl; have zq4 := xp.free 4; have yq5 := xp.cell 5 rfl; have zq5 := xp.free 5; have hzp := xp.lt; have hbp := (hA12.box _ _ _ rfl).2.1)))))
        all_goals
          go_wp2_with fail
          go_meet
          refine ⟨_, [.int .i64 r0.xStage, .int .i64 r0.xFrom.xNext, .slice Arr12_2 r0.xFrom.xMessages.length crr12_2, .int .i64 r0.xTo.xNext, .slice Arr12_4 r0.xTo.xMessages.length crr12_4, .slice Arr12_5 r0.xWaiting.length crr12_5], Fr12, rfl, rfl, ?_⟩
          first | (with_reducible exact DrI.new hA12 hOr12 hlr12 hleq12) | (exact DrI.is (((((((DrI.start hA12 hOr12 hlr12 hleq12 hp12).put 0 _).put 1 _).put 2 _).put 3 _).put 4 _).put 5 _) rfl)
      case rest =>
        obtain ⟨p12, us12, F12_0, rfl, rfl, hD12, hO12_0, hFp12⟩ := hcut
        clear hA12 HSS12
        rename World => w12
        have hb12 := hD12.below
        have hk12 := Kp.of_below0 hb12
        replace bx0_0 := bx_keep bx0_0 hk12 (by omega) (fun h => h)
        replace bx0_1 := bx_keep bx0_1 hk12 (by omega) (fun h => h)
        replace bx0_2 := bx_keep bx0_2 hk12 (by omega) (fun h => h)
        replace bx0_3 := bx_keep bx0_3 hk12 (by omega) (fun h => h)
        replace bx0_4 := bx_keep bx0_4 hk12 (by omega) (fun h => h)
        replace bx0_5 := bx_keep bx0_5 hk12 (by omega) (fun h => h)
        replace bx1_0 := bx_keep bx1_0 hk12 (by omega) (fun h => h)
        replace bx1_1 := bx_keep bx1_1 hk12 (by omega) (fun h => h)
        replace bx1_2 := bx_keep bx1_2 hk12 (by omega) (fun h => h)
        replace bx2_0 := bx_keep bx2_0 hk12 (by omega) (fun h => h)
        replace bx2_1 := bx_keep bx2_1 hk12 (by omega) (fun h => h)
        replace bx2_2 := bx_keep bx2_2 hk12 (by omega) (fun h => h)
        replace bx2_3 := bx_keep bx2_3 hk12 (by omega) (fun h => h)
        replace bx2_4 := bx_keep bx2_4 hk12 (by omega) (fun h => h)
        replace bx2_5 := bx_keep bx2_5 hk12 (by omega) (fun h => h)
        replace bx3_0 := bx_keep bx3_0 hk12 (by omega) (fun h => h)
        replace bx3_1 := bx_keep bx3_1 hk12 (by omega) (fun h => h)
        replace bx3_2 := bx_keep bx3_2 hk12 (by omega) (fun h => h)
        replace bx3_3 := bx_keep bx3_3 hk12 (by omega) (fun h => h)
        replace bx3_4 := bx_keep bx3_4 hk12 (by omega) (fun h => h)
        replace bx3_5 := bx_keep bx3_5 hk12 (by omega) (fun h => h)
        replace bx4_0 := bx_keep bx4_0 hk12 (by omega) (fun h => h)
        replace bx4_1 := bx_keep bx4_1 hk12 (by omega) (fun h => h)
        replace bx4_2 := bx_keep bx4_2 hk12 (by omega) (fun h => h)
        replace bx4_3 := bx_keep bx4_3 hk12 (by omega) (fun h => h)
        replace bx4_4 := bx_keep bx4_4 hk12 (by omega) (fun h => h)
        replace bx4_5 := bx_keep bx4_5 hk12 (by omega) (fun h => h)
        replace hO2_0 := rol_keep hO2_0 hk12 (by omega) (fun _ h => h.elim)
        replace hm8 := hm8.kp hk12 (fun _ _ h => h)
        replace hm10 := hm10.kp hk12 (fun _ _ h => h)
        replace hB := hB.trans (hk12.below hB.size (fun _ h => h.elim))
        have hs21 := hk12.size_le
        obtain ⟨Ar120_2, cr120_2, Ar120_4, cr120_4, Ar120_5, cr120_5, rfl, -⟩ := Hand.cells hO12_0.ro
        have hxl12 := hD12.bx.lt
        have hxg12 := (hD12.box _ _ _ rfl).2.1
        have bx5_0 := hD12.bx.cell 0 rfl
        simp only [List.getElem_toArray, List.getElem_cons_zero, List.getElem_cons_succ] at bx5_0
        have bx5_1 := hD12.bx.cell 1 rfl
        simp only [List.getElem_toArray, List.getElem_cons_zero, List.getElem_cons_succ] at bx5_1
        have bx5_2 := hD12.bx.cell 2 rfl
        simp only [List.getElem_toArray, List.getElem_cons_zero, List.getElem_cons_succ] at bx5_2
        have bx5_3 := hD12.bx.cell 3 rfl
        simp only [List.getElem_toArray, List.getElem_cons_zero, List.getElem_cons_succ] at bx5_3
        have bx5_4 := hD12.bx.cell 4 rfl
        simp only [List.getElem_toArray, List.getElem_cons_zero, List.getElem_cons_succ] at bx5_4
        have bx5_5 := hD12.bx.cell 5 rfl
        simp only [List.getElem_toArray, List.getElem_cons_zero, List.getElem_cons_succ] at bx5_5
        have hlo12_0 : ∀ b, F12_0 b → w11.heap.size ≤ b := fun b h => (hFp12 b h).1
        have hne12_0 : ∀ b, F12_0 b → b ≠ p12 := fun b h => (hFp12 b h).2
        have hhi12_0 : ∀ b, F12_0 b → b < w12.heap.size := hO12_0.lt
        have HE13 := laws_eqHand r0 r0 _ _ w12 hO12_0.lo (hO2_0.up (by omega))
        rw [decide_eq_true rfl] at HE13
        go_wp2_with fail
        refine (HE13).mono ?_
        rintro e w13 ⟨rfl, hb13⟩
        have hk13 := Kp.of_below0 hb13
        replace bx0_0 := bx_keep bx0_0 hk13 (by omega) (fun h => h)
        replace bx0_1 := bx_keep bx0_1 hk13 (by omega) (fun h => h)
        replace bx0_2 := bx_keep bx0_2 hk13 (by omega) (fun h => h)
        replace bx0_3 := bx_keep bx0_3 hk13 (by omega) (fun h => h)
        replace bx0_4 := bx_keep bx0_4 hk13 (by omega) (fun h => h)
        replace bx0_5 := bx_keep bx0_5 hk13 (by omega) (fun h => h)
        replace bx1_0 := bx_keep bx1_0 hk13 (by omega) (fun h => h)
        replace bx1_1 := bx_keep bx1_1 hk13 (by omega) (fun h => h)
        replace bx1_2 := bx_keep bx1_2 hk13 (by omega) (fun h => h)
        replace bx2_0 := bx_keep bx2_0 hk13 (by omega) (fun h => h)
        replace bx2_1 := bx_keep bx2_1 hk13 (by omega) (fun h => h)
        replace bx2_2 := bx_keep bx2_2 hk13 (by omega) (fun h => h)
        replace bx2_3 := bx_keep bx2_3 hk13 (by omega) (fun h => h)
        replace bx2_4 := bx_keep bx2_4 hk13 (by omega) (fun h => h)
        replace bx2_5 := bx_keep bx2_5 hk13 (by omega) (fun h => h)
        replace bx3_0 := bx_keep bx3_0 hk13 (by omega) (fun h => h)
        replace bx3_1 := bx_keep bx3_1 hk13 (by omega) (fun h => h)
        replace bx3_2 := bx_keep bx3_2 hk13 (by omega) (fun h => h)
        replace bx3_3 := bx_keep bx3_3 hk13 (by omega) (fun h => h)
        replace bx3_4 := bx_keep bx3_4 hk13 (by omega) (fun h => h)
        replace bx3_5 := bx_keep bx3_5 hk13 (by omega) (fun h => h)
        replace bx4_0 := bx_keep bx4_0 hk13 (by omega) (fun h => h)
        replace bx4_1 := bx_keep bx4_1 hk13 (by omega) (fun h => h)
        replace bx4_2 := bx_keep bx4_2 hk13 (by omega) (fun h => h)
        replace bx4_3 := bx_keep bx4_3 hk13 (by omega) (fun h => h)
        replace bx4_4 := bx_keep bx4_4 hk13 (by omega) (fun h => h)
        replace bx4_5 := bx_keep bx4_5 hk13 (by omega) (fun h => h)
        replace bx5_0 := bx_keep bx5_0 hk13 (by omega) (fun h => h)
        replace bx5_1 := bx_keep bx5_1 hk13 (by omega) (fun h => h)
        replace bx5_2 := bx_keep bx5_2 hk13 (by omega) (fun h => h)
        replace bx5_3 := bx_keep bx5_3 hk13 (by omega) (fun h => h)
        replace bx5_4 := bx_keep bx5_4 hk13 (by omega) (fun h => h)
        replace bx5_5 := bx_keep bx5_5 hk13 (by omega) (fun h => h)
        replace hO2_0 := rol_keep hO2_0 hk13 (by omega) (fun _ h => h.elim)
        replace hm8 := hm8.kp hk13 (fun _ _ h => h)
        replace hm10 := hm10.kp hk13 (fun _ _ h => h)
        replace hO12_0 := hO12_0.kp hk13 (fun _ _ h => h)
        replace hB := hB.trans (hk13.below hB.size (fun _ h => h.elim))
        have hs22 := hk13.size_le
        go_wp2_with fail
        refine (laws_heldHand r0 _ (1) w13 hm10.lo (by omega) (by omega)).mono ?_
        rintro e w14 ⟨rfl, hb14⟩
        have hk14 := Kp.of_below0 hb14
        replace bx0_0 := bx_keep bx0_0 hk14 (by omega) (fun h => h)
        replace bx0_1 := bx_keep bx0_1 hk14 (by omega) (fun h => h)
        replace bx0_2 := bx_keep bx0_2 hk14 (by omega) (fun h => h)
        replace bx0_3 := bx_keep bx0_3 hk14 (by omega) (fun h => h)
        replace bx0_4 := bx_keep bx0_4 hk14 (by omega) (fun h => h)
        replace bx0_5 := bx_keep bx0_5 hk14 (by omega) (fun h => h)
        replace bx1_0 := bx_keep bx1_0 hk14 (by omega) (fun h => h)
        replace bx1_1 := bx_keep bx1_1 hk14 (by omega) (fun h => h)
        replace bx1_2 := bx_keep bx1_2 hk14 (by omega) (fun h => h)
        replace bx2_0 := bx_keep bx2_0 hk14 (by omega) (fun h => h)
        replace bx2_1 := bx_keep bx2_1 hk14 (by omega) (fun h => h)
        replace bx2_2 := bx_keep bx2_2 hk14 (by omega) (fun h => h)
        replace bx2_3 := bx_keep bx2_3 hk14 (by omega) (fun h => h)
        replace bx2_4 := bx_keep bx2_4 hk14 (by omega) (fun h => h)
        replace bx2_5 := bx_keep bx2_5 hk14 (by omega) (fun h => h)
        replace bx3_0 := bx_keep bx3_0 hk14 (by omega) (fun h => h)
        replace bx3_1 := bx_keep bx3_1 hk14 (by omega) (fun h => h)
        replace bx3_2 := bx_keep bx3_2 hk14 (by omega) (fun h => h)
        replace bx3_3 := bx_keep bx3_3 hk14 (by omega) (fun h => h)
        replace bx3_4 := bx_keep bx3_4 hk14 (by omega) (fun h => h)
        replace bx3_5 := bx_keep bx3_5 hk14 (by omega) (fun h => h)
        replace bx4_0 := bx_keep bx4_0 hk14 (by omega) (fun h => h)
        replace bx4_1 := bx_keep bx4_1 hk14 (by omega) (fun h => h)
        replace bx4_2 := bx_keep bx4_2 hk14 (by omega) (fun h => h)
        replace bx4_3 := bx_keep bx4_3 hk14 (by omega) (fun h => h)
        replace bx4_4 := bx_keep bx4_4 hk14 (by omega) (fun h => h)
        replace bx4_5 := bx_keep bx4_5 hk14 (by omega) (fun h => h)
        replace bx5_0 := bx_keep bx5_0 hk14 (by omega) (fun h => h)
        replace bx5_1 := bx_keep bx5_1 hk14 (by omega) (fun h => h)
        replace bx5_2 := bx_keep bx5_2 hk14 (by omega) (fun h => h)
        replace bx5_3 := bx_keep bx5_3 hk14 (by omega) (fun h => h)
        replace bx5_4 := bx_keep bx5_4 hk14 (by omega) (fun h => h)
        replace bx5_5 := bx_keep bx5_5 hk14 (by omega) (fun h => h)
        replace hO2_0 := rol_keep hO2_0 hk14 (by omega) (fun _ h => h.elim)
        replace hm8 := hm8.kp hk14 (fun _ _ h => h)
        replace hm10 := hm10.kp hk14 (fun _ _ h => h)
        replace hO12_0 := hO12_0.kp hk14 (fun _ _ h => h)
        replace hB := hB.trans (hk14.below hB.size (fun _ h => h.elim))
        have hs23 := hk14.size_le
        go_wp2
        go_ret
        exact ⟨rfl, hB⟩
end FnExactSayHand
end Go.Proofs.Ytmofbfeclecdoaa

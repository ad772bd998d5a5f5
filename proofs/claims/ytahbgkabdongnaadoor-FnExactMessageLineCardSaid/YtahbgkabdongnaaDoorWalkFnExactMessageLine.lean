/- The walk of FnExactMessageLine. -/
import Derived.Test.YtahbgkabdongnaaDoorMsl
import Derived.Test.YtahbgkabdongnaaDoorYMessage
import Derived.Test.YtahbgkabdongnaaDoorLaw
import Derived.StillTailTactics
namespace Go.Proofs.YtahbgkabdongnaaDoor
open Go.ChangeShapes Go.WideShapes Go.ChangeAt Go.RowKit Go.Dt
set_option linter.unusedVariables false
set_option linter.unusedSimpArgs false

namespace FnExactMessageLine
set_option maxHeartbeats 1600000 in
set_option maxRecDepth 100000 in
theorem walk (W : World) (ht : Pow10 W) (u0 : Array Value) (e0 : List D) (t0 : IsL [.int .i64, .int .i64, .int .i64, .str, .int .i64, .bool, .int .i64, .sl 2 1 [.int .i64]] e0) (x0 : RoL W (Lo W.heap.size) e0 u0.toList) :
    Calls Tryd.prog 5 #[.agg u0] W fun e w' => e = .returned (.bool true) ∧ Below W.heap.size W w' := by
  obtain ⟨y0, rfl, w0⟩ := Message.is t0
  obtain ⟨us0, rfl⟩ : ∃ us : List Value, u0 = us.toArray := ⟨u0.toList, by simp⟩
  simp only [List.toList_toArray] at x0
  obtain ⟨Ap0_7, cp0_7, rfl, -⟩ := Message.cells x0
  by_cases hs_0 : Message.z y0 ≤ 1048576
  rotate_left
  · have hB := Below.refl W.heap.size W
    go_enter Tryd.func5, Tryd.ntmps5
    have ha0 := Kp.alloc0 W (.cells #[.int .i64 y0.xNumber, .int .i64 y0.xSender, .int .i64 y0.xAt, .string y0.xText, .int .i64 y0.xEdits, .bool y0.xGone, .int .i64 y0.xReply, .slice Ap0_7 y0.xLikes.length cp0_7] 34)
    have hx0 : W.heap.size < (W.alloc (.cells #[.int .i64 y0.xNumber, .int .i64 y0.xSender, .int .i64 y0.xAt, .string y0.xText, .int .i64 y0.xEdits, .bool y0.xGone, .int .i64 y0.xReply, .slice Ap0_7 y0.xLikes.length cp0_7] 34)).heap.size := by simp
    replace hB := hB.trans (ha0.below hB.size (fun _ h => h.elim))
    have hs0 := ha0.size_le
    have bx0_0 := bx_new W #[.int .i64 y0.xNumber, .int .i64 y0.xSender, .int .i64 y0.xAt, .string y0.xText, .int .i64 y0.xEdits, .bool y0.xGone, .int .i64 y0.xReply, .slice Ap0_7 y0.xLikes.length cp0_7] 34 0 (.int .i64 y0.xNumber) rfl
    have bx0_1 := bx_new W #[.int .i64 y0.xNumber, .int .i64 y0.xSender, .int .i64 y0.xAt, .string y0.xText, .int .i64 y0.xEdits, .bool y0.xGone, .int .i64 y0.xReply, .slice Ap0_7 y0.xLikes.length cp0_7] 34 1 (.int .i64 y0.xSender) rfl
    have bx0_2 := bx_new W #[.int .i64 y0.xNumber, .int .i64 y0.xSender, .int .i64 y0.xAt, .string y0.xText, .int .i64 y0.xEdits, .bool y0.xGone, .int .i64 y0.xReply, .slice Ap0_7 y0.xLikes.length cp0_7] 34 2 (.int .i64 y0.xAt) rfl
    have bx0_3 := bx_new W #[.int .i64 y0.xNumber, .int .i64 y0.xSender, .int .i64 y0.xAt, .string y0.xText, .int .i64 y0.xEdits, .bool y0.xGone, .int .i64 y0.xReply, .slice Ap0_7 y0.xLikes.length cp0_7] 34 3 (.string y0.xText) rfl
    have bx0_4 := bx_new W #[.int .i64 y0.xNumber, .int .i64 y0.xSender, .int .i64 y0.xAt, .string y0.xText, .int .i64 y0.xEdits, .bool y0.xGone, .int .i64 y0.xReply, .slice Ap0_7 y0.xLikes.length cp0_7] 34 4 (.int .i64 y0.xEdits) rfl
    have bx0_5 := bx_new W #[.int .i64 y0.xNumber, .int .i64 y0.xSender, .int .i64 y0.xAt, .string y0.xText, .int .i64 y0.xEdits, .bool y0.xGone, .int .i64 y0.xReply, .slice Ap0_7 y0.xLikes.length cp0_7] 34 5 (.bool y0.xGone) rfl
    have bx0_6 := bx_new W #[.int .i64 y0.xNumber, .int .i64 y0.xSender, .int .i64 y0.xAt, .string y0.xText, .int .i64 y0.xEdits, .bool y0.xGone, .int .i64 y0.xReply, .slice Ap0_7 y0.xLikes.length cp0_7] 34 6 (.int .i64 y0.xReply) rfl
    have bx0_7 := bx_new W #[.int .i64 y0.xNumber, .int .i64 y0.xSender, .int .i64 y0.xAt, .string y0.xText, .int .i64 y0.xEdits, .bool y0.xGone, .int .i64 y0.xReply, .slice Ap0_7 y0.xLikes.length cp0_7] 34 7 (.slice Ap0_7 y0.xLikes.length cp0_7) rfl
    have HZ0 := laws_szMessage y0 _ (1048576) (W.alloc (.cells #[.int .i64 y0.xNumber, .int .i64 y0.xSender, .int .i64 y0.xAt, .string y0.xText, .int .i64 y0.xEdits, .bool y0.xGone, .int .i64 y0.xReply, .slice Ap0_7 y0.xLikes.length cp0_7] 34)) (rol_to x0 hB) w0 (by omega) (by omega)
    rw [szr_no (by push_cast at *; omega)] at HZ0
    go_wp2_with fail
    refine (HZ0).mono ?_
    rintro e w0 ⟨rfl, hb0⟩
    have hk0 := Kp.of_below0 hb0
    replace bx0_0 := bx_keep bx0_0 hk0 (by omega) (fun h => h)
    replace bx0_1 := bx_keep bx0_1 hk0 (by omega) (fun h => h)
    replace bx0_2 := bx_keep bx0_2 hk0 (by omega) (fun h => h)
    replace bx0_3 := bx_keep bx0_3 hk0 (by omega) (fun h => h)
    replace bx0_4 := bx_keep bx0_4 hk0 (by omega) (fun h => h)
    replace bx0_5 := bx_keep bx0_5 hk0 (by omega) (fun h => h)
    replace bx0_6 := bx_keep bx0_6 hk0 (by omega) (fun h => h)
    replace bx0_7 := bx_keep bx0_7 hk0 (by omega) (fun h => h)
    replace hB := hB.trans (hk0.below hB.size (fun _ h => h.elim))
    have hs1 := hk0.size_le
    go_wp2
    go_ret
    exact ⟨rfl, hB⟩
  have hz0 : Message.z y0 ≤ 1048576 := by omega
  have HT_aM := fun (w : World) (hb : Below W.heap.size W w) => laws_toMessage y0 _ w (rol_to x0 hb) hz0
  have HS := MessageLine_lawS y0
  have HI := MessageLine_lawI y0
  generalize MessageLine_f y0 = r at *
  obtain ⟨r0, r1⟩ := r
  simp only at *
  have hB := Below.refl W.heap.size W
  go_enter Tryd.func5, Tryd.ntmps5
  have ha2 := Kp.alloc0 W (.cells #[.int .i64 y0.xNumber, .int .i64 y0.xSender, .int .i64 y0.xAt, .string y0.xText, .int .i64 y0.xEdits, .bool y0.xGone, .int .i64 y0.xReply, .slice Ap0_7 y0.xLikes.length cp0_7] 34)
  have hx2 : W.heap.size < (W.alloc (.cells #[.int .i64 y0.xNumber, .int .i64 y0.xSender, .int .i64 y0.xAt, .string y0.xText, .int .i64 y0.xEdits, .bool y0.xGone, .int .i64 y0.xReply, .slice Ap0_7 y0.xLikes.length cp0_7] 34)).heap.size := by simp
  replace hB := hB.trans (ha2.below hB.size (fun _ h => h.elim))
  have hs2 := ha2.size_le
  have bx0_0 := bx_new W #[.int .i64 y0.xNumber, .int .i64 y0.xSender, .int .i64 y0.xAt, .string y0.xText, .int .i64 y0.xEdits, .bool y0.xGone, .int .i64 y0.xReply, .slice Ap0_7 y0.xLikes.length cp0_7] 34 0 (.int .i64 y0.xNumber) rfl
  have bx0_1 := bx_new W #[.int .i64 y0.xNumber, .int .i64 y0.xSender, .int .i64 y0.xAt, .string y0.xText, .int .i64 y0.xEdits, .bool y0.xGone, .int .i64 y0.xReply, .slice Ap0_7 y0.xLikes.length cp0_7] 34 1 (.int .i64 y0.xSender) rfl
  have bx0_2 := bx_new W #[.int .i64 y0.xNumber, .int .i64 y0.xSender, .int .i64 y0.xAt, .string y0.xText, .int .i64 y0.xEdits, .bool y0.xGone, .int .i64 y0.xReply, .slice Ap0_7 y0.xLikes.length cp0_7] 34 2 (.int .i64 y0.xAt) rfl
  have bx0_3 := bx_new W #[.int .i64 y0.xNumber, .int .i64 y0.xSender, .int .i64 y0.xAt, .string y0.xText, .int .i64 y0.xEdits, .bool y0.xGone, .int .i64 y0.xReply, .slice Ap0_7 y0.xLikes.length cp0_7] 34 3 (.string y0.xText) rfl
  have bx0_4 := bx_new W #[.int .i64 y0.xNumber, .int .i64 y0.xSender, .int .i64 y0.xAt, .string y0.xText, .int .i64 y0.xEdits, .bool y0.xGone, .int .i64 y0.xReply, .slice Ap0_7 y0.xLikes.length cp0_7] 34 4 (.int .i64 y0.xEdits) rfl
  have bx0_5 := bx_new W #[.int .i64 y0.xNumber, .int .i64 y0.xSender, .int .i64 y0.xAt, .string y0.xText, .int .i64 y0.xEdits, .bool y0.xGone, .int .i64 y0.xReply, .slice Ap0_7 y0.xLikes.length cp0_7] 34 5 (.bool y0.xGone) rfl
  have bx0_6 := bx_new W #[.int .i64 y0.xNumber, .int .i64 y0.xSender, .int .i64 y0.xAt, .string y0.xText, .int .i64 y0.xEdits, .bool y0.xGone, .int .i64 y0.xReply, .slice Ap0_7 y0.xLikes.length cp0_7] 34 6 (.int .i64 y0.xReply) rfl
  have bx0_7 := bx_new W #[.int .i64 y0.xNumber, .int .i64 y0.xSender, .int .i64 y0.xAt, .string y0.xText, .int .i64 y0.xEdits, .bool y0.xGone, .int .i64 y0.xReply, .slice Ap0_7 y0.xLikes.length cp0_7] 34 7 (.slice Ap0_7 y0.xLikes.length cp0_7) rfl
  have HZ0 := laws_szMessage y0 _ (1048576) (W.alloc (.cells #[.int .i64 y0.xNumber, .int .i64 y0.xSender, .int .i64 y0.xAt, .string y0.xText, .int .i64 y0.xEdits, .bool y0.xGone, .int .i64 y0.xReply, .slice Ap0_7 y0.xLikes.length cp0_7] 34)) (rol_to x0 hB) w0 (by omega) (by omega)
  rw [szr_yes (by push_cast at *; omega)] at HZ0
  go_wp2_with fail
  refine (HZ0).mono ?_
  rintro e w0 ⟨rfl, hb0⟩
  have hk0 := Kp.of_below0 hb0
  replace bx0_0 := bx_keep bx0_0 hk0 (by omega) (fun h => h)
  replace bx0_1 := bx_keep bx0_1 hk0 (by omega) (fun h => h)
  replace bx0_2 := bx_keep bx0_2 hk0 (by omega) (fun h => h)
  replace bx0_3 := bx_keep bx0_3 hk0 (by omega) (fun h => h)
  replace bx0_4 := bx_keep bx0_4 hk0 (by omega) (fun h => h)
  replace bx0_5 := bx_keep bx0_5 hk0 (by omega) (fun h => h)
  replace bx0_6 := bx_keep bx0_6 hk0 (by omega) (fun h => h)
  replace bx0_7 := bx_keep bx0_7 hk0 (by omega) (fun h => h)
  replace hB := hB.trans (hk0.below hB.size (fun _ h => h.elim))
  have hs3 := hk0.size_le
  go_wp2_with fail
  refine (HT_aM w0 hB).mono ?_
  rintro e w1 ⟨us1, F1, rfl, hO1, hb1, hlo1⟩
  have hk1 := Kp.of_below0 hb1
  replace bx0_0 := bx_keep bx0_0 hk1 (by omega) (fun h => h)
  replace bx0_1 := bx_keep bx0_1 hk1 (by omega) (fun h => h)
  replace bx0_2 := bx_keep bx0_2 hk1 (by omega) (fun h => h)
  replace bx0_3 := bx_keep bx0_3 hk1 (by omega) (fun h => h)
  replace bx0_4 := bx_keep bx0_4 hk1 (by omega) (fun h => h)
  replace bx0_5 := bx_keep bx0_5 hk1 (by omega) (fun h => h)
  replace bx0_6 := bx_keep bx0_6 hk1 (by omega) (fun h => h)
  replace bx0_7 := bx_keep bx0_7 hk1 (by omega) (fun h => h)
  replace hB := hB.trans (hk1.below hB.size (fun _ h => h.elim))
  have hs4 := hk1.size_le
  obtain ⟨Ao1_7, co1_7, rfl, -⟩ := Message.cells hO1.ro
  have hhi1 : ∀ b, F1 b → b < w1.heap.size := hO1.lt
  go_wp2_with fail
  refine (HS _ w1 hO1.lo hz0).mono ?_
  rintro e w2 ⟨rfl, hb2⟩
  have hk2 := Kp.of_below0 hb2
  replace bx0_0 := bx_keep bx0_0 hk2 (by omega) (fun h => h)
  replace bx0_1 := bx_keep bx0_1 hk2 (by omega) (fun h => h)
  replace bx0_2 := bx_keep bx0_2 hk2 (by omega) (fun h => h)
  replace bx0_3 := bx_keep bx0_3 hk2 (by omega) (fun h => h)
  replace bx0_4 := bx_keep bx0_4 hk2 (by omega) (fun h => h)
  replace bx0_5 := bx_keep bx0_5 hk2 (by omega) (fun h => h)
  replace bx0_6 := bx_keep bx0_6 hk2 (by omega) (fun h => h)
  replace bx0_7 := bx_keep bx0_7 hk2 (by omega) (fun h => h)
  replace hO1 := hO1.kp hk2 (fun _ _ h => h)
  replace hB := hB.trans (hk2.below hB.size (fun _ h => h.elim))
  have hs5 := hk2.size_le
  go_wp2_with fail
  refine (HT_aM w2 hB).mono ?_
  rintro e w3 ⟨us3, F3, rfl, hO3, hb3, hlo3⟩
  have hk3 := Kp.of_below0 hb3
  replace bx0_0 := bx_keep bx0_0 hk3 (by omega) (fun h => h)
  replace bx0_1 := bx_keep bx0_1 hk3 (by omega) (fun h => h)
  replace bx0_2 := bx_keep bx0_2 hk3 (by omega) (fun h => h)
  replace bx0_3 := bx_keep bx0_3 hk3 (by omega) (fun h => h)
  replace bx0_4 := bx_keep bx0_4 hk3 (by omega) (fun h => h)
  replace bx0_5 := bx_keep bx0_5 hk3 (by omega) (fun h => h)
  replace bx0_6 := bx_keep bx0_6 hk3 (by omega) (fun h => h)
  replace bx0_7 := bx_keep bx0_7 hk3 (by omega) (fun h => h)
  replace hB := hB.trans (hk3.below hB.size (fun _ h => h.elim))
  have hs6 := hk3.size_le
  obtain ⟨Ao3_7, co3_7, rfl, -⟩ := Message.cells hO3.ro
  have hhi3 : ∀ b, F3 b → b < w3.heap.size := hO3.lt
  have ha7 := Kp.alloc0 w3 (.cells #[.int .i64 y0.xNumber, .int .i64 y0.xSender, .int .i64 y0.xAt, .string y0.xText, .int .i64 y0.xEdits, .bool y0.xGone, .int .i64 y0.xReply, .slice Ao3_7 y0.xLikes.length co3_7] 37)
  have hx7 : w3.heap.size < (w3.alloc (.cells #[.int .i64 y0.xNumber, .int .i64 y0.xSender, .int .i64 y0.xAt, .string y0.xText, .int .i64 y0.xEdits, .bool y0.xGone, .int .i64 y0.xReply, .slice Ao3_7 y0.xLikes.length co3_7] 37)).heap.size := by simp
  replace bx0_0 := bx_keep bx0_0 ha7 (by omega) (fun h => h)
  replace bx0_1 := bx_keep bx0_1 ha7 (by omega) (fun h => h)
  replace bx0_2 := bx_keep bx0_2 ha7 (by omega) (fun h => h)
  replace bx0_3 := bx_keep bx0_3 ha7 (by omega) (fun h => h)
  replace bx0_4 := bx_keep bx0_4 ha7 (by omega) (fun h => h)
  replace bx0_5 := bx_keep bx0_5 ha7 (by omega) (fun h => h)
  replace bx0_6 := bx_keep bx0_6 ha7 (by omega) (fun h => h)
  replace bx0_7 := bx_keep bx0_7 ha7 (by omega) (fun h => h)
  replace hO3 := hO3.kp ha7 (fun _ _ h => h)
  replace hB := hB.trans (ha7.below hB.size (fun _ h => h.elim))
  have hs7 := ha7.size_le
  have bx1_0 := bx_new w3 #[.int .i64 y0.xNumber, .int .i64 y0.xSender, .int .i64 y0.xAt, .string y0.xText, .int .i64 y0.xEdits, .bool y0.xGone, .int .i64 y0.xReply, .slice Ao3_7 y0.xLikes.length co3_7] 37 0 (.int .i64 y0.xNumber) rfl
  have bx1_1 := bx_new w3 #[.int .i64 y0.xNumber, .int .i64 y0.xSender, .int .i64 y0.xAt, .string y0.xText, .int .i64 y0.xEdits, .bool y0.xGone, .int .i64 y0.xReply, .slice Ao3_7 y0.xLikes.length co3_7] 37 1 (.int .i64 y0.xSender) rfl
  have bx1_2 := bx_new w3 #[.int .i64 y0.xNumber, .int .i64 y0.xSender, .int .i64 y0.xAt, .string y0.xText, .int .i64 y0.xEdits, .bool y0.xGone, .int .i64 y0.xReply, .slice Ao3_7 y0.xLikes.length co3_7] 37 2 (.int .i64 y0.xAt) rfl
  have bx1_3 := bx_new w3 #[.int .i64 y0.xNumber, .int .i64 y0.xSender, .int .i64 y0.xAt, .string y0.xText, .int .i64 y0.xEdits, .bool y0.xGone, .int .i64 y0.xReply, .slice Ao3_7 y0.xLikes.length co3_7] 37 3 (.string y0.xText) rfl
  have bx1_4 := bx_new w3 #[.int .i64 y0.xNumber, .int .i64 y0.xSender, .int .i64 y0.xAt, .string y0.xText, .int .i64 y0.xEdits, .bool y0.xGone, .int .i64 y0.xReply, .slice Ao3_7 y0.xLikes.length co3_7] 37 4 (.int .i64 y0.xEdits) rfl
  have bx1_5 := bx_new w3 #[.int .i64 y0.xNumber, .int .i64 y0.xSender, .int .i64 y0.xAt, .string y0.xText, .int .i64 y0.xEdits, .bool y0.xGone, .int .i64 y0.xReply, .slice Ao3_7 y0.xLikes.length co3_7] 37 5 (.bool y0.xGone) rfl
  have bx1_6 := bx_new w3 #[.int .i64 y0.xNumber, .int .i64 y0.xSender, .int .i64 y0.xAt, .string y0.xText, .int .i64 y0.xEdits, .bool y0.xGone, .int .i64 y0.xReply, .slice Ao3_7 y0.xLikes.length co3_7] 37 6 (.int .i64 y0.xReply) rfl
  have bx1_7 := bx_new w3 #[.int .i64 y0.xNumber, .int .i64 y0.xSender, .int .i64 y0.xAt, .string y0.xText, .int .i64 y0.xEdits, .bool y0.xGone, .int .i64 y0.xReply, .slice Ao3_7 y0.xLikes.length co3_7] 37 7 (.slice Ao3_7 y0.xLikes.length co3_7) rfl
  go_wp2_with fail
  refine (HI _ (w3.alloc (.cells #[.int .i64 y0.xNumber, .int .i64 y0.xSender, .int .i64 y0.xAt, .string y0.xText, .int .i64 y0.xEdits, .bool y0.xGone, .int .i64 y0.xReply, .slice Ao3_7 y0.xLikes.length co3_7] 37)) (ht.on hB) hO3.lo hz0).mono ?_
  rintro e w4 ⟨rfl, hb4⟩
  have hk4 := Kp.of_below0 hb4
  replace bx0_0 := bx_keep bx0_0 hk4 (by omega) (fun h => h)
  replace bx0_1 := bx_keep bx0_1 hk4 (by omega) (fun h => h)
  replace bx0_2 := bx_keep bx0_2 hk4 (by omega) (fun h => h)
  replace bx0_3 := bx_keep bx0_3 hk4 (by omega) (fun h => h)
  replace bx0_4 := bx_keep bx0_4 hk4 (by omega) (fun h => h)
  replace bx0_5 := bx_keep bx0_5 hk4 (by omega) (fun h => h)
  replace bx0_6 := bx_keep bx0_6 hk4 (by omega) (fun h => h)
  replace bx0_7 := bx_keep bx0_7 hk4 (by omega) (fun h => h)
  replace bx1_0 := bx_keep bx1_0 hk4 (by omega) (fun h => h)
  replace bx1_1 := bx_keep bx1_1 hk4 (by omega) (fun h => h)
  replace bx1_2 := bx_keep bx1_2 hk4 (by omega) (fun h => h)
  replace bx1_3 := bx_keep bx1_3 hk4 (by omega) (fun h => h)
  replace bx1_4 := bx_keep bx1_4 hk4 (by omega) (fun h => h)
  replace bx1_5 := bx_keep bx1_5 hk4 (by omega) (fun h => h)
  replace bx1_6 := bx_keep bx1_6 hk4 (by omega) (fun h => h)
  replace bx1_7 := bx_keep bx1_7 hk4 (by omega) (fun h => h)
  replace hO3 := hO3.kp hk4 (fun _ _ h => h)
  replace hB := hB.trans (hk4.below hB.size (fun _ h => h.elim))
  have hs8 := hk4.size_le
  go_wp2
  go_region_held3 (fun w' => Below w4.heap.size w4 w' ∧ w'.cell? ⟨w3.heap.size, 0, none⟩ = some (.int .i64 y0.xNumber) ∧ w'.cell? ⟨w3.heap.size, 1, none⟩ = some (.int .i64 y0.xSender) ∧ w'.cell? ⟨w3.heap.size, 2, none⟩ = some (.int .i64 y0.xAt) ∧ w'.cell? ⟨w3.heap.size, 3, none⟩ = some (.string y0.xText) ∧ w'.cell? ⟨w3.heap.size, 4, none⟩ = some (.int .i64 y0.xEdits) ∧ w'.cell? ⟨w3.heap.size, 5, none⟩ = some (.bool y0.xGone) ∧ w'.cell? ⟨w3.heap.size, 6, none⟩ = some (.int .i64 y0.xReply) ∧ w'.cell? ⟨w3.heap.size, 7, none⟩ = some (.slice Ao3_7 y0.xLikes.length co3_7) ∧ w'.cell? ⟨W.heap.size, 0, none⟩ = some (.int .i64 y0.xNumber) ∧ w'.cell? ⟨W.heap.size, 1, none⟩ = some (.int .i64 y0.xSender) ∧ w'.cell? ⟨W.heap.size, 2, none⟩ = some (.int .i64 y0.xAt) ∧ w'.cell? ⟨W.heap.size, 3, none⟩ = some (.string y0.xText) ∧ w'.cell? ⟨W.heap.size, 4, none⟩ = some (.int .i64 y0.xEdits) ∧ w'.cell? ⟨W.heap.size, 5, none⟩ = some (.bool y0.xGone) ∧ w'.cell? ⟨W.heap.size, 6, none⟩ = some (.int .i64 y0.xReply) ∧ w'.cell? ⟨W.heap.size, 7, none⟩ = some (.slice Ap0_7 y0.xLikes.length cp0_7)) (first | exact ⟨below_drew1 _, bx1_0, bx1_1, bx1_2, bx1_3, bx1_4, bx1_5, bx1_6, bx1_7, bx0_0, bx0_1, bx0_2, bx0_3, bx0_4, bx0_5, bx0_6, bx0_7⟩ | exact ⟨hkB5, (hkB5.cell (p := ⟨w3.heap.size, 0, none⟩) (by show w3.heap.size < w4.heap.size; omega)).trans bx1_0, (hkB5.cell (p := ⟨w3.heap.size, 1, none⟩) (by show w3.heap.size < w4.heap.size; omega)).trans bx1_1, (hkB5.cell (p := ⟨w3.heap.size, 2, none⟩) (by show w3.heap.size < w4.heap.size; omega)).trans bx1_2, (hkB5.cell (p := ⟨w3.heap.size, 3, none⟩) (by show w3.heap.size < w4.heap.size; omega)).trans bx1_3, (hkB5.cell (p := ⟨w3.heap.size, 4, none⟩) (by show w3.heap.size < w4.heap.size; omega)).trans bx1_4, (hkB5.cell (p := ⟨w3.heap.size, 5, none⟩) (by show w3.heap.size < w4.heap.size; omega)).trans bx1_5, (hkB5.cell (p := ⟨w3.heap.size, 6, none⟩) (by show w3.heap.size < w4.heap.size; omega)).trans bx1_6, (hkB5.cell (p := ⟨w3.heap.size, 7, none⟩) (by show w3.heap.size < w4.heap.size; omega)).trans bx1_7, (hkB5.cell (p := ⟨W.heap.size, 0, none⟩) (by show W.heap.size < w4.heap.size; omega)).trans bx0_0, (hkB5.cell (p := ⟨W.heap.size, 1, none⟩) (by show W.heap.size < w4.heap.size; omega)).trans bx0_1, (hkB5.cell (p := ⟨W.heap.size, 2, none⟩) (by show W.heap.size < w4.heap.size; omega)).trans bx0_2, (hkB5.cell (p := ⟨W.heap.size, 3, none⟩) (by show W.heap.size < w4.heap.size; omega)).trans bx0_3, (hkB5.cell (p := ⟨W.heap.size, 4, none⟩) (by show W.heap.size < w4.heap.size; omega)).trans bx0_4, (hkB5.cell (p := ⟨W.heap.size, 5, none⟩) (by show W.heap.size < w4.heap.size; omega)).trans bx0_5, (hkB5.cell (p := ⟨W.heap.size, 6, none⟩) (by show W.heap.size < w4.heap.size; omega)).trans bx0_6, (hkB5.cell (p := ⟨W.heap.size, 7, none⟩) (by show W.heap.size < w4.heap.size; omega)).trans bx0_7⟩ | exact ⟨hkA5, (hkA5.cell (p := ⟨w3.heap.size, 0, none⟩) (by show w3.heap.size < w4.heap.size; omega)).trans bx1_0, (hkA5.cell (p := ⟨w3.heap.size, 1, none⟩) (by show w3.heap.size < w4.heap.size; omega)).trans bx1_1, (hkA5.cell (p := ⟨w3.heap.size, 2, none⟩) (by show w3.heap.size < w4.heap.size; omega)).trans bx1_2, (hkA5.cell (p := ⟨w3.heap.size, 3, none⟩) (by show w3.heap.size < w4.heap.size; omega)).trans bx1_3, (hkA5.cell (p := ⟨w3.heap.size, 4, none⟩) (by show w3.heap.size < w4.heap.size; omega)).trans bx1_4, (hkA5.cell (p := ⟨w3.heap.size, 5, none⟩) (by show w3.heap.size < w4.heap.size; omega)).trans bx1_5, (hkA5.cell (p := ⟨w3.heap.size, 6, none⟩) (by show w3.heap.size < w4.heap.size; omega)).trans bx1_6, (hkA5.cell (p := ⟨w3.heap.size, 7, none⟩) (by show w3.heap.size < w4.heap.size; omega)).trans bx1_7, (hkA5.cell (p := ⟨W.heap.size, 0, none⟩) (by show W.heap.size < w4.heap.size; omega)).trans bx0_0, (hkA5.cell (p := ⟨W.heap.size, 1, none⟩) (by show W.heap.size < w4.heap.size; omega)).trans bx0_1, (hkA5.cell (p := ⟨W.heap.size, 2, none⟩) (by show W.heap.size < w4.heap.size; omega)).trans bx0_2, (hkA5.cell (p := ⟨W.heap.size, 3, none⟩) (by show W.heap.size < w4.heap.size; omega)).trans bx0_3, (hkA5.cell (p := ⟨W.heap.size, 4, none⟩) (by show W.heap.size < w4.heap.size; omega)).trans bx0_4, (hkA5.cell (p := ⟨W.heap.size, 5, none⟩) (by show W.heap.size < w4.heap.size; omega)).trans bx0_5, (hkA5.cell (p := ⟨W.heap.size, 6, none⟩) (by show W.heap.size < w4.heap.size; omega)).trans bx0_6, (hkA5.cell (p := ⟨W.heap.size, 7, none⟩) (by show W.heap.size < w4.heap.size; omega)).trans bx0_7⟩) (first | (go_at_call 19; (with_reducible refine (HT_aM _ hB.drew).mono ?_); rintro e w5 ⟨us5, F5, rfl, hO5, hb5, hlo5⟩; obtain ⟨Ao5_7, co5_7, rfl, -⟩ := Message.cells hO5.ro; have hkA5 := (below_drew1 w4).trans hb5) | (go_at_call 21; (with_reducible refine (laws_eqMessage y0 y0 _ _ _ (hO3.keep hkA5).lo hO5.lo).mono ?_); rintro e w6 ⟨rfl, hb6⟩; have hkB5 := hkA5.trans (hb6.mono hkA5.size)))
  have hk5 := Kp.of_below0 hkB5
  replace bx0_0 := bx_keep bx0_0 hk5 (by omega) (fun h => h)
  replace bx0_1 := bx_keep bx0_1 hk5 (by omega) (fun h => h)
  replace bx0_2 := bx_keep bx0_2 hk5 (by omega) (fun h => h)
  replace bx0_3 := bx_keep bx0_3 hk5 (by omega) (fun h => h)
  replace bx0_4 := bx_keep bx0_4 hk5 (by omega) (fun h => h)
  replace bx0_5 := bx_keep bx0_5 hk5 (by omega) (fun h => h)
  replace bx0_6 := bx_keep bx0_6 hk5 (by omega) (fun h => h)
  replace bx0_7 := bx_keep bx0_7 hk5 (by omega) (fun h => h)
  replace bx1_0 := bx_keep bx1_0 hk5 (by omega) (fun h => h)
  replace bx1_1 := bx_keep bx1_1 hk5 (by omega) (fun h => h)
  replace bx1_2 := bx_keep bx1_2 hk5 (by omega) (fun h => h)
  replace bx1_3 := bx_keep bx1_3 hk5 (by omega) (fun h => h)
  replace bx1_4 := bx_keep bx1_4 hk5 (by omega) (fun h => h)
  replace bx1_5 := bx_keep bx1_5 hk5 (by omega) (fun h => h)
  replace bx1_6 := bx_keep bx1_6 hk5 (by omega) (fun h => h)
  replace bx1_7 := bx_keep bx1_7 hk5 (by omega) (fun h => h)
  replace hO3 := hO3.kp hk5 (fun _ _ h => h)
  replace hB := hB.trans (hk5.below hB.size (fun _ h => h.elim))
  have hs9 := hk5.size_le
  go_wp2
  go_ret
  exact ⟨rfl, hB⟩
end FnExactMessageLine
end Go.Proofs.YtahbgkabdongnaaDoor

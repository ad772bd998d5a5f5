/- The walk of FnExactValidDesk. -/
import Derived.Test.YtmofbfeclecdoaaDesk
import Derived.Test.YtmofbfeclecdoaaYDesk
import Derived.Test.YtmofbfeclecdoaaLaw
import Derived.StillTailTactics
namespace Go.Proofs.Ytmofbfeclecdoaa
open Go.ChangeShapes Go.WideShapes Go.ChangeAt Go.RowKit Go.Dt
set_option linter.unusedVariables false
set_option linter.unusedSimpArgs false

namespace FnExactValidDesk
set_option maxHeartbeats 1600000 in
set_option maxRecDepth 100000 in
theorem walk (W : World) (u0 : Array Value) (e0 : List D) (t0 : IsL [.int .i64, .int .i64, .sl 192 8 [.int .i64, .int .i64, .int .i64, .str, .int .i64, .bool, .int .i64, .sl 2 1 [.int .i64]], .sl 237 2 [.int .i64, .int .i64], .sl 237 2 [.int .i64, .int .i64], .sl 239 2 [.int .i64, .int .i64]] e0) (x0 : RoL W (Lo W.heap.size) e0 u0.toList) :
    Calls Try.prog 8 #[.agg u0] W fun e w' => e = .returned (.bool true) ∧ Below W.heap.size W w' := by
  obtain ⟨y0, rfl, w0⟩ := Desk.is t0
  obtain ⟨us0, rfl⟩ : ∃ us : List Value, u0 = us.toArray := ⟨u0.toList, by simp⟩
  simp only [List.toList_toArray] at x0
  obtain ⟨Ap0_2, cp0_2, Ap0_3, cp0_3, Ap0_4, cp0_4, Ap0_5, cp0_5, rfl, -⟩ := Desk.cells x0
  by_cases hs_0 : Desk.z y0 ≤ 1048576
  rotate_left
  · have hB := Below.refl W.heap.size W
    go_enter Try.func8, Try.ntmps8
    have ha0 := Kp.alloc0 W (.cells #[.int .i64 y0.xTime, .int .i64 y0.xLog.xNext, .slice Ap0_2 y0.xLog.xMessages.length cp0_2, .slice Ap0_3 y0.xPresence.xHere.length cp0_3, .slice Ap0_4 y0.xPresence.xTyping.length cp0_4, .slice Ap0_5 y0.xPresence.xMarks.length cp0_5] 64)
    have hx0 : W.heap.size < (W.alloc (.cells #[.int .i64 y0.xTime, .int .i64 y0.xLog.xNext, .slice Ap0_2 y0.xLog.xMessages.length cp0_2, .slice Ap0_3 y0.xPresence.xHere.length cp0_3, .slice Ap0_4 y0.xPresence.xTyping.length cp0_4, .slice Ap0_5 y0.xPresence.xMarks.length cp0_5] 64)).heap.size := by simp
    replace hB := hB.trans (ha0.below hB.size (fun _ h => h.elim))
    have hs0 := ha0.size_le
    have bx0_0 := bx_new W #[.int .i64 y0.xTime, .int .i64 y0.xLog.xNext, .slice Ap0_2 y0.xLog.xMessages.length cp0_2, .slice Ap0_3 y0.xPresence.xHere.length cp0_3, .slice Ap0_4 y0.xPresence.xTyping.length cp0_4, .slice Ap0_5 y0.xPresence.xMarks.length cp0_5] 64 0 (.int .i64 y0.xTime) rfl
    have bx0_1 := bx_new W #[.int .i64 y0.xTime, .int .i64 y0.xLog.xNext, .slice Ap0_2 y0.xLog.xMessages.length cp0_2, .slice Ap0_3 y0.xPresence.xHere.length cp0_3, .slice Ap0_4 y0.xPresence.xTyping.length cp0_4, .slice Ap0_5 y0.xPresence.xMarks.length cp0_5] 64 1 (.int .i64 y0.xLog.xNext) rfl
    have bx0_2 := bx_new W #[.int .i64 y0.xTime, .int .i64 y0.xLog.xNext, .slice Ap0_2 y0.xLog.xMessages.length cp0_2, .slice Ap0_3 y0.xPresence.xHere.length cp0_3, .slice Ap0_4 y0.xPresence.xTyping.length cp0_4, .slice Ap0_5 y0.xPresence.xMarks.length cp0_5] 64 2 (.slice Ap0_2 y0.xLog.xMessages.length cp0_2) rfl
    have bx0_3 := bx_new W #[.int .i64 y0.xTime, .int .i64 y0.xLog.xNext, .slice Ap0_2 y0.xLog.xMessages.length cp0_2, .slice Ap0_3 y0.xPresence.xHere.length cp0_3, .slice Ap0_4 y0.xPresence.xTyping.length cp0_4, .slice Ap0_5 y0.xPresence.xMarks.length cp0_5] 64 3 (.slice Ap0_3 y0.xPresence.xHere.length cp0_3) rfl
    have bx0_4 := bx_new W #[.int .i64 y0.xTime, .int .i64 y0.xLog.xNext, .slice Ap0_2 y0.xLog.xMessages.length cp0_2, .slice Ap0_3 y0.xPresence.xHere.length cp0_3, .slice Ap0_4 y0.xPresence.xTyping.length cp0_4, .slice Ap0_5 y0.xPresence.xMarks.length cp0_5] 64 4 (.slice Ap0_4 y0.xPresence.xTyping.length cp0_4) rfl
    have bx0_5 := bx_new W #[.int .i64 y0.xTime, .int .i64 y0.xLog.xNext, .slice Ap0_2 y0.xLog.xMessages.length cp0_2, .slice Ap0_3 y0.xPresence.xHere.length cp0_3, .slice Ap0_4 y0.xPresence.xTyping.length cp0_4, .slice Ap0_5 y0.xPresence.xMarks.length cp0_5] 64 5 (.slice Ap0_5 y0.xPresence.xMarks.length cp0_5) rfl
    have HZ0 := laws_szDesk y0 _ (1048576) (W.alloc (.cells #[.int .i64 y0.xTime, .int .i64 y0.xLog.xNext, .slice Ap0_2 y0.xLog.xMessages.length cp0_2, .slice Ap0_3 y0.xPresence.xHere.length cp0_3, .slice Ap0_4 y0.xPresence.xTyping.length cp0_4, .slice Ap0_5 y0.xPresence.xMarks.length cp0_5] 64)) (rol_to x0 hB) w0 (by omega) (by omega)
    rw [szr_no (by push_cast at *; omega)] at HZ0
    go_wp2_with fail
    refine (HZ0).mono ?_
    rintro e w0 ⟨rfl, hb0⟩
    have hk0 := Kp.of_below0 hb0
    replace bx0_0 := bx_keep bx0_0 hk0 (by omega) (fun h => h)
    replace bx0_1 := bx_keep bx0_1 hk0 (by omega) (fun h => h)
    replace bx0_2 := bx_keep bx0_2 hk0 (by omega) (fun h => h)
    replace bx0_3 := bx_keep bx0_3 hk0 (by omega) (fun h => h)
    replace bx0_4 := bx_keep bx0_4 hk0 (by omega) (fun h => h)
    replace bx0_5 := bx_keep bx0_5 hk0 (by omega) (fun h => h)
    replace hB := hB.trans (hk0.below hB.size (fun _ h => h.elim))
    have hs1 := hk0.size_le
    go_wp2
    go_ret
    exact ⟨rfl, hB⟩
  have hz0 : Desk.z y0 ≤ 1048576 := by omega
  have HT_aD := fun (w : World) (hb : Below W.heap.size W w) => laws_toDesk y0 _ w (rol_to x0 hb) hz0
  have HS := ValidDesk_lawS y0
  have HI := ValidDesk_lawI y0
  generalize ValidDesk_f y0 = r at *
  have hB := Below.refl W.heap.size W
  go_enter Try.func8, Try.ntmps8
  have ha2 := Kp.alloc0 W (.cells #[.int .i64 y0.xTime, .int .i64 y0.xLog.xNext, .slice Ap0_2 y0.xLog.xMessages.length cp0_2, .slice Ap0_3 y0.xPresence.xHere.length cp0_3, .slice Ap0_4 y0.xPresence.xTyping.length cp0_4, .slice Ap0_5 y0.xPresence.xMarks.length cp0_5] 64)
  have hx2 : W.heap.size < (W.alloc (.cells #[.int .i64 y0.xTime, .int .i64 y0.xLog.xNext, .slice Ap0_2 y0.xLog.xMessages.length cp0_2, .slice Ap0_3 y0.xPresence.xHere.length cp0_3, .slice Ap0_4 y0.xPresence.xTyping.length cp0_4, .slice Ap0_5 y0.xPresence.xMarks.length cp0_5] 64)).heap.size := by simp
  replace hB := hB.trans (ha2.below hB.size (fun _ h => h.elim))
  have hs2 := ha2.size_le
  have bx0_0 := bx_new W #[.int .i64 y0.xTime, .int .i64 y0.xLog.xNext, .slice Ap0_2 y0.xLog.xMessages.length cp0_2, .slice Ap0_3 y0.xPresence.xHere.length cp0_3, .slice Ap0_4 y0.xPresence.xTyping.length cp0_4, .slice Ap0_5 y0.xPresence.xMarks.length cp0_5] 64 0 (.int .i64 y0.xTime) rfl
  have bx0_1 := bx_new W #[.int .i64 y0.xTime, .int .i64 y0.xLog.xNext, .slice Ap0_2 y0.xLog.xMessages.length cp0_2, .slice Ap0_3 y0.xPresence.xHere.length cp0_3, .slice Ap0_4 y0.xPresence.xTyping.length cp0_4, .slice Ap0_5 y0.xPresence.xMarks.length cp0_5] 64 1 (.int .i64 y0.xLog.xNext) rfl
  have bx0_2 := bx_new W #[.int .i64 y0.xTime, .int .i64 y0.xLog.xNext, .slice Ap0_2 y0.xLog.xMessages.length cp0_2, .slice Ap0_3 y0.xPresence.xHere.length cp0_3, .slice Ap0_4 y0.xPresence.xTyping.length cp0_4, .slice Ap0_5 y0.xPresence.xMarks.length cp0_5] 64 2 (.slice Ap0_2 y0.xLog.xMessages.length cp0_2) rfl
  have bx0_3 := bx_new W #[.int .i64 y0.xTime, .int .i64 y0.xLog.xNext, .slice Ap0_2 y0.xLog.xMessages.length cp0_2, .slice Ap0_3 y0.xPresence.xHere.length cp0_3, .slice Ap0_4 y0.xPresence.xTyping.length cp0_4, .slice Ap0_5 y0.xPresence.xMarks.length cp0_5] 64 3 (.slice Ap0_3 y0.xPresence.xHere.length cp0_3) rfl
  have bx0_4 := bx_new W #[.int .i64 y0.xTime, .int .i64 y0.xLog.xNext, .slice Ap0_2 y0.xLog.xMessages.length cp0_2, .slice Ap0_3 y0.xPresence.xHere.length cp0_3, .slice Ap0_4 y0.xPresence.xTyping.length cp0_4, .slice Ap0_5 y0.xPresence.xMarks.length cp0_5] 64 4 (.slice Ap0_4 y0.xPresence.xTyping.length cp0_4) rfl
  have bx0_5 := bx_new W #[.int .i64 y0.xTime, .int .i64 y0.xLog.xNext, .slice Ap0_2 y0.xLog.xMessages.length cp0_2, .slice Ap0_3 y0.xPresence.xHere.length cp0_3, .slice Ap0_4 y0.xPresence.xTyping.length cp0_4, .slice Ap0_5 y0.xPresence.xMarks.length cp0_5] 64 5 (.slice Ap0_5 y0.xPresence.xMarks.length cp0_5) rfl
  have HZ0 := laws_szDesk y0 _ (1048576) (W.alloc (.cells #[.int .i64 y0.xTime, .int .i64 y0.xLog.xNext, .slice Ap0_2 y0.xLog.xMessages.length cp0_2, .slice Ap0_3 y0.xPresence.xHere.length cp0_3, .slice Ap0_4 y0.xPresence.xTyping.length cp0_4, .slice Ap0_5 y0.xPresence.xMarks.length cp0_5] 64)) (rol_to x0 hB) w0 (by omega) (by omega)
  rw [szr_yes (by push_cast at *; omega)] at HZ0
  go_wp2_with fail
  refine (HZ0).mono ?_
  rintro e w0 ⟨rfl, hb0⟩
  have hk0 := Kp.of_below0 hb0
  replace bx0_0 := bx_keep bx0_0 hk0 (by omega) (fun h => h)
  replace bx0_1 := bx_keep bx0_1 hk0 (by omega) (fun h => h)
  replace bx0_2 := bx_keep bx0_2 hk0 (by omega) (fun h => h)
  replace bx0_3 := bx_keep bx0_3 hk0 (by omega) (fun h => h)
  replace bx0_4 := bx_keep bx0_4 hk0 (by omega) (fun h => h)
  replace bx0_5 := bx_keep bx0_5 hk0 (by omega) (fun h => h)
  replace hB := hB.trans (hk0.below hB.size (fun _ h => h.elim))
  have hs3 := hk0.size_le
  go_wp2_with fail
  refine (HT_aD w0 hB).mono ?_
  rintro e w1 ⟨us1, F1, rfl, hO1, hb1, hlo1⟩
  have hk1 := Kp.of_below0 hb1
  replace bx0_0 := bx_keep bx0_0 hk1 (by omega) (fun h => h)
  replace bx0_1 := bx_keep bx0_1 hk1 (by omega) (fun h => h)
  replace bx0_2 := bx_keep bx0_2 hk1 (by omega) (fun h => h)
  replace bx0_3 := bx_keep bx0_3 hk1 (by omega) (fun h => h)
  replace bx0_4 := bx_keep bx0_4 hk1 (by omega) (fun h => h)
  replace bx0_5 := bx_keep bx0_5 hk1 (by omega) (fun h => h)
  replace hB := hB.trans (hk1.below hB.size (fun _ h => h.elim))
  have hs4 := hk1.size_le
  obtain ⟨Ao1_2, co1_2, Ao1_3, co1_3, Ao1_4, co1_4, Ao1_5, co1_5, rfl, -⟩ := Desk.cells hO1.ro
  have hhi1 : ∀ b, F1 b → b < w1.heap.size := hO1.lt
  go_wp2_with fail
  refine (HS _ w1 hO1.lo hz0).mono ?_
  rintro e w2 ⟨rfl, hb2⟩
  have hk2 := Kp.of_below0 hb2
  replace bx0_0 := bx_keep bx0_0 hk2 (by omega) (fun h => h)
  replace bx0_1 := bx_keep bx0_1 hk2 (by omega) (fun h => h)
  replace bx0_2 := bx_keep bx0_2 hk2 (by omega) (fun h => h)
  replace bx0_3 := bx_keep bx0_3 hk2 (by omega) (fun h => h)
  replace bx0_4 := bx_keep bx0_4 hk2 (by omega) (fun h => h)
  replace bx0_5 := bx_keep bx0_5 hk2 (by omega) (fun h => h)
  replace hO1 := hO1.kp hk2 (fun _ _ h => h)
  replace hB := hB.trans (hk2.below hB.size (fun _ h => h.elim))
  have hs5 := hk2.size_le
  go_wp2_with fail
  refine (HT_aD w2 hB).mono ?_
  rintro e w3 ⟨us3, F3, rfl, hO3, hb3, hlo3⟩
  have hk3 := Kp.of_below0 hb3
  replace bx0_0 := bx_keep bx0_0 hk3 (by omega) (fun h => h)
  replace bx0_1 := bx_keep bx0_1 hk3 (by omega) (fun h => h)
  replace bx0_2 := bx_keep bx0_2 hk3 (by omega) (fun h => h)
  replace bx0_3 := bx_keep bx0_3 hk3 (by omega) (fun h => h)
  replace bx0_4 := bx_keep bx0_4 hk3 (by omega) (fun h => h)
  replace bx0_5 := bx_keep bx0_5 hk3 (by omega) (fun h => h)
  replace hB := hB.trans (hk3.below hB.size (fun _ h => h.elim))
  have hs6 := hk3.size_le
  obtain ⟨Ao3_2, co3_2, Ao3_3, co3_3, Ao3_4, co3_4, Ao3_5, co3_5, rfl, -⟩ := Desk.cells hO3.ro
  have hhi3 : ∀ b, F3 b → b < w3.heap.size := hO3.lt
  have ha7 := Kp.alloc0 w3 (.cells #[.int .i64 y0.xTime, .int .i64 y0.xLog.xNext, .slice Ao3_2 y0.xLog.xMessages.length co3_2, .slice Ao3_3 y0.xPresence.xHere.length co3_3, .slice Ao3_4 y0.xPresence.xTyping.length co3_4, .slice Ao3_5 y0.xPresence.xMarks.length co3_5] 72)
  have hx7 : w3.heap.size < (w3.alloc (.cells #[.int .i64 y0.xTime, .int .i64 y0.xLog.xNext, .slice Ao3_2 y0.xLog.xMessages.length co3_2, .slice Ao3_3 y0.xPresence.xHere.length co3_3, .slice Ao3_4 y0.xPresence.xTyping.length co3_4, .slice Ao3_5 y0.xPresence.xMarks.length co3_5] 72)).heap.size := by simp
  replace bx0_0 := bx_keep bx0_0 ha7 (by omega) (fun h => h)
  replace bx0_1 := bx_keep bx0_1 ha7 (by omega) (fun h => h)
  replace bx0_2 := bx_keep bx0_2 ha7 (by omega) (fun h => h)
  replace bx0_3 := bx_keep bx0_3 ha7 (by omega) (fun h => h)
  replace bx0_4 := bx_keep bx0_4 ha7 (by omega) (fun h => h)
  replace bx0_5 := bx_keep bx0_5 ha7 (by omega) (fun h => h)
  replace hO3 := hO3.kp ha7 (fun _ _ h => h)
  replace hB := hB.trans (ha7.below hB.size (fun _ h => h.elim))
  have hs7 := ha7.size_le
  have bx1_0 := bx_new w3 #[.int .i64 y0.xTime, .int .i64 y0.xLog.xNext, .slice Ao3_2 y0.xLog.xMessages.length co3_2, .slice Ao3_3 y0.xPresence.xHere.length co3_3, .slice Ao3_4 y0.xPresence.xTyping.length co3_4, .slice Ao3_5 y0.xPresence.xMarks.length co3_5] 72 0 (.int .i64 y0.xTime) rfl
  have bx1_1 := bx_new w3 #[.int .i64 y0.xTime, .int .i64 y0.xLog.xNext, .slice Ao3_2 y0.xLog.xMessages.length co3_2, .slice Ao3_3 y0.xPresence.xHere.length co3_3, .slice Ao3_4 y0.xPresence.xTyping.length co3_4, .slice Ao3_5 y0.xPresence.xMarks.length co3_5] 72 1 (.int .i64 y0.xLog.xNext) rfl
  have bx1_2 := bx_new w3 #[.int .i64 y0.xTime, .int .i64 y0.xLog.xNext, .slice Ao3_2 y0.xLog.xMessages.length co3_2, .slice Ao3_3 y0.xPresence.xHere.length co3_3, .slice Ao3_4 y0.xPresence.xTyping.length co3_4, .slice Ao3_5 y0.xPresence.xMarks.length co3_5] 72 2 (.slice Ao3_2 y0.xLog.xMessages.length co3_2) rfl
  have bx1_3 := bx_new w3 #[.int .i64 y0.xTime, .int .i64 y0.xLog.xNext, .slice Ao3_2 y0.xLog.xMessages.length co3_2, .slice Ao3_3 y0.xPresence.xHere.length co3_3, .slice Ao3_4 y0.xPresence.xTyping.length co3_4, .slice Ao3_5 y0.xPresence.xMarks.length co3_5] 72 3 (.slice Ao3_3 y0.xPresence.xHere.length co3_3) rfl
  have bx1_4 := bx_new w3 #[.int .i64 y0.xTime, .int .i64 y0.xLog.xNext, .slice Ao3_2 y0.xLog.xMessages.length co3_2, .slice Ao3_3 y0.xPresence.xHere.length co3_3, .slice Ao3_4 y0.xPresence.xTyping.length co3_4, .slice Ao3_5 y0.xPresence.xMarks.length co3_5] 72 4 (.slice Ao3_4 y0.xPresence.xTyping.length co3_4) rfl
  have bx1_5 := bx_new w3 #[.int .i64 y0.xTime, .int .i64 y0.xLog.xNext, .slice Ao3_2 y0.xLog.xMessages.length co3_2, .slice Ao3_3 y0.xPresence.xHere.length co3_3, .slice Ao3_4 y0.xPresence.xTyping.length co3_4, .slice Ao3_5 y0.xPresence.xMarks.length co3_5] 72 5 (.slice Ao3_5 y0.xPresence.xMarks.length co3_5) rfl
  go_wp2_with fail
  refine (HI _ (w3.alloc (.cells #[.int .i64 y0.xTime, .int .i64 y0.xLog.xNext, .slice Ao3_2 y0.xLog.xMessages.length co3_2, .slice Ao3_3 y0.xPresence.xHere.length co3_3, .slice Ao3_4 y0.xPresence.xTyping.length co3_4, .slice Ao3_5 y0.xPresence.xMarks.length co3_5] 72)) hO3.lo hz0).mono ?_
  rintro e w4 ⟨rfl, hb4⟩
  have hk4 := Kp.of_below0 hb4
  replace bx0_0 := bx_keep bx0_0 hk4 (by omega) (fun h => h)
  replace bx0_1 := bx_keep bx0_1 hk4 (by omega) (fun h => h)
  replace bx0_2 := bx_keep bx0_2 hk4 (by omega) (fun h => h)
  replace bx0_3 := bx_keep bx0_3 hk4 (by omega) (fun h => h)
  replace bx0_4 := bx_keep bx0_4 hk4 (by omega) (fun h => h)
  replace bx0_5 := bx_keep bx0_5 hk4 (by omega) (fun h => h)
  replace bx1_0 := bx_keep bx1_0 hk4 (by omega) (fun h => h)
  replace bx1_1 := bx_keep bx1_1 hk4 (by omega) (fun h => h)
  replace bx1_2 := bx_keep bx1_2 hk4 (by omega) (fun h => h)
  replace bx1_3 := bx_keep bx1_3 hk4 (by omega) (fun h => h)
  replace bx1_4 := bx_keep bx1_4 hk4 (by omega) (fun h => h)
  replace bx1_5 := bx_keep bx1_5 hk4 (by omega) (fun h => h)
  replace hO3 := hO3.kp hk4 (fun _ _ h => h)
  replace hB := hB.trans (hk4.below hB.size (fun _ h => h.elim))
  have hs8 := hk4.size_le
  go_wp2
  go_region_held3 (fun w' => Below w4.heap.size w4 w' ∧ w'.cell? ⟨w3.heap.size, 0, none⟩ = some (.int .i64 y0.xTime) ∧ w'.cell? ⟨w3.heap.size, 1, none⟩ = some (.int .i64 y0.xLog.xNext) ∧ w'.cell? ⟨w3.heap.size, 2, none⟩ = some (.slice Ao3_2 y0.xLog.xMessages.length co3_2) ∧ w'.cell? ⟨w3.heap.size, 3, none⟩ = some (.slice Ao3_3 y0.xPresence.xHere.length co3_3) ∧ w'.cell? ⟨w3.heap.size, 4, none⟩ = some (.slice Ao3_4 y0.xPresence.xTyping.length co3_4) ∧ w'.cell? ⟨w3.heap.size, 5, none⟩ = some (.slice Ao3_5 y0.xPresence.xMarks.length co3_5) ∧ w'.cell? ⟨W.heap.size, 0, none⟩ = some (.int .i64 y0.xTime) ∧ w'.cell? ⟨W.heap.size, 1, none⟩ = some (.int .i64 y0.xLog.xNext) ∧ w'.cell? ⟨W.heap.size, 2, none⟩ = some (.slice Ap0_2 y0.xLog.xMessages.length cp0_2) ∧ w'.cell? ⟨W.heap.size, 3, none⟩ = some (.slice Ap0_3 y0.xPresence.xHere.length cp0_3) ∧ w'.cell? ⟨W.heap.size, 4, none⟩ = some (.slice Ap0_4 y0.xPresence.xTyping.length cp0_4) ∧ w'.cell? ⟨W.heap.size, 5, none⟩ = some (.slice Ap0_5 y0.xPresence.xMarks.length cp0_5)) (first | exact ⟨below_drew1 _, bx1_0, bx1_1, bx1_2, bx1_3, bx1_4, bx1_5, bx0_0, bx0_1, bx0_2, bx0_3, bx0_4, bx0_5⟩ | exact ⟨hkB5, (hkB5.cell (p := ⟨w3.heap.size, 0, none⟩) (by show w3.heap.size < w4.heap.size; omega)).trans bx1_0, (hkB5.cell (p := ⟨w3.heap.size, 1, none⟩) (by show w3.heap.size < w4.heap.size; omega)).trans bx1_1, (hkB5.cell (p := ⟨w3.heap.size, 2, none⟩) (by show w3.heap.size < w4.heap.size; omega)).trans bx1_2, (hkB5.cell (p := ⟨w3.heap.size, 3, none⟩) (by show w3.heap.size < w4.heap.size; omega)).trans bx1_3, (hkB5.cell (p := ⟨w3.heap.size, 4, none⟩) (by show w3.heap.size < w4.heap.size; omega)).trans bx1_4, (hkB5.cell (p := ⟨w3.heap.size, 5, none⟩) (by show w3.heap.size < w4.heap.size; omega)).trans bx1_5, (hkB5.cell (p := ⟨W.heap.size, 0, none⟩) (by show W.heap.size < w4.heap.size; omega)).trans bx0_0, (hkB5.cell (p := ⟨W.heap.size, 1, none⟩) (by show W.heap.size < w4.heap.size; omega)).trans bx0_1, (hkB5.cell (p := ⟨W.heap.size, 2, none⟩) (by show W.heap.size < w4.heap.size; omega)).trans bx0_2, (hkB5.cell (p := ⟨W.heap.size, 3, none⟩) (by show W.heap.size < w4.heap.size; omega)).trans bx0_3, (hkB5.cell (p := ⟨W.heap.size, 4, none⟩) (by show W.heap.size < w4.heap.size; omega)).trans bx0_4, (hkB5.cell (p := ⟨W.heap.size, 5, none⟩) (by show W.heap.size < w4.heap.size; omega)).trans bx0_5⟩ | exact ⟨hkA5, (hkA5.cell (p := ⟨w3.heap.size, 0, none⟩) (by show w3.heap.size < w4.heap.size; omega)).trans bx1_0, (hkA5.cell (p := ⟨w3.heap.size, 1, none⟩) (by show w3.heap.size < w4.heap.size; omega)).trans bx1_1, (hkA5.cell (p := ⟨w3.heap.size, 2, none⟩) (by show w3.heap.size < w4.heap.size; omega)).trans bx1_2, (hkA5.cell (p := ⟨w3.heap.size, 3, none⟩) (by show w3.heap.size < w4.heap.size; omega)).trans bx1_3, (hkA5.cell (p := ⟨w3.heap.size, 4, none⟩) (by show w3.heap.size < w4.heap.size; omega)).trans bx1_4, (hkA5.cell (p := ⟨w3.heap.size, 5, none⟩) (by show w3.heap.size < w4.heap.size; omega)).trans bx1_5, (hkA5.cell (p := ⟨W.heap.size, 0, none⟩) (by show W.heap.size < w4.heap.size; omega)).trans bx0_0, (hkA5.cell (p := ⟨W.heap.size, 1, none⟩) (by show W.heap.size < w4.heap.size; omega)).trans bx0_1, (hkA5.cell (p := ⟨W.heap.size, 2, none⟩) (by show W.heap.size < w4.heap.size; omega)).trans bx0_2, (hkA5.cell (p := ⟨W.heap.size, 3, none⟩) (by show W.heap.size < w4.heap.size; omega)).trans bx0_3, (hkA5.cell (p := ⟨W.heap.size, 4, none⟩) (by show W.heap.size < w4.heap.size; omega)).trans bx0_4, (hkA5.cell (p := ⟨W.heap.size, 5, none⟩) (by show W.heap.size < w4.heap.size; omega)).trans bx0_5⟩) (first | (go_at_call 47; (with_reducible refine (HT_aD _ hB.drew).mono ?_); rintro e w5 ⟨us5, F5, rfl, hO5, hb5, hlo5⟩; obtain ⟨Ao5_2, co5_2, Ao5_3, co5_3, Ao5_4, co5_4, Ao5_5, co5_5, rfl, -⟩ := Desk.cells hO5.ro; have hkA5 := (below_drew1 w4).trans hb5) | (go_at_call 49; (with_reducible refine (laws_eqDesk y0 y0 _ _ _ (hO3.keep hkA5).lo hO5.lo).mono ?_); rintro e w6 ⟨rfl, hb6⟩; have hkB5 := hkA5.trans (hb6.mono hkA5.size)))
  have hk5 := Kp.of_below0 hkB5
  replace bx0_0 := bx_keep bx0_0 hk5 (by omega) (fun h => h)
  replace bx0_1 := bx_keep bx0_1 hk5 (by omega) (fun h => h)
  replace bx0_2 := bx_keep bx0_2 hk5 (by omega) (fun h => h)
  replace bx0_3 := bx_keep bx0_3 hk5 (by omega) (fun h => h)
  replace bx0_4 := bx_keep bx0_4 hk5 (by omega) (fun h => h)
  replace bx0_5 := bx_keep bx0_5 hk5 (by omega) (fun h => h)
  replace bx1_0 := bx_keep bx1_0 hk5 (by omega) (fun h => h)
  replace bx1_1 := bx_keep bx1_1 hk5 (by omega) (fun h => h)
  replace bx1_2 := bx_keep bx1_2 hk5 (by omega) (fun h => h)
  replace bx1_3 := bx_keep bx1_3 hk5 (by omega) (fun h => h)
  replace bx1_4 := bx_keep bx1_4 hk5 (by omega) (fun h => h)
  replace bx1_5 := bx_keep bx1_5 hk5 (by omega) (fun h => h)
  replace hO3 := hO3.kp hk5 (fun _ _ h => h)
  replace hB := hB.trans (hk5.below hB.size (fun _ h => h.elim))
  have hs9 := hk5.size_le
  go_wp2
  go_ret
  exact ⟨rfl, hB⟩
end FnExactValidDesk
end Go.Proofs.Ytmofbfeclecdoaa

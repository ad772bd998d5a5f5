/- The walk of FnExactReadLine. -/
import Derived.Test.YtahbgkabdongnaaDoorRln
import Derived.Test.YtahbgkabdongnaaDoorYMessage
import Derived.Test.YtahbgkabdongnaaDoorLaw
import Derived.StillTailTactics
namespace Go.Proofs.YtahbgkabdongnaaDoor
open Go.ChangeShapes Go.WideShapes Go.ChangeAt Go.RowKit Go.Dt
set_option linter.unusedVariables false
set_option linter.unusedSimpArgs false

namespace FnExactReadLine
set_option maxHeartbeats 1600000 in
set_option maxRecDepth 100000 in
theorem walk (W : World) (ht : Std W) (a0 : ByteArray) (wf0 : a0.size ≤ maxLen) :
    Calls Tryd.prog 6 #[.string a0] W fun e w' => e = .returned (.bool true) ∧ Below W.heap.size W w' := by
  by_cases hz0 : a0.size ≤ 1048576
  rotate_left
  · have hB := Below.refl W.heap.size W
    go_enter Tryd.func6, Tryd.ntmps6
    go_wp2
    go_ret
    exact ⟨rfl, hB⟩
  have HS := ReadLine_lawS a0
  have HI := ReadLine_lawI a0
  have HN := ReadLine_lawN a0 hz0
  generalize ReadLine_f a0 = r at *
  obtain ⟨r0, r1⟩ := r
  simp only at *
  have hsn0 := HN
  have hB := Below.refl W.heap.size W
  go_enter Tryd.func6, Tryd.ntmps6
  go_wp2_with fail
  refine (HS  W hz0).mono ?_
  rintro e w0 ⟨us0_0, rfl, hO0_0, hb0⟩
  have hk0 := Kp.of_below0 hb0
  replace hB := hB.trans (hk0.below hB.size (fun _ h => h.elim))
  have hs0 := hk0.size_le
  obtain ⟨Ar00_7, cr00_7, rfl, -⟩ := Message.cells hO0_0
  have ha1 := Kp.alloc0 w0 (.cells #[.int .i64 r0.xNumber, .int .i64 r0.xSender, .int .i64 r0.xAt, .string r0.xText, .int .i64 r0.xEdits, .bool r0.xGone, .int .i64 r0.xReply, .slice Ar00_7 r0.xLikes.length cr00_7] 37)
  have hx1 : w0.heap.size < (w0.alloc (.cells #[.int .i64 r0.xNumber, .int .i64 r0.xSender, .int .i64 r0.xAt, .string r0.xText, .int .i64 r0.xEdits, .bool r0.xGone, .int .i64 r0.xReply, .slice Ar00_7 r0.xLikes.length cr00_7] 37)).heap.size := by simp
  replace hO0_0 := rol_keep hO0_0 ha1 (by omega) (fun _ h => h.elim)
  replace hB := hB.trans (ha1.below hB.size (fun _ h => h.elim))
  have hs1 := ha1.size_le
  have bx0_0 := bx_new w0 #[.int .i64 r0.xNumber, .int .i64 r0.xSender, .int .i64 r0.xAt, .string r0.xText, .int .i64 r0.xEdits, .bool r0.xGone, .int .i64 r0.xReply, .slice Ar00_7 r0.xLikes.length cr00_7] 37 0 (.int .i64 r0.xNumber) rfl
  have bx0_1 := bx_new w0 #[.int .i64 r0.xNumber, .int .i64 r0.xSender, .int .i64 r0.xAt, .string r0.xText, .int .i64 r0.xEdits, .bool r0.xGone, .int .i64 r0.xReply, .slice Ar00_7 r0.xLikes.length cr00_7] 37 1 (.int .i64 r0.xSender) rfl
  have bx0_2 := bx_new w0 #[.int .i64 r0.xNumber, .int .i64 r0.xSender, .int .i64 r0.xAt, .string r0.xText, .int .i64 r0.xEdits, .bool r0.xGone, .int .i64 r0.xReply, .slice Ar00_7 r0.xLikes.length cr00_7] 37 2 (.int .i64 r0.xAt) rfl
  have bx0_3 := bx_new w0 #[.int .i64 r0.xNumber, .int .i64 r0.xSender, .int .i64 r0.xAt, .string r0.xText, .int .i64 r0.xEdits, .bool r0.xGone, .int .i64 r0.xReply, .slice Ar00_7 r0.xLikes.length cr00_7] 37 3 (.string r0.xText) rfl
  have bx0_4 := bx_new w0 #[.int .i64 r0.xNumber, .int .i64 r0.xSender, .int .i64 r0.xAt, .string r0.xText, .int .i64 r0.xEdits, .bool r0.xGone, .int .i64 r0.xReply, .slice Ar00_7 r0.xLikes.length cr00_7] 37 4 (.int .i64 r0.xEdits) rfl
  have bx0_5 := bx_new w0 #[.int .i64 r0.xNumber, .int .i64 r0.xSender, .int .i64 r0.xAt, .string r0.xText, .int .i64 r0.xEdits, .bool r0.xGone, .int .i64 r0.xReply, .slice Ar00_7 r0.xLikes.length cr00_7] 37 5 (.bool r0.xGone) rfl
  have bx0_6 := bx_new w0 #[.int .i64 r0.xNumber, .int .i64 r0.xSender, .int .i64 r0.xAt, .string r0.xText, .int .i64 r0.xEdits, .bool r0.xGone, .int .i64 r0.xReply, .slice Ar00_7 r0.xLikes.length cr00_7] 37 6 (.int .i64 r0.xReply) rfl
  have bx0_7 := bx_new w0 #[.int .i64 r0.xNumber, .int .i64 r0.xSender, .int .i64 r0.xAt, .string r0.xText, .int .i64 r0.xEdits, .bool r0.xGone, .int .i64 r0.xReply, .slice Ar00_7 r0.xLikes.length cr00_7] 37 7 (.slice Ar00_7 r0.xLikes.length cr00_7) rfl
  go_wp2_with fail
  refine (HI  (w0.alloc (.cells #[.int .i64 r0.xNumber, .int .i64 r0.xSender, .int .i64 r0.xAt, .string r0.xText, .int .i64 r0.xEdits, .bool r0.xGone, .int .i64 r0.xReply, .slice Ar00_7 r0.xLikes.length cr00_7] 37)) (ht.on hB) hz0).mono ?_
  rintro e w1 ⟨us1_0, F1_0, rfl, hO1_0, hlo1_0, hb1⟩
  have hk1 := Kp.of_below0 hb1
  replace bx0_0 := bx_keep bx0_0 hk1 (by omega) (fun h => h)
  replace bx0_1 := bx_keep bx0_1 hk1 (by omega) (fun h => h)
  replace bx0_2 := bx_keep bx0_2 hk1 (by omega) (fun h => h)
  replace bx0_3 := bx_keep bx0_3 hk1 (by omega) (fun h => h)
  replace bx0_4 := bx_keep bx0_4 hk1 (by omega) (fun h => h)
  replace bx0_5 := bx_keep bx0_5 hk1 (by omega) (fun h => h)
  replace bx0_6 := bx_keep bx0_6 hk1 (by omega) (fun h => h)
  replace bx0_7 := bx_keep bx0_7 hk1 (by omega) (fun h => h)
  replace hO0_0 := rol_keep hO0_0 hk1 (by omega) (fun _ h => h.elim)
  replace hB := hB.trans (hk1.below hB.size (fun _ h => h.elim))
  have hs2 := hk1.size_le
  obtain ⟨Ar10_7, cr10_7, rfl, -⟩ := Message.cells hO1_0.ro
  have hhi1_0 : ∀ b, F1_0 b → b < w1.heap.size := hO1_0.lt
  have ha3 := Kp.alloc0 w1 (.cells #[.int .i64 r0.xNumber, .int .i64 r0.xSender, .int .i64 r0.xAt, .string r0.xText, .int .i64 r0.xEdits, .bool r0.xGone, .int .i64 r0.xReply, .slice Ar10_7 r0.xLikes.length cr10_7] 37)
  have hx3 : w1.heap.size < (w1.alloc (.cells #[.int .i64 r0.xNumber, .int .i64 r0.xSender, .int .i64 r0.xAt, .string r0.xText, .int .i64 r0.xEdits, .bool r0.xGone, .int .i64 r0.xReply, .slice Ar10_7 r0.xLikes.length cr10_7] 37)).heap.size := by simp
  replace bx0_0 := bx_keep bx0_0 ha3 (by omega) (fun h => h)
  replace bx0_1 := bx_keep bx0_1 ha3 (by omega) (fun h => h)
  replace bx0_2 := bx_keep bx0_2 ha3 (by omega) (fun h => h)
  replace bx0_3 := bx_keep bx0_3 ha3 (by omega) (fun h => h)
  replace bx0_4 := bx_keep bx0_4 ha3 (by omega) (fun h => h)
  replace bx0_5 := bx_keep bx0_5 ha3 (by omega) (fun h => h)
  replace bx0_6 := bx_keep bx0_6 ha3 (by omega) (fun h => h)
  replace bx0_7 := bx_keep bx0_7 ha3 (by omega) (fun h => h)
  replace hO0_0 := rol_keep hO0_0 ha3 (by omega) (fun _ h => h.elim)
  replace hO1_0 := hO1_0.kp ha3 (fun _ _ h => h)
  replace hB := hB.trans (ha3.below hB.size (fun _ h => h.elim))
  have hs3 := ha3.size_le
  have bx1_0 := bx_new w1 #[.int .i64 r0.xNumber, .int .i64 r0.xSender, .int .i64 r0.xAt, .string r0.xText, .int .i64 r0.xEdits, .bool r0.xGone, .int .i64 r0.xReply, .slice Ar10_7 r0.xLikes.length cr10_7] 37 0 (.int .i64 r0.xNumber) rfl
  have bx1_1 := bx_new w1 #[.int .i64 r0.xNumber, .int .i64 r0.xSender, .int .i64 r0.xAt, .string r0.xText, .int .i64 r0.xEdits, .bool r0.xGone, .int .i64 r0.xReply, .slice Ar10_7 r0.xLikes.length cr10_7] 37 1 (.int .i64 r0.xSender) rfl
  have bx1_2 := bx_new w1 #[.int .i64 r0.xNumber, .int .i64 r0.xSender, .int .i64 r0.xAt, .string r0.xText, .int .i64 r0.xEdits, .bool r0.xGone, .int .i64 r0.xReply, .slice Ar10_7 r0.xLikes.length cr10_7] 37 2 (.int .i64 r0.xAt) rfl
  have bx1_3 := bx_new w1 #[.int .i64 r0.xNumber, .int .i64 r0.xSender, .int .i64 r0.xAt, .string r0.xText, .int .i64 r0.xEdits, .bool r0.xGone, .int .i64 r0.xReply, .slice Ar10_7 r0.xLikes.length cr10_7] 37 3 (.string r0.xText) rfl
  have bx1_4 := bx_new w1 #[.int .i64 r0.xNumber, .int .i64 r0.xSender, .int .i64 r0.xAt, .string r0.xText, .int .i64 r0.xEdits, .bool r0.xGone, .int .i64 r0.xReply, .slice Ar10_7 r0.xLikes.length cr10_7] 37 4 (.int .i64 r0.xEdits) rfl
  have bx1_5 := bx_new w1 #[.int .i64 r0.xNumber, .int .i64 r0.xSender, .int .i64 r0.xAt, .string r0.xText, .int .i64 r0.xEdits, .bool r0.xGone, .int .i64 r0.xReply, .slice Ar10_7 r0.xLikes.length cr10_7] 37 5 (.bool r0.xGone) rfl
  have bx1_6 := bx_new w1 #[.int .i64 r0.xNumber, .int .i64 r0.xSender, .int .i64 r0.xAt, .string r0.xText, .int .i64 r0.xEdits, .bool r0.xGone, .int .i64 r0.xReply, .slice Ar10_7 r0.xLikes.length cr10_7] 37 6 (.int .i64 r0.xReply) rfl
  have bx1_7 := bx_new w1 #[.int .i64 r0.xNumber, .int .i64 r0.xSender, .int .i64 r0.xAt, .string r0.xText, .int .i64 r0.xEdits, .bool r0.xGone, .int .i64 r0.xReply, .slice Ar10_7 r0.xLikes.length cr10_7] 37 7 (.slice Ar10_7 r0.xLikes.length cr10_7) rfl
  have HE2 := laws_eqMessage r0 r0 _ _ (w1.alloc (.cells #[.int .i64 r0.xNumber, .int .i64 r0.xSender, .int .i64 r0.xAt, .string r0.xText, .int .i64 r0.xEdits, .bool r0.xGone, .int .i64 r0.xReply, .slice Ar10_7 r0.xLikes.length cr10_7] 37)) hO1_0.lo (hO0_0.up (by omega))
  rw [decide_eq_true rfl] at HE2
  go_wp2_with fail
  refine (HE2).mono ?_
  rintro e w2 ⟨rfl, hb2⟩
  have hk2 := Kp.of_below0 hb2
  replace bx0_0 := bx_keep bx0_0 hk2 (by omega) (fun h => h)
  replace bx0_1 := bx_keep bx0_1 hk2 (by omega) (fun h => h)
  replace bx0_2 := bx_keep bx0_2 hk2 (by omega) (fun h => h)
  replace bx0_3 := bx_keep bx0_3 hk2 (by omega) (fun h => h)
  replace bx0_4 := bx_keep bx0_4 hk2 (by omega) (fun h => h)
  replace bx0_5 := bx_keep bx0_5 hk2 (by omega) (fun h => h)
  replace bx0_6 := bx_keep bx0_6 hk2 (by omega) (fun h => h)
  replace bx0_7 := bx_keep bx0_7 hk2 (by omega) (fun h => h)
  replace bx1_0 := bx_keep bx1_0 hk2 (by omega) (fun h => h)
  replace bx1_1 := bx_keep bx1_1 hk2 (by omega) (fun h => h)
  replace bx1_2 := bx_keep bx1_2 hk2 (by omega) (fun h => h)
  replace bx1_3 := bx_keep bx1_3 hk2 (by omega) (fun h => h)
  replace bx1_4 := bx_keep bx1_4 hk2 (by omega) (fun h => h)
  replace bx1_5 := bx_keep bx1_5 hk2 (by omega) (fun h => h)
  replace bx1_6 := bx_keep bx1_6 hk2 (by omega) (fun h => h)
  replace bx1_7 := bx_keep bx1_7 hk2 (by omega) (fun h => h)
  replace hO0_0 := rol_keep hO0_0 hk2 (by omega) (fun _ h => h.elim)
  replace hO1_0 := hO1_0.kp hk2 (fun _ _ h => h)
  replace hB := hB.trans (hk2.below hB.size (fun _ h => h.elim))
  have hs4 := hk2.size_le
  go_wp2_with fail
  refine (laws_markMessage r0 _ F1_0 (1) w2 hO1_0 (by omega) (by omega)).mono ?_
  rintro e w3 ⟨rfl, hk3, G3, hm3, hG3⟩
  replace bx0_0 := bx_keep bx0_0 hk3 (by omega) (fun h => by have a1 := hlo1_0 _ h; have a2 := hhi1_0 _ h; omega)
  replace bx0_1 := bx_keep bx0_1 hk3 (by omega) (fun h => by have a1 := hlo1_0 _ h; have a2 := hhi1_0 _ h; omega)
  replace bx0_2 := bx_keep bx0_2 hk3 (by omega) (fun h => by have a1 := hlo1_0 _ h; have a2 := hhi1_0 _ h; omega)
  replace bx0_3 := bx_keep bx0_3 hk3 (by omega) (fun h => by have a1 := hlo1_0 _ h; have a2 := hhi1_0 _ h; omega)
  replace bx0_4 := bx_keep bx0_4 hk3 (by omega) (fun h => by have a1 := hlo1_0 _ h; have a2 := hhi1_0 _ h; omega)
  replace bx0_5 := bx_keep bx0_5 hk3 (by omega) (fun h => by have a1 := hlo1_0 _ h; have a2 := hhi1_0 _ h; omega)
  replace bx0_6 := bx_keep bx0_6 hk3 (by omega) (fun h => by have a1 := hlo1_0 _ h; have a2 := hhi1_0 _ h; omega)
  replace bx0_7 := bx_keep bx0_7 hk3 (by omega) (fun h => by have a1 := hlo1_0 _ h; have a2 := hhi1_0 _ h; omega)
  replace bx1_0 := bx_keep bx1_0 hk3 (by omega) (fun h => by have a1 := hlo1_0 _ h; have a2 := hhi1_0 _ h; omega)
  replace bx1_1 := bx_keep bx1_1 hk3 (by omega) (fun h => by have a1 := hlo1_0 _ h; have a2 := hhi1_0 _ h; omega)
  replace bx1_2 := bx_keep bx1_2 hk3 (by omega) (fun h => by have a1 := hlo1_0 _ h; have a2 := hhi1_0 _ h; omega)
  replace bx1_3 := bx_keep bx1_3 hk3 (by omega) (fun h => by have a1 := hlo1_0 _ h; have a2 := hhi1_0 _ h; omega)
  replace bx1_4 := bx_keep bx1_4 hk3 (by omega) (fun h => by have a1 := hlo1_0 _ h; have a2 := hhi1_0 _ h; omega)
  replace bx1_5 := bx_keep bx1_5 hk3 (by omega) (fun h => by have a1 := hlo1_0 _ h; have a2 := hhi1_0 _ h; omega)
  replace bx1_6 := bx_keep bx1_6 hk3 (by omega) (fun h => by have a1 := hlo1_0 _ h; have a2 := hhi1_0 _ h; omega)
  replace bx1_7 := bx_keep bx1_7 hk3 (by omega) (fun h => by have a1 := hlo1_0 _ h; have a2 := hhi1_0 _ h; omega)
  replace hO0_0 := rol_keep hO0_0 hk3 (by omega) (fun b hx => by have a3 := hlo1_0 b hx; omega)
  replace hB := hB.trans (hk3.below hB.size (fun b hx => by have a3 := hlo1_0 b hx; omega))
  have hs5 := hk3.size_le
  have hlo3m : ∀ b, G3 b → _ := fun b h => hlo1_0 b (hG3 b h)
  have hhi3m : ∀ b, G3 b → _ := fun b h => hhi1_0 b (hG3 b h)
  go_wp2_with fail
  refine (laws_heldMessage r0 _ (1) w3 hm3.lo (by omega) (by omega)).mono ?_
  rintro e w4 ⟨rfl, hb4⟩
  have hk4 := Kp.of_below0 hb4
  replace bx0_0 := bx_keep bx0_0 hk4 (by omega) (fun h => h)
  replace bx0_1 := bx_keep bx0_1 hk4 (by omega) (fun h => h)
  replace bx0_2 := bx_keep bx0_2 hk4 (by omega) (fun h => h)
  replace bx0_3 := bx_keep bx0_3 hk4 (by omega) (fun h => h)
  replace bx0_4 := bx_keep bx0_4 hk4 (by omega) (fun h => h)
  replace bx0_5 := bx_keep bx0_5 hk4 (by omega) (fun h => h)
  replace bx0_6 := bx_keep bx0_6 hk4 (by omega) (fun h => h)
  replace bx0_7 := bx_keep bx0_7 hk4 (by omega) (fun h => h)
  replace bx1_0 := bx_keep bx1_0 hk4 (by omega) (fun h => h)
  replace bx1_1 := bx_keep bx1_1 hk4 (by omega) (fun h => h)
  replace bx1_2 := bx_keep bx1_2 hk4 (by omega) (fun h => h)
  replace bx1_3 := bx_keep bx1_3 hk4 (by omega) (fun h => h)
  replace bx1_4 := bx_keep bx1_4 hk4 (by omega) (fun h => h)
  replace bx1_5 := bx_keep bx1_5 hk4 (by omega) (fun h => h)
  replace bx1_6 := bx_keep bx1_6 hk4 (by omega) (fun h => h)
  replace bx1_7 := bx_keep bx1_7 hk4 (by omega) (fun h => h)
  replace hO0_0 := rol_keep hO0_0 hk4 (by omega) (fun _ h => h.elim)
  replace hm3 := hm3.kp hk4 (fun _ _ h => h)
  replace hB := hB.trans (hk4.below hB.size (fun _ h => h.elim))
  have hs6 := hk4.size_le
  go_wp2_with fail
  refine (HI  w4 (ht.on hB) hz0).mono ?_
  rintro e w5 ⟨us5_0, F5_0, rfl, hO5_0, hlo5_0, hb5⟩
  have hk5 := Kp.of_below0 hb5
  replace bx0_0 := bx_keep bx0_0 hk5 (by omega) (fun h => h)
  replace bx0_1 := bx_keep bx0_1 hk5 (by omega) (fun h => h)
  replace bx0_2 := bx_keep bx0_2 hk5 (by omega) (fun h => h)
  replace bx0_3 := bx_keep bx0_3 hk5 (by omega) (fun h => h)
  replace bx0_4 := bx_keep bx0_4 hk5 (by omega) (fun h => h)
  replace bx0_5 := bx_keep bx0_5 hk5 (by omega) (fun h => h)
  replace bx0_6 := bx_keep bx0_6 hk5 (by omega) (fun h => h)
  replace bx0_7 := bx_keep bx0_7 hk5 (by omega) (fun h => h)
  replace bx1_0 := bx_keep bx1_0 hk5 (by omega) (fun h => h)
  replace bx1_1 := bx_keep bx1_1 hk5 (by omega) (fun h => h)
  replace bx1_2 := bx_keep bx1_2 hk5 (by omega) (fun h => h)
  replace bx1_3 := bx_keep bx1_3 hk5 (by omega) (fun h => h)
  replace bx1_4 := bx_keep bx1_4 hk5 (by omega) (fun h => h)
  replace bx1_5 := bx_keep bx1_5 hk5 (by omega) (fun h => h)
  replace bx1_6 := bx_keep bx1_6 hk5 (by omega) (fun h => h)
  replace bx1_7 := bx_keep bx1_7 hk5 (by omega) (fun h => h)
  replace hO0_0 := rol_keep hO0_0 hk5 (by omega) (fun _ h => h.elim)
  replace hm3 := hm3.kp hk5 (fun _ _ h => h)
  replace hB := hB.trans (hk5.below hB.size (fun _ h => h.elim))
  have hs7 := hk5.size_le
  obtain ⟨Ar50_7, cr50_7, rfl, -⟩ := Message.cells hO5_0.ro
  have hhi5_0 : ∀ b, F5_0 b → b < w5.heap.size := hO5_0.lt
  have ha8 := Kp.alloc0 w5 (.cells #[.int .i64 r0.xNumber, .int .i64 r0.xSender, .int .i64 r0.xAt, .string r0.xText, .int .i64 r0.xEdits, .bool r0.xGone, .int .i64 r0.xReply, .slice Ar50_7 r0.xLikes.length cr50_7] 37)
  have hx8 : w5.heap.size < (w5.alloc (.cells #[.int .i64 r0.xNumber, .int .i64 r0.xSender, .int .i64 r0.xAt, .string r0.xText, .int .i64 r0.xEdits, .bool r0.xGone, .int .i64 r0.xReply, .slice Ar50_7 r0.xLikes.length cr50_7] 37)).heap.size := by simp
  replace bx0_0 := bx_keep bx0_0 ha8 (by omega) (fun h => h)
  replace bx0_1 := bx_keep bx0_1 ha8 (by omega) (fun h => h)
  replace bx0_2 := bx_keep bx0_2 ha8 (by omega) (fun h => h)
  replace bx0_3 := bx_keep bx0_3 ha8 (by omega) (fun h => h)
  replace bx0_4 := bx_keep bx0_4 ha8 (by omega) (fun h => h)
  replace bx0_5 := bx_keep bx0_5 ha8 (by omega) (fun h => h)
  replace bx0_6 := bx_keep bx0_6 ha8 (by omega) (fun h => h)
  replace bx0_7 := bx_keep bx0_7 ha8 (by omega) (fun h => h)
  replace bx1_0 := bx_keep bx1_0 ha8 (by omega) (fun h => h)
  replace bx1_1 := bx_keep bx1_1 ha8 (by omega) (fun h => h)
  replace bx1_2 := bx_keep bx1_2 ha8 (by omega) (fun h => h)
  replace bx1_3 := bx_keep bx1_3 ha8 (by omega) (fun h => h)
  replace bx1_4 := bx_keep bx1_4 ha8 (by omega) (fun h => h)
  replace bx1_5 := bx_keep bx1_5 ha8 (by omega) (fun h => h)
  replace bx1_6 := bx_keep bx1_6 ha8 (by omega) (fun h => h)
  replace bx1_7 := bx_keep bx1_7 ha8 (by omega) (fun h => h)
  replace hO0_0 := rol_keep hO0_0 ha8 (by omega) (fun _ h => h.elim)
  replace hm3 := hm3.kp ha8 (fun _ _ h => h)
  replace hO5_0 := hO5_0.kp ha8 (fun _ _ h => h)
  replace hB := hB.trans (ha8.below hB.size (fun _ h => h.elim))
  have hs8 := ha8.size_le
  have bx2_0 := bx_new w5 #[.int .i64 r0.xNumber, .int .i64 r0.xSender, .int .i64 r0.xAt, .string r0.xText, .int .i64 r0.xEdits, .bool r0.xGone, .int .i64 r0.xReply, .slice Ar50_7 r0.xLikes.length cr50_7] 37 0 (.int .i64 r0.xNumber) rfl
  have bx2_1 := bx_new w5 #[.int .i64 r0.xNumber, .int .i64 r0.xSender, .int .i64 r0.xAt, .string r0.xText, .int .i64 r0.xEdits, .bool r0.xGone, .int .i64 r0.xReply, .slice Ar50_7 r0.xLikes.length cr50_7] 37 1 (.int .i64 r0.xSender) rfl
  have bx2_2 := bx_new w5 #[.int .i64 r0.xNumber, .int .i64 r0.xSender, .int .i64 r0.xAt, .string r0.xText, .int .i64 r0.xEdits, .bool r0.xGone, .int .i64 r0.xReply, .slice Ar50_7 r0.xLikes.length cr50_7] 37 2 (.int .i64 r0.xAt) rfl
  have bx2_3 := bx_new w5 #[.int .i64 r0.xNumber, .int .i64 r0.xSender, .int .i64 r0.xAt, .string r0.xText, .int .i64 r0.xEdits, .bool r0.xGone, .int .i64 r0.xReply, .slice Ar50_7 r0.xLikes.length cr50_7] 37 3 (.string r0.xText) rfl
  have bx2_4 := bx_new w5 #[.int .i64 r0.xNumber, .int .i64 r0.xSender, .int .i64 r0.xAt, .string r0.xText, .int .i64 r0.xEdits, .bool r0.xGone, .int .i64 r0.xReply, .slice Ar50_7 r0.xLikes.length cr50_7] 37 4 (.int .i64 r0.xEdits) rfl
  have bx2_5 := bx_new w5 #[.int .i64 r0.xNumber, .int .i64 r0.xSender, .int .i64 r0.xAt, .string r0.xText, .int .i64 r0.xEdits, .bool r0.xGone, .int .i64 r0.xReply, .slice Ar50_7 r0.xLikes.length cr50_7] 37 5 (.bool r0.xGone) rfl
  have bx2_6 := bx_new w5 #[.int .i64 r0.xNumber, .int .i64 r0.xSender, .int .i64 r0.xAt, .string r0.xText, .int .i64 r0.xEdits, .bool r0.xGone, .int .i64 r0.xReply, .slice Ar50_7 r0.xLikes.length cr50_7] 37 6 (.int .i64 r0.xReply) rfl
  have bx2_7 := bx_new w5 #[.int .i64 r0.xNumber, .int .i64 r0.xSender, .int .i64 r0.xAt, .string r0.xText, .int .i64 r0.xEdits, .bool r0.xGone, .int .i64 r0.xReply, .slice Ar50_7 r0.xLikes.length cr50_7] 37 7 (.slice Ar50_7 r0.xLikes.length cr50_7) rfl
  have HE6 := laws_eqMessage r0 r0 _ _ (w5.alloc (.cells #[.int .i64 r0.xNumber, .int .i64 r0.xSender, .int .i64 r0.xAt, .string r0.xText, .int .i64 r0.xEdits, .bool r0.xGone, .int .i64 r0.xReply, .slice Ar50_7 r0.xLikes.length cr50_7] 37)) hO5_0.lo (hO0_0.up (by omega))
  rw [decide_eq_true rfl] at HE6
  go_wp2_with fail
  refine (HE6).mono ?_
  rintro e w6 ⟨rfl, hb6⟩
  have hk6 := Kp.of_below0 hb6
  replace bx0_0 := bx_keep bx0_0 hk6 (by omega) (fun h => h)
  replace bx0_1 := bx_keep bx0_1 hk6 (by omega) (fun h => h)
  replace bx0_2 := bx_keep bx0_2 hk6 (by omega) (fun h => h)
  replace bx0_3 := bx_keep bx0_3 hk6 (by omega) (fun h => h)
  replace bx0_4 := bx_keep bx0_4 hk6 (by omega) (fun h => h)
  replace bx0_5 := bx_keep bx0_5 hk6 (by omega) (fun h => h)
  replace bx0_6 := bx_keep bx0_6 hk6 (by omega) (fun h => h)
  replace bx0_7 := bx_keep bx0_7 hk6 (by omega) (fun h => h)
  replace bx1_0 := bx_keep bx1_0 hk6 (by omega) (fun h => h)
  replace bx1_1 := bx_keep bx1_1 hk6 (by omega) (fun h => h)
  replace bx1_2 := bx_keep bx1_2 hk6 (by omega) (fun h => h)
  replace bx1_3 := bx_keep bx1_3 hk6 (by omega) (fun h => h)
  replace bx1_4 := bx_keep bx1_4 hk6 (by omega) (fun h => h)
  replace bx1_5 := bx_keep bx1_5 hk6 (by omega) (fun h => h)
  replace bx1_6 := bx_keep bx1_6 hk6 (by omega) (fun h => h)
  replace bx1_7 := bx_keep bx1_7 hk6 (by omega) (fun h => h)
  replace bx2_0 := bx_keep bx2_0 hk6 (by omega) (fun h => h)
  replace bx2_1 := bx_keep bx2_1 hk6 (by omega) (fun h => h)
  replace bx2_2 := bx_keep bx2_2 hk6 (by omega) (fun h => h)
  replace bx2_3 := bx_keep bx2_3 hk6 (by omega) (fun h => h)
  replace bx2_4 := bx_keep bx2_4 hk6 (by omega) (fun h => h)
  replace bx2_5 := bx_keep bx2_5 hk6 (by omega) (fun h => h)
  replace bx2_6 := bx_keep bx2_6 hk6 (by omega) (fun h => h)
  replace bx2_7 := bx_keep bx2_7 hk6 (by omega) (fun h => h)
  replace hO0_0 := rol_keep hO0_0 hk6 (by omega) (fun _ h => h.elim)
  replace hm3 := hm3.kp hk6 (fun _ _ h => h)
  replace hO5_0 := hO5_0.kp hk6 (fun _ _ h => h)
  replace hB := hB.trans (hk6.below hB.size (fun _ h => h.elim))
  have hs9 := hk6.size_le
  go_wp2_with fail
  refine (laws_heldMessage r0 _ (1) w6 hm3.lo (by omega) (by omega)).mono ?_
  rintro e w7 ⟨rfl, hb7⟩
  have hk7 := Kp.of_below0 hb7
  replace bx0_0 := bx_keep bx0_0 hk7 (by omega) (fun h => h)
  replace bx0_1 := bx_keep bx0_1 hk7 (by omega) (fun h => h)
  replace bx0_2 := bx_keep bx0_2 hk7 (by omega) (fun h => h)
  replace bx0_3 := bx_keep bx0_3 hk7 (by omega) (fun h => h)
  replace bx0_4 := bx_keep bx0_4 hk7 (by omega) (fun h => h)
  replace bx0_5 := bx_keep bx0_5 hk7 (by omega) (fun h => h)
  replace bx0_6 := bx_keep bx0_6 hk7 (by omega) (fun h => h)
  replace bx0_7 := bx_keep bx0_7 hk7 (by omega) (fun h => h)
  replace bx1_0 := bx_keep bx1_0 hk7 (by omega) (fun h => h)
  replace bx1_1 := bx_keep bx1_1 hk7 (by omega) (fun h => h)
  replace bx1_2 := bx_keep bx1_2 hk7 (by omega) (fun h => h)
  replace bx1_3 := bx_keep bx1_3 hk7 (by omega) (fun h => h)
  replace bx1_4 := bx_keep bx1_4 hk7 (by omega) (fun h => h)
  replace bx1_5 := bx_keep bx1_5 hk7 (by omega) (fun h => h)
  replace bx1_6 := bx_keep bx1_6 hk7 (by omega) (fun h => h)
  replace bx1_7 := bx_keep bx1_7 hk7 (by omega) (fun h => h)
  replace bx2_0 := bx_keep bx2_0 hk7 (by omega) (fun h => h)
  replace bx2_1 := bx_keep bx2_1 hk7 (by omega) (fun h => h)
  replace bx2_2 := bx_keep bx2_2 hk7 (by omega) (fun h => h)
  replace bx2_3 := bx_keep bx2_3 hk7 (by omega) (fun h => h)
  replace bx2_4 := bx_keep bx2_4 hk7 (by omega) (fun h => h)
  replace bx2_5 := bx_keep bx2_5 hk7 (by omega) (fun h => h)
  replace bx2_6 := bx_keep bx2_6 hk7 (by omega) (fun h => h)
  replace bx2_7 := bx_keep bx2_7 hk7 (by omega) (fun h => h)
  replace hO0_0 := rol_keep hO0_0 hk7 (by omega) (fun _ h => h.elim)
  replace hm3 := hm3.kp hk7 (fun _ _ h => h)
  replace hO5_0 := hO5_0.kp hk7 (fun _ _ h => h)
  replace hB := hB.trans (hk7.below hB.size (fun _ h => h.elim))
  have hs10 := hk7.size_le
  go_wp2
  go_ret
  exact ⟨rfl, hB⟩
end FnExactReadLine
end Go.Proofs.YtahbgkabdongnaaDoor

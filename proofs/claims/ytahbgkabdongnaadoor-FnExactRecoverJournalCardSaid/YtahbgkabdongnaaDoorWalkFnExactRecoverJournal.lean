/- The walk of FnExactRecoverJournal. -/
import Derived.Test.YtahbgkabdongnaaDoorRj
import Derived.Test.YtahbgkabdongnaaDoorStrs
import Derived.Test.YtahbgkabdongnaaDoorLaw
import Derived.StillTailTactics
namespace Go.Proofs.YtahbgkabdongnaaDoor
open Go.ChangeShapes Go.WideShapes Go.ChangeAt Go.RowKit Go.Dt
set_option linter.unusedVariables false
set_option linter.unusedSimpArgs false

namespace FnExactRecoverJournal
set_option maxHeartbeats 1600000 in
set_option maxRecDepth 100000 in
theorem walk (W : World) (ht : Pow10 W) (a0 : ByteArray) (wf0 : a0.size ≤ maxLen) :
    Calls Tryd.prog 4 #[.string a0] W fun e w' => e = .returned (.bool true) ∧ Below W.heap.size W w' := by
  by_cases hz0 : a0.size ≤ 1048576
  rotate_left
  · have hB := Below.refl W.heap.size W
    go_enter Tryd.func4, Tryd.ntmps4
    go_wp2
    go_ret
    exact ⟨rfl, hB⟩
  have HS := RecoverJournal_lawS a0
  have HI := RecoverJournal_lawI a0
  have HN := RecoverJournal_lawN a0 hz0
  generalize RecoverJournal_f a0 = r at *
  obtain ⟨r0, r1, r2⟩ := r
  simp only at *
  have hsn0 := HN
  have hB := Below.refl W.heap.size W
  go_enter Tryd.func4, Tryd.ntmps4
  go_wp2_with fail
  refine (HS  W hz0).mono ?_
  rintro e w0 ⟨A0_0, c0_0, rfl, hO0_0, hb0⟩
  have hk0 := Kp.of_below0 hb0
  replace hB := hB.trans (hk0.below hB.size (fun _ h => h.elim))
  have hs0 := hk0.size_le
  go_wp2_with fail
  refine (HI  w0 (ht.on hB) hz0).mono ?_
  rintro e w1 ⟨A1_0, c1_0, F1_0, rfl, hO1_0, hlo1_0, hb1⟩
  have hk1 := Kp.of_below0 hb1
  replace hO0_0 := ro_keep hO0_0 hk1 (by omega) (fun _ h => h.elim)
  replace hB := hB.trans (hk1.below hB.size (fun _ h => h.elim))
  have hs1 := hk1.size_le
  have hhi1_0 : ∀ b, F1_0 b → b < w1.heap.size := hO1_0.lt
  have HE2 := laws_eqStringS r0 r0 _ _ _ _ w1 hO1_0.lo (hO0_0.up (by omega)) (by first | assumption | exact (hO1_0.lo).sl_max) (by first | assumption | exact ((hO0_0.up (by omega))).sl_max) (by first | assumption | exact (hO1_0.lo).sl_cap) (by first | assumption | exact ((hO0_0.up (by omega))).sl_cap)
  rw [decide_eq_true rfl] at HE2
  go_wp2_with fail
  refine (HE2).mono ?_
  rintro e w2 ⟨rfl, hb2⟩
  have hk2 := Kp.of_below0 hb2
  replace hO0_0 := ro_keep hO0_0 hk2 (by omega) (fun _ h => h.elim)
  replace hO1_0 := hO1_0.kp hk2 (fun _ _ h => h)
  replace hB := hB.trans (hk2.below hB.size (fun _ h => h.elim))
  have hs2 := hk2.size_le
  go_wp2_with fail
  refine (laws_markStringS r0 _ F1_0 (1) w2 hO1_0 (by omega) (by omega)).mono ?_
  rintro e w3 ⟨rfl, hk3, G3, hm3, hG3⟩
  replace hO0_0 := ro_keep hO0_0 hk3 (by omega) (fun b hx => by have a3 := hlo1_0 b hx; omega)
  replace hB := hB.trans (hk3.below hB.size (fun b hx => by have a3 := hlo1_0 b hx; omega))
  have hs3 := hk3.size_le
  have hlo3m : ∀ b, G3 b → _ := fun b h => hlo1_0 b (hG3 b h)
  have hhi3m : ∀ b, G3 b → _ := fun b h => hhi1_0 b (hG3 b h)
  go_wp2_with fail
  refine (laws_heldStringM r0 _ _ (1) w3 hm3.lo (by first | assumption | exact (hm3.lo).sl_max) (by first | assumption | exact (hm3.lo).sl_cap) (by omega) (by omega)).mono ?_
  rintro e w4 ⟨rfl, hb4⟩
  have hk4 := Kp.of_below0 hb4
  replace hO0_0 := ro_keep hO0_0 hk4 (by omega) (fun _ h => h.elim)
  replace hm3 := hm3.kp hk4 (fun _ _ h => h)
  replace hB := hB.trans (hk4.below hB.size (fun _ h => h.elim))
  have hs4 := hk4.size_le
  go_wp2_with fail
  refine (HI  w4 (ht.on hB) hz0).mono ?_
  rintro e w5 ⟨A5_0, c5_0, F5_0, rfl, hO5_0, hlo5_0, hb5⟩
  have hk5 := Kp.of_below0 hb5
  replace hO0_0 := ro_keep hO0_0 hk5 (by omega) (fun _ h => h.elim)
  replace hm3 := hm3.kp hk5 (fun _ _ h => h)
  replace hB := hB.trans (hk5.below hB.size (fun _ h => h.elim))
  have hs5 := hk5.size_le
  have hhi5_0 : ∀ b, F5_0 b → b < w5.heap.size := hO5_0.lt
  have HE6 := laws_eqStringS r0 r0 _ _ _ _ w5 hO5_0.lo (hO0_0.up (by omega)) (by first | assumption | exact (hO5_0.lo).sl_max) (by first | assumption | exact ((hO0_0.up (by omega))).sl_max) (by first | assumption | exact (hO5_0.lo).sl_cap) (by first | assumption | exact ((hO0_0.up (by omega))).sl_cap)
  rw [decide_eq_true rfl] at HE6
  go_wp2_with fail
  refine (HE6).mono ?_
  rintro e w6 ⟨rfl, hb6⟩
  have hk6 := Kp.of_below0 hb6
  replace hO0_0 := ro_keep hO0_0 hk6 (by omega) (fun _ h => h.elim)
  replace hm3 := hm3.kp hk6 (fun _ _ h => h)
  replace hO5_0 := hO5_0.kp hk6 (fun _ _ h => h)
  replace hB := hB.trans (hk6.below hB.size (fun _ h => h.elim))
  have hs6 := hk6.size_le
  go_wp2_with fail
  refine (laws_heldStringM r0 _ _ (1) w6 hm3.lo (by first | assumption | exact (hm3.lo).sl_max) (by first | assumption | exact (hm3.lo).sl_cap) (by omega) (by omega)).mono ?_
  rintro e w7 ⟨rfl, hb7⟩
  have hk7 := Kp.of_below0 hb7
  replace hO0_0 := ro_keep hO0_0 hk7 (by omega) (fun _ h => h.elim)
  replace hm3 := hm3.kp hk7 (fun _ _ h => h)
  replace hO5_0 := hO5_0.kp hk7 (fun _ _ h => h)
  replace hB := hB.trans (hk7.below hB.size (fun _ h => h.elim))
  have hs7 := hk7.size_le
  go_wp2
  go_ret
  exact ⟨rfl, hB⟩
end FnExactRecoverJournal
end Go.Proofs.YtahbgkabdongnaaDoor

/- The walk of FnExactLoadOfShards. -/
import Derived.Test.YtmofbfeclecdoaaDoorLoad
import Derived.Test.YtmofbfeclecdoaaDoorOpen
import Derived.Test.YtmofbfeclecdoaaDoorLaw
import Derived.StillTailTactics
namespace Go.Proofs.YtmofbfeclecdoaaDoor
open Go.ChangeShapes Go.WideShapes Go.ChangeAt Go.RowKit Go.Dt
set_option linter.unusedVariables false
set_option linter.unusedSimpArgs false

namespace FnExactLoadOfShards
set_option maxHeartbeats 1600000 in
set_option maxRecDepth 100000 in
theorem walk (W : World) (ht : Pow10 W) (A0 : Option Addr) (n0 c0 : Nat) (e0 : List D) (t0 : IsL [.sl 2 1 [.int .i64]] e0) (x0 : RoL W (Lo W.heap.size) e0 [.slice A0 n0 c0]) (A1 : Option Addr) (n1 c1 : Nat) (e1 : List D) (t1 : IsL [.sl 2 1 [.int .i64]] e1) (x1 : RoL W (Lo W.heap.size) e1 [.slice A1 n1 c1]) :
    Calls Tryd.prog 6 #[.slice A0 n0 c0, .slice A1 n1 c1] W fun e w' => e = .returned (.bool true) ∧ Below W.heap.size W w' := by
  obtain ⟨y0, rfl, x0, w0, lc0, mc0⟩ := open_ints t0 x0
  obtain ⟨y1, rfl, x1, w1, lc1, mc1⟩ := open_ints t1 x1
  by_cases hz0 : y0.length ≤ 1048576
  rotate_left
  · have hB := Below.refl W.heap.size W
    go_enter Tryd.func6, Tryd.ntmps6
    go_wp2
    go_ret
    exact ⟨rfl, hB⟩
  by_cases hz1 : y1.length ≤ 1048576
  rotate_left
  · have hB := Below.refl W.heap.size W
    go_enter Tryd.func6, Tryd.ntmps6
    go_wp2
    go_ret
    exact ⟨rfl, hB⟩
  have HT_aRooms := fun (w : World) (hb : Below W.heap.size W w) => laws_toInt64S y0 _ _ w (ro_to x0 hb) hz0
  have HT_aShards := fun (w : World) (hb : Below W.heap.size W w) => laws_toInt64S y1 _ _ w (ro_to x1 hb) hz1
  have HS := LoadOfShards_lawS y0 y1
  have HI := LoadOfShards_lawI y0 y1
  have HN := LoadOfShards_lawN y0 y1 hz0 hz1
  generalize LoadOfShards_f y0 y1 = r at *
  obtain ⟨r0, r1⟩ := r
  simp only at *
  have hsn0 := HN
  have hB := Below.refl W.heap.size W
  go_enter Tryd.func6, Tryd.ntmps6
  go_wp2_with fail
  refine (HT_aRooms W hB).mono ?_
  rintro e w0 ⟨v0, F0, rfl, hO0, hb0, hlo0⟩
  have hk0 := Kp.of_below0 hb0
  replace hB := hB.trans (hk0.below hB.size (fun _ h => h.elim))
  have hs0 := hk0.size_le
  obtain ⟨A0, c0, rfl, l0, m0⟩ := hO0.shape
  simp only [List.length_map] at l0 hO0 ⊢
  have hhi0 : ∀ b, F0 b → b < w0.heap.size := hO0.lt
  go_wp2_with fail
  refine (HT_aShards w0 hB).mono ?_
  rintro e w1 ⟨v1, F1, rfl, hO1, hb1, hlo1⟩
  have hk1 := Kp.of_below0 hb1
  replace hO0 := hO0.kp hk1 (fun _ _ h => h)
  replace hB := hB.trans (hk1.below hB.size (fun _ h => h.elim))
  have hs1 := hk1.size_le
  obtain ⟨A1, c1, rfl, l1, m1⟩ := hO1.shape
  simp only [List.length_map] at l1 hO1 ⊢
  have hhi1 : ∀ b, F1 b → b < w1.heap.size := hO1.lt
  go_wp2_with fail
  refine (HS _ _ _ _ w1 hO0.lo hO1.lo hz0 hz1).mono ?_
  rintro e w2 ⟨A2_0, c2_0, rfl, hO2_0, hb2⟩
  have hk2 := Kp.of_below0 hb2
  replace hO0 := hO0.kp hk2 (fun _ _ h => h)
  replace hO1 := hO1.kp hk2 (fun _ _ h => h)
  replace hB := hB.trans (hk2.below hB.size (fun _ h => h.elim))
  have hs2 := hk2.size_le
  go_wp2_with fail
  refine (HT_aRooms w2 hB).mono ?_
  rintro e w3 ⟨v3, F3, rfl, hO3, hb3, hlo3⟩
  have hk3 := Kp.of_below0 hb3
  replace hO2_0 := ro_keep hO2_0 hk3 (by omega) (fun _ h => h.elim)
  replace hB := hB.trans (hk3.below hB.size (fun _ h => h.elim))
  have hs3 := hk3.size_le
  obtain ⟨A3, c3, rfl, l3, m3⟩ := hO3.shape
  simp only [List.length_map] at l3 hO3 ⊢
  have hhi3 : ∀ b, F3 b → b < w3.heap.size := hO3.lt
  go_wp2_with fail
  refine (HT_aShards w3 hB).mono ?_
  rintro e w4 ⟨v4, F4, rfl, hO4, hb4, hlo4⟩
  have hk4 := Kp.of_below0 hb4
  replace hO2_0 := ro_keep hO2_0 hk4 (by omega) (fun _ h => h.elim)
  replace hO3 := hO3.kp hk4 (fun _ _ h => h)
  replace hB := hB.trans (hk4.below hB.size (fun _ h => h.elim))
  have hs4 := hk4.size_le
  obtain ⟨A4, c4, rfl, l4, m4⟩ := hO4.shape
  simp only [List.length_map] at l4 hO4 ⊢
  have hhi4 : ∀ b, F4 b → b < w4.heap.size := hO4.lt
  go_wp2_with fail
  refine (HI _ _ _ _ w4 (ht.on hB) hO3.lo hO4.lo hz0 hz1).mono ?_
  rintro e w5 ⟨A5_0, c5_0, F5_0, rfl, hO5_0, hlo5_0, hb5⟩
  have hk5 := Kp.of_below0 hb5
  replace hO2_0 := ro_keep hO2_0 hk5 (by omega) (fun _ h => h.elim)
  replace hO3 := hO3.kp hk5 (fun _ _ h => h)
  replace hO4 := hO4.kp hk5 (fun _ _ h => h)
  replace hB := hB.trans (hk5.below hB.size (fun _ h => h.elim))
  have hs5 := hk5.size_le
  have hhi5_0 : ∀ b, F5_0 b → b < w5.heap.size := hO5_0.lt
  have HE6 := laws_eqInt64S r0 r0 _ _ _ _ w5 hO5_0.lo (hO2_0.up (by omega)) (by first | assumption | exact (hO5_0.lo).sl_max) (by first | assumption | exact ((hO2_0.up (by omega))).sl_max) (by first | assumption | exact (hO5_0.lo).sl_cap) (by first | assumption | exact ((hO2_0.up (by omega))).sl_cap)
  rw [decide_eq_true rfl] at HE6
  go_wp2_with fail
  refine (HE6).mono ?_
  rintro e w6 ⟨rfl, hb6⟩
  have hk6 := Kp.of_below0 hb6
  replace hO2_0 := ro_keep hO2_0 hk6 (by omega) (fun _ h => h.elim)
  replace hO3 := hO3.kp hk6 (fun _ _ h => h)
  replace hO4 := hO4.kp hk6 (fun _ _ h => h)
  replace hO5_0 := hO5_0.kp hk6 (fun _ _ h => h)
  replace hB := hB.trans (hk6.below hB.size (fun _ h => h.elim))
  have hs6 := hk6.size_le
  go_wp2_with fail
  refine (HT_aRooms w6 hB).mono ?_
  rintro e w7 ⟨v7, F7, rfl, hO7, hb7, hlo7⟩
  have hk7 := Kp.of_below0 hb7
  replace hO2_0 := ro_keep hO2_0 hk7 (by omega) (fun _ h => h.elim)
  replace hO3 := hO3.kp hk7 (fun _ _ h => h)
  replace hO4 := hO4.kp hk7 (fun _ _ h => h)
  replace hO5_0 := hO5_0.kp hk7 (fun _ _ h => h)
  replace hB := hB.trans (hk7.below hB.size (fun _ h => h.elim))
  have hs7 := hk7.size_le
  obtain ⟨A7, c7, rfl, l7, m7⟩ := hO7.shape
  simp only [List.length_map] at l7 hO7 ⊢
  have hhi7 : ∀ b, F7 b → b < w7.heap.size := hO7.lt
  have HE8 := laws_eqInt64S y0 y0 _ _ _ _ w7 hO3.lo hO7.lo (by first | assumption | exact (hO3.lo).sl_max) (by first | assumption | exact (hO7.lo).sl_max) (by first | assumption | exact (hO3.lo).sl_cap) (by first | assumption | exact (hO7.lo).sl_cap)
  rw [decide_eq_true rfl] at HE8
  go_wp2_with fail
  refine (HE8).mono ?_
  rintro e w8 ⟨rfl, hb8⟩
  have hk8 := Kp.of_below0 hb8
  replace hO2_0 := ro_keep hO2_0 hk8 (by omega) (fun _ h => h.elim)
  replace hO3 := hO3.kp hk8 (fun _ _ h => h)
  replace hO4 := hO4.kp hk8 (fun _ _ h => h)
  replace hO5_0 := hO5_0.kp hk8 (fun _ _ h => h)
  replace hO7 := hO7.kp hk8 (fun _ _ h => h)
  replace hB := hB.trans (hk8.below hB.size (fun _ h => h.elim))
  have hs8 := hk8.size_le
  go_wp2_with fail
  refine (HT_aShards w8 hB).mono ?_
  rintro e w9 ⟨v9, F9, rfl, hO9, hb9, hlo9⟩
  have hk9 := Kp.of_below0 hb9
  replace hO2_0 := ro_keep hO2_0 hk9 (by omega) (fun _ h => h.elim)
  replace hO3 := hO3.kp hk9 (fun _ _ h => h)
  replace hO4 := hO4.kp hk9 (fun _ _ h => h)
  replace hO5_0 := hO5_0.kp hk9 (fun _ _ h => h)
  replace hB := hB.trans (hk9.below hB.size (fun _ h => h.elim))
  have hs9 := hk9.size_le
  obtain ⟨A9, c9, rfl, l9, m9⟩ := hO9.shape
  simp only [List.length_map] at l9 hO9 ⊢
  have hhi9 : ∀ b, F9 b → b < w9.heap.size := hO9.lt
  have HE10 := laws_eqInt64S y1 y1 _ _ _ _ w9 hO4.lo hO9.lo (by first | assumption | exact (hO4.lo).sl_max) (by first | assumption | exact (hO9.lo).sl_max) (by first | assumption | exact (hO4.lo).sl_cap) (by first | assumption | exact (hO9.lo).sl_cap)
  rw [decide_eq_true rfl] at HE10
  go_wp2_with fail
  refine (HE10).mono ?_
  rintro e w10 ⟨rfl, hb10⟩
  have hk10 := Kp.of_below0 hb10
  replace hO2_0 := ro_keep hO2_0 hk10 (by omega) (fun _ h => h.elim)
  replace hO3 := hO3.kp hk10 (fun _ _ h => h)
  replace hO4 := hO4.kp hk10 (fun _ _ h => h)
  replace hO5_0 := hO5_0.kp hk10 (fun _ _ h => h)
  replace hO9 := hO9.kp hk10 (fun _ _ h => h)
  replace hB := hB.trans (hk10.below hB.size (fun _ h => h.elim))
  have hs10 := hk10.size_le
  go_wp2_with fail
  refine (laws_markInt64S y0 _ F3 (1) w10 hO3 (by omega) (by omega)).mono ?_
  rintro e w11 ⟨rfl, hk11, G11, hm11, hG11⟩
  replace hO2_0 := ro_keep hO2_0 hk11 (by omega) (fun b hx => by have a3 := hlo3 b hx; omega)
  replace hO4 := hO4.kp hk11 (fun b hy hx => by have a1 := hlo4 b hy; have a2 := hhi4 b hy; have a3 := hlo3 b hx; have a4 := hhi3 b hx; omega)
  replace hO5_0 := hO5_0.kp hk11 (fun b hy hx => by have a1 := hlo5_0 b hy; have a2 := hhi5_0 b hy; have a3 := hlo3 b hx; have a4 := hhi3 b hx; omega)
  replace hB := hB.trans (hk11.below hB.size (fun b hx => by have a3 := hlo3 b hx; omega))
  have hs11 := hk11.size_le
  have hlo11m : ∀ b, G11 b → _ := fun b h => hlo3 b (hG11 b h)
  have hhi11m : ∀ b, G11 b → _ := fun b h => hhi3 b (hG11 b h)
  go_wp2_with fail
  refine (laws_markInt64S y1 _ F4 (1 + ((y0.length : Nat) : Int)) w11 hO4 (by omega) (by omega)).mono ?_
  rintro e w12 ⟨rfl, hk12, G12, hm12, hG12⟩
  replace hO2_0 := ro_keep hO2_0 hk12 (by omega) (fun b hx => by have a3 := hlo4 b hx; omega)
  replace hm11 := hm11.kp hk12 (fun b hy hx => by have a1 := hlo11m b hy; have a2 := hhi11m b hy; have a3 := hlo4 b hx; have a4 := hhi4 b hx; omega)
  replace hO5_0 := hO5_0.kp hk12 (fun b hy hx => by have a1 := hlo5_0 b hy; have a2 := hhi5_0 b hy; have a3 := hlo4 b hx; have a4 := hhi4 b hx; omega)
  replace hB := hB.trans (hk12.below hB.size (fun b hx => by have a3 := hlo4 b hx; omega))
  have hs12 := hk12.size_le
  have hlo12m : ∀ b, G12 b → _ := fun b h => hlo4 b (hG12 b h)
  have hhi12m : ∀ b, G12 b → _ := fun b h => hhi4 b (hG12 b h)
  have HE13 := laws_eqInt64S r0 r0 _ _ _ _ w12 hO5_0.lo (hO2_0.up (by omega)) (by first | assumption | exact (hO5_0.lo).sl_max) (by first | assumption | exact ((hO2_0.up (by omega))).sl_max) (by first | assumption | exact (hO5_0.lo).sl_cap) (by first | assumption | exact ((hO2_0.up (by omega))).sl_cap)
  rw [decide_eq_true rfl] at HE13
  go_wp2_with fail
  refine (HE13).mono ?_
  rintro e w13 ⟨rfl, hb13⟩
  have hk13 := Kp.of_below0 hb13
  replace hO2_0 := ro_keep hO2_0 hk13 (by omega) (fun _ h => h.elim)
  replace hm11 := hm11.kp hk13 (fun _ _ h => h)
  replace hm12 := hm12.kp hk13 (fun _ _ h => h)
  replace hO5_0 := hO5_0.kp hk13 (fun _ _ h => h)
  replace hB := hB.trans (hk13.below hB.size (fun _ h => h.elim))
  have hs13 := hk13.size_le
  go_wp2_with fail
  refine (laws_markInt64S r0 _ F5_0 (1) w13 hO5_0 (by omega) (by omega)).mono ?_
  rintro e w14 ⟨rfl, hk14, G14, hm14, hG14⟩
  replace hO2_0 := ro_keep hO2_0 hk14 (by omega) (fun b hx => by have a3 := hlo5_0 b hx; omega)
  replace hm11 := hm11.kp hk14 (fun b hy hx => by have a1 := hlo11m b hy; have a2 := hhi11m b hy; have a3 := hlo5_0 b hx; have a4 := hhi5_0 b hx; omega)
  replace hm12 := hm12.kp hk14 (fun b hy hx => by have a1 := hlo12m b hy; have a2 := hhi12m b hy; have a3 := hlo5_0 b hx; have a4 := hhi5_0 b hx; omega)
  replace hB := hB.trans (hk14.below hB.size (fun b hx => by have a3 := hlo5_0 b hx; omega))
  have hs14 := hk14.size_le
  have hlo14m : ∀ b, G14 b → _ := fun b h => hlo5_0 b (hG14 b h)
  have hhi14m : ∀ b, G14 b → _ := fun b h => hhi5_0 b (hG14 b h)
  go_wp2_with fail
  refine (laws_heldInt64M r0 _ _ (1) w14 hm14.lo (by first | assumption | exact (hm14.lo).sl_max) (by first | assumption | exact (hm14.lo).sl_cap) (by omega) (by omega)).mono ?_
  rintro e w15 ⟨rfl, hb15⟩
  have hk15 := Kp.of_below0 hb15
  replace hO2_0 := ro_keep hO2_0 hk15 (by omega) (fun _ h => h.elim)
  replace hm11 := hm11.kp hk15 (fun _ _ h => h)
  replace hm12 := hm12.kp hk15 (fun _ _ h => h)
  replace hm14 := hm14.kp hk15 (fun _ _ h => h)
  replace hB := hB.trans (hk15.below hB.size (fun _ h => h.elim))
  have hs15 := hk15.size_le
  go_wp2_with fail
  refine (HT_aRooms w15 hB).mono ?_
  rintro e w16 ⟨v16, F16, rfl, hO16, hb16, hlo16⟩
  have hk16 := Kp.of_below0 hb16
  replace hO2_0 := ro_keep hO2_0 hk16 (by omega) (fun _ h => h.elim)
  replace hm11 := hm11.kp hk16 (fun _ _ h => h)
  replace hm12 := hm12.kp hk16 (fun _ _ h => h)
  replace hm14 := hm14.kp hk16 (fun _ _ h => h)
  replace hB := hB.trans (hk16.below hB.size (fun _ h => h.elim))
  have hs16 := hk16.size_le
  obtain ⟨A16, c16, rfl, l16, m16⟩ := hO16.shape
  simp only [List.length_map] at l16 hO16 ⊢
  have hhi16 : ∀ b, F16 b → b < w16.heap.size := hO16.lt
  go_wp2_with fail
  refine (HT_aShards w16 hB).mono ?_
  rintro e w17 ⟨v17, F17, rfl, hO17, hb17, hlo17⟩
  have hk17 := Kp.of_below0 hb17
  replace hO2_0 := ro_keep hO2_0 hk17 (by omega) (fun _ h => h.elim)
  replace hm11 := hm11.kp hk17 (fun _ _ h => h)
  replace hm12 := hm12.kp hk17 (fun _ _ h => h)
  replace hm14 := hm14.kp hk17 (fun _ _ h => h)
  replace hO16 := hO16.kp hk17 (fun _ _ h => h)
  replace hB := hB.trans (hk17.below hB.size (fun _ h => h.elim))
  have hs17 := hk17.size_le
  obtain ⟨A17, c17, rfl, l17, m17⟩ := hO17.shape
  simp only [List.length_map] at l17 hO17 ⊢
  have hhi17 : ∀ b, F17 b → b < w17.heap.size := hO17.lt
  go_wp2_with fail
  refine (HI _ _ _ _ w17 (ht.on hB) hO16.lo hO17.lo hz0 hz1).mono ?_
  rintro e w18 ⟨A18_0, c18_0, F18_0, rfl, hO18_0, hlo18_0, hb18⟩
  have hk18 := Kp.of_below0 hb18
  replace hO2_0 := ro_keep hO2_0 hk18 (by omega) (fun _ h => h.elim)
  replace hm11 := hm11.kp hk18 (fun _ _ h => h)
  replace hm12 := hm12.kp hk18 (fun _ _ h => h)
  replace hm14 := hm14.kp hk18 (fun _ _ h => h)
  replace hO16 := hO16.kp hk18 (fun _ _ h => h)
  replace hO17 := hO17.kp hk18 (fun _ _ h => h)
  replace hB := hB.trans (hk18.below hB.size (fun _ h => h.elim))
  have hs18 := hk18.size_le
  have hhi18_0 : ∀ b, F18_0 b → b < w18.heap.size := hO18_0.lt
  have HE19 := laws_eqInt64S r0 r0 _ _ _ _ w18 hO18_0.lo (hO2_0.up (by omega)) (by first | assumption | exact (hO18_0.lo).sl_max) (by first | assumption | exact ((hO2_0.up (by omega))).sl_max) (by first | assumption | exact (hO18_0.lo).sl_cap) (by first | assumption | exact ((hO2_0.up (by omega))).sl_cap)
  rw [decide_eq_true rfl] at HE19
  go_wp2_with fail
  refine (HE19).mono ?_
  rintro e w19 ⟨rfl, hb19⟩
  have hk19 := Kp.of_below0 hb19
  replace hO2_0 := ro_keep hO2_0 hk19 (by omega) (fun _ h => h.elim)
  replace hm11 := hm11.kp hk19 (fun _ _ h => h)
  replace hm12 := hm12.kp hk19 (fun _ _ h => h)
  replace hm14 := hm14.kp hk19 (fun _ _ h => h)
  replace hO18_0 := hO18_0.kp hk19 (fun _ _ h => h)
  replace hB := hB.trans (hk19.below hB.size (fun _ h => h.elim))
  have hs19 := hk19.size_le
  go_wp2_with fail
  refine (laws_heldInt64M r0 _ _ (1) w19 hm14.lo (by first | assumption | exact (hm14.lo).sl_max) (by first | assumption | exact (hm14.lo).sl_cap) (by omega) (by omega)).mono ?_
  rintro e w20 ⟨rfl, hb20⟩
  have hk20 := Kp.of_below0 hb20
  replace hO2_0 := ro_keep hO2_0 hk20 (by omega) (fun _ h => h.elim)
  replace hm11 := hm11.kp hk20 (fun _ _ h => h)
  replace hm12 := hm12.kp hk20 (fun _ _ h => h)
  replace hm14 := hm14.kp hk20 (fun _ _ h => h)
  replace hO18_0 := hO18_0.kp hk20 (fun _ _ h => h)
  replace hB := hB.trans (hk20.below hB.size (fun _ h => h.elim))
  have hs20 := hk20.size_le
  go_wp2
  go_ret
  exact ⟨rfl, hB⟩
end FnExactLoadOfShards
end Go.Proofs.YtmofbfeclecdoaaDoor

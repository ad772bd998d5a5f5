/- The walk of FnExactMovesFor. -/
import Derived.Test.YtmofbfeclecdoaaDoorMoves
import Derived.Test.YtmofbfeclecdoaaDoorOpen
import Derived.Test.YtmofbfeclecdoaaDoorYMove
import Derived.Test.YtmofbfeclecdoaaDoorLaw
import Derived.StillTailTactics
namespace Go.Proofs.YtmofbfeclecdoaaDoor
open Go.ChangeShapes Go.WideShapes Go.ChangeAt Go.RowKit Go.Dt
set_option linter.unusedVariables false
set_option linter.unusedSimpArgs false

namespace FnExactMovesFor
set_option maxHeartbeats 1600000 in
set_option maxRecDepth 100000 in
theorem walk (W : World) (ht : Pow10 W) (A0 : Option Addr) (n0 c0 : Nat) (e0 : List D) (t0 : IsL [.sl 2 1 [.int .i64]] e0) (x0 : RoL W (Lo W.heap.size) e0 [.slice A0 n0 c0]) (A1 : Option Addr) (n1 c1 : Nat) (e1 : List D) (t1 : IsL [.sl 2 1 [.int .i64]] e1) (x1 : RoL W (Lo W.heap.size) e1 [.slice A1 n1 c1]) (A2 : Option Addr) (n2 c2 : Nat) (e2 : List D) (t2 : IsL [.sl 2 1 [.int .i64]] e2) (x2 : RoL W (Lo W.heap.size) e2 [.slice A2 n2 c2]) :
    Calls Tryd.prog 8 #[.slice A0 n0 c0, .slice A1 n1 c1, .slice A2 n2 c2] W fun e w' => e = .returned (.bool true) ∧ Below W.heap.size W w' := by
  obtain ⟨y0, rfl, x0, w0, lc0, mc0⟩ := open_ints t0 x0
  obtain ⟨y1, rfl, x1, w1, lc1, mc1⟩ := open_ints t1 x1
  obtain ⟨y2, rfl, x2, w2, lc2, mc2⟩ := open_ints t2 x2
  by_cases hz0 : y0.length ≤ 1048576
  rotate_left
  · have hB := Below.refl W.heap.size W
    go_enter Tryd.func8, Tryd.ntmps8
    go_wp2
    go_ret
    exact ⟨rfl, hB⟩
  by_cases hz1 : y1.length ≤ 1048576
  rotate_left
  · have hB := Below.refl W.heap.size W
    go_enter Tryd.func8, Tryd.ntmps8
    go_wp2
    go_ret
    exact ⟨rfl, hB⟩
  by_cases hz2 : y2.length ≤ 1048576
  rotate_left
  · have hB := Below.refl W.heap.size W
    go_enter Tryd.func8, Tryd.ntmps8
    go_wp2
    go_ret
    exact ⟨rfl, hB⟩
  have HT_aRooms := fun (w : World) (hb : Below W.heap.size W w) => laws_toInt64S y0 _ _ w (ro_to x0 hb) hz0
  have HT_aBefore := fun (w : World) (hb : Below W.heap.size W w) => laws_toInt64S y1 _ _ w (ro_to x1 hb) hz1
  have HT_aAfter := fun (w : World) (hb : Below W.heap.size W w) => laws_toInt64S y2 _ _ w (ro_to x2 hb) hz2
  have HS := MovesFor_lawS y0 y1 y2
  have HI := MovesFor_lawI y0 y1 y2
  have HN := MovesFor_lawN y0 y1 y2 hz0 hz1 hz2
  generalize MovesFor_f y0 y1 y2 = r at *
  obtain ⟨r0, r1⟩ := r
  simp only at *
  have hsn0 := HN
  have hB := Below.refl W.heap.size W
  go_enter Tryd.func8, Tryd.ntmps8
  go_wp2_with fail
  refine (HT_aRooms W hB).mono ?_
  rintro e w0 ⟨v0, F0, rfl, hO0, hb0, hlo0⟩
  have hk0 := Kp.of_below0 hb0
  replace hB := hB.trans (hk0.below hB.size (fun _ h => h.elim))
  have hs0 := hk0.size_le
  obtain ⟨A0, c0, rfl, l0, m0⟩ := hO0.shape
  simp only [List.length_map] at l0 hO0 ⊢
  have hhi0 : ∀ b, F0 b → b < w0.heap.size := hO0.lt
  go_wp2_with fail
  refine (HT_aBefore w0 hB).mono ?_
  rintro e w1 ⟨v1, F1, rfl, hO1, hb1, hlo1⟩
  have hk1 := Kp.of_below0 hb1
  replace hO0 := hO0.kp hk1 (fun _ _ h => h)
  replace hB := hB.trans (hk1.below hB.size (fun _ h => h.elim))
  have hs1 := hk1.size_le
  obtain ⟨A1, c1, rfl, l1, m1⟩ := hO1.shape
  simp only [List.length_map] at l1 hO1 ⊢
  have hhi1 : ∀ b, F1 b → b < w1.heap.size := hO1.lt
  go_wp2_with fail
  refine (HT_aAfter w1 hB).mono ?_
  rintro e w2 ⟨v2, F2, rfl, hO2, hb2, hlo2⟩
  have hk2 := Kp.of_below0 hb2
  replace hO0 := hO0.kp hk2 (fun _ _ h => h)
  replace hO1 := hO1.kp hk2 (fun _ _ h => h)
  replace hB := hB.trans (hk2.below hB.size (fun _ h => h.elim))
  have hs2 := hk2.size_le
  obtain ⟨A2, c2, rfl, l2, m2⟩ := hO2.shape
  simp only [List.length_map] at l2 hO2 ⊢
  have hhi2 : ∀ b, F2 b → b < w2.heap.size := hO2.lt
  go_wp2_with fail
  refine (HS _ _ _ _ _ _ w2 hO0.lo hO1.lo hO2.lo hz0 hz1 hz2).mono ?_
  rintro e w3 ⟨A3_0, c3_0, rfl, hO3_0, hb3⟩
  have hk3 := Kp.of_below0 hb3
  replace hO0 := hO0.kp hk3 (fun _ _ h => h)
  replace hO1 := hO1.kp hk3 (fun _ _ h => h)
  replace hO2 := hO2.kp hk3 (fun _ _ h => h)
  replace hB := hB.trans (hk3.below hB.size (fun _ h => h.elim))
  have hs3 := hk3.size_le
  go_wp2_with fail
  refine (HT_aRooms w3 hB).mono ?_
  rintro e w4 ⟨v4, F4, rfl, hO4, hb4, hlo4⟩
  have hk4 := Kp.of_below0 hb4
  replace hO3_0 := ro_keep hO3_0 hk4 (by omega) (fun _ h => h.elim)
  replace hB := hB.trans (hk4.below hB.size (fun _ h => h.elim))
  have hs4 := hk4.size_le
  obtain ⟨A4, c4, rfl, l4, m4⟩ := hO4.shape
  simp only [List.length_map] at l4 hO4 ⊢
  have hhi4 : ∀ b, F4 b → b < w4.heap.size := hO4.lt
  go_wp2_with fail
  refine (HT_aBefore w4 hB).mono ?_
  rintro e w5 ⟨v5, F5, rfl, hO5, hb5, hlo5⟩
  have hk5 := Kp.of_below0 hb5
  replace hO3_0 := ro_keep hO3_0 hk5 (by omega) (fun _ h => h.elim)
  replace hO4 := hO4.kp hk5 (fun _ _ h => h)
  replace hB := hB.trans (hk5.below hB.size (fun _ h => h.elim))
  have hs5 := hk5.size_le
  obtain ⟨A5, c5, rfl, l5, m5⟩ := hO5.shape
  simp only [List.length_map] at l5 hO5 ⊢
  have hhi5 : ∀ b, F5 b → b < w5.heap.size := hO5.lt
  go_wp2_with fail
  refine (HT_aAfter w5 hB).mono ?_
  rintro e w6 ⟨v6, F6, rfl, hO6, hb6, hlo6⟩
  have hk6 := Kp.of_below0 hb6
  replace hO3_0 := ro_keep hO3_0 hk6 (by omega) (fun _ h => h.elim)
  replace hO4 := hO4.kp hk6 (fun _ _ h => h)
  replace hO5 := hO5.kp hk6 (fun _ _ h => h)
  replace hB := hB.trans (hk6.below hB.size (fun _ h => h.elim))
  have hs6 := hk6.size_le
  obtain ⟨A6, c6, rfl, l6, m6⟩ := hO6.shape
  simp only [List.length_map] at l6 hO6 ⊢
  have hhi6 : ∀ b, F6 b → b < w6.heap.size := hO6.lt
  go_wp2_with fail
  refine (HI _ _ _ _ _ _ w6 (ht.on hB) hO4.lo hO5.lo hO6.lo hz0 hz1 hz2).mono ?_
  rintro e w7 ⟨A7_0, c7_0, F7_0, rfl, hO7_0, hlo7_0, hb7⟩
  have hk7 := Kp.of_below0 hb7
  replace hO3_0 := ro_keep hO3_0 hk7 (by omega) (fun _ h => h.elim)
  replace hO4 := hO4.kp hk7 (fun _ _ h => h)
  replace hO5 := hO5.kp hk7 (fun _ _ h => h)
  replace hO6 := hO6.kp hk7 (fun _ _ h => h)
  replace hB := hB.trans (hk7.below hB.size (fun _ h => h.elim))
  have hs7 := hk7.size_le
  have hhi7_0 : ∀ b, F7_0 b → b < w7.heap.size := hO7_0.lt
  have HE8 := laws_eqMoveS r0 r0 _ _ _ _ w7 hO7_0.lo (hO3_0.up (by omega)) (by first | assumption | exact (hO7_0.lo).sl_max) (by first | assumption | exact ((hO3_0.up (by omega))).sl_max) (by first | assumption | exact (hO7_0.lo).sl_cap) (by first | assumption | exact ((hO3_0.up (by omega))).sl_cap)
  rw [decide_eq_true rfl] at HE8
  go_wp2_with fail
  refine (HE8).mono ?_
  rintro e w8 ⟨rfl, hb8⟩
  have hk8 := Kp.of_below0 hb8
  replace hO3_0 := ro_keep hO3_0 hk8 (by omega) (fun _ h => h.elim)
  replace hO4 := hO4.kp hk8 (fun _ _ h => h)
  replace hO5 := hO5.kp hk8 (fun _ _ h => h)
  replace hO6 := hO6.kp hk8 (fun _ _ h => h)
  replace hO7_0 := hO7_0.kp hk8 (fun _ _ h => h)
  replace hB := hB.trans (hk8.below hB.size (fun _ h => h.elim))
  have hs8 := hk8.size_le
  go_wp2_with fail
  refine (HT_aRooms w8 hB).mono ?_
  rintro e w9 ⟨v9, F9, rfl, hO9, hb9, hlo9⟩
  have hk9 := Kp.of_below0 hb9
  replace hO3_0 := ro_keep hO3_0 hk9 (by omega) (fun _ h => h.elim)
  replace hO4 := hO4.kp hk9 (fun _ _ h => h)
  replace hO5 := hO5.kp hk9 (fun _ _ h => h)
  replace hO6 := hO6.kp hk9 (fun _ _ h => h)
  replace hO7_0 := hO7_0.kp hk9 (fun _ _ h => h)
  replace hB := hB.trans (hk9.below hB.size (fun _ h => h.elim))
  have hs9 := hk9.size_le
  obtain ⟨A9, c9, rfl, l9, m9⟩ := hO9.shape
  simp only [List.length_map] at l9 hO9 ⊢
  have hhi9 : ∀ b, F9 b → b < w9.heap.size := hO9.lt
  have HE10 := laws_eqInt64S y0 y0 _ _ _ _ w9 hO4.lo hO9.lo (by first | assumption | exact (hO4.lo).sl_max) (by first | assumption | exact (hO9.lo).sl_max) (by first | assumption | exact (hO4.lo).sl_cap) (by first | assumption | exact (hO9.lo).sl_cap)
  rw [decide_eq_true rfl] at HE10
  go_wp2_with fail
  refine (HE10).mono ?_
  rintro e w10 ⟨rfl, hb10⟩
  have hk10 := Kp.of_below0 hb10
  replace hO3_0 := ro_keep hO3_0 hk10 (by omega) (fun _ h => h.elim)
  replace hO4 := hO4.kp hk10 (fun _ _ h => h)
  replace hO5 := hO5.kp hk10 (fun _ _ h => h)
  replace hO6 := hO6.kp hk10 (fun _ _ h => h)
  replace hO7_0 := hO7_0.kp hk10 (fun _ _ h => h)
  replace hO9 := hO9.kp hk10 (fun _ _ h => h)
  replace hB := hB.trans (hk10.below hB.size (fun _ h => h.elim))
  have hs10 := hk10.size_le
  go_wp2_with fail
  refine (HT_aBefore w10 hB).mono ?_
  rintro e w11 ⟨v11, F11, rfl, hO11, hb11, hlo11⟩
  have hk11 := Kp.of_below0 hb11
  replace hO3_0 := ro_keep hO3_0 hk11 (by omega) (fun _ h => h.elim)
  replace hO4 := hO4.kp hk11 (fun _ _ h => h)
  replace hO5 := hO5.kp hk11 (fun _ _ h => h)
  replace hO6 := hO6.kp hk11 (fun _ _ h => h)
  replace hO7_0 := hO7_0.kp hk11 (fun _ _ h => h)
  replace hB := hB.trans (hk11.below hB.size (fun _ h => h.elim))
  have hs11 := hk11.size_le
  obtain ⟨A11, c11, rfl, l11, m11⟩ := hO11.shape
  simp only [List.length_map] at l11 hO11 ⊢
  have hhi11 : ∀ b, F11 b → b < w11.heap.size := hO11.lt
  have HE12 := laws_eqInt64S y1 y1 _ _ _ _ w11 hO5.lo hO11.lo (by first | assumption | exact (hO5.lo).sl_max) (by first | assumption | exact (hO11.lo).sl_max) (by first | assumption | exact (hO5.lo).sl_cap) (by first | assumption | exact (hO11.lo).sl_cap)
  rw [decide_eq_true rfl] at HE12
  go_wp2_with fail
  refine (HE12).mono ?_
  rintro e w12 ⟨rfl, hb12⟩
  have hk12 := Kp.of_below0 hb12
  replace hO3_0 := ro_keep hO3_0 hk12 (by omega) (fun _ h => h.elim)
  replace hO4 := hO4.kp hk12 (fun _ _ h => h)
  replace hO5 := hO5.kp hk12 (fun _ _ h => h)
  replace hO6 := hO6.kp hk12 (fun _ _ h => h)
  replace hO7_0 := hO7_0.kp hk12 (fun _ _ h => h)
  replace hO11 := hO11.kp hk12 (fun _ _ h => h)
  replace hB := hB.trans (hk12.below hB.size (fun _ h => h.elim))
  have hs12 := hk12.size_le
  go_wp2_with fail
  refine (HT_aAfter w12 hB).mono ?_
  rintro e w13 ⟨v13, F13, rfl, hO13, hb13, hlo13⟩
  have hk13 := Kp.of_below0 hb13
  replace hO3_0 := ro_keep hO3_0 hk13 (by omega) (fun _ h => h.elim)
  replace hO4 := hO4.kp hk13 (fun _ _ h => h)
  replace hO5 := hO5.kp hk13 (fun _ _ h => h)
  replace hO6 := hO6.kp hk13 (fun _ _ h => h)
  replace hO7_0 := hO7_0.kp hk13 (fun _ _ h => h)
  replace hB := hB.trans (hk13.below hB.size (fun _ h => h.elim))
  have hs13 := hk13.size_le
  obtain ⟨A13, c13, rfl, l13, m13⟩ := hO13.shape
  simp only [List.length_map] at l13 hO13 ⊢
  have hhi13 : ∀ b, F13 b → b < w13.heap.size := hO13.lt
  have HE14 := laws_eqInt64S y2 y2 _ _ _ _ w13 hO6.lo hO13.lo (by first | assumption | exact (hO6.lo).sl_max) (by first | assumption | exact (hO13.lo).sl_max) (by first | assumption | exact (hO6.lo).sl_cap) (by first | assumption | exact (hO13.lo).sl_cap)
  rw [decide_eq_true rfl] at HE14
  go_wp2_with fail
  refine (HE14).mono ?_
  rintro e w14 ⟨rfl, hb14⟩
  have hk14 := Kp.of_below0 hb14
  replace hO3_0 := ro_keep hO3_0 hk14 (by omega) (fun _ h => h.elim)
  replace hO4 := hO4.kp hk14 (fun _ _ h => h)
  replace hO5 := hO5.kp hk14 (fun _ _ h => h)
  replace hO6 := hO6.kp hk14 (fun _ _ h => h)
  replace hO7_0 := hO7_0.kp hk14 (fun _ _ h => h)
  replace hO13 := hO13.kp hk14 (fun _ _ h => h)
  replace hB := hB.trans (hk14.below hB.size (fun _ h => h.elim))
  have hs14 := hk14.size_le
  go_wp2_with fail
  refine (laws_markInt64S y0 _ F4 (1) w14 hO4 (by omega) (by omega)).mono ?_
  rintro e w15 ⟨rfl, hk15, G15, hm15, hG15⟩
  replace hO3_0 := ro_keep hO3_0 hk15 (by omega) (fun b hx => by have a3 := hlo4 b hx; omega)
  replace hO5 := hO5.kp hk15 (fun b hy hx => by have a1 := hlo5 b hy; have a2 := hhi5 b hy; have a3 := hlo4 b hx; have a4 := hhi4 b hx; omega)
  replace hO6 := hO6.kp hk15 (fun b hy hx => by have a1 := hlo6 b hy; have a2 := hhi6 b hy; have a3 := hlo4 b hx; have a4 := hhi4 b hx; omega)
  replace hO7_0 := hO7_0.kp hk15 (fun b hy hx => by have a1 := hlo7_0 b hy; have a2 := hhi7_0 b hy; have a3 := hlo4 b hx; have a4 := hhi4 b hx; omega)
  replace hB := hB.trans (hk15.below hB.size (fun b hx => by have a3 := hlo4 b hx; omega))
  have hs15 := hk15.size_le
  have hlo15m : ∀ b, G15 b → _ := fun b h => hlo4 b (hG15 b h)
  have hhi15m : ∀ b, G15 b → _ := fun b h => hhi4 b (hG15 b h)
  go_wp2_with fail
  refine (laws_markInt64S y1 _ F5 (1 + ((y0.length : Nat) : Int)) w15 hO5 (by omega) (by omega)).mono ?_
  rintro e w16 ⟨rfl, hk16, G16, hm16, hG16⟩
  replace hO3_0 := ro_keep hO3_0 hk16 (by omega) (fun b hx => by have a3 := hlo5 b hx; omega)
  replace hm15 := hm15.kp hk16 (fun b hy hx => by have a1 := hlo15m b hy; have a2 := hhi15m b hy; have a3 := hlo5 b hx; have a4 := hhi5 b hx; omega)
  replace hO6 := hO6.kp hk16 (fun b hy hx => by have a1 := hlo6 b hy; have a2 := hhi6 b hy; have a3 := hlo5 b hx; have a4 := hhi5 b hx; omega)
  replace hO7_0 := hO7_0.kp hk16 (fun b hy hx => by have a1 := hlo7_0 b hy; have a2 := hhi7_0 b hy; have a3 := hlo5 b hx; have a4 := hhi5 b hx; omega)
  replace hB := hB.trans (hk16.below hB.size (fun b hx => by have a3 := hlo5 b hx; omega))
  have hs16 := hk16.size_le
  have hlo16m : ∀ b, G16 b → _ := fun b h => hlo5 b (hG16 b h)
  have hhi16m : ∀ b, G16 b → _ := fun b h => hhi5 b (hG16 b h)
  go_wp2_with fail
  refine (laws_markInt64S y2 _ F6 (1 + ((y0.length : Nat) : Int) + ((y1.length : Nat) : Int)) w16 hO6 (by omega) (by omega)).mono ?_
  rintro e w17 ⟨rfl, hk17, G17, hm17, hG17⟩
  replace hO3_0 := ro_keep hO3_0 hk17 (by omega) (fun b hx => by have a3 := hlo6 b hx; omega)
  replace hm15 := hm15.kp hk17 (fun b hy hx => by have a1 := hlo15m b hy; have a2 := hhi15m b hy; have a3 := hlo6 b hx; have a4 := hhi6 b hx; omega)
  replace hm16 := hm16.kp hk17 (fun b hy hx => by have a1 := hlo16m b hy; have a2 := hhi16m b hy; have a3 := hlo6 b hx; have a4 := hhi6 b hx; omega)
  replace hO7_0 := hO7_0.kp hk17 (fun b hy hx => by have a1 := hlo7_0 b hy; have a2 := hhi7_0 b hy; have a3 := hlo6 b hx; have a4 := hhi6 b hx; omega)
  replace hB := hB.trans (hk17.below hB.size (fun b hx => by have a3 := hlo6 b hx; omega))
  have hs17 := hk17.size_le
  have hlo17m : ∀ b, G17 b → _ := fun b h => hlo6 b (hG17 b h)
  have hhi17m : ∀ b, G17 b → _ := fun b h => hhi6 b (hG17 b h)
  have HE18 := laws_eqMoveS r0 r0 _ _ _ _ w17 hO7_0.lo (hO3_0.up (by omega)) (by first | assumption | exact (hO7_0.lo).sl_max) (by first | assumption | exact ((hO3_0.up (by omega))).sl_max) (by first | assumption | exact (hO7_0.lo).sl_cap) (by first | assumption | exact ((hO3_0.up (by omega))).sl_cap)
  rw [decide_eq_true rfl] at HE18
  go_wp2_with fail
  refine (HE18).mono ?_
  rintro e w18 ⟨rfl, hb18⟩
  have hk18 := Kp.of_below0 hb18
  replace hO3_0 := ro_keep hO3_0 hk18 (by omega) (fun _ h => h.elim)
  replace hm15 := hm15.kp hk18 (fun _ _ h => h)
  replace hm16 := hm16.kp hk18 (fun _ _ h => h)
  replace hm17 := hm17.kp hk18 (fun _ _ h => h)
  replace hO7_0 := hO7_0.kp hk18 (fun _ _ h => h)
  replace hB := hB.trans (hk18.below hB.size (fun _ h => h.elim))
  have hs18 := hk18.size_le
  go_wp2_with fail
  refine (laws_markMoveS r0 _ F7_0 (1) w18 hO7_0 (by omega) (by omega)).mono ?_
  rintro e w19 ⟨rfl, hk19, G19, hm19, hG19⟩
  replace hO3_0 := ro_keep hO3_0 hk19 (by omega) (fun b hx => by have a3 := hlo7_0 b hx; omega)
  replace hm15 := hm15.kp hk19 (fun b hy hx => by have a1 := hlo15m b hy; have a2 := hhi15m b hy; have a3 := hlo7_0 b hx; have a4 := hhi7_0 b hx; omega)
  replace hm16 := hm16.kp hk19 (fun b hy hx => by have a1 := hlo16m b hy; have a2 := hhi16m b hy; have a3 := hlo7_0 b hx; have a4 := hhi7_0 b hx; omega)
  replace hm17 := hm17.kp hk19 (fun b hy hx => by have a1 := hlo17m b hy; have a2 := hhi17m b hy; have a3 := hlo7_0 b hx; have a4 := hhi7_0 b hx; omega)
  replace hB := hB.trans (hk19.below hB.size (fun b hx => by have a3 := hlo7_0 b hx; omega))
  have hs19 := hk19.size_le
  have hlo19m : ∀ b, G19 b → _ := fun b h => hlo7_0 b (hG19 b h)
  have hhi19m : ∀ b, G19 b → _ := fun b h => hhi7_0 b (hG19 b h)
  have hll20 := Nat.le_trans (hm19.lo).sl_cap (hm19.lo).sl_max
  simp only [maxLen, List.length_map] at hll20
  go_wp2_with fail
  refine (laws_heldMoveS r0 _ _ (1) w19 hm19.lo (by first | assumption | (simp at *; omega)) (by omega) (by omega)).mono ?_
  rintro e w20 ⟨rfl, hb20⟩
  have hk20 := Kp.of_below0 hb20
  replace hO3_0 := ro_keep hO3_0 hk20 (by omega) (fun _ h => h.elim)
  replace hm15 := hm15.kp hk20 (fun _ _ h => h)
  replace hm16 := hm16.kp hk20 (fun _ _ h => h)
  replace hm17 := hm17.kp hk20 (fun _ _ h => h)
  replace hm19 := hm19.kp hk20 (fun _ _ h => h)
  replace hB := hB.trans (hk20.below hB.size (fun _ h => h.elim))
  have hs20 := hk20.size_le
  go_wp2_with fail
  refine (HT_aRooms w20 hB).mono ?_
  rintro e w21 ⟨v21, F21, rfl, hO21, hb21, hlo21⟩
  have hk21 := Kp.of_below0 hb21
  replace hO3_0 := ro_keep hO3_0 hk21 (by omega) (fun _ h => h.elim)
  replace hm15 := hm15.kp hk21 (fun _ _ h => h)
  replace hm16 := hm16.kp hk21 (fun _ _ h => h)
  replace hm17 := hm17.kp hk21 (fun _ _ h => h)
  replace hm19 := hm19.kp hk21 (fun _ _ h => h)
  replace hB := hB.trans (hk21.below hB.size (fun _ h => h.elim))
  have hs21 := hk21.size_le
  obtain ⟨A21, c21, rfl, l21, m21⟩ := hO21.shape
  simp only [List.length_map] at l21 hO21 ⊢
  have hhi21 : ∀ b, F21 b → b < w21.heap.size := hO21.lt
  go_wp2_with fail
  refine (HT_aBefore w21 hB).mono ?_
  rintro e w22 ⟨v22, F22, rfl, hO22, hb22, hlo22⟩
  have hk22 := Kp.of_below0 hb22
  replace hO3_0 := ro_keep hO3_0 hk22 (by omega) (fun _ h => h.elim)
  replace hm15 := hm15.kp hk22 (fun _ _ h => h)
  replace hm16 := hm16.kp hk22 (fun _ _ h => h)
  replace hm17 := hm17.kp hk22 (fun _ _ h => h)
  replace hm19 := hm19.kp hk22 (fun _ _ h => h)
  replace hO21 := hO21.kp hk22 (fun _ _ h => h)
  replace hB := hB.trans (hk22.below hB.size (fun _ h => h.elim))
  have hs22 := hk22.size_le
  obtain ⟨A22, c22, rfl, l22, m22⟩ := hO22.shape
  simp only [List.length_map] at l22 hO22 ⊢
  have hhi22 : ∀ b, F22 b → b < w22.heap.size := hO22.lt
  go_wp2_with fail
  refine (HT_aAfter w22 hB).mono ?_
  rintro e w23 ⟨v23, F23, rfl, hO23, hb23, hlo23⟩
  have hk23 := Kp.of_below0 hb23
  replace hO3_0 := ro_keep hO3_0 hk23 (by omega) (fun _ h => h.elim)
  replace hm15 := hm15.kp hk23 (fun _ _ h => h)
  replace hm16 := hm16.kp hk23 (fun _ _ h => h)
  replace hm17 := hm17.kp hk23 (fun _ _ h => h)
  replace hm19 := hm19.kp hk23 (fun _ _ h => h)
  replace hO21 := hO21.kp hk23 (fun _ _ h => h)
  replace hO22 := hO22.kp hk23 (fun _ _ h => h)
  replace hB := hB.trans (hk23.below hB.size (fun _ h => h.elim))
  have hs23 := hk23.size_le
  obtain ⟨A23, c23, rfl, l23, m23⟩ := hO23.shape
  simp only [List.length_map] at l23 hO23 ⊢
  have hhi23 : ∀ b, F23 b → b < w23.heap.size := hO23.lt
  go_wp2_with fail
  refine (HI _ _ _ _ _ _ w23 (ht.on hB) hO21.lo hO22.lo hO23.lo hz0 hz1 hz2).mono ?_
  rintro e w24 ⟨A24_0, c24_0, F24_0, rfl, hO24_0, hlo24_0, hb24⟩
  have hk24 := Kp.of_below0 hb24
  replace hO3_0 := ro_keep hO3_0 hk24 (by omega) (fun _ h => h.elim)
  replace hm15 := hm15.kp hk24 (fun _ _ h => h)
  replace hm16 := hm16.kp hk24 (fun _ _ h => h)
  replace hm17 := hm17.kp hk24 (fun _ _ h => h)
  replace hm19 := hm19.kp hk24 (fun _ _ h => h)
  replace hO21 := hO21.kp hk24 (fun _ _ h => h)
  replace hO22 := hO22.kp hk24 (fun _ _ h => h)
  replace hO23 := hO23.kp hk24 (fun _ _ h => h)
  replace hB := hB.trans (hk24.below hB.size (fun _ h => h.elim))
  have hs24 := hk24.size_le
  have hhi24_0 : ∀ b, F24_0 b → b < w24.heap.size := hO24_0.lt
  have HE25 := laws_eqMoveS r0 r0 _ _ _ _ w24 hO24_0.lo (hO3_0.up (by omega)) (by first | assumption | exact (hO24_0.lo).sl_max) (by first | assumption | exact ((hO3_0.up (by omega))).sl_max) (by first | assumption | exact (hO24_0.lo).sl_cap) (by first | assumption | exact ((hO3_0.up (by omega))).sl_cap)
  rw [decide_eq_true rfl] at HE25
  go_wp2_with fail
  refine (HE25).mono ?_
  rintro e w25 ⟨rfl, hb25⟩
  have hk25 := Kp.of_below0 hb25
  replace hO3_0 := ro_keep hO3_0 hk25 (by omega) (fun _ h => h.elim)
  replace hm15 := hm15.kp hk25 (fun _ _ h => h)
  replace hm16 := hm16.kp hk25 (fun _ _ h => h)
  replace hm17 := hm17.kp hk25 (fun _ _ h => h)
  replace hm19 := hm19.kp hk25 (fun _ _ h => h)
  replace hO24_0 := hO24_0.kp hk25 (fun _ _ h => h)
  replace hB := hB.trans (hk25.below hB.size (fun _ h => h.elim))
  have hs25 := hk25.size_le
  have hll26 := Nat.le_trans (hm19.lo).sl_cap (hm19.lo).sl_max
  simp only [maxLen, List.length_map] at hll26
  go_wp2_with fail
  refine (laws_heldMoveS r0 _ _ (1) w25 hm19.lo (by first | assumption | (simp at *; omega)) (by omega) (by omega)).mono ?_
  rintro e w26 ⟨rfl, hb26⟩
  have hk26 := Kp.of_below0 hb26
  replace hO3_0 := ro_keep hO3_0 hk26 (by omega) (fun _ h => h.elim)
  replace hm15 := hm15.kp hk26 (fun _ _ h => h)
  replace hm16 := hm16.kp hk26 (fun _ _ h => h)
  replace hm17 := hm17.kp hk26 (fun _ _ h => h)
  replace hm19 := hm19.kp hk26 (fun _ _ h => h)
  replace hO24_0 := hO24_0.kp hk26 (fun _ _ h => h)
  replace hB := hB.trans (hk26.below hB.size (fun _ h => h.elim))
  have hs26 := hk26.size_le
  go_wp2
  go_ret
  exact ⟨rfl, hB⟩
end FnExactMovesFor
end Go.Proofs.YtmofbfeclecdoaaDoor

/- The walk of FnExactSweepLog. -/
import Derived.Test.YtmofbfeclecdoaaSSwp
import Derived.Test.YtmofbfeclecdoaaYLog
import Derived.Test.YtmofbfeclecdoaaOpen
import Derived.Test.YtmofbfeclecdoaaLaw
import Derived.StillTailTactics
namespace Go.Proofs.Ytmofbfeclecdoaa
open Go.ChangeShapes Go.WideShapes Go.ChangeAt Go.RowKit Go.Dt
set_option linter.unusedVariables false
set_option linter.unusedSimpArgs false

namespace FnExactSweepLog
set_option maxHeartbeats 1600000 in
set_option maxRecDepth 100000 in
theorem walk (W : World) (u0 : Array Value) (e0 : List D) (t0 : IsL [.int .i64, .sl 192 8 [.int .i64, .int .i64, .int .i64, .str, .int .i64, .bool, .int .i64, .sl 2 1 [.int .i64]]] e0) (x0 : RoL W (Lo W.heap.size) e0 u0.toList) (a1 : Int) (wf1 : (Lit.int .i64 a1).wf = true) (a2 : Int) (wf2 : (Lit.int .i64 a2).wf = true) (a3 : Int) (wf3 : (Lit.int .i64 a3).wf = true) (A4 : Option Addr) (n4 c4 : Nat) (e4 : List D) (t4 : IsL [.sl 2 1 [.int .i64]] e4) (x4 : RoL W (Lo W.heap.size) e4 [.slice A4 n4 c4]) :
    Calls Try.prog 6 #[.agg u0, .int .i64 a1, .int .i64 a2, .int .i64 a3, .slice A4 n4 c4] W fun e w' => e = .returned (.bool true) ∧ Below W.heap.size W w' := by
  obtain ⟨y0, rfl, w0⟩ := Log.is t0
  obtain ⟨us0, rfl⟩ : ∃ us : List Value, u0 = us.toArray := ⟨u0.toList, by simp⟩
  simp only [List.toList_toArray] at x0
  obtain ⟨Ap0_1, cp0_1, rfl, -⟩ := Log.cells x0
  obtain ⟨y4, rfl, x4, w4, lc4, mc4⟩ := open_ints t4 x4
  by_cases hz4 : y4.length ≤ 1048576
  rotate_left
  · have hB := Below.refl W.heap.size W
    go_enter Try.func6, Try.ntmps6
    have ha0 := Kp.alloc0 W (.cells #[.int .i64 y0.xNext, .slice Ap0_1 y0.xMessages.length cp0_1] 35)
    have hx0 : W.heap.size < (W.alloc (.cells #[.int .i64 y0.xNext, .slice Ap0_1 y0.xMessages.length cp0_1] 35)).heap.size := by simp
    replace hB := hB.trans (ha0.below hB.size (fun _ h => h.elim))
    have hs0 := ha0.size_le
    have bx0_0 := bx_new W #[.int .i64 y0.xNext, .slice Ap0_1 y0.xMessages.length cp0_1] 35 0 (.int .i64 y0.xNext) rfl
    have bx0_1 := bx_new W #[.int .i64 y0.xNext, .slice Ap0_1 y0.xMessages.length cp0_1] 35 1 (.slice Ap0_1 y0.xMessages.length cp0_1) rfl
    go_wp2
    go_ret
    exact ⟨rfl, hB⟩
  by_cases hs_0 : Log.z y0 ≤ 1048576
  rotate_left
  · have hB := Below.refl W.heap.size W
    go_enter Try.func6, Try.ntmps6
    have ha1 := Kp.alloc0 W (.cells #[.int .i64 y0.xNext, .slice Ap0_1 y0.xMessages.length cp0_1] 35)
    have hx1 : W.heap.size < (W.alloc (.cells #[.int .i64 y0.xNext, .slice Ap0_1 y0.xMessages.length cp0_1] 35)).heap.size := by simp
    replace hB := hB.trans (ha1.below hB.size (fun _ h => h.elim))
    have hs1 := ha1.size_le
    have bx0_0 := bx_new W #[.int .i64 y0.xNext, .slice Ap0_1 y0.xMessages.length cp0_1] 35 0 (.int .i64 y0.xNext) rfl
    have bx0_1 := bx_new W #[.int .i64 y0.xNext, .slice Ap0_1 y0.xMessages.length cp0_1] 35 1 (.slice Ap0_1 y0.xMessages.length cp0_1) rfl
    have HZ0 := laws_szLog y0 _ (1048576) (W.alloc (.cells #[.int .i64 y0.xNext, .slice Ap0_1 y0.xMessages.length cp0_1] 35)) (rol_to x0 hB) w0 (by omega) (by omega)
    rw [szr_no (by push_cast at *; omega)] at HZ0
    go_wp2_with fail
    refine (HZ0).mono ?_
    rintro e w0 ⟨rfl, hb0⟩
    have hk0 := Kp.of_below0 hb0
    replace bx0_0 := bx_keep bx0_0 hk0 (by omega) (fun h => h)
    replace bx0_1 := bx_keep bx0_1 hk0 (by omega) (fun h => h)
    replace hB := hB.trans (hk0.below hB.size (fun _ h => h.elim))
    have hs2 := hk0.size_le
    go_wp2
    go_ret
    exact ⟨rfl, hB⟩
  have hz0 : Log.z y0 ≤ 1048576 := by omega
  have HT_aL := fun (w : World) (hb : Below W.heap.size W w) => laws_toLog y0 _ w (rol_to x0 hb) hz0
  have HT_aPins := fun (w : World) (hb : Below W.heap.size W w) => laws_toInt64S y4 _ _ w (ro_to x4 hb) hz4
  have HS := SweepLog_lawS y0 a1 a2 a3 y4
  have HI := SweepLog_lawI y0 a1 a2 a3 y4
  have HN := SweepLog_lawN y0 a1 a2 a3 y4 hz0 hz4
  generalize SweepLog_f y0 a1 a2 a3 y4 = r at *
  obtain ⟨r0, r1⟩ := r
  simp only at *
  have hsn0 := HN
  have hB := Below.refl W.heap.size W
  go_enter Try.func6, Try.ntmps6
  have ha3 := Kp.alloc0 W (.cells #[.int .i64 y0.xNext, .slice Ap0_1 y0.xMessages.length cp0_1] 35)
  have hx3 : W.heap.size < (W.alloc (.cells #[.int .i64 y0.xNext, .slice Ap0_1 y0.xMessages.length cp0_1] 35)).heap.size := by simp
  replace hB := hB.trans (ha3.below hB.size (fun _ h => h.elim))
  have hs3 := ha3.size_le
  have bx0_0 := bx_new W #[.int .i64 y0.xNext, .slice Ap0_1 y0.xMessages.length cp0_1] 35 0 (.int .i64 y0.xNext) rfl
  have bx0_1 := bx_new W #[.int .i64 y0.xNext, .slice Ap0_1 y0.xMessages.length cp0_1] 35 1 (.slice Ap0_1 y0.xMessages.length cp0_1) rfl
  have HZ0 := laws_szLog y0 _ (1048576) (W.alloc (.cells #[.int .i64 y0.xNext, .slice Ap0_1 y0.xMessages.length cp0_1] 35)) (rol_to x0 hB) w0 (by omega) (by omega)
  rw [szr_yes (by push_cast at *; omega)] at HZ0
  go_wp2_with fail
  refine (HZ0).mono ?_
  rintro e w0 ⟨rfl, hb0⟩
  have hk0 := Kp.of_below0 hb0
  replace bx0_0 := bx_keep bx0_0 hk0 (by omega) (fun h => h)
  replace bx0_1 := bx_keep bx0_1 hk0 (by omega) (fun h => h)
  replace hB := hB.trans (hk0.below hB.size (fun _ h => h.elim))
  have hs4 := hk0.size_le
  go_wp2_with fail
  refine (HT_aL w0 hB).mono ?_
  rintro e w1 ⟨us1, F1, rfl, hO1, hb1, hlo1⟩
  have hk1 := Kp.of_below0 hb1
  replace bx0_0 := bx_keep bx0_0 hk1 (by omega) (fun h => h)
  replace bx0_1 := bx_keep bx0_1 hk1 (by omega) (fun h => h)
  replace hB := hB.trans (hk1.below hB.size (fun _ h => h.elim))
  have hs5 := hk1.size_le
  obtain ⟨Ao1_1, co1_1, rfl, -⟩ := Log.cells hO1.ro
  have hhi1 : ∀ b, F1 b → b < w1.heap.size := hO1.lt
  go_wp2_with fail
  refine (HT_aPins w1 hB).mono ?_
  rintro e w2 ⟨v2, F2, rfl, hO2, hb2, hlo2⟩
  have hk2 := Kp.of_below0 hb2
  replace bx0_0 := bx_keep bx0_0 hk2 (by omega) (fun h => h)
  replace bx0_1 := bx_keep bx0_1 hk2 (by omega) (fun h => h)
  replace hO1 := hO1.kp hk2 (fun _ _ h => h)
  replace hB := hB.trans (hk2.below hB.size (fun _ h => h.elim))
  have hs6 := hk2.size_le
  obtain ⟨A2, c2, rfl, l2, m2⟩ := hO2.shape
  simp only [List.length_map] at l2 hO2 ⊢
  have hhi2 : ∀ b, F2 b → b < w2.heap.size := hO2.lt
  go_wp2_with fail
  refine (HS _ _ _ w2 hO1.lo hO2.lo hz0 hz4).mono ?_
  rintro e w3 ⟨us3_0, rfl, hO3_0, hb3⟩
  have hk3 := Kp.of_below0 hb3
  replace bx0_0 := bx_keep bx0_0 hk3 (by omega) (fun h => h)
  replace bx0_1 := bx_keep bx0_1 hk3 (by omega) (fun h => h)
  replace hO1 := hO1.kp hk3 (fun _ _ h => h)
  replace hO2 := hO2.kp hk3 (fun _ _ h => h)
  replace hB := hB.trans (hk3.below hB.size (fun _ h => h.elim))
  have hs7 := hk3.size_le
  obtain ⟨Ar30_1, cr30_1, rfl, -⟩ := Log.cells hO3_0
  have ha8 := Kp.alloc0 w3 (.cells #[.int .i64 r0.xNext, .slice Ar30_1 r0.xMessages.length cr30_1] 41)
  have hx8 : w3.heap.size < (w3.alloc (.cells #[.int .i64 r0.xNext, .slice Ar30_1 r0.xMessages.length cr30_1] 41)).heap.size := by simp
  replace bx0_0 := bx_keep bx0_0 ha8 (by omega) (fun h => h)
  replace bx0_1 := bx_keep bx0_1 ha8 (by omega) (fun h => h)
  replace hO3_0 := rol_keep hO3_0 ha8 (by omega) (fun _ h => h.elim)
  replace hB := hB.trans (ha8.below hB.size (fun _ h => h.elim))
  have hs8 := ha8.size_le
  have bx1_0 := bx_new w3 #[.int .i64 r0.xNext, .slice Ar30_1 r0.xMessages.length cr30_1] 41 0 (.int .i64 r0.xNext) rfl
  have bx1_1 := bx_new w3 #[.int .i64 r0.xNext, .slice Ar30_1 r0.xMessages.length cr30_1] 41 1 (.slice Ar30_1 r0.xMessages.length cr30_1) rfl
  go_wp2_with fail
  refine (HT_aL (w3.alloc (.cells #[.int .i64 r0.xNext, .slice Ar30_1 r0.xMessages.length cr30_1] 41)) hB).mono ?_
  rintro e w4 ⟨us4, F4, rfl, hO4, hb4, hlo4⟩
  have hk4 := Kp.of_below0 hb4
  replace bx0_0 := bx_keep bx0_0 hk4 (by omega) (fun h => h)
  replace bx0_1 := bx_keep bx0_1 hk4 (by omega) (fun h => h)
  replace bx1_0 := bx_keep bx1_0 hk4 (by omega) (fun h => h)
  replace bx1_1 := bx_keep bx1_1 hk4 (by omega) (fun h => h)
  replace hO3_0 := rol_keep hO3_0 hk4 (by omega) (fun _ h => h.elim)
  replace hB := hB.trans (hk4.below hB.size (fun _ h => h.elim))
  have hs9 := hk4.size_le
  obtain ⟨Ao4_1, co4_1, rfl, -⟩ := Log.cells hO4.ro
  have hhi4 : ∀ b, F4 b → b < w4.heap.size := hO4.lt
  have ha10 := Kp.alloc0 w4 (.cells #[.int .i64 y0.xNext, .slice Ao4_1 y0.xMessages.length co4_1] 41)
  have hx10 : w4.heap.size < (w4.alloc (.cells #[.int .i64 y0.xNext, .slice Ao4_1 y0.xMessages.length co4_1] 41)).heap.size := by simp
  replace bx0_0 := bx_keep bx0_0 ha10 (by omega) (fun h => h)
  replace bx0_1 := bx_keep bx0_1 ha10 (by omega) (fun h => h)
  replace bx1_0 := bx_keep bx1_0 ha10 (by omega) (fun h => h)
  replace bx1_1 := bx_keep bx1_1 ha10 (by omega) (fun h => h)
  replace hO3_0 := rol_keep hO3_0 ha10 (by omega) (fun _ h => h.elim)
  replace hO4 := hO4.kp ha10 (fun _ _ h => h)
  replace hB := hB.trans (ha10.below hB.size (fun _ h => h.elim))
  have hs10 := ha10.size_le
  have bx2_0 := bx_new w4 #[.int .i64 y0.xNext, .slice Ao4_1 y0.xMessages.length co4_1] 41 0 (.int .i64 y0.xNext) rfl
  have bx2_1 := bx_new w4 #[.int .i64 y0.xNext, .slice Ao4_1 y0.xMessages.length co4_1] 41 1 (.slice Ao4_1 y0.xMessages.length co4_1) rfl
  go_wp2_with fail
  refine (HT_aPins (w4.alloc (.cells #[.int .i64 y0.xNext, .slice Ao4_1 y0.xMessages.length co4_1] 41)) hB).mono ?_
  rintro e w5 ⟨v5, F5, rfl, hO5, hb5, hlo5⟩
  have hk5 := Kp.of_below0 hb5
  replace bx0_0 := bx_keep bx0_0 hk5 (by omega) (fun h => h)
  replace bx0_1 := bx_keep bx0_1 hk5 (by omega) (fun h => h)
  replace bx1_0 := bx_keep bx1_0 hk5 (by omega) (fun h => h)
  replace bx1_1 := bx_keep bx1_1 hk5 (by omega) (fun h => h)
  replace bx2_0 := bx_keep bx2_0 hk5 (by omega) (fun h => h)
  replace bx2_1 := bx_keep bx2_1 hk5 (by omega) (fun h => h)
  replace hO3_0 := rol_keep hO3_0 hk5 (by omega) (fun _ h => h.elim)
  replace hO4 := hO4.kp hk5 (fun _ _ h => h)
  replace hB := hB.trans (hk5.below hB.size (fun _ h => h.elim))
  have hs11 := hk5.size_le
  obtain ⟨A5, c5, rfl, l5, m5⟩ := hO5.shape
  simp only [List.length_map] at l5 hO5 ⊢
  have hhi5 : ∀ b, F5 b → b < w5.heap.size := hO5.lt
  go_wp2_with fail
  refine (HI _ _ _ w5 hO4.lo hO5.lo hz0 hz4).mono ?_
  rintro e w6 ⟨us6_0, F6_0, rfl, hO6_0, hlo6_0, hb6⟩
  have hk6 := Kp.of_below0 hb6
  replace bx0_0 := bx_keep bx0_0 hk6 (by omega) (fun h => h)
  replace bx0_1 := bx_keep bx0_1 hk6 (by omega) (fun h => h)
  replace bx1_0 := bx_keep bx1_0 hk6 (by omega) (fun h => h)
  replace bx1_1 := bx_keep bx1_1 hk6 (by omega) (fun h => h)
  replace bx2_0 := bx_keep bx2_0 hk6 (by omega) (fun h => h)
  replace bx2_1 := bx_keep bx2_1 hk6 (by omega) (fun h => h)
  replace hO3_0 := rol_keep hO3_0 hk6 (by omega) (fun _ h => h.elim)
  replace hO4 := hO4.kp hk6 (fun _ _ h => h)
  replace hO5 := hO5.kp hk6 (fun _ _ h => h)
  replace hB := hB.trans (hk6.below hB.size (fun _ h => h.elim))
  have hs12 := hk6.size_le
  obtain ⟨Ar60_1, cr60_1, rfl, -⟩ := Log.cells hO6_0.ro
  have hhi6_0 : ∀ b, F6_0 b → b < w6.heap.size := hO6_0.lt
  have ha13 := Kp.alloc0 w6 (.cells #[.int .i64 r0.xNext, .slice Ar60_1 r0.xMessages.length cr60_1] 41)
  have hx13 : w6.heap.size < (w6.alloc (.cells #[.int .i64 r0.xNext, .slice Ar60_1 r0.xMessages.length cr60_1] 41)).heap.size := by simp
  replace bx0_0 := bx_keep bx0_0 ha13 (by omega) (fun h => h)
  replace bx0_1 := bx_keep bx0_1 ha13 (by omega) (fun h => h)
  replace bx1_0 := bx_keep bx1_0 ha13 (by omega) (fun h => h)
  replace bx1_1 := bx_keep bx1_1 ha13 (by omega) (fun h => h)
  replace bx2_0 := bx_keep bx2_0 ha13 (by omega) (fun h => h)
  replace bx2_1 := bx_keep bx2_1 ha13 (by omega) (fun h => h)
  replace hO3_0 := rol_keep hO3_0 ha13 (by omega) (fun _ h => h.elim)
  replace hO4 := hO4.kp ha13 (fun _ _ h => h)
  replace hO5 := hO5.kp ha13 (fun _ _ h => h)
  replace hO6_0 := hO6_0.kp ha13 (fun _ _ h => h)
  replace hB := hB.trans (ha13.below hB.size (fun _ h => h.elim))
  have hs13 := ha13.size_le
  have bx3_0 := bx_new w6 #[.int .i64 r0.xNext, .slice Ar60_1 r0.xMessages.length cr60_1] 41 0 (.int .i64 r0.xNext) rfl
  have bx3_1 := bx_new w6 #[.int .i64 r0.xNext, .slice Ar60_1 r0.xMessages.length cr60_1] 41 1 (.slice Ar60_1 r0.xMessages.length cr60_1) rfl
  have HE7 := laws_eqLog r0 r0 _ _ (w6.alloc (.cells #[.int .i64 r0.xNext, .slice Ar60_1 r0.xMessages.length cr60_1] 41)) hO6_0.lo (hO3_0.up (by omega))
  rw [decide_eq_true rfl] at HE7
  go_wp2_with fail
  refine (HE7).mono ?_
  rintro e w7 ⟨rfl, hb7⟩
  have hk7 := Kp.of_below0 hb7
  replace bx0_0 := bx_keep bx0_0 hk7 (by omega) (fun h => h)
  replace bx0_1 := bx_keep bx0_1 hk7 (by omega) (fun h => h)
  replace bx1_0 := bx_keep bx1_0 hk7 (by omega) (fun h => h)
  replace bx1_1 := bx_keep bx1_1 hk7 (by omega) (fun h => h)
  replace bx2_0 := bx_keep bx2_0 hk7 (by omega) (fun h => h)
  replace bx2_1 := bx_keep bx2_1 hk7 (by omega) (fun h => h)
  replace bx3_0 := bx_keep bx3_0 hk7 (by omega) (fun h => h)
  replace bx3_1 := bx_keep bx3_1 hk7 (by omega) (fun h => h)
  replace hO3_0 := rol_keep hO3_0 hk7 (by omega) (fun _ h => h.elim)
  replace hO4 := hO4.kp hk7 (fun _ _ h => h)
  replace hO5 := hO5.kp hk7 (fun _ _ h => h)
  replace hO6_0 := hO6_0.kp hk7 (fun _ _ h => h)
  replace hB := hB.trans (hk7.below hB.size (fun _ h => h.elim))
  have hs14 := hk7.size_le
  go_wp2
  go_region_held3 (fun w' => Below w7.heap.size w7 w' ∧ w'.cell? ⟨w4.heap.size, 0, none⟩ = some (.int .i64 y0.xNext) ∧ w'.cell? ⟨w4.heap.size, 1, none⟩ = some (.slice Ao4_1 y0.xMessages.length co4_1) ∧ w'.cell? ⟨W.heap.size, 0, none⟩ = some (.int .i64 y0.xNext) ∧ w'.cell? ⟨W.heap.size, 1, none⟩ = some (.slice Ap0_1 y0.xMessages.length cp0_1)) (first | exact ⟨below_drew1 _, bx2_0, bx2_1, bx0_0, bx0_1⟩ | exact ⟨hkB8, (hkB8.cell (p := ⟨w4.heap.size, 0, none⟩) (by show w4.heap.size < w7.heap.size; omega)).trans bx2_0, (hkB8.cell (p := ⟨w4.heap.size, 1, none⟩) (by show w4.heap.size < w7.heap.size; omega)).trans bx2_1, (hkB8.cell (p := ⟨W.heap.size, 0, none⟩) (by show W.heap.size < w7.heap.size; omega)).trans bx0_0, (hkB8.cell (p := ⟨W.heap.size, 1, none⟩) (by show W.heap.size < w7.heap.size; omega)).trans bx0_1⟩ | exact ⟨hkA8, (hkA8.cell (p := ⟨w4.heap.size, 0, none⟩) (by show w4.heap.size < w7.heap.size; omega)).trans bx2_0, (hkA8.cell (p := ⟨w4.heap.size, 1, none⟩) (by show w4.heap.size < w7.heap.size; omega)).trans bx2_1, (hkA8.cell (p := ⟨W.heap.size, 0, none⟩) (by show W.heap.size < w7.heap.size; omega)).trans bx0_0, (hkA8.cell (p := ⟨W.heap.size, 1, none⟩) (by show W.heap.size < w7.heap.size; omega)).trans bx0_1⟩) (first | (go_at_call 25; (with_reducible refine (HT_aL _ hB.drew).mono ?_); rintro e w8 ⟨us8, F8, rfl, hO8, hb8, hlo8⟩; obtain ⟨Ao8_1, co8_1, rfl, -⟩ := Log.cells hO8.ro; have hkA8 := (below_drew1 w7).trans hb8) | (go_at_call 28; (with_reducible refine (laws_eqLog y0 y0 _ _ _ (hO4.keep hkA8).lo hO8.lo).mono ?_); rintro e w9 ⟨rfl, hb9⟩; have hkB8 := hkA8.trans (hb9.mono hkA8.size)))
  have hk8 := Kp.of_below0 hkB8
  replace bx0_0 := bx_keep bx0_0 hk8 (by omega) (fun h => h)
  replace bx0_1 := bx_keep bx0_1 hk8 (by omega) (fun h => h)
  replace bx1_0 := bx_keep bx1_0 hk8 (by omega) (fun h => h)
  replace bx1_1 := bx_keep bx1_1 hk8 (by omega) (fun h => h)
  replace bx2_0 := bx_keep bx2_0 hk8 (by omega) (fun h => h)
  replace bx2_1 := bx_keep bx2_1 hk8 (by omega) (fun h => h)
  replace bx3_0 := bx_keep bx3_0 hk8 (by omega) (fun h => h)
  replace bx3_1 := bx_keep bx3_1 hk8 (by omega) (fun h => h)
  replace hO3_0 := rol_keep hO3_0 hk8 (by omega) (fun _ h => h.elim)
  replace hO4 := hO4.kp hk8 (fun _ _ h => h)
  replace hO5 := hO5.kp hk8 (fun _ _ h => h)
  replace hO6_0 := hO6_0.kp hk8 (fun _ _ h => h)
  replace hB := hB.trans (hk8.below hB.size (fun _ h => h.elim))
  have hs15 := hk8.size_le
  go_wp2_with fail
  refine (HT_aPins w9 hB).mono ?_
  rintro e w10 ⟨v10, F10, rfl, hO10, hb10, hlo10⟩
  have hk10 := Kp.of_below0 hb10
  replace bx0_0 := bx_keep bx0_0 hk10 (by omega) (fun h => h)
  replace bx0_1 := bx_keep bx0_1 hk10 (by omega) (fun h => h)
  replace bx1_0 := bx_keep bx1_0 hk10 (by omega) (fun h => h)
  replace bx1_1 := bx_keep bx1_1 hk10 (by omega) (fun h => h)
  replace bx2_0 := bx_keep bx2_0 hk10 (by omega) (fun h => h)
  replace bx2_1 := bx_keep bx2_1 hk10 (by omega) (fun h => h)
  replace bx3_0 := bx_keep bx3_0 hk10 (by omega) (fun h => h)
  replace bx3_1 := bx_keep bx3_1 hk10 (by omega) (fun h => h)
  replace hO3_0 := rol_keep hO3_0 hk10 (by omega) (fun _ h => h.elim)
  replace hO4 := hO4.kp hk10 (fun _ _ h => h)
  replace hO5 := hO5.kp hk10 (fun _ _ h => h)
  replace hO6_0 := hO6_0.kp hk10 (fun _ _ h => h)
  replace hB := hB.trans (hk10.below hB.size (fun _ h => h.elim))
  have hs16 := hk10.size_le
  obtain ⟨A10, c10, rfl, l10, m10⟩ := hO10.shape
  simp only [List.length_map] at l10 hO10 ⊢
  have hhi10 : ∀ b, F10 b → b < w10.heap.size := hO10.lt
  have HE11 := laws_eqInt64S y4 y4 _ _ _ _ w10 hO5.lo hO10.lo (by first | assumption | exact (hO5.lo).sl_max) (by first | assumption | exact (hO10.lo).sl_max) (by first | assumption | exact (hO5.lo).sl_cap) (by first | assumption | exact (hO10.lo).sl_cap)
  rw [decide_eq_true rfl] at HE11
  go_wp2_with fail
  refine (HE11).mono ?_
  rintro e w11 ⟨rfl, hb11⟩
  have hk11 := Kp.of_below0 hb11
  replace bx0_0 := bx_keep bx0_0 hk11 (by omega) (fun h => h)
  replace bx0_1 := bx_keep bx0_1 hk11 (by omega) (fun h => h)
  replace bx1_0 := bx_keep bx1_0 hk11 (by omega) (fun h => h)
  replace bx1_1 := bx_keep bx1_1 hk11 (by omega) (fun h => h)
  replace bx2_0 := bx_keep bx2_0 hk11 (by omega) (fun h => h)
  replace bx2_1 := bx_keep bx2_1 hk11 (by omega) (fun h => h)
  replace bx3_0 := bx_keep bx3_0 hk11 (by omega) (fun h => h)
  replace bx3_1 := bx_keep bx3_1 hk11 (by omega) (fun h => h)
  replace hO3_0 := rol_keep hO3_0 hk11 (by omega) (fun _ h => h.elim)
  replace hO4 := hO4.kp hk11 (fun _ _ h => h)
  replace hO5 := hO5.kp hk11 (fun _ _ h => h)
  replace hO6_0 := hO6_0.kp hk11 (fun _ _ h => h)
  replace hO10 := hO10.kp hk11 (fun _ _ h => h)
  replace hB := hB.trans (hk11.below hB.size (fun _ h => h.elim))
  have hs17 := hk11.size_le
  have hsz12 := Log.sn_z y0
  go_wp2_with fail
  refine (laws_markLog y0 _ F4 (1) w11 hO4 (by omega) (by omega)).mono ?_
  rintro e w12 ⟨rfl, hk12, G12, hm12, hG12⟩
  replace bx0_0 := bx_keep bx0_0 hk12 (by omega) (fun h => by have a1 := hlo4 _ h; have a2 := hhi4 _ h; omega)
  replace bx0_1 := bx_keep bx0_1 hk12 (by omega) (fun h => by have a1 := hlo4 _ h; have a2 := hhi4 _ h; omega)
  replace bx1_0 := bx_keep bx1_0 hk12 (by omega) (fun h => by have a1 := hlo4 _ h; have a2 := hhi4 _ h; omega)
  replace bx1_1 := bx_keep bx1_1 hk12 (by omega) (fun h => by have a1 := hlo4 _ h; have a2 := hhi4 _ h; omega)
  replace bx2_0 := bx_keep bx2_0 hk12 (by omega) (fun h => by have a1 := hlo4 _ h; have a2 := hhi4 _ h; omega)
  replace bx2_1 := bx_keep bx2_1 hk12 (by omega) (fun h => by have a1 := hlo4 _ h; have a2 := hhi4 _ h; omega)
  replace bx3_0 := bx_keep bx3_0 hk12 (by omega) (fun h => by have a1 := hlo4 _ h; have a2 := hhi4 _ h; omega)
  replace bx3_1 := bx_keep bx3_1 hk12 (by omega) (fun h => by have a1 := hlo4 _ h; have a2 := hhi4 _ h; omega)
  replace hO3_0 := rol_keep hO3_0 hk12 (by omega) (fun b hx => by have a3 := hlo4 b hx; omega)
  replace hO5 := hO5.kp hk12 (fun b hy hx => by have a1 := hlo5 b hy; have a2 := hhi5 b hy; have a3 := hlo4 b hx; have a4 := hhi4 b hx; omega)
  replace hO6_0 := hO6_0.kp hk12 (fun b hy hx => by have a1 := hlo6_0 b hy; have a2 := hhi6_0 b hy; have a3 := hlo4 b hx; have a4 := hhi4 b hx; omega)
  replace hB := hB.trans (hk12.below hB.size (fun b hx => by have a3 := hlo4 b hx; omega))
  have hs18 := hk12.size_le
  have hlo12m : ∀ b, G12 b → _ := fun b h => hlo4 b (hG12 b h)
  have hhi12m : ∀ b, G12 b → _ := fun b h => hhi4 b (hG12 b h)
  go_wp2_with fail
  refine (laws_markInt64S y4 _ F5 (1 + ((Log.sn y0 : Nat) : Int)) w12 hO5 (by omega) (by omega)).mono ?_
  rintro e w13 ⟨rfl, hk13, G13, hm13, hG13⟩
  replace bx0_0 := bx_keep bx0_0 hk13 (by omega) (fun h => by have a1 := hlo5 _ h; have a2 := hhi5 _ h; omega)
  replace bx0_1 := bx_keep bx0_1 hk13 (by omega) (fun h => by have a1 := hlo5 _ h; have a2 := hhi5 _ h; omega)
  replace bx1_0 := bx_keep bx1_0 hk13 (by omega) (fun h => by have a1 := hlo5 _ h; have a2 := hhi5 _ h; omega)
  replace bx1_1 := bx_keep bx1_1 hk13 (by omega) (fun h => by have a1 := hlo5 _ h; have a2 := hhi5 _ h; omega)
  replace bx2_0 := bx_keep bx2_0 hk13 (by omega) (fun h => by have a1 := hlo5 _ h; have a2 := hhi5 _ h; omega)
  replace bx2_1 := bx_keep bx2_1 hk13 (by omega) (fun h => by have a1 := hlo5 _ h; have a2 := hhi5 _ h; omega)
  replace bx3_0 := bx_keep bx3_0 hk13 (by omega) (fun h => by have a1 := hlo5 _ h; have a2 := hhi5 _ h; omega)
  replace bx3_1 := bx_keep bx3_1 hk13 (by omega) (fun h => by have a1 := hlo5 _ h; have a2 := hhi5 _ h; omega)
  replace hO3_0 := rol_keep hO3_0 hk13 (by omega) (fun b hx => by have a3 := hlo5 b hx; omega)
  replace hm12 := hm12.kp hk13 (fun b hy hx => by have a1 := hlo12m b hy; have a2 := hhi12m b hy; have a3 := hlo5 b hx; have a4 := hhi5 b hx; omega)
  replace hO6_0 := hO6_0.kp hk13 (fun b hy hx => by have a1 := hlo6_0 b hy; have a2 := hhi6_0 b hy; have a3 := hlo5 b hx; have a4 := hhi5 b hx; omega)
  replace hB := hB.trans (hk13.below hB.size (fun b hx => by have a3 := hlo5 b hx; omega))
  have hs19 := hk13.size_le
  have hlo13m : ∀ b, G13 b → _ := fun b h => hlo5 b (hG13 b h)
  have hhi13m : ∀ b, G13 b → _ := fun b h => hhi5 b (hG13 b h)
  have HE14 := laws_eqLog r0 r0 _ _ w13 hO6_0.lo (hO3_0.up (by omega))
  rw [decide_eq_true rfl] at HE14
  go_wp2_with fail
  refine (HE14).mono ?_
  rintro e w14 ⟨rfl, hb14⟩
  have hk14 := Kp.of_below0 hb14
  replace bx0_0 := bx_keep bx0_0 hk14 (by omega) (fun h => h)
  replace bx0_1 := bx_keep bx0_1 hk14 (by omega) (fun h => h)
  replace bx1_0 := bx_keep bx1_0 hk14 (by omega) (fun h => h)
  replace bx1_1 := bx_keep bx1_1 hk14 (by omega) (fun h => h)
  replace bx2_0 := bx_keep bx2_0 hk14 (by omega) (fun h => h)
  replace bx2_1 := bx_keep bx2_1 hk14 (by omega) (fun h => h)
  replace bx3_0 := bx_keep bx3_0 hk14 (by omega) (fun h => h)
  replace bx3_1 := bx_keep bx3_1 hk14 (by omega) (fun h => h)
  replace hO3_0 := rol_keep hO3_0 hk14 (by omega) (fun _ h => h.elim)
  replace hm12 := hm12.kp hk14 (fun _ _ h => h)
  replace hm13 := hm13.kp hk14 (fun _ _ h => h)
  replace hO6_0 := hO6_0.kp hk14 (fun _ _ h => h)
  replace hB := hB.trans (hk14.below hB.size (fun _ h => h.elim))
  have hs20 := hk14.size_le
  go_wp2_with fail
  refine (laws_markLog r0 _ F6_0 (1) w14 hO6_0 (by omega) (by omega)).mono ?_
  rintro e w15 ⟨rfl, hk15, G15, hm15, hG15⟩
  replace bx0_0 := bx_keep bx0_0 hk15 (by omega) (fun h => by have a1 := hlo6_0 _ h; have a2 := hhi6_0 _ h; omega)
  replace bx0_1 := bx_keep bx0_1 hk15 (by omega) (fun h => by have a1 := hlo6_0 _ h; have a2 := hhi6_0 _ h; omega)
  replace bx1_0 := bx_keep bx1_0 hk15 (by omega) (fun h => by have a1 := hlo6_0 _ h; have a2 := hhi6_0 _ h; omega)
  replace bx1_1 := bx_keep bx1_1 hk15 (by omega) (fun h => by have a1 := hlo6_0 _ h; have a2 := hhi6_0 _ h; omega)
  replace bx2_0 := bx_keep bx2_0 hk15 (by omega) (fun h => by have a1 := hlo6_0 _ h; have a2 := hhi6_0 _ h; omega)
  replace bx2_1 := bx_keep bx2_1 hk15 (by omega) (fun h => by have a1 := hlo6_0 _ h; have a2 := hhi6_0 _ h; omega)
  replace bx3_0 := bx_keep bx3_0 hk15 (by omega) (fun h => by have a1 := hlo6_0 _ h; have a2 := hhi6_0 _ h; omega)
  replace bx3_1 := bx_keep bx3_1 hk15 (by omega) (fun h => by have a1 := hlo6_0 _ h; have a2 := hhi6_0 _ h; omega)
  replace hO3_0 := rol_keep hO3_0 hk15 (by omega) (fun b hx => by have a3 := hlo6_0 b hx; omega)
  replace hm12 := hm12.kp hk15 (fun b hy hx => by have a1 := hlo12m b hy; have a2 := hhi12m b hy; have a3 := hlo6_0 b hx; have a4 := hhi6_0 b hx; omega)
  replace hm13 := hm13.kp hk15 (fun b hy hx => by have a1 := hlo13m b hy; have a2 := hhi13m b hy; have a3 := hlo6_0 b hx; have a4 := hhi6_0 b hx; omega)
  replace hB := hB.trans (hk15.below hB.size (fun b hx => by have a3 := hlo6_0 b hx; omega))
  have hs21 := hk15.size_le
  have hlo15m : ∀ b, G15 b → _ := fun b h => hlo6_0 b (hG15 b h)
  have hhi15m : ∀ b, G15 b → _ := fun b h => hhi6_0 b (hG15 b h)
  go_wp2_with fail
  refine (laws_heldLog r0 _ (1) w15 hm15.lo (by omega) (by omega)).mono ?_
  rintro e w16 ⟨rfl, hb16⟩
  have hk16 := Kp.of_below0 hb16
  replace bx0_0 := bx_keep bx0_0 hk16 (by omega) (fun h => h)
  replace bx0_1 := bx_keep bx0_1 hk16 (by omega) (fun h => h)
  replace bx1_0 := bx_keep bx1_0 hk16 (by omega) (fun h => h)
  replace bx1_1 := bx_keep bx1_1 hk16 (by omega) (fun h => h)
  replace bx2_0 := bx_keep bx2_0 hk16 (by omega) (fun h => h)
  replace bx2_1 := bx_keep bx2_1 hk16 (by omega) (fun h => h)
  replace bx3_0 := bx_keep bx3_0 hk16 (by omega) (fun h => h)
  replace bx3_1 := bx_keep bx3_1 hk16 (by omega) (fun h => h)
  replace hO3_0 := rol_keep hO3_0 hk16 (by omega) (fun _ h => h.elim)
  replace hm12 := hm12.kp hk16 (fun _ _ h => h)
  replace hm13 := hm13.kp hk16 (fun _ _ h => h)
  replace hm15 := hm15.kp hk16 (fun _ _ h => h)
  replace hB := hB.trans (hk16.below hB.size (fun _ h => h.elim))
  have hs22 := hk16.size_le
  go_wp2_with fail
  refine (HT_aL w16 hB).mono ?_
  rintro e w17 ⟨us17, F17, rfl, hO17, hb17, hlo17⟩
  have hk17 := Kp.of_below0 hb17
  replace bx0_0 := bx_keep bx0_0 hk17 (by omega) (fun h => h)
  replace bx0_1 := bx_keep bx0_1 hk17 (by omega) (fun h => h)
  replace bx1_0 := bx_keep bx1_0 hk17 (by omega) (fun h => h)
  replace bx1_1 := bx_keep bx1_1 hk17 (by omega) (fun h => h)
  replace bx2_0 := bx_keep bx2_0 hk17 (by omega) (fun h => h)
  replace bx2_1 := bx_keep bx2_1 hk17 (by omega) (fun h => h)
  replace bx3_0 := bx_keep bx3_0 hk17 (by omega) (fun h => h)
  replace bx3_1 := bx_keep bx3_1 hk17 (by omega) (fun h => h)
  replace hO3_0 := rol_keep hO3_0 hk17 (by omega) (fun _ h => h.elim)
  replace hm12 := hm12.kp hk17 (fun _ _ h => h)
  replace hm13 := hm13.kp hk17 (fun _ _ h => h)
  replace hm15 := hm15.kp hk17 (fun _ _ h => h)
  replace hB := hB.trans (hk17.below hB.size (fun _ h => h.elim))
  have hs23 := hk17.size_le
  obtain ⟨Ao17_1, co17_1, rfl, -⟩ := Log.cells hO17.ro
  have hhi17 : ∀ b, F17 b → b < w17.heap.size := hO17.lt
  go_wp2_with fail
  refine (HT_aPins w17 hB).mono ?_
  rintro e w18 ⟨v18, F18, rfl, hO18, hb18, hlo18⟩
  have hk18 := Kp.of_below0 hb18
  replace bx0_0 := bx_keep bx0_0 hk18 (by omega) (fun h => h)
  replace bx0_1 := bx_keep bx0_1 hk18 (by omega) (fun h => h)
  replace bx1_0 := bx_keep bx1_0 hk18 (by omega) (fun h => h)
  replace bx1_1 := bx_keep bx1_1 hk18 (by omega) (fun h => h)
  replace bx2_0 := bx_keep bx2_0 hk18 (by omega) (fun h => h)
  replace bx2_1 := bx_keep bx2_1 hk18 (by omega) (fun h => h)
  replace bx3_0 := bx_keep bx3_0 hk18 (by omega) (fun h => h)
  replace bx3_1 := bx_keep bx3_1 hk18 (by omega) (fun h => h)
  replace hO3_0 := rol_keep hO3_0 hk18 (by omega) (fun _ h => h.elim)
  replace hm12 := hm12.kp hk18 (fun _ _ h => h)
  replace hm13 := hm13.kp hk18 (fun _ _ h => h)
  replace hm15 := hm15.kp hk18 (fun _ _ h => h)
  replace hO17 := hO17.kp hk18 (fun _ _ h => h)
  replace hB := hB.trans (hk18.below hB.size (fun _ h => h.elim))
  have hs24 := hk18.size_le
  obtain ⟨A18, c18, rfl, l18, m18⟩ := hO18.shape
  simp only [List.length_map] at l18 hO18 ⊢
  have hhi18 : ∀ b, F18 b → b < w18.heap.size := hO18.lt
  go_wp2_with fail
  refine (HI _ _ _ w18 hO17.lo hO18.lo hz0 hz4).mono ?_
  rintro e w19 ⟨us19_0, F19_0, rfl, hO19_0, hlo19_0, hb19⟩
  have hk19 := Kp.of_below0 hb19
  replace bx0_0 := bx_keep bx0_0 hk19 (by omega) (fun h => h)
  replace bx0_1 := bx_keep bx0_1 hk19 (by omega) (fun h => h)
  replace bx1_0 := bx_keep bx1_0 hk19 (by omega) (fun h => h)
  replace bx1_1 := bx_keep bx1_1 hk19 (by omega) (fun h => h)
  replace bx2_0 := bx_keep bx2_0 hk19 (by omega) (fun h => h)
  replace bx2_1 := bx_keep bx2_1 hk19 (by omega) (fun h => h)
  replace bx3_0 := bx_keep bx3_0 hk19 (by omega) (fun h => h)
  replace bx3_1 := bx_keep bx3_1 hk19 (by omega) (fun h => h)
  replace hO3_0 := rol_keep hO3_0 hk19 (by omega) (fun _ h => h.elim)
  replace hm12 := hm12.kp hk19 (fun _ _ h => h)
  replace hm13 := hm13.kp hk19 (fun _ _ h => h)
  replace hm15 := hm15.kp hk19 (fun _ _ h => h)
  replace hO17 := hO17.kp hk19 (fun _ _ h => h)
  replace hO18 := hO18.kp hk19 (fun _ _ h => h)
  replace hB := hB.trans (hk19.below hB.size (fun _ h => h.elim))
  have hs25 := hk19.size_le
  obtain ⟨Ar190_1, cr190_1, rfl, -⟩ := Log.cells hO19_0.ro
  have hhi19_0 : ∀ b, F19_0 b → b < w19.heap.size := hO19_0.lt
  have ha26 := Kp.alloc0 w19 (.cells #[.int .i64 r0.xNext, .slice Ar190_1 r0.xMessages.length cr190_1] 41)
  have hx26 : w19.heap.size < (w19.alloc (.cells #[.int .i64 r0.xNext, .slice Ar190_1 r0.xMessages.length cr190_1] 41)).heap.size := by simp
  replace bx0_0 := bx_keep bx0_0 ha26 (by omega) (fun h => h)
  replace bx0_1 := bx_keep bx0_1 ha26 (by omega) (fun h => h)
  replace bx1_0 := bx_keep bx1_0 ha26 (by omega) (fun h => h)
  replace bx1_1 := bx_keep bx1_1 ha26 (by omega) (fun h => h)
  replace bx2_0 := bx_keep bx2_0 ha26 (by omega) (fun h => h)
  replace bx2_1 := bx_keep bx2_1 ha26 (by omega) (fun h => h)
  replace bx3_0 := bx_keep bx3_0 ha26 (by omega) (fun h => h)
  replace bx3_1 := bx_keep bx3_1 ha26 (by omega) (fun h => h)
  replace hO3_0 := rol_keep hO3_0 ha26 (by omega) (fun _ h => h.elim)
  replace hm12 := hm12.kp ha26 (fun _ _ h => h)
  replace hm13 := hm13.kp ha26 (fun _ _ h => h)
  replace hm15 := hm15.kp ha26 (fun _ _ h => h)
  replace hO19_0 := hO19_0.kp ha26 (fun _ _ h => h)
  replace hB := hB.trans (ha26.below hB.size (fun _ h => h.elim))
  have hs26 := ha26.size_le
  have bx4_0 := bx_new w19 #[.int .i64 r0.xNext, .slice Ar190_1 r0.xMessages.length cr190_1] 41 0 (.int .i64 r0.xNext) rfl
  have bx4_1 := bx_new w19 #[.int .i64 r0.xNext, .slice Ar190_1 r0.xMessages.length cr190_1] 41 1 (.slice Ar190_1 r0.xMessages.length cr190_1) rfl
  have HE20 := laws_eqLog r0 r0 _ _ (w19.alloc (.cells #[.int .i64 r0.xNext, .slice Ar190_1 r0.xMessages.length cr190_1] 41)) hO19_0.lo (hO3_0.up (by omega))
  rw [decide_eq_true rfl] at HE20
  go_wp2_with fail
  refine (HE20).mono ?_
  rintro e w20 ⟨rfl, hb20⟩
  have hk20 := Kp.of_below0 hb20
  replace bx0_0 := bx_keep bx0_0 hk20 (by omega) (fun h => h)
  replace bx0_1 := bx_keep bx0_1 hk20 (by omega) (fun h => h)
  replace bx1_0 := bx_keep bx1_0 hk20 (by omega) (fun h => h)
  replace bx1_1 := bx_keep bx1_1 hk20 (by omega) (fun h => h)
  replace bx2_0 := bx_keep bx2_0 hk20 (by omega) (fun h => h)
  replace bx2_1 := bx_keep bx2_1 hk20 (by omega) (fun h => h)
  replace bx3_0 := bx_keep bx3_0 hk20 (by omega) (fun h => h)
  replace bx3_1 := bx_keep bx3_1 hk20 (by omega) (fun h => h)
  replace bx4_0 := bx_keep bx4_0 hk20 (by omega) (fun h => h)
  replace bx4_1 := bx_keep bx4_1 hk20 (by omega) (fun h => h)
  replace hO3_0 := rol_keep hO3_0 hk20 (by omega) (fun _ h => h.elim)
  replace hm12 := hm12.kp hk20 (fun _ _ h => h)
  replace hm13 := hm13.kp hk20 (fun _ _ h => h)
  replace hm15 := hm15.kp hk20 (fun _ _ h => h)
  replace hO19_0 := hO19_0.kp hk20 (fun _ _ h => h)
  replace hB := hB.trans (hk20.below hB.size (fun _ h => h.elim))
  have hs27 := hk20.size_le
  go_wp2_with fail
  refine (laws_heldLog r0 _ (1) w20 hm15.lo (by omega) (by omega)).mono ?_
  rintro e w21 ⟨rfl, hb21⟩
  have hk21 := Kp.of_below0 hb21
  replace bx0_0 := bx_keep bx0_0 hk21 (by omega) (fun h => h)
  replace bx0_1 := bx_keep bx0_1 hk21 (by omega) (fun h => h)
  replace bx1_0 := bx_keep bx1_0 hk21 (by omega) (fun h => h)
  replace bx1_1 := bx_keep bx1_1 hk21 (by omega) (fun h => h)
  replace bx2_0 := bx_keep bx2_0 hk21 (by omega) (fun h => h)
  replace bx2_1 := bx_keep bx2_1 hk21 (by omega) (fun h => h)
  replace bx3_0 := bx_keep bx3_0 hk21 (by omega) (fun h => h)
  replace bx3_1 := bx_keep bx3_1 hk21 (by omega) (fun h => h)
  replace bx4_0 := bx_keep bx4_0 hk21 (by omega) (fun h => h)
  replace bx4_1 := bx_keep bx4_1 hk21 (by omega) (fun h => h)
  replace hO3_0 := rol_keep hO3_0 hk21 (by omega) (fun _ h => h.elim)
  replace hm12 := hm12.kp hk21 (fun _ _ h => h)
  replace hm13 := hm13.kp hk21 (fun _ _ h => h)
  replace hm15 := hm15.kp hk21 (fun _ _ h => h)
  replace hO19_0 := hO19_0.kp hk21 (fun _ _ h => h)
  replace hB := hB.trans (hk21.below hB.size (fun _ h => h.elim))
  have hs28 := hk21.size_le
  go_wp2
  go_ret
  exact ⟨rfl, hB⟩
end FnExactSweepLog
end Go.Proofs.Ytmofbfeclecdoaa

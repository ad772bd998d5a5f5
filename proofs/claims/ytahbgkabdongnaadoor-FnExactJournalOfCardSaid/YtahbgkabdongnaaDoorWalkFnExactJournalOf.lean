/- The walk of FnExactJournalOf. -/
import Derived.Test.YtahbgkabdongnaaDoorJo
import Derived.Test.YtahbgkabdongnaaDoorStrs
import Derived.Test.YtahbgkabdongnaaDoorLaw
import Derived.StillTailTactics
namespace Go.Proofs.YtahbgkabdongnaaDoor
open Go.ChangeShapes Go.WideShapes Go.ChangeAt Go.RowKit Go.Dt
set_option linter.unusedVariables false
set_option linter.unusedSimpArgs false

namespace FnExactJournalOf
set_option maxHeartbeats 1600000 in
set_option maxRecDepth 100000 in
theorem walk (W : World) (ht : Pow10 W) (A0 : Option Addr) (n0 c0 : Nat) (e0 : List D) (t0 : IsL [.sl 9 1 [.str]] e0) (x0 : RoL W (Lo W.heap.size) e0 [.slice A0 n0 c0]) :
    Calls Tryd.prog 3 #[.slice A0 n0 c0] W fun e w' => e = .returned (.bool true) ∧ Below W.heap.size W w' := by
  obtain ⟨y0, rfl, x0, w0, lc0, mc0⟩ := open_strs t0 x0
  by_cases hs_0 : strz y0 ≤ 1048576
  rotate_left
  · have hB := Below.refl W.heap.size W
    go_enter Tryd.func3, Tryd.ntmps3
    have HZ0 := laws_szStringS y0 _ _ (1048576) W (ro_to x0 hB) w0 lc0 mc0 (by omega) (by omega)
    rw [szr_no (by push_cast at *; omega)] at HZ0
    go_wp2_with fail
    refine (HZ0).mono ?_
    rintro e w0 ⟨rfl, hb0⟩
    have hk0 := Kp.of_below0 hb0
    replace hB := hB.trans (hk0.below hB.size (fun _ h => h.elim))
    have hs0 := hk0.size_le
    go_wp2
    go_ret
    exact ⟨rfl, hB⟩
  have hz0 : strz y0 ≤ 1048576 := by omega
  have HT_aLines := fun (w : World) (hb : Below W.heap.size W w) => laws_toStringS y0 _ _ w (ro_to x0 hb) (by have h := hz0; unfold strz at h; omega)
  have HS := JournalOf_lawS y0
  have HI := JournalOf_lawI y0
  generalize JournalOf_f y0 = r at *
  obtain ⟨r0, r1⟩ := r
  simp only at *
  have hB := Below.refl W.heap.size W
  go_enter Tryd.func3, Tryd.ntmps3
  have HZ0 := laws_szStringS y0 _ _ (1048576) W (ro_to x0 hB) w0 lc0 mc0 (by omega) (by omega)
  rw [szr_yes (by push_cast at *; omega)] at HZ0
  go_wp2_with fail
  refine (HZ0).mono ?_
  rintro e w0 ⟨rfl, hb0⟩
  have hk0 := Kp.of_below0 hb0
  replace hB := hB.trans (hk0.below hB.size (fun _ h => h.elim))
  have hs1 := hk0.size_le
  go_wp2_with fail
  refine (HT_aLines w0 hB).mono ?_
  rintro e w1 ⟨v1, F1, rfl, hO1, hb1, hlo1⟩
  have hk1 := Kp.of_below0 hb1
  replace hB := hB.trans (hk1.below hB.size (fun _ h => h.elim))
  have hs2 := hk1.size_le
  obtain ⟨A1, c1, rfl, l1, m1⟩ := hO1.shape
  simp only [List.length_map] at l1 hO1 ⊢
  have hhi1 : ∀ b, F1 b → b < w1.heap.size := hO1.lt
  go_wp2_with fail
  refine (HS _ _ w1 hO1.lo hz0).mono ?_
  rintro e w2 ⟨rfl, hb2⟩
  have hk2 := Kp.of_below0 hb2
  replace hO1 := hO1.kp hk2 (fun _ _ h => h)
  replace hB := hB.trans (hk2.below hB.size (fun _ h => h.elim))
  have hs3 := hk2.size_le
  go_wp2_with fail
  refine (HT_aLines w2 hB).mono ?_
  rintro e w3 ⟨v3, F3, rfl, hO3, hb3, hlo3⟩
  have hk3 := Kp.of_below0 hb3
  replace hB := hB.trans (hk3.below hB.size (fun _ h => h.elim))
  have hs4 := hk3.size_le
  obtain ⟨A3, c3, rfl, l3, m3⟩ := hO3.shape
  simp only [List.length_map] at l3 hO3 ⊢
  have hhi3 : ∀ b, F3 b → b < w3.heap.size := hO3.lt
  go_wp2_with fail
  refine (HI _ _ w3 (ht.on hB) hO3.lo hz0).mono ?_
  rintro e w4 ⟨rfl, hb4⟩
  have hk4 := Kp.of_below0 hb4
  replace hO3 := hO3.kp hk4 (fun _ _ h => h)
  replace hB := hB.trans (hk4.below hB.size (fun _ h => h.elim))
  have hs5 := hk4.size_le
  go_wp2_with fail
  refine (HT_aLines w4 hB).mono ?_
  rintro e w5 ⟨v5, F5, rfl, hO5, hb5, hlo5⟩
  have hk5 := Kp.of_below0 hb5
  replace hO3 := hO3.kp hk5 (fun _ _ h => h)
  replace hB := hB.trans (hk5.below hB.size (fun _ h => h.elim))
  have hs6 := hk5.size_le
  obtain ⟨A5, c5, rfl, l5, m5⟩ := hO5.shape
  simp only [List.length_map] at l5 hO5 ⊢
  have hhi5 : ∀ b, F5 b → b < w5.heap.size := hO5.lt
  have HE6 := laws_eqStringS y0 y0 _ _ _ _ w5 hO3.lo hO5.lo (by first | assumption | exact (hO3.lo).sl_max) (by first | assumption | exact (hO5.lo).sl_max) (by first | assumption | exact (hO3.lo).sl_cap) (by first | assumption | exact (hO5.lo).sl_cap)
  rw [decide_eq_true rfl] at HE6
  go_wp2_with fail
  refine (HE6).mono ?_
  rintro e w6 ⟨rfl, hb6⟩
  have hk6 := Kp.of_below0 hb6
  replace hO3 := hO3.kp hk6 (fun _ _ h => h)
  replace hO5 := hO5.kp hk6 (fun _ _ h => h)
  replace hB := hB.trans (hk6.below hB.size (fun _ h => h.elim))
  have hs7 := hk6.size_le
  go_wp2
  go_ret
  exact ⟨rfl, hB⟩
end FnExactJournalOf
end Go.Proofs.YtahbgkabdongnaaDoor

/- The walk of FnExactShardFor. -/
import Derived.Test.YtmofbfeclecdoaaDoorHome
import Derived.Test.YtmofbfeclecdoaaDoorOpen
import Derived.Test.YtmofbfeclecdoaaDoorLaw
import Derived.StillTailTactics
namespace Go.Proofs.YtmofbfeclecdoaaDoor
open Go.ChangeShapes Go.WideShapes Go.ChangeAt Go.RowKit Go.Dt
set_option linter.unusedVariables false
set_option linter.unusedSimpArgs false

namespace FnExactShardFor
set_option maxHeartbeats 1600000 in
set_option maxRecDepth 100000 in
theorem walk (W : World) (ht : Pow10 W) (a0 : Int) (wf0 : (Lit.int .i64 a0).wf = true) (A1 : Option Addr) (n1 c1 : Nat) (e1 : List D) (t1 : IsL [.sl 2 1 [.int .i64]] e1) (x1 : RoL W (Lo W.heap.size) e1 [.slice A1 n1 c1]) :
    Calls Tryd.prog 5 #[.int .i64 a0, .slice A1 n1 c1] W fun e w' => e = .returned (.bool true) ∧ Below W.heap.size W w' := by
  obtain ⟨y1, rfl, x1, w1, lc1, mc1⟩ := open_ints t1 x1
  by_cases hz1 : y1.length ≤ 1048576
  rotate_left
  · have hB := Below.refl W.heap.size W
    go_enter Tryd.func5, Tryd.ntmps5
    go_wp2
    go_ret
    exact ⟨rfl, hB⟩
  have HT_aShards := fun (w : World) (hb : Below W.heap.size W w) => laws_toInt64S y1 _ _ w (ro_to x1 hb) hz1
  have HS := ShardFor_lawS a0 y1
  have HI := ShardFor_lawI a0 y1
  generalize ShardFor_f a0 y1 = r at *
  obtain ⟨r0, r1⟩ := r
  simp only at *
  have hB := Below.refl W.heap.size W
  go_enter Tryd.func5, Tryd.ntmps5
  go_wp2_with fail
  refine (HT_aShards W hB).mono ?_
  rintro e w0 ⟨v0, F0, rfl, hO0, hb0, hlo0⟩
  have hk0 := Kp.of_below0 hb0
  replace hB := hB.trans (hk0.below hB.size (fun _ h => h.elim))
  have hs0 := hk0.size_le
  obtain ⟨A0, c0, rfl, l0, m0⟩ := hO0.shape
  simp only [List.length_map] at l0 hO0 ⊢
  have hhi0 : ∀ b, F0 b → b < w0.heap.size := hO0.lt
  go_wp2_with fail
  refine (HS _ _ w0 hO0.lo hz1).mono ?_
  rintro e w1 ⟨rfl, hb1⟩
  have hk1 := Kp.of_below0 hb1
  replace hO0 := hO0.kp hk1 (fun _ _ h => h)
  replace hB := hB.trans (hk1.below hB.size (fun _ h => h.elim))
  have hs1 := hk1.size_le
  go_wp2_with fail
  refine (HT_aShards w1 hB).mono ?_
  rintro e w2 ⟨v2, F2, rfl, hO2, hb2, hlo2⟩
  have hk2 := Kp.of_below0 hb2
  replace hB := hB.trans (hk2.below hB.size (fun _ h => h.elim))
  have hs2 := hk2.size_le
  obtain ⟨A2, c2, rfl, l2, m2⟩ := hO2.shape
  simp only [List.length_map] at l2 hO2 ⊢
  have hhi2 : ∀ b, F2 b → b < w2.heap.size := hO2.lt
  go_wp2_with fail
  refine (HI _ _ w2 (ht.on hB) hO2.lo hz1).mono ?_
  rintro e w3 ⟨rfl, hb3⟩
  have hk3 := Kp.of_below0 hb3
  replace hO2 := hO2.kp hk3 (fun _ _ h => h)
  replace hB := hB.trans (hk3.below hB.size (fun _ h => h.elim))
  have hs3 := hk3.size_le
  go_wp2_with fail
  refine (HT_aShards w3 hB).mono ?_
  rintro e w4 ⟨v4, F4, rfl, hO4, hb4, hlo4⟩
  have hk4 := Kp.of_below0 hb4
  replace hO2 := hO2.kp hk4 (fun _ _ h => h)
  replace hB := hB.trans (hk4.below hB.size (fun _ h => h.elim))
  have hs4 := hk4.size_le
  obtain ⟨A4, c4, rfl, l4, m4⟩ := hO4.shape
  simp only [List.length_map] at l4 hO4 ⊢
  have hhi4 : ∀ b, F4 b → b < w4.heap.size := hO4.lt
  have HE5 := laws_eqInt64S y1 y1 _ _ _ _ w4 hO2.lo hO4.lo (by first | assumption | exact (hO2.lo).sl_max) (by first | assumption | exact (hO4.lo).sl_max) (by first | assumption | exact (hO2.lo).sl_cap) (by first | assumption | exact (hO4.lo).sl_cap)
  rw [decide_eq_true rfl] at HE5
  go_wp2_with fail
  refine (HE5).mono ?_
  rintro e w5 ⟨rfl, hb5⟩
  have hk5 := Kp.of_below0 hb5
  replace hO2 := hO2.kp hk5 (fun _ _ h => h)
  replace hO4 := hO4.kp hk5 (fun _ _ h => h)
  replace hB := hB.trans (hk5.below hB.size (fun _ h => h.elim))
  have hs5 := hk5.size_le
  go_wp2
  go_ret
  exact ⟨rfl, hB⟩
end FnExactShardFor
end Go.Proofs.YtmofbfeclecdoaaDoor

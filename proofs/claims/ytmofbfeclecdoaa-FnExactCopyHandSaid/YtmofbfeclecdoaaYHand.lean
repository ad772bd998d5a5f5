/- Walks of the laws' own functions on Hand. -/
import Derived.Test.YtmofbfeclecdoaaData
import Derived.Test.YtmofbfeclecdoaaText
import Derived.Test.YtmofbfeclecdoaaYLog
import Derived.Test.YtmofbfeclecdoaaYLog
import Derived.Test.YtmofbfeclecdoaaYDraft
import Derived.StillTailTactics
namespace Go.Proofs.Ytmofbfeclecdoaa
open Go.ChangeShapes Go.WideShapes Go.ChangeAt Go.RowKit Go.Dt
set_option linter.unusedVariables false
set_option linter.unusedSimpArgs false

def Hand.z (x : Hand) : Nat := (Log.z x.xFrom) + (Log.z x.xTo) + (Draft.zs x.xWaiting)
def Hand.zs (l : List Hand) : Nat := l.length + (l.map fun y => Hand.z y).sum
set_option maxHeartbeats 800000 in
theorem laws_szHand (x : Hand) (us : List Value) (left : Int) (W : World) (hr : RoL W (Lo W.heap.size) (Hand.d false x) us) (hw : Hand.wf x) (h0 : 0 ≤ left) (h1 : left ≤ 1048576) :
    Calls Try.prog 64 #[.agg us.toArray, .int .i64 left] W fun e w' => e = .returned (.int .i64 (szr left (Hand.z x))) ∧ Below W.heap.size W w' := by
  obtain ⟨A2, c2, A4, c4, A5, c5, rfl, r2, l2, m2, r4, l4, m4, r5, l5, m5⟩ := Hand.cells hr
  have hz : Hand.z x = (Log.z x.xFrom) + (Log.z x.xTo) + (Draft.zs x.xWaiting) := rfl
  have b0 : True := trivial
  have b1 : True := trivial
  have b2 : True := trivial
  have hwl2 : ∀ y ∈ x.xFrom.xMessages, Message.wf y := by have := hw; simp only [Hand.wf, Log.wf, Log.wf] at this; simp_all
  have hwl4 : ∀ y ∈ x.xTo.xMessages, Message.wf y := by have := hw; simp only [Hand.wf, Log.wf, Log.wf] at this; simp_all
  have hwl5 : ∀ y ∈ x.xWaiting, Draft.wf y := by have := hw; simp only [Hand.wf, Log.wf, Log.wf] at this; simp_all
  have hwsxxFrom : Log.wf x.xFrom := by have := hw; simp only [Hand.wf] at this; simp_all
  have hwsxxTo : Log.wf x.xTo := by have := hw; simp only [Hand.wf] at this; simp_all
  by_cases g0 : (((Log.z x.xFrom) : Nat) : Int) ≤ left
  · have G0 := g0
    by_cases g1 : (((Log.z x.xTo) : Nat) : Int) ≤ left - ((Log.z x.xFrom) : Nat)
    · have G1 := g1
      by_cases g2 : (((Draft.zs x.xWaiting) : Nat) : Int) ≤ left - ((Log.z x.xFrom) : Nat) - ((Log.z x.xTo) : Nat)
      · have G2 := g2
        have H := Lib.hid (show szr left (Hand.z x) = left - ((Log.z x.xFrom) : Nat) - ((Log.z x.xTo) : Nat) - ((Draft.zs x.xWaiting) : Nat) from by rw [szr_yes (by rw [hz]; push_cast; omega), hz] <;> (try push_cast) <;> omega)
        have S0 := Lib.hid (szr_yes (left := left) g0)
        have S1 := Lib.hid (szr_yes (left := left - ((Log.z x.xFrom) : Nat)) g1)
        have S2 := Lib.hid (szr_yes (left := left - ((Log.z x.xFrom) : Nat) - ((Log.z x.xTo) : Nat)) g2)
        clear hz hw
        clear G0
        clear G1
        clear G2
        go_enter Try.func64, Try.ntmps64
        go_wp2_with fail
        refine (laws_szLog x.xFrom [.int .i64 x.xFrom.xNext, .slice A2 x.xFrom.xMessages.length c2] _ _ (RoL.cons (.int _ _) (RoL.cons (ro_to r2 (by (repeat (first | with_reducible assumption | with_reducible exact Below.refl _ _ | with_reducible refine Below.setCell ?_ ?_ _ | with_reducible refine Below.alloc ?_ ?_ _ | with_reducible refine Below.drew ?_ | with_reducible refine below_drewN ?_ _ | omega | (simp; done) | (simp; omega))); all_goals first | omega | (simp; done) | (simp; omega))) (RoL.nil))) (by first | assumption) (by omega) (by omega)).mono ?_
        rintro e w1 ⟨rfl, hb0⟩
        obtain ⟨hc0, hf0⟩ := bcell hb0
        have hz0 : W.heap.size < w1.heap.size := (by have hs := hb0.size; (try simp at hs) <;> omega)
        have hB0 : Below W.heap.size W w1 := Below.trans (by (repeat (first | with_reducible assumption | with_reducible exact Below.refl _ _ | with_reducible refine Below.setCell ?_ ?_ _ | with_reducible refine Below.alloc ?_ ?_ _ | with_reducible refine Below.drew ?_ | with_reducible refine below_drewN ?_ _ | omega | (simp; done) | (simp; omega))); all_goals first | omega | (simp; done) | (simp; omega)) (hb0.mono (by first | omega | (simp; done) | (simp; omega)))
        rw [S0.out]
        go_wp2_with fail
        refine (laws_szLog x.xTo [.int .i64 x.xTo.xNext, .slice A4 x.xTo.xMessages.length c4] _ _ (RoL.cons (.int _ _) (RoL.cons (ro_to r4 (by (repeat (first | with_reducible assumption | with_reducible exact Below.refl _ _ | with_reducible refine Below.setCell ?_ ?_ _ | with_reducible refine Below.alloc ?_ ?_ _ | with_reducible refine Below.drew ?_ | with_reducible refine below_drewN ?_ _ | omega | (simp; done) | (simp; omega))); all_goals first | omega | (simp; done) | (simp; omega))) (RoL.nil))) (by first | assumption) (by omega) (by omega)).mono ?_
        rintro e w1 ⟨rfl, hb1⟩
        obtain ⟨hc1, hf1⟩ := bcell hb1
        have hz1 : W.heap.size < w1.heap.size := (by have hs := hb1.size; (try simp at hs) <;> omega)
        have hB1 : Below W.heap.size W w1 := Below.trans (by (repeat (first | with_reducible assumption | with_reducible exact Below.refl _ _ | with_reducible refine Below.setCell ?_ ?_ _ | with_reducible refine Below.alloc ?_ ?_ _ | with_reducible refine Below.drew ?_ | with_reducible refine below_drewN ?_ _ | omega | (simp; done) | (simp; omega))); all_goals first | omega | (simp; done) | (simp; omega)) (hb1.mono (by first | omega | (simp; done) | (simp; omega)))
        rw [S1.out]
        go_wp2_with fail
        refine (laws_szDraftS x.xWaiting _ _ _ _ (ro_to r5 (by (repeat (first | with_reducible assumption | with_reducible exact Below.refl _ _ | with_reducible refine Below.setCell ?_ ?_ _ | with_reducible refine Below.alloc ?_ ?_ _ | with_reducible refine Below.drew ?_ | with_reducible refine below_drewN ?_ _ | omega | (simp; done) | (simp; omega))); all_goals first | omega | (simp; done) | (simp; omega))) (by first | exact hwl5 | assumption) l5 m5 (by omega) (by omega)).mono ?_
        rintro e w1 ⟨rfl, hb2⟩
        obtain ⟨hc2, hf2⟩ := bcell hb2
        have hz2 : W.heap.size < w1.heap.size := (by have hs := hb2.size; (try simp at hs) <;> omega)
        have hB2 : Below W.heap.size W w1 := Below.trans (by (repeat (first | with_reducible assumption | with_reducible exact Below.refl _ _ | with_reducible refine Below.setCell ?_ ?_ _ | with_reducible refine Below.alloc ?_ ?_ _ | with_reducible refine Below.drew ?_ | with_reducible refine below_drewN ?_ _ | omega | (simp; done) | (simp; omega))); all_goals first | omega | (simp; done) | (simp; omega)) (hb2.mono (by first | omega | (simp; done) | (simp; omega)))
        rw [S2.out]
        go_wp2
        go_ret
        exact ⟨by rw [H.out]; rfl, (by (repeat (first | with_reducible assumption | with_reducible exact Below.refl _ _ | with_reducible refine Below.setCell ?_ ?_ _ | with_reducible refine Below.alloc ?_ ?_ _ | with_reducible refine Below.drew ?_ | with_reducible refine below_drewN ?_ _ | omega | (simp; done) | (simp; omega))); all_goals first | omega | (simp; done) | (simp; omega))⟩
      · have G2 := g2
        have H := Lib.hid (show szr left (Hand.z x) = -1 from szr_no (by rw [hz]; push_cast; omega))
        have S0 := Lib.hid (szr_yes (left := left) g0)
        have S1 := Lib.hid (szr_yes (left := left - ((Log.z x.xFrom) : Nat)) g1)
        have S2 := Lib.hid (szr_no (left := left - ((Log.z x.xFrom) : Nat) - ((Log.z x.xTo) : Nat)) g2)
        clear hz hw
        clear G0
        clear G1
        clear G2
        go_enter Try.func64, Try.ntmps64
        go_wp2_with fail
        refine (laws_szLog x.xFrom [.int .i64 x.xFrom.xNext, .slice A2 x.xFrom.xMessages.length c2] _ _ (RoL.cons (.int _ _) (RoL.cons (ro_to r2 (by (repeat (first | with_reducible assumption | with_reducible exact Below.refl _ _ | with_reducible refine Below.setCell ?_ ?_ _ | with_reducible refine Below.alloc ?_ ?_ _ | with_reducible refine Below.drew ?_ | with_reducible refine below_drewN ?_ _ | omega | (simp; done) | (simp; omega))); all_goals first | omega | (simp; done) | (simp; omega))) (RoL.nil))) (by first | assumption) (by omega) (by omega)).mono ?_
        rintro e w1 ⟨rfl, hb0⟩
        obtain ⟨hc0, hf0⟩ := bcell hb0
        have hz0 : W.heap.size < w1.heap.size := (by have hs := hb0.size; (try simp at hs) <;> omega)
        have hB0 : Below W.heap.size W w1 := Below.trans (by (repeat (first | with_reducible assumption | with_reducible exact Below.refl _ _ | with_reducible refine Below.setCell ?_ ?_ _ | with_reducible refine Below.alloc ?_ ?_ _ | with_reducible refine Below.drew ?_ | with_reducible refine below_drewN ?_ _ | omega | (simp; done) | (simp; omega))); all_goals first | omega | (simp; done) | (simp; omega)) (hb0.mono (by first | omega | (simp; done) | (simp; omega)))
        rw [S0.out]
        go_wp2_with fail
        refine (laws_szLog x.xTo [.int .i64 x.xTo.xNext, .slice A4 x.xTo.xMessages.length c4] _ _ (RoL.cons (.int _ _) (RoL.cons (ro_to r4 (by (repeat (first | with_reducible assumption | with_reducible exact Below.refl _ _ | with_reducible refine Below.setCell ?_ ?_ _ | with_reducible refine Below.alloc ?_ ?_ _ | with_reducible refine Below.drew ?_ | with_reducible refine below_drewN ?_ _ | omega | (simp; done) | (simp; omega))); all_goals first | omega | (simp; done) | (simp; omega))) (RoL.nil))) (by first | assumption) (by omega) (by omega)).mono ?_
        rintro e w1 ⟨rfl, hb1⟩
        obtain ⟨hc1, hf1⟩ := bcell hb1
        have hz1 : W.heap.size < w1.heap.size := (by have hs := hb1.size; (try simp at hs) <;> omega)
        have hB1 : Below W.heap.size W w1 := Below.trans (by (repeat (first | with_reducible assumption | with_reducible exact Below.refl _ _ | with_reducible refine Below.setCell ?_ ?_ _ | with_reducible refine Below.alloc ?_ ?_ _ | with_reducible refine Below.drew ?_ | with_reducible refine below_drewN ?_ _ | omega | (simp; done) | (simp; omega))); all_goals first | omega | (simp; done) | (simp; omega)) (hb1.mono (by first | omega | (simp; done) | (simp; omega)))
        rw [S1.out]
        go_wp2_with fail
        refine (laws_szDraftS x.xWaiting _ _ _ _ (ro_to r5 (by (repeat (first | with_reducible assumption | with_reducible exact Below.refl _ _ | with_reducible refine Below.setCell ?_ ?_ _ | with_reducible refine Below.alloc ?_ ?_ _ | with_reducible refine Below.drew ?_ | with_reducible refine below_drewN ?_ _ | omega | (simp; done) | (simp; omega))); all_goals first | omega | (simp; done) | (simp; omega))) (by first | exact hwl5 | assumption) l5 m5 (by omega) (by omega)).mono ?_
        rintro e w1 ⟨rfl, hb2⟩
        obtain ⟨hc2, hf2⟩ := bcell hb2
        have hz2 : W.heap.size < w1.heap.size := (by have hs := hb2.size; (try simp at hs) <;> omega)
        have hB2 : Below W.heap.size W w1 := Below.trans (by (repeat (first | with_reducible assumption | with_reducible exact Below.refl _ _ | with_reducible refine Below.setCell ?_ ?_ _ | with_reducible refine Below.alloc ?_ ?_ _ | with_reducible refine Below.drew ?_ | with_reducible refine below_drewN ?_ _ | omega | (simp; done) | (simp; omega))); all_goals first | omega | (simp; done) | (simp; omega)) (hb2.mono (by first | omega | (simp; done) | (simp; omega)))
        rw [S2.out]
        go_wp2
        go_ret
        exact ⟨by rw [H.out]; rfl, (by (repeat (first | with_reducible assumption | with_reducible exact Below.refl _ _ | with_reducible refine Below.setCell ?_ ?_ _ | with_reducible refine Below.alloc ?_ ?_ _ | with_reducible refine Below.drew ?_ | with_reducible refine below_drewN ?_ _ | omega | (simp; done) | (simp; omega))); all_goals first | omega | (simp; done) | (simp; omega))⟩
    · have G1 := g1
      have H := Lib.hid (show szr left (Hand.z x) = -1 from szr_no (by rw [hz]; push_cast; omega))
      have S0 := Lib.hid (szr_yes (left := left) g0)
      have S1 := Lib.hid (szr_no (left := left - ((Log.z x.xFrom) : Nat)) g1)
      clear hz hw
      clear G0
      clear G1
      go_enter Try.func64, Try.ntmps64
      go_wp2_with fail
      refine (laws_szLog x.xFrom [.int .i64 x.xFrom.xNext, .slice A2 x.xFrom.xMessages.length c2] _ _ (RoL.cons (.int _ _) (RoL.cons (ro_to r2 (by (repeat (first | with_reducible assumption | with_reducible exact Below.refl _ _ | with_reducible refine Below.setCell ?_ ?_ _ | with_reducible refine Below.alloc ?_ ?_ _ | with_reducible refine Below.drew ?_ | with_reducible refine below_drewN ?_ _ | omega | (simp; done) | (simp; omega))); all_goals first | omega | (simp; done) | (simp; omega))) (RoL.nil))) (by first | assumption) (by omega) (by omega)).mono ?_
      rintro e w1 ⟨rfl, hb0⟩
      obtain ⟨hc0, hf0⟩ := bcell hb0
      have hz0 : W.heap.size < w1.heap.size := (by have hs := hb0.size; (try simp at hs) <;> omega)
      have hB0 : Below W.heap.size W w1 := Below.trans (by (repeat (first | with_reducible assumption | with_reducible exact Below.refl _ _ | with_reducible refine Below.setCell ?_ ?_ _ | with_reducible refine Below.alloc ?_ ?_ _ | with_reducible refine Below.drew ?_ | with_reducible refine below_drewN ?_ _ | omega | (simp; done) | (simp; omega))); all_goals first | omega | (simp; done) | (simp; omega)) (hb0.mono (by first | omega | (simp; done) | (simp; omega)))
      rw [S0.out]
      go_wp2_with fail
      refine (laws_szLog x.xTo [.int .i64 x.xTo.xNext, .slice A4 x.xTo.xMessages.length c4] _ _ (RoL.cons (.int _ _) (RoL.cons (ro_to r4 (by (repeat (first | with_reducible assumption | with_reducible exact Below.refl _ _ | with_reducible refine Below.setCell ?_ ?_ _ | with_reducible refine Below.alloc ?_ ?_ _ | with_reducible refine Below.drew ?_ | with_reducible refine below_drewN ?_ _ | omega | (simp; done) | (simp; omega))); all_goals first | omega | (simp; done) | (simp; omega))) (RoL.nil))) (by first | assumption) (by omega) (by omega)).mono ?_
      rintro e w1 ⟨rfl, hb1⟩
      obtain ⟨hc1, hf1⟩ := bcell hb1
      have hz1 : W.heap.size < w1.heap.size := (by have hs := hb1.size; (try simp at hs) <;> omega)
      have hB1 : Below W.heap.size W w1 := Below.trans (by (repeat (first | with_reducible assumption | with_reducible exact Below.refl _ _ | with_reducible refine Below.setCell ?_ ?_ _ | with_reducible refine Below.alloc ?_ ?_ _ | with_reducible refine Below.drew ?_ | with_reducible refine below_drewN ?_ _ | omega | (simp; done) | (simp; omega))); all_goals first | omega | (simp; done) | (simp; omega)) (hb1.mono (by first | omega | (simp; done) | (simp; omega)))
      rw [S1.out]
      go_wp2
      go_ret
      exact ⟨by rw [H.out]; rfl, (by (repeat (first | with_reducible assumption | with_reducible exact Below.refl _ _ | with_reducible refine Below.setCell ?_ ?_ _ | with_reducible refine Below.alloc ?_ ?_ _ | with_reducible refine Below.drew ?_ | with_reducible refine below_drewN ?_ _ | omega | (simp; done) | (simp; omega))); all_goals first | omega | (simp; done) | (simp; omega))⟩
  · have G0 := g0
    have H := Lib.hid (show szr left (Hand.z x) = -1 from szr_no (by rw [hz]; push_cast; omega))
    have S0 := Lib.hid (szr_no (left := left) g0)
    clear hz hw
    clear G0
    go_enter Try.func64, Try.ntmps64
    go_wp2_with fail
    refine (laws_szLog x.xFrom [.int .i64 x.xFrom.xNext, .slice A2 x.xFrom.xMessages.length c2] _ _ (RoL.cons (.int _ _) (RoL.cons (ro_to r2 (by (repeat (first | with_reducible assumption | with_reducible exact Below.refl _ _ | with_reducible refine Below.setCell ?_ ?_ _ | with_reducible refine Below.alloc ?_ ?_ _ | with_reducible refine Below.drew ?_ | with_reducible refine below_drewN ?_ _ | omega | (simp; done) | (simp; omega))); all_goals first | omega | (simp; done) | (simp; omega))) (RoL.nil))) (by first | assumption) (by omega) (by omega)).mono ?_
    rintro e w1 ⟨rfl, hb0⟩
    obtain ⟨hc0, hf0⟩ := bcell hb0
    have hz0 : W.heap.size < w1.heap.size := (by have hs := hb0.size; (try simp at hs) <;> omega)
    have hB0 : Below W.heap.size W w1 := Below.trans (by (repeat (first | with_reducible assumption | with_reducible exact Below.refl _ _ | with_reducible refine Below.setCell ?_ ?_ _ | with_reducible refine Below.alloc ?_ ?_ _ | with_reducible refine Below.drew ?_ | with_reducible refine below_drewN ?_ _ | omega | (simp; done) | (simp; omega))); all_goals first | omega | (simp; done) | (simp; omega)) (hb0.mono (by first | omega | (simp; done) | (simp; omega)))
    rw [S0.out]
    go_wp2
    go_ret
    exact ⟨by rw [H.out]; rfl, (by (repeat (first | with_reducible assumption | with_reducible exact Below.refl _ _ | with_reducible refine Below.setCell ?_ ?_ _ | with_reducible refine Below.alloc ?_ ?_ _ | with_reducible refine Below.drew ?_ | with_reducible refine below_drewN ?_ _ | omega | (simp; done) | (simp; omega))); all_goals first | omega | (simp; done) | (simp; omega))⟩

theorem Hand.dec (x y : Hand) : decide (x = y) = (decide (x.xStage = y.xStage) && decide (x.xFrom = y.xFrom) && decide (x.xTo = y.xTo) && decide (x.xWaiting = y.xWaiting)) := by
  cases x; cases y
  simp only [Hand.mk.injEq, Bool.decide_and, Bool.and_assoc]

set_option maxHeartbeats 1000000 in
theorem laws_eqHand (x y : Hand) (us vs : List Value) (W : World) (hr : RoL W (Lo W.heap.size) (Hand.d true x) us) (hs : RoL W (Lo W.heap.size) (Hand.d true y) vs) :
    Calls Try.prog 67 #[.agg us.toArray, .agg vs.toArray] W fun e w' => e = .returned (.bool (decide (x = y))) ∧ Below W.heap.size W w' := by
  obtain ⟨A2, c2, A4, c4, A5, c5, rfl, r2, l2, m2, r4, l4, m4, r5, l5, m5⟩ := Hand.cells hr
  obtain ⟨Ap2, cp2, Ap4, cp4, Ap5, cp5, rfl, rp2, lp2, mp2, rp4, lp4, mp4, rp5, lp5, mp5⟩ := Hand.cells hs
  have HD := Lib.hid (Hand.dec x y)
  go_enter Try.func67, Try.ntmps67
  go_wp2_with (first | (go_at_call 28; (with_reducible refine (laws_eqLog x.xFrom y.xFrom [.int .i64 x.xFrom.xNext, .slice A2 x.xFrom.xMessages.length c2] [.int .i64 y.xFrom.xNext, .slice Ap2 y.xFrom.xMessages.length cp2] _ (RoL.cons (.int _ _) (RoL.cons (ro_to r2 (by (repeat (first | with_reducible assumption | with_reducible exact Below.refl _ _ | with_reducible refine Below.setCell ?_ ?_ _ | with_reducible refine Below.alloc ?_ ?_ _ | with_reducible refine Below.drew ?_ | with_reducible refine below_drewN ?_ _ | omega | (simp; done) | (simp; omega))); all_goals first | omega | (simp; done) | (simp; omega))) (RoL.nil))) (RoL.cons (.int _ _) (RoL.cons (ro_to rp2 (by (repeat (first | with_reducible assumption | with_reducible exact Below.refl _ _ | with_reducible refine Below.setCell ?_ ?_ _ | with_reducible refine Below.alloc ?_ ?_ _ | with_reducible refine Below.drew ?_ | with_reducible refine below_drewN ?_ _ | omega | (simp; done) | (simp; omega))); all_goals first | omega | (simp; done) | (simp; omega))) (RoL.nil)))).mono ?_); rintro e w1 ⟨rfl, hbFrom⟩; obtain ⟨hc_hbFrom, hf_hbFrom⟩ := bcell hbFrom; have hz0_hbFrom : W.heap.size < w1.heap.size := (by have hs := hbFrom.size; (try simp at hs) <;> omega); have hz1_hbFrom : W.heap.size + 1 < w1.heap.size := (by have hs := hbFrom.size; (try simp at hs) <;> omega); have hB_hbFrom : Below W.heap.size W w1 := Below.trans (by (repeat (first | with_reducible assumption | with_reducible exact Below.refl _ _ | with_reducible refine Below.setCell ?_ ?_ _ | with_reducible refine Below.alloc ?_ ?_ _ | with_reducible refine Below.drew ?_ | with_reducible refine below_drewN ?_ _ | omega | (simp; done) | (simp; omega))); all_goals first | omega | (simp; done) | (simp; omega)) (hbFrom.mono (by first | omega | (simp; done) | (simp; omega)))) | (go_at_call 28; (with_reducible refine (laws_eqLog x.xTo y.xTo [.int .i64 x.xTo.xNext, .slice A4 x.xTo.xMessages.length c4] [.int .i64 y.xTo.xNext, .slice Ap4 y.xTo.xMessages.length cp4] _ (RoL.cons (.int _ _) (RoL.cons (ro_to r4 (by (repeat (first | with_reducible assumption | with_reducible exact Below.refl _ _ | with_reducible refine Below.setCell ?_ ?_ _ | with_reducible refine Below.alloc ?_ ?_ _ | with_reducible refine Below.drew ?_ | with_reducible refine below_drewN ?_ _ | omega | (simp; done) | (simp; omega))); all_goals first | omega | (simp; done) | (simp; omega))) (RoL.nil))) (RoL.cons (.int _ _) (RoL.cons (ro_to rp4 (by (repeat (first | with_reducible assumption | with_reducible exact Below.refl _ _ | with_reducible refine Below.setCell ?_ ?_ _ | with_reducible refine Below.alloc ?_ ?_ _ | with_reducible refine Below.drew ?_ | with_reducible refine below_drewN ?_ _ | omega | (simp; done) | (simp; omega))); all_goals first | omega | (simp; done) | (simp; omega))) (RoL.nil)))).mono ?_); rintro e w1 ⟨rfl, hbTo⟩; obtain ⟨hc_hbTo, hf_hbTo⟩ := bcell hbTo; have hz0_hbTo : W.heap.size < w1.heap.size := (by have hs := hbTo.size; (try simp at hs) <;> omega); have hz1_hbTo : W.heap.size + 1 < w1.heap.size := (by have hs := hbTo.size; (try simp at hs) <;> omega); have hB_hbTo : Below W.heap.size W w1 := Below.trans (by (repeat (first | with_reducible assumption | with_reducible exact Below.refl _ _ | with_reducible refine Below.setCell ?_ ?_ _ | with_reducible refine Below.alloc ?_ ?_ _ | with_reducible refine Below.drew ?_ | with_reducible refine below_drewN ?_ _ | omega | (simp; done) | (simp; omega))); all_goals first | omega | (simp; done) | (simp; omega)) (hbTo.mono (by first | omega | (simp; done) | (simp; omega)))) | (go_at_call 143; (with_reducible refine (laws_eqDraftS x.xWaiting y.xWaiting _ _ _ _ _ (ro_to r5 (by (repeat (first | with_reducible assumption | with_reducible exact Below.refl _ _ | with_reducible refine Below.setCell ?_ ?_ _ | with_reducible refine Below.alloc ?_ ?_ _ | with_reducible refine Below.drew ?_ | with_reducible refine below_drewN ?_ _ | omega | (simp; done) | (simp; omega))); all_goals first | omega | (simp; done) | (simp; omega))) (ro_to rp5 (by (repeat (first | with_reducible assumption | with_reducible exact Below.refl _ _ | with_reducible refine Below.setCell ?_ ?_ _ | with_reducible refine Below.alloc ?_ ?_ _ | with_reducible refine Below.drew ?_ | with_reducible refine below_drewN ?_ _ | omega | (simp; done) | (simp; omega))); all_goals first | omega | (simp; done) | (simp; omega))) m5 mp5 l5 lp5).mono ?_); rintro e w1 ⟨rfl, hbWaiting⟩; obtain ⟨hc_hbWaiting, hf_hbWaiting⟩ := bcell hbWaiting; have hz0_hbWaiting : W.heap.size < w1.heap.size := (by have hs := hbWaiting.size; (try simp at hs) <;> omega); have hz1_hbWaiting : W.heap.size + 1 < w1.heap.size := (by have hs := hbWaiting.size; (try simp at hs) <;> omega); have hB_hbWaiting : Below W.heap.size W w1 := Below.trans (by (repeat (first | with_reducible assumption | with_reducible exact Below.refl _ _ | with_reducible refine Below.setCell ?_ ?_ _ | with_reducible refine Below.alloc ?_ ?_ _ | with_reducible refine Below.drew ?_ | with_reducible refine below_drewN ?_ _ | omega | (simp; done) | (simp; omega))); all_goals first | omega | (simp; done) | (simp; omega)) (hbWaiting.mono (by first | omega | (simp; done) | (simp; omega)))))
  all_goals (go_ret; exact ⟨by rw [HD.out]; simp_all [bytes_inj], (by (repeat (first | with_reducible assumption | with_reducible exact Below.refl _ _ | with_reducible refine Below.setCell ?_ ?_ _ | with_reducible refine Below.alloc ?_ ?_ _ | with_reducible refine Below.drew ?_ | with_reducible refine below_drewN ?_ _ | omega | (simp; done) | (simp; omega))); all_goals first | omega | (simp; done) | (simp; omega))⟩)

set_option maxHeartbeats 1600000 in
set_option maxRecDepth 100000 in
theorem laws_toHand (x : Hand) (us : List Value) (W : World) (hr : RoL W (Lo W.heap.size) (Hand.d false x) us) (hz : Hand.z x ≤ 1048576) :
    Calls Try.prog 66 #[.agg us.toArray] W (MadeL W (Hand.d true x)) := by
  obtain ⟨A2, c2, A4, c4, A5, c5, rfl, r2, l2, m2, r4, l4, m4, r5, l5, m5⟩ := Hand.cells hr
  have hz' := hz
  unfold Hand.z at hz'
  clear hz
  have hzFrom : Log.z x.xFrom ≤ 1048576 := by omega
  have hzTo : Log.z x.xTo ≤ 1048576 := by omega
  have hzWaiting : Draft.zs x.xWaiting ≤ 1048576 := by omega
  clear hz'
  go_enter Try.func66, Try.ntmps66
  go_wp2_with fail
  refine (laws_toLog x.xFrom [.int .i64 x.xFrom.xNext, .slice A2 x.xFrom.xMessages.length c2] _ (RoL.cons (.int _ _) (RoL.cons (ro_to r2 (by (repeat (first | with_reducible assumption | with_reducible exact Below.refl _ _ | with_reducible refine Below.setCell ?_ ?_ _ | with_reducible refine Below.alloc ?_ ?_ _ | with_reducible refine Below.drew ?_ | with_reducible refine below_drewN ?_ _ | omega | (simp; done) | (simp; omega))); all_goals first | omega | (simp; done) | (simp; omega))) (RoL.nil))) hzFrom).mono ?_
  rintro e w1 ⟨us1, FF1, rfl, hL1, hb1, hG1⟩
  obtain ⟨B2, k2, F2, rfl, hO2, lo2, mo2, hU1⟩ := Log.owned hL1
  have hF2 : ∀ b, F2 b → W.heap.size + 3 ≤ b := fun b hb => by have h := hG1 b ((hU1 b).2 (by simp [hb])); (try simp at h) <;> omega
  obtain ⟨hc1, hf1⟩ := bcell hb1
  have hy1_0 : W.heap.size < w1.heap.size := (by have hs := hb1.size; (try simp at hs) <;> omega)
  have hy1_1 : W.heap.size + 1 < w1.heap.size := (by have hs := hb1.size; (try simp at hs) <;> omega)
  have hy1_2 : W.heap.size + 2 < w1.heap.size := (by have hs := hb1.size; (try simp at hs) <;> omega)
  have hB1 : Below W.heap.size W w1 := Below.trans (by (repeat (first | with_reducible assumption | with_reducible exact Below.refl _ _ | with_reducible refine Below.setCell ?_ ?_ _ | with_reducible refine Below.alloc ?_ ?_ _ | with_reducible refine Below.drew ?_ | with_reducible refine below_drewN ?_ _ | omega | (simp; done) | (simp; omega))); all_goals first | omega | (simp; done) | (simp; omega)) (hb1.mono (by first | omega | (simp; done) | (simp; omega)))
  have hL2_ : ∀ b, F2 b → b < w1.heap.size := hO2.lt
  go_wp2_with fail
  refine (laws_toLog x.xTo [.int .i64 x.xTo.xNext, .slice A4 x.xTo.xMessages.length c4] _ (RoL.cons (.int _ _) (RoL.cons (ro_to r4 (by (repeat (first | with_reducible assumption | with_reducible exact Below.refl _ _ | with_reducible refine Below.setCell ?_ ?_ _ | with_reducible refine Below.alloc ?_ ?_ _ | with_reducible refine Below.drew ?_ | with_reducible refine below_drewN ?_ _ | omega | (simp; done) | (simp; omega))); all_goals first | omega | (simp; done) | (simp; omega))) (RoL.nil))) hzTo).mono ?_
  rintro e w2 ⟨us2, FF2, rfl, hL2, hb2, hG2⟩
  obtain ⟨B4, k4, F4, rfl, hO4, lo4, mo4, hU2⟩ := Log.owned hL2
  have hF4 : ∀ b, F4 b → W.heap.size + 3 ≤ b := fun b hb => by have h := hG2 b ((hU2 b).2 (by simp [hb])); (try simp at h) <;> omega
  obtain ⟨hc2, hf2⟩ := bcell hb2
  have hy2_0 : W.heap.size < w2.heap.size := (by have hs := hb2.size; (try simp at hs) <;> omega)
  have hy2_1 : W.heap.size + 1 < w2.heap.size := (by have hs := hb2.size; (try simp at hs) <;> omega)
  have hy2_2 : W.heap.size + 2 < w2.heap.size := (by have hs := hb2.size; (try simp at hs) <;> omega)
  have hB2 : Below W.heap.size W w2 := Below.trans (by (repeat (first | with_reducible assumption | with_reducible exact Below.refl _ _ | with_reducible refine Below.setCell ?_ ?_ _ | with_reducible refine Below.alloc ?_ ?_ _ | with_reducible refine Below.drew ?_ | with_reducible refine below_drewN ?_ _ | omega | (simp; done) | (simp; omega))); all_goals first | omega | (simp; done) | (simp; omega)) (hb2.mono (by first | omega | (simp; done) | (simp; omega)))
  have hs2 : w1.heap.size ≤ w2.heap.size := (by have hs := hb2.size; (try simp at hs) <;> omega)
  replace hO2 := (show Ow _ (Message.s true x.xFrom.xMessages) (.slice B2 x.xFrom.xMessages.length k2) F2 from (by repeat (first | with_reducible exact hO2 | with_reducible refine Ow.far ?_ ?_ _ | with_reducible refine Ow.alloc ?_ _ | with_reducible refine Ow.drew ?_ | exact (fun h => absurd (hF2 _ h) (by first | omega | (simp; done) | (simp; omega)))))).keep hb2
  have hL4_ : ∀ b, F4 b → b < w2.heap.size := hO4.lt
  have D2_4 : ∀ b, F2 b → ¬ F4 b := fun b h1 h2 => by have a1 := hL2_ b h1; have a2 := hG2 b ((hU2 b).2 (by simp [h2])); (try simp at a2) <;> omega
  go_wp2_with fail
  refine (laws_toDraftS x.xWaiting _ _ _ (ro_to r5 (by (repeat (first | with_reducible assumption | with_reducible exact Below.refl _ _ | with_reducible refine Below.setCell ?_ ?_ _ | with_reducible refine Below.alloc ?_ ?_ _ | with_reducible refine Below.drew ?_ | with_reducible refine below_drewN ?_ _ | omega | (simp; done) | (simp; omega))); all_goals first | omega | (simp; done) | (simp; omega))) hzWaiting).mono ?_
  rintro e w3 ⟨v5, F5, rfl, hO5, hb3, hG3⟩
  obtain ⟨B5, k5, rfl, lo5, mo5⟩ := hO5.shape
  simp only [List.length_map] at hO5 lo5 ⊢
  have hF5 : ∀ b, F5 b → W.heap.size + 3 ≤ b := fun b hb => by have h := hG3 b hb; (try simp at h) <;> omega
  obtain ⟨hc3, hf3⟩ := bcell hb3
  have hy3_0 : W.heap.size < w3.heap.size := (by have hs := hb3.size; (try simp at hs) <;> omega)
  have hy3_1 : W.heap.size + 1 < w3.heap.size := (by have hs := hb3.size; (try simp at hs) <;> omega)
  have hy3_2 : W.heap.size + 2 < w3.heap.size := (by have hs := hb3.size; (try simp at hs) <;> omega)
  have hB3 : Below W.heap.size W w3 := Below.trans (by (repeat (first | with_reducible assumption | with_reducible exact Below.refl _ _ | with_reducible refine Below.setCell ?_ ?_ _ | with_reducible refine Below.alloc ?_ ?_ _ | with_reducible refine Below.drew ?_ | with_reducible refine below_drewN ?_ _ | omega | (simp; done) | (simp; omega))); all_goals first | omega | (simp; done) | (simp; omega)) (hb3.mono (by first | omega | (simp; done) | (simp; omega)))
  have hs3 : w2.heap.size ≤ w3.heap.size := (by have hs := hb3.size; (try simp at hs) <;> omega)
  replace hO2 := (show Ow _ (Message.s true x.xFrom.xMessages) (.slice B2 x.xFrom.xMessages.length k2) F2 from (by repeat (first | with_reducible exact hO2 | with_reducible refine Ow.far ?_ ?_ _ | with_reducible refine Ow.alloc ?_ _ | with_reducible refine Ow.drew ?_ | exact (fun h => absurd (hF2 _ h) (by first | omega | (simp; done) | (simp; omega)))))).keep hb3
  replace hO4 := (show Ow _ (Message.s true x.xTo.xMessages) (.slice B4 x.xTo.xMessages.length k4) F4 from (by repeat (first | with_reducible exact hO4 | with_reducible refine Ow.far ?_ ?_ _ | with_reducible refine Ow.alloc ?_ _ | with_reducible refine Ow.drew ?_ | exact (fun h => absurd (hF4 _ h) (by first | omega | (simp; done) | (simp; omega)))))).keep hb3
  have hL5_ : ∀ b, F5 b → b < w3.heap.size := hO5.lt
  have D2_5 : ∀ b, F2 b → ¬ F5 b := fun b h1 h2 => by have a1 := hL2_ b h1; have a2 := hG3 b h2; (try simp at a2) <;> omega
  have D4_5 : ∀ b, F4 b → ¬ F5 b := fun b h1 h2 => by have a1 := hL4_ b h1; have a2 := hG3 b h2; (try simp at a2) <;> omega
  go_wp2
  exact bodyPost_ret (v := .agg #[.int .i64 x.xStage, .int .i64 x.xFrom.xNext, .slice B2 x.xFrom.xMessages.length k2, .int .i64 x.xTo.xNext, .slice B4 x.xTo.xMessages.length k4, .slice B5 x.xWaiting.length k5]) (by simp [results, Try.results66, go_sem, hc1, hf1, hy1_0, hy1_1, hy1_2, hc2, hf2, hy2_0, hy2_1, hy2_2, hc3, hf3, hy3_0, hy3_1, hy3_2]) rfl ⟨[.int .i64 x.xStage, .int .i64 x.xFrom.xNext, .slice B2 x.xFrom.xMessages.length k2, .int .i64 x.xTo.xNext, .slice B4 x.xTo.xMessages.length k4, .slice B5 x.xWaiting.length k5], _, rfl, OwL.consP (Ow.I _ _) (OwL.consP (Ow.I _ _) (OwL.cons (show Ow _ _ _ F2 from (by repeat (first | with_reducible exact hO2 | with_reducible refine Ow.far ?_ ?_ _ | with_reducible refine Ow.alloc ?_ _ | with_reducible refine Ow.drew ?_ | exact (fun h => absurd (hF2 _ h) (by first | omega | (simp; done) | (simp; omega)))))) (OwL.consP (Ow.I _ _) (OwL.cons (show Ow _ _ _ F4 from (by repeat (first | with_reducible exact hO4 | with_reducible refine Ow.far ?_ ?_ _ | with_reducible refine Ow.alloc ?_ _ | with_reducible refine Ow.drew ?_ | exact (fun h => absurd (hF4 _ h) (by first | omega | (simp; done) | (simp; omega)))))) (OwL.cons (show Ow _ _ _ F5 from (by repeat (first | with_reducible exact hO5 | with_reducible refine Ow.far ?_ ?_ _ | with_reducible refine Ow.alloc ?_ _ | with_reducible refine Ow.drew ?_ | exact (fun h => absurd (hF5 _ h) (by first | omega | (simp; done) | (simp; omega)))))) (OwL.nil) (fun b h1 h2 => h2)) (fun b h1 h2 => by simp only [or_false] at h2; exact D4_5 b h1 h2))) (fun b h1 h2 => by simp only [or_false] at h2; rcases h2 with h2 | h2 <;> first | exact D2_4 b h1 h2 | exact D2_5 b h1 h2))), (by (repeat (first | with_reducible assumption | with_reducible exact Below.refl _ _ | with_reducible refine Below.setCell ?_ ?_ _ | with_reducible refine Below.alloc ?_ ?_ _ | with_reducible refine Below.drew ?_ | with_reducible refine below_drewN ?_ _ | omega | (simp; done) | (simp; omega))); all_goals first | omega | (simp; done) | (simp; omega)), fun b h => by simp only [or_false] at h; rcases h with h | h | h <;> first | (have := hF2 b h; omega) | (have := hF4 b h; omega) | (have := hF5 b h; omega)⟩


/-- Marked by value: only what lies in blocks. -/
def Hand.ms (x : Hand) (k : Int) : Hand := ⟨x.xStage, Log.ms x.xFrom (k), Log.ms x.xTo (k + ((Log.sn x.xFrom : Nat) : Int)), Draft.ml x.xWaiting (k + ((Log.sn x.xFrom : Nat) : Int) + ((Log.sn x.xTo : Nat) : Int))⟩
def Hand.sn (x : Hand) : Nat := Log.sn x.xFrom + Log.sn x.xTo + Draft.ln x.xWaiting
set_option maxHeartbeats 1600000 in
theorem laws_markHand (x : Hand) (us : List Value) (F : Nat → Prop) (k : Int) (W : World) (hO : OwL W (Hand.d true x) us F) (h0 : 0 ≤ k) (h1 : k + (Hand.sn x : Nat) ≤ 4611686018427387904) :
    Calls Try.prog 69 #[.agg us.toArray, .int .i64 k] W (MarkedL W (Hand.d true (Hand.ms x k)) us F (k + (Hand.sn x : Nat))) := by
  obtain ⟨A2, c2, A4, c4, A5, c5, rfl, r2, l2, m2, r4, l4, m4, r5, l5, m5⟩ := Hand.cells hO.lo
  clear r2 l2 m2 r4 l4 m4 r5 l5 m5
  have hFlt : ∀ b, F b → b < W.heap.size := hO.lt
  replace hO := hO.alloc (.cells #[.int .i64 x.xStage, .int .i64 x.xFrom.xNext, .slice A2 x.xFrom.xMessages.length c2, .int .i64 x.xTo.xNext, .slice A4 x.xTo.xMessages.length c4, .slice A5 x.xWaiting.length c5] 78)
  have hk := Kp.alloc1 F W (.cells #[.int .i64 x.xStage, .int .i64 x.xFrom.xNext, .slice A2 x.xFrom.xMessages.length c2, .int .i64 x.xTo.xNext, .slice A4 x.xTo.xMessages.length c4, .slice A5 x.xWaiting.length c5] 78)
  have hF' : ∀ b, F b → F b := fun _ h => h
  have hsz : W.heap.size < (W.alloc (.cells #[.int .i64 x.xStage, .int .i64 x.xFrom.xNext, .slice A2 x.xFrom.xMessages.length c2, .int .i64 x.xTo.xNext, .slice A4 x.xTo.xMessages.length c4, .slice A5 x.xWaiting.length c5] 78)).heap.size := by simp
  unfold Hand.sn at h1 ⊢
  push_cast at h1 ⊢
  go_enter Try.func69, Try.ntmps69
  obtain ⟨G0, hm0, hG0, hback0⟩ := OwL.seg (a := [.int .i64 x.xStage]) (m := Log.d true x.xFrom) (c := [.int .i64 x.xTo.xNext, Message.s true x.xTo.xMessages, Draft.s true x.xWaiting]) (ua := [.int .i64 x.xStage]) (um := [.int .i64 x.xFrom.xNext, .slice A2 x.xFrom.xMessages.length c2]) (uc := [.int .i64 x.xTo.xNext, .slice A4 x.xTo.xMessages.length c4, .slice A5 x.xWaiting.length c5]) hO rfl rfl; have hn0 : ¬ G0 W.heap.size := fun h => absurd (hFlt _ (hF' _ (hG0 _ h))) (by omega)
  go_wp2_with (first | (go_at_call 29; (with_reducible refine (laws_markLog x.xFrom [.int .i64 x.xFrom.xNext, .slice A2 x.xFrom.xMessages.length c2] _ _ _ hm0 (by omega) (by omega)).mono ?_); rintro e w0 ⟨rfl, hk0, H0, hq0, hH0⟩; obtain ⟨F0, hO0, hF0⟩ := hback0 w0 _ H0 hq0 hH0 hk0; replace hk := hk.trans hk0 (fun _ h => h) (fun b _ h => hF' b (hG0 b h)); replace hF' : ∀ b, F0 b → F b := fun b hb => hF' b (hF0 b hb); obtain ⟨hc0, hf0⟩ := kcell hk0; have hsz0 : W.heap.size < w0.heap.size := (by have := hk0.size; omega); clear hback0 hk0 hq0 hm0; obtain ⟨G1, hm1, hG1, hback1⟩ := OwL.seg (a := [.int .i64 x.xStage, .int .i64 (Log.ms x.xFrom (k)).xNext, Message.s true (Log.ms x.xFrom (k)).xMessages]) (m := Log.d true x.xTo) (c := [Draft.s true x.xWaiting]) (ua := [.int .i64 x.xStage, .int .i64 x.xFrom.xNext, .slice A2 x.xFrom.xMessages.length c2]) (um := [.int .i64 x.xTo.xNext, .slice A4 x.xTo.xMessages.length c4]) (uc := [.slice A5 x.xWaiting.length c5]) hO0 rfl rfl; have hn1 : ¬ G1 W.heap.size := fun h => absurd (hFlt _ (hF' _ (hG1 _ h))) (by omega)) | (go_at_call 29; (with_reducible refine (laws_markLog x.xTo [.int .i64 x.xTo.xNext, .slice A4 x.xTo.xMessages.length c4] _ _ _ hm1 (by omega) (by omega)).mono ?_); rintro e w1 ⟨rfl, hk1, H1, hq1, hH1⟩; obtain ⟨F1, hO1, hF1⟩ := hback1 w1 _ H1 hq1 hH1 hk1; replace hk := hk.trans hk1 (fun _ h => h) (fun b _ h => hF' b (hG1 b h)); replace hF' : ∀ b, F1 b → F b := fun b hb => hF' b (hF1 b hb); obtain ⟨hc1, hf1⟩ := kcell hk1; have hsz1 : W.heap.size < w1.heap.size := (by have := hk1.size; omega); clear hback1 hk1 hq1 hm1; obtain ⟨G2, hm2, hG2, hback2⟩ := OwL.seg1 (a := [.int .i64 x.xStage, .int .i64 (Log.ms x.xFrom (k)).xNext, Message.s true (Log.ms x.xFrom (k)).xMessages, .int .i64 (Log.ms x.xTo (k + ((Log.sn x.xFrom : Nat) : Int))).xNext, Message.s true (Log.ms x.xTo (k + ((Log.sn x.xFrom : Nat) : Int))).xMessages]) (d := Draft.s true x.xWaiting) (c := []) (ua := [.int .i64 x.xStage, .int .i64 x.xFrom.xNext, .slice A2 x.xFrom.xMessages.length c2, .int .i64 x.xTo.xNext, .slice A4 x.xTo.xMessages.length c4]) (u := .slice A5 x.xWaiting.length c5) (uc := []) hO1 rfl; have hn2 : ¬ G2 W.heap.size := fun h => absurd (hFlt _ (hF' _ (hG2 _ h))) (by omega)) | (go_at_call 145; (with_reducible refine (laws_markDraftS x.xWaiting _ _ _ _ hm2 (by omega) (by omega)).mono ?_); rintro e w2 ⟨rfl, hk2, H2, hq2, hH2⟩; obtain ⟨F2, hO2, hF2⟩ := hback2 w2 _ H2 hq2 hH2 hk2; replace hk := hk.trans hk2 (fun _ h => h) (fun b _ h => hF' b (hG2 b h)); replace hF' : ∀ b, F2 b → F b := fun b hb => hF' b (hF2 b hb); obtain ⟨hc2, hf2⟩ := kcell hk2; have hsz2 : W.heap.size < w2.heap.size := (by have := hk2.size; omega); clear hback2 hk2 hq2 hm2))
  go_ret
  exact ⟨congrArg (fun n => Ending.returned (Value.int .i64 n)) (by omega), hk, _, hO2, hF'⟩
set_option maxHeartbeats 1600000 in
theorem laws_heldHand (x : Hand) (us : List Value) (k : Int) (W : World) (hr : RoL W (Lo W.heap.size) (Hand.d true (Hand.ms x k)) us) (h0 : 0 ≤ k) (h1 : k + (Hand.sn x : Nat) ≤ 4611686018427387904) :
    Calls Try.prog 70 #[.agg us.toArray, .int .i64 k] W (fun e w' => e = .returned (.int .i64 (k + (Hand.sn x : Nat))) ∧ Below W.heap.size W w') := by
  obtain ⟨A2, c2, A4, c4, A5, c5, hus, r2, l2, m2, r4, l4, m4, r5, l5, m5⟩ := Hand.cells hr
  have e5 : (Hand.ms x k).xWaiting.length = x.xWaiting.length := Draft.ml_len _ _
  rw [e5] at hus r5 l5
  subst hus
  unfold Hand.sn at h1 ⊢
  push_cast at h1 ⊢
  have hB := Below.refl W.heap.size W
  go_enter Try.func70, Try.ntmps70
  go_wp2_with (first | (go_at_call 37; (with_reducible refine (laws_heldLog x.xFrom [.int .i64 (Hand.ms x k).xFrom.xNext, .slice A2 (Hand.ms x k).xFrom.xMessages.length c2] _ _ (RoL.cons (.int _ _) (RoL.cons (ro_to r2 (by (repeat (first | with_reducible assumption | with_reducible exact Below.refl _ _ | with_reducible refine Below.setCell ?_ ?_ _ | with_reducible refine Below.alloc ?_ ?_ _ | with_reducible refine Below.drew ?_ | with_reducible refine below_drewN ?_ _ | omega | (simp; done) | (simp; omega))); all_goals first | omega | (simp; done) | (simp; omega))) (RoL.nil))) (by omega) (by omega)).mono ?_); rintro e w0 ⟨rfl, hb0⟩; obtain ⟨hc_hb0, hf_hb0⟩ := bcell hb0; have hz0_hb0 : W.heap.size < w0.heap.size := (by have hs := hb0.size; (try simp at hs) <;> omega); have hB_hb0 : Below W.heap.size W w0 := Below.trans (by (repeat (first | with_reducible assumption | with_reducible exact Below.refl _ _ | with_reducible refine Below.setCell ?_ ?_ _ | with_reducible refine Below.alloc ?_ ?_ _ | with_reducible refine Below.drew ?_ | with_reducible refine below_drewN ?_ _ | omega | (simp; done) | (simp; omega))); all_goals first | omega | (simp; done) | (simp; omega)) (hb0.mono (by first | omega | (simp; done) | (simp; omega)))) | (go_at_call 37; (with_reducible refine (laws_heldLog x.xTo [.int .i64 (Hand.ms x k).xTo.xNext, .slice A4 (Hand.ms x k).xTo.xMessages.length c4] _ _ (RoL.cons (.int _ _) (RoL.cons (ro_to r4 (by (repeat (first | with_reducible assumption | with_reducible exact Below.refl _ _ | with_reducible refine Below.setCell ?_ ?_ _ | with_reducible refine Below.alloc ?_ ?_ _ | with_reducible refine Below.drew ?_ | with_reducible refine below_drewN ?_ _ | omega | (simp; done) | (simp; omega))); all_goals first | omega | (simp; done) | (simp; omega))) (RoL.nil))) (by omega) (by omega)).mono ?_); rintro e w1 ⟨rfl, hb1⟩; obtain ⟨hc_hb1, hf_hb1⟩ := bcell hb1; have hz0_hb1 : W.heap.size < w1.heap.size := (by have hs := hb1.size; (try simp at hs) <;> omega); have hB_hb1 : Below W.heap.size W w1 := Below.trans (by (repeat (first | with_reducible assumption | with_reducible exact Below.refl _ _ | with_reducible refine Below.setCell ?_ ?_ _ | with_reducible refine Below.alloc ?_ ?_ _ | with_reducible refine Below.drew ?_ | with_reducible refine below_drewN ?_ _ | omega | (simp; done) | (simp; omega))); all_goals first | omega | (simp; done) | (simp; omega)) (hb1.mono (by first | omega | (simp; done) | (simp; omega)))) | (go_at_call 146; (with_reducible refine (laws_heldDraftS x.xWaiting _ c5 _ _ (ro_to r5 (by (repeat (first | with_reducible assumption | with_reducible exact Below.refl _ _ | with_reducible refine Below.setCell ?_ ?_ _ | with_reducible refine Below.alloc ?_ ?_ _ | with_reducible refine Below.drew ?_ | with_reducible refine below_drewN ?_ _ | omega | (simp; done) | (simp; omega))); all_goals first | omega | (simp; done) | (simp; omega))) (by simp only [maxLen] at m5; omega) (by omega) (by omega)).mono ?_); rintro e w2 ⟨rfl, hb2⟩; obtain ⟨hc_hb2, hf_hb2⟩ := bcell hb2; have hz0_hb2 : W.heap.size < w2.heap.size := (by have hs := hb2.size; (try simp at hs) <;> omega); have hB_hb2 : Below W.heap.size W w2 := Below.trans (by (repeat (first | with_reducible assumption | with_reducible exact Below.refl _ _ | with_reducible refine Below.setCell ?_ ?_ _ | with_reducible refine Below.alloc ?_ ?_ _ | with_reducible refine Below.drew ?_ | with_reducible refine below_drewN ?_ _ | omega | (simp; done) | (simp; omega))); all_goals first | omega | (simp; done) | (simp; omega)) (hb2.mono (by first | omega | (simp; done) | (simp; omega)))))
  go_ret
  exact ⟨congrArg (fun n => Ending.returned (Value.int .i64 n)) (by omega), (by (repeat (first | with_reducible assumption | with_reducible exact Below.refl _ _ | with_reducible refine Below.setCell ?_ ?_ _ | with_reducible refine Below.alloc ?_ ?_ _ | with_reducible refine Below.drew ?_ | with_reducible refine below_drewN ?_ _ | omega | (simp; done) | (simp; omega))); all_goals first | omega | (simp; done) | (simp; omega))⟩

theorem Hand.sn_z (x : Hand) : Hand.sn x ≤ 16 * Hand.z x := by
  unfold Hand.sn Hand.z
  have hFrom := Log.sn_z x.xFrom
  have hTo := Log.sn_z x.xTo
  have hWaiting := Draft.ln_z x.xWaiting
  omega

end Go.Proofs.Ytmofbfeclecdoaa

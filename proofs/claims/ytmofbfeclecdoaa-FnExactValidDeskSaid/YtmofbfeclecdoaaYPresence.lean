/- Walks of the laws' own functions on Presence. -/
import Derived.Test.YtmofbfeclecdoaaData
import Derived.Test.YtmofbfeclecdoaaText
import Derived.Test.YtmofbfeclecdoaaYLease
import Derived.Test.YtmofbfeclecdoaaYLease
import Derived.Test.YtmofbfeclecdoaaYMark
import Derived.StillTailTactics
namespace Go.Proofs.Ytmofbfeclecdoaa
open Go.ChangeShapes Go.WideShapes Go.ChangeAt Go.RowKit Go.Dt
set_option linter.unusedVariables false
set_option linter.unusedSimpArgs false

def Presence.z (x : Presence) : Nat := (Lease.zs x.xHere) + (Lease.zs x.xTyping) + (Mark.zs x.xMarks)
def Presence.zs (l : List Presence) : Nat := l.length + (l.map fun y => Presence.z y).sum
set_option maxHeartbeats 800000 in
theorem laws_szPresence (x : Presence) (us : List Value) (left : Int) (W : World) (hr : RoL W (Lo W.heap.size) (Presence.d false x) us) (hw : Presence.wf x) (h0 : 0 ≤ left) (h1 : left ≤ 1048576) :
    Calls Try.prog 108 #[.agg us.toArray, .int .i64 left] W fun e w' => e = .returned (.int .i64 (szr left (Presence.z x))) ∧ Below W.heap.size W w' := by
  obtain ⟨A0, c0, A1, c1, A2, c2, rfl, r0, l0, m0, r1, l1, m1, r2, l2, m2⟩ := Presence.cells hr
  have hz : Presence.z x = (Lease.zs x.xHere) + (Lease.zs x.xTyping) + (Mark.zs x.xMarks) := rfl
  have b0 : True := trivial
  have b1 : True := trivial
  have b2 : True := trivial
  have hwl0 : ∀ y ∈ x.xHere, Lease.wf y := by have := hw; simp only [Presence.wf] at this; simp_all
  have hwl1 : ∀ y ∈ x.xTyping, Lease.wf y := by have := hw; simp only [Presence.wf] at this; simp_all
  have hwl2 : ∀ y ∈ x.xMarks, Mark.wf y := by have := hw; simp only [Presence.wf] at this; simp_all
  by_cases g0 : (((Lease.zs x.xHere) : Nat) : Int) ≤ left
  · have G0 := g0
    by_cases g1 : (((Lease.zs x.xTyping) : Nat) : Int) ≤ left - ((Lease.zs x.xHere) : Nat)
    · have G1 := g1
      by_cases g2 : (((Mark.zs x.xMarks) : Nat) : Int) ≤ left - ((Lease.zs x.xHere) : Nat) - ((Lease.zs x.xTyping) : Nat)
      · have G2 := g2
        have H := Lib.hid (show szr left (Presence.z x) = left - ((Lease.zs x.xHere) : Nat) - ((Lease.zs x.xTyping) : Nat) - ((Mark.zs x.xMarks) : Nat) from by rw [szr_yes (by rw [hz]; push_cast; omega), hz] <;> (try push_cast) <;> omega)
        have S0 := Lib.hid (szr_yes (left := left) g0)
        have S1 := Lib.hid (szr_yes (left := left - ((Lease.zs x.xHere) : Nat)) g1)
        have S2 := Lib.hid (szr_yes (left := left - ((Lease.zs x.xHere) : Nat) - ((Lease.zs x.xTyping) : Nat)) g2)
        clear hz hw
        clear G0
        clear G1
        clear G2
        go_enter Try.func108, Try.ntmps108
        go_wp2_with fail
        refine (laws_szLeaseS x.xHere _ _ _ _ (ro_to r0 (by (repeat (first | with_reducible assumption | with_reducible exact Below.refl _ _ | with_reducible refine Below.setCell ?_ ?_ _ | with_reducible refine Below.alloc ?_ ?_ _ | with_reducible refine Below.drew ?_ | with_reducible refine below_drewN ?_ _ | omega | (simp; done) | (simp; omega))); all_goals first | omega | (simp; done) | (simp; omega))) (by first | exact hwl0 | assumption) l0 m0 (by omega) (by omega)).mono ?_
        rintro e w1 ⟨rfl, hb0⟩
        obtain ⟨hc0, hf0⟩ := bcell hb0
        have hz0 : W.heap.size < w1.heap.size := (by have hs := hb0.size; (try simp at hs) <;> omega)
        have hB0 : Below W.heap.size W w1 := Below.trans (by (repeat (first | with_reducible assumption | with_reducible exact Below.refl _ _ | with_reducible refine Below.setCell ?_ ?_ _ | with_reducible refine Below.alloc ?_ ?_ _ | with_reducible refine Below.drew ?_ | with_reducible refine below_drewN ?_ _ | omega | (simp; done) | (simp; omega))); all_goals first | omega | (simp; done) | (simp; omega)) (hb0.mono (by first | omega | (simp; done) | (simp; omega)))
        rw [S0.out]
        go_wp2_with fail
        refine (laws_szLeaseS x.xTyping _ _ _ _ (ro_to r1 (by (repeat (first | with_reducible assumption | with_reducible exact Below.refl _ _ | with_reducible refine Below.setCell ?_ ?_ _ | with_reducible refine Below.alloc ?_ ?_ _ | with_reducible refine Below.drew ?_ | with_reducible refine below_drewN ?_ _ | omega | (simp; done) | (simp; omega))); all_goals first | omega | (simp; done) | (simp; omega))) (by first | exact hwl1 | assumption) l1 m1 (by omega) (by omega)).mono ?_
        rintro e w1 ⟨rfl, hb1⟩
        obtain ⟨hc1, hf1⟩ := bcell hb1
        have hz1 : W.heap.size < w1.heap.size := (by have hs := hb1.size; (try simp at hs) <;> omega)
        have hB1 : Below W.heap.size W w1 := Below.trans (by (repeat (first | with_reducible assumption | with_reducible exact Below.refl _ _ | with_reducible refine Below.setCell ?_ ?_ _ | with_reducible refine Below.alloc ?_ ?_ _ | with_reducible refine Below.drew ?_ | with_reducible refine below_drewN ?_ _ | omega | (simp; done) | (simp; omega))); all_goals first | omega | (simp; done) | (simp; omega)) (hb1.mono (by first | omega | (simp; done) | (simp; omega)))
        rw [S1.out]
        go_wp2_with fail
        refine (laws_szMarkS x.xMarks _ _ _ _ (ro_to r2 (by (repeat (first | with_reducible assumption | with_reducible exact Below.refl _ _ | with_reducible refine Below.setCell ?_ ?_ _ | with_reducible refine Below.alloc ?_ ?_ _ | with_reducible refine Below.drew ?_ | with_reducible refine below_drewN ?_ _ | omega | (simp; done) | (simp; omega))); all_goals first | omega | (simp; done) | (simp; omega))) (by first | exact hwl2 | assumption) l2 m2 (by omega) (by omega)).mono ?_
        rintro e w1 ⟨rfl, hb2⟩
        obtain ⟨hc2, hf2⟩ := bcell hb2
        have hz2 : W.heap.size < w1.heap.size := (by have hs := hb2.size; (try simp at hs) <;> omega)
        have hB2 : Below W.heap.size W w1 := Below.trans (by (repeat (first | with_reducible assumption | with_reducible exact Below.refl _ _ | with_reducible refine Below.setCell ?_ ?_ _ | with_reducible refine Below.alloc ?_ ?_ _ | with_reducible refine Below.drew ?_ | with_reducible refine below_drewN ?_ _ | omega | (simp; done) | (simp; omega))); all_goals first | omega | (simp; done) | (simp; omega)) (hb2.mono (by first | omega | (simp; done) | (simp; omega)))
        rw [S2.out]
        go_wp2
        go_ret
        exact ⟨by rw [H.out]; rfl, (by (repeat (first | with_reducible assumption | with_reducible exact Below.refl _ _ | with_reducible refine Below.setCell ?_ ?_ _ | with_reducible refine Below.alloc ?_ ?_ _ | with_reducible refine Below.drew ?_ | with_reducible refine below_drewN ?_ _ | omega | (simp; done) | (simp; omega))); all_goals first | omega | (simp; done) | (simp; omega))⟩
      · have G2 := g2
        have H := Lib.hid (show szr left (Presence.z x) = -1 from szr_no (by rw [hz]; push_cast; omega))
        have S0 := Lib.hid (szr_yes (left := left) g0)
        have S1 := Lib.hid (szr_yes (left := left - ((Lease.zs x.xHere) : Nat)) g1)
        have S2 := Lib.hid (szr_no (left := left - ((Lease.zs x.xHere) : Nat) - ((Lease.zs x.xTyping) : Nat)) g2)
        clear hz hw
        clear G0
        clear G1
        clear G2
        go_enter Try.func108, Try.ntmps108
        go_wp2_with fail
        refine (laws_szLeaseS x.xHere _ _ _ _ (ro_to r0 (by (repeat (first | with_reducible assumption | with_reducible exact Below.refl _ _ | with_reducible refine Below.setCell ?_ ?_ _ | with_reducible refine Below.alloc ?_ ?_ _ | with_reducible refine Below.drew ?_ | with_reducible refine below_drewN ?_ _ | omega | (simp; done) | (simp; omega))); all_goals first | omega | (simp; done) | (simp; omega))) (by first | exact hwl0 | assumption) l0 m0 (by omega) (by omega)).mono ?_
        rintro e w1 ⟨rfl, hb0⟩
        obtain ⟨hc0, hf0⟩ := bcell hb0
        have hz0 : W.heap.size < w1.heap.size := (by have hs := hb0.size; (try simp at hs) <;> omega)
        have hB0 : Below W.heap.size W w1 := Below.trans (by (repeat (first | with_reducible assumption | with_reducible exact Below.refl _ _ | with_reducible refine Below.setCell ?_ ?_ _ | with_reducible refine Below.alloc ?_ ?_ _ | with_reducible refine Below.drew ?_ | with_reducible refine below_drewN ?_ _ | omega | (simp; done) | (simp; omega))); all_goals first | omega | (simp; done) | (simp; omega)) (hb0.mono (by first | omega | (simp; done) | (simp; omega)))
        rw [S0.out]
        go_wp2_with fail
        refine (laws_szLeaseS x.xTyping _ _ _ _ (ro_to r1 (by (repeat (first | with_reducible assumption | with_reducible exact Below.refl _ _ | with_reducible refine Below.setCell ?_ ?_ _ | with_reducible refine Below.alloc ?_ ?_ _ | with_reducible refine Below.drew ?_ | with_reducible refine below_drewN ?_ _ | omega | (simp; done) | (simp; omega))); all_goals first | omega | (simp; done) | (simp; omega))) (by first | exact hwl1 | assumption) l1 m1 (by omega) (by omega)).mono ?_
        rintro e w1 ⟨rfl, hb1⟩
        obtain ⟨hc1, hf1⟩ := bcell hb1
        have hz1 : W.heap.size < w1.heap.size := (by have hs := hb1.size; (try simp at hs) <;> omega)
        have hB1 : Below W.heap.size W w1 := Below.trans (by (repeat (first | with_reducible assumption | with_reducible exact Below.refl _ _ | with_reducible refine Below.setCell ?_ ?_ _ | with_reducible refine Below.alloc ?_ ?_ _ | with_reducible refine Below.drew ?_ | with_reducible refine below_drewN ?_ _ | omega | (simp; done) | (simp; omega))); all_goals first | omega | (simp; done) | (simp; omega)) (hb1.mono (by first | omega | (simp; done) | (simp; omega)))
        rw [S1.out]
        go_wp2_with fail
        refine (laws_szMarkS x.xMarks _ _ _ _ (ro_to r2 (by (repeat (first | with_reducible assumption | with_reducible exact Below.refl _ _ | with_reducible refine Below.setCell ?_ ?_ _ | with_reducible refine Below.alloc ?_ ?_ _ | with_reducible refine Below.drew ?_ | with_reducible refine below_drewN ?_ _ | omega | (simp; done) | (simp; omega))); all_goals first | omega | (simp; done) | (simp; omega))) (by first | exact hwl2 | assumption) l2 m2 (by omega) (by omega)).mono ?_
        rintro e w1 ⟨rfl, hb2⟩
        obtain ⟨hc2, hf2⟩ := bcell hb2
        have hz2 : W.heap.size < w1.heap.size := (by have hs := hb2.size; (try simp at hs) <;> omega)
        have hB2 : Below W.heap.size W w1 := Below.trans (by (repeat (first | with_reducible assumption | with_reducible exact Below.refl _ _ | with_reducible refine Below.setCell ?_ ?_ _ | with_reducible refine Below.alloc ?_ ?_ _ | with_reducible refine Below.drew ?_ | with_reducible refine below_drewN ?_ _ | omega | (simp; done) | (simp; omega))); all_goals first | omega | (simp; done) | (simp; omega)) (hb2.mono (by first | omega | (simp; done) | (simp; omega)))
        rw [S2.out]
        go_wp2
        go_ret
        exact ⟨by rw [H.out]; rfl, (by (repeat (first | with_reducible assumption | with_reducible exact Below.refl _ _ | with_reducible refine Below.setCell ?_ ?_ _ | with_reducible refine Below.alloc ?_ ?_ _ | with_reducible refine Below.drew ?_ | with_reducible refine below_drewN ?_ _ | omega | (simp; done) | (simp; omega))); all_goals first | omega | (simp; done) | (simp; omega))⟩
    · have G1 := g1
      have H := Lib.hid (show szr left (Presence.z x) = -1 from szr_no (by rw [hz]; push_cast; omega))
      have S0 := Lib.hid (szr_yes (left := left) g0)
      have S1 := Lib.hid (szr_no (left := left - ((Lease.zs x.xHere) : Nat)) g1)
      clear hz hw
      clear G0
      clear G1
      go_enter Try.func108, Try.ntmps108
      go_wp2_with fail
      refine (laws_szLeaseS x.xHere _ _ _ _ (ro_to r0 (by (repeat (first | with_reducible assumption | with_reducible exact Below.refl _ _ | with_reducible refine Below.setCell ?_ ?_ _ | with_reducible refine Below.alloc ?_ ?_ _ | with_reducible refine Below.drew ?_ | with_reducible refine below_drewN ?_ _ | omega | (simp; done) | (simp; omega))); all_goals first | omega | (simp; done) | (simp; omega))) (by first | exact hwl0 | assumption) l0 m0 (by omega) (by omega)).mono ?_
      rintro e w1 ⟨rfl, hb0⟩
      obtain ⟨hc0, hf0⟩ := bcell hb0
      have hz0 : W.heap.size < w1.heap.size := (by have hs := hb0.size; (try simp at hs) <;> omega)
      have hB0 : Below W.heap.size W w1 := Below.trans (by (repeat (first | with_reducible assumption | with_reducible exact Below.refl _ _ | with_reducible refine Below.setCell ?_ ?_ _ | with_reducible refine Below.alloc ?_ ?_ _ | with_reducible refine Below.drew ?_ | with_reducible refine below_drewN ?_ _ | omega | (simp; done) | (simp; omega))); all_goals first | omega | (simp; done) | (simp; omega)) (hb0.mono (by first | omega | (simp; done) | (simp; omega)))
      rw [S0.out]
      go_wp2_with fail
      refine (laws_szLeaseS x.xTyping _ _ _ _ (ro_to r1 (by (repeat (first | with_reducible assumption | with_reducible exact Below.refl _ _ | with_reducible refine Below.setCell ?_ ?_ _ | with_reducible refine Below.alloc ?_ ?_ _ | with_reducible refine Below.drew ?_ | with_reducible refine below_drewN ?_ _ | omega | (simp; done) | (simp; omega))); all_goals first | omega | (simp; done) | (simp; omega))) (by first | exact hwl1 | assumption) l1 m1 (by omega) (by omega)).mono ?_
      rintro e w1 ⟨rfl, hb1⟩
      obtain ⟨hc1, hf1⟩ := bcell hb1
      have hz1 : W.heap.size < w1.heap.size := (by have hs := hb1.size; (try simp at hs) <;> omega)
      have hB1 : Below W.heap.size W w1 := Below.trans (by (repeat (first | with_reducible assumption | with_reducible exact Below.refl _ _ | with_reducible refine Below.setCell ?_ ?_ _ | with_reducible refine Below.alloc ?_ ?_ _ | with_reducible refine Below.drew ?_ | with_reducible refine below_drewN ?_ _ | omega | (simp; done) | (simp; omega))); all_goals first | omega | (simp; done) | (simp; omega)) (hb1.mono (by first | omega | (simp; done) | (simp; omega)))
      rw [S1.out]
      go_wp2
      go_ret
      exact ⟨by rw [H.out]; rfl, (by (repeat (first | with_reducible assumption | with_reducible exact Below.refl _ _ | with_reducible refine Below.setCell ?_ ?_ _ | with_reducible refine Below.alloc ?_ ?_ _ | with_reducible refine Below.drew ?_ | with_reducible refine below_drewN ?_ _ | omega | (simp; done) | (simp; omega))); all_goals first | omega | (simp; done) | (simp; omega))⟩
  · have G0 := g0
    have H := Lib.hid (show szr left (Presence.z x) = -1 from szr_no (by rw [hz]; push_cast; omega))
    have S0 := Lib.hid (szr_no (left := left) g0)
    clear hz hw
    clear G0
    go_enter Try.func108, Try.ntmps108
    go_wp2_with fail
    refine (laws_szLeaseS x.xHere _ _ _ _ (ro_to r0 (by (repeat (first | with_reducible assumption | with_reducible exact Below.refl _ _ | with_reducible refine Below.setCell ?_ ?_ _ | with_reducible refine Below.alloc ?_ ?_ _ | with_reducible refine Below.drew ?_ | with_reducible refine below_drewN ?_ _ | omega | (simp; done) | (simp; omega))); all_goals first | omega | (simp; done) | (simp; omega))) (by first | exact hwl0 | assumption) l0 m0 (by omega) (by omega)).mono ?_
    rintro e w1 ⟨rfl, hb0⟩
    obtain ⟨hc0, hf0⟩ := bcell hb0
    have hz0 : W.heap.size < w1.heap.size := (by have hs := hb0.size; (try simp at hs) <;> omega)
    have hB0 : Below W.heap.size W w1 := Below.trans (by (repeat (first | with_reducible assumption | with_reducible exact Below.refl _ _ | with_reducible refine Below.setCell ?_ ?_ _ | with_reducible refine Below.alloc ?_ ?_ _ | with_reducible refine Below.drew ?_ | with_reducible refine below_drewN ?_ _ | omega | (simp; done) | (simp; omega))); all_goals first | omega | (simp; done) | (simp; omega)) (hb0.mono (by first | omega | (simp; done) | (simp; omega)))
    rw [S0.out]
    go_wp2
    go_ret
    exact ⟨by rw [H.out]; rfl, (by (repeat (first | with_reducible assumption | with_reducible exact Below.refl _ _ | with_reducible refine Below.setCell ?_ ?_ _ | with_reducible refine Below.alloc ?_ ?_ _ | with_reducible refine Below.drew ?_ | with_reducible refine below_drewN ?_ _ | omega | (simp; done) | (simp; omega))); all_goals first | omega | (simp; done) | (simp; omega))⟩

theorem Presence.dec (x y : Presence) : decide (x = y) = (decide (x.xHere = y.xHere) && decide (x.xTyping = y.xTyping) && decide (x.xMarks = y.xMarks)) := by
  cases x; cases y
  simp only [Presence.mk.injEq, Bool.decide_and, Bool.and_assoc]

set_option maxHeartbeats 1000000 in
theorem laws_eqPresence (x y : Presence) (us vs : List Value) (W : World) (hr : RoL W (Lo W.heap.size) (Presence.d true x) us) (hs : RoL W (Lo W.heap.size) (Presence.d true y) vs) :
    Calls Try.prog 114 #[.agg us.toArray, .agg vs.toArray] W fun e w' => e = .returned (.bool (decide (x = y))) ∧ Below W.heap.size W w' := by
  obtain ⟨A0, c0, A1, c1, A2, c2, rfl, r0, l0, m0, r1, l1, m1, r2, l2, m2⟩ := Presence.cells hr
  obtain ⟨Ap0, cp0, Ap1, cp1, Ap2, cp2, rfl, rp0, lp0, mp0, rp1, lp1, mp1, rp2, lp2, mp2⟩ := Presence.cells hs
  have HD := Lib.hid (Presence.dec x y)
  go_enter Try.func114, Try.ntmps114
  go_wp2_with (first | (go_at_call 179; (with_reducible refine (laws_eqLeaseS x.xHere y.xHere _ _ _ _ _ (ro_to r0 (by (repeat (first | with_reducible assumption | with_reducible exact Below.refl _ _ | with_reducible refine Below.setCell ?_ ?_ _ | with_reducible refine Below.alloc ?_ ?_ _ | with_reducible refine Below.drew ?_ | with_reducible refine below_drewN ?_ _ | omega | (simp; done) | (simp; omega))); all_goals first | omega | (simp; done) | (simp; omega))) (ro_to rp0 (by (repeat (first | with_reducible assumption | with_reducible exact Below.refl _ _ | with_reducible refine Below.setCell ?_ ?_ _ | with_reducible refine Below.alloc ?_ ?_ _ | with_reducible refine Below.drew ?_ | with_reducible refine below_drewN ?_ _ | omega | (simp; done) | (simp; omega))); all_goals first | omega | (simp; done) | (simp; omega))) m0 mp0 l0 lp0).mono ?_); rintro e w1 ⟨rfl, hbHere⟩; obtain ⟨hc_hbHere, hf_hbHere⟩ := bcell hbHere; have hz0_hbHere : W.heap.size < w1.heap.size := (by have hs := hbHere.size; (try simp at hs) <;> omega); have hz1_hbHere : W.heap.size + 1 < w1.heap.size := (by have hs := hbHere.size; (try simp at hs) <;> omega); have hB_hbHere : Below W.heap.size W w1 := Below.trans (by (repeat (first | with_reducible assumption | with_reducible exact Below.refl _ _ | with_reducible refine Below.setCell ?_ ?_ _ | with_reducible refine Below.alloc ?_ ?_ _ | with_reducible refine Below.drew ?_ | with_reducible refine below_drewN ?_ _ | omega | (simp; done) | (simp; omega))); all_goals first | omega | (simp; done) | (simp; omega)) (hbHere.mono (by first | omega | (simp; done) | (simp; omega)))) | (go_at_call 179; (with_reducible refine (laws_eqLeaseS x.xTyping y.xTyping _ _ _ _ _ (ro_to r1 (by (repeat (first | with_reducible assumption | with_reducible exact Below.refl _ _ | with_reducible refine Below.setCell ?_ ?_ _ | with_reducible refine Below.alloc ?_ ?_ _ | with_reducible refine Below.drew ?_ | with_reducible refine below_drewN ?_ _ | omega | (simp; done) | (simp; omega))); all_goals first | omega | (simp; done) | (simp; omega))) (ro_to rp1 (by (repeat (first | with_reducible assumption | with_reducible exact Below.refl _ _ | with_reducible refine Below.setCell ?_ ?_ _ | with_reducible refine Below.alloc ?_ ?_ _ | with_reducible refine Below.drew ?_ | with_reducible refine below_drewN ?_ _ | omega | (simp; done) | (simp; omega))); all_goals first | omega | (simp; done) | (simp; omega))) m1 mp1 l1 lp1).mono ?_); rintro e w1 ⟨rfl, hbTyping⟩; obtain ⟨hc_hbTyping, hf_hbTyping⟩ := bcell hbTyping; have hz0_hbTyping : W.heap.size < w1.heap.size := (by have hs := hbTyping.size; (try simp at hs) <;> omega); have hz1_hbTyping : W.heap.size + 1 < w1.heap.size := (by have hs := hbTyping.size; (try simp at hs) <;> omega); have hB_hbTyping : Below W.heap.size W w1 := Below.trans (by (repeat (first | with_reducible assumption | with_reducible exact Below.refl _ _ | with_reducible refine Below.setCell ?_ ?_ _ | with_reducible refine Below.alloc ?_ ?_ _ | with_reducible refine Below.drew ?_ | with_reducible refine below_drewN ?_ _ | omega | (simp; done) | (simp; omega))); all_goals first | omega | (simp; done) | (simp; omega)) (hbTyping.mono (by first | omega | (simp; done) | (simp; omega)))) | (go_at_call 180; (with_reducible refine (laws_eqMarkS x.xMarks y.xMarks _ _ _ _ _ (ro_to r2 (by (repeat (first | with_reducible assumption | with_reducible exact Below.refl _ _ | with_reducible refine Below.setCell ?_ ?_ _ | with_reducible refine Below.alloc ?_ ?_ _ | with_reducible refine Below.drew ?_ | with_reducible refine below_drewN ?_ _ | omega | (simp; done) | (simp; omega))); all_goals first | omega | (simp; done) | (simp; omega))) (ro_to rp2 (by (repeat (first | with_reducible assumption | with_reducible exact Below.refl _ _ | with_reducible refine Below.setCell ?_ ?_ _ | with_reducible refine Below.alloc ?_ ?_ _ | with_reducible refine Below.drew ?_ | with_reducible refine below_drewN ?_ _ | omega | (simp; done) | (simp; omega))); all_goals first | omega | (simp; done) | (simp; omega))) m2 mp2 l2 lp2).mono ?_); rintro e w1 ⟨rfl, hbMarks⟩; obtain ⟨hc_hbMarks, hf_hbMarks⟩ := bcell hbMarks; have hz0_hbMarks : W.heap.size < w1.heap.size := (by have hs := hbMarks.size; (try simp at hs) <;> omega); have hz1_hbMarks : W.heap.size + 1 < w1.heap.size := (by have hs := hbMarks.size; (try simp at hs) <;> omega); have hB_hbMarks : Below W.heap.size W w1 := Below.trans (by (repeat (first | with_reducible assumption | with_reducible exact Below.refl _ _ | with_reducible refine Below.setCell ?_ ?_ _ | with_reducible refine Below.alloc ?_ ?_ _ | with_reducible refine Below.drew ?_ | with_reducible refine below_drewN ?_ _ | omega | (simp; done) | (simp; omega))); all_goals first | omega | (simp; done) | (simp; omega)) (hbMarks.mono (by first | omega | (simp; done) | (simp; omega)))))
  all_goals (go_ret; exact ⟨by rw [HD.out]; simp_all [bytes_inj], (by (repeat (first | with_reducible assumption | with_reducible exact Below.refl _ _ | with_reducible refine Below.setCell ?_ ?_ _ | with_reducible refine Below.alloc ?_ ?_ _ | with_reducible refine Below.drew ?_ | with_reducible refine below_drewN ?_ _ | omega | (simp; done) | (simp; omega))); all_goals first | omega | (simp; done) | (simp; omega))⟩)

set_option maxHeartbeats 1600000 in
set_option maxRecDepth 100000 in
theorem laws_toPresence (x : Presence) (us : List Value) (W : World) (hr : RoL W (Lo W.heap.size) (Presence.d false x) us) (hz : Presence.z x ≤ 1048576) :
    Calls Try.prog 110 #[.agg us.toArray] W (MadeL W (Presence.d true x)) := by
  obtain ⟨A0, c0, A1, c1, A2, c2, rfl, r0, l0, m0, r1, l1, m1, r2, l2, m2⟩ := Presence.cells hr
  have hz' := hz
  unfold Presence.z at hz'
  clear hz
  have hzHere : Lease.zs x.xHere ≤ 1048576 := by omega
  have hzTyping : Lease.zs x.xTyping ≤ 1048576 := by omega
  have hzMarks : Mark.zs x.xMarks ≤ 1048576 := by omega
  clear hz'
  go_enter Try.func110, Try.ntmps110
  go_wp2_with fail
  refine (laws_toLeaseS x.xHere _ _ _ (ro_to r0 (by (repeat (first | with_reducible assumption | with_reducible exact Below.refl _ _ | with_reducible refine Below.setCell ?_ ?_ _ | with_reducible refine Below.alloc ?_ ?_ _ | with_reducible refine Below.drew ?_ | with_reducible refine below_drewN ?_ _ | omega | (simp; done) | (simp; omega))); all_goals first | omega | (simp; done) | (simp; omega))) hzHere).mono ?_
  rintro e w1 ⟨v0, F0, rfl, hO0, hb1, hG1⟩
  obtain ⟨B0, k0, rfl, lo0, mo0⟩ := hO0.shape
  simp only [List.length_map] at hO0 lo0 ⊢
  have hF0 : ∀ b, F0 b → W.heap.size + 3 ≤ b := fun b hb => by have h := hG1 b hb; (try simp at h) <;> omega
  obtain ⟨hc1, hf1⟩ := bcell hb1
  have hy1_0 : W.heap.size < w1.heap.size := (by have hs := hb1.size; (try simp at hs) <;> omega)
  have hy1_1 : W.heap.size + 1 < w1.heap.size := (by have hs := hb1.size; (try simp at hs) <;> omega)
  have hy1_2 : W.heap.size + 2 < w1.heap.size := (by have hs := hb1.size; (try simp at hs) <;> omega)
  have hB1 : Below W.heap.size W w1 := Below.trans (by (repeat (first | with_reducible assumption | with_reducible exact Below.refl _ _ | with_reducible refine Below.setCell ?_ ?_ _ | with_reducible refine Below.alloc ?_ ?_ _ | with_reducible refine Below.drew ?_ | with_reducible refine below_drewN ?_ _ | omega | (simp; done) | (simp; omega))); all_goals first | omega | (simp; done) | (simp; omega)) (hb1.mono (by first | omega | (simp; done) | (simp; omega)))
  have hL0_ : ∀ b, F0 b → b < w1.heap.size := hO0.lt
  go_wp2_with fail
  refine (laws_toLeaseS x.xTyping _ _ _ (ro_to r1 (by (repeat (first | with_reducible assumption | with_reducible exact Below.refl _ _ | with_reducible refine Below.setCell ?_ ?_ _ | with_reducible refine Below.alloc ?_ ?_ _ | with_reducible refine Below.drew ?_ | with_reducible refine below_drewN ?_ _ | omega | (simp; done) | (simp; omega))); all_goals first | omega | (simp; done) | (simp; omega))) hzTyping).mono ?_
  rintro e w2 ⟨v1, F1, rfl, hO1, hb2, hG2⟩
  obtain ⟨B1, k1, rfl, lo1, mo1⟩ := hO1.shape
  simp only [List.length_map] at hO1 lo1 ⊢
  have hF1 : ∀ b, F1 b → W.heap.size + 3 ≤ b := fun b hb => by have h := hG2 b hb; (try simp at h) <;> omega
  obtain ⟨hc2, hf2⟩ := bcell hb2
  have hy2_0 : W.heap.size < w2.heap.size := (by have hs := hb2.size; (try simp at hs) <;> omega)
  have hy2_1 : W.heap.size + 1 < w2.heap.size := (by have hs := hb2.size; (try simp at hs) <;> omega)
  have hy2_2 : W.heap.size + 2 < w2.heap.size := (by have hs := hb2.size; (try simp at hs) <;> omega)
  have hB2 : Below W.heap.size W w2 := Below.trans (by (repeat (first | with_reducible assumption | with_reducible exact Below.refl _ _ | with_reducible refine Below.setCell ?_ ?_ _ | with_reducible refine Below.alloc ?_ ?_ _ | with_reducible refine Below.drew ?_ | with_reducible refine below_drewN ?_ _ | omega | (simp; done) | (simp; omega))); all_goals first | omega | (simp; done) | (simp; omega)) (hb2.mono (by first | omega | (simp; done) | (simp; omega)))
  have hs2 : w1.heap.size ≤ w2.heap.size := (by have hs := hb2.size; (try simp at hs) <;> omega)
  replace hO0 := (show Ow _ (Lease.s true x.xHere) (.slice B0 x.xHere.length k0) F0 from (by repeat (first | with_reducible exact hO0 | with_reducible refine Ow.far ?_ ?_ _ | with_reducible refine Ow.alloc ?_ _ | with_reducible refine Ow.drew ?_ | exact (fun h => absurd (hF0 _ h) (by first | omega | (simp; done) | (simp; omega)))))).keep hb2
  have hL1_ : ∀ b, F1 b → b < w2.heap.size := hO1.lt
  have D0_1 : ∀ b, F0 b → ¬ F1 b := fun b h1 h2 => by have a1 := hL0_ b h1; have a2 := hG2 b h2; (try simp at a2) <;> omega
  go_wp2_with fail
  refine (laws_toMarkS x.xMarks _ _ _ (ro_to r2 (by (repeat (first | with_reducible assumption | with_reducible exact Below.refl _ _ | with_reducible refine Below.setCell ?_ ?_ _ | with_reducible refine Below.alloc ?_ ?_ _ | with_reducible refine Below.drew ?_ | with_reducible refine below_drewN ?_ _ | omega | (simp; done) | (simp; omega))); all_goals first | omega | (simp; done) | (simp; omega))) hzMarks).mono ?_
  rintro e w3 ⟨v2, F2, rfl, hO2, hb3, hG3⟩
  obtain ⟨B2, k2, rfl, lo2, mo2⟩ := hO2.shape
  simp only [List.length_map] at hO2 lo2 ⊢
  have hF2 : ∀ b, F2 b → W.heap.size + 3 ≤ b := fun b hb => by have h := hG3 b hb; (try simp at h) <;> omega
  obtain ⟨hc3, hf3⟩ := bcell hb3
  have hy3_0 : W.heap.size < w3.heap.size := (by have hs := hb3.size; (try simp at hs) <;> omega)
  have hy3_1 : W.heap.size + 1 < w3.heap.size := (by have hs := hb3.size; (try simp at hs) <;> omega)
  have hy3_2 : W.heap.size + 2 < w3.heap.size := (by have hs := hb3.size; (try simp at hs) <;> omega)
  have hB3 : Below W.heap.size W w3 := Below.trans (by (repeat (first | with_reducible assumption | with_reducible exact Below.refl _ _ | with_reducible refine Below.setCell ?_ ?_ _ | with_reducible refine Below.alloc ?_ ?_ _ | with_reducible refine Below.drew ?_ | with_reducible refine below_drewN ?_ _ | omega | (simp; done) | (simp; omega))); all_goals first | omega | (simp; done) | (simp; omega)) (hb3.mono (by first | omega | (simp; done) | (simp; omega)))
  have hs3 : w2.heap.size ≤ w3.heap.size := (by have hs := hb3.size; (try simp at hs) <;> omega)
  replace hO0 := (show Ow _ (Lease.s true x.xHere) (.slice B0 x.xHere.length k0) F0 from (by repeat (first | with_reducible exact hO0 | with_reducible refine Ow.far ?_ ?_ _ | with_reducible refine Ow.alloc ?_ _ | with_reducible refine Ow.drew ?_ | exact (fun h => absurd (hF0 _ h) (by first | omega | (simp; done) | (simp; omega)))))).keep hb3
  replace hO1 := (show Ow _ (Lease.s true x.xTyping) (.slice B1 x.xTyping.length k1) F1 from (by repeat (first | with_reducible exact hO1 | with_reducible refine Ow.far ?_ ?_ _ | with_reducible refine Ow.alloc ?_ _ | with_reducible refine Ow.drew ?_ | exact (fun h => absurd (hF1 _ h) (by first | omega | (simp; done) | (simp; omega)))))).keep hb3
  have hL2_ : ∀ b, F2 b → b < w3.heap.size := hO2.lt
  have D0_2 : ∀ b, F0 b → ¬ F2 b := fun b h1 h2 => by have a1 := hL0_ b h1; have a2 := hG3 b h2; (try simp at a2) <;> omega
  have D1_2 : ∀ b, F1 b → ¬ F2 b := fun b h1 h2 => by have a1 := hL1_ b h1; have a2 := hG3 b h2; (try simp at a2) <;> omega
  go_wp2
  exact bodyPost_ret (v := .agg #[.slice B0 x.xHere.length k0, .slice B1 x.xTyping.length k1, .slice B2 x.xMarks.length k2]) (by simp [results, Try.results110, go_sem, hc1, hf1, hy1_0, hy1_1, hy1_2, hc2, hf2, hy2_0, hy2_1, hy2_2, hc3, hf3, hy3_0, hy3_1, hy3_2]) rfl ⟨[.slice B0 x.xHere.length k0, .slice B1 x.xTyping.length k1, .slice B2 x.xMarks.length k2], _, rfl, OwL.cons (show Ow _ _ _ F0 from (by repeat (first | with_reducible exact hO0 | with_reducible refine Ow.far ?_ ?_ _ | with_reducible refine Ow.alloc ?_ _ | with_reducible refine Ow.drew ?_ | exact (fun h => absurd (hF0 _ h) (by first | omega | (simp; done) | (simp; omega)))))) (OwL.cons (show Ow _ _ _ F1 from (by repeat (first | with_reducible exact hO1 | with_reducible refine Ow.far ?_ ?_ _ | with_reducible refine Ow.alloc ?_ _ | with_reducible refine Ow.drew ?_ | exact (fun h => absurd (hF1 _ h) (by first | omega | (simp; done) | (simp; omega)))))) (OwL.cons (show Ow _ _ _ F2 from (by repeat (first | with_reducible exact hO2 | with_reducible refine Ow.far ?_ ?_ _ | with_reducible refine Ow.alloc ?_ _ | with_reducible refine Ow.drew ?_ | exact (fun h => absurd (hF2 _ h) (by first | omega | (simp; done) | (simp; omega)))))) (OwL.nil) (fun b h1 h2 => h2)) (fun b h1 h2 => by simp only [or_false] at h2; exact D1_2 b h1 h2)) (fun b h1 h2 => by simp only [or_false] at h2; rcases h2 with h2 | h2 <;> first | exact D0_1 b h1 h2 | exact D0_2 b h1 h2), (by (repeat (first | with_reducible assumption | with_reducible exact Below.refl _ _ | with_reducible refine Below.setCell ?_ ?_ _ | with_reducible refine Below.alloc ?_ ?_ _ | with_reducible refine Below.drew ?_ | with_reducible refine below_drewN ?_ _ | omega | (simp; done) | (simp; omega))); all_goals first | omega | (simp; done) | (simp; omega)), fun b h => by simp only [or_false] at h; rcases h with h | h | h <;> first | (have := hF0 b h; omega) | (have := hF1 b h; omega) | (have := hF2 b h; omega)⟩


end Go.Proofs.Ytmofbfeclecdoaa

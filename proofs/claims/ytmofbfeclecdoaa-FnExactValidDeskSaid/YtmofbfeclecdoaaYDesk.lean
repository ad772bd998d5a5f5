/- Walks of the laws' own functions on Desk. -/
import Derived.Test.YtmofbfeclecdoaaData
import Derived.Test.YtmofbfeclecdoaaText
import Derived.Test.YtmofbfeclecdoaaYLog
import Derived.Test.YtmofbfeclecdoaaYPresence
import Derived.StillTailTactics
namespace Go.Proofs.Ytmofbfeclecdoaa
open Go.ChangeShapes Go.WideShapes Go.ChangeAt Go.RowKit Go.Dt
set_option linter.unusedVariables false
set_option linter.unusedSimpArgs false

def Desk.z (x : Desk) : Nat := (Log.z x.xLog) + (Presence.z x.xPresence)
def Desk.zs (l : List Desk) : Nat := l.length + (l.map fun y => Desk.z y).sum
set_option maxHeartbeats 800000 in
theorem laws_szDesk (x : Desk) (us : List Value) (left : Int) (W : World) (hr : RoL W (Lo W.heap.size) (Desk.d false x) us) (hw : Desk.wf x) (h0 : 0 ≤ left) (h1 : left ≤ 1048576) :
    Calls Try.prog 45 #[.agg us.toArray, .int .i64 left] W fun e w' => e = .returned (.int .i64 (szr left (Desk.z x))) ∧ Below W.heap.size W w' := by
  obtain ⟨A2, c2, A3, c3, A4, c4, A5, c5, rfl, r2, l2, m2, r3, l3, m3, r4, l4, m4, r5, l5, m5⟩ := Desk.cells hr
  have hz : Desk.z x = (Log.z x.xLog) + (Presence.z x.xPresence) := rfl
  have b0 : True := trivial
  have b1 : True := trivial
  have hwl2 : ∀ y ∈ x.xLog.xMessages, Message.wf y := by have := hw; simp only [Desk.wf, Log.wf, Presence.wf] at this; simp_all
  have hwl3 : ∀ y ∈ x.xPresence.xHere, Lease.wf y := by have := hw; simp only [Desk.wf, Log.wf, Presence.wf] at this; simp_all
  have hwl4 : ∀ y ∈ x.xPresence.xTyping, Lease.wf y := by have := hw; simp only [Desk.wf, Log.wf, Presence.wf] at this; simp_all
  have hwl5 : ∀ y ∈ x.xPresence.xMarks, Mark.wf y := by have := hw; simp only [Desk.wf, Log.wf, Presence.wf] at this; simp_all
  have hwsxxLog : Log.wf x.xLog := by have := hw; simp only [Desk.wf] at this; simp_all
  have hwsxxPresence : Presence.wf x.xPresence := by have := hw; simp only [Desk.wf] at this; simp_all
  by_cases g0 : (((Log.z x.xLog) : Nat) : Int) ≤ left
  · have G0 := g0
    by_cases g1 : (((Presence.z x.xPresence) : Nat) : Int) ≤ left - ((Log.z x.xLog) : Nat)
    · have G1 := g1
      have H := Lib.hid (show szr left (Desk.z x) = left - ((Log.z x.xLog) : Nat) - ((Presence.z x.xPresence) : Nat) from by rw [szr_yes (by rw [hz]; push_cast; omega), hz] <;> (try push_cast) <;> omega)
      have S0 := Lib.hid (szr_yes (left := left) g0)
      have S1 := Lib.hid (szr_yes (left := left - ((Log.z x.xLog) : Nat)) g1)
      clear hz hw
      clear G0
      clear G1
      go_enter Try.func45, Try.ntmps45
      go_wp2_with fail
      refine (laws_szLog x.xLog [.int .i64 x.xLog.xNext, .slice A2 x.xLog.xMessages.length c2] _ _ (RoL.cons (.int _ _) (RoL.cons (ro_to r2 (by (repeat (first | with_reducible assumption | with_reducible exact Below.refl _ _ | with_reducible refine Below.setCell ?_ ?_ _ | with_reducible refine Below.alloc ?_ ?_ _ | with_reducible refine Below.drew ?_ | with_reducible refine below_drewN ?_ _ | omega | (simp; done) | (simp; omega))); all_goals first | omega | (simp; done) | (simp; omega))) (RoL.nil))) (by first | assumption) (by omega) (by omega)).mono ?_
      rintro e w1 ⟨rfl, hb0⟩
      obtain ⟨hc0, hf0⟩ := bcell hb0
      have hz0 : W.heap.size < w1.heap.size := (by have hs := hb0.size; (try simp at hs) <;> omega)
      have hB0 : Below W.heap.size W w1 := Below.trans (by (repeat (first | with_reducible assumption | with_reducible exact Below.refl _ _ | with_reducible refine Below.setCell ?_ ?_ _ | with_reducible refine Below.alloc ?_ ?_ _ | with_reducible refine Below.drew ?_ | with_reducible refine below_drewN ?_ _ | omega | (simp; done) | (simp; omega))); all_goals first | omega | (simp; done) | (simp; omega)) (hb0.mono (by first | omega | (simp; done) | (simp; omega)))
      rw [S0.out]
      go_wp2_with fail
      refine (laws_szPresence x.xPresence [.slice A3 x.xPresence.xHere.length c3, .slice A4 x.xPresence.xTyping.length c4, .slice A5 x.xPresence.xMarks.length c5] _ _ (RoL.cons (ro_to r3 (by (repeat (first | with_reducible assumption | with_reducible exact Below.refl _ _ | with_reducible refine Below.setCell ?_ ?_ _ | with_reducible refine Below.alloc ?_ ?_ _ | with_reducible refine Below.drew ?_ | with_reducible refine below_drewN ?_ _ | omega | (simp; done) | (simp; omega))); all_goals first | omega | (simp; done) | (simp; omega))) (RoL.cons (ro_to r4 (by (repeat (first | with_reducible assumption | with_reducible exact Below.refl _ _ | with_reducible refine Below.setCell ?_ ?_ _ | with_reducible refine Below.alloc ?_ ?_ _ | with_reducible refine Below.drew ?_ | with_reducible refine below_drewN ?_ _ | omega | (simp; done) | (simp; omega))); all_goals first | omega | (simp; done) | (simp; omega))) (RoL.cons (ro_to r5 (by (repeat (first | with_reducible assumption | with_reducible exact Below.refl _ _ | with_reducible refine Below.setCell ?_ ?_ _ | with_reducible refine Below.alloc ?_ ?_ _ | with_reducible refine Below.drew ?_ | with_reducible refine below_drewN ?_ _ | omega | (simp; done) | (simp; omega))); all_goals first | omega | (simp; done) | (simp; omega))) (RoL.nil)))) (by first | assumption) (by omega) (by omega)).mono ?_
      rintro e w1 ⟨rfl, hb1⟩
      obtain ⟨hc1, hf1⟩ := bcell hb1
      have hz1 : W.heap.size < w1.heap.size := (by have hs := hb1.size; (try simp at hs) <;> omega)
      have hB1 : Below W.heap.size W w1 := Below.trans (by (repeat (first | with_reducible assumption | with_reducible exact Below.refl _ _ | with_reducible refine Below.setCell ?_ ?_ _ | with_reducible refine Below.alloc ?_ ?_ _ | with_reducible refine Below.drew ?_ | with_reducible refine below_drewN ?_ _ | omega | (simp; done) | (simp; omega))); all_goals first | omega | (simp; done) | (simp; omega)) (hb1.mono (by first | omega | (simp; done) | (simp; omega)))
      rw [S1.out]
      go_wp2
      go_ret
      exact ⟨by rw [H.out]; rfl, (by (repeat (first | with_reducible assumption | with_reducible exact Below.refl _ _ | with_reducible refine Below.setCell ?_ ?_ _ | with_reducible refine Below.alloc ?_ ?_ _ | with_reducible refine Below.drew ?_ | with_reducible refine below_drewN ?_ _ | omega | (simp; done) | (simp; omega))); all_goals first | omega | (simp; done) | (simp; omega))⟩
    · have G1 := g1
      have H := Lib.hid (show szr left (Desk.z x) = -1 from szr_no (by rw [hz]; push_cast; omega))
      have S0 := Lib.hid (szr_yes (left := left) g0)
      have S1 := Lib.hid (szr_no (left := left - ((Log.z x.xLog) : Nat)) g1)
      clear hz hw
      clear G0
      clear G1
      go_enter Try.func45, Try.ntmps45
      go_wp2_with fail
      refine (laws_szLog x.xLog [.int .i64 x.xLog.xNext, .slice A2 x.xLog.xMessages.length c2] _ _ (RoL.cons (.int _ _) (RoL.cons (ro_to r2 (by (repeat (first | with_reducible assumption | with_reducible exact Below.refl _ _ | with_reducible refine Below.setCell ?_ ?_ _ | with_reducible refine Below.alloc ?_ ?_ _ | with_reducible refine Below.drew ?_ | with_reducible refine below_drewN ?_ _ | omega | (simp; done) | (simp; omega))); all_goals first | omega | (simp; done) | (simp; omega))) (RoL.nil))) (by first | assumption) (by omega) (by omega)).mono ?_
      rintro e w1 ⟨rfl, hb0⟩
      obtain ⟨hc0, hf0⟩ := bcell hb0
      have hz0 : W.heap.size < w1.heap.size := (by have hs := hb0.size; (try simp at hs) <;> omega)
      have hB0 : Below W.heap.size W w1 := Below.trans (by (repeat (first | with_reducible assumption | with_reducible exact Below.refl _ _ | with_reducible refine Below.setCell ?_ ?_ _ | with_reducible refine Below.alloc ?_ ?_ _ | with_reducible refine Below.drew ?_ | with_reducible refine below_drewN ?_ _ | omega | (simp; done) | (simp; omega))); all_goals first | omega | (simp; done) | (simp; omega)) (hb0.mono (by first | omega | (simp; done) | (simp; omega)))
      rw [S0.out]
      go_wp2_with fail
      refine (laws_szPresence x.xPresence [.slice A3 x.xPresence.xHere.length c3, .slice A4 x.xPresence.xTyping.length c4, .slice A5 x.xPresence.xMarks.length c5] _ _ (RoL.cons (ro_to r3 (by (repeat (first | with_reducible assumption | with_reducible exact Below.refl _ _ | with_reducible refine Below.setCell ?_ ?_ _ | with_reducible refine Below.alloc ?_ ?_ _ | with_reducible refine Below.drew ?_ | with_reducible refine below_drewN ?_ _ | omega | (simp; done) | (simp; omega))); all_goals first | omega | (simp; done) | (simp; omega))) (RoL.cons (ro_to r4 (by (repeat (first | with_reducible assumption | with_reducible exact Below.refl _ _ | with_reducible refine Below.setCell ?_ ?_ _ | with_reducible refine Below.alloc ?_ ?_ _ | with_reducible refine Below.drew ?_ | with_reducible refine below_drewN ?_ _ | omega | (simp; done) | (simp; omega))); all_goals first | omega | (simp; done) | (simp; omega))) (RoL.cons (ro_to r5 (by (repeat (first | with_reducible assumption | with_reducible exact Below.refl _ _ | with_reducible refine Below.setCell ?_ ?_ _ | with_reducible refine Below.alloc ?_ ?_ _ | with_reducible refine Below.drew ?_ | with_reducible refine below_drewN ?_ _ | omega | (simp; done) | (simp; omega))); all_goals first | omega | (simp; done) | (simp; omega))) (RoL.nil)))) (by first | assumption) (by omega) (by omega)).mono ?_
      rintro e w1 ⟨rfl, hb1⟩
      obtain ⟨hc1, hf1⟩ := bcell hb1
      have hz1 : W.heap.size < w1.heap.size := (by have hs := hb1.size; (try simp at hs) <;> omega)
      have hB1 : Below W.heap.size W w1 := Below.trans (by (repeat (first | with_reducible assumption | with_reducible exact Below.refl _ _ | with_reducible refine Below.setCell ?_ ?_ _ | with_reducible refine Below.alloc ?_ ?_ _ | with_reducible refine Below.drew ?_ | with_reducible refine below_drewN ?_ _ | omega | (simp; done) | (simp; omega))); all_goals first | omega | (simp; done) | (simp; omega)) (hb1.mono (by first | omega | (simp; done) | (simp; omega)))
      rw [S1.out]
      go_wp2
      go_ret
      exact ⟨by rw [H.out]; rfl, (by (repeat (first | with_reducible assumption | with_reducible exact Below.refl _ _ | with_reducible refine Below.setCell ?_ ?_ _ | with_reducible refine Below.alloc ?_ ?_ _ | with_reducible refine Below.drew ?_ | with_reducible refine below_drewN ?_ _ | omega | (simp; done) | (simp; omega))); all_goals first | omega | (simp; done) | (simp; omega))⟩
  · have G0 := g0
    have H := Lib.hid (show szr left (Desk.z x) = -1 from szr_no (by rw [hz]; push_cast; omega))
    have S0 := Lib.hid (szr_no (left := left) g0)
    clear hz hw
    clear G0
    go_enter Try.func45, Try.ntmps45
    go_wp2_with fail
    refine (laws_szLog x.xLog [.int .i64 x.xLog.xNext, .slice A2 x.xLog.xMessages.length c2] _ _ (RoL.cons (.int _ _) (RoL.cons (ro_to r2 (by (repeat (first | with_reducible assumption | with_reducible exact Below.refl _ _ | with_reducible refine Below.setCell ?_ ?_ _ | with_reducible refine Below.alloc ?_ ?_ _ | with_reducible refine Below.drew ?_ | with_reducible refine below_drewN ?_ _ | omega | (simp; done) | (simp; omega))); all_goals first | omega | (simp; done) | (simp; omega))) (RoL.nil))) (by first | assumption) (by omega) (by omega)).mono ?_
    rintro e w1 ⟨rfl, hb0⟩
    obtain ⟨hc0, hf0⟩ := bcell hb0
    have hz0 : W.heap.size < w1.heap.size := (by have hs := hb0.size; (try simp at hs) <;> omega)
    have hB0 : Below W.heap.size W w1 := Below.trans (by (repeat (first | with_reducible assumption | with_reducible exact Below.refl _ _ | with_reducible refine Below.setCell ?_ ?_ _ | with_reducible refine Below.alloc ?_ ?_ _ | with_reducible refine Below.drew ?_ | with_reducible refine below_drewN ?_ _ | omega | (simp; done) | (simp; omega))); all_goals first | omega | (simp; done) | (simp; omega)) (hb0.mono (by first | omega | (simp; done) | (simp; omega)))
    rw [S0.out]
    go_wp2
    go_ret
    exact ⟨by rw [H.out]; rfl, (by (repeat (first | with_reducible assumption | with_reducible exact Below.refl _ _ | with_reducible refine Below.setCell ?_ ?_ _ | with_reducible refine Below.alloc ?_ ?_ _ | with_reducible refine Below.drew ?_ | with_reducible refine below_drewN ?_ _ | omega | (simp; done) | (simp; omega))); all_goals first | omega | (simp; done) | (simp; omega))⟩

theorem Desk.dec (x y : Desk) : decide (x = y) = (decide (x.xTime = y.xTime) && decide (x.xLog = y.xLog) && decide (x.xPresence = y.xPresence)) := by
  cases x; cases y
  simp only [Desk.mk.injEq, Bool.decide_and, Bool.and_assoc]

set_option maxHeartbeats 1000000 in
theorem laws_eqDesk (x y : Desk) (us vs : List Value) (W : World) (hr : RoL W (Lo W.heap.size) (Desk.d true x) us) (hs : RoL W (Lo W.heap.size) (Desk.d true y) vs) :
    Calls Try.prog 49 #[.agg us.toArray, .agg vs.toArray] W fun e w' => e = .returned (.bool (decide (x = y))) ∧ Below W.heap.size W w' := by
  obtain ⟨A2, c2, A3, c3, A4, c4, A5, c5, rfl, r2, l2, m2, r3, l3, m3, r4, l4, m4, r5, l5, m5⟩ := Desk.cells hr
  obtain ⟨Ap2, cp2, Ap3, cp3, Ap4, cp4, Ap5, cp5, rfl, rp2, lp2, mp2, rp3, lp3, mp3, rp4, lp4, mp4, rp5, lp5, mp5⟩ := Desk.cells hs
  have HD := Lib.hid (Desk.dec x y)
  go_enter Try.func49, Try.ntmps49
  go_wp2_with (first | (go_at_call 28; (with_reducible refine (laws_eqLog x.xLog y.xLog [.int .i64 x.xLog.xNext, .slice A2 x.xLog.xMessages.length c2] [.int .i64 y.xLog.xNext, .slice Ap2 y.xLog.xMessages.length cp2] _ (RoL.cons (.int _ _) (RoL.cons (ro_to r2 (by (repeat (first | with_reducible assumption | with_reducible exact Below.refl _ _ | with_reducible refine Below.setCell ?_ ?_ _ | with_reducible refine Below.alloc ?_ ?_ _ | with_reducible refine Below.drew ?_ | with_reducible refine below_drewN ?_ _ | omega | (simp; done) | (simp; omega))); all_goals first | omega | (simp; done) | (simp; omega))) (RoL.nil))) (RoL.cons (.int _ _) (RoL.cons (ro_to rp2 (by (repeat (first | with_reducible assumption | with_reducible exact Below.refl _ _ | with_reducible refine Below.setCell ?_ ?_ _ | with_reducible refine Below.alloc ?_ ?_ _ | with_reducible refine Below.drew ?_ | with_reducible refine below_drewN ?_ _ | omega | (simp; done) | (simp; omega))); all_goals first | omega | (simp; done) | (simp; omega))) (RoL.nil)))).mono ?_); rintro e w1 ⟨rfl, hbLog⟩; obtain ⟨hc_hbLog, hf_hbLog⟩ := bcell hbLog; have hz0_hbLog : W.heap.size < w1.heap.size := (by have hs := hbLog.size; (try simp at hs) <;> omega); have hz1_hbLog : W.heap.size + 1 < w1.heap.size := (by have hs := hbLog.size; (try simp at hs) <;> omega); have hB_hbLog : Below W.heap.size W w1 := Below.trans (by (repeat (first | with_reducible assumption | with_reducible exact Below.refl _ _ | with_reducible refine Below.setCell ?_ ?_ _ | with_reducible refine Below.alloc ?_ ?_ _ | with_reducible refine Below.drew ?_ | with_reducible refine below_drewN ?_ _ | omega | (simp; done) | (simp; omega))); all_goals first | omega | (simp; done) | (simp; omega)) (hbLog.mono (by first | omega | (simp; done) | (simp; omega)))) | (go_at_call 114; (with_reducible refine (laws_eqPresence x.xPresence y.xPresence [.slice A3 x.xPresence.xHere.length c3, .slice A4 x.xPresence.xTyping.length c4, .slice A5 x.xPresence.xMarks.length c5] [.slice Ap3 y.xPresence.xHere.length cp3, .slice Ap4 y.xPresence.xTyping.length cp4, .slice Ap5 y.xPresence.xMarks.length cp5] _ (RoL.cons (ro_to r3 (by (repeat (first | with_reducible assumption | with_reducible exact Below.refl _ _ | with_reducible refine Below.setCell ?_ ?_ _ | with_reducible refine Below.alloc ?_ ?_ _ | with_reducible refine Below.drew ?_ | with_reducible refine below_drewN ?_ _ | omega | (simp; done) | (simp; omega))); all_goals first | omega | (simp; done) | (simp; omega))) (RoL.cons (ro_to r4 (by (repeat (first | with_reducible assumption | with_reducible exact Below.refl _ _ | with_reducible refine Below.setCell ?_ ?_ _ | with_reducible refine Below.alloc ?_ ?_ _ | with_reducible refine Below.drew ?_ | with_reducible refine below_drewN ?_ _ | omega | (simp; done) | (simp; omega))); all_goals first | omega | (simp; done) | (simp; omega))) (RoL.cons (ro_to r5 (by (repeat (first | with_reducible assumption | with_reducible exact Below.refl _ _ | with_reducible refine Below.setCell ?_ ?_ _ | with_reducible refine Below.alloc ?_ ?_ _ | with_reducible refine Below.drew ?_ | with_reducible refine below_drewN ?_ _ | omega | (simp; done) | (simp; omega))); all_goals first | omega | (simp; done) | (simp; omega))) (RoL.nil)))) (RoL.cons (ro_to rp3 (by (repeat (first | with_reducible assumption | with_reducible exact Below.refl _ _ | with_reducible refine Below.setCell ?_ ?_ _ | with_reducible refine Below.alloc ?_ ?_ _ | with_reducible refine Below.drew ?_ | with_reducible refine below_drewN ?_ _ | omega | (simp; done) | (simp; omega))); all_goals first | omega | (simp; done) | (simp; omega))) (RoL.cons (ro_to rp4 (by (repeat (first | with_reducible assumption | with_reducible exact Below.refl _ _ | with_reducible refine Below.setCell ?_ ?_ _ | with_reducible refine Below.alloc ?_ ?_ _ | with_reducible refine Below.drew ?_ | with_reducible refine below_drewN ?_ _ | omega | (simp; done) | (simp; omega))); all_goals first | omega | (simp; done) | (simp; omega))) (RoL.cons (ro_to rp5 (by (repeat (first | with_reducible assumption | with_reducible exact Below.refl _ _ | with_reducible refine Below.setCell ?_ ?_ _ | with_reducible refine Below.alloc ?_ ?_ _ | with_reducible refine Below.drew ?_ | with_reducible refine below_drewN ?_ _ | omega | (simp; done) | (simp; omega))); all_goals first | omega | (simp; done) | (simp; omega))) (RoL.nil))))).mono ?_); rintro e w1 ⟨rfl, hbPresence⟩; obtain ⟨hc_hbPresence, hf_hbPresence⟩ := bcell hbPresence; have hz0_hbPresence : W.heap.size < w1.heap.size := (by have hs := hbPresence.size; (try simp at hs) <;> omega); have hz1_hbPresence : W.heap.size + 1 < w1.heap.size := (by have hs := hbPresence.size; (try simp at hs) <;> omega); have hB_hbPresence : Below W.heap.size W w1 := Below.trans (by (repeat (first | with_reducible assumption | with_reducible exact Below.refl _ _ | with_reducible refine Below.setCell ?_ ?_ _ | with_reducible refine Below.alloc ?_ ?_ _ | with_reducible refine Below.drew ?_ | with_reducible refine below_drewN ?_ _ | omega | (simp; done) | (simp; omega))); all_goals first | omega | (simp; done) | (simp; omega)) (hbPresence.mono (by first | omega | (simp; done) | (simp; omega)))))
  all_goals (go_ret; exact ⟨by rw [HD.out]; simp_all [bytes_inj], (by (repeat (first | with_reducible assumption | with_reducible exact Below.refl _ _ | with_reducible refine Below.setCell ?_ ?_ _ | with_reducible refine Below.alloc ?_ ?_ _ | with_reducible refine Below.drew ?_ | with_reducible refine below_drewN ?_ _ | omega | (simp; done) | (simp; omega))); all_goals first | omega | (simp; done) | (simp; omega))⟩)

set_option maxHeartbeats 1600000 in
set_option maxRecDepth 100000 in
theorem laws_toDesk (x : Desk) (us : List Value) (W : World) (hr : RoL W (Lo W.heap.size) (Desk.d false x) us) (hz : Desk.z x ≤ 1048576) :
    Calls Try.prog 47 #[.agg us.toArray] W (MadeL W (Desk.d true x)) := by
  obtain ⟨A2, c2, A3, c3, A4, c4, A5, c5, rfl, r2, l2, m2, r3, l3, m3, r4, l4, m4, r5, l5, m5⟩ := Desk.cells hr
  have hz' := hz
  unfold Desk.z at hz'
  clear hz
  have hzLog : Log.z x.xLog ≤ 1048576 := by omega
  have hzPresence : Presence.z x.xPresence ≤ 1048576 := by omega
  clear hz'
  go_enter Try.func47, Try.ntmps47
  go_wp2_with fail
  refine (laws_toLog x.xLog [.int .i64 x.xLog.xNext, .slice A2 x.xLog.xMessages.length c2] _ (RoL.cons (.int _ _) (RoL.cons (ro_to r2 (by (repeat (first | with_reducible assumption | with_reducible exact Below.refl _ _ | with_reducible refine Below.setCell ?_ ?_ _ | with_reducible refine Below.alloc ?_ ?_ _ | with_reducible refine Below.drew ?_ | with_reducible refine below_drewN ?_ _ | omega | (simp; done) | (simp; omega))); all_goals first | omega | (simp; done) | (simp; omega))) (RoL.nil))) hzLog).mono ?_
  rintro e w1 ⟨us1, FF1, rfl, hL1, hb1, hG1⟩
  obtain ⟨B2, k2, F2, rfl, hO2, lo2, mo2, hU1⟩ := Log.owned hL1
  have hF2 : ∀ b, F2 b → W.heap.size + 3 ≤ b := fun b hb => by have h := hG1 b ((hU1 b).2 (by simp [hb])); (try simp at h) <;> omega
  obtain ⟨hc1, hf1⟩ := bcell hb1
  have hy1_0 : W.heap.size < w1.heap.size := (by have hs := hb1.size; (try simp at hs) <;> omega)
  have hy1_1 : W.heap.size + 1 < w1.heap.size := (by have hs := hb1.size; (try simp at hs) <;> omega)
  have hy1_2 : W.heap.size + 2 < w1.heap.size := (by have hs := hb1.size; (try simp at hs) <;> omega)
  have hB1 : Below W.heap.size W w1 := Below.trans (by (repeat (first | with_reducible assumption | with_reducible exact Below.refl _ _ | with_reducible refine Below.setCell ?_ ?_ _ | with_reducible refine Below.alloc ?_ ?_ _ | with_reducible refine Below.drew ?_ | with_reducible refine below_drewN ?_ _ | omega | (simp; done) | (simp; omega))); all_goals first | omega | (simp; done) | (simp; omega)) (hb1.mono (by first | omega | (simp; done) | (simp; omega)))
  have hL2_ : ∀ b, F2 b → b < w1.heap.size := hO2.lt
  go_wp2_with fail
  refine (laws_toPresence x.xPresence [.slice A3 x.xPresence.xHere.length c3, .slice A4 x.xPresence.xTyping.length c4, .slice A5 x.xPresence.xMarks.length c5] _ (RoL.cons (ro_to r3 (by (repeat (first | with_reducible assumption | with_reducible exact Below.refl _ _ | with_reducible refine Below.setCell ?_ ?_ _ | with_reducible refine Below.alloc ?_ ?_ _ | with_reducible refine Below.drew ?_ | with_reducible refine below_drewN ?_ _ | omega | (simp; done) | (simp; omega))); all_goals first | omega | (simp; done) | (simp; omega))) (RoL.cons (ro_to r4 (by (repeat (first | with_reducible assumption | with_reducible exact Below.refl _ _ | with_reducible refine Below.setCell ?_ ?_ _ | with_reducible refine Below.alloc ?_ ?_ _ | with_reducible refine Below.drew ?_ | with_reducible refine below_drewN ?_ _ | omega | (simp; done) | (simp; omega))); all_goals first | omega | (simp; done) | (simp; omega))) (RoL.cons (ro_to r5 (by (repeat (first | with_reducible assumption | with_reducible exact Below.refl _ _ | with_reducible refine Below.setCell ?_ ?_ _ | with_reducible refine Below.alloc ?_ ?_ _ | with_reducible refine Below.drew ?_ | with_reducible refine below_drewN ?_ _ | omega | (simp; done) | (simp; omega))); all_goals first | omega | (simp; done) | (simp; omega))) (RoL.nil)))) hzPresence).mono ?_
  rintro e w2 ⟨us2, FF2, rfl, hL2, hb2, hG2⟩
  obtain ⟨B3, k3, F3, B4, k4, F4, B5, k5, F5, rfl, hO3, lo3, mo3, hO4, lo4, mo4, hO5, lo5, mo5, n3_4, n3_5, n4_5, hU2⟩ := Presence.owned hL2
  have hF3 : ∀ b, F3 b → W.heap.size + 3 ≤ b := fun b hb => by have h := hG2 b ((hU2 b).2 (by simp [hb])); (try simp at h) <;> omega
  have hF4 : ∀ b, F4 b → W.heap.size + 3 ≤ b := fun b hb => by have h := hG2 b ((hU2 b).2 (by simp [hb])); (try simp at h) <;> omega
  have hF5 : ∀ b, F5 b → W.heap.size + 3 ≤ b := fun b hb => by have h := hG2 b ((hU2 b).2 (by simp [hb])); (try simp at h) <;> omega
  obtain ⟨hc2, hf2⟩ := bcell hb2
  have hy2_0 : W.heap.size < w2.heap.size := (by have hs := hb2.size; (try simp at hs) <;> omega)
  have hy2_1 : W.heap.size + 1 < w2.heap.size := (by have hs := hb2.size; (try simp at hs) <;> omega)
  have hy2_2 : W.heap.size + 2 < w2.heap.size := (by have hs := hb2.size; (try simp at hs) <;> omega)
  have hB2 : Below W.heap.size W w2 := Below.trans (by (repeat (first | with_reducible assumption | with_reducible exact Below.refl _ _ | with_reducible refine Below.setCell ?_ ?_ _ | with_reducible refine Below.alloc ?_ ?_ _ | with_reducible refine Below.drew ?_ | with_reducible refine below_drewN ?_ _ | omega | (simp; done) | (simp; omega))); all_goals first | omega | (simp; done) | (simp; omega)) (hb2.mono (by first | omega | (simp; done) | (simp; omega)))
  have hs2 : w1.heap.size ≤ w2.heap.size := (by have hs := hb2.size; (try simp at hs) <;> omega)
  replace hO2 := (show Ow _ (Message.s true x.xLog.xMessages) (.slice B2 x.xLog.xMessages.length k2) F2 from (by repeat (first | with_reducible exact hO2 | with_reducible refine Ow.far ?_ ?_ _ | with_reducible refine Ow.alloc ?_ _ | with_reducible refine Ow.drew ?_ | exact (fun h => absurd (hF2 _ h) (by first | omega | (simp; done) | (simp; omega)))))).keep hb2
  have hL3_ : ∀ b, F3 b → b < w2.heap.size := hO3.lt
  have D2_3 : ∀ b, F2 b → ¬ F3 b := fun b h1 h2 => by have a1 := hL2_ b h1; have a2 := hG2 b ((hU2 b).2 (by simp [h2])); (try simp at a2) <;> omega
  have hL4_ : ∀ b, F4 b → b < w2.heap.size := hO4.lt
  have D2_4 : ∀ b, F2 b → ¬ F4 b := fun b h1 h2 => by have a1 := hL2_ b h1; have a2 := hG2 b ((hU2 b).2 (by simp [h2])); (try simp at a2) <;> omega
  have hL5_ : ∀ b, F5 b → b < w2.heap.size := hO5.lt
  have D2_5 : ∀ b, F2 b → ¬ F5 b := fun b h1 h2 => by have a1 := hL2_ b h1; have a2 := hG2 b ((hU2 b).2 (by simp [h2])); (try simp at a2) <;> omega
  have D3_4 := n3_4
  have D3_5 := n3_5
  have D4_5 := n4_5
  go_wp2
  exact bodyPost_ret (v := .agg #[.int .i64 x.xTime, .int .i64 x.xLog.xNext, .slice B2 x.xLog.xMessages.length k2, .slice B3 x.xPresence.xHere.length k3, .slice B4 x.xPresence.xTyping.length k4, .slice B5 x.xPresence.xMarks.length k5]) (by simp [results, Try.results47, go_sem, hc1, hf1, hy1_0, hy1_1, hy1_2, hc2, hf2, hy2_0, hy2_1, hy2_2]) rfl ⟨[.int .i64 x.xTime, .int .i64 x.xLog.xNext, .slice B2 x.xLog.xMessages.length k2, .slice B3 x.xPresence.xHere.length k3, .slice B4 x.xPresence.xTyping.length k4, .slice B5 x.xPresence.xMarks.length k5], _, rfl, OwL.consP (Ow.I _ _) (OwL.consP (Ow.I _ _) (OwL.cons (show Ow _ _ _ F2 from (by repeat (first | with_reducible exact hO2 | with_reducible refine Ow.far ?_ ?_ _ | with_reducible refine Ow.alloc ?_ _ | with_reducible refine Ow.drew ?_ | exact (fun h => absurd (hF2 _ h) (by first | omega | (simp; done) | (simp; omega)))))) (OwL.cons (show Ow _ _ _ F3 from (by repeat (first | with_reducible exact hO3 | with_reducible refine Ow.far ?_ ?_ _ | with_reducible refine Ow.alloc ?_ _ | with_reducible refine Ow.drew ?_ | exact (fun h => absurd (hF3 _ h) (by first | omega | (simp; done) | (simp; omega)))))) (OwL.cons (show Ow _ _ _ F4 from (by repeat (first | with_reducible exact hO4 | with_reducible refine Ow.far ?_ ?_ _ | with_reducible refine Ow.alloc ?_ _ | with_reducible refine Ow.drew ?_ | exact (fun h => absurd (hF4 _ h) (by first | omega | (simp; done) | (simp; omega)))))) (OwL.cons (show Ow _ _ _ F5 from (by repeat (first | with_reducible exact hO5 | with_reducible refine Ow.far ?_ ?_ _ | with_reducible refine Ow.alloc ?_ _ | with_reducible refine Ow.drew ?_ | exact (fun h => absurd (hF5 _ h) (by first | omega | (simp; done) | (simp; omega)))))) (OwL.nil) (fun b h1 h2 => h2)) (fun b h1 h2 => by simp only [or_false] at h2; exact D4_5 b h1 h2)) (fun b h1 h2 => by simp only [or_false] at h2; rcases h2 with h2 | h2 <;> first | exact D3_4 b h1 h2 | exact D3_5 b h1 h2)) (fun b h1 h2 => by simp only [or_false] at h2; rcases h2 with h2 | h2 | h2 <;> first | exact D2_3 b h1 h2 | exact D2_4 b h1 h2 | exact D2_5 b h1 h2))), (by (repeat (first | with_reducible assumption | with_reducible exact Below.refl _ _ | with_reducible refine Below.setCell ?_ ?_ _ | with_reducible refine Below.alloc ?_ ?_ _ | with_reducible refine Below.drew ?_ | with_reducible refine below_drewN ?_ _ | omega | (simp; done) | (simp; omega))); all_goals first | omega | (simp; done) | (simp; omega)), fun b h => by simp only [or_false] at h; rcases h with h | h | h | h <;> first | (have := hF2 b h; omega) | (have := hF3 b h; omega) | (have := hF4 b h; omega) | (have := hF5 b h; omega)⟩


end Go.Proofs.Ytmofbfeclecdoaa

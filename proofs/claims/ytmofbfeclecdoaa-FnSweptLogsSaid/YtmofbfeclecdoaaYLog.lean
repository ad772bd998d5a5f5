/- Walks of the laws' own functions on Log. -/
import Derived.Test.YtmofbfeclecdoaaData
import Derived.Test.YtmofbfeclecdoaaText
import Derived.Test.YtmofbfeclecdoaaYMessage
import Derived.StillTailTactics
namespace Go.Proofs.Ytmofbfeclecdoaa
open Go.ChangeShapes Go.WideShapes Go.ChangeAt Go.RowKit Go.Dt
set_option linter.unusedVariables false
set_option linter.unusedSimpArgs false

def Log.z (x : Log) : Nat := (Message.zs x.xMessages)
def Log.zs (l : List Log) : Nat := l.length + (l.map fun y => Log.z y).sum
set_option maxHeartbeats 800000 in
theorem laws_szLog (x : Log) (us : List Value) (left : Int) (W : World) (hr : RoL W (Lo W.heap.size) (Log.d false x) us) (hw : Log.wf x) (h0 : 0 ≤ left) (h1 : left ≤ 1048576) :
    Calls Try.prog 23 #[.agg us.toArray, .int .i64 left] W fun e w' => e = .returned (.int .i64 (szr left (Log.z x))) ∧ Below W.heap.size W w' := by
  obtain ⟨A1, c1, rfl, r1, l1, m1⟩ := Log.cells hr
  have hz : Log.z x = (Message.zs x.xMessages) := rfl
  have b0 : True := trivial
  have hwl1 : ∀ y ∈ x.xMessages, Message.wf y := by have := hw; simp only [Log.wf] at this; simp_all
  by_cases g0 : (((Message.zs x.xMessages) : Nat) : Int) ≤ left
  · have G0 := g0
    have H := Lib.hid (show szr left (Log.z x) = left - ((Message.zs x.xMessages) : Nat) from by rw [szr_yes (by rw [hz]; push_cast; omega), hz] <;> (try push_cast) <;> omega)
    have S0 := Lib.hid (szr_yes (left := left) g0)
    clear hz hw
    clear G0
    go_enter Try.func23, Try.ntmps23
    go_wp2_with fail
    refine (laws_szMessageS x.xMessages _ _ _ _ (ro_to r1 (by (repeat (first | with_reducible assumption | with_reducible exact Below.refl _ _ | with_reducible refine Below.setCell ?_ ?_ _ | with_reducible refine Below.alloc ?_ ?_ _ | with_reducible refine Below.drew ?_ | with_reducible refine below_drewN ?_ _ | omega | (simp; done) | (simp; omega))); all_goals first | omega | (simp; done) | (simp; omega))) (by first | exact hwl1 | assumption) l1 m1 (by omega) (by omega)).mono ?_
    rintro e w1 ⟨rfl, hb0⟩
    obtain ⟨hc0, hf0⟩ := bcell hb0
    have hz0 : W.heap.size < w1.heap.size := (by have hs := hb0.size; (try simp at hs) <;> omega)
    have hB0 : Below W.heap.size W w1 := Below.trans (by (repeat (first | with_reducible assumption | with_reducible exact Below.refl _ _ | with_reducible refine Below.setCell ?_ ?_ _ | with_reducible refine Below.alloc ?_ ?_ _ | with_reducible refine Below.drew ?_ | with_reducible refine below_drewN ?_ _ | omega | (simp; done) | (simp; omega))); all_goals first | omega | (simp; done) | (simp; omega)) (hb0.mono (by first | omega | (simp; done) | (simp; omega)))
    rw [S0.out]
    go_wp2
    go_ret
    exact ⟨by rw [H.out]; rfl, (by (repeat (first | with_reducible assumption | with_reducible exact Below.refl _ _ | with_reducible refine Below.setCell ?_ ?_ _ | with_reducible refine Below.alloc ?_ ?_ _ | with_reducible refine Below.drew ?_ | with_reducible refine below_drewN ?_ _ | omega | (simp; done) | (simp; omega))); all_goals first | omega | (simp; done) | (simp; omega))⟩
  · have G0 := g0
    have H := Lib.hid (show szr left (Log.z x) = -1 from szr_no (by rw [hz]; push_cast; omega))
    have S0 := Lib.hid (szr_no (left := left) g0)
    clear hz hw
    clear G0
    go_enter Try.func23, Try.ntmps23
    go_wp2_with fail
    refine (laws_szMessageS x.xMessages _ _ _ _ (ro_to r1 (by (repeat (first | with_reducible assumption | with_reducible exact Below.refl _ _ | with_reducible refine Below.setCell ?_ ?_ _ | with_reducible refine Below.alloc ?_ ?_ _ | with_reducible refine Below.drew ?_ | with_reducible refine below_drewN ?_ _ | omega | (simp; done) | (simp; omega))); all_goals first | omega | (simp; done) | (simp; omega))) (by first | exact hwl1 | assumption) l1 m1 (by omega) (by omega)).mono ?_
    rintro e w1 ⟨rfl, hb0⟩
    obtain ⟨hc0, hf0⟩ := bcell hb0
    have hz0 : W.heap.size < w1.heap.size := (by have hs := hb0.size; (try simp at hs) <;> omega)
    have hB0 : Below W.heap.size W w1 := Below.trans (by (repeat (first | with_reducible assumption | with_reducible exact Below.refl _ _ | with_reducible refine Below.setCell ?_ ?_ _ | with_reducible refine Below.alloc ?_ ?_ _ | with_reducible refine Below.drew ?_ | with_reducible refine below_drewN ?_ _ | omega | (simp; done) | (simp; omega))); all_goals first | omega | (simp; done) | (simp; omega)) (hb0.mono (by first | omega | (simp; done) | (simp; omega)))
    rw [S0.out]
    go_wp2
    go_ret
    exact ⟨by rw [H.out]; rfl, (by (repeat (first | with_reducible assumption | with_reducible exact Below.refl _ _ | with_reducible refine Below.setCell ?_ ?_ _ | with_reducible refine Below.alloc ?_ ?_ _ | with_reducible refine Below.drew ?_ | with_reducible refine below_drewN ?_ _ | omega | (simp; done) | (simp; omega))); all_goals first | omega | (simp; done) | (simp; omega))⟩

theorem Log.dec (x y : Log) : decide (x = y) = (decide (x.xNext = y.xNext) && decide (x.xMessages = y.xMessages)) := by
  cases x; cases y
  simp only [Log.mk.injEq, Bool.decide_and, Bool.and_assoc]

set_option maxHeartbeats 1000000 in
theorem laws_eqLog (x y : Log) (us vs : List Value) (W : World) (hr : RoL W (Lo W.heap.size) (Log.d true x) us) (hs : RoL W (Lo W.heap.size) (Log.d true y) vs) :
    Calls Try.prog 28 #[.agg us.toArray, .agg vs.toArray] W fun e w' => e = .returned (.bool (decide (x = y))) ∧ Below W.heap.size W w' := by
  obtain ⟨A1, c1, rfl, r1, l1, m1⟩ := Log.cells hr
  obtain ⟨Ap1, cp1, rfl, rp1, lp1, mp1⟩ := Log.cells hs
  have HD := Lib.hid (Log.dec x y)
  go_enter Try.func28, Try.ntmps28
  go_wp2_with (first | (go_at_call 91; (with_reducible refine (laws_eqMessageS x.xMessages y.xMessages _ _ _ _ _ (ro_to r1 (by (repeat (first | with_reducible assumption | with_reducible exact Below.refl _ _ | with_reducible refine Below.setCell ?_ ?_ _ | with_reducible refine Below.alloc ?_ ?_ _ | with_reducible refine Below.drew ?_ | with_reducible refine below_drewN ?_ _ | omega | (simp; done) | (simp; omega))); all_goals first | omega | (simp; done) | (simp; omega))) (ro_to rp1 (by (repeat (first | with_reducible assumption | with_reducible exact Below.refl _ _ | with_reducible refine Below.setCell ?_ ?_ _ | with_reducible refine Below.alloc ?_ ?_ _ | with_reducible refine Below.drew ?_ | with_reducible refine below_drewN ?_ _ | omega | (simp; done) | (simp; omega))); all_goals first | omega | (simp; done) | (simp; omega))) m1 mp1 l1 lp1).mono ?_); rintro e w1 ⟨rfl, hbMessages⟩; obtain ⟨hc_hbMessages, hf_hbMessages⟩ := bcell hbMessages; have hz0_hbMessages : W.heap.size < w1.heap.size := (by have hs := hbMessages.size; (try simp at hs) <;> omega); have hz1_hbMessages : W.heap.size + 1 < w1.heap.size := (by have hs := hbMessages.size; (try simp at hs) <;> omega); have hB_hbMessages : Below W.heap.size W w1 := Below.trans (by (repeat (first | with_reducible assumption | with_reducible exact Below.refl _ _ | with_reducible refine Below.setCell ?_ ?_ _ | with_reducible refine Below.alloc ?_ ?_ _ | with_reducible refine Below.drew ?_ | with_reducible refine below_drewN ?_ _ | omega | (simp; done) | (simp; omega))); all_goals first | omega | (simp; done) | (simp; omega)) (hbMessages.mono (by first | omega | (simp; done) | (simp; omega)))))
  all_goals (go_ret; exact ⟨by rw [HD.out]; simp_all [bytes_inj], (by (repeat (first | with_reducible assumption | with_reducible exact Below.refl _ _ | with_reducible refine Below.setCell ?_ ?_ _ | with_reducible refine Below.alloc ?_ ?_ _ | with_reducible refine Below.drew ?_ | with_reducible refine below_drewN ?_ _ | omega | (simp; done) | (simp; omega))); all_goals first | omega | (simp; done) | (simp; omega))⟩)

set_option maxHeartbeats 1600000 in
set_option maxRecDepth 100000 in
theorem laws_toLog (x : Log) (us : List Value) (W : World) (hr : RoL W (Lo W.heap.size) (Log.d false x) us) (hz : Log.z x ≤ 1048576) :
    Calls Try.prog 25 #[.agg us.toArray] W (MadeL W (Log.d true x)) := by
  obtain ⟨A1, c1, rfl, r1, l1, m1⟩ := Log.cells hr
  have hz' := hz
  unfold Log.z at hz'
  clear hz
  have hzMessages : Message.zs x.xMessages ≤ 1048576 := by omega
  clear hz'
  go_enter Try.func25, Try.ntmps25
  go_wp2_with fail
  refine (laws_toMessageS x.xMessages _ _ _ (ro_to r1 (by (repeat (first | with_reducible assumption | with_reducible exact Below.refl _ _ | with_reducible refine Below.setCell ?_ ?_ _ | with_reducible refine Below.alloc ?_ ?_ _ | with_reducible refine Below.drew ?_ | with_reducible refine below_drewN ?_ _ | omega | (simp; done) | (simp; omega))); all_goals first | omega | (simp; done) | (simp; omega))) hzMessages).mono ?_
  rintro e w1 ⟨v1, F1, rfl, hO1, hb1, hG1⟩
  obtain ⟨B1, k1, rfl, lo1, mo1⟩ := hO1.shape
  simp only [List.length_map] at hO1 lo1 ⊢
  have hF1 : ∀ b, F1 b → W.heap.size + 3 ≤ b := fun b hb => by have h := hG1 b hb; (try simp at h) <;> omega
  obtain ⟨hc1, hf1⟩ := bcell hb1
  have hy1_0 : W.heap.size < w1.heap.size := (by have hs := hb1.size; (try simp at hs) <;> omega)
  have hy1_1 : W.heap.size + 1 < w1.heap.size := (by have hs := hb1.size; (try simp at hs) <;> omega)
  have hy1_2 : W.heap.size + 2 < w1.heap.size := (by have hs := hb1.size; (try simp at hs) <;> omega)
  have hB1 : Below W.heap.size W w1 := Below.trans (by (repeat (first | with_reducible assumption | with_reducible exact Below.refl _ _ | with_reducible refine Below.setCell ?_ ?_ _ | with_reducible refine Below.alloc ?_ ?_ _ | with_reducible refine Below.drew ?_ | with_reducible refine below_drewN ?_ _ | omega | (simp; done) | (simp; omega))); all_goals first | omega | (simp; done) | (simp; omega)) (hb1.mono (by first | omega | (simp; done) | (simp; omega)))
  have hL1_ : ∀ b, F1 b → b < w1.heap.size := hO1.lt
  go_wp2
  exact bodyPost_ret (v := .agg #[.int .i64 x.xNext, .slice B1 x.xMessages.length k1]) (by simp [results, Try.results25, go_sem, hc1, hf1, hy1_0, hy1_1, hy1_2]) rfl ⟨[.int .i64 x.xNext, .slice B1 x.xMessages.length k1], _, rfl, OwL.consP (Ow.I _ _) (OwL.cons (show Ow _ _ _ F1 from (by repeat (first | with_reducible exact hO1 | with_reducible refine Ow.far ?_ ?_ _ | with_reducible refine Ow.alloc ?_ _ | with_reducible refine Ow.drew ?_ | exact (fun h => absurd (hF1 _ h) (by first | omega | (simp; done) | (simp; omega)))))) (OwL.nil) (fun b h1 h2 => h2)), (by (repeat (first | with_reducible assumption | with_reducible exact Below.refl _ _ | with_reducible refine Below.setCell ?_ ?_ _ | with_reducible refine Below.alloc ?_ ?_ _ | with_reducible refine Below.drew ?_ | with_reducible refine below_drewN ?_ _ | omega | (simp; done) | (simp; omega))); all_goals first | omega | (simp; done) | (simp; omega)), fun b h => by simp only [or_false] at h; have := hF1 b h; omega⟩


/-- Marked by value: only what lies in blocks. -/
def Log.ms (x : Log) (k : Int) : Log := ⟨x.xNext, Message.ml x.xMessages (k)⟩
def Log.sn (x : Log) : Nat := Message.ln x.xMessages
set_option maxHeartbeats 1600000 in
theorem laws_markLog (x : Log) (us : List Value) (F : Nat → Prop) (k : Int) (W : World) (hO : OwL W (Log.d true x) us F) (h0 : 0 ≤ k) (h1 : k + (Log.sn x : Nat) ≤ 4611686018427387904) :
    Calls Try.prog 29 #[.agg us.toArray, .int .i64 k] W (MarkedL W (Log.d true (Log.ms x k)) us F (k + (Log.sn x : Nat))) := by
  obtain ⟨A1, c1, rfl, r1, l1, m1⟩ := Log.cells hO.lo
  clear r1 l1 m1
  have hFlt : ∀ b, F b → b < W.heap.size := hO.lt
  replace hO := hO.alloc (.cells #[.int .i64 x.xNext, .slice A1 x.xMessages.length c1] 41)
  have hk := Kp.alloc1 F W (.cells #[.int .i64 x.xNext, .slice A1 x.xMessages.length c1] 41)
  have hF' : ∀ b, F b → F b := fun _ h => h
  have hsz : W.heap.size < (W.alloc (.cells #[.int .i64 x.xNext, .slice A1 x.xMessages.length c1] 41)).heap.size := by simp
  unfold Log.sn at h1 ⊢
  push_cast at h1 ⊢
  go_enter Try.func29, Try.ntmps29
  obtain ⟨G0, hm0, hG0, hback0⟩ := OwL.seg1 (a := [.int .i64 x.xNext]) (d := Message.s true x.xMessages) (c := []) (ua := [.int .i64 x.xNext]) (u := .slice A1 x.xMessages.length c1) (uc := []) hO rfl; have hn0 : ¬ G0 W.heap.size := fun h => absurd (hFlt _ (hF' _ (hG0 _ h))) (by omega)
  go_wp2_with (first | (go_at_call 92; (with_reducible refine (laws_markMessageS x.xMessages _ _ _ _ hm0 (by omega) (by omega)).mono ?_); rintro e w0 ⟨rfl, hk0, H0, hq0, hH0⟩; obtain ⟨F0, hO0, hF0⟩ := hback0 w0 _ H0 hq0 hH0 hk0; replace hk := hk.trans hk0 (fun _ h => h) (fun b _ h => hF' b (hG0 b h)); replace hF' : ∀ b, F0 b → F b := fun b hb => hF' b (hF0 b hb); obtain ⟨hc0, hf0⟩ := kcell hk0; have hsz0 : W.heap.size < w0.heap.size := (by have := hk0.size; omega); clear hback0 hk0 hq0 hm0))
  go_ret
  exact ⟨congrArg (fun n => Ending.returned (Value.int .i64 n)) (by omega), hk, _, hO0, hF'⟩
set_option maxHeartbeats 1600000 in
theorem laws_heldLog (x : Log) (us : List Value) (k : Int) (W : World) (hr : RoL W (Lo W.heap.size) (Log.d true (Log.ms x k)) us) (h0 : 0 ≤ k) (h1 : k + (Log.sn x : Nat) ≤ 4611686018427387904) :
    Calls Try.prog 37 #[.agg us.toArray, .int .i64 k] W (fun e w' => e = .returned (.int .i64 (k + (Log.sn x : Nat))) ∧ Below W.heap.size W w') := by
  obtain ⟨A1, c1, hus, r1, l1, m1⟩ := Log.cells hr
  have e1 : (Log.ms x k).xMessages.length = x.xMessages.length := Message.ml_len _ _
  rw [e1] at hus r1 l1
  subst hus
  unfold Log.sn at h1 ⊢
  push_cast at h1 ⊢
  have hB := Below.refl W.heap.size W
  go_enter Try.func37, Try.ntmps37
  go_wp2_with (first | (go_at_call 101; (with_reducible refine (laws_heldMessageS x.xMessages _ c1 _ _ (ro_to r1 (by (repeat (first | with_reducible assumption | with_reducible exact Below.refl _ _ | with_reducible refine Below.setCell ?_ ?_ _ | with_reducible refine Below.alloc ?_ ?_ _ | with_reducible refine Below.drew ?_ | with_reducible refine below_drewN ?_ _ | omega | (simp; done) | (simp; omega))); all_goals first | omega | (simp; done) | (simp; omega))) (by simp only [maxLen] at m1; omega) (by omega) (by omega)).mono ?_); rintro e w0 ⟨rfl, hb0⟩; obtain ⟨hc_hb0, hf_hb0⟩ := bcell hb0; have hz0_hb0 : W.heap.size < w0.heap.size := (by have hs := hb0.size; (try simp at hs) <;> omega); have hB_hb0 : Below W.heap.size W w0 := Below.trans (by (repeat (first | with_reducible assumption | with_reducible exact Below.refl _ _ | with_reducible refine Below.setCell ?_ ?_ _ | with_reducible refine Below.alloc ?_ ?_ _ | with_reducible refine Below.drew ?_ | with_reducible refine below_drewN ?_ _ | omega | (simp; done) | (simp; omega))); all_goals first | omega | (simp; done) | (simp; omega)) (hb0.mono (by first | omega | (simp; done) | (simp; omega)))))
  go_ret
  exact ⟨congrArg (fun n => Ending.returned (Value.int .i64 n)) (by omega), (by (repeat (first | with_reducible assumption | with_reducible exact Below.refl _ _ | with_reducible refine Below.setCell ?_ ?_ _ | with_reducible refine Below.alloc ?_ ?_ _ | with_reducible refine Below.drew ?_ | with_reducible refine below_drewN ?_ _ | omega | (simp; done) | (simp; omega))); all_goals first | omega | (simp; done) | (simp; omega))⟩

theorem Log.sn_z (x : Log) : Log.sn x ≤ 16 * Log.z x := by
  unfold Log.sn Log.z
  have hMessages := Message.ln_z x.xMessages
  omega

end Go.Proofs.Ytmofbfeclecdoaa

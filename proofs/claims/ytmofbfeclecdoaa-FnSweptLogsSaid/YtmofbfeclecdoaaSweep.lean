/- Sweeps. -/
import Derived.Test.YtmofbfeclecdoaaClone
import Derived.Test.YtmofbfeclecdoaaAges
import Derived.Test.YtmofbfeclecdoaaSPost
import Derived.Test.YtmofbfeclecdoaaLaw
namespace Go.Proofs.Ytmofbfeclecdoaa
open Go.ChangeShapes Go.WideShapes Go.ChangeAt Go.RowKit Go.Dt
set_option linter.unusedVariables false
set_option linter.unusedSimpArgs false
def sweepOk (l : Log) (now age keep : Int) (pins : List Int) : Bool := l.ok && (inB now 0 1000000 && (inB age 0 1000000 && (inB keep 0 40 && (decide ((pins.length : Int) ≤ 300) && rises (fun n => inB n 1 1000000000) pins))))
def kept (now age keep : Int) (pins : List Int) (n i : Nat) (m : Message) : Bool := decide (now - m.xAt ≤ age) || (decide ((n : Int) - (i : Int) ≤ keep) || hasIt pins m.xNumber)
def sweepTo (now age keep : Int) (pins : List Int) (l : List Message) : Nat → List Message
  | 0 => []
  | j + 1 => match l[j]? with
    | some m => if kept now age keep pins l.length j m = true then sweepTo now age keep pins l j ++ [m] else sweepTo now age keep pins l j
    | none => sweepTo now age keep pins l j
theorem sweepTo_yes {now age keep : Int} {pins : List Int} {l : List Message} {j : Nat} {m : Message} (h : l[j]? = some m) (hk : kept now age keep pins l.length j m = true) : sweepTo now age keep pins l (j + 1) = sweepTo now age keep pins l j ++ [m] := by
  rw [sweepTo, h]; exact if_pos hk
theorem sweepTo_no {now age keep : Int} {pins : List Int} {l : List Message} {j : Nat} {m : Message} (h : l[j]? = some m) (hk : kept now age keep pins l.length j m = false) : sweepTo now age keep pins l (j + 1) = sweepTo now age keep pins l j := by
  rw [sweepTo, h]; exact if_neg (by simp [hk])
theorem sweepTo_len (now age keep : Int) (pins : List Int) (l : List Message) (j : Nat) : (sweepTo now age keep pins l j).length ≤ j := by
  induction j with
  | zero => simp [sweepTo]
  | succ j ih =>
    unfold sweepTo
    split
    · split
      · simp only [List.length_append, List.length_cons, List.length_nil]; omega
      · omega
    · omega
theorem sweepTo_in (now age keep : Int) (pins : List Int) (l : List Message) (j : Nat) : ∀ m ∈ sweepTo now age keep pins l j, m ∈ l := by
  induction j with
  | zero => simp [sweepTo]
  | succ j ih =>
    unfold sweepTo
    split
    · rename_i m h
      split
      · intro x hx
        rw [List.mem_append] at hx
        rcases hx with hx | hx
        · exact ih x hx
        · simp at hx; subst hx; exact List.mem_of_getElem? h
      · exact ih
    · exact ih
def SweepLog_f (l : Log) (now age keep : Int) (pins : List Int) : Log × Bool := if sweepOk l now age keep pins = true then (⟨l.xNext, sweepTo now age keep pins l.xMessages l.xMessages.length⟩, true) else (⟨0, []⟩, false)
set_option maxHeartbeats 1600000 in
set_option maxRecDepth 100000 in
theorem impl_SweepLog (x : Log) (now age keep : Int) (pins : List Int) (us : List Value) (Ap : Option Addr) (cp : Nat) (W : World) (hr : RoL W (Lo W.heap.size) (Log.d true x) us) (hp : Ro W (Lo W.heap.size) (ints pins) (.slice Ap pins.length cp)) (hw : ∀ m ∈ x.xMessages, m.xText.size ≤ maxLen ∧ m.xLikes.length ≤ 1048576) :
    Calls Try.prog 36 #[.agg us.toArray, .int .i64 now, .int .i64 age, .int .i64 keep, .slice Ap pins.length cp] W (MadeLB W (SweepLog_f x now age keep pins)) := by
  have HV := fun (w : World) (hb : Below W.heap.size W w) => impl_ValidLog x us w (rol_to hr hb) (fun m hm => (hw m hm).1)
  have HT := fun (w : World) => impl_isTick now w
  have HA := fun (w : World) => impl_isTick age w
  have HK := fun (w : World) => impl_in keep 0 40 w
  have HP := fun (w : World) (hb : Below W.heap.size W w) => impl_rising 98 (fun _ _ => by rfl) (fun n => inB n 1 1000000000) (fun n w => impl_isNumber n w) pins Ap cp w (ro_to hp hb) hp.sl_max hp.sl_cap
  obtain ⟨A, c, rfl, hr, hlc, hm⟩ := Log.cells hr
  clear hm hlc
  obtain ⟨next, l⟩ := x
  simp only at *
  cases h1 : Log.ok ⟨next, l⟩
  · have HX := Lib.hid (show SweepLog_f ⟨next, l⟩ now age keep pins = (⟨0, []⟩, false) from if_neg (by simp [sweepOk, h1]))
    rw [h1] at HV
    clear h1 hr hp
    generalize l.length = n at *
    generalize pins.length = np at *
    go_enter Try.func36, Try.ntmps36
    go_wp2_with (first | (go_at_call 41; (with_reducible refine (HV _ (by (repeat (first | with_reducible assumption | with_reducible exact Below.refl _ _ | with_reducible refine Below.setCell ?_ ?_ _ | with_reducible refine Below.alloc ?_ ?_ _ | with_reducible refine Below.drew ?_ | with_reducible refine below_drewN ?_ _ | omega | (simp; done) | (simp; omega))); all_goals first | omega | (simp; done) | (simp; omega))).mono ?_); rintro e w1 ⟨rfl, hb1⟩; have hbw1 : Below (W.heap.size + 2) ((W.alloc (.cells #[.int .i64 next, .slice A n c] 41)).alloc (.cells #[.int .i64 0, .slice none 0 0] 41)) w1 := hb1.mono (by simp); have xr : Bx w1 (W.heap.size + 1) #[.int .i64 0, .slice none 0 0] 41 := (Bx.new2 W _ _ _).below hbw1 (by omega); have xl : Bx w1 W.heap.size #[.int .i64 next, .slice A n c] 41 := ((Bx.new W _ _).alloc _).below hbw1 (by omega); have r0 := xr.cell 0 rfl; have r1 := xr.cell 1 rfl; have g0 := xr.free 0; have g1 := xr.free 1; have hs1 := xr.lt; have hs0 := xl.lt; have l0 := xl.cell 0 rfl; have l1 := xl.cell 1 rfl; have hbw : Below W.heap.size W w1 := (((Below.refl _ _).alloc (Nat.le_refl _) _).alloc (by simp) _).trans (hb1.mono (by simp; omega))))
    exact bodyPost_ret (v := .tuple #[.agg #[.int .i64 0, .slice none 0 0], .bool false]) (by simp [results, Try.results36, go_sem, r0, r1, g0, g1, hs1]) rfl (madeLB_no HX.out (by (repeat (first | with_reducible assumption | with_reducible exact Below.refl _ _ | with_reducible refine Below.setCell ?_ ?_ _ | with_reducible refine Below.alloc ?_ ?_ _ | with_reducible refine Below.drew ?_ | with_reducible refine below_drewN ?_ _ | omega | (simp; done) | (simp; omega))); all_goals first | omega | (simp; done) | (simp; omega)))
  cases h2 : inB now 0 1000000
  · have HX := Lib.hid (show SweepLog_f ⟨next, l⟩ now age keep pins = (⟨0, []⟩, false) from if_neg (by simp [sweepOk, h1, h2]))
    rw [h1] at HV
    rw [h2] at HT
    clear h1 h2 hr hp
    generalize l.length = n at *
    generalize pins.length = np at *
    go_enter Try.func36, Try.ntmps36
    go_wp2_with (first | (go_at_call 41; (with_reducible refine (HV _ (by (repeat (first | with_reducible assumption | with_reducible exact Below.refl _ _ | with_reducible refine Below.setCell ?_ ?_ _ | with_reducible refine Below.alloc ?_ ?_ _ | with_reducible refine Below.drew ?_ | with_reducible refine below_drewN ?_ _ | omega | (simp; done) | (simp; omega))); all_goals first | omega | (simp; done) | (simp; omega))).mono ?_); rintro e w1 ⟨rfl, hb1⟩; have hbw1 : Below (W.heap.size + 2) ((W.alloc (.cells #[.int .i64 next, .slice A n c] 41)).alloc (.cells #[.int .i64 0, .slice none 0 0] 41)) w1 := hb1.mono (by simp); have xr : Bx w1 (W.heap.size + 1) #[.int .i64 0, .slice none 0 0] 41 := (Bx.new2 W _ _ _).below hbw1 (by omega); have xl : Bx w1 W.heap.size #[.int .i64 next, .slice A n c] 41 := ((Bx.new W _ _).alloc _).below hbw1 (by omega); have r0 := xr.cell 0 rfl; have r1 := xr.cell 1 rfl; have g0 := xr.free 0; have g1 := xr.free 1; have hs1 := xr.lt; have hs0 := xl.lt; have l0 := xl.cell 0 rfl; have l1 := xl.cell 1 rfl; have hbw : Below W.heap.size W w1 := (((Below.refl _ _).alloc (Nat.le_refl _) _).alloc (by simp) _).trans (hb1.mono (by simp; omega))) | (go_at_call 90; (with_reducible refine (HT _).mono ?_); rintro e w' ⟨rfl, rfl⟩))
    exact bodyPost_ret (v := .tuple #[.agg #[.int .i64 0, .slice none 0 0], .bool false]) (by simp [results, Try.results36, go_sem, r0, r1, g0, g1, hs1]) rfl (madeLB_no HX.out (by (repeat (first | with_reducible assumption | with_reducible exact Below.refl _ _ | with_reducible refine Below.setCell ?_ ?_ _ | with_reducible refine Below.alloc ?_ ?_ _ | with_reducible refine Below.drew ?_ | with_reducible refine below_drewN ?_ _ | omega | (simp; done) | (simp; omega))); all_goals first | omega | (simp; done) | (simp; omega)))
  cases h3 : inB age 0 1000000
  · have HX := Lib.hid (show SweepLog_f ⟨next, l⟩ now age keep pins = (⟨0, []⟩, false) from if_neg (by simp [sweepOk, h1, h2, h3]))
    rw [h1] at HV
    rw [h2] at HT
    rw [h3] at HA
    clear h1 h2 h3 hr hp
    generalize l.length = n at *
    generalize pins.length = np at *
    go_enter Try.func36, Try.ntmps36
    go_wp2_with (first | (go_at_call 41; (with_reducible refine (HV _ (by (repeat (first | with_reducible assumption | with_reducible exact Below.refl _ _ | with_reducible refine Below.setCell ?_ ?_ _ | with_reducible refine Below.alloc ?_ ?_ _ | with_reducible refine Below.drew ?_ | with_reducible refine below_drewN ?_ _ | omega | (simp; done) | (simp; omega))); all_goals first | omega | (simp; done) | (simp; omega))).mono ?_); rintro e w1 ⟨rfl, hb1⟩; have hbw1 : Below (W.heap.size + 2) ((W.alloc (.cells #[.int .i64 next, .slice A n c] 41)).alloc (.cells #[.int .i64 0, .slice none 0 0] 41)) w1 := hb1.mono (by simp); have xr : Bx w1 (W.heap.size + 1) #[.int .i64 0, .slice none 0 0] 41 := (Bx.new2 W _ _ _).below hbw1 (by omega); have xl : Bx w1 W.heap.size #[.int .i64 next, .slice A n c] 41 := ((Bx.new W _ _).alloc _).below hbw1 (by omega); have r0 := xr.cell 0 rfl; have r1 := xr.cell 1 rfl; have g0 := xr.free 0; have g1 := xr.free 1; have hs1 := xr.lt; have hs0 := xl.lt; have l0 := xl.cell 0 rfl; have l1 := xl.cell 1 rfl; have hbw : Below W.heap.size W w1 := (((Below.refl _ _).alloc (Nat.le_refl _) _).alloc (by simp) _).trans (hb1.mono (by simp; omega))) | (go_at_call 90; (with_reducible refine (HT _).mono ?_); rintro e w' ⟨rfl, rfl⟩) | (go_at_call 90; (with_reducible refine (HA _).mono ?_); rintro e w' ⟨rfl, rfl⟩))
    exact bodyPost_ret (v := .tuple #[.agg #[.int .i64 0, .slice none 0 0], .bool false]) (by simp [results, Try.results36, go_sem, r0, r1, g0, g1, hs1]) rfl (madeLB_no HX.out (by (repeat (first | with_reducible assumption | with_reducible exact Below.refl _ _ | with_reducible refine Below.setCell ?_ ?_ _ | with_reducible refine Below.alloc ?_ ?_ _ | with_reducible refine Below.drew ?_ | with_reducible refine below_drewN ?_ _ | omega | (simp; done) | (simp; omega))); all_goals first | omega | (simp; done) | (simp; omega)))
  cases h4 : inB keep 0 40
  · have HX := Lib.hid (show SweepLog_f ⟨next, l⟩ now age keep pins = (⟨0, []⟩, false) from if_neg (by simp [sweepOk, h1, h2, h3, h4]))
    rw [h1] at HV
    rw [h2] at HT
    rw [h3] at HA
    rw [h4] at HK
    clear h1 h2 h3 h4 hr hp
    generalize l.length = n at *
    generalize pins.length = np at *
    go_enter Try.func36, Try.ntmps36
    go_wp2_with (first | (go_at_call 41; (with_reducible refine (HV _ (by (repeat (first | with_reducible assumption | with_reducible exact Below.refl _ _ | with_reducible refine Below.setCell ?_ ?_ _ | with_reducible refine Below.alloc ?_ ?_ _ | with_reducible refine Below.drew ?_ | with_reducible refine below_drewN ?_ _ | omega | (simp; done) | (simp; omega))); all_goals first | omega | (simp; done) | (simp; omega))).mono ?_); rintro e w1 ⟨rfl, hb1⟩; have hbw1 : Below (W.heap.size + 2) ((W.alloc (.cells #[.int .i64 next, .slice A n c] 41)).alloc (.cells #[.int .i64 0, .slice none 0 0] 41)) w1 := hb1.mono (by simp); have xr : Bx w1 (W.heap.size + 1) #[.int .i64 0, .slice none 0 0] 41 := (Bx.new2 W _ _ _).below hbw1 (by omega); have xl : Bx w1 W.heap.size #[.int .i64 next, .slice A n c] 41 := ((Bx.new W _ _).alloc _).below hbw1 (by omega); have r0 := xr.cell 0 rfl; have r1 := xr.cell 1 rfl; have g0 := xr.free 0; have g1 := xr.free 1; have hs1 := xr.lt; have hs0 := xl.lt; have l0 := xl.cell 0 rfl; have l1 := xl.cell 1 rfl; have hbw : Below W.heap.size W w1 := (((Below.refl _ _).alloc (Nat.le_refl _) _).alloc (by simp) _).trans (hb1.mono (by simp; omega))) | (go_at_call 90; (with_reducible refine (HT _).mono ?_); rintro e w' ⟨rfl, rfl⟩) | (go_at_call 90; (with_reducible refine (HA _).mono ?_); rintro e w' ⟨rfl, rfl⟩) | (go_at_call 85; (with_reducible refine (HK _).mono ?_); rintro e w' ⟨rfl, rfl⟩))
    exact bodyPost_ret (v := .tuple #[.agg #[.int .i64 0, .slice none 0 0], .bool false]) (by simp [results, Try.results36, go_sem, r0, r1, g0, g1, hs1]) rfl (madeLB_no HX.out (by (repeat (first | with_reducible assumption | with_reducible exact Below.refl _ _ | with_reducible refine Below.setCell ?_ ?_ _ | with_reducible refine Below.alloc ?_ ?_ _ | with_reducible refine Below.drew ?_ | with_reducible refine below_drewN ?_ _ | omega | (simp; done) | (simp; omega))); all_goals first | omega | (simp; done) | (simp; omega)))
  cases h5 : decide ((pins.length : Int) ≤ 300)
  · have HX := Lib.hid (show SweepLog_f ⟨next, l⟩ now age keep pins = (⟨0, []⟩, false) from if_neg (by simp [sweepOk, h1, h2, h3, h4, h5]))
    rw [h1] at HV
    rw [h2] at HT
    rw [h3] at HA
    rw [h4] at HK
    have hd : (300 : Int) < (pins.length : Int) := by simpa using h5
    clear h1 h2 h3 h4 h5 hr hp
    generalize l.length = n at *
    generalize pins.length = np at *
    go_enter Try.func36, Try.ntmps36
    go_wp2_with (first | (go_at_call 41; (with_reducible refine (HV _ (by (repeat (first | with_reducible assumption | with_reducible exact Below.refl _ _ | with_reducible refine Below.setCell ?_ ?_ _ | with_reducible refine Below.alloc ?_ ?_ _ | with_reducible refine Below.drew ?_ | with_reducible refine below_drewN ?_ _ | omega | (simp; done) | (simp; omega))); all_goals first | omega | (simp; done) | (simp; omega))).mono ?_); rintro e w1 ⟨rfl, hb1⟩; have hbw1 : Below (W.heap.size + 2) ((W.alloc (.cells #[.int .i64 next, .slice A n c] 41)).alloc (.cells #[.int .i64 0, .slice none 0 0] 41)) w1 := hb1.mono (by simp); have xr : Bx w1 (W.heap.size + 1) #[.int .i64 0, .slice none 0 0] 41 := (Bx.new2 W _ _ _).below hbw1 (by omega); have xl : Bx w1 W.heap.size #[.int .i64 next, .slice A n c] 41 := ((Bx.new W _ _).alloc _).below hbw1 (by omega); have r0 := xr.cell 0 rfl; have r1 := xr.cell 1 rfl; have g0 := xr.free 0; have g1 := xr.free 1; have hs1 := xr.lt; have hs0 := xl.lt; have l0 := xl.cell 0 rfl; have l1 := xl.cell 1 rfl; have hbw : Below W.heap.size W w1 := (((Below.refl _ _).alloc (Nat.le_refl _) _).alloc (by simp) _).trans (hb1.mono (by simp; omega))) | (go_at_call 90; (with_reducible refine (HT _).mono ?_); rintro e w' ⟨rfl, rfl⟩) | (go_at_call 90; (with_reducible refine (HA _).mono ?_); rintro e w' ⟨rfl, rfl⟩) | (go_at_call 85; (with_reducible refine (HK _).mono ?_); rintro e w' ⟨rfl, rfl⟩))
    exact bodyPost_ret (v := .tuple #[.agg #[.int .i64 0, .slice none 0 0], .bool false]) (by simp [results, Try.results36, go_sem, r0, r1, g0, g1, hs1]) rfl (madeLB_no HX.out (by (repeat (first | with_reducible assumption | with_reducible exact Below.refl _ _ | with_reducible refine Below.setCell ?_ ?_ _ | with_reducible refine Below.alloc ?_ ?_ _ | with_reducible refine Below.drew ?_ | with_reducible refine below_drewN ?_ _ | omega | (simp; done) | (simp; omega))); all_goals first | omega | (simp; done) | (simp; omega)))
  cases h6 : rises (fun n => inB n 1 1000000000) pins
  · have HX := Lib.hid (show SweepLog_f ⟨next, l⟩ now age keep pins = (⟨0, []⟩, false) from if_neg (by simp [sweepOk, h1, h2, h3, h4, h5, h6]))
    rw [h1] at HV
    rw [h2] at HT
    rw [h3] at HA
    rw [h4] at HK
    rw [h6] at HP
    have hd : (pins.length : Int) ≤ 300 := by simpa using h5
    clear h1 h2 h3 h4 h5 h6 hr hp
    generalize l.length = n at *
    generalize pins.length = np at *
    go_enter Try.func36, Try.ntmps36
    go_wp2_with (first | (go_at_call 41; (with_reducible refine (HV _ (by (repeat (first | with_reducible assumption | with_reducible exact Below.refl _ _ | with_reducible refine Below.setCell ?_ ?_ _ | with_reducible refine Below.alloc ?_ ?_ _ | with_reducible refine Below.drew ?_ | with_reducible refine below_drewN ?_ _ | omega | (simp; done) | (simp; omega))); all_goals first | omega | (simp; done) | (simp; omega))).mono ?_); rintro e w1 ⟨rfl, hb1⟩; have hbw1 : Below (W.heap.size + 2) ((W.alloc (.cells #[.int .i64 next, .slice A n c] 41)).alloc (.cells #[.int .i64 0, .slice none 0 0] 41)) w1 := hb1.mono (by simp); have xr : Bx w1 (W.heap.size + 1) #[.int .i64 0, .slice none 0 0] 41 := (Bx.new2 W _ _ _).below hbw1 (by omega); have xl : Bx w1 W.heap.size #[.int .i64 next, .slice A n c] 41 := ((Bx.new W _ _).alloc _).below hbw1 (by omega); have r0 := xr.cell 0 rfl; have r1 := xr.cell 1 rfl; have g0 := xr.free 0; have g1 := xr.free 1; have hs1 := xr.lt; have hs0 := xl.lt; have l0 := xl.cell 0 rfl; have l1 := xl.cell 1 rfl; have hbw : Below W.heap.size W w1 := (((Below.refl _ _).alloc (Nat.le_refl _) _).alloc (by simp) _).trans (hb1.mono (by simp; omega))) | (go_at_call 90; (with_reducible refine (HT _).mono ?_); rintro e w' ⟨rfl, rfl⟩) | (go_at_call 90; (with_reducible refine (HA _).mono ?_); rintro e w' ⟨rfl, rfl⟩) | (go_at_call 85; (with_reducible refine (HK _).mono ?_); rintro e w' ⟨rfl, rfl⟩) | (go_at_call 97; (with_reducible refine (HP _ hbw).mono ?_); rintro e wp ⟨rfl, hwp⟩; obtain rfl := hwp.symm))
    exact bodyPost_ret (v := .tuple #[.agg #[.int .i64 0, .slice none 0 0], .bool false]) (by simp [results, Try.results36, go_sem, r0, r1, g0, g1, hs1]) rfl (madeLB_no HX.out (by (repeat (first | with_reducible assumption | with_reducible exact Below.refl _ _ | with_reducible refine Below.setCell ?_ ?_ _ | with_reducible refine Below.alloc ?_ ?_ _ | with_reducible refine Below.drew ?_ | with_reducible refine below_drewN ?_ _ | omega | (simp; done) | (simp; omega))); all_goals first | omega | (simp; done) | (simp; omega)))
  have HVX := Lib.hid (show SweepLog_f ⟨next, l⟩ now age keep pins = (⟨next, sweepTo now age keep pins l l.length⟩, true) from if_pos (by simp [sweepOk, h1, h2, h3, h4, h5, h6]))
  have hd : (pins.length : Int) ≤ 300 := by simpa using h5
  have hnow := inB_yes h2
  have HMB := Lib.hid (show ∀ (j : Nat) (m : Message), l[j]? = some m → 0 ≤ m.xAt ∧ m.xAt ≤ 1000000 from fun j m h => by have := Message.bounds (Log.msg_ok h1 h).1; omega)
  have hfew := (Log.few h1).1
  simp only at hfew
  have HCI := fun (v : Int) (w : World) (hb : Below W.heap.size W w) => slices_Contains v pins Ap cp w (ro_to hp hb) hp.sl_max hp.sl_cap
  rw [h1] at HV
  rw [h2] at HT
  rw [h3] at HA
  rw [h4] at HK
  rw [h6] at HP
  have HSL := fun (j : Nat) => Lib.hid (sweepTo_len now age keep pins l j)
  clear h1 h2 h3 h4 h5 h6 hp
  generalize hnn : l.length = n at *
  have HN := Lib.hid hnn
  clear hnn
  generalize pins.length = np at *
  go_enter Try.func36, Try.ntmps36
  go_wp2_with (first | (go_at_call 41; (with_reducible refine (HV _ (by (repeat (first | with_reducible assumption | with_reducible exact Below.refl _ _ | with_reducible refine Below.setCell ?_ ?_ _ | with_reducible refine Below.alloc ?_ ?_ _ | with_reducible refine Below.drew ?_ | with_reducible refine below_drewN ?_ _ | omega | (simp; done) | (simp; omega))); all_goals first | omega | (simp; done) | (simp; omega))).mono ?_); rintro e w1 ⟨rfl, hb1⟩; have hbw1 : Below (W.heap.size + 2) ((W.alloc (.cells #[.int .i64 next, .slice A n c] 41)).alloc (.cells #[.int .i64 0, .slice none 0 0] 41)) w1 := hb1.mono (by simp); have xr : Bx w1 (W.heap.size + 1) #[.int .i64 0, .slice none 0 0] 41 := (Bx.new2 W _ _ _).below hbw1 (by omega); have xl : Bx w1 W.heap.size #[.int .i64 next, .slice A n c] 41 := ((Bx.new W _ _).alloc _).below hbw1 (by omega); have r0 := xr.cell 0 rfl; have r1 := xr.cell 1 rfl; have g0 := xr.free 0; have g1 := xr.free 1; have hs1 := xr.lt; have hs0 := xl.lt; have l0 := xl.cell 0 rfl; have l1 := xl.cell 1 rfl; have hbw : Below W.heap.size W w1 := (((Below.refl _ _).alloc (Nat.le_refl _) _).alloc (by simp) _).trans (hb1.mono (by simp; omega))) | (go_at_call 90; (with_reducible refine (HT _).mono ?_); rintro e w' ⟨rfl, rfl⟩) | (go_at_call 90; (with_reducible refine (HA _).mono ?_); rintro e w' ⟨rfl, rfl⟩) | (go_at_call 85; (with_reducible refine (HK _).mono ?_); rintro e w' ⟨rfl, rfl⟩) | (go_at_call 97; (with_reducible refine (HP _ hbw).mono ?_); rintro e wp ⟨rfl, hwp⟩; obtain rfl := hwp.symm))
  have hf1 := xl.free 1
  have hsw := hbw.size
  go_loopw [50] (fun k wr => ∃ j : Nat, j ≤ n ∧ k = .int .i64 j ∧ (∃ v F, Bx wr w1.heap.size #[.int .i64 next, v] 41 ∧ Ow wr (Message.s true (sweepTo now age keep pins l j)) v F ∧ ∀ b, F b → w1.heap.size + 1 ≤ b) ∧ Below w1.heap.size w1 wr) (fun k _ => n - (intOf k).toNat)
  case atStart =>
    exact ⟨0, by omega, rfl, ⟨.slice none 0 0, fun _ => False, Bx.new _ _ _, msgs_own_nil _ none, fun b h => h.elim⟩, (Below.refl _ _).alloc (Nat.le_refl _) _⟩
  case round =>
    obtain ⟨j, hj, rfl, ⟨v, F, x3, hO, hF⟩, hb⟩ := hrel
    have hbW := hbw.trans (hb.mono hbw.size)
    have hbs := hbW.size
    have hs3 := x3.lt
    have q0 := x3.cell 0 rfl
    have q1 := x3.cell 1 rfl
    have xl3 := xl.below hb xl.lt
    have hs30 := xl3.lt
    have xr3 := xr.below hb hs1
    have p0 := xl3.cell 0 rfl
    have p1 := xl3.cell 1 rfl
    by_cases hlt : j < n
    · obtain ⟨m, hmj⟩ := get_lt (l := l) (k := j) (by rw [HN.out]; exact hlt)
      obtain ⟨b, off, A7, cc7, rfl, hbl, hru, hcl⟩ := msg_at hr hmj
      have c0 : wr.cell? ⟨b, off + j * 8, none⟩ = some (.int .i64 m.xNumber) := hcl wr hbW 0 _ rfl; have c1 : wr.cell? ⟨b, off + j * 8 + 1, none⟩ = some (.int .i64 m.xSender) := hcl wr hbW 1 _ rfl; have c2 : wr.cell? ⟨b, off + j * 8 + 2, none⟩ = some (.int .i64 m.xAt) := hcl wr hbW 2 _ rfl; have c3 : wr.cell? ⟨b, off + j * 8 + 3, none⟩ = some (.string m.xText) := hcl wr hbW 3 _ rfl; have c4 : wr.cell? ⟨b, off + j * 8 + 4, none⟩ = some (.int .i64 m.xEdits) := hcl wr hbW 4 _ rfl; have c5 : wr.cell? ⟨b, off + j * 8 + 5, none⟩ = some (.bool m.xGone) := hcl wr hbW 5 _ rfl; have c6 : wr.cell? ⟨b, off + j * 8 + 6, none⟩ = some (.int .i64 m.xReply) := hcl wr hbW 6 _ rfl; have c7 : wr.cell? ⟨b, off + j * 8 + 7, none⟩ = some (.slice A7 m.xLikes.length cc7) := hcl wr hbW 7 _ rfl
      have HC := fun (w : World) (hbw : Below W.heap.size W w) => impl_cloneMessage m _ w (rol_to hru hbw) (hw m (List.mem_of_getElem? hmj)).2
      have HCT := HCI m.xNumber
      have hma := HMB.out j m hmj
      have HTL := HSL j
      have HTY := fun h => Lib.hid (sweepTo_yes (now := now) (age := age) (keep := keep) (pins := pins) hmj h)
      have HTN := fun h => Lib.hid (sweepTo_no (now := now) (age := age) (keep := keep) (pins := pins) hmj h)
      rw [HN.out] at HTY HTN
      unfold kept at HTY HTN
      have hlt' : (j : Int) < (n : Int) := by omega
      generalize hasIt pins m.xNumber = hi at *
      clear hr hcl hru hmj l0 l1 r0 r1 g0 g1
      by_cases d1 : now - m.xAt ≤ age
      · have HT := HTY (by simp [d1])
        go_wp2_with (go_at_call 99; (with_reducible refine (HCT _ (hbW.alloc hbs _)).mono ?_); rintro e wq ⟨rfl, hwq⟩; obtain rfl := hwq.symm)
        refine wp_any (fun w => Below (wr.heap.size + 1) (wr.alloc (.cells #[.int .i64 m.xNumber, .int .i64 m.xSender, .int .i64 m.xAt, .string m.xText, .int .i64 m.xEdits, .bool m.xGone, .int .i64 m.xReply, .slice A7 m.xLikes.length cc7] 57)) w) (Below.refl _ _) ?_
        intro w2 hbx2
        obtain ⟨hbx2, hb2, hs2⟩ := box_after hbx2
        have hB2 := hbW.trans (hb2.mono hbW.size)
        have c0 : w2.cell? ⟨wr.heap.size, 0, none⟩ = some (.int .i64 m.xNumber) := hbx2 0 _ rfl; have c1 : w2.cell? ⟨wr.heap.size, 0 + 1, none⟩ = some (.int .i64 m.xSender) := hbx2 1 _ rfl; have c2 : w2.cell? ⟨wr.heap.size, 0 + 2, none⟩ = some (.int .i64 m.xAt) := hbx2 2 _ rfl; have c3 : w2.cell? ⟨wr.heap.size, 0 + 3, none⟩ = some (.string m.xText) := hbx2 3 _ rfl; have c4 : w2.cell? ⟨wr.heap.size, 0 + 4, none⟩ = some (.int .i64 m.xEdits) := hbx2 4 _ rfl; have c5 : w2.cell? ⟨wr.heap.size, 0 + 5, none⟩ = some (.bool m.xGone) := hbx2 5 _ rfl; have c6 : w2.cell? ⟨wr.heap.size, 0 + 6, none⟩ = some (.int .i64 m.xReply) := hbx2 6 _ rfl; have c7 : w2.cell? ⟨wr.heap.size, 0 + 7, none⟩ = some (.slice A7 m.xLikes.length cc7) := hbx2 7 _ rfl
        have x32 := x3.below hb2 hs3
        have hO2 := hO.keep hb2
        have hlo : ∀ b, F b → b < w2.heap.size := hO2.lt
        have hs32 := x32.lt
        have q12 := x32.cell 1 rfl
        clear hbx2 q0 q1
        go_region_law ((first
          | (refine step_enter (f := 100) (by rfl) (by rfl) (fun _ _ => by rfl) [.agg #[.int .i64 m.xNumber, .int .i64 m.xSender, .int .i64 m.xAt, .string m.xText, .int .i64 m.xEdits, .bool m.xGone, .int .i64 m.xReply, .slice A7 m.xLikes.length cc7]] (by rfl) (HC _ hB2.drew) ?_; rintro e w3 ⟨us3, F3, rfl, hO3, hb3, hF3⟩; obtain ⟨A8, c8, rfl, -⟩ := Message.cells hO3.ro; have x33 := x32.drew.below hb3 hs32; have q13 := x33.cell 1 rfl; have hs33 := x33.lt; have hOv := hO2.drew.keep hb3; refine ⟨_, rfl, ?_⟩)
          | (refine step_append1 (by rfl) _ _ 39 57 (by rfl) Try.underlying39 (.agg #[.int .i64 0, .int .i64 0, .int .i64 0, .string ByteArray.empty, .int .i64 0, .bool false, .int .i64 0, .slice none 0 0]) 8 88 Message.inf rfl (by decide) (by decide) (by rfl) hOv #[.int .i64 m.xNumber, .int .i64 m.xSender, .int .i64 m.xAt, .string m.xText, .int .i64 m.xEdits, .bool m.xGone, .int .i64 m.xReply, .slice A8 m.xLikes.length c8] (by rfl) (Message.d true m) F3 rfl hO3 (fun b h1 h2 => by have a := hF3 b h1; have c := hlo b h2; simp at a; omega) (by have := HTL.out; simp only [List.length_map]; omega) ?_; intro v4 w4 F4 hO4 hk4 hF4; obtain ⟨A9, n9, c9, rfl⟩ := hO4.slice; have x34 := x33.kp hk4 (fun h => by have := hF _ h; omega); have q14 := x34.cell 1 rfl; have f14 := x34.free 1)))
        all_goals
          have hF4' : ∀ b, F4 b → w1.heap.size + 1 ≤ b := fun b h => by
            rcases hF4 b h with h | h | h
            · exact hF b h
            · have a := hF3 b h
              simp at a
              omega
            · omega
          have hB4 : Below w1.heap.size w1 w4 :=
            (((hb.trans (hb2.mono (by omega))).drew).trans (hb3.mono (by show w1.heap.size ≤ w2.heap.size; omega))).trans (hk4.below (by omega) (fun b h => by have := hF b h; omega))
          go_wp2
          go_roundw
          case rel => exact ⟨j + 1, by omega, by go_num, ⟨_, F4, x34.put 1 _, by rw [HT.out]; exact (msgs_snoc hO4).far (p := ⟨w1.heap.size, 1, none⟩) (fun h => by have hq := hF4' _ h; first | omega | (dsimp only at hq; omega) | (simp at hq; done) | (simp at hq; omega)) _, hF4'⟩, hB4.setCell (by simp) _⟩
          case measure => simp [intOf]; omega
      by_cases d2 : (n : Int) - (j : Int) ≤ keep
      · have HT := HTY (by simp [d2])
        go_wp2_with (go_at_call 99; (with_reducible refine (HCT _ (hbW.alloc hbs _)).mono ?_); rintro e wq ⟨rfl, hwq⟩; obtain rfl := hwq.symm)
        refine wp_any (fun w => Below (wr.heap.size + 1) (wr.alloc (.cells #[.int .i64 m.xNumber, .int .i64 m.xSender, .int .i64 m.xAt, .string m.xText, .int .i64 m.xEdits, .bool m.xGone, .int .i64 m.xReply, .slice A7 m.xLikes.length cc7] 57)) w) (Below.refl _ _) ?_
        intro w2 hbx2
        obtain ⟨hbx2, hb2, hs2⟩ := box_after hbx2
        have hB2 := hbW.trans (hb2.mono hbW.size)
        have c0 : w2.cell? ⟨wr.heap.size, 0, none⟩ = some (.int .i64 m.xNumber) := hbx2 0 _ rfl; have c1 : w2.cell? ⟨wr.heap.size, 0 + 1, none⟩ = some (.int .i64 m.xSender) := hbx2 1 _ rfl; have c2 : w2.cell? ⟨wr.heap.size, 0 + 2, none⟩ = some (.int .i64 m.xAt) := hbx2 2 _ rfl; have c3 : w2.cell? ⟨wr.heap.size, 0 + 3, none⟩ = some (.string m.xText) := hbx2 3 _ rfl; have c4 : w2.cell? ⟨wr.heap.size, 0 + 4, none⟩ = some (.int .i64 m.xEdits) := hbx2 4 _ rfl; have c5 : w2.cell? ⟨wr.heap.size, 0 + 5, none⟩ = some (.bool m.xGone) := hbx2 5 _ rfl; have c6 : w2.cell? ⟨wr.heap.size, 0 + 6, none⟩ = some (.int .i64 m.xReply) := hbx2 6 _ rfl; have c7 : w2.cell? ⟨wr.heap.size, 0 + 7, none⟩ = some (.slice A7 m.xLikes.length cc7) := hbx2 7 _ rfl
        have x32 := x3.below hb2 hs3
        have hO2 := hO.keep hb2
        have hlo : ∀ b, F b → b < w2.heap.size := hO2.lt
        have hs32 := x32.lt
        have q12 := x32.cell 1 rfl
        clear hbx2 q0 q1
        go_region_law ((first
          | (refine step_enter (f := 100) (by rfl) (by rfl) (fun _ _ => by rfl) [.agg #[.int .i64 m.xNumber, .int .i64 m.xSender, .int .i64 m.xAt, .string m.xText, .int .i64 m.xEdits, .bool m.xGone, .int .i64 m.xReply, .slice A7 m.xLikes.length cc7]] (by rfl) (HC _ hB2.drew) ?_; rintro e w3 ⟨us3, F3, rfl, hO3, hb3, hF3⟩; obtain ⟨A8, c8, rfl, -⟩ := Message.cells hO3.ro; have x33 := x32.drew.below hb3 hs32; have q13 := x33.cell 1 rfl; have hs33 := x33.lt; have hOv := hO2.drew.keep hb3; refine ⟨_, rfl, ?_⟩)
          | (refine step_append1 (by rfl) _ _ 39 57 (by rfl) Try.underlying39 (.agg #[.int .i64 0, .int .i64 0, .int .i64 0, .string ByteArray.empty, .int .i64 0, .bool false, .int .i64 0, .slice none 0 0]) 8 88 Message.inf rfl (by decide) (by decide) (by rfl) hOv #[.int .i64 m.xNumber, .int .i64 m.xSender, .int .i64 m.xAt, .string m.xText, .int .i64 m.xEdits, .bool m.xGone, .int .i64 m.xReply, .slice A8 m.xLikes.length c8] (by rfl) (Message.d true m) F3 rfl hO3 (fun b h1 h2 => by have a := hF3 b h1; have c := hlo b h2; simp at a; omega) (by have := HTL.out; simp only [List.length_map]; omega) ?_; intro v4 w4 F4 hO4 hk4 hF4; obtain ⟨A9, n9, c9, rfl⟩ := hO4.slice; have x34 := x33.kp hk4 (fun h => by have := hF _ h; omega); have q14 := x34.cell 1 rfl; have f14 := x34.free 1)))
        all_goals
          have hF4' : ∀ b, F4 b → w1.heap.size + 1 ≤ b := fun b h => by
            rcases hF4 b h with h | h | h
            · exact hF b h
            · have a := hF3 b h
              simp at a
              omega
            · omega
          have hB4 : Below w1.heap.size w1 w4 :=
            (((hb.trans (hb2.mono (by omega))).drew).trans (hb3.mono (by show w1.heap.size ≤ w2.heap.size; omega))).trans (hk4.below (by omega) (fun b h => by have := hF b h; omega))
          go_wp2
          go_roundw
          case rel => exact ⟨j + 1, by omega, by go_num, ⟨_, F4, x34.put 1 _, by rw [HT.out]; exact (msgs_snoc hO4).far (p := ⟨w1.heap.size, 1, none⟩) (fun h => by have hq := hF4' _ h; first | omega | (dsimp only at hq; omega) | (simp at hq; done) | (simp at hq; omega)) _, hF4'⟩, hB4.setCell (by simp) _⟩
          case measure => simp [intOf]; omega
      cases hi
      · have HT := HTN (by simp [d1, d2])
        go_wp2_with (go_at_call 99; (with_reducible refine (HCT _ (hbW.alloc hbs _)).mono ?_); rintro e wq ⟨rfl, hwq⟩; obtain rfl := hwq.symm)
        go_roundw
        case rel => exact ⟨j + 1, by omega, by go_num, ⟨_, F, x3.alloc _, by rw [HT.out]; exact hO.alloc _, hF⟩, hb.alloc (by omega) _⟩
        case measure => simp [intOf]; omega
      · have HT := HTY (by simp)
        go_wp2_with (go_at_call 99; (with_reducible refine (HCT _ (hbW.alloc hbs _)).mono ?_); rintro e wq ⟨rfl, hwq⟩; obtain rfl := hwq.symm)
        refine wp_any (fun w => Below (wr.heap.size + 1) (wr.alloc (.cells #[.int .i64 m.xNumber, .int .i64 m.xSender, .int .i64 m.xAt, .string m.xText, .int .i64 m.xEdits, .bool m.xGone, .int .i64 m.xReply, .slice A7 m.xLikes.length cc7] 57)) w) (Below.refl _ _) ?_
        intro w2 hbx2
        obtain ⟨hbx2, hb2, hs2⟩ := box_after hbx2
        have hB2 := hbW.trans (hb2.mono hbW.size)
        have c0 : w2.cell? ⟨wr.heap.size, 0, none⟩ = some (.int .i64 m.xNumber) := hbx2 0 _ rfl; have c1 : w2.cell? ⟨wr.heap.size, 0 + 1, none⟩ = some (.int .i64 m.xSender) := hbx2 1 _ rfl; have c2 : w2.cell? ⟨wr.heap.size, 0 + 2, none⟩ = some (.int .i64 m.xAt) := hbx2 2 _ rfl; have c3 : w2.cell? ⟨wr.heap.size, 0 + 3, none⟩ = some (.string m.xText) := hbx2 3 _ rfl; have c4 : w2.cell? ⟨wr.heap.size, 0 + 4, none⟩ = some (.int .i64 m.xEdits) := hbx2 4 _ rfl; have c5 : w2.cell? ⟨wr.heap.size, 0 + 5, none⟩ = some (.bool m.xGone) := hbx2 5 _ rfl; have c6 : w2.cell? ⟨wr.heap.size, 0 + 6, none⟩ = some (.int .i64 m.xReply) := hbx2 6 _ rfl; have c7 : w2.cell? ⟨wr.heap.size, 0 + 7, none⟩ = some (.slice A7 m.xLikes.length cc7) := hbx2 7 _ rfl
        have x32 := x3.below hb2 hs3
        have hO2 := hO.keep hb2
        have hlo : ∀ b, F b → b < w2.heap.size := hO2.lt
        have hs32 := x32.lt
        have q12 := x32.cell 1 rfl
        clear hbx2 q0 q1
        go_region_law ((first
          | (refine step_enter (f := 100) (by rfl) (by rfl) (fun _ _ => by rfl) [.agg #[.int .i64 m.xNumber, .int .i64 m.xSender, .int .i64 m.xAt, .string m.xText, .int .i64 m.xEdits, .bool m.xGone, .int .i64 m.xReply, .slice A7 m.xLikes.length cc7]] (by rfl) (HC _ hB2.drew) ?_; rintro e w3 ⟨us3, F3, rfl, hO3, hb3, hF3⟩; obtain ⟨A8, c8, rfl, -⟩ := Message.cells hO3.ro; have x33 := x32.drew.below hb3 hs32; have q13 := x33.cell 1 rfl; have hs33 := x33.lt; have hOv := hO2.drew.keep hb3; refine ⟨_, rfl, ?_⟩)
          | (refine step_append1 (by rfl) _ _ 39 57 (by rfl) Try.underlying39 (.agg #[.int .i64 0, .int .i64 0, .int .i64 0, .string ByteArray.empty, .int .i64 0, .bool false, .int .i64 0, .slice none 0 0]) 8 88 Message.inf rfl (by decide) (by decide) (by rfl) hOv #[.int .i64 m.xNumber, .int .i64 m.xSender, .int .i64 m.xAt, .string m.xText, .int .i64 m.xEdits, .bool m.xGone, .int .i64 m.xReply, .slice A8 m.xLikes.length c8] (by rfl) (Message.d true m) F3 rfl hO3 (fun b h1 h2 => by have a := hF3 b h1; have c := hlo b h2; simp at a; omega) (by have := HTL.out; simp only [List.length_map]; omega) ?_; intro v4 w4 F4 hO4 hk4 hF4; obtain ⟨A9, n9, c9, rfl⟩ := hO4.slice; have x34 := x33.kp hk4 (fun h => by have := hF _ h; omega); have q14 := x34.cell 1 rfl; have f14 := x34.free 1)))
        all_goals
          have hF4' : ∀ b, F4 b → w1.heap.size + 1 ≤ b := fun b h => by
            rcases hF4 b h with h | h | h
            · exact hF b h
            · have a := hF3 b h
              simp at a
              omega
            · omega
          have hB4 : Below w1.heap.size w1 w4 :=
            (((hb.trans (hb2.mono (by omega))).drew).trans (hb3.mono (by show w1.heap.size ≤ w2.heap.size; omega))).trans (hk4.below (by omega) (fun b h => by have := hF b h; omega))
          go_wp2
          go_roundw
          case rel => exact ⟨j + 1, by omega, by go_num, ⟨_, F4, x34.put 1 _, by rw [HT.out]; exact (msgs_snoc hO4).far (p := ⟨w1.heap.size, 1, none⟩) (fun h => by have hq := hF4' _ h; first | omega | (dsimp only at hq; omega) | (simp at hq; done) | (simp at hq; omega)) _, hF4'⟩, hB4.setCell (by simp) _⟩
          case measure => simp [intOf]; omega
    · obtain rfl : j = n := by omega
      have HV2 := Lib.hid (show SweepLog_f ⟨next, l⟩ now age keep pins = (⟨next, sweepTo now age keep pins l j⟩, true) from HVX.out)
      obtain ⟨A9, c9, hv, -⟩ := hO.shape
      subst hv
      simp only [List.length_map] at hO x3
      clear hr q0 q1 HSL
      generalize (sweepTo now age keep pins l j).length = q9 at *
      generalize sweepTo now age keep pins l j = ms at *
      have y0 := xr3.cell 0 rfl
      have y1 := xr3.cell 1 rfl
      have z0 := xr3.free 0
      have z1 := xr3.free 1
      have hs2 := xr3.lt
      have q0' : wr.cell? ⟨w1.heap.size, 0, none⟩ = some (.int .i64 next) := x3.cell 0 rfl
      have q1' : wr.cell? ⟨w1.heap.size, 1, none⟩ = some (.slice A9 q9 c9) := x3.cell 1 rfl
      have hne : w1.heap.size ≠ W.heap.size + 1 := by omega
      go_wp2
      refine bodyPost_ret (v := .tuple #[.agg #[.int .i64 next, .slice A9 q9 c9], .bool true]) (by simp [results, Try.results36, go_sem, q0', q1', y0, y1, z0, z1, hs2, hs3, hne]) rfl ⟨A9, q9, c9, F, by rw [HV2.out], ?_, (by (repeat (first | with_reducible assumption | with_reducible exact Below.refl _ _ | with_reducible refine Below.setCell ?_ ?_ _ | with_reducible refine Below.alloc ?_ ?_ _ | with_reducible refine Below.drew ?_ | with_reducible refine below_drewN ?_ _ | omega | (simp; done) | (simp; omega))); all_goals first | omega | (simp; done) | (simp; omega)), fun b h => by have := hF b h; omega⟩
      rw [HV2.out]
      repeat (refine Ow.far ?_ (fun h => by have hq := hF _ h; dsimp only at hq; omega) _)
      exact hO
end Go.Proofs.Ytmofbfeclecdoaa

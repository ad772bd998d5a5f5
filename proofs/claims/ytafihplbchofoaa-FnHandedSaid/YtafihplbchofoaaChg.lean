/- A hand that is changed. -/
import Derived.Test.YtafihplbchofoaaGain
import Derived.Deep.DeepCutAuto
namespace Go.Proofs.Ytafihplbchofoaa
open Go.ChangeShapes Go.WideShapes Go.ChangeAt Go.RowKit Go.Dt
set_option linter.unusedVariables false
set_option linter.unusedSimpArgs false
/-- A hand in its own block g. -/
def HandAt (w0 : World) (B : Nat) (w : World) (g : Nat) (h : Hand) : Prop := ∃ A2 n2 c2 A4 n4 c4 A5 n5 c5 F2 F4 F5, Gain w0 B w [some (Message.s true h.xFrom.xMessages, .slice A2 n2 c2, F2), some (Message.s true h.xTo.xMessages, .slice A4 n4 c4, F4), some (Draft.s true h.xWaiting, .slice A5 n5 c5, F5)] (some (g, #[.int .i64 h.xStage, .int .i64 h.xFrom.xNext, .slice A2 n2 c2, .int .i64 h.xTo.xNext, .slice A4 n4 c4, .slice A5 n5 c5], 30))
theorem handAt_mk {w0 w : World} {B g : Nat} {h : Hand} {A2 A4 A5 : Option Addr} {n2 c2 n4 c4 n5 c5 : Nat} {F2 F4 F5 : Nat → Prop} {z0 z1 z2 z3 z4 z5 : Value}
    (hA : Gain w0 B w [some (Message.s true h.xFrom.xMessages, .slice A2 n2 c2, F2), some (Message.s true h.xTo.xMessages, .slice A4 n4 c4, F4), some (Draft.s true h.xWaiting, .slice A5 n5 c5, F5)] (some (g, #[z0, z1, z2, z3, z4, z5], 30))) :
    HandAt w0 B ((((((w.setCell ⟨g, 0, none⟩ (.int .i64 h.xStage)).setCell ⟨g, 1, none⟩ (.int .i64 h.xFrom.xNext)).setCell ⟨g, 2, none⟩ (.slice A2 n2 c2)).setCell ⟨g, 3, none⟩ (.int .i64 h.xTo.xNext)).setCell ⟨g, 4, none⟩ (.slice A4 n4 c4)).setCell ⟨g, 5, none⟩ (.slice A5 n5 c5)) g h :=
  ⟨_, _, _, _, _, _, _, _, _, _, _, _, Gain.is ((((((hA.put 0 _).put 1 _).put 2 _).put 3 _).put 4 _).put 5 _) rfl⟩
theorem handAt_new {w0 w : World} {B : Nat} {h : Hand} {A2 A4 A5 : Option Addr} {n2 c2 n4 c4 n5 c5 : Nat} {F2 F4 F5 : Nat → Prop}
    (hA : Gain w0 B w [some (Message.s true h.xFrom.xMessages, .slice A2 n2 c2, F2), some (Message.s true h.xTo.xMessages, .slice A4 n4 c4, F4), some (Draft.s true h.xWaiting, .slice A5 n5 c5, F5)] none) :
    HandAt w0 B (w.alloc (.cells #[.int .i64 h.xStage, .int .i64 h.xFrom.xNext, .slice A2 n2 c2, .int .i64 h.xTo.xNext, .slice A4 n4 c4, .slice A5 n5 c5] 30)) w.heap.size h :=
  ⟨_, _, _, _, _, _, _, _, _, _, _, _, hA.alloc _ _⟩
def changed (f : Hand → Hand × Bool) (h : Hand) : Hand × Bool := if h.ok = true ∧ (f h).2 = true ∧ (f h).1.ok = true then ((f h).1, true) else (Hand.zero, false)
set_option maxHeartbeats 6400000 in
set_option maxRecDepth 100000 in
theorem impl_changedHandB (f : FuncId) (hcf : ∀ (args : Array Value) (w : World), (callFunc f args).run Try.prog w = .ok (.enter f args) w) (caps : Array Value) (fn : Hand → Hand × Bool) (h : Hand) (us : List Value) (W : World) (hr : RoL W (Lo W.heap.size) (Hand.d true h) us) (hf : h.fit)
    (hd : ∀ (w0 : World) (B g : Nat) (w : World), h.ok = true → HandAt w0 B w g h → Below W.heap.size W w → W.heap.size ≤ B → Calls Try.prog f (#[.pointer (some ⟨g, 0, none⟩)] ++ caps) w fun e w' => e = .returned (.bool (fn h).2) ∧ Below B w0 w' ∧ ((fn h).2 = true → HandAt w0 B w' g (fn h).1))
    (hfit : h.ok = true → (fn h).2 = true → (fn h).1.fit) :
    Calls Try.prog 56 #[.agg us.toArray, .func (.func f) #[] caps] W (MadeHB W (changed fn h)) := by
  have HV := fun (w : World) (hb : Below W.heap.size W w) => impl_ValidHand h us w (rol_to hr hb) hf
  obtain ⟨A2, c2, A4, c4, A5, c5, rfl, r2, l2, m2, r4, l4, m4, r5, l5, m5⟩ := Hand.cells hr
  obtain ⟨stage, fr, tt, wt⟩ := h
  simp only at *
  cases ho : Hand.ok ⟨stage, fr, tt, wt⟩
  · have HX := Lib.hid (show changed fn ⟨stage, fr, tt, wt⟩ = (Hand.zero, false) from if_neg (by rw [ho]; simp))
    rw [ho] at HV
    clear ho hd hfit hr r2 r4 r5
    go_enter Try.func56, Try.ntmps56
    go_wp2_with fail
    refine (HV _ (by (repeat (first | with_reducible assumption | with_reducible exact Below.refl _ _ | with_reducible refine Below.setCell ?_ ?_ _ | with_reducible refine Below.alloc ?_ ?_ _ | with_reducible refine Below.drew ?_ | with_reducible refine below_drewN ?_ _ | omega | (simp; done) | (simp; omega))); all_goals first | omega | (simp; done) | (simp; omega))).mono ?_
    rintro e w1 ⟨rfl, hb⟩
    have hbw : Below (W.heap.size + 2) ((W.alloc (.cells #[.int .i64 stage, .int .i64 fr.xNext, .slice A2 fr.xMessages.length c2, .int .i64 tt.xNext, .slice A4 tt.xMessages.length c4, .slice A5 wt.length c5] 30)).alloc (.cells #[.int .i64 0, .int .i64 0, .slice none 0 0, .int .i64 0, .slice none 0 0, .slice none 0 0] 30)) w1 := hb.mono (by simp)
    have xr : Bx w1 (W.heap.size + 1) #[.int .i64 0, .int .i64 0, .slice none 0 0, .int .i64 0, .slice none 0 0, .slice none 0 0] 30 := (Bx.new2 W _ _ _).below hbw (by omega)
    have r0 := xr.cell 0 rfl
    have g0 := xr.free 0
    have r1 := xr.cell 1 rfl
    have g1 := xr.free 1
    have r2 := xr.cell 2 rfl
    have g2 := xr.free 2
    have r3 := xr.cell 3 rfl
    have g3 := xr.free 3
    have r4 := xr.cell 4 rfl
    have g4 := xr.free 4
    have r5 := xr.cell 5 rfl
    have g5 := xr.free 5
    have hsr := xr.lt
    have hB : Below W.heap.size W w1 := (((Below.refl _ _).alloc (Nat.le_refl _) _).alloc (by simp) _).trans (hbw.mono (by omega))
    go_wp2
    exact bodyPost_ret (v := .tuple #[.agg #[.int .i64 0, .int .i64 0, .slice none 0 0, .int .i64 0, .slice none 0 0, .slice none 0 0], .bool false]) (by simp [results, Try.results56, go_sem, r0, r1, r2, r3, r4, r5, g0, g1, g2, g3, g4, g5, hsr]) rfl (madeHB_no HX.out (by (repeat (first | with_reducible assumption | with_reducible exact Below.refl _ _ | with_reducible refine Below.setCell ?_ ?_ _ | with_reducible refine Below.alloc ?_ ?_ _ | with_reducible refine Below.drew ?_ | with_reducible refine below_drewN ?_ _ | omega | (simp; done) | (simp; omega))); all_goals first | omega | (simp; done) | (simp; omega)))
  · have hfo := Hand.ok_logs ho
    simp only at hfo
    have HC2 := fun (w : World) (hb : Below W.heap.size W w) => impl_cloneLog fr [.int .i64 fr.xNext, .slice A2 fr.xMessages.length c2] w (by unfold Log.d; exact RoL.cons (.int _ _) (RoL.cons (ro_to r2 hb) RoL.nil)) (fun m hm => (hfo.1.2.2.2 m hm).2) hf.2.2.2.1
    have HC4 := fun (w : World) (hb : Below W.heap.size W w) => impl_cloneLog tt [.int .i64 tt.xNext, .slice A4 tt.xMessages.length c4] w (by unfold Log.d; exact RoL.cons (.int _ _) (RoL.cons (ro_to r4 hb) RoL.nil)) (fun m hm => (hfo.2.2.2.2 m hm).2) hf.2.2.2.2.1
    have HC5 := fun (w : World) (hb : Below W.heap.size W w) => slices_CloneD wt A5 c5 w (ro_to r5 hb) hf.2.2.2.2.2
    rw [ho] at HV
    have HO := Lib.hid ho
    have HD := Lib.hid hd
    have HFT := Lib.hid hfit
    have HCF := Lib.hid hcf
    clear ho hd hfit hr r2 r4 r5 hfo hf hcf
    go_enter Try.func56, Try.ntmps56
    go_wp2_with fail
    refine (HV _ (by (repeat (first | with_reducible assumption | with_reducible exact Below.refl _ _ | with_reducible refine Below.setCell ?_ ?_ _ | with_reducible refine Below.alloc ?_ ?_ _ | with_reducible refine Below.drew ?_ | with_reducible refine below_drewN ?_ _ | omega | (simp; done) | (simp; omega))); all_goals first | omega | (simp; done) | (simp; omega))).mono ?_
    rintro e w1 ⟨rfl, hb⟩
    have hbw : Below (W.heap.size + 2) ((W.alloc (.cells #[.int .i64 stage, .int .i64 fr.xNext, .slice A2 fr.xMessages.length c2, .int .i64 tt.xNext, .slice A4 tt.xMessages.length c4, .slice A5 wt.length c5] 30)).alloc (.cells #[.int .i64 0, .int .i64 0, .slice none 0 0, .int .i64 0, .slice none 0 0, .slice none 0 0] 30)) w1 := hb.mono (by simp)
    have hsz1 := hbw.size
    simp at hsz1
    have hbW : Below W.heap.size W w1 := (((Below.refl _ _).alloc (Nat.le_refl _) _).alloc (by simp) _).trans (hbw.mono (by omega))
    have xb : Bx w1 W.heap.size #[.int .i64 stage, .int .i64 fr.xNext, .slice A2 fr.xMessages.length c2, .int .i64 tt.xNext, .slice A4 tt.xMessages.length c4, .slice A5 wt.length c5] 30 := ((Bx.new W _ _).alloc _).below hbw (by omega)
    have b0 := xb.cell 0 rfl
    have b1 := xb.cell 1 rfl
    have b2 := xb.cell 2 rfl
    have b3 := xb.cell 3 rfl
    have b4 := xb.cell 4 rfl
    have b5 := xb.cell 5 rfl
    have hsb := xb.lt
    have hA : Gain w1 (W.heap.size + 2) w1 [none, none, none] none := Gain.start (Below.refl _ _) (by omega) (fun i e h => by rcases i with _ | _ | _ | i <;> simp at h <;> exact h.symm)
    have HSS := Lib.hid (show ∀ w', Below (W.heap.size + 2) w1 w' → (fun w' => Below (W.heap.size + 2) w1 w' ∧ w'.cell? ⟨W.heap.size, 0, none⟩ = some (.int .i64 stage) ∧ w'.cell? ⟨W.heap.size, 1, none⟩ = some (.int .i64 fr.xNext) ∧ w'.cell? ⟨W.heap.size, 2, none⟩ = some (.slice A2 fr.xMessages.length c2) ∧ w'.cell? ⟨W.heap.size, 3, none⟩ = some (.int .i64 tt.xNext) ∧ w'.cell? ⟨W.heap.size, 4, none⟩ = some (.slice A4 tt.xMessages.length c4) ∧ w'.cell? ⟨W.heap.size, 5, none⟩ = some (.slice A5 wt.length c5)) w' from fun w' h => ⟨h, (h.cell (p := ⟨W.heap.size, 0, none⟩) (by show W.heap.size < _; omega)).trans b0, (h.cell (p := ⟨W.heap.size, 1, none⟩) (by show W.heap.size < _; omega)).trans b1, (h.cell (p := ⟨W.heap.size, 2, none⟩) (by show W.heap.size < _; omega)).trans b2, (h.cell (p := ⟨W.heap.size, 3, none⟩) (by show W.heap.size < _; omega)).trans b3, (h.cell (p := ⟨W.heap.size, 4, none⟩) (by show W.heap.size < _; omega)).trans b4, (h.cell (p := ⟨W.heap.size, 5, none⟩) (by show W.heap.size < _; omega)).trans b5⟩)
    go_upto_region 3 with fail
    go_cut [6] (fun s6 wx => ∃ g : Nat, s6 = .pointer (some ⟨g, 0, none⟩) ∧ HandAt w1 (W.heap.size + 2) wx g ⟨stage, fr, tt, wt⟩)
    case first =>
      clear b0 b1 b2 b3 b4 b5
      go_region_held3 (fun w' => Below (W.heap.size + 2) w1 w' ∧ w'.cell? ⟨W.heap.size, 0, none⟩ = some (.int .i64 stage) ∧ w'.cell? ⟨W.heap.size, 1, none⟩ = some (.int .i64 fr.xNext) ∧ w'.cell? ⟨W.heap.size, 2, none⟩ = some (.slice A2 fr.xMessages.length c2) ∧ w'.cell? ⟨W.heap.size, 3, none⟩ = some (.int .i64 tt.xNext) ∧ w'.cell? ⟨W.heap.size, 4, none⟩ = some (.slice A4 tt.xMessages.length c4) ∧ w'.cell? ⟨W.heap.size, 5, none⟩ = some (.slice A5 wt.length c5))
        (((refine HSS.out _ ?_); (repeat (with_reducible refine Below.setCell ?_ ?_ _)); (first | (with_reducible exact Gain.below hA) | (with_reducible exact Gain.below (Gain.drew hA)) | (with_reducible exact Gain.below (Gain.alloc0 hA _)) | (with_reducible exact Gain.below (Gain.alloc0 (Gain.drew hA) _)) | (with_reducible exact Gain.below (Gain.drew (Gain.alloc0 hA _)))); (all_goals (first | omega | (dsimp only; omega) | (simp; omega)))))
        (((first | (go_at_call 52; (with_reducible refine (HC2 _ (Below.trans hbW (Below.mono (B := W.heap.size + 2) (by first | (with_reducible exact Gain.below hA) | (with_reducible exact Gain.below (Gain.drew hA)) | (with_reducible exact Gain.below (Gain.alloc hA _ _)) | (with_reducible exact Gain.below (Gain.alloc_drew hA _ _)) | (with_reducible exact Gain.below (Gain.drew (Gain.alloc hA _ _))) | (with_reducible exact Gain.below (Gain.alloc0 hA _))) (by omega)))).mono ?_); rintro e w9 ⟨us9, F8, rfl, hO8, hb9, hF8⟩; obtain ⟨A9, c9, F9, rfl, hO9, -, -, hFe⟩ := Log.owned hO8; have hF9 := fun (b : Nat) (h : F9 b) => hF8 b ((hFe b).2 h); (first | (replace hA := Gain.call 0 hb9 hO9 hF9 hA) | (replace hA := Gain.call 0 hb9 hO9 hF9 (Gain.drew hA)) | (replace hA := Gain.call 0 hb9 hO9 hF9 (Gain.alloc hA _ _)) | (replace hA := Gain.call 0 hb9 hO9 hF9 (Gain.alloc_drew hA _ _)) | (replace hA := Gain.call 0 hb9 hO9 hF9 (Gain.drew (Gain.alloc hA _ _))) | (replace hA := Gain.call 0 hb9 hO9 hF9 (Gain.alloc0 hA _))); (try simp only [List.set_cons_zero, List.set_cons_succ] at hA); have hw9 := hA.le; (try (have xg := hA.bx; have y0 := xg.cell 0 rfl; have z0 := xg.free 0; have y1 := xg.cell 1 rfl; have z1 := xg.free 1; have y2 := xg.cell 2 rfl; have z2 := xg.free 2; have y3 := xg.cell 3 rfl; have z3 := xg.free 3; have y4 := xg.cell 4 rfl; have z4 := xg.free 4; have y5 := xg.cell 5 rfl; have z5 := xg.free 5; have hzg := xg.lt; have hbg := (hA.box _ _ _ rfl).2.1))) | (go_at_call 52; (with_reducible refine (HC4 _ (Below.trans hbW (Below.mono (B := W.heap.size + 2) (by first | (with_reducible exact Gain.below hA) | (with_reducible exact Gain.below (Gain.drew hA)) | (with_reducible exact Gain.below (Gain.alloc hA _ _)) | (with_reducible exact Gain.below (Gain.alloc_drew hA _ _)) | (with_reducible exact Gain.below (Gain.drew (Gain.alloc hA _ _))) | (with_reducible exact Gain.below (Gain.alloc0 hA _))) (by omega)))).mono ?_); rintro e w9 ⟨us9, F8, rfl, hO8, hb9, hF8⟩; obtain ⟨A9, c9, F9, rfl, hO9, -, -, hFe⟩ := Log.owned hO8; have hF9 := fun (b : Nat) (h : F9 b) => hF8 b ((hFe b).2 h); (first | (replace hA := Gain.call 1 hb9 hO9 hF9 hA) | (replace hA := Gain.call 1 hb9 hO9 hF9 (Gain.drew hA)) | (replace hA := Gain.call 1 hb9 hO9 hF9 (Gain.alloc hA _ _)) | (replace hA := Gain.call 1 hb9 hO9 hF9 (Gain.alloc_drew hA _ _)) | (replace hA := Gain.call 1 hb9 hO9 hF9 (Gain.drew (Gain.alloc hA _ _))) | (replace hA := Gain.call 1 hb9 hO9 hF9 (Gain.alloc0 hA _))); (try simp only [List.set_cons_zero, List.set_cons_succ] at hA); have hw9 := hA.le; (try (have xg := hA.bx; have y0 := xg.cell 0 rfl; have z0 := xg.free 0; have y1 := xg.cell 1 rfl; have z1 := xg.free 1; have y2 := xg.cell 2 rfl; have z2 := xg.free 2; have y3 := xg.cell 3 rfl; have z3 := xg.free 3; have y4 := xg.cell 4 rfl; have z4 := xg.free 4; have y5 := xg.cell 5 rfl; have z5 := xg.free 5; have hzg := xg.lt; have hbg := (hA.box _ _ _ rfl).2.1))) | (go_at_call 106; (with_reducible refine (HC5 _ (Below.trans hbW (Below.mono (B := W.heap.size + 2) (by first | (with_reducible exact Gain.below hA) | (with_reducible exact Gain.below (Gain.drew hA)) | (with_reducible exact Gain.below (Gain.alloc hA _ _)) | (with_reducible exact Gain.below (Gain.alloc_drew hA _ _)) | (with_reducible exact Gain.below (Gain.drew (Gain.alloc hA _ _))) | (with_reducible exact Gain.below (Gain.alloc0 hA _))) (by omega)))).mono ?_); rintro e w9 ⟨v9, F9, rfl, hO9, hb9, hF9⟩; obtain ⟨A9, n9, c9, rfl⟩ := hO9.slice; (first | (replace hA := Gain.call 2 hb9 hO9 hF9 hA) | (replace hA := Gain.call 2 hb9 hO9 hF9 (Gain.drew hA)) | (replace hA := Gain.call 2 hb9 hO9 hF9 (Gain.alloc hA _ _)) | (replace hA := Gain.call 2 hb9 hO9 hF9 (Gain.alloc_drew hA _ _)) | (replace hA := Gain.call 2 hb9 hO9 hF9 (Gain.drew (Gain.alloc hA _ _))) | (replace hA := Gain.call 2 hb9 hO9 hF9 (Gain.alloc0 hA _))); (try simp only [List.set_cons_zero, List.set_cons_succ] at hA); have hw9 := hA.le; (try (have xg := hA.bx; have y0 := xg.cell 0 rfl; have z0 := xg.free 0; have y1 := xg.cell 1 rfl; have z1 := xg.free 1; have y2 := xg.cell 2 rfl; have z2 := xg.free 2; have y3 := xg.cell 3 rfl; have z3 := xg.free 3; have y4 := xg.cell 4 rfl; have z4 := xg.free 4; have y5 := xg.cell 5 rfl; have z5 := xg.free 5; have hzg := xg.lt; have hbg := (hA.box _ _ _ rfl).2.1))))))
      all_goals
        go_wp2_with fail
        go_meet
        refine ⟨_, rfl, ?_⟩
        first | (with_reducible apply handAt_new (h := ⟨stage, fr, tt, wt⟩)) | (with_reducible apply handAt_mk (h := ⟨stage, fr, tt, wt⟩)) | (trace_state; sorry)
        all_goals (with_reducible exact hA)
    case rest =>
      obtain ⟨g, rfl, hH⟩ := hcut
      clear hA HSS b0 b1 b2 b3 b4 b5 hsb xb HC2 HC4 HC5
      have hb3 : Below (W.heap.size + 2) w1 wc := by obtain ⟨_, _, _, _, _, _, _, _, _, _, _, _, hA⟩ := hH; exact hA.below
      have HF := HD.out w1 (W.heap.size + 2) g wc HO.out hH (hbW.trans (hb3.mono (by omega))) (by omega)
      have HX := Lib.hid (show changed fn ⟨stage, fr, tt, wt⟩ = if (fn ⟨stage, fr, tt, wt⟩).2 = true ∧ (fn ⟨stage, fr, tt, wt⟩).1.ok = true then ((fn ⟨stage, fr, tt, wt⟩).1, true) else (Hand.zero, false) from by unfold changed; rw [HO.out]; simp)
      have HFI := Lib.hid (HFT.out HO.out)
      have hcf := HCF.out
      generalize changed fn ⟨stage, fr, tt, wt⟩ = R at *
      generalize fn ⟨stage, fr, tt, wt⟩ = r at *
      obtain ⟨h', b'⟩ := r
      simp only at *
      cases b'
      · have HX' := Lib.hid (show R = (Hand.zero, false) from by rw [HX.out]; simp)
        go_wp2_with fail
        refine HF.mono ?_
        rintro e w2 ⟨rfl, hb2, -⟩
        have hbw2 := hbw.trans hb2
        have xr : Bx w2 (W.heap.size + 1) #[.int .i64 0, .int .i64 0, .slice none 0 0, .int .i64 0, .slice none 0 0, .slice none 0 0] 30 := (Bx.new2 W _ _ _).below hbw2 (by omega)
        have r0 := xr.cell 0 rfl
        have g0 := xr.free 0
        have r1 := xr.cell 1 rfl
        have g1 := xr.free 1
        have r2 := xr.cell 2 rfl
        have g2 := xr.free 2
        have r3 := xr.cell 3 rfl
        have g3 := xr.free 3
        have r4 := xr.cell 4 rfl
        have g4 := xr.free 4
        have r5 := xr.cell 5 rfl
        have g5 := xr.free 5
        have hsr := xr.lt
        have hB : Below W.heap.size W w2 := (((Below.refl _ _).alloc (Nat.le_refl _) _).alloc (by simp) _).trans (hbw2.mono (by omega))
        go_wp2
        exact bodyPost_ret (v := .tuple #[.agg #[.int .i64 0, .int .i64 0, .slice none 0 0, .int .i64 0, .slice none 0 0, .slice none 0 0], .bool false]) (by simp [results, Try.results56, go_sem, r0, r1, r2, r3, r4, r5, g0, g1, g2, g3, g4, g5, hsr]) rfl (madeHB_no HX'.out (by (repeat (first | with_reducible assumption | with_reducible exact Below.refl _ _ | with_reducible refine Below.setCell ?_ ?_ _ | with_reducible refine Below.alloc ?_ ?_ _ | with_reducible refine Below.drew ?_ | with_reducible refine below_drewN ?_ _ | omega | (simp; done) | (simp; omega))); all_goals first | omega | (simp; done) | (simp; omega)))
      · go_wp2_with fail
        refine HF.mono ?_
        rintro e w2 ⟨rfl, hb2, hH2⟩
        obtain ⟨A2', n2', c2', A4', n4', c4', A5', n5', c5', F2, F4, F5, hA⟩ := hH2 trivial
        have hbw2 := hbw.trans hb2
        have hgb := (hA.box _ _ _ rfl).2
        have hfi := HFI.out trivial
        have HV2 := impl_ValidHand h' [.int .i64 h'.xStage, .int .i64 h'.xFrom.xNext, .slice A2' n2' c2', .int .i64 h'.xTo.xNext, .slice A4' n4' c4', .slice A5' n5' c5'] w2 (Hand.own_mk (hA.own 0 _ _ _ rfl).1 (hA.own 1 _ _ _ rfl).1 (hA.own 2 _ _ _ rfl).1 (hA.apart 0 1 _ _ _ _ _ _ (by decide) rfl rfl) (hA.apart 0 2 _ _ _ _ _ _ (by decide) rfl rfl) (hA.apart 1 2 _ _ _ _ _ _ (by decide) rfl rfl)).lo hfi
        have xg := hA.bx
        have y0 := xg.cell 0 rfl
        have y1 := xg.cell 1 rfl
        have y2 := xg.cell 2 rfl
        have y3 := xg.cell 3 rfl
        have y4 := xg.cell 4 rfl
        have y5 := xg.cell 5 rfl
        have hzg := xg.lt
        have hW2 := hbw2.size
        simp at hW2
        clear hH2 HFI hfi
        have HXo := Lib.hid HX.out
        clear HX
        cases hv : h'.ok
        · have HX' := Lib.hid (show R = (Hand.zero, false) from by rw [HXo.out, hv]; simp)
          rw [hv] at HV2
          clear hv
          go_wp2_with fail
          refine HV2.mono ?_
          rintro e w3 ⟨rfl, hb3'⟩
          have hbw3 := hbw2.trans (hb3'.mono (by omega))
          clear y0 y1 y2 y3 y4 y5
          have xr : Bx w3 (W.heap.size + 1) #[.int .i64 0, .int .i64 0, .slice none 0 0, .int .i64 0, .slice none 0 0, .slice none 0 0] 30 := (Bx.new2 W _ _ _).below hbw3 (by omega)
          have r0 := xr.cell 0 rfl
          have g0 := xr.free 0
          have r1 := xr.cell 1 rfl
          have g1 := xr.free 1
          have r2 := xr.cell 2 rfl
          have g2 := xr.free 2
          have r3 := xr.cell 3 rfl
          have g3 := xr.free 3
          have r4 := xr.cell 4 rfl
          have g4 := xr.free 4
          have r5 := xr.cell 5 rfl
          have g5 := xr.free 5
          have hsr := xr.lt
          have hB : Below W.heap.size W w3 := (((Below.refl _ _).alloc (Nat.le_refl _) _).alloc (by simp) _).trans (hbw3.mono (by omega))
          go_wp2
          exact bodyPost_ret (v := .tuple #[.agg #[.int .i64 0, .int .i64 0, .slice none 0 0, .int .i64 0, .slice none 0 0, .slice none 0 0], .bool false]) (by simp [results, Try.results56, go_sem, r0, r1, r2, r3, r4, r5, g0, g1, g2, g3, g4, g5, hsr]) rfl (madeHB_no HX'.out (by (repeat (first | with_reducible assumption | with_reducible exact Below.refl _ _ | with_reducible refine Below.setCell ?_ ?_ _ | with_reducible refine Below.alloc ?_ ?_ _ | with_reducible refine Below.drew ?_ | with_reducible refine below_drewN ?_ _ | omega | (simp; done) | (simp; omega))); all_goals first | omega | (simp; done) | (simp; omega)))
        · have HX' := Lib.hid (show R = (h', true) from by rw [HXo.out, hv]; simp)
          rw [hv] at HV2
          clear hv
          go_wp2_with fail
          refine HV2.mono ?_
          rintro e w3 ⟨rfl, hb3'⟩
          have hbw3 := hbw2.trans (hb3'.mono (by omega))
          have hA3 := hA.step hb3'
          clear y0 y1 y2 y3 y4 y5 xg hzg
          have xr : Bx w3 (W.heap.size + 1) #[.int .i64 0, .int .i64 0, .slice none 0 0, .int .i64 0, .slice none 0 0, .slice none 0 0] 30 := (Bx.new2 W _ _ _).below hbw3 (by omega)
          have r0 := xr.cell 0 rfl
          have g0 := xr.free 0
          have r1 := xr.cell 1 rfl
          have g1 := xr.free 1
          have r2 := xr.cell 2 rfl
          have g2 := xr.free 2
          have r3 := xr.cell 3 rfl
          have g3 := xr.free 3
          have r4 := xr.cell 4 rfl
          have g4 := xr.free 4
          have r5 := xr.cell 5 rfl
          have g5 := xr.free 5
          have hsr := xr.lt
          have xg := hA3.bx
          have y0 := xg.cell 0 rfl
          have y1 := xg.cell 1 rfl
          have y2 := xg.cell 2 rfl
          have y3 := xg.cell 3 rfl
          have y4 := xg.cell 4 rfl
          have y5 := xg.cell 5 rfl
          have hzg := xg.lt
          have hB : Below W.heap.size W w3 := (((Below.refl _ _).alloc (Nat.le_refl _) _).alloc (by simp) _).trans (hbw3.mono (by omega))
          have hl2 := fun b hb => (hA3.own 0 _ _ _ rfl).2 b hb
          have hl4 := fun b hb => (hA3.own 1 _ _ _ rfl).2 b hb
          have hl5 := fun b hb => (hA3.own 2 _ _ _ rfl).2 b hb
          go_wp2
          refine bodyPost_ret (v := .tuple #[.agg #[.int .i64 h'.xStage, .int .i64 h'.xFrom.xNext, .slice A2' n2' c2', .int .i64 h'.xTo.xNext, .slice A4' n4' c4', .slice A5' n5' c5'], .bool true]) (by simp [results, Try.results56, go_sem, r0, r1, r2, r3, r4, r5, g0, g1, g2, g3, g4, g5, hsr]) rfl ⟨_, (fun b => F2 b ∨ (F4 b ∨ F5 b)), by rw [HX'.out], ?_, fun b h => ?_, (by (repeat (first | with_reducible assumption | with_reducible exact Below.refl _ _ | with_reducible refine Below.setCell ?_ ?_ _ | with_reducible refine Below.alloc ?_ ?_ _ | with_reducible refine Below.drew ?_ | with_reducible refine below_drewN ?_ _ | omega | (simp; done) | (simp; omega))); all_goals first | omega | (simp; done) | (simp; omega))⟩
          · rw [HX'.out]
            refine Hand.own_mk (h := h') (F2 := F2) (F4 := F4) (F5 := F5) ?_ ?_ ?_ (hA3.apart 0 1 _ _ _ _ _ _ (by decide) rfl rfl) (hA3.apart 0 2 _ _ _ _ _ _ (by decide) rfl rfl) (hA3.apart 1 2 _ _ _ _ _ _ (by decide) rfl rfl)
            · repeat (with_reducible refine Ow.far ?_ (fun h => by have hq := hl2 _ h; first | omega | (dsimp only at hq; omega) | (simp at hq; done) | (simp at hq; omega)) _)
              exact (hA3.own 0 _ _ _ rfl).1
            · repeat (with_reducible refine Ow.far ?_ (fun h => by have hq := hl4 _ h; first | omega | (dsimp only at hq; omega) | (simp at hq; done) | (simp at hq; omega)) _)
              exact (hA3.own 1 _ _ _ rfl).1
            · repeat (with_reducible refine Ow.far ?_ (fun h => by have hq := hl5 _ h; first | omega | (dsimp only at hq; omega) | (simp at hq; done) | (simp at hq; omega)) _)
              exact (hA3.own 2 _ _ _ rfl).1
          · rcases h with h | h | h
            · have := hl2 b h; omega
            · have := hl4 b h; omega
            · have := hl5 b h; omega
theorem impl_changedHand (f : FuncId) (hcf : ∀ (args : Array Value) (w : World), (callFunc f args).run Try.prog w = .ok (.enter f args) w) (caps : Array Value) (fn : Hand → Hand × Bool) (h : Hand) (us : List Value) (W : World) (hr : RoL W (Lo W.heap.size) (Hand.d true h) us) (hf : h.fit)
    (hd : ∀ (w0 : World) (B g : Nat) (w : World), h.ok = true → HandAt w0 B w g h → Below W.heap.size W w → Calls Try.prog f (#[.pointer (some ⟨g, 0, none⟩)] ++ caps) w fun e w' => e = .returned (.bool (fn h).2) ∧ Below B w0 w' ∧ ((fn h).2 = true → HandAt w0 B w' g (fn h).1))
    (hfit : h.ok = true → (fn h).2 = true → (fn h).1.fit) :
    Calls Try.prog 56 #[.agg us.toArray, .func (.func f) #[] caps] W (MadeHB W (changed fn h)) :=
  impl_changedHandB f hcf caps fn h us W hr hf (fun w0 B g w ho hH hb _ => hd w0 B g w ho hH hb) hfit
end Go.Proofs.Ytafihplbchofoaa

/- SayHand's own copy, and its law. -/
import Derived.Test.YtmofbfeclecdoaaShc
import Derived.Test.YtmofbfeclecdoaaLawB
import Derived.Deep.DeepCutAuto
import Derived.BigQuiet
namespace Go.Proofs.Ytmofbfeclecdoaa
open Go.ChangeShapes Go.WideShapes Go.ChangeAt Go.RowKit Go.Dt
set_option linter.unusedVariables false
set_option linter.unusedSimpArgs false
def MadeHR (W : World) (r : Hand × Bool) (e : Ending) (w' : World) : Prop := ∃ us, e = .returned (.tuple #[.agg us.toArray, .bool r.2]) ∧ RoL w' (Fr W.heap.size w') (Hand.d true r.1) us ∧ Below W.heap.size W w'
theorem Hand.ro_mk {w : World} {Pb : Nat → Prop} {h : Hand} {A2 A4 A5 : Option Addr} {n2 c2 n4 c4 n5 c5 : Nat} (h2 : Ro w Pb (Message.s true h.xFrom.xMessages) (.slice A2 n2 c2)) (h4 : Ro w Pb (Message.s true h.xTo.xMessages) (.slice A4 n4 c4)) (h5 : Ro w Pb (Draft.s true h.xWaiting) (.slice A5 n5 c5)) :
    RoL w Pb (Hand.d true h) [.int .i64 h.xStage, .int .i64 h.xFrom.xNext, .slice A2 n2 c2, .int .i64 h.xTo.xNext, .slice A4 n4 c4, .slice A5 n5 c5] := by
  unfold Hand.d
  exact RoL.cons (.int _ _) (RoL.cons (.int _ _) (RoL.cons h2 (RoL.cons (.int _ _) (RoL.cons h4 (RoL.cons h5 RoL.nil)))))
theorem madeHR_no {W w' : World} {r : Hand × Bool} (hr : r = (Hand.zero, false)) (hb : Below W.heap.size W w') : MadeHR W r (.returned (.tuple #[.agg #[.int .i64 0, .int .i64 0, .slice none 0 0, .int .i64 0, .slice none 0 0, .slice none 0 0], .bool false])) w' := by
  obtain ⟨us, F, h1, h2, h3, h4⟩ := madeHB_no (W := W) (w' := w') hr hb
  exact ⟨us, h1, OwL.fresh h2 h3, h4⟩
def gave (b : Bool) (us : List Value) : Value := .tuple #[cond b (.agg us.toArray) (.agg #[.int .i64 0, .int .i64 0, .slice none 0 0, .int .i64 0, .slice none 0 0, .slice none 0 0]), .bool b]
set_option maxHeartbeats 800000 in
set_option maxRecDepth 100000 in
theorem spec_l10Give (h : Hand) (us : List Value) (W : World) (hr : RoL W (Lo W.heap.size) (Hand.d true h) us) (hf : h.fit) :
    Calls Try.prog 149 #[.agg us.toArray] W fun e w' => e = .returned (gave h.ok us) ∧ Below W.heap.size W w' := by
  obtain ⟨A2, c2, A4, c4, A5, c5, rfl, rd2, l2, m2, rd4, l4, m4, rd5, l5, m5⟩ := Hand.cells hr
  obtain ⟨stage, fr, tt, wt⟩ := h
  simp only at *
  have HV := fun (w : World) (xb : Bx w W.heap.size #[.int .i64 stage, .int .i64 fr.xNext, .slice A2 fr.xMessages.length c2, .int .i64 tt.xNext, .slice A4 tt.xMessages.length c4, .slice A5 wt.length c5] 78) (hb : Below W.heap.size W w) => spec_l10Is ⟨stage, fr, tt, wt⟩ W.heap.size 0 A2 A4 A5 c2 c4 c5 w (xb.cell 0 rfl) (xb.cell 1 rfl) (xb.cell 2 rfl) (xb.cell 3 rfl) (xb.cell 4 rfl) (xb.cell 5 rfl) (ro_to rd2 hb) (ro_to rd4 hb) (ro_to rd5 hb) hf
  cases ho : Hand.ok ⟨stage, fr, tt, wt⟩
  all_goals
    rw [ho] at HV
    clear ho
    go_enter Try.func149, Try.ntmps149
    go_wp2_with fail
    refine (HV _ ((Bx.new _ _ _).alloc _) (by (repeat (first | with_reducible assumption | with_reducible exact Below.refl _ _ | with_reducible refine Below.setCell ?_ ?_ _ | with_reducible refine Below.alloc ?_ ?_ _ | with_reducible refine Below.drew ?_ | with_reducible refine below_drewN ?_ _ | omega | (simp; done) | (simp; omega))); all_goals first | omega | (simp; done) | (simp; omega))).mono ?_
    rintro e w1 ⟨rfl, hb1⟩
    have hbw : Below (W.heap.size + 2) ((W.alloc (.cells #[.int .i64 stage, .int .i64 fr.xNext, .slice A2 fr.xMessages.length c2, .int .i64 tt.xNext, .slice A4 tt.xMessages.length c4, .slice A5 wt.length c5] 78)).alloc (.cells #[.int .i64 0, .int .i64 0, .slice none 0 0, .int .i64 0, .slice none 0 0, .slice none 0 0] 78)) w1 := hb1.mono (by simp)
    have hsz1 := hbw.size
    simp at hsz1
    have hB : Below W.heap.size W w1 := (((Below.refl _ _).alloc (Nat.le_refl _) _).alloc (by simp) _).trans (hbw.mono (by omega))
    have xr : Bx w1 (W.heap.size + 1) #[.int .i64 0, .int .i64 0, .slice none 0 0, .int .i64 0, .slice none 0 0, .slice none 0 0] 78 := (Bx.new2 W _ _ _).below hbw (by omega)
    have r0 := xr.cell 0 rfl
    have g0 := xr.free 0
    have r1 := xr.cell 1 rfl
    have g1 := xr.free 1
    have r2 := xr.cell 2 rfl
    have g2 := xr.free 2
    have r3 := xr.cell 3 rfl
    have g3 := xr.free 3
    have r4 := xr.cell 4 rfl
    have g4 := xr.free 4
    have r5 := xr.cell 5 rfl
    have g5 := xr.free 5
    have hsr := xr.lt
    have xb : Bx w1 W.heap.size #[.int .i64 stage, .int .i64 fr.xNext, .slice A2 fr.xMessages.length c2, .int .i64 tt.xNext, .slice A4 tt.xMessages.length c4, .slice A5 wt.length c5] 78 := ((Bx.new W _ _).alloc _).below hbw (by omega)
    have b0 := xb.cell 0 rfl
    have b1 := xb.cell 1 rfl
    have b2 := xb.cell 2 rfl
    have b3 := xb.cell 3 rfl
    have b4 := xb.cell 4 rfl
    have b5 := xb.cell 5 rfl
    have hsb := xb.lt
    go_wp2
  · exact bodyPost_ret (v := .tuple #[.agg #[.int .i64 0, .int .i64 0, .slice none 0 0, .int .i64 0, .slice none 0 0, .slice none 0 0], .bool false]) (by simp [results, Try.results149, go_sem, r0, r1, r2, r3, r4, r5, g0, g1, g2, g3, g4, g5, hsr]) rfl ⟨rfl, (by (repeat (first | with_reducible assumption | with_reducible exact Below.refl _ _ | with_reducible refine Below.setCell ?_ ?_ _ | with_reducible refine Below.alloc ?_ ?_ _ | with_reducible refine Below.drew ?_ | with_reducible refine below_drewN ?_ _ | omega | (simp; done) | (simp; omega))); all_goals first | omega | (simp; done) | (simp; omega))⟩
  · exact bodyPost_ret (v := .tuple #[.agg #[.int .i64 stage, .int .i64 fr.xNext, .slice A2 fr.xMessages.length c2, .int .i64 tt.xNext, .slice A4 tt.xMessages.length c4, .slice A5 wt.length c5], .bool true]) (by simp [results, Try.results149, go_sem, r0, r1, r2, r3, r4, r5, g0, g1, g2, g3, g4, g5, hsr]) rfl ⟨rfl, (by (repeat (first | with_reducible assumption | with_reducible exact Below.refl _ _ | with_reducible refine Below.setCell ?_ ?_ _ | with_reducible refine Below.alloc ?_ ?_ _ | with_reducible refine Below.drew ?_ | with_reducible refine below_drewN ?_ _ | omega | (simp; done) | (simp; omega))); all_goals first | omega | (simp; done) | (simp; omega))⟩
theorem said_one (l : Log) (d : Draft) : said l [d] = if (post0 l d.xSender d.xAt d.xText).ok = true then (post0 l d.xSender d.xAt d.xText, true) else (⟨0, []⟩, false) := by
  unfold said
  have e : say l [d] = sayOne l d := by
    show (sayOne l d).bind (fun x => say x []) = _
    cases sayOne l d <;> rfl
  rw [e]
  unfold sayOne
  cases h : (post0 l d.xSender d.xAt d.xText).ok <;> simp
theorem draft_one {w : World} {g : Nat} {d : Draft} (h : Bx w g #[.int .i64 d.xSender, .int .i64 d.xAt, .string d.xText] 82) : Ow w (Draft.s true [d]) (.slice (some ⟨g, 0, none⟩) 1 1) (fun b => b = g ∨ False) :=
  Ow.of_block (rows := [Draft.d true d]) (c := 1) (F := fun _ => False) h rfl (by simp) (by simp [maxLen]) (by intro row hr; simp at hr; subst hr; rfl) rfl (by simpa using draft_own w d) (by simp)
set_option maxHeartbeats 3200000 in
set_option maxRecDepth 100000 in
theorem spec_SayHand (h : Hand) (d : Draft) (us us2 : List Value) (W : World) (hr : RoL W (Lo W.heap.size) (Hand.d true h) us) (hr2 : RoL W (Lo W.heap.size) (Draft.d true d) us2) (hf : h.fit) (hdt : d.xText.size ≤ maxLen) :
    Calls Try.prog 77 #[.agg us.toArray, .agg us2.toArray] W (MadeHR W (SayHand_f h d)) := by
  obtain rfl := draft_vals hr2
  obtain ⟨A2, c2, A4, c4, A5, c5, rfl, rd2, l2, m2, rd4, l4, m4, rd5, l5, m5⟩ := Hand.cells hr
  obtain ⟨stage, fr, tt, wt⟩ := h
  simp only at *
  have HV := fun (w : World) (xb : Bx w W.heap.size #[.int .i64 stage, .int .i64 fr.xNext, .slice A2 fr.xMessages.length c2, .int .i64 tt.xNext, .slice A4 tt.xMessages.length c4, .slice A5 wt.length c5] 78) (hb : Below W.heap.size W w) => spec_l10Is ⟨stage, fr, tt, wt⟩ W.heap.size 0 A2 A4 A5 c2 c4 c5 w (xb.cell 0 rfl) (xb.cell 1 rfl) (xb.cell 2 rfl) (xb.cell 3 rfl) (xb.cell 4 rfl) (xb.cell 5 rfl) (ro_to rd2 hb) (ro_to rd4 hb) (ro_to rd5 hb) hf
  cases ho : Hand.ok ⟨stage, fr, tt, wt⟩
  · have HX := Lib.hid (show SayHand_f ⟨stage, fr, tt, wt⟩ d = (Hand.zero, false) from if_neg (by rw [ho]; simp))
    rw [ho] at HV
    clear ho
    go_enter Try.func77, Try.ntmps77
    go_wp2_with fail
    refine (HV _ (((Bx.new _ _ _).alloc _).alloc _) (by (repeat (first | with_reducible assumption | with_reducible exact Below.refl _ _ | with_reducible refine Below.setCell ?_ ?_ _ | with_reducible refine Below.alloc ?_ ?_ _ | with_reducible refine Below.drew ?_ | with_reducible refine below_drewN ?_ _ | omega | (simp; done) | (simp; omega))); all_goals first | omega | (simp; done) | (simp; omega))).mono ?_
    rintro e w1 ⟨rfl, hb1⟩
    have hbw : Below (W.heap.size + 3) (((W.alloc (.cells #[.int .i64 stage, .int .i64 fr.xNext, .slice A2 fr.xMessages.length c2, .int .i64 tt.xNext, .slice A4 tt.xMessages.length c4, .slice A5 wt.length c5] 78)).alloc (.cells #[.int .i64 d.xSender, .int .i64 d.xAt, .string d.xText] 82)).alloc (.cells #[.int .i64 0, .int .i64 0, .slice none 0 0, .int .i64 0, .slice none 0 0, .slice none 0 0] 78)) w1 := hb1.mono (by simp)
    have hsz1 := hbw.size
    simp at hsz1
    have hB : Below W.heap.size W w1 := ((((Below.refl _ _).alloc (Nat.le_refl _) _).alloc (by simp) _).alloc (by simp; omega) _).trans (hbw.mono (by omega))
    have xr : Bx w1 (W.heap.size + 2) #[.int .i64 0, .int .i64 0, .slice none 0 0, .int .i64 0, .slice none 0 0, .slice none 0 0] 78 := (Bx.new3 W _ _ _ _).below hbw (by omega)
    have r0 := xr.cell 0 rfl
    have g0 := xr.free 0
    have r1 := xr.cell 1 rfl
    have g1 := xr.free 1
    have r2 := xr.cell 2 rfl
    have g2 := xr.free 2
    have r3 := xr.cell 3 rfl
    have g3 := xr.free 3
    have r4 := xr.cell 4 rfl
    have g4 := xr.free 4
    have r5 := xr.cell 5 rfl
    have g5 := xr.free 5
    have hsr := xr.lt
    have xb : Bx w1 W.heap.size #[.int .i64 stage, .int .i64 fr.xNext, .slice A2 fr.xMessages.length c2, .int .i64 tt.xNext, .slice A4 tt.xMessages.length c4, .slice A5 wt.length c5] 78 := (((Bx.new W _ _).alloc _).alloc _).below hbw (by omega)
    have b0 := xb.cell 0 rfl
    have b1 := xb.cell 1 rfl
    have b2 := xb.cell 2 rfl
    have b3 := xb.cell 3 rfl
    have b4 := xb.cell 4 rfl
    have b5 := xb.cell 5 rfl
    have hsb := xb.lt
    have xd : Bx w1 (W.heap.size + 1) #[.int .i64 d.xSender, .int .i64 d.xAt, .string d.xText] 82 := ((Bx.new2 W _ _ _).alloc _).below hbw (by omega)
    have d0 := xd.cell 0 rfl
    have d1 := xd.cell 1 rfl
    have d2 := xd.cell 2 rfl
    have hsd := xd.lt
    go_wp2
    exact bodyPost_ret (v := .tuple #[.agg #[.int .i64 0, .int .i64 0, .slice none 0 0, .int .i64 0, .slice none 0 0, .slice none 0 0], .bool false]) (by simp [results, Try.results77, go_sem, r0, r1, r2, r3, r4, r5, g0, g1, g2, g3, g4, g5, hsr]) rfl (madeHR_no HX.out (by (repeat (first | with_reducible assumption | with_reducible exact Below.refl _ _ | with_reducible refine Below.setCell ?_ ?_ _ | with_reducible refine Below.alloc ?_ ?_ _ | with_reducible refine Below.drew ?_ | with_reducible refine below_drewN ?_ _ | omega | (simp; done) | (simp; omega))); all_goals first | omega | (simp; done) | (simp; omega)))
  have hfo := Hand.ok_logs ho
  have hfit := sayh_fit hdt hf ho
  simp only at hfo
  have HC := fun (w : World) (xb : Bx w W.heap.size #[.int .i64 stage, .int .i64 fr.xNext, .slice A2 fr.xMessages.length c2, .int .i64 tt.xNext, .slice A4 tt.xMessages.length c4, .slice A5 wt.length c5] 78) (hb : Below W.heap.size W w) => spec_l10Own ⟨stage, fr, tt, wt⟩ W.heap.size A2 A4 A5 c2 c4 c5 w (xb.cell 0 rfl) (xb.cell 1 rfl) (xb.cell 2 rfl) (xb.cell 3 rfl) (xb.cell 4 rfl) (xb.cell 5 rfl) (ro_to rd2 hb) (ro_to rd4 hb) (ro_to rd5 hb) ho hf
  have hwl := hf.2.2.2.2.2
  simp only at hwl
  by_cases s2 : stage = 2
  · subst s2
    have e1 : SayHand_c d ⟨2, fr, tt, wt⟩ = (⟨2, fr, tt, wt ++ [d]⟩, true) := rfl
    rw [e1] at hfit
    have HX := Lib.hid (show SayHand_f ⟨2, fr, tt, wt⟩ d = if Hand.ok ⟨2, fr, tt, wt ++ [d]⟩ = true then (⟨2, fr, tt, wt ++ [d]⟩, true) else (Hand.zero, false) from by
      unfold SayHand_f changed
      rw [e1, ho]
      simp)
    clear e1 hfo rd2 rd4 rd5 hr hr2 hf
    rw [ho] at HV
    clear ho
    go_enter Try.func77, Try.ntmps77
    go_wp2_with fail
    refine (HV _ (((Bx.new _ _ _).alloc _).alloc _) (by (repeat (first | with_reducible assumption | with_reducible exact Below.refl _ _ | with_reducible refine Below.setCell ?_ ?_ _ | with_reducible refine Below.alloc ?_ ?_ _ | with_reducible refine Below.drew ?_ | with_reducible refine below_drewN ?_ _ | omega | (simp; done) | (simp; omega))); all_goals first | omega | (simp; done) | (simp; omega))).mono ?_
    rintro e w1 ⟨rfl, hb1⟩
    have hbw : Below (W.heap.size + 3) (((W.alloc (.cells #[.int .i64 2, .int .i64 fr.xNext, .slice A2 fr.xMessages.length c2, .int .i64 tt.xNext, .slice A4 tt.xMessages.length c4, .slice A5 wt.length c5] 78)).alloc (.cells #[.int .i64 d.xSender, .int .i64 d.xAt, .string d.xText] 82)).alloc (.cells #[.int .i64 0, .int .i64 0, .slice none 0 0, .int .i64 0, .slice none 0 0, .slice none 0 0] 78)) w1 := hb1.mono (by simp)
    have hsz1 := hbw.size
    simp at hsz1
    have hB : Below W.heap.size W w1 := ((((Below.refl _ _).alloc (Nat.le_refl _) _).alloc (by simp) _).alloc (by simp; omega) _).trans (hbw.mono (by omega))
    have xr : Bx w1 (W.heap.size + 2) #[.int .i64 0, .int .i64 0, .slice none 0 0, .int .i64 0, .slice none 0 0, .slice none 0 0] 78 := (Bx.new3 W _ _ _ _).below hbw (by omega)
    have r0 := xr.cell 0 rfl
    have g0 := xr.free 0
    have r1 := xr.cell 1 rfl
    have g1 := xr.free 1
    have r2 := xr.cell 2 rfl
    have g2 := xr.free 2
    have r3 := xr.cell 3 rfl
    have g3 := xr.free 3
    have r4 := xr.cell 4 rfl
    have g4 := xr.free 4
    have r5 := xr.cell 5 rfl
    have g5 := xr.free 5
    have hsr := xr.lt
    have xb : Bx w1 W.heap.size #[.int .i64 2, .int .i64 fr.xNext, .slice A2 fr.xMessages.length c2, .int .i64 tt.xNext, .slice A4 tt.xMessages.length c4, .slice A5 wt.length c5] 78 := (((Bx.new W _ _).alloc _).alloc _).below hbw (by omega)
    have b0 := xb.cell 0 rfl
    have b1 := xb.cell 1 rfl
    have b2 := xb.cell 2 rfl
    have b3 := xb.cell 3 rfl
    have b4 := xb.cell 4 rfl
    have b5 := xb.cell 5 rfl
    have hsb := xb.lt
    have xd : Bx w1 (W.heap.size + 1) #[.int .i64 d.xSender, .int .i64 d.xAt, .string d.xText] 82 := ((Bx.new2 W _ _ _).alloc _).below hbw (by omega)
    have d0 := xd.cell 0 rfl
    have d1 := xd.cell 1 rfl
    have d2 := xd.cell 2 rfl
    have hsd := xd.lt
    go_wp2_with fail
    refine (HC w1 xb hB).mono ?_
    rintro e w2 ⟨us1, F1, rfl, hO1, hb2, hF1⟩
    obtain ⟨A2', c2', F2, A4', c4', F4, A5', c5', F5, rfl, hO2, -, -, hO4, -, -, hO5, -, -, d24, d25, d45, hFe⟩ := Hand.owned hO1
    have hl2 : ∀ b, F2 b → W.heap.size + 3 ≤ b ∧ b < w2.heap.size := fun b h => ⟨by have := hF1 b ((hFe b).2 (.inl h)); omega, hO2.lt b h⟩
    have hl4 : ∀ b, F4 b → W.heap.size + 3 ≤ b ∧ b < w2.heap.size := fun b h => ⟨by have := hF1 b ((hFe b).2 (.inr (.inl h))); omega, hO4.lt b h⟩
    have hl5 : ∀ b, F5 b → W.heap.size + 3 ≤ b ∧ b < w2.heap.size := fun b h => ⟨by have := hF1 b ((hFe b).2 (.inr (.inr h))); omega, hO5.lt b h⟩
    clear hF1 hFe r0 g0 b0 r1 g1 b1 r2 g2 b2 r3 g3 b3 r4 g4 b4 r5 g5 b5 d0 d1 d2 hsr xr xb xd hsb hsd hB
    have hbw2 := hbw.trans (hb2.mono (by omega))
    have hsz2 := hb2.size
    have xr : Bx w2 (W.heap.size + 2) #[.int .i64 0, .int .i64 0, .slice none 0 0, .int .i64 0, .slice none 0 0, .slice none 0 0] 78 := (Bx.new3 W _ _ _ _).below hbw2 (by omega)
    have r0 := xr.cell 0 rfl
    have g0 := xr.free 0
    have r1 := xr.cell 1 rfl
    have g1 := xr.free 1
    have r2 := xr.cell 2 rfl
    have g2 := xr.free 2
    have r3 := xr.cell 3 rfl
    have g3 := xr.free 3
    have r4 := xr.cell 4 rfl
    have g4 := xr.free 4
    have r5 := xr.cell 5 rfl
    have g5 := xr.free 5
    have hsr := xr.lt
    have xb : Bx w2 W.heap.size #[.int .i64 2, .int .i64 fr.xNext, .slice A2 fr.xMessages.length c2, .int .i64 tt.xNext, .slice A4 tt.xMessages.length c4, .slice A5 wt.length c5] 78 := (((Bx.new W _ _).alloc _).alloc _).below hbw2 (by omega)
    have b0 := xb.cell 0 rfl
    have b1 := xb.cell 1 rfl
    have b2 := xb.cell 2 rfl
    have b3 := xb.cell 3 rfl
    have b4 := xb.cell 4 rfl
    have b5 := xb.cell 5 rfl
    have hsb := xb.lt
    have xd : Bx w2 (W.heap.size + 1) #[.int .i64 d.xSender, .int .i64 d.xAt, .string d.xText] 82 := ((Bx.new2 W _ _ _).alloc _).below hbw2 (by omega)
    have d0 := xd.cell 0 rfl
    have d1 := xd.cell 1 rfl
    have d2 := xd.cell 2 rfl
    have hsd := xd.lt
    have hB : Below W.heap.size W w2 := ((((Below.refl _ _).alloc (Nat.le_refl _) _).alloc (by simp) _).alloc (by simp; omega) _).trans (hbw2.mono (by omega))
    have xg := Bx.new w2 #[.int .i64 2, .int .i64 fr.xNext, .slice A2' fr.xMessages.length c2', .int .i64 tt.xNext, .slice A4' tt.xMessages.length c4', .slice A5' wt.length c5'] 78
    have hg5 : ¬ F5 w2.heap.size := fun h => Nat.lt_irrefl _ (hl5 _ h).2
    have HWL := Lib.hid hwl
    clear hwl
    go_wp2_with (at_builtin; refine dt_append1 rfl _ _ 76 82 rfl Try.underlying76 (.agg #[.int .i64 0, .int .i64 0, .string ByteArray.empty]) 3 32 Draft.inf rfl (by decide) (by decide) (by rfl) (hO5.alloc _) #[.int .i64 d.xSender, .int .i64 d.xAt, .string d.xText] (by show Value.slice _ _ _ = Value.slice _ _ _; simp) (Draft.d true d) (fun _ => False) rfl (draft_own _ _) (by simp) (by have := HWL.out; simp only [List.length_map]; omega) ?_; intro v3 w3 F9 hO9 hk9 hF9; obtain ⟨A9, n9, c9, rfl⟩ := hO9.slice; have hbk : Below (W.heap.size + 3) (w2.alloc (.cells #[.int .i64 2, .int .i64 fr.xNext, .slice A2' fr.xMessages.length c2', .int .i64 tt.xNext, .slice A4' tt.xMessages.length c4', .slice A5' wt.length c5'] 78)) w3 := hk9.below (by simp; omega) (fun b h => (hl5 b h).1); have hbw3 := (hbw2.alloc (by omega) _).trans hbk; have xg3 := xg.kp hk9 hg5; have y0 := xg3.cell 0 rfl; have z0 := xg3.free 0; have y1 := xg3.cell 1 rfl; have z1 := xg3.free 1; have y2 := xg3.cell 2 rfl; have z2 := xg3.free 2; have y3 := xg3.cell 3 rfl; have z3 := xg3.free 3; have y4 := xg3.cell 4 rfl; have z4 := xg3.free 4; have y5 := xg3.cell 5 rfl; have z5 := xg3.free 5; have hz3 := xg3.lt)
    have hO9' := drafts_snoc hO9
    have hl9 : ∀ b, F9 b → W.heap.size + 3 ≤ b ∧ b ≠ w2.heap.size := fun b h => by
      rcases hF9 b h with h | h | h
      · exact ⟨(hl5 b h).1, by have := (hl5 b h).2; omega⟩
      · exact h.elim
      · simp at h; exact ⟨by omega, by omega⟩
    have hO2' := ((hO2.alloc (.cells #[.int .i64 2, .int .i64 fr.xNext, .slice A2' fr.xMessages.length c2', .int .i64 tt.xNext, .slice A4' tt.xMessages.length c4', .slice A5' wt.length c5'] 78)).kp hk9 d25)
    have hO4' := ((hO4.alloc (.cells #[.int .i64 2, .int .i64 fr.xNext, .slice A2' fr.xMessages.length c2', .int .i64 tt.xNext, .slice A4' tt.xMessages.length c4', .slice A5' wt.length c5'] 78)).kp hk9 d45)
    have HG := fun (w : World) (h2 : Ow w (Message.s true fr.xMessages) (.slice A2' fr.xMessages.length c2') F2) (h4 : Ow w (Message.s true tt.xMessages) (.slice A4' tt.xMessages.length c4') F4) (h5 : Ow w (Draft.s true (wt ++ [d])) (.slice A9 n9 c9) F9) => spec_l10Give ⟨2, fr, tt, wt ++ [d]⟩ [.int .i64 2, .int .i64 fr.xNext, .slice A2' fr.xMessages.length c2', .int .i64 tt.xNext, .slice A4' tt.xMessages.length c4', .slice A9 n9 c9] w (Hand.ro_mk (h := ⟨2, fr, tt, wt ++ [d]⟩) h2.lo h4.lo h5.lo) hfit
    clear y0 y1 y2 y3 y4 y5 z0 z1 z2 z3 z4 z5 r0 g0 b0 r1 g1 b1 r2 g2 b2 r3 g3 b3 r4 g4 b4 r5 g5 b5 d0 d1 d2 hsr xr xb xd hsb hsd hB
    have HX' := HX.out
    cases hv : Hand.ok ⟨2, fr, tt, wt ++ [d]⟩
    all_goals
      have HF := HX'
      rw [hv] at HG HF
      simp only [gave, cond, Bool.false_eq_true, if_false, if_true] at HG HF
      have HXX := Lib.hid HF
      clear HX' HF hv
      go_wp2_with fail
      refine (HG _ (by (repeat (first | (with_reducible refine Ow.alloc ?_ _) | (with_reducible refine Ow.far ?_ (fun h => by have hq := hl2 _ h; first | omega | (dsimp only at hq; omega) | (simp at hq; done) | (simp at hq; omega)) _))); exact hO2') (by (repeat (first | (with_reducible refine Ow.alloc ?_ _) | (with_reducible refine Ow.far ?_ (fun h => by have hq := hl4 _ h; first | omega | (dsimp only at hq; omega) | (simp at hq; done) | (simp at hq; omega)) _))); exact hO4') (by (repeat (first | (with_reducible refine Ow.alloc ?_ _) | (with_reducible refine Ow.far ?_ (fun h => by have hq := hl9 _ h; first | omega | (dsimp only at hq; omega) | (simp at hq; done) | (simp at hq; omega)) _))); exact hO9')).mono ?_
      rintro e w4 ⟨rfl, hb4⟩
      have hbw4 : Below (W.heap.size + 3) (((W.alloc (.cells #[.int .i64 2, .int .i64 fr.xNext, .slice A2 fr.xMessages.length c2, .int .i64 tt.xNext, .slice A4 tt.xMessages.length c4, .slice A5 wt.length c5] 78)).alloc (.cells #[.int .i64 d.xSender, .int .i64 d.xAt, .string d.xText] 82)).alloc (.cells #[.int .i64 0, .int .i64 0, .slice none 0 0, .int .i64 0, .slice none 0 0, .slice none 0 0] 78)) w4 := Below.trans (by (repeat (first | (with_reducible refine Below.alloc ?_ (by first | omega | (simp; omega)) _) | (with_reducible refine Below.setCell ?_ (by first | omega | (dsimp only; omega)) _))); exact hbw3) (hb4.mono (by simp [World.setCell]; omega))
      have hsz4 := hbw4.size
      simp at hsz4
      have xr : Bx w4 (W.heap.size + 2) #[.int .i64 0, .int .i64 0, .slice none 0 0, .int .i64 0, .slice none 0 0, .slice none 0 0] 78 := (Bx.new3 W _ _ _ _).below hbw4 (by omega)
      have r0 := xr.cell 0 rfl
      have g0 := xr.free 0
      have r1 := xr.cell 1 rfl
      have g1 := xr.free 1
      have r2 := xr.cell 2 rfl
      have g2 := xr.free 2
      have r3 := xr.cell 3 rfl
      have g3 := xr.free 3
      have r4 := xr.cell 4 rfl
      have g4 := xr.free 4
      have r5 := xr.cell 5 rfl
      have g5 := xr.free 5
      have hsr := xr.lt
      have xb : Bx w4 W.heap.size #[.int .i64 2, .int .i64 fr.xNext, .slice A2 fr.xMessages.length c2, .int .i64 tt.xNext, .slice A4 tt.xMessages.length c4, .slice A5 wt.length c5] 78 := (((Bx.new W _ _).alloc _).alloc _).below hbw4 (by omega)
      have b0 := xb.cell 0 rfl
      have b1 := xb.cell 1 rfl
      have b2 := xb.cell 2 rfl
      have b3 := xb.cell 3 rfl
      have b4 := xb.cell 4 rfl
      have b5 := xb.cell 5 rfl
      have hsb := xb.lt
      have xd : Bx w4 (W.heap.size + 1) #[.int .i64 d.xSender, .int .i64 d.xAt, .string d.xText] 82 := ((Bx.new2 W _ _ _).alloc _).below hbw4 (by omega)
      have d0 := xd.cell 0 rfl
      have d1 := xd.cell 1 rfl
      have d2 := xd.cell 2 rfl
      have hsd := xd.lt
      have hB : Below W.heap.size W w4 := ((((Below.refl _ _).alloc (Nat.le_refl _) _).alloc (by simp) _).alloc (by simp; omega) _).trans (hbw4.mono (by omega))
      go_wp2
    · exact bodyPost_ret (v := .tuple #[.agg #[.int .i64 0, .int .i64 0, .slice none 0 0, .int .i64 0, .slice none 0 0, .slice none 0 0], .bool false]) (by simp [results, Try.results77, go_sem, r0, r1, r2, r3, r4, r5, g0, g1, g2, g3, g4, g5, hsr]) rfl (madeHR_no HXX.out (by (repeat (first | with_reducible assumption | with_reducible exact Below.refl _ _ | with_reducible refine Below.setCell ?_ ?_ _ | with_reducible refine Below.alloc ?_ ?_ _ | with_reducible refine Below.drew ?_ | with_reducible refine below_drewN ?_ _ | omega | (simp; done) | (simp; omega))); all_goals first | omega | (simp; done) | (simp; omega)))
    · refine bodyPost_ret (v := .tuple #[.agg #[.int .i64 2, .int .i64 fr.xNext, .slice A2' fr.xMessages.length c2', .int .i64 tt.xNext, .slice A4' tt.xMessages.length c4', .slice A9 n9 c9], .bool true]) (by simp [results, Try.results77, go_sem, r0, r1, r2, r3, r4, r5, g0, g1, g2, g3, g4, g5, hsr]) rfl ⟨_, by rw [HXX.out], ?_, (by (repeat (first | with_reducible assumption | with_reducible exact Below.refl _ _ | with_reducible refine Below.setCell ?_ ?_ _ | with_reducible refine Below.alloc ?_ ?_ _ | with_reducible refine Below.drew ?_ | with_reducible refine below_drewN ?_ _ | omega | (simp; done) | (simp; omega))); all_goals first | omega | (simp; done) | (simp; omega))⟩
      rw [HXX.out]
      refine Hand.ro_mk (h := ⟨2, fr, tt, wt ++ [d]⟩) (Ow.fresh (F := F2) ?_ (fun b h => by have := hl2 b h; omega)) (Ow.fresh (F := F4) ?_ (fun b h => by have := hl4 b h; omega)) (Ow.fresh (F := F9) ?_ (fun b h => by have := hl9 b h; omega))
      · repeat (with_reducible refine Ow.far ?_ (fun h => by have hq := hl2 _ h; first | omega | (dsimp only at hq; omega) | (simp at hq; done) | (simp at hq; omega)) _)
        refine Ow.keep ?_ hb4
        (repeat (first | (with_reducible refine Ow.alloc ?_ _) | (with_reducible refine Ow.far ?_ (fun h => by have hq := hl2 _ h; first | omega | (dsimp only at hq; omega) | (simp at hq; done) | (simp at hq; omega)) _)))
        exact hO2'
      · repeat (with_reducible refine Ow.far ?_ (fun h => by have hq := hl4 _ h; first | omega | (dsimp only at hq; omega) | (simp at hq; done) | (simp at hq; omega)) _)
        refine Ow.keep ?_ hb4
        (repeat (first | (with_reducible refine Ow.alloc ?_ _) | (with_reducible refine Ow.far ?_ (fun h => by have hq := hl4 _ h; first | omega | (dsimp only at hq; omega) | (simp at hq; done) | (simp at hq; omega)) _)))
        exact hO4'
      · repeat (with_reducible refine Ow.far ?_ (fun h => by have hq := hl9 _ h; first | omega | (dsimp only at hq; omega) | (simp at hq; done) | (simp at hq; omega)) _)
        refine Ow.keep ?_ hb4
        (repeat (first | (with_reducible refine Ow.alloc ?_ _) | (with_reducible refine Ow.far ?_ (fun h => by have hq := hl9 _ h; first | omega | (dsimp only at hq; omega) | (simp at hq; done) | (simp at hq; omega)) _)))
        exact hO9'
  have t2 : (stage == 2) = false := by simp [s2]
  by_cases s3 : stage = 3
  · subst s3
    have e1 : SayHand_c d ⟨3, fr, tt, wt⟩ = (⟨3, fr, post0 tt d.xSender d.xAt d.xText, wt⟩, (post0 tt d.xSender d.xAt d.xText).ok) := by unfold SayHand_c; rfl
    rw [e1] at hfit
    have HX0 := Lib.hid (show SayHand_f ⟨3, fr, tt, wt⟩ d = if (post0 tt d.xSender d.xAt d.xText).ok = true then (if Hand.ok ⟨3, fr, post0 tt d.xSender d.xAt d.xText, wt⟩ = true then (⟨3, fr, post0 tt d.xSender d.xAt d.xText, wt⟩, true) else (Hand.zero, false)) else (Hand.zero, false) from by
      unfold SayHand_f changed
      rw [e1, ho]
      cases (post0 tt d.xSender d.xAt d.xText).ok <;> simp)
    clear e1 rd2 rd4 rd5 hr hr2 hf s2
    have HFI := Lib.hid hfo
    clear hfo
    rw [ho] at HV
    clear ho
    go_enter Try.func77, Try.ntmps77
    go_wp2_with fail
    refine (HV _ (((Bx.new _ _ _).alloc _).alloc _) (by (repeat (first | with_reducible assumption | with_reducible exact Below.refl _ _ | with_reducible refine Below.setCell ?_ ?_ _ | with_reducible refine Below.alloc ?_ ?_ _ | with_reducible refine Below.drew ?_ | with_reducible refine below_drewN ?_ _ | omega | (simp; done) | (simp; omega))); all_goals first | omega | (simp; done) | (simp; omega))).mono ?_
    rintro e w1 ⟨rfl, hb1⟩
    have hbw : Below (W.heap.size + 3) (((W.alloc (.cells #[.int .i64 3, .int .i64 fr.xNext, .slice A2 fr.xMessages.length c2, .int .i64 tt.xNext, .slice A4 tt.xMessages.length c4, .slice A5 wt.length c5] 78)).alloc (.cells #[.int .i64 d.xSender, .int .i64 d.xAt, .string d.xText] 82)).alloc (.cells #[.int .i64 0, .int .i64 0, .slice none 0 0, .int .i64 0, .slice none 0 0, .slice none 0 0] 78)) w1 := hb1.mono (by simp)
    have hsz1 := hbw.size
    simp at hsz1
    have hB : Below W.heap.size W w1 := ((((Below.refl _ _).alloc (Nat.le_refl _) _).alloc (by simp) _).alloc (by simp; omega) _).trans (hbw.mono (by omega))
    have xr : Bx w1 (W.heap.size + 2) #[.int .i64 0, .int .i64 0, .slice none 0 0, .int .i64 0, .slice none 0 0, .slice none 0 0] 78 := (Bx.new3 W _ _ _ _).below hbw (by omega)
    have r0 := xr.cell 0 rfl
    have g0 := xr.free 0
    have r1 := xr.cell 1 rfl
    have g1 := xr.free 1
    have r2 := xr.cell 2 rfl
    have g2 := xr.free 2
    have r3 := xr.cell 3 rfl
    have g3 := xr.free 3
    have r4 := xr.cell 4 rfl
    have g4 := xr.free 4
    have r5 := xr.cell 5 rfl
    have g5 := xr.free 5
    have hsr := xr.lt
    have xb : Bx w1 W.heap.size #[.int .i64 3, .int .i64 fr.xNext, .slice A2 fr.xMessages.length c2, .int .i64 tt.xNext, .slice A4 tt.xMessages.length c4, .slice A5 wt.length c5] 78 := (((Bx.new W _ _).alloc _).alloc _).below hbw (by omega)
    have b0 := xb.cell 0 rfl
    have b1 := xb.cell 1 rfl
    have b2 := xb.cell 2 rfl
    have b3 := xb.cell 3 rfl
    have b4 := xb.cell 4 rfl
    have b5 := xb.cell 5 rfl
    have hsb := xb.lt
    have xd : Bx w1 (W.heap.size + 1) #[.int .i64 d.xSender, .int .i64 d.xAt, .string d.xText] 82 := ((Bx.new2 W _ _ _).alloc _).below hbw (by omega)
    have d0 := xd.cell 0 rfl
    have d1 := xd.cell 1 rfl
    have d2 := xd.cell 2 rfl
    have hsd := xd.lt
    go_wp2_with fail
    refine (HC w1 xb hB).mono ?_
    rintro e w2 ⟨us1, F1, rfl, hO1, hb2, hF1⟩
    obtain ⟨A2', c2', F2, A4', c4', F4, A5', c5', F5, rfl, hO2, -, -, hO4, -, -, hO5, -, -, d24, d25, d45, hFe⟩ := Hand.owned hO1
    have hl2 : ∀ b, F2 b → W.heap.size + 3 ≤ b ∧ b < w2.heap.size := fun b h => ⟨by have := hF1 b ((hFe b).2 (.inl h)); omega, hO2.lt b h⟩
    have hl4 : ∀ b, F4 b → W.heap.size + 3 ≤ b ∧ b < w2.heap.size := fun b h => ⟨by have := hF1 b ((hFe b).2 (.inr (.inl h))); omega, hO4.lt b h⟩
    have hl5 : ∀ b, F5 b → W.heap.size + 3 ≤ b ∧ b < w2.heap.size := fun b h => ⟨by have := hF1 b ((hFe b).2 (.inr (.inr h))); omega, hO5.lt b h⟩
    clear hF1 hFe r0 g0 b0 r1 g1 b1 r2 g2 b2 r3 g3 b3 r4 g4 b4 r5 g5 b5 d0 d1 d2 hsr xr xb xd hsb hsd hB
    have hbw2 := hbw.trans (hb2.mono (by omega))
    have hsz2 := hb2.size
    have xr : Bx w2 (W.heap.size + 2) #[.int .i64 0, .int .i64 0, .slice none 0 0, .int .i64 0, .slice none 0 0, .slice none 0 0] 78 := (Bx.new3 W _ _ _ _).below hbw2 (by omega)
    have r0 := xr.cell 0 rfl
    have g0 := xr.free 0
    have r1 := xr.cell 1 rfl
    have g1 := xr.free 1
    have r2 := xr.cell 2 rfl
    have g2 := xr.free 2
    have r3 := xr.cell 3 rfl
    have g3 := xr.free 3
    have r4 := xr.cell 4 rfl
    have g4 := xr.free 4
    have r5 := xr.cell 5 rfl
    have g5 := xr.free 5
    have hsr := xr.lt
    have xb : Bx w2 W.heap.size #[.int .i64 3, .int .i64 fr.xNext, .slice A2 fr.xMessages.length c2, .int .i64 tt.xNext, .slice A4 tt.xMessages.length c4, .slice A5 wt.length c5] 78 := (((Bx.new W _ _).alloc _).alloc _).below hbw2 (by omega)
    have b0 := xb.cell 0 rfl
    have b1 := xb.cell 1 rfl
    have b2 := xb.cell 2 rfl
    have b3 := xb.cell 3 rfl
    have b4 := xb.cell 4 rfl
    have b5 := xb.cell 5 rfl
    have hsb := xb.lt
    have xd : Bx w2 (W.heap.size + 1) #[.int .i64 d.xSender, .int .i64 d.xAt, .string d.xText] 82 := ((Bx.new2 W _ _ _).alloc _).below hbw2 (by omega)
    have d0 := xd.cell 0 rfl
    have d1 := xd.cell 1 rfl
    have d2 := xd.cell 2 rfl
    have hsd := xd.lt
    have hB : Below W.heap.size W w2 := ((((Below.refl _ _).alloc (Nat.le_refl _) _).alloc (by simp) _).alloc (by simp; omega) _).trans (hbw2.mono (by omega))
    have xg := Bx.new w2 #[.int .i64 3, .int .i64 fr.xNext, .slice A2' fr.xMessages.length c2', .int .i64 tt.xNext, .slice A4' tt.xMessages.length c4', .slice A5' wt.length c5'] 78
    have hwg := hB.size
    have y0 := xg.cell 3 rfl
    have HS := fun (w : World) (xg : Bx w w2.heap.size #[.int .i64 3, .int .i64 fr.xNext, .slice A2' fr.xMessages.length c2', .int .i64 tt.xNext, .slice A4' tt.xMessages.length c4', .slice A5' wt.length c5'] 78) (xk : Bx w (w2.heap.size + 1) #[.int .i64 d.xSender, .int .i64 d.xAt, .string d.xText] 82) (hO : Ow w (Message.s true tt.xMessages) (.slice A4' tt.xMessages.length c4') F4) => spec_l10Say tt [d] w2.heap.size 3 A4' c4' (some ⟨w2.heap.size + 1, 0, none⟩) 1 w (xg.cell 3 rfl) (xg.cell 4 rfl) hO.lo HFI.out.2 (draft_one xk).lo (fun x hx => by simp at hx; subst hx; exact hdt) (by simp)
    simp only [List.length_cons, List.length_nil, Nat.zero_add] at HS
    rw [said_one] at HS
    clear y0
    cases hpo : (post0 tt d.xSender d.xAt d.xText).ok
    all_goals
      have HX1 := HX0.out
      rw [hpo] at HX1 HS
      simp only [Bool.false_eq_true, if_false, if_true] at HX1 HS
      have HX := Lib.hid HX1
      clear HX0 HX1 hpo
      go_wp2_with fail
      refine (HS _ (xg.alloc _) (by have := Bx.new (w2.alloc (.cells #[.int .i64 3, .int .i64 fr.xNext, .slice A2' fr.xMessages.length c2', .int .i64 tt.xNext, .slice A4' tt.xMessages.length c4', .slice A5' wt.length c5'] 78)) #[.int .i64 d.xSender, .int .i64 d.xAt, .string d.xText] 82; simpa using this) ((hO4.alloc _).alloc _)).mono ?_
      clear HS
      rintro e w3 ⟨A9, n9, c9, F9, rfl, hO9, hb3, hF9⟩
      have hbw3 := ((hbw2.alloc (by omega) _).alloc (by simp; omega) _).trans (hb3.mono (by simp; omega))
      have hsz3 := hb3.size
      simp at hsz3
      clear r0 g0 b0 r1 g1 b1 r2 g2 b2 r3 g3 b3 r4 g4 b4 r5 g5 b5 d0 d1 d2 hsr xr xb xd hsb hsd hB
      have xr : Bx w3 (W.heap.size + 2) #[.int .i64 0, .int .i64 0, .slice none 0 0, .int .i64 0, .slice none 0 0, .slice none 0 0] 78 := (Bx.new3 W _ _ _ _).below hbw3 (by omega)
      have r0 := xr.cell 0 rfl
      have g0 := xr.free 0
      have r1 := xr.cell 1 rfl
      have g1 := xr.free 1
      have r2 := xr.cell 2 rfl
      have g2 := xr.free 2
      have r3 := xr.cell 3 rfl
      have g3 := xr.free 3
      have r4 := xr.cell 4 rfl
      have g4 := xr.free 4
      have r5 := xr.cell 5 rfl
      have g5 := xr.free 5
      have hsr := xr.lt
      have xb : Bx w3 W.heap.size #[.int .i64 3, .int .i64 fr.xNext, .slice A2 fr.xMessages.length c2, .int .i64 tt.xNext, .slice A4 tt.xMessages.length c4, .slice A5 wt.length c5] 78 := (((Bx.new W _ _).alloc _).alloc _).below hbw3 (by omega)
      have b0 := xb.cell 0 rfl
      have b1 := xb.cell 1 rfl
      have b2 := xb.cell 2 rfl
      have b3 := xb.cell 3 rfl
      have b4 := xb.cell 4 rfl
      have b5 := xb.cell 5 rfl
      have hsb := xb.lt
      have xd : Bx w3 (W.heap.size + 1) #[.int .i64 d.xSender, .int .i64 d.xAt, .string d.xText] 82 := ((Bx.new2 W _ _ _).alloc _).below hbw3 (by omega)
      have d0 := xd.cell 0 rfl
      have d1 := xd.cell 1 rfl
      have d2 := xd.cell 2 rfl
      have hsd := xd.lt
      have hB : Below W.heap.size W w3 := ((((Below.refl _ _).alloc (Nat.le_refl _) _).alloc (by simp) _).alloc (by simp; omega) _).trans (hbw3.mono (by omega))
    · go_wp2
      exact bodyPost_ret (v := .tuple #[.agg #[.int .i64 0, .int .i64 0, .slice none 0 0, .int .i64 0, .slice none 0 0, .slice none 0 0], .bool false]) (by simp [results, Try.results77, go_sem, r0, r1, r2, r3, r4, r5, g0, g1, g2, g3, g4, g5, hsr]) rfl (madeHR_no HX.out (by (repeat (first | with_reducible assumption | with_reducible exact Below.refl _ _ | with_reducible refine Below.setCell ?_ ?_ _ | with_reducible refine Below.alloc ?_ ?_ _ | with_reducible refine Below.drew ?_ | with_reducible refine below_drewN ?_ _ | omega | (simp; done) | (simp; omega))); all_goals first | omega | (simp; done) | (simp; omega)))
    · have xg3 := (xg.alloc (.cells #[.int .i64 d.xSender, .int .i64 d.xAt, .string d.xText] 82)).below hb3 (by simp; omega)
      have y0 := xg3.cell 0 rfl; have z0 := xg3.free 0; have y1 := xg3.cell 1 rfl; have z1 := xg3.free 1; have y2 := xg3.cell 2 rfl; have z2 := xg3.free 2; have y3 := xg3.cell 3 rfl; have z3 := xg3.free 3; have y4 := xg3.cell 4 rfl; have z4 := xg3.free 4; have y5 := xg3.cell 5 rfl; have z5 := xg3.free 5
      have hz3 := xg3.lt
      have hO2' := ((hO2.alloc (.cells #[.int .i64 3, .int .i64 fr.xNext, .slice A2' fr.xMessages.length c2', .int .i64 tt.xNext, .slice A4' tt.xMessages.length c4', .slice A5' wt.length c5'] 78)).alloc (.cells #[.int .i64 d.xSender, .int .i64 d.xAt, .string d.xText] 82)).keep hb3
      have hO4' := ((hO4.alloc (.cells #[.int .i64 3, .int .i64 fr.xNext, .slice A2' fr.xMessages.length c2', .int .i64 tt.xNext, .slice A4' tt.xMessages.length c4', .slice A5' wt.length c5'] 78)).alloc (.cells #[.int .i64 d.xSender, .int .i64 d.xAt, .string d.xText] 82)).keep hb3
      have hO5' := ((hO5.alloc (.cells #[.int .i64 3, .int .i64 fr.xNext, .slice A2' fr.xMessages.length c2', .int .i64 tt.xNext, .slice A4' tt.xMessages.length c4', .slice A5' wt.length c5'] 78)).alloc (.cells #[.int .i64 d.xSender, .int .i64 d.xAt, .string d.xText] 82)).keep hb3
      have hl9 : ∀ b, F9 b → W.heap.size + 3 ≤ b ∧ b ≠ w2.heap.size := fun b h => by have := hF9 b h; simp at this; exact ⟨by omega, by omega⟩
      have HG := fun (w : World) (h2 : Ow w (Message.s true fr.xMessages) (.slice A2' fr.xMessages.length c2') F2) (h4 : Ow w (Message.s true (post0 tt d.xSender d.xAt d.xText).xMessages) (.slice A9 n9 c9) F9) (h5 : Ow w (Draft.s true wt) (.slice A5' wt.length c5') F5) => spec_l10Give ⟨3, fr, post0 tt d.xSender d.xAt d.xText, wt⟩ [.int .i64 3, .int .i64 fr.xNext, .slice A2' fr.xMessages.length c2', .int .i64 (tt.xNext + 1), .slice A9 n9 c9, .slice A5' wt.length c5'] w (Hand.ro_mk (h := ⟨3, fr, post0 tt d.xSender d.xAt d.xText, wt⟩) h2.lo h4.lo h5.lo) hfit
      have HX' := HX.out
      cases hv : Hand.ok ⟨3, fr, post0 tt d.xSender d.xAt d.xText, wt⟩
      all_goals
        have HF := HX'
        rw [hv] at HG HF
        simp only [gave, cond, Bool.false_eq_true, if_false, if_true] at HG HF
        have HXX := Lib.hid HF
        clear HX' HF hv
        go_wp2_with fail
        refine (HG _ (by (repeat (first | (with_reducible refine Ow.alloc ?_ _) | (with_reducible refine Ow.far ?_ (fun h => by have hq := hl2 _ h; first | omega | (dsimp only at hq; omega) | (simp at hq; done) | (simp at hq; omega)) _))); exact hO2') (by (repeat (first | (with_reducible refine Ow.alloc ?_ _) | (with_reducible refine Ow.far ?_ (fun h => by have hq := hl9 _ h; first | omega | (dsimp only at hq; omega) | (simp at hq; done) | (simp at hq; omega)) _))); exact hO9) (by (repeat (first | (with_reducible refine Ow.alloc ?_ _) | (with_reducible refine Ow.far ?_ (fun h => by have hq := hl5 _ h; first | omega | (dsimp only at hq; omega) | (simp at hq; done) | (simp at hq; omega)) _))); exact hO5')).mono ?_
        rintro e w4 ⟨rfl, hb4⟩
        have hbw4 : Below (W.heap.size + 3) (((W.alloc (.cells #[.int .i64 3, .int .i64 fr.xNext, .slice A2 fr.xMessages.length c2, .int .i64 tt.xNext, .slice A4 tt.xMessages.length c4, .slice A5 wt.length c5] 78)).alloc (.cells #[.int .i64 d.xSender, .int .i64 d.xAt, .string d.xText] 82)).alloc (.cells #[.int .i64 0, .int .i64 0, .slice none 0 0, .int .i64 0, .slice none 0 0, .slice none 0 0] 78)) w4 := Below.trans (by (repeat (first | (with_reducible refine Below.alloc ?_ (by first | omega | (simp; omega)) _) | (with_reducible refine Below.setCell ?_ (by first | omega | (dsimp only; omega)) _))); exact hbw3) (hb4.mono (by simp [World.setCell]; omega))
        have hsz4 := hbw4.size
        simp at hsz4
        have xr : Bx w4 (W.heap.size + 2) #[.int .i64 0, .int .i64 0, .slice none 0 0, .int .i64 0, .slice none 0 0, .slice none 0 0] 78 := (Bx.new3 W _ _ _ _).below hbw4 (by omega)
        have r0 := xr.cell 0 rfl
        have g0 := xr.free 0
        have r1 := xr.cell 1 rfl
        have g1 := xr.free 1
        have r2 := xr.cell 2 rfl
        have g2 := xr.free 2
        have r3 := xr.cell 3 rfl
        have g3 := xr.free 3
        have r4 := xr.cell 4 rfl
        have g4 := xr.free 4
        have r5 := xr.cell 5 rfl
        have g5 := xr.free 5
        have hsr := xr.lt
        have xb : Bx w4 W.heap.size #[.int .i64 3, .int .i64 fr.xNext, .slice A2 fr.xMessages.length c2, .int .i64 tt.xNext, .slice A4 tt.xMessages.length c4, .slice A5 wt.length c5] 78 := (((Bx.new W _ _).alloc _).alloc _).below hbw4 (by omega)
        have b0 := xb.cell 0 rfl
        have b1 := xb.cell 1 rfl
        have b2 := xb.cell 2 rfl
        have b3 := xb.cell 3 rfl
        have b4 := xb.cell 4 rfl
        have b5 := xb.cell 5 rfl
        have hsb := xb.lt
        have xd : Bx w4 (W.heap.size + 1) #[.int .i64 d.xSender, .int .i64 d.xAt, .string d.xText] 82 := ((Bx.new2 W _ _ _).alloc _).below hbw4 (by omega)
        have d0 := xd.cell 0 rfl
        have d1 := xd.cell 1 rfl
        have d2 := xd.cell 2 rfl
        have hsd := xd.lt
        have hB : Below W.heap.size W w4 := ((((Below.refl _ _).alloc (Nat.le_refl _) _).alloc (by simp) _).alloc (by simp; omega) _).trans (hbw4.mono (by omega))
        go_wp2
      · exact bodyPost_ret (v := .tuple #[.agg #[.int .i64 0, .int .i64 0, .slice none 0 0, .int .i64 0, .slice none 0 0, .slice none 0 0], .bool false]) (by simp [results, Try.results77, go_sem, r0, r1, r2, r3, r4, r5, g0, g1, g2, g3, g4, g5, hsr]) rfl (madeHR_no HXX.out (by (repeat (first | with_reducible assumption | with_reducible exact Below.refl _ _ | with_reducible refine Below.setCell ?_ ?_ _ | with_reducible refine Below.alloc ?_ ?_ _ | with_reducible refine Below.drew ?_ | with_reducible refine below_drewN ?_ _ | omega | (simp; done) | (simp; omega))); all_goals first | omega | (simp; done) | (simp; omega)))
      · refine bodyPost_ret (v := .tuple #[.agg #[.int .i64 3, .int .i64 fr.xNext, .slice A2' fr.xMessages.length c2', .int .i64 (tt.xNext + 1), .slice A9 n9 c9, .slice A5' wt.length c5'], .bool true]) (by simp [results, Try.results77, go_sem, r0, r1, r2, r3, r4, r5, g0, g1, g2, g3, g4, g5, hsr]) rfl ⟨_, by rw [HXX.out], ?_, (by (repeat (first | with_reducible assumption | with_reducible exact Below.refl _ _ | with_reducible refine Below.setCell ?_ ?_ _ | with_reducible refine Below.alloc ?_ ?_ _ | with_reducible refine Below.drew ?_ | with_reducible refine below_drewN ?_ _ | omega | (simp; done) | (simp; omega))); all_goals first | omega | (simp; done) | (simp; omega))⟩
        rw [HXX.out]
        refine Hand.ro_mk (h := ⟨3, fr, post0 tt d.xSender d.xAt d.xText, wt⟩) (Ow.fresh (F := F2) ?_ (fun b h => by have := hl2 b h; omega)) (Ow.fresh (F := F9) ?_ (fun b h => by have := hl9 b h; omega)) (Ow.fresh (F := F5) ?_ (fun b h => by have := hl5 b h; omega))
        · repeat (with_reducible refine Ow.far ?_ (fun h => by have hq := hl2 _ h; first | omega | (dsimp only at hq; omega) | (simp at hq; done) | (simp at hq; omega)) _)
          refine Ow.keep ?_ hb4
          (repeat (first | (with_reducible refine Ow.alloc ?_ _) | (with_reducible refine Ow.far ?_ (fun h => by have hq := hl2 _ h; first | omega | (dsimp only at hq; omega) | (simp at hq; done) | (simp at hq; omega)) _)))
          exact hO2'
        · repeat (with_reducible refine Ow.far ?_ (fun h => by have hq := hl9 _ h; first | omega | (dsimp only at hq; omega) | (simp at hq; done) | (simp at hq; omega)) _)
          refine Ow.keep ?_ hb4
          (repeat (first | (with_reducible refine Ow.alloc ?_ _) | (with_reducible refine Ow.far ?_ (fun h => by have hq := hl9 _ h; first | omega | (dsimp only at hq; omega) | (simp at hq; done) | (simp at hq; omega)) _)))
          exact hO9
        · repeat (with_reducible refine Ow.far ?_ (fun h => by have hq := hl5 _ h; first | omega | (dsimp only at hq; omega) | (simp at hq; done) | (simp at hq; omega)) _)
          refine Ow.keep ?_ hb4
          (repeat (first | (with_reducible refine Ow.alloc ?_ _) | (with_reducible refine Ow.far ?_ (fun h => by have hq := hl5 _ h; first | omega | (dsimp only at hq; omega) | (simp at hq; done) | (simp at hq; omega)) _)))
          exact hO5'

  have t3 : (stage == 3) = false := by simp [s3]
  have e1 : SayHand_c d ⟨stage, fr, tt, wt⟩ = (⟨stage, post0 fr d.xSender d.xAt d.xText, tt, wt⟩, (post0 fr d.xSender d.xAt d.xText).ok) := by unfold SayHand_c; simp only [if_neg s2, if_neg s3]
  rw [e1] at hfit
  have HX0 := Lib.hid (show SayHand_f ⟨stage, fr, tt, wt⟩ d = if (post0 fr d.xSender d.xAt d.xText).ok = true then (if Hand.ok ⟨stage, post0 fr d.xSender d.xAt d.xText, tt, wt⟩ = true then (⟨stage, post0 fr d.xSender d.xAt d.xText, tt, wt⟩, true) else (Hand.zero, false)) else (Hand.zero, false) from by
    unfold SayHand_f changed
    rw [e1, ho]
    cases (post0 fr d.xSender d.xAt d.xText).ok <;> simp)
  clear e1 rd2 rd4 rd5 hr hr2 hf s2
  have HFI := Lib.hid hfo
  clear hfo
  rw [ho] at HV
  clear ho
  go_enter Try.func77, Try.ntmps77
  go_wp2_with fail
  refine (HV _ (((Bx.new _ _ _).alloc _).alloc _) (by (repeat (first | with_reducible assumption | with_reducible exact Below.refl _ _ | with_reducible refine Below.setCell ?_ ?_ _ | with_reducible refine Below.alloc ?_ ?_ _ | with_reducible refine Below.drew ?_ | with_reducible refine below_drewN ?_ _ | omega | (simp; done) | (simp; omega))); all_goals first | omega | (simp; done) | (simp; omega))).mono ?_
  rintro e w1 ⟨rfl, hb1⟩
  have hbw : Below (W.heap.size + 3) (((W.alloc (.cells #[.int .i64 stage, .int .i64 fr.xNext, .slice A2 fr.xMessages.length c2, .int .i64 tt.xNext, .slice A4 tt.xMessages.length c4, .slice A5 wt.length c5] 78)).alloc (.cells #[.int .i64 d.xSender, .int .i64 d.xAt, .string d.xText] 82)).alloc (.cells #[.int .i64 0, .int .i64 0, .slice none 0 0, .int .i64 0, .slice none 0 0, .slice none 0 0] 78)) w1 := hb1.mono (by simp)
  have hsz1 := hbw.size
  simp at hsz1
  have hB : Below W.heap.size W w1 := ((((Below.refl _ _).alloc (Nat.le_refl _) _).alloc (by simp) _).alloc (by simp; omega) _).trans (hbw.mono (by omega))
  have xr : Bx w1 (W.heap.size + 2) #[.int .i64 0, .int .i64 0, .slice none 0 0, .int .i64 0, .slice none 0 0, .slice none 0 0] 78 := (Bx.new3 W _ _ _ _).below hbw (by omega)
  have r0 := xr.cell 0 rfl
  have g0 := xr.free 0
  have r1 := xr.cell 1 rfl
  have g1 := xr.free 1
  have r2 := xr.cell 2 rfl
  have g2 := xr.free 2
  have r3 := xr.cell 3 rfl
  have g3 := xr.free 3
  have r4 := xr.cell 4 rfl
  have g4 := xr.free 4
  have r5 := xr.cell 5 rfl
  have g5 := xr.free 5
  have hsr := xr.lt
  have xb : Bx w1 W.heap.size #[.int .i64 stage, .int .i64 fr.xNext, .slice A2 fr.xMessages.length c2, .int .i64 tt.xNext, .slice A4 tt.xMessages.length c4, .slice A5 wt.length c5] 78 := (((Bx.new W _ _).alloc _).alloc _).below hbw (by omega)
  have b0 := xb.cell 0 rfl
  have b1 := xb.cell 1 rfl
  have b2 := xb.cell 2 rfl
  have b3 := xb.cell 3 rfl
  have b4 := xb.cell 4 rfl
  have b5 := xb.cell 5 rfl
  have hsb := xb.lt
  have xd : Bx w1 (W.heap.size + 1) #[.int .i64 d.xSender, .int .i64 d.xAt, .string d.xText] 82 := ((Bx.new2 W _ _ _).alloc _).below hbw (by omega)
  have d0 := xd.cell 0 rfl
  have d1 := xd.cell 1 rfl
  have d2 := xd.cell 2 rfl
  have hsd := xd.lt
  go_wp2_with fail
  refine (HC w1 xb hB).mono ?_
  rintro e w2 ⟨us1, F1, rfl, hO1, hb2, hF1⟩
  obtain ⟨A2', c2', F2, A4', c4', F4, A5', c5', F5, rfl, hO2, -, -, hO4, -, -, hO5, -, -, d24, d25, d45, hFe⟩ := Hand.owned hO1
  have hl2 : ∀ b, F2 b → W.heap.size + 3 ≤ b ∧ b < w2.heap.size := fun b h => ⟨by have := hF1 b ((hFe b).2 (.inl h)); omega, hO2.lt b h⟩
  have hl4 : ∀ b, F4 b → W.heap.size + 3 ≤ b ∧ b < w2.heap.size := fun b h => ⟨by have := hF1 b ((hFe b).2 (.inr (.inl h))); omega, hO4.lt b h⟩
  have hl5 : ∀ b, F5 b → W.heap.size + 3 ≤ b ∧ b < w2.heap.size := fun b h => ⟨by have := hF1 b ((hFe b).2 (.inr (.inr h))); omega, hO5.lt b h⟩
  clear hF1 hFe r0 g0 b0 r1 g1 b1 r2 g2 b2 r3 g3 b3 r4 g4 b4 r5 g5 b5 d0 d1 d2 hsr xr xb xd hsb hsd hB
  have hbw2 := hbw.trans (hb2.mono (by omega))
  have hsz2 := hb2.size
  have xr : Bx w2 (W.heap.size + 2) #[.int .i64 0, .int .i64 0, .slice none 0 0, .int .i64 0, .slice none 0 0, .slice none 0 0] 78 := (Bx.new3 W _ _ _ _).below hbw2 (by omega)
  have r0 := xr.cell 0 rfl
  have g0 := xr.free 0
  have r1 := xr.cell 1 rfl
  have g1 := xr.free 1
  have r2 := xr.cell 2 rfl
  have g2 := xr.free 2
  have r3 := xr.cell 3 rfl
  have g3 := xr.free 3
  have r4 := xr.cell 4 rfl
  have g4 := xr.free 4
  have r5 := xr.cell 5 rfl
  have g5 := xr.free 5
  have hsr := xr.lt
  have xb : Bx w2 W.heap.size #[.int .i64 stage, .int .i64 fr.xNext, .slice A2 fr.xMessages.length c2, .int .i64 tt.xNext, .slice A4 tt.xMessages.length c4, .slice A5 wt.length c5] 78 := (((Bx.new W _ _).alloc _).alloc _).below hbw2 (by omega)
  have b0 := xb.cell 0 rfl
  have b1 := xb.cell 1 rfl
  have b2 := xb.cell 2 rfl
  have b3 := xb.cell 3 rfl
  have b4 := xb.cell 4 rfl
  have b5 := xb.cell 5 rfl
  have hsb := xb.lt
  have xd : Bx w2 (W.heap.size + 1) #[.int .i64 d.xSender, .int .i64 d.xAt, .string d.xText] 82 := ((Bx.new2 W _ _ _).alloc _).below hbw2 (by omega)
  have d0 := xd.cell 0 rfl
  have d1 := xd.cell 1 rfl
  have d2 := xd.cell 2 rfl
  have hsd := xd.lt
  have hB : Below W.heap.size W w2 := ((((Below.refl _ _).alloc (Nat.le_refl _) _).alloc (by simp) _).alloc (by simp; omega) _).trans (hbw2.mono (by omega))
  have xg := Bx.new w2 #[.int .i64 stage, .int .i64 fr.xNext, .slice A2' fr.xMessages.length c2', .int .i64 tt.xNext, .slice A4' tt.xMessages.length c4', .slice A5' wt.length c5'] 78
  have hwg := hB.size
  have y0 := xg.cell 1 rfl
  have HS := fun (w : World) (xg : Bx w w2.heap.size #[.int .i64 stage, .int .i64 fr.xNext, .slice A2' fr.xMessages.length c2', .int .i64 tt.xNext, .slice A4' tt.xMessages.length c4', .slice A5' wt.length c5'] 78) (xk : Bx w (w2.heap.size + 1) #[.int .i64 d.xSender, .int .i64 d.xAt, .string d.xText] 82) (hO : Ow w (Message.s true fr.xMessages) (.slice A2' fr.xMessages.length c2') F2) => spec_l10Say fr [d] w2.heap.size 1 A2' c2' (some ⟨w2.heap.size + 1, 0, none⟩) 1 w (xg.cell 1 rfl) (xg.cell 2 rfl) hO.lo HFI.out.1 (draft_one xk).lo (fun x hx => by simp at hx; subst hx; exact hdt) (by simp)
  simp only [List.length_cons, List.length_nil, Nat.zero_add] at HS
  rw [said_one] at HS
  clear y0
  cases hpo : (post0 fr d.xSender d.xAt d.xText).ok
  all_goals
    have HX1 := HX0.out
    rw [hpo] at HX1 HS
    simp only [Bool.false_eq_true, if_false, if_true] at HX1 HS
    have HX := Lib.hid HX1
    clear HX0 HX1 hpo
    go_wp2_with fail
    refine (HS _ (xg.alloc _) (by have := Bx.new (w2.alloc (.cells #[.int .i64 stage, .int .i64 fr.xNext, .slice A2' fr.xMessages.length c2', .int .i64 tt.xNext, .slice A4' tt.xMessages.length c4', .slice A5' wt.length c5'] 78)) #[.int .i64 d.xSender, .int .i64 d.xAt, .string d.xText] 82; simpa using this) ((hO2.alloc _).alloc _)).mono ?_
    clear HS
    rintro e w3 ⟨A9, n9, c9, F9, rfl, hO9, hb3, hF9⟩
    have hbw3 := ((hbw2.alloc (by omega) _).alloc (by simp; omega) _).trans (hb3.mono (by simp; omega))
    have hsz3 := hb3.size
    simp at hsz3
    clear r0 g0 b0 r1 g1 b1 r2 g2 b2 r3 g3 b3 r4 g4 b4 r5 g5 b5 d0 d1 d2 hsr xr xb xd hsb hsd hB
    have xr : Bx w3 (W.heap.size + 2) #[.int .i64 0, .int .i64 0, .slice none 0 0, .int .i64 0, .slice none 0 0, .slice none 0 0] 78 := (Bx.new3 W _ _ _ _).below hbw3 (by omega)
    have r0 := xr.cell 0 rfl
    have g0 := xr.free 0
    have r1 := xr.cell 1 rfl
    have g1 := xr.free 1
    have r2 := xr.cell 2 rfl
    have g2 := xr.free 2
    have r3 := xr.cell 3 rfl
    have g3 := xr.free 3
    have r4 := xr.cell 4 rfl
    have g4 := xr.free 4
    have r5 := xr.cell 5 rfl
    have g5 := xr.free 5
    have hsr := xr.lt
    have xb : Bx w3 W.heap.size #[.int .i64 stage, .int .i64 fr.xNext, .slice A2 fr.xMessages.length c2, .int .i64 tt.xNext, .slice A4 tt.xMessages.length c4, .slice A5 wt.length c5] 78 := (((Bx.new W _ _).alloc _).alloc _).below hbw3 (by omega)
    have b0 := xb.cell 0 rfl
    have b1 := xb.cell 1 rfl
    have b2 := xb.cell 2 rfl
    have b3 := xb.cell 3 rfl
    have b4 := xb.cell 4 rfl
    have b5 := xb.cell 5 rfl
    have hsb := xb.lt
    have xd : Bx w3 (W.heap.size + 1) #[.int .i64 d.xSender, .int .i64 d.xAt, .string d.xText] 82 := ((Bx.new2 W _ _ _).alloc _).below hbw3 (by omega)
    have d0 := xd.cell 0 rfl
    have d1 := xd.cell 1 rfl
    have d2 := xd.cell 2 rfl
    have hsd := xd.lt
    have hB : Below W.heap.size W w3 := ((((Below.refl _ _).alloc (Nat.le_refl _) _).alloc (by simp) _).alloc (by simp; omega) _).trans (hbw3.mono (by omega))
  · go_wp2
    exact bodyPost_ret (v := .tuple #[.agg #[.int .i64 0, .int .i64 0, .slice none 0 0, .int .i64 0, .slice none 0 0, .slice none 0 0], .bool false]) (by simp [results, Try.results77, go_sem, r0, r1, r2, r3, r4, r5, g0, g1, g2, g3, g4, g5, hsr]) rfl (madeHR_no HX.out (by (repeat (first | with_reducible assumption | with_reducible exact Below.refl _ _ | with_reducible refine Below.setCell ?_ ?_ _ | with_reducible refine Below.alloc ?_ ?_ _ | with_reducible refine Below.drew ?_ | with_reducible refine below_drewN ?_ _ | omega | (simp; done) | (simp; omega))); all_goals first | omega | (simp; done) | (simp; omega)))
  · have xg3 := (xg.alloc (.cells #[.int .i64 d.xSender, .int .i64 d.xAt, .string d.xText] 82)).below hb3 (by simp; omega)
    have y0 := xg3.cell 0 rfl; have z0 := xg3.free 0; have y1 := xg3.cell 1 rfl; have z1 := xg3.free 1; have y2 := xg3.cell 2 rfl; have z2 := xg3.free 2; have y3 := xg3.cell 3 rfl; have z3 := xg3.free 3; have y4 := xg3.cell 4 rfl; have z4 := xg3.free 4; have y5 := xg3.cell 5 rfl; have z5 := xg3.free 5
    have hz3 := xg3.lt
    have hO2' := ((hO2.alloc (.cells #[.int .i64 stage, .int .i64 fr.xNext, .slice A2' fr.xMessages.length c2', .int .i64 tt.xNext, .slice A4' tt.xMessages.length c4', .slice A5' wt.length c5'] 78)).alloc (.cells #[.int .i64 d.xSender, .int .i64 d.xAt, .string d.xText] 82)).keep hb3
    have hO4' := ((hO4.alloc (.cells #[.int .i64 stage, .int .i64 fr.xNext, .slice A2' fr.xMessages.length c2', .int .i64 tt.xNext, .slice A4' tt.xMessages.length c4', .slice A5' wt.length c5'] 78)).alloc (.cells #[.int .i64 d.xSender, .int .i64 d.xAt, .string d.xText] 82)).keep hb3
    have hO5' := ((hO5.alloc (.cells #[.int .i64 stage, .int .i64 fr.xNext, .slice A2' fr.xMessages.length c2', .int .i64 tt.xNext, .slice A4' tt.xMessages.length c4', .slice A5' wt.length c5'] 78)).alloc (.cells #[.int .i64 d.xSender, .int .i64 d.xAt, .string d.xText] 82)).keep hb3
    have hl9 : ∀ b, F9 b → W.heap.size + 3 ≤ b ∧ b ≠ w2.heap.size := fun b h => by have := hF9 b h; simp at this; exact ⟨by omega, by omega⟩
    have HG := fun (w : World) (h2 : Ow w (Message.s true (post0 fr d.xSender d.xAt d.xText).xMessages) (.slice A9 n9 c9) F9) (h4 : Ow w (Message.s true tt.xMessages) (.slice A4' tt.xMessages.length c4') F4) (h5 : Ow w (Draft.s true wt) (.slice A5' wt.length c5') F5) => spec_l10Give ⟨stage, post0 fr d.xSender d.xAt d.xText, tt, wt⟩ [.int .i64 stage, .int .i64 (fr.xNext + 1), .slice A9 n9 c9, .int .i64 tt.xNext, .slice A4' tt.xMessages.length c4', .slice A5' wt.length c5'] w (Hand.ro_mk (h := ⟨stage, post0 fr d.xSender d.xAt d.xText, tt, wt⟩) h2.lo h4.lo h5.lo) hfit
    have HX' := HX.out
    cases hv : Hand.ok ⟨stage, post0 fr d.xSender d.xAt d.xText, tt, wt⟩
    all_goals
      have HF := HX'
      rw [hv] at HG HF
      simp only [gave, cond, Bool.false_eq_true, if_false, if_true] at HG HF
      have HXX := Lib.hid HF
      clear HX' HF hv
      go_wp2_with fail
      refine (HG _ (by (repeat (first | (with_reducible refine Ow.alloc ?_ _) | (with_reducible refine Ow.far ?_ (fun h => by have hq := hl9 _ h; first | omega | (dsimp only at hq; omega) | (simp at hq; done) | (simp at hq; omega)) _))); exact hO9) (by (repeat (first | (with_reducible refine Ow.alloc ?_ _) | (with_reducible refine Ow.far ?_ (fun h => by have hq := hl4 _ h; first | omega | (dsimp only at hq; omega) | (simp at hq; done) | (simp at hq; omega)) _))); exact hO4') (by (repeat (first | (with_reducible refine Ow.alloc ?_ _) | (with_reducible refine Ow.far ?_ (fun h => by have hq := hl5 _ h; first | omega | (dsimp only at hq; omega) | (simp at hq; done) | (simp at hq; omega)) _))); exact hO5')).mono ?_
      rintro e w4 ⟨rfl, hb4⟩
      have hbw4 : Below (W.heap.size + 3) (((W.alloc (.cells #[.int .i64 stage, .int .i64 fr.xNext, .slice A2 fr.xMessages.length c2, .int .i64 tt.xNext, .slice A4 tt.xMessages.length c4, .slice A5 wt.length c5] 78)).alloc (.cells #[.int .i64 d.xSender, .int .i64 d.xAt, .string d.xText] 82)).alloc (.cells #[.int .i64 0, .int .i64 0, .slice none 0 0, .int .i64 0, .slice none 0 0, .slice none 0 0] 78)) w4 := Below.trans (by (repeat (first | (with_reducible refine Below.alloc ?_ (by first | omega | (simp; omega)) _) | (with_reducible refine Below.setCell ?_ (by first | omega | (dsimp only; omega)) _))); exact hbw3) (hb4.mono (by simp [World.setCell]; omega))
      have hsz4 := hbw4.size
      simp at hsz4
      have xr : Bx w4 (W.heap.size + 2) #[.int .i64 0, .int .i64 0, .slice none 0 0, .int .i64 0, .slice none 0 0, .slice none 0 0] 78 := (Bx.new3 W _ _ _ _).below hbw4 (by omega)
      have r0 := xr.cell 0 rfl
      have g0 := xr.free 0
      have r1 := xr.cell 1 rfl
      have g1 := xr.free 1
      have r2 := xr.cell 2 rfl
      have g2 := xr.free 2
      have r3 := xr.cell 3 rfl
      have g3 := xr.free 3
      have r4 := xr.cell 4 rfl
      have g4 := xr.free 4
      have r5 := xr.cell 5 rfl
      have g5 := xr.free 5
      have hsr := xr.lt
      have xb : Bx w4 W.heap.size #[.int .i64 stage, .int .i64 fr.xNext, .slice A2 fr.xMessages.length c2, .int .i64 tt.xNext, .slice A4 tt.xMessages.length c4, .slice A5 wt.length c5] 78 := (((Bx.new W _ _).alloc _).alloc _).below hbw4 (by omega)
      have b0 := xb.cell 0 rfl
      have b1 := xb.cell 1 rfl
      have b2 := xb.cell 2 rfl
      have b3 := xb.cell 3 rfl
      have b4 := xb.cell 4 rfl
      have b5 := xb.cell 5 rfl
      have hsb := xb.lt
      have xd : Bx w4 (W.heap.size + 1) #[.int .i64 d.xSender, .int .i64 d.xAt, .string d.xText] 82 := ((Bx.new2 W _ _ _).alloc _).below hbw4 (by omega)
      have d0 := xd.cell 0 rfl
      have d1 := xd.cell 1 rfl
      have d2 := xd.cell 2 rfl
      have hsd := xd.lt
      have hB : Below W.heap.size W w4 := ((((Below.refl _ _).alloc (Nat.le_refl _) _).alloc (by simp) _).alloc (by simp; omega) _).trans (hbw4.mono (by omega))
      go_wp2
    · exact bodyPost_ret (v := .tuple #[.agg #[.int .i64 0, .int .i64 0, .slice none 0 0, .int .i64 0, .slice none 0 0, .slice none 0 0], .bool false]) (by simp [results, Try.results77, go_sem, r0, r1, r2, r3, r4, r5, g0, g1, g2, g3, g4, g5, hsr]) rfl (madeHR_no HXX.out (by (repeat (first | with_reducible assumption | with_reducible exact Below.refl _ _ | with_reducible refine Below.setCell ?_ ?_ _ | with_reducible refine Below.alloc ?_ ?_ _ | with_reducible refine Below.drew ?_ | with_reducible refine below_drewN ?_ _ | omega | (simp; done) | (simp; omega))); all_goals first | omega | (simp; done) | (simp; omega)))
    · refine bodyPost_ret (v := .tuple #[.agg #[.int .i64 stage, .int .i64 (fr.xNext + 1), .slice A9 n9 c9, .int .i64 tt.xNext, .slice A4' tt.xMessages.length c4', .slice A5' wt.length c5'], .bool true]) (by simp [results, Try.results77, go_sem, r0, r1, r2, r3, r4, r5, g0, g1, g2, g3, g4, g5, hsr]) rfl ⟨_, by rw [HXX.out], ?_, (by (repeat (first | with_reducible assumption | with_reducible exact Below.refl _ _ | with_reducible refine Below.setCell ?_ ?_ _ | with_reducible refine Below.alloc ?_ ?_ _ | with_reducible refine Below.drew ?_ | with_reducible refine below_drewN ?_ _ | omega | (simp; done) | (simp; omega))); all_goals first | omega | (simp; done) | (simp; omega))⟩
      rw [HXX.out]
      refine Hand.ro_mk (h := ⟨stage, post0 fr d.xSender d.xAt d.xText, tt, wt⟩) (Ow.fresh (F := F9) ?_ (fun b h => by have := hl9 b h; omega)) (Ow.fresh (F := F4) ?_ (fun b h => by have := hl4 b h; omega)) (Ow.fresh (F := F5) ?_ (fun b h => by have := hl5 b h; omega))
      · repeat (with_reducible refine Ow.far ?_ (fun h => by have hq := hl9 _ h; first | omega | (dsimp only at hq; omega) | (simp at hq; done) | (simp at hq; omega)) _)
        refine Ow.keep ?_ hb4
        (repeat (first | (with_reducible refine Ow.alloc ?_ _) | (with_reducible refine Ow.far ?_ (fun h => by have hq := hl9 _ h; first | omega | (dsimp only at hq; omega) | (simp at hq; done) | (simp at hq; omega)) _)))
        exact hO9
      · repeat (with_reducible refine Ow.far ?_ (fun h => by have hq := hl4 _ h; first | omega | (dsimp only at hq; omega) | (simp at hq; done) | (simp at hq; omega)) _)
        refine Ow.keep ?_ hb4
        (repeat (first | (with_reducible refine Ow.alloc ?_ _) | (with_reducible refine Ow.far ?_ (fun h => by have hq := hl4 _ h; first | omega | (dsimp only at hq; omega) | (simp at hq; done) | (simp at hq; omega)) _)))
        exact hO4'
      · repeat (with_reducible refine Ow.far ?_ (fun h => by have hq := hl5 _ h; first | omega | (dsimp only at hq; omega) | (simp at hq; done) | (simp at hq; omega)) _)
        refine Ow.keep ?_ hb4
        (repeat (first | (with_reducible refine Ow.alloc ?_ _) | (with_reducible refine Ow.far ?_ (fun h => by have hq := hl5 _ h; first | omega | (dsimp only at hq; omega) | (simp at hq; done) | (simp at hq; omega)) _)))
        exact hO5'

theorem Draft.text {d : Draft} (hz : Draft.z d ≤ 1048576) : d.xText.size ≤ maxLen := by
  have h2 : Draft.z d = d.xText.size := rfl
  simp only [maxLen]; omega
theorem SayHand_lawI (x : Hand) (d : Draft) (us us2 : List Value) (W : World) (hr : RoL W (Lo W.heap.size) (Hand.d true x) us) (hr2 : RoL W (Lo W.heap.size) (Draft.d true d) us2) (hz : Hand.z x ≤ 1048576) (hz2 : Draft.z d ≤ 1048576) : Calls Try.prog 54 #[.agg us.toArray, .agg us2.toArray] W fun e w' =>
    ∃ us F, e = .returned (.tuple #[.agg us.toArray, .bool (SayHand_f x d).2]) ∧ OwL w' (Hand.d true (SayHand_f x d).1) us F ∧ (∀ b, F b → W.heap.size ≤ b) ∧ Below W.heap.size W w' :=
  impl_SayHand x d us us2 W hr hr2 (Hand.fit_of hz) (Draft.text hz2)
theorem SayHand_lawS (x : Hand) (d : Draft) (us us2 : List Value) (W : World) (hr : RoL W (Lo W.heap.size) (Hand.d true x) us) (hr2 : RoL W (Lo W.heap.size) (Draft.d true d) us2) (hz : Hand.z x ≤ 1048576) (hz2 : Draft.z d ≤ 1048576) : Calls Try.prog 77 #[.agg us.toArray, .agg us2.toArray] W fun e w' =>
    ∃ us, e = .returned (.tuple #[.agg us.toArray, .bool (SayHand_f x d).2]) ∧ RoL w' (Fr W.heap.size w') (Hand.d true (SayHand_f x d).1) us ∧ Below W.heap.size W w' :=
  spec_SayHand x d us us2 W hr hr2 (Hand.fit_of hz) (Draft.text hz2)
theorem SayHand_lawN (x : Hand) (d : Draft) (hz : Hand.z x ≤ 1048576) (hz2 : Draft.z d ≤ 1048576) : Hand.sn (SayHand_f x d).1 ≤ 1000000000000 := changed_sn _ x
end Go.Proofs.Ytmofbfeclecdoaa

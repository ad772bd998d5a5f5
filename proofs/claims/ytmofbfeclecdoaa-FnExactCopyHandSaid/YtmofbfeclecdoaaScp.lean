/- CopyHand's own copy, and its law. -/
import Derived.Test.YtmofbfeclecdoaaCph
import Derived.Test.YtmofbfeclecdoaaSha
import Derived.Deep.DeepCutAuto
import Derived.BigQuiet
namespace Go.Proofs.Ytmofbfeclecdoaa
open Go.ChangeShapes Go.WideShapes Go.ChangeAt Go.RowKit Go.Dt
set_option linter.unusedVariables false
set_option linter.unusedSimpArgs false
theorem copy_pre {h : Hand} (ho : h.ok = true) (hs : h.xStage ≠ 3) : h.xTo.xMessages.length ≤ h.xFrom.xMessages.length ∧ h.xTo.xMessages = h.xFrom.xMessages.take h.xTo.xMessages.length ∧ h.xTo.xNext = nextOf h.xTo.xMessages := by
  unfold Hand.ok at ho
  simp only [Bool.and_eq_true] at ho
  have h5 := ho.2.2.2.2
  have key : copied h.xFrom h.xTo = true ∨ h.xTo.isEmpty = true := by
    unfold stageOk at h5
    split at h5
    · simp only [Bool.and_eq_true] at h5; exact .inr h5.1
    · split at h5
      · simp only [Bool.and_eq_true] at h5; exact .inl h5.1
      · split at h5
        · exact .inl h5
        · first | (cases h5; done) | (split at h5; (exact absurd ‹h.xStage = 3› hs); cases h5)
  rcases key with key | key
  · unfold copied at key
    simp only [Bool.and_eq_true, decide_eq_true_eq, beq_iff_eq] at key
    exact ⟨key.1, key.2.1.symm, key.2.2⟩
  · unfold Log.isEmpty at key
    simp only [Bool.and_eq_true, beq_iff_eq] at key
    have hl : h.xTo.xMessages = [] := List.eq_nil_of_length_eq_zero (by omega)
    rw [hl]
    exact ⟨Nat.zero_le _, by simp, key.1⟩
def MadeHL (W : World) (r : Hand × Bool) (e : Ending) (w' : World) : Prop := ∃ us, e = .returned (.tuple #[.agg us.toArray, .bool r.2]) ∧ RoL w' (Lo w'.heap.size) (Hand.d true r.1) us ∧ Below W.heap.size W w'
theorem madeHR_lo {W w' : World} {r : Hand × Bool} {e : Ending} (h : MadeHR W r e w') : MadeHL W r e w' := by
  obtain ⟨us, h1, h2, h3⟩ := h
  exact ⟨us, h1, RoL.fresh_lo h2, h3⟩
set_option maxHeartbeats 3200000 in
set_option maxRecDepth 100000 in
theorem spec_CopyHand (h : Hand) (c : Int) (us : List Value) (W : World) (hr : RoL W (Lo W.heap.size) (Hand.d true h) us) (hf : h.fit) :
    Calls Try.prog 75 #[.agg us.toArray, .int .i64 c] W (MadeHL W (CopyHand_f h c)) := by
  have hno : ∀ {e w'}, MadeHR W (CopyHand_f h c) e w' → MadeHL W (CopyHand_f h c) e w' := madeHR_lo
  obtain ⟨A2, c2, A4, c4, A5, c5, rfl, rd2, l2, m2, rd4, l4, m4, rd5, l5, m5⟩ := Hand.cells hr
  have hpre := @copy_pre h
  have hfn := @Log.ok_num h.xFrom
  obtain ⟨stage, fr, tt, wt⟩ := h
  simp only at *
  have hI := fun (w : World) => spec_l00In c 0 40 w
  have HV := fun (w : World) (xb : Bx w W.heap.size #[.int .i64 stage, .int .i64 fr.xNext, .slice A2 fr.xMessages.length c2, .int .i64 tt.xNext, .slice A4 tt.xMessages.length c4, .slice A5 wt.length c5] 78) (hb : Below W.heap.size W w) => spec_l10Is ⟨stage, fr, tt, wt⟩ W.heap.size 0 A2 A4 A5 c2 c4 c5 w (xb.cell 0 rfl) (xb.cell 1 rfl) (xb.cell 2 rfl) (xb.cell 3 rfl) (xb.cell 4 rfl) (xb.cell 5 rfl) (ro_to rd2 hb) (ro_to rd4 hb) (ro_to rd5 hb) hf
  cases ho : Hand.ok ⟨stage, fr, tt, wt⟩
  · have HX := Lib.hid (show CopyHand_f ⟨stage, fr, tt, wt⟩ c = (Hand.zero, false) from if_neg (by rw [ho]; simp))
    rw [ho] at HV
    clear ho
    go_enter Try.func75, Try.ntmps75
    go_wp2_with fail
    refine (HV _ ((Bx.new _ _ _).alloc _) (by (repeat (first | with_reducible assumption | with_reducible exact Below.refl _ _ | with_reducible refine Below.setCell ?_ ?_ _ | with_reducible refine Below.alloc ?_ ?_ _ | with_reducible refine Below.drew ?_ | with_reducible refine below_drewN ?_ _ | omega | (simp; done) | (simp; omega))); all_goals first | omega | (simp; done) | (simp; omega))).mono ?_
    rintro e w1 ⟨rfl, hb1⟩
    have hbw : Below (W.heap.size + 2) ((W.alloc (.cells #[.int .i64 stage, .int .i64 fr.xNext, .slice A2 fr.xMessages.length c2, .int .i64 tt.xNext, .slice A4 tt.xMessages.length c4, .slice A5 wt.length c5] 78)).alloc (.cells #[.int .i64 0, .int .i64 0, .slice none 0 0, .int .i64 0, .slice none 0 0, .slice none 0 0] 78)) w1 := hb1.mono (by simp)
    have hsz1 := hbw.size
    simp at hsz1
    have hB : Below W.heap.size W w1 := (((Below.refl _ _).alloc (Nat.le_refl _) _).alloc (by simp) _).trans (hbw.mono (by omega))
    have xr : Bx w1 (W.heap.size + 1) #[.int .i64 0, .int .i64 0, .slice none 0 0, .int .i64 0, .slice none 0 0, .slice none 0 0] 78 := (Bx.new2 W _ _ _).below hbw (by omega)
    have r0 := xr.cell 0 rfl
    have g0 := xr.free 0
    have r1 := xr.cell 1 rfl
    have g1 := xr.free 1
    have r2 := xr.cell 2 rfl
    have g2 := xr.free 2
    have r3 := xr.cell 3 rfl
    have g3 := xr.free 3
    have r4 := xr.cell 4 rfl
    have g4 := xr.free 4
    have r5 := xr.cell 5 rfl
    have g5 := xr.free 5
    have hsr := xr.lt
    have xb : Bx w1 W.heap.size #[.int .i64 stage, .int .i64 fr.xNext, .slice A2 fr.xMessages.length c2, .int .i64 tt.xNext, .slice A4 tt.xMessages.length c4, .slice A5 wt.length c5] 78 := ((Bx.new W _ _).alloc _).below hbw (by omega)
    have b0 := xb.cell 0 rfl
    have b1 := xb.cell 1 rfl
    have b2 := xb.cell 2 rfl
    have b3 := xb.cell 3 rfl
    have b4 := xb.cell 4 rfl
    have b5 := xb.cell 5 rfl
    have hsb := xb.lt
    go_wp2
    exact bodyPost_ret (v := .tuple #[.agg #[.int .i64 0, .int .i64 0, .slice none 0 0, .int .i64 0, .slice none 0 0, .slice none 0 0], .bool false]) (by simp [results, Try.results75, go_sem, r0, r1, r2, r3, r4, r5, g0, g1, g2, g3, g4, g5, hsr]) rfl (hno (madeHR_no HX.out (by (repeat (first | with_reducible assumption | with_reducible exact Below.refl _ _ | with_reducible refine Below.setCell ?_ ?_ _ | with_reducible refine Below.alloc ?_ ?_ _ | with_reducible refine Below.drew ?_ | with_reducible refine below_drewN ?_ _ | omega | (simp; done) | (simp; omega))); all_goals first | omega | (simp; done) | (simp; omega))))
  by_cases s3 : stage = 3
  · subst s3
    have HX := Lib.hid (show CopyHand_f ⟨3, fr, tt, wt⟩ c = (Hand.zero, false) from if_neg (by simp [CopyHand_c]))
    rw [ho] at HV
    clear ho
    go_enter Try.func75, Try.ntmps75
    go_wp2_with fail
    refine (HV _ ((Bx.new _ _ _).alloc _) (by (repeat (first | with_reducible assumption | with_reducible exact Below.refl _ _ | with_reducible refine Below.setCell ?_ ?_ _ | with_reducible refine Below.alloc ?_ ?_ _ | with_reducible refine Below.drew ?_ | with_reducible refine below_drewN ?_ _ | omega | (simp; done) | (simp; omega))); all_goals first | omega | (simp; done) | (simp; omega))).mono ?_
    rintro e w1 ⟨rfl, hb1⟩
    have hbw : Below (W.heap.size + 2) ((W.alloc (.cells #[.int .i64 3, .int .i64 fr.xNext, .slice A2 fr.xMessages.length c2, .int .i64 tt.xNext, .slice A4 tt.xMessages.length c4, .slice A5 wt.length c5] 78)).alloc (.cells #[.int .i64 0, .int .i64 0, .slice none 0 0, .int .i64 0, .slice none 0 0, .slice none 0 0] 78)) w1 := hb1.mono (by simp)
    have hsz1 := hbw.size
    simp at hsz1
    have hB : Below W.heap.size W w1 := (((Below.refl _ _).alloc (Nat.le_refl _) _).alloc (by simp) _).trans (hbw.mono (by omega))
    have xr : Bx w1 (W.heap.size + 1) #[.int .i64 0, .int .i64 0, .slice none 0 0, .int .i64 0, .slice none 0 0, .slice none 0 0] 78 := (Bx.new2 W _ _ _).below hbw (by omega)
    have r0 := xr.cell 0 rfl
    have g0 := xr.free 0
    have r1 := xr.cell 1 rfl
    have g1 := xr.free 1
    have r2 := xr.cell 2 rfl
    have g2 := xr.free 2
    have r3 := xr.cell 3 rfl
    have g3 := xr.free 3
    have r4 := xr.cell 4 rfl
    have g4 := xr.free 4
    have r5 := xr.cell 5 rfl
    have g5 := xr.free 5
    have hsr := xr.lt
    have xb : Bx w1 W.heap.size #[.int .i64 3, .int .i64 fr.xNext, .slice A2 fr.xMessages.length c2, .int .i64 tt.xNext, .slice A4 tt.xMessages.length c4, .slice A5 wt.length c5] 78 := ((Bx.new W _ _).alloc _).below hbw (by omega)
    have b0 := xb.cell 0 rfl
    have b1 := xb.cell 1 rfl
    have b2 := xb.cell 2 rfl
    have b3 := xb.cell 3 rfl
    have b4 := xb.cell 4 rfl
    have b5 := xb.cell 5 rfl
    have hsb := xb.lt
    go_wp2
    exact bodyPost_ret (v := .tuple #[.agg #[.int .i64 0, .int .i64 0, .slice none 0 0, .int .i64 0, .slice none 0 0, .slice none 0 0], .bool false]) (by simp [results, Try.results75, go_sem, r0, r1, r2, r3, r4, r5, g0, g1, g2, g3, g4, g5, hsr]) rfl (hno (madeHR_no HX.out (by (repeat (first | with_reducible assumption | with_reducible exact Below.refl _ _ | with_reducible refine Below.setCell ?_ ?_ _ | with_reducible refine Below.alloc ?_ ?_ _ | with_reducible refine Below.drew ?_ | with_reducible refine below_drewN ?_ _ | omega | (simp; done) | (simp; omega))); all_goals first | omega | (simp; done) | (simp; omega))))
  have t3 : (stage == 3) = false := by simp [s3]
  by_cases hc : 0 ≤ c ∧ c ≤ 40
  rotate_left
  · have HX := Lib.hid (show CopyHand_f ⟨stage, fr, tt, wt⟩ c = (Hand.zero, false) from if_neg (by simp [CopyHand_c, hc]))
    have t0 : inB c 0 40 = false := by unfold inB; simp; omega
    rw [t0] at hI
    clear t0 hc
    rw [ho] at HV
    clear ho
    go_enter Try.func75, Try.ntmps75
    go_wp2_with fail
    refine (HV _ ((Bx.new _ _ _).alloc _) (by (repeat (first | with_reducible assumption | with_reducible exact Below.refl _ _ | with_reducible refine Below.setCell ?_ ?_ _ | with_reducible refine Below.alloc ?_ ?_ _ | with_reducible refine Below.drew ?_ | with_reducible refine below_drewN ?_ _ | omega | (simp; done) | (simp; omega))); all_goals first | omega | (simp; done) | (simp; omega))).mono ?_
    rintro e w1 ⟨rfl, hb1⟩
    have hbw : Below (W.heap.size + 2) ((W.alloc (.cells #[.int .i64 stage, .int .i64 fr.xNext, .slice A2 fr.xMessages.length c2, .int .i64 tt.xNext, .slice A4 tt.xMessages.length c4, .slice A5 wt.length c5] 78)).alloc (.cells #[.int .i64 0, .int .i64 0, .slice none 0 0, .int .i64 0, .slice none 0 0, .slice none 0 0] 78)) w1 := hb1.mono (by simp)
    have hsz1 := hbw.size
    simp at hsz1
    have hB : Below W.heap.size W w1 := (((Below.refl _ _).alloc (Nat.le_refl _) _).alloc (by simp) _).trans (hbw.mono (by omega))
    have xr : Bx w1 (W.heap.size + 1) #[.int .i64 0, .int .i64 0, .slice none 0 0, .int .i64 0, .slice none 0 0, .slice none 0 0] 78 := (Bx.new2 W _ _ _).below hbw (by omega)
    have r0 := xr.cell 0 rfl
    have g0 := xr.free 0
    have r1 := xr.cell 1 rfl
    have g1 := xr.free 1
    have r2 := xr.cell 2 rfl
    have g2 := xr.free 2
    have r3 := xr.cell 3 rfl
    have g3 := xr.free 3
    have r4 := xr.cell 4 rfl
    have g4 := xr.free 4
    have r5 := xr.cell 5 rfl
    have g5 := xr.free 5
    have hsr := xr.lt
    have xb : Bx w1 W.heap.size #[.int .i64 stage, .int .i64 fr.xNext, .slice A2 fr.xMessages.length c2, .int .i64 tt.xNext, .slice A4 tt.xMessages.length c4, .slice A5 wt.length c5] 78 := ((Bx.new W _ _).alloc _).below hbw (by omega)
    have b0 := xb.cell 0 rfl
    have b1 := xb.cell 1 rfl
    have b2 := xb.cell 2 rfl
    have b3 := xb.cell 3 rfl
    have b4 := xb.cell 4 rfl
    have b5 := xb.cell 5 rfl
    have hsb := xb.lt
    go_wp2_with (go_at_call 93; (with_reducible refine (hI _).mono ?_); rintro e w' ⟨rfl, rfl⟩)
    exact bodyPost_ret (v := .tuple #[.agg #[.int .i64 0, .int .i64 0, .slice none 0 0, .int .i64 0, .slice none 0 0, .slice none 0 0], .bool false]) (by simp [results, Try.results75, go_sem, r0, r1, r2, r3, r4, r5, g0, g1, g2, g3, g4, g5, hsr]) rfl (hno (madeHR_no HX.out (by (repeat (first | with_reducible assumption | with_reducible exact Below.refl _ _ | with_reducible refine Below.setCell ?_ ?_ _ | with_reducible refine Below.alloc ?_ ?_ _ | with_reducible refine Below.drew ?_ | with_reducible refine below_drewN ?_ _ | omega | (simp; done) | (simp; omega))); all_goals first | omega | (simp; done) | (simp; omega))))
  have t0 : inB c 0 40 = true := by unfold inB; simp; omega
  rw [t0] at hI
  obtain ⟨cn, rfl⟩ := Int.eq_ofNat_of_zero_le hc.1
  have hcn : cn ≤ 40 := by omega
  obtain ⟨hle4, ht4, hn4⟩ := hpre ho s3
  have hfo := Hand.ok_logs ho
  have hfn := hfn (show fr.ok = true from by unfold Hand.ok at ho; simp only [Bool.and_eq_true] at ho; exact ho.1)
  have hfit := @copyh_fit (cn : Int) ⟨stage, fr, tt, wt⟩ hf
  have hsec : (CopyHand_c (cn : Int) ⟨stage, fr, tt, wt⟩).2 = true := by simp [CopyHand_c, hc.1, hc.2, s3]
  have HX0 := Lib.hid (show CopyHand_f ⟨stage, fr, tt, wt⟩ (cn : Int) = if Hand.ok (CopyHand_c (cn : Int) ⟨stage, fr, tt, wt⟩).1 = true then ((CopyHand_c (cn : Int) ⟨stage, fr, tt, wt⟩).1, true) else (Hand.zero, false) from by
    unfold CopyHand_f changed
    rw [hsec, ho]
    simp)
  have hHC : (CopyHand_c (cn : Int) ⟨stage, fr, tt, wt⟩).1 = ⟨if stage = 0 then 1 else stage, fr, ⟨nextOf (fr.xMessages.take (min (tt.xMessages.length + cn) fr.xMessages.length)), fr.xMessages.take (min (tt.xMessages.length + cn) fr.xMessages.length)⟩, wt⟩ := by
    simp [CopyHand_c, manyOf]
  rw [hHC] at hfit HX0
  have HC := fun (w : World) (xb : Bx w W.heap.size #[.int .i64 stage, .int .i64 fr.xNext, .slice A2 fr.xMessages.length c2, .int .i64 tt.xNext, .slice A4 tt.xMessages.length c4, .slice A5 wt.length c5] 78) (hb : Below W.heap.size W w) => spec_l10Own ⟨stage, fr, tt, wt⟩ W.heap.size A2 A4 A5 c2 c4 c5 w (xb.cell 0 rfl) (xb.cell 1 rfl) (xb.cell 2 rfl) (xb.cell 3 rfl) (xb.cell 4 rfl) (xb.cell 5 rfl) (ro_to rd2 hb) (ro_to rd4 hb) (ro_to rd5 hb) ho hf
  have HO7 := fun (w : World) (xb : Bx w W.heap.size #[.int .i64 stage, .int .i64 fr.xNext, .slice A2 fr.xMessages.length c2, .int .i64 tt.xNext, .slice A4 tt.xMessages.length c4, .slice A5 wt.length c5] 78) (hb : Below W.heap.size W w) => spec_l03Own fr W.heap.size 1 A2 c2 w (xb.cell 1 rfl) (xb.cell 2 rfl) (ro_to rd2 hb) (fun m hm => (hfo.1.2.2.2 m hm).2) hf.2.2.2.1
  have hk2 : fr.xMessages.length ≤ 1048576 := hf.2.2.2.1
  have HPRE := Lib.hid (And.intro ht4 hn4)
  have HFN := Lib.hid hfn
  clear hsec hHC rd2 rd4 rd5 hr hf hc t0 hfo hpre ht4 hn4 s3 hfn
  rw [ho] at HV
  clear ho
  go_enter Try.func75, Try.ntmps75
  go_wp2_with fail
  refine (HV _ ((Bx.new _ _ _).alloc _) (by (repeat (first | with_reducible assumption | with_reducible exact Below.refl _ _ | with_reducible refine Below.setCell ?_ ?_ _ | with_reducible refine Below.alloc ?_ ?_ _ | with_reducible refine Below.drew ?_ | with_reducible refine below_drewN ?_ _ | omega | (simp; done) | (simp; omega))); all_goals first | omega | (simp; done) | (simp; omega))).mono ?_
  rintro e w1 ⟨rfl, hb1⟩
  have hbw : Below (W.heap.size + 2) ((W.alloc (.cells #[.int .i64 stage, .int .i64 fr.xNext, .slice A2 fr.xMessages.length c2, .int .i64 tt.xNext, .slice A4 tt.xMessages.length c4, .slice A5 wt.length c5] 78)).alloc (.cells #[.int .i64 0, .int .i64 0, .slice none 0 0, .int .i64 0, .slice none 0 0, .slice none 0 0] 78)) w1 := hb1.mono (by simp)
  have hsz1 := hbw.size
  simp at hsz1
  have hB : Below W.heap.size W w1 := (((Below.refl _ _).alloc (Nat.le_refl _) _).alloc (by simp) _).trans (hbw.mono (by omega))
  have xr : Bx w1 (W.heap.size + 1) #[.int .i64 0, .int .i64 0, .slice none 0 0, .int .i64 0, .slice none 0 0, .slice none 0 0] 78 := (Bx.new2 W _ _ _).below hbw (by omega)
  have r0 := xr.cell 0 rfl
  have g0 := xr.free 0
  have r1 := xr.cell 1 rfl
  have g1 := xr.free 1
  have r2 := xr.cell 2 rfl
  have g2 := xr.free 2
  have r3 := xr.cell 3 rfl
  have g3 := xr.free 3
  have r4 := xr.cell 4 rfl
  have g4 := xr.free 4
  have r5 := xr.cell 5 rfl
  have g5 := xr.free 5
  have hsr := xr.lt
  have xb : Bx w1 W.heap.size #[.int .i64 stage, .int .i64 fr.xNext, .slice A2 fr.xMessages.length c2, .int .i64 tt.xNext, .slice A4 tt.xMessages.length c4, .slice A5 wt.length c5] 78 := ((Bx.new W _ _).alloc _).below hbw (by omega)
  have b0 := xb.cell 0 rfl
  have b1 := xb.cell 1 rfl
  have b2 := xb.cell 2 rfl
  have b3 := xb.cell 3 rfl
  have b4 := xb.cell 4 rfl
  have b5 := xb.cell 5 rfl
  have hsb := xb.lt
  go_wp2_with (first | (go_at_call 93; (with_reducible refine (hI _).mono ?_); rintro e w' ⟨rfl, rfl⟩))
  refine (HC w1 xb hB).mono ?_
  rintro e w2 ⟨us1, F1, rfl, hO1, hb2, hF1⟩
  obtain ⟨A2', c2', F2, A4', c4', F4, A5', c5', F5, rfl, hO2, -, -, hO4, -, -, hO5, -, -, d24, d25, d45, hFe⟩ := Hand.owned hO1
  have hl2 : ∀ b, F2 b → W.heap.size + 2 ≤ b ∧ b < w2.heap.size := fun b h => ⟨by have := hF1 b ((hFe b).2 (.inl h)); omega, hO2.lt b h⟩
  have hl4 : ∀ b, F4 b → W.heap.size + 2 ≤ b ∧ b < w2.heap.size := fun b h => ⟨by have := hF1 b ((hFe b).2 (.inr (.inl h))); omega, hO4.lt b h⟩
  have hl5 : ∀ b, F5 b → W.heap.size + 2 ≤ b ∧ b < w2.heap.size := fun b h => ⟨by have := hF1 b ((hFe b).2 (.inr (.inr h))); omega, hO5.lt b h⟩
  clear hF1 hFe r0 g0 b0 r1 g1 b1 r2 g2 b2 r3 g3 b3 r4 g4 b4 r5 g5 b5 hsr xr xb hsb hB
  have hbw2 := hbw.trans (hb2.mono (by omega))
  have hsz2 := hb2.size
  have xr : Bx w2 (W.heap.size + 1) #[.int .i64 0, .int .i64 0, .slice none 0 0, .int .i64 0, .slice none 0 0, .slice none 0 0] 78 := (Bx.new2 W _ _ _).below hbw2 (by omega)
  have r0 := xr.cell 0 rfl
  have g0 := xr.free 0
  have r1 := xr.cell 1 rfl
  have g1 := xr.free 1
  have r2 := xr.cell 2 rfl
  have g2 := xr.free 2
  have r3 := xr.cell 3 rfl
  have g3 := xr.free 3
  have r4 := xr.cell 4 rfl
  have g4 := xr.free 4
  have r5 := xr.cell 5 rfl
  have g5 := xr.free 5
  have hsr := xr.lt
  have xb : Bx w2 W.heap.size #[.int .i64 stage, .int .i64 fr.xNext, .slice A2 fr.xMessages.length c2, .int .i64 tt.xNext, .slice A4 tt.xMessages.length c4, .slice A5 wt.length c5] 78 := ((Bx.new W _ _).alloc _).below hbw2 (by omega)
  have b0 := xb.cell 0 rfl
  have b1 := xb.cell 1 rfl
  have b2 := xb.cell 2 rfl
  have b3 := xb.cell 3 rfl
  have b4 := xb.cell 4 rfl
  have b5 := xb.cell 5 rfl
  have hsb := xb.lt
  have hB : Below W.heap.size W w2 := (((Below.refl _ _).alloc (Nat.le_refl _) _).alloc (by simp) _).trans (hbw2.mono (by omega))
  go_wp2_with fail
  refine (HO7 _ (xb.alloc _) (hB.alloc hB.size _)).mono ?_
  rintro e w3 ⟨us7, F8, rfl, hO8, hb3, hF8⟩
  obtain ⟨A7, c7, F7, rfl, hO7, -, -, hFe7⟩ := Log.owned hO8
  have hl7 : ∀ b, F7 b → w2.heap.size + 1 ≤ b ∧ b < w3.heap.size := fun b h => ⟨by have := hF8 b ((hFe7 b).2 h); simpa using this, hO7.lt b h⟩
  clear hF8 hFe7 hO8 r0 g0 b0 r1 g1 b1 r2 g2 b2 r3 g3 b3 r4 g4 b4 r5 g5 b5 hsr xr xb hsb hB
  have hbw3 := (hbw2.alloc (by omega) _).trans (hb3.mono (by simp; omega))
  have hsz3 := hb3.size
  simp at hsz3
  have xg := (Bx.new w2 #[.int .i64 stage, .int .i64 fr.xNext, .slice A2' fr.xMessages.length c2', .int .i64 tt.xNext, .slice A4' tt.xMessages.length c4', .slice A5' wt.length c5'] 78).below hb3 (by simp)
  have hO2' := (hO2.alloc (.cells #[.int .i64 stage, .int .i64 fr.xNext, .slice A2' fr.xMessages.length c2', .int .i64 tt.xNext, .slice A4' tt.xMessages.length c4', .slice A5' wt.length c5'] 78)).keep hb3
  have hO4' := (hO4.alloc (.cells #[.int .i64 stage, .int .i64 fr.xNext, .slice A2' fr.xMessages.length c2', .int .i64 tt.xNext, .slice A4' tt.xMessages.length c4', .slice A5' wt.length c5'] 78)).keep hb3
  have hO5' := (hO5.alloc (.cells #[.int .i64 stage, .int .i64 fr.xNext, .slice A2' fr.xMessages.length c2', .int .i64 tt.xNext, .slice A4' tt.xMessages.length c4', .slice A5' wt.length c5'] 78)).keep hb3
  obtain ⟨G0, P4, hS, hG4, hP4, hGP⟩ := Sh.of_ow hO4'
  have hS := hS.mono (Pb' := fun b => P4 b ∨ F7 b) (fun b h => .inl h) (fun b h k => k.elim (hGP b h) (fun k => by have := hl4 b (hG4 b h); have := hl7 b k; omega))
  generalize hk4 : tt.xMessages.length = k4 at *
  generalize hk2e : fr.xMessages.length = k2 at *
  have HK := Lib.hid (And.intro hk4 hk2e)
  have HZ := Lib.hid (show ∀ (m : Nat) (v : Value) (wr : World) (G : Nat → Prop), m ≤ k2 → Sh wr (fun b => P4 b ∨ F7 b) 57 8 ((fr.xMessages.take m).map (Message.d true)) v G → ∃ A c, v = .slice A m c from fun m v wr G hm h => by
    obtain ⟨A, c, hv, _⟩ := h.slice
    rw [List.length_map, List.length_take, hk2e, Nat.min_eq_left hm] at hv
    exact ⟨A, c, hv⟩)
  have hnx := HPRE.out.2
  rw [HPRE.out.1] at hnx
  have hmsg := HPRE.out.1
  (try rw [hk4] at hnx hmsg)
  have hS : Sh w3 (fun b => P4 b ∨ F7 b) 57 8 ((fr.xMessages.take k4).map (Message.d true)) (.slice A4' k4 c4') G0 := by rw [← hmsg]; exact hS
  rw [hnx] at xg
  clear hk4 hk2e hnx hmsg hO4' HC HO7 hO2 hO4 hO5
  have hxb3 : w3.cell? ⟨W.heap.size, 4, none⟩ = some (.slice A4 k4 c4) := ((((Bx.new W _ _).alloc _).below hbw3 (by omega)) : Bx w3 W.heap.size _ _).cell 4 rfl
  have hsb3 : W.heap.size < w3.heap.size := by omega
  go_wp2
  have HPL := Lib.hid (show ∀ b, (P4 b ∨ F7 b) → W.heap.size + 2 ≤ b ∧ b ≠ w2.heap.size ∧ b < w3.heap.size from fun b h => by
    rcases h with h | h
    · have := hl4 b (hP4 b h); exact ⟨by omega, by omega, by omega⟩
    · have := hl7 b h; exact ⟨by omega, by omega, by omega⟩)
  go_loopw [1, 8] (fun cc i wr => ∃ p r : Nat, k4 ≤ p ∧ p ≤ k2 ∧ p + r ≤ k4 + cn ∧ k4 + cn ≤ p + r ∧ i = .int .i64 (p : Int) ∧ cc = .int .i64 (r : Int) ∧ Below (W.heap.size + 2) ((W.alloc (.cells #[.int .i64 stage, .int .i64 fr.xNext, .slice A2 k2 c2, .int .i64 tt.xNext, .slice A4 k4 c4, .slice A5 wt.length c5] 78)).alloc (.cells #[.int .i64 0, .int .i64 0, .slice none 0 0, .int .i64 0, .slice none 0 0, .slice none 0 0] 78)) wr ∧ w3.heap.size + 1 ≤ wr.heap.size ∧
      (∃ v G, Bx wr w2.heap.size #[.int .i64 stage, .int .i64 fr.xNext, .slice A2' k2 c2', .int .i64 (nextOf (fr.xMessages.take p)), v, .slice A5' wt.length c5'] 78 ∧ Sh wr (fun b => P4 b ∨ F7 b) 57 8 ((fr.xMessages.take p).map (Message.d true)) v G ∧ ∀ b, G b → G0 b ∨ w3.heap.size + 1 ≤ b) ∧
      Bx wr w3.heap.size #[.int .i64 fr.xNext, .slice A7 k2 c7] 41 ∧ Ow wr (Message.s true fr.xMessages) (.slice A2' k2 c2') F2 ∧ Ow wr (Draft.s true wt) (.slice A5' wt.length c5') F5 ∧ Ow wr (Message.s true fr.xMessages) (.slice A7 k2 c7) F7) (fun _ i _ => k2 - (intOf i).toNat)
  case atStart =>
    refine ⟨k4, cn, Nat.le_refl _, hle4, Nat.le_refl _, Nat.le_refl _, rfl, rfl, hbw3.alloc (by omega) _, by simp, ⟨_, G0, xg.alloc _, hS.stays (fun b hb => Below.heap_alloc w3 _ b ?_), fun b h => .inl h⟩, Bx.new _ _ _, hO2'.alloc _, hO5'.alloc _, hO7.alloc _⟩
    rcases hb with h | h
    · have := hl4 b (hG4 b h); omega
    · have := (HPL.out b h).2.2; omega
  case round =>
    obtain ⟨p, r, hp4, hpk, hs1, hs2, rfl, rfl, hbwr, hszr, ⟨v, G, xgr, hSr, hGr⟩, xo, hr2, hr5, hr7⟩ := hrel
    have hGn : ∀ b, G b → W.heap.size + 2 ≤ b ∧ b ≠ w2.heap.size ∧ b ≠ w3.heap.size ∧ ¬ F2 b ∧ ¬ F5 b ∧ ¬ F7 b := fun b h => by
      rcases hGr b h with h | h
      · have a := hl4 b (hG4 b h)
        exact ⟨by omega, by omega, by omega, fun k => d24 b k (hG4 b h), fun k => d45 b (hG4 b h) k, fun k => by have := hl7 b k; omega⟩
      · exact ⟨by omega, by omega, by omega, fun k => by have := hl2 b k; omega, fun k => by have := hl5 b k; omega, fun k => by have := hl7 b k; omega⟩
    have hPlt : ∀ b, (P4 b ∨ F7 b) → b < wr.heap.size := fun b h => by have := (HPL.out b h).2.2; omega
    obtain ⟨Av, cv, rfl⟩ := HZ.out p v wr G hpk hSr
    have hsg := xgr.lt
    have hso := xo.lt
    have o1 := xo.cell 1 rfl
    clear hS xg hO2' hO5' hO7 hxb3 hbw hbw2 hbw3
    by_cases hlt : p < k2 ∧ 0 < r
    · obtain ⟨hlk, hlr⟩ := hlt
      obtain ⟨m, hmj⟩ := get_lt (l := fr.xMessages) (k := p) (by rw [HK.out.2]; exact hlk)
      obtain ⟨b7, off7, us8, hA7, hF7b, hl8, hru, hcl⟩ := Ro.sl_at (rows := fr.xMessages.map (Message.d true)) hr7.ro (map_at (f := Message.d true) hmj)
      obtain ⟨A8, c8, rfl, -⟩ := Message.cells hru
      subst hA7
      have dd0 : wr.cell? ⟨b7, off7 + p * 8, none⟩ = some (.int .i64 m.xNumber) := hcl 0 _ rfl; have dd1 : wr.cell? ⟨b7, off7 + p * 8 + 1, none⟩ = some (.int .i64 m.xSender) := hcl 1 _ rfl; have dd2 : wr.cell? ⟨b7, off7 + p * 8 + 2, none⟩ = some (.int .i64 m.xAt) := hcl 2 _ rfl; have dd3 : wr.cell? ⟨b7, off7 + p * 8 + 3, none⟩ = some (.string m.xText) := hcl 3 _ rfl; have dd4 : wr.cell? ⟨b7, off7 + p * 8 + 4, none⟩ = some (.int .i64 m.xEdits) := hcl 4 _ rfl; have dd5 : wr.cell? ⟨b7, off7 + p * 8 + 5, none⟩ = some (.bool m.xGone) := hcl 5 _ rfl; have dd6 : wr.cell? ⟨b7, off7 + p * 8 + 6, none⟩ = some (.int .i64 m.xReply) := hcl 6 _ rfl; have dd7 : wr.cell? ⟨b7, off7 + p * 8 + 7, none⟩ = some (.slice A8 m.xLikes.length c8) := hcl 7 _ rfl
      have hbm := HFN.out m (List.mem_of_getElem? hmj)
      have HT := Lib.hid (nextOf_take hmj)
      have HTK := Lib.hid (show (fr.xMessages.take (p + 1)).map (Message.d true) = (fr.xMessages.take p).map (Message.d true) ++ [Message.d true m] from by rw [List.take_add_one, hmj]; simp)
      have HTL := Lib.hid (show ((fr.xMessages.take p).map (Message.d true)).length = p from by rw [List.length_map, List.length_take]; have := HK.out.2; omega)
      have y4 := xgr.cell 4 rfl
      have hlk' : (p : Int) < (k2 : Int) := by omega
      have hlr' : (0 : Int) < (r : Int) := by omega
      have HRU := Lib.hid ((hru.mono (Pb' := fun b => P4 b ∨ F7 b) (fun b h => Or.inr h)).stays (w' := wr.drew) (fun _ _ => rfl))
      have hb7 : b7 < wr.heap.size ∧ ¬ G b7 ∧ b7 ≠ w2.heap.size := ⟨hr7.lt b7 hF7b, fun k => (hGn b7 k).2.2.2.2.2 hF7b, by have := hl7 b7 hF7b; omega⟩
      have HSR := Lib.hid hSr
      clear hcl hru hmj hSr hl8
      go_wp2
      go_region_law (refine step_append1_sh (by rfl) _ _ 39 57 (by rfl) Try.underlying39 (.agg #[.int .i64 0, .int .i64 0, .int .i64 0, .string ByteArray.empty, .int .i64 0, .bool false, .int .i64 0, .slice none 0 0]) 8 88 Message.inf rfl (by decide) (by decide) (by rfl) ((HSR.out).stays (w' := wr.drew) (fun _ _ => rfl)) hPlt #[.int .i64 m.xNumber, .int .i64 m.xSender, .int .i64 m.xAt, .string m.xText, .int .i64 m.xEdits, .bool m.xGone, .int .i64 m.xReply, .slice A8 m.xLikes.length c8] (by rfl) (Message.d true m) rfl HRU.out (by have := HTL.out; omega) ?_; intro v4 w4 G4 hS4 hk4 hG4'; obtain ⟨A9, c9, hv9, -⟩ := hS4.slice; generalize ((fr.xMessages.take p).map (Message.d true) ++ [Message.d true m]).length = n9 at hv9; subst hv9; have x4 := xgr.drew.kp hk4 (fun h => (hGn _ h).2.1 rfl); have q4 := x4.cell 4 rfl; have f4 := x4.free 4; have hs4 := x4.lt)
      all_goals
        have hG4x : ∀ b, G4 b → G0 b ∨ w3.heap.size + 1 ≤ b := fun b h => by
          rcases hG4' b h with h | h
          · exact hGr b h
          · exact .inr (Nat.le_trans hszr h)
        have hG4n : ∀ b, G4 b ∨ (P4 b ∨ F7 b) → b ≠ w2.heap.size := fun b h => by
          rcases h with h | h
          · rcases hG4x b h with h | h
            · have := hl4 b (hG4 b h); omega
            · omega
          · exact (HPL.out b h).2.1
        have x5 := x4.put 4 (.slice A9 n9 c9)
        have xo5 := (xo.drew.kp hk4 (fun h => (hGn _ h).2.2.1 rfl)).far (p := ⟨w2.heap.size, 4, none⟩) (by show w3.heap.size ≠ w2.heap.size; omega) (.slice A9 n9 c9)
        have hr2' := (hr2.drew.kp hk4 (fun b h k => (hGn b k).2.2.2.1 h)).far (p := ⟨w2.heap.size, 4, none⟩) (fun h => by have := (hl2 _ h).2; simp at this) (.slice A9 n9 c9)
        have hr5' := (hr5.drew.kp hk4 (fun b h k => (hGn b k).2.2.2.2.1 h)).far (p := ⟨w2.heap.size, 4, none⟩) (fun h => by have := (hl5 _ h).2; simp at this) (.slice A9 n9 c9)
        have hr7' := (hr7.drew.kp hk4 (fun b h k => (hGn b k).2.2.2.2.2 h)).far (p := ⟨w2.heap.size, 4, none⟩) (fun h => by have := (hl7 _ h).1; simp only at this; omega) (.slice A9 n9 c9)
        have hS5 := hS4.far (p := ⟨w2.heap.size, 4, none⟩) hG4n (.slice A9 n9 c9)
        have hbw5 := (hbwr.drew.trans (hk4.below (by show _ ≤ wr.heap.size; omega) (fun b h => (hGn b h).1))).setCell (p := ⟨w2.heap.size, 4, none⟩) (by show _ ≤ w2.heap.size; omega) (.slice A9 n9 c9)
        have hsz5 : w3.heap.size + 1 ≤ (w4.setCell ⟨w2.heap.size, 4, none⟩ (.slice A9 n9 c9)).heap.size := Nat.le_trans hszr (Nat.le_trans hk4.size (by simp [World.setCell]))
        have hb7' : (w4.setCell ⟨w2.heap.size, 4, none⟩ (.slice A9 n9 c9)).heap[b7]? = wr.heap[b7]? := (Below.heap_setCell w4 ⟨w2.heap.size, 4, none⟩ _ b7 hb7.2.2).trans (hk4.block b7 hb7.1 hb7.2.1)
        have ee0 := (World.cell?_of_block (a := ⟨b7, off7 + p * 8, none⟩) hb7').trans dd0
        clear q4 f4 hs4 x4 hk4 hS4 hG4' hb7' dd0 dd1 dd2 dd3 dd4 dd5 dd6 dd7 y4 o1 hr2 hr5 hr7 HRU
        generalize w4.setCell ⟨w2.heap.size, 4, none⟩ (.slice A9 n9 c9) = w5 at *
        have o1 := xo5.cell 1 rfl
        have y3 := x5.cell 3 rfl
        have f3 := x5.free 3
        have hs5 := x5.lt
        go_wp2
        go_roundw
        case rel =>
          refine ⟨p + 1, r - 1, by omega, by omega, by omega, by omega, by go_num, by go_num, hbw5.setCell (p := ⟨w2.heap.size, 3, none⟩) (by show _ ≤ w2.heap.size; omega) _, by simpa [World.setCell] using hsz5, ⟨_, G4, by rw [HT.out]; exact x5.put 3 _, by rw [HTK.out]; exact hS5.far (p := ⟨w2.heap.size, 3, none⟩) hG4n _, hG4x⟩, xo5.far (p := ⟨w2.heap.size, 3, none⟩) (by show w3.heap.size ≠ w2.heap.size; omega) _, hr2'.far (p := ⟨w2.heap.size, 3, none⟩) (fun h => by have := (hl2 _ h).2; simp at this) _, hr5'.far (p := ⟨w2.heap.size, 3, none⟩) (fun h => by have := (hl5 _ h).2; simp at this) _, hr7'.far (p := ⟨w2.heap.size, 3, none⟩) (fun h => by have := (hl7 _ h).1; simp only at this; omega) _⟩
        case measure => simp [intOf]; omega
    · have hpm : p = min (k4 + cn) k2 := by omega
      have HX1 := HX0.out
      rw [← hpm] at HX1 hfit
      clear hpm
      have o1 := xo.cell 1 rfl
      have hN2 : ∀ b, F2 b → b ≠ w2.heap.size := fun b h => by have := (hl2 b h).2; omega
      have hN5 : ∀ b, F5 b → b ≠ w2.heap.size := fun b h => by have := (hl5 b h).2; omega
      have hN4 : ∀ b, G b ∨ (P4 b ∨ F7 b) → b ≠ w2.heap.size := fun b h => h.elim (fun h => (hGn b h).2.1) (fun h => (HPL.out b h).2.1)
      have hM4 : ∀ b, G b ∨ (P4 b ∨ F7 b) → b ≠ W.heap.size + 1 := fun b h => h.elim (fun h => by have := (hGn b h).1; omega) (fun h => by have := (HPL.out b h).1; omega)
      have hcase : (p < k2 ∧ r = 0) ∨ ¬ p < k2 := by omega
      clear hlt
      have y0 := xgr.cell 0 rfl; have y1 := xgr.cell 1 rfl; have y2 := xgr.cell 2 rfl; have y3 := xgr.cell 3 rfl; have y4 := xgr.cell 4 rfl; have y5 := xgr.cell 5 rfl; have z0 := xgr.free 0
      rcases hcase with ⟨hlk, rfl⟩ | hlk
      · have hlk' : (p : Int) < (k2 : Int) := by omega
        cases hs0 : (stage == 0)
        · have hst : (if stage = 0 then 1 else stage) = stage := by simp at hs0; simp [hs0]
          rw [hst] at HX1 hfit
          clear hst
          have HSR := Lib.hid hSr
          have HG := fun (w : World) (h2 : Ow w (Message.s true fr.xMessages) (.slice A2' k2 c2') F2) (h4 : Sh w (fun b => P4 b ∨ F7 b) 57 8 ((fr.xMessages.take p).map (Message.d true)) (.slice Av p cv) G) (hlt : ∀ b, (P4 b ∨ F7 b) → b < w.heap.size) (h5 : Ow w (Draft.s true wt) (.slice A5' wt.length c5') F5) => spec_l10Give ⟨stage, fr, ⟨nextOf (fr.xMessages.take p), fr.xMessages.take p⟩, wt⟩ [.int .i64 stage, .int .i64 fr.xNext, .slice A2' k2 c2', .int .i64 (nextOf (fr.xMessages.take p)), .slice Av p cv, .slice A5' wt.length c5'] w (Hand.ro_mk (h := ⟨stage, fr, ⟨nextOf (fr.xMessages.take p), fr.xMessages.take p⟩, wt⟩) h2.lo (h4.lo hlt) h5.lo) hfit
          clear hSr
          generalize hnxt : nextOf (fr.xMessages.take p) = nx at *
          clear hnxt
          cases hv : Hand.ok ⟨stage, fr, ⟨nx, fr.xMessages.take p⟩, wt⟩
          all_goals
            have HF := HX1
            rw [hv] at HG HF
            simp only [gave, cond, Bool.false_eq_true, if_false, if_true] at HG HF
            have HXX := Lib.hid HF
            clear HX1 HF hv
            go_wp2_with fail
            refine (HG _ (by (repeat (with_reducible refine Ow.far ?_ (fun h => by have hq := hN2 _ h; first | omega | (dsimp only at hq; omega) | (simp at hq; done) | (simp at hq; omega)) _)); exact hr2) (by (repeat (with_reducible refine Sh.far ?_ hN4 _)); exact HSR.out) (fun b hb => by have := hPlt b hb; first | exact this | simpa [World.setCell] using this) (by (repeat (with_reducible refine Ow.far ?_ (fun h => by have hq := hN5 _ h; first | omega | (dsimp only at hq; omega) | (simp at hq; done) | (simp at hq; omega)) _)); exact hr5)).mono ?_
            rintro e w5 ⟨rfl, hb5⟩
            have hbw5 : Below (W.heap.size + 2) ((W.alloc (.cells #[.int .i64 stage, .int .i64 fr.xNext, .slice A2 k2 c2, .int .i64 tt.xNext, .slice A4 k4 c4, .slice A5 wt.length c5] 78)).alloc (.cells #[.int .i64 0, .int .i64 0, .slice none 0 0, .int .i64 0, .slice none 0 0, .slice none 0 0] 78)) w5 := Below.trans (by (repeat (with_reducible refine Below.setCell ?_ (by show _ ≤ w2.heap.size; omega) _)); exact hbwr) (hb5.mono (by first | omega | (simp [World.setCell]; omega)))
            have hsz5 := hb5.size
            (try simp [World.setCell] at hsz5)
            clear y0 y1 y2 y3 y4 y5 z0 o1
            have xr : Bx w5 (W.heap.size + 1) #[.int .i64 0, .int .i64 0, .slice none 0 0, .int .i64 0, .slice none 0 0, .slice none 0 0] 78 := (Bx.new2 W _ _ _).below hbw5 (by omega)
            have r0 := xr.cell 0 rfl
            have g0 := xr.free 0
            have r1 := xr.cell 1 rfl
            have g1 := xr.free 1
            have r2 := xr.cell 2 rfl
            have g2 := xr.free 2
            have r3 := xr.cell 3 rfl
            have g3 := xr.free 3
            have r4 := xr.cell 4 rfl
            have g4 := xr.free 4
            have r5 := xr.cell 5 rfl
            have g5 := xr.free 5
            have hsr := xr.lt
            have xb : Bx w5 W.heap.size #[.int .i64 stage, .int .i64 fr.xNext, .slice A2 k2 c2, .int .i64 tt.xNext, .slice A4 k4 c4, .slice A5 wt.length c5] 78 := ((Bx.new W _ _).alloc _).below hbw5 (by omega)
            have b0 := xb.cell 0 rfl
            have b1 := xb.cell 1 rfl
            have b2 := xb.cell 2 rfl
            have b3 := xb.cell 3 rfl
            have b4 := xb.cell 4 rfl
            have b5 := xb.cell 5 rfl
            have hsb := xb.lt
            have hB : Below W.heap.size W w5 := (((Below.refl _ _).alloc (Nat.le_refl _) _).alloc (by simp) _).trans (hbw5.mono (by omega))
            go_wp2
          · exact bodyPost_ret (v := .tuple #[.agg #[.int .i64 0, .int .i64 0, .slice none 0 0, .int .i64 0, .slice none 0 0, .slice none 0 0], .bool false]) (by simp [results, Try.results75, go_sem, r0, r1, r2, r3, r4, r5, g0, g1, g2, g3, g4, g5, hsr]) rfl (hno (madeHR_no HXX.out (by (repeat (first | with_reducible assumption | with_reducible exact Below.refl _ _ | with_reducible refine Below.setCell ?_ ?_ _ | with_reducible refine Below.alloc ?_ ?_ _ | with_reducible refine Below.drew ?_ | with_reducible refine below_drewN ?_ _ | omega | (simp; done) | (simp; omega))); all_goals first | omega | (simp; done) | (simp; omega))))
          · refine bodyPost_ret (v := .tuple #[.agg #[.int .i64 stage, .int .i64 fr.xNext, .slice A2' k2 c2', .int .i64 nx, .slice Av p cv, .slice A5' wt.length c5'], .bool true]) (by simp [results, Try.results75, go_sem, r0, r1, r2, r3, r4, r5, g0, g1, g2, g3, g4, g5, hsr]) rfl ⟨_, by rw [HXX.out], ?_, (by (repeat (first | with_reducible assumption | with_reducible exact Below.refl _ _ | with_reducible refine Below.setCell ?_ ?_ _ | with_reducible refine Below.alloc ?_ ?_ _ | with_reducible refine Below.drew ?_ | with_reducible refine below_drewN ?_ _ | omega | (simp; done) | (simp; omega))); all_goals first | omega | (simp; done) | (simp; omega))⟩
            rw [HXX.out]
            refine Hand.ro_mk (h := ⟨stage, fr, ⟨nx, fr.xMessages.take p⟩, wt⟩) (Ow.lo (F := F2) ?_) (Sh.lo (G := G) (Pb := fun b => P4 b ∨ F7 b) ?_ ?_) (Ow.lo (F := F5) ?_)
            · repeat (with_reducible refine Ow.far ?_ (fun h => by have hq := hl2 _ h; first | omega | (dsimp only at hq; omega) | (simp at hq; done) | (simp at hq; omega)) _)
              refine Ow.keep ?_ hb5
              exact (by (repeat (with_reducible refine Ow.far ?_ (fun h => by have hq := hN2 _ h; first | omega | (dsimp only at hq; omega) | (simp at hq; done) | (simp at hq; omega)) _)); exact hr2)
            · repeat (with_reducible refine Sh.far ?_ hM4 _)
              refine Sh.keep ?_ (fun b hb => by have := hPlt b hb; first | exact this | simpa [World.setCell] using this) hb5
              exact (by (repeat (with_reducible refine Sh.far ?_ hN4 _)); exact HSR.out)
            · intro b hb
              have := hPlt b hb
              simp [World.setCell]; omega
            · repeat (with_reducible refine Ow.far ?_ (fun h => by have hq := hl5 _ h; first | omega | (dsimp only at hq; omega) | (simp at hq; done) | (simp at hq; omega)) _)
              refine Ow.keep ?_ hb5
              exact (by (repeat (with_reducible refine Ow.far ?_ (fun h => by have hq := hN5 _ h; first | omega | (dsimp only at hq; omega) | (simp at hq; done) | (simp at hq; omega)) _)); exact hr5)
        · have hst : (if stage = 0 then 1 else stage) = 1 := by simp at hs0; simp [hs0]
          rw [hst] at HX1 hfit
          clear hst
          have HSR := Lib.hid hSr
          have HG := fun (w : World) (h2 : Ow w (Message.s true fr.xMessages) (.slice A2' k2 c2') F2) (h4 : Sh w (fun b => P4 b ∨ F7 b) 57 8 ((fr.xMessages.take p).map (Message.d true)) (.slice Av p cv) G) (hlt : ∀ b, (P4 b ∨ F7 b) → b < w.heap.size) (h5 : Ow w (Draft.s true wt) (.slice A5' wt.length c5') F5) => spec_l10Give ⟨1, fr, ⟨nextOf (fr.xMessages.take p), fr.xMessages.take p⟩, wt⟩ [.int .i64 1, .int .i64 fr.xNext, .slice A2' k2 c2', .int .i64 (nextOf (fr.xMessages.take p)), .slice Av p cv, .slice A5' wt.length c5'] w (Hand.ro_mk (h := ⟨1, fr, ⟨nextOf (fr.xMessages.take p), fr.xMessages.take p⟩, wt⟩) h2.lo (h4.lo hlt) h5.lo) hfit
          clear hSr
          generalize hnxt : nextOf (fr.xMessages.take p) = nx at *
          clear hnxt
          cases hv : Hand.ok ⟨1, fr, ⟨nx, fr.xMessages.take p⟩, wt⟩
          all_goals
            have HF := HX1
            rw [hv] at HG HF
            simp only [gave, cond, Bool.false_eq_true, if_false, if_true] at HG HF
            have HXX := Lib.hid HF
            clear HX1 HF hv
            go_wp2_with fail
            refine (HG _ (by (repeat (with_reducible refine Ow.far ?_ (fun h => by have hq := hN2 _ h; first | omega | (dsimp only at hq; omega) | (simp at hq; done) | (simp at hq; omega)) _)); exact hr2) (by (repeat (with_reducible refine Sh.far ?_ hN4 _)); exact HSR.out) (fun b hb => by have := hPlt b hb; first | exact this | simpa [World.setCell] using this) (by (repeat (with_reducible refine Ow.far ?_ (fun h => by have hq := hN5 _ h; first | omega | (dsimp only at hq; omega) | (simp at hq; done) | (simp at hq; omega)) _)); exact hr5)).mono ?_
            rintro e w5 ⟨rfl, hb5⟩
            have hbw5 : Below (W.heap.size + 2) ((W.alloc (.cells #[.int .i64 stage, .int .i64 fr.xNext, .slice A2 k2 c2, .int .i64 tt.xNext, .slice A4 k4 c4, .slice A5 wt.length c5] 78)).alloc (.cells #[.int .i64 0, .int .i64 0, .slice none 0 0, .int .i64 0, .slice none 0 0, .slice none 0 0] 78)) w5 := Below.trans (by (repeat (with_reducible refine Below.setCell ?_ (by show _ ≤ w2.heap.size; omega) _)); exact hbwr) (hb5.mono (by first | omega | (simp [World.setCell]; omega)))
            have hsz5 := hb5.size
            (try simp [World.setCell] at hsz5)
            clear y0 y1 y2 y3 y4 y5 z0 o1
            have xr : Bx w5 (W.heap.size + 1) #[.int .i64 0, .int .i64 0, .slice none 0 0, .int .i64 0, .slice none 0 0, .slice none 0 0] 78 := (Bx.new2 W _ _ _).below hbw5 (by omega)
            have r0 := xr.cell 0 rfl
            have g0 := xr.free 0
            have r1 := xr.cell 1 rfl
            have g1 := xr.free 1
            have r2 := xr.cell 2 rfl
            have g2 := xr.free 2
            have r3 := xr.cell 3 rfl
            have g3 := xr.free 3
            have r4 := xr.cell 4 rfl
            have g4 := xr.free 4
            have r5 := xr.cell 5 rfl
            have g5 := xr.free 5
            have hsr := xr.lt
            have xb : Bx w5 W.heap.size #[.int .i64 stage, .int .i64 fr.xNext, .slice A2 k2 c2, .int .i64 tt.xNext, .slice A4 k4 c4, .slice A5 wt.length c5] 78 := ((Bx.new W _ _).alloc _).below hbw5 (by omega)
            have b0 := xb.cell 0 rfl
            have b1 := xb.cell 1 rfl
            have b2 := xb.cell 2 rfl
            have b3 := xb.cell 3 rfl
            have b4 := xb.cell 4 rfl
            have b5 := xb.cell 5 rfl
            have hsb := xb.lt
            have hB : Below W.heap.size W w5 := (((Below.refl _ _).alloc (Nat.le_refl _) _).alloc (by simp) _).trans (hbw5.mono (by omega))
            go_wp2
          · exact bodyPost_ret (v := .tuple #[.agg #[.int .i64 0, .int .i64 0, .slice none 0 0, .int .i64 0, .slice none 0 0, .slice none 0 0], .bool false]) (by simp [results, Try.results75, go_sem, r0, r1, r2, r3, r4, r5, g0, g1, g2, g3, g4, g5, hsr]) rfl (hno (madeHR_no HXX.out (by (repeat (first | with_reducible assumption | with_reducible exact Below.refl _ _ | with_reducible refine Below.setCell ?_ ?_ _ | with_reducible refine Below.alloc ?_ ?_ _ | with_reducible refine Below.drew ?_ | with_reducible refine below_drewN ?_ _ | omega | (simp; done) | (simp; omega))); all_goals first | omega | (simp; done) | (simp; omega))))
          · refine bodyPost_ret (v := .tuple #[.agg #[.int .i64 1, .int .i64 fr.xNext, .slice A2' k2 c2', .int .i64 nx, .slice Av p cv, .slice A5' wt.length c5'], .bool true]) (by simp [results, Try.results75, go_sem, r0, r1, r2, r3, r4, r5, g0, g1, g2, g3, g4, g5, hsr]) rfl ⟨_, by rw [HXX.out], ?_, (by (repeat (first | with_reducible assumption | with_reducible exact Below.refl _ _ | with_reducible refine Below.setCell ?_ ?_ _ | with_reducible refine Below.alloc ?_ ?_ _ | with_reducible refine Below.drew ?_ | with_reducible refine below_drewN ?_ _ | omega | (simp; done) | (simp; omega))); all_goals first | omega | (simp; done) | (simp; omega))⟩
            rw [HXX.out]
            refine Hand.ro_mk (h := ⟨1, fr, ⟨nx, fr.xMessages.take p⟩, wt⟩) (Ow.lo (F := F2) ?_) (Sh.lo (G := G) (Pb := fun b => P4 b ∨ F7 b) ?_ ?_) (Ow.lo (F := F5) ?_)
            · repeat (with_reducible refine Ow.far ?_ (fun h => by have hq := hl2 _ h; first | omega | (dsimp only at hq; omega) | (simp at hq; done) | (simp at hq; omega)) _)
              refine Ow.keep ?_ hb5
              exact (by (repeat (with_reducible refine Ow.far ?_ (fun h => by have hq := hN2 _ h; first | omega | (dsimp only at hq; omega) | (simp at hq; done) | (simp at hq; omega)) _)); exact hr2)
            · repeat (with_reducible refine Sh.far ?_ hM4 _)
              refine Sh.keep ?_ (fun b hb => by have := hPlt b hb; first | exact this | simpa [World.setCell] using this) hb5
              exact (by (repeat (with_reducible refine Sh.far ?_ hN4 _)); exact HSR.out)
            · intro b hb
              have := hPlt b hb
              simp [World.setCell]; omega
            · repeat (with_reducible refine Ow.far ?_ (fun h => by have hq := hl5 _ h; first | omega | (dsimp only at hq; omega) | (simp at hq; done) | (simp at hq; omega)) _)
              refine Ow.keep ?_ hb5
              exact (by (repeat (with_reducible refine Ow.far ?_ (fun h => by have hq := hN5 _ h; first | omega | (dsimp only at hq; omega) | (simp at hq; done) | (simp at hq; omega)) _)); exact hr5)
      · have hlk' : ¬ (p : Int) < (k2 : Int) := by omega
        cases hs0 : (stage == 0)
        · have hst : (if stage = 0 then 1 else stage) = stage := by simp at hs0; simp [hs0]
          rw [hst] at HX1 hfit
          clear hst
          have HSR := Lib.hid hSr
          have HG := fun (w : World) (h2 : Ow w (Message.s true fr.xMessages) (.slice A2' k2 c2') F2) (h4 : Sh w (fun b => P4 b ∨ F7 b) 57 8 ((fr.xMessages.take p).map (Message.d true)) (.slice Av p cv) G) (hlt : ∀ b, (P4 b ∨ F7 b) → b < w.heap.size) (h5 : Ow w (Draft.s true wt) (.slice A5' wt.length c5') F5) => spec_l10Give ⟨stage, fr, ⟨nextOf (fr.xMessages.take p), fr.xMessages.take p⟩, wt⟩ [.int .i64 stage, .int .i64 fr.xNext, .slice A2' k2 c2', .int .i64 (nextOf (fr.xMessages.take p)), .slice Av p cv, .slice A5' wt.length c5'] w (Hand.ro_mk (h := ⟨stage, fr, ⟨nextOf (fr.xMessages.take p), fr.xMessages.take p⟩, wt⟩) h2.lo (h4.lo hlt) h5.lo) hfit
          clear hSr
          generalize hnxt : nextOf (fr.xMessages.take p) = nx at *
          clear hnxt
          cases hv : Hand.ok ⟨stage, fr, ⟨nx, fr.xMessages.take p⟩, wt⟩
          all_goals
            have HF := HX1
            rw [hv] at HG HF
            simp only [gave, cond, Bool.false_eq_true, if_false, if_true] at HG HF
            have HXX := Lib.hid HF
            clear HX1 HF hv
            go_wp2_with fail
            refine (HG _ (by (repeat (with_reducible refine Ow.far ?_ (fun h => by have hq := hN2 _ h; first | omega | (dsimp only at hq; omega) | (simp at hq; done) | (simp at hq; omega)) _)); exact hr2) (by (repeat (with_reducible refine Sh.far ?_ hN4 _)); exact HSR.out) (fun b hb => by have := hPlt b hb; first | exact this | simpa [World.setCell] using this) (by (repeat (with_reducible refine Ow.far ?_ (fun h => by have hq := hN5 _ h; first | omega | (dsimp only at hq; omega) | (simp at hq; done) | (simp at hq; omega)) _)); exact hr5)).mono ?_
            rintro e w5 ⟨rfl, hb5⟩
            have hbw5 : Below (W.heap.size + 2) ((W.alloc (.cells #[.int .i64 stage, .int .i64 fr.xNext, .slice A2 k2 c2, .int .i64 tt.xNext, .slice A4 k4 c4, .slice A5 wt.length c5] 78)).alloc (.cells #[.int .i64 0, .int .i64 0, .slice none 0 0, .int .i64 0, .slice none 0 0, .slice none 0 0] 78)) w5 := Below.trans (by (repeat (with_reducible refine Below.setCell ?_ (by show _ ≤ w2.heap.size; omega) _)); exact hbwr) (hb5.mono (by first | omega | (simp [World.setCell]; omega)))
            have hsz5 := hb5.size
            (try simp [World.setCell] at hsz5)
            clear y0 y1 y2 y3 y4 y5 z0 o1
            have xr : Bx w5 (W.heap.size + 1) #[.int .i64 0, .int .i64 0, .slice none 0 0, .int .i64 0, .slice none 0 0, .slice none 0 0] 78 := (Bx.new2 W _ _ _).below hbw5 (by omega)
            have r0 := xr.cell 0 rfl
            have g0 := xr.free 0
            have r1 := xr.cell 1 rfl
            have g1 := xr.free 1
            have r2 := xr.cell 2 rfl
            have g2 := xr.free 2
            have r3 := xr.cell 3 rfl
            have g3 := xr.free 3
            have r4 := xr.cell 4 rfl
            have g4 := xr.free 4
            have r5 := xr.cell 5 rfl
            have g5 := xr.free 5
            have hsr := xr.lt
            have xb : Bx w5 W.heap.size #[.int .i64 stage, .int .i64 fr.xNext, .slice A2 k2 c2, .int .i64 tt.xNext, .slice A4 k4 c4, .slice A5 wt.length c5] 78 := ((Bx.new W _ _).alloc _).below hbw5 (by omega)
            have b0 := xb.cell 0 rfl
            have b1 := xb.cell 1 rfl
            have b2 := xb.cell 2 rfl
            have b3 := xb.cell 3 rfl
            have b4 := xb.cell 4 rfl
            have b5 := xb.cell 5 rfl
            have hsb := xb.lt
            have hB : Below W.heap.size W w5 := (((Below.refl _ _).alloc (Nat.le_refl _) _).alloc (by simp) _).trans (hbw5.mono (by omega))
            go_wp2
          · exact bodyPost_ret (v := .tuple #[.agg #[.int .i64 0, .int .i64 0, .slice none 0 0, .int .i64 0, .slice none 0 0, .slice none 0 0], .bool false]) (by simp [results, Try.results75, go_sem, r0, r1, r2, r3, r4, r5, g0, g1, g2, g3, g4, g5, hsr]) rfl (hno (madeHR_no HXX.out (by (repeat (first | with_reducible assumption | with_reducible exact Below.refl _ _ | with_reducible refine Below.setCell ?_ ?_ _ | with_reducible refine Below.alloc ?_ ?_ _ | with_reducible refine Below.drew ?_ | with_reducible refine below_drewN ?_ _ | omega | (simp; done) | (simp; omega))); all_goals first | omega | (simp; done) | (simp; omega))))
          · refine bodyPost_ret (v := .tuple #[.agg #[.int .i64 stage, .int .i64 fr.xNext, .slice A2' k2 c2', .int .i64 nx, .slice Av p cv, .slice A5' wt.length c5'], .bool true]) (by simp [results, Try.results75, go_sem, r0, r1, r2, r3, r4, r5, g0, g1, g2, g3, g4, g5, hsr]) rfl ⟨_, by rw [HXX.out], ?_, (by (repeat (first | with_reducible assumption | with_reducible exact Below.refl _ _ | with_reducible refine Below.setCell ?_ ?_ _ | with_reducible refine Below.alloc ?_ ?_ _ | with_reducible refine Below.drew ?_ | with_reducible refine below_drewN ?_ _ | omega | (simp; done) | (simp; omega))); all_goals first | omega | (simp; done) | (simp; omega))⟩
            rw [HXX.out]
            refine Hand.ro_mk (h := ⟨stage, fr, ⟨nx, fr.xMessages.take p⟩, wt⟩) (Ow.lo (F := F2) ?_) (Sh.lo (G := G) (Pb := fun b => P4 b ∨ F7 b) ?_ ?_) (Ow.lo (F := F5) ?_)
            · repeat (with_reducible refine Ow.far ?_ (fun h => by have hq := hl2 _ h; first | omega | (dsimp only at hq; omega) | (simp at hq; done) | (simp at hq; omega)) _)
              refine Ow.keep ?_ hb5
              exact (by (repeat (with_reducible refine Ow.far ?_ (fun h => by have hq := hN2 _ h; first | omega | (dsimp only at hq; omega) | (simp at hq; done) | (simp at hq; omega)) _)); exact hr2)
            · repeat (with_reducible refine Sh.far ?_ hM4 _)
              refine Sh.keep ?_ (fun b hb => by have := hPlt b hb; first | exact this | simpa [World.setCell] using this) hb5
              exact (by (repeat (with_reducible refine Sh.far ?_ hN4 _)); exact HSR.out)
            · intro b hb
              have := hPlt b hb
              simp [World.setCell]; omega
            · repeat (with_reducible refine Ow.far ?_ (fun h => by have hq := hl5 _ h; first | omega | (dsimp only at hq; omega) | (simp at hq; done) | (simp at hq; omega)) _)
              refine Ow.keep ?_ hb5
              exact (by (repeat (with_reducible refine Ow.far ?_ (fun h => by have hq := hN5 _ h; first | omega | (dsimp only at hq; omega) | (simp at hq; done) | (simp at hq; omega)) _)); exact hr5)
        · have hst : (if stage = 0 then 1 else stage) = 1 := by simp at hs0; simp [hs0]
          rw [hst] at HX1 hfit
          clear hst
          have HSR := Lib.hid hSr
          have HG := fun (w : World) (h2 : Ow w (Message.s true fr.xMessages) (.slice A2' k2 c2') F2) (h4 : Sh w (fun b => P4 b ∨ F7 b) 57 8 ((fr.xMessages.take p).map (Message.d true)) (.slice Av p cv) G) (hlt : ∀ b, (P4 b ∨ F7 b) → b < w.heap.size) (h5 : Ow w (Draft.s true wt) (.slice A5' wt.length c5') F5) => spec_l10Give ⟨1, fr, ⟨nextOf (fr.xMessages.take p), fr.xMessages.take p⟩, wt⟩ [.int .i64 1, .int .i64 fr.xNext, .slice A2' k2 c2', .int .i64 (nextOf (fr.xMessages.take p)), .slice Av p cv, .slice A5' wt.length c5'] w (Hand.ro_mk (h := ⟨1, fr, ⟨nextOf (fr.xMessages.take p), fr.xMessages.take p⟩, wt⟩) h2.lo (h4.lo hlt) h5.lo) hfit
          clear hSr
          generalize hnxt : nextOf (fr.xMessages.take p) = nx at *
          clear hnxt
          cases hv : Hand.ok ⟨1, fr, ⟨nx, fr.xMessages.take p⟩, wt⟩
          all_goals
            have HF := HX1
            rw [hv] at HG HF
            simp only [gave, cond, Bool.false_eq_true, if_false, if_true] at HG HF
            have HXX := Lib.hid HF
            clear HX1 HF hv
            go_wp2_with fail
            refine (HG _ (by (repeat (with_reducible refine Ow.far ?_ (fun h => by have hq := hN2 _ h; first | omega | (dsimp only at hq; omega) | (simp at hq; done) | (simp at hq; omega)) _)); exact hr2) (by (repeat (with_reducible refine Sh.far ?_ hN4 _)); exact HSR.out) (fun b hb => by have := hPlt b hb; first | exact this | simpa [World.setCell] using this) (by (repeat (with_reducible refine Ow.far ?_ (fun h => by have hq := hN5 _ h; first | omega | (dsimp only at hq; omega) | (simp at hq; done) | (simp at hq; omega)) _)); exact hr5)).mono ?_
            rintro e w5 ⟨rfl, hb5⟩
            have hbw5 : Below (W.heap.size + 2) ((W.alloc (.cells #[.int .i64 stage, .int .i64 fr.xNext, .slice A2 k2 c2, .int .i64 tt.xNext, .slice A4 k4 c4, .slice A5 wt.length c5] 78)).alloc (.cells #[.int .i64 0, .int .i64 0, .slice none 0 0, .int .i64 0, .slice none 0 0, .slice none 0 0] 78)) w5 := Below.trans (by (repeat (with_reducible refine Below.setCell ?_ (by show _ ≤ w2.heap.size; omega) _)); exact hbwr) (hb5.mono (by first | omega | (simp [World.setCell]; omega)))
            have hsz5 := hb5.size
            (try simp [World.setCell] at hsz5)
            clear y0 y1 y2 y3 y4 y5 z0 o1
            have xr : Bx w5 (W.heap.size + 1) #[.int .i64 0, .int .i64 0, .slice none 0 0, .int .i64 0, .slice none 0 0, .slice none 0 0] 78 := (Bx.new2 W _ _ _).below hbw5 (by omega)
            have r0 := xr.cell 0 rfl
            have g0 := xr.free 0
            have r1 := xr.cell 1 rfl
            have g1 := xr.free 1
            have r2 := xr.cell 2 rfl
            have g2 := xr.free 2
            have r3 := xr.cell 3 rfl
            have g3 := xr.free 3
            have r4 := xr.cell 4 rfl
            have g4 := xr.free 4
            have r5 := xr.cell 5 rfl
            have g5 := xr.free 5
            have hsr := xr.lt
            have xb : Bx w5 W.heap.size #[.int .i64 stage, .int .i64 fr.xNext, .slice A2 k2 c2, .int .i64 tt.xNext, .slice A4 k4 c4, .slice A5 wt.length c5] 78 := ((Bx.new W _ _).alloc _).below hbw5 (by omega)
            have b0 := xb.cell 0 rfl
            have b1 := xb.cell 1 rfl
            have b2 := xb.cell 2 rfl
            have b3 := xb.cell 3 rfl
            have b4 := xb.cell 4 rfl
            have b5 := xb.cell 5 rfl
            have hsb := xb.lt
            have hB : Below W.heap.size W w5 := (((Below.refl _ _).alloc (Nat.le_refl _) _).alloc (by simp) _).trans (hbw5.mono (by omega))
            go_wp2
          · exact bodyPost_ret (v := .tuple #[.agg #[.int .i64 0, .int .i64 0, .slice none 0 0, .int .i64 0, .slice none 0 0, .slice none 0 0], .bool false]) (by simp [results, Try.results75, go_sem, r0, r1, r2, r3, r4, r5, g0, g1, g2, g3, g4, g5, hsr]) rfl (hno (madeHR_no HXX.out (by (repeat (first | with_reducible assumption | with_reducible exact Below.refl _ _ | with_reducible refine Below.setCell ?_ ?_ _ | with_reducible refine Below.alloc ?_ ?_ _ | with_reducible refine Below.drew ?_ | with_reducible refine below_drewN ?_ _ | omega | (simp; done) | (simp; omega))); all_goals first | omega | (simp; done) | (simp; omega))))
          · refine bodyPost_ret (v := .tuple #[.agg #[.int .i64 1, .int .i64 fr.xNext, .slice A2' k2 c2', .int .i64 nx, .slice Av p cv, .slice A5' wt.length c5'], .bool true]) (by simp [results, Try.results75, go_sem, r0, r1, r2, r3, r4, r5, g0, g1, g2, g3, g4, g5, hsr]) rfl ⟨_, by rw [HXX.out], ?_, (by (repeat (first | with_reducible assumption | with_reducible exact Below.refl _ _ | with_reducible refine Below.setCell ?_ ?_ _ | with_reducible refine Below.alloc ?_ ?_ _ | with_reducible refine Below.drew ?_ | with_reducible refine below_drewN ?_ _ | omega | (simp; done) | (simp; omega))); all_goals first | omega | (simp; done) | (simp; omega))⟩
            rw [HXX.out]
            refine Hand.ro_mk (h := ⟨1, fr, ⟨nx, fr.xMessages.take p⟩, wt⟩) (Ow.lo (F := F2) ?_) (Sh.lo (G := G) (Pb := fun b => P4 b ∨ F7 b) ?_ ?_) (Ow.lo (F := F5) ?_)
            · repeat (with_reducible refine Ow.far ?_ (fun h => by have hq := hl2 _ h; first | omega | (dsimp only at hq; omega) | (simp at hq; done) | (simp at hq; omega)) _)
              refine Ow.keep ?_ hb5
              exact (by (repeat (with_reducible refine Ow.far ?_ (fun h => by have hq := hN2 _ h; first | omega | (dsimp only at hq; omega) | (simp at hq; done) | (simp at hq; omega)) _)); exact hr2)
            · repeat (with_reducible refine Sh.far ?_ hM4 _)
              refine Sh.keep ?_ (fun b hb => by have := hPlt b hb; first | exact this | simpa [World.setCell] using this) hb5
              exact (by (repeat (with_reducible refine Sh.far ?_ hN4 _)); exact HSR.out)
            · intro b hb
              have := hPlt b hb
              simp [World.setCell]; omega
            · repeat (with_reducible refine Ow.far ?_ (fun h => by have hq := hl5 _ h; first | omega | (dsimp only at hq; omega) | (simp at hq; done) | (simp at hq; omega)) _)
              refine Ow.keep ?_ hb5
              exact (by (repeat (with_reducible refine Ow.far ?_ (fun h => by have hq := hN5 _ h; first | omega | (dsimp only at hq; omega) | (simp at hq; done) | (simp at hq; omega)) _)); exact hr5)
theorem CopyHand_lawI (x : Hand) (c : Int) (us : List Value) (W : World) (hr : RoL W (Lo W.heap.size) (Hand.d true x) us) (hz : Hand.z x ≤ 1048576) : Calls Try.prog 55 #[.agg us.toArray, .int .i64 c] W fun e w' =>
    ∃ us F, e = .returned (.tuple #[.agg us.toArray, .bool (CopyHand_f x c).2]) ∧ OwL w' (Hand.d true (CopyHand_f x c).1) us F ∧ (∀ b, F b → W.heap.size ≤ b) ∧ Below W.heap.size W w' :=
  impl_CopyHand x c us W hr (Hand.fit_of hz)
theorem CopyHand_lawS (x : Hand) (c : Int) (us : List Value) (W : World) (hr : RoL W (Lo W.heap.size) (Hand.d true x) us) (hz : Hand.z x ≤ 1048576) : Calls Try.prog 75 #[.agg us.toArray, .int .i64 c] W fun e w' =>
    ∃ us, e = .returned (.tuple #[.agg us.toArray, .bool (CopyHand_f x c).2]) ∧ RoL w' (Lo w'.heap.size) (Hand.d true (CopyHand_f x c).1) us ∧ Below W.heap.size W w' :=
  spec_CopyHand x c us W hr (Hand.fit_of hz)
theorem CopyHand_lawN (x : Hand) (c : Int) (hz : Hand.z x ≤ 1048576) : Hand.sn (CopyHand_f x c).1 ≤ 1000000000000 := changed_sn _ x
end Go.Proofs.Ytmofbfeclecdoaa

/- FreezeHand's own copy, and its law. -/
import Derived.Test.YtmofbfeclecdoaaOwn
namespace Go.Proofs.Ytmofbfeclecdoaa
open Go.ChangeShapes Go.WideShapes Go.ChangeAt Go.RowKit Go.Dt
set_option linter.unusedVariables false
set_option linter.unusedSimpArgs false
theorem freeze_ok {fr tt : Log} {wt : List Draft} (ho : Hand.ok ⟨1, fr, tt, wt⟩ = true) : Hand.ok ⟨2, fr, tt, wt⟩ = true := by
  unfold Hand.ok at ho ⊢
  simp only [Bool.and_eq_true] at ho ⊢
  refine ⟨ho.1, ho.2.1, ho.2.2.1, ho.2.2.2.1, ?_⟩
  have := ho.2.2.2.2
  simp [stageOk] at this ⊢
  exact this.1
set_option maxHeartbeats 1600000 in
set_option maxRecDepth 100000 in
theorem spec_FreezeHand (h : Hand) (us : List Value) (W : World) (hr : RoL W (Lo W.heap.size) (Hand.d true h) us) (hf : h.fit) :
    Calls Try.prog 72 #[.agg us.toArray] W (MadeHB W (FreezeHand_f h)) := by
  obtain ⟨A2, c2, A4, c4, A5, c5, rfl, rd2, l2, m2, rd4, l4, m4, rd5, l5, m5⟩ := Hand.cells hr
  obtain ⟨stage, fr, tt, wt⟩ := h
  simp only at *
  have HV := fun (w : World) (xb : Bx w W.heap.size #[.int .i64 stage, .int .i64 fr.xNext, .slice A2 fr.xMessages.length c2, .int .i64 tt.xNext, .slice A4 tt.xMessages.length c4, .slice A5 wt.length c5] 78) (hb : Below W.heap.size W w) => spec_l10Is ⟨stage, fr, tt, wt⟩ W.heap.size 0 A2 A4 A5 c2 c4 c5 w (xb.cell 0 rfl) (xb.cell 1 rfl) (xb.cell 2 rfl) (xb.cell 3 rfl) (xb.cell 4 rfl) (xb.cell 5 rfl) (ro_to rd2 hb) (ro_to rd4 hb) (ro_to rd5 hb) hf
  cases ho : Hand.ok ⟨stage, fr, tt, wt⟩
  · have HX := Lib.hid (show FreezeHand_f ⟨stage, fr, tt, wt⟩ = (Hand.zero, false) from if_neg (by rw [ho]; simp))
    rw [ho] at HV
    clear ho
    go_enter Try.func72, Try.ntmps72
    go_wp2_with fail
    refine (HV _ ((Bx.new _ _ _).alloc _) (by (repeat (first | with_reducible assumption | with_reducible exact Below.refl _ _ | with_reducible refine Below.setCell ?_ ?_ _ | with_reducible refine Below.alloc ?_ ?_ _ | with_reducible refine Below.drew ?_ | with_reducible refine below_drewN ?_ _ | omega | (simp; done) | (simp; omega))); all_goals first | omega | (simp; done) | (simp; omega))).mono ?_
    rintro e w1 ⟨rfl, hb1⟩
    have hbw : Below (W.heap.size + 2) ((W.alloc (.cells #[.int .i64 stage, .int .i64 fr.xNext, .slice A2 fr.xMessages.length c2, .int .i64 tt.xNext, .slice A4 tt.xMessages.length c4, .slice A5 wt.length c5] 78)).alloc (.cells #[.int .i64 0, .int .i64 0, .slice none 0 0, .int .i64 0, .slice none 0 0, .slice none 0 0] 78)) w1 := hb1.mono (by simp)
    have hsz1 := hbw.size
    simp at hsz1
    have hB : Below W.heap.size W w1 := (((Below.refl _ _).alloc (Nat.le_refl _) _).alloc (by simp) _).trans (hbw.mono (by omega))
    have xr : Bx w1 (W.heap.size + 1) #[.int .i64 0, .int .i64 0, .slice none 0 0, .int .i64 0, .slice none 0 0, .slice none 0 0] 78 := (Bx.new2 W _ _ _).below hbw (by omega)
    have r0 := xr.cell 0 rfl
    have g0 := xr.free 0
    have r1 := xr.cell 1 rfl
    have g1 := xr.free 1
    have r2 := xr.cell 2 rfl
    have g2 := xr.free 2
    have r3 := xr.cell 3 rfl
    have g3 := xr.free 3
    have r4 := xr.cell 4 rfl
    have g4 := xr.free 4
    have r5 := xr.cell 5 rfl
    have g5 := xr.free 5
    have hsr := xr.lt
    have xb : Bx w1 W.heap.size #[.int .i64 stage, .int .i64 fr.xNext, .slice A2 fr.xMessages.length c2, .int .i64 tt.xNext, .slice A4 tt.xMessages.length c4, .slice A5 wt.length c5] 78 := ((Bx.new W _ _).alloc _).below hbw (by omega)
    have b0 := xb.cell 0 rfl
    have b1 := xb.cell 1 rfl
    have b2 := xb.cell 2 rfl
    have b3 := xb.cell 3 rfl
    have b4 := xb.cell 4 rfl
    have b5 := xb.cell 5 rfl
    have hsb := xb.lt
    go_wp2
    exact bodyPost_ret (v := .tuple #[.agg #[.int .i64 0, .int .i64 0, .slice none 0 0, .int .i64 0, .slice none 0 0, .slice none 0 0], .bool false]) (by simp [results, Try.results72, go_sem, r0, r1, r2, r3, r4, r5, g0, g1, g2, g3, g4, g5, hsr]) rfl (madeHB_no HX.out (by (repeat (first | with_reducible assumption | with_reducible exact Below.refl _ _ | with_reducible refine Below.setCell ?_ ?_ _ | with_reducible refine Below.alloc ?_ ?_ _ | with_reducible refine Below.drew ?_ | with_reducible refine below_drewN ?_ _ | omega | (simp; done) | (simp; omega))); all_goals first | omega | (simp; done) | (simp; omega)))
  by_cases s1 : stage = 1
  · subst s1
    have HX := Lib.hid (show FreezeHand_f ⟨1, fr, tt, wt⟩ = (⟨2, fr, tt, wt⟩, true) from if_pos ⟨ho, rfl, freeze_ok ho⟩)
    have HC := fun (w : World) (xb : Bx w W.heap.size #[.int .i64 1, .int .i64 fr.xNext, .slice A2 fr.xMessages.length c2, .int .i64 tt.xNext, .slice A4 tt.xMessages.length c4, .slice A5 wt.length c5] 78) (hb : Below W.heap.size W w) => spec_l10Own ⟨1, fr, tt, wt⟩ W.heap.size A2 A4 A5 c2 c4 c5 w (xb.cell 0 rfl) (xb.cell 1 rfl) (xb.cell 2 rfl) (xb.cell 3 rfl) (xb.cell 4 rfl) (xb.cell 5 rfl) (ro_to rd2 hb) (ro_to rd4 hb) (ro_to rd5 hb) ho hf
    rw [ho] at HV
    clear ho
    go_enter Try.func72, Try.ntmps72
    go_wp2_with fail
    refine (HV _ ((Bx.new _ _ _).alloc _) (by (repeat (first | with_reducible assumption | with_reducible exact Below.refl _ _ | with_reducible refine Below.setCell ?_ ?_ _ | with_reducible refine Below.alloc ?_ ?_ _ | with_reducible refine Below.drew ?_ | with_reducible refine below_drewN ?_ _ | omega | (simp; done) | (simp; omega))); all_goals first | omega | (simp; done) | (simp; omega))).mono ?_
    rintro e w1 ⟨rfl, hb1⟩
    have hbw : Below (W.heap.size + 2) ((W.alloc (.cells #[.int .i64 1, .int .i64 fr.xNext, .slice A2 fr.xMessages.length c2, .int .i64 tt.xNext, .slice A4 tt.xMessages.length c4, .slice A5 wt.length c5] 78)).alloc (.cells #[.int .i64 0, .int .i64 0, .slice none 0 0, .int .i64 0, .slice none 0 0, .slice none 0 0] 78)) w1 := hb1.mono (by simp)
    have hsz1 := hbw.size
    simp at hsz1
    have hB : Below W.heap.size W w1 := (((Below.refl _ _).alloc (Nat.le_refl _) _).alloc (by simp) _).trans (hbw.mono (by omega))
    have xr : Bx w1 (W.heap.size + 1) #[.int .i64 0, .int .i64 0, .slice none 0 0, .int .i64 0, .slice none 0 0, .slice none 0 0] 78 := (Bx.new2 W _ _ _).below hbw (by omega)
    have r0 := xr.cell 0 rfl
    have g0 := xr.free 0
    have r1 := xr.cell 1 rfl
    have g1 := xr.free 1
    have r2 := xr.cell 2 rfl
    have g2 := xr.free 2
    have r3 := xr.cell 3 rfl
    have g3 := xr.free 3
    have r4 := xr.cell 4 rfl
    have g4 := xr.free 4
    have r5 := xr.cell 5 rfl
    have g5 := xr.free 5
    have hsr := xr.lt
    have xb : Bx w1 W.heap.size #[.int .i64 1, .int .i64 fr.xNext, .slice A2 fr.xMessages.length c2, .int .i64 tt.xNext, .slice A4 tt.xMessages.length c4, .slice A5 wt.length c5] 78 := ((Bx.new W _ _).alloc _).below hbw (by omega)
    have b0 := xb.cell 0 rfl
    have b1 := xb.cell 1 rfl
    have b2 := xb.cell 2 rfl
    have b3 := xb.cell 3 rfl
    have b4 := xb.cell 4 rfl
    have b5 := xb.cell 5 rfl
    have hsb := xb.lt
    go_wp2_with fail
    refine (HC _ xb hB).mono ?_
    rintro e w2 ⟨us1, F1, rfl, hO1, hb2, hF1⟩
    obtain ⟨A2', c2', F2, A4', c4', F4, A5', c5', F5, rfl, hO2, -, -, hO4, -, -, hO5, -, -, d24, d25, d45, hFe⟩ := Hand.owned hO1
    have hl2 : ∀ b, F2 b → W.heap.size + 2 ≤ b ∧ b < w2.heap.size := fun b h => ⟨by have := hF1 b ((hFe b).2 (.inl h)); omega, hO2.lt b h⟩
    have hl4 : ∀ b, F4 b → W.heap.size + 2 ≤ b ∧ b < w2.heap.size := fun b h => ⟨by have := hF1 b ((hFe b).2 (.inr (.inl h))); omega, hO4.lt b h⟩
    have hl5 : ∀ b, F5 b → W.heap.size + 2 ≤ b ∧ b < w2.heap.size := fun b h => ⟨by have := hF1 b ((hFe b).2 (.inr (.inr h))); omega, hO5.lt b h⟩
    clear hF1 hFe r0 g0 b0 r1 g1 b1 r2 g2 b2 r3 g3 b3 r4 g4 b4 r5 g5 b5 hsr xr xb hsb hB
    have hbw2 := hbw.trans (hb2.mono (by omega))
    have hsz2 := hb2.size
    have xr : Bx w2 (W.heap.size + 1) #[.int .i64 0, .int .i64 0, .slice none 0 0, .int .i64 0, .slice none 0 0, .slice none 0 0] 78 := (Bx.new2 W _ _ _).below hbw2 (by omega)
    have r0 := xr.cell 0 rfl
    have g0 := xr.free 0
    have r1 := xr.cell 1 rfl
    have g1 := xr.free 1
    have r2 := xr.cell 2 rfl
    have g2 := xr.free 2
    have r3 := xr.cell 3 rfl
    have g3 := xr.free 3
    have r4 := xr.cell 4 rfl
    have g4 := xr.free 4
    have r5 := xr.cell 5 rfl
    have g5 := xr.free 5
    have hsr := xr.lt
    have hB : Below W.heap.size W w2 := (((Below.refl _ _).alloc (Nat.le_refl _) _).alloc (by simp) _).trans (hbw2.mono (by omega))
    go_wp2
    refine bodyPost_ret (v := .tuple #[.agg #[.int .i64 2, .int .i64 fr.xNext, .slice A2' fr.xMessages.length c2', .int .i64 tt.xNext, .slice A4' tt.xMessages.length c4', .slice A5' wt.length c5'], .bool true]) (by simp [results, Try.results72, go_sem, r0, r1, r2, r3, r4, r5, g0, g1, g2, g3, g4, g5, hsr]) rfl ⟨_, (fun b => F2 b ∨ (F4 b ∨ F5 b)), by rw [HX.out], ?_, fun b h => ?_, (by (repeat (first | with_reducible assumption | with_reducible exact Below.refl _ _ | with_reducible refine Below.setCell ?_ ?_ _ | with_reducible refine Below.alloc ?_ ?_ _ | with_reducible refine Below.drew ?_ | with_reducible refine below_drewN ?_ _ | omega | (simp; done) | (simp; omega))); all_goals first | omega | (simp; done) | (simp; omega))⟩
    · rw [HX.out]
      refine Hand.own_mk (h := ⟨2, fr, tt, wt⟩) (F2 := F2) (F4 := F4) (F5 := F5) ?_ ?_ ?_ d24 d25 d45
      · repeat (first | (with_reducible refine Ow.alloc ?_ _) | (with_reducible refine Ow.far ?_ (fun h => by have hq := hl2 _ h; first | omega | (dsimp only at hq; omega) | (simp at hq; done) | (simp at hq; omega)) _))
        exact hO2
      · repeat (first | (with_reducible refine Ow.alloc ?_ _) | (with_reducible refine Ow.far ?_ (fun h => by have hq := hl4 _ h; first | omega | (dsimp only at hq; omega) | (simp at hq; done) | (simp at hq; omega)) _))
        exact hO4
      · repeat (first | (with_reducible refine Ow.alloc ?_ _) | (with_reducible refine Ow.far ?_ (fun h => by have hq := hl5 _ h; first | omega | (dsimp only at hq; omega) | (simp at hq; done) | (simp at hq; omega)) _))
        exact hO5
    · rcases h with h | h | h
      · have := hl2 b h; omega
      · have := hl4 b h; omega
      · have := hl5 b h; omega
  · have HX := Lib.hid (show FreezeHand_f ⟨stage, fr, tt, wt⟩ = (Hand.zero, false) from if_neg (by simp [FreezeHand_c, s1]))
    have t1 : (stage == 1) = false := by simp [s1]
    have t2 : (stage != 1) = true := by simp [s1]
    clear s1
    rw [ho] at HV
    clear ho
    go_enter Try.func72, Try.ntmps72
    go_wp2_with fail
    refine (HV _ ((Bx.new _ _ _).alloc _) (by (repeat (first | with_reducible assumption | with_reducible exact Below.refl _ _ | with_reducible refine Below.setCell ?_ ?_ _ | with_reducible refine Below.alloc ?_ ?_ _ | with_reducible refine Below.drew ?_ | with_reducible refine below_drewN ?_ _ | omega | (simp; done) | (simp; omega))); all_goals first | omega | (simp; done) | (simp; omega))).mono ?_
    rintro e w1 ⟨rfl, hb1⟩
    have hbw : Below (W.heap.size + 2) ((W.alloc (.cells #[.int .i64 stage, .int .i64 fr.xNext, .slice A2 fr.xMessages.length c2, .int .i64 tt.xNext, .slice A4 tt.xMessages.length c4, .slice A5 wt.length c5] 78)).alloc (.cells #[.int .i64 0, .int .i64 0, .slice none 0 0, .int .i64 0, .slice none 0 0, .slice none 0 0] 78)) w1 := hb1.mono (by simp)
    have hsz1 := hbw.size
    simp at hsz1
    have hB : Below W.heap.size W w1 := (((Below.refl _ _).alloc (Nat.le_refl _) _).alloc (by simp) _).trans (hbw.mono (by omega))
    have xr : Bx w1 (W.heap.size + 1) #[.int .i64 0, .int .i64 0, .slice none 0 0, .int .i64 0, .slice none 0 0, .slice none 0 0] 78 := (Bx.new2 W _ _ _).below hbw (by omega)
    have r0 := xr.cell 0 rfl
    have g0 := xr.free 0
    have r1 := xr.cell 1 rfl
    have g1 := xr.free 1
    have r2 := xr.cell 2 rfl
    have g2 := xr.free 2
    have r3 := xr.cell 3 rfl
    have g3 := xr.free 3
    have r4 := xr.cell 4 rfl
    have g4 := xr.free 4
    have r5 := xr.cell 5 rfl
    have g5 := xr.free 5
    have hsr := xr.lt
    have xb : Bx w1 W.heap.size #[.int .i64 stage, .int .i64 fr.xNext, .slice A2 fr.xMessages.length c2, .int .i64 tt.xNext, .slice A4 tt.xMessages.length c4, .slice A5 wt.length c5] 78 := ((Bx.new W _ _).alloc _).below hbw (by omega)
    have b0 := xb.cell 0 rfl
    have b1 := xb.cell 1 rfl
    have b2 := xb.cell 2 rfl
    have b3 := xb.cell 3 rfl
    have b4 := xb.cell 4 rfl
    have b5 := xb.cell 5 rfl
    have hsb := xb.lt
    go_wp2
    exact bodyPost_ret (v := .tuple #[.agg #[.int .i64 0, .int .i64 0, .slice none 0 0, .int .i64 0, .slice none 0 0, .slice none 0 0], .bool false]) (by simp [results, Try.results72, go_sem, r0, r1, r2, r3, r4, r5, g0, g1, g2, g3, g4, g5, hsr]) rfl (madeHB_no HX.out (by (repeat (first | with_reducible assumption | with_reducible exact Below.refl _ _ | with_reducible refine Below.setCell ?_ ?_ _ | with_reducible refine Below.alloc ?_ ?_ _ | with_reducible refine Below.drew ?_ | with_reducible refine below_drewN ?_ _ | omega | (simp; done) | (simp; omega))); all_goals first | omega | (simp; done) | (simp; omega)))
theorem FreezeHand_lawI (x : Hand) (us : List Value) (W : World) (hr : RoL W (Lo W.heap.size) (Hand.d true x) us) (hz : Hand.z x ≤ 1048576) : Calls Try.prog 56 #[.agg us.toArray] W fun e w' =>
    ∃ us F, e = .returned (.tuple #[.agg us.toArray, .bool (FreezeHand_f x).2]) ∧ OwL w' (Hand.d true (FreezeHand_f x).1) us F ∧ (∀ b, F b → W.heap.size ≤ b) ∧ Below W.heap.size W w' :=
  impl_FreezeHand x us W hr (Hand.fit_of hz)
theorem FreezeHand_lawS (x : Hand) (us : List Value) (W : World) (hr : RoL W (Lo W.heap.size) (Hand.d true x) us) (hz : Hand.z x ≤ 1048576) : Calls Try.prog 72 #[.agg us.toArray] W fun e w' =>
    ∃ us, e = .returned (.tuple #[.agg us.toArray, .bool (FreezeHand_f x).2]) ∧ RoL w' (Lo w'.heap.size) (Hand.d true (FreezeHand_f x).1) us ∧ Below W.heap.size W w' :=
  (spec_FreezeHand x us W hr (Hand.fit_of hz)).mono fun e w' h => h.lawS
theorem FreezeHand_lawN (x : Hand) (hz : Hand.z x ≤ 1048576) : Hand.sn (FreezeHand_f x).1 ≤ 1000000000000 := changed_sn _ x
end Go.Proofs.Ytmofbfeclecdoaa

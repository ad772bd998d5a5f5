/- BreakHand's own copy, and its law. -/
import Derived.Test.YtmofbfeclecdoaaBrk
namespace Go.Proofs.Ytmofbfeclecdoaa
open Go.ChangeShapes Go.WideShapes Go.ChangeAt Go.RowKit Go.Dt
set_option linter.unusedVariables false
set_option linter.unusedSimpArgs false
set_option maxHeartbeats 1600000 in
set_option maxRecDepth 100000 in
theorem spec_BreakHand (h : Hand) (us : List Value) (W : World) (hr : RoL W (Lo W.heap.size) (Hand.d true h) us) (hf : h.fit) :
    Calls Try.prog 73 #[.agg us.toArray] W (MadeHB W (BreakHand_f h)) := by
  obtain ⟨A2, c2, A4, c4, A5, c5, rfl, rd2, l2, m2, rd4, l4, m4, rd5, l5, m5⟩ := Hand.cells hr
  obtain ⟨stage, fr, tt, wt⟩ := h
  simp only at *
  have HV := fun (w : World) (xb : Bx w W.heap.size #[.int .i64 stage, .int .i64 fr.xNext, .slice A2 fr.xMessages.length c2, .int .i64 tt.xNext, .slice A4 tt.xMessages.length c4, .slice A5 wt.length c5] 78) (hb : Below W.heap.size W w) => spec_l10Is ⟨stage, fr, tt, wt⟩ W.heap.size 0 A2 A4 A5 c2 c4 c5 w (xb.cell 0 rfl) (xb.cell 1 rfl) (xb.cell 2 rfl) (xb.cell 3 rfl) (xb.cell 4 rfl) (xb.cell 5 rfl) (ro_to rd2 hb) (ro_to rd4 hb) (ro_to rd5 hb) hf
  cases ho : Hand.ok ⟨stage, fr, tt, wt⟩
  · have HX := Lib.hid (show BreakHand_f ⟨stage, fr, tt, wt⟩ = (Hand.zero, false) from if_neg (by rw [ho]; simp))
    rw [ho] at HV
    clear ho
    go_enter Try.func73, Try.ntmps73
    go_wp2_with fail
    refine (HV _ ((Bx.new _ _ _).alloc _) (by (repeat (first | with_reducible assumption | with_reducible exact Below.refl _ _ | with_reducible refine Below.setCell ?_ ?_ _ | with_reducible refine Below.alloc ?_ ?_ _ | with_reducible refine Below.drew ?_ | with_reducible refine below_drewN ?_ _ | omega | (simp; done) | (simp; omega))); all_goals first | omega | (simp; done) | (simp; omega))).mono ?_
    rintro e w1 ⟨rfl, hb1⟩
    have hbw : Below (W.heap.size + 2) ((W.alloc (.cells #[.int .i64 stage, .int .i64 fr.xNext, .slice A2 fr.xMessages.length c2, .int .i64 tt.xNext, .slice A4 tt.xMessages.length c4, .slice A5 wt.length c5] 78)).alloc (.cells #[.int .i64 0, .int .i64 0, .slice none 0 0, .int .i64 0, .slice none 0 0, .slice none 0 0] 78)) w1 := hb1.mono (by simp)
    have hsz1 := hbw.size
    simp at hsz1
    have hB : Below W.heap.size W w1 := (((Below.refl _ _).alloc (Nat.le_refl _) _).alloc (by simp) _).trans (hbw.mono (by omega))
    have xr : Bx w1 (W.heap.size + 1) #[.int .i64 0, .int .i64 0, .slice none 0 0, .int .i64 0, .slice none 0 0, .slice none 0 0] 78 := (Bx.new2 W _ _ _).below hbw (by omega)
    have r0 := xr.cell 0 rfl
    have g0 := xr.free 0
    have r1 := xr.cell 1 rfl
    have g1 := xr.free 1
    have r2 := xr.cell 2 rfl
    have g2 := xr.free 2
    have r3 := xr.cell 3 rfl
    have g3 := xr.free 3
    have r4 := xr.cell 4 rfl
    have g4 := xr.free 4
    have r5 := xr.cell 5 rfl
    have g5 := xr.free 5
    have hsr := xr.lt
    have xb : Bx w1 W.heap.size #[.int .i64 stage, .int .i64 fr.xNext, .slice A2 fr.xMessages.length c2, .int .i64 tt.xNext, .slice A4 tt.xMessages.length c4, .slice A5 wt.length c5] 78 := ((Bx.new W _ _).alloc _).below hbw (by omega)
    have b0 := xb.cell 0 rfl
    have b1 := xb.cell 1 rfl
    have b2 := xb.cell 2 rfl
    have b3 := xb.cell 3 rfl
    have b4 := xb.cell 4 rfl
    have b5 := xb.cell 5 rfl
    have hsb := xb.lt
    go_wp2
    exact bodyPost_ret (v := .tuple #[.agg #[.int .i64 0, .int .i64 0, .slice none 0 0, .int .i64 0, .slice none 0 0, .slice none 0 0], .bool false]) (by simp [results, Try.results73, go_sem, r0, r1, r2, r3, r4, r5, g0, g1, g2, g3, g4, g5, hsr]) rfl (madeHB_no HX.out (by (repeat (first | with_reducible assumption | with_reducible exact Below.refl _ _ | with_reducible refine Below.setCell ?_ ?_ _ | with_reducible refine Below.alloc ?_ ?_ _ | with_reducible refine Below.drew ?_ | with_reducible refine below_drewN ?_ _ | omega | (simp; done) | (simp; omega))); all_goals first | omega | (simp; done) | (simp; omega)))
  have hfo := Hand.ok_logs ho
  have hsd := Hand.ok_said ho
  simp only at hsd hfo
  obtain ⟨x, hx⟩ : ∃ x, said fr wt = (x, true) := ⟨_, Prod.ext rfl hsd⟩
  have hok : Hand.ok ⟨0, x, ⟨1, []⟩, []⟩ = true := by
    rw [begin_ok]
    unfold Hand.ok at ho
    simp only [Bool.and_eq_true] at ho
    unfold said at hx
    split at hx
    · rename_i y hy
      cases hx
      exact say_ok ho.1 hy
    · cases hx
  clear hsd
  by_cases s1 : stage = 1
  · subst s1
    have HX := Lib.hid (show BreakHand_f ⟨1, fr, tt, wt⟩ = (⟨0, x, ⟨1, []⟩, []⟩, true) from by
      have e : BreakHand_c ⟨1, fr, tt, wt⟩ = (⟨0, x, ⟨1, []⟩, []⟩, true) := by unfold BreakHand_c; rw [show said (Hand.xFrom ⟨1, fr, tt, wt⟩) (Hand.xWaiting ⟨1, fr, tt, wt⟩) = (x, true) from hx]; rfl
      unfold BreakHand_f changed
      rw [e, ho, if_pos ⟨rfl, rfl, hok⟩])
    have HC := fun (w : World) (xb : Bx w W.heap.size #[.int .i64 1, .int .i64 fr.xNext, .slice A2 fr.xMessages.length c2, .int .i64 tt.xNext, .slice A4 tt.xMessages.length c4, .slice A5 wt.length c5] 78) (hb : Below W.heap.size W w) => spec_l10Say fr wt W.heap.size 1 A2 c2 A5 c5 w (xb.cell 1 rfl) (xb.cell 2 rfl) (ro_to rd2 hb) hfo.1 (ro_to rd5 hb) hf.2.2.1 hf.2.2.2.2.2
    simp only [hx] at HC
    clear hx hok
    rw [ho] at HV
    clear ho
    go_enter Try.func73, Try.ntmps73
    go_wp2_with fail
    refine (HV _ ((Bx.new _ _ _).alloc _) (by (repeat (first | with_reducible assumption | with_reducible exact Below.refl _ _ | with_reducible refine Below.setCell ?_ ?_ _ | with_reducible refine Below.alloc ?_ ?_ _ | with_reducible refine Below.drew ?_ | with_reducible refine below_drewN ?_ _ | omega | (simp; done) | (simp; omega))); all_goals first | omega | (simp; done) | (simp; omega))).mono ?_
    rintro e w1 ⟨rfl, hb1⟩
    have hbw : Below (W.heap.size + 2) ((W.alloc (.cells #[.int .i64 1, .int .i64 fr.xNext, .slice A2 fr.xMessages.length c2, .int .i64 tt.xNext, .slice A4 tt.xMessages.length c4, .slice A5 wt.length c5] 78)).alloc (.cells #[.int .i64 0, .int .i64 0, .slice none 0 0, .int .i64 0, .slice none 0 0, .slice none 0 0] 78)) w1 := hb1.mono (by simp)
    have hsz1 := hbw.size
    simp at hsz1
    have hB : Below W.heap.size W w1 := (((Below.refl _ _).alloc (Nat.le_refl _) _).alloc (by simp) _).trans (hbw.mono (by omega))
    have xr : Bx w1 (W.heap.size + 1) #[.int .i64 0, .int .i64 0, .slice none 0 0, .int .i64 0, .slice none 0 0, .slice none 0 0] 78 := (Bx.new2 W _ _ _).below hbw (by omega)
    have r0 := xr.cell 0 rfl
    have g0 := xr.free 0
    have r1 := xr.cell 1 rfl
    have g1 := xr.free 1
    have r2 := xr.cell 2 rfl
    have g2 := xr.free 2
    have r3 := xr.cell 3 rfl
    have g3 := xr.free 3
    have r4 := xr.cell 4 rfl
    have g4 := xr.free 4
    have r5 := xr.cell 5 rfl
    have g5 := xr.free 5
    have hsr := xr.lt
    have xb : Bx w1 W.heap.size #[.int .i64 1, .int .i64 fr.xNext, .slice A2 fr.xMessages.length c2, .int .i64 tt.xNext, .slice A4 tt.xMessages.length c4, .slice A5 wt.length c5] 78 := ((Bx.new W _ _).alloc _).below hbw (by omega)
    have b0 := xb.cell 0 rfl
    have b1 := xb.cell 1 rfl
    have b2 := xb.cell 2 rfl
    have b3 := xb.cell 3 rfl
    have b4 := xb.cell 4 rfl
    have b5 := xb.cell 5 rfl
    have hsb := xb.lt
    go_wp2_with fail
    refine (HC w1 xb hB).mono ?_
    clear r0 g0 b0 r1 g1 b1 r2 g2 b2 r3 g3 b3 r4 g4 b4 r5 g5 b5 hsr xr xb hsb hB
    rintro e w2 ⟨A9, n9, c9, F9, rfl, hO9, hb2, hF2⟩
    have hlo : ∀ b, F9 b → W.heap.size + 2 ≤ b ∧ b < w2.heap.size := fun b h => ⟨by have := hF2 b h; omega, hO9.lt b h⟩
    have hbw2 := hbw.trans (hb2.mono (by omega))
    have hsz2 := hb2.size
    clear hF2
    go_upto_region 6 with fail
    refine wp_any (fun w3 => Below w2.heap.size w2 w3 ∧ Bx w3 w2.heap.size #[.int .i64 x.xNext, .slice A9 n9 c9] 41) ⟨(by (repeat (first | with_reducible assumption | with_reducible exact Below.refl _ _ | with_reducible refine Below.setCell ?_ ?_ _ | with_reducible refine Below.alloc ?_ ?_ _ | with_reducible refine Below.drew ?_ | with_reducible refine below_drewN ?_ _ | omega | (simp; done) | (simp; omega))); all_goals first | omega | (simp; done) | (simp; omega)), Bx.new w2 _ _⟩ ?_
    rintro w3 ⟨hb3, xp⟩
    have hbw3 := hbw2.trans (hb3.mono (by omega))
    have hsz3 := hb3.size
    have hO3 := hO9.keep hb3
    have HP := Lib.hid (show ∀ w', Bx w' w2.heap.size #[.int .i64 x.xNext, .slice A9 n9 c9] 41 → (fun w' => w'.cell? ⟨w2.heap.size, 0, none⟩ = some (.int .i64 x.xNext) ∧ w'.cell? ⟨w2.heap.size, 1, none⟩ = some (.slice A9 n9 c9)) w' from fun w' h => ⟨h.cell 0 rfl, h.cell 1 rfl⟩)
    have hpg : w2.heap.size ≠ W.heap.size + 1 := by omega
    go_region_held3 (fun w' => w'.cell? ⟨w2.heap.size, 0, none⟩ = some (.int .i64 x.xNext) ∧ w'.cell? ⟨w2.heap.size, 1, none⟩ = some (.slice A9 n9 c9))
      (((refine HP.out _ ?_); (repeat (first | (with_reducible refine Bx.far ?_ hpg _) | (with_reducible refine Bx.alloc ?_ _) | (with_reducible refine Bx.drew ?_))); (first | (with_reducible exact xp4) | (with_reducible exact xp) | (with_reducible exact xp.drew))))
      ((go_at_call 144; (with_reducible refine (spec_l10None _).mono ?_); rintro e w4 ⟨⟨A4', rfl⟩, hb4⟩; have hk4 : Below w3.heap.size w3 w4 := (by first | exact hb4 | exact (below_drew1 w3).trans (hb4.mono (Nat.le_refl _)) | exact (((below_drew1 w3).alloc (Nat.le_refl _) _).trans (hb4.mono (by simp))) | exact ((((Below.refl _ _).alloc (Nat.le_refl _) _).drew).trans (hb4.mono (by show _ ≤ (w3.alloc _).heap.size; simp)))); have xp4 := xp.below hk4 xp.lt; have hbw4 := hbw3.trans (hk4.mono (by omega)); have xr4 : Bx w4 (W.heap.size + 1) #[.int .i64 0, .int .i64 0, .slice none 0 0, .int .i64 0, .slice none 0 0, .slice none 0 0] 78 := (Bx.new2 W _ _ _).below hbw4 (by omega); have r0 := xr4.cell 0 rfl; have g0 := xr4.free 0; have r1 := xr4.cell 1 rfl; have g1 := xr4.free 1; have r2 := xr4.cell 2 rfl; have g2 := xr4.free 2; have r3 := xr4.cell 3 rfl; have g3 := xr4.free 3; have r4 := xr4.cell 4 rfl; have g4 := xr4.free 4; have r5 := xr4.cell 5 rfl; have g5 := xr4.free 5; have hsr := xr4.lt))
    all_goals
      have hO4 := hO3.keep hk4
      have hB : Below W.heap.size W w4 := (((Below.refl _ _).alloc (Nat.le_refl _) _).alloc (by simp) _).trans (hbw4.mono (by omega))
      have hsz4 := hk4.size
      go_wp2
      first | (refine bodyPost_ret (v := .tuple #[.agg #[.int .i64 0, .int .i64 x.xNext, .slice A9 n9 c9, .int .i64 1, .slice A4' 0 0, .slice (some ⟨w4.heap.size, 0, none⟩) 0 0], .bool true]) ?_ rfl ⟨_, (fun b => F9 b ∨ (False ∨ False)), by rw [HX.out], ?_, fun b h => ?_, (by (repeat (first | with_reducible assumption | with_reducible exact Below.refl _ _ | with_reducible refine Below.setCell ?_ ?_ _ | with_reducible refine Below.alloc ?_ ?_ _ | with_reducible refine Below.drew ?_ | with_reducible refine below_drewN ?_ _ | omega | (simp; done) | (simp; omega))); all_goals first | omega | (simp; done) | (simp; omega))⟩; focus (simp [results, Try.results73, go_sem, r0, r1, r2, r3, r4, r5, g0, g1, g2, g3, g4, g5, hsr]; done)) | (refine bodyPost_ret (v := .tuple #[.agg #[.int .i64 0, .int .i64 x.xNext, .slice A9 n9 c9, .int .i64 1, .slice A4' 0 0, .slice (some ⟨w3.heap.size, 0, none⟩) 0 0], .bool true]) ?_ rfl ⟨_, (fun b => F9 b ∨ (False ∨ False)), by rw [HX.out], ?_, fun b h => ?_, (by (repeat (first | with_reducible assumption | with_reducible exact Below.refl _ _ | with_reducible refine Below.setCell ?_ ?_ _ | with_reducible refine Below.alloc ?_ ?_ _ | with_reducible refine Below.drew ?_ | with_reducible refine below_drewN ?_ _ | omega | (simp; done) | (simp; omega))); all_goals first | omega | (simp; done) | (simp; omega))⟩; focus (simp [results, Try.results73, go_sem, r0, r1, r2, r3, r4, r5, g0, g1, g2, g3, g4, g5, hsr]; done))
      · rw [HX.out]
        refine Hand.own_mk (h := ⟨0, x, ⟨1, []⟩, []⟩) (F2 := F9) ?_ (msgs_own_nil _ _) (drafts_nil _ _) (fun b _ h => h) (fun b _ h => h) (fun b h => h.elim)
        repeat (first | (with_reducible refine Ow.alloc ?_ _) | (with_reducible refine Ow.far ?_ (fun h => by have hq := hlo _ h; first | omega | (dsimp only at hq; omega) | (simp at hq; done) | (simp at hq; omega)) _))
        exact hO4
      · rcases h with h | h | h
        · have := hlo b h; omega
        · exact h.elim
        · exact h.elim
  by_cases s1 : stage = 2
  · subst s1
    have HX := Lib.hid (show BreakHand_f ⟨2, fr, tt, wt⟩ = (⟨0, x, ⟨1, []⟩, []⟩, true) from by
      have e : BreakHand_c ⟨2, fr, tt, wt⟩ = (⟨0, x, ⟨1, []⟩, []⟩, true) := by unfold BreakHand_c; rw [show said (Hand.xFrom ⟨2, fr, tt, wt⟩) (Hand.xWaiting ⟨2, fr, tt, wt⟩) = (x, true) from hx]; rfl
      unfold BreakHand_f changed
      rw [e, ho, if_pos ⟨rfl, rfl, hok⟩])
    have HC := fun (w : World) (xb : Bx w W.heap.size #[.int .i64 2, .int .i64 fr.xNext, .slice A2 fr.xMessages.length c2, .int .i64 tt.xNext, .slice A4 tt.xMessages.length c4, .slice A5 wt.length c5] 78) (hb : Below W.heap.size W w) => spec_l10Say fr wt W.heap.size 1 A2 c2 A5 c5 w (xb.cell 1 rfl) (xb.cell 2 rfl) (ro_to rd2 hb) hfo.1 (ro_to rd5 hb) hf.2.2.1 hf.2.2.2.2.2
    simp only [hx] at HC
    clear hx hok
    rw [ho] at HV
    clear ho
    go_enter Try.func73, Try.ntmps73
    go_wp2_with fail
    refine (HV _ ((Bx.new _ _ _).alloc _) (by (repeat (first | with_reducible assumption | with_reducible exact Below.refl _ _ | with_reducible refine Below.setCell ?_ ?_ _ | with_reducible refine Below.alloc ?_ ?_ _ | with_reducible refine Below.drew ?_ | with_reducible refine below_drewN ?_ _ | omega | (simp; done) | (simp; omega))); all_goals first | omega | (simp; done) | (simp; omega))).mono ?_
    rintro e w1 ⟨rfl, hb1⟩
    have hbw : Below (W.heap.size + 2) ((W.alloc (.cells #[.int .i64 2, .int .i64 fr.xNext, .slice A2 fr.xMessages.length c2, .int .i64 tt.xNext, .slice A4 tt.xMessages.length c4, .slice A5 wt.length c5] 78)).alloc (.cells #[.int .i64 0, .int .i64 0, .slice none 0 0, .int .i64 0, .slice none 0 0, .slice none 0 0] 78)) w1 := hb1.mono (by simp)
    have hsz1 := hbw.size
    simp at hsz1
    have hB : Below W.heap.size W w1 := (((Below.refl _ _).alloc (Nat.le_refl _) _).alloc (by simp) _).trans (hbw.mono (by omega))
    have xr : Bx w1 (W.heap.size + 1) #[.int .i64 0, .int .i64 0, .slice none 0 0, .int .i64 0, .slice none 0 0, .slice none 0 0] 78 := (Bx.new2 W _ _ _).below hbw (by omega)
    have r0 := xr.cell 0 rfl
    have g0 := xr.free 0
    have r1 := xr.cell 1 rfl
    have g1 := xr.free 1
    have r2 := xr.cell 2 rfl
    have g2 := xr.free 2
    have r3 := xr.cell 3 rfl
    have g3 := xr.free 3
    have r4 := xr.cell 4 rfl
    have g4 := xr.free 4
    have r5 := xr.cell 5 rfl
    have g5 := xr.free 5
    have hsr := xr.lt
    have xb : Bx w1 W.heap.size #[.int .i64 2, .int .i64 fr.xNext, .slice A2 fr.xMessages.length c2, .int .i64 tt.xNext, .slice A4 tt.xMessages.length c4, .slice A5 wt.length c5] 78 := ((Bx.new W _ _).alloc _).below hbw (by omega)
    have b0 := xb.cell 0 rfl
    have b1 := xb.cell 1 rfl
    have b2 := xb.cell 2 rfl
    have b3 := xb.cell 3 rfl
    have b4 := xb.cell 4 rfl
    have b5 := xb.cell 5 rfl
    have hsb := xb.lt
    go_wp2_with fail
    refine (HC w1 xb hB).mono ?_
    clear r0 g0 b0 r1 g1 b1 r2 g2 b2 r3 g3 b3 r4 g4 b4 r5 g5 b5 hsr xr xb hsb hB
    rintro e w2 ⟨A9, n9, c9, F9, rfl, hO9, hb2, hF2⟩
    have hlo : ∀ b, F9 b → W.heap.size + 2 ≤ b ∧ b < w2.heap.size := fun b h => ⟨by have := hF2 b h; omega, hO9.lt b h⟩
    have hbw2 := hbw.trans (hb2.mono (by omega))
    have hsz2 := hb2.size
    clear hF2
    go_upto_region 6 with fail
    refine wp_any (fun w3 => Below w2.heap.size w2 w3 ∧ Bx w3 w2.heap.size #[.int .i64 x.xNext, .slice A9 n9 c9] 41) ⟨(by (repeat (first | with_reducible assumption | with_reducible exact Below.refl _ _ | with_reducible refine Below.setCell ?_ ?_ _ | with_reducible refine Below.alloc ?_ ?_ _ | with_reducible refine Below.drew ?_ | with_reducible refine below_drewN ?_ _ | omega | (simp; done) | (simp; omega))); all_goals first | omega | (simp; done) | (simp; omega)), Bx.new w2 _ _⟩ ?_
    rintro w3 ⟨hb3, xp⟩
    have hbw3 := hbw2.trans (hb3.mono (by omega))
    have hsz3 := hb3.size
    have hO3 := hO9.keep hb3
    have HP := Lib.hid (show ∀ w', Bx w' w2.heap.size #[.int .i64 x.xNext, .slice A9 n9 c9] 41 → (fun w' => w'.cell? ⟨w2.heap.size, 0, none⟩ = some (.int .i64 x.xNext) ∧ w'.cell? ⟨w2.heap.size, 1, none⟩ = some (.slice A9 n9 c9)) w' from fun w' h => ⟨h.cell 0 rfl, h.cell 1 rfl⟩)
    have hpg : w2.heap.size ≠ W.heap.size + 1 := by omega
    go_region_held3 (fun w' => w'.cell? ⟨w2.heap.size, 0, none⟩ = some (.int .i64 x.xNext) ∧ w'.cell? ⟨w2.heap.size, 1, none⟩ = some (.slice A9 n9 c9))
      (((refine HP.out _ ?_); (repeat (first | (with_reducible refine Bx.far ?_ hpg _) | (with_reducible refine Bx.alloc ?_ _) | (with_reducible refine Bx.drew ?_))); (first | (with_reducible exact xp4) | (with_reducible exact xp) | (with_reducible exact xp.drew))))
      ((go_at_call 144; (with_reducible refine (spec_l10None _).mono ?_); rintro e w4 ⟨⟨A4', rfl⟩, hb4⟩; have hk4 : Below w3.heap.size w3 w4 := (by first | exact hb4 | exact (below_drew1 w3).trans (hb4.mono (Nat.le_refl _)) | exact (((below_drew1 w3).alloc (Nat.le_refl _) _).trans (hb4.mono (by simp))) | exact ((((Below.refl _ _).alloc (Nat.le_refl _) _).drew).trans (hb4.mono (by show _ ≤ (w3.alloc _).heap.size; simp)))); have xp4 := xp.below hk4 xp.lt; have hbw4 := hbw3.trans (hk4.mono (by omega)); have xr4 : Bx w4 (W.heap.size + 1) #[.int .i64 0, .int .i64 0, .slice none 0 0, .int .i64 0, .slice none 0 0, .slice none 0 0] 78 := (Bx.new2 W _ _ _).below hbw4 (by omega); have r0 := xr4.cell 0 rfl; have g0 := xr4.free 0; have r1 := xr4.cell 1 rfl; have g1 := xr4.free 1; have r2 := xr4.cell 2 rfl; have g2 := xr4.free 2; have r3 := xr4.cell 3 rfl; have g3 := xr4.free 3; have r4 := xr4.cell 4 rfl; have g4 := xr4.free 4; have r5 := xr4.cell 5 rfl; have g5 := xr4.free 5; have hsr := xr4.lt))
    all_goals
      have hO4 := hO3.keep hk4
      have hB : Below W.heap.size W w4 := (((Below.refl _ _).alloc (Nat.le_refl _) _).alloc (by simp) _).trans (hbw4.mono (by omega))
      have hsz4 := hk4.size
      go_wp2
      first | (refine bodyPost_ret (v := .tuple #[.agg #[.int .i64 0, .int .i64 x.xNext, .slice A9 n9 c9, .int .i64 1, .slice A4' 0 0, .slice (some ⟨w4.heap.size, 0, none⟩) 0 0], .bool true]) ?_ rfl ⟨_, (fun b => F9 b ∨ (False ∨ False)), by rw [HX.out], ?_, fun b h => ?_, (by (repeat (first | with_reducible assumption | with_reducible exact Below.refl _ _ | with_reducible refine Below.setCell ?_ ?_ _ | with_reducible refine Below.alloc ?_ ?_ _ | with_reducible refine Below.drew ?_ | with_reducible refine below_drewN ?_ _ | omega | (simp; done) | (simp; omega))); all_goals first | omega | (simp; done) | (simp; omega))⟩; focus (simp [results, Try.results73, go_sem, r0, r1, r2, r3, r4, r5, g0, g1, g2, g3, g4, g5, hsr]; done)) | (refine bodyPost_ret (v := .tuple #[.agg #[.int .i64 0, .int .i64 x.xNext, .slice A9 n9 c9, .int .i64 1, .slice A4' 0 0, .slice (some ⟨w3.heap.size, 0, none⟩) 0 0], .bool true]) ?_ rfl ⟨_, (fun b => F9 b ∨ (False ∨ False)), by rw [HX.out], ?_, fun b h => ?_, (by (repeat (first | with_reducible assumption | with_reducible exact Below.refl _ _ | with_reducible refine Below.setCell ?_ ?_ _ | with_reducible refine Below.alloc ?_ ?_ _ | with_reducible refine Below.drew ?_ | with_reducible refine below_drewN ?_ _ | omega | (simp; done) | (simp; omega))); all_goals first | omega | (simp; done) | (simp; omega))⟩; focus (simp [results, Try.results73, go_sem, r0, r1, r2, r3, r4, r5, g0, g1, g2, g3, g4, g5, hsr]; done))
      · rw [HX.out]
        refine Hand.own_mk (h := ⟨0, x, ⟨1, []⟩, []⟩) (F2 := F9) ?_ (msgs_own_nil _ _) (drafts_nil _ _) (fun b _ h => h) (fun b _ h => h) (fun b h => h.elim)
        repeat (first | (with_reducible refine Ow.alloc ?_ _) | (with_reducible refine Ow.far ?_ (fun h => by have hq := hlo _ h; first | omega | (dsimp only at hq; omega) | (simp at hq; done) | (simp at hq; omega)) _))
        exact hO4
      · rcases h with h | h | h
        · have := hlo b h; omega
        · exact h.elim
        · exact h.elim
  rename_i s0
  have HX := Lib.hid (show BreakHand_f ⟨stage, fr, tt, wt⟩ = (Hand.zero, false) from if_neg (by simp [BreakHand_c, s1, s0]))
  have t1 : (stage == 1) = false := by simp [s0]
  have t2 : (stage != 1) = true := by simp [s0]
  have t3 : (stage == 2) = false := by simp [s1]
  have t4 : (stage != 2) = true := by simp [s1]
  clear s1 s0 hx hok hfo
  rw [ho] at HV
  clear ho
  go_enter Try.func73, Try.ntmps73
  go_wp2_with fail
  refine (HV _ ((Bx.new _ _ _).alloc _) (by (repeat (first | with_reducible assumption | with_reducible exact Below.refl _ _ | with_reducible refine Below.setCell ?_ ?_ _ | with_reducible refine Below.alloc ?_ ?_ _ | with_reducible refine Below.drew ?_ | with_reducible refine below_drewN ?_ _ | omega | (simp; done) | (simp; omega))); all_goals first | omega | (simp; done) | (simp; omega))).mono ?_
  rintro e w1 ⟨rfl, hb1⟩
  have hbw : Below (W.heap.size + 2) ((W.alloc (.cells #[.int .i64 stage, .int .i64 fr.xNext, .slice A2 fr.xMessages.length c2, .int .i64 tt.xNext, .slice A4 tt.xMessages.length c4, .slice A5 wt.length c5] 78)).alloc (.cells #[.int .i64 0, .int .i64 0, .slice none 0 0, .int .i64 0, .slice none 0 0, .slice none 0 0] 78)) w1 := hb1.mono (by simp)
  have hsz1 := hbw.size
  simp at hsz1
  have hB : Below W.heap.size W w1 := (((Below.refl _ _).alloc (Nat.le_refl _) _).alloc (by simp) _).trans (hbw.mono (by omega))
  have xr : Bx w1 (W.heap.size + 1) #[.int .i64 0, .int .i64 0, .slice none 0 0, .int .i64 0, .slice none 0 0, .slice none 0 0] 78 := (Bx.new2 W _ _ _).below hbw (by omega)
  have r0 := xr.cell 0 rfl
  have g0 := xr.free 0
  have r1 := xr.cell 1 rfl
  have g1 := xr.free 1
  have r2 := xr.cell 2 rfl
  have g2 := xr.free 2
  have r3 := xr.cell 3 rfl
  have g3 := xr.free 3
  have r4 := xr.cell 4 rfl
  have g4 := xr.free 4
  have r5 := xr.cell 5 rfl
  have g5 := xr.free 5
  have hsr := xr.lt
  have xb : Bx w1 W.heap.size #[.int .i64 stage, .int .i64 fr.xNext, .slice A2 fr.xMessages.length c2, .int .i64 tt.xNext, .slice A4 tt.xMessages.length c4, .slice A5 wt.length c5] 78 := ((Bx.new W _ _).alloc _).below hbw (by omega)
  have b0 := xb.cell 0 rfl
  have b1 := xb.cell 1 rfl
  have b2 := xb.cell 2 rfl
  have b3 := xb.cell 3 rfl
  have b4 := xb.cell 4 rfl
  have b5 := xb.cell 5 rfl
  have hsb := xb.lt
  go_wp2
  exact bodyPost_ret (v := .tuple #[.agg #[.int .i64 0, .int .i64 0, .slice none 0 0, .int .i64 0, .slice none 0 0, .slice none 0 0], .bool false]) (by simp [results, Try.results73, go_sem, r0, r1, r2, r3, r4, r5, g0, g1, g2, g3, g4, g5, hsr]) rfl (madeHB_no HX.out (by (repeat (first | with_reducible assumption | with_reducible exact Below.refl _ _ | with_reducible refine Below.setCell ?_ ?_ _ | with_reducible refine Below.alloc ?_ ?_ _ | with_reducible refine Below.drew ?_ | with_reducible refine below_drewN ?_ _ | omega | (simp; done) | (simp; omega))); all_goals first | omega | (simp; done) | (simp; omega)))
theorem BreakHand_lawI (x : Hand) (us : List Value) (W : World) (hr : RoL W (Lo W.heap.size) (Hand.d true x) us) (hz : Hand.z x ≤ 1048576) : Calls Try.prog 58 #[.agg us.toArray] W fun e w' =>
    ∃ us F, e = .returned (.tuple #[.agg us.toArray, .bool (BreakHand_f x).2]) ∧ OwL w' (Hand.d true (BreakHand_f x).1) us F ∧ (∀ b, F b → W.heap.size ≤ b) ∧ Below W.heap.size W w' :=
  impl_BreakHand x us W hr (Hand.fit_of hz)
theorem BreakHand_lawS (x : Hand) (us : List Value) (W : World) (hr : RoL W (Lo W.heap.size) (Hand.d true x) us) (hz : Hand.z x ≤ 1048576) : Calls Try.prog 73 #[.agg us.toArray] W fun e w' =>
    ∃ us, e = .returned (.tuple #[.agg us.toArray, .bool (BreakHand_f x).2]) ∧ RoL w' (Lo w'.heap.size) (Hand.d true (BreakHand_f x).1) us ∧ Below W.heap.size W w' :=
  (spec_BreakHand x us W hr (Hand.fit_of hz)).mono fun e w' h => h.lawS
theorem BreakHand_lawN (x : Hand) (hz : Hand.z x ≤ 1048576) : Hand.sn (BreakHand_f x).1 ≤ 1000000000000 := changed_sn _ x
end Go.Proofs.Ytmofbfeclecdoaa

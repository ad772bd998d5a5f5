/- BreakHand's own copy, and its law. -/
import Derived.Test.YtafihplbchofoaaBrk
import Derived.Deep.DeepCutAuto
import Derived.BigQuiet
/- Hands: what finishes one. -/
/- FinishHand's own copy, and its law. -/
namespace Go.Proofs.Ytafihplbchofoaa
open Go.ChangeShapes Go.WideShapes Go.ChangeAt Go.RowKit Go.Dt
set_option linter.unusedVariables false
set_option linter.unusedSimpArgs false
theorem BreakHand_lawI (x : Hand) (us : List Value) (W : World) (hr : RoL W (Lo W.heap.size) (Hand.d true x) us) (hz : Hand.z x ≤ 1048576) : Calls Try.prog 18 #[.agg us.toArray] W fun e w' =>
    ∃ us F, e = .returned (.tuple #[.agg us.toArray, .bool (BreakHand_f x).2]) ∧ OwL w' (Hand.d true (BreakHand_f x).1) us F ∧ (∀ b, F b → W.heap.size ≤ b) ∧ Below W.heap.size W w' :=
  impl_BreakHand x us W hr (Hand.fit_of hz)
end Go.Proofs.Ytafihplbchofoaa

namespace Go.Proofs.Ytafihplbchofoaa
open Go.ChangeShapes Go.WideShapes Go.ChangeAt Go.RowKit Go.Dt
set_option linter.unusedVariables false
set_option linter.unusedSimpArgs false
def FinishHand_c (h : Hand) : Hand × Bool := (⟨3, ⟨1, []⟩, (said h.xFrom h.xWaiting).1, []⟩, h.xStage == 2 && decide (h.xTo.xMessages.length = h.xFrom.xMessages.length))
def FinishHand_f (h : Hand) : Hand × Bool := changed FinishHand_c h
theorem Hand.ok_full {h : Hand} (ho : h.ok = true) (hs : h.xStage = 2) (hl : h.xTo.xMessages.length = h.xFrom.xMessages.length) : h.xTo.xMessages = h.xFrom.xMessages := by
  unfold Hand.ok at ho
  simp only [Bool.and_eq_true] at ho
  have h5 := ho.2.2.2.2
  simp only [hs, stageOk] at h5
  have h6 : copied h.xFrom h.xTo = true := by simpa using h5
  unfold copied at h6
  simp only [Bool.and_eq_true, decide_eq_true_eq] at h6
  have h7 := h6.2.1
  rw [hl, List.take_length] at h7
  exact h7.symm
set_option maxHeartbeats 1600000 in
set_option maxRecDepth 100000 in
theorem impl_FinishHand_1 (h : Hand) (w0 : World) (B g : Nat) (w : World) (ho : h.ok = true) (hf : h.fit) (hH : HandAt w0 B w g h) : Calls Try.prog 62 (#[.pointer (some ⟨g, 0, none⟩)] ++ #[]) w fun e w' => e = .returned (.bool (FinishHand_c h).2) ∧ Below B w0 w' ∧ ((FinishHand_c h).2 = true → HandAt w0 B w' g (FinishHand_c h).1) := by
  have hsd := Hand.ok_said ho
  have hfo := Hand.ok_logs ho
  have hfull := Hand.ok_full ho
  unfold FinishHand_c
  obtain ⟨stage, fr, tt, wt⟩ := h
  obtain ⟨A2, n2, c2, A4, n4, c4, A5, n5, c5, F2, F4, F5, hA0⟩ := hH
  simp only at *
  obtain rfl := Ow.len (hA0.own 0 _ _ _ rfl).1
  obtain rfl := Ow.len (hA0.own 1 _ _ _ rfl).1
  obtain rfl := Ow.len (hA0.own 2 _ _ _ rfl).1
  simp only [List.length_map] at hA0
  have xg0 := hA0.bx
  have k0 := xg0.cell 0 rfl
  have k2 := xg0.cell 2 rfl
  have k4 := xg0.cell 4 rfl
  have HSS := Lib.hid (show ∀ w', Bx w' g #[.int .i64 stage, .int .i64 fr.xNext, .slice A2 fr.xMessages.length c2, .int .i64 tt.xNext, .slice A4 tt.xMessages.length c4, .slice A5 wt.length c5] 30 → (fun w' => w'.cell? ⟨g, 0, none⟩ = some (.int .i64 stage) ∧ w'.cell? ⟨g, 2, none⟩ = some (.slice A2 fr.xMessages.length c2) ∧ w'.cell? ⟨g, 4, none⟩ = some (.slice A4 tt.xMessages.length c4)) w' from fun w' h => ⟨h.cell 0 rfl, h.cell 2 rfl, h.cell 4 rfl⟩)
  by_cases hs : stage = 2
  · by_cases hl : tt.xMessages.length = fr.xMessages.length
    · have hm : tt.xMessages = fr.xMessages := hfull hs hl
      have t1 : (stage == 2) = true := by simp [hs]
      have t3 : decide (tt.xMessages.length = fr.xMessages.length) = true := by simp [hl]
      rw [t3]
      rw [hm] at hA0 k4 HSS xg0
      clear t3 hl
      subst hs
      have HC := fun (w1 : World) (hA1 : Gain w0 B w1 [some (Message.s true fr.xMessages, .slice A2 fr.xMessages.length c2, F2), some (Message.s true fr.xMessages, .slice A4 fr.xMessages.length c4, F4), some (Draft.s true wt, .slice A5 wt.length c5, F5)] (some (g, #[.int .i64 2, .int .i64 fr.xNext, .slice A2 fr.xMessages.length c2, .int .i64 fr.xNext, .slice A4 fr.xMessages.length c4, .slice A5 wt.length c5], 30))) (w' : World) (hb : Below w1.heap.size w1 w') => impl_withDrafts fr wt [.int .i64 fr.xNext, .slice A4 fr.xMessages.length c4] A5 c5 w' (by unfold Log.d; exact RoL.cons (.int _ _) (RoL.cons (ro_to (hA1.own 1 _ _ _ rfl).1.lo hb) RoL.nil)) hfo.1 (ro_to (hA1.own 2 _ _ _ rfl).1.lo hb) hf.2.2.1 hf.2.2.2.2.2
      obtain ⟨x, hx⟩ : ∃ x, said fr wt = (x, true) := ⟨_, Prod.ext rfl hsd⟩
      simp only [hx] at HC ⊢
      have y3 := xg0.cell 3 rfl
      have k1 := xg0.cell 1 rfl
      have z3 := xg0.free 3
      have hg0 := (hA0.box _ _ _ rfl).2.1
      have hgl := xg0.lt
      have HA0 := Lib.hid hA0
      have HFO := Lib.hid (And.intro hfo hf)
      clear hfull hsd hx ho hfo hf hA0 hm
      go_enter Try.func62, Try.ntmps62
      go_wp2_with fail
      go_quiet (fail)
      all_goals
        go_upto_region 4 with fail
        refine wp_any (fun w1 => Gain w0 B w1 [some (Message.s true fr.xMessages, .slice A2 fr.xMessages.length c2, F2), some (Message.s true fr.xMessages, .slice A4 fr.xMessages.length c4, F4), some (Draft.s true wt, .slice A5 wt.length c5, F5)] (some (g, #[.int .i64 2, .int .i64 fr.xNext, .slice A2 fr.xMessages.length c2, .int .i64 fr.xNext, .slice A4 fr.xMessages.length c4, .slice A5 wt.length c5], 30))) (by first | (with_reducible exact Gain.is (HA0.out.put 3 _) rfl) | (with_reducible exact Gain.is (HA0.out.drew.put 3 _) rfl) | (with_reducible exact (Gain.is (HA0.out.put 3 _) rfl).drew) | (exact Gain.is ((HA0.out.step (below_drewN (Below.refl _ _) _)).put 3 _) rfl)) ?_
        intro w1 hA1
        have HC := HC w1 hA1
        have xg1 := hA1.bx
        have hg1 := xg1.lt
        have hle1 := hA1.le
        have HA1 := Lib.hid hA1
        have HSS := Lib.hid (show ∀ w', Below w1.heap.size w1 w' → (fun w' => Below w1.heap.size w1 w' ∧ w'.cell? ⟨g, 3, none⟩ = some (.int .i64 fr.xNext) ∧ w'.cell? ⟨g, 4, none⟩ = some (.slice A4 fr.xMessages.length c4) ∧ w'.cell? ⟨g, 5, none⟩ = some (.slice A5 wt.length c5)) w' from fun w' h => ⟨h, (h.cell (p := ⟨g, 3, none⟩) hg1).trans (xg1.cell 3 rfl), (h.cell (p := ⟨g, 4, none⟩) hg1).trans (xg1.cell 4 rfl), (h.cell (p := ⟨g, 5, none⟩) hg1).trans (xg1.cell 5 rfl)⟩)
        clear hA1 HA0 HFO k0 k1 k2 k4 y3 z3 hgl
        have hA : Gain w1 w1.heap.size w1 [none] none := Gain.start (Below.refl _ _) (Nat.le_refl _) (fun i e h => by rcases i with _ | i <;> simp at h <;> exact h.symm)
        go_cut [3, 4] (fun s3 s4 wx => ∃ p A9 n9 c9 F9, s3 = .pointer (some ⟨p, 0, none⟩) ∧ s4 = .bool true ∧ Gain w1 w1.heap.size wx [some (Message.s true x.xMessages, .slice A9 n9 c9, F9)] (some (p, #[.int .i64 x.xNext, .slice A9 n9 c9], 26)))
        case first =>
          go_region_held3 (fun w' => Below w1.heap.size w1 w' ∧ w'.cell? ⟨g, 3, none⟩ = some (.int .i64 fr.xNext) ∧ w'.cell? ⟨g, 4, none⟩ = some (.slice A4 fr.xMessages.length c4) ∧ w'.cell? ⟨g, 5, none⟩ = some (.slice A5 wt.length c5))
            (((refine HSS.out _ ?_); (repeat (with_reducible refine Below.setCell ?_ ?_ _)); (first | (with_reducible exact Gain.below hA) | (with_reducible exact Gain.below (Gain.drew hA)) | (with_reducible exact Gain.below (Gain.alloc0 hA _)) | (with_reducible exact Gain.below (Gain.alloc0 (Gain.drew hA) _)) | (with_reducible exact Gain.below (Gain.drew (Gain.alloc0 hA _)))); (all_goals (first | omega | (dsimp only; omega) | (simp; omega)))))
            ((go_at_call 63; (with_reducible refine (HC _ (by first | (with_reducible exact Gain.below hA) | (with_reducible exact Gain.below (Gain.drew hA)) | (with_reducible exact Gain.below (Gain.alloc hA _ _)) | (with_reducible exact Gain.below (Gain.alloc_drew hA _ _)) | (with_reducible exact Gain.below (Gain.drew (Gain.alloc hA _ _))) | (with_reducible exact Gain.below (Gain.alloc0 hA _)))).mono ?_); rintro e w9 ⟨A9, n9, c9, F9, rfl, hO9, hb9, hF9⟩; (first | (replace hA := Gain.call 0 hb9 hO9 hF9 hA) | (replace hA := Gain.call 0 hb9 hO9 hF9 (Gain.drew hA)) | (replace hA := Gain.call 0 hb9 hO9 hF9 (Gain.alloc hA _ _)) | (replace hA := Gain.call 0 hb9 hO9 hF9 (Gain.alloc_drew hA _ _)) | (replace hA := Gain.call 0 hb9 hO9 hF9 (Gain.drew (Gain.alloc hA _ _))) | (replace hA := Gain.call 0 hb9 hO9 hF9 (Gain.alloc0 hA _))); (try simp only [List.set_cons_zero, List.set_cons_succ] at hA); have hw9 := hA.le; (try (have xp := hA.bx; have y0 := xp.cell 0 rfl; have y1 := xp.cell 1 rfl; have z0 := xp.free 0; have z1 := xp.free 1; have hzp := xp.lt; have hbp := (hA.box _ _ _ rfl).2.1))))
          all_goals
            go_wp2_with fail
            go_meet
            refine ⟨_, A9, n9, c9, F9, rfl, rfl, ?_⟩
            first | (with_reducible exact hA.alloc _ _) | (with_reducible exact Gain.is ((hA.put 0 _).put 1 _) rfl) | (trace_state; sorry)
        case rest =>
          obtain ⟨p, A9, n9, c9, F9, rfl, rfl, hB1⟩ := hcut
          clear hA HSS HC
          have hA2 := HA1.out.step hB1.below
          have xg := hA2.bx
          have xp := hB1.bx
          have hwp := (hB1.box _ _ _ rfl).2.1
          have hpg : p ≠ g := by omega
          have hO9 := (hB1.own 0 _ _ _ rfl).1
          have hl9 : ∀ b, F9 b → w1.heap.size ≤ b := (hB1.own 0 _ _ _ rfl).2
          have HB := Lib.hid hA2.below
          have hle := hA2.le
          have HS2 := Lib.hid (show ∀ w', Bx w' p #[.int .i64 x.xNext, .slice A9 n9 c9] 26 → (fun w' => w'.cell? ⟨p, 0, none⟩ = some (.int .i64 x.xNext) ∧ w'.cell? ⟨p, 1, none⟩ = some (.slice A9 n9 c9)) w' from fun w' h => ⟨h.cell 0 rfl, h.cell 1 rfl⟩)
          clear HA1 hB1 hA2
          go_upto_region 5 with fail
          go_region_held3 (fun w' => w'.cell? ⟨p, 0, none⟩ = some (.int .i64 x.xNext) ∧ w'.cell? ⟨p, 1, none⟩ = some (.slice A9 n9 c9))
            (((refine HS2.out _ ?_); (repeat (with_reducible refine Bx.far ?_ hpg _)); (first | (with_reducible exact xp3) | (with_reducible exact xp) | (with_reducible exact xp.drew))))
            ((go_at_call 53; (with_reducible refine (impl_emptyLog _).mono ?_); rintro e w3 ⟨rfl, hb3⟩; have hk3 : Below wc.heap.size wc w3 := (by first | exact hb3 | exact (below_drew1 wc).trans (hb3.mono (Nat.le_refl _))); have xp3 := xp.below hk3 xp.lt; have xg3 := xg.below hk3 xg.lt; have q0 := xg3.cell 0 rfl; have z0 := xg3.free 0; have q1 := xg3.cell 1 rfl; have z1 := xg3.free 1; have q2 := xg3.cell 2 rfl; have z2 := xg3.free 2; have q3 := xg3.cell 3 rfl; have z3 := xg3.free 3; have q4 := xg3.cell 4 rfl; have z4 := xg3.free 4; have q5 := xg3.cell 5 rfl; have z5 := xg3.free 5; have hz3 := xg3.lt))
          have hO3 := hO9.keep hk3
          have xg4 := (((((xg3.put 0 (.int .i64 3)).put 1 (.int .i64 1)).put 2 (.slice none 0 0)).put 3 (.int .i64 x.xNext)).put 4 (.slice A9 n9 c9)).put 5 (.slice none 0 0)
          have hB3 := HB.out.trans (hk3.mono hle)
          have hsz3 := hk3.size
          have hB4 := (((((hB3.setCell (p := ⟨g, 0, none⟩) hg0 (.int .i64 3)).setCell (p := ⟨g, 1, none⟩) hg0 (.int .i64 1)).setCell (p := ⟨g, 2, none⟩) hg0 (.slice none 0 0)).setCell (p := ⟨g, 3, none⟩) hg0 (.int .i64 x.xNext)).setCell (p := ⟨g, 4, none⟩) hg0 (.slice A9 n9 c9)).setCell (p := ⟨g, 5, none⟩) hg0 (.slice none 0 0)
          go_wp2
          refine bodyPost_ret (v := .bool true) (by simp [results, Try.results62, go_sem]) rfl ⟨rfl, hB4, fun _ => ⟨none, 0, 0, A9, n9, c9, none, 0, 0, (fun _ => False), F9, (fun _ => False), Gain.three hB4 (by simp [World.setCell]; omega) (msgs_own_nil _ none) ?_ (drafts_nil _ none) (fun b h => h.elim) (fun b h => ⟨by have := hl9 b h; omega, by have := hl9 b h; omega⟩) (fun b h => h.elim) (fun b h _ => h) (fun b h _ => h) (fun b _ h => h) (xg4.is rfl) hg0⟩⟩
          repeat (with_reducible refine Ow.far ?_ (fun h => by have hq := hl9 _ h; first | omega | (dsimp only at hq; omega) | (simp at hq; done) | (simp at hq; omega)) _)
          exact hO3
    · have t1 : (stage == 2) = true := by simp [hs]
      have t2 : (stage != 2) = false := by simp [hs]
      have t3 : decide (tt.xMessages.length = fr.xMessages.length) = false := by simp [hl]
      have t4 : ((tt.xMessages.length : Int) == (fr.xMessages.length : Int)) = false := by simp; omega
      have HL := Lib.hid hl
      rw [t3]
      have hbl := hA0.below
      subst hs
      clear hl hfull hsd hfo hf ho t3
      go_enter Try.func62, Try.ntmps62
      go_wp2_with fail
      go_region_held3 (fun w' => w'.cell? ⟨g, 0, none⟩ = some (.int .i64 2) ∧ w'.cell? ⟨g, 2, none⟩ = some (.slice A2 fr.xMessages.length c2) ∧ w'.cell? ⟨g, 4, none⟩ = some (.slice A4 tt.xMessages.length c4))
        (((refine HSS.out _ ?_); (first | (with_reducible exact xg0) | (with_reducible exact xg0.drew))))
        (fail)
      all_goals
        go_wp2
        exact bodyPost_ret (v := .bool false) (by simp [results, Try.results62, go_sem]) rfl ⟨rfl, (by (repeat (first | with_reducible assumption | with_reducible exact Below.refl _ _ | with_reducible refine Below.setCell ?_ ?_ _ | with_reducible refine Below.alloc ?_ ?_ _ | with_reducible refine Below.drew ?_ | with_reducible refine below_drewN ?_ _ | omega | (simp; done) | (simp; omega))); all_goals first | omega | (simp; done) | (simp; omega)), fun h => by cases h⟩
  · have t1 : (stage == 2) = false := by simp [hs]
    have t2 : (stage != 2) = true := by simp [hs]
    have hbl := hA0.below
    rw [t1]
    clear hs hfull hsd hfo hf ho
    go_enter Try.func62, Try.ntmps62
    go_wp2_with fail
    go_quiet (fail)
    all_goals
      go_wp2
      exact bodyPost_ret (v := .bool false) (by simp [results, Try.results62, go_sem]) rfl ⟨rfl, (by (repeat (first | with_reducible assumption | with_reducible exact Below.refl _ _ | with_reducible refine Below.setCell ?_ ?_ _ | with_reducible refine Below.alloc ?_ ?_ _ | with_reducible refine Below.drew ?_ | with_reducible refine below_drewN ?_ _ | omega | (simp; done) | (simp; omega))); all_goals first | omega | (simp; done) | (simp; omega)), fun h => by cases h⟩
theorem fin_fit {h : Hand} (hf : h.fit) (ho : h.ok = true) : (FinishHand_c h).1.fit := by
  have hb := brk_fit hf ho
  exact ⟨by simp [FinishHand_c], hb.1, by simp [FinishHand_c], by simp [FinishHand_c], hb.2.2.2.1, by simp [FinishHand_c]⟩
set_option maxHeartbeats 1600000 in
set_option maxRecDepth 100000 in
theorem impl_FinishHand (h : Hand) (us : List Value) (W : World) (hr : RoL W (Lo W.heap.size) (Hand.d true h) us) (hf : h.fit) :
    Calls Try.prog 17 #[.agg us.toArray] W (MadeHB W (FinishHand_f h)) := by
  have HC := fun (w : World) (hb : Below W.heap.size W w) => impl_changedHand 62 (fun _ _ => by rfl) #[] FinishHand_c h us w (rol_to hr hb) hf (fun w0 B g w ho hH _ => impl_FinishHand_1 h w0 B g w ho hf hH) (fun ho hc => fin_fit hf ho)
  have HR := Lib.hid (show FinishHand_f h = changed FinishHand_c h from rfl)
  generalize FinishHand_f h = R at *
  obtain ⟨A2, c2, A4, c4, A5, c5, rfl, -⟩ := Hand.cells hr
  obtain ⟨stage, fr, tt, wt⟩ := h
  simp only at *
  rw [← HR.out] at HC
  clear HR hr hf
  obtain ⟨R1, R2⟩ := R
  go_enter Try.func17, Try.ntmps17
  go_wp2_with fail
  refine (HC _ (by (repeat (first | with_reducible assumption | with_reducible exact Below.refl _ _ | with_reducible refine Below.setCell ?_ ?_ _ | with_reducible refine Below.alloc ?_ ?_ _ | with_reducible refine Below.drew ?_ | with_reducible refine below_drewN ?_ _ | omega | (simp; done) | (simp; omega))); all_goals first | omega | (simp; done) | (simp; omega))).mono ?_
  rintro e w1 ⟨us1, F1, rfl, hO1, hF1, hb1⟩
  obtain ⟨A2', c2', F2, A4', c4', F4, A5', c5', F5, rfl, hO2, -, -, hO4, -, -, hO5, -, -, d24, d25, d45, hFe⟩ := Hand.owned hO1
  simp only [World.size_alloc] at hF1
  have hl2 : ∀ b, F2 b → W.heap.size + 2 ≤ b := fun b h => by have := hF1 b ((hFe b).2 (.inl h)); simpa using this
  have hl4 : ∀ b, F4 b → W.heap.size + 2 ≤ b := fun b h => by have := hF1 b ((hFe b).2 (.inr (.inl h))); simpa using this
  have hl5 : ∀ b, F5 b → W.heap.size + 2 ≤ b := fun b h => by have := hF1 b ((hFe b).2 (.inr (.inr h))); simpa using this
  have hbw : Below (W.heap.size + 2) ((W.alloc (.cells #[.int .i64 stage, .int .i64 fr.xNext, .slice A2 fr.xMessages.length c2, .int .i64 tt.xNext, .slice A4 tt.xMessages.length c4, .slice A5 wt.length c5] 30)).alloc (.cells #[.int .i64 0, .int .i64 0, .slice none 0 0, .int .i64 0, .slice none 0 0, .slice none 0 0] 30)) w1 := hb1.mono (by simp)
  clear hF1 hFe
  have xr : Bx w1 (W.heap.size + 1) #[.int .i64 0, .int .i64 0, .slice none 0 0, .int .i64 0, .slice none 0 0, .slice none 0 0] 30 := (Bx.new2 W _ _ _).below hbw (by omega)
  have r0 := xr.cell 0 rfl
  have g0 := xr.free 0
  have r1 := xr.cell 1 rfl
  have g1 := xr.free 1
  have r2 := xr.cell 2 rfl
  have g2 := xr.free 2
  have r3 := xr.cell 3 rfl
  have g3 := xr.free 3
  have r4 := xr.cell 4 rfl
  have g4 := xr.free 4
  have r5 := xr.cell 5 rfl
  have g5 := xr.free 5
  have hsr := xr.lt
  have hB : Below W.heap.size W w1 := (((Below.refl _ _).alloc (Nat.le_refl _) _).alloc (by simp) _).trans (hbw.mono (by omega))
  go_wp2
  refine bodyPost_ret (v := .tuple #[.agg #[.int .i64 R1.xStage, .int .i64 R1.xFrom.xNext, .slice A2' R1.xFrom.xMessages.length c2', .int .i64 R1.xTo.xNext, .slice A4' R1.xTo.xMessages.length c4', .slice A5' R1.xWaiting.length c5'], .bool R2]) (by simp [results, Try.results17, go_sem, r0, r1, r2, r3, r4, r5, g0, g1, g2, g3, g4, g5, hsr]) rfl ⟨_, (fun b => F2 b ∨ (F4 b ∨ F5 b)), rfl, ?_, fun b h => ?_, (by (repeat (first | with_reducible assumption | with_reducible exact Below.refl _ _ | with_reducible refine Below.setCell ?_ ?_ _ | with_reducible refine Below.alloc ?_ ?_ _ | with_reducible refine Below.drew ?_ | with_reducible refine below_drewN ?_ _ | omega | (simp; done) | (simp; omega))); all_goals first | omega | (simp; done) | (simp; omega))⟩
  · refine Hand.own_mk (h := R1) (F2 := F2) (F4 := F4) (F5 := F5) ?_ ?_ ?_ d24 d25 d45
    · repeat (with_reducible refine Ow.far ?_ (fun h => by have hq := hl2 _ h; first | omega | (dsimp only at hq; omega) | (simp at hq; done) | (simp at hq; omega)) _)
      exact hO2
    · repeat (with_reducible refine Ow.far ?_ (fun h => by have hq := hl4 _ h; first | omega | (dsimp only at hq; omega) | (simp at hq; done) | (simp at hq; omega)) _)
      exact hO4
    · repeat (with_reducible refine Ow.far ?_ (fun h => by have hq := hl5 _ h; first | omega | (dsimp only at hq; omega) | (simp at hq; done) | (simp at hq; omega)) _)
      exact hO5
  · rcases h with h | h | h
    · have := hl2 b h; omega
    · have := hl4 b h; omega
    · have := hl5 b h; omega
end Go.Proofs.Ytafihplbchofoaa

namespace Go.Proofs.Ytafihplbchofoaa
open Go.ChangeShapes Go.WideShapes Go.ChangeAt Go.RowKit Go.Dt
set_option linter.unusedVariables false
set_option linter.unusedSimpArgs false
theorem fin_ok {x : Log} (h : x.ok = true) : Hand.ok ⟨3, ⟨1, []⟩, x, []⟩ = true := by
  unfold Hand.ok
  have e1 : Log.ok ⟨1, []⟩ = true := by decide
  have e3 : Log.isEmpty ⟨1, []⟩ = true := by decide
  have e2 : said ⟨1, []⟩ [] = (⟨1, []⟩, true) := rfl
  simp only [e1, e2, e3, h]
  simp [stageOk]
theorem FinishHand_lawI (x : Hand) (us : List Value) (W : World) (hr : RoL W (Lo W.heap.size) (Hand.d true x) us) (hz : Hand.z x ≤ 1048576) : Calls Try.prog 17 #[.agg us.toArray] W fun e w' =>
    ∃ us F, e = .returned (.tuple #[.agg us.toArray, .bool (FinishHand_f x).2]) ∧ OwL w' (Hand.d true (FinishHand_f x).1) us F ∧ (∀ b, F b → W.heap.size ≤ b) ∧ Below W.heap.size W w' :=
  impl_FinishHand x us W hr (Hand.fit_of hz)
end Go.Proofs.Ytafihplbchofoaa

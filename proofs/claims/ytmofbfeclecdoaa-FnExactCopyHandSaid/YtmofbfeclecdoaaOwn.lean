/- A hand's own copy. -/
import Derived.Test.YtmofbfeclecdoaaFrz
import Derived.Deep.DeepCutAuto
namespace Go.Proofs.Ytmofbfeclecdoaa
open Go.ChangeShapes Go.WideShapes Go.ChangeAt Go.RowKit Go.Dt
set_option linter.unusedVariables false
set_option linter.unusedSimpArgs false
set_option maxHeartbeats 3200000 in
set_option maxRecDepth 100000 in
theorem spec_l10Own (h : Hand) (b0 : Nat) (A2 A4 A5 : Option Addr) (c2 c4 c5 : Nat) (W : World) (k0 : W.cell? ⟨b0, 0, none⟩ = some (.int .i64 h.xStage)) (k1 : W.cell? ⟨b0, 1, none⟩ = some (.int .i64 h.xFrom.xNext)) (k2 : W.cell? ⟨b0, 2, none⟩ = some (.slice A2 h.xFrom.xMessages.length c2))
    (k3 : W.cell? ⟨b0, 3, none⟩ = some (.int .i64 h.xTo.xNext)) (k4 : W.cell? ⟨b0, 4, none⟩ = some (.slice A4 h.xTo.xMessages.length c4)) (k5 : W.cell? ⟨b0, 5, none⟩ = some (.slice A5 h.xWaiting.length c5))
    (r2 : Ro W (Lo W.heap.size) (Message.s true h.xFrom.xMessages) (.slice A2 h.xFrom.xMessages.length c2)) (r4 : Ro W (Lo W.heap.size) (Message.s true h.xTo.xMessages) (.slice A4 h.xTo.xMessages.length c4)) (r5 : Ro W (Lo W.heap.size) (Draft.s true h.xWaiting) (.slice A5 h.xWaiting.length c5)) (ho : h.ok = true) (hf : h.fit) :
    Calls Try.prog 148 #[.pointer (some ⟨b0, 0, none⟩)] W (MadeL W (Hand.d true h)) := by
  have hfo := Hand.ok_logs ho
  obtain ⟨stage, fr, tt, wt⟩ := h
  simp only at *
  have hbl0 := World.block_lt_of_cell? W _ k0
  simp only at hbl0
  have HC2 := fun (w : World) (hb : Below W.heap.size W w) => spec_l03Own fr b0 1 A2 c2 w ((hb.cell (p := ⟨b0, 1, none⟩) hbl0).trans k1) ((hb.cell (p := ⟨b0, 2, none⟩) hbl0).trans k2) (ro_to r2 hb) (fun m hm => (hfo.1.2.2.2 m hm).2) hf.2.2.2.1
  have HC4 := fun (w : World) (hb : Below W.heap.size W w) => spec_l03Own tt b0 3 A4 c4 w ((hb.cell (p := ⟨b0, 3, none⟩) hbl0).trans k3) ((hb.cell (p := ⟨b0, 4, none⟩) hbl0).trans k4) (ro_to r4 hb) (fun m hm => (hfo.2.2.2.2 m hm).2) hf.2.2.2.2.1
  have hwl := hf.2.2.2.2.2
  simp only at hwl
  have K5 := Lib.hid k5
  have R5 := Lib.hid r5
  clear ho hf hfo k1 k2 k3 k4 k5 r2 r4 r5
  go_enter Try.func148, Try.ntmps148
  go_upto_region 1 with fail
  refine wp_any (fun w1 => Below (W.heap.size + 1) (W.alloc (.cells #[.int .i64 0, .int .i64 0, .slice none 0 0, .int .i64 0, .slice none 0 0, .slice none 0 0] 78)) w1) (Below.refl _ _) ?_
  intro w1 hbw
  have hsz1 := hbw.size
  simp at hsz1
  have hbW : Below W.heap.size W w1 := ((Below.refl _ _).alloc (Nat.le_refl _) _).trans (hbw.mono (by omega))
  have hA : Gain w1 (W.heap.size + 1) w1 [none, none, some (Draft.s true [], .slice none 0 0, fun _ => False)] none := Gain.call 2 (Below.refl _ _) (drafts_nil _ none) (fun b h => h.elim) (Gain.start (ss := [none, none, none]) (Below.refl _ _) (by omega) (fun i e h => by rcases i with _ | _ | _ | i <;> simp at h <;> exact h.symm))
  have HSS := Lib.hid (show ∀ w', Below (W.heap.size + 1) w1 w' → (fun w' => Below (W.heap.size + 1) w1 w' ∧ w'.cell? ⟨b0, 0, none⟩ = some (.int .i64 stage)) w' from fun w' h => ⟨h, (h.cell (p := ⟨b0, 0, none⟩) (by show b0 < _; omega)).trans ((hbW.cell (p := ⟨b0, 0, none⟩) hbl0).trans k0)⟩)
  clear k0
  go_cut [3] (fun s3 wx => ∃ g : Nat, s3 = .pointer (some ⟨g, 0, none⟩) ∧ HandAt w1 (W.heap.size + 1) wx g ⟨stage, fr, tt, []⟩)
  case first =>
    go_region_held3 (fun w' => Below (W.heap.size + 1) w1 w' ∧ w'.cell? ⟨b0, 0, none⟩ = some (.int .i64 stage))
      (((refine HSS.out _ ?_); (repeat (with_reducible refine Below.setCell ?_ ?_ _)); (first | (with_reducible exact Gain.below hA) | (with_reducible exact Gain.below (Gain.drew hA)) | (with_reducible exact Gain.below (Gain.alloc0 hA _)) | (with_reducible exact Gain.below (Gain.alloc0 (Gain.drew hA) _)) | (with_reducible exact Gain.below (Gain.drew (Gain.alloc0 hA _)))); (all_goals (first | omega | (dsimp only; omega) | (simp; omega)))))
      ((first | (go_at_call 95; (with_reducible refine (HC2 _ (Below.trans hbW (Below.mono (B := W.heap.size + 1) (by first | (with_reducible exact Gain.below hA) | (with_reducible exact Gain.below (Gain.drew hA)) | (with_reducible exact Gain.below (Gain.alloc hA _ _)) | (with_reducible exact Gain.below (Gain.alloc_drew hA _ _)) | (with_reducible exact Gain.below (Gain.drew (Gain.alloc hA _ _))) | (with_reducible exact Gain.below (Gain.alloc0 hA _))) (by omega)))).mono ?_); rintro e w9 ⟨us9, F8, rfl, hO8, hb9, hF8⟩; obtain ⟨A9, c9, F9, rfl, hO9, -, -, hFe⟩ := Log.owned hO8; have hF9 := fun (b : Nat) (h : F9 b) => hF8 b ((hFe b).2 h); (first | (replace hA := Gain.call 0 hb9 hO9 hF9 hA) | (replace hA := Gain.call 0 hb9 hO9 hF9 (Gain.drew hA)) | (replace hA := Gain.call 0 hb9 hO9 hF9 (Gain.alloc hA _ _)) | (replace hA := Gain.call 0 hb9 hO9 hF9 (Gain.alloc_drew hA _ _)) | (replace hA := Gain.call 0 hb9 hO9 hF9 (Gain.drew (Gain.alloc hA _ _))) | (replace hA := Gain.call 0 hb9 hO9 hF9 (Gain.alloc0 hA _))); (try simp only [List.set_cons_zero, List.set_cons_succ] at hA); have hw9 := hA.le; (try (have xg := hA.bx; have y0 := xg.cell 0 rfl; have z0 := xg.free 0; have y1 := xg.cell 1 rfl; have z1 := xg.free 1; have y2 := xg.cell 2 rfl; have z2 := xg.free 2; have y3 := xg.cell 3 rfl; have z3 := xg.free 3; have y4 := xg.cell 4 rfl; have z4 := xg.free 4; have y5 := xg.cell 5 rfl; have z5 := xg.free 5; have hzg := xg.lt; have hbg := (hA.box _ _ _ rfl).2.1))) | (go_at_call 95; (with_reducible refine (HC4 _ (Below.trans hbW (Below.mono (B := W.heap.size + 1) (by first | (with_reducible exact Gain.below hA) | (with_reducible exact Gain.below (Gain.drew hA)) | (with_reducible exact Gain.below (Gain.alloc hA _ _)) | (with_reducible exact Gain.below (Gain.alloc_drew hA _ _)) | (with_reducible exact Gain.below (Gain.drew (Gain.alloc hA _ _))) | (with_reducible exact Gain.below (Gain.alloc0 hA _))) (by omega)))).mono ?_); rintro e w9 ⟨us9, F8, rfl, hO8, hb9, hF8⟩; obtain ⟨A9, c9, F9, rfl, hO9, -, -, hFe⟩ := Log.owned hO8; have hF9 := fun (b : Nat) (h : F9 b) => hF8 b ((hFe b).2 h); (first | (replace hA := Gain.call 1 hb9 hO9 hF9 hA) | (replace hA := Gain.call 1 hb9 hO9 hF9 (Gain.drew hA)) | (replace hA := Gain.call 1 hb9 hO9 hF9 (Gain.alloc hA _ _)) | (replace hA := Gain.call 1 hb9 hO9 hF9 (Gain.alloc_drew hA _ _)) | (replace hA := Gain.call 1 hb9 hO9 hF9 (Gain.drew (Gain.alloc hA _ _))) | (replace hA := Gain.call 1 hb9 hO9 hF9 (Gain.alloc0 hA _))); (try simp only [List.set_cons_zero, List.set_cons_succ] at hA); have hw9 := hA.le; (try (have xg := hA.bx; have y0 := xg.cell 0 rfl; have z0 := xg.free 0; have y1 := xg.cell 1 rfl; have z1 := xg.free 1; have y2 := xg.cell 2 rfl; have z2 := xg.free 2; have y3 := xg.cell 3 rfl; have z3 := xg.free 3; have y4 := xg.cell 4 rfl; have z4 := xg.free 4; have y5 := xg.cell 5 rfl; have z5 := xg.free 5; have hzg := xg.lt; have hbg := (hA.box _ _ _ rfl).2.1)))))
    all_goals
      go_wp2_with fail
      go_meet
      refine ⟨_, rfl, ?_⟩
      first | (with_reducible apply handAt_new (h := ⟨stage, fr, tt, []⟩)) | (with_reducible apply handAt_mk (h := ⟨stage, fr, tt, []⟩)) | (trace_state; sorry)
      all_goals (with_reducible exact hA)
  case rest =>
    obtain ⟨g, rfl, A2', n2', c2', A4', n4', c4', A5', n5', c5', F2, F4, F5, hA0⟩ := hcut
    clear hA HSS HC2 HC4
    have hA := hA0
    clear hA0
    have hb3 := hA.below
    have hbwc := hbw.trans hb3
    have hbWc := hbW.trans (hb3.mono (by omega))
    have k5 : wc.cell? ⟨b0, 5, none⟩ = some (.slice A5 wt.length c5) := (hbWc.cell (p := ⟨b0, 5, none⟩) hbl0).trans K5.out
    have rd := ro_to R5.out hbWc
    have hgb := (hA.box _ _ _ rfl).2.1
    have hwc := hA.le
    have xg := hA.bx
    have y0 := xg.cell 0 rfl
    have z0 := xg.free 0
    have y1 := xg.cell 1 rfl
    have z1 := xg.free 1
    have y2 := xg.cell 2 rfl
    have z2 := xg.free 2
    have y3 := xg.cell 3 rfl
    have z3 := xg.free 3
    have y4 := xg.cell 4 rfl
    have z4 := xg.free 4
    have y5 := xg.cell 5 rfl
    have z5 := xg.free 5
    have hzg := xg.lt
    have xr : Bx wc W.heap.size #[.int .i64 0, .int .i64 0, .slice none 0 0, .int .i64 0, .slice none 0 0, .slice none 0 0] 78 := (Bx.new W _ _).below hbwc (by omega)
    have r0 := xr.cell 0 rfl
    have g0 := xr.free 0
    have r1 := xr.cell 1 rfl
    have g1 := xr.free 1
    have r2 := xr.cell 2 rfl
    have g2 := xr.free 2
    have r3 := xr.cell 3 rfl
    have g3 := xr.free 3
    have r4 := xr.cell 4 rfl
    have g4 := xr.free 4
    have r5 := xr.cell 5 rfl
    have g5 := xr.free 5
    have hsr := xr.lt
    have hbl2 : b0 < wc.heap.size := by omega
    have hbl3 : b0 < wc.heap.size + 1 := by omega
    by_cases h0 : wt = []
    · subst h0
      have hl2 : ∀ b, F2 b → W.heap.size + 1 ≤ b ∧ b ≠ g := fun b hb => ⟨(hA.own 0 _ _ _ rfl).2 b hb, fun e => (hA.box _ _ _ rfl).2.2 0 _ _ _ rfl (e ▸ hb)⟩
      have hl4 : ∀ b, F4 b → W.heap.size + 1 ≤ b ∧ b ≠ g := fun b hb => ⟨(hA.own 1 _ _ _ rfl).2 b hb, fun e => (hA.box _ _ _ rfl).2.2 1 _ _ _ rfl (e ▸ hb)⟩
      have HA := Lib.hid hA
      clear hA rd R5 K5
      simp only [List.length_nil] at *
      rcases A5 with _ | a
      all_goals
        go_wp2
        refine bodyPost_ret (v := .agg #[.int .i64 stage, .int .i64 fr.xNext, .slice A2' n2' c2', .int .i64 tt.xNext, .slice A4' n4' c4', .slice (some ⟨wc.heap.size, 0, none⟩) 0 0]) (by simp [results, Try.results148, go_sem, r0, r1, r2, r3, r4, r5, g0, g1, g2, g3, g4, g5, hsr, y0, y1, y2, y3, y4, z5, hzg]) rfl ⟨_, (fun b => F2 b ∨ (F4 b ∨ False)), rfl, ?_, ?_, fun b h => ?_⟩
        · refine Hand.own_mk (h := ⟨stage, fr, tt, []⟩) (F2 := F2) (F4 := F4) ?_ ?_ (drafts_nil _ _) (HA.out.apart 0 1 _ _ _ _ _ _ (by decide) rfl rfl) (fun b _ h => h) (fun b _ h => h)
          · repeat (first | (with_reducible refine Ow.alloc ?_ _) | (with_reducible refine Ow.far ?_ (fun h => by have hq := hl2 _ h; first | omega | (dsimp only at hq; omega) | (simp at hq; done) | (simp at hq; omega)) _))
            exact (HA.out.own 0 _ _ _ rfl).1
          · repeat (first | (with_reducible refine Ow.alloc ?_ _) | (with_reducible refine Ow.far ?_ (fun h => by have hq := hl4 _ h; first | omega | (dsimp only at hq; omega) | (simp at hq; done) | (simp at hq; omega)) _))
            exact (HA.out.own 1 _ _ _ rfl).1
        · exact (by (repeat (first | with_reducible assumption | with_reducible exact Below.refl _ _ | with_reducible refine Below.setCell ?_ ?_ _ | with_reducible refine Below.alloc ?_ ?_ _ | with_reducible refine Below.drew ?_ | with_reducible refine below_drewN ?_ _ | omega | (simp; done) | (simp; omega))); all_goals first | omega | (simp; done) | (simp; omega))
        · rcases h with h | h | h
          · have := hl2 b h; omega
          · have := hl4 b h; omega
          · exact h.elim
    · obtain ⟨b, off, rfl⟩ := (drafts_nil_or rd).resolve_left h0
      have HP := Lib.hid (drafts_plain wc wt)
      have HN := Lib.hid (fun w2 hb => @drafts_news wc wt b off _ c5 rd w2 hb)
      have HO := Lib.hid (oneCells_of (drafts_plain wc wt).ro)
      generalize hm : wt.length = n at *
      have HM := Lib.hid hm
      clear rd R5 K5 hm h0
      go_wp2_with (at_builtin; refine dt_append rfl _ _ 76 82 rfl Try.underlying76 (.agg #[.int .i64 0, .int .i64 0, .string ByteArray.empty]) 3 32 Draft.inf rfl (by decide) (by decide) (by rfl) (Ow.emp 82 3 (some ⟨wc.heap.size, 0, none⟩) (fun _ => False) (by simp)) ⟨b, off, none⟩ n c5 (by rfl) (draftVals wt) (wt.map (Draft.d true)) (fun _ => False) (by rw [List.length_map]; exact HM.out) (fun row h => by obtain ⟨d, _, rfl⟩ := List.mem_map.1 h; rfl) (fun j u hu => HN.out _ ((Below.refl _ _).alloc (Nat.le_refl _) _) j u hu) (HP.out.alloc _) (by simp) HO.out (by simp; omega) ?_; intro v2 w2 F9 hO2 hk2 hF9; obtain ⟨A9, n9, c9, rfl⟩ := hO2.slice; have hO2 : Ow w2 (Draft.s true wt) (.slice A9 n9 c9) F9 := (by simpa [Draft.s, Draft.e] using hO2); have hA2 := Gain.call 2 (hk2.below (Nat.le_refl _) (fun b h => h.elim)) hO2 (fun b h => by have := hF9 b h; simp at this; simp; omega) (hA.alloc0 _); simp only [List.set_cons_zero, List.set_cons_succ] at hA2; have xg2 := hA2.bx; have q0 := xg2.cell 0 rfl; have q1 := xg2.cell 1 rfl; have q2 := xg2.cell 2 rfl; have q3 := xg2.cell 3 rfl; have q4 := xg2.cell 4 rfl; have q5 := xg2.cell 5 rfl; have z5' := xg2.free 5; have hzg2 := xg2.lt; have hb2 := hbw.trans hA2.below; clear r0 r1 r2 r3 r4 r5 g0 g1 g2 g3 g4 g5 hsr y0 y1 y2 y3 y4 y5 z0 z1 z2 z3 z4 z5 hzg; have xr2 : Bx w2 W.heap.size #[.int .i64 0, .int .i64 0, .slice none 0 0, .int .i64 0, .slice none 0 0, .slice none 0 0] 78 := (Bx.new W _ _).below hb2 (by omega); have r0 := xr2.cell 0 rfl; have g0 := xr2.free 0; have r1 := xr2.cell 1 rfl; have g1 := xr2.free 1; have r2 := xr2.cell 2 rfl; have g2 := xr2.free 2; have r3 := xr2.cell 3 rfl; have g3 := xr2.free 3; have r4 := xr2.cell 4 rfl; have g4 := xr2.free 4; have r5 := xr2.cell 5 rfl; have g5 := xr2.free 5; have hsr := xr2.lt; have hgW : g ≠ W.heap.size := by omega)
      have hl2 : ∀ b, F2 b → W.heap.size + 1 ≤ b ∧ b ≠ g := fun b hb => ⟨(hA2.own 0 _ _ _ rfl).2 b hb, fun e => (hA2.box _ _ _ rfl).2.2 0 _ _ _ rfl (e ▸ hb)⟩
      have hl4 : ∀ b, F4 b → W.heap.size + 1 ≤ b ∧ b ≠ g := fun b hb => ⟨(hA2.own 1 _ _ _ rfl).2 b hb, fun e => (hA2.box _ _ _ rfl).2.2 1 _ _ _ rfl (e ▸ hb)⟩
      have hl5 : ∀ b, F9 b → W.heap.size + 1 ≤ b ∧ b ≠ g := fun b hb => ⟨(hA2.own 2 _ _ _ rfl).2 b hb, fun e => (hA2.box _ _ _ rfl).2.2 2 _ _ _ rfl (e ▸ hb)⟩
      have hB : Below W.heap.size W w2 := ((Below.refl _ _).alloc (Nat.le_refl _) _).trans (hb2.mono (by omega))
      refine bodyPost_ret (v := .agg #[.int .i64 stage, .int .i64 fr.xNext, .slice A2' n2' c2', .int .i64 tt.xNext, .slice A4' n4' c4', .slice A9 n9 c9]) (by simp [results, Try.results148, go_sem, r0, r1, r2, r3, r4, r5, g0, g1, g2, g3, g4, g5, hsr, q0, q1, q2, q3, q4, z5', hzg2, hgW]) rfl ⟨_, (fun b => F2 b ∨ (F4 b ∨ F9 b)), rfl, ?_, ?_, fun b h => ?_⟩
      · refine Hand.own_mk (h := ⟨stage, fr, tt, wt⟩) (F2 := F2) (F4 := F4) (F5 := F9) ?_ ?_ ?_ (hA2.apart 0 1 _ _ _ _ _ _ (by decide) rfl rfl) (hA2.apart 0 2 _ _ _ _ _ _ (by decide) rfl rfl) (hA2.apart 1 2 _ _ _ _ _ _ (by decide) rfl rfl)
        · repeat (with_reducible refine Ow.far ?_ (fun h => by have hq := hl2 _ h; first | omega | (dsimp only at hq; omega) | (simp at hq; done) | (simp at hq; omega)) _)
          exact (hA2.own 0 _ _ _ rfl).1
        · repeat (with_reducible refine Ow.far ?_ (fun h => by have hq := hl4 _ h; first | omega | (dsimp only at hq; omega) | (simp at hq; done) | (simp at hq; omega)) _)
          exact (hA2.own 1 _ _ _ rfl).1
        · repeat (with_reducible refine Ow.far ?_ (fun h => by have hq := hl5 _ h; first | omega | (dsimp only at hq; omega) | (simp at hq; done) | (simp at hq; omega)) _)
          exact (hA2.own 2 _ _ _ rfl).1
      · exact (by (repeat (first | with_reducible assumption | with_reducible exact Below.refl _ _ | with_reducible refine Below.setCell ?_ ?_ _ | with_reducible refine Below.alloc ?_ ?_ _ | with_reducible refine Below.drew ?_ | with_reducible refine below_drewN ?_ _ | omega | (simp; done) | (simp; omega))); all_goals first | omega | (simp; done) | (simp; omega))
      · rcases h with h | h | h
        · have := hl2 b h; omega
        · have := hl4 b h; omega
        · have := hl5 b h; omega
end Go.Proofs.Ytmofbfeclecdoaa

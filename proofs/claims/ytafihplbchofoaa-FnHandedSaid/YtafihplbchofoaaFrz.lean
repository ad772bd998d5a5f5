/- Hands: what freezes one. -/
import Derived.Test.YtafihplbchofoaaChg
namespace Go.Proofs.Ytafihplbchofoaa
open Go.ChangeShapes Go.WideShapes Go.ChangeAt Go.RowKit Go.Dt
set_option linter.unusedVariables false
set_option linter.unusedSimpArgs false
def FreezeHand_c (h : Hand) : Hand × Bool := (⟨2, h.xFrom, h.xTo, h.xWaiting⟩, h.xStage == 1)
def FreezeHand_f (h : Hand) : Hand × Bool := changed FreezeHand_c h
set_option maxHeartbeats 800000 in
set_option maxRecDepth 100000 in
theorem impl_FreezeHand_1 (h : Hand) (w0 : World) (B g : Nat) (w : World) (hH : HandAt w0 B w g h) : Calls Try.prog 61 (#[.pointer (some ⟨g, 0, none⟩)] ++ #[]) w fun e w' => e = .returned (.bool (FreezeHand_c h).2) ∧ Below B w0 w' ∧ ((FreezeHand_c h).2 = true → HandAt w0 B w' g (FreezeHand_c h).1) := by
  obtain ⟨stage, fr, tt, wt⟩ := h
  obtain ⟨A2, n2, c2, A4, n4, c4, A5, n5, c5, F2, F4, F5, hA⟩ := hH
  simp only at *
  have xg := hA.bx
  have y0 := xg.cell 0 rfl
  have z0 := xg.free 0
  have hzg := xg.lt
  go_enter Try.func61, Try.ntmps61
  go_wp2
  exact bodyPost_ret (v := .bool (stage == 1)) (by simp [results, Try.results61, go_sem]) rfl ⟨rfl, (hA.put 0 _).below, fun _ => ⟨_, _, _, _, _, _, _, _, _, _, _, _, Gain.is (hA.put 0 _) rfl⟩⟩
set_option maxHeartbeats 1600000 in
set_option maxRecDepth 100000 in
theorem impl_FreezeHand (h : Hand) (us : List Value) (W : World) (hr : RoL W (Lo W.heap.size) (Hand.d true h) us) (hf : h.fit) :
    Calls Try.prog 16 #[.agg us.toArray] W (MadeHB W (FreezeHand_f h)) := by
  have HC := fun (w : World) (hb : Below W.heap.size W w) => impl_changedHand 61 (fun _ _ => by rfl) #[] FreezeHand_c h us w (rol_to hr hb) hf (fun w0 B g w ho hH _ => impl_FreezeHand_1 h w0 B g w hH) (fun ho hc => hf)
  have HR := Lib.hid (show FreezeHand_f h = changed FreezeHand_c h from rfl)
  generalize FreezeHand_f h = R at *
  obtain ⟨A2, c2, A4, c4, A5, c5, rfl, -⟩ := Hand.cells hr
  obtain ⟨stage, fr, tt, wt⟩ := h
  simp only at *
  rw [← HR.out] at HC
  clear HR hr hf
  obtain ⟨R1, R2⟩ := R
  go_enter Try.func16, Try.ntmps16
  go_wp2_with fail
  refine (HC _ (by (repeat (first | with_reducible assumption | with_reducible exact Below.refl _ _ | with_reducible refine Below.setCell ?_ ?_ _ | with_reducible refine Below.alloc ?_ ?_ _ | with_reducible refine Below.drew ?_ | with_reducible refine below_drewN ?_ _ | omega | (simp; done) | (simp; omega))); all_goals first | omega | (simp; done) | (simp; omega))).mono ?_
  rintro e w1 ⟨us1, F1, rfl, hO1, hF1, hb1⟩
  obtain ⟨A2', c2', F2, A4', c4', F4, A5', c5', F5, rfl, hO2, -, -, hO4, -, -, hO5, -, -, d24, d25, d45, hFe⟩ := Hand.owned hO1
  simp only [World.size_alloc] at hF1
  have hl2 : ∀ b, F2 b → W.heap.size + 2 ≤ b := fun b h => by have := hF1 b ((hFe b).2 (.inl h)); simpa using this
  have hl4 : ∀ b, F4 b → W.heap.size + 2 ≤ b := fun b h => by have := hF1 b ((hFe b).2 (.inr (.inl h))); simpa using this
  have hl5 : ∀ b, F5 b → W.heap.size + 2 ≤ b := fun b h => by have := hF1 b ((hFe b).2 (.inr (.inr h))); simpa using this
  have hbw : Below (W.heap.size + 2) ((W.alloc (.cells #[.int .i64 stage, .int .i64 fr.xNext, .slice A2 fr.xMessages.length c2, .int .i64 tt.xNext, .slice A4 tt.xMessages.length c4, .slice A5 wt.length c5] 30)).alloc (.cells #[.int .i64 0, .int .i64 0, .slice none 0 0, .int .i64 0, .slice none 0 0, .slice none 0 0] 30)) w1 := hb1.mono (by simp)
  clear hF1 hFe
  have xr : Bx w1 (W.heap.size + 1) #[.int .i64 0, .int .i64 0, .slice none 0 0, .int .i64 0, .slice none 0 0, .slice none 0 0] 30 := (Bx.new2 W _ _ _).below hbw (by omega)
  have r0 := xr.cell 0 rfl
  have g0 := xr.free 0
  have r1 := xr.cell 1 rfl
  have g1 := xr.free 1
  have r2 := xr.cell 2 rfl
  have g2 := xr.free 2
  have r3 := xr.cell 3 rfl
  have g3 := xr.free 3
  have r4 := xr.cell 4 rfl
  have g4 := xr.free 4
  have r5 := xr.cell 5 rfl
  have g5 := xr.free 5
  have hsr := xr.lt
  have hB : Below W.heap.size W w1 := (((Below.refl _ _).alloc (Nat.le_refl _) _).alloc (by simp) _).trans (hbw.mono (by omega))
  go_wp2
  refine bodyPost_ret (v := .tuple #[.agg #[.int .i64 R1.xStage, .int .i64 R1.xFrom.xNext, .slice A2' R1.xFrom.xMessages.length c2', .int .i64 R1.xTo.xNext, .slice A4' R1.xTo.xMessages.length c4', .slice A5' R1.xWaiting.length c5'], .bool R2]) (by simp [results, Try.results16, go_sem, r0, r1, r2, r3, r4, r5, g0, g1, g2, g3, g4, g5, hsr]) rfl ⟨_, (fun b => F2 b ∨ (F4 b ∨ F5 b)), rfl, ?_, fun b h => ?_, (by (repeat (first | with_reducible assumption | with_reducible exact Below.refl _ _ | with_reducible refine Below.setCell ?_ ?_ _ | with_reducible refine Below.alloc ?_ ?_ _ | with_reducible refine Below.drew ?_ | with_reducible refine below_drewN ?_ _ | omega | (simp; done) | (simp; omega))); all_goals first | omega | (simp; done) | (simp; omega))⟩
  · refine Hand.own_mk (h := R1) (F2 := F2) (F4 := F4) (F5 := F5) ?_ ?_ ?_ d24 d25 d45
    · repeat (with_reducible refine Ow.far ?_ (fun h => by have hq := hl2 _ h; first | omega | (dsimp only at hq; omega) | (simp at hq; done) | (simp at hq; omega)) _)
      exact hO2
    · repeat (with_reducible refine Ow.far ?_ (fun h => by have hq := hl4 _ h; first | omega | (dsimp only at hq; omega) | (simp at hq; done) | (simp at hq; omega)) _)
      exact hO4
    · repeat (with_reducible refine Ow.far ?_ (fun h => by have hq := hl5 _ h; first | omega | (dsimp only at hq; omega) | (simp at hq; done) | (simp at hq; omega)) _)
      exact hO5
  · rcases h with h | h | h
    · have := hl2 b h; omega
    · have := hl4 b h; omega
    · have := hl5 b h; omega
end Go.Proofs.Ytafihplbchofoaa

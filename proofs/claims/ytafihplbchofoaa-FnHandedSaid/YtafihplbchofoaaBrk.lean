/- FreezeHand's own copy, and its law. -/
import Derived.Test.YtafihplbchofoaaFrz
import Derived.Deep.DeepCutAuto
/- Hands: what breaks one off. -/
namespace Go.Proofs.Ytafihplbchofoaa
open Go.ChangeShapes Go.WideShapes Go.ChangeAt Go.RowKit Go.Dt
set_option linter.unusedVariables false
set_option linter.unusedSimpArgs false
theorem freeze_ok {fr tt : Log} {wt : List Draft} (ho : Hand.ok ⟨1, fr, tt, wt⟩ = true) : Hand.ok ⟨2, fr, tt, wt⟩ = true := by
  unfold Hand.ok at ho ⊢
  simp only [Bool.and_eq_true] at ho ⊢
  refine ⟨ho.1, ho.2.1, ho.2.2.1, ho.2.2.2.1, ?_⟩
  have := ho.2.2.2.2
  simp [stageOk] at this ⊢
  exact this.1
theorem FreezeHand_lawI (x : Hand) (us : List Value) (W : World) (hr : RoL W (Lo W.heap.size) (Hand.d true x) us) (hz : Hand.z x ≤ 1048576) : Calls Try.prog 16 #[.agg us.toArray] W fun e w' =>
    ∃ us F, e = .returned (.tuple #[.agg us.toArray, .bool (FreezeHand_f x).2]) ∧ OwL w' (Hand.d true (FreezeHand_f x).1) us F ∧ (∀ b, F b → W.heap.size ≤ b) ∧ Below W.heap.size W w' :=
  impl_FreezeHand x us W hr (Hand.fit_of hz)
end Go.Proofs.Ytafihplbchofoaa

namespace Go.Proofs.Ytafihplbchofoaa
open Go.ChangeShapes Go.WideShapes Go.ChangeAt Go.RowKit Go.Dt
set_option linter.unusedVariables false
set_option linter.unusedSimpArgs false
theorem Ow.len {w : World} {e : TypeId} {sz : Nat} {rows : List (List D)} {A : Option Addr} {n c : Nat} {F : Nat → Prop} (h : Ow w (.sl e sz rows) (.slice A n c) F) : n = rows.length := by
  obtain ⟨A', c', e, _⟩ := h.shape
  injection e
theorem Gain.three {w0 w : World} {B g : Nat} {cs : Array Value} {t : TypeId} {d2 d4 d5 : D} {v2 v4 v5 : Value} {F2 F4 F5 : Nat → Prop} (hb : Below B w0 w) (hB : B ≤ w.heap.size) (h2 : Ow w d2 v2 F2) (h4 : Ow w d4 v4 F4) (h5 : Ow w d5 v5 F5)
    (l2 : ∀ b, F2 b → B ≤ b ∧ b ≠ g) (l4 : ∀ b, F4 b → B ≤ b ∧ b ≠ g) (l5 : ∀ b, F5 b → B ≤ b ∧ b ≠ g) (d24 : ∀ b, F2 b → ¬ F4 b) (d25 : ∀ b, F2 b → ¬ F5 b) (d45 : ∀ b, F4 b → ¬ F5 b) (hx : Bx w g cs t) (hg : B ≤ g) :
    Gain w0 B w [some (d2, v2, F2), some (d4, v4, F4), some (d5, v5, F5)] (some (g, cs, t)) := by
  have key : ∀ (i : Nat) (d : D) (v : Value) (F : Nat → Prop), [some (d2, v2, F2), some (d4, v4, F4), some (d5, v5, F5)][i]? = some (some (d, v, F)) → (i = 0 ∧ d = d2 ∧ v = v2 ∧ F = F2) ∨ (i = 1 ∧ d = d4 ∧ v = v4 ∧ F = F4) ∨ (i = 2 ∧ d = d5 ∧ v = v5 ∧ F = F5) := by
    intro i d v F h
    rcases i with _ | _ | _ | i
    · simp at h; exact .inl ⟨rfl, h.1.symm, h.2.1.symm, h.2.2.symm⟩
    · simp at h; exact .inr (.inl ⟨rfl, h.1.symm, h.2.1.symm, h.2.2.symm⟩)
    · simp at h; exact .inr (.inr ⟨rfl, h.1.symm, h.2.1.symm, h.2.2.symm⟩)
    · simp at h
  refine ⟨hb, hB, ?_, ?_, ?_⟩
  · intro i d v F h
    rcases key i d v F h with ⟨_, rfl, rfl, rfl⟩ | ⟨_, rfl, rfl, rfl⟩ | ⟨_, rfl, rfl, rfl⟩
    · exact ⟨h2, fun b hb => (l2 b hb).1⟩
    · exact ⟨h4, fun b hb => (l4 b hb).1⟩
    · exact ⟨h5, fun b hb => (l5 b hb).1⟩
  · intro i j d v F d' v' F' hij h h' b hF hF'
    rcases key i d v F h with ⟨rfl, rfl, rfl, rfl⟩ | ⟨rfl, rfl, rfl, rfl⟩ | ⟨rfl, rfl, rfl, rfl⟩ <;> rcases key j d' v' F' h' with ⟨rfl, rfl, rfl, rfl⟩ | ⟨rfl, rfl, rfl, rfl⟩ | ⟨rfl, rfl, rfl, rfl⟩ <;> first | exact hij rfl | exact d24 b hF hF' | exact d25 b hF hF' | exact d45 b hF hF' | exact d24 b hF' hF | exact d25 b hF' hF | exact d45 b hF' hF
  · intro b cs' t' e
    injection e with e; injection e with e1 e2; injection e2 with e2 e3
    subst e1; subst e2; subst e3
    refine ⟨hx, hg, fun i d v F h hF => ?_⟩
    rcases key i d v F h with ⟨_, rfl, rfl, rfl⟩ | ⟨_, rfl, rfl, rfl⟩ | ⟨_, rfl, rfl, rfl⟩
    · exact (l2 _ hF).2 rfl
    · exact (l4 _ hF).2 rfl
    · exact (l5 _ hF).2 rfl
def BreakHand_c (h : Hand) : Hand × Bool := (⟨0, (said h.xFrom h.xWaiting).1, ⟨1, []⟩, []⟩, h.xStage == 1 || h.xStage == 2)
theorem Hand.ok_said {h : Hand} (ho : h.ok = true) : (said h.xFrom h.xWaiting).2 = true := by
  unfold Hand.ok at ho
  simp only [Bool.and_eq_true] at ho
  exact ho.2.2.2.1
theorem brk_fit {h : Hand} (hf : h.fit) (ho : h.ok = true) : (BreakHand_c h).1.fit := by
  have hl : h.xFrom.ok = true := by
    unfold Hand.ok at ho
    simp only [Bool.and_eq_true] at ho
    exact ho.1
  have hs := Hand.ok_said ho
  obtain ⟨x, hx⟩ : ∃ x, say h.xFrom h.xWaiting = some x := by
    unfold said at hs
    split at hs
    · rename_i x hx; exact ⟨x, hx⟩
    · cases hs
  have hk := Log.ok_fine (say_ok hl hx)
  have e : said h.xFrom h.xWaiting = (x, true) := said_yes hx
  unfold BreakHand_c
  rw [e]
  exact ⟨fun m hm => (hk.2.2.2 m hm).1, by simp, by simp, hk.2.2.1, by simp, by simp⟩
def BreakHand_f (h : Hand) : Hand × Bool := changed BreakHand_c h
set_option maxHeartbeats 1600000 in
set_option maxRecDepth 100000 in
theorem impl_BreakHand_1 (h : Hand) (w0 : World) (B g : Nat) (w : World) (ho : h.ok = true) (hf : h.fit) (hH : HandAt w0 B w g h) : Calls Try.prog 64 (#[.pointer (some ⟨g, 0, none⟩)] ++ #[]) w fun e w' => e = .returned (.bool (BreakHand_c h).2) ∧ Below B w0 w' ∧ ((BreakHand_c h).2 = true → HandAt w0 B w' g (BreakHand_c h).1) := by
  have hsd := Hand.ok_said ho
  have hfo := Hand.ok_logs ho
  unfold BreakHand_c
  obtain ⟨stage, fr, tt, wt⟩ := h
  obtain ⟨A2, n2, c2, A4, n4, c4, A5, n5, c5, F2, F4, F5, hA0⟩ := hH
  simp only at *
  obtain rfl := Ow.len (hA0.own 0 _ _ _ rfl).1
  obtain rfl := Ow.len (hA0.own 2 _ _ _ rfl).1
  simp only [List.length_map] at hA0
  have HC := fun (w' : World) (hb : Below w.heap.size w w') => impl_withDrafts fr wt [.int .i64 fr.xNext, .slice A2 fr.xMessages.length c2] A5 c5 w' (by unfold Log.d; exact RoL.cons (.int _ _) (RoL.cons (ro_to (hA0.own 0 _ _ _ rfl).1.lo hb) RoL.nil)) hfo.1 (ro_to (hA0.own 2 _ _ _ rfl).1.lo hb) hf.2.2.1 hf.2.2.2.2.2
  obtain ⟨x, hx⟩ : ∃ x, said fr wt = (x, true) := ⟨_, Prod.ext rfl hsd⟩
  simp only [hx] at HC ⊢
  have xg0 := hA0.bx
  have k0 := xg0.cell 0 rfl
  have k1 := xg0.cell 1 rfl
  have k2 := xg0.cell 2 rfl
  have k5 := xg0.cell 5 rfl
  have hg0 := (hA0.box _ _ _ rfl).2.1
  have hgl := xg0.lt
  have HSS := Lib.hid (show ∀ w', Below w.heap.size w w' → (fun w' => Below w.heap.size w w' ∧ w'.cell? ⟨g, 1, none⟩ = some (.int .i64 fr.xNext) ∧ w'.cell? ⟨g, 2, none⟩ = some (.slice A2 fr.xMessages.length c2) ∧ w'.cell? ⟨g, 5, none⟩ = some (.slice A5 wt.length c5)) w' from fun w' h => ⟨h, (h.cell (p := ⟨g, 1, none⟩) hgl).trans k1, (h.cell (p := ⟨g, 2, none⟩) hgl).trans k2, (h.cell (p := ⟨g, 5, none⟩) hgl).trans k5⟩)
  have hA : Gain w w.heap.size w [none] none := Gain.start (Below.refl _ _) (Nat.le_refl _) (fun i e h => by rcases i with _ | i <;> simp at h <;> exact h.symm)
  clear k1 k2 k5 hsd hx hf hfo ho
  go_enter Try.func64, Try.ntmps64
  go_upto_region 2 with fail
  go_cut [4, 5] (fun s4 s5 wx => ∃ p A9 n9 c9 F9, s4 = .pointer (some ⟨p, 0, none⟩) ∧ s5 = .bool true ∧ Gain w w.heap.size wx [some (Message.s true x.xMessages, .slice A9 n9 c9, F9)] (some (p, #[.int .i64 x.xNext, .slice A9 n9 c9], 26)))
  case first =>
    clear k0
    go_region_held3 (fun w' => Below w.heap.size w w' ∧ w'.cell? ⟨g, 1, none⟩ = some (.int .i64 fr.xNext) ∧ w'.cell? ⟨g, 2, none⟩ = some (.slice A2 fr.xMessages.length c2) ∧ w'.cell? ⟨g, 5, none⟩ = some (.slice A5 wt.length c5))
      (((refine HSS.out _ ?_); (repeat (with_reducible refine Below.setCell ?_ ?_ _)); (first | (with_reducible exact Gain.below hA) | (with_reducible exact Gain.below (Gain.drew hA)) | (with_reducible exact Gain.below (Gain.alloc0 hA _)) | (with_reducible exact Gain.below (Gain.alloc0 (Gain.drew hA) _)) | (with_reducible exact Gain.below (Gain.drew (Gain.alloc0 hA _)))); (all_goals (first | omega | (dsimp only; omega) | (simp; omega)))))
      ((go_at_call 63; (with_reducible refine (HC _ (by first | (with_reducible exact Gain.below hA) | (with_reducible exact Gain.below (Gain.drew hA)) | (with_reducible exact Gain.below (Gain.alloc hA _ _)) | (with_reducible exact Gain.below (Gain.alloc_drew hA _ _)) | (with_reducible exact Gain.below (Gain.drew (Gain.alloc hA _ _))) | (with_reducible exact Gain.below (Gain.alloc0 hA _)))).mono ?_); rintro e w9 ⟨A9, n9, c9, F9, rfl, hO9, hb9, hF9⟩; (first | (replace hA := Gain.call 0 hb9 hO9 hF9 hA) | (replace hA := Gain.call 0 hb9 hO9 hF9 (Gain.drew hA)) | (replace hA := Gain.call 0 hb9 hO9 hF9 (Gain.alloc hA _ _)) | (replace hA := Gain.call 0 hb9 hO9 hF9 (Gain.alloc_drew hA _ _)) | (replace hA := Gain.call 0 hb9 hO9 hF9 (Gain.drew (Gain.alloc hA _ _))) | (replace hA := Gain.call 0 hb9 hO9 hF9 (Gain.alloc0 hA _))); (try simp only [List.set_cons_zero, List.set_cons_succ] at hA); have hw9 := hA.le; (try (have xp := hA.bx; have y0 := xp.cell 0 rfl; have y1 := xp.cell 1 rfl; have z0 := xp.free 0; have z1 := xp.free 1; have hzp := xp.lt; have hbp := (hA.box _ _ _ rfl).2.1))))
    all_goals
      go_wp2_with fail
      go_meet
      refine ⟨_, A9, n9, c9, F9, rfl, rfl, ?_⟩
      first | (with_reducible exact hA.alloc _ _) | (with_reducible exact Gain.is ((hA.put 0 _).put 1 _) rfl) | (trace_state; sorry)
  case rest =>
    obtain ⟨p, A9, n9, c9, F9, rfl, rfl, hA1⟩ := hcut
    clear hA HSS HC k0
    have hA2 := hA0.step hA1.below
    have xg := hA2.bx
    have xp := hA1.bx
    have hwp := (hA1.box _ _ _ rfl).2.1
    have hpg : p ≠ g := by omega
    have hO9 := (hA1.own 0 _ _ _ rfl).1
    have hl9 : ∀ b, F9 b → w.heap.size ≤ b := (hA1.own 0 _ _ _ rfl).2
    have HB := Lib.hid hA2.below
    have hle := hA2.le
    have hle0 := hA0.le
    have HS2 := Lib.hid (show ∀ w', Bx w' p #[.int .i64 x.xNext, .slice A9 n9 c9] 26 → (fun w' => w'.cell? ⟨p, 0, none⟩ = some (.int .i64 x.xNext) ∧ w'.cell? ⟨p, 1, none⟩ = some (.slice A9 n9 c9)) w' from fun w' h => ⟨h.cell 0 rfl, h.cell 1 rfl⟩)
    clear hA0 hA1 hA2
    cases t1 : (stage == 1) <;> cases t2 : (stage == 2)
    all_goals
      go_upto_region 3 with fail
      go_region_held3 (fun w' => w'.cell? ⟨p, 0, none⟩ = some (.int .i64 x.xNext) ∧ w'.cell? ⟨p, 1, none⟩ = some (.slice A9 n9 c9))
        (((refine HS2.out _ ?_); (repeat (with_reducible refine Bx.far ?_ hpg _)); (first | (with_reducible exact xp3) | (with_reducible exact xp) | (with_reducible exact xp.drew))))
        ((go_at_call 53; (with_reducible refine (impl_emptyLog _).mono ?_); rintro e w3 ⟨rfl, hb3⟩; have hk3 : Below wc.heap.size wc w3 := (by first | exact hb3 | exact (below_drew1 wc).trans (hb3.mono (Nat.le_refl _))); have xp3 := xp.below hk3 xp.lt; have xg3 := xg.below hk3 xg.lt; have q0 := xg3.cell 0 rfl; have z0 := xg3.free 0; have q1 := xg3.cell 1 rfl; have z1 := xg3.free 1; have q2 := xg3.cell 2 rfl; have z2 := xg3.free 2; have q3 := xg3.cell 3 rfl; have z3 := xg3.free 3; have q4 := xg3.cell 4 rfl; have z4 := xg3.free 4; have q5 := xg3.cell 5 rfl; have z5 := xg3.free 5; have hz3 := xg3.lt))
      have hO3 := hO9.keep hk3
      have xg4 := (((((xg3.put 0 (.int .i64 0)).put 1 (.int .i64 x.xNext)).put 2 (.slice A9 n9 c9)).put 3 (.int .i64 1)).put 4 (.slice none 0 0)).put 5 (.slice none 0 0)
      have hB3 := HB.out.trans (hk3.mono hle)
      have hsz3 := hk3.size
      have hB4 := (((((hB3.setCell (p := ⟨g, 0, none⟩) hg0 (.int .i64 0)).setCell (p := ⟨g, 1, none⟩) hg0 (.int .i64 x.xNext)).setCell (p := ⟨g, 2, none⟩) hg0 (.slice A9 n9 c9)).setCell (p := ⟨g, 3, none⟩) hg0 (.int .i64 1)).setCell (p := ⟨g, 4, none⟩) hg0 (.slice none 0 0)).setCell (p := ⟨g, 5, none⟩) hg0 (.slice none 0 0)
      go_wp2
      refine bodyPost_ret (v := .bool (stage == 1 || stage == 2)) (by simp [results, Try.results64, go_sem, t1, t2]) rfl ⟨rfl, hB4, fun _ => ⟨A9, n9, c9, none, 0, 0, none, 0, 0, F9, (fun _ => False), (fun _ => False), Gain.three hB4 (by simp [World.setCell]; omega) ?_ (msgs_own_nil _ none) (drafts_nil _ none) (fun b h => ⟨by have := hl9 b h; omega, by have := hl9 b h; omega⟩) (fun b h => h.elim) (fun b h => h.elim) (fun b _ h => h) (fun b _ h => h) (fun b h => h.elim) (xg4.is rfl) hg0⟩⟩
      repeat (with_reducible refine Ow.far ?_ (fun h => by have hq := hl9 _ h; first | omega | (dsimp only at hq; omega) | (simp at hq; done) | (simp at hq; omega)) _)
      exact hO3
set_option maxHeartbeats 1600000 in
set_option maxRecDepth 100000 in
theorem impl_BreakHand (h : Hand) (us : List Value) (W : World) (hr : RoL W (Lo W.heap.size) (Hand.d true h) us) (hf : h.fit) :
    Calls Try.prog 18 #[.agg us.toArray] W (MadeHB W (BreakHand_f h)) := by
  have HC := fun (w : World) (hb : Below W.heap.size W w) => impl_changedHand 64 (fun _ _ => by rfl) #[] BreakHand_c h us w (rol_to hr hb) hf (fun w0 B g w ho hH _ => impl_BreakHand_1 h w0 B g w ho hf hH) (fun ho hc => brk_fit hf ho)
  have HR := Lib.hid (show BreakHand_f h = changed BreakHand_c h from rfl)
  generalize BreakHand_f h = R at *
  obtain ⟨A2, c2, A4, c4, A5, c5, rfl, -⟩ := Hand.cells hr
  obtain ⟨stage, fr, tt, wt⟩ := h
  simp only at *
  rw [← HR.out] at HC
  clear HR hr hf
  obtain ⟨R1, R2⟩ := R
  go_enter Try.func18, Try.ntmps18
  go_wp2_with fail
  refine (HC _ (by (repeat (first | with_reducible assumption | with_reducible exact Below.refl _ _ | with_reducible refine Below.setCell ?_ ?_ _ | with_reducible refine Below.alloc ?_ ?_ _ | with_reducible refine Below.drew ?_ | with_reducible refine below_drewN ?_ _ | omega | (simp; done) | (simp; omega))); all_goals first | omega | (simp; done) | (simp; omega))).mono ?_
  rintro e w1 ⟨us1, F1, rfl, hO1, hF1, hb1⟩
  obtain ⟨A2', c2', F2, A4', c4', F4, A5', c5', F5, rfl, hO2, -, -, hO4, -, -, hO5, -, -, d24, d25, d45, hFe⟩ := Hand.owned hO1
  simp only [World.size_alloc] at hF1
  have hl2 : ∀ b, F2 b → W.heap.size + 2 ≤ b := fun b h => by have := hF1 b ((hFe b).2 (.inl h)); simpa using this
  have hl4 : ∀ b, F4 b → W.heap.size + 2 ≤ b := fun b h => by have := hF1 b ((hFe b).2 (.inr (.inl h))); simpa using this
  have hl5 : ∀ b, F5 b → W.heap.size + 2 ≤ b := fun b h => by have := hF1 b ((hFe b).2 (.inr (.inr h))); simpa using this
  have hbw : Below (W.heap.size + 2) ((W.alloc (.cells #[.int .i64 stage, .int .i64 fr.xNext, .slice A2 fr.xMessages.length c2, .int .i64 tt.xNext, .slice A4 tt.xMessages.length c4, .slice A5 wt.length c5] 30)).alloc (.cells #[.int .i64 0, .int .i64 0, .slice none 0 0, .int .i64 0, .slice none 0 0, .slice none 0 0] 30)) w1 := hb1.mono (by simp)
  clear hF1 hFe
  have xr : Bx w1 (W.heap.size + 1) #[.int .i64 0, .int .i64 0, .slice none 0 0, .int .i64 0, .slice none 0 0, .slice none 0 0] 30 := (Bx.new2 W _ _ _).below hbw (by omega)
  have r0 := xr.cell 0 rfl
  have g0 := xr.free 0
  have r1 := xr.cell 1 rfl
  have g1 := xr.free 1
  have r2 := xr.cell 2 rfl
  have g2 := xr.free 2
  have r3 := xr.cell 3 rfl
  have g3 := xr.free 3
  have r4 := xr.cell 4 rfl
  have g4 := xr.free 4
  have r5 := xr.cell 5 rfl
  have g5 := xr.free 5
  have hsr := xr.lt
  have hB : Below W.heap.size W w1 := (((Below.refl _ _).alloc (Nat.le_refl _) _).alloc (by simp) _).trans (hbw.mono (by omega))
  go_wp2
  refine bodyPost_ret (v := .tuple #[.agg #[.int .i64 R1.xStage, .int .i64 R1.xFrom.xNext, .slice A2' R1.xFrom.xMessages.length c2', .int .i64 R1.xTo.xNext, .slice A4' R1.xTo.xMessages.length c4', .slice A5' R1.xWaiting.length c5'], .bool R2]) (by simp [results, Try.results18, go_sem, r0, r1, r2, r3, r4, r5, g0, g1, g2, g3, g4, g5, hsr]) rfl ⟨_, (fun b => F2 b ∨ (F4 b ∨ F5 b)), rfl, ?_, fun b h => ?_, (by (repeat (first | with_reducible assumption | with_reducible exact Below.refl _ _ | with_reducible refine Below.setCell ?_ ?_ _ | with_reducible refine Below.alloc ?_ ?_ _ | with_reducible refine Below.drew ?_ | with_reducible refine below_drewN ?_ _ | omega | (simp; done) | (simp; omega))); all_goals first | omega | (simp; done) | (simp; omega))⟩
  · refine Hand.own_mk (h := R1) (F2 := F2) (F4 := F4) (F5 := F5) ?_ ?_ ?_ d24 d25 d45
    · repeat (with_reducible refine Ow.far ?_ (fun h => by have hq := hl2 _ h; first | omega | (dsimp only at hq; omega) | (simp at hq; done) | (simp at hq; omega)) _)
      exact hO2
    · repeat (with_reducible refine Ow.far ?_ (fun h => by have hq := hl4 _ h; first | omega | (dsimp only at hq; omega) | (simp at hq; done) | (simp at hq; omega)) _)
      exact hO4
    · repeat (with_reducible refine Ow.far ?_ (fun h => by have hq := hl5 _ h; first | omega | (dsimp only at hq; omega) | (simp at hq; done) | (simp at hq; omega)) _)
      exact hO5
  · rcases h with h | h | h
    · have := hl2 b h; omega
    · have := hl4 b h; omega
    · have := hl5 b h; omega
end Go.Proofs.Ytafihplbchofoaa

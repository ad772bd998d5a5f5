/- The log of a hand. -/
import Derived.Test.YtafihplbchofoaaVHand
namespace Go.Proofs.Ytafihplbchofoaa
open Go.ChangeShapes Go.WideShapes Go.ChangeAt Go.RowKit Go.Dt
set_option linter.unusedVariables false
set_option linter.unusedSimpArgs false
def LogOfHand_f (h : Hand) : Log × Bool := if h.ok = true then (if h.xStage = 3 then (h.xTo, true) else said h.xFrom h.xWaiting) else (⟨0, []⟩, false)
theorem Hand.ok_logs {h : Hand} (ho : h.ok = true) : h.xFrom.fine ∧ h.xTo.fine := by
  unfold Hand.ok at ho
  simp only [Bool.and_eq_true] at ho
  exact ⟨Log.ok_fine ho.1, Log.ok_fine ho.2.1⟩
set_option maxHeartbeats 1600000 in
set_option maxRecDepth 100000 in
theorem impl_LogOfHand (h : Hand) (us : List Value) (W : World) (hr : RoL W (Lo W.heap.size) (Hand.d true h) us) (hf : h.fit) :
    Calls Try.prog 19 #[.agg us.toArray] W (MadeLB W (LogOfHand_f h)) := by
  have HV := fun (w : World) (hb : Below W.heap.size W w) => impl_ValidHand h us w (rol_to hr hb) hf
  obtain ⟨A2, c2, A4, c4, A5, c5, rfl, r2, l2, m2, r4, l4, m4, r5, l5, m5⟩ := Hand.cells hr
  obtain ⟨stage, fr, to, wt⟩ := h
  obtain ⟨f1, f2, f3, f4, f5, f6⟩ := hf
  simp only at *
  have L2 : ∀ (w : World), Below W.heap.size W w → RoL w (Lo w.heap.size) (Log.d true to) [.int .i64 to.xNext, .slice A4 to.xMessages.length c4] := fun w hb => by unfold Log.d; exact RoL.cons (.int _ _) (RoL.cons (ro_to r4 hb) RoL.nil)
  have L1 : ∀ (w : World), Below W.heap.size W w → RoL w (Lo w.heap.size) (Log.d true fr) [.int .i64 fr.xNext, .slice A2 fr.xMessages.length c2] := fun w hb => by unfold Log.d; exact RoL.cons (.int _ _) (RoL.cons (ro_to r2 hb) RoL.nil)
  cases ho : Hand.ok ⟨stage, fr, to, wt⟩
  · have HX := Lib.hid (show LogOfHand_f ⟨stage, fr, to, wt⟩ = (⟨0, []⟩, false) from by unfold LogOfHand_f; rw [ho]; rfl)
    rw [ho] at HV
    clear ho
    go_enter Try.func19, Try.ntmps19
    go_wp2_with fail
    refine (HV _ (((Below.refl _ _).alloc (Nat.le_refl _) _).alloc (by simp) _)).mono ?_
    rintro e w1 ⟨rfl, hb⟩
    have hbw : Below (W.heap.size + 2) ((W.alloc (.cells #[.int .i64 stage, .int .i64 fr.xNext, .slice A2 fr.xMessages.length c2, .int .i64 to.xNext, .slice A4 to.xMessages.length c4, .slice A5 wt.length c5] 30)).alloc (.cells #[.int .i64 0, .slice none 0 0] 26)) w1 := hb.mono (by simp)
    have xr : Bx w1 (W.heap.size + 1) #[.int .i64 0, .slice none 0 0] 26 := (Bx.new2 W _ _ _).below hbw (by omega)
    have xb : Bx w1 W.heap.size #[.int .i64 stage, .int .i64 fr.xNext, .slice A2 fr.xMessages.length c2, .int .i64 to.xNext, .slice A4 to.xMessages.length c4, .slice A5 wt.length c5] 30 := ((Bx.new W _ _).alloc _).below hbw (by omega)
    have r0 := xr.cell 0 rfl
    have r1 := xr.cell 1 rfl
    have g0 := xr.free 0
    have g1 := xr.free 1
    have hsr := xr.lt
    have hB : Below W.heap.size W w1 := (((Below.refl _ _).alloc (Nat.le_refl _) _).alloc (by simp) _).trans (hbw.mono (by omega))
    go_wp2
    exact bodyPost_ret (v := .tuple #[.agg #[.int .i64 0, .slice none 0 0], .bool false]) (by simp [results, Try.results19, go_sem, r0, r1, g0, g1, hsr]) rfl (madeLB_no HX.out (by (repeat (first | with_reducible assumption | with_reducible exact Below.refl _ _ | with_reducible refine Below.setCell ?_ ?_ _ | with_reducible refine Below.alloc ?_ ?_ _ | with_reducible refine Below.drew ?_ | with_reducible refine below_drewN ?_ _ | omega | (simp; done) | (simp; omega))); all_goals first | omega | (simp; done) | (simp; omega)))
  have hfo := Hand.ok_logs ho
  by_cases s3 : stage = 3
  · subst s3
    have HX := Lib.hid (show LogOfHand_f ⟨3, fr, to, wt⟩ = (to, true) from by unfold LogOfHand_f; rw [ho]; rfl)
    have HC := fun (w : World) (hb : Below W.heap.size W w) => impl_cloneLog to _ w (L2 w hb) (fun m hm => (hfo.2.2.2.2 m hm).2) f5
    rw [ho] at HV
    clear ho
    go_enter Try.func19, Try.ntmps19
    go_wp2_with fail
    refine (HV _ (((Below.refl _ _).alloc (Nat.le_refl _) _).alloc (by simp) _)).mono ?_
    rintro e w1 ⟨rfl, hb⟩
    have hbw : Below (W.heap.size + 2) ((W.alloc (.cells #[.int .i64 3, .int .i64 fr.xNext, .slice A2 fr.xMessages.length c2, .int .i64 to.xNext, .slice A4 to.xMessages.length c4, .slice A5 wt.length c5] 30)).alloc (.cells #[.int .i64 0, .slice none 0 0] 26)) w1 := hb.mono (by simp)
    have xr : Bx w1 (W.heap.size + 1) #[.int .i64 0, .slice none 0 0] 26 := (Bx.new2 W _ _ _).below hbw (by omega)
    have xb : Bx w1 W.heap.size #[.int .i64 3, .int .i64 fr.xNext, .slice A2 fr.xMessages.length c2, .int .i64 to.xNext, .slice A4 to.xMessages.length c4, .slice A5 wt.length c5] 30 := ((Bx.new W _ _).alloc _).below hbw (by omega)
    have r0 := xr.cell 0 rfl
    have r1 := xr.cell 1 rfl
    have g0 := xr.free 0
    have g1 := xr.free 1
    have hsr := xr.lt
    have hB : Below W.heap.size W w1 := (((Below.refl _ _).alloc (Nat.le_refl _) _).alloc (by simp) _).trans (hbw.mono (by omega))
    have b0 := xb.cell 0 rfl
    have b3 := xb.cell 3 rfl
    have b4 := xb.cell 4 rfl
    have hs1 := hbw.size
    simp at hs1
    go_wp2_with fail
    refine (HC w1 hB).mono ?_
    clear r0 r1 g0 g1 hsr xr b0 b3 b4 xb hB
    rintro e w2 ⟨us2, F2, rfl, hO2, hb2, hF2⟩
    obtain ⟨A9, c9, F9, rfl, hO9, -, -, hFe⟩ := Log.owned hO2
    have hbw2 := hbw.trans (hb2.mono (by omega))
    have xr : Bx w2 (W.heap.size + 1) #[.int .i64 0, .slice none 0 0] 26 := (Bx.new2 W _ _ _).below hbw2 (by omega)
    have xb : Bx w2 W.heap.size #[.int .i64 3, .int .i64 fr.xNext, .slice A2 fr.xMessages.length c2, .int .i64 to.xNext, .slice A4 to.xMessages.length c4, .slice A5 wt.length c5] 30 := ((Bx.new W _ _).alloc _).below hbw2 (by omega)
    have r0 := xr.cell 0 rfl
    have r1 := xr.cell 1 rfl
    have g0 := xr.free 0
    have g1 := xr.free 1
    have hsr := xr.lt
    have hB : Below W.heap.size W w2 := (((Below.refl _ _).alloc (Nat.le_refl _) _).alloc (by simp) _).trans (hbw2.mono (by omega))
    have hlo : ∀ b, F9 b → W.heap.size + 2 ≤ b := fun b h => by have := hF2 b ((hFe b).2 h); omega
    go_wp2
    refine bodyPost_ret (v := .tuple #[.agg #[.int .i64 to.xNext, .slice A9 to.xMessages.length c9], .bool true]) (by simp [results, Try.results19, go_sem, r0, r1, g0, g1, hsr]) rfl ⟨A9, _, c9, F9, by rw [HX.out], ?_, (by (repeat (first | with_reducible assumption | with_reducible exact Below.refl _ _ | with_reducible refine Below.setCell ?_ ?_ _ | with_reducible refine Below.alloc ?_ ?_ _ | with_reducible refine Below.drew ?_ | with_reducible refine below_drewN ?_ _ | omega | (simp; done) | (simp; omega))); all_goals first | omega | (simp; done) | (simp; omega)), fun b h => by have := hlo b h; omega⟩
    rw [HX.out]
    repeat (refine Ow.far ?_ (fun h => by have hq := hlo _ h; first | omega | (dsimp only at hq; omega) | (simp at hq; done) | (simp at hq; omega)) _)
    exact hO9
  have HX := Lib.hid (show LogOfHand_f ⟨stage, fr, to, wt⟩ = said fr wt from by unfold LogOfHand_f; rw [ho]; simp [s3])
  have t3 : (stage == 3) = false := by simp [s3]
  have HC := fun (w : World) (hb : Below W.heap.size W w) => impl_withDrafts fr wt _ A5 c5 w (L1 w hb) hfo.1 (ro_to r5 hb) f3 f6
  rw [ho] at HV
  clear ho s3
  have : True := trivial
  · go_enter Try.func19, Try.ntmps19
    go_wp2_with fail
    refine (HV _ (((Below.refl _ _).alloc (Nat.le_refl _) _).alloc (by simp) _)).mono ?_
    rintro e w1 ⟨rfl, hb⟩
    have hbw : Below (W.heap.size + 2) ((W.alloc (.cells #[.int .i64 stage, .int .i64 fr.xNext, .slice A2 fr.xMessages.length c2, .int .i64 to.xNext, .slice A4 to.xMessages.length c4, .slice A5 wt.length c5] 30)).alloc (.cells #[.int .i64 0, .slice none 0 0] 26)) w1 := hb.mono (by simp)
    have xr : Bx w1 (W.heap.size + 1) #[.int .i64 0, .slice none 0 0] 26 := (Bx.new2 W _ _ _).below hbw (by omega)
    have xb : Bx w1 W.heap.size #[.int .i64 stage, .int .i64 fr.xNext, .slice A2 fr.xMessages.length c2, .int .i64 to.xNext, .slice A4 to.xMessages.length c4, .slice A5 wt.length c5] 30 := ((Bx.new W _ _).alloc _).below hbw (by omega)
    have r0 := xr.cell 0 rfl
    have r1 := xr.cell 1 rfl
    have g0 := xr.free 0
    have g1 := xr.free 1
    have hsr := xr.lt
    have hB : Below W.heap.size W w1 := (((Below.refl _ _).alloc (Nat.le_refl _) _).alloc (by simp) _).trans (hbw.mono (by omega))
    have b0 := xb.cell 0 rfl
    have b1 := xb.cell 1 rfl
    have b2 := xb.cell 2 rfl
    have b5 := xb.cell 5 rfl
    have hs1 := hbw.size
    simp at hs1
    go_wp2_with fail
    refine (HC w1 hB).mono ?_
    clear r0 r1 g0 g1 hsr xr b0 b1 b2 b5 xb hB
    rintro e w2 ⟨A9, n9, c9, F9, rfl, hO9, hb2, hF2⟩
    have hbw2 := hbw.trans (hb2.mono (by omega))
    have xr : Bx w2 (W.heap.size + 1) #[.int .i64 0, .slice none 0 0] 26 := (Bx.new2 W _ _ _).below hbw2 (by omega)
    have xb : Bx w2 W.heap.size #[.int .i64 stage, .int .i64 fr.xNext, .slice A2 fr.xMessages.length c2, .int .i64 to.xNext, .slice A4 to.xMessages.length c4, .slice A5 wt.length c5] 30 := ((Bx.new W _ _).alloc _).below hbw2 (by omega)
    have r0 := xr.cell 0 rfl
    have r1 := xr.cell 1 rfl
    have g0 := xr.free 0
    have g1 := xr.free 1
    have hsr := xr.lt
    have hB : Below W.heap.size W w2 := (((Below.refl _ _).alloc (Nat.le_refl _) _).alloc (by simp) _).trans (hbw2.mono (by omega))
    have hlo : ∀ b, F9 b → W.heap.size + 2 ≤ b := fun b h => by have := hF2 b h; omega
    go_wp2
    refine bodyPost_ret (v := .tuple #[.agg #[.int .i64 (said fr wt).1.xNext, .slice A9 n9 c9], .bool (said fr wt).2]) (by simp [results, Try.results19, go_sem, r0, r1, g0, g1, hsr]) rfl ⟨A9, n9, c9, F9, by rw [HX.out], ?_, (by (repeat (first | with_reducible assumption | with_reducible exact Below.refl _ _ | with_reducible refine Below.setCell ?_ ?_ _ | with_reducible refine Below.alloc ?_ ?_ _ | with_reducible refine Below.drew ?_ | with_reducible refine below_drewN ?_ _ | omega | (simp; done) | (simp; omega))); all_goals first | omega | (simp; done) | (simp; omega)), fun b h => by have := hlo b h; omega⟩
    rw [HX.out]
    repeat (refine Ow.far ?_ (fun h => by have hq := hlo _ h; first | omega | (dsimp only at hq; omega) | (simp at hq; done) | (simp at hq; omega)) _)
    exact hO9
theorem sum_le_mul (l : List Nat) (B : Nat) (h : ∀ x ∈ l, x ≤ B) : l.sum ≤ l.length * B := by
  induction l with
  | nil => simp
  | cons x l ih =>
    have a := h x (by simp)
    have b := ih fun y hy => h y (by simp [hy])
    rw [List.sum_cons, List.length_cons, Nat.add_mul]
    omega
theorem say_ok {l : Log} {ds : List Draft} {x : Log} (hl : l.ok = true) (h : say l ds = some x) : x.ok = true := by
  induction ds generalizing l with
  | nil => injection h with h; exact h ▸ hl
  | cons d ds ih =>
    have h' : (sayOne l d).bind (fun x => say x ds) = some x := h
    unfold sayOne at h'
    split at h'
    · rename_i hok
      exact ih hok h'
    · cases h'
theorem LogOfHand_lawI (x : Hand) (us : List Value) (W : World) (hr : RoL W (Lo W.heap.size) (Hand.d true x) us) (hz : Hand.z x ≤ 1048576) : Calls Try.prog 19 #[.agg us.toArray] W fun e w' =>
    ∃ us F, e = .returned (.tuple #[.agg us.toArray, .bool (LogOfHand_f x).2]) ∧ OwL w' (Log.d true (LogOfHand_f x).1) us F ∧ (∀ b, F b → W.heap.size ≤ b) ∧ Below W.heap.size W w' :=
  (impl_LogOfHand x us W hr (Hand.fit_of hz)).mono fun e w' ⟨A, n, c, F, h1, h2, h3, h4⟩ => ⟨_, F, h1, Log.own_of h2, h4, h3⟩
end Go.Proofs.Ytafihplbchofoaa

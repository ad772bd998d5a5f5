/- A hand that begins. -/
import Derived.Test.YtafihplbchofoaaLoh
namespace Go.Proofs.Ytafihplbchofoaa
open Go.ChangeShapes Go.WideShapes Go.ChangeAt Go.RowKit Go.Dt
set_option linter.unusedVariables false
set_option linter.unusedSimpArgs false
def Hand.zero : Hand := ⟨0, ⟨0, []⟩, ⟨0, []⟩, []⟩
/-- What hands back a hand and a bool. -/
def MadeHB (W : World) (r : Hand × Bool) (e : Ending) (w' : World) : Prop := ∃ us F, e = .returned (.tuple #[.agg us.toArray, .bool r.2]) ∧ OwL w' (Hand.d true r.1) us F ∧ (∀ b, F b → W.heap.size ≤ b) ∧ Below W.heap.size W w'
theorem Hand.own_mk {w : World} {h : Hand} {A2 A4 A5 : Option Addr} {n2 c2 n4 c4 n5 c5 : Nat} {F2 F4 F5 : Nat → Prop} (h2 : Ow w (Message.s true h.xFrom.xMessages) (.slice A2 n2 c2) F2) (h4 : Ow w (Message.s true h.xTo.xMessages) (.slice A4 n4 c4) F4) (h5 : Ow w (Draft.s true h.xWaiting) (.slice A5 n5 c5) F5)
    (d24 : ∀ b, F2 b → ¬ F4 b) (d25 : ∀ b, F2 b → ¬ F5 b) (d45 : ∀ b, F4 b → ¬ F5 b) :
    OwL w (Hand.d true h) [.int .i64 h.xStage, .int .i64 h.xFrom.xNext, .slice A2 n2 c2, .int .i64 h.xTo.xNext, .slice A4 n4 c4, .slice A5 n5 c5] (fun b => F2 b ∨ (F4 b ∨ F5 b)) := by
  unfold Hand.d
  exact OwL.consP (Ow.I _ _) (OwL.consP (Ow.I _ _) (OwL.cons h2 (OwL.consP (Ow.I _ _) (OwL.cons h4 (OwL.one h5) d45)) (fun b a c => c.elim (d24 b a) (d25 b a))))
theorem drafts_nil (w : World) (A : Option Addr) : Ow w (Draft.s true []) (.slice A 0 0) (fun _ => False) := .emp _ _ _ _ (by simp)
theorem madeHB_no {W w' : World} {r : Hand × Bool} (hr : r = (Hand.zero, false)) (hb : Below W.heap.size W w') : MadeHB W r (.returned (.tuple #[.agg #[.int .i64 0, .int .i64 0, .slice none 0 0, .int .i64 0, .slice none 0 0, .slice none 0 0], .bool false])) w' := by
  subst hr
  exact ⟨_, _, rfl, Hand.own_mk (h := Hand.zero) (msgs_own_nil _ none) (msgs_own_nil _ none) (drafts_nil _ none) (fun b h => h.elim) (fun b h => h.elim) (fun b h => h.elim), fun b h => by rcases h with h | h | h <;> exact h.elim, hb⟩
def BeginHand_f (l : Log) : Hand × Bool := if l.ok = true then (⟨0, l, ⟨1, []⟩, []⟩, true) else (Hand.zero, false)
theorem begin_ok (l : Log) : Hand.ok ⟨0, l, ⟨1, []⟩, []⟩ = l.ok := by
  unfold Hand.ok
  have e1 : Log.ok ⟨1, []⟩ = true := by decide
  have e2 : said l [] = (l, true) := rfl
  have e3 : Log.isEmpty ⟨1, []⟩ = true := by decide
  simp only [e1, e2, e3]
  cases l.ok <;> simp [stageOk]
theorem impl_emptyLog (W : World) : Calls Try.prog 53 #[] W fun e w' => e = .returned (.agg #[.int .i64 1, .slice none 0 0]) ∧ Below W.heap.size W w' := by
  go_enter Try.func53, Try.ntmps53
  go_wp2
  exact bodyPost_ret (v := .agg #[.int .i64 1, .slice none 0 0]) (by simp [results, Try.results53, go_sem]) rfl ⟨rfl, (by (repeat (first | with_reducible assumption | with_reducible exact Below.refl _ _ | with_reducible refine Below.setCell ?_ ?_ _ | with_reducible refine Below.alloc ?_ ?_ _ | with_reducible refine Below.drew ?_ | with_reducible refine below_drewN ?_ _ | omega | (simp; done) | (simp; omega))); all_goals first | omega | (simp; done) | (simp; omega))⟩
set_option maxHeartbeats 1600000 in
set_option maxRecDepth 100000 in
theorem impl_BeginHand (x : Log) (us : List Value) (W : World) (hr : RoL W (Lo W.heap.size) (Log.d true x) us) (hw : ∀ m ∈ x.xMessages, m.xText.size ≤ maxLen ∧ m.xLikes.length ≤ 1048576) (hl : x.xMessages.length ≤ 1048576) :
    Calls Try.prog 10 #[.agg us.toArray] W (MadeHB W (BeginHand_f x)) := by
  have HC := fun (w : World) (hb : Below W.heap.size W w) => impl_cloneLog x us w (rol_to hr hb) (fun m hm => (hw m hm).2) hl
  obtain ⟨A, c, rfl, -⟩ := Log.cells hr
  have HV := fun (us : List Value) (w : World) (h : RoL w (Lo w.heap.size) (Hand.d true ⟨0, x, ⟨1, []⟩, []⟩) us) => impl_ValidHand ⟨0, x, ⟨1, []⟩, []⟩ us w h ⟨fun m hm => (hw m hm).1, by simp, by simp, hl, by simp, by simp⟩
  rw [begin_ok] at HV
  clear hr hw
  cases ho : x.ok
  all_goals
    rw [ho] at HV
    have HX := Lib.hid ho
    clear ho
    go_enter Try.func10, Try.ntmps10
    go_wp2_with fail
    refine (HC _ (by (repeat (first | with_reducible assumption | with_reducible exact Below.refl _ _ | with_reducible refine Below.setCell ?_ ?_ _ | with_reducible refine Below.alloc ?_ ?_ _ | with_reducible refine Below.drew ?_ | with_reducible refine below_drewN ?_ _ | omega | (simp; done) | (simp; omega))); all_goals first | omega | (simp; done) | (simp; omega))).mono ?_
    rintro e w1 ⟨us1, F1, rfl, hO1, hb1, hF1⟩
    obtain ⟨A2, c2, F2, rfl, hO2, -, -, hFe⟩ := Log.owned hO1
    have hbw1 : Below (W.heap.size + 2) ((W.alloc (.cells #[.int .i64 x.xNext, .slice A x.xMessages.length c] 26)).alloc (.cells #[.int .i64 0, .int .i64 0, .slice none 0 0, .int .i64 0, .slice none 0 0, .slice none 0 0] 30)) w1 := hb1.mono (by simp)
    have hlo : ∀ b, F2 b → W.heap.size + 2 ≤ b := fun b h => by have := hF1 b ((hFe b).2 h); simpa using this
    have hsz1 := hbw1.size
    simp at hsz1
    clear hFe hF1
    go_wp2_with fail
    refine (impl_emptyLog _).mono ?_
    rintro e w2 ⟨rfl, hb2⟩
    have hbw2 := hbw1.trans (hb2.mono (by omega))
    have hO3 := hO2.keep hb2
    have hsz2 := hb2.size
    have hhi : ∀ b, F2 b → b < w2.heap.size := hO3.lt
    go_wp2_with fail
    refine (HV [.int .i64 0, .int .i64 x.xNext, .slice A2 x.xMessages.length c2, .int .i64 1, .slice none 0 0, .slice none 0 0] _ (Hand.own_mk (h := ⟨0, x, ⟨1, []⟩, []⟩) (hO3.alloc _) (msgs_own_nil _ none) (drafts_nil _ none) (fun b _ h => h) (fun b _ h => h) (fun b h => h.elim)).lo).mono ?_
    rintro e w3 ⟨rfl, hb3⟩
    have hbw3 := (hbw2.alloc (by omega) _).trans (hb3.mono (by simp; omega))
    have xo := (Bx.new w2 #[.int .i64 0, .int .i64 x.xNext, .slice A2 x.xMessages.length c2, .int .i64 1, .slice none 0 0, .slice none 0 0] 30).below hb3 (by simp)
    have hO4 := (hO3.alloc (.cells #[.int .i64 0, .int .i64 x.xNext, .slice A2 x.xMessages.length c2, .int .i64 1, .slice none 0 0, .slice none 0 0] 30)).keep hb3
    have xr : Bx w3 (W.heap.size + 1) #[.int .i64 0, .int .i64 0, .slice none 0 0, .int .i64 0, .slice none 0 0, .slice none 0 0] 30 := (Bx.new2 W _ _ _).below hbw3 (by omega)
    have r0 := xr.cell 0 rfl
    have g0 := xr.free 0
    have r1 := xr.cell 1 rfl
    have g1 := xr.free 1
    have r2 := xr.cell 2 rfl
    have g2 := xr.free 2
    have r3 := xr.cell 3 rfl
    have g3 := xr.free 3
    have r4 := xr.cell 4 rfl
    have g4 := xr.free 4
    have r5 := xr.cell 5 rfl
    have g5 := xr.free 5
    have hsr := xr.lt
    have hB : Below W.heap.size W w3 := (((Below.refl _ _).alloc (Nat.le_refl _) _).alloc (by simp) _).trans (hbw3.mono (by omega))
    have o0 := xo.cell 0 rfl
    have o1 := xo.cell 1 rfl
    have o2 := xo.cell 2 rfl
    have o3 := xo.cell 3 rfl
    have o4 := xo.cell 4 rfl
    have o5 := xo.cell 5 rfl
    have hso := xo.lt
    go_wp2
  · exact bodyPost_ret (v := .tuple #[.agg #[.int .i64 0, .int .i64 0, .slice none 0 0, .int .i64 0, .slice none 0 0, .slice none 0 0], .bool false]) (by simp [results, Try.results10, go_sem, r0, r1, r2, r3, r4, r5, g0, g1, g2, g3, g4, g5, hsr]) rfl (madeHB_no (by unfold BeginHand_f; rw [HX.out]; rfl) (by (repeat (first | with_reducible assumption | with_reducible exact Below.refl _ _ | with_reducible refine Below.setCell ?_ ?_ _ | with_reducible refine Below.alloc ?_ ?_ _ | with_reducible refine Below.drew ?_ | with_reducible refine below_drewN ?_ _ | omega | (simp; done) | (simp; omega))); all_goals first | omega | (simp; done) | (simp; omega)))
  · have e : BeginHand_f x = (⟨0, x, ⟨1, []⟩, []⟩, true) := by unfold BeginHand_f; rw [HX.out]; rfl
    refine bodyPost_ret (v := .tuple #[.agg #[.int .i64 0, .int .i64 x.xNext, .slice A2 x.xMessages.length c2, .int .i64 1, .slice none 0 0, .slice none 0 0], .bool true]) (by simp [results, Try.results10, go_sem, r0, r1, r2, r3, r4, r5, g0, g1, g2, g3, g4, g5, hsr, o0, o1, o2, o3, o4, o5, hso]) rfl ⟨_, (fun b => F2 b ∨ (False ∨ False)), by rw [e], ?_, fun b h => ?_, (by (repeat (first | with_reducible assumption | with_reducible exact Below.refl _ _ | with_reducible refine Below.setCell ?_ ?_ _ | with_reducible refine Below.alloc ?_ ?_ _ | with_reducible refine Below.drew ?_ | with_reducible refine below_drewN ?_ _ | omega | (simp; done) | (simp; omega))); all_goals first | omega | (simp; done) | (simp; omega))⟩
    · rw [e]
      refine Hand.own_mk (h := ⟨0, x, ⟨1, []⟩, []⟩) (F2 := F2) ?_ (msgs_own_nil _ none) (drafts_nil _ none) (fun b _ h => h) (fun b _ h => h) (fun b h => h.elim)
      repeat (first | (with_reducible refine Ow.alloc ?_ _) | (with_reducible refine Ow.far ?_ (fun h => by have hq := hlo _ h; first | omega | (dsimp only at hq; omega) | (simp at hq; done) | (simp at hq; omega)) _))
      exact hO4
    · rcases h with h | h | h
      · have := hlo b h; omega
      · exact h.elim
      · exact h.elim
theorem MadeHB.lawS {W : World} {r : Hand × Bool} {e : Ending} {w' : World} (h : MadeHB W r e w') : ∃ us, e = .returned (.tuple #[.agg us.toArray, .bool r.2]) ∧ RoL w' (Lo w'.heap.size) (Hand.d true r.1) us ∧ Below W.heap.size W w' := by
  obtain ⟨us, F, h1, h2, h3, h4⟩ := h
  exact ⟨us, h1, h2.lo, h4⟩
theorem Log.likes {x : Log} (hz : Log.z x ≤ 1048576) : ∀ m ∈ x.xMessages, m.xText.size ≤ maxLen ∧ m.xLikes.length ≤ 1048576 := by
  intro m hm
  refine ⟨Log.texts hz m hm, ?_⟩
  have h := mem_sum Message.z hm
  have h2 : Message.z m = m.xText.size + m.xLikes.length := rfl
  have h3 : Log.z x = Message.zs x.xMessages := rfl
  have h4 : Message.zs x.xMessages = x.xMessages.length + (x.xMessages.map fun y => Message.z y).sum := rfl
  have h5 : (x.xMessages.map fun y => Message.z y) = x.xMessages.map Message.z := rfl
  rw [h5] at h4
  omega
theorem BeginHand_lawI (x : Log) (us : List Value) (W : World) (hr : RoL W (Lo W.heap.size) (Log.d true x) us) (hz : Log.z x ≤ 1048576) : Calls Try.prog 10 #[.agg us.toArray] W fun e w' =>
    ∃ us F, e = .returned (.tuple #[.agg us.toArray, .bool (BeginHand_f x).2]) ∧ OwL w' (Hand.d true (BeginHand_f x).1) us F ∧ (∀ b, F b → W.heap.size ≤ b) ∧ Below W.heap.size W w' :=
  impl_BeginHand x us W hr (Log.likes hz) (Nat.le_trans Log.long hz)
end Go.Proofs.Ytafihplbchofoaa

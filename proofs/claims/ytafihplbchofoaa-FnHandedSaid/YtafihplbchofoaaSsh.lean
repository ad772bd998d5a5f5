/- Hands: what says into one. -/
import Derived.Test.YtafihplbchofoaaSFin
import Derived.Deep.DeepCutAuto
import Derived.BigQuiet
import Derived.Test.YtafihplbchofoaaLawB
/- Hands: what says into one (the program). -/
/- SayHand's own copy, and its law. -/
namespace Go.Proofs.Ytafihplbchofoaa
open Go.ChangeShapes Go.WideShapes Go.ChangeAt Go.RowKit Go.Dt
set_option linter.unusedVariables false
set_option linter.unusedSimpArgs false
/-- An entry and the box are exchanged: their blocks alone are turned. -/
theorem Gain.turnBox {w0 w w' : World} {B g : Nat} {ss : List (Option (D × Value × (Nat → Prop)))} {cs cs' : Array Value} {t : TypeId} (i : Nat) {d d' : D} {v v' : Value} {F F' : Nat → Prop} (h : Gain w0 B w ss (some (g, cs, t))) (hi : ss[i]? = some (some (d, v, F))) (hk : Kp (fun b => b = g ∨ F b) w w') (hO : Ow w' d' v' F') (hF : ∀ b, F' b → F b ∨ w.heap.size ≤ b) (hx : Bx w' g cs' t) : Gain w0 B w' (ss.set i (some (d', v', F'))) (some (g, cs', t)) := by
  obtain ⟨hO0, hF0⟩ := h.own i _ _ _ hi
  obtain ⟨a1, a2, a3⟩ := h.box _ _ _ rfl
  have hs : ∀ (j : Nat) d1 v1 F1, (ss.set i (some (d', v', F')))[j]? = some (some (d1, v1, F1)) → (j = i ∧ d1 = d' ∧ v1 = v' ∧ F1 = F') ∨ (j ≠ i ∧ ss[j]? = some (some (d1, v1, F1))) := by
    intro j d1 v1 F1 e
    rw [List.getElem?_set] at e
    split at e
    · rename_i hij
      split at e
      · simp only [Option.some.injEq, Prod.mk.injEq] at e
        exact .inl ⟨hij.symm, e.1.symm, e.2.1.symm, e.2.2.symm⟩
      · cases e
    · rename_i hij
      exact .inr ⟨fun a => hij a.symm, e⟩
  refine ⟨h.below.trans (hk.below h.le (fun b hb => hb.elim (fun e => e ▸ a2) (hF0 b))), Nat.le_trans h.le hk.size, ?_, ?_, ?_⟩
  · intro j d1 v1 F1 e
    rcases hs j _ _ _ e with ⟨rfl, rfl, rfl, rfl⟩ | ⟨hj, e⟩
    · exact ⟨hO, fun b hb => (hF b hb).elim (hF0 b) (fun a => Nat.le_trans h.le a)⟩
    · exact ⟨(h.own j _ _ _ e).1.kp hk (fun b hb hn => hn.elim (fun e' => a3 j _ _ _ e (e' ▸ hb)) (h.apart j i _ _ _ _ _ _ hj e hi b hb)), (h.own j _ _ _ e).2⟩
  · intro j j' d1 v1 F1 d2 v2 F2 hj e1 e2 b h1 h2
    rcases hs _ _ _ _ e1 with ⟨rfl, rfl, rfl, rfl⟩ | ⟨hj1, k1⟩ <;> rcases hs _ _ _ _ e2 with ⟨rfl, rfl, rfl, rfl⟩ | ⟨hj2, k2⟩
    · exact hj rfl
    · rcases hF b h1 with a | a
      · exact h.apart _ _ _ _ _ _ _ _ hj hi k2 b a h2
      · exact Nat.lt_irrefl _ (Nat.lt_of_le_of_lt a ((h.own _ _ _ _ k2).1.lt b h2))
    · rcases hF b h2 with a | a
      · exact h.apart _ _ _ _ _ _ _ _ hj k1 hi b h1 a
      · exact Nat.lt_irrefl _ (Nat.lt_of_le_of_lt a ((h.own _ _ _ _ k1).1.lt b h1))
    · exact h.apart _ _ _ _ _ _ _ _ hj k1 k2 b h1 h2
  · intro b cs1 t1 e
    injection e with e; injection e with e1 e2; injection e2 with e2 e3
    subst e1; subst e2; subst e3
    refine ⟨hx, a2, fun j d1 v1 F1 e' hf => ?_⟩
    rcases hs _ _ _ _ e' with ⟨rfl, rfl, rfl, rfl⟩ | ⟨_, e'⟩
    · rcases hF _ hf with a | a
      · exact a3 _ _ _ _ hi a
      · exact Nat.lt_irrefl _ (Nat.lt_of_le_of_lt a a1.lt)
    · exact a3 _ _ _ _ e' hf
end Go.Proofs.Ytafihplbchofoaa

namespace Go.Proofs.Ytafihplbchofoaa
open Go.ChangeShapes Go.WideShapes Go.ChangeAt Go.RowKit Go.Dt
set_option linter.unusedVariables false
set_option linter.unusedSimpArgs false
def SayHand_c (d : Draft) (h : Hand) : Hand × Bool :=
  if h.xStage = 2 then (⟨2, h.xFrom, h.xTo, h.xWaiting ++ [d]⟩, true)
  else if h.xStage = 3 then (⟨3, h.xFrom, post0 h.xTo d.xSender d.xAt d.xText, h.xWaiting⟩, (post0 h.xTo d.xSender d.xAt d.xText).ok)
  else (⟨h.xStage, post0 h.xFrom d.xSender d.xAt d.xText, h.xTo, h.xWaiting⟩, (post0 h.xFrom d.xSender d.xAt d.xText).ok)
def SayHand_f (h : Hand) (d : Draft) : Hand × Bool := changed (SayHand_c d) h
theorem draft_own (w : World) (d : Draft) : OwL w (Draft.d true d) [.int .i64 d.xSender, .int .i64 d.xAt, .string d.xText] (fun _ => False) := OwL.consP (Ow.I _ _) (OwL.consP (Ow.I _ _) (OwL.one (Ow.S _)))
theorem drafts_snoc {w : World} {l : List Draft} {m : Draft} {v : Value} {F : Nat → Prop} (h : Ow w (.sl 35 3 (l.map (Draft.d true) ++ [Draft.d true m])) v F) : Ow w (Draft.s true (l ++ [m])) v F := by
  unfold Draft.s; rw [List.map_append]; exact h
set_option maxHeartbeats 1600000 in
set_option maxRecDepth 100000 in
theorem impl_SayHand_1 (d : Draft) (hdt : d.xText.size ≤ maxLen) (h : Hand) (p : Nat) (w0 : World) (B g : Nat) (w : World) (ho : h.ok = true) (hf : h.fit) (hp : p < B) (k0 : w.cell? ⟨p, 0, none⟩ = some (.int .i64 d.xSender)) (k1 : w.cell? ⟨p, 1, none⟩ = some (.int .i64 d.xAt)) (k2 : w.cell? ⟨p, 2, none⟩ = some (.string d.xText))
    (hH : HandAt w0 B w g h) : Calls Try.prog 57 (#[.pointer (some ⟨g, 0, none⟩)] ++ #[.pointer (some ⟨p, 0, none⟩)]) w fun e w' => e = .returned (.bool (SayHand_c d h).2) ∧ Below B w0 w' ∧ ((SayHand_c d h).2 = true → HandAt w0 B w' g (SayHand_c d h).1) := by
  have hsd := Hand.ok_said ho
  have hfo := Hand.ok_logs ho
  have hpl : p < w.heap.size := World.block_lt_of_cell? w _ k0
  unfold SayHand_c
  obtain ⟨stage, fr, tt, wt⟩ := h
  obtain ⟨A2, n2, c2, A4, n4, c4, A5, n5, c5, F2, F4, F5, hA0⟩ := hH
  have hgB := (hA0.box _ _ _ rfl).2.1
  simp only at *
  by_cases hs : stage = 2
  · subst hs
    rw [if_pos rfl]
    have xg := hA0.bx
    have hO5 := (hA0.own 2 _ _ _ rfl).1
    have hl5 := (hA0.own 2 _ _ _ rfl).2
    have hgF := (hA0.box _ _ _ rfl).2.2 2 _ _ _ rfl
    have y0 := xg.cell 0 rfl
    have y5 := xg.cell 5 rfl
    have hgl := xg.lt
    have hwl := hf.2.2.2.2.2
    simp only at hwl
    clear hsd hfo hf ho
    have HN := Lib.hid hwl
    clear hwl
    show Calls _ _ #[.pointer _, .pointer _] _ _
    go_enter Try.func57, Try.ntmps57
    go_wp2
    go_region_law (refine step_append1 (by rfl) _ _ 28 35 (by rfl) Try.underlying28 (.agg #[.int .i64 0, .int .i64 0, .string ByteArray.empty]) 3 32 Draft.inf rfl (by decide) (by decide) (by rfl) hO5.drew #[.int .i64 d.xSender, .int .i64 d.xAt, .string d.xText] (by rfl) (Draft.d true d) (fun _ => False) rfl (draft_own _ _) (by simp) (by have := HN.out; simp only [List.length_map]; omega) ?_; intro v4 w4 F4 hO4 hk4 hF4; obtain ⟨A9, n9, c9, rfl⟩ := hO4.slice; have x4 := xg.drew.kp hk4 hgF; have q4 := x4.cell 5 rfl; have f4 := x4.free 5; have hs4 := x4.lt)
    all_goals
      have hA4 := (Gain.turn 2 hA0.drew rfl hk4 (drafts_snoc hO4) (fun b hb => (hF4 b hb).elim .inl (fun h => h.elim (fun h => h.elim) .inr))).put 5 (.slice A9 n9 c9)
      go_wp2
      exact bodyPost_ret (v := .bool true) (by simp [results, Try.results57, go_sem]) rfl ⟨rfl, hA4.below, fun _ => ⟨_, _, _, _, _, _, _, _, _, _, _, _, Gain.is hA4 rfl⟩⟩
  rw [if_neg hs]
  have t2 : (stage == 2) = false := by simp [hs]
  show Calls _ _ #[.pointer _, .pointer _] _ _
  by_cases h3 : stage = 3
  · subst h3
    rw [if_pos rfl]
    clear hs
    have HC := fun (w1 : World) (hG : Gain w0 B w1 [some (Message.s true fr.xMessages, .slice A2 n2 c2, F2), some (Message.s true tt.xMessages, .slice A4 n4 c4, F4), some (Draft.s true wt, .slice A5 n5 c5, F5)] (some (g, #[.int .i64 3, .int .i64 fr.xNext, .slice A2 n2 c2, .int .i64 tt.xNext, .slice A4 n4 c4, .slice A5 n5 c5], 30))) => impl_post tt d.xSender d.xAt d.xText g 3 #[.int .i64 3, .int .i64 fr.xNext, .slice A2 n2 c2, .int .i64 tt.xNext, .slice A4 n4 c4, .slice A5 n5 c5] 30 (.slice A4 n4 c4) F4 w1 hG.bx rfl rfl (hG.own 1 _ _ _ rfl).1 ((hG.box _ _ _ rfl).2.2 1 _ _ _ rfl) hfo.2.1 hfo.2.2.1 hfo.2.2.2.1 (fun m hm => (hfo.2.2.2.2 m hm).1) hdt
    have HSS := Lib.hid (show ∀ w' : World, w'.heap[p]? = w.heap[p]? → (fun w' => w'.cell? ⟨p, 0, none⟩ = some (.int .i64 d.xSender) ∧ w'.cell? ⟨p, 1, none⟩ = some (.int .i64 d.xAt) ∧ w'.cell? ⟨p, 2, none⟩ = some (.string d.xText)) w' from fun w' h => ⟨(World.cell?_of_block (w := w) (a := ⟨p, 0, none⟩) h).trans k0, (World.cell?_of_block (w := w) (a := ⟨p, 1, none⟩) h).trans k1, (World.cell?_of_block (w := w) (a := ⟨p, 2, none⟩) h).trans k2⟩)
    have HPF := Lib.hid (show ∀ b, (b = g ∨ F4 b) → b ≠ p from fun b hb e => by
      rcases hb with hb | hb
      · omega
      · have := (hA0.own 1 _ _ _ rfl).2 b hb; omega)
    have y0 := (hA0.bx).cell 0 rfl
    have hgl := (hA0.bx).lt
    clear hsd hfo hf ho
    go_enter Try.func57, Try.ntmps57
    go_wp2
    go_region_held3 (fun w' => w'.cell? ⟨p, 0, none⟩ = some (.int .i64 d.xSender) ∧ w'.cell? ⟨p, 1, none⟩ = some (.int .i64 d.xAt) ∧ w'.cell? ⟨p, 2, none⟩ = some (.string d.xText))
      (((refine HSS.out _ ?_); (first | (with_reducible rfl) | (exact hkp) | (rfl))))
      ((go_at_call 55; (with_reducible refine (HC _ (by first | (with_reducible exact hA0) | (with_reducible exact hA0.drew))).mono ?_); rintro e w9 ⟨v9, F9, rfl, hx9, hO9, hk9, hF9⟩; obtain ⟨A9, n9, c9, rfl⟩ := hO9.slice; have hkp : w9.heap[p]? = w.heap[p]? := (hk9.block p (by first | exact hpl | (simp; exact hpl)) (fun h => HPF.out _ h rfl)); (first | (have hA := Gain.turnBox 1 hA0 rfl hk9 hO9 hF9 hx9) | (have hA := Gain.turnBox 1 hA0.drew rfl hk9 hO9 hF9 hx9))))
    all_goals
      go_wp2
      refine bodyPost_ret (v := .bool (post0 tt d.xSender d.xAt d.xText).ok) (by simp [results, Try.results57, go_sem]) rfl ⟨rfl, hA.below, fun _ => ⟨_, _, _, _, _, _, _, _, _, _, _, _, Gain.is hA rfl⟩⟩
  rw [if_neg h3]
  have t3 : (stage == 3) = false := by simp [h3]
  clear hs h3
  have HC := fun (w1 : World) (hG : Gain w0 B w1 [some (Message.s true fr.xMessages, .slice A2 n2 c2, F2), some (Message.s true tt.xMessages, .slice A4 n4 c4, F4), some (Draft.s true wt, .slice A5 n5 c5, F5)] (some (g, #[.int .i64 stage, .int .i64 fr.xNext, .slice A2 n2 c2, .int .i64 tt.xNext, .slice A4 n4 c4, .slice A5 n5 c5], 30))) => impl_post fr d.xSender d.xAt d.xText g 1 #[.int .i64 stage, .int .i64 fr.xNext, .slice A2 n2 c2, .int .i64 tt.xNext, .slice A4 n4 c4, .slice A5 n5 c5] 30 (.slice A2 n2 c2) F2 w1 hG.bx rfl rfl (hG.own 0 _ _ _ rfl).1 ((hG.box _ _ _ rfl).2.2 0 _ _ _ rfl) hfo.1.1 hfo.1.2.1 hfo.1.2.2.1 (fun m hm => (hfo.1.2.2.2 m hm).1) hdt
  have HSS := Lib.hid (show ∀ w' : World, w'.heap[p]? = w.heap[p]? → (fun w' => w'.cell? ⟨p, 0, none⟩ = some (.int .i64 d.xSender) ∧ w'.cell? ⟨p, 1, none⟩ = some (.int .i64 d.xAt) ∧ w'.cell? ⟨p, 2, none⟩ = some (.string d.xText)) w' from fun w' h => ⟨(World.cell?_of_block (w := w) (a := ⟨p, 0, none⟩) h).trans k0, (World.cell?_of_block (w := w) (a := ⟨p, 1, none⟩) h).trans k1, (World.cell?_of_block (w := w) (a := ⟨p, 2, none⟩) h).trans k2⟩)
  have HPF := Lib.hid (show ∀ b, (b = g ∨ F2 b) → b ≠ p from fun b hb e => by
    rcases hb with hb | hb
    · omega
    · have := (hA0.own 0 _ _ _ rfl).2 b hb; omega)
  have y0 := (hA0.bx).cell 0 rfl
  have hgl := (hA0.bx).lt
  clear hsd hfo hf ho
  go_enter Try.func57, Try.ntmps57
  go_wp2
  go_region_held3 (fun w' => w'.cell? ⟨p, 0, none⟩ = some (.int .i64 d.xSender) ∧ w'.cell? ⟨p, 1, none⟩ = some (.int .i64 d.xAt) ∧ w'.cell? ⟨p, 2, none⟩ = some (.string d.xText))
    (((refine HSS.out _ ?_); (first | (with_reducible rfl) | (exact hkp) | (rfl))))
    ((go_at_call 55; (with_reducible refine (HC _ (by first | (with_reducible exact hA0) | (with_reducible exact hA0.drew))).mono ?_); rintro e w9 ⟨v9, F9, rfl, hx9, hO9, hk9, hF9⟩; obtain ⟨A9, n9, c9, rfl⟩ := hO9.slice; have hkp : w9.heap[p]? = w.heap[p]? := (hk9.block p (by first | exact hpl | (simp; exact hpl)) (fun h => HPF.out _ h rfl)); (first | (have hA := Gain.turnBox 0 hA0 rfl hk9 hO9 hF9 hx9) | (have hA := Gain.turnBox 0 hA0.drew rfl hk9 hO9 hF9 hx9))))
  all_goals
    go_wp2
    refine bodyPost_ret (v := .bool (post0 fr d.xSender d.xAt d.xText).ok) (by simp [results, Try.results57, go_sem]) rfl ⟨rfl, hA.below, fun _ => ⟨_, _, _, _, _, _, _, _, _, _, _, _, Gain.is hA rfl⟩⟩
theorem draft_vals {w : World} {Pb : Nat → Prop} {q : Bool} {d : Draft} {us : List Value} (h : RoL w Pb (Draft.d q d) us) : us = [.int .i64 d.xSender, .int .i64 d.xAt, .string d.xText] := by
  unfold Draft.d at h
  obtain ⟨u0, us0, rfl, h0, r0⟩ := h.uncons
  obtain rfl := h0.int_inv
  obtain ⟨u1, us1, rfl, h1, r1⟩ := r0.uncons
  obtain rfl := h1.int_inv
  obtain ⟨u2, us2, rfl, h2, r2⟩ := r1.uncons
  obtain rfl := h2.str_inv
  obtain rfl := r2.unnil
  rfl
theorem Bx.new3 (w : World) (o o2 : Obj) (cs : Array Value) (t : TypeId) : Bx (((w.alloc o).alloc o2).alloc (.cells cs t)) (w.heap.size + 2) cs t := by
  have := Bx.new ((w.alloc o).alloc o2) cs t
  simpa using this
theorem post0_fit {x : Log} (h : x.ok = true) (hx : ∀ m ∈ x.xMessages, m.xText.size ≤ maxLen) {s a : Int} {t : ByteArray} (ht : t.size ≤ maxLen) : (∀ m ∈ (post0 x s a t).xMessages, m.xText.size ≤ maxLen) ∧ (post0 x s a t).xMessages.length ≤ 1048576 := by
  obtain ⟨_, _, h3⟩ := Log.few h
  refine ⟨fun m hm => ?_, ?_⟩
  · simp only [post0, List.mem_append, List.mem_singleton] at hm
    rcases hm with hm | rfl
    · exact hx m hm
    · exact ht
  · simp only [post0, List.length_append, List.length_singleton]; omega
theorem sayh_fit {d : Draft} (hdt : d.xText.size ≤ maxLen) {h : Hand} (hf : h.fit) (ho : h.ok = true) : (SayHand_c d h).1.fit := by
  unfold Hand.ok at ho
  simp only [Bool.and_eq_true, decide_eq_true_eq] at ho
  obtain ⟨f1, f2, f3, f4, f5, f6⟩ := hf
  unfold SayHand_c
  split
  · refine ⟨f1, f2, fun x hx => ?_, f4, f5, ?_⟩
    · simp only [List.mem_append, List.mem_singleton] at hx
      rcases hx with hx | rfl
      · exact f3 x hx
      · exact hdt
    · have := ho.2.2.1
      simp only [List.length_append, List.length_singleton]; omega
  · split
    · exact ⟨f1, (post0_fit ho.2.1 f2 hdt).1, f3, f4, (post0_fit ho.2.1 f2 hdt).2, f6⟩
    · exact ⟨(post0_fit ho.1 f1 hdt).1, f2, f3, (post0_fit ho.1 f1 hdt).2, f5, f6⟩
set_option maxHeartbeats 1600000 in
set_option maxRecDepth 100000 in
theorem impl_SayHand (h : Hand) (d : Draft) (us us2 : List Value) (W : World) (hr : RoL W (Lo W.heap.size) (Hand.d true h) us) (hr2 : RoL W (Lo W.heap.size) (Draft.d true d) us2) (hf : h.fit) (hdt : d.xText.size ≤ maxLen) :
    Calls Try.prog 14 #[.agg us.toArray, .agg us2.toArray] W (MadeHB W (SayHand_f h d)) := by
  obtain rfl := draft_vals hr2
  have HC := fun (w : World) (hb : Below W.heap.size W w) (hx : Bx w (W.heap.size + 1) #[.int .i64 d.xSender, .int .i64 d.xAt, .string d.xText] 35) => impl_changedHandB 57 (fun _ _ => by rfl) #[.pointer (some ⟨W.heap.size + 1, 0, none⟩)] (SayHand_c d) h us w (rol_to hr hb) hf (fun w0 B g w2 ho hH hbw hle => impl_SayHand_1 d hdt h (W.heap.size + 1) w0 B g w2 ho hf (Nat.lt_of_lt_of_le hx.lt hle) ((hx.below hbw hx.lt).cell 0 rfl) ((hx.below hbw hx.lt).cell 1 rfl) ((hx.below hbw hx.lt).cell 2 rfl) hH) (fun ho hc => sayh_fit hdt hf ho)
  have HR := Lib.hid (show SayHand_f h d = changed (SayHand_c d) h from rfl)
  generalize SayHand_f h d = R at *
  obtain ⟨A2, c2, A4, c4, A5, c5, rfl, -⟩ := Hand.cells hr
  obtain ⟨stage, fr, tt, wt⟩ := h
  simp only at *
  rw [← HR.out] at HC
  clear HR hr hr2 hf
  obtain ⟨R1, R2⟩ := R
  go_enter Try.func14, Try.ntmps14
  go_wp2_with fail
  refine (HC _ (by (repeat (first | with_reducible assumption | with_reducible exact Below.refl _ _ | with_reducible refine Below.setCell ?_ ?_ _ | with_reducible refine Below.alloc ?_ ?_ _ | with_reducible refine Below.drew ?_ | with_reducible refine below_drewN ?_ _ | omega | (simp; done) | (simp; omega))); all_goals first | omega | (simp; done) | (simp; omega)) ((Bx.new2 _ _ _ _).alloc _)).mono ?_
  rintro e w1 ⟨us1, F1, rfl, hO1, hF1, hb1⟩
  obtain ⟨A2', c2', F2, A4', c4', F4, A5', c5', F5, rfl, hO2, -, -, hO4, -, -, hO5, -, -, d24, d25, d45, hFe⟩ := Hand.owned hO1
  simp only [World.size_alloc] at hF1
  have hl2 : ∀ b, F2 b → W.heap.size + 3 ≤ b := fun b h => by have := hF1 b ((hFe b).2 (.inl h)); simpa using this
  have hl4 : ∀ b, F4 b → W.heap.size + 3 ≤ b := fun b h => by have := hF1 b ((hFe b).2 (.inr (.inl h))); simpa using this
  have hl5 : ∀ b, F5 b → W.heap.size + 3 ≤ b := fun b h => by have := hF1 b ((hFe b).2 (.inr (.inr h))); simpa using this
  have hbw : Below (W.heap.size + 3) (((W.alloc (.cells #[.int .i64 stage, .int .i64 fr.xNext, .slice A2 fr.xMessages.length c2, .int .i64 tt.xNext, .slice A4 tt.xMessages.length c4, .slice A5 wt.length c5] 30)).alloc (.cells #[.int .i64 d.xSender, .int .i64 d.xAt, .string d.xText] 35)).alloc (.cells #[.int .i64 0, .int .i64 0, .slice none 0 0, .int .i64 0, .slice none 0 0, .slice none 0 0] 30)) w1 := hb1.mono (by simp)
  clear hF1 hFe
  have xr : Bx w1 (W.heap.size + 2) #[.int .i64 0, .int .i64 0, .slice none 0 0, .int .i64 0, .slice none 0 0, .slice none 0 0] 30 := (Bx.new3 W _ _ _ _).below hbw (by omega)
  have r0 := xr.cell 0 rfl
  have g0 := xr.free 0
  have r1 := xr.cell 1 rfl
  have g1 := xr.free 1
  have r2 := xr.cell 2 rfl
  have g2 := xr.free 2
  have r3 := xr.cell 3 rfl
  have g3 := xr.free 3
  have r4 := xr.cell 4 rfl
  have g4 := xr.free 4
  have r5 := xr.cell 5 rfl
  have g5 := xr.free 5
  have hsr := xr.lt
  have hB : Below W.heap.size W w1 := ((((Below.refl _ _).alloc (Nat.le_refl _) _).alloc (by simp) _).alloc (by simp; omega) _).trans (hbw.mono (by omega))
  go_wp2
  refine bodyPost_ret (v := .tuple #[.agg #[.int .i64 R1.xStage, .int .i64 R1.xFrom.xNext, .slice A2' R1.xFrom.xMessages.length c2', .int .i64 R1.xTo.xNext, .slice A4' R1.xTo.xMessages.length c4', .slice A5' R1.xWaiting.length c5'], .bool R2]) (by simp [results, Try.results14, go_sem, r0, r1, r2, r3, r4, r5, g0, g1, g2, g3, g4, g5, hsr]) rfl ⟨_, (fun b => F2 b ∨ (F4 b ∨ F5 b)), rfl, ?_, fun b h => ?_, (by (repeat (first | with_reducible assumption | with_reducible exact Below.refl _ _ | with_reducible refine Below.setCell ?_ ?_ _ | with_reducible refine Below.alloc ?_ ?_ _ | with_reducible refine Below.drew ?_ | with_reducible refine below_drewN ?_ _ | omega | (simp; done) | (simp; omega))); all_goals first | omega | (simp; done) | (simp; omega))⟩
  · refine Hand.own_mk (h := R1) (F2 := F2) (F4 := F4) (F5 := F5) ?_ ?_ ?_ d24 d25 d45
    · repeat (with_reducible refine Ow.far ?_ (fun h => by have hq := hl2 _ h; first | omega | (dsimp only at hq; omega) | (simp at hq; done) | (simp at hq; omega)) _)
      exact hO2
    · repeat (with_reducible refine Ow.far ?_ (fun h => by have hq := hl4 _ h; first | omega | (dsimp only at hq; omega) | (simp at hq; done) | (simp at hq; omega)) _)
      exact hO4
    · repeat (with_reducible refine Ow.far ?_ (fun h => by have hq := hl5 _ h; first | omega | (dsimp only at hq; omega) | (simp at hq; done) | (simp at hq; omega)) _)
      exact hO5
  · rcases h with h | h | h
    · have := hl2 b h; omega
    · have := hl4 b h; omega
    · have := hl5 b h; omega
end Go.Proofs.Ytafihplbchofoaa

namespace Go.Proofs.Ytafihplbchofoaa
open Go.ChangeShapes Go.WideShapes Go.ChangeAt Go.RowKit Go.Dt
set_option linter.unusedVariables false
set_option linter.unusedSimpArgs false
def MadeHR (W : World) (r : Hand × Bool) (e : Ending) (w' : World) : Prop := ∃ us, e = .returned (.tuple #[.agg us.toArray, .bool r.2]) ∧ RoL w' (Fr W.heap.size w') (Hand.d true r.1) us ∧ Below W.heap.size W w'
theorem Hand.ro_mk {w : World} {Pb : Nat → Prop} {h : Hand} {A2 A4 A5 : Option Addr} {n2 c2 n4 c4 n5 c5 : Nat} (h2 : Ro w Pb (Message.s true h.xFrom.xMessages) (.slice A2 n2 c2)) (h4 : Ro w Pb (Message.s true h.xTo.xMessages) (.slice A4 n4 c4)) (h5 : Ro w Pb (Draft.s true h.xWaiting) (.slice A5 n5 c5)) :
    RoL w Pb (Hand.d true h) [.int .i64 h.xStage, .int .i64 h.xFrom.xNext, .slice A2 n2 c2, .int .i64 h.xTo.xNext, .slice A4 n4 c4, .slice A5 n5 c5] := by
  unfold Hand.d
  exact RoL.cons (.int _ _) (RoL.cons (.int _ _) (RoL.cons h2 (RoL.cons (.int _ _) (RoL.cons h4 (RoL.cons h5 RoL.nil)))))
theorem madeHR_no {W w' : World} {r : Hand × Bool} (hr : r = (Hand.zero, false)) (hb : Below W.heap.size W w') : MadeHR W r (.returned (.tuple #[.agg #[.int .i64 0, .int .i64 0, .slice none 0 0, .int .i64 0, .slice none 0 0, .slice none 0 0], .bool false])) w' := by
  obtain ⟨us, F, h1, h2, h3, h4⟩ := madeHB_no (W := W) (w' := w') hr hb
  exact ⟨us, h1, OwL.fresh h2 h3, h4⟩
def gave (b : Bool) (us : List Value) : Value := .tuple #[cond b (.agg us.toArray) (.agg #[.int .i64 0, .int .i64 0, .slice none 0 0, .int .i64 0, .slice none 0 0, .slice none 0 0]), .bool b]
theorem said_one (l : Log) (d : Draft) : said l [d] = if (post0 l d.xSender d.xAt d.xText).ok = true then (post0 l d.xSender d.xAt d.xText, true) else (⟨0, []⟩, false) := by
  unfold said
  have e : say l [d] = sayOne l d := by
    show (sayOne l d).bind (fun x => say x []) = _
    cases sayOne l d <;> rfl
  rw [e]
  unfold sayOne
  cases h : (post0 l d.xSender d.xAt d.xText).ok <;> simp
theorem draft_one {w : World} {g : Nat} {d : Draft} (h : Bx w g #[.int .i64 d.xSender, .int .i64 d.xAt, .string d.xText] 35) : Ow w (Draft.s true [d]) (.slice (some ⟨g, 0, none⟩) 1 1) (fun b => b = g ∨ False) :=
  Ow.of_block (rows := [Draft.d true d]) (c := 1) (F := fun _ => False) h rfl (by simp) (by simp [maxLen]) (by intro row hr; simp at hr; subst hr; rfl) rfl (by simpa using draft_own w d) (by simp)
theorem Draft.text {d : Draft} (hz : Draft.z d ≤ 1048576) : d.xText.size ≤ maxLen := by
  have h2 : Draft.z d = d.xText.size := rfl
  simp only [maxLen]; omega
theorem SayHand_lawI (x : Hand) (d : Draft) (us us2 : List Value) (W : World) (hr : RoL W (Lo W.heap.size) (Hand.d true x) us) (hr2 : RoL W (Lo W.heap.size) (Draft.d true d) us2) (hz : Hand.z x ≤ 1048576) (hz2 : Draft.z d ≤ 1048576) : Calls Try.prog 14 #[.agg us.toArray, .agg us2.toArray] W fun e w' =>
    ∃ us F, e = .returned (.tuple #[.agg us.toArray, .bool (SayHand_f x d).2]) ∧ OwL w' (Hand.d true (SayHand_f x d).1) us F ∧ (∀ b, F b → W.heap.size ≤ b) ∧ Below W.heap.size W w' :=
  impl_SayHand x d us us2 W hr hr2 (Hand.fit_of hz) (Draft.text hz2)
end Go.Proofs.Ytafihplbchofoaa

/- Desks: validity. -/
import Derived.Test.YtmofbfeclecdoaaPres
import Derived.Test.YtmofbfeclecdoaaPost
import Derived.Test.YtmofbfeclecdoaaYDesk
namespace Go.Proofs.Ytmofbfeclecdoaa
open Go.ChangeShapes Go.WideShapes Go.ChangeAt Go.RowKit Go.Dt
set_option linter.unusedVariables false
set_option linter.unusedSimpArgs false
def late (l : List Message) (t : Int) : Bool := l.any fun m => decide (t < m.xAt)
def Desk.ok (x : Desk) : Bool := inB x.xTime 0 1000000 && (x.xLog.ok && (x.xPresence.ok && !late x.xLog.xMessages x.xTime))
theorem Log.at_step {l : Log} (h : l.ok = true) {k : Nat} {m p : Message} (hm : l.xMessages[k + 1]? = some m) (hp : l.xMessages[k]? = some p) : p.xAt ≤ m.xAt ∧ p.xNumber < m.xNumber := by
  unfold Log.ok at h
  simp only [Bool.and_eq_true] at h
  have h2 := upTo_at h.1 (List.getElem?_eq_some_iff.1 hm).1
  rw [Log.right_succ hm hp] at h2
  simp only [Bool.and_eq_true, decide_eq_true_eq] at h2
  exact ⟨h2.2.2.2, h2.2.2.1⟩
theorem Log.at_le {l : Log} (h : l.ok = true) {i : Nat} {p : Message} (hp : l.xMessages[i]? = some p) : ∀ (d : Nat) (m : Message), l.xMessages[i + d]? = some m → p.xAt ≤ m.xAt := by
  intro d
  induction d with
  | zero => intro m hm; rw [Nat.add_zero, hp] at hm; injection hm with hm; rw [hm]; exact Int.le_refl _
  | succ d ih =>
    intro m hm
    obtain ⟨q, hq⟩ := get_lt (l := l.xMessages) (k := i + d) (by have := (List.getElem?_eq_some_iff.1 hm).1; omega)
    have a := ih q hq
    have b := (Log.at_step h (k := i + d) hm hq).1
    omega
theorem late_last {l : Log} (h : l.ok = true) {k : Nat} {m : Message} (hn : l.xMessages.length = k + 1) (hm : l.xMessages[k]? = some m) (t : Int) : late l.xMessages t = decide (t < m.xAt) := by
  unfold late
  by_cases hd : t < m.xAt
  · rw [decide_eq_true hd, List.any_eq_true]
    exact ⟨m, List.mem_of_getElem? hm, by simp [hd]⟩
  · rw [decide_eq_false hd, List.any_eq_false]
    intro x hx
    obtain ⟨i, hi, hxi⟩ := List.getElem_of_mem hx
    have hxi' : l.xMessages[i]? = some x := by rw [List.getElem?_eq_getElem hi, hxi]
    have := Log.at_le h hxi' (k - i) m (by rw [show i + (k - i) = k from by omega]; exact hm)
    simp only [decide_eq_true_eq]
    omega
set_option maxRecDepth 100000 in
theorem ContainsFunc_Message {α : Type} (f : FuncId) (hcf : ∀ (args : Array Value) (w : World), (callFunc f args).run Try.prog w = .ok (.enter f args) w) (caps : Array Value) (A : Option Addr) (c : Nat) (l : List α) (toD : α → List D) (p : α → Bool) (w : World)
    (hr : Ro w (Lo w.heap.size) (.sl 57 8 (l.map toD)) (.slice A l.length c)) (hm : c ≤ maxLen) (hlc : l.length ≤ c)
    (hf : ∀ (k : Nat) (x : α) (us : List Value) (w' : World), l[k]? = some x → RoL w (Lo w.heap.size) (toD x) us → Below w.heap.size w w' → Calls Try.prog f (#[.agg us.toArray] ++ caps) w' fun e w2 => e = .returned (.bool (p x)) ∧ Below w'.heap.size w' w2) :
    Calls Try.prog 112 #[.slice A l.length c, .func (.func f) #[] caps] w fun e w' => e = .returned (.bool (l.any p)) ∧ Below w.heap.size w w' := by
  have H := IndexFunc_Message f hcf caps A c l toD p w hr hm hlc hf
  have HA := Lib.hid (idx_any p l)
  generalize idx p l = i at *
  have HH := Lib.hid H
  clear H hf hr
  go_enter Try.func112, Try.ntmps112
  go_wp2_with fail
  refine (HH.out).mono ?_
  rintro e w1 ⟨rfl, hb1⟩
  go_wp2
  go_ret
  exact ⟨by rw [← HA.out]; rfl, hb1⟩
set_option maxRecDepth 100000 in
theorem impl_ValidDesk_1 (m : Message) (t : Int) (p : Nat) (us : List Value) (w : World) (hr : RoL w (Lo w.heap.size) (Message.d true m) us) (hp : w.cell? ⟨p, 0, none⟩ = some (.int .i64 t)) :
    Calls Try.prog 113 (#[.agg us.toArray] ++ #[.pointer (some ⟨p, 0, none⟩)]) w fun e w' => e = .returned (.bool (decide (t < m.xAt))) ∧ Below w.heap.size w w' := by
  obtain ⟨A, c, rfl, -⟩ := Message.cells hr
  have hlt := World.block_lt_of_cell? w _ hp
  clear hr
  show Calls _ _ #[.agg _, .pointer _] _ _
  go_enter Try.func113, Try.ntmps113
  go_wp2
  go_ret
  exact ⟨rfl, (by (repeat (first | with_reducible assumption | with_reducible exact Below.refl _ _ | with_reducible refine Below.setCell ?_ ?_ _ | with_reducible refine Below.alloc ?_ ?_ _ | with_reducible refine Below.drew ?_ | with_reducible refine below_drewN ?_ _ | omega | (simp; done) | (simp; omega))); all_goals first | omega | (simp; done) | (simp; omega))⟩
theorem Log.ros' {w : World} {Pb : Nat → Prop} {next : Int} {l : List Message} {A : Option Addr} {n c : Nat} (h : Ro w Pb (Message.s true l) (.slice A n c)) : RoL w Pb (Log.d true ⟨next, l⟩) [.int .i64 next, .slice A n c] := RoL.cons (.int _ _) (RoL.cons h RoL.nil)
theorem Presence.ros {w : World} {Pb : Nat → Prop} {here typ : List Lease} {marks : List Mark} {v0 v1 v2 : Value} (h0 : Ro w Pb (Lease.s true here) v0) (h1 : Ro w Pb (Lease.s true typ) v1) (h2 : Ro w Pb (Mark.s true marks) v2) : RoL w Pb (Presence.d true ⟨here, typ, marks⟩) [v0, v1, v2] := RoL.cons h0 (RoL.cons h1 (RoL.cons h2 RoL.nil))
set_option maxHeartbeats 1600000 in
set_option maxRecDepth 100000 in
theorem impl_ValidDesk (x : Desk) (us : List Value) (W : World) (hr : RoL W (Lo W.heap.size) (Desk.d true x) us) (hw : ∀ m ∈ x.xLog.xMessages, m.xText.size ≤ maxLen) :
    Calls Try.prog 48 #[.agg us.toArray] W fun e w' => e = .returned (.bool x.ok) ∧ Below W.heap.size W w' := by
  obtain ⟨A, c, A0, c0, A1, c1, A2, c2, rfl, r, lc, mc, r0, -, -, r1, -, -, r2, -, -⟩ := Desk.cells hr
  have hlen : x.xLog.xMessages.length ≤ 9223372036854775807 := by simp only [maxLen] at mc; omega
  have H := ((((St.start W).addro r2).addro r1).addro r0).addro r
  obtain ⟨tm, ⟨next, l⟩, ⟨here, typ, marks⟩⟩ := x
  simp only at *
  have HT := fun (w : World) => impl_isTick tm w
  have HL := fun (w : World) (ps : List Pt) (R : Nat → Prop) (H : St (Lo W.heap.size) R W w ps) (h2 : At (.ro (Message.s true l) (.slice A l.length c)) ps) => impl_ValidLog ⟨next, l⟩ _ w (Log.ros' (H.lo (.inl h2))) hw
  have HP := fun (w : World) (ps : List Pt) (R : Nat → Prop) (H : St (Lo W.heap.size) R W w ps) (h3 : At (.ro (Lease.s true here) (.slice A0 here.length c0)) ps) (h4 : At (.ro (Lease.s true typ) (.slice A1 typ.length c1)) ps) (h5 : At (.ro (Mark.s true marks) (.slice A2 marks.length c2)) ps) => impl_ValidPresence ⟨here, typ, marks⟩ _ w (Presence.ros (H.lo (.inl h3)) (H.lo (.inl h4)) (H.lo (.inl h5)))
  have HC := fun (w : World) (ps : List Pt) (R : Nat → Prop) (b : Nat) (cs : Array Value) (T : TypeId) (H : St (Lo W.heap.size) R W w ps) (h1 : At (.bx b cs T) ps) (h2 : At (.ro (Message.s true l) (.slice A l.length c)) ps) (h0 : cs[0]? = some (.int .i64 tm)) => ContainsFunc_Message 113 (fun _ _ => by rfl) #[.pointer (some ⟨b, 0, none⟩)] A c l (Message.d true) (fun m => decide (tm < m.xAt)) w (H.lo (.inl h2)) mc lc (fun k x us w' _ h hb => impl_ValidDesk_1 x tm b us w' (rol_to h hb) ((hb.cell (p := ⟨b, 0, none⟩) (H.bx h1).lt).trans ((H.bx h1).cell 0 h0)))
  clear mc lc hr r r0 r1 r2
  cases h1 : inB tm 0 1000000
  · have HX := Lib.hid (show Desk.ok ⟨tm, ⟨next, l⟩, ⟨here, typ, marks⟩⟩ = false from by unfold Desk.ok; simp only [h1]; simp)
    rw [h1] at HT
    clear h1
    go_enter Try.func48, Try.ntmps48
    go_wp2_with (first | (go_at_call 90; (with_reducible refine (HT _).mono ?_); rintro e w' ⟨rfl, rfl⟩))
    go_ret
    exact ⟨by rw [HX.out]; rfl, (H.box _ _).belowW⟩
  cases h2 : Log.ok ⟨next, l⟩
  · have HX := Lib.hid (show Desk.ok ⟨tm, ⟨next, l⟩, ⟨here, typ, marks⟩⟩ = false from by unfold Desk.ok; simp only [h1, h2]; simp)
    rw [h1] at HT
    rw [h2] at HL
    clear h1 h2
    go_enter Try.func48, Try.ntmps48
    go_wp2_with (first | (go_at_call 90; (with_reducible refine (HT _).mono ?_); rintro e w' ⟨rfl, rfl⟩) | (go_at_call 41; (with_reducible refine (HL _ _ _ (H.box _ _) (by repeat (first | with_reducible_and_instances exact .here | with_reducible refine .there ?_))).mono ?_); rintro e w1 ⟨rfl, hb1⟩; replace H := (H.box _ _).below hb1; clear hb1; (try clear hq); have hq := H.facts; simp only [factsOf, Pt.facts, CellsAt, Nat.add_zero, Nat.zero_add, Nat.reduceAdd, and_true, true_and, List.set_cons_zero, List.set_cons_succ] at hq))
    go_ret
    exact ⟨by rw [HX.out]; rfl, H.belowW⟩
  cases h3 : Presence.ok ⟨here, typ, marks⟩
  · have HX := Lib.hid (show Desk.ok ⟨tm, ⟨next, l⟩, ⟨here, typ, marks⟩⟩ = false from by unfold Desk.ok; simp only [h1, h2, h3]; simp)
    rw [h1] at HT
    rw [h2] at HL
    rw [h3] at HP
    clear h1 h2 h3
    go_enter Try.func48, Try.ntmps48
    go_wp2_with (first | (go_at_call 90; (with_reducible refine (HT _).mono ?_); rintro e w' ⟨rfl, rfl⟩) | (go_at_call 41; (with_reducible refine (HL _ _ _ (H.box _ _) (by repeat (first | with_reducible_and_instances exact .here | with_reducible refine .there ?_))).mono ?_); rintro e w1 ⟨rfl, hb1⟩; replace H := (H.box _ _).below hb1; clear hb1; (try clear hq); have hq := H.facts; simp only [factsOf, Pt.facts, CellsAt, Nat.add_zero, Nat.zero_add, Nat.reduceAdd, and_true, true_and, List.set_cons_zero, List.set_cons_succ] at hq) | (go_at_call 111; (with_reducible refine (HP _ _ _ H (by repeat (first | with_reducible_and_instances exact .here | with_reducible refine .there ?_)) (by repeat (first | with_reducible_and_instances exact .here | with_reducible refine .there ?_)) (by repeat (first | with_reducible_and_instances exact .here | with_reducible refine .there ?_))).mono ?_); rintro e w1 ⟨rfl, hb1⟩; replace H := H.below hb1; clear hb1; (try clear hq); have hq := H.facts; simp only [factsOf, Pt.facts, CellsAt, Nat.add_zero, Nat.zero_add, Nat.reduceAdd, and_true, true_and, List.set_cons_zero, List.set_cons_succ] at hq))
    go_ret
    exact ⟨by rw [HX.out]; rfl, H.belowW⟩
  have HX := Lib.hid (show Desk.ok ⟨tm, ⟨next, l⟩, ⟨here, typ, marks⟩⟩ = !late l tm from by unfold Desk.ok; simp only [h1, h2, h3]; simp)
  rw [h1] at HT
  rw [h2] at HL
  rw [h3] at HP
  clear h1 h2 h3
  have HZ := Lib.hid (show late l tm = l.any fun m => decide (tm < m.xAt) from rfl)
  generalize (l.any fun m => decide (tm < m.xAt)) = z at *
  go_enter Try.func48, Try.ntmps48
  go_wp2_with (first | (go_at_call 90; (with_reducible refine (HT _).mono ?_); rintro e w' ⟨rfl, rfl⟩) | (go_at_call 41; (with_reducible refine (HL _ _ _ (H.box _ _) (by repeat (first | with_reducible_and_instances exact .here | with_reducible refine .there ?_))).mono ?_); rintro e w1 ⟨rfl, hb1⟩; replace H := (H.box _ _).below hb1; clear hb1; (try clear hq); have hq := H.facts; simp only [factsOf, Pt.facts, CellsAt, Nat.add_zero, Nat.zero_add, Nat.reduceAdd, and_true, true_and, List.set_cons_zero, List.set_cons_succ] at hq) | (go_at_call 111; (with_reducible refine (HP _ _ _ H (by repeat (first | with_reducible_and_instances exact .here | with_reducible refine .there ?_)) (by repeat (first | with_reducible_and_instances exact .here | with_reducible refine .there ?_)) (by repeat (first | with_reducible_and_instances exact .here | with_reducible refine .there ?_))).mono ?_); rintro e w1 ⟨rfl, hb1⟩; replace H := H.below hb1; clear hb1; (try clear hq); have hq := H.facts; simp only [factsOf, Pt.facts, CellsAt, Nat.add_zero, Nat.zero_add, Nat.reduceAdd, and_true, true_and, List.set_cons_zero, List.set_cons_succ] at hq) | (go_at_call 112; (with_reducible refine (HC _ _ _ _ _ _ H (by repeat (first | with_reducible_and_instances exact .here | with_reducible refine .there ?_)) (by repeat (first | with_reducible_and_instances exact .here | with_reducible refine .there ?_)) rfl).mono ?_); rintro e w1 ⟨rfl, hb1⟩; replace H := H.below hb1; clear hb1; (try clear hq); have hq := H.facts; simp only [factsOf, Pt.facts, CellsAt, Nat.add_zero, Nat.zero_add, Nat.reduceAdd, and_true, true_and, List.set_cons_zero, List.set_cons_succ] at hq))
  go_ret
  exact ⟨by rw [HX.out, HZ.out]; rfl, H.belowW⟩
set_option maxHeartbeats 1600000 in
set_option maxRecDepth 100000 in
theorem spec_l11Is (x : Desk) (us : List Value) (b0 o0 : Nat) (W : World) (hr : RoL W (Lo W.heap.size) (Desk.d true x) us) (hk : CellsAt W b0 o0 0 us) (hw : ∀ m ∈ x.xLog.xMessages, m.xText.size ≤ maxLen) :
    Calls Try.prog 109 #[.pointer (some ⟨b0, o0, none⟩)] W fun e w' => e = .returned (.bool x.ok) ∧ Below W.heap.size W w' := by
  obtain ⟨A, c, A0, c0, A1, c1, A2, c2, rfl, r, lc, mc, r0, -, -, r1, -, -, r2, -, -⟩ := Desk.cells hr
  have hlen : x.xLog.xMessages.length ≤ 9223372036854775807 := by simp only [maxLen] at mc; omega
  have H := ((((St.start W).addro r2).addro r1).addro r0).addro r
  obtain ⟨tm, ⟨next, l⟩, ⟨here, typ, marks⟩⟩ := x
  simp only at *
  replace H := H.addcells hk.lt hk
  have HT := fun (w : World) => spec_l01Tick tm w
  have HL := fun (w : World) (ps : List Pt) (R : Nat → Prop) (H : St (Lo W.heap.size) R W w ps) (h1 : At (.rd b0 o0 [.int .i64 tm, .int .i64 next, .slice A l.length c, .slice A0 here.length c0, .slice A1 typ.length c1, .slice A2 marks.length c2]) ps) (h2 : At (.ro (Message.s true l) (.slice A l.length c)) ps) => spec_l03Is ⟨next, l⟩ b0 (o0 + 1) A c w hw (H.rd h1 (j := 1) rfl) (H.rd h1 (j := 2) rfl) (H.lo (.inl h2)) mc lc
  have HP := fun (w : World) (ps : List Pt) (R : Nat → Prop) (H : St (Lo W.heap.size) R W w ps) (h1 : At (.rd b0 o0 [.int .i64 tm, .int .i64 next, .slice A l.length c, .slice A0 here.length c0, .slice A1 typ.length c1, .slice A2 marks.length c2]) ps) (h3 : At (.ro (Lease.s true here) (.slice A0 here.length c0)) ps) (h4 : At (.ro (Lease.s true typ) (.slice A1 typ.length c1)) ps) (h5 : At (.ro (Mark.s true marks) (.slice A2 marks.length c2)) ps) => spec_l05Is ⟨here, typ, marks⟩ [.slice A0 here.length c0, .slice A1 typ.length c1, .slice A2 marks.length c2] b0 (o0 + 3) w (Presence.ros (H.lo (.inl h3)) (H.lo (.inl h4)) (H.lo (.inl h5))) (H.cellsR h1 3 _ rfl)
  clear mc lc hr r r0 r1 r2 hk
  cases h1 : inB tm 0 1000000
  · have HX := Lib.hid (show Desk.ok ⟨tm, ⟨next, l⟩, ⟨here, typ, marks⟩⟩ = false from by unfold Desk.ok; simp only [h1]; simp)
    rw [h1] at HT
    clear h1
    (try clear hq); have hq := H.facts; simp only [factsOf, Pt.facts, CellsAt, Nat.add_zero, Nat.zero_add, Nat.reduceAdd, and_true, true_and, List.set_cons_zero, List.set_cons_succ] at hq
    go_enter Try.func109, Try.ntmps109
    go_wp2_with (first | (go_at_call 88; (with_reducible refine (HT _).mono ?_); rintro e w' ⟨rfl, rfl⟩))
    go_ret
    exact ⟨by rw [HX.out]; rfl, H.belowW⟩
  cases h2 : Log.ok ⟨next, l⟩
  · have HX := Lib.hid (show Desk.ok ⟨tm, ⟨next, l⟩, ⟨here, typ, marks⟩⟩ = false from by unfold Desk.ok; simp only [h1, h2]; simp)
    rw [h1] at HT
    rw [h2] at HL
    clear h1 h2
    (try clear hq); have hq := H.facts; simp only [factsOf, Pt.facts, CellsAt, Nat.add_zero, Nat.zero_add, Nat.reduceAdd, and_true, true_and, List.set_cons_zero, List.set_cons_succ] at hq
    go_enter Try.func109, Try.ntmps109
    go_wp2_with (first | (go_at_call 88; (with_reducible refine (HT _).mono ?_); rintro e w' ⟨rfl, rfl⟩) | (go_at_call 87; (with_reducible refine (HL _ _ _ H (by repeat (first | with_reducible_and_instances exact .here | with_reducible refine .there ?_)) (by repeat (first | with_reducible_and_instances exact .here | with_reducible refine .there ?_))).mono ?_); rintro e w1 ⟨rfl, hb1⟩; replace H := H.below hb1; clear hb1; (try clear hq); have hq := H.facts; simp only [factsOf, Pt.facts, CellsAt, Nat.add_zero, Nat.zero_add, Nat.reduceAdd, and_true, true_and, List.set_cons_zero, List.set_cons_succ] at hq))
    go_ret
    exact ⟨by rw [HX.out]; rfl, H.belowW⟩
  cases h3 : Presence.ok ⟨here, typ, marks⟩
  · have HX := Lib.hid (show Desk.ok ⟨tm, ⟨next, l⟩, ⟨here, typ, marks⟩⟩ = false from by unfold Desk.ok; simp only [h1, h2, h3]; simp)
    rw [h1] at HT
    rw [h2] at HL
    rw [h3] at HP
    clear h1 h2 h3
    (try clear hq); have hq := H.facts; simp only [factsOf, Pt.facts, CellsAt, Nat.add_zero, Nat.zero_add, Nat.reduceAdd, and_true, true_and, List.set_cons_zero, List.set_cons_succ] at hq
    go_enter Try.func109, Try.ntmps109
    go_wp2_with (first | (go_at_call 88; (with_reducible refine (HT _).mono ?_); rintro e w' ⟨rfl, rfl⟩) | (go_at_call 87; (with_reducible refine (HL _ _ _ H (by repeat (first | with_reducible_and_instances exact .here | with_reducible refine .there ?_)) (by repeat (first | with_reducible_and_instances exact .here | with_reducible refine .there ?_))).mono ?_); rintro e w1 ⟨rfl, hb1⟩; replace H := H.below hb1; clear hb1; (try clear hq); have hq := H.facts; simp only [factsOf, Pt.facts, CellsAt, Nat.add_zero, Nat.zero_add, Nat.reduceAdd, and_true, true_and, List.set_cons_zero, List.set_cons_succ] at hq) | (go_at_call 174; (with_reducible refine (HP _ _ _ H (by repeat (first | with_reducible_and_instances exact .here | with_reducible refine .there ?_)) (by repeat (first | with_reducible_and_instances exact .here | with_reducible refine .there ?_)) (by repeat (first | with_reducible_and_instances exact .here | with_reducible refine .there ?_)) (by repeat (first | with_reducible_and_instances exact .here | with_reducible refine .there ?_))).mono ?_); rintro e w1 ⟨rfl, hb1⟩; replace H := H.below hb1; clear hb1; (try clear hq); have hq := H.facts; simp only [factsOf, Pt.facts, CellsAt, Nat.add_zero, Nat.zero_add, Nat.reduceAdd, and_true, true_and, List.set_cons_zero, List.set_cons_succ] at hq))
    go_ret
    exact ⟨by rw [HX.out]; rfl, H.belowW⟩
  have HX := Lib.hid (show Desk.ok ⟨tm, ⟨next, l⟩, ⟨here, typ, marks⟩⟩ = !late l tm from by unfold Desk.ok; simp only [h1, h2, h3]; simp)
  have HLO := Lib.hid h2
  rw [h1] at HT
  rw [h2] at HL
  rw [h3] at HP
  clear h1 h2 h3
  cases hn : l.length with
  | zero =>
    have hl : l = [] := List.eq_nil_of_length_eq_zero hn
    subst hl
    have HX := Lib.hid (HX.out.trans (show (!late [] tm) = true from rfl))
    simp only [List.length_nil] at *
    (try clear hq); have hq := H.facts; simp only [factsOf, Pt.facts, CellsAt, Nat.add_zero, Nat.zero_add, Nat.reduceAdd, and_true, true_and, List.set_cons_zero, List.set_cons_succ] at hq
    go_enter Try.func109, Try.ntmps109
    go_wp2_with (first | (go_at_call 88; (with_reducible refine (HT _).mono ?_); rintro e w' ⟨rfl, rfl⟩) | (go_at_call 87; (with_reducible refine (HL _ _ _ H (by repeat (first | with_reducible_and_instances exact .here | with_reducible refine .there ?_)) (by repeat (first | with_reducible_and_instances exact .here | with_reducible refine .there ?_))).mono ?_); rintro e w1 ⟨rfl, hb1⟩; replace H := H.below hb1; clear hb1; (try clear hq); have hq := H.facts; simp only [factsOf, Pt.facts, CellsAt, Nat.add_zero, Nat.zero_add, Nat.reduceAdd, and_true, true_and, List.set_cons_zero, List.set_cons_succ] at hq) | (go_at_call 174; (with_reducible refine (HP _ _ _ H (by repeat (first | with_reducible_and_instances exact .here | with_reducible refine .there ?_)) (by repeat (first | with_reducible_and_instances exact .here | with_reducible refine .there ?_)) (by repeat (first | with_reducible_and_instances exact .here | with_reducible refine .there ?_)) (by repeat (first | with_reducible_and_instances exact .here | with_reducible refine .there ?_))).mono ?_); rintro e w1 ⟨rfl, hb1⟩; replace H := H.below hb1; clear hb1; (try clear hq); have hq := H.facts; simp only [factsOf, Pt.facts, CellsAt, Nat.add_zero, Nat.zero_add, Nat.reduceAdd, and_true, true_and, List.set_cons_zero, List.set_cons_succ] at hq))
    have hxx := (After.cells w1.heap.size w1).1
    refine wp_region_after (w1.heap.size) (by kernel_rfl) (by kernel_rfl) ?_; (repeat (go_big_quiet_step (fail))); refine wpQuiet_nil ?_; intro w3 hb3
    go_wp2
    go_ret
    exact ⟨by rw [HX.out]; rfl, (H.below hb3).belowW⟩
  | succ k =>
    obtain ⟨m, hm⟩ := get_lt (l := l) (k := k) (by omega)
    have HX := Lib.hid (HX.out.trans (by rw [late_last (l := ⟨next, l⟩) HLO.out hn hm tm]))
    obtain ⟨b, off, A7, c7, hA, H⟩ := Message.st H (by repeat (first | with_reducible_and_instances exact .here | with_reducible refine .there ?_)) hm
    subst hA
    rw [hn] at H HL HP
    have hi1 : (k : Int) + 1 - 1 = k := by omega
    have hk1 : (k : Int) < (k : Int) + 1 := by omega
    have hk0 : ((k : Int) + 1 == 0) = false := by simp <;> omega
    (try clear hq); have hq := H.facts; simp only [factsOf, Pt.facts, CellsAt, Nat.add_zero, Nat.zero_add, Nat.reduceAdd, and_true, true_and, List.set_cons_zero, List.set_cons_succ] at hq
    go_enter Try.func109, Try.ntmps109
    go_wp2_with (first | (go_at_call 88; (with_reducible refine (HT _).mono ?_); rintro e w' ⟨rfl, rfl⟩) | (go_at_call 87; (with_reducible refine (HL _ _ _ H (by repeat (first | with_reducible_and_instances exact .here | with_reducible refine .there ?_)) (by repeat (first | with_reducible_and_instances exact .here | with_reducible refine .there ?_))).mono ?_); rintro e w1 ⟨rfl, hb1⟩; replace H := H.below hb1; clear hb1; (try clear hq); have hq := H.facts; simp only [factsOf, Pt.facts, CellsAt, Nat.add_zero, Nat.zero_add, Nat.reduceAdd, and_true, true_and, List.set_cons_zero, List.set_cons_succ] at hq) | (go_at_call 174; (with_reducible refine (HP _ _ _ H (by repeat (first | with_reducible_and_instances exact .here | with_reducible refine .there ?_)) (by repeat (first | with_reducible_and_instances exact .here | with_reducible refine .there ?_)) (by repeat (first | with_reducible_and_instances exact .here | with_reducible refine .there ?_)) (by repeat (first | with_reducible_and_instances exact .here | with_reducible refine .there ?_))).mono ?_); rintro e w1 ⟨rfl, hb1⟩; replace H := H.below hb1; clear hb1; (try clear hq); have hq := H.facts; simp only [factsOf, Pt.facts, CellsAt, Nat.add_zero, Nat.zero_add, Nat.reduceAdd, and_true, true_and, List.set_cons_zero, List.set_cons_succ] at hq))
    have hxx := (After.cells w1.heap.size w1).1
    refine wp_region_after (w1.heap.size) (by kernel_rfl) (by kernel_rfl) ?_; (repeat (go_big_quiet_step (fail))); refine wpQuiet_nil ?_; intro w3 hb3
    have HX := Lib.hid (HX.out.trans (show (!decide (tm < m.xAt)) = decide (m.xAt ≤ tm) from by by_cases h : tm < m.xAt <;> simp [h] <;> omega))
    go_wp2
    go_ret
    exact ⟨by rw [HX.out]; rfl, (H.below hb3).belowW⟩
theorem spec_ValidDesk (x : Desk) (us : List Value) (W : World) (hr : RoL W (Lo W.heap.size) (Desk.d true x) us) (hw : ∀ m ∈ x.xLog.xMessages, m.xText.size ≤ maxLen) :
    Calls Try.prog 46 #[.agg us.toArray] W fun e w' => e = .returned (.bool x.ok) ∧ Below W.heap.size W w' := by
  have hl : Below W.heap.size W (W.alloc (.cells us.toArray 72)) := (Below.refl _ _).alloc (Nat.le_refl _) _
  have HI := spec_l11Is x us W.heap.size 0 (W.alloc (.cells us.toArray 72)) (rol_to hr hl) ((Bx.new W us.toArray _).cells 0 us (by simp)) hw
  clear hr
  go_enter Try.func46, Try.ntmps46
  go_wp2_with fail
  refine HI.mono ?_
  rintro e w1 ⟨rfl, hb1⟩
  go_wp2
  go_ret
  exact ⟨rfl, hl.trans (hb1.mono (by simp))⟩
theorem Desk.texts {x : Desk} (hz : Desk.z x ≤ 1048576) : ∀ m ∈ x.xLog.xMessages, m.xText.size ≤ maxLen := Log.texts (by have : Desk.z x = Log.z x.xLog + Presence.z x.xPresence := rfl; omega)
def ValidDesk_f (x : Desk) : Bool := Desk.ok x
theorem ValidDesk_lawI (x : Desk) (us : List Value) (W : World) (hr : RoL W (Lo W.heap.size) (Desk.d true x) us) (hz : Desk.z x ≤ 1048576) : Calls Try.prog 48 #[.agg us.toArray] W fun e w' => e = .returned (.bool (ValidDesk_f x)) ∧ Below W.heap.size W w' := impl_ValidDesk x us W hr (Desk.texts hz)
theorem ValidDesk_lawS (x : Desk) (us : List Value) (W : World) (hr : RoL W (Lo W.heap.size) (Desk.d true x) us) (hz : Desk.z x ≤ 1048576) : Calls Try.prog 46 #[.agg us.toArray] W fun e w' => e = .returned (.bool (ValidDesk_f x)) ∧ Below W.heap.size W w' := spec_ValidDesk x us W hr (Desk.texts hz)
end Go.Proofs.Ytmofbfeclecdoaa

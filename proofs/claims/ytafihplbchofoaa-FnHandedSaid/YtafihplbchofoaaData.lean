/- The data of the program's structs. -/
import Derived.Test.YtafihplbchofoaaInts
import Derived.Test.YtafihplbchofoaaArm
import Derived.StillTailTactics
namespace Go.Proofs.Ytafihplbchofoaa
open Go.ChangeShapes Go.WideShapes Go.ChangeAt Go.RowKit Go.Dt
set_option linter.unusedVariables false
set_option linter.unusedSimpArgs false

structure Message where
  xNumber : Int
  xSender : Int
  xAt : Int
  xText : ByteArray
  xEdits : Int
  xGone : Bool
  xReply : Int
  xLikes : List Int
deriving DecidableEq

/-- The element's type: true: the program's own, false: the laws'. -/
def Message.e (q : Bool) : TypeId := if q then 99 else 99
def Message.d (q : Bool) (x : Message) : List D := [.int .i64 x.xNumber, .int .i64 x.xSender, .int .i64 x.xAt, .str x.xText, .int .i64 x.xEdits, .bool x.xGone, .int .i64 x.xReply, ints x.xLikes]
def Message.s (q : Bool) (l : List Message) : D := .sl (Message.e q) 8 (l.map (Message.d q))
def Message.wf (x : Message) : Prop := (Lit.int .i64 x.xNumber).wf = true ∧ (Lit.int .i64 x.xSender).wf = true ∧ (Lit.int .i64 x.xAt).wf = true ∧ x.xText.size ≤ maxLen ∧ (Lit.int .i64 x.xEdits).wf = true ∧ (Lit.int .i64 x.xReply).wf = true ∧ (∀ n ∈ x.xLikes, (Lit.int .i64 n).wf = true)
theorem Message.cells {w : World} {Pb : Nat → Prop} {q : Bool} {x : Message} {us : List Value} (h : RoL w Pb (Message.d q x) us) :
    ∃ (A7 : Option Addr) (c7 : Nat), us = [.int .i64 x.xNumber, .int .i64 x.xSender, .int .i64 x.xAt, .string x.xText, .int .i64 x.xEdits, .bool x.xGone, .int .i64 x.xReply, .slice A7 x.xLikes.length c7] ∧ Ro w Pb (ints x.xLikes) (.slice A7 x.xLikes.length c7) ∧ x.xLikes.length ≤ c7 ∧ c7 ≤ maxLen := by
  unfold Message.d at h
  obtain ⟨u0, us0, rfl, h0, r0⟩ := h.uncons
  obtain rfl := h0.int_inv
  obtain ⟨u1, us1, rfl, h1, r1⟩ := r0.uncons
  obtain rfl := h1.int_inv
  obtain ⟨u2, us2, rfl, h2, r2⟩ := r1.uncons
  obtain rfl := h2.int_inv
  obtain ⟨u3, us3, rfl, h3, r3⟩ := r2.uncons
  obtain rfl := h3.str_inv
  obtain ⟨u4, us4, rfl, h4, r4⟩ := r3.uncons
  obtain rfl := h4.int_inv
  obtain ⟨u5, us5, rfl, h5, r5⟩ := r4.uncons
  obtain rfl := h5.bool_inv
  obtain ⟨u6, us6, rfl, h6, r6⟩ := r5.uncons
  obtain rfl := h6.int_inv
  obtain ⟨u7, us7, rfl, h7, r7⟩ := r6.uncons
  obtain ⟨A7, c7, rfl, l7, m7⟩ := h7.sl_inv
  simp only [List.length_map] at h7 l7 ⊢
  obtain rfl := r7.unnil
  exact ⟨A7, c7, rfl, h7, l7, m7⟩
theorem Message.owned {w : World} {q : Bool} {x : Message} {us : List Value} {F : Nat → Prop} (h : OwL w (Message.d q x) us F) :
    ∃ (A7 : Option Addr) (c7 : Nat) (F7 : Nat → Prop), us = [.int .i64 x.xNumber, .int .i64 x.xSender, .int .i64 x.xAt, .string x.xText, .int .i64 x.xEdits, .bool x.xGone, .int .i64 x.xReply, .slice A7 x.xLikes.length c7] ∧ Ow w (ints x.xLikes) (.slice A7 x.xLikes.length c7) F7 ∧ x.xLikes.length ≤ c7 ∧ c7 ≤ maxLen ∧ (∀ b, F b ↔ F7 b) := by
  unfold Message.d at h
  obtain ⟨u0, us0, F0, G0, rfl, h0, r0, n0, g0⟩ := h.uncons
  obtain ⟨rfl, z0⟩ := h0.int_inv
  obtain ⟨u1, us1, F1, G1, rfl, h1, r1, n1, g1⟩ := r0.uncons
  obtain ⟨rfl, z1⟩ := h1.int_inv
  obtain ⟨u2, us2, F2, G2, rfl, h2, r2, n2, g2⟩ := r1.uncons
  obtain ⟨rfl, z2⟩ := h2.int_inv
  obtain ⟨u3, us3, F3, G3, rfl, h3, r3, n3, g3⟩ := r2.uncons
  obtain ⟨rfl, z3⟩ := h3.str_inv
  obtain ⟨u4, us4, F4, G4, rfl, h4, r4, n4, g4⟩ := r3.uncons
  obtain ⟨rfl, z4⟩ := h4.int_inv
  obtain ⟨u5, us5, F5, G5, rfl, h5, r5, n5, g5⟩ := r4.uncons
  obtain ⟨rfl, z5⟩ := h5.bool_inv
  obtain ⟨u6, us6, F6, G6, rfl, h6, r6, n6, g6⟩ := r5.uncons
  obtain ⟨rfl, z6⟩ := h6.int_inv
  obtain ⟨u7, us7, F7, G7, rfl, h7, r7, n7, g7⟩ := r6.uncons
  obtain ⟨A7, c7, rfl, l7, m7⟩ := h7.shape
  simp only [List.length_map] at h7 l7 ⊢
  obtain ⟨rfl, zz⟩ := r7.unnil
  refine ⟨A7, c7, F7, rfl, h7, l7, m7, fun b => ?_⟩
  · simp [g0, g1, g2, g3, g4, g5, g6, g7, zz, z0, z1, z2, z3, z4, z5, z6]
def Message.ty : List Ty := [.int .i64, .int .i64, .int .i64, .str, .int .i64, .bool, .int .i64, .sl 2 1 [.int .i64]]
theorem Message.is {ds : List D} (h : IsL Message.ty ds) : ∃ x : Message, ds = Message.d false x ∧ Message.wf x := by
  unfold Message.ty at h
  obtain ⟨d0, ds0, rfl, i0, r0⟩ := h.uncons
  obtain ⟨a0, rfl, w0⟩ := i0.int_inv
  obtain ⟨d1, ds1, rfl, i1, r1⟩ := r0.uncons
  obtain ⟨a1, rfl, w1⟩ := i1.int_inv
  obtain ⟨d2, ds2, rfl, i2, r2⟩ := r1.uncons
  obtain ⟨a2, rfl, w2⟩ := i2.int_inv
  obtain ⟨d3, ds3, rfl, i3, r3⟩ := r2.uncons
  obtain ⟨a3, rfl, w3⟩ := i3.str_inv
  obtain ⟨d4, ds4, rfl, i4, r4⟩ := r3.uncons
  obtain ⟨a4, rfl, w4⟩ := i4.int_inv
  obtain ⟨d5, ds5, rfl, i5, r5⟩ := r4.uncons
  obtain ⟨a5, rfl⟩ := i5.bool_inv
  obtain ⟨d6, ds6, rfl, i6, r6⟩ := r5.uncons
  obtain ⟨a6, rfl, w6⟩ := i6.int_inv
  obtain ⟨d7, ds7, rfl, i7, r7⟩ := r6.uncons
  obtain ⟨a7, rfl, w7⟩ := Is.sl_inv (fun n => [D.int .i64 n]) (fun n => (Lit.int .i64 n).wf = true) (fun ds h => by obtain ⟨d, ds, rfl, i, h⟩ := h.uncons; obtain rfl := h.unnil; obtain ⟨n, rfl, w⟩ := i.int_inv; exact ⟨n, rfl, w⟩) i7
  obtain rfl := r7.unnil
  exact ⟨⟨a0, a1, a2, a3, a4, a5, a6, a7⟩, rfl, ⟨w0, w1, w2, w3, w4, w6, w7⟩⟩

structure Log where
  xNext : Int
  xMessages : List Message
deriving DecidableEq

/-- The element's type: true: the program's own, false: the laws'. -/
def Log.e (q : Bool) : TypeId := if q then 26 else 26
def Log.d (q : Bool) (x : Log) : List D := [.int .i64 x.xNext, Message.s q x.xMessages]
def Log.s (q : Bool) (l : List Log) : D := .sl (Log.e q) 2 (l.map (Log.d q))
def Log.wf (x : Log) : Prop := (Lit.int .i64 x.xNext).wf = true ∧ (∀ y ∈ x.xMessages, Message.wf y)
theorem Log.cells {w : World} {Pb : Nat → Prop} {q : Bool} {x : Log} {us : List Value} (h : RoL w Pb (Log.d q x) us) :
    ∃ (A1 : Option Addr) (c1 : Nat), us = [.int .i64 x.xNext, .slice A1 x.xMessages.length c1] ∧ Ro w Pb (Message.s q x.xMessages) (.slice A1 x.xMessages.length c1) ∧ x.xMessages.length ≤ c1 ∧ c1 ≤ maxLen := by
  unfold Log.d at h
  obtain ⟨u0, us0, rfl, h0, r0⟩ := h.uncons
  obtain rfl := h0.int_inv
  obtain ⟨u1, us1, rfl, h1, r1⟩ := r0.uncons
  obtain ⟨A1, c1, rfl, l1, m1⟩ := h1.sl_inv
  simp only [List.length_map] at h1 l1 ⊢
  obtain rfl := r1.unnil
  exact ⟨A1, c1, rfl, h1, l1, m1⟩
theorem Log.owned {w : World} {q : Bool} {x : Log} {us : List Value} {F : Nat → Prop} (h : OwL w (Log.d q x) us F) :
    ∃ (A1 : Option Addr) (c1 : Nat) (F1 : Nat → Prop), us = [.int .i64 x.xNext, .slice A1 x.xMessages.length c1] ∧ Ow w (Message.s q x.xMessages) (.slice A1 x.xMessages.length c1) F1 ∧ x.xMessages.length ≤ c1 ∧ c1 ≤ maxLen ∧ (∀ b, F b ↔ F1 b) := by
  unfold Log.d at h
  obtain ⟨u0, us0, F0, G0, rfl, h0, r0, n0, g0⟩ := h.uncons
  obtain ⟨rfl, z0⟩ := h0.int_inv
  obtain ⟨u1, us1, F1, G1, rfl, h1, r1, n1, g1⟩ := r0.uncons
  obtain ⟨A1, c1, rfl, l1, m1⟩ := h1.shape
  simp only [List.length_map] at h1 l1 ⊢
  obtain ⟨rfl, zz⟩ := r1.unnil
  refine ⟨A1, c1, F1, rfl, h1, l1, m1, fun b => ?_⟩
  · simp [g0, g1, zz, z0]
def Log.ty : List Ty := [.int .i64, .sl 99 8 [.int .i64, .int .i64, .int .i64, .str, .int .i64, .bool, .int .i64, .sl 2 1 [.int .i64]]]
theorem Log.is {ds : List D} (h : IsL Log.ty ds) : ∃ x : Log, ds = Log.d false x ∧ Log.wf x := by
  unfold Log.ty at h
  obtain ⟨d0, ds0, rfl, i0, r0⟩ := h.uncons
  obtain ⟨a0, rfl, w0⟩ := i0.int_inv
  obtain ⟨d1, ds1, rfl, i1, r1⟩ := r0.uncons
  obtain ⟨a1, rfl, w1⟩ := Is.sl_inv (Message.d false) Message.wf (fun ds h => Message.is h) i1
  obtain rfl := r1.unnil
  exact ⟨⟨a0, a1⟩, rfl, ⟨w0, w1⟩⟩

structure Draft where
  xSender : Int
  xAt : Int
  xText : ByteArray
deriving DecidableEq

/-- The element's type: true: the program's own, false: the laws'. -/
def Draft.e (q : Bool) : TypeId := if q then 35 else 35
def Draft.d (q : Bool) (x : Draft) : List D := [.int .i64 x.xSender, .int .i64 x.xAt, .str x.xText]
def Draft.s (q : Bool) (l : List Draft) : D := .sl (Draft.e q) 3 (l.map (Draft.d q))
def Draft.wf (x : Draft) : Prop := (Lit.int .i64 x.xSender).wf = true ∧ (Lit.int .i64 x.xAt).wf = true ∧ x.xText.size ≤ maxLen
theorem Draft.cells {w : World} {Pb : Nat → Prop} {q : Bool} {x : Draft} {us : List Value} (h : RoL w Pb (Draft.d q x) us) :
    us = [.int .i64 x.xSender, .int .i64 x.xAt, .string x.xText] := by
  unfold Draft.d at h
  obtain ⟨u0, us0, rfl, h0, r0⟩ := h.uncons
  obtain rfl := h0.int_inv
  obtain ⟨u1, us1, rfl, h1, r1⟩ := r0.uncons
  obtain rfl := h1.int_inv
  obtain ⟨u2, us2, rfl, h2, r2⟩ := r1.uncons
  obtain rfl := h2.str_inv
  obtain rfl := r2.unnil
  exact rfl
theorem Draft.owned {w : World} {q : Bool} {x : Draft} {us : List Value} {F : Nat → Prop} (h : OwL w (Draft.d q x) us F) :
    us = [.int .i64 x.xSender, .int .i64 x.xAt, .string x.xText] ∧ (∀ b, ¬ F b) := by
  unfold Draft.d at h
  obtain ⟨u0, us0, F0, G0, rfl, h0, r0, n0, g0⟩ := h.uncons
  obtain ⟨rfl, z0⟩ := h0.int_inv
  obtain ⟨u1, us1, F1, G1, rfl, h1, r1, n1, g1⟩ := r0.uncons
  obtain ⟨rfl, z1⟩ := h1.int_inv
  obtain ⟨u2, us2, F2, G2, rfl, h2, r2, n2, g2⟩ := r1.uncons
  obtain ⟨rfl, z2⟩ := h2.str_inv
  obtain ⟨rfl, zz⟩ := r2.unnil
  refine ⟨rfl, fun b hb => ?_⟩
  · simp [g0, g1, g2, zz, z0, z1, z2] at hb
def Draft.ty : List Ty := [.int .i64, .int .i64, .str]
theorem Draft.is {ds : List D} (h : IsL Draft.ty ds) : ∃ x : Draft, ds = Draft.d false x ∧ Draft.wf x := by
  unfold Draft.ty at h
  obtain ⟨d0, ds0, rfl, i0, r0⟩ := h.uncons
  obtain ⟨a0, rfl, w0⟩ := i0.int_inv
  obtain ⟨d1, ds1, rfl, i1, r1⟩ := r0.uncons
  obtain ⟨a1, rfl, w1⟩ := i1.int_inv
  obtain ⟨d2, ds2, rfl, i2, r2⟩ := r1.uncons
  obtain ⟨a2, rfl, w2⟩ := i2.str_inv
  obtain rfl := r2.unnil
  exact ⟨⟨a0, a1, a2⟩, rfl, ⟨w0, w1, w2⟩⟩

structure Hand where
  xStage : Int
  xFrom : Log
  xTo : Log
  xWaiting : List Draft
deriving DecidableEq

/-- The element's type: true: the program's own, false: the laws'. -/
def Hand.e (q : Bool) : TypeId := if q then 30 else 30
def Hand.d (q : Bool) (x : Hand) : List D := [.int .i64 x.xStage, .int .i64 x.xFrom.xNext, Message.s q x.xFrom.xMessages, .int .i64 x.xTo.xNext, Message.s q x.xTo.xMessages, Draft.s q x.xWaiting]
def Hand.s (q : Bool) (l : List Hand) : D := .sl (Hand.e q) 6 (l.map (Hand.d q))
def Hand.wf (x : Hand) : Prop := (Lit.int .i64 x.xStage).wf = true ∧ Log.wf x.xFrom ∧ Log.wf x.xTo ∧ (∀ y ∈ x.xWaiting, Draft.wf y)
theorem Hand.cells {w : World} {Pb : Nat → Prop} {q : Bool} {x : Hand} {us : List Value} (h : RoL w Pb (Hand.d q x) us) :
    ∃ (A2 : Option Addr) (c2 : Nat) (A4 : Option Addr) (c4 : Nat) (A5 : Option Addr) (c5 : Nat), us = [.int .i64 x.xStage, .int .i64 x.xFrom.xNext, .slice A2 x.xFrom.xMessages.length c2, .int .i64 x.xTo.xNext, .slice A4 x.xTo.xMessages.length c4, .slice A5 x.xWaiting.length c5] ∧ Ro w Pb (Message.s q x.xFrom.xMessages) (.slice A2 x.xFrom.xMessages.length c2) ∧ x.xFrom.xMessages.length ≤ c2 ∧ c2 ≤ maxLen ∧ Ro w Pb (Message.s q x.xTo.xMessages) (.slice A4 x.xTo.xMessages.length c4) ∧ x.xTo.xMessages.length ≤ c4 ∧ c4 ≤ maxLen ∧ Ro w Pb (Draft.s q x.xWaiting) (.slice A5 x.xWaiting.length c5) ∧ x.xWaiting.length ≤ c5 ∧ c5 ≤ maxLen := by
  unfold Hand.d at h
  obtain ⟨u0, us0, rfl, h0, r0⟩ := h.uncons
  obtain rfl := h0.int_inv
  obtain ⟨u1, us1, rfl, h1, r1⟩ := r0.uncons
  obtain rfl := h1.int_inv
  obtain ⟨u2, us2, rfl, h2, r2⟩ := r1.uncons
  obtain ⟨A2, c2, rfl, l2, m2⟩ := h2.sl_inv
  simp only [List.length_map] at h2 l2 ⊢
  obtain ⟨u3, us3, rfl, h3, r3⟩ := r2.uncons
  obtain rfl := h3.int_inv
  obtain ⟨u4, us4, rfl, h4, r4⟩ := r3.uncons
  obtain ⟨A4, c4, rfl, l4, m4⟩ := h4.sl_inv
  simp only [List.length_map] at h4 l4 ⊢
  obtain ⟨u5, us5, rfl, h5, r5⟩ := r4.uncons
  obtain ⟨A5, c5, rfl, l5, m5⟩ := h5.sl_inv
  simp only [List.length_map] at h5 l5 ⊢
  obtain rfl := r5.unnil
  exact ⟨A2, c2, A4, c4, A5, c5, rfl, h2, l2, m2, h4, l4, m4, h5, l5, m5⟩
theorem Hand.owned {w : World} {q : Bool} {x : Hand} {us : List Value} {F : Nat → Prop} (h : OwL w (Hand.d q x) us F) :
    ∃ (A2 : Option Addr) (c2 : Nat) (F2 : Nat → Prop) (A4 : Option Addr) (c4 : Nat) (F4 : Nat → Prop) (A5 : Option Addr) (c5 : Nat) (F5 : Nat → Prop), us = [.int .i64 x.xStage, .int .i64 x.xFrom.xNext, .slice A2 x.xFrom.xMessages.length c2, .int .i64 x.xTo.xNext, .slice A4 x.xTo.xMessages.length c4, .slice A5 x.xWaiting.length c5] ∧ Ow w (Message.s q x.xFrom.xMessages) (.slice A2 x.xFrom.xMessages.length c2) F2 ∧ x.xFrom.xMessages.length ≤ c2 ∧ c2 ≤ maxLen ∧ Ow w (Message.s q x.xTo.xMessages) (.slice A4 x.xTo.xMessages.length c4) F4 ∧ x.xTo.xMessages.length ≤ c4 ∧ c4 ≤ maxLen ∧ Ow w (Draft.s q x.xWaiting) (.slice A5 x.xWaiting.length c5) F5 ∧ x.xWaiting.length ≤ c5 ∧ c5 ≤ maxLen ∧ (∀ b, F2 b → ¬ F4 b) ∧ (∀ b, F2 b → ¬ F5 b) ∧ (∀ b, F4 b → ¬ F5 b) ∧ (∀ b, F b ↔ F2 b ∨ F4 b ∨ F5 b) := by
  unfold Hand.d at h
  obtain ⟨u0, us0, F0, G0, rfl, h0, r0, n0, g0⟩ := h.uncons
  obtain ⟨rfl, z0⟩ := h0.int_inv
  obtain ⟨u1, us1, F1, G1, rfl, h1, r1, n1, g1⟩ := r0.uncons
  obtain ⟨rfl, z1⟩ := h1.int_inv
  obtain ⟨u2, us2, F2, G2, rfl, h2, r2, n2, g2⟩ := r1.uncons
  obtain ⟨A2, c2, rfl, l2, m2⟩ := h2.shape
  simp only [List.length_map] at h2 l2 ⊢
  obtain ⟨u3, us3, F3, G3, rfl, h3, r3, n3, g3⟩ := r2.uncons
  obtain ⟨rfl, z3⟩ := h3.int_inv
  obtain ⟨u4, us4, F4, G4, rfl, h4, r4, n4, g4⟩ := r3.uncons
  obtain ⟨A4, c4, rfl, l4, m4⟩ := h4.shape
  simp only [List.length_map] at h4 l4 ⊢
  obtain ⟨u5, us5, F5, G5, rfl, h5, r5, n5, g5⟩ := r4.uncons
  obtain ⟨A5, c5, rfl, l5, m5⟩ := h5.shape
  simp only [List.length_map] at h5 l5 ⊢
  obtain ⟨rfl, zz⟩ := r5.unnil
  refine ⟨A2, c2, F2, A4, c4, F4, A5, c5, F5, rfl, h2, l2, m2, h4, l4, m4, h5, l5, m5, fun b hb hc => n2 b hb ((g3 b).2 (.inr ((g4 b).2 (.inl hc)))), fun b hb hc => n2 b hb ((g3 b).2 (.inr ((g4 b).2 (.inr ((g5 b).2 (.inl hc)))))), fun b hb hc => n4 b hb ((g5 b).2 (.inl hc)), fun b => ?_⟩
  · simp [g0, g1, g2, g3, g4, g5, zz, z0, z1, z3]
def Hand.ty : List Ty := [.int .i64, .int .i64, .sl 99 8 [.int .i64, .int .i64, .int .i64, .str, .int .i64, .bool, .int .i64, .sl 2 1 [.int .i64]], .int .i64, .sl 99 8 [.int .i64, .int .i64, .int .i64, .str, .int .i64, .bool, .int .i64, .sl 2 1 [.int .i64]], .sl 35 3 [.int .i64, .int .i64, .str]]
theorem Hand.is {ds : List D} (h : IsL Hand.ty ds) : ∃ x : Hand, ds = Hand.d false x ∧ Hand.wf x := by
  unfold Hand.ty at h
  obtain ⟨d0, ds0, rfl, i0, r0⟩ := h.uncons
  obtain ⟨a0, rfl, w0⟩ := i0.int_inv
  obtain ⟨d1, ds1, rfl, i1, r1⟩ := r0.uncons
  obtain ⟨a1, rfl, w1⟩ := i1.int_inv
  obtain ⟨d2, ds2, rfl, i2, r2⟩ := r1.uncons
  obtain ⟨a2, rfl, w2⟩ := Is.sl_inv (Message.d false) Message.wf (fun ds h => Message.is h) i2
  obtain ⟨d3, ds3, rfl, i3, r3⟩ := r2.uncons
  obtain ⟨a3, rfl, w3⟩ := i3.int_inv
  obtain ⟨d4, ds4, rfl, i4, r4⟩ := r3.uncons
  obtain ⟨a4, rfl, w4⟩ := Is.sl_inv (Message.d false) Message.wf (fun ds h => Message.is h) i4
  obtain ⟨d5, ds5, rfl, i5, r5⟩ := r4.uncons
  obtain ⟨a5, rfl, w5⟩ := Is.sl_inv (Draft.d false) Draft.wf (fun ds h => Draft.is h) i5
  obtain rfl := r5.unnil
  exact ⟨⟨a0, ⟨a1, a2⟩, ⟨a3, a4⟩, a5⟩, rfl, ⟨w0, ⟨w1, w2⟩, ⟨w3, w4⟩, w5⟩⟩

structure Sim where
  xSeed : Int
  xMembers : Int
  xLimit : Int
  xSteps : Int
deriving DecidableEq

/-- The element's type: true: the program's own, false: the laws'. -/
def Sim.e (q : Bool) : TypeId := if q then 47 else 54
def Sim.d (q : Bool) (x : Sim) : List D := [.int .i64 x.xSeed, .int .i64 x.xMembers, .int .i64 x.xLimit, .int .i64 x.xSteps]
def Sim.s (q : Bool) (l : List Sim) : D := .sl (Sim.e q) 4 (l.map (Sim.d q))
def Sim.wf (x : Sim) : Prop := (Lit.int .i64 x.xSeed).wf = true ∧ (Lit.int .i64 x.xMembers).wf = true ∧ (Lit.int .i64 x.xLimit).wf = true ∧ (Lit.int .i64 x.xSteps).wf = true
theorem Sim.cells {w : World} {Pb : Nat → Prop} {q : Bool} {x : Sim} {us : List Value} (h : RoL w Pb (Sim.d q x) us) :
    us = [.int .i64 x.xSeed, .int .i64 x.xMembers, .int .i64 x.xLimit, .int .i64 x.xSteps] := by
  unfold Sim.d at h
  obtain ⟨u0, us0, rfl, h0, r0⟩ := h.uncons
  obtain rfl := h0.int_inv
  obtain ⟨u1, us1, rfl, h1, r1⟩ := r0.uncons
  obtain rfl := h1.int_inv
  obtain ⟨u2, us2, rfl, h2, r2⟩ := r1.uncons
  obtain rfl := h2.int_inv
  obtain ⟨u3, us3, rfl, h3, r3⟩ := r2.uncons
  obtain rfl := h3.int_inv
  obtain rfl := r3.unnil
  exact rfl
theorem Sim.owned {w : World} {q : Bool} {x : Sim} {us : List Value} {F : Nat → Prop} (h : OwL w (Sim.d q x) us F) :
    us = [.int .i64 x.xSeed, .int .i64 x.xMembers, .int .i64 x.xLimit, .int .i64 x.xSteps] ∧ (∀ b, ¬ F b) := by
  unfold Sim.d at h
  obtain ⟨u0, us0, F0, G0, rfl, h0, r0, n0, g0⟩ := h.uncons
  obtain ⟨rfl, z0⟩ := h0.int_inv
  obtain ⟨u1, us1, F1, G1, rfl, h1, r1, n1, g1⟩ := r0.uncons
  obtain ⟨rfl, z1⟩ := h1.int_inv
  obtain ⟨u2, us2, F2, G2, rfl, h2, r2, n2, g2⟩ := r1.uncons
  obtain ⟨rfl, z2⟩ := h2.int_inv
  obtain ⟨u3, us3, F3, G3, rfl, h3, r3, n3, g3⟩ := r2.uncons
  obtain ⟨rfl, z3⟩ := h3.int_inv
  obtain ⟨rfl, zz⟩ := r3.unnil
  refine ⟨rfl, fun b hb => ?_⟩
  · simp [g0, g1, g2, g3, zz, z0, z1, z2, z3] at hb
def Sim.ty : List Ty := [.int .i64, .int .i64, .int .i64, .int .i64]
theorem Sim.is {ds : List D} (h : IsL Sim.ty ds) : ∃ x : Sim, ds = Sim.d false x ∧ Sim.wf x := by
  unfold Sim.ty at h
  obtain ⟨d0, ds0, rfl, i0, r0⟩ := h.uncons
  obtain ⟨a0, rfl, w0⟩ := i0.int_inv
  obtain ⟨d1, ds1, rfl, i1, r1⟩ := r0.uncons
  obtain ⟨a1, rfl, w1⟩ := i1.int_inv
  obtain ⟨d2, ds2, rfl, i2, r2⟩ := r1.uncons
  obtain ⟨a2, rfl, w2⟩ := i2.int_inv
  obtain ⟨d3, ds3, rfl, i3, r3⟩ := r2.uncons
  obtain ⟨a3, rfl, w3⟩ := i3.int_inv
  obtain rfl := r3.unnil
  exact ⟨⟨a0, a1, a2, a3⟩, rfl, ⟨w0, w1, w2, w3⟩⟩

structure Stats where
  xSent : Int
  xGot : Int
  xLost : Int
  xLeft : Int
deriving DecidableEq

/-- The element's type: true: the program's own, false: the laws'. -/
def Stats.e (q : Bool) : TypeId := if q then 49 else 49
def Stats.d (q : Bool) (x : Stats) : List D := [.int .i64 x.xSent, .int .i64 x.xGot, .int .i64 x.xLost, .int .i64 x.xLeft]
def Stats.s (q : Bool) (l : List Stats) : D := .sl (Stats.e q) 4 (l.map (Stats.d q))
def Stats.wf (x : Stats) : Prop := (Lit.int .i64 x.xSent).wf = true ∧ (Lit.int .i64 x.xGot).wf = true ∧ (Lit.int .i64 x.xLost).wf = true ∧ (Lit.int .i64 x.xLeft).wf = true
theorem Stats.cells {w : World} {Pb : Nat → Prop} {q : Bool} {x : Stats} {us : List Value} (h : RoL w Pb (Stats.d q x) us) :
    us = [.int .i64 x.xSent, .int .i64 x.xGot, .int .i64 x.xLost, .int .i64 x.xLeft] := by
  unfold Stats.d at h
  obtain ⟨u0, us0, rfl, h0, r0⟩ := h.uncons
  obtain rfl := h0.int_inv
  obtain ⟨u1, us1, rfl, h1, r1⟩ := r0.uncons
  obtain rfl := h1.int_inv
  obtain ⟨u2, us2, rfl, h2, r2⟩ := r1.uncons
  obtain rfl := h2.int_inv
  obtain ⟨u3, us3, rfl, h3, r3⟩ := r2.uncons
  obtain rfl := h3.int_inv
  obtain rfl := r3.unnil
  exact rfl
theorem Stats.owned {w : World} {q : Bool} {x : Stats} {us : List Value} {F : Nat → Prop} (h : OwL w (Stats.d q x) us F) :
    us = [.int .i64 x.xSent, .int .i64 x.xGot, .int .i64 x.xLost, .int .i64 x.xLeft] ∧ (∀ b, ¬ F b) := by
  unfold Stats.d at h
  obtain ⟨u0, us0, F0, G0, rfl, h0, r0, n0, g0⟩ := h.uncons
  obtain ⟨rfl, z0⟩ := h0.int_inv
  obtain ⟨u1, us1, F1, G1, rfl, h1, r1, n1, g1⟩ := r0.uncons
  obtain ⟨rfl, z1⟩ := h1.int_inv
  obtain ⟨u2, us2, F2, G2, rfl, h2, r2, n2, g2⟩ := r1.uncons
  obtain ⟨rfl, z2⟩ := h2.int_inv
  obtain ⟨u3, us3, F3, G3, rfl, h3, r3, n3, g3⟩ := r2.uncons
  obtain ⟨rfl, z3⟩ := h3.int_inv
  obtain ⟨rfl, zz⟩ := r3.unnil
  refine ⟨rfl, fun b hb => ?_⟩
  · simp [g0, g1, g2, g3, zz, z0, z1, z2, z3] at hb
def Stats.ty : List Ty := [.int .i64, .int .i64, .int .i64, .int .i64]
theorem Stats.is {ds : List D} (h : IsL Stats.ty ds) : ∃ x : Stats, ds = Stats.d false x ∧ Stats.wf x := by
  unfold Stats.ty at h
  obtain ⟨d0, ds0, rfl, i0, r0⟩ := h.uncons
  obtain ⟨a0, rfl, w0⟩ := i0.int_inv
  obtain ⟨d1, ds1, rfl, i1, r1⟩ := r0.uncons
  obtain ⟨a1, rfl, w1⟩ := i1.int_inv
  obtain ⟨d2, ds2, rfl, i2, r2⟩ := r1.uncons
  obtain ⟨a2, rfl, w2⟩ := i2.int_inv
  obtain ⟨d3, ds3, rfl, i3, r3⟩ := r2.uncons
  obtain ⟨a3, rfl, w3⟩ := i3.int_inv
  obtain rfl := r3.unnil
  exact ⟨⟨a0, a1, a2, a3⟩, rfl, ⟨w0, w1, w2, w3⟩⟩

structure Reminder where
  xMember : Int
  xNumber : Int
  xAt : Int
  xEvery : Int
  xLeft : Int
deriving DecidableEq

/-- The element's type: true: the program's own, false: the laws'. -/
def Reminder.e (q : Bool) : TypeId := if q then 74 else 134
def Reminder.d (q : Bool) (x : Reminder) : List D := [.int .i64 x.xMember, .int .i64 x.xNumber, .int .i64 x.xAt, .int .i64 x.xEvery, .int .i64 x.xLeft]
def Reminder.s (q : Bool) (l : List Reminder) : D := .sl (Reminder.e q) 5 (l.map (Reminder.d q))
def Reminder.wf (x : Reminder) : Prop := (Lit.int .i64 x.xMember).wf = true ∧ (Lit.int .i64 x.xNumber).wf = true ∧ (Lit.int .i64 x.xAt).wf = true ∧ (Lit.int .i64 x.xEvery).wf = true ∧ (Lit.int .i64 x.xLeft).wf = true
theorem Reminder.cells {w : World} {Pb : Nat → Prop} {q : Bool} {x : Reminder} {us : List Value} (h : RoL w Pb (Reminder.d q x) us) :
    us = [.int .i64 x.xMember, .int .i64 x.xNumber, .int .i64 x.xAt, .int .i64 x.xEvery, .int .i64 x.xLeft] := by
  unfold Reminder.d at h
  obtain ⟨u0, us0, rfl, h0, r0⟩ := h.uncons
  obtain rfl := h0.int_inv
  obtain ⟨u1, us1, rfl, h1, r1⟩ := r0.uncons
  obtain rfl := h1.int_inv
  obtain ⟨u2, us2, rfl, h2, r2⟩ := r1.uncons
  obtain rfl := h2.int_inv
  obtain ⟨u3, us3, rfl, h3, r3⟩ := r2.uncons
  obtain rfl := h3.int_inv
  obtain ⟨u4, us4, rfl, h4, r4⟩ := r3.uncons
  obtain rfl := h4.int_inv
  obtain rfl := r4.unnil
  exact rfl
theorem Reminder.owned {w : World} {q : Bool} {x : Reminder} {us : List Value} {F : Nat → Prop} (h : OwL w (Reminder.d q x) us F) :
    us = [.int .i64 x.xMember, .int .i64 x.xNumber, .int .i64 x.xAt, .int .i64 x.xEvery, .int .i64 x.xLeft] ∧ (∀ b, ¬ F b) := by
  unfold Reminder.d at h
  obtain ⟨u0, us0, F0, G0, rfl, h0, r0, n0, g0⟩ := h.uncons
  obtain ⟨rfl, z0⟩ := h0.int_inv
  obtain ⟨u1, us1, F1, G1, rfl, h1, r1, n1, g1⟩ := r0.uncons
  obtain ⟨rfl, z1⟩ := h1.int_inv
  obtain ⟨u2, us2, F2, G2, rfl, h2, r2, n2, g2⟩ := r1.uncons
  obtain ⟨rfl, z2⟩ := h2.int_inv
  obtain ⟨u3, us3, F3, G3, rfl, h3, r3, n3, g3⟩ := r2.uncons
  obtain ⟨rfl, z3⟩ := h3.int_inv
  obtain ⟨u4, us4, F4, G4, rfl, h4, r4, n4, g4⟩ := r3.uncons
  obtain ⟨rfl, z4⟩ := h4.int_inv
  obtain ⟨rfl, zz⟩ := r4.unnil
  refine ⟨rfl, fun b hb => ?_⟩
  · simp [g0, g1, g2, g3, g4, zz, z0, z1, z2, z3, z4] at hb
def Reminder.ty : List Ty := [.int .i64, .int .i64, .int .i64, .int .i64, .int .i64]
theorem Reminder.is {ds : List D} (h : IsL Reminder.ty ds) : ∃ x : Reminder, ds = Reminder.d false x ∧ Reminder.wf x := by
  unfold Reminder.ty at h
  obtain ⟨d0, ds0, rfl, i0, r0⟩ := h.uncons
  obtain ⟨a0, rfl, w0⟩ := i0.int_inv
  obtain ⟨d1, ds1, rfl, i1, r1⟩ := r0.uncons
  obtain ⟨a1, rfl, w1⟩ := i1.int_inv
  obtain ⟨d2, ds2, rfl, i2, r2⟩ := r1.uncons
  obtain ⟨a2, rfl, w2⟩ := i2.int_inv
  obtain ⟨d3, ds3, rfl, i3, r3⟩ := r2.uncons
  obtain ⟨a3, rfl, w3⟩ := i3.int_inv
  obtain ⟨d4, ds4, rfl, i4, r4⟩ := r3.uncons
  obtain ⟨a4, rfl, w4⟩ := i4.int_inv
  obtain rfl := r4.unnil
  exact ⟨⟨a0, a1, a2, a3, a4⟩, rfl, ⟨w0, w1, w2, w3, w4⟩⟩

structure Parcel where
  xRoom : Int
  xNumber : Int
deriving DecidableEq

/-- The element's type: true: the program's own, false: the laws'. -/
def Parcel.e (q : Bool) : TypeId := if q then 114 else 114
def Parcel.d (q : Bool) (x : Parcel) : List D := [.int .i64 x.xRoom, .int .i64 x.xNumber]
def Parcel.s (q : Bool) (l : List Parcel) : D := .sl (Parcel.e q) 2 (l.map (Parcel.d q))
def Parcel.wf (x : Parcel) : Prop := (Lit.int .i64 x.xRoom).wf = true ∧ (Lit.int .i64 x.xNumber).wf = true
theorem Parcel.cells {w : World} {Pb : Nat → Prop} {q : Bool} {x : Parcel} {us : List Value} (h : RoL w Pb (Parcel.d q x) us) :
    us = [.int .i64 x.xRoom, .int .i64 x.xNumber] := by
  unfold Parcel.d at h
  obtain ⟨u0, us0, rfl, h0, r0⟩ := h.uncons
  obtain rfl := h0.int_inv
  obtain ⟨u1, us1, rfl, h1, r1⟩ := r0.uncons
  obtain rfl := h1.int_inv
  obtain rfl := r1.unnil
  exact rfl
theorem Parcel.owned {w : World} {q : Bool} {x : Parcel} {us : List Value} {F : Nat → Prop} (h : OwL w (Parcel.d q x) us F) :
    us = [.int .i64 x.xRoom, .int .i64 x.xNumber] ∧ (∀ b, ¬ F b) := by
  unfold Parcel.d at h
  obtain ⟨u0, us0, F0, G0, rfl, h0, r0, n0, g0⟩ := h.uncons
  obtain ⟨rfl, z0⟩ := h0.int_inv
  obtain ⟨u1, us1, F1, G1, rfl, h1, r1, n1, g1⟩ := r0.uncons
  obtain ⟨rfl, z1⟩ := h1.int_inv
  obtain ⟨rfl, zz⟩ := r1.unnil
  refine ⟨rfl, fun b hb => ?_⟩
  · simp [g0, g1, zz, z0, z1] at hb
def Parcel.ty : List Ty := [.int .i64, .int .i64]
theorem Parcel.is {ds : List D} (h : IsL Parcel.ty ds) : ∃ x : Parcel, ds = Parcel.d false x ∧ Parcel.wf x := by
  unfold Parcel.ty at h
  obtain ⟨d0, ds0, rfl, i0, r0⟩ := h.uncons
  obtain ⟨a0, rfl, w0⟩ := i0.int_inv
  obtain ⟨d1, ds1, rfl, i1, r1⟩ := r0.uncons
  obtain ⟨a1, rfl, w1⟩ := i1.int_inv
  obtain rfl := r1.unnil
  exact ⟨⟨a0, a1⟩, rfl, ⟨w0, w1⟩⟩

structure Box where
  xToken : ByteArray
  xMember : Int
  xMissed : Int
  xHeld : List Parcel
deriving DecidableEq

/-- The element's type: true: the program's own, false: the laws'. -/
def Box.e (q : Bool) : TypeId := if q then 111 else 111
def Box.d (q : Bool) (x : Box) : List D := [.str x.xToken, .int .i64 x.xMember, .int .i64 x.xMissed, Parcel.s q x.xHeld]
def Box.s (q : Bool) (l : List Box) : D := .sl (Box.e q) 4 (l.map (Box.d q))
def Box.wf (x : Box) : Prop := x.xToken.size ≤ maxLen ∧ (Lit.int .i64 x.xMember).wf = true ∧ (Lit.int .i64 x.xMissed).wf = true ∧ (∀ y ∈ x.xHeld, Parcel.wf y)
theorem Box.cells {w : World} {Pb : Nat → Prop} {q : Bool} {x : Box} {us : List Value} (h : RoL w Pb (Box.d q x) us) :
    ∃ (A3 : Option Addr) (c3 : Nat), us = [.string x.xToken, .int .i64 x.xMember, .int .i64 x.xMissed, .slice A3 x.xHeld.length c3] ∧ Ro w Pb (Parcel.s q x.xHeld) (.slice A3 x.xHeld.length c3) ∧ x.xHeld.length ≤ c3 ∧ c3 ≤ maxLen := by
  unfold Box.d at h
  obtain ⟨u0, us0, rfl, h0, r0⟩ := h.uncons
  obtain rfl := h0.str_inv
  obtain ⟨u1, us1, rfl, h1, r1⟩ := r0.uncons
  obtain rfl := h1.int_inv
  obtain ⟨u2, us2, rfl, h2, r2⟩ := r1.uncons
  obtain rfl := h2.int_inv
  obtain ⟨u3, us3, rfl, h3, r3⟩ := r2.uncons
  obtain ⟨A3, c3, rfl, l3, m3⟩ := h3.sl_inv
  simp only [List.length_map] at h3 l3 ⊢
  obtain rfl := r3.unnil
  exact ⟨A3, c3, rfl, h3, l3, m3⟩
theorem Box.owned {w : World} {q : Bool} {x : Box} {us : List Value} {F : Nat → Prop} (h : OwL w (Box.d q x) us F) :
    ∃ (A3 : Option Addr) (c3 : Nat) (F3 : Nat → Prop), us = [.string x.xToken, .int .i64 x.xMember, .int .i64 x.xMissed, .slice A3 x.xHeld.length c3] ∧ Ow w (Parcel.s q x.xHeld) (.slice A3 x.xHeld.length c3) F3 ∧ x.xHeld.length ≤ c3 ∧ c3 ≤ maxLen ∧ (∀ b, F b ↔ F3 b) := by
  unfold Box.d at h
  obtain ⟨u0, us0, F0, G0, rfl, h0, r0, n0, g0⟩ := h.uncons
  obtain ⟨rfl, z0⟩ := h0.str_inv
  obtain ⟨u1, us1, F1, G1, rfl, h1, r1, n1, g1⟩ := r0.uncons
  obtain ⟨rfl, z1⟩ := h1.int_inv
  obtain ⟨u2, us2, F2, G2, rfl, h2, r2, n2, g2⟩ := r1.uncons
  obtain ⟨rfl, z2⟩ := h2.int_inv
  obtain ⟨u3, us3, F3, G3, rfl, h3, r3, n3, g3⟩ := r2.uncons
  obtain ⟨A3, c3, rfl, l3, m3⟩ := h3.shape
  simp only [List.length_map] at h3 l3 ⊢
  obtain ⟨rfl, zz⟩ := r3.unnil
  refine ⟨A3, c3, F3, rfl, h3, l3, m3, fun b => ?_⟩
  · simp [g0, g1, g2, g3, zz, z0, z1, z2]
def Box.ty : List Ty := [.str, .int .i64, .int .i64, .sl 114 2 [.int .i64, .int .i64]]
theorem Box.is {ds : List D} (h : IsL Box.ty ds) : ∃ x : Box, ds = Box.d false x ∧ Box.wf x := by
  unfold Box.ty at h
  obtain ⟨d0, ds0, rfl, i0, r0⟩ := h.uncons
  obtain ⟨a0, rfl, w0⟩ := i0.str_inv
  obtain ⟨d1, ds1, rfl, i1, r1⟩ := r0.uncons
  obtain ⟨a1, rfl, w1⟩ := i1.int_inv
  obtain ⟨d2, ds2, rfl, i2, r2⟩ := r1.uncons
  obtain ⟨a2, rfl, w2⟩ := i2.int_inv
  obtain ⟨d3, ds3, rfl, i3, r3⟩ := r2.uncons
  obtain ⟨a3, rfl, w3⟩ := Is.sl_inv (Parcel.d false) Parcel.wf (fun ds h => Parcel.is h) i3
  obtain rfl := r3.unnil
  exact ⟨⟨a0, a1, a2, a3⟩, rfl, ⟨w0, w1, w2, w3⟩⟩

structure Post where
  xLimit : Int
  xBoxes : List Box
deriving DecidableEq

/-- The element's type: true: the program's own, false: the laws'. -/
def Post.e (q : Bool) : TypeId := if q then 103 else 103
def Post.d (q : Bool) (x : Post) : List D := [.int .i64 x.xLimit, Box.s q x.xBoxes]
def Post.s (q : Bool) (l : List Post) : D := .sl (Post.e q) 2 (l.map (Post.d q))
def Post.wf (x : Post) : Prop := (Lit.int .i64 x.xLimit).wf = true ∧ (∀ y ∈ x.xBoxes, Box.wf y)
theorem Post.cells {w : World} {Pb : Nat → Prop} {q : Bool} {x : Post} {us : List Value} (h : RoL w Pb (Post.d q x) us) :
    ∃ (A1 : Option Addr) (c1 : Nat), us = [.int .i64 x.xLimit, .slice A1 x.xBoxes.length c1] ∧ Ro w Pb (Box.s q x.xBoxes) (.slice A1 x.xBoxes.length c1) ∧ x.xBoxes.length ≤ c1 ∧ c1 ≤ maxLen := by
  unfold Post.d at h
  obtain ⟨u0, us0, rfl, h0, r0⟩ := h.uncons
  obtain rfl := h0.int_inv
  obtain ⟨u1, us1, rfl, h1, r1⟩ := r0.uncons
  obtain ⟨A1, c1, rfl, l1, m1⟩ := h1.sl_inv
  simp only [List.length_map] at h1 l1 ⊢
  obtain rfl := r1.unnil
  exact ⟨A1, c1, rfl, h1, l1, m1⟩
theorem Post.owned {w : World} {q : Bool} {x : Post} {us : List Value} {F : Nat → Prop} (h : OwL w (Post.d q x) us F) :
    ∃ (A1 : Option Addr) (c1 : Nat) (F1 : Nat → Prop), us = [.int .i64 x.xLimit, .slice A1 x.xBoxes.length c1] ∧ Ow w (Box.s q x.xBoxes) (.slice A1 x.xBoxes.length c1) F1 ∧ x.xBoxes.length ≤ c1 ∧ c1 ≤ maxLen ∧ (∀ b, F b ↔ F1 b) := by
  unfold Post.d at h
  obtain ⟨u0, us0, F0, G0, rfl, h0, r0, n0, g0⟩ := h.uncons
  obtain ⟨rfl, z0⟩ := h0.int_inv
  obtain ⟨u1, us1, F1, G1, rfl, h1, r1, n1, g1⟩ := r0.uncons
  obtain ⟨A1, c1, rfl, l1, m1⟩ := h1.shape
  simp only [List.length_map] at h1 l1 ⊢
  obtain ⟨rfl, zz⟩ := r1.unnil
  refine ⟨A1, c1, F1, rfl, h1, l1, m1, fun b => ?_⟩
  · simp [g0, g1, zz, z0]
def Post.ty : List Ty := [.int .i64, .sl 111 4 [.str, .int .i64, .int .i64, .sl 114 2 [.int .i64, .int .i64]]]
theorem Post.is {ds : List D} (h : IsL Post.ty ds) : ∃ x : Post, ds = Post.d false x ∧ Post.wf x := by
  unfold Post.ty at h
  obtain ⟨d0, ds0, rfl, i0, r0⟩ := h.uncons
  obtain ⟨a0, rfl, w0⟩ := i0.int_inv
  obtain ⟨d1, ds1, rfl, i1, r1⟩ := r0.uncons
  obtain ⟨a1, rfl, w1⟩ := Is.sl_inv (Box.d false) Box.wf (fun ds h => Box.is h) i1
  obtain rfl := r1.unnil
  exact ⟨⟨a0, a1⟩, rfl, ⟨w0, w1⟩⟩

end Go.Proofs.Ytafihplbchofoaa

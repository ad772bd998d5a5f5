/- The data of the program's structs. -/
import Derived.Test.YtahbgkabdongnaaDoorInts
import Derived.Test.YtahbgkabdongnaaDoorArm
import Derived.StillTailTactics
namespace Go.Proofs.YtahbgkabdongnaaDoor
open Go.ChangeShapes Go.WideShapes Go.ChangeAt Go.RowKit Go.Dt
set_option linter.unusedVariables false
set_option linter.unusedSimpArgs false

structure Message where
  xNumber : Int
  xSender : Int
  xAt : Int
  xText : ByteArray
  xEdits : Int
  xGone : Bool
  xReply : Int
  xLikes : List Int
deriving DecidableEq

/-- The element's type: true: the program's own, false: the laws'. -/
def Message.e (q : Bool) : TypeId := if q then 37 else 34
def Message.d (q : Bool) (x : Message) : List D := [.int .i64 x.xNumber, .int .i64 x.xSender, .int .i64 x.xAt, .str x.xText, .int .i64 x.xEdits, .bool x.xGone, .int .i64 x.xReply, ints x.xLikes]
def Message.s (q : Bool) (l : List Message) : D := .sl (Message.e q) 8 (l.map (Message.d q))
def Message.wf (x : Message) : Prop := (Lit.int .i64 x.xNumber).wf = true ∧ (Lit.int .i64 x.xSender).wf = true ∧ (Lit.int .i64 x.xAt).wf = true ∧ x.xText.size ≤ maxLen ∧ (Lit.int .i64 x.xEdits).wf = true ∧ (Lit.int .i64 x.xReply).wf = true ∧ (∀ n ∈ x.xLikes, (Lit.int .i64 n).wf = true)
theorem Message.cells {w : World} {Pb : Nat → Prop} {q : Bool} {x : Message} {us : List Value} (h : RoL w Pb (Message.d q x) us) :
    ∃ (A7 : Option Addr) (c7 : Nat), us = [.int .i64 x.xNumber, .int .i64 x.xSender, .int .i64 x.xAt, .string x.xText, .int .i64 x.xEdits, .bool x.xGone, .int .i64 x.xReply, .slice A7 x.xLikes.length c7] ∧ Ro w Pb (ints x.xLikes) (.slice A7 x.xLikes.length c7) ∧ x.xLikes.length ≤ c7 ∧ c7 ≤ maxLen := by
  unfold Message.d at h
  obtain ⟨u0, us0, rfl, h0, r0⟩ := h.uncons
  obtain rfl := h0.int_inv
  obtain ⟨u1, us1, rfl, h1, r1⟩ := r0.uncons
  obtain rfl := h1.int_inv
  obtain ⟨u2, us2, rfl, h2, r2⟩ := r1.uncons
  obtain rfl := h2.int_inv
  obtain ⟨u3, us3, rfl, h3, r3⟩ := r2.uncons
  obtain rfl := h3.str_inv
  obtain ⟨u4, us4, rfl, h4, r4⟩ := r3.uncons
  obtain rfl := h4.int_inv
  obtain ⟨u5, us5, rfl, h5, r5⟩ := r4.uncons
  obtain rfl := h5.bool_inv
  obtain ⟨u6, us6, rfl, h6, r6⟩ := r5.uncons
  obtain rfl := h6.int_inv
  obtain ⟨u7, us7, rfl, h7, r7⟩ := r6.uncons
  obtain ⟨A7, c7, rfl, l7, m7⟩ := h7.sl_inv
  simp only [List.length_map] at h7 l7 ⊢
  obtain rfl := r7.unnil
  exact ⟨A7, c7, rfl, h7, l7, m7⟩
theorem Message.owned {w : World} {q : Bool} {x : Message} {us : List Value} {F : Nat → Prop} (h : OwL w (Message.d q x) us F) :
    ∃ (A7 : Option Addr) (c7 : Nat) (F7 : Nat → Prop), us = [.int .i64 x.xNumber, .int .i64 x.xSender, .int .i64 x.xAt, .string x.xText, .int .i64 x.xEdits, .bool x.xGone, .int .i64 x.xReply, .slice A7 x.xLikes.length c7] ∧ Ow w (ints x.xLikes) (.slice A7 x.xLikes.length c7) F7 ∧ x.xLikes.length ≤ c7 ∧ c7 ≤ maxLen ∧ (∀ b, F b ↔ F7 b) := by
  unfold Message.d at h
  obtain ⟨u0, us0, F0, G0, rfl, h0, r0, n0, g0⟩ := h.uncons
  obtain ⟨rfl, z0⟩ := h0.int_inv
  obtain ⟨u1, us1, F1, G1, rfl, h1, r1, n1, g1⟩ := r0.uncons
  obtain ⟨rfl, z1⟩ := h1.int_inv
  obtain ⟨u2, us2, F2, G2, rfl, h2, r2, n2, g2⟩ := r1.uncons
  obtain ⟨rfl, z2⟩ := h2.int_inv
  obtain ⟨u3, us3, F3, G3, rfl, h3, r3, n3, g3⟩ := r2.uncons
  obtain ⟨rfl, z3⟩ := h3.str_inv
  obtain ⟨u4, us4, F4, G4, rfl, h4, r4, n4, g4⟩ := r3.uncons
  obtain ⟨rfl, z4⟩ := h4.int_inv
  obtain ⟨u5, us5, F5, G5, rfl, h5, r5, n5, g5⟩ := r4.uncons
  obtain ⟨rfl, z5⟩ := h5.bool_inv
  obtain ⟨u6, us6, F6, G6, rfl, h6, r6, n6, g6⟩ := r5.uncons
  obtain ⟨rfl, z6⟩ := h6.int_inv
  obtain ⟨u7, us7, F7, G7, rfl, h7, r7, n7, g7⟩ := r6.uncons
  obtain ⟨A7, c7, rfl, l7, m7⟩ := h7.shape
  simp only [List.length_map] at h7 l7 ⊢
  obtain ⟨rfl, zz⟩ := r7.unnil
  refine ⟨A7, c7, F7, rfl, h7, l7, m7, fun b => ?_⟩
  · simp [g0, g1, g2, g3, g4, g5, g6, g7, zz, z0, z1, z2, z3, z4, z5, z6]
def Message.ty : List Ty := [.int .i64, .int .i64, .int .i64, .str, .int .i64, .bool, .int .i64, .sl 2 1 [.int .i64]]
theorem Message.is {ds : List D} (h : IsL Message.ty ds) : ∃ x : Message, ds = Message.d false x ∧ Message.wf x := by
  unfold Message.ty at h
  obtain ⟨d0, ds0, rfl, i0, r0⟩ := h.uncons
  obtain ⟨a0, rfl, w0⟩ := i0.int_inv
  obtain ⟨d1, ds1, rfl, i1, r1⟩ := r0.uncons
  obtain ⟨a1, rfl, w1⟩ := i1.int_inv
  obtain ⟨d2, ds2, rfl, i2, r2⟩ := r1.uncons
  obtain ⟨a2, rfl, w2⟩ := i2.int_inv
  obtain ⟨d3, ds3, rfl, i3, r3⟩ := r2.uncons
  obtain ⟨a3, rfl, w3⟩ := i3.str_inv
  obtain ⟨d4, ds4, rfl, i4, r4⟩ := r3.uncons
  obtain ⟨a4, rfl, w4⟩ := i4.int_inv
  obtain ⟨d5, ds5, rfl, i5, r5⟩ := r4.uncons
  obtain ⟨a5, rfl⟩ := i5.bool_inv
  obtain ⟨d6, ds6, rfl, i6, r6⟩ := r5.uncons
  obtain ⟨a6, rfl, w6⟩ := i6.int_inv
  obtain ⟨d7, ds7, rfl, i7, r7⟩ := r6.uncons
  obtain ⟨a7, rfl, w7⟩ := Is.sl_inv (fun n => [D.int .i64 n]) (fun n => (Lit.int .i64 n).wf = true) (fun ds h => by obtain ⟨d, ds, rfl, i, h⟩ := h.uncons; obtain rfl := h.unnil; obtain ⟨n, rfl, w⟩ := i.int_inv; exact ⟨n, rfl, w⟩) i7
  obtain rfl := r7.unnil
  exact ⟨⟨a0, a1, a2, a3, a4, a5, a6, a7⟩, rfl, ⟨w0, w1, w2, w3, w4, w6, w7⟩⟩

structure Log where
  xNext : Int
  xMessages : List Message
deriving DecidableEq

/-- The element's type: true: the program's own, false: the laws'. -/
def Log.e (q : Bool) : TypeId := if q then 53 else 46
def Log.d (q : Bool) (x : Log) : List D := [.int .i64 x.xNext, Message.s q x.xMessages]
def Log.s (q : Bool) (l : List Log) : D := .sl (Log.e q) 2 (l.map (Log.d q))
def Log.wf (x : Log) : Prop := (Lit.int .i64 x.xNext).wf = true ∧ (∀ y ∈ x.xMessages, Message.wf y)
theorem Log.cells {w : World} {Pb : Nat → Prop} {q : Bool} {x : Log} {us : List Value} (h : RoL w Pb (Log.d q x) us) :
    ∃ (A1 : Option Addr) (c1 : Nat), us = [.int .i64 x.xNext, .slice A1 x.xMessages.length c1] ∧ Ro w Pb (Message.s q x.xMessages) (.slice A1 x.xMessages.length c1) ∧ x.xMessages.length ≤ c1 ∧ c1 ≤ maxLen := by
  unfold Log.d at h
  obtain ⟨u0, us0, rfl, h0, r0⟩ := h.uncons
  obtain rfl := h0.int_inv
  obtain ⟨u1, us1, rfl, h1, r1⟩ := r0.uncons
  obtain ⟨A1, c1, rfl, l1, m1⟩ := h1.sl_inv
  simp only [List.length_map] at h1 l1 ⊢
  obtain rfl := r1.unnil
  exact ⟨A1, c1, rfl, h1, l1, m1⟩
theorem Log.owned {w : World} {q : Bool} {x : Log} {us : List Value} {F : Nat → Prop} (h : OwL w (Log.d q x) us F) :
    ∃ (A1 : Option Addr) (c1 : Nat) (F1 : Nat → Prop), us = [.int .i64 x.xNext, .slice A1 x.xMessages.length c1] ∧ Ow w (Message.s q x.xMessages) (.slice A1 x.xMessages.length c1) F1 ∧ x.xMessages.length ≤ c1 ∧ c1 ≤ maxLen ∧ (∀ b, F b ↔ F1 b) := by
  unfold Log.d at h
  obtain ⟨u0, us0, F0, G0, rfl, h0, r0, n0, g0⟩ := h.uncons
  obtain ⟨rfl, z0⟩ := h0.int_inv
  obtain ⟨u1, us1, F1, G1, rfl, h1, r1, n1, g1⟩ := r0.uncons
  obtain ⟨A1, c1, rfl, l1, m1⟩ := h1.shape
  simp only [List.length_map] at h1 l1 ⊢
  obtain ⟨rfl, zz⟩ := r1.unnil
  refine ⟨A1, c1, F1, rfl, h1, l1, m1, fun b => ?_⟩
  · simp [g0, g1, zz, z0]
def Log.ty : List Ty := [.int .i64, .sl 34 8 [.int .i64, .int .i64, .int .i64, .str, .int .i64, .bool, .int .i64, .sl 2 1 [.int .i64]]]
theorem Log.is {ds : List D} (h : IsL Log.ty ds) : ∃ x : Log, ds = Log.d false x ∧ Log.wf x := by
  unfold Log.ty at h
  obtain ⟨d0, ds0, rfl, i0, r0⟩ := h.uncons
  obtain ⟨a0, rfl, w0⟩ := i0.int_inv
  obtain ⟨d1, ds1, rfl, i1, r1⟩ := r0.uncons
  obtain ⟨a1, rfl, w1⟩ := Is.sl_inv (Message.d false) Message.wf (fun ds h => Message.is h) i1
  obtain rfl := r1.unnil
  exact ⟨⟨a0, a1⟩, rfl, ⟨w0, w1⟩⟩

structure Block where
  xBefore : ByteArray
  xDigest : ByteArray
  xFrom : Int
  xCount : Int
  xBody : ByteArray
deriving DecidableEq

/-- The element's type: true: the program's own, false: the laws'. -/
def Block.e (q : Bool) : TypeId := if q then 102 else 102
def Block.d (q : Bool) (x : Block) : List D := [.str x.xBefore, .str x.xDigest, .int .i64 x.xFrom, .int .i64 x.xCount, .str x.xBody]
def Block.s (q : Bool) (l : List Block) : D := .sl (Block.e q) 5 (l.map (Block.d q))
def Block.wf (x : Block) : Prop := x.xBefore.size ≤ maxLen ∧ x.xDigest.size ≤ maxLen ∧ (Lit.int .i64 x.xFrom).wf = true ∧ (Lit.int .i64 x.xCount).wf = true ∧ x.xBody.size ≤ maxLen
theorem Block.cells {w : World} {Pb : Nat → Prop} {q : Bool} {x : Block} {us : List Value} (h : RoL w Pb (Block.d q x) us) :
    us = [.string x.xBefore, .string x.xDigest, .int .i64 x.xFrom, .int .i64 x.xCount, .string x.xBody] := by
  unfold Block.d at h
  obtain ⟨u0, us0, rfl, h0, r0⟩ := h.uncons
  obtain rfl := h0.str_inv
  obtain ⟨u1, us1, rfl, h1, r1⟩ := r0.uncons
  obtain rfl := h1.str_inv
  obtain ⟨u2, us2, rfl, h2, r2⟩ := r1.uncons
  obtain rfl := h2.int_inv
  obtain ⟨u3, us3, rfl, h3, r3⟩ := r2.uncons
  obtain rfl := h3.int_inv
  obtain ⟨u4, us4, rfl, h4, r4⟩ := r3.uncons
  obtain rfl := h4.str_inv
  obtain rfl := r4.unnil
  exact rfl
theorem Block.owned {w : World} {q : Bool} {x : Block} {us : List Value} {F : Nat → Prop} (h : OwL w (Block.d q x) us F) :
    us = [.string x.xBefore, .string x.xDigest, .int .i64 x.xFrom, .int .i64 x.xCount, .string x.xBody] ∧ (∀ b, ¬ F b) := by
  unfold Block.d at h
  obtain ⟨u0, us0, F0, G0, rfl, h0, r0, n0, g0⟩ := h.uncons
  obtain ⟨rfl, z0⟩ := h0.str_inv
  obtain ⟨u1, us1, F1, G1, rfl, h1, r1, n1, g1⟩ := r0.uncons
  obtain ⟨rfl, z1⟩ := h1.str_inv
  obtain ⟨u2, us2, F2, G2, rfl, h2, r2, n2, g2⟩ := r1.uncons
  obtain ⟨rfl, z2⟩ := h2.int_inv
  obtain ⟨u3, us3, F3, G3, rfl, h3, r3, n3, g3⟩ := r2.uncons
  obtain ⟨rfl, z3⟩ := h3.int_inv
  obtain ⟨u4, us4, F4, G4, rfl, h4, r4, n4, g4⟩ := r3.uncons
  obtain ⟨rfl, z4⟩ := h4.str_inv
  obtain ⟨rfl, zz⟩ := r4.unnil
  refine ⟨rfl, fun b hb => ?_⟩
  · simp [g0, g1, g2, g3, g4, zz, z0, z1, z2, z3, z4] at hb
def Block.ty : List Ty := [.str, .str, .int .i64, .int .i64, .str]
theorem Block.is {ds : List D} (h : IsL Block.ty ds) : ∃ x : Block, ds = Block.d false x ∧ Block.wf x := by
  unfold Block.ty at h
  obtain ⟨d0, ds0, rfl, i0, r0⟩ := h.uncons
  obtain ⟨a0, rfl, w0⟩ := i0.str_inv
  obtain ⟨d1, ds1, rfl, i1, r1⟩ := r0.uncons
  obtain ⟨a1, rfl, w1⟩ := i1.str_inv
  obtain ⟨d2, ds2, rfl, i2, r2⟩ := r1.uncons
  obtain ⟨a2, rfl, w2⟩ := i2.int_inv
  obtain ⟨d3, ds3, rfl, i3, r3⟩ := r2.uncons
  obtain ⟨a3, rfl, w3⟩ := i3.int_inv
  obtain ⟨d4, ds4, rfl, i4, r4⟩ := r3.uncons
  obtain ⟨a4, rfl, w4⟩ := i4.str_inv
  obtain rfl := r4.unnil
  exact ⟨⟨a0, a1, a2, a3, a4⟩, rfl, ⟨w0, w1, w2, w3, w4⟩⟩

end Go.Proofs.YtahbgkabdongnaaDoor

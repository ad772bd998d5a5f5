/- The data of the program's structs. -/
import Derived.Test.YtmofbfeclecdoaaDoorInts
import Derived.Test.YtmofbfeclecdoaaDoorArm
import Derived.StillTailTactics
namespace Go.Proofs.YtmofbfeclecdoaaDoor
open Go.ChangeShapes Go.WideShapes Go.ChangeAt Go.RowKit Go.Dt
set_option linter.unusedVariables false
set_option linter.unusedSimpArgs false

structure Move where
  xRoom : Int
  xFrom : Int
  xTo : Int
deriving DecidableEq

/-- The element's type: true: the program's own, false: the laws'. -/
def Move.e (q : Bool) : TypeId := if q then 38 else 38
def Move.d (q : Bool) (x : Move) : List D := [.int .i64 x.xRoom, .int .i64 x.xFrom, .int .i64 x.xTo]
def Move.s (q : Bool) (l : List Move) : D := .sl (Move.e q) 3 (l.map (Move.d q))
def Move.wf (x : Move) : Prop := (Lit.int .i64 x.xRoom).wf = true ∧ (Lit.int .i64 x.xFrom).wf = true ∧ (Lit.int .i64 x.xTo).wf = true
theorem Move.cells {w : World} {Pb : Nat → Prop} {q : Bool} {x : Move} {us : List Value} (h : RoL w Pb (Move.d q x) us) :
    us = [.int .i64 x.xRoom, .int .i64 x.xFrom, .int .i64 x.xTo] := by
  unfold Move.d at h
  obtain ⟨u0, us0, rfl, h0, r0⟩ := h.uncons
  obtain rfl := h0.int_inv
  obtain ⟨u1, us1, rfl, h1, r1⟩ := r0.uncons
  obtain rfl := h1.int_inv
  obtain ⟨u2, us2, rfl, h2, r2⟩ := r1.uncons
  obtain rfl := h2.int_inv
  obtain rfl := r2.unnil
  exact rfl
theorem Move.owned {w : World} {q : Bool} {x : Move} {us : List Value} {F : Nat → Prop} (h : OwL w (Move.d q x) us F) :
    us = [.int .i64 x.xRoom, .int .i64 x.xFrom, .int .i64 x.xTo] ∧ (∀ b, ¬ F b) := by
  unfold Move.d at h
  obtain ⟨u0, us0, F0, G0, rfl, h0, r0, n0, g0⟩ := h.uncons
  obtain ⟨rfl, z0⟩ := h0.int_inv
  obtain ⟨u1, us1, F1, G1, rfl, h1, r1, n1, g1⟩ := r0.uncons
  obtain ⟨rfl, z1⟩ := h1.int_inv
  obtain ⟨u2, us2, F2, G2, rfl, h2, r2, n2, g2⟩ := r1.uncons
  obtain ⟨rfl, z2⟩ := h2.int_inv
  obtain ⟨rfl, zz⟩ := r2.unnil
  refine ⟨rfl, fun b hb => ?_⟩
  · simp [g0, g1, g2, zz, z0, z1, z2] at hb
def Move.ty : List Ty := [.int .i64, .int .i64, .int .i64]
theorem Move.is {ds : List D} (h : IsL Move.ty ds) : ∃ x : Move, ds = Move.d false x ∧ Move.wf x := by
  unfold Move.ty at h
  obtain ⟨d0, ds0, rfl, i0, r0⟩ := h.uncons
  obtain ⟨a0, rfl, w0⟩ := i0.int_inv
  obtain ⟨d1, ds1, rfl, i1, r1⟩ := r0.uncons
  obtain ⟨a1, rfl, w1⟩ := i1.int_inv
  obtain ⟨d2, ds2, rfl, i2, r2⟩ := r1.uncons
  obtain ⟨a2, rfl, w2⟩ := i2.int_inv
  obtain rfl := r2.unnil
  exact ⟨⟨a0, a1, a2⟩, rfl, ⟨w0, w1, w2⟩⟩

structure Home where
  xRoom : Int
  xShard : Int
deriving DecidableEq

/-- The element's type: true: the program's own, false: the laws'. -/
def Home.e (q : Bool) : TypeId := if q then 40 else 40
def Home.d (q : Bool) (x : Home) : List D := [.int .i64 x.xRoom, .int .i64 x.xShard]
def Home.s (q : Bool) (l : List Home) : D := .sl (Home.e q) 2 (l.map (Home.d q))
def Home.wf (x : Home) : Prop := (Lit.int .i64 x.xRoom).wf = true ∧ (Lit.int .i64 x.xShard).wf = true
theorem Home.cells {w : World} {Pb : Nat → Prop} {q : Bool} {x : Home} {us : List Value} (h : RoL w Pb (Home.d q x) us) :
    us = [.int .i64 x.xRoom, .int .i64 x.xShard] := by
  unfold Home.d at h
  obtain ⟨u0, us0, rfl, h0, r0⟩ := h.uncons
  obtain rfl := h0.int_inv
  obtain ⟨u1, us1, rfl, h1, r1⟩ := r0.uncons
  obtain rfl := h1.int_inv
  obtain rfl := r1.unnil
  exact rfl
theorem Home.owned {w : World} {q : Bool} {x : Home} {us : List Value} {F : Nat → Prop} (h : OwL w (Home.d q x) us F) :
    us = [.int .i64 x.xRoom, .int .i64 x.xShard] ∧ (∀ b, ¬ F b) := by
  unfold Home.d at h
  obtain ⟨u0, us0, F0, G0, rfl, h0, r0, n0, g0⟩ := h.uncons
  obtain ⟨rfl, z0⟩ := h0.int_inv
  obtain ⟨u1, us1, F1, G1, rfl, h1, r1, n1, g1⟩ := r0.uncons
  obtain ⟨rfl, z1⟩ := h1.int_inv
  obtain ⟨rfl, zz⟩ := r1.unnil
  refine ⟨rfl, fun b hb => ?_⟩
  · simp [g0, g1, zz, z0, z1] at hb
def Home.ty : List Ty := [.int .i64, .int .i64]
theorem Home.is {ds : List D} (h : IsL Home.ty ds) : ∃ x : Home, ds = Home.d false x ∧ Home.wf x := by
  unfold Home.ty at h
  obtain ⟨d0, ds0, rfl, i0, r0⟩ := h.uncons
  obtain ⟨a0, rfl, w0⟩ := i0.int_inv
  obtain ⟨d1, ds1, rfl, i1, r1⟩ := r0.uncons
  obtain ⟨a1, rfl, w1⟩ := i1.int_inv
  obtain rfl := r1.unnil
  exact ⟨⟨a0, a1⟩, rfl, ⟨w0, w1⟩⟩

end Go.Proofs.YtmofbfeclecdoaaDoor

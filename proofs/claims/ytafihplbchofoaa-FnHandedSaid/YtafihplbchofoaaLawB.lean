/- What the walks of the laws need where a call of several structs draws its order. -/
import Derived.Test.YtafihplbchofoaaGain
import Derived.Test.YtafihplbchofoaaLaw
import Derived.Deep.DeepCutAuto
namespace Go.Proofs.Ytafihplbchofoaa
open Go.ChangeShapes Go.WideShapes Go.ChangeAt Go.RowKit Go.Dt
set_option linter.unusedVariables false
/-- From block B on, and there. -/
abbrev Fr (B : Nat) (w : World) : Nat → Prop := fun b => B ≤ b ∧ b < w.heap.size
theorem Ow.fresh {w : World} {d : D} {v : Value} {F : Nat → Prop} {B : Nat} (h : Ow w d v F) (hl : ∀ b, F b → B ≤ b) : Ro w (Fr B w) d v := h.ro.mono fun b hb => ⟨hl b hb, h.lt b hb⟩
theorem OwL.fresh {w : World} {ds : List D} {us : List Value} {F : Nat → Prop} {B : Nat} (h : OwL w ds us F) (hl : ∀ b, F b → B ≤ b) : RoL w (Fr B w) ds us := h.ro.mono fun b hb => ⟨hl b hb, h.lt b hb⟩
theorem RoL.fresh_lo {w : World} {ds : List D} {us : List Value} {B : Nat} (h : RoL w (Fr B w) ds us) : RoL w (Lo w.heap.size) ds us := h.mono fun b hb => hb.2
variable {C v v' wx : World} {B p : Nat} {T : TypeId} {ds : List D} {us : List Value} {cs : Array Value} {F : Nat → Prop} {ss : List (Option (D × Value × (Nat → Prop)))} {g : Option (Nat × Array Value × TypeId)}
theorem Gain.go (hb : Below v.heap.size v v') (h : Gain C B v ss g) : Gain C B v' ss g := h.step hb
theorem Gain.bxlt (hb : Below v.heap.size v v') (h : Gain C B v ss (some (p, cs, T))) : p < v.heap.size := h.bx.lt
theorem Gain.leq (hb : Below v.heap.size v v') (h : Gain C B v ss g) : B ≤ v.heap.size := h.le
def DrS (C : World) (T : TypeId) (ds : List D) (p : Nat) (us : List Value) (cs : Array Value) (wx : World) : Prop := Gain C C.heap.size wx [] (some (p, cs, T)) ∧ RoL wx (fun b => b ≠ p ∧ b < wx.heap.size) ds us
def DrI (C : World) (T : TypeId) (ds : List D) (p : Nat) (us : List Value) (cs : Array Value) (F : Nat → Prop) (wx : World) : Prop := Gain C C.heap.size wx [] (some (p, cs, T)) ∧ OwL wx ds us F ∧ ∀ b, F b → C.heap.size ≤ b ∧ b ≠ p
theorem DrS.new (hA : Gain C C.heap.size v [] none) (h : RoL v (Fr B v) ds us) : DrS C T ds v.heap.size us us.toArray (v.alloc (.cells us.toArray T)) :=
  ⟨hA.alloc _ _, (h.stays (w' := v.alloc (.cells us.toArray T)) fun b hb => Below.heap_alloc v _ b hb.2).mono fun b hb => ⟨Nat.ne_of_lt hb.2, by simp; omega⟩⟩
theorem DrS.start (hA : Gain C C.heap.size v [] (some (p, cs, T))) (h : RoL v (Fr B v) ds us) (hp : p < B) : DrS C T ds p us cs v :=
  ⟨hA, h.mono fun b hb => ⟨by have := hb.1; omega, hb.2⟩⟩
theorem DrS.put (h : DrS C T ds p us cs wx) (j : Nat) (u : Value) : DrS C T ds p us (cs.setIfInBounds j u) (wx.setCell ⟨p, j, none⟩ u) :=
  ⟨h.1.put j u, (h.2.stays (w' := wx.setCell ⟨p, j, none⟩ u) fun b hb => Below.heap_setCell wx ⟨p, j, none⟩ u b hb.1).mono fun b hb => ⟨hb.1, by simpa [World.setCell] using hb.2⟩⟩
theorem DrS.is {cs' : Array Value} (h : DrS C T ds p us cs wx) (e : cs = cs') : DrS C T ds p us cs' wx := e ▸ h
theorem DrI.new (hA : Gain C C.heap.size v [] none) (h : OwL v ds us F) (hl : ∀ b, F b → B ≤ b) (hB : C.heap.size ≤ B) : DrI C T ds v.heap.size us us.toArray F (v.alloc (.cells us.toArray T)) :=
  ⟨hA.alloc _ _, h.alloc _, fun b hb => ⟨by have := hl b hb; omega, by have := h.lt b hb; omega⟩⟩
theorem DrI.start (hA : Gain C C.heap.size v [] (some (p, cs, T))) (h : OwL v ds us F) (hl : ∀ b, F b → B ≤ b) (hB : C.heap.size ≤ B) (hp : p < B) : DrI C T ds p us cs F v :=
  ⟨hA, h, fun b hb => ⟨by have := hl b hb; omega, by have := hl b hb; omega⟩⟩
theorem DrI.put (h : DrI C T ds p us cs F wx) (j : Nat) (u : Value) : DrI C T ds p us (cs.setIfInBounds j u) F (wx.setCell ⟨p, j, none⟩ u) :=
  ⟨h.1.put j u, h.2.1.stays (fun b hb => Below.heap_setCell wx ⟨p, j, none⟩ u b (h.2.2 b hb).2), h.2.2⟩
theorem DrI.is {cs' : Array Value} (h : DrI C T ds p us cs F wx) (e : cs = cs') : DrI C T ds p us cs' F wx := e ▸ h
end Go.Proofs.Ytafihplbchofoaa

/- What a region in drawn order has gathered: owned results and a new block, all apart. -/
import Derived.Test.YtafihplbchofoaaCloneD
namespace Go.Proofs.Ytafihplbchofoaa
open Go.ChangeShapes Go.WideShapes Go.ChangeAt Go.RowKit Go.Dt
set_option linter.unusedVariables false
set_option linter.unusedSimpArgs false
/-- Since w0 nothing below B has changed; each entry is owned, at or above B, apart from the others and from the block g. -/
structure Gain (w0 : World) (B : Nat) (w : World) (ss : List (Option (D × Value × (Nat → Prop)))) (g : Option (Nat × Array Value × TypeId)) : Prop where
  below : Below B w0 w
  le : B ≤ w.heap.size
  own : ∀ (i : Nat) (d : D) (v : Value) (F : Nat → Prop), ss[i]? = some (some (d, v, F)) → Ow w d v F ∧ ∀ b, F b → B ≤ b
  apart : ∀ (i j : Nat) (d : D) (v : Value) (F : Nat → Prop) (d' : D) (v' : Value) (F' : Nat → Prop), i ≠ j → ss[i]? = some (some (d, v, F)) → ss[j]? = some (some (d', v', F')) → ∀ b, F b → ¬ F' b
  box : ∀ b cs t, g = some (b, cs, t) → Bx w b cs t ∧ B ≤ b ∧ ∀ (i : Nat) (d : D) (v : Value) (F : Nat → Prop), ss[i]? = some (some (d, v, F)) → ¬ F b
variable {w0 w w' : World} {B : Nat} {ss : List (Option (D × Value × (Nat → Prop)))} {g : Option (Nat × Array Value × TypeId)}
theorem Gain.start (hb : Below B w0 w) (hB : B ≤ w.heap.size) (hs : ∀ (i : Nat) e, ss[i]? = some e → e = none) : Gain w0 B w ss none :=
  ⟨hb, hB, fun i d v F h => (by cases hs i _ h), fun i j d v F d' v' F' _ h => (by cases hs i _ h), fun b cs t h => (by cases h)⟩
theorem Gain.step (h : Gain w0 B w ss g) (hb : Below w.heap.size w w') : Gain w0 B w' ss g :=
  ⟨h.below.trans (hb.mono h.le), Nat.le_trans h.le hb.size, fun i d v F e => ⟨(h.own i d v F e).1.keep hb, (h.own i d v F e).2⟩, h.apart, fun b cs t e => ⟨(h.box b cs t e).1.below hb (h.box b cs t e).1.lt, (h.box b cs t e).2⟩⟩
theorem Gain.drew (h : Gain w0 B w ss g) : Gain w0 B w.drew ss g := h.step (below_drew1 w)
theorem Gain.alloc0 (h : Gain w0 B w ss g) (o : Obj) : Gain w0 B (w.alloc o) ss g := h.step ((Below.refl _ _).alloc (Nat.le_refl _) _)
theorem Gain.alloc (h : Gain w0 B w ss none) (cs : Array Value) (t : TypeId) : Gain w0 B (w.alloc (.cells cs t)) ss (some (w.heap.size, cs, t)) :=
  have k := h.alloc0 (.cells cs t)
  ⟨k.below, k.le, k.own, k.apart, fun b cs' t' e => by
    injection e with e; injection e with e1 e2; injection e2 with e2 e3
    subst e1; subst e2; subst e3
    exact ⟨Bx.new _ _ _, h.le, fun i d v F e hF => Nat.lt_irrefl _ ((h.own i d v F e).1.lt _ hF)⟩⟩
theorem Gain.alloc_drew (h : Gain w0 B w ss none) (cs : Array Value) (t : TypeId) : Gain w0 B (w.drew.alloc (.cells cs t)) ss (some (w.heap.size, cs, t)) := h.drew.alloc cs t
theorem Gain.call (i : Nat) {d : D} {v : Value} {F : Nat → Prop} (hb : Below w.heap.size w w') (hO : Ow w' d v F) (hF : ∀ b, F b → w.heap.size ≤ b) (h : Gain w0 B w ss g) : Gain w0 B w' (ss.set i (some (d, v, F))) g := by
  have k := h.step hb
  have hs : ∀ (j : Nat) d' v' F', (ss.set i (some (d, v, F)))[j]? = some (some (d', v', F')) → (j = i ∧ d' = d ∧ v' = v ∧ F' = F) ∨ (j ≠ i ∧ ss[j]? = some (some (d', v', F'))) := by
    intro j d' v' F' e
    rw [List.getElem?_set] at e
    split at e
    · rename_i hij
      split at e
      · simp only [Option.some.injEq, Prod.mk.injEq] at e
        exact .inl ⟨hij.symm, e.1.symm, e.2.1.symm, e.2.2.symm⟩
      · cases e
    · rename_i hij
      exact .inr ⟨fun a => hij a.symm, e⟩
  refine ⟨k.below, k.le, ?_, ?_, ?_⟩
  · intro j d' v' F' e
    rcases hs j d' v' F' e with ⟨rfl, rfl, rfl, rfl⟩ | ⟨_, e⟩
    · exact ⟨hO, fun b hb => Nat.le_trans h.le (hF b hb)⟩
    · exact k.own j _ _ _ e
  · intro j j' d1 v1 F1 d2 v2 F2 hj e1 e2 b h1 h2
    rcases hs _ _ _ _ e1 with ⟨rfl, rfl, rfl, rfl⟩ | ⟨_, k1⟩ <;> rcases hs _ _ _ _ e2 with ⟨rfl, rfl, rfl, rfl⟩ | ⟨_, k2⟩
    · exact hj rfl
    · exact Nat.lt_irrefl _ (Nat.lt_of_le_of_lt (hF b h1) ((h.own _ _ _ _ k2).1.lt b h2))
    · exact Nat.lt_irrefl _ (Nat.lt_of_le_of_lt (hF b h2) ((h.own _ _ _ _ k1).1.lt b h1))
    · exact h.apart _ _ _ _ _ _ _ _ hj k1 k2 b h1 h2
  · intro b cs t e
    obtain ⟨a1, a2, a3⟩ := k.box b cs t e
    refine ⟨a1, a2, fun j d' v' F' e' hf => ?_⟩
    rcases hs _ _ _ _ e' with ⟨rfl, rfl, rfl, rfl⟩ | ⟨_, e'⟩
    · exact Nat.lt_irrefl _ (Nat.lt_of_le_of_lt (hF b hf) (h.box b cs t e).1.lt)
    · exact a3 _ _ _ _ e' hf
theorem Gain.bx {b : Nat} {cs : Array Value} {t : TypeId} (h : Gain w0 B w ss (some (b, cs, t))) : Bx w b cs t := (h.box b cs t rfl).1
theorem Gain.put {b : Nat} {cs : Array Value} {t : TypeId} (h : Gain w0 B w ss (some (b, cs, t))) (j : Nat) (u : Value) : Gain w0 B (w.setCell ⟨b, j, none⟩ u) ss (some (b, cs.setIfInBounds j u, t)) := by
  obtain ⟨a1, a2, a3⟩ := h.box b cs t rfl
  refine ⟨h.below.setCell (p := ⟨b, j, none⟩) a2 u, by simpa [World.setCell] using h.le, fun i d v F e => ⟨(h.own i d v F e).1.far (p := ⟨b, j, none⟩) (a3 i d v F e) u, (h.own i d v F e).2⟩, h.apart, fun b' cs' t' e => ?_⟩
  injection e with e; injection e with e1 e2; injection e2 with e2 e3
  subst e1; subst e2; subst e3
  exact ⟨a1.put j u, a2, a3⟩
theorem Gain.is {b : Nat} {cs cs' : Array Value} {t : TypeId} (h : Gain w0 B w ss (some (b, cs, t))) (e : cs = cs') : Gain w0 B w ss (some (b, cs', t)) := e ▸ h
theorem Gain.far {p : Addr} (h : Gain w0 B w ss g) (hp : B ≤ p.block) (h1 : ∀ (i : Nat) (d : D) (v : Value) (F : Nat → Prop), ss[i]? = some (some (d, v, F)) → ¬ F p.block) (h2 : ∀ b cs t, g = some (b, cs, t) → b ≠ p.block) (u : Value) : Gain w0 B (w.setCell p u) ss g :=
  ⟨h.below.setCell hp u, by simpa [World.setCell] using h.le, fun i d v F e => ⟨(h.own i d v F e).1.far (h1 i d v F e) u, (h.own i d v F e).2⟩, h.apart, fun b cs t e => ⟨(h.box b cs t e).1.far (h2 b cs t e) u, (h.box b cs t e).2⟩⟩
/-- An entry is exchanged: its blocks alone are turned; what is new is above. -/
theorem Gain.turn (i : Nat) {d d' : D} {v v' : Value} {F F' : Nat → Prop} (h : Gain w0 B w ss g) (hi : ss[i]? = some (some (d, v, F))) (hk : Kp F w w') (hO : Ow w' d' v' F') (hF : ∀ b, F' b → F b ∨ w.heap.size ≤ b) : Gain w0 B w' (ss.set i (some (d', v', F'))) g := by
  obtain ⟨hO0, hF0⟩ := h.own i _ _ _ hi
  have hs : ∀ (j : Nat) d1 v1 F1, (ss.set i (some (d', v', F')))[j]? = some (some (d1, v1, F1)) → (j = i ∧ d1 = d' ∧ v1 = v' ∧ F1 = F') ∨ (j ≠ i ∧ ss[j]? = some (some (d1, v1, F1))) := by
    intro j d1 v1 F1 e
    rw [List.getElem?_set] at e
    split at e
    · rename_i hij
      split at e
      · simp only [Option.some.injEq, Prod.mk.injEq] at e
        exact .inl ⟨hij.symm, e.1.symm, e.2.1.symm, e.2.2.symm⟩
      · cases e
    · rename_i hij
      exact .inr ⟨fun a => hij a.symm, e⟩
  refine ⟨h.below.trans (hk.below h.le hF0), Nat.le_trans h.le hk.size, ?_, ?_, ?_⟩
  · intro j d1 v1 F1 e
    rcases hs j _ _ _ e with ⟨rfl, rfl, rfl, rfl⟩ | ⟨hj, e⟩
    · exact ⟨hO, fun b hb => (hF b hb).elim (hF0 b) (fun a => Nat.le_trans h.le a)⟩
    · exact ⟨(h.own j _ _ _ e).1.kp hk (h.apart j i _ _ _ _ _ _ hj e hi), (h.own j _ _ _ e).2⟩
  · intro j j' d1 v1 F1 d2 v2 F2 hj e1 e2 b h1 h2
    rcases hs _ _ _ _ e1 with ⟨rfl, rfl, rfl, rfl⟩ | ⟨hj1, k1⟩ <;> rcases hs _ _ _ _ e2 with ⟨rfl, rfl, rfl, rfl⟩ | ⟨hj2, k2⟩
    · exact hj rfl
    · rcases hF b h1 with a | a
      · exact h.apart _ _ _ _ _ _ _ _ hj hi k2 b a h2
      · exact Nat.lt_irrefl _ (Nat.lt_of_le_of_lt a ((h.own _ _ _ _ k2).1.lt b h2))
    · rcases hF b h2 with a | a
      · exact h.apart _ _ _ _ _ _ _ _ hj k1 hi b h1 a
      · exact Nat.lt_irrefl _ (Nat.lt_of_le_of_lt a ((h.own _ _ _ _ k1).1.lt b h1))
    · exact h.apart _ _ _ _ _ _ _ _ hj k1 k2 b h1 h2
  · intro b cs t e
    obtain ⟨a1, a2, a3⟩ := h.box b cs t e
    refine ⟨a1.kp hk (a3 _ _ _ _ hi), a2, fun j d1 v1 F1 e' hf => ?_⟩
    rcases hs _ _ _ _ e' with ⟨rfl, rfl, rfl, rfl⟩ | ⟨_, e'⟩
    · rcases hF b hf with a | a
      · exact a3 _ _ _ _ hi a
      · exact Nat.lt_irrefl _ (Nat.lt_of_le_of_lt a a1.lt)
    · exact a3 _ _ _ _ e' hf
end Go.Proofs.Ytafihplbchofoaa

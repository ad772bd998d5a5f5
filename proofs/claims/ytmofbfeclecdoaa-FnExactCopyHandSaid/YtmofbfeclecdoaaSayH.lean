/- Hands: what says into one. -/
import Derived.Test.YtmofbfeclecdoaaSFin
import Derived.Deep.DeepCutAuto
import Derived.BigQuiet
namespace Go.Proofs.Ytmofbfeclecdoaa
open Go.ChangeShapes Go.WideShapes Go.ChangeAt Go.RowKit Go.Dt
set_option linter.unusedVariables false
set_option linter.unusedSimpArgs false
/-- An entry and the box are exchanged: their blocks alone are turned. -/
theorem Gain.turnBox {w0 w w' : World} {B g : Nat} {ss : List (Option (D × Value × (Nat → Prop)))} {cs cs' : Array Value} {t : TypeId} (i : Nat) {d d' : D} {v v' : Value} {F F' : Nat → Prop} (h : Gain w0 B w ss (some (g, cs, t))) (hi : ss[i]? = some (some (d, v, F))) (hk : Kp (fun b => b = g ∨ F b) w w') (hO : Ow w' d' v' F') (hF : ∀ b, F' b → F b ∨ w.heap.size ≤ b) (hx : Bx w' g cs' t) : Gain w0 B w' (ss.set i (some (d', v', F'))) (some (g, cs', t)) := by
  obtain ⟨hO0, hF0⟩ := h.own i _ _ _ hi
  obtain ⟨a1, a2, a3⟩ := h.box _ _ _ rfl
  have hs : ∀ (j : Nat) d1 v1 F1, (ss.set i (some (d', v', F')))[j]? = some (some (d1, v1, F1)) → (j = i ∧ d1 = d' ∧ v1 = v' ∧ F1 = F') ∨ (j ≠ i ∧ ss[j]? = some (some (d1, v1, F1))) := by
    intro j d1 v1 F1 e
    rw [List.getElem?_set] at e
    split at e
    · rename_i hij
      split at e
      · simp only [Option.some.injEq, Prod.mk.injEq] at e
        exact .inl ⟨hij.symm, e.1.symm, e.2.1.symm, e.2.2.symm⟩
      · cases e
    · rename_i hij
      exact .inr ⟨fun a => hij a.symm, e⟩
  refine ⟨h.below.trans (hk.below h.le (fun b hb => hb.elim (fun e => e ▸ a2) (hF0 b))), Nat.le_trans h.le hk.size, ?_, ?_, ?_⟩
  · intro j d1 v1 F1 e
    rcases hs j _ _ _ e with ⟨rfl, rfl, rfl, rfl⟩ | ⟨hj, e⟩
    · exact ⟨hO, fun b hb => (hF b hb).elim (hF0 b) (fun a => Nat.le_trans h.le a)⟩
    · exact ⟨(h.own j _ _ _ e).1.kp hk (fun b hb hn => hn.elim (fun e' => a3 j _ _ _ e (e' ▸ hb)) (h.apart j i _ _ _ _ _ _ hj e hi b hb)), (h.own j _ _ _ e).2⟩
  · intro j j' d1 v1 F1 d2 v2 F2 hj e1 e2 b h1 h2
    rcases hs _ _ _ _ e1 with ⟨rfl, rfl, rfl, rfl⟩ | ⟨hj1, k1⟩ <;> rcases hs _ _ _ _ e2 with ⟨rfl, rfl, rfl, rfl⟩ | ⟨hj2, k2⟩
    · exact hj rfl
    · rcases hF b h1 with a | a
      · exact h.apart _ _ _ _ _ _ _ _ hj hi k2 b a h2
      · exact Nat.lt_irrefl _ (Nat.lt_of_le_of_lt a ((h.own _ _ _ _ k2).1.lt b h2))
    · rcases hF b h2 with a | a
      · exact h.apart _ _ _ _ _ _ _ _ hj k1 hi b h1 a
      · exact Nat.lt_irrefl _ (Nat.lt_of_le_of_lt a ((h.own _ _ _ _ k1).1.lt b h1))
    · exact h.apart _ _ _ _ _ _ _ _ hj k1 k2 b h1 h2
  · intro b cs1 t1 e
    injection e with e; injection e with e1 e2; injection e2 with e2 e3
    subst e1; subst e2; subst e3
    refine ⟨hx, a2, fun j d1 v1 F1 e' hf => ?_⟩
    rcases hs _ _ _ _ e' with ⟨rfl, rfl, rfl, rfl⟩ | ⟨_, e'⟩
    · rcases hF _ hf with a | a
      · exact a3 _ _ _ _ hi a
      · exact Nat.lt_irrefl _ (Nat.lt_of_le_of_lt a a1.lt)
    · exact a3 _ _ _ _ e' hf
end Go.Proofs.Ytmofbfeclecdoaa

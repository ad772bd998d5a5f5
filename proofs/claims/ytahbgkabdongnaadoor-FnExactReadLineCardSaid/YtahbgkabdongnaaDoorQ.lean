/- Regions that draw their order and whose operations only read, next to calls that make memory: one walk in the order of the text, in every world that is as it was below a block. -/
import Derived.Test.YtahbgkabdongnaaDoorOw
import Derived.Deep.QuietTactic
import Derived.BigQuiet
namespace Go.Dt
open Go.RowKit Go.Deep
/-- A world that is as W was below B. -/
structure After (B : Nat) (W : World) where
  w : World
  b : Below B W w
instance (B : Nat) (W : World) : Nonempty (After B W) := ⟨⟨W, Below.refl _ _⟩⟩
theorem After.cells (B : Nat) (W : World) : (∀ (x : After B W) (b o : Nat), b < B → x.w.cell? ⟨b, o, none⟩ = W.cell? ⟨b, o, none⟩) ∧ (∀ (x : After B W) (b o : Nat), b < B → x.w.frozen? ⟨b, o, none⟩ = W.frozen? ⟨b, o, none⟩) :=
  ⟨fun x b o h => x.b.cell (p := ⟨b, o, none⟩) h, fun x b o h => x.b.frozen (p := ⟨b, o, none⟩) h⟩
section
variable {P : Program} {B : Nat} {W : World} {f : FuncId} {args : Array Value} {v : Value}
theorem wp_region_after {id : Nat} {Q : Exit → Act → World → Prop} {a : Act} {l : List Oper} (B : Nat) (hm : P.follows .mixedOrders = true) (hB : Region.lexB .any l.toArray = true)
    (h : wpQuiet P l.toArray (fun w' => ∃ x : After B W, w' = x.w) (fun a' => ∀ w', Below B W w' → Q .normal a' w') l a) : (Code.region id l.toArray true).wp P Q a W :=
  wp_region_quiet (C := fun w' => ∃ x : After B W, w' = x.w) hm hB ⟨⟨{ W with drawn := W.drawn + 1 }, rfl, rfl, rfl, Nat.le_refl _, fun _ _ => rfl⟩, rfl⟩ (by
    have e : (fun a' => ∀ w', (∃ x : After B W, w' = x.w) → Q .normal a' w') = (fun a' => ∀ w', Below B W w' → Q .normal a' w') := by
      funext a'
      exact propext ⟨fun h w' hb => h w' ⟨⟨w', hb⟩, rfl⟩, fun h w' ⟨x, hx⟩ => hx ▸ h x.w x.b⟩
    rw [e]
    simpa using h)
/-- What follows, in every world of which this is known. -/
theorem wp_any {c : Code} {Q : Exit → Act → World → Prop} {a : Act} {w : World} (R : World → Prop) (hR : R w) (h : ∀ w', R w' → c.wp P Q a w') : c.wp P Q a w := h w hR
/-- Behind a box of one's own. -/
theorem box_after {W wr : World} {cs : Array Value} {t : TypeId} (h : Below (W.heap.size + 1) (W.alloc (.cells cs t)) wr) :
    (∀ (j : Nat) (u : Value), cs[j]? = some u → wr.cell? ⟨W.heap.size, j, none⟩ = some u) ∧ Below W.heap.size W wr ∧ W.heap.size < wr.heap.size := by
  refine ⟨fun j u hu => ?_, ((Below.refl _ _).alloc (Nat.le_refl _) _).trans (h.mono (Nat.le_succ _)), by have := h.size; simp at this; omega⟩
  rw [h.cell (p := ⟨W.heap.size, j, none⟩) (Nat.lt_succ_self _), cell_of_row _ _ _ _ _ _ (heap_alloc_new W _)]
  exact hu
/-- A callee that makes memory alone. -/
theorem Calls.after {x : After B W} (hB : B ≤ W.heap.size) (h : Calls P f args x.w fun e w' => e = .returned v ∧ Below x.w.heap.size x.w w') : Calls P f args x.w fun e w'' => e = .returned v ∧ ∃ y : After B W, w'' = y.w :=
  h.mono fun _ w' ⟨he, hb⟩ => ⟨he, ⟨w', x.b.trans (hb.mono (Nat.le_trans hB x.b.size))⟩, rfl⟩
theorem Calls.after_same {x : After B W} (h : Calls P f args x.w fun e w' => e = .returned v ∧ x.w = w') : Calls P f args x.w fun e w'' => e = .returned v ∧ ∃ y : After B W, w'' = y.w :=
  h.mono fun _ _ ⟨he, hb⟩ => ⟨he, x, hb.symm⟩
theorem Calls.after_same' {x : After B W} (h : Calls P f args x.w fun e w' => e = .returned v ∧ w' = x.w) : Calls P f args x.w fun e w'' => e = .returned v ∧ ∃ y : After B W, w'' = y.w :=
  h.mono fun _ _ ⟨he, hb⟩ => ⟨he, x, hb⟩
theorem Calls.after_drew {x : After B W} (h : Calls P f args x.w fun e w' => e = .returned v ∧ ∃ m, w' = x.w.drewN m) : Calls P f args x.w fun e w'' => e = .returned v ∧ ∃ y : After B W, w'' = y.w :=
  h.mono fun _ _ ⟨he, m, hb⟩ => ⟨he, ⟨x.w.drewN m, below_drewN x.b m⟩, hb⟩
theorem Calls.quiet_eq {w : World} {n : Nat} (h : Calls P f args (w.drewN n) fun e w' => e = .returned v ∧ w.drewN n = w') : Calls P f args (w.drewN n) fun e w'' => e = .returned v ∧ ∃ m, w'' = w.drewN m :=
  h.mono fun _ _ ⟨he, hb⟩ => ⟨he, n, hb.symm⟩
/-- What only reads or draws, makes no more than memory. -/
theorem Calls.below_same {W : World} (h : Calls P f args W fun e w' => e = .returned v ∧ W = w') : Calls P f args W fun e w' => e = .returned v ∧ Below W.heap.size W w' :=
  h.mono fun _ _ ⟨he, hb⟩ => ⟨he, hb ▸ Below.refl _ _⟩
theorem Calls.below_same' {W : World} (h : Calls P f args W fun e w' => e = .returned v ∧ w' = W) : Calls P f args W fun e w' => e = .returned v ∧ Below W.heap.size W w' :=
  h.mono fun _ _ ⟨he, hb⟩ => ⟨he, hb ▸ Below.refl _ _⟩
theorem Calls.below_drew {W : World} (h : Calls P f args W fun e w' => e = .returned v ∧ ∃ m, w' = W.drewN m) : Calls P f args W fun e w' => e = .returned v ∧ Below W.heap.size W w' :=
  h.mono fun _ _ ⟨he, m, hb⟩ => ⟨he, hb ▸ below_drewN (Below.refl _ _) m⟩
end
end Go.Dt

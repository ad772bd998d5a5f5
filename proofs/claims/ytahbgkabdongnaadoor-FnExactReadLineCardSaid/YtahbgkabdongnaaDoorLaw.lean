/- What the walks of the laws need: what is kept from world to world. -/
import Derived.Test.YtahbgkabdongnaaDoorInts
namespace Go.Dt
open Go.ChangeShapes Go.WideShapes Go.ChangeAt Go.RowKit
theorem bx_keep {F : Nat → Prop} {w w' : World} {b o : Nat} {v : Option Value} (h : w.cell? ⟨b, o, none⟩ = v) (hk : Kp F w w') (hb : b < w.heap.size) (hn : ¬ F b) : w'.cell? ⟨b, o, none⟩ = v := ((kcell hk).1 b o hb hn).trans h
theorem bx_new (w : World) (cs : Array Value) (t : TypeId) (o : Nat) (v : Value) (h : cs[o]? = some v) : (w.alloc (.cells cs t)).cell? ⟨w.heap.size, o, none⟩ = some v := by
  rw [cell_of_row _ _ _ _ _ _ (heap_alloc_new w _)]; exact h
theorem rol_keep {F : Nat → Prop} {w w' : World} {B : Nat} {ds : List D} {us : List Value} (h : RoL w (Lo B) ds us) (hk : Kp F w w') (hB : B ≤ w.heap.size) (hn : ∀ b, F b → B ≤ b) : RoL w' (Lo B) ds us :=
  h.stays fun b hb => hk.block b (by simp only [Lo] at hb; omega) fun hf => by have := hn b hf; simp only [Lo] at hb; omega
theorem ro_keep {F : Nat → Prop} {w w' : World} {B : Nat} {d : D} {v : Value} (h : Ro w (Lo B) d v) (hk : Kp F w w') (hB : B ≤ w.heap.size) (hn : ∀ b, F b → B ≤ b) : Ro w' (Lo B) d v :=
  h.stays fun b hb => hk.block b (by simp only [Lo] at hb; omega) fun hf => by have := hn b hf; simp only [Lo] at hb; omega
/-- What a call that only makes memory keeps. -/
theorem Kp.of_below0 {w w' : World} (h : Below w.heap.size w w') : Kp (fun _ => False) w w' := Kp.of_below h
theorem Kp.alloc0 (w : World) (o : Obj) : Kp (fun _ => False) w (w.alloc o) := Kp.alloc1 _ w o
theorem Kp.drew0 (w : World) : Kp (fun _ => False) w w.drew := ⟨rfl, rfl, rfl, Nat.le_refl _, fun _ _ _ => rfl⟩
theorem Ro.sl_max {w : World} {Pb : Nat → Prop} {e : TypeId} {sz : Nat} {rows : List (List D)} {A : Option Addr} {n c : Nat} (h : Ro w Pb (.sl e sz rows) (.slice A n c)) : c ≤ maxLen := by
  obtain ⟨A', c', hv, _, hm⟩ := h.sl_inv
  injection hv with _ _ hc
  omega
theorem Ro.sl_cap {w : World} {Pb : Nat → Prop} {e : TypeId} {sz : Nat} {rows : List (List D)} {A : Option Addr} {n c : Nat} (h : Ro w Pb (.sl e sz rows) (.slice A n c)) : n ≤ c := by
  obtain ⟨A', c', hv, hl, _⟩ := h.sl_inv
  injection hv with _ hn hc
  omega
theorem Kp.size_le {F : Nat → Prop} {w w' : World} (h : Kp F w w') : w.heap.size ≤ w'.heap.size := h.size
end Go.Dt

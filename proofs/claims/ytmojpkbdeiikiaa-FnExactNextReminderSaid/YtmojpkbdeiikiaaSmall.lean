/- The walks of small functions on numbers: bounds, simulations, reminders. -/
import Derived.Test.YtmojpkbdeiikiaaProg
import Derived.Test.YtmojpkbdeiikiaaDt
namespace Go.Proofs.Ytmojpkbdeiikiaa
open Go.ChangeShapes Go.WideShapes Go.ChangeAt Go.RowKit Go.Dt

def inB (n lo hi : Int) : Bool := decide (lo ≤ n) && decide (n ≤ hi)
theorem impl_in (n lo hi : Int) (w : World) :
    Calls Try.prog 92 #[.int .i64 n, .int .i64 lo, .int .i64 hi] w fun e w' => e = .returned (.bool (inB n lo hi)) ∧ w = w' := by
  unfold inB
  by_cases h1 : lo ≤ n <;> by_cases h2 : n ≤ hi
  all_goals
    go_enter Try.func92, Try.ntmps92
    go_wp2
    all_goals (go_ret; exact ⟨by simp [*], rfl⟩)
theorem spec_l00In (n lo hi : Int) (w : World) :
    Calls Try.prog 112 #[.int .i64 n, .int .i64 lo, .int .i64 hi] w fun e w' => e = .returned (.bool (inB n lo hi)) ∧ w = w' := by
  unfold inB
  by_cases h1 : lo ≤ n <;> by_cases h2 : n ≤ hi
  all_goals
    go_enter Try.func112, Try.ntmps112
    go_wp2
    all_goals (go_ret; exact ⟨by simp [*], rfl⟩)

/-! ### simulations -/
def simOk (a b c d : Int) : Bool := inB a 0 2147483647 && inB b 1 6 && inB c 1 8 && inB d 0 100
theorem impl_ValidSim (a b c d : Int) (w : World) :
    Calls Try.prog 23 #[.agg #[.int .i64 a, .int .i64 b, .int .i64 c, .int .i64 d]] w fun e w' => e = .returned (.bool (simOk a b c d)) ∧ Below w.heap.size w w' := by
  unfold simOk
  go_enter Try.func23, Try.ntmps23
  go_wp2_with (go_at_call 92; (with_reducible refine (impl_in _ _ _ _).mono ?_); rintro e w' ⟨rfl, rfl⟩)
  all_goals (go_ret; exact ⟨by simp [*], (Below.refl _ _).alloc (Nat.le_refl _) _⟩)
theorem spec_l10Sim (a b c d : Int) (g : Nat) (w : World) (hg : w.heap[g]? = some (.cells #[.int .i64 a, .int .i64 b, .int .i64 c, .int .i64 d] 25 (0, 0))) :
    Calls Try.prog 91 #[.pointer (some ⟨g, 0, none⟩)] w fun e w' => e = .returned (.bool (simOk a b c d)) ∧ w = w' := by
  unfold simOk
  have c0 : w.cell? ⟨g, 0, none⟩ = some (.int .i64 a) := by simp [World.cell?, hg]
  have c1 : w.cell? ⟨g, 1, none⟩ = some (.int .i64 b) := by simp [World.cell?, hg]
  have c2 : w.cell? ⟨g, 2, none⟩ = some (.int .i64 c) := by simp [World.cell?, hg]
  have c3 : w.cell? ⟨g, 3, none⟩ = some (.int .i64 d) := by simp [World.cell?, hg]
  clear hg
  go_enter Try.func91, Try.ntmps91
  go_wp2_with (go_at_call 112; (with_reducible refine (spec_l00In _ _ _ _).mono ?_); rintro e w' ⟨rfl, rfl⟩)
  all_goals (go_ret; exact ⟨by simp [*], rfl⟩)
theorem spec_ValidSim (a b c d : Int) (w : World) :
    Calls Try.prog 21 #[.agg #[.int .i64 a, .int .i64 b, .int .i64 c, .int .i64 d]] w fun e w' => e = .returned (.bool (simOk a b c d)) ∧ Below w.heap.size w w' := by
  go_enter Try.func21, Try.ntmps21
  go_wp2_with (go_at_call 91; (with_reducible refine (spec_l10Sim a b c d _ _ (heap_alloc_new _ _)).mono ?_); rintro e w' ⟨rfl, rfl⟩)
  go_ret
  exact ⟨rfl, (Below.refl _ _).alloc (Nat.le_refl _) _⟩
theorem laws_toSim (a b c d : Int) (w : World) :
    Calls Try.prog 22 #[.agg #[.int .i64 a, .int .i64 b, .int .i64 c, .int .i64 d]] w fun e w' => e = .returned (.agg #[.int .i64 a, .int .i64 b, .int .i64 c, .int .i64 d]) ∧ Below w.heap.size w w' := by
  go_enter Try.func22, Try.ntmps22
  go_wp2
  exact bodyPost_ret (v := .agg #[.int .i64 a, .int .i64 b, .int .i64 c, .int .i64 d]) (by simp [results, Try.results22, go_sem]) rfl ⟨rfl, (by repeat (first | assumption | exact Below.refl _ _ | refine Below.setCell ?_ (by first | (simp; done) | (simp; omega)) _ | refine Below.alloc ?_ (by first | (simp; done) | (simp; omega)) _ | refine Below.drew ?_))⟩

/-! ### the law FnExactValidSim -/
namespace FnExactValidSim
theorem fourInts {w : World} {Pb : Nat → Prop} {u : Array Value} {e : List D} (t : IsL [.int .i64, .int .i64, .int .i64, .int .i64] e) (x : RoL w Pb e u.toList) : ∃ a b c d : Int, u = #[.int .i64 a, .int .i64 b, .int .i64 c, .int .i64 d] := by
  obtain ⟨d0, e, rfl, i0, t⟩ := t.uncons
  obtain ⟨d1, e, rfl, i1, t⟩ := t.uncons
  obtain ⟨d2, e, rfl, i2, t⟩ := t.uncons
  obtain ⟨d3, e, rfl, i3, t⟩ := t.uncons
  obtain rfl := t.unnil
  obtain ⟨a, rfl, _⟩ := i0.int_inv
  obtain ⟨b, rfl, _⟩ := i1.int_inv
  obtain ⟨c, rfl, _⟩ := i2.int_inv
  obtain ⟨d, rfl, _⟩ := i3.int_inv
  obtain ⟨u0, us, hu, h0, x⟩ := x.uncons
  obtain ⟨u1, us, rfl, h1, x⟩ := x.uncons
  obtain ⟨u2, us, rfl, h2, x⟩ := x.uncons
  obtain ⟨u3, us, rfl, h3, x⟩ := x.uncons
  obtain rfl := x.unnil
  obtain rfl := h0.int_inv
  obtain rfl := h1.int_inv
  obtain rfl := h2.int_inv
  obtain rfl := h3.int_inv
  exact ⟨a, b, c, d, Array.ext' hu⟩
theorem walk (W : World) (u0 : Array Value) (e0 : List D) (t0 : IsL [.int .i64, .int .i64, .int .i64, .int .i64] e0) (x0 : RoL W (Lo W.heap.size) e0 u0.toList) :
    Calls Try.prog 3 #[.agg u0] W fun e w' => e = .returned (.bool true) ∧ Below W.heap.size W w' := by
  obtain ⟨a, b, c, d, rfl⟩ := fourInts t0 x0
  clear t0 x0
  go_enter Try.func3, Try.ntmps3
  go_wp2_with (first | (go_at_call 22; (with_reducible refine (laws_toSim a b c d _).mono ?_); rintro e w1 ⟨rfl, hb⟩; obtain ⟨hc, hf⟩ := bcell hb; have hz : W.heap.size < w1.heap.size := (by have hs := hb.size; (try simp at hs) <;> omega); have hB : Below W.heap.size W w1 := (by first | exact below_step (by assumption) hb (by omega) | exact below_step (by repeat (first | exact Below.refl _ _ | refine Below.setCell ?_ (by first | (simp; done) | (simp; omega)) _ | refine Below.alloc ?_ (by first | (simp; done) | (simp; omega)) _ | refine Below.drew ?_)) hb (by first | (simp; done) | (simp; omega)))) | (go_at_call 21; (with_reducible refine (spec_ValidSim a b c d _).mono ?_); rintro e w1 ⟨rfl, hb⟩; obtain ⟨hc, hf⟩ := bcell hb; have hz : W.heap.size < w1.heap.size := (by have hs := hb.size; (try simp at hs) <;> omega); have hB : Below W.heap.size W w1 := (by first | exact below_step (by assumption) hb (by omega) | exact below_step (by repeat (first | exact Below.refl _ _ | refine Below.setCell ?_ (by first | (simp; done) | (simp; omega)) _ | refine Below.alloc ?_ (by first | (simp; done) | (simp; omega)) _ | refine Below.drew ?_)) hb (by first | (simp; done) | (simp; omega)))) | (go_at_call 23; (with_reducible refine (impl_ValidSim a b c d _).mono ?_); rintro e w1 ⟨rfl, hb⟩; obtain ⟨hc, hf⟩ := bcell hb; have hz : W.heap.size < w1.heap.size := (by have hs := hb.size; (try simp at hs) <;> omega); have hB : Below W.heap.size W w1 := (by first | exact below_step (by assumption) hb (by omega) | exact below_step (by repeat (first | exact Below.refl _ _ | refine Below.setCell ?_ (by first | (simp; done) | (simp; omega)) _ | refine Below.alloc ?_ (by first | (simp; done) | (simp; omega)) _ | refine Below.drew ?_)) hb (by first | (simp; done) | (simp; omega)))))
  go_ret
  exact ⟨rfl, (by repeat (first | assumption | exact Below.refl _ _ | refine Below.setCell ?_ (by first | (simp; done) | (simp; omega)) _ | refine Below.alloc ?_ (by first | (simp; done) | (simp; omega)) _ | refine Below.drew ?_))⟩
end FnExactValidSim
end Go.Proofs.Ytmojpkbdeiikiaa

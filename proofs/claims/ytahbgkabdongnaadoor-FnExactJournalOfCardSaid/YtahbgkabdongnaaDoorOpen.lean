/- An argument that is a slice of numbers, opened. -/
import Derived.Test.YtahbgkabdongnaaDoorLaw
namespace Go.Proofs.YtahbgkabdongnaaDoor
open Go.ChangeShapes Go.WideShapes Go.ChangeAt Go.RowKit Go.Dt
theorem open_ints {w : World} {Pb : Nat → Prop} {A : Option Addr} {n c : Nat} {e : List D} (t : IsL [.sl 2 1 [.int .i64]] e) (x : RoL w Pb e [.slice A n c]) :
    ∃ l : List Int, n = l.length ∧ Ro w Pb (ints l) (.slice A l.length c) ∧ (∀ n ∈ l, (Lit.int .i64 n).wf = true) ∧ l.length ≤ c ∧ c ≤ maxLen := by
  obtain ⟨d, ds, rfl, i, t⟩ := t.uncons
  obtain rfl := t.unnil
  obtain ⟨l, rfl, wf⟩ := Is.sl_inv (fun n => [D.int .i64 n]) (fun n => (Lit.int .i64 n).wf = true) (fun ds h => by
    obtain ⟨d, ds, rfl, i, h⟩ := h.uncons
    obtain rfl := h.unnil
    obtain ⟨n, rfl, wf⟩ := i.int_inv
    exact ⟨n, rfl, wf⟩) i
  obtain ⟨u, us, hu, hr, _⟩ := x.uncons
  injection hu with hu _
  subst hu
  obtain ⟨A', c', hv, hl, hm⟩ := hr.sl_inv
  injection hv with e1 e2 e3
  subst e1; subst e2; subst e3
  simp only [List.length_map] at hl hr ⊢
  exact ⟨l, rfl, hr, wf, hl, hm⟩
end Go.Proofs.YtahbgkabdongnaaDoor

/- A new desk. -/
import Derived.Test.YtmojpkbdeiikiaaYDesk
namespace Go.Proofs.Ytmojpkbdeiikiaa
open Go.ChangeShapes Go.WideShapes Go.ChangeAt Go.RowKit Go.Dt
set_option linter.unusedVariables false
set_option linter.unusedSimpArgs false
def newDesk : Desk := ⟨0, ⟨1, []⟩, ⟨[], [], []⟩⟩
theorem newDesk_own (w : World) (A : Option Addr) : OwL w (Desk.d true newDesk) [.int .i64 0, .int .i64 1, .slice A 0 0, .slice none 0 0, .slice none 0 0, .slice none 0 0] (fun _ => False) := by
  unfold Desk.d newDesk Message.s Lease.s Mark.s
  exact OwL.consP (Ow.I _ _) (OwL.consP (Ow.I _ _) (OwL.consP (.emp _ _ _ _ (by simp)) (OwL.consP (.emp _ _ _ _ (by simp)) (OwL.consP (.emp _ _ _ _ (by simp)) (OwL.consP (.emp _ _ _ _ (by simp)) OwL.nil)))))
theorem impl_emptyLog (W : World) : Calls Try.prog 102 #[] W fun e w' => e = .returned (.agg #[.int .i64 1, .slice none 0 0]) ∧ Below W.heap.size W w' := by
  go_enter Try.func102, Try.ntmps102
  go_wp2
  exact bodyPost_ret (v := .agg #[.int .i64 1, .slice none 0 0]) (by simp [results, Try.results102, go_sem]) rfl ⟨rfl, (by (repeat (first | with_reducible assumption | with_reducible exact Below.refl _ _ | with_reducible refine Below.setCell ?_ ?_ _ | with_reducible refine Below.alloc ?_ ?_ _ | with_reducible refine Below.drew ?_ | with_reducible refine below_drewN ?_ _ | omega | (simp; done) | (simp; omega))); all_goals first | omega | (simp; done) | (simp; omega))⟩
theorem impl_NewDesk (W : World) : Calls Try.prog 33 #[] W (MadeL W (Desk.d true newDesk)) := by
  go_enter Try.func33, Try.ntmps33
  go_wp2_with (go_at_call 102; (with_reducible refine (impl_emptyLog _).mono ?_); rintro e w1 ⟨rfl, hb⟩; obtain ⟨hc, hf⟩ := bcell hb; have hz : W.heap.size < w1.heap.size := (by have hs := hb.size; (try simp at hs) <;> omega); have hB : Below W.heap.size W w1 := (by first | exact below_step (by assumption) hb (by omega) | exact below_step (by repeat (first | exact Below.refl _ _ | refine Below.setCell ?_ (by first | omega | (simp; done) | (simp; omega)) _ | refine Below.alloc ?_ (by first | omega | (simp; done) | (simp; omega)) _ | refine Below.drew ?_)) hb (by first | omega | (simp; done) | (simp; omega))))
  exact bodyPost_ret (v := .agg #[.int .i64 0, .int .i64 1, .slice none 0 0, .slice none 0 0, .slice none 0 0, .slice none 0 0]) (by simp [results, Try.results33, go_sem, hc, hf, hz]) rfl ⟨_, _, rfl, newDesk_own _ none, (by (repeat (first | with_reducible assumption | with_reducible exact Below.refl _ _ | with_reducible refine Below.setCell ?_ ?_ _ | with_reducible refine Below.alloc ?_ ?_ _ | with_reducible refine Below.drew ?_ | with_reducible refine below_drewN ?_ _ | omega | (simp; done) | (simp; omega))); all_goals first | omega | (simp; done) | (simp; omega)), fun b h => h.elim⟩
theorem spec_l11New (W : World) : Calls Try.prog 101 #[] W fun e w' => (∃ A, e = .returned (.agg #[.int .i64 0, .int .i64 1, .slice A 0 0, .slice none 0 0, .slice none 0 0, .slice none 0 0])) ∧ Below W.heap.size W w' := by
  go_enter Try.func101, Try.ntmps101
  go_wp2
  exact bodyPost_ret (v := .agg #[.int .i64 0, .int .i64 1, .slice (some ⟨W.heap.size + 1, 0, none⟩) 0 0, .slice none 0 0, .slice none 0 0, .slice none 0 0]) (by simp [results, Try.results101, go_sem]) rfl ⟨⟨_, rfl⟩, (by (repeat (first | with_reducible assumption | with_reducible exact Below.refl _ _ | with_reducible refine Below.setCell ?_ ?_ _ | with_reducible refine Below.alloc ?_ ?_ _ | with_reducible refine Below.drew ?_ | with_reducible refine below_drewN ?_ _ | omega | (simp; done) | (simp; omega))); all_goals first | omega | (simp; done) | (simp; omega))⟩
theorem spec_NewDesk (W : World) : Calls Try.prog 32 #[] W (MadeL W (Desk.d true newDesk)) := by
  go_enter Try.func32, Try.ntmps32
  go_wp2_with (go_at_call 101; (with_reducible refine (spec_l11New _).mono ?_); rintro e w1 ⟨⟨A, rfl⟩, hb⟩; obtain ⟨hc, hf⟩ := bcell hb; have hz : W.heap.size < w1.heap.size := (by have hs := hb.size; (try simp at hs) <;> omega); have hB : Below W.heap.size W w1 := (by first | exact below_step (by assumption) hb (by omega) | exact below_step (by repeat (first | exact Below.refl _ _ | refine Below.setCell ?_ (by first | omega | (simp; done) | (simp; omega)) _ | refine Below.alloc ?_ (by first | omega | (simp; done) | (simp; omega)) _ | refine Below.drew ?_)) hb (by first | omega | (simp; done) | (simp; omega))))
  exact bodyPost_ret (v := .agg #[.int .i64 0, .int .i64 1, .slice A 0 0, .slice none 0 0, .slice none 0 0, .slice none 0 0]) (by simp [results, Try.results32, go_sem, hc, hf, hz]) rfl ⟨_, _, rfl, newDesk_own _ A, (by (repeat (first | with_reducible assumption | with_reducible exact Below.refl _ _ | with_reducible refine Below.setCell ?_ ?_ _ | with_reducible refine Below.alloc ?_ ?_ _ | with_reducible refine Below.drew ?_ | with_reducible refine below_drewN ?_ _ | omega | (simp; done) | (simp; omega))); all_goals first | omega | (simp; done) | (simp; omega)), fun b h => h.elim⟩
def NewDesk_f : Desk := newDesk
theorem NewDesk_lawS (W : World) : Calls Try.prog 32 #[] W fun e w' => ∃ us, e = .returned (.agg us.toArray) ∧ RoL w' (Lo w'.heap.size) (Desk.d true NewDesk_f) us ∧ Below W.heap.size W w' :=
  (spec_NewDesk W).mono fun e w' ⟨us, F, h1, h2, h3, _⟩ => ⟨us, h1, h2.lo, h3⟩
theorem NewDesk_lawI (W : World) : Calls Try.prog 33 #[] W fun e w' => ∃ us F, e = .returned (.agg us.toArray) ∧ OwL w' (Desk.d true NewDesk_f) us F ∧ (∀ b, F b → W.heap.size ≤ b) ∧ Below W.heap.size W w' :=
  (impl_NewDesk W).mono fun e w' ⟨us, F, h1, h2, h3, h4⟩ => ⟨us, F, h1, h2, h4, h3⟩
theorem NewDesk_lawN : Desk.sn NewDesk_f ≤ 1000000000000 := by decide
end Go.Proofs.Ytmojpkbdeiikiaa

/- The walks of the functions of reminders. -/
import Derived.Test.YtmojpkbdeiikiaaSmall
import Derived.Test.YtmojpkbdeiikiaaYReminder
namespace Go.Proofs.Ytmojpkbdeiikiaa
open Go.ChangeShapes Go.WideShapes Go.ChangeAt Go.RowKit Go.Dt
set_option linter.unusedVariables false
set_option linter.unusedSimpArgs false

theorem impl_isMember (n : Int) (w : World) : Calls Try.prog 94 #[.int .i64 n] w fun e w' => e = .returned (.bool (inB n 1 1000)) ∧ w = w' := by
  go_enter Try.func94, Try.ntmps94
  go_wp2_with (go_at_call 92; (with_reducible refine (impl_in _ _ _ _).mono ?_); rintro e w' ⟨rfl, rfl⟩)
  go_ret
  exact ⟨rfl, rfl⟩
theorem impl_isNumber (n : Int) (w : World) : Calls Try.prog 95 #[.int .i64 n] w fun e w' => e = .returned (.bool (inB n 1 1000000000)) ∧ w = w' := by
  go_enter Try.func95, Try.ntmps95
  go_wp2_with (go_at_call 92; (with_reducible refine (impl_in _ _ _ _).mono ?_); rintro e w' ⟨rfl, rfl⟩)
  go_ret
  exact ⟨rfl, rfl⟩
theorem impl_isTick (n : Int) (w : World) : Calls Try.prog 96 #[.int .i64 n] w fun e w' => e = .returned (.bool (inB n 0 1000000)) ∧ w = w' := by
  go_enter Try.func96, Try.ntmps96
  go_wp2_with (go_at_call 92; (with_reducible refine (impl_in _ _ _ _).mono ?_); rintro e w' ⟨rfl, rfl⟩)
  go_ret
  exact ⟨rfl, rfl⟩
theorem spec_l01Member (n : Int) (w : World) : Calls Try.prog 159 #[.int .i64 n] w fun e w' => e = .returned (.bool (inB n 1 1000)) ∧ w = w' := by
  go_enter Try.func159, Try.ntmps159
  go_wp2_with (go_at_call 112; (with_reducible refine (spec_l00In _ _ _ _).mono ?_); rintro e w' ⟨rfl, rfl⟩)
  go_ret
  exact ⟨rfl, rfl⟩
theorem spec_l01Tick (n : Int) (w : World) : Calls Try.prog 108 #[.int .i64 n] w fun e w' => e = .returned (.bool (inB n 0 1000000)) ∧ w = w' := by
  go_enter Try.func108, Try.ntmps108
  go_wp2_with (go_at_call 112; (with_reducible refine (spec_l00In _ _ _ _).mono ?_); rintro e w' ⟨rfl, rfl⟩)
  go_ret
  exact ⟨rfl, rfl⟩

def Reminder.ok (r : Reminder) : Bool := inB r.xMember 1 1000 && inB r.xNumber 1 1000000000 && inB r.xAt 0 1000000 && inB r.xLeft 1 20 && (inB r.xEvery 1 1000000 || (r.xEvery == 0 && r.xLeft == 1))
def Reminder.vals (r : Reminder) : Array Value := #[.int .i64 r.xMember, .int .i64 r.xNumber, .int .i64 r.xAt, .int .i64 r.xEvery, .int .i64 r.xLeft]

theorem impl_IsReminder (r : Reminder) (w : World) :
    Calls Try.prog 26 #[.agg r.vals] w fun e w' => e = .returned (.bool r.ok) ∧ Below w.heap.size w w' := by
  obtain ⟨m, n, a, ev, l⟩ := r
  simp only [Reminder.vals, Reminder.ok]
  cases he : (ev == 0) <;> cases hl : (l == 1)
  all_goals
    go_enter Try.func26, Try.ntmps26
    go_wp2_with (first | (go_at_call 94; (with_reducible refine (impl_isMember _ _).mono ?_); rintro e w' ⟨rfl, rfl⟩) | (go_at_call 95; (with_reducible refine (impl_isNumber _ _).mono ?_); rintro e w' ⟨rfl, rfl⟩) | (go_at_call 96; (with_reducible refine (impl_isTick _ _).mono ?_); rintro e w' ⟨rfl, rfl⟩) | (go_at_call 92; (with_reducible refine (impl_in _ _ _ _).mono ?_); rintro e w' ⟨rfl, rfl⟩))
    all_goals (go_ret; exact ⟨by simp_all, (by (repeat (first | with_reducible assumption | with_reducible exact Below.refl _ _ | with_reducible refine Below.setCell ?_ ?_ _ | with_reducible refine Below.alloc ?_ ?_ _ | with_reducible refine Below.drew ?_ | with_reducible refine below_drewN ?_ _ | omega | (simp; done) | (simp; omega))); all_goals first | omega | (simp; done) | (simp; omega))⟩)
theorem spec_l09Reminder (r : Reminder) (b off : Nat) (w : World) (c : ∀ j u, r.vals[j]? = some u → w.cell? ⟨b, off + j, none⟩ = some u) :
    Calls Try.prog 93 #[.pointer (some ⟨b, off, none⟩)] w fun e w' => e = .returned (.bool r.ok) ∧ w = w' := by
  obtain ⟨m, n, a, ev, l⟩ := r
  have c0 : w.cell? ⟨b, off, none⟩ = some (.int .i64 m) := c 0 _ rfl; have c1 : w.cell? ⟨b, off + 1, none⟩ = some (.int .i64 n) := c 1 _ rfl; have c2 : w.cell? ⟨b, off + 2, none⟩ = some (.int .i64 a) := c 2 _ rfl; have c3 : w.cell? ⟨b, off + 3, none⟩ = some (.int .i64 ev) := c 3 _ rfl; have c4 : w.cell? ⟨b, off + 4, none⟩ = some (.int .i64 l) := c 4 _ rfl
  simp only [Reminder.ok]
  clear c
  cases he : (ev == 0) <;> cases hl : (l == 1)
  all_goals
    go_enter Try.func93, Try.ntmps93
    go_wp2_with (first | (go_at_call 159; (with_reducible refine (spec_l01Member _ _).mono ?_); rintro e w' ⟨rfl, rfl⟩) | (go_at_call 108; (with_reducible refine (spec_l01Tick _ _).mono ?_); rintro e w' ⟨rfl, rfl⟩) | (go_at_call 112; (with_reducible refine (spec_l00In _ _ _ _).mono ?_); rintro e w' ⟨rfl, rfl⟩))
    all_goals (go_ret; exact ⟨by simp_all, rfl⟩)
theorem spec_IsReminder (r : Reminder) (w : World) :
    Calls Try.prog 24 #[.agg r.vals] w fun e w' => e = .returned (.bool r.ok) ∧ Below w.heap.size w w' := by
  have HS := spec_l09Reminder r w.heap.size 0 (w.alloc (.cells r.vals 31)) (fun j u h => by rw [Nat.zero_add, cell_of_row _ _ _ _ _ _ (heap_alloc_new w _)]; exact h)
  unfold Reminder.vals at HS ⊢
  go_enter Try.func24, Try.ntmps24
  go_wp2_with (go_at_call 93; (with_reducible refine HS.mono ?_); rintro e w1 ⟨rfl, rfl⟩)
  go_ret
  exact ⟨rfl, (by (repeat (first | with_reducible assumption | with_reducible exact Below.refl _ _ | with_reducible refine Below.setCell ?_ ?_ _ | with_reducible refine Below.alloc ?_ ?_ _ | with_reducible refine Below.drew ?_ | with_reducible refine below_drewN ?_ _ | omega | (simp; done) | (simp; omega))); all_goals first | omega | (simp; done) | (simp; omega))⟩
namespace FnExactIsReminder
theorem walk (W : World) (u0 : Array Value) (e0 : List D) (t0 : IsL [.int .i64, .int .i64, .int .i64, .int .i64, .int .i64] e0) (x0 : RoL W (Lo W.heap.size) e0 u0.toList) :
    Calls Try.prog 4 #[.agg u0] W fun e w' => e = .returned (.bool true) ∧ Below W.heap.size W w' := by
  obtain ⟨x, rfl, _⟩ := Reminder.is t0
  obtain ⟨us, rfl⟩ : ∃ us : List Value, u0 = us.toArray := ⟨u0.toList, by simp⟩
  simp only [List.toList_toArray] at x0
  obtain rfl := Reminder.cells x0
  have HT := fun (w : World) (hb : Below W.heap.size W w) => laws_toReminder x _ w (rol_to x0 hb)
  have HS := fun w => spec_IsReminder x w
  have HI := fun w => impl_IsReminder x w
  unfold Reminder.vals at HS HI
  unfold MadeL at HT
  generalize x.ok = o at *
  clear x0
  go_enter Try.func4, Try.ntmps4
  go_wp2_with (first | (go_at_call 25; (with_reducible refine (HT _ (by (repeat (first | with_reducible assumption | with_reducible exact Below.refl _ _ | with_reducible refine Below.setCell ?_ ?_ _ | with_reducible refine Below.alloc ?_ ?_ _ | with_reducible refine Below.drew ?_ | with_reducible refine below_drewN ?_ _ | omega | (simp; done) | (simp; omega))); all_goals first | omega | (simp; done) | (simp; omega))).mono ?_); rintro e w1 ⟨us1, F1, rfl, hO, hb, _⟩; obtain rfl := Reminder.cells hO.ro; clear hO; obtain ⟨hc, hf⟩ := bcell hb; have hz : W.heap.size < w1.heap.size := (by have hs := hb.size; (try simp at hs) <;> omega); have hB : Below W.heap.size W w1 := (by first | exact below_step (by assumption) hb (by omega) | exact below_step (by repeat (first | exact Below.refl _ _ | refine Below.setCell ?_ (by first | omega | (simp; done) | (simp; omega)) _ | refine Below.alloc ?_ (by first | omega | (simp; done) | (simp; omega)) _ | refine Below.drew ?_)) hb (by first | omega | (simp; done) | (simp; omega)))) | (go_at_call 24; (with_reducible refine (HS _).mono ?_); rintro e w1 ⟨rfl, hb⟩; obtain ⟨hc, hf⟩ := bcell hb; have hz : W.heap.size < w1.heap.size := (by have hs := hb.size; (try simp at hs) <;> omega); have hB : Below W.heap.size W w1 := (by first | exact below_step (by assumption) hb (by omega) | exact below_step (by repeat (first | exact Below.refl _ _ | refine Below.setCell ?_ (by first | omega | (simp; done) | (simp; omega)) _ | refine Below.alloc ?_ (by first | omega | (simp; done) | (simp; omega)) _ | refine Below.drew ?_)) hb (by first | omega | (simp; done) | (simp; omega)))) | (go_at_call 26; (with_reducible refine (HI _).mono ?_); rintro e w1 ⟨rfl, hb⟩; obtain ⟨hc, hf⟩ := bcell hb; have hz : W.heap.size < w1.heap.size := (by have hs := hb.size; (try simp at hs) <;> omega); have hB : Below W.heap.size W w1 := (by first | exact below_step (by assumption) hb (by omega) | exact below_step (by repeat (first | exact Below.refl _ _ | refine Below.setCell ?_ (by first | omega | (simp; done) | (simp; omega)) _ | refine Below.alloc ?_ (by first | omega | (simp; done) | (simp; omega)) _ | refine Below.drew ?_)) hb (by first | omega | (simp; done) | (simp; omega)))))
  all_goals (go_ret; exact ⟨by simp_all, (by (repeat (first | with_reducible assumption | with_reducible exact Below.refl _ _ | with_reducible refine Below.setCell ?_ ?_ _ | with_reducible refine Below.alloc ?_ ?_ _ | with_reducible refine Below.drew ?_ | with_reducible refine below_drewN ?_ _ | omega | (simp; done) | (simp; omega))); all_goals first | omega | (simp; done) | (simp; omega))⟩)
end FnExactIsReminder
end Go.Proofs.Ytmojpkbdeiikiaa

/- A hand that is changed. -/
import Derived.Test.YtafihplbchofoaaBeg
namespace Go.Proofs.Ytafihplbchofoaa
open Go.ChangeShapes Go.WideShapes Go.ChangeAt Go.RowKit Go.Dt
set_option linter.unusedVariables false
set_option linter.unusedSimpArgs false
theorem flat_at {α β : Type} (f : α → List β) (n : Nat) (l : List α) (hf : ∀ x, (f x).length = n) (j : Nat) (u : β) (h : (l.flatMap f)[j]? = some u) :
    ∃ i r x, l[i]? = some x ∧ (f x)[r]? = some u ∧ j = i * n + r ∧ r < n := by
  induction l generalizing j with
  | nil => simp at h
  | cons x l ih =>
    rw [List.flatMap_cons] at h
    by_cases hj : j < n
    · rw [List.getElem?_append_left (by rw [hf]; exact hj)] at h
      exact ⟨0, j, x, rfl, h, by simp, hj⟩
    · rw [List.getElem?_append_right (by rw [hf]; omega), hf] at h
      obtain ⟨i, r, y, h1, h2, h3, h4⟩ := ih _ h
      exact ⟨i + 1, r, y, by simpa using h1, h2, by rw [Nat.add_mul]; omega, h4⟩
def draftVals (l : List Draft) : List Value := l.flatMap fun d => [.int .i64 d.xSender, .int .i64 d.xAt, .string d.xText]
theorem drafts_plain (w : World) (l : List Draft) : OwL w (l.map (Draft.d true)).flatten (draftVals l) (fun _ => False) := by
  induction l with
  | nil => exact OwL.nil
  | cons d l ih => exact OwL.consP (Ow.I _ _) (OwL.consP (Ow.I _ _) (OwL.consP (Ow.S _) ih))
theorem drafts_news {w : World} {l : List Draft} {b off n c : Nat} (hr : Ro w (Lo w.heap.size) (Draft.s true l) (.slice (some ⟨b, off, none⟩) n c)) {w2 : World} (hb : Below w.heap.size w w2) (j : Nat) (u : Value) (hj : (draftVals l)[j]? = some u) : w2.cell? ((⟨b, off, none⟩ : Addr).add j) = some u := by
  obtain ⟨i, r, d, h1, h2, rfl, h4⟩ := flat_at _ 3 l (fun _ => rfl) j u hj
  obtain ⟨b', off', e, _, h⟩ := draft_at hr h1
  injection e with e; injection e with e1 e2
  subst e1; subst e2
  rw [add_lit, ← Nat.add_assoc]
  exact h w2 hb r u h2
theorem drafts_nil_or {w : World} {l : List Draft} {A : Option Addr} {n c : Nat} (hr : Ro w (Lo w.heap.size) (Draft.s true l) (.slice A n c)) : l = [] ∨ ∃ b off, A = some ⟨b, off, none⟩ := by
  cases l with
  | nil => exact .inl rfl
  | cons x l =>
    obtain ⟨b', off', e, _⟩ := draft_at hr (k := 0) rfl
    exact .inr ⟨b', off', e⟩
set_option maxHeartbeats 1600000 in
set_option maxRecDepth 100000 in
theorem slices_CloneD (l : List Draft) (A : Option Addr) (c : Nat) (W : World) (hr : Ro W (Lo W.heap.size) (Draft.s true l) (.slice A l.length c)) (hn : l.length ≤ 1048576) :
    Calls Try.prog 106 #[.slice A l.length c] W (Made W (Draft.s true l)) := by
  have he := fun (w : World) (a : Option Addr) (n c : Nat) => Lib.run_eql_slice_nil (P := Try.prog) w 28 35 a n c 0 0 Try.underlying28
  by_cases h0 : l = []
  · subst h0
    clear hr hn
    go_enter Try.func106, Try.ntmps106
    rcases A with _ | a
    all_goals
      go_wp2
      go_ret
      exact ⟨_, _, rfl, drafts_nil _ _, (by (repeat (first | with_reducible assumption | with_reducible exact Below.refl _ _ | with_reducible refine Below.setCell ?_ ?_ _ | with_reducible refine Below.alloc ?_ ?_ _ | with_reducible refine Below.drew ?_ | with_reducible refine below_drewN ?_ _ | omega | (simp; done) | (simp; omega))); all_goals first | omega | (simp; done) | (simp; omega)), fun b h => h.elim⟩
  · obtain ⟨b, off, rfl⟩ := (drafts_nil_or hr).resolve_left h0
    have HP := Lib.hid (drafts_plain W l)
    have HN := Lib.hid (fun w2 hb => @drafts_news W l b off _ c hr w2 hb)
    have HO := Lib.hid (oneCells_of (drafts_plain W l).ro)
    generalize hm : l.length = n at *
    have HM := Lib.hid hm
    clear hr hm h0
    go_enter Try.func106, Try.ntmps106
    go_wp2_with (at_builtin; refine dt_append rfl _ _ 28 35 rfl Try.underlying28 (.agg #[.int .i64 0, .int .i64 0, .string ByteArray.empty]) 3 32 Draft.inf rfl (by decide) (by decide) (by rfl) (Ow.emp 35 3 (some ⟨W.heap.size, 0, none⟩) (fun _ => False) (by simp)) ⟨b, off, none⟩ n c (by rfl) (draftVals l) (l.map (Draft.d true)) (fun _ => False) (by rw [List.length_map]; exact HM.out) (fun row h => by obtain ⟨d, _, rfl⟩ := List.mem_map.1 h; rfl) (fun j u hu => HN.out _ ((Below.refl _ _).alloc (Nat.le_refl _) _) j u hu) (HP.out.alloc _) (by simp) HO.out (by simp; omega) ?_; intro v2 w2 F2 hO2 hk2 hF2)
    go_ret
    exact ⟨_, F2, rfl, by simpa [Draft.s, Draft.e] using hO2, ((Below.refl _ _).alloc (Nat.le_refl _) _).trans (hk2.below (by simp) (fun b h => h.elim)), fun b h => by have := hF2 b h; simp at this; omega⟩
end Go.Proofs.Ytafihplbchofoaa

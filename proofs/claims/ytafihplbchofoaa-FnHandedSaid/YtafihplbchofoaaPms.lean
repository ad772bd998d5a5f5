/- Words for walks over what was drawn: a fresh start of the state, rows of a slice. -/
import Derived.Test.YtafihplbchofoaaStm
import Derived.Test.YtafihplbchofoaaSame
import Derived.Test.YtafihplbchofoaaCop
import Derived.Test.YtafihplbchofoaaMpo
/- Logs compared. -/
/- A message is posted, by the program: any reply. -/
/- PostMessage, by the program. -/
namespace Go.Proofs.Ytafihplbchofoaa
open Go.ChangeShapes Go.WideShapes Go.ChangeAt Go.RowKit Go.Dt
set_option linter.unusedVariables false
set_option linter.unusedSimpArgs false
section
variable {N R : Nat → Prop} {W w : World} {ps : List Pt}
theorem _root_.Go.Dt.St.base (h : St N R W w ps) : St N (Lo w.heap.size) W w [] := ⟨h.kp, fun b hb => h.lt b (h.sub b hb), fun _ h => h, fun _ => False, fun _ h => h, fun _ h => h.elim⟩
theorem ints_lit2 (w : World) (x y : Int) : Ow (w.alloc (.cells #[.int .i64 x, .int .i64 y] 2)) (ints [x, y]) (.slice (some ⟨w.heap.size, 0, none⟩) 2 2) (fun b => b = w.heap.size) :=
  (Ow.of_block (rows := [[.int .i64 x], [.int .i64 y]]) (F := fun _ => False) (Bx.new w _ _) rfl (Nat.le_refl _) (by simp [maxLen]) (by simp) rfl (OwL.consP (Ow.I _ _) (OwL.one (Ow.I _ _))) (fun h => h)).same (fun b => by simp)
theorem u8_wf {l : List Int} (h : ∀ n ∈ l, (Lit.int .u8 n).wf = true) : ∀ n ∈ l, 0 ≤ n ∧ n < 256 := fun n hn => by
  have hw := h n hn
  simp [Lit.wf, IntKind.min, IntKind.max, IntKind.bits, IntKind.signed] at hw; omega
/-- One element of a slice, as a slice. -/
theorem Ro.one {Pb : Nat → Prop} {e : TypeId} {sz n c i : Nat} {rows : List (List D)} {A : Option Addr} {row : List D} (h : Ro w Pb (.sl e sz rows) (.slice A n c)) (hi : rows[i]? = some row) : ∃ b off, A = some ⟨b, off, none⟩ ∧ Ro w Pb (.sl e sz [row]) (.slice (some ⟨b, off + i * sz, none⟩) 1 (c - i)) := by
  cases h with
  | emp => simp at hi
  | row _ _ b off c _ us h1 h2 hb h3 h4 h5 =>
    have hlt := (List.getElem?_eq_some_iff.1 hi).1
    refine ⟨b, off, rfl, ?_⟩
    have := Ro.row (w := w) (Pb := Pb) e sz b (off + i * sz) (c - i) [row] (fun k j => us (i + k) j) (by simp; omega) (by omega) hb (fun k r hk => ?_) (fun k r j d hk hj => ?_) (fun k r j d hk hj => ?_)
    · exact this
    all_goals
      obtain ⟨rfl, rfl⟩ : k = 0 ∧ r = row := by
        cases k with
        | zero => exact ⟨rfl, by simpa using hk.symm⟩
        | succ k => simp at hk
    · exact h3 i r hi
    · have := h4 i r j d hi hj
      simpa using this
    · exact h5 i r j d hi hj
theorem Message.one {Pb : Nat → Prop} {b off n c i : Nat} {l : List Message} {m : Message} (h : Ro w Pb (Message.s true l) (.slice (some ⟨b, off, none⟩) n c)) (hi : l[i]? = some m) : Ro w Pb (Message.s true [m]) (.slice (some ⟨b, off + i * 8, none⟩) 1 (c - i)) := by
  obtain ⟨b', off', h1, h2⟩ := Ro.one h (map_at (f := Message.d true) hi)
  injection h1 with h1
  injection h1 with h1 h3
  subst h1 h3
  exact h2
end
end Go.Proofs.Ytafihplbchofoaa

namespace Go.Proofs.Ytafihplbchofoaa
open Go.ChangeShapes Go.WideShapes Go.ChangeAt Go.RowKit Go.Dt
set_option linter.unusedVariables false
set_option linter.unusedSimpArgs false
def sameL (x y : Log) : Bool := x.xNext == y.xNext && decide (x.xMessages = y.xMessages)
set_option maxHeartbeats 1600000 in
set_option maxRecDepth 100000 in
theorem impl_SameLog (x y : Log) (us vs : List Value) (W : World) (hr : RoL W (Lo W.heap.size) (Log.d true x) us) (hs : RoL W (Lo W.heap.size) (Log.d true y) vs) :
    Calls Try.prog 21 #[.agg us.toArray, .agg vs.toArray] W fun e w' => e = .returned (.bool (sameL x y)) ∧ Below W.heap.size W w' := by
  obtain ⟨A, c, rfl, r1, hlc, hm⟩ := Log.cells hr
  obtain ⟨A', c', rfl, r2, hlc', hm'⟩ := Log.cells hs
  have H := ((St.start W).addro r1).addro r2
  obtain ⟨next, l⟩ := x
  obtain ⟨next', l'⟩ := y
  simp only at *
  have HE := fun (w : World) (ps : List Pt) (R : Nat → Prop) (H : St (Lo W.heap.size) R W w ps) (h1 : At (.ro (Message.s true l) (.slice A l.length c)) ps) (h2 : At (.ro (Message.s true l') (.slice A' l'.length c')) ps) => EqualFunc_same l l' A A' c c' w (H.lo (.inl h1)) (H.lo (.inl h2)) hm hlc hm' hlc'
  have HX := Lib.hid (show sameL ⟨next, l⟩ ⟨next', l'⟩ = (next == next' && decide (l = l')) from rfl)
  generalize decide (l = l') = z at *
  clear hr hs r1 r2 hm hm' hlc hlc'
  cases hn : (next == next')
  · rw [hn] at HX
    have g1 : ¬ next = next' := by simpa using hn
    go_enter Try.func21, Try.ntmps21
    go_wp2
    go_ret
    exact ⟨by rw [HX.out]; rfl, (by (repeat (first | with_reducible assumption | with_reducible exact Below.refl _ _ | with_reducible refine Below.setCell ?_ ?_ _ | with_reducible refine Below.alloc ?_ ?_ _ | with_reducible refine Below.drew ?_ | with_reducible refine below_drewN ?_ _ | omega | (simp; done) | (simp; omega))); all_goals first | omega | (simp; done) | (simp; omega))⟩
  · rw [hn] at HX
    have g1 : next = next' := by simpa using hn
    go_enter Try.func21, Try.ntmps21
    go_wp2_with (go_at_call 67; (refine (HE _ _ _ (H.box2 _ _ _ _) (by repeat (first | with_reducible_and_instances exact .here | with_reducible refine .there ?_)) (by repeat (first | with_reducible_and_instances exact .here | with_reducible refine .there ?_))).mono ?_); rintro e w1 ⟨rfl, hb1⟩; replace H := (H.box2 _ _ _ _).below hb1; clear hb1; (try clear hq); have hq := H.facts; simp only [factsOf, Pt.facts, CellsAt, Nat.add_zero, Nat.zero_add, Nat.reduceAdd, and_true, true_and, List.set_cons_zero, List.set_cons_succ] at hq)
    go_ret
    exact ⟨by rw [HX.out]; rfl, H.belowW⟩
theorem same_bad {l m : List Message} {j : Nat} {u v : Message} (hu : l[j]? = some u) (hv : m[j]? = some v) (h : u ≠ v) : decide (l = m) = false := by
  rw [decide_eq_false_iff_not]
  rintro rfl
  rw [hu] at hv; injection hv with hv; exact h hv
end Go.Proofs.Ytafihplbchofoaa

namespace Go.Proofs.Ytafihplbchofoaa
open Go.ChangeShapes Go.WideShapes Go.ChangeAt Go.RowKit Go.Dt
set_option linter.unusedVariables false
set_option linter.unusedSimpArgs false
/-- What a method has made of the log in box g. -/
def LogAt (N R : Nat → Prop) (W : World) (g : Nat) (ps : List Pt) (r : Log × Bool) (e : Ending) (w' : World) : Prop := ∃ (y : Log) (A' : Option Addr) (n' c' : Nat), e = .returned (.bool r.2) ∧ St N R W w' (.bx g #[.int .i64 y.xNext, .slice A' n' c'] 26 :: .ow (Message.s true y.xMessages) (.slice A' n' c') :: ps) ∧ (r.2 = true → y = r.1)
set_option maxHeartbeats 3200000 in
set_option maxRecDepth 100000 in
theorem impl_postR (x : Log) (s a : Int) (t : ByteArray) (r : Int) (g c : Nat) (A : Option Addr) (N R : Nat → Prop) (W w : World) (ps : List Pt) (H : St N R W w (.bx g #[.int .i64 x.xNext, .slice A x.xMessages.length c] 26 :: .ow (Message.s true x.xMessages) (.slice A x.xMessages.length c) :: ps)) (ho : x.ok = true) (ht : t.size ≤ maxLen) :
    Calls Try.prog 55 #[.pointer (some ⟨g, 0, none⟩), .int .i64 s, .int .i64 a, .string t, .int .i64 r] w (LogAt N R W g ps (postedR x s a t r)) := by
  have hr := H.lo (.inr (by repeat (first | with_reducible_and_instances exact .here | with_reducible refine .there ?_))) (d := Message.s true x.xMessages) (v := .slice A x.xMessages.length c)
  have mc := hr.sl_max
  have lc := hr.sl_cap
  have hfit := Log.fit_at ho
  obtain ⟨hfew, hx1, hx2⟩ := Log.few ho
  obtain ⟨next, l⟩ := x
  simp only at *
  have hlen : l.length ≤ 9223372036854775807 := by omega
  have HF := fun (w : World) (ps : List Pt) (R : Nat → Prop) (H : St N R W w ps) (h1 : At (.bx g #[.int .i64 next, .slice A l.length c] 26) ps) (h2 : At (.ow (Message.s true l) (.slice A l.length c)) ps) => impl_at l r g 0 A c w ((H.bx h1).cell 1 rfl) (H.lo (.inr h2)) mc lc
  have HG := fun (w : World) (A : Option Addr) (n c : Nat) (H : Ro w (Lo w.heap.size) (Message.s true (l ++ [(⟨next, s, a, t, 0, false, r, []⟩ : Message)])) (.slice A n c)) => impl_ValidLog ⟨next + 1, l ++ [(⟨next, s, a, t, 0, false, r, []⟩ : Message)]⟩ _ w (Log.ros H) (fun y hy => by
    rcases List.mem_append.1 hy with hy | hy
    · exact (hfit y hy).1
    · rw [List.mem_singleton.1 hy]; exact ht)
  clear hr mc lc hfit ho
  cases r0 : (r == 0)
  · have r1 : (r != 0) = true := by simpa using r0
    have r2 : ¬ r = 0 := by simpa using r0
    rcases num_cases l r with h | ⟨j, m, h, hm, -⟩
    · have HX := Lib.hid (show (postedR ⟨next, l⟩ s a t r) = (⟨0, []⟩, false) from postedR_no (by unfold postOk; rw [r0, h]; rfl))
      rw [h] at HF
      clear h r0
      (try clear hq); have hq := H.facts; simp only [factsOf, Pt.facts, CellsAt, Nat.add_zero, Nat.zero_add, Nat.reduceAdd, and_true, true_and, List.set_cons_zero, List.set_cons_succ] at hq
      go_enter Try.func55, Try.ntmps55
      go_wp2_with (go_at_call 105; (with_reducible refine (HF _ _ _ H (by repeat (first | with_reducible_and_instances exact .here | with_reducible refine .there ?_)) (by repeat (first | with_reducible_and_instances exact .here | with_reducible refine .there ?_))).mono ?_); rintro e w1 ⟨rfl, hb1⟩; replace H := H.below hb1; clear hb1; (try clear hq); have hq := H.facts; simp only [factsOf, Pt.facts, CellsAt, Nat.add_zero, Nat.zero_add, Nat.reduceAdd, and_true, true_and, List.set_cons_zero, List.set_cons_succ] at hq)
      go_ret
      exact ⟨⟨next, l⟩, _, _, c, by rw [HX.out]; rfl, H, fun h => by rw [HX.out] at h; cases h⟩
    have hj := (List.getElem?_eq_some_iff.1 hm).1
    have hj' : (j : Int) < (l.length : Int) := by omega
    have hc8 : ∀ (w : World) (ps : List Pt) (R : Nat → Prop) (H : St N R W w ps) (h2 : At (.ow (Message.s true l) (.slice A l.length c)) ps), ∃ b off, A = some ⟨b, off, none⟩ ∧ w.cell? ⟨b, off + j * 8 + 5, none⟩ = some (.bool m.xGone) := fun w ps R H h2 => by
      obtain ⟨b, off, us, h3, -, h5, h6⟩ := St.elemO H h2 (map_at (f := Message.d true) hm)
      obtain ⟨A7, c7, rfl, -⟩ := Message.cells h5
      exact ⟨b, off, h3, h6 5 _ rfl⟩
    obtain ⟨b, off, hA, hcell⟩ := hc8 _ _ _ H (by repeat (first | with_reducible_and_instances exact .here | with_reducible refine .there ?_))
    subst hA
    rw [h] at HF
    cases hg : m.xGone
    rotate_left
    · have HX := Lib.hid (show (postedR ⟨next, l⟩ s a t r) = (⟨0, []⟩, false) from postedR_no (by unfold postOk; rw [r0, gone_at h hm, hg, h]; simp))
      rw [hg] at hc8 hcell
      clear h hm hg r0
      (try clear hq); have hq := H.facts; simp only [factsOf, Pt.facts, CellsAt, Nat.add_zero, Nat.zero_add, Nat.reduceAdd, and_true, true_and, List.set_cons_zero, List.set_cons_succ] at hq
      go_enter Try.func55, Try.ntmps55
      go_wp2_with ((go_at_call 105; (with_reducible refine (HF _ _ _ H (by repeat (first | with_reducible_and_instances exact .here | with_reducible refine .there ?_)) (by repeat (first | with_reducible_and_instances exact .here | with_reducible refine .there ?_))).mono ?_); rintro e w1 ⟨rfl, hb1⟩; replace H := H.below hb1; clear hb1; (try clear hq); have hq := H.facts; simp only [factsOf, Pt.facts, CellsAt, Nat.add_zero, Nat.zero_add, Nat.reduceAdd, and_true, true_and, List.set_cons_zero, List.set_cons_succ] at hq); obtain ⟨b2, off2, hA2, hcell2⟩ := hc8 _ _ _ H (by repeat (first | with_reducible_and_instances exact .here | with_reducible refine .there ?_)); (injection hA2 with hA2; injection hA2 with hA2 hA3; subst hA2 hA3))
      go_ret
      exact ⟨⟨next, l⟩, _, _, c, by rw [HX.out]; rfl, H, fun h => by rw [HX.out] at h; cases h⟩
    have HX := Lib.hid (show (postedR ⟨next, l⟩ s a t r) = give ⟨next + 1, l ++ [(⟨next, s, a, t, 0, false, r, []⟩ : Message)]⟩ from postedR_yes (by unfold postOk; rw [r0, gone_at h hm, hg, h]; simp))
    rw [hg] at hc8 hcell
    clear h hm hg r0
    (try clear hq); have hq := H.facts; simp only [factsOf, Pt.facts, CellsAt, Nat.add_zero, Nat.zero_add, Nat.reduceAdd, and_true, true_and, List.set_cons_zero, List.set_cons_succ] at hq
    go_enter Try.func55, Try.ntmps55
    go_wp2_with ((go_at_call 105; (with_reducible refine (HF _ _ _ H (by repeat (first | with_reducible_and_instances exact .here | with_reducible refine .there ?_)) (by repeat (first | with_reducible_and_instances exact .here | with_reducible refine .there ?_))).mono ?_); rintro e w1 ⟨rfl, hb1⟩; replace H := H.below hb1; clear hb1; (try clear hq); have hq := H.facts; simp only [factsOf, Pt.facts, CellsAt, Nat.add_zero, Nat.zero_add, Nat.reduceAdd, and_true, true_and, List.set_cons_zero, List.set_cons_succ] at hq); obtain ⟨b2, off2, hA2, hcell2⟩ := hc8 _ _ _ H (by repeat (first | with_reducible_and_instances exact .here | with_reducible refine .there ?_)); (injection hA2 with hA2; injection hA2 with hA2 hA3; subst hA2 hA3))
    refine St.any H ?_
    intro w3 H
    (try clear hq); have hq := H.facts; simp only [factsOf, Pt.facts, CellsAt, Nat.add_zero, Nat.zero_add, Nat.reduceAdd, and_true, true_and, List.set_cons_zero, List.set_cons_succ] at hq
    go_region_law (refine by_step rfl (wp_append1P_at 1 _ _ 24 99 rfl Try.underlying24 (.agg #[.int .i64 0, .int .i64 0, .int .i64 0, .string ByteArray.empty, .int .i64 0, .bool false, .int .i64 0, .slice none 0 0]) 8 88 Message.inf rfl (by decide) (by decide) rfl #[.int .i64 next, .int .i64 s, .int .i64 a, .string t, .int .i64 0, .bool false, .int .i64 r, .slice none 0 0] rfl (by first | rfl | (simp; done)) (Message.d true (⟨next, s, a, t, 0, false, r, []⟩ : Message)) rfl H.drew rfl (Message.own0 rfl _) (by omega) ?_); intro A9 c9 w4 H; simp only [List.set_cons_zero, List.set_cons_succ] at H; (try clear hq); have hq := H.facts; simp only [factsOf, Pt.facts, CellsAt, Nat.add_zero, Nat.zero_add, Nat.reduceAdd, and_true, true_and, List.set_cons_zero, List.set_cons_succ] at hq)
    all_goals
      have H := (H.pull (k := 0) rfl).put' 1 (.slice A9 (l.length + 1) c9) #[.int .i64 next, .slice A9 (l.length + 1) c9] rfl
      simp only [List.set_cons_zero, List.set_cons_succ] at H
      generalize w4.setCell ⟨g, 1, none⟩ (.slice A9 (l.length + 1) c9) = w5 at H ⊢
      (try clear hq); have hq := H.facts; simp only [factsOf, Pt.facts, CellsAt, Nat.add_zero, Nat.zero_add, Nat.reduceAdd, and_true, true_and, List.set_cons_zero, List.set_cons_succ] at hq
      go_wp2_with fail
      have H := H.put' 0 (.int .i64 (next + 1)) #[.int .i64 (next + 1), .slice A9 (l.length + 1) c9] rfl
      rw [msgs_eq] at H
      refine (HG _ _ _ _ (H.lo (.inr (by repeat (first | with_reducible_and_instances exact .here | with_reducible refine .there ?_))))).mono ?_
      rintro e w6 ⟨rfl, hb5⟩
      replace H := H.below hb5
      clear hb5
      (try clear hq); have hq := H.facts; simp only [factsOf, Pt.facts, CellsAt, Nat.add_zero, Nat.zero_add, Nat.reduceAdd, and_true, true_and, List.set_cons_zero, List.set_cons_succ] at hq
      go_wp2
      go_ret
      refine ⟨⟨next + 1, l ++ [(⟨next, s, a, t, 0, false, r, []⟩ : Message)]⟩, A9, l.length + 1, c9, ?_, ?_, ?_⟩
      · rw [HX.out]; unfold give; split <;> simp_all
      · exact (H.front (.there .here)).tail
      · rw [HX.out]; unfold give; split <;> simp_all

  · have r2 : r = 0 := by simpa using r0
    have r1 : (r != 0) = false := by simp [r2]
    have HX := Lib.hid (show (postedR ⟨next, l⟩ s a t r) = give ⟨next + 1, l ++ [(⟨next, s, a, t, 0, false, r, []⟩ : Message)]⟩ from postedR_yes (by unfold postOk; rw [r0]; rfl))
    generalize numAt l r = q at *
    clear r0 r2
    (try clear hq); have hq := H.facts; simp only [factsOf, Pt.facts, CellsAt, Nat.add_zero, Nat.zero_add, Nat.reduceAdd, and_true, true_and, List.set_cons_zero, List.set_cons_succ] at hq
    go_enter Try.func55, Try.ntmps55
    go_wp2_with (go_at_call 105; (with_reducible refine (HF _ _ _ H (by repeat (first | with_reducible_and_instances exact .here | with_reducible refine .there ?_)) (by repeat (first | with_reducible_and_instances exact .here | with_reducible refine .there ?_))).mono ?_); rintro e w1 ⟨rfl, hb1⟩; replace H := H.below hb1; clear hb1; (try clear hq); have hq := H.facts; simp only [factsOf, Pt.facts, CellsAt, Nat.add_zero, Nat.zero_add, Nat.reduceAdd, and_true, true_and, List.set_cons_zero, List.set_cons_succ] at hq)
    refine St.any H ?_
    intro w3 H
    (try clear hq); have hq := H.facts; simp only [factsOf, Pt.facts, CellsAt, Nat.add_zero, Nat.zero_add, Nat.reduceAdd, and_true, true_and, List.set_cons_zero, List.set_cons_succ] at hq
    go_region_law (refine by_step rfl (wp_append1P_at 1 _ _ 24 99 rfl Try.underlying24 (.agg #[.int .i64 0, .int .i64 0, .int .i64 0, .string ByteArray.empty, .int .i64 0, .bool false, .int .i64 0, .slice none 0 0]) 8 88 Message.inf rfl (by decide) (by decide) rfl #[.int .i64 next, .int .i64 s, .int .i64 a, .string t, .int .i64 0, .bool false, .int .i64 r, .slice none 0 0] rfl (by first | rfl | (simp; done)) (Message.d true (⟨next, s, a, t, 0, false, r, []⟩ : Message)) rfl H.drew rfl (Message.own0 rfl _) (by omega) ?_); intro A9 c9 w4 H; simp only [List.set_cons_zero, List.set_cons_succ] at H; (try clear hq); have hq := H.facts; simp only [factsOf, Pt.facts, CellsAt, Nat.add_zero, Nat.zero_add, Nat.reduceAdd, and_true, true_and, List.set_cons_zero, List.set_cons_succ] at hq)
    all_goals
      have H := (H.pull (k := 0) rfl).put' 1 (.slice A9 (l.length + 1) c9) #[.int .i64 next, .slice A9 (l.length + 1) c9] rfl
      simp only [List.set_cons_zero, List.set_cons_succ] at H
      generalize w4.setCell ⟨g, 1, none⟩ (.slice A9 (l.length + 1) c9) = w5 at H ⊢
      (try clear hq); have hq := H.facts; simp only [factsOf, Pt.facts, CellsAt, Nat.add_zero, Nat.zero_add, Nat.reduceAdd, and_true, true_and, List.set_cons_zero, List.set_cons_succ] at hq
      go_wp2_with fail
      have H := H.put' 0 (.int .i64 (next + 1)) #[.int .i64 (next + 1), .slice A9 (l.length + 1) c9] rfl
      rw [msgs_eq] at H
      refine (HG _ _ _ _ (H.lo (.inr (by repeat (first | with_reducible_and_instances exact .here | with_reducible refine .there ?_))))).mono ?_
      rintro e w6 ⟨rfl, hb5⟩
      replace H := H.below hb5
      clear hb5
      (try clear hq); have hq := H.facts; simp only [factsOf, Pt.facts, CellsAt, Nat.add_zero, Nat.zero_add, Nat.reduceAdd, and_true, true_and, List.set_cons_zero, List.set_cons_succ] at hq
      go_wp2
      go_ret
      refine ⟨⟨next + 1, l ++ [(⟨next, s, a, t, 0, false, r, []⟩ : Message)]⟩, A9, l.length + 1, c9, ?_, ?_, ?_⟩
      · rw [HX.out]; unfold give; split <;> simp_all
      · exact (H.front (.there .here)).tail
      · rw [HX.out]; unfold give; split <;> simp_all

end Go.Proofs.Ytafihplbchofoaa

namespace Go.Proofs.Ytafihplbchofoaa
open Go.ChangeShapes Go.WideShapes Go.ChangeAt Go.RowKit Go.Dt
set_option linter.unusedVariables false
set_option linter.unusedSimpArgs false
def postedM (x : Log) (s a : Int) (t : ByteArray) (r : Int) : Log × Int × Bool := if x.ok = true ∧ (postedR x s a t r).2 = true then ((postedR x s a t r).1, x.xNext, true) else (⟨0, []⟩, 0, false)
def MadeLIB (W : World) (r : Log × Int × Bool) (e : Ending) (w' : World) : Prop := ∃ A n c F, e = .returned (.tuple #[.agg #[.int .i64 r.1.xNext, .slice A n c], .int .i64 r.2.1, .bool r.2.2]) ∧ Ow w' (Message.s true r.1.xMessages) (.slice A n c) F ∧ Below W.heap.size W w' ∧ ∀ b, F b → W.heap.size ≤ b
theorem madeLIB_no {W w' : World} {r : Log × Int × Bool} (hr : r = (⟨0, []⟩, 0, false)) (hb : Below W.heap.size W w') : MadeLIB W r (.returned (.tuple #[.agg #[.int .i64 0, .slice none 0 0], .int .i64 0, .bool false])) w' := by
  subst hr
  exact ⟨none, 0, 0, fun _ => False, rfl, .emp _ _ _ _ (fun _ h => h), hb, fun b h => h.elim⟩
theorem madeLIB_st {R : Nat → Prop} {W w' : World} {ps : List Pt} {y : Log} {k : Int} {r : Log × Int × Bool} {A : Option Addr} {n c : Nat} (H : St (Lo W.heap.size) R W w' ps) (ha : At (.ow (Message.s true y.xMessages) (.slice A n c)) ps) (hr : r = (y, k, true)) : MadeLIB W r (.returned (.tuple #[.agg #[.int .i64 y.xNext, .slice A n c], .int .i64 k, .bool true])) w' := by
  subst hr
  obtain ⟨F, h1, h2⟩ := H.own ha
  exact ⟨A, n, c, F, rfl, h1, H.belowW, fun b hb => Nat.le_of_not_lt (h2 b hb)⟩
set_option maxHeartbeats 3200000 in
set_option maxRecDepth 100000 in
theorem impl_PostMessage (x : Log) (s a : Int) (t : ByteArray) (r : Int) (us : List Value) (W : World) (hr : RoL W (Lo W.heap.size) (Log.d true x) us) (hw : ∀ m ∈ x.xMessages, m.xText.size ≤ maxLen) (ht : t.size ≤ maxLen) :
    Calls Try.prog 13 #[.agg us.toArray, .int .i64 s, .int .i64 a, .string t, .int .i64 r] W (MadeLIB W (postedM x s a t r)) := by
  obtain ⟨A, c, rfl, hr, hlc, hm⟩ := Log.cells hr
  have H := (St.start W).addro hr
  obtain ⟨next, l⟩ := x
  simp only at *
  have HV := fun (w : World) (ps : List Pt) (R : Nat → Prop) (H : St (Lo W.heap.size) R W w ps) (h1 : At (.ro (Message.s true l) (.slice A l.length c)) ps) => impl_ValidLog ⟨next, l⟩ _ w (Log.ros (H.lo (.inl h1))) hw
  clear hr hlc hm
  cases hv : Log.ok ⟨next, l⟩
  · have HX := Lib.hid (show postedM ⟨next, l⟩ s a t r = (⟨0, []⟩, 0, false) from if_neg (by rw [hv]; simp))
    rw [hv] at HV
    clear hv
    go_enter Try.func13, Try.ntmps13
    go_wp2_with (go_at_call 54; (with_reducible refine (HV _ _ _ (H.box2 _ _ _ _) (by repeat (first | with_reducible_and_instances exact .here | with_reducible refine .there ?_))).mono ?_); rintro e w1 ⟨rfl, hb1⟩; replace H := (H.box2 _ _ _ _).below hb1; clear hb1; (try clear hq); have hq := H.facts; simp only [factsOf, Pt.facts, CellsAt, Nat.add_zero, Nat.zero_add, Nat.reduceAdd, and_true, true_and, List.set_cons_zero, List.set_cons_succ] at hq)
    have hB := H.belowW
    exact bodyPost_ret (v := .tuple #[.agg #[.int .i64 0, .slice none 0 0], .int .i64 0, .bool false]) (by simp [results, Try.results13, go_sem, hq]) rfl (madeLIB_no HX.out (by (repeat (first | with_reducible assumption | with_reducible exact Below.refl _ _ | with_reducible refine Below.setCell ?_ ?_ _ | with_reducible refine Below.alloc ?_ ?_ _ | with_reducible refine Below.drew ?_ | with_reducible refine below_drewN ?_ _ | omega | (simp; done) | (simp; omega))); all_goals first | omega | (simp; done) | (simp; omega)))
  · have HC := fun (w : World) (ps : List Pt) (R : Nat → Prop) (H : St (Lo W.heap.size) R W w ps) (h1 : At (.ro (Message.s true l) (.slice A l.length c)) ps) => impl_cloneLog ⟨next, l⟩ _ w (Log.ros (H.lo (.inl h1))) (fun m hm => (Log.fit_at hv m hm).2) (Nat.le_trans (Log.few hv).1 (by decide))
    have HX := Lib.hid (show postedM ⟨next, l⟩ s a t r = if (postedR ⟨next, l⟩ s a t r).2 = true then ((postedR ⟨next, l⟩ s a t r).1, next, true) else (⟨0, []⟩, 0, false) from by unfold postedM; rw [hv]; simp)
    rw [hv] at HV
    have hv := Lib.hid hv
    go_enter Try.func13, Try.ntmps13
    go_wp2_with (go_at_call 54; (with_reducible refine (HV _ _ _ (H.box2 _ _ _ _) (by repeat (first | with_reducible_and_instances exact .here | with_reducible refine .there ?_))).mono ?_); rintro e w1 ⟨rfl, hb1⟩; replace H := (H.box2 _ _ _ _).below hb1; clear hb1; (try clear hq); have hq := H.facts; simp only [factsOf, Pt.facts, CellsAt, Nat.add_zero, Nat.zero_add, Nat.reduceAdd, and_true, true_and, List.set_cons_zero, List.set_cons_succ] at hq)
    refine (HC _ _ _ H (by repeat (first | with_reducible_and_instances exact .here | with_reducible refine .there ?_))).mono ?_
    rintro e w2 ⟨us2, F2, rfl, hO, hb, hF⟩
    obtain ⟨Ao, co, rfl, H⟩ := Log.st rfl (H.addos hb hO hF)
    clear hO hF hb
    (try clear hq); have hq := H.facts; simp only [factsOf, Pt.facts, CellsAt, Nat.add_zero, Nat.zero_add, Nat.reduceAdd, and_true, true_and, List.set_cons_zero, List.set_cons_succ] at hq
    go_wp2_with fail
    have H := H.box #[.int .i64 next, .slice Ao l.length co] 26
    refine (impl_postR ⟨next, l⟩ s a t r w2.heap.size co Ao (Lo W.heap.size) _ W _ _ H hv.out ht).mono ?_
    rintro e w3 ⟨y, A3, n3, c3, rfl, H, hy⟩
    (try clear hq); have hq := H.facts; simp only [factsOf, Pt.facts, CellsAt, Nat.add_zero, Nat.zero_add, Nat.reduceAdd, and_true, true_and, List.set_cons_zero, List.set_cons_succ] at hq
    cases hp : (postedR ⟨next, l⟩ s a t r).2
    · have HX := Lib.hid (show postedM ⟨next, l⟩ s a t r = (⟨0, []⟩, 0, false) from by rw [HX.out, hp]; rfl)
      clear hp hy
      go_wp2
      have hB := H.belowW
      exact bodyPost_ret (v := .tuple #[.agg #[.int .i64 0, .slice none 0 0], .int .i64 0, .bool false]) (by simp [results, Try.results13, go_sem, hq]) rfl (madeLIB_no HX.out (by (repeat (first | with_reducible assumption | with_reducible exact Below.refl _ _ | with_reducible refine Below.setCell ?_ ?_ _ | with_reducible refine Below.alloc ?_ ?_ _ | with_reducible refine Below.drew ?_ | with_reducible refine below_drewN ?_ _ | omega | (simp; done) | (simp; omega))); all_goals first | omega | (simp; done) | (simp; omega)))
    · have HX := Lib.hid (show postedM ⟨next, l⟩ s a t r = (y, next, true) from by rw [HX.out, hp, hy hp]; rfl)
      clear hp hy
      go_wp2_with fail
      refine St.any H ?_
      intro w4 H
      (try clear hq); have hq := H.facts; simp only [factsOf, Pt.facts, CellsAt, Nat.add_zero, Nat.zero_add, Nat.reduceAdd, and_true, true_and, List.set_cons_zero, List.set_cons_succ] at hq
      go_region_law (fail)
      all_goals
        have H3 := ((H.drew.pull (k := 2) rfl).put 0 (.int .i64 y.xNext)).put 1 (.slice A3 n3 c3)
        simp only [List.set_cons_zero, List.set_cons_succ] at H3
        (try clear hq); have hq := H.facts; simp only [factsOf, Pt.facts, CellsAt, Nat.add_zero, Nat.zero_add, Nat.reduceAdd, and_true, true_and, List.set_cons_zero, List.set_cons_succ] at hq
        go_wp2
        exact bodyPost_ret (v := .tuple #[.agg #[.int .i64 y.xNext, .slice A3 n3 c3], .int .i64 next, .bool true]) (by simp [results, Try.results13, go_sem, hq]) rfl (madeLIB_st (y := y) H3 (by repeat (first | with_reducible_and_instances exact .here | with_reducible refine .there ?_)) HX.out)
end Go.Proofs.Ytafihplbchofoaa

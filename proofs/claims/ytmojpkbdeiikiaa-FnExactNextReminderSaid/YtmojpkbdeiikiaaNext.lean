/- Reminders: right lists, the next one. -/
import Derived.Test.YtmojpkbdeiikiaaSl
namespace Go.Proofs.Ytmojpkbdeiikiaa
open Go.ChangeShapes Go.WideShapes Go.ChangeAt Go.RowKit Go.Dt
set_option linter.unusedVariables false
set_option linter.unusedSimpArgs false
def remOk (l : List Reminder) : Bool := decide (l.length ≤ 30) && l.all Reminder.ok
theorem any_not_ok (l : List Reminder) : (!(l.any fun r => !r.ok)) = l.all Reminder.ok := by
  rw [List.any_eq_not_all_not, Bool.not_not]; simp
theorem impl_remindersOk_1 (r : Reminder) (us : List Value) (W : World) (hr : RoL W (Lo W.heap.size) (Reminder.d true r) us) :
    Calls Try.prog 161 (#[.agg us.toArray] ++ #[]) W fun e w' => e = .returned (.bool (!r.ok)) ∧ Below W.heap.size W w' := by
  obtain rfl := Reminder.cells hr
  have HI := fun w => impl_IsReminder r w
  unfold Reminder.vals at HI
  clear hr
  generalize r.ok = o at *
  show Calls _ _ #[.agg _] _ _
  go_enter Try.func161, Try.ntmps161
  go_wp2_with (go_at_call 26; (with_reducible refine (HI _).mono ?_); rintro e w1 ⟨rfl, hb⟩; obtain ⟨hc, hf⟩ := bcell hb; have hz : W.heap.size < w1.heap.size := (by have hs := hb.size; (try simp at hs) <;> omega); have hB : Below W.heap.size W w1 := (by first | exact below_step (by assumption) hb (by omega) | exact below_step (by repeat (first | exact Below.refl _ _ | refine Below.setCell ?_ (by first | omega | (simp; done) | (simp; omega)) _ | refine Below.alloc ?_ (by first | omega | (simp; done) | (simp; omega)) _ | refine Below.drew ?_)) hb (by first | omega | (simp; done) | (simp; omega))))
  all_goals (go_ret; exact ⟨rfl, (by (repeat (first | with_reducible assumption | with_reducible exact Below.refl _ _ | with_reducible refine Below.setCell ?_ ?_ _ | with_reducible refine Below.alloc ?_ ?_ _ | with_reducible refine Below.drew ?_ | with_reducible refine below_drewN ?_ _ | omega | (simp; done) | (simp; omega))); all_goals first | omega | (simp; done) | (simp; omega))⟩)
set_option maxRecDepth 100000 in
theorem impl_remindersOk (l : List Reminder) (A : Option Addr) (c : Nat) (W : World) (hr : Ro W (Lo W.heap.size) (Reminder.s true l) (.slice A l.length c)) (hm : c ≤ maxLen) (hlc : l.length ≤ c) :
    Calls Try.prog 99 #[.slice A l.length c] W fun e w' => e = .returned (.bool (remOk l)) ∧ Below W.heap.size W w' := by
  have HC := ContainsFunc_Reminder 161 (fun _ _ => by rfl) #[] A c l (Reminder.d true) (fun r => !r.ok) W hr hm hlc (fun k x us w' _ h hb => impl_remindersOk_1 x us w' (rol_to h hb))
  have HA := Lib.hid (any_not_ok l)
  have HR := Lib.hid (show remOk l = (decide (l.length ≤ 30) && l.all Reminder.ok) from rfl)
  clear hr hm hlc
  generalize l.any (fun r => !r.ok) = o at *
  generalize l.length = n at *
  have HD := Lib.hid (show decide ((n : Int) ≤ 30) = decide (n ≤ 30) from by rw [decide_eq_decide]; omega)
  by_cases h30 : n ≤ 30
  all_goals
    go_enter Try.func99, Try.ntmps99
    go_wp2_with (go_at_call 160; (with_reducible refine (HC).mono ?_); rintro e w1 ⟨rfl, hb⟩; obtain ⟨hc, hf⟩ := bcell hb; have hB : Below W.heap.size W w1 := (by first | exact below_step (by assumption) hb (by omega) | exact below_step (by repeat (first | exact Below.refl _ _ | refine Below.setCell ?_ (by first | omega | (simp; done) | (simp; omega)) _ | refine Below.alloc ?_ (by first | omega | (simp; done) | (simp; omega)) _ | refine Below.drew ?_)) hb (by first | omega | (simp; done) | (simp; omega))))
    all_goals (go_ret; exact ⟨by rw [HR.out, ← HA.out]; simp [h30] <;> omega, (by (repeat (first | with_reducible assumption | with_reducible exact Below.refl _ _ | with_reducible refine Below.setCell ?_ ?_ _ | with_reducible refine Below.alloc ?_ ?_ _ | with_reducible refine Below.drew ?_ | with_reducible refine below_drewN ?_ _ | omega | (simp; done) | (simp; omega))); all_goals first | omega | (simp; done) | (simp; omega))⟩)
set_option maxRecDepth 100000 in
theorem spec_l09Reminders (l : List Reminder) (A : Option Addr) (c : Nat) (W : World) (hr : Ro W (Lo W.heap.size) (Reminder.s true l) (.slice A l.length c)) (hm : c ≤ maxLen) (hlc : l.length ≤ c) :
    Calls Try.prog 97 #[.slice A l.length c] W fun e w' => e = .returned (.bool (remOk l)) ∧ w' = W := by
  have hlen : l.length ≤ 9223372036854775807 := by simp only [maxLen] at hm; omega
  generalize hn : l.length = n at *
  have HN := Lib.hid hn
  clear hn
  go_enter Try.func97, Try.ntmps97
  go_wp2
  go_loopw [6] (fun k wr => ∃ j : Nat, j ≤ n ∧ k = .int .i64 j ∧ (l.take j).all Reminder.ok = true ∧ wr = W) (fun k _ => n - (intOf k).toNat)
  case atStart => exact ⟨0, by omega, rfl, by simp, rfl⟩
  case round =>
    obtain ⟨j, hj, rfl, hq, rfl⟩ := hrel
    have HQ := Lib.hid hq
    clear hq
    by_cases hlt : j < n
    · obtain ⟨x, hx⟩ := get_lt (l := l) (k := j) (by rw [HN.out]; exact hlt)
      obtain ⟨b, off, us, rfl, hbl, hul, hru, hcl⟩ := Ro.later hr (Below.refl _ _) (Nat.le_refl _) (map_at (f := Reminder.d true) hx)
      obtain rfl := Reminder.cells hru
      have HS := spec_l09Reminder x b (off + j * 5) wr (fun i u h => hcl i u (by unfold Reminder.vals at h; simpa using h))
      have HX := Lib.hid hx
      clear hx hr hcl hru hul
      cases ho : x.ok
      · rw [ho] at HS
        have HO := Lib.hid (show remOk l = false from by
          unfold remOk
          rw [Bool.and_eq_false_iff]
          exact .inr (List.all_eq_false.2 ⟨x, List.mem_of_getElem? HX.out, by simp [ho]⟩))
        clear ho
        go_wp2_with fail
        refine HS.mono ?_
        rintro e w1 ⟨rfl, rfl⟩
        go_wp2
        go_ret
        simp [HO.out]
      · rw [ho] at HS
        have HO := Lib.hid (show (l.take (j + 1)).all Reminder.ok = true from by rw [List.take_add_one, HX.out]; simp [List.all_append, HQ.out, ho])
        clear ho
        go_wp2_with fail
        refine HS.mono ?_
        rintro e w1 ⟨rfl, rfl⟩
        go_wp2
        go_roundw
        case rel => exact ⟨j + 1, by omega, by go_num, HO.out, by first | rfl | trivial⟩
        case measure => simp [intOf]; omega
    · obtain rfl : j = n := by omega
      have HO := Lib.hid (show remOk l = decide (j ≤ 30) from by
        have := HQ.out
        rw [List.take_of_length_le (by have := HN.out; omega)] at this
        unfold remOk
        rw [this, HN.out, Bool.and_true])
      clear hr
      by_cases h30 : j ≤ 30
      all_goals
        go_wp2
        go_ret
        simp [HO.out] <;> omega
def mn (a b : Int) : Int := if a < b then a else b
/-- The least tick of a list, no later than b. -/
def least (b : Int) (l : List Reminder) : Int := l.foldl (fun b r => mn b r.xAt) b
theorem least_snoc {b : Int} {l : List Reminder} {j : Nat} {x : Reminder} (h : l[j]? = some x) : least b (l.take (j + 1)) = mn (least b (l.take j)) x.xAt := by
  unfold least
  rw [List.take_add_one, h, List.foldl_append]
  rfl
def nextRem (l : List Reminder) : Int × Bool := if remOk l = true then (match l with | [] => (0, false) | x :: r => (least x.xAt (x :: r), true)) else (0, false)
theorem spec_l00Min (a b : Int) (w : World) : Calls Try.prog 98 #[.int .i64 a, .int .i64 b] w fun e w' => e = .returned (.int .i64 (mn a b)) ∧ w = w' := by
  unfold mn
  by_cases h : a < b
  all_goals
    go_enter Try.func98, Try.ntmps98
    go_wp2
    go_ret
    exact ⟨by simp [h], rfl⟩
set_option maxRecDepth 100000 in
theorem spec_NextReminder (l : List Reminder) (A : Option Addr) (c : Nat) (W : World) (hr : Ro W (Lo W.heap.size) (Reminder.s true l) (.slice A l.length c)) (hm : c ≤ maxLen) (hlc : l.length ≤ c) :
    Calls Try.prog 28 #[.slice A l.length c] W fun e w' => e = .returned (.tuple #[.int .i64 (nextRem l).1, .bool (nextRem l).2]) ∧ Below W.heap.size W w' := by
  have HK := spec_l09Reminders l A c W hr hm hlc
  have hlen : l.length ≤ 9223372036854775807 := by simp only [maxLen] at hm; omega
  generalize hn : l.length = n at *
  have HN := Lib.hid hn
  cases ho : remOk l
  · rw [ho] at HK
    have HO := Lib.hid (show nextRem l = (0, false) from by unfold nextRem; rw [ho]; rfl)
    clear hn hr ho
    go_enter Try.func28, Try.ntmps28
    go_wp2_with fail
    refine HK.mono ?_
    rintro e w1 ⟨rfl, rfl⟩
    go_wp2
    exact bodyPost_ret (v := .tuple #[.int .i64 0, .bool false]) (by simp [results, Try.results28, go_sem]) rfl ⟨by rw [HO.out], (by (repeat (first | with_reducible assumption | with_reducible exact Below.refl _ _ | with_reducible refine Below.setCell ?_ ?_ _ | with_reducible refine Below.alloc ?_ ?_ _ | with_reducible refine Below.drew ?_ | with_reducible refine below_drewN ?_ _ | omega | (simp; done) | (simp; omega))); all_goals first | omega | (simp; done) | (simp; omega))⟩
  · rw [ho] at HK
    by_cases h0 : n = 0
    · subst h0
      have HO := Lib.hid (show nextRem l = (0, false) from by rw [List.eq_nil_of_length_eq_zero hn]; unfold nextRem; split <;> rfl)
      clear hn hr ho
      go_enter Try.func28, Try.ntmps28
      go_wp2_with fail
      refine HK.mono ?_
      rintro e w1 ⟨rfl, rfl⟩
      go_wp2
      exact bodyPost_ret (v := .tuple #[.int .i64 0, .bool false]) (by simp [results, Try.results28, go_sem]) rfl ⟨by rw [HO.out], (by (repeat (first | with_reducible assumption | with_reducible exact Below.refl _ _ | with_reducible refine Below.setCell ?_ ?_ _ | with_reducible refine Below.alloc ?_ ?_ _ | with_reducible refine Below.drew ?_ | with_reducible refine below_drewN ?_ _ | omega | (simp; done) | (simp; omega))); all_goals first | omega | (simp; done) | (simp; omega))⟩
    · obtain ⟨x, hx⟩ := get_lt (l := l) (k := 0) (by rw [hn]; omega)
      obtain ⟨b, off, us, rfl, hbl, hul, hru, hcl⟩ := Ro.later hr (Below.refl _ _) (Nat.le_refl _) (map_at (f := Reminder.d true) hx)
      obtain rfl := Reminder.cells hru
      have k2 : W.cell? ⟨b, off + 2, none⟩ = some (.int .i64 x.xAt) := by have := hcl 2 _ rfl; simpa using this
      have HO := Lib.hid (show nextRem l = (least x.xAt l, true) from by
        unfold nextRem
        rw [ho, if_pos rfl]
        cases l with
        | nil => simp at hx
        | cons y r => simp at hx; subst hx; rfl)
      have hB : ((n : Int) == 0) = false := by simp; omega
      clear hn hcl hx hru hul ho
      go_enter Try.func28, Try.ntmps28
      go_wp2_with fail
      refine HK.mono ?_
      rintro e w1 ⟨rfl, rfl⟩
      clear HK
      go_wp2
      go_loopw [4, 20] (fun m k wr => ∃ j : Nat, j ≤ n ∧ k = .int .i64 j ∧ (∃ M : Int, m = .int .i64 M ∧ Hid (M = least x.xAt (l.take j))) ∧ wr = w1) (fun _ k _ => n - (intOf k).toNat)
      case atStart => exact ⟨0, by omega, rfl, ⟨_, rfl, Lib.hid (by simp [least])⟩, rfl⟩
      case round =>
        obtain ⟨j, hj, rfl, ⟨M, rfl, HM⟩, rfl⟩ := hrel
        by_cases hlt : j < n
        · obtain ⟨y, hy⟩ := get_lt (l := l) (k := j) (by rw [HN.out]; exact hlt)
          obtain ⟨b', off', us, hbo, hbl', hul, hru, hcl⟩ := Ro.later hr (Below.refl _ _) (Nat.le_refl _) (map_at (f := Reminder.d true) hy)
          injection hbo with hbo; injection hbo with hb1 hb2; subst hb1; subst hb2
          obtain rfl := Reminder.cells hru
          have kj : wr.cell? ⟨b, off + j * 5 + 2, none⟩ = some (.int .i64 y.xAt) := hcl 2 _ rfl
          have HY := Lib.hid (least_snoc (b := x.xAt) hy)
          clear hcl hru hul hy hr
          go_wp2_with (go_at_call 98; (with_reducible refine (spec_l00Min _ _ _).mono ?_); rintro e w' ⟨rfl, rfl⟩)
          go_roundw
          case rel => exact ⟨j + 1, by omega, by go_num, ⟨_, rfl, Lib.hid (by rw [HY.out, ← HM.out])⟩, by first | rfl | trivial⟩
          case measure => simp [intOf]; omega
        · obtain rfl : j = n := by omega
          clear hr
          go_wp2
          exact bodyPost_ret (v := .tuple #[.int .i64 M, .bool true]) (by simp [results, Try.results28, go_sem]) rfl ⟨by rw [HO.out, HM.out, List.take_of_length_le (by have := HN.out; omega)], (by (repeat (first | with_reducible assumption | with_reducible exact Below.refl _ _ | with_reducible refine Below.setCell ?_ ?_ _ | with_reducible refine Below.alloc ?_ ?_ _ | with_reducible refine Below.drew ?_ | with_reducible refine below_drewN ?_ _ | omega | (simp; done) | (simp; omega))); all_goals first | omega | (simp; done) | (simp; omega))⟩
set_option maxRecDepth 100000 in
theorem impl_NextReminder (l : List Reminder) (A : Option Addr) (c : Nat) (W : World) (hr : Ro W (Lo W.heap.size) (Reminder.s true l) (.slice A l.length c)) (hm : c ≤ maxLen) (hlc : l.length ≤ c) :
    Calls Try.prog 30 #[.slice A l.length c] W fun e w' => e = .returned (.tuple #[.int .i64 (nextRem l).1, .bool (nextRem l).2]) ∧ Below W.heap.size W w' := by
  have HK := impl_remindersOk l A c W hr hm hlc
  have hlen : l.length ≤ 9223372036854775807 := by simp only [maxLen] at hm; omega
  generalize hn : l.length = n at *
  have HN := Lib.hid hn
  cases ho : remOk l
  · rw [ho] at HK
    have HO := Lib.hid (show nextRem l = (0, false) from by unfold nextRem; rw [ho]; rfl)
    clear hn hr ho
    go_enter Try.func30, Try.ntmps30
    go_wp2_with fail
    refine HK.mono ?_
    rintro e w1 ⟨rfl, hb1⟩
    go_wp2
    exact bodyPost_ret (v := .tuple #[.int .i64 0, .bool false]) (by simp [results, Try.results30, go_sem]) rfl ⟨by rw [HO.out], (by (repeat (first | with_reducible assumption | with_reducible exact Below.refl _ _ | with_reducible refine Below.setCell ?_ ?_ _ | with_reducible refine Below.alloc ?_ ?_ _ | with_reducible refine Below.drew ?_ | with_reducible refine below_drewN ?_ _ | omega | (simp; done) | (simp; omega))); all_goals first | omega | (simp; done) | (simp; omega))⟩
  · rw [ho] at HK
    by_cases h0 : n = 0
    · subst h0
      have HO := Lib.hid (show nextRem l = (0, false) from by rw [List.eq_nil_of_length_eq_zero hn]; unfold nextRem; split <;> rfl)
      clear hn hr ho
      go_enter Try.func30, Try.ntmps30
      go_wp2_with fail
      refine HK.mono ?_
      rintro e w1 ⟨rfl, hb1⟩
      go_wp2
      exact bodyPost_ret (v := .tuple #[.int .i64 0, .bool false]) (by simp [results, Try.results30, go_sem]) rfl ⟨by rw [HO.out], (by (repeat (first | with_reducible assumption | with_reducible exact Below.refl _ _ | with_reducible refine Below.setCell ?_ ?_ _ | with_reducible refine Below.alloc ?_ ?_ _ | with_reducible refine Below.drew ?_ | with_reducible refine below_drewN ?_ _ | omega | (simp; done) | (simp; omega))); all_goals first | omega | (simp; done) | (simp; omega))⟩
    · obtain ⟨x, hx⟩ := get_lt (l := l) (k := 0) (by rw [hn]; omega)
      obtain ⟨b, off, us, rfl, hbl, hul, hru, hcl⟩ := Ro.later hr (Below.refl _ _) (Nat.le_refl _) (map_at (f := Reminder.d true) hx)
      obtain rfl := Reminder.cells hru
      have k2 : W.cell? ⟨b, off + 2, none⟩ = some (.int .i64 x.xAt) := by have := hcl 2 _ rfl; simpa using this
      have HO := Lib.hid (show nextRem l = (least x.xAt l, true) from by
        unfold nextRem
        rw [ho, if_pos rfl]
        cases l with
        | nil => simp at hx
        | cons y r => simp at hx; subst hx; rfl)
      have hB : ((n : Int) == 0) = false := by simp; omega
      clear hn hcl hx hru hul ho
      go_enter Try.func30, Try.ntmps30
      go_wp2_with fail
      refine HK.mono ?_
      rintro e w1 ⟨rfl, hb1⟩
      clear HK
      have k2 : w1.cell? ⟨b, off + 2, none⟩ = some (.int .i64 x.xAt) := (hb1.cell hbl).trans k2
      go_wp2
      go_loopw [4, 21] (fun m k wr => ∃ j : Nat, j ≤ n ∧ k = .int .i64 j ∧ (∃ M : Int, m = .int .i64 M ∧ Hid (M = least x.xAt (l.take j))) ∧ Below W.heap.size W wr) (fun _ k _ => n - (intOf k).toNat)
      case atStart => exact ⟨0, by omega, rfl, ⟨_, rfl, Lib.hid (by simp [least])⟩, hb1⟩
      case round =>
        obtain ⟨j, hj, rfl, ⟨M, rfl, HM⟩, hb⟩ := hrel
        by_cases hlt : j < n
        · obtain ⟨y, hy⟩ := get_lt (l := l) (k := j) (by rw [HN.out]; exact hlt)
          obtain ⟨b', off', us, hbo, hbl', hul, hru, hcl⟩ := Ro.later hr hb (Nat.le_refl _) (map_at (f := Reminder.d true) hy)
          injection hbo with hbo; injection hbo with hb1 hb2; subst hb1; subst hb2
          obtain rfl := Reminder.cells hru
          have c0 : wr.cell? ⟨b, off + j * 5, none⟩ = some (.int .i64 y.xMember) := hcl 0 _ rfl; have c1 : wr.cell? ⟨b, off + j * 5 + 1, none⟩ = some (.int .i64 y.xNumber) := hcl 1 _ rfl; have c2 : wr.cell? ⟨b, off + j * 5 + 2, none⟩ = some (.int .i64 y.xAt) := hcl 2 _ rfl; have c3 : wr.cell? ⟨b, off + j * 5 + 3, none⟩ = some (.int .i64 y.xEvery) := hcl 3 _ rfl; have c4 : wr.cell? ⟨b, off + j * 5 + 4, none⟩ = some (.int .i64 y.xLeft) := hcl 4 _ rfl
          have hbs := hb.size
          have HY := Lib.hid (least_snoc (b := x.xAt) hy)
          clear hcl hru hul hy hr
          go_wp2
          go_roundw
          case rel => exact ⟨j + 1, by omega, by go_num, ⟨_, rfl, Lib.hid (by rw [HY.out, ← HM.out]; unfold mn; split <;> split <;> omega)⟩, (by (repeat (first | with_reducible assumption | with_reducible exact Below.refl _ _ | with_reducible refine Below.setCell ?_ ?_ _ | with_reducible refine Below.alloc ?_ ?_ _ | with_reducible refine Below.drew ?_ | with_reducible refine below_drewN ?_ _ | omega | (simp; done) | (simp; omega))); all_goals first | omega | (simp; done) | (simp; omega))⟩
          case measure => simp [intOf]; omega
        · obtain rfl : j = n := by omega
          clear hr
          go_wp2
          exact bodyPost_ret (v := .tuple #[.int .i64 M, .bool true]) (by simp [results, Try.results30, go_sem]) rfl ⟨by rw [HO.out, HM.out, List.take_of_length_le (by have := HN.out; omega)], (by (repeat (first | with_reducible assumption | with_reducible exact Below.refl _ _ | with_reducible refine Below.setCell ?_ ?_ _ | with_reducible refine Below.alloc ?_ ?_ _ | with_reducible refine Below.drew ?_ | with_reducible refine below_drewN ?_ _ | omega | (simp; done) | (simp; omega))); all_goals first | omega | (simp; done) | (simp; omega))⟩
namespace FnExactNextReminder
theorem open_ (W : World) (A0 : Option Addr) (n0 c0 : Nat) (e0 : List D) (t0 : IsL [.sl 29 5 [.int .i64, .int .i64, .int .i64, .int .i64, .int .i64]] e0) (x0 : RoL W (Lo W.heap.size) e0 [.slice A0 n0 c0]) :
    ∃ l : List Reminder, n0 = l.length ∧ Ro W (Lo W.heap.size) (Reminder.s false l) (.slice A0 l.length c0) ∧ (∀ y ∈ l, Reminder.wf y) ∧ l.length ≤ c0 ∧ c0 ≤ maxLen := by
  obtain ⟨d0, ds0, rfl, i0, r0⟩ := t0.uncons
  obtain ⟨l, rfl, w0⟩ := Is.sl_inv (Reminder.d false) Reminder.wf (fun ds h => Reminder.is h) i0
  obtain rfl := r0.unnil
  obtain ⟨u, us, hu, h0, _⟩ := x0.uncons
  injection hu with h1 h2
  subst h1
  obtain ⟨A, c, hv, l0, m0⟩ := h0.sl_inv
  injection hv with e1 e2 e3
  simp only [List.length_map] at e2 l0 h0
  subst e1; subst e2; subst e3
  exact ⟨l, rfl, h0, w0, l0, m0⟩
set_option maxRecDepth 100000 in
theorem walk (W : World) (A0 : Option Addr) (n0 c0 : Nat) (e0 : List D) (t0 : IsL [.sl 29 5 [.int .i64, .int .i64, .int .i64, .int .i64, .int .i64]] e0) (x0 : RoL W (Lo W.heap.size) e0 [.slice A0 n0 c0]) :
    Calls Try.prog 5 #[.slice A0 n0 c0] W fun e w' => e = .returned (.bool true) ∧ Below W.heap.size W w' := by
  obtain ⟨l, rfl, hr, hw, hlc, hm⟩ := open_ W A0 n0 c0 e0 t0 x0
  clear t0 x0
  have HSZ := laws_szReminderS l A0 c0 1048576 W hr hw hlc hm (by omega) (by omega)
  by_cases hz : (Reminder.zs l : Int) ≤ 1048576
  · rw [szr_yes hz] at HSZ
    have HT := fun (w : World) (hb : Below W.heap.size W w) => laws_toReminderS l A0 c0 w (ro_to hr hb) (by omega)
    clear hr hw hlc hm
    go_enter Try.func5, Try.ntmps5
    go_wp2_with fail
    refine HSZ.mono ?_
    rintro e w1 ⟨rfl, hB1⟩
    go_wp2_with fail
    refine (HT w1 hB1).mono ?_
    rintro e w2 ⟨v2, F2, rfl, hO2, hb2, hF2⟩
    obtain ⟨A2, c2, rfl, l2, m2⟩ := hO2.shape
    rw [List.length_map] at l2 hO2 ⊢
    have hB2 := hB1.trans (hb2.mono hB1.size)
    go_wp2_with fail
    refine (spec_NextReminder l A2 c2 w2 hO2.lo m2 l2).mono ?_
    rintro e w3 ⟨rfl, hb3⟩
    have hB3 := hB2.trans (hb3.mono hB2.size)
    go_wp2_with fail
    refine (HT w3 hB3).mono ?_
    rintro e w4 ⟨v4, F4, rfl, hO4, hb4, hF4⟩
    obtain ⟨A4, c4, rfl, l4, m4⟩ := hO4.shape
    rw [List.length_map] at l4 hO4 ⊢
    have hB4 := hB3.trans (hb4.mono hB3.size)
    go_wp2_with fail
    refine (impl_NextReminder l A4 c4 w4 hO4.lo m4 l4).mono ?_
    rintro e w5 ⟨rfl, hb5⟩
    have hB5 := hB4.trans (hb5.mono hB4.size)
    go_wp2_with fail
    refine (HT w5 hB5).mono ?_
    rintro e w6 ⟨v6, F6, rfl, hO6, hb6, hF6⟩
    obtain ⟨A6, c6, rfl, l6, m6⟩ := hO6.shape
    rw [List.length_map] at l6 hO6 ⊢
    have hB6 := hB5.trans (hb6.mono hB5.size)
    have HE := laws_eqReminderS l l A4 A6 c4 c6 w6 ((hO4.keep hb5).keep hb6).lo hO6.lo m4 m6 l4 l6
    rw [decide_eq_true rfl] at HE
    go_wp2_with fail
    refine HE.mono ?_
    rintro e w7 ⟨rfl, hb7⟩
    go_wp2
    go_ret
    exact ⟨rfl, hB6.trans (hb7.mono hB6.size)⟩
  · rw [szr_no hz] at HSZ
    go_enter Try.func5, Try.ntmps5
    go_wp2_with fail
    refine HSZ.mono ?_
    rintro e w1 ⟨rfl, hB1⟩
    go_wp2
    go_ret
    exact ⟨rfl, hB1⟩
end FnExactNextReminder
end Go.Proofs.Ytmojpkbdeiikiaa

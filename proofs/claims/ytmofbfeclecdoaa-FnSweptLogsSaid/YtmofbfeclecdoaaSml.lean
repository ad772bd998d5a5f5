/- Logs compared. -/
import Derived.Test.YtmofbfeclecdoaaStm
import Derived.Test.YtmofbfeclecdoaaSame
import Derived.Test.YtmofbfeclecdoaaCop
namespace Go.Proofs.Ytmofbfeclecdoaa
open Go.ChangeShapes Go.WideShapes Go.ChangeAt Go.RowKit Go.Dt
set_option linter.unusedVariables false
set_option linter.unusedSimpArgs false
def sameL (x y : Log) : Bool := x.xNext == y.xNext && decide (x.xMessages = y.xMessages)
set_option maxHeartbeats 1600000 in
set_option maxRecDepth 100000 in
theorem impl_SameLog (x y : Log) (us vs : List Value) (W : World) (hr : RoL W (Lo W.heap.size) (Log.d true x) us) (hs : RoL W (Lo W.heap.size) (Log.d true y) vs) :
    Calls Try.prog 42 #[.agg us.toArray, .agg vs.toArray] W fun e w' => e = .returned (.bool (sameL x y)) ∧ Below W.heap.size W w' := by
  obtain ⟨A, c, rfl, r1, hlc, hm⟩ := Log.cells hr
  obtain ⟨A', c', rfl, r2, hlc', hm'⟩ := Log.cells hs
  have H := ((St.start W).addro r1).addro r2
  obtain ⟨next, l⟩ := x
  obtain ⟨next', l'⟩ := y
  simp only at *
  have HE := fun (w : World) (ps : List Pt) (R : Nat → Prop) (H : St (Lo W.heap.size) R W w ps) (h1 : At (.ro (Message.s true l) (.slice A l.length c)) ps) (h2 : At (.ro (Message.s true l') (.slice A' l'.length c')) ps) => EqualFunc_same l l' A A' c c' w (H.lo (.inl h1)) (H.lo (.inl h2)) hm hlc hm' hlc'
  have HX := Lib.hid (show sameL ⟨next, l⟩ ⟨next', l'⟩ = (next == next' && decide (l = l')) from rfl)
  generalize decide (l = l') = z at *
  clear hr hs r1 r2 hm hm' hlc hlc'
  cases hn : (next == next')
  · rw [hn] at HX
    have g1 : ¬ next = next' := by simpa using hn
    go_enter Try.func42, Try.ntmps42
    go_wp2
    go_ret
    exact ⟨by rw [HX.out]; rfl, (by (repeat (first | with_reducible assumption | with_reducible exact Below.refl _ _ | with_reducible refine Below.setCell ?_ ?_ _ | with_reducible refine Below.alloc ?_ ?_ _ | with_reducible refine Below.drew ?_ | with_reducible refine below_drewN ?_ _ | omega | (simp; done) | (simp; omega))); all_goals first | omega | (simp; done) | (simp; omega))⟩
  · rw [hn] at HX
    have g1 : next = next' := by simpa using hn
    go_enter Try.func42, Try.ntmps42
    go_wp2_with (go_at_call 105; (refine (HE _ _ _ (H.box2 _ _ _ _) (by repeat (first | with_reducible_and_instances exact .here | with_reducible refine .there ?_)) (by repeat (first | with_reducible_and_instances exact .here | with_reducible refine .there ?_))).mono ?_); rintro e w1 ⟨rfl, hb1⟩; replace H := (H.box2 _ _ _ _).below hb1; clear hb1; (try clear hq); have hq := H.facts; simp only [factsOf, Pt.facts, CellsAt, Nat.add_zero, Nat.zero_add, Nat.reduceAdd, and_true, true_and, List.set_cons_zero, List.set_cons_succ] at hq)
    go_ret
    exact ⟨by rw [HX.out]; rfl, H.belowW⟩
theorem same_bad {l m : List Message} {j : Nat} {u v : Message} (hu : l[j]? = some u) (hv : m[j]? = some v) (h : u ≠ v) : decide (l = m) = false := by
  rw [decide_eq_false_iff_not]
  rintro rfl
  rw [hu] at hv; injection hv with hv; exact h hv
set_option maxHeartbeats 3200000 in
set_option maxRecDepth 100000 in
theorem spec_l03Same (x y : Log) (b0 o0 b1 o1 : Nat) (A A' : Option Addr) (c c' : Nat) (W : World) (k0 : CellsAt W b0 o0 0 [.int .i64 x.xNext, .slice A x.xMessages.length c]) (k1 : CellsAt W b1 o1 0 [.int .i64 y.xNext, .slice A' y.xMessages.length c'])
    (hr : Ro W (Lo W.heap.size) (Message.s true x.xMessages) (.slice A x.xMessages.length c)) (hs : Ro W (Lo W.heap.size) (Message.s true y.xMessages) (.slice A' y.xMessages.length c')) :
    Calls Try.prog 107 #[.pointer (some ⟨b0, o0, none⟩), .pointer (some ⟨b1, o1, none⟩)] W fun e w' => e = .returned (.bool (sameL x y)) ∧ Below W.heap.size W w' := by
  have H := ((((St.start W).addro hr).addro hs).addcells (World.block_lt_of_cell? W _ k0.1) k0).addcells (World.block_lt_of_cell? W _ k1.1) k1
  have mc := hr.sl_max
  have lc := hr.sl_cap
  have mc' := hs.sl_max
  have lc' := hs.sl_cap
  obtain ⟨next, l⟩ := x
  obtain ⟨next', l'⟩ := y
  simp only at *
  have hlen : l.length ≤ 9223372036854775807 := by simp only [maxLen] at mc; omega
  have hlen' : l'.length ≤ 9223372036854775807 := by simp only [maxLen] at mc'; omega
  clear k0 k1 hr hs mc lc mc' lc'
  have HX := Lib.hid (show sameL ⟨next, l⟩ ⟨next', l'⟩ = (next == next' && decide (l = l')) from rfl)
  by_cases g1 : next = next'
  rotate_left
  · have HX := Lib.hid (show sameL ⟨next, l⟩ ⟨next', l'⟩ = false from by rw [HX.out]; simp [g1])
    have g1 : (next != next') = true := by simp [g1]
    (try clear hq); have hq := H.facts; simp only [factsOf, Pt.facts, CellsAt, Nat.add_zero, Nat.zero_add, Nat.reduceAdd, and_true, true_and, List.set_cons_zero, List.set_cons_succ] at hq
    go_enter Try.func107, Try.ntmps107
    go_wp2_with fail
    refine St.any H ?_
    intro w2 H
    (try clear hq); have hq := H.facts; simp only [factsOf, Pt.facts, CellsAt, Nat.add_zero, Nat.zero_add, Nat.reduceAdd, and_true, true_and, List.set_cons_zero, List.set_cons_succ] at hq
    have hxx := (After.cells w2.heap.size w2).1
    refine wp_region_after (w2.heap.size) (by kernel_rfl) (by kernel_rfl) ?_; (repeat (go_big_quiet_step (fail))); refine wpQuiet_nil ?_; intro w1 hb1
    replace H := H.below hb1
    clear hxx
    (try clear hq); have hq := H.facts; simp only [factsOf, Pt.facts, CellsAt, Nat.add_zero, Nat.zero_add, Nat.reduceAdd, and_true, true_and, List.set_cons_zero, List.set_cons_succ] at hq
    go_wp2
    go_ret
    exact ⟨by rw [HX.out]; rfl, H.belowW⟩
  by_cases g2 : l.length = l'.length
  rotate_left
  · have HX := Lib.hid (show sameL ⟨next, l⟩ ⟨next', l'⟩ = false from by rw [HX.out, decide_eq_false (fun h : l = l' => g2 (by rw [h]))]; simp)
    have g3 : ((l.length : Int) != (l'.length : Int)) = true := by simp; omega
    have g1 : (next != next') = false := by simp [g1]
    clear g2
    (try clear hq); have hq := H.facts; simp only [factsOf, Pt.facts, CellsAt, Nat.add_zero, Nat.zero_add, Nat.reduceAdd, and_true, true_and, List.set_cons_zero, List.set_cons_succ] at hq
    go_enter Try.func107, Try.ntmps107
    go_wp2_with fail
    refine St.any H ?_
    intro w2 H
    (try clear hq); have hq := H.facts; simp only [factsOf, Pt.facts, CellsAt, Nat.add_zero, Nat.zero_add, Nat.reduceAdd, and_true, true_and, List.set_cons_zero, List.set_cons_succ] at hq
    have hxx := (After.cells w2.heap.size w2).1
    refine wp_region_after (w2.heap.size) (by kernel_rfl) (by kernel_rfl) ?_; (repeat (go_big_quiet_step (fail))); refine wpQuiet_nil ?_; intro w1 hb1
    replace H := H.below hb1
    clear hxx
    (try clear hq); have hq := H.facts; simp only [factsOf, Pt.facts, CellsAt, Nat.add_zero, Nat.zero_add, Nat.reduceAdd, and_true, true_and, List.set_cons_zero, List.set_cons_succ] at hq
    go_wp2
    go_ret
    exact ⟨by rw [HX.out]; rfl, H.belowW⟩
  have HX := Lib.hid (show sameL ⟨next, l⟩ ⟨next', l'⟩ = decide (l = l') from by rw [HX.out]; simp [g1])
  have g1 : (next != next') = false := by simp [g1]
  clear hlen'
  have HN' := Lib.hid g2
  rw [← g2] at H
  generalize hn : l.length = n at *
  have HN := Lib.hid hn
  clear hn g2
  (try clear hq); have hq := H.facts; simp only [factsOf, Pt.facts, CellsAt, Nat.add_zero, Nat.zero_add, Nat.reduceAdd, and_true, true_and, List.set_cons_zero, List.set_cons_succ] at hq
  go_enter Try.func107, Try.ntmps107
  go_wp2_with fail
  refine St.any H ?_
  intro w2 H
  (try clear hq); have hq := H.facts; simp only [factsOf, Pt.facts, CellsAt, Nat.add_zero, Nat.zero_add, Nat.reduceAdd, and_true, true_and, List.set_cons_zero, List.set_cons_succ] at hq
  have hxx := (After.cells w2.heap.size w2).1
  refine wp_region_after (w2.heap.size) (by kernel_rfl) (by kernel_rfl) ?_; (repeat (go_big_quiet_step (fail))); refine wpQuiet_nil ?_; intro w1 hb1
  replace H := H.below hb1
  clear hxx
  (try clear hq); have hq := H.facts; simp only [factsOf, Pt.facts, CellsAt, Nat.add_zero, Nat.zero_add, Nat.reduceAdd, and_true, true_and, List.set_cons_zero, List.set_cons_succ] at hq
  go_wp2
  go_loopw [33] (fun k wr => ∃ j : Nat, j ≤ n ∧ k = .int .i64 j ∧ Hid (l.take j = l'.take j) ∧ St (Lo W.heap.size) (Lo W.heap.size) W wr [.rd b1 o1 [.int .i64 next', .slice A' n c'], .rd b0 o0 [.int .i64 next, .slice A n c], .ro (Message.s true l') (.slice A' n c'), .ro (Message.s true l) (.slice A n c)]) (fun k _ => n - (intOf k).toNat)
  case atStart =>
    refine ⟨0, by omega, rfl, Lib.hid rfl, ?_⟩
    exact H
  case round =>
    obtain ⟨j, hj, rfl, HQ, H⟩ := hrel
    by_cases hlt : j < n
    · obtain ⟨u, hu⟩ := get_lt (l := l) (k := j) (by rw [HN.out]; exact hlt)
      obtain ⟨v, hv⟩ := get_lt (l := l') (k := j) (by rw [← HN'.out]; exact hlt)
      obtain ⟨b, off, A7, c7, hA, H⟩ := Message.st (l := l) H (by repeat (first | with_reducible_and_instances exact .here | with_reducible refine .there ?_)) hu
      obtain ⟨b', off', A7', c7', hA', H⟩ := Message.st (l := l') H (by repeat (first | with_reducible_and_instances exact .here | with_reducible refine .there ?_)) hv
      subst hA hA'
      have hlt' : (j : Int) < (n : Int) := by omega
      have HU := Lib.hid hu
      have HV := Lib.hid hv
      clear hu hv
      by_cases huv : u = v
      · have HUV := Lib.hid huv
        have HT := Lib.hid (take_eq_succ HQ.out HU.out HV.out huv)
        clear huv
        (try clear hq); have hq := H.facts; simp only [factsOf, Pt.facts, CellsAt, Nat.add_zero, Nat.zero_add, Nat.reduceAdd, and_true, true_and, List.set_cons_zero, List.set_cons_succ] at hq
        go_wp2_with fail
        refine St.any H ?_
        intro w2 H
        have HS := fun (w : World) (hb : Below w2.heap.size w2 w) => spec_l03SameMessage u v b (off + j * 8) b' (off' + j * 8) A7 A7' c7 c7' w (Message.ros ((H.below hb).lo (.inl (.there (.there (.there .here)))))) (Message.ros ((H.below hb).lo (.inl (.there .here)))) (fun i u h => (H.below hb).rd (.there (.there .here)) h) (fun i u h => (H.below hb).rd .here h)
        rw [decide_eq_true HUV.out] at HS
        (try clear hq); have hq := H.facts; simp only [factsOf, Pt.facts, CellsAt, Nat.add_zero, Nat.zero_add, Nat.reduceAdd, and_true, true_and, List.set_cons_zero, List.set_cons_succ] at hq
        have hxx := (After.cells w2.heap.size w2).1
        refine wp_region_after (w2.heap.size) (by kernel_rfl) (by kernel_rfl) ?_; (repeat (go_big_quiet_step ((go_at_call 171; with_reducible exact Calls.after (Nat.le_refl _) (HS _ (After.b _)))))); refine wpQuiet_nil ?_; intro w1 hb1
        replace H := H.below hb1
        clear hxx HS
        (try clear hq); have hq := H.facts; simp only [factsOf, Pt.facts, CellsAt, Nat.add_zero, Nat.zero_add, Nat.reduceAdd, and_true, true_and, List.set_cons_zero, List.set_cons_succ] at hq
        go_wp2
        go_roundw
        case rel =>
          refine ⟨j + 1, by omega, by go_num, HT, ?_⟩
          apply St.sub' (h := H)
          (repeat (first | exact Pick.nil | with_reducible_and_instances exact Del.here | apply Pick.cons | with_reducible apply Del.there))
        case measure => simp [intOf]; omega
      · have HUV := Lib.hid huv
        have HX := Lib.hid (show sameL ⟨next, l⟩ ⟨next', l'⟩ = false from by rw [HX.out]; exact same_bad HU.out HV.out huv)
        clear huv
        (try clear hq); have hq := H.facts; simp only [factsOf, Pt.facts, CellsAt, Nat.add_zero, Nat.zero_add, Nat.reduceAdd, and_true, true_and, List.set_cons_zero, List.set_cons_succ] at hq
        go_wp2_with fail
        refine St.any H ?_
        intro w2 H
        have HS := fun (w : World) (hb : Below w2.heap.size w2 w) => spec_l03SameMessage u v b (off + j * 8) b' (off' + j * 8) A7 A7' c7 c7' w (Message.ros ((H.below hb).lo (.inl (.there (.there (.there .here)))))) (Message.ros ((H.below hb).lo (.inl (.there .here)))) (fun i u h => (H.below hb).rd (.there (.there .here)) h) (fun i u h => (H.below hb).rd .here h)
        rw [decide_eq_false HUV.out] at HS
        (try clear hq); have hq := H.facts; simp only [factsOf, Pt.facts, CellsAt, Nat.add_zero, Nat.zero_add, Nat.reduceAdd, and_true, true_and, List.set_cons_zero, List.set_cons_succ] at hq
        have hxx := (After.cells w2.heap.size w2).1
        refine wp_region_after (w2.heap.size) (by kernel_rfl) (by kernel_rfl) ?_; (repeat (go_big_quiet_step ((go_at_call 171; with_reducible exact Calls.after (Nat.le_refl _) (HS _ (After.b _)))))); refine wpQuiet_nil ?_; intro w1 hb1
        replace H := H.below hb1
        clear hxx HS
        (try clear hq); have hq := H.facts; simp only [factsOf, Pt.facts, CellsAt, Nat.add_zero, Nat.zero_add, Nat.reduceAdd, and_true, true_and, List.set_cons_zero, List.set_cons_succ] at hq
        go_wp2
        go_ret
        exact ⟨by rw [HX.out]; rfl, H.belowW⟩
    · obtain rfl : j = n := by omega
      have HX := Lib.hid (show sameL ⟨next, l⟩ ⟨next', l'⟩ = true from by
        rw [HX.out]
        have h := HQ.out
        rw [List.take_of_length_le (by rw [HN.out]; exact Nat.le_refl _), List.take_of_length_le (by rw [← HN'.out]; exact Nat.le_refl _)] at h
        rw [h]; simp)
      (try clear hq); have hq := H.facts; simp only [factsOf, Pt.facts, CellsAt, Nat.add_zero, Nat.zero_add, Nat.reduceAdd, and_true, true_and, List.set_cons_zero, List.set_cons_succ] at hq
      go_wp2
      go_ret
      exact ⟨by rw [HX.out]; rfl, H.belowW⟩
set_option maxHeartbeats 1600000 in
set_option maxRecDepth 100000 in
theorem spec_SameLog (x y : Log) (A A' : Option Addr) (c c' : Nat) (W : World) (hr : Ro W (Lo W.heap.size) (Message.s true x.xMessages) (.slice A x.xMessages.length c)) (hs : Ro W (Lo W.heap.size) (Message.s true y.xMessages) (.slice A' y.xMessages.length c')) :
    Calls Try.prog 44 #[.agg #[.int .i64 x.xNext, .slice A x.xMessages.length c], .agg #[.int .i64 y.xNext, .slice A' y.xMessages.length c']] W fun e w' => e = .returned (.bool (sameL x y)) ∧ Below W.heap.size W w' := by
  have H := ((St.start W).addro hr).addro hs
  have HS := fun (w : World) (b0 o0 b1 o1 : Nat) (ps : List Pt) (R : Nat → Prop) (H : St (Lo W.heap.size) R W w ps) (k0 : CellsAt w b0 o0 0 [.int .i64 x.xNext, .slice A x.xMessages.length c]) (k1 : CellsAt w b1 o1 0 [.int .i64 y.xNext, .slice A' y.xMessages.length c']) (h1 : At (.ro (Message.s true x.xMessages) (.slice A x.xMessages.length c)) ps) (h2 : At (.ro (Message.s true y.xMessages) (.slice A' y.xMessages.length c')) ps) => spec_l03Same x y b0 o0 b1 o1 A A' c c' w k0 k1 (H.lo (.inl h1)) (H.lo (.inl h2))
  clear hr hs
  obtain ⟨next, l⟩ := x
  obtain ⟨next', l'⟩ := y
  simp only at *
  generalize l.length = n at *
  generalize l'.length = n' at *
  go_enter Try.func44, Try.ntmps44
  have H2 := H.box2 #[.int .i64 next, .slice A n c] #[.int .i64 next', .slice A' n' c'] 41 41
  go_wp2_with (go_at_call 107; (with_reducible refine (HS _ _ _ _ _ _ _ H2 (H2.cells (by repeat (first | with_reducible_and_instances exact .here | with_reducible refine .there ?_)) 0 _ rfl) (H2.cells (by repeat (first | with_reducible_and_instances exact .here | with_reducible refine .there ?_)) 0 _ rfl) (by repeat (first | with_reducible_and_instances exact .here | with_reducible refine .there ?_)) (by repeat (first | with_reducible_and_instances exact .here | with_reducible refine .there ?_))).mono ?_); rintro e w1 ⟨rfl, hb1⟩; replace H := H2.below hb1; clear hb1; (try clear hq); have hq := H.facts; simp only [factsOf, Pt.facts, CellsAt, Nat.add_zero, Nat.zero_add, Nat.reduceAdd, and_true, true_and, List.set_cons_zero, List.set_cons_succ] at hq)
  go_ret
  exact ⟨rfl, H.belowW⟩
end Go.Proofs.Ytmofbfeclecdoaa

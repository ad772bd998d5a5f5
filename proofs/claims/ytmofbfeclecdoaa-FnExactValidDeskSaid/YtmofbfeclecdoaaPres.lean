/- Leases, marks, presences: validity. -/
import Derived.Test.YtmofbfeclecdoaaStm
import Derived.Test.YtmofbfeclecdoaaLaw
namespace Go.Proofs.Ytmofbfeclecdoaa
open Go.ChangeShapes Go.WideShapes Go.ChangeAt Go.RowKit Go.Dt
set_option linter.unusedVariables false
set_option linter.unusedSimpArgs false
/-- Each is right, and the keys rise: at a place; for all. -/
def pairAt {α : Type} (p : α → Bool) (key : α → Int) (l : List α) (i : Nat) : Bool := match l[i]?, i with
  | some x, 0 => p x
  | some x, k + 1 => p x && (match l[k]? with
    | some y => decide (key y < key x)
    | none => true)
  | none, _ => true
def pairsOk {α : Type} (p : α → Bool) (key : α → Int) (l : List α) : Bool := upTo (pairAt p key l) l.length && decide ((l.length : Int) ≤ 30)
section
variable {α : Type} {p : α → Bool} {key : α → Int} {l : List α} {x y : α} {k j : Nat}
theorem pair_zero (h : l[0]? = some x) : pairAt p key l 0 = p x := by unfold pairAt; rw [h]
theorem pair_succ (h : l[k + 1]? = some x) (h' : l[k]? = some y) : pairAt p key l (k + 1) = (p x && decide (key y < key x)) := by
  unfold pairAt
  rw [h]
  simp only [h']
theorem pair_bad (h : l[j]? = some x) (hb : p x = false) : pairAt p key l j = false := by
  unfold pairAt
  rw [h]
  cases j with
  | zero => exact hb
  | succ k => simp only [hb, Bool.false_and]
theorem pairs_no (hj : j < l.length) (h : pairAt p key l j = false) : pairsOk p key l = false := by
  unfold pairsOk
  rw [upTo_no hj h]
  rfl
theorem pairs_yes {n : Nat} (hn : l.length = n) (h : upTo (pairAt p key l) n = true) : pairsOk p key l = decide ((n : Int) ≤ 30) := by
  subst hn
  unfold pairsOk
  rw [h, Bool.true_and]
end
def leaseGood (x : Lease) : Bool := inB x.xMember 1 1000 && inB x.xUntil 0 1000000
def markGood (x : Mark) : Bool := inB x.xMember 1 1000 && inB x.xUpto 0 1000000000
abbrev leasesR (l : List Lease) : Bool := pairsOk leaseGood (fun x => x.xMember) l
abbrev marksR (l : List Mark) : Bool := pairsOk markGood (fun x => x.xMember) l
section
variable {N R : Nat → Prop} {W w w' : World} {ps : List Pt}
theorem Lease.st {l : List Lease} {A : Option Addr} {n c k : Nat} {m : Lease} (h : St N R W w ps) (ha : At (.ro (Lease.s true l) (.slice A n c)) ps) (hk : l[k]? = some m) :
    ∃ b off, A = some ⟨b, off, none⟩ ∧ St N R W w (.rd b (off + k * 2) [.int .i64 m.xMember, .int .i64 m.xUntil] :: ps) := by
  obtain ⟨b, off, us, rfl, h1, h2, h3⟩ := h.elem ha (map_at (f := Lease.d true) hk)
  obtain rfl := Lease.cells h2
  exact ⟨b, off, rfl, h3⟩
theorem Mark.st {l : List Mark} {A : Option Addr} {n c k : Nat} {m : Mark} (h : St N R W w ps) (ha : At (.ro (Mark.s true l) (.slice A n c)) ps) (hk : l[k]? = some m) :
    ∃ b off, A = some ⟨b, off, none⟩ ∧ St N R W w (.rd b (off + k * 2) [.int .i64 m.xMember, .int .i64 m.xUpto] :: ps) := by
  obtain ⟨b, off, us, rfl, h1, h2, h3⟩ := h.elem ha (map_at (f := Mark.d true) hk)
  obtain rfl := Mark.cells h2
  exact ⟨b, off, rfl, h3⟩
end
set_option maxHeartbeats 1600000 in
set_option maxRecDepth 100000 in
theorem impl_leasesOk (l : List Lease) (A : Option Addr) (c : Nat) (W : World) (hr : Ro W (Lo W.heap.size) (Lease.s true l) (.slice A l.length c)) :
    Calls Try.prog 177 #[.slice A l.length c] W fun e w' => e = .returned (.bool (leasesR l)) ∧ Below W.heap.size W w' := by
  have hlen : l.length ≤ 9223372036854775807 := by have h1 := hr.sl_max; have h2 := hr.sl_cap; simp only [maxLen] at h1; omega
  have H := (St.start W).addro hr
  clear hr
  generalize hn : l.length = n at *
  have HN := Lib.hid hn
  clear hn
  go_enter Try.func177, Try.ntmps177
  go_wp2
  go_loopw [7] (fun k wr => ∃ j : Nat, j ≤ n ∧ k = .int .i64 j ∧ Hid (upTo (pairAt leaseGood (fun x => x.xMember) l) j = true) ∧ St (Lo W.heap.size) (Lo W.heap.size) W wr [.ro (Lease.s true l) (.slice A n c)]) (fun k _ => n - (intOf k).toNat)
  case atStart =>
    refine ⟨0, by omega, rfl, Lib.hid rfl, ?_⟩
    exact H
  case round =>
    obtain ⟨j, hj, rfl, HQ, H⟩ := hrel
    by_cases hlt : j < n
    · obtain ⟨x, hx⟩ := get_lt (l := l) (k := j) (by rw [HN.out]; exact hlt)
      obtain ⟨b, off, hA, H⟩ := Lease.st (l := l) H (by repeat (first | with_reducible_and_instances exact .here | with_reducible refine .there ?_)) hx
      subst hA
      have hlt' : (j : Int) < (n : Int) := by omega
      have HM := fun (w : World) => impl_isMember x.xMember w
      have HT := fun (w : World) => impl_isTick x.xUntil w
      cases h1 : inB x.xMember 1 1000
      · have HX := Lib.hid (show leasesR l = false from pairs_no (by rw [HN.out]; exact hlt) (pair_bad hx (by simp [leaseGood, h1])))
        rw [h1] at HM
        clear h1 hx
        (try clear hq); have hq := H.facts; simp only [factsOf, Pt.facts, CellsAt, Nat.add_zero, Nat.zero_add, Nat.reduceAdd, and_true, true_and, List.set_cons_zero, List.set_cons_succ] at hq
        go_wp2_with fail
        refine St.any (H.box _ _) ?_
        intro w2 H
        (try clear hq); have hq := H.facts; simp only [factsOf, Pt.facts, CellsAt, Nat.add_zero, Nat.zero_add, Nat.reduceAdd, and_true, true_and, List.set_cons_zero, List.set_cons_succ] at hq
        have hxx := (After.cells w2.heap.size w2).1
        refine wp_region_after (w2.heap.size) (by kernel_rfl) (by kernel_rfl) ?_; (repeat (go_big_quiet_step (first | (go_at_call 167; with_reducible exact Calls.after_same (HM _)) | (go_at_call 90; with_reducible exact Calls.after_same (HT _))))); refine wpQuiet_nil ?_; intro w1 hb1
        replace H := H.below hb1
        clear hxx
        (try clear hq); have hq := H.facts; simp only [factsOf, Pt.facts, CellsAt, Nat.add_zero, Nat.zero_add, Nat.reduceAdd, and_true, true_and, List.set_cons_zero, List.set_cons_succ] at hq
        go_wp2
        go_ret
        exact ⟨by rw [HX.out]; rfl, H.belowW⟩
      rw [h1] at HM
      cases h2 : inB x.xUntil 0 1000000
      · have HX := Lib.hid (show leasesR l = false from pairs_no (by rw [HN.out]; exact hlt) (pair_bad hx (by simp [leaseGood, h2])))
        rw [h2] at HT
        clear h1 h2 hx
        (try clear hq); have hq := H.facts; simp only [factsOf, Pt.facts, CellsAt, Nat.add_zero, Nat.zero_add, Nat.reduceAdd, and_true, true_and, List.set_cons_zero, List.set_cons_succ] at hq
        go_wp2_with fail
        refine St.any (H.box _ _) ?_
        intro w2 H
        (try clear hq); have hq := H.facts; simp only [factsOf, Pt.facts, CellsAt, Nat.add_zero, Nat.zero_add, Nat.reduceAdd, and_true, true_and, List.set_cons_zero, List.set_cons_succ] at hq
        have hxx := (After.cells w2.heap.size w2).1
        refine wp_region_after (w2.heap.size) (by kernel_rfl) (by kernel_rfl) ?_; (repeat (go_big_quiet_step (first | (go_at_call 167; with_reducible exact Calls.after_same (HM _)) | (go_at_call 90; with_reducible exact Calls.after_same (HT _))))); refine wpQuiet_nil ?_; intro w1 hb1
        replace H := H.below hb1
        clear hxx
        (try clear hq); have hq := H.facts; simp only [factsOf, Pt.facts, CellsAt, Nat.add_zero, Nat.zero_add, Nat.reduceAdd, and_true, true_and, List.set_cons_zero, List.set_cons_succ] at hq
        go_wp2
        go_ret
        exact ⟨by rw [HX.out]; rfl, H.belowW⟩
      rw [h2] at HT
      cases j with
      | zero =>
        have HS := Lib.hid (upTo_succ HQ.out (by rw [pair_zero hx]; simp [leaseGood, h1, h2]))
        simp only [Nat.zero_mul, Nat.add_zero] at H
        clear h1 h2 hx
        (try clear hq); have hq := H.facts; simp only [factsOf, Pt.facts, CellsAt, Nat.add_zero, Nat.zero_add, Nat.reduceAdd, and_true, true_and, List.set_cons_zero, List.set_cons_succ] at hq
        go_wp2_with fail
        refine St.any (H.box _ _) ?_
        intro w2 H
        (try clear hq); have hq := H.facts; simp only [factsOf, Pt.facts, CellsAt, Nat.add_zero, Nat.zero_add, Nat.reduceAdd, and_true, true_and, List.set_cons_zero, List.set_cons_succ] at hq
        have hxx := (After.cells w2.heap.size w2).1
        refine wp_region_after (w2.heap.size) (by kernel_rfl) (by kernel_rfl) ?_; (repeat (go_big_quiet_step (first | (go_at_call 167; with_reducible exact Calls.after_same (HM _)) | (go_at_call 90; with_reducible exact Calls.after_same (HT _))))); refine wpQuiet_nil ?_; intro w1 hb1
        replace H := H.below hb1
        clear hxx
        (try clear hq); have hq := H.facts; simp only [factsOf, Pt.facts, CellsAt, Nat.add_zero, Nat.zero_add, Nat.reduceAdd, and_true, true_and, List.set_cons_zero, List.set_cons_succ] at hq
        go_wp2
        go_roundw
        case rel => 
          refine ⟨1, by omega, by go_num, HS, ?_⟩
          apply St.sub' (h := H)
          (repeat (first | exact Pick.nil | with_reducible_and_instances exact Del.here | apply Pick.cons | with_reducible apply Del.there))
        case measure => simp [intOf]; omega
      | succ k =>
        obtain ⟨y, hy⟩ := get_lt (l := l) (k := k) (by rw [HN.out]; omega)
        obtain ⟨b', off', hA, H⟩ := Lease.st (l := l) H (by repeat (first | with_reducible_and_instances exact .here | with_reducible refine .there ?_)) hy
        injection hA with hA
        injection hA with e1 e2
        subst e1
        subst e2
        have HZ := Lib.hid (pair_succ (p := leaseGood) (key := fun x => x.xMember) hx hy)
        have hi1 : ((k + 1 : Nat) : Int) - 1 = k := by omega
        have hi0 : decide ((0 : Int) < ((k + 1 : Nat) : Int)) = true := by simp <;> omega
        have hk1 : (k : Int) < (n : Int) := by omega
        by_cases c1 : y.xMember < x.xMember
        rotate_left
        · have HX := Lib.hid (show leasesR l = false from pairs_no (by rw [HN.out]; exact hlt) (by rw [HZ.out]; simp [c1]))
          have g1 : decide (x.xMember ≤ y.xMember) = true := by simp <;> omega
          clear h1 h2 hx hy
          (try clear hq); have hq := H.facts; simp only [factsOf, Pt.facts, CellsAt, Nat.add_zero, Nat.zero_add, Nat.reduceAdd, and_true, true_and, List.set_cons_zero, List.set_cons_succ] at hq
          go_wp2_with fail
          refine St.any (H.box _ _) ?_
          intro w2 H
          (try clear hq); have hq := H.facts; simp only [factsOf, Pt.facts, CellsAt, Nat.add_zero, Nat.zero_add, Nat.reduceAdd, and_true, true_and, List.set_cons_zero, List.set_cons_succ] at hq
          have hxx := (After.cells w2.heap.size w2).1
          refine wp_region_after (w2.heap.size) (by kernel_rfl) (by kernel_rfl) ?_; (repeat (go_big_quiet_step (first | (go_at_call 167; with_reducible exact Calls.after_same (HM _)) | (go_at_call 90; with_reducible exact Calls.after_same (HT _))))); refine wpQuiet_nil ?_; intro w1 hb1
          replace H := H.below hb1
          clear hxx
          (try clear hq); have hq := H.facts; simp only [factsOf, Pt.facts, CellsAt, Nat.add_zero, Nat.zero_add, Nat.reduceAdd, and_true, true_and, List.set_cons_zero, List.set_cons_succ] at hq
          go_wp2
          go_ret
          exact ⟨by rw [HX.out]; rfl, H.belowW⟩
        have g1 : decide (x.xMember ≤ y.xMember) = false := by simp <;> omega
        have HS := Lib.hid (upTo_succ HQ.out (by rw [HZ.out]; simp [leaseGood, h1, h2, c1]))
        clear h1 h2 hx hy
        (try clear hq); have hq := H.facts; simp only [factsOf, Pt.facts, CellsAt, Nat.add_zero, Nat.zero_add, Nat.reduceAdd, and_true, true_and, List.set_cons_zero, List.set_cons_succ] at hq
        go_wp2_with fail
        refine St.any (H.box _ _) ?_
        intro w2 H
        (try clear hq); have hq := H.facts; simp only [factsOf, Pt.facts, CellsAt, Nat.add_zero, Nat.zero_add, Nat.reduceAdd, and_true, true_and, List.set_cons_zero, List.set_cons_succ] at hq
        have hxx := (After.cells w2.heap.size w2).1
        refine wp_region_after (w2.heap.size) (by kernel_rfl) (by kernel_rfl) ?_; (repeat (go_big_quiet_step (first | (go_at_call 167; with_reducible exact Calls.after_same (HM _)) | (go_at_call 90; with_reducible exact Calls.after_same (HT _))))); refine wpQuiet_nil ?_; intro w1 hb1
        replace H := H.below hb1
        clear hxx
        (try clear hq); have hq := H.facts; simp only [factsOf, Pt.facts, CellsAt, Nat.add_zero, Nat.zero_add, Nat.reduceAdd, and_true, true_and, List.set_cons_zero, List.set_cons_succ] at hq
        go_wp2
        go_roundw
        case rel => 
          refine ⟨k + 1 + 1, by omega, by go_num, HS, ?_⟩
          apply St.sub' (h := H)
          (repeat (first | exact Pick.nil | with_reducible_and_instances exact Del.here | apply Pick.cons | with_reducible apply Del.there))
        case measure => simp [intOf]; omega
    · obtain rfl : j = n := by omega
      have HX := Lib.hid (show leasesR l = decide ((j : Int) ≤ 30) from pairs_yes HN.out HQ.out)
      go_wp2
      go_ret
      exact ⟨by rw [HX.out]; rfl, H.belowW⟩
set_option maxHeartbeats 1600000 in
set_option maxRecDepth 100000 in
theorem spec_l05Leases (l : List Lease) (A : Option Addr) (c : Nat) (W : World) (hr : Ro W (Lo W.heap.size) (Lease.s true l) (.slice A l.length c)) :
    Calls Try.prog 207 #[.slice A l.length c] W fun e w' => e = .returned (.bool (leasesR l)) ∧ Below W.heap.size W w' := by
  have hlen : l.length ≤ 9223372036854775807 := by have h1 := hr.sl_max; have h2 := hr.sl_cap; simp only [maxLen] at h1; omega
  have H := (St.start W).addro hr
  clear hr
  generalize hn : l.length = n at *
  have HN := Lib.hid hn
  clear hn
  go_enter Try.func207, Try.ntmps207
  go_wp2
  go_loopw [6] (fun k wr => ∃ j : Nat, j ≤ n ∧ k = .int .i64 j ∧ Hid (upTo (pairAt leaseGood (fun x => x.xMember) l) j = true) ∧ St (Lo W.heap.size) (Lo W.heap.size) W wr [.ro (Lease.s true l) (.slice A n c)]) (fun k _ => n - (intOf k).toNat)
  case atStart =>
    refine ⟨0, by omega, rfl, Lib.hid rfl, ?_⟩
    exact H
  case round =>
    obtain ⟨j, hj, rfl, HQ, H⟩ := hrel
    by_cases hlt : j < n
    · obtain ⟨x, hx⟩ := get_lt (l := l) (k := j) (by rw [HN.out]; exact hlt)
      obtain ⟨b, off, hA, H⟩ := Lease.st (l := l) H (by repeat (first | with_reducible_and_instances exact .here | with_reducible refine .there ?_)) hx
      subst hA
      have hlt' : (j : Int) < (n : Int) := by omega
      have HM := fun (w : World) => spec_l01Member x.xMember w
      have HT := fun (w : World) => spec_l01Tick x.xUntil w
      cases h1 : inB x.xMember 1 1000
      · have HX := Lib.hid (show leasesR l = false from pairs_no (by rw [HN.out]; exact hlt) (pair_bad hx (by simp [leaseGood, h1])))
        rw [h1] at HM
        clear h1 hx
        (try clear hq); have hq := H.facts; simp only [factsOf, Pt.facts, CellsAt, Nat.add_zero, Nat.zero_add, Nat.reduceAdd, and_true, true_and, List.set_cons_zero, List.set_cons_succ] at hq
        go_wp2_with fail
        refine St.any H ?_
        intro w2 H
        (try clear hq); have hq := H.facts; simp only [factsOf, Pt.facts, CellsAt, Nat.add_zero, Nat.zero_add, Nat.reduceAdd, and_true, true_and, List.set_cons_zero, List.set_cons_succ] at hq
        have hxx := (After.cells w2.heap.size w2).1
        refine wp_region_after (w2.heap.size) (by kernel_rfl) (by kernel_rfl) ?_; (repeat (go_big_quiet_step (first | (go_at_call 202; with_reducible exact Calls.after_same (HM _)) | (go_at_call 88; with_reducible exact Calls.after_same (HT _))))); refine wpQuiet_nil ?_; intro w1 hb1
        replace H := H.below hb1
        clear hxx
        (try clear hq); have hq := H.facts; simp only [factsOf, Pt.facts, CellsAt, Nat.add_zero, Nat.zero_add, Nat.reduceAdd, and_true, true_and, List.set_cons_zero, List.set_cons_succ] at hq
        go_wp2
        go_ret
        exact ⟨by rw [HX.out]; rfl, H.belowW⟩
      rw [h1] at HM
      cases h2 : inB x.xUntil 0 1000000
      · have HX := Lib.hid (show leasesR l = false from pairs_no (by rw [HN.out]; exact hlt) (pair_bad hx (by simp [leaseGood, h2])))
        rw [h2] at HT
        clear h1 h2 hx
        (try clear hq); have hq := H.facts; simp only [factsOf, Pt.facts, CellsAt, Nat.add_zero, Nat.zero_add, Nat.reduceAdd, and_true, true_and, List.set_cons_zero, List.set_cons_succ] at hq
        go_wp2_with fail
        refine St.any H ?_
        intro w2 H
        (try clear hq); have hq := H.facts; simp only [factsOf, Pt.facts, CellsAt, Nat.add_zero, Nat.zero_add, Nat.reduceAdd, and_true, true_and, List.set_cons_zero, List.set_cons_succ] at hq
        have hxx := (After.cells w2.heap.size w2).1
        refine wp_region_after (w2.heap.size) (by kernel_rfl) (by kernel_rfl) ?_; (repeat (go_big_quiet_step (first | (go_at_call 202; with_reducible exact Calls.after_same (HM _)) | (go_at_call 88; with_reducible exact Calls.after_same (HT _))))); refine wpQuiet_nil ?_; intro w1 hb1
        replace H := H.below hb1
        clear hxx
        (try clear hq); have hq := H.facts; simp only [factsOf, Pt.facts, CellsAt, Nat.add_zero, Nat.zero_add, Nat.reduceAdd, and_true, true_and, List.set_cons_zero, List.set_cons_succ] at hq
        go_wp2
        go_ret
        exact ⟨by rw [HX.out]; rfl, H.belowW⟩
      rw [h2] at HT
      cases j with
      | zero =>
        have HS := Lib.hid (upTo_succ HQ.out (by rw [pair_zero hx]; simp [leaseGood, h1, h2]))
        simp only [Nat.zero_mul, Nat.add_zero] at H
        clear h1 h2 hx
        (try clear hq); have hq := H.facts; simp only [factsOf, Pt.facts, CellsAt, Nat.add_zero, Nat.zero_add, Nat.reduceAdd, and_true, true_and, List.set_cons_zero, List.set_cons_succ] at hq
        go_wp2_with fail
        refine St.any H ?_
        intro w2 H
        (try clear hq); have hq := H.facts; simp only [factsOf, Pt.facts, CellsAt, Nat.add_zero, Nat.zero_add, Nat.reduceAdd, and_true, true_and, List.set_cons_zero, List.set_cons_succ] at hq
        have hxx := (After.cells w2.heap.size w2).1
        refine wp_region_after (w2.heap.size) (by kernel_rfl) (by kernel_rfl) ?_; (repeat (go_big_quiet_step (first | (go_at_call 202; with_reducible exact Calls.after_same (HM _)) | (go_at_call 88; with_reducible exact Calls.after_same (HT _))))); refine wpQuiet_nil ?_; intro w1 hb1
        replace H := H.below hb1
        clear hxx
        (try clear hq); have hq := H.facts; simp only [factsOf, Pt.facts, CellsAt, Nat.add_zero, Nat.zero_add, Nat.reduceAdd, and_true, true_and, List.set_cons_zero, List.set_cons_succ] at hq
        go_wp2
        go_roundw
        case rel => 
          refine ⟨1, by omega, by go_num, HS, ?_⟩
          apply St.sub' (h := H)
          (repeat (first | exact Pick.nil | with_reducible_and_instances exact Del.here | apply Pick.cons | with_reducible apply Del.there))
        case measure => simp [intOf]; omega
      | succ k =>
        obtain ⟨y, hy⟩ := get_lt (l := l) (k := k) (by rw [HN.out]; omega)
        obtain ⟨b', off', hA, H⟩ := Lease.st (l := l) H (by repeat (first | with_reducible_and_instances exact .here | with_reducible refine .there ?_)) hy
        injection hA with hA
        injection hA with e1 e2
        subst e1
        subst e2
        have HZ := Lib.hid (pair_succ (p := leaseGood) (key := fun x => x.xMember) hx hy)
        have hi1 : ((k + 1 : Nat) : Int) - 1 = k := by omega
        have hi0 : decide ((0 : Int) < ((k + 1 : Nat) : Int)) = true := by simp <;> omega
        have hk1 : (k : Int) < (n : Int) := by omega
        by_cases c1 : y.xMember < x.xMember
        rotate_left
        · have HX := Lib.hid (show leasesR l = false from pairs_no (by rw [HN.out]; exact hlt) (by rw [HZ.out]; simp [c1]))
          have g1 : decide (x.xMember ≤ y.xMember) = true := by simp <;> omega
          clear h1 h2 hx hy
          (try clear hq); have hq := H.facts; simp only [factsOf, Pt.facts, CellsAt, Nat.add_zero, Nat.zero_add, Nat.reduceAdd, and_true, true_and, List.set_cons_zero, List.set_cons_succ] at hq
          go_wp2_with fail
          refine St.any H ?_
          intro w2 H
          (try clear hq); have hq := H.facts; simp only [factsOf, Pt.facts, CellsAt, Nat.add_zero, Nat.zero_add, Nat.reduceAdd, and_true, true_and, List.set_cons_zero, List.set_cons_succ] at hq
          have hxx := (After.cells w2.heap.size w2).1
          refine wp_region_after (w2.heap.size) (by kernel_rfl) (by kernel_rfl) ?_; (repeat (go_big_quiet_step (first | (go_at_call 202; with_reducible exact Calls.after_same (HM _)) | (go_at_call 88; with_reducible exact Calls.after_same (HT _))))); refine wpQuiet_nil ?_; intro w1 hb1
          replace H := H.below hb1
          clear hxx
          (try clear hq); have hq := H.facts; simp only [factsOf, Pt.facts, CellsAt, Nat.add_zero, Nat.zero_add, Nat.reduceAdd, and_true, true_and, List.set_cons_zero, List.set_cons_succ] at hq
          go_wp2
          go_ret
          exact ⟨by rw [HX.out]; rfl, H.belowW⟩
        have g1 : decide (x.xMember ≤ y.xMember) = false := by simp <;> omega
        have HS := Lib.hid (upTo_succ HQ.out (by rw [HZ.out]; simp [leaseGood, h1, h2, c1]))
        clear h1 h2 hx hy
        (try clear hq); have hq := H.facts; simp only [factsOf, Pt.facts, CellsAt, Nat.add_zero, Nat.zero_add, Nat.reduceAdd, and_true, true_and, List.set_cons_zero, List.set_cons_succ] at hq
        go_wp2_with fail
        refine St.any H ?_
        intro w2 H
        (try clear hq); have hq := H.facts; simp only [factsOf, Pt.facts, CellsAt, Nat.add_zero, Nat.zero_add, Nat.reduceAdd, and_true, true_and, List.set_cons_zero, List.set_cons_succ] at hq
        have hxx := (After.cells w2.heap.size w2).1
        refine wp_region_after (w2.heap.size) (by kernel_rfl) (by kernel_rfl) ?_; (repeat (go_big_quiet_step (first | (go_at_call 202; with_reducible exact Calls.after_same (HM _)) | (go_at_call 88; with_reducible exact Calls.after_same (HT _))))); refine wpQuiet_nil ?_; intro w1 hb1
        replace H := H.below hb1
        clear hxx
        (try clear hq); have hq := H.facts; simp only [factsOf, Pt.facts, CellsAt, Nat.add_zero, Nat.zero_add, Nat.reduceAdd, and_true, true_and, List.set_cons_zero, List.set_cons_succ] at hq
        go_wp2
        go_roundw
        case rel => 
          refine ⟨k + 1 + 1, by omega, by go_num, HS, ?_⟩
          apply St.sub' (h := H)
          (repeat (first | exact Pick.nil | with_reducible_and_instances exact Del.here | apply Pick.cons | with_reducible apply Del.there))
        case measure => simp [intOf]; omega
    · obtain rfl : j = n := by omega
      have HX := Lib.hid (show leasesR l = decide ((j : Int) ≤ 30) from pairs_yes HN.out HQ.out)
      go_wp2
      go_ret
      exact ⟨by rw [HX.out]; rfl, H.belowW⟩
def Presence.ok (x : Presence) : Bool := marksR x.xMarks && (leasesR x.xHere && leasesR x.xTyping)
set_option maxHeartbeats 1600000 in
set_option maxRecDepth 100000 in
theorem impl_ValidPresence (x : Presence) (us : List Value) (W : World) (hr : RoL W (Lo W.heap.size) (Presence.d true x) us) :
    Calls Try.prog 111 #[.agg us.toArray] W fun e w' => e = .returned (.bool x.ok) ∧ Below W.heap.size W w' := by
  obtain ⟨A0, c0, A1, c1, A, c, rfl, r0, -, -, r1, -, -, r2, lc, mc⟩ := Presence.cells hr
  have hlen : x.xMarks.length ≤ 9223372036854775807 := by simp only [maxLen] at mc; omega
  have H := (((St.start W).addro r2).addro r1).addro r0
  obtain ⟨here, typ, l⟩ := x
  simp only at *
  have HL1 := fun (w : World) (ps : List Pt) (R : Nat → Prop) (H : St (Lo W.heap.size) R W w ps) (h2 : At (.ro (Lease.s true here) (.slice A0 here.length c0)) ps) => impl_leasesOk here A0 c0 w (H.lo (.inl h2))
  have HL2 := fun (w : World) (ps : List Pt) (R : Nat → Prop) (H : St (Lo W.heap.size) R W w ps) (h2 : At (.ro (Lease.s true typ) (.slice A1 typ.length c1)) ps) => impl_leasesOk typ A1 c1 w (H.lo (.inl h2))
  clear mc lc hr r0 r1 r2
  generalize hn : l.length = n at *
  have HN := Lib.hid hn
  clear hn
  go_enter Try.func111, Try.ntmps111
  go_wp2
  go_loopw [8] (fun k wr => ∃ j : Nat, j ≤ n ∧ k = .int .i64 j ∧ Hid (upTo (pairAt markGood (fun x => x.xMember) l) j = true) ∧ St (Lo W.heap.size) (Lo W.heap.size) W wr [.bx W.heap.size #[.slice A0 here.length c0, .slice A1 typ.length c1, .slice A n c] 70, .ro (Lease.s true here) (.slice A0 here.length c0), .ro (Lease.s true typ) (.slice A1 typ.length c1), .ro (Mark.s true l) (.slice A n c)]) (fun k _ => n - (intOf k).toNat)
  case atStart =>
    refine ⟨0, by omega, rfl, Lib.hid rfl, ?_⟩
    apply St.sub' (h := H.box _ _)
    (repeat (first | exact Pick.nil | with_reducible_and_instances exact Del.here | apply Pick.cons | with_reducible apply Del.there))
  case round =>
    obtain ⟨j, hj, rfl, HQ, H⟩ := hrel
    by_cases hlt : j < n
    · obtain ⟨x, hx⟩ := get_lt (l := l) (k := j) (by rw [HN.out]; exact hlt)
      obtain ⟨b, off, hA, H⟩ := Mark.st (l := l) H (by repeat (first | with_reducible_and_instances exact .here | with_reducible refine .there ?_)) hx
      subst hA
      have hlt' : (j : Int) < (n : Int) := by omega
      have HM := fun (w : World) => impl_isMember x.xMember w
      have HT := fun (w : World) => impl_in x.xUpto 0 1000000000 w
      cases h1 : inB x.xMember 1 1000
      · have HX := Lib.hid (show marksR l = false from pairs_no (by rw [HN.out]; exact hlt) (pair_bad hx (by simp [markGood, h1])))
        rw [h1] at HM
        clear h1 hx
        (try clear hq); have hq := H.facts; simp only [factsOf, Pt.facts, CellsAt, Nat.add_zero, Nat.zero_add, Nat.reduceAdd, and_true, true_and, List.set_cons_zero, List.set_cons_succ] at hq
        go_wp2_with fail
        refine St.any (H.box _ _) ?_
        intro w2 H
        (try clear hq); have hq := H.facts; simp only [factsOf, Pt.facts, CellsAt, Nat.add_zero, Nat.zero_add, Nat.reduceAdd, and_true, true_and, List.set_cons_zero, List.set_cons_succ] at hq
        have hxx := (After.cells w2.heap.size w2).1
        refine wp_region_after (w2.heap.size) (by kernel_rfl) (by kernel_rfl) ?_; (repeat (go_big_quiet_step (first | (go_at_call 167; with_reducible exact Calls.after_same (HM _)) | (go_at_call 85; with_reducible exact Calls.after_same (HT _))))); refine wpQuiet_nil ?_; intro w1 hb1
        replace H := H.below hb1
        clear hxx
        (try clear hq); have hq := H.facts; simp only [factsOf, Pt.facts, CellsAt, Nat.add_zero, Nat.zero_add, Nat.reduceAdd, and_true, true_and, List.set_cons_zero, List.set_cons_succ] at hq
        go_wp2
        go_ret
        exact ⟨by rw [show Presence.ok ⟨here, typ, l⟩ = false from by unfold Presence.ok; simp only [HX.out]; rfl]; rfl, H.belowW⟩
      rw [h1] at HM
      cases h2 : inB x.xUpto 0 1000000000
      · have HX := Lib.hid (show marksR l = false from pairs_no (by rw [HN.out]; exact hlt) (pair_bad hx (by simp [markGood, h2])))
        rw [h2] at HT
        clear h1 h2 hx
        (try clear hq); have hq := H.facts; simp only [factsOf, Pt.facts, CellsAt, Nat.add_zero, Nat.zero_add, Nat.reduceAdd, and_true, true_and, List.set_cons_zero, List.set_cons_succ] at hq
        go_wp2_with fail
        refine St.any (H.box _ _) ?_
        intro w2 H
        (try clear hq); have hq := H.facts; simp only [factsOf, Pt.facts, CellsAt, Nat.add_zero, Nat.zero_add, Nat.reduceAdd, and_true, true_and, List.set_cons_zero, List.set_cons_succ] at hq
        have hxx := (After.cells w2.heap.size w2).1
        refine wp_region_after (w2.heap.size) (by kernel_rfl) (by kernel_rfl) ?_; (repeat (go_big_quiet_step (first | (go_at_call 167; with_reducible exact Calls.after_same (HM _)) | (go_at_call 85; with_reducible exact Calls.after_same (HT _))))); refine wpQuiet_nil ?_; intro w1 hb1
        replace H := H.below hb1
        clear hxx
        (try clear hq); have hq := H.facts; simp only [factsOf, Pt.facts, CellsAt, Nat.add_zero, Nat.zero_add, Nat.reduceAdd, and_true, true_and, List.set_cons_zero, List.set_cons_succ] at hq
        go_wp2
        go_ret
        exact ⟨by rw [show Presence.ok ⟨here, typ, l⟩ = false from by unfold Presence.ok; simp only [HX.out]; rfl]; rfl, H.belowW⟩
      rw [h2] at HT
      cases j with
      | zero =>
        have HS := Lib.hid (upTo_succ HQ.out (by rw [pair_zero hx]; simp [markGood, h1, h2]))
        simp only [Nat.zero_mul, Nat.add_zero] at H
        clear h1 h2 hx
        (try clear hq); have hq := H.facts; simp only [factsOf, Pt.facts, CellsAt, Nat.add_zero, Nat.zero_add, Nat.reduceAdd, and_true, true_and, List.set_cons_zero, List.set_cons_succ] at hq
        go_wp2_with fail
        refine St.any (H.box _ _) ?_
        intro w2 H
        (try clear hq); have hq := H.facts; simp only [factsOf, Pt.facts, CellsAt, Nat.add_zero, Nat.zero_add, Nat.reduceAdd, and_true, true_and, List.set_cons_zero, List.set_cons_succ] at hq
        have hxx := (After.cells w2.heap.size w2).1
        refine wp_region_after (w2.heap.size) (by kernel_rfl) (by kernel_rfl) ?_; (repeat (go_big_quiet_step (first | (go_at_call 167; with_reducible exact Calls.after_same (HM _)) | (go_at_call 85; with_reducible exact Calls.after_same (HT _))))); refine wpQuiet_nil ?_; intro w1 hb1
        replace H := H.below hb1
        clear hxx
        (try clear hq); have hq := H.facts; simp only [factsOf, Pt.facts, CellsAt, Nat.add_zero, Nat.zero_add, Nat.reduceAdd, and_true, true_and, List.set_cons_zero, List.set_cons_succ] at hq
        go_wp2
        go_roundw
        case rel => 
          refine ⟨1, by omega, by go_num, HS, ?_⟩
          apply St.sub' (h := H)
          (repeat (first | exact Pick.nil | with_reducible_and_instances exact Del.here | apply Pick.cons | with_reducible apply Del.there))
        case measure => simp [intOf]; omega
      | succ k =>
        obtain ⟨y, hy⟩ := get_lt (l := l) (k := k) (by rw [HN.out]; omega)
        obtain ⟨b', off', hA, H⟩ := Mark.st (l := l) H (by repeat (first | with_reducible_and_instances exact .here | with_reducible refine .there ?_)) hy
        injection hA with hA
        injection hA with e1 e2
        subst e1
        subst e2
        have HZ := Lib.hid (pair_succ (p := markGood) (key := fun x => x.xMember) hx hy)
        have hi1 : ((k + 1 : Nat) : Int) - 1 = k := by omega
        have hi0 : decide ((0 : Int) < ((k + 1 : Nat) : Int)) = true := by simp <;> omega
        have hk1 : (k : Int) < (n : Int) := by omega
        by_cases c1 : y.xMember < x.xMember
        rotate_left
        · have HX := Lib.hid (show marksR l = false from pairs_no (by rw [HN.out]; exact hlt) (by rw [HZ.out]; simp [c1]))
          have g1 : decide (x.xMember ≤ y.xMember) = true := by simp <;> omega
          clear h1 h2 hx hy
          (try clear hq); have hq := H.facts; simp only [factsOf, Pt.facts, CellsAt, Nat.add_zero, Nat.zero_add, Nat.reduceAdd, and_true, true_and, List.set_cons_zero, List.set_cons_succ] at hq
          go_wp2_with fail
          refine St.any (H.box _ _) ?_
          intro w2 H
          (try clear hq); have hq := H.facts; simp only [factsOf, Pt.facts, CellsAt, Nat.add_zero, Nat.zero_add, Nat.reduceAdd, and_true, true_and, List.set_cons_zero, List.set_cons_succ] at hq
          have hxx := (After.cells w2.heap.size w2).1
          refine wp_region_after (w2.heap.size) (by kernel_rfl) (by kernel_rfl) ?_; (repeat (go_big_quiet_step (first | (go_at_call 167; with_reducible exact Calls.after_same (HM _)) | (go_at_call 85; with_reducible exact Calls.after_same (HT _))))); refine wpQuiet_nil ?_; intro w1 hb1
          replace H := H.below hb1
          clear hxx
          (try clear hq); have hq := H.facts; simp only [factsOf, Pt.facts, CellsAt, Nat.add_zero, Nat.zero_add, Nat.reduceAdd, and_true, true_and, List.set_cons_zero, List.set_cons_succ] at hq
          go_wp2
          go_ret
          exact ⟨by rw [show Presence.ok ⟨here, typ, l⟩ = false from by unfold Presence.ok; simp only [HX.out]; rfl]; rfl, H.belowW⟩
        have g1 : decide (x.xMember ≤ y.xMember) = false := by simp <;> omega
        have HS := Lib.hid (upTo_succ HQ.out (by rw [HZ.out]; simp [markGood, h1, h2, c1]))
        clear h1 h2 hx hy
        (try clear hq); have hq := H.facts; simp only [factsOf, Pt.facts, CellsAt, Nat.add_zero, Nat.zero_add, Nat.reduceAdd, and_true, true_and, List.set_cons_zero, List.set_cons_succ] at hq
        go_wp2_with fail
        refine St.any (H.box _ _) ?_
        intro w2 H
        (try clear hq); have hq := H.facts; simp only [factsOf, Pt.facts, CellsAt, Nat.add_zero, Nat.zero_add, Nat.reduceAdd, and_true, true_and, List.set_cons_zero, List.set_cons_succ] at hq
        have hxx := (After.cells w2.heap.size w2).1
        refine wp_region_after (w2.heap.size) (by kernel_rfl) (by kernel_rfl) ?_; (repeat (go_big_quiet_step (first | (go_at_call 167; with_reducible exact Calls.after_same (HM _)) | (go_at_call 85; with_reducible exact Calls.after_same (HT _))))); refine wpQuiet_nil ?_; intro w1 hb1
        replace H := H.below hb1
        clear hxx
        (try clear hq); have hq := H.facts; simp only [factsOf, Pt.facts, CellsAt, Nat.add_zero, Nat.zero_add, Nat.reduceAdd, and_true, true_and, List.set_cons_zero, List.set_cons_succ] at hq
        go_wp2
        go_roundw
        case rel => 
          refine ⟨k + 1 + 1, by omega, by go_num, HS, ?_⟩
          apply St.sub' (h := H)
          (repeat (first | exact Pick.nil | with_reducible_and_instances exact Del.here | apply Pick.cons | with_reducible apply Del.there))
        case measure => simp [intOf]; omega
    · obtain rfl : j = n := by omega
      have HX := Lib.hid (show marksR l = decide ((j : Int) ≤ 30) from pairs_yes HN.out HQ.out)
      cases b1 : leasesR here
      · have HY := Lib.hid (show Presence.ok ⟨here, typ, l⟩ = false from by unfold Presence.ok; simp only [HX.out, b1]; simp)
        rw [b1] at HL1
        (try clear hq); have hq := H.facts; simp only [factsOf, Pt.facts, CellsAt, Nat.add_zero, Nat.zero_add, Nat.reduceAdd, and_true, true_and, List.set_cons_zero, List.set_cons_succ] at hq
        go_wp2_with (first | (go_at_call 177; (with_reducible refine (HL1 _ _ _ H (by repeat (first | with_reducible_and_instances exact .here | with_reducible refine .there ?_))).mono ?_); rintro e w1 ⟨rfl, hb1⟩; replace H := H.below hb1; clear hb1; (try clear hq); have hq := H.facts; simp only [factsOf, Pt.facts, CellsAt, Nat.add_zero, Nat.zero_add, Nat.reduceAdd, and_true, true_and, List.set_cons_zero, List.set_cons_succ] at hq) | (go_at_call 177; (with_reducible refine (HL2 _ _ _ H (by repeat (first | with_reducible_and_instances exact .here | with_reducible refine .there ?_))).mono ?_); rintro e w1 ⟨rfl, hb1⟩; replace H := H.below hb1; clear hb1; (try clear hq); have hq := H.facts; simp only [factsOf, Pt.facts, CellsAt, Nat.add_zero, Nat.zero_add, Nat.reduceAdd, and_true, true_and, List.set_cons_zero, List.set_cons_succ] at hq))
        go_ret
        exact ⟨by rw [HY.out]; rfl, H.belowW⟩
      rw [b1] at HL1
      cases b2 : leasesR typ
      · have HY := Lib.hid (show Presence.ok ⟨here, typ, l⟩ = false from by unfold Presence.ok; simp only [HX.out, b1, b2]; simp)
        rw [b2] at HL2
        (try clear hq); have hq := H.facts; simp only [factsOf, Pt.facts, CellsAt, Nat.add_zero, Nat.zero_add, Nat.reduceAdd, and_true, true_and, List.set_cons_zero, List.set_cons_succ] at hq
        go_wp2_with (first | (go_at_call 177; (with_reducible refine (HL1 _ _ _ H (by repeat (first | with_reducible_and_instances exact .here | with_reducible refine .there ?_))).mono ?_); rintro e w1 ⟨rfl, hb1⟩; replace H := H.below hb1; clear hb1; (try clear hq); have hq := H.facts; simp only [factsOf, Pt.facts, CellsAt, Nat.add_zero, Nat.zero_add, Nat.reduceAdd, and_true, true_and, List.set_cons_zero, List.set_cons_succ] at hq) | (go_at_call 177; (with_reducible refine (HL2 _ _ _ H (by repeat (first | with_reducible_and_instances exact .here | with_reducible refine .there ?_))).mono ?_); rintro e w1 ⟨rfl, hb1⟩; replace H := H.below hb1; clear hb1; (try clear hq); have hq := H.facts; simp only [factsOf, Pt.facts, CellsAt, Nat.add_zero, Nat.zero_add, Nat.reduceAdd, and_true, true_and, List.set_cons_zero, List.set_cons_succ] at hq))
        go_ret
        exact ⟨by rw [HY.out]; rfl, H.belowW⟩
      rw [b2] at HL2
      have HY := Lib.hid (show Presence.ok ⟨here, typ, l⟩ = decide ((j : Int) ≤ 30) from by unfold Presence.ok; simp only [HX.out, b1, b2]; simp)
      (try clear hq); have hq := H.facts; simp only [factsOf, Pt.facts, CellsAt, Nat.add_zero, Nat.zero_add, Nat.reduceAdd, and_true, true_and, List.set_cons_zero, List.set_cons_succ] at hq
      go_wp2_with (first | (go_at_call 177; (with_reducible refine (HL1 _ _ _ H (by repeat (first | with_reducible_and_instances exact .here | with_reducible refine .there ?_))).mono ?_); rintro e w1 ⟨rfl, hb1⟩; replace H := H.below hb1; clear hb1; (try clear hq); have hq := H.facts; simp only [factsOf, Pt.facts, CellsAt, Nat.add_zero, Nat.zero_add, Nat.reduceAdd, and_true, true_and, List.set_cons_zero, List.set_cons_succ] at hq) | (go_at_call 177; (with_reducible refine (HL2 _ _ _ H (by repeat (first | with_reducible_and_instances exact .here | with_reducible refine .there ?_))).mono ?_); rintro e w1 ⟨rfl, hb1⟩; replace H := H.below hb1; clear hb1; (try clear hq); have hq := H.facts; simp only [factsOf, Pt.facts, CellsAt, Nat.add_zero, Nat.zero_add, Nat.reduceAdd, and_true, true_and, List.set_cons_zero, List.set_cons_succ] at hq))
      go_ret
      exact ⟨by rw [HY.out]; rfl, H.belowW⟩
set_option maxHeartbeats 1600000 in
set_option maxRecDepth 100000 in
theorem spec_l05Is (x : Presence) (us : List Value) (b0 o0 : Nat) (W : World) (hr : RoL W (Lo W.heap.size) (Presence.d true x) us) (hk : CellsAt W b0 o0 0 us) :
    Calls Try.prog 174 #[.pointer (some ⟨b0, o0, none⟩)] W fun e w' => e = .returned (.bool x.ok) ∧ Below W.heap.size W w' := by
  obtain ⟨A0, c0, A1, c1, A, c, rfl, r0, -, -, r1, -, -, r2, lc, mc⟩ := Presence.cells hr
  have hlen : x.xMarks.length ≤ 9223372036854775807 := by simp only [maxLen] at mc; omega
  have H := (((St.start W).addro r2).addro r1).addro r0
  obtain ⟨here, typ, l⟩ := x
  simp only at *
  have H := H.addcells hk.lt hk
  have HL1 := fun (w : World) (ps : List Pt) (R : Nat → Prop) (H : St (Lo W.heap.size) R W w ps) (h2 : At (.ro (Lease.s true here) (.slice A0 here.length c0)) ps) => spec_l05Leases here A0 c0 w (H.lo (.inl h2))
  have HL2 := fun (w : World) (ps : List Pt) (R : Nat → Prop) (H : St (Lo W.heap.size) R W w ps) (h2 : At (.ro (Lease.s true typ) (.slice A1 typ.length c1)) ps) => spec_l05Leases typ A1 c1 w (H.lo (.inl h2))
  clear mc lc hr r0 r1 r2 hk
  generalize hn : l.length = n at *
  have HN := Lib.hid hn
  clear hn
  go_enter Try.func174, Try.ntmps174
  (try clear hq); have hq := H.facts; simp only [factsOf, Pt.facts, CellsAt, Nat.add_zero, Nat.zero_add, Nat.reduceAdd, and_true, true_and, List.set_cons_zero, List.set_cons_succ] at hq
  go_wp2
  go_loopw [10] (fun k wr => ∃ j : Nat, j ≤ n ∧ k = .int .i64 j ∧ Hid (upTo (pairAt markGood (fun x => x.xMember) l) j = true) ∧ St (Lo W.heap.size) (Lo W.heap.size) W wr [.rd b0 o0 [.slice A0 here.length c0, .slice A1 typ.length c1, .slice A n c], .ro (Lease.s true here) (.slice A0 here.length c0), .ro (Lease.s true typ) (.slice A1 typ.length c1), .ro (Mark.s true l) (.slice A n c)]) (fun k _ => n - (intOf k).toNat)
  case atStart =>
    refine ⟨0, by omega, rfl, Lib.hid rfl, ?_⟩
    apply St.sub' (h := H)
    (repeat (first | exact Pick.nil | with_reducible_and_instances exact Del.here | apply Pick.cons | with_reducible apply Del.there))
  case round =>
    obtain ⟨j, hj, rfl, HQ, H⟩ := hrel
    by_cases hlt : j < n
    · obtain ⟨x, hx⟩ := get_lt (l := l) (k := j) (by rw [HN.out]; exact hlt)
      obtain ⟨b, off, hA, H⟩ := Mark.st (l := l) H (by repeat (first | with_reducible_and_instances exact .here | with_reducible refine .there ?_)) hx
      subst hA
      have hlt' : (j : Int) < (n : Int) := by omega
      have HM := fun (w : World) => spec_l01Member x.xMember w
      have HT := fun (w : World) => spec_l00In x.xUpto 0 1000000000 w
      cases h1 : inB x.xMember 1 1000
      · have HX := Lib.hid (show marksR l = false from pairs_no (by rw [HN.out]; exact hlt) (pair_bad hx (by simp [markGood, h1])))
        rw [h1] at HM
        clear h1 hx
        (try clear hq); have hq := H.facts; simp only [factsOf, Pt.facts, CellsAt, Nat.add_zero, Nat.zero_add, Nat.reduceAdd, and_true, true_and, List.set_cons_zero, List.set_cons_succ] at hq
        go_wp2_with fail
        refine St.any (H.box _ _) ?_
        intro w2 H
        (try clear hq); have hq := H.facts; simp only [factsOf, Pt.facts, CellsAt, Nat.add_zero, Nat.zero_add, Nat.reduceAdd, and_true, true_and, List.set_cons_zero, List.set_cons_succ] at hq
        have hxx := (After.cells w2.heap.size w2).1
        refine wp_region_after (w2.heap.size) (by kernel_rfl) (by kernel_rfl) ?_; (repeat (go_big_quiet_step (first | (go_at_call 202; with_reducible exact Calls.after_same (HM _)) | (go_at_call 93; with_reducible exact Calls.after_same (HT _))))); refine wpQuiet_nil ?_; intro w1 hb1
        replace H := H.below hb1
        clear hxx
        (try clear hq); have hq := H.facts; simp only [factsOf, Pt.facts, CellsAt, Nat.add_zero, Nat.zero_add, Nat.reduceAdd, and_true, true_and, List.set_cons_zero, List.set_cons_succ] at hq
        go_wp2
        go_ret
        exact ⟨by rw [show Presence.ok ⟨here, typ, l⟩ = false from by unfold Presence.ok; simp only [HX.out]; rfl]; rfl, H.belowW⟩
      rw [h1] at HM
      cases h2 : inB x.xUpto 0 1000000000
      · have HX := Lib.hid (show marksR l = false from pairs_no (by rw [HN.out]; exact hlt) (pair_bad hx (by simp [markGood, h2])))
        rw [h2] at HT
        clear h1 h2 hx
        (try clear hq); have hq := H.facts; simp only [factsOf, Pt.facts, CellsAt, Nat.add_zero, Nat.zero_add, Nat.reduceAdd, and_true, true_and, List.set_cons_zero, List.set_cons_succ] at hq
        go_wp2_with fail
        refine St.any (H.box _ _) ?_
        intro w2 H
        (try clear hq); have hq := H.facts; simp only [factsOf, Pt.facts, CellsAt, Nat.add_zero, Nat.zero_add, Nat.reduceAdd, and_true, true_and, List.set_cons_zero, List.set_cons_succ] at hq
        have hxx := (After.cells w2.heap.size w2).1
        refine wp_region_after (w2.heap.size) (by kernel_rfl) (by kernel_rfl) ?_; (repeat (go_big_quiet_step (first | (go_at_call 202; with_reducible exact Calls.after_same (HM _)) | (go_at_call 93; with_reducible exact Calls.after_same (HT _))))); refine wpQuiet_nil ?_; intro w1 hb1
        replace H := H.below hb1
        clear hxx
        (try clear hq); have hq := H.facts; simp only [factsOf, Pt.facts, CellsAt, Nat.add_zero, Nat.zero_add, Nat.reduceAdd, and_true, true_and, List.set_cons_zero, List.set_cons_succ] at hq
        go_wp2
        go_ret
        exact ⟨by rw [show Presence.ok ⟨here, typ, l⟩ = false from by unfold Presence.ok; simp only [HX.out]; rfl]; rfl, H.belowW⟩
      rw [h2] at HT
      cases j with
      | zero =>
        have HS := Lib.hid (upTo_succ HQ.out (by rw [pair_zero hx]; simp [markGood, h1, h2]))
        simp only [Nat.zero_mul, Nat.add_zero] at H
        clear h1 h2 hx
        (try clear hq); have hq := H.facts; simp only [factsOf, Pt.facts, CellsAt, Nat.add_zero, Nat.zero_add, Nat.reduceAdd, and_true, true_and, List.set_cons_zero, List.set_cons_succ] at hq
        go_wp2_with fail
        refine St.any (H.box _ _) ?_
        intro w2 H
        (try clear hq); have hq := H.facts; simp only [factsOf, Pt.facts, CellsAt, Nat.add_zero, Nat.zero_add, Nat.reduceAdd, and_true, true_and, List.set_cons_zero, List.set_cons_succ] at hq
        have hxx := (After.cells w2.heap.size w2).1
        refine wp_region_after (w2.heap.size) (by kernel_rfl) (by kernel_rfl) ?_; (repeat (go_big_quiet_step (first | (go_at_call 202; with_reducible exact Calls.after_same (HM _)) | (go_at_call 93; with_reducible exact Calls.after_same (HT _))))); refine wpQuiet_nil ?_; intro w1 hb1
        replace H := H.below hb1
        clear hxx
        (try clear hq); have hq := H.facts; simp only [factsOf, Pt.facts, CellsAt, Nat.add_zero, Nat.zero_add, Nat.reduceAdd, and_true, true_and, List.set_cons_zero, List.set_cons_succ] at hq
        go_wp2
        go_roundw
        case rel => 
          refine ⟨1, by omega, by go_num, HS, ?_⟩
          apply St.sub' (h := H)
          (repeat (first | exact Pick.nil | with_reducible_and_instances exact Del.here | apply Pick.cons | with_reducible apply Del.there))
        case measure => simp [intOf]; omega
      | succ k =>
        obtain ⟨y, hy⟩ := get_lt (l := l) (k := k) (by rw [HN.out]; omega)
        obtain ⟨b', off', hA, H⟩ := Mark.st (l := l) H (by repeat (first | with_reducible_and_instances exact .here | with_reducible refine .there ?_)) hy
        injection hA with hA
        injection hA with e1 e2
        subst e1
        subst e2
        have HZ := Lib.hid (pair_succ (p := markGood) (key := fun x => x.xMember) hx hy)
        have hi1 : ((k + 1 : Nat) : Int) - 1 = k := by omega
        have hi0 : decide ((0 : Int) < ((k + 1 : Nat) : Int)) = true := by simp <;> omega
        have hk1 : (k : Int) < (n : Int) := by omega
        by_cases c1 : y.xMember < x.xMember
        rotate_left
        · have HX := Lib.hid (show marksR l = false from pairs_no (by rw [HN.out]; exact hlt) (by rw [HZ.out]; simp [c1]))
          have g1 : decide (x.xMember ≤ y.xMember) = true := by simp <;> omega
          clear h1 h2 hx hy
          (try clear hq); have hq := H.facts; simp only [factsOf, Pt.facts, CellsAt, Nat.add_zero, Nat.zero_add, Nat.reduceAdd, and_true, true_and, List.set_cons_zero, List.set_cons_succ] at hq
          go_wp2_with fail
          refine St.any (H.box _ _) ?_
          intro w2 H
          (try clear hq); have hq := H.facts; simp only [factsOf, Pt.facts, CellsAt, Nat.add_zero, Nat.zero_add, Nat.reduceAdd, and_true, true_and, List.set_cons_zero, List.set_cons_succ] at hq
          have hxx := (After.cells w2.heap.size w2).1
          refine wp_region_after (w2.heap.size) (by kernel_rfl) (by kernel_rfl) ?_; (repeat (go_big_quiet_step (first | (go_at_call 202; with_reducible exact Calls.after_same (HM _)) | (go_at_call 93; with_reducible exact Calls.after_same (HT _))))); refine wpQuiet_nil ?_; intro w1 hb1
          replace H := H.below hb1
          clear hxx
          (try clear hq); have hq := H.facts; simp only [factsOf, Pt.facts, CellsAt, Nat.add_zero, Nat.zero_add, Nat.reduceAdd, and_true, true_and, List.set_cons_zero, List.set_cons_succ] at hq
          go_wp2
          go_ret
          exact ⟨by rw [show Presence.ok ⟨here, typ, l⟩ = false from by unfold Presence.ok; simp only [HX.out]; rfl]; rfl, H.belowW⟩
        have g1 : decide (x.xMember ≤ y.xMember) = false := by simp <;> omega
        have HS := Lib.hid (upTo_succ HQ.out (by rw [HZ.out]; simp [markGood, h1, h2, c1]))
        clear h1 h2 hx hy
        (try clear hq); have hq := H.facts; simp only [factsOf, Pt.facts, CellsAt, Nat.add_zero, Nat.zero_add, Nat.reduceAdd, and_true, true_and, List.set_cons_zero, List.set_cons_succ] at hq
        go_wp2_with fail
        refine St.any (H.box _ _) ?_
        intro w2 H
        (try clear hq); have hq := H.facts; simp only [factsOf, Pt.facts, CellsAt, Nat.add_zero, Nat.zero_add, Nat.reduceAdd, and_true, true_and, List.set_cons_zero, List.set_cons_succ] at hq
        have hxx := (After.cells w2.heap.size w2).1
        refine wp_region_after (w2.heap.size) (by kernel_rfl) (by kernel_rfl) ?_; (repeat (go_big_quiet_step (first | (go_at_call 202; with_reducible exact Calls.after_same (HM _)) | (go_at_call 93; with_reducible exact Calls.after_same (HT _))))); refine wpQuiet_nil ?_; intro w1 hb1
        replace H := H.below hb1
        clear hxx
        (try clear hq); have hq := H.facts; simp only [factsOf, Pt.facts, CellsAt, Nat.add_zero, Nat.zero_add, Nat.reduceAdd, and_true, true_and, List.set_cons_zero, List.set_cons_succ] at hq
        go_wp2
        go_roundw
        case rel => 
          refine ⟨k + 1 + 1, by omega, by go_num, HS, ?_⟩
          apply St.sub' (h := H)
          (repeat (first | exact Pick.nil | with_reducible_and_instances exact Del.here | apply Pick.cons | with_reducible apply Del.there))
        case measure => simp [intOf]; omega
    · obtain rfl : j = n := by omega
      have HX := Lib.hid (show marksR l = decide ((j : Int) ≤ 30) from pairs_yes HN.out HQ.out)
      by_cases h30 : (j : Int) ≤ 30
      rotate_left
      · have g : decide ((j : Int) ≤ 30) = false := by simp <;> omega
        rw [g] at HX
        (try clear hq); have hq := H.facts; simp only [factsOf, Pt.facts, CellsAt, Nat.add_zero, Nat.zero_add, Nat.reduceAdd, and_true, true_and, List.set_cons_zero, List.set_cons_succ] at hq
        go_wp2_with (first | (go_at_call 207; (with_reducible refine (HL1 _ _ _ H (by repeat (first | with_reducible_and_instances exact .here | with_reducible refine .there ?_))).mono ?_); rintro e w1 ⟨rfl, hb1⟩; replace H := H.below hb1; clear hb1; (try clear hq); have hq := H.facts; simp only [factsOf, Pt.facts, CellsAt, Nat.add_zero, Nat.zero_add, Nat.reduceAdd, and_true, true_and, List.set_cons_zero, List.set_cons_succ] at hq) | (go_at_call 207; (with_reducible refine (HL2 _ _ _ H (by repeat (first | with_reducible_and_instances exact .here | with_reducible refine .there ?_))).mono ?_); rintro e w1 ⟨rfl, hb1⟩; replace H := H.below hb1; clear hb1; (try clear hq); have hq := H.facts; simp only [factsOf, Pt.facts, CellsAt, Nat.add_zero, Nat.zero_add, Nat.reduceAdd, and_true, true_and, List.set_cons_zero, List.set_cons_succ] at hq))
        go_ret
        exact ⟨by rw [(show Presence.ok ⟨here, typ, l⟩ = false from by unfold Presence.ok; simp only [HX.out]; simp)]; rfl, H.belowW⟩
      have g : decide ((j : Int) ≤ 30) = true := by simp <;> omega
      rw [g] at HX
      cases b1 : leasesR here
      · have HY := Lib.hid (show Presence.ok ⟨here, typ, l⟩ = false from by unfold Presence.ok; simp only [HX.out, b1]; simp)
        rw [b1] at HL1
        (try clear hq); have hq := H.facts; simp only [factsOf, Pt.facts, CellsAt, Nat.add_zero, Nat.zero_add, Nat.reduceAdd, and_true, true_and, List.set_cons_zero, List.set_cons_succ] at hq
        go_wp2_with (first | (go_at_call 207; (with_reducible refine (HL1 _ _ _ H (by repeat (first | with_reducible_and_instances exact .here | with_reducible refine .there ?_))).mono ?_); rintro e w1 ⟨rfl, hb1⟩; replace H := H.below hb1; clear hb1; (try clear hq); have hq := H.facts; simp only [factsOf, Pt.facts, CellsAt, Nat.add_zero, Nat.zero_add, Nat.reduceAdd, and_true, true_and, List.set_cons_zero, List.set_cons_succ] at hq) | (go_at_call 207; (with_reducible refine (HL2 _ _ _ H (by repeat (first | with_reducible_and_instances exact .here | with_reducible refine .there ?_))).mono ?_); rintro e w1 ⟨rfl, hb1⟩; replace H := H.below hb1; clear hb1; (try clear hq); have hq := H.facts; simp only [factsOf, Pt.facts, CellsAt, Nat.add_zero, Nat.zero_add, Nat.reduceAdd, and_true, true_and, List.set_cons_zero, List.set_cons_succ] at hq))
        go_ret
        exact ⟨by rw [HY.out]; rfl, H.belowW⟩
      rw [b1] at HL1
      cases b2 : leasesR typ
      · have HY := Lib.hid (show Presence.ok ⟨here, typ, l⟩ = false from by unfold Presence.ok; simp only [HX.out, b1, b2]; simp)
        rw [b2] at HL2
        (try clear hq); have hq := H.facts; simp only [factsOf, Pt.facts, CellsAt, Nat.add_zero, Nat.zero_add, Nat.reduceAdd, and_true, true_and, List.set_cons_zero, List.set_cons_succ] at hq
        go_wp2_with (first | (go_at_call 207; (with_reducible refine (HL1 _ _ _ H (by repeat (first | with_reducible_and_instances exact .here | with_reducible refine .there ?_))).mono ?_); rintro e w1 ⟨rfl, hb1⟩; replace H := H.below hb1; clear hb1; (try clear hq); have hq := H.facts; simp only [factsOf, Pt.facts, CellsAt, Nat.add_zero, Nat.zero_add, Nat.reduceAdd, and_true, true_and, List.set_cons_zero, List.set_cons_succ] at hq) | (go_at_call 207; (with_reducible refine (HL2 _ _ _ H (by repeat (first | with_reducible_and_instances exact .here | with_reducible refine .there ?_))).mono ?_); rintro e w1 ⟨rfl, hb1⟩; replace H := H.below hb1; clear hb1; (try clear hq); have hq := H.facts; simp only [factsOf, Pt.facts, CellsAt, Nat.add_zero, Nat.zero_add, Nat.reduceAdd, and_true, true_and, List.set_cons_zero, List.set_cons_succ] at hq))
        go_ret
        exact ⟨by rw [HY.out]; rfl, H.belowW⟩
      rw [b2] at HL2
      have HY := Lib.hid (show Presence.ok ⟨here, typ, l⟩ = true from by unfold Presence.ok; simp only [HX.out, b1, b2]; simp)
      (try clear hq); have hq := H.facts; simp only [factsOf, Pt.facts, CellsAt, Nat.add_zero, Nat.zero_add, Nat.reduceAdd, and_true, true_and, List.set_cons_zero, List.set_cons_succ] at hq
      go_wp2_with (first | (go_at_call 207; (with_reducible refine (HL1 _ _ _ H (by repeat (first | with_reducible_and_instances exact .here | with_reducible refine .there ?_))).mono ?_); rintro e w1 ⟨rfl, hb1⟩; replace H := H.below hb1; clear hb1; (try clear hq); have hq := H.facts; simp only [factsOf, Pt.facts, CellsAt, Nat.add_zero, Nat.zero_add, Nat.reduceAdd, and_true, true_and, List.set_cons_zero, List.set_cons_succ] at hq) | (go_at_call 207; (with_reducible refine (HL2 _ _ _ H (by repeat (first | with_reducible_and_instances exact .here | with_reducible refine .there ?_))).mono ?_); rintro e w1 ⟨rfl, hb1⟩; replace H := H.below hb1; clear hb1; (try clear hq); have hq := H.facts; simp only [factsOf, Pt.facts, CellsAt, Nat.add_zero, Nat.zero_add, Nat.reduceAdd, and_true, true_and, List.set_cons_zero, List.set_cons_succ] at hq))
      go_ret
      exact ⟨by rw [HY.out]; rfl, H.belowW⟩
end Go.Proofs.Ytmofbfeclecdoaa

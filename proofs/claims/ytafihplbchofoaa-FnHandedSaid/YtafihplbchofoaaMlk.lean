/- A number put to its place among rising ones, by the reference; likes. -/
import Derived.Test.YtafihplbchofoaaMop
import Derived.Test.YtafihplbchofoaaSti
namespace Go.Proofs.Ytafihplbchofoaa
open Go.ChangeShapes Go.WideShapes Go.ChangeAt Go.RowKit Go.Dt
set_option linter.unusedVariables false
set_option linter.unusedSimpArgs false
def putStep (n : Int) (s : Bool × List Int) (x : Int) : Bool × List Int :=
  if (!s.1 && decide (n ≤ x)) = true then (true, (if n < x then s.2 ++ [n] else s.2) ++ [x]) else (s.1, s.2 ++ [x])
def putTo (n : Int) (l : List Int) (j : Nat) : Bool × List Int := (l.take j).foldl (putStep n) (false, [])
def putI (l : List Int) (n : Int) : List Int := if (putTo n l l.length).1 = true then (putTo n l l.length).2 else (putTo n l l.length).2 ++ [n]
theorem putTo_succ {n : Int} {l : List Int} {j : Nat} {x : Int} (h : l[j]? = some x) : putTo n l (j + 1) = putStep n (putTo n l j) x := by
  unfold putTo
  rw [List.take_add_one, h]
  simp
theorem putTo_len (n : Int) (l : List Int) (j : Nat) : (putTo n l j).2.length ≤ 2 * j := by
  induction j with
  | zero => simp [putTo]
  | succ j ih =>
    cases h : l[j]? with
    | none =>
      have : putTo n l (j + 1) = putTo n l j := by unfold putTo; rw [List.take_add_one, h]; simp
      rw [this]; omega
    | some x =>
      rw [putTo_succ h]
      unfold putStep
      split
      · split <;> simp <;> omega
      · simp; omega
theorem putI_len (l : List Int) (n : Int) : (putI l n).length ≤ 2 * l.length + 1 := by
  have := putTo_len n l l.length
  unfold putI
  split
  · omega
  · simp; omega
set_option maxHeartbeats 1600000 in
set_option maxRecDepth 100000 in
theorem spec_l00Put (l : List Int) (num : Int) (A : Option Addr) (c : Nat) (W : World) (hr : Ro W (Lo W.heap.size) (ints l) (.slice A l.length c)) (hs : l.length ≤ 1048576) :
    Calls Try.prog 102 #[.slice A l.length c, .int .i64 num] W (Made W (ints (putI l num))) := by
  have H := (St.start W).addro hr
  clear hr
  have HR := Lib.hid (show putI l num = if (putTo num l l.length).1 = true then (putTo num l l.length).2 else (putTo num l l.length).2 ++ [num] from rfl)
  have HLN := fun j => Lib.hid (putTo_len num l j)
  generalize hn : l.length = n at *
  have HN := Lib.hid hn
  clear hn
  go_enter Try.func102, Try.ntmps102
  go_wp2
  go_loopw [5, 6, 7] (fun v5 v6 v7 wr => ∃ j : Nat, j ≤ n ∧ ∃ (A9 : Option Addr) (q c9 : Nat) (d : Bool) (o : List Int), v5 = .slice A9 q c9 ∧ v6 = .bool d ∧ v7 = .int .i64 j ∧ Hid (putTo num l j = (d, o)) ∧ St (Lo W.heap.size) (Lo W.heap.size) W wr [.ow (ints o) (.slice A9 q c9), .ro (ints l) (.slice A n c)]) (fun _ _ v7 _ => n - (intOf v7).toNat)
  case atStart =>
    refine ⟨0, by omega, some ⟨W.heap.size, 0, none⟩, 0, 0, false, [], rfl, rfl, rfl, Lib.hid rfl, ?_⟩
    have H2 := (H.junk (.cells #[] 2)).nilow 2 1 (some ⟨W.heap.size, 0, none⟩)
    exact H2
  case round =>
    obtain ⟨j, hj, A9, q, c9, d, o, rfl, rfl, rfl, HQ, H⟩ := hrel
    have hq1 := St.len H (by repeat (first | with_reducible_and_instances exact .here | with_reducible refine .there ?_))
    have hq2 := (HLN j).out
    rw [HQ.out, ← hq1] at hq2
    (try simp only at hq2)
    clear hq1
    by_cases hlt : j < n
    · obtain ⟨x, hx⟩ := get_lt (l := l) (k := j) (by rw [HN.out]; exact hlt)
      obtain ⟨b, off, hA, H'⟩ := ints_st H (by repeat (first | with_reducible_and_instances exact .here | with_reducible refine .there ?_)) hx
      clear H
      subst hA
      have H := H'
      clear H'
      have hlt' : (j : Int) < (n : Int) := by omega
      have HS := Lib.hid ((putTo_succ hx).trans (by rw [HQ.out]))
      clear hx
      unfold putStep at HS
      by_cases hc : d = false ∧ num ≤ x
      · obtain ⟨hd, hnx⟩ := hc
        subst hd
        by_cases hlx : num < x
        · have HS := Lib.hid (HS.out.trans (show _ = (true, o ++ [num] ++ [x]) from by simp [hnx, hlx]))
          (try clear hq); have hq := H.facts; simp only [factsOf, Pt.facts, CellsAt, Nat.add_zero, Nat.zero_add, Nat.reduceAdd, and_true, true_and, List.set_cons_zero, List.set_cons_succ] at hq
          go_wp2_with (first | (at_builtin; refine by_wp rfl fun K hK => wp_append1P_at 1 _ _ 50 2 rfl Try.underlying50 (.int .i64 0) 1 8 inf_int64 rfl (by decide) (by decide) rfl #[.int .i64 (num)] rfl (by first | rfl | (simp; done)) [.int .i64 (num)] rfl H rfl (OwL.one (Ow.I _ _)) (by omega) ?_; intro A9 c9 w1 H; refine hK _ _ ?_; clear hK; simp only [List.set_cons_zero, List.set_cons_succ] at H; (try clear hq); have hq := H.facts; simp only [factsOf, Pt.facts, CellsAt, Nat.add_zero, Nat.zero_add, Nat.reduceAdd, and_true, true_and, List.set_cons_zero, List.set_cons_succ] at hq) | (first | (at_builtin; refine by_wp rfl fun K hK => wp_append1P_at 1 _ _ 50 2 rfl Try.underlying50 (.int .i64 0) 1 8 inf_int64 rfl (by decide) (by decide) rfl #[.int .i64 (x)] rfl (by first | rfl | (simp; done)) [.int .i64 (x)] rfl H rfl (OwL.one (Ow.I _ _)) (by omega) ?_; intro A9 c9 w1 H; refine hK _ _ ?_; clear hK; simp only [List.set_cons_zero, List.set_cons_succ] at H; (try clear hq); have hq := H.facts; simp only [factsOf, Pt.facts, CellsAt, Nat.add_zero, Nat.zero_add, Nat.reduceAdd, and_true, true_and, List.set_cons_zero, List.set_cons_succ] at hq) | (at_builtin; refine by_wp rfl fun K hK => wp_append1P_at 0 _ _ 50 2 rfl Try.underlying50 (.int .i64 0) 1 8 inf_int64 rfl (by decide) (by decide) rfl #[.int .i64 (x)] rfl (by first | rfl | (simp; done)) [.int .i64 (x)] rfl H rfl (OwL.one (Ow.I _ _)) (by omega) ?_; intro A9 c9 w1 H; refine hK _ _ ?_; clear hK; simp only [List.set_cons_zero, List.set_cons_succ] at H; (try clear hq); have hq := H.facts; simp only [factsOf, Pt.facts, CellsAt, Nat.add_zero, Nat.zero_add, Nat.reduceAdd, and_true, true_and, List.set_cons_zero, List.set_cons_succ] at hq)))
          go_roundw
          case rel =>
            refine ⟨j + 1, by omega, A9, q + 1 + 1, c9, true, o ++ [num] ++ [x], rfl, rfl, by go_num, HS, ?_⟩
            rw [← ints_eq (l := o ++ [num]), List.map_append, List.map_cons, List.map_nil]
            apply St.sub' (h := H)
            (repeat (first | exact Pick.nil | with_reducible_and_instances exact Del.here | apply Pick.cons | with_reducible apply Del.there))
          case measure => simp [intOf]; omega
        · have HS := Lib.hid (HS.out.trans (show _ = (true, o ++ [x]) from by simp [hnx, hlx]))
          (try clear hq); have hq := H.facts; simp only [factsOf, Pt.facts, CellsAt, Nat.add_zero, Nat.zero_add, Nat.reduceAdd, and_true, true_and, List.set_cons_zero, List.set_cons_succ] at hq
          go_wp2_with (first | (at_builtin; refine by_wp rfl fun K hK => wp_append1P_at 1 _ _ 50 2 rfl Try.underlying50 (.int .i64 0) 1 8 inf_int64 rfl (by decide) (by decide) rfl #[.int .i64 (x)] rfl (by first | rfl | (simp; done)) [.int .i64 (x)] rfl H rfl (OwL.one (Ow.I _ _)) (by omega) ?_; intro A9 c9 w1 H; refine hK _ _ ?_; clear hK; simp only [List.set_cons_zero, List.set_cons_succ] at H; (try clear hq); have hq := H.facts; simp only [factsOf, Pt.facts, CellsAt, Nat.add_zero, Nat.zero_add, Nat.reduceAdd, and_true, true_and, List.set_cons_zero, List.set_cons_succ] at hq) | (at_builtin; refine by_wp rfl fun K hK => wp_append1P_at 0 _ _ 50 2 rfl Try.underlying50 (.int .i64 0) 1 8 inf_int64 rfl (by decide) (by decide) rfl #[.int .i64 (x)] rfl (by first | rfl | (simp; done)) [.int .i64 (x)] rfl H rfl (OwL.one (Ow.I _ _)) (by omega) ?_; intro A9 c9 w1 H; refine hK _ _ ?_; clear hK; simp only [List.set_cons_zero, List.set_cons_succ] at H; (try clear hq); have hq := H.facts; simp only [factsOf, Pt.facts, CellsAt, Nat.add_zero, Nat.zero_add, Nat.reduceAdd, and_true, true_and, List.set_cons_zero, List.set_cons_succ] at hq))
          go_roundw
          case rel =>
            refine ⟨j + 1, by omega, A9, q + 1, c9, true, o ++ [x], rfl, rfl, by go_num, HS, ?_⟩
            rw [← ints_eq]
            apply St.sub' (h := H)
            (repeat (first | exact Pick.nil | with_reducible_and_instances exact Del.here | apply Pick.cons | with_reducible apply Del.there))
          case measure => simp [intOf]; omega
      · have HS := Lib.hid (HS.out.trans (show _ = (d, o ++ [x]) from if_neg (by intro h; simp at h; exact hc h)))
        have hb : (!d && decide (num ≤ x)) = false := by cases d <;> simp at hc ⊢ <;> omega
        clear hc
        cases d
        all_goals
          simp at hb
          (try clear hq); have hq := H.facts; simp only [factsOf, Pt.facts, CellsAt, Nat.add_zero, Nat.zero_add, Nat.reduceAdd, and_true, true_and, List.set_cons_zero, List.set_cons_succ] at hq
          go_wp2_with (first | (at_builtin; refine by_wp rfl fun K hK => wp_append1P_at 1 _ _ 50 2 rfl Try.underlying50 (.int .i64 0) 1 8 inf_int64 rfl (by decide) (by decide) rfl #[.int .i64 (x)] rfl (by first | rfl | (simp; done)) [.int .i64 (x)] rfl H rfl (OwL.one (Ow.I _ _)) (by omega) ?_; intro A9 c9 w1 H; refine hK _ _ ?_; clear hK; simp only [List.set_cons_zero, List.set_cons_succ] at H; (try clear hq); have hq := H.facts; simp only [factsOf, Pt.facts, CellsAt, Nat.add_zero, Nat.zero_add, Nat.reduceAdd, and_true, true_and, List.set_cons_zero, List.set_cons_succ] at hq) | (at_builtin; refine by_wp rfl fun K hK => wp_append1P_at 0 _ _ 50 2 rfl Try.underlying50 (.int .i64 0) 1 8 inf_int64 rfl (by decide) (by decide) rfl #[.int .i64 (x)] rfl (by first | rfl | (simp; done)) [.int .i64 (x)] rfl H rfl (OwL.one (Ow.I _ _)) (by omega) ?_; intro A9 c9 w1 H; refine hK _ _ ?_; clear hK; simp only [List.set_cons_zero, List.set_cons_succ] at H; (try clear hq); have hq := H.facts; simp only [factsOf, Pt.facts, CellsAt, Nat.add_zero, Nat.zero_add, Nat.reduceAdd, and_true, true_and, List.set_cons_zero, List.set_cons_succ] at hq))
          go_roundw
          case rel =>
            refine ⟨j + 1, by omega, A9, q + 1, c9, _, o ++ [x], rfl, rfl, by go_num, HS, ?_⟩
            rw [← ints_eq]
            apply St.sub' (h := H)
            (repeat (first | exact Pick.nil | with_reducible_and_instances exact Del.here | apply Pick.cons | with_reducible apply Del.there))
          case measure => simp [intOf]; omega
    · obtain rfl : j = n := by omega
      rw [HQ.out] at HR
      (try simp only at HR)
      clear HLN
      (try clear hq); have hq := H.facts; simp only [factsOf, Pt.facts, CellsAt, Nat.add_zero, Nat.zero_add, Nat.reduceAdd, and_true, true_and, List.set_cons_zero, List.set_cons_succ] at hq
      cases d
      · simp only [Bool.false_eq_true, if_false] at HR
        go_wp2_with (at_builtin; refine by_wp rfl fun K hK => wp_append1P_at 0 _ _ 50 2 rfl Try.underlying50 (.int .i64 0) 1 8 inf_int64 rfl (by decide) (by decide) rfl #[.int .i64 (num)] rfl (by first | rfl | (simp; done)) [.int .i64 (num)] rfl H rfl (OwL.one (Ow.I _ _)) (by omega) ?_; intro A9 c9 w1 H; refine hK _ _ ?_; clear hK; simp only [List.set_cons_zero, List.set_cons_succ] at H; (try clear hq); have hq := H.facts; simp only [factsOf, Pt.facts, CellsAt, Nat.add_zero, Nat.zero_add, Nat.reduceAdd, and_true, true_and, List.set_cons_zero, List.set_cons_succ] at hq)
        go_ret
        rw [ints_eq, ← HR.out] at H
        obtain ⟨F, h1, h2⟩ := H.own (d := ints (putI l num)) (v := .slice A9 (q + 1) c9) (by repeat (first | with_reducible_and_instances exact .here | with_reducible refine .there ?_))
        exact ⟨_, F, rfl, h1, H.belowW, fun b hb => Nat.le_of_not_lt (h2 b hb)⟩
      · simp only [if_true] at HR
        go_wp2
        go_ret
        rw [← HR.out] at H
        obtain ⟨F, h1, h2⟩ := H.own (d := ints (putI l num)) (v := .slice A9 q c9) (by repeat (first | with_reducible_and_instances exact .here | with_reducible refine .there ?_))
        exact ⟨_, F, rfl, h1, H.belowW, fun b hb => Nat.le_of_not_lt (h2 b hb)⟩
def likesTo (l : List Int) (mem : Int) (i : Nat) : List Int := (l.take i).filter (fun x => x != mem)
def likesR (l : List Int) (mem : Int) (more : Bool) : List Int := if more = true then putI (l.filter fun x => x != mem) mem else l.filter fun x => x != mem
theorem likesTo_len (l : List Int) (mem : Int) (i : Nat) : (likesTo l mem i).length ≤ i := by
  unfold likesTo
  have := List.length_filter_le (fun x => x != mem) (l.take i)
  rw [List.length_take] at this
  omega
theorem likesTo_yes {l : List Int} {mem : Int} {i : Nat} {x : Int} (h : l[i]? = some x) (hx : ¬ x = mem) : likesTo l mem (i + 1) = likesTo l mem i ++ [x] := by
  unfold likesTo
  rw [List.take_add_one, h]
  simp [hx]
theorem likesTo_no {l : List Int} {mem : Int} {i : Nat} {x : Int} (h : l[i]? = some x) (hx : x = mem) : likesTo l mem (i + 1) = likesTo l mem i := by
  unfold likesTo
  rw [List.take_add_one, h]
  simp [hx]
def liked (x : Log) (n mem : Int) (more : Bool) : Log × Bool := changeAt x n (fun m => !(hasIt m.xLikes mem == more)) (fun m => { m with xLikes := likesR m.xLikes mem more })
set_option maxHeartbeats 3200000 in
set_option maxRecDepth 100000 in
theorem spec_l03Like (x : Log) (n mem : Int) (more : Bool) (b0 o0 : Nat) (A : Option Addr) (c : Nat) (W : World) (k0 : W.cell? ⟨b0, o0, none⟩ = some (.int .i64 x.xNext)) (k1 : W.cell? ⟨b0, o0 + 1, none⟩ = some (.slice A x.xMessages.length c)) (hr : Ro W (Lo W.heap.size) (Message.s true x.xMessages) (.slice A x.xMessages.length c)) (ho : x.ok = true) :
    Calls Try.prog 51 #[.pointer (some ⟨b0, o0, none⟩), .int .i64 n, .int .i64 mem, .bool more] W (MadeLB W (liked x n mem more)) := by
  have H := ((St.start W).addro hr).addcells (b := b0) (off := o0) (us := [.int .i64 x.xNext, .slice A x.xMessages.length c]) (World.block_lt_of_cell? W _ k0) ⟨k0, k1, trivial⟩
  have mc := hr.sl_max
  have lc := hr.sl_cap
  have hfit := Log.fit_at ho
  have hfew := Log.few' ho
  have hmok := @Log.msg_ok x ho
  obtain ⟨next, l⟩ := x
  simp only at *
  have HV := fun (w : World) (ps : List Pt) (R : Nat → Prop) (H : St (Lo W.heap.size) R W w ps) (h1 : At (.rd b0 o0 [.int .i64 next, .slice A l.length c]) ps) (h2 : At (.ro (Message.s true l) (.slice A l.length c)) ps) => spec_l03Live ⟨next, l⟩ n b0 o0 A c w (H.rd h1 (j := 0) rfl) (H.rd h1 (j := 1) rfl) (H.lo (.inl h2))
  have HO := fun (w : World) (ps : List Pt) (R : Nat → Prop) (H : St (Lo W.heap.size) R W w ps) (h1 : At (.rd b0 o0 [.int .i64 next, .slice A l.length c]) ps) (h2 : At (.ro (Message.s true l) (.slice A l.length c)) ps) => spec_l03Own ⟨next, l⟩ b0 o0 A c w (H.rd h1 (j := 0) rfl) (H.rd h1 (j := 1) rfl) (H.lo (.inl h2)) (fun m hm => (hfit m hm).2) (Nat.le_trans hfew (by decide))
  clear k0 k1 hr mc lc
  rcases num_cases l n with h | ⟨j, m, h, hm, -⟩
  · have HX := Lib.hid (show (liked ⟨next, l⟩ n mem more) = (⟨0, []⟩, false) from changeAt_none h)
    have hl := live_none h
    simp only [hl] at HV
    clear h hl ho
    (try clear hq); have hq := H.facts; simp only [factsOf, Pt.facts, CellsAt, Nat.add_zero, Nat.zero_add, Nat.reduceAdd, and_true, true_and, List.set_cons_zero, List.set_cons_succ] at hq
    go_enter Try.func51, Try.ntmps51
    go_wp2_with (go_at_call 100; (with_reducible refine (HV _ _ _ (H.box _ _) (by repeat (first | with_reducible_and_instances exact .here | with_reducible refine .there ?_)) (by repeat (first | with_reducible_and_instances exact .here | with_reducible refine .there ?_))).mono ?_); rintro e w1 ⟨rfl, hb1⟩; replace H := (H.box _ _).below hb1; clear hb1; (try clear hq); have hq := H.facts; simp only [factsOf, Pt.facts, CellsAt, Nat.add_zero, Nat.zero_add, Nat.reduceAdd, and_true, true_and, List.set_cons_zero, List.set_cons_succ] at hq)
    have hB := H.belowW
    exact bodyPost_ret (v := .tuple #[.agg #[.int .i64 0, .slice none 0 0], .bool false]) (by simp [results, Try.results51, go_sem, hq]) rfl (madeLB_no HX.out (by (repeat (first | with_reducible assumption | with_reducible exact Below.refl _ _ | with_reducible refine Below.setCell ?_ ?_ _ | with_reducible refine Below.alloc ?_ ?_ _ | with_reducible refine Below.drew ?_ | with_reducible refine below_drewN ?_ _ | omega | (simp; done) | (simp; omega))); all_goals first | omega | (simp; done) | (simp; omega)))
  have hj := (List.getElem?_eq_some_iff.1 hm).1
  have hlv := live_at h hm
  have hj' : (j : Int) < (l.length : Int) := by omega
  have hm1 := Message.fit (hmok hm).1
  cases hg : m.xGone
  rotate_left
  · have HX := Lib.hid (show (liked ⟨next, l⟩ n mem more) = (⟨0, []⟩, false) from changeAt_no h hm (by rw [hg]; rfl))
    rw [hg] at hlv
    simp only [if_true] at hlv
    simp only [hlv] at HV
    clear h hlv ho hm hg hm1
    (try clear hq); have hq := H.facts; simp only [factsOf, Pt.facts, CellsAt, Nat.add_zero, Nat.zero_add, Nat.reduceAdd, and_true, true_and, List.set_cons_zero, List.set_cons_succ] at hq
    go_enter Try.func51, Try.ntmps51
    go_wp2_with (go_at_call 100; (with_reducible refine (HV _ _ _ (H.box _ _) (by repeat (first | with_reducible_and_instances exact .here | with_reducible refine .there ?_)) (by repeat (first | with_reducible_and_instances exact .here | with_reducible refine .there ?_))).mono ?_); rintro e w1 ⟨rfl, hb1⟩; replace H := (H.box _ _).below hb1; clear hb1; (try clear hq); have hq := H.facts; simp only [factsOf, Pt.facts, CellsAt, Nat.add_zero, Nat.zero_add, Nat.reduceAdd, and_true, true_and, List.set_cons_zero, List.set_cons_succ] at hq)
    have hB := H.belowW
    exact bodyPost_ret (v := .tuple #[.agg #[.int .i64 0, .slice none 0 0], .bool false]) (by simp [results, Try.results51, go_sem, hq]) rfl (madeLB_no HX.out (by (repeat (first | with_reducible assumption | with_reducible exact Below.refl _ _ | with_reducible refine Below.setCell ?_ ?_ _ | with_reducible refine Below.alloc ?_ ?_ _ | with_reducible refine Below.drew ?_ | with_reducible refine below_drewN ?_ _ | omega | (simp; done) | (simp; omega))); all_goals first | omega | (simp; done) | (simp; omega)))
  rw [hg] at hlv
  simp only [Bool.false_eq_true, if_false] at hlv
  simp only [hlv] at HV
  clear hlv
  obtain ⟨b, off, A7, c7, hA, H⟩ := Message.st H (by repeat (first | with_reducible_and_instances exact .here | with_reducible refine .there ?_)) hm
  subst hA
  have hc7 := (H.roR (d := ints m.xLikes) (v := .slice A7 m.xLikes.length c7) (by repeat (first | with_reducible_and_instances exact .here | with_reducible refine .there ?_))).sl_max
  have hl7 := (H.roR (d := ints m.xLikes) (v := .slice A7 m.xLikes.length c7) (by repeat (first | with_reducible_and_instances exact .here | with_reducible refine .there ?_))).sl_cap
  have HH := fun (w : World) (ps : List Pt) (R : Nat → Prop) (H : St (Lo W.heap.size) R W w ps) (h : At (.ro (ints m.xLikes) (.slice A7 m.xLikes.length c7)) ps) => spec_l00Has mem m.xLikes A7 c7 w (H.lo (.inl h)) hc7 hl7
  generalize hhas : hasIt m.xLikes mem = hi at *
  cases h1 : (hi == more)
  rotate_left
  · have HX := Lib.hid (show (liked ⟨next, l⟩ n mem more) = (⟨0, []⟩, false) from changeAt_no h hm (by rw [hg]; simp [hhas, h1]))
    skip
    clear h ho hm hg hm1
    skip
    (try clear hq); have hq := H.facts; simp only [factsOf, Pt.facts, CellsAt, Nat.add_zero, Nat.zero_add, Nat.reduceAdd, and_true, true_and, List.set_cons_zero, List.set_cons_succ] at hq
    go_enter Try.func51, Try.ntmps51
    go_wp2_with (first | (go_at_call 100; (with_reducible refine (HV _ _ _ (H.box _ _) (by repeat (first | with_reducible_and_instances exact .here | with_reducible refine .there ?_)) (by repeat (first | with_reducible_and_instances exact .here | with_reducible refine .there ?_))).mono ?_); rintro e w1 ⟨rfl, hb1⟩; replace H := (H.box _ _).below hb1; clear hb1; (try clear hq); have hq := H.facts; simp only [factsOf, Pt.facts, CellsAt, Nat.add_zero, Nat.zero_add, Nat.reduceAdd, and_true, true_and, List.set_cons_zero, List.set_cons_succ] at hq) | (go_at_call 101; (with_reducible refine (HH _ _ _ H (by repeat (first | with_reducible_and_instances exact .here | with_reducible refine .there ?_))).mono ?_); rintro e wq ⟨rfl, hwq⟩; obtain rfl := hwq.symm))
    have hB := H.belowW
    exact bodyPost_ret (v := .tuple #[.agg #[.int .i64 0, .slice none 0 0], .bool false]) (by simp [results, Try.results51, go_sem, hq]) rfl (madeLB_no HX.out (by (repeat (first | with_reducible assumption | with_reducible exact Below.refl _ _ | with_reducible refine Below.setCell ?_ ?_ _ | with_reducible refine Below.alloc ?_ ?_ _ | with_reducible refine Below.drew ?_ | with_reducible refine below_drewN ?_ _ | omega | (simp; done) | (simp; omega))); all_goals first | omega | (simp; done) | (simp; omega)))
  skip
  have HX := Lib.hid (show (liked ⟨next, l⟩ n mem more) = give ⟨next, l.set j { m with xLikes := likesR m.xLikes mem more }⟩ from changeAt_yes h hm (by rw [hg]; simp [hhas, h1]))
  have HG := fun (w : World) (A : Option Addr) (c : Nat) (H : Ro w (Lo w.heap.size) (Message.s true (l.set j { m with xLikes := likesR m.xLikes mem more })) (.slice A l.length c)) => spec_l03Give ⟨next, l.set j { m with xLikes := likesR m.xLikes mem more }⟩ A l.length c w H (fun y hy => by
    rcases List.mem_or_eq_of_mem_set hy with hy | hy
    · exact (hfit y hy).1
    · rw [hy]; exact hm1.1)
  clear h ho
  (try clear hq); have hq := H.facts; simp only [factsOf, Pt.facts, CellsAt, Nat.add_zero, Nat.zero_add, Nat.reduceAdd, and_true, true_and, List.set_cons_zero, List.set_cons_succ] at hq
  go_enter Try.func51, Try.ntmps51
  go_wp2_with (first | (go_at_call 100; (with_reducible refine (HV _ _ _ (H.box _ _) (by repeat (first | with_reducible_and_instances exact .here | with_reducible refine .there ?_)) (by repeat (first | with_reducible_and_instances exact .here | with_reducible refine .there ?_))).mono ?_); rintro e w1 ⟨rfl, hb1⟩; replace H := (H.box _ _).below hb1; clear hb1; (try clear hq); have hq := H.facts; simp only [factsOf, Pt.facts, CellsAt, Nat.add_zero, Nat.zero_add, Nat.reduceAdd, and_true, true_and, List.set_cons_zero, List.set_cons_succ] at hq) | (go_at_call 101; (with_reducible refine (HH _ _ _ H (by repeat (first | with_reducible_and_instances exact .here | with_reducible refine .there ?_))).mono ?_); rintro e wq ⟨rfl, hwq⟩; obtain rfl := hwq.symm))
  refine (HO _ _ _ H (by repeat (first | with_reducible_and_instances exact .here | with_reducible refine .there ?_)) (by repeat (first | with_reducible_and_instances exact .here | with_reducible refine .there ?_))).mono ?_
  rintro e w2 ⟨us, F, rfl, hO, hb, hF⟩
  obtain ⟨Ao, co, rfl, H⟩ := Log.st rfl (H.addos hb hO hF)
  have HLL := fun (i : Nat) => Lib.hid (show (likesTo m.xLikes mem i).length ≤ i from likesTo_len _ _ _)
  have HLN := Lib.hid hm1.2.1
  (try clear hq); have hq := H.facts; simp only [factsOf, Pt.facts, CellsAt, Nat.add_zero, Nat.zero_add, Nat.reduceAdd, and_true, true_and, List.set_cons_zero, List.set_cons_succ] at hq
  go_wp2
  go_loopw [12, 46] (fun v12 v46 wr => ∃ i : Nat, i ≤ m.xLikes.length ∧ ∃ (A8 : Option Addr) (q c8 : Nat), v12 = .slice A8 q c8 ∧ v46 = .int .i64 i ∧ St (Lo W.heap.size) (Lo W.heap.size) W wr [.ow (ints (likesTo m.xLikes mem i)) (.slice A8 q c8), .bx w2.heap.size #[.int .i64 next, .slice Ao l.length co] 26, .ow (Message.s true l) (.slice Ao l.length co), .bx W.heap.size #[.int .i64 0, .slice none 0 0] 26, .rd b (off + j * 8) [.int .i64 m.xNumber, .int .i64 m.xSender, .int .i64 m.xAt, .string m.xText, .int .i64 m.xEdits, .bool m.xGone, .int .i64 m.xReply, .slice A7 m.xLikes.length c7], .ro (ints m.xLikes) (.slice A7 m.xLikes.length c7), .rd b0 o0 [.int .i64 next, .slice (some ⟨b, off, none⟩) l.length c], .ro (Message.s true l) (.slice (some ⟨b, off, none⟩) l.length c)]) (fun _ v46 _ => m.xLikes.length - (intOf v46).toNat)
  case atStart =>
    refine ⟨0, by omega, some ⟨w2.heap.size + 1, 0, none⟩, 0, 0, rfl, rfl, ?_⟩
    rw [show ints (likesTo m.xLikes mem 0) = D.sl 2 1 [] from rfl]
    apply St.sub' (h := ((H.box2 _ _ _ _).nilow 2 1 (some ⟨w2.heap.size + 1, 0, none⟩)))
    (repeat (first | exact Pick.nil | with_reducible_and_instances exact Del.here | apply Pick.cons | with_reducible apply Del.there))
  case round =>
    obtain ⟨i, hj2, A8, q, c8, rfl, rfl, H⟩ := hrel
    have hq1 := St.len H (by repeat (first | with_reducible_and_instances exact .here | with_reducible refine .there ?_))
    have hq2 := (HLL i).out
    rw [← hq1] at hq2
    clear hq1
    by_cases hlt : i < m.xLikes.length
    · obtain ⟨x, hx⟩ := get_lt hlt
      obtain ⟨b', off', hA, H'⟩ := ints_st H (l := m.xLikes) (by repeat (first | with_reducible_and_instances exact .here | with_reducible refine .there ?_)) hx
      clear H
      subst hA
      have H := H'
      clear H'
      have hlt' : (i : Int) < (m.xLikes.length : Int) := by omega
      have hq3 := HLN.out
      by_cases hxm : x = mem
      · have HS := Lib.hid (likesTo_no (mem := mem) hx hxm)
        have g : (x != mem) = false := by simp [hxm]
        clear hx
        (try clear hq); have hq := H.facts; simp only [factsOf, Pt.facts, CellsAt, Nat.add_zero, Nat.zero_add, Nat.reduceAdd, and_true, true_and, List.set_cons_zero, List.set_cons_succ] at hq
        go_wp2
        go_roundw
        case rel =>
          refine ⟨i + 1, by omega, A8, q, c8, rfl, by go_num, ?_⟩
          rw [HS.out]
          apply St.sub' (h := H)
          (repeat (first | exact Pick.nil | with_reducible_and_instances exact Del.here | apply Pick.cons | with_reducible apply Del.there))
        case measure => simp [intOf]; omega
      · have HS := Lib.hid (likesTo_yes (mem := mem) hx hxm)
        have g : (x != mem) = true := by simp [hxm]
        clear hx
        (try clear hq); have hq := H.facts; simp only [factsOf, Pt.facts, CellsAt, Nat.add_zero, Nat.zero_add, Nat.reduceAdd, and_true, true_and, List.set_cons_zero, List.set_cons_succ] at hq
        go_wp2_with (first | (at_builtin; refine by_wp rfl fun K hK => wp_append1P_at 1 _ _ 50 2 rfl Try.underlying50 (.int .i64 0) 1 8 inf_int64 rfl (by decide) (by decide) rfl #[.int .i64 (x)] rfl (by first | rfl | (simp; done)) [.int .i64 (x)] rfl H rfl (OwL.one (Ow.I _ _)) (by omega) ?_; intro A9 c9 w1 H; refine hK _ _ ?_; clear hK; simp only [List.set_cons_zero, List.set_cons_succ] at H; (try clear hq); have hq := H.facts; simp only [factsOf, Pt.facts, CellsAt, Nat.add_zero, Nat.zero_add, Nat.reduceAdd, and_true, true_and, List.set_cons_zero, List.set_cons_succ] at hq) | (at_builtin; refine by_wp rfl fun K hK => wp_append1P_at 0 _ _ 50 2 rfl Try.underlying50 (.int .i64 0) 1 8 inf_int64 rfl (by decide) (by decide) rfl #[.int .i64 (x)] rfl (by first | rfl | (simp; done)) [.int .i64 (x)] rfl H rfl (OwL.one (Ow.I _ _)) (by omega) ?_; intro A9 c9 w1 H; refine hK _ _ ?_; clear hK; simp only [List.set_cons_zero, List.set_cons_succ] at H; (try clear hq); have hq := H.facts; simp only [factsOf, Pt.facts, CellsAt, Nat.add_zero, Nat.zero_add, Nat.reduceAdd, and_true, true_and, List.set_cons_zero, List.set_cons_succ] at hq))
        go_roundw
        case rel =>
          refine ⟨i + 1, by omega, A9, q + 1, c9, rfl, by go_num, ?_⟩
          rw [HS.out, ← ints_eq]
          apply St.sub' (h := H)
          (repeat (first | exact Pick.nil | with_reducible_and_instances exact Del.here | apply Pick.cons | with_reducible apply Del.there))
        case measure => simp [intOf]; omega
    · obtain rfl : i = m.xLikes.length := by omega
      (try clear hq); have hq := H.facts; simp only [factsOf, Pt.facts, CellsAt, Nat.add_zero, Nat.zero_add, Nat.reduceAdd, and_true, true_and, List.set_cons_zero, List.set_cons_succ] at hq
      cases more
      · rw [show likesTo m.xLikes mem m.xLikes.length = likesR m.xLikes mem false from by simp [likesR, likesTo]] at H
        obtain ⟨g, pre, post, A9, c9, hA, H'⟩ := Message.open (H.pull (k := 2) rfl) hm
        clear H
        subst hA
        have H := H'
        clear H'
        simp only [List.set_cons_zero, List.set_cons_succ] at H
        (try clear hq); have hq := H.facts; simp only [factsOf, Pt.facts, CellsAt, Nat.add_zero, Nat.zero_add, Nat.reduceAdd, and_true, true_and, List.set_cons_zero, List.set_cons_succ] at hq
        go_wp2_with fail
        have H := H.putM 7 (.slice A8 q c8) [.int .i64 m.xNumber, .int .i64 m.xSender, .int .i64 m.xAt, .string m.xText, .int .i64 m.xEdits, .bool m.xGone, .int .i64 m.xReply, .slice A8 q c8] (by simp) rfl
        have H := St.front3 H .here (.there (.there .here)) (.there .here)
        have H := Message.shut (m := { m with xLikes := likesR m.xLikes mem false }) rfl H
        cases hv : Log.ok ⟨next, l.set j { m with xLikes := likesR m.xLikes mem false }⟩
        · have HX2 := Lib.hid (show (liked ⟨next, l⟩ n mem false) = (⟨0, []⟩, false) from by rw [HX.out]; unfold give; rw [hv]; rfl)
          rw [hv] at HG
          simp only [Bool.false_eq_true, if_false] at HG
          clear hv HX
          refine (HG _ _ _ (H.lo (.inr (by repeat (first | with_reducible_and_instances exact .here | with_reducible refine .there ?_))))).mono ?_
          rintro e w3 ⟨rfl, hb3⟩
          replace H := H.below hb3
          clear hb3
          (try clear hq); have hq := H.facts; simp only [factsOf, Pt.facts, CellsAt, Nat.add_zero, Nat.zero_add, Nat.reduceAdd, and_true, true_and, List.set_cons_zero, List.set_cons_succ] at hq
          go_wp2
          have hB := H.belowW
          exact bodyPost_ret (v := .tuple #[.agg #[.int .i64 0, .slice none 0 0], .bool false]) (by simp [results, Try.results51, go_sem, hq]) rfl (madeLB_no HX2.out (by (repeat (first | with_reducible assumption | with_reducible exact Below.refl _ _ | with_reducible refine Below.setCell ?_ ?_ _ | with_reducible refine Below.alloc ?_ ?_ _ | with_reducible refine Below.drew ?_ | with_reducible refine below_drewN ?_ _ | omega | (simp; done) | (simp; omega))); all_goals first | omega | (simp; done) | (simp; omega)))
        · have HX2 := Lib.hid (show (liked ⟨next, l⟩ n mem false) = (⟨next, l.set j { m with xLikes := likesR m.xLikes mem false }⟩, true) from by rw [HX.out]; unfold give; rw [hv]; rfl)
          rw [hv] at HG
          simp only [if_true] at HG
          clear hv HX
          refine (HG _ _ _ (H.lo (.inr (by repeat (first | with_reducible_and_instances exact .here | with_reducible refine .there ?_))))).mono ?_
          rintro e w3 ⟨rfl, hb3⟩
          replace H := H.below hb3
          clear hb3
          (try clear hq); have hq := H.facts; simp only [factsOf, Pt.facts, CellsAt, Nat.add_zero, Nat.zero_add, Nat.reduceAdd, and_true, true_and, List.set_cons_zero, List.set_cons_succ] at hq
          go_wp2
          have H3 := ((H.pull (k := 4) rfl).put 0 (.int .i64 next)).put 1 (.slice (some ⟨g, 0, none⟩) l.length co)
          simp only [List.set_cons_zero, List.set_cons_succ] at H3
          exact bodyPost_ret (v := .tuple #[.agg #[.int .i64 next, .slice (some ⟨g, 0, none⟩) l.length co], .bool true]) (by simp [results, Try.results51, go_sem, hq]) rfl (madeLB_st (y := ⟨next, l.set j { m with xLikes := likesR m.xLikes mem false }⟩) H3 (by repeat (first | with_reducible_and_instances exact .here | with_reducible refine .there ?_)) HX2.out)

      · have hq1 := St.len H (l := likesTo m.xLikes mem m.xLikes.length) (by repeat (first | with_reducible_and_instances exact .here | with_reducible refine .there ?_))
        subst hq1
        have HPT := fun (w : World) (ps : List Pt) (R : Nat → Prop) (H : St (Lo W.heap.size) R W w ps) (h : At (.ow (ints (likesTo m.xLikes mem m.xLikes.length)) (.slice A8 (likesTo m.xLikes mem m.xLikes.length).length c8)) ps) => spec_l00Put (likesTo m.xLikes mem m.xLikes.length) mem A8 c8 w (H.lo (.inr h)) (by have := HLN.out; omega)
        rw [show putI (likesTo m.xLikes mem m.xLikes.length) mem = likesR m.xLikes mem true from by simp [likesR, likesTo]] at HPT
        generalize (likesTo m.xLikes mem m.xLikes.length).length = q0 at *
        obtain ⟨g, pre, post, A9, c9, hA, H'⟩ := Message.open (H.pull (k := 2) rfl) hm
        clear H
        subst hA
        have H := H'
        clear H'
        simp only [List.set_cons_zero, List.set_cons_succ] at H
        (try clear hq); have hq := H.facts; simp only [factsOf, Pt.facts, CellsAt, Nat.add_zero, Nat.zero_add, Nat.reduceAdd, and_true, true_and, List.set_cons_zero, List.set_cons_succ] at hq
        go_wp2_with (go_at_call 102; (with_reducible refine (HPT _ _ _ H (by repeat (first | with_reducible_and_instances exact .here | with_reducible refine .there ?_))).mono ?_); rintro e w4 ⟨v4, F4, rfl, hO4, hb4, hF4⟩; obtain ⟨A4, q4, c4, rfl⟩ := hO4.slice; replace H := H.addow hb4 hO4 hF4; clear hO4 hb4 hF4; (try clear hq); have hq := H.facts; simp only [factsOf, Pt.facts, CellsAt, Nat.add_zero, Nat.zero_add, Nat.reduceAdd, and_true, true_and, List.set_cons_zero, List.set_cons_succ] at hq)
        have H := (H.pull (k := 1) rfl).putM 7 (.slice A4 q4 c4) [.int .i64 m.xNumber, .int .i64 m.xSender, .int .i64 m.xAt, .string m.xText, .int .i64 m.xEdits, .bool m.xGone, .int .i64 m.xReply, .slice A4 q4 c4] (by simp) rfl
        simp only [List.set_cons_zero, List.set_cons_succ] at H
        have H := St.front3 H .here .here (.there (.there .here))
        have H := Message.shut (m := { m with xLikes := likesR m.xLikes mem true }) rfl H
        cases hv : Log.ok ⟨next, l.set j { m with xLikes := likesR m.xLikes mem true }⟩
        · have HX2 := Lib.hid (show (liked ⟨next, l⟩ n mem true) = (⟨0, []⟩, false) from by rw [HX.out]; unfold give; rw [hv]; rfl)
          rw [hv] at HG
          simp only [Bool.false_eq_true, if_false] at HG
          clear hv HX
          refine (HG _ _ _ (H.lo (.inr (by repeat (first | with_reducible_and_instances exact .here | with_reducible refine .there ?_))))).mono ?_
          rintro e w3 ⟨rfl, hb3⟩
          replace H := H.below hb3
          clear hb3
          (try clear hq); have hq := H.facts; simp only [factsOf, Pt.facts, CellsAt, Nat.add_zero, Nat.zero_add, Nat.reduceAdd, and_true, true_and, List.set_cons_zero, List.set_cons_succ] at hq
          go_wp2
          have hB := H.belowW
          exact bodyPost_ret (v := .tuple #[.agg #[.int .i64 0, .slice none 0 0], .bool false]) (by simp [results, Try.results51, go_sem, hq]) rfl (madeLB_no HX2.out (by (repeat (first | with_reducible assumption | with_reducible exact Below.refl _ _ | with_reducible refine Below.setCell ?_ ?_ _ | with_reducible refine Below.alloc ?_ ?_ _ | with_reducible refine Below.drew ?_ | with_reducible refine below_drewN ?_ _ | omega | (simp; done) | (simp; omega))); all_goals first | omega | (simp; done) | (simp; omega)))
        · have HX2 := Lib.hid (show (liked ⟨next, l⟩ n mem true) = (⟨next, l.set j { m with xLikes := likesR m.xLikes mem true }⟩, true) from by rw [HX.out]; unfold give; rw [hv]; rfl)
          rw [hv] at HG
          simp only [if_true] at HG
          clear hv HX
          refine (HG _ _ _ (H.lo (.inr (by repeat (first | with_reducible_and_instances exact .here | with_reducible refine .there ?_))))).mono ?_
          rintro e w3 ⟨rfl, hb3⟩
          replace H := H.below hb3
          clear hb3
          (try clear hq); have hq := H.facts; simp only [factsOf, Pt.facts, CellsAt, Nat.add_zero, Nat.zero_add, Nat.reduceAdd, and_true, true_and, List.set_cons_zero, List.set_cons_succ] at hq
          go_wp2
          have H3 := ((H.pull (k := 6) rfl).put 0 (.int .i64 next)).put 1 (.slice (some ⟨g, 0, none⟩) l.length co)
          simp only [List.set_cons_zero, List.set_cons_succ] at H3
          exact bodyPost_ret (v := .tuple #[.agg #[.int .i64 next, .slice (some ⟨g, 0, none⟩) l.length co], .bool true]) (by simp [results, Try.results51, go_sem, hq]) rfl (madeLB_st (y := ⟨next, l.set j { m with xLikes := likesR m.xLikes mem true }⟩) H3 (by repeat (first | with_reducible_and_instances exact .here | with_reducible refine .there ?_)) HX2.out)

end Go.Proofs.Ytafihplbchofoaa

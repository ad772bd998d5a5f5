/- A message is posted, by the reference: any reply. -/
import Derived.Test.YtafihplbchofoaaMop
namespace Go.Proofs.Ytafihplbchofoaa
open Go.ChangeShapes Go.WideShapes Go.ChangeAt Go.RowKit Go.Dt
set_option linter.unusedVariables false
set_option linter.unusedSimpArgs false
def postOk (l : List Message) (r : Int) : Bool := r == 0 || (decide (0 ≤ numAt l r) && !goneAt l r)
def postedR (x : Log) (s a : Int) (t : ByteArray) (r : Int) : Log × Bool := if postOk x.xMessages r = true then give ⟨x.xNext + 1, x.xMessages ++ [⟨x.xNext, s, a, t, 0, false, r, []⟩]⟩ else (⟨0, []⟩, false)
theorem postedR_no {x : Log} {s a r : Int} {t : ByteArray} (h : postOk x.xMessages r = false) : postedR x s a t r = (⟨0, []⟩, false) := if_neg (by rw [h]; simp)
theorem postedR_yes {x : Log} {s a r : Int} {t : ByteArray} (h : postOk x.xMessages r = true) : postedR x s a t r = give ⟨x.xNext + 1, x.xMessages ++ [⟨x.xNext, s, a, t, 0, false, r, []⟩]⟩ := if_pos h
theorem gone_at {l : List Message} {n : Int} {j : Nat} {m : Message} (h : numAt l n = j) (hm : l[j]? = some m) : goneAt l n = m.xGone := by
  unfold goneAt
  rw [h, Int.toNat_natCast, hm]
  simp
theorem msgs_eq {l : List Message} {m : Message} : D.sl 99 8 (l.map (Message.d true) ++ [Message.d true m]) = Message.s true (l ++ [m]) := by unfold Message.s; rw [List.map_append]; rfl
theorem Message.own0 {w : World} {m : Message} (h : m.xLikes = []) (A : Option Addr) : OwL w (Message.d true m) [.int .i64 m.xNumber, .int .i64 m.xSender, .int .i64 m.xAt, .string m.xText, .int .i64 m.xEdits, .bool m.xGone, .int .i64 m.xReply, .slice A 0 0] (fun _ => False) := by
  unfold Message.d
  rw [h]
  exact OwL.consP (Ow.I _ _) (OwL.consP (Ow.I _ _) (OwL.consP (Ow.I _ _) (OwL.consP (Ow.S _) (OwL.consP (Ow.I _ _) (OwL.consP (Ow.B _) (OwL.consP (Ow.I _ _) (OwL.one (Ow.emp _ _ _ _ (fun _ h => h)))))))))
set_option maxHeartbeats 3200000 in
set_option maxRecDepth 100000 in
theorem spec_l03PostR (x : Log) (s a : Int) (t : ByteArray) (r : Int) (b0 o0 : Nat) (A : Option Addr) (c : Nat) (W : World) (k0 : W.cell? ⟨b0, o0, none⟩ = some (.int .i64 x.xNext)) (k1 : W.cell? ⟨b0, o0 + 1, none⟩ = some (.slice A x.xMessages.length c)) (hr : Ro W (Lo W.heap.size) (Message.s true x.xMessages) (.slice A x.xMessages.length c)) (ho : x.ok = true) (ht : t.size ≤ maxLen) :
    Calls Try.prog 49 #[.pointer (some ⟨b0, o0, none⟩), .int .i64 s, .int .i64 a, .string t, .int .i64 r] W (MadeLB W (postedR x s a t r)) := by
  have H := ((St.start W).addro hr).addcells (b := b0) (off := o0) (us := [.int .i64 x.xNext, .slice A x.xMessages.length c]) (World.block_lt_of_cell? W _ k0) ⟨k0, k1, trivial⟩
  have mc := hr.sl_max
  have lc := hr.sl_cap
  have hfit := Log.fit_at ho
  obtain ⟨hfew, hx1, hx2⟩ := Log.few ho
  obtain ⟨next, l⟩ := x
  simp only at *
  have hlen : l.length ≤ 9223372036854775807 := by omega
  have HF := fun (w : World) (ps : List Pt) (R : Nat → Prop) (H : St (Lo W.heap.size) R W w ps) (h1 : At (.rd b0 o0 [.int .i64 next, .slice A l.length c]) ps) (h2 : At (.ro (Message.s true l) (.slice A l.length c)) ps) => spec_l03Find l r b0 o0 A c w (H.rd h1 (j := 1) rfl) (H.lo (.inl h2)) mc lc
  have HO := fun (w : World) (ps : List Pt) (R : Nat → Prop) (H : St (Lo W.heap.size) R W w ps) (h1 : At (.rd b0 o0 [.int .i64 next, .slice A l.length c]) ps) (h2 : At (.ro (Message.s true l) (.slice A l.length c)) ps) => spec_l03Own ⟨next, l⟩ b0 o0 A c w (H.rd h1 (j := 0) rfl) (H.rd h1 (j := 1) rfl) (H.lo (.inl h2)) (fun m hm => (hfit m hm).2) (Nat.le_trans hfew (by decide))
  have HG := fun (w : World) (A : Option Addr) (n c : Nat) (H : Ro w (Lo w.heap.size) (Message.s true (l ++ [(⟨next, s, a, t, 0, false, r, []⟩ : Message)])) (.slice A n c)) => spec_l03Give ⟨next + 1, l ++ [(⟨next, s, a, t, 0, false, r, []⟩ : Message)]⟩ A n c w H (fun y hy => by
    rcases List.mem_append.1 hy with hy | hy
    · exact (hfit y hy).1
    · rw [List.mem_singleton.1 hy]; exact ht)
  clear k0 k1 hr mc lc hfit ho
  cases r0 : (r == 0)
  · have r1 : (r != 0) = true := by simpa using r0
    have r2 : ¬ r = 0 := by simpa using r0
    rcases num_cases l r with h | ⟨j, m, h, hm, -⟩
    · have HX := Lib.hid (show (postedR ⟨next, l⟩ s a t r) = (⟨0, []⟩, false) from postedR_no (by unfold postOk; rw [r0, h]; rfl))
      rw [h] at HF
      clear h r0
      (try clear hq); have hq := H.facts; simp only [factsOf, Pt.facts, CellsAt, Nat.add_zero, Nat.zero_add, Nat.reduceAdd, and_true, true_and, List.set_cons_zero, List.set_cons_succ] at hq
      go_enter Try.func49, Try.ntmps49
      go_wp2_with (go_at_call 97; (with_reducible refine (HF _ _ _ (H.box _ _) (by repeat (first | with_reducible_and_instances exact .here | with_reducible refine .there ?_)) (by repeat (first | with_reducible_and_instances exact .here | with_reducible refine .there ?_))).mono ?_); rintro e w1 ⟨rfl, hb1⟩; replace H := (H.box _ _).below hb1; clear hb1; (try clear hq); have hq := H.facts; simp only [factsOf, Pt.facts, CellsAt, Nat.add_zero, Nat.zero_add, Nat.reduceAdd, and_true, true_and, List.set_cons_zero, List.set_cons_succ] at hq)
      have hB := H.belowW
      exact bodyPost_ret (v := .tuple #[.agg #[.int .i64 0, .slice none 0 0], .bool false]) (by simp [results, Try.results49, go_sem, hq]) rfl (madeLB_no HX.out (by (repeat (first | with_reducible assumption | with_reducible exact Below.refl _ _ | with_reducible refine Below.setCell ?_ ?_ _ | with_reducible refine Below.alloc ?_ ?_ _ | with_reducible refine Below.drew ?_ | with_reducible refine below_drewN ?_ _ | omega | (simp; done) | (simp; omega))); all_goals first | omega | (simp; done) | (simp; omega)))
    have hj := (List.getElem?_eq_some_iff.1 hm).1
    have hj' : (j : Int) < (l.length : Int) := by omega
    obtain ⟨b, off, A7, c7, hA, H⟩ := Message.st H (by repeat (first | with_reducible_and_instances exact .here | with_reducible refine .there ?_)) hm
    subst hA
    rw [h] at HF
    cases hg : m.xGone
    rotate_left
    · have HX := Lib.hid (show (postedR ⟨next, l⟩ s a t r) = (⟨0, []⟩, false) from postedR_no (by unfold postOk; rw [r0, gone_at h hm, hg, h]; simp))
      rw [hg] at H
      clear h hm hg r0
      (try clear hq); have hq := H.facts; simp only [factsOf, Pt.facts, CellsAt, Nat.add_zero, Nat.zero_add, Nat.reduceAdd, and_true, true_and, List.set_cons_zero, List.set_cons_succ] at hq
      go_enter Try.func49, Try.ntmps49
      go_wp2_with (go_at_call 97; (with_reducible refine (HF _ _ _ (H.box _ _) (by repeat (first | with_reducible_and_instances exact .here | with_reducible refine .there ?_)) (by repeat (first | with_reducible_and_instances exact .here | with_reducible refine .there ?_))).mono ?_); rintro e w1 ⟨rfl, hb1⟩; replace H := (H.box _ _).below hb1; clear hb1; (try clear hq); have hq := H.facts; simp only [factsOf, Pt.facts, CellsAt, Nat.add_zero, Nat.zero_add, Nat.reduceAdd, and_true, true_and, List.set_cons_zero, List.set_cons_succ] at hq)
      have hB := H.belowW
      exact bodyPost_ret (v := .tuple #[.agg #[.int .i64 0, .slice none 0 0], .bool false]) (by simp [results, Try.results49, go_sem, hq]) rfl (madeLB_no HX.out (by (repeat (first | with_reducible assumption | with_reducible exact Below.refl _ _ | with_reducible refine Below.setCell ?_ ?_ _ | with_reducible refine Below.alloc ?_ ?_ _ | with_reducible refine Below.drew ?_ | with_reducible refine below_drewN ?_ _ | omega | (simp; done) | (simp; omega))); all_goals first | omega | (simp; done) | (simp; omega)))
    have HX := Lib.hid (show (postedR ⟨next, l⟩ s a t r) = give ⟨next + 1, l ++ [(⟨next, s, a, t, 0, false, r, []⟩ : Message)]⟩ from postedR_yes (by unfold postOk; rw [r0, gone_at h hm, hg, h]; simp))
    rw [hg] at H
    clear h hm hg r0
    (try clear hq); have hq := H.facts; simp only [factsOf, Pt.facts, CellsAt, Nat.add_zero, Nat.zero_add, Nat.reduceAdd, and_true, true_and, List.set_cons_zero, List.set_cons_succ] at hq
    go_enter Try.func49, Try.ntmps49
    go_wp2_with (go_at_call 97; (with_reducible refine (HF _ _ _ (H.box _ _) (by repeat (first | with_reducible_and_instances exact .here | with_reducible refine .there ?_)) (by repeat (first | with_reducible_and_instances exact .here | with_reducible refine .there ?_))).mono ?_); rintro e w1 ⟨rfl, hb1⟩; replace H := (H.box _ _).below hb1; clear hb1; (try clear hq); have hq := H.facts; simp only [factsOf, Pt.facts, CellsAt, Nat.add_zero, Nat.zero_add, Nat.reduceAdd, and_true, true_and, List.set_cons_zero, List.set_cons_succ] at hq)
    refine (HO _ _ _ H (by repeat (first | with_reducible_and_instances exact .here | with_reducible refine .there ?_)) (by repeat (first | with_reducible_and_instances exact .here | with_reducible refine .there ?_))).mono ?_
    rintro e w2 ⟨us, F, rfl, hO, hb, hF⟩
    obtain ⟨Ao, co, rfl, H⟩ := Log.st rfl (H.addos hb hO hF)
    clear hO hF hb HF HO
    (try clear hq); have hq := H.facts; simp only [factsOf, Pt.facts, CellsAt, Nat.add_zero, Nat.zero_add, Nat.reduceAdd, and_true, true_and, List.set_cons_zero, List.set_cons_succ] at hq
    go_wp2_with fail
    refine St.any (H.box _ _) ?_
    intro w3 H
    (try clear hq); have hq := H.facts; simp only [factsOf, Pt.facts, CellsAt, Nat.add_zero, Nat.zero_add, Nat.reduceAdd, and_true, true_and, List.set_cons_zero, List.set_cons_succ] at hq
    go_region_law (refine by_step rfl (wp_append1P_at 1 _ _ 24 99 rfl Try.underlying24 (.agg #[.int .i64 0, .int .i64 0, .int .i64 0, .string ByteArray.empty, .int .i64 0, .bool false, .int .i64 0, .slice none 0 0]) 8 88 Message.inf rfl (by decide) (by decide) rfl #[.int .i64 next, .int .i64 s, .int .i64 a, .string t, .int .i64 0, .bool false, .int .i64 r, .slice (some ⟨w3.heap.size, 0, none⟩) 0 0] rfl (by first | rfl | (simp; done)) (Message.d true (⟨next, s, a, t, 0, false, r, []⟩ : Message)) rfl (H.drew.junk _) rfl (Message.own0 rfl _) (by omega) ?_); intro A9 c9 w4 H; simp only [List.set_cons_zero, List.set_cons_succ] at H; (try clear hq); have hq := H.facts; simp only [factsOf, Pt.facts, CellsAt, Nat.add_zero, Nat.zero_add, Nat.reduceAdd, and_true, true_and, List.set_cons_zero, List.set_cons_succ] at hq)
    all_goals
      have H := (H.pull (k := 0) rfl).put' 1 (.slice A9 (l.length + 1) c9) #[.int .i64 next, .slice A9 (l.length + 1) c9] rfl
      simp only [List.set_cons_zero, List.set_cons_succ] at H
      generalize w4.setCell ⟨w2.heap.size, 1, none⟩ (.slice A9 (l.length + 1) c9) = w5 at H ⊢
      (try clear hq); have hq := H.facts; simp only [factsOf, Pt.facts, CellsAt, Nat.add_zero, Nat.zero_add, Nat.reduceAdd, and_true, true_and, List.set_cons_zero, List.set_cons_succ] at hq
      go_wp2_with fail
      have H := H.put' 0 (.int .i64 (next + 1)) #[.int .i64 (next + 1), .slice A9 (l.length + 1) c9] rfl
      rw [msgs_eq] at H
      cases hv : Log.ok ⟨next + 1, l ++ [(⟨next, s, a, t, 0, false, r, []⟩ : Message)]⟩
      · have HX2 := Lib.hid (show (postedR ⟨next, l⟩ s a t r) = (⟨0, []⟩, false) from by rw [HX.out]; unfold give; rw [hv]; rfl)
        rw [hv] at HG
        simp only [Bool.false_eq_true, if_false] at HG
        clear hv HX
        refine (HG _ _ _ _ (H.lo (.inr (by repeat (first | with_reducible_and_instances exact .here | with_reducible refine .there ?_))))).mono ?_
        rintro e w6 ⟨rfl, hb5⟩
        replace H := H.below hb5
        clear hb5
        (try clear hq); have hq := H.facts; simp only [factsOf, Pt.facts, CellsAt, Nat.add_zero, Nat.zero_add, Nat.reduceAdd, and_true, true_and, List.set_cons_zero, List.set_cons_succ] at hq
        go_wp2
        have hB := H.belowW
        exact bodyPost_ret (v := .tuple #[.agg #[.int .i64 0, .slice none 0 0], .bool false]) (by simp [results, Try.results49, go_sem, hq]) rfl (madeLB_no HX2.out (by (repeat (first | with_reducible assumption | with_reducible exact Below.refl _ _ | with_reducible refine Below.setCell ?_ ?_ _ | with_reducible refine Below.alloc ?_ ?_ _ | with_reducible refine Below.drew ?_ | with_reducible refine below_drewN ?_ _ | omega | (simp; done) | (simp; omega))); all_goals first | omega | (simp; done) | (simp; omega)))
      · have HX2 := Lib.hid (show (postedR ⟨next, l⟩ s a t r) = (⟨next + 1, l ++ [(⟨next, s, a, t, 0, false, r, []⟩ : Message)]⟩, true) from by rw [HX.out]; unfold give; rw [hv]; rfl)
        rw [hv] at HG
        simp only [if_true] at HG
        clear hv HX
        refine (HG _ _ _ _ (H.lo (.inr (by repeat (first | with_reducible_and_instances exact .here | with_reducible refine .there ?_))))).mono ?_
        rintro e w6 ⟨rfl, hb5⟩
        replace H := H.below hb5
        clear hb5
        (try clear hq); have hq := H.facts; simp only [factsOf, Pt.facts, CellsAt, Nat.add_zero, Nat.zero_add, Nat.reduceAdd, and_true, true_and, List.set_cons_zero, List.set_cons_succ] at hq
        go_wp2
        have H3 := ((H.pull (k := 3) rfl).put 0 (.int .i64 (next + 1))).put 1 (.slice A9 (l.length + 1) c9)
        simp only [List.set_cons_zero, List.set_cons_succ] at H3
        exact bodyPost_ret (v := .tuple #[.agg #[.int .i64 (next + 1), .slice A9 (l.length + 1) c9], .bool true]) (by simp [results, Try.results49, go_sem, hq]) rfl (madeLB_st (y := ⟨next + 1, l ++ [(⟨next, s, a, t, 0, false, r, []⟩ : Message)]⟩) H3 (by repeat (first | with_reducible_and_instances exact .here | with_reducible refine .there ?_)) HX2.out)

  · have r2 : r = 0 := by simpa using r0
    have r1 : (r != 0) = false := by simp [r2]
    have HX := Lib.hid (show (postedR ⟨next, l⟩ s a t r) = give ⟨next + 1, l ++ [(⟨next, s, a, t, 0, false, r, []⟩ : Message)]⟩ from postedR_yes (by unfold postOk; rw [r0]; rfl))
    generalize numAt l r = q at *
    clear r0 r2
    (try clear hq); have hq := H.facts; simp only [factsOf, Pt.facts, CellsAt, Nat.add_zero, Nat.zero_add, Nat.reduceAdd, and_true, true_and, List.set_cons_zero, List.set_cons_succ] at hq
    go_enter Try.func49, Try.ntmps49
    go_wp2_with (go_at_call 97; (with_reducible refine (HF _ _ _ (H.box _ _) (by repeat (first | with_reducible_and_instances exact .here | with_reducible refine .there ?_)) (by repeat (first | with_reducible_and_instances exact .here | with_reducible refine .there ?_))).mono ?_); rintro e w1 ⟨rfl, hb1⟩; replace H := (H.box _ _).below hb1; clear hb1; (try clear hq); have hq := H.facts; simp only [factsOf, Pt.facts, CellsAt, Nat.add_zero, Nat.zero_add, Nat.reduceAdd, and_true, true_and, List.set_cons_zero, List.set_cons_succ] at hq)
    refine (HO _ _ _ H (by repeat (first | with_reducible_and_instances exact .here | with_reducible refine .there ?_)) (by repeat (first | with_reducible_and_instances exact .here | with_reducible refine .there ?_))).mono ?_
    rintro e w2 ⟨us, F, rfl, hO, hb, hF⟩
    obtain ⟨Ao, co, rfl, H⟩ := Log.st rfl (H.addos hb hO hF)
    clear hO hF hb HF HO
    (try clear hq); have hq := H.facts; simp only [factsOf, Pt.facts, CellsAt, Nat.add_zero, Nat.zero_add, Nat.reduceAdd, and_true, true_and, List.set_cons_zero, List.set_cons_succ] at hq
    go_wp2_with fail
    refine St.any (H.box _ _) ?_
    intro w3 H
    (try clear hq); have hq := H.facts; simp only [factsOf, Pt.facts, CellsAt, Nat.add_zero, Nat.zero_add, Nat.reduceAdd, and_true, true_and, List.set_cons_zero, List.set_cons_succ] at hq
    go_region_law (refine by_step rfl (wp_append1P_at 1 _ _ 24 99 rfl Try.underlying24 (.agg #[.int .i64 0, .int .i64 0, .int .i64 0, .string ByteArray.empty, .int .i64 0, .bool false, .int .i64 0, .slice none 0 0]) 8 88 Message.inf rfl (by decide) (by decide) rfl #[.int .i64 next, .int .i64 s, .int .i64 a, .string t, .int .i64 0, .bool false, .int .i64 r, .slice (some ⟨w3.heap.size, 0, none⟩) 0 0] rfl (by first | rfl | (simp; done)) (Message.d true (⟨next, s, a, t, 0, false, r, []⟩ : Message)) rfl (H.drew.junk _) rfl (Message.own0 rfl _) (by omega) ?_); intro A9 c9 w4 H; simp only [List.set_cons_zero, List.set_cons_succ] at H; (try clear hq); have hq := H.facts; simp only [factsOf, Pt.facts, CellsAt, Nat.add_zero, Nat.zero_add, Nat.reduceAdd, and_true, true_and, List.set_cons_zero, List.set_cons_succ] at hq)
    all_goals
      have H := (H.pull (k := 0) rfl).put' 1 (.slice A9 (l.length + 1) c9) #[.int .i64 next, .slice A9 (l.length + 1) c9] rfl
      simp only [List.set_cons_zero, List.set_cons_succ] at H
      generalize w4.setCell ⟨w2.heap.size, 1, none⟩ (.slice A9 (l.length + 1) c9) = w5 at H ⊢
      (try clear hq); have hq := H.facts; simp only [factsOf, Pt.facts, CellsAt, Nat.add_zero, Nat.zero_add, Nat.reduceAdd, and_true, true_and, List.set_cons_zero, List.set_cons_succ] at hq
      go_wp2_with fail
      have H := H.put' 0 (.int .i64 (next + 1)) #[.int .i64 (next + 1), .slice A9 (l.length + 1) c9] rfl
      rw [msgs_eq] at H
      cases hv : Log.ok ⟨next + 1, l ++ [(⟨next, s, a, t, 0, false, r, []⟩ : Message)]⟩
      · have HX2 := Lib.hid (show (postedR ⟨next, l⟩ s a t r) = (⟨0, []⟩, false) from by rw [HX.out]; unfold give; rw [hv]; rfl)
        rw [hv] at HG
        simp only [Bool.false_eq_true, if_false] at HG
        clear hv HX
        refine (HG _ _ _ _ (H.lo (.inr (by repeat (first | with_reducible_and_instances exact .here | with_reducible refine .there ?_))))).mono ?_
        rintro e w6 ⟨rfl, hb5⟩
        replace H := H.below hb5
        clear hb5
        (try clear hq); have hq := H.facts; simp only [factsOf, Pt.facts, CellsAt, Nat.add_zero, Nat.zero_add, Nat.reduceAdd, and_true, true_and, List.set_cons_zero, List.set_cons_succ] at hq
        go_wp2
        have hB := H.belowW
        exact bodyPost_ret (v := .tuple #[.agg #[.int .i64 0, .slice none 0 0], .bool false]) (by simp [results, Try.results49, go_sem, hq]) rfl (madeLB_no HX2.out (by (repeat (first | with_reducible assumption | with_reducible exact Below.refl _ _ | with_reducible refine Below.setCell ?_ ?_ _ | with_reducible refine Below.alloc ?_ ?_ _ | with_reducible refine Below.drew ?_ | with_reducible refine below_drewN ?_ _ | omega | (simp; done) | (simp; omega))); all_goals first | omega | (simp; done) | (simp; omega)))
      · have HX2 := Lib.hid (show (postedR ⟨next, l⟩ s a t r) = (⟨next + 1, l ++ [(⟨next, s, a, t, 0, false, r, []⟩ : Message)]⟩, true) from by rw [HX.out]; unfold give; rw [hv]; rfl)
        rw [hv] at HG
        simp only [if_true] at HG
        clear hv HX
        refine (HG _ _ _ _ (H.lo (.inr (by repeat (first | with_reducible_and_instances exact .here | with_reducible refine .there ?_))))).mono ?_
        rintro e w6 ⟨rfl, hb5⟩
        replace H := H.below hb5
        clear hb5
        (try clear hq); have hq := H.facts; simp only [factsOf, Pt.facts, CellsAt, Nat.add_zero, Nat.zero_add, Nat.reduceAdd, and_true, true_and, List.set_cons_zero, List.set_cons_succ] at hq
        go_wp2
        have H3 := ((H.pull (k := 3) rfl).put 0 (.int .i64 (next + 1))).put 1 (.slice A9 (l.length + 1) c9)
        simp only [List.set_cons_zero, List.set_cons_succ] at H3
        exact bodyPost_ret (v := .tuple #[.agg #[.int .i64 (next + 1), .slice A9 (l.length + 1) c9], .bool true]) (by simp [results, Try.results49, go_sem, hq]) rfl (madeLB_st (y := ⟨next + 1, l ++ [(⟨next, s, a, t, 0, false, r, []⟩ : Message)]⟩) H3 (by repeat (first | with_reducible_and_instances exact .here | with_reducible refine .there ?_)) HX2.out)

end Go.Proofs.Ytafihplbchofoaa

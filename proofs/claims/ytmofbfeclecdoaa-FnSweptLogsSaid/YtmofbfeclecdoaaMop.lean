/- What is done with a message of a log, by the reference. -/
import Derived.Test.YtmofbfeclecdoaaStm
import Derived.Test.YtmofbfeclecdoaaPost
import Derived.Test.YtmofbfeclecdoaaLaw
namespace Go.Proofs.Ytmofbfeclecdoaa
open Go.ChangeShapes Go.WideShapes Go.ChangeAt Go.RowKit Go.Dt
set_option linter.unusedVariables false
set_option linter.unusedSimpArgs false
theorem Message.fit {m : Message} (h : m.ok = true) : m.xText.size ≤ maxLen ∧ m.xLikes.length ≤ 20 ∧ 0 ≤ m.xEdits ∧ m.xEdits ≤ 1000000000 ∧ rises isMem m.xLikes = true := by
  unfold Message.ok at h
  simp only [Bool.and_eq_true, decide_eq_true_eq] at h
  obtain ⟨_, _, _, ht, he, _, hl, hr, _⟩ := h
  unfold isText at ht
  simp only [Bool.and_eq_true, decide_eq_true_eq] at ht
  have := inB_yes he
  exact ⟨by simp only [maxLen]; omega, by omega, by omega, by omega, hr⟩
theorem Log.fit_at {l : Log} (h : l.ok = true) : ∀ m ∈ l.xMessages, m.xText.size ≤ maxLen ∧ m.xLikes.length ≤ 1048576 := by
  intro m hm
  obtain ⟨j, hj, rfl⟩ := List.getElem_of_mem hm
  have := Message.fit (Log.msg_ok h (List.getElem?_eq_getElem hj)).1
  exact ⟨this.1, by omega⟩
theorem Log.few' {l : Log} (h : l.ok = true) : l.xMessages.length ≤ 40 := (Log.few h).1
def give (y : Log) : Log × Bool := if y.ok = true then (y, true) else (⟨0, []⟩, false)
def goneAt (l : List Message) (n : Int) : Bool := match l[(numAt l n).toNat]? with
  | some m => decide (0 ≤ numAt l n) && m.xGone
  | none => false
def liveAt (l : List Message) (n : Int) : Int := if goneAt l n then -1 else numAt l n
def changeAt (x : Log) (n : Int) (ok : Message → Bool) (f : Message → Message) : Log × Bool :=
  if numAt x.xMessages n < 0 then (⟨0, []⟩, false) else match x.xMessages[(numAt x.xMessages n).toNat]? with
    | some m => if (!m.xGone && ok m) = true then give ⟨x.xNext, x.xMessages.set (numAt x.xMessages n).toNat (f m)⟩ else (⟨0, []⟩, false)
    | none => (⟨0, []⟩, false)
section
variable {x : Log} {n : Int} {ok : Message → Bool} {f : Message → Message} {j : Nat} {m : Message}
theorem changeAt_none (h : numAt x.xMessages n = -1) : changeAt x n ok f = (⟨0, []⟩, false) := if_pos (by rw [h]; decide)
theorem changeAt_no (h : numAt x.xMessages n = j) (hm : x.xMessages[j]? = some m) (hb : (!m.xGone && ok m) = false) : changeAt x n ok f = (⟨0, []⟩, false) := by
  unfold changeAt
  rw [if_neg (by rw [h]; omega), h, Int.toNat_natCast, hm]
  simp [hb]
theorem changeAt_yes (h : numAt x.xMessages n = j) (hm : x.xMessages[j]? = some m) (hb : (!m.xGone && ok m) = true) : changeAt x n ok f = give ⟨x.xNext, x.xMessages.set j (f m)⟩ := by
  unfold changeAt
  rw [if_neg (by rw [h]; omega), h, Int.toNat_natCast, hm]
  simp only [hb, if_true]
theorem live_none {l : List Message} (h : numAt l n = -1) : liveAt l n = -1 := by
  unfold liveAt
  split
  · rfl
  · exact h
theorem live_at {l : List Message} (h : numAt l n = j) (hm : l[j]? = some m) : liveAt l n = if m.xGone = true then (-1 : Int) else (j : Int) := by
  unfold liveAt goneAt
  rw [h, Int.toNat_natCast, hm]
  simp only [show decide (0 ≤ (j : Int)) = true from by simp, Bool.true_and]
theorem num_cases (l : List Message) (n : Int) : numAt l n = -1 ∨ ∃ (j : Nat) (m : Message), numAt l n = j ∧ l[j]? = some m ∧ m.xNumber = n := by
  rcases idx_cases (fun m : Message => m.xNumber == n) l with h | ⟨j, m, h1, h2, h3⟩
  · exact .inl h.1
  · exact .inr ⟨j, m, h1, h2, by simpa using h3⟩
end
theorem madeLB_st {R : Nat → Prop} {W w' : World} {ps : List Pt} {y : Log} {r : Log × Bool} {A : Option Addr} {n c : Nat} (H : St (Lo W.heap.size) R W w' ps) (ha : At (.ow (Message.s true y.xMessages) (.slice A n c)) ps) (hr : r = (y, true)) : MadeLB W r (.returned (.tuple #[.agg #[.int .i64 y.xNext, .slice A n c], .bool true])) w' := by
  subst hr
  obtain ⟨F, h1, h2⟩ := H.own ha
  exact ⟨A, n, c, F, rfl, h1, H.belowW, fun b hb => Nat.le_of_not_lt (h2 b hb)⟩
def edited (x : Log) (n s : Int) (t : ByteArray) : Log × Bool := changeAt x n (fun m => m.xSender == s && !(m.xText.toList == t.toList)) (fun m => { m with xText := t, xEdits := m.xEdits + 1 })
def takenBack (x : Log) (n s : Int) : Log × Bool := changeAt x n (fun m => m.xSender == s) (fun m => { m with xText := ByteArray.empty, xGone := true, xLikes := [] })
set_option maxHeartbeats 1600000 in
set_option maxRecDepth 100000 in
theorem spec_l03Live (x : Log) (n : Int) (b0 o0 : Nat) (A : Option Addr) (c : Nat) (W : World) (k0 : W.cell? ⟨b0, o0, none⟩ = some (.int .i64 x.xNext)) (k1 : W.cell? ⟨b0, o0 + 1, none⟩ = some (.slice A x.xMessages.length c)) (hr : Ro W (Lo W.heap.size) (Message.s true x.xMessages) (.slice A x.xMessages.length c)) :
    Calls Try.prog 184 #[.pointer (some ⟨b0, o0, none⟩), .int .i64 n] W fun e w' => e = .returned (.int .i64 (liveAt x.xMessages n)) ∧ Below W.heap.size W w' := by
  have H := ((St.start W).addro hr).addcells (b := b0) (off := o0) (us := [.int .i64 x.xNext, .slice A x.xMessages.length c]) (World.block_lt_of_cell? W _ k0) ⟨k0, k1, trivial⟩
  have mc := hr.sl_max
  have lc := hr.sl_cap
  obtain ⟨next, l⟩ := x
  simp only at *
  have hlen : l.length ≤ 9223372036854775807 := by simp only [maxLen] at mc; omega
  have HF := fun (w : World) (ps : List Pt) (R : Nat → Prop) (H : St (Lo W.heap.size) R W w ps) (h1 : At (.rd b0 o0 [.int .i64 next, .slice A l.length c]) ps) (h2 : At (.ro (Message.s true l) (.slice A l.length c)) ps) => spec_l03Find l n b0 o0 A c w (H.rd h1 (j := 1) rfl) (H.lo (.inl h2)) mc lc
  clear k0 k1 hr mc lc
  rcases num_cases l n with h | ⟨j, m, h, hm, -⟩
  · have HX := Lib.hid (live_none h)
    rw [h] at HF
    clear h
    (try clear hq); have hq := H.facts; simp only [factsOf, Pt.facts, CellsAt, Nat.add_zero, Nat.zero_add, Nat.reduceAdd, and_true, true_and, List.set_cons_zero, List.set_cons_succ] at hq
    go_enter Try.func184, Try.ntmps184
    go_wp2_with (go_at_call 182; (with_reducible refine (HF _ _ _ H (by repeat (first | with_reducible_and_instances exact .here | with_reducible refine .there ?_)) (by repeat (first | with_reducible_and_instances exact .here | with_reducible refine .there ?_))).mono ?_); rintro e w1 ⟨rfl, hb1⟩; replace H := H.below hb1; clear hb1; (try clear hq); have hq := H.facts; simp only [factsOf, Pt.facts, CellsAt, Nat.add_zero, Nat.zero_add, Nat.reduceAdd, and_true, true_and, List.set_cons_zero, List.set_cons_succ] at hq)
    go_ret
    exact ⟨by rw [HX.out]; rfl, H.belowW⟩
  · have HX := Lib.hid (live_at h hm)
    rw [h] at HF
    obtain ⟨b, off, A7, c7, hA, H⟩ := Message.st H (by repeat (first | with_reducible_and_instances exact .here | with_reducible refine .there ?_)) hm
    subst hA
    have hj := (List.getElem?_eq_some_iff.1 hm).1
    have hj' : (j : Int) < (l.length : Int) := by omega
    clear h hm
    cases hg : m.xGone
    all_goals
      rw [hg] at HX H
      have HX := Lib.hid HX.out
      clear hg
      (try clear hq); have hq := H.facts; simp only [factsOf, Pt.facts, CellsAt, Nat.add_zero, Nat.zero_add, Nat.reduceAdd, and_true, true_and, List.set_cons_zero, List.set_cons_succ] at hq
      go_enter Try.func184, Try.ntmps184
      go_wp2_with (go_at_call 182; (with_reducible refine (HF _ _ _ H (by repeat (first | with_reducible_and_instances exact .here | with_reducible refine .there ?_)) (by repeat (first | with_reducible_and_instances exact .here | with_reducible refine .there ?_))).mono ?_); rintro e w1 ⟨rfl, hb1⟩; replace H := H.below hb1; clear hb1; (try clear hq); have hq := H.facts; simp only [factsOf, Pt.facts, CellsAt, Nat.add_zero, Nat.zero_add, Nat.reduceAdd, and_true, true_and, List.set_cons_zero, List.set_cons_succ] at hq)
      go_ret
      exact ⟨by rw [HX.out]; rfl, H.belowW⟩
set_option maxHeartbeats 3200000 in
set_option maxRecDepth 100000 in
theorem spec_l03Edit (x : Log) (n s : Int) (t : ByteArray) (b0 o0 : Nat) (A : Option Addr) (c : Nat) (W : World) (k0 : W.cell? ⟨b0, o0, none⟩ = some (.int .i64 x.xNext)) (k1 : W.cell? ⟨b0, o0 + 1, none⟩ = some (.slice A x.xMessages.length c)) (hr : Ro W (Lo W.heap.size) (Message.s true x.xMessages) (.slice A x.xMessages.length c)) (ho : x.ok = true) (ht : t.size ≤ maxLen) :
    Calls Try.prog 221 #[.pointer (some ⟨b0, o0, none⟩), .int .i64 n, .int .i64 s, .string t] W (MadeLB W (edited x n s t)) := by
  have H := ((St.start W).addro hr).addcells (b := b0) (off := o0) (us := [.int .i64 x.xNext, .slice A x.xMessages.length c]) (World.block_lt_of_cell? W _ k0) ⟨k0, k1, trivial⟩
  have mc := hr.sl_max
  have lc := hr.sl_cap
  have hfit := Log.fit_at ho
  have hfew := Log.few' ho
  have hmok := @Log.msg_ok x ho
  obtain ⟨next, l⟩ := x
  simp only at *
  have HV := fun (w : World) (ps : List Pt) (R : Nat → Prop) (H : St (Lo W.heap.size) R W w ps) (h1 : At (.rd b0 o0 [.int .i64 next, .slice A l.length c]) ps) (h2 : At (.ro (Message.s true l) (.slice A l.length c)) ps) => spec_l03Live ⟨next, l⟩ n b0 o0 A c w (H.rd h1 (j := 0) rfl) (H.rd h1 (j := 1) rfl) (H.lo (.inl h2))
  have HO := fun (w : World) (ps : List Pt) (R : Nat → Prop) (H : St (Lo W.heap.size) R W w ps) (h1 : At (.rd b0 o0 [.int .i64 next, .slice A l.length c]) ps) (h2 : At (.ro (Message.s true l) (.slice A l.length c)) ps) => spec_l03Own ⟨next, l⟩ b0 o0 A c w (H.rd h1 (j := 0) rfl) (H.rd h1 (j := 1) rfl) (H.lo (.inl h2)) (fun m hm => (hfit m hm).2) (Nat.le_trans hfew (by decide))
  clear k0 k1 hr mc lc
  rcases num_cases l n with h | ⟨j, m, h, hm, -⟩
  · have HX := Lib.hid (show (edited ⟨next, l⟩ n s t) = (⟨0, []⟩, false) from changeAt_none h)
    have hl := live_none h
    simp only [hl] at HV
    clear h hl ho
    (try clear hq); have hq := H.facts; simp only [factsOf, Pt.facts, CellsAt, Nat.add_zero, Nat.zero_add, Nat.reduceAdd, and_true, true_and, List.set_cons_zero, List.set_cons_succ] at hq
    go_enter Try.func221, Try.ntmps221
    go_wp2_with (go_at_call 184; (with_reducible refine (HV _ _ _ (H.box _ _) (by repeat (first | with_reducible_and_instances exact .here | with_reducible refine .there ?_)) (by repeat (first | with_reducible_and_instances exact .here | with_reducible refine .there ?_))).mono ?_); rintro e w1 ⟨rfl, hb1⟩; replace H := (H.box _ _).below hb1; clear hb1; (try clear hq); have hq := H.facts; simp only [factsOf, Pt.facts, CellsAt, Nat.add_zero, Nat.zero_add, Nat.reduceAdd, and_true, true_and, List.set_cons_zero, List.set_cons_succ] at hq)
    have hB := H.belowW
    exact bodyPost_ret (v := .tuple #[.agg #[.int .i64 0, .slice none 0 0], .bool false]) (by simp [results, Try.results221, go_sem, hq]) rfl (madeLB_no HX.out (by (repeat (first | with_reducible assumption | with_reducible exact Below.refl _ _ | with_reducible refine Below.setCell ?_ ?_ _ | with_reducible refine Below.alloc ?_ ?_ _ | with_reducible refine Below.drew ?_ | with_reducible refine below_drewN ?_ _ | omega | (simp; done) | (simp; omega))); all_goals first | omega | (simp; done) | (simp; omega)))
  have hj := (List.getElem?_eq_some_iff.1 hm).1
  have hlv := live_at h hm
  have hj' : (j : Int) < (l.length : Int) := by omega
  have hm1 := Message.fit (hmok hm).1
  cases hg : m.xGone
  rotate_left
  · have HX := Lib.hid (show (edited ⟨next, l⟩ n s t) = (⟨0, []⟩, false) from changeAt_no h hm (by rw [hg]; rfl))
    rw [hg] at hlv
    simp only [if_true] at hlv
    simp only [hlv] at HV
    clear h hlv ho hm hg hm1
    (try clear hq); have hq := H.facts; simp only [factsOf, Pt.facts, CellsAt, Nat.add_zero, Nat.zero_add, Nat.reduceAdd, and_true, true_and, List.set_cons_zero, List.set_cons_succ] at hq
    go_enter Try.func221, Try.ntmps221
    go_wp2_with (go_at_call 184; (with_reducible refine (HV _ _ _ (H.box _ _) (by repeat (first | with_reducible_and_instances exact .here | with_reducible refine .there ?_)) (by repeat (first | with_reducible_and_instances exact .here | with_reducible refine .there ?_))).mono ?_); rintro e w1 ⟨rfl, hb1⟩; replace H := (H.box _ _).below hb1; clear hb1; (try clear hq); have hq := H.facts; simp only [factsOf, Pt.facts, CellsAt, Nat.add_zero, Nat.zero_add, Nat.reduceAdd, and_true, true_and, List.set_cons_zero, List.set_cons_succ] at hq)
    have hB := H.belowW
    exact bodyPost_ret (v := .tuple #[.agg #[.int .i64 0, .slice none 0 0], .bool false]) (by simp [results, Try.results221, go_sem, hq]) rfl (madeLB_no HX.out (by (repeat (first | with_reducible assumption | with_reducible exact Below.refl _ _ | with_reducible refine Below.setCell ?_ ?_ _ | with_reducible refine Below.alloc ?_ ?_ _ | with_reducible refine Below.drew ?_ | with_reducible refine below_drewN ?_ _ | omega | (simp; done) | (simp; omega))); all_goals first | omega | (simp; done) | (simp; omega)))
  rw [hg] at hlv
  simp only [Bool.false_eq_true, if_false] at hlv
  simp only [hlv] at HV
  clear hlv
  obtain ⟨b, off, A7, c7, hA, H⟩ := Message.st H (by repeat (first | with_reducible_and_instances exact .here | with_reducible refine .there ?_)) hm
  subst hA
  cases h1 : (m.xSender == s)
  · have HX := Lib.hid (show (edited ⟨next, l⟩ n s t) = (⟨0, []⟩, false) from changeAt_no h hm (by rw [hg]; simp [h1]))
    have g1 : ¬ m.xSender = s := by simpa using h1
    have g2 : (m.xSender != s) = true := by simp [g1]
    clear h ho hm hg hm1
    skip
    (try clear hq); have hq := H.facts; simp only [factsOf, Pt.facts, CellsAt, Nat.add_zero, Nat.zero_add, Nat.reduceAdd, and_true, true_and, List.set_cons_zero, List.set_cons_succ] at hq
    go_enter Try.func221, Try.ntmps221
    go_wp2_with (first | (go_at_call 184; (with_reducible refine (HV _ _ _ (H.box _ _) (by repeat (first | with_reducible_and_instances exact .here | with_reducible refine .there ?_)) (by repeat (first | with_reducible_and_instances exact .here | with_reducible refine .there ?_))).mono ?_); rintro e w1 ⟨rfl, hb1⟩; replace H := (H.box _ _).below hb1; clear hb1; (try clear hq); have hq := H.facts; simp only [factsOf, Pt.facts, CellsAt, Nat.add_zero, Nat.zero_add, Nat.reduceAdd, and_true, true_and, List.set_cons_zero, List.set_cons_succ] at hq))
    have hB := H.belowW
    exact bodyPost_ret (v := .tuple #[.agg #[.int .i64 0, .slice none 0 0], .bool false]) (by simp [results, Try.results221, go_sem, hq]) rfl (madeLB_no HX.out (by (repeat (first | with_reducible assumption | with_reducible exact Below.refl _ _ | with_reducible refine Below.setCell ?_ ?_ _ | with_reducible refine Below.alloc ?_ ?_ _ | with_reducible refine Below.drew ?_ | with_reducible refine below_drewN ?_ _ | omega | (simp; done) | (simp; omega))); all_goals first | omega | (simp; done) | (simp; omega)))
  have g1 : m.xSender = s := by simpa using h1
  have g2 : (m.xSender != s) = false := by simp [g1]
  cases h2 : (m.xText.toList == t.toList)
  rotate_left
  · have HX := Lib.hid (show (edited ⟨next, l⟩ n s t) = (⟨0, []⟩, false) from changeAt_no h hm (by rw [hg]; simp [h1, h2]))
    skip
    clear h ho hm hg hm1
    skip
    (try clear hq); have hq := H.facts; simp only [factsOf, Pt.facts, CellsAt, Nat.add_zero, Nat.zero_add, Nat.reduceAdd, and_true, true_and, List.set_cons_zero, List.set_cons_succ] at hq
    go_enter Try.func221, Try.ntmps221
    go_wp2_with (first | (go_at_call 184; (with_reducible refine (HV _ _ _ (H.box _ _) (by repeat (first | with_reducible_and_instances exact .here | with_reducible refine .there ?_)) (by repeat (first | with_reducible_and_instances exact .here | with_reducible refine .there ?_))).mono ?_); rintro e w1 ⟨rfl, hb1⟩; replace H := (H.box _ _).below hb1; clear hb1; (try clear hq); have hq := H.facts; simp only [factsOf, Pt.facts, CellsAt, Nat.add_zero, Nat.zero_add, Nat.reduceAdd, and_true, true_and, List.set_cons_zero, List.set_cons_succ] at hq))
    have hB := H.belowW
    exact bodyPost_ret (v := .tuple #[.agg #[.int .i64 0, .slice none 0 0], .bool false]) (by simp [results, Try.results221, go_sem, hq]) rfl (madeLB_no HX.out (by (repeat (first | with_reducible assumption | with_reducible exact Below.refl _ _ | with_reducible refine Below.setCell ?_ ?_ _ | with_reducible refine Below.alloc ?_ ?_ _ | with_reducible refine Below.drew ?_ | with_reducible refine below_drewN ?_ _ | omega | (simp; done) | (simp; omega))); all_goals first | omega | (simp; done) | (simp; omega)))
  skip
  have HX := Lib.hid (show (edited ⟨next, l⟩ n s t) = give ⟨next, l.set j { m with xText := t, xEdits := m.xEdits + 1 }⟩ from changeAt_yes h hm (by rw [hg]; simp [h1, h2]))
  have HG := fun (w : World) (A : Option Addr) (c : Nat) (H : Ro w (Lo w.heap.size) (Message.s true (l.set j { m with xText := t, xEdits := m.xEdits + 1 })) (.slice A l.length c)) => spec_l03Give ⟨next, l.set j { m with xText := t, xEdits := m.xEdits + 1 }⟩ A l.length c w H (fun y hy => by
    rcases List.mem_or_eq_of_mem_set hy with hy | hy
    · exact (hfit y hy).1
    · rw [hy]; exact ht)
  clear h ho
  (try clear hq); have hq := H.facts; simp only [factsOf, Pt.facts, CellsAt, Nat.add_zero, Nat.zero_add, Nat.reduceAdd, and_true, true_and, List.set_cons_zero, List.set_cons_succ] at hq
  go_enter Try.func221, Try.ntmps221
  go_wp2_with (first | (go_at_call 184; (with_reducible refine (HV _ _ _ (H.box _ _) (by repeat (first | with_reducible_and_instances exact .here | with_reducible refine .there ?_)) (by repeat (first | with_reducible_and_instances exact .here | with_reducible refine .there ?_))).mono ?_); rintro e w1 ⟨rfl, hb1⟩; replace H := (H.box _ _).below hb1; clear hb1; (try clear hq); have hq := H.facts; simp only [factsOf, Pt.facts, CellsAt, Nat.add_zero, Nat.zero_add, Nat.reduceAdd, and_true, true_and, List.set_cons_zero, List.set_cons_succ] at hq))
  refine (HO _ _ _ H (by repeat (first | with_reducible_and_instances exact .here | with_reducible refine .there ?_)) (by repeat (first | with_reducible_and_instances exact .here | with_reducible refine .there ?_))).mono ?_
  rintro e w2 ⟨us, F, rfl, hO, hb, hF⟩
  obtain ⟨Ao, co, rfl, H⟩ := Log.st rfl (H.addos hb hO hF)
  obtain ⟨g, pre, post, A9, c9, hA, H'⟩ := Message.open H hm
  clear H
  subst hA
  have H := H'
  clear H'
  clear hO hF hb HV HO hm
  (try clear hq); have hq := H.facts; simp only [factsOf, Pt.facts, CellsAt, Nat.add_zero, Nat.zero_add, Nat.reduceAdd, and_true, true_and, List.set_cons_zero, List.set_cons_succ] at hq
  go_wp2_with fail
  have H := H.putM 3 (.string t) [.int .i64 m.xNumber, .int .i64 m.xSender, .int .i64 m.xAt, .string t, .int .i64 m.xEdits, .bool m.xGone, .int .i64 m.xReply, .slice A9 m.xLikes.length c9] (by simp) rfl
  have H := H.putM 4 (.int .i64 (m.xEdits + 1)) [.int .i64 m.xNumber, .int .i64 m.xSender, .int .i64 m.xAt, .string t, .int .i64 (m.xEdits + 1), .bool m.xGone, .int .i64 m.xReply, .slice A9 m.xLikes.length c9] (by simp) rfl
  have H := Message.shut (m := { m with xText := t, xEdits := m.xEdits + 1 }) rfl H
  cases hv : Log.ok ⟨next, l.set j { m with xText := t, xEdits := m.xEdits + 1 }⟩
  · have HX2 := Lib.hid (show (edited ⟨next, l⟩ n s t) = (⟨0, []⟩, false) from by rw [HX.out]; unfold give; rw [hv]; rfl)
    rw [hv] at HG
    simp only [Bool.false_eq_true, if_false] at HG
    clear hv HX
    refine (HG _ _ _ ((H.box _ _).lo (.inr (by repeat (first | with_reducible_and_instances exact .here | with_reducible refine .there ?_))))).mono ?_
    rintro e w3 ⟨rfl, hb3⟩
    replace H := (H.box _ _).below hb3
    clear hb3
    (try clear hq); have hq := H.facts; simp only [factsOf, Pt.facts, CellsAt, Nat.add_zero, Nat.zero_add, Nat.reduceAdd, and_true, true_and, List.set_cons_zero, List.set_cons_succ] at hq
    go_wp2
    have hB := H.belowW
    exact bodyPost_ret (v := .tuple #[.agg #[.int .i64 0, .slice none 0 0], .bool false]) (by simp [results, Try.results221, go_sem, hq]) rfl (madeLB_no HX2.out (by (repeat (first | with_reducible assumption | with_reducible exact Below.refl _ _ | with_reducible refine Below.setCell ?_ ?_ _ | with_reducible refine Below.alloc ?_ ?_ _ | with_reducible refine Below.drew ?_ | with_reducible refine below_drewN ?_ _ | omega | (simp; done) | (simp; omega))); all_goals first | omega | (simp; done) | (simp; omega)))
  · have HX2 := Lib.hid (show (edited ⟨next, l⟩ n s t) = (⟨next, l.set j { m with xText := t, xEdits := m.xEdits + 1 }⟩, true) from by rw [HX.out]; unfold give; rw [hv]; rfl)
    rw [hv] at HG
    simp only [if_true] at HG
    clear hv HX
    refine (HG _ _ _ ((H.box _ _).lo (.inr (by repeat (first | with_reducible_and_instances exact .here | with_reducible refine .there ?_))))).mono ?_
    rintro e w3 ⟨rfl, hb3⟩
    replace H := (H.box _ _).below hb3
    clear hb3
    (try clear hq); have hq := H.facts; simp only [factsOf, Pt.facts, CellsAt, Nat.add_zero, Nat.zero_add, Nat.reduceAdd, and_true, true_and, List.set_cons_zero, List.set_cons_succ] at hq
    go_wp2
    have H3 := ((H.pull (k := 2) rfl).put 0 (.int .i64 next)).put 1 (.slice (some ⟨g, 0, none⟩) l.length co)
    simp only [List.set_cons_zero, List.set_cons_succ] at H3
    exact bodyPost_ret (v := .tuple #[.agg #[.int .i64 next, .slice (some ⟨g, 0, none⟩) l.length co], .bool true]) (by simp [results, Try.results221, go_sem, hq]) rfl (madeLB_st (y := ⟨next, l.set j { m with xText := t, xEdits := m.xEdits + 1 }⟩) H3 (by repeat (first | with_reducible_and_instances exact .here | with_reducible refine .there ?_)) HX2.out)
set_option maxHeartbeats 3200000 in
set_option maxRecDepth 100000 in
theorem spec_l03TakeBack (x : Log) (n s : Int) (b0 o0 : Nat) (A : Option Addr) (c : Nat) (W : World) (k0 : W.cell? ⟨b0, o0, none⟩ = some (.int .i64 x.xNext)) (k1 : W.cell? ⟨b0, o0 + 1, none⟩ = some (.slice A x.xMessages.length c)) (hr : Ro W (Lo W.heap.size) (Message.s true x.xMessages) (.slice A x.xMessages.length c)) (ho : x.ok = true) :
    Calls Try.prog 222 #[.pointer (some ⟨b0, o0, none⟩), .int .i64 n, .int .i64 s] W (MadeLB W (takenBack x n s)) := by
  have H := ((St.start W).addro hr).addcells (b := b0) (off := o0) (us := [.int .i64 x.xNext, .slice A x.xMessages.length c]) (World.block_lt_of_cell? W _ k0) ⟨k0, k1, trivial⟩
  have mc := hr.sl_max
  have lc := hr.sl_cap
  have hfit := Log.fit_at ho
  have hfew := Log.few' ho
  have hmok := @Log.msg_ok x ho
  obtain ⟨next, l⟩ := x
  simp only at *
  have HV := fun (w : World) (ps : List Pt) (R : Nat → Prop) (H : St (Lo W.heap.size) R W w ps) (h1 : At (.rd b0 o0 [.int .i64 next, .slice A l.length c]) ps) (h2 : At (.ro (Message.s true l) (.slice A l.length c)) ps) => spec_l03Live ⟨next, l⟩ n b0 o0 A c w (H.rd h1 (j := 0) rfl) (H.rd h1 (j := 1) rfl) (H.lo (.inl h2))
  have HO := fun (w : World) (ps : List Pt) (R : Nat → Prop) (H : St (Lo W.heap.size) R W w ps) (h1 : At (.rd b0 o0 [.int .i64 next, .slice A l.length c]) ps) (h2 : At (.ro (Message.s true l) (.slice A l.length c)) ps) => spec_l03Own ⟨next, l⟩ b0 o0 A c w (H.rd h1 (j := 0) rfl) (H.rd h1 (j := 1) rfl) (H.lo (.inl h2)) (fun m hm => (hfit m hm).2) (Nat.le_trans hfew (by decide))
  clear k0 k1 hr mc lc
  rcases num_cases l n with h | ⟨j, m, h, hm, -⟩
  · have HX := Lib.hid (show (takenBack ⟨next, l⟩ n s) = (⟨0, []⟩, false) from changeAt_none h)
    have hl := live_none h
    simp only [hl] at HV
    clear h hl ho
    (try clear hq); have hq := H.facts; simp only [factsOf, Pt.facts, CellsAt, Nat.add_zero, Nat.zero_add, Nat.reduceAdd, and_true, true_and, List.set_cons_zero, List.set_cons_succ] at hq
    go_enter Try.func222, Try.ntmps222
    go_wp2_with (go_at_call 184; (with_reducible refine (HV _ _ _ (H.box _ _) (by repeat (first | with_reducible_and_instances exact .here | with_reducible refine .there ?_)) (by repeat (first | with_reducible_and_instances exact .here | with_reducible refine .there ?_))).mono ?_); rintro e w1 ⟨rfl, hb1⟩; replace H := (H.box _ _).below hb1; clear hb1; (try clear hq); have hq := H.facts; simp only [factsOf, Pt.facts, CellsAt, Nat.add_zero, Nat.zero_add, Nat.reduceAdd, and_true, true_and, List.set_cons_zero, List.set_cons_succ] at hq)
    have hB := H.belowW
    exact bodyPost_ret (v := .tuple #[.agg #[.int .i64 0, .slice none 0 0], .bool false]) (by simp [results, Try.results222, go_sem, hq]) rfl (madeLB_no HX.out (by (repeat (first | with_reducible assumption | with_reducible exact Below.refl _ _ | with_reducible refine Below.setCell ?_ ?_ _ | with_reducible refine Below.alloc ?_ ?_ _ | with_reducible refine Below.drew ?_ | with_reducible refine below_drewN ?_ _ | omega | (simp; done) | (simp; omega))); all_goals first | omega | (simp; done) | (simp; omega)))
  have hj := (List.getElem?_eq_some_iff.1 hm).1
  have hlv := live_at h hm
  have hj' : (j : Int) < (l.length : Int) := by omega
  have hm1 := Message.fit (hmok hm).1
  cases hg : m.xGone
  rotate_left
  · have HX := Lib.hid (show (takenBack ⟨next, l⟩ n s) = (⟨0, []⟩, false) from changeAt_no h hm (by rw [hg]; rfl))
    rw [hg] at hlv
    simp only [if_true] at hlv
    simp only [hlv] at HV
    clear h hlv ho hm hg hm1
    (try clear hq); have hq := H.facts; simp only [factsOf, Pt.facts, CellsAt, Nat.add_zero, Nat.zero_add, Nat.reduceAdd, and_true, true_and, List.set_cons_zero, List.set_cons_succ] at hq
    go_enter Try.func222, Try.ntmps222
    go_wp2_with (go_at_call 184; (with_reducible refine (HV _ _ _ (H.box _ _) (by repeat (first | with_reducible_and_instances exact .here | with_reducible refine .there ?_)) (by repeat (first | with_reducible_and_instances exact .here | with_reducible refine .there ?_))).mono ?_); rintro e w1 ⟨rfl, hb1⟩; replace H := (H.box _ _).below hb1; clear hb1; (try clear hq); have hq := H.facts; simp only [factsOf, Pt.facts, CellsAt, Nat.add_zero, Nat.zero_add, Nat.reduceAdd, and_true, true_and, List.set_cons_zero, List.set_cons_succ] at hq)
    have hB := H.belowW
    exact bodyPost_ret (v := .tuple #[.agg #[.int .i64 0, .slice none 0 0], .bool false]) (by simp [results, Try.results222, go_sem, hq]) rfl (madeLB_no HX.out (by (repeat (first | with_reducible assumption | with_reducible exact Below.refl _ _ | with_reducible refine Below.setCell ?_ ?_ _ | with_reducible refine Below.alloc ?_ ?_ _ | with_reducible refine Below.drew ?_ | with_reducible refine below_drewN ?_ _ | omega | (simp; done) | (simp; omega))); all_goals first | omega | (simp; done) | (simp; omega)))
  rw [hg] at hlv
  simp only [Bool.false_eq_true, if_false] at hlv
  simp only [hlv] at HV
  clear hlv
  obtain ⟨b, off, A7, c7, hA, H⟩ := Message.st H (by repeat (first | with_reducible_and_instances exact .here | with_reducible refine .there ?_)) hm
  subst hA
  cases h1 : (m.xSender == s)
  · have HX := Lib.hid (show (takenBack ⟨next, l⟩ n s) = (⟨0, []⟩, false) from changeAt_no h hm (by rw [hg]; simp [h1]))
    have g1 : ¬ m.xSender = s := by simpa using h1
    have g2 : (m.xSender != s) = true := by simp [g1]
    clear h ho hm hg hm1
    skip
    (try clear hq); have hq := H.facts; simp only [factsOf, Pt.facts, CellsAt, Nat.add_zero, Nat.zero_add, Nat.reduceAdd, and_true, true_and, List.set_cons_zero, List.set_cons_succ] at hq
    go_enter Try.func222, Try.ntmps222
    go_wp2_with (first | (go_at_call 184; (with_reducible refine (HV _ _ _ (H.box _ _) (by repeat (first | with_reducible_and_instances exact .here | with_reducible refine .there ?_)) (by repeat (first | with_reducible_and_instances exact .here | with_reducible refine .there ?_))).mono ?_); rintro e w1 ⟨rfl, hb1⟩; replace H := (H.box _ _).below hb1; clear hb1; (try clear hq); have hq := H.facts; simp only [factsOf, Pt.facts, CellsAt, Nat.add_zero, Nat.zero_add, Nat.reduceAdd, and_true, true_and, List.set_cons_zero, List.set_cons_succ] at hq))
    have hB := H.belowW
    exact bodyPost_ret (v := .tuple #[.agg #[.int .i64 0, .slice none 0 0], .bool false]) (by simp [results, Try.results222, go_sem, hq]) rfl (madeLB_no HX.out (by (repeat (first | with_reducible assumption | with_reducible exact Below.refl _ _ | with_reducible refine Below.setCell ?_ ?_ _ | with_reducible refine Below.alloc ?_ ?_ _ | with_reducible refine Below.drew ?_ | with_reducible refine below_drewN ?_ _ | omega | (simp; done) | (simp; omega))); all_goals first | omega | (simp; done) | (simp; omega)))
  have g1 : m.xSender = s := by simpa using h1
  have g2 : (m.xSender != s) = false := by simp [g1]
  have HX := Lib.hid (show (takenBack ⟨next, l⟩ n s) = give ⟨next, l.set j { m with xText := ByteArray.empty, xGone := true, xLikes := [] }⟩ from changeAt_yes h hm (by rw [hg]; simp [h1]))
  have HG := fun (w : World) (A : Option Addr) (c : Nat) (H : Ro w (Lo w.heap.size) (Message.s true (l.set j { m with xText := ByteArray.empty, xGone := true, xLikes := [] })) (.slice A l.length c)) => spec_l03Give ⟨next, l.set j { m with xText := ByteArray.empty, xGone := true, xLikes := [] }⟩ A l.length c w H (fun y hy => by
    rcases List.mem_or_eq_of_mem_set hy with hy | hy
    · exact (hfit y hy).1
    · rw [hy]; exact by simp [maxLen])
  clear h ho
  (try clear hq); have hq := H.facts; simp only [factsOf, Pt.facts, CellsAt, Nat.add_zero, Nat.zero_add, Nat.reduceAdd, and_true, true_and, List.set_cons_zero, List.set_cons_succ] at hq
  go_enter Try.func222, Try.ntmps222
  go_wp2_with (first | (go_at_call 184; (with_reducible refine (HV _ _ _ (H.box _ _) (by repeat (first | with_reducible_and_instances exact .here | with_reducible refine .there ?_)) (by repeat (first | with_reducible_and_instances exact .here | with_reducible refine .there ?_))).mono ?_); rintro e w1 ⟨rfl, hb1⟩; replace H := (H.box _ _).below hb1; clear hb1; (try clear hq); have hq := H.facts; simp only [factsOf, Pt.facts, CellsAt, Nat.add_zero, Nat.zero_add, Nat.reduceAdd, and_true, true_and, List.set_cons_zero, List.set_cons_succ] at hq))
  refine (HO _ _ _ H (by repeat (first | with_reducible_and_instances exact .here | with_reducible refine .there ?_)) (by repeat (first | with_reducible_and_instances exact .here | with_reducible refine .there ?_))).mono ?_
  rintro e w2 ⟨us, F, rfl, hO, hb, hF⟩
  obtain ⟨Ao, co, rfl, H⟩ := Log.st rfl (H.addos hb hO hF)
  obtain ⟨g, pre, post, A9, c9, hA, H'⟩ := Message.open H hm
  clear H
  subst hA
  have H := H'
  clear H'
  clear hO hF hb HV HO hm
  (try clear hq); have hq := H.facts; simp only [factsOf, Pt.facts, CellsAt, Nat.add_zero, Nat.zero_add, Nat.reduceAdd, and_true, true_and, List.set_cons_zero, List.set_cons_succ] at hq
  go_wp2_with fail
  have H := H.putM 3 (.string ⟨#[]⟩) [.int .i64 m.xNumber, .int .i64 m.xSender, .int .i64 m.xAt, .string ⟨#[]⟩, .int .i64 m.xEdits, .bool m.xGone, .int .i64 m.xReply, .slice A9 m.xLikes.length c9] (by simp) rfl
  have H := H.putM 7 (.slice (some ⟨w2.heap.size + 1, 0, none⟩) 0 0) [.int .i64 m.xNumber, .int .i64 m.xSender, .int .i64 m.xAt, .string ⟨#[]⟩, .int .i64 m.xEdits, .bool m.xGone, .int .i64 m.xReply, .slice (some ⟨w2.heap.size + 1, 0, none⟩) 0 0] (by simp) rfl
  have H := H.putM 5 (.bool true) [.int .i64 m.xNumber, .int .i64 m.xSender, .int .i64 m.xAt, .string ⟨#[]⟩, .int .i64 m.xEdits, .bool true, .int .i64 m.xReply, .slice (some ⟨w2.heap.size + 1, 0, none⟩) 0 0] (by simp) rfl
  have H := St.front3 ((H.nilow 2 1 (some ⟨w2.heap.size + 1, 0, none⟩)).front (.there .here)) .here .here (.there .here)
  have H := Message.shut (m := { m with xText := ByteArray.empty, xGone := true, xLikes := [] }) rfl H
  cases hv : Log.ok ⟨next, l.set j { m with xText := ByteArray.empty, xGone := true, xLikes := [] }⟩
  · have HX2 := Lib.hid (show (takenBack ⟨next, l⟩ n s) = (⟨0, []⟩, false) from by rw [HX.out]; unfold give; rw [hv]; rfl)
    rw [hv] at HG
    simp only [Bool.false_eq_true, if_false] at HG
    clear hv HX
    refine (HG _ _ _ (((H.box _ _).junk _).lo (.inr (by repeat (first | with_reducible_and_instances exact .here | with_reducible refine .there ?_))))).mono ?_
    rintro e w3 ⟨rfl, hb3⟩
    replace H := ((H.box _ _).junk _).below hb3
    clear hb3
    (try clear hq); have hq := H.facts; simp only [factsOf, Pt.facts, CellsAt, Nat.add_zero, Nat.zero_add, Nat.reduceAdd, and_true, true_and, List.set_cons_zero, List.set_cons_succ] at hq
    go_wp2
    have hB := H.belowW
    exact bodyPost_ret (v := .tuple #[.agg #[.int .i64 0, .slice none 0 0], .bool false]) (by simp [results, Try.results222, go_sem, hq]) rfl (madeLB_no HX2.out (by (repeat (first | with_reducible assumption | with_reducible exact Below.refl _ _ | with_reducible refine Below.setCell ?_ ?_ _ | with_reducible refine Below.alloc ?_ ?_ _ | with_reducible refine Below.drew ?_ | with_reducible refine below_drewN ?_ _ | omega | (simp; done) | (simp; omega))); all_goals first | omega | (simp; done) | (simp; omega)))
  · have HX2 := Lib.hid (show (takenBack ⟨next, l⟩ n s) = (⟨next, l.set j { m with xText := ByteArray.empty, xGone := true, xLikes := [] }⟩, true) from by rw [HX.out]; unfold give; rw [hv]; rfl)
    rw [hv] at HG
    simp only [if_true] at HG
    clear hv HX
    refine (HG _ _ _ (((H.box _ _).junk _).lo (.inr (by repeat (first | with_reducible_and_instances exact .here | with_reducible refine .there ?_))))).mono ?_
    rintro e w3 ⟨rfl, hb3⟩
    replace H := ((H.box _ _).junk _).below hb3
    clear hb3
    (try clear hq); have hq := H.facts; simp only [factsOf, Pt.facts, CellsAt, Nat.add_zero, Nat.zero_add, Nat.reduceAdd, and_true, true_and, List.set_cons_zero, List.set_cons_succ] at hq
    go_wp2
    have H3 := ((H.pull (k := 3) rfl).put 0 (.int .i64 next)).put 1 (.slice (some ⟨g, 0, none⟩) l.length co)
    simp only [List.set_cons_zero, List.set_cons_succ] at H3
    exact bodyPost_ret (v := .tuple #[.agg #[.int .i64 next, .slice (some ⟨g, 0, none⟩) l.length co], .bool true]) (by simp [results, Try.results222, go_sem, hq]) rfl (madeLB_st (y := ⟨next, l.set j { m with xText := ByteArray.empty, xGone := true, xLikes := [] }⟩) H3 (by repeat (first | with_reducible_and_instances exact .here | with_reducible refine .there ?_)) HX2.out)
end Go.Proofs.Ytmofbfeclecdoaa

/- What is done with a message of a log, by the reference. -/
import Derived.Test.YtafihplbchofoaaStm
import Derived.Test.YtafihplbchofoaaPost
import Derived.Test.YtafihplbchofoaaLaw
namespace Go.Proofs.Ytafihplbchofoaa
open Go.ChangeShapes Go.WideShapes Go.ChangeAt Go.RowKit Go.Dt
set_option linter.unusedVariables false
set_option linter.unusedSimpArgs false
theorem Message.fit {m : Message} (h : m.ok = true) : m.xText.size ≤ maxLen ∧ m.xLikes.length ≤ 20 ∧ 0 ≤ m.xEdits ∧ m.xEdits ≤ 1000000000 ∧ rises isMem m.xLikes = true := by
  unfold Message.ok at h
  simp only [Bool.and_eq_true, decide_eq_true_eq] at h
  obtain ⟨_, _, _, ht, he, _, hl, hr, _⟩ := h
  unfold isText at ht
  simp only [Bool.and_eq_true, decide_eq_true_eq] at ht
  have := inB_yes he
  exact ⟨by simp only [maxLen]; omega, by omega, by omega, by omega, hr⟩
theorem Log.fit_at {l : Log} (h : l.ok = true) : ∀ m ∈ l.xMessages, m.xText.size ≤ maxLen ∧ m.xLikes.length ≤ 1048576 := by
  intro m hm
  obtain ⟨j, hj, rfl⟩ := List.getElem_of_mem hm
  have := Message.fit (Log.msg_ok h (List.getElem?_eq_getElem hj)).1
  exact ⟨this.1, by omega⟩
theorem Log.few' {l : Log} (h : l.ok = true) : l.xMessages.length ≤ 40 := (Log.few h).1
def give (y : Log) : Log × Bool := if y.ok = true then (y, true) else (⟨0, []⟩, false)
def goneAt (l : List Message) (n : Int) : Bool := match l[(numAt l n).toNat]? with
  | some m => decide (0 ≤ numAt l n) && m.xGone
  | none => false
def liveAt (l : List Message) (n : Int) : Int := if goneAt l n then -1 else numAt l n
def changeAt (x : Log) (n : Int) (ok : Message → Bool) (f : Message → Message) : Log × Bool :=
  if numAt x.xMessages n < 0 then (⟨0, []⟩, false) else match x.xMessages[(numAt x.xMessages n).toNat]? with
    | some m => if (!m.xGone && ok m) = true then give ⟨x.xNext, x.xMessages.set (numAt x.xMessages n).toNat (f m)⟩ else (⟨0, []⟩, false)
    | none => (⟨0, []⟩, false)
section
variable {x : Log} {n : Int} {ok : Message → Bool} {f : Message → Message} {j : Nat} {m : Message}
theorem changeAt_none (h : numAt x.xMessages n = -1) : changeAt x n ok f = (⟨0, []⟩, false) := if_pos (by rw [h]; decide)
theorem changeAt_no (h : numAt x.xMessages n = j) (hm : x.xMessages[j]? = some m) (hb : (!m.xGone && ok m) = false) : changeAt x n ok f = (⟨0, []⟩, false) := by
  unfold changeAt
  rw [if_neg (by rw [h]; omega), h, Int.toNat_natCast, hm]
  simp [hb]
theorem changeAt_yes (h : numAt x.xMessages n = j) (hm : x.xMessages[j]? = some m) (hb : (!m.xGone && ok m) = true) : changeAt x n ok f = give ⟨x.xNext, x.xMessages.set j (f m)⟩ := by
  unfold changeAt
  rw [if_neg (by rw [h]; omega), h, Int.toNat_natCast, hm]
  simp only [hb, if_true]
theorem live_none {l : List Message} (h : numAt l n = -1) : liveAt l n = -1 := by
  unfold liveAt
  split
  · rfl
  · exact h
theorem live_at {l : List Message} (h : numAt l n = j) (hm : l[j]? = some m) : liveAt l n = if m.xGone = true then (-1 : Int) else (j : Int) := by
  unfold liveAt goneAt
  rw [h, Int.toNat_natCast, hm]
  simp only [show decide (0 ≤ (j : Int)) = true from by simp, Bool.true_and]
theorem num_cases (l : List Message) (n : Int) : numAt l n = -1 ∨ ∃ (j : Nat) (m : Message), numAt l n = j ∧ l[j]? = some m ∧ m.xNumber = n := by
  rcases idx_cases (fun m : Message => m.xNumber == n) l with h | ⟨j, m, h1, h2, h3⟩
  · exact .inl h.1
  · exact .inr ⟨j, m, h1, h2, by simpa using h3⟩
end
theorem madeLB_st {R : Nat → Prop} {W w' : World} {ps : List Pt} {y : Log} {r : Log × Bool} {A : Option Addr} {n c : Nat} (H : St (Lo W.heap.size) R W w' ps) (ha : At (.ow (Message.s true y.xMessages) (.slice A n c)) ps) (hr : r = (y, true)) : MadeLB W r (.returned (.tuple #[.agg #[.int .i64 y.xNext, .slice A n c], .bool true])) w' := by
  subst hr
  obtain ⟨F, h1, h2⟩ := H.own ha
  exact ⟨A, n, c, F, rfl, h1, H.belowW, fun b hb => Nat.le_of_not_lt (h2 b hb)⟩
def edited (x : Log) (n s : Int) (t : ByteArray) : Log × Bool := changeAt x n (fun m => m.xSender == s && !(m.xText.toList == t.toList)) (fun m => { m with xText := t, xEdits := m.xEdits + 1 })
def takenBack (x : Log) (n s : Int) : Log × Bool := changeAt x n (fun m => m.xSender == s) (fun m => { m with xText := ByteArray.empty, xGone := true, xLikes := [] })
set_option maxHeartbeats 1600000 in
set_option maxRecDepth 100000 in
theorem spec_l03Live (x : Log) (n : Int) (b0 o0 : Nat) (A : Option Addr) (c : Nat) (W : World) (k0 : W.cell? ⟨b0, o0, none⟩ = some (.int .i64 x.xNext)) (k1 : W.cell? ⟨b0, o0 + 1, none⟩ = some (.slice A x.xMessages.length c)) (hr : Ro W (Lo W.heap.size) (Message.s true x.xMessages) (.slice A x.xMessages.length c)) :
    Calls Try.prog 100 #[.pointer (some ⟨b0, o0, none⟩), .int .i64 n] W fun e w' => e = .returned (.int .i64 (liveAt x.xMessages n)) ∧ Below W.heap.size W w' := by
  have H := ((St.start W).addro hr).addcells (b := b0) (off := o0) (us := [.int .i64 x.xNext, .slice A x.xMessages.length c]) (World.block_lt_of_cell? W _ k0) ⟨k0, k1, trivial⟩
  have mc := hr.sl_max
  have lc := hr.sl_cap
  obtain ⟨next, l⟩ := x
  simp only at *
  have hlen : l.length ≤ 9223372036854775807 := by simp only [maxLen] at mc; omega
  have HF := fun (w : World) (ps : List Pt) (R : Nat → Prop) (H : St (Lo W.heap.size) R W w ps) (h1 : At (.rd b0 o0 [.int .i64 next, .slice A l.length c]) ps) (h2 : At (.ro (Message.s true l) (.slice A l.length c)) ps) => spec_l03Find l n b0 o0 A c w (H.rd h1 (j := 1) rfl) (H.lo (.inl h2)) mc lc
  clear k0 k1 hr mc lc
  rcases num_cases l n with h | ⟨j, m, h, hm, -⟩
  · have HX := Lib.hid (live_none h)
    rw [h] at HF
    clear h
    (try clear hq); have hq := H.facts; simp only [factsOf, Pt.facts, CellsAt, Nat.add_zero, Nat.zero_add, Nat.reduceAdd, and_true, true_and, List.set_cons_zero, List.set_cons_succ] at hq
    go_enter Try.func100, Try.ntmps100
    go_wp2_with (go_at_call 97; (with_reducible refine (HF _ _ _ H (by repeat (first | with_reducible_and_instances exact .here | with_reducible refine .there ?_)) (by repeat (first | with_reducible_and_instances exact .here | with_reducible refine .there ?_))).mono ?_); rintro e w1 ⟨rfl, hb1⟩; replace H := H.below hb1; clear hb1; (try clear hq); have hq := H.facts; simp only [factsOf, Pt.facts, CellsAt, Nat.add_zero, Nat.zero_add, Nat.reduceAdd, and_true, true_and, List.set_cons_zero, List.set_cons_succ] at hq)
    go_ret
    exact ⟨by rw [HX.out]; rfl, H.belowW⟩
  · have HX := Lib.hid (live_at h hm)
    rw [h] at HF
    obtain ⟨b, off, A7, c7, hA, H⟩ := Message.st H (by repeat (first | with_reducible_and_instances exact .here | with_reducible refine .there ?_)) hm
    subst hA
    have hj := (List.getElem?_eq_some_iff.1 hm).1
    have hj' : (j : Int) < (l.length : Int) := by omega
    clear h hm
    cases hg : m.xGone
    all_goals
      rw [hg] at HX H
      have HX := Lib.hid HX.out
      clear hg
      (try clear hq); have hq := H.facts; simp only [factsOf, Pt.facts, CellsAt, Nat.add_zero, Nat.zero_add, Nat.reduceAdd, and_true, true_and, List.set_cons_zero, List.set_cons_succ] at hq
      go_enter Try.func100, Try.ntmps100
      go_wp2_with (go_at_call 97; (with_reducible refine (HF _ _ _ H (by repeat (first | with_reducible_and_instances exact .here | with_reducible refine .there ?_)) (by repeat (first | with_reducible_and_instances exact .here | with_reducible refine .there ?_))).mono ?_); rintro e w1 ⟨rfl, hb1⟩; replace H := H.below hb1; clear hb1; (try clear hq); have hq := H.facts; simp only [factsOf, Pt.facts, CellsAt, Nat.add_zero, Nat.zero_add, Nat.reduceAdd, and_true, true_and, List.set_cons_zero, List.set_cons_succ] at hq)
      go_ret
      exact ⟨by rw [HX.out]; rfl, H.belowW⟩
end Go.Proofs.Ytafihplbchofoaa

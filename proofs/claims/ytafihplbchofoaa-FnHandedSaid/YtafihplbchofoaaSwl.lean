/- Swept logs: what the law says, in plain Lean. -/
import Derived.Test.YtafihplbchofoaaSweep
import Derived.Test.YtafihplbchofoaaHoles
namespace Go.Proofs.Ytafihplbchofoaa
open Go.ChangeShapes Go.WideShapes Go.ChangeAt Go.RowKit Go.Dt
set_option linter.unusedVariables false
set_option linter.unusedSimpArgs false
theorem take_one {α : Type} {l : List α} {j : Nat} {x : α} (hx : l[j]? = some x) : l.take (j + 1) = l.take j ++ [x] := by
  rw [List.take_add_one, hx]; rfl
/-- Messages in a right order, all below the next number. -/
def MsgsOk (next : Int) (l : List Message) : Prop := l.Pairwise (fun p m => p.xNumber < m.xNumber ∧ p.xAt ≤ m.xAt) ∧ ∀ m ∈ l, m.ok = true ∧ m.xNumber < next
theorem Log.pair {l : Log} (h : l.ok = true) {i j : Nat} {m p : Message} (hm : l.xMessages[i]? = some m) (hp : l.xMessages[j]? = some p) (hij : i < j) : m.xNumber < p.xNumber ∧ m.xAt ≤ p.xAt := by
  induction j generalizing p with
  | zero => omega
  | succ j ih =>
    have hj := (List.getElem?_eq_some_iff.1 hp).1
    obtain ⟨q, hq⟩ := get_lt (l := l.xMessages) (k := j) (by omega)
    have h1 := Log.rising h hq hp
    rcases Nat.lt_or_ge i j with h' | h'
    · have := ih hq h'; omega
    · have : i = j := by omega
      subst this
      rw [hq] at hm; injection hm with hm; subst hm; exact h1
theorem Log.msgs {l : Log} (h : l.ok = true) : MsgsOk l.xNext l.xMessages := by
  refine ⟨?_, fun m hm => ?_⟩
  · rw [List.pairwise_iff_getElem]
    intro i j hi hj hij
    exact Log.pair h (List.getElem?_eq_getElem hi) (List.getElem?_eq_getElem hj) hij
  · obtain ⟨j, hj⟩ := List.mem_iff_getElem?.1 hm
    exact Log.msg_ok h hj
theorem Log.ok_of {next : Int} {l : List Message} (h : MsgsOk next l) (hl : l.length ≤ 40) (hn : 1 ≤ next ∧ next ≤ 1000000000) : Log.ok ⟨next, l⟩ = true := by
  have hu : upTo (Log.rightAt ⟨next, l⟩) l.length = true := by
    unfold upTo
    rw [List.all_eq_true]
    intro i hi
    have hi' := List.mem_range.1 hi
    obtain ⟨m, hm⟩ := get_lt hi'
    have h2 := h.2 m (List.mem_of_getElem? hm)
    cases i with
    | zero => rw [Log.right_zero (l := ⟨next, l⟩) hm]; simp [h2.1, h2.2]
    | succ k =>
      obtain ⟨p, hp⟩ := get_lt (l := l) (k := k) (by omega)
      have h3 := (List.pairwise_iff_getElem.1 h.1) k (k + 1) (by omega) hi' (by omega)
      rw [(List.getElem?_eq_some_iff.1 hp).2, (List.getElem?_eq_some_iff.1 hm).2] at h3
      rw [Log.right_succ (l := ⟨next, l⟩) hm hp]; simp [h2.1, h2.2, h3.1, h3.2]
  rw [Log.ok_yes (l := ⟨next, l⟩) rfl hu]
  simp [inB]; omega
theorem sweepTo_sub (now age keep : Int) (pins : List Int) (l : List Message) (j : Nat) : (sweepTo now age keep pins l j).Sublist (l.take j) := by
  induction j with
  | zero => simp [sweepTo]
  | succ j ih =>
    rcases Nat.lt_or_ge j l.length with h | h
    · obtain ⟨m, hm⟩ := get_lt h
      rw [take_one hm]
      cases hk : kept now age keep pins l.length j m with
      | true => rw [sweepTo_yes hm hk]; exact List.Sublist.append ih (List.Sublist.refl _)
      | false => rw [sweepTo_no hm hk]; exact ih.trans (List.sublist_append_left _ _)
    · have hn : l[j]? = none := List.getElem?_eq_none h
      rw [sweepTo, hn]
      rw [List.take_of_length_le (by omega)]
      rw [List.take_of_length_le h] at ih
      exact ih
/-- What stands in the swept messages: where it came from, and that no more lies behind it. -/
theorem sweepTo_from (now age keep : Int) (pins : List Int) (l : List Message) : ∀ (j i' : Nat) (m : Message), j ≤ l.length → (sweepTo now age keep pins l j)[i']? = some m →
    ∃ i, i < j ∧ l[i]? = some m ∧ kept now age keep pins l.length i m = true ∧ (sweepTo now age keep pins l j).length + i ≤ j + i' := by
  intro j
  induction j with
  | zero => intro i' m hj h; simp [sweepTo] at h
  | succ j ih =>
    intro i' m hj h
    obtain ⟨p, hp⟩ := get_lt (l := l) (k := j) (by omega)
    cases hk : kept now age keep pins l.length j p with
    | true =>
      rw [sweepTo_yes hp hk] at h ⊢
      rw [List.getElem?_append] at h
      split at h
      · obtain ⟨i, h1, h2, h3, h4⟩ := ih i' m (by omega) h
        exact ⟨i, by omega, h2, h3, by simp; omega⟩
      · rename_i hge
        have hlt := (List.getElem?_eq_some_iff.1 h).1
        simp at hlt
        have : i' = (sweepTo now age keep pins l j).length := by omega
        subst this
        simp at h
        subst h
        exact ⟨j, by omega, hp, hk, by simp; omega⟩
    | false =>
      rw [sweepTo_no hp hk] at h ⊢
      obtain ⟨i, h1, h2, h3, h4⟩ := ih i' m (by omega) h
      exact ⟨i, by omega, h2, h3, by omega⟩
theorem sweepTo_all (now age keep : Int) (pins : List Int) (l : List Message) (h : ∀ i m, l[i]? = some m → kept now age keep pins l.length i m = true) : ∀ j, j ≤ l.length → sweepTo now age keep pins l j = l.take j := by
  intro j
  induction j with
  | zero => intro _; simp [sweepTo]
  | succ j ih =>
    intro hj
    obtain ⟨m, hm⟩ := get_lt (l := l) (k := j) (by omega)
    rw [sweepTo_yes hm (h j m hm), ih (by omega), take_one hm]
theorem sweep_again (now age keep : Int) (pins : List Int) (l : List Message) :
    sweepTo now age keep pins (sweepTo now age keep pins l l.length) (sweepTo now age keep pins l l.length).length = sweepTo now age keep pins l l.length := by
  rw [sweepTo_all]
  · simp
  · intro i m hm
    obtain ⟨i0, h1, h2, h3, h4⟩ := sweepTo_from now age keep pins l l.length i m (Nat.le_refl _) hm
    unfold kept at h3 ⊢
    rw [Bool.or_eq_true, Bool.or_eq_true] at h3 ⊢
    rcases h3 with h | h | h
    · exact .inl h
    · refine .inr (.inl ?_)
      simp only [decide_eq_true_eq] at h ⊢
      omega
    · exact .inr (.inr h)
  · exact Nat.le_refl _
theorem sweepTo_pre (now age keep : Int) (pins : List Int) (l : List Message) {i j : Nat} (h : i ≤ j) : sweepTo now age keep pins l i <+: sweepTo now age keep pins l j := by
  induction j with
  | zero => have : i = 0 := by omega
            subst this; exact List.prefix_refl _
  | succ j ih =>
    rcases Nat.lt_or_ge i (j + 1) with h' | h'
    · have h1 := ih (by omega)
      refine h1.trans ?_
      cases hp : l[j]? with
      | none => rw [sweepTo, hp]; exact List.prefix_refl _
      | some p =>
        cases hk : kept now age keep pins l.length j p with
        | true => rw [sweepTo_yes hp hk]; exact List.prefix_append _ _
        | false => rw [sweepTo_no hp hk]; exact List.prefix_refl _
    · have : i = j + 1 := by omega
      subst this; exact List.prefix_refl _
/-- A message that stays lies in the swept ones at the place where as many lie ahead of it. -/
theorem sweepTo_get {now age keep : Int} {pins : List Int} {l : List Message} {j : Nat} {m : Message} (hm : l[j]? = some m) (hk : kept now age keep pins l.length j m = true) : (sweepTo now age keep pins l l.length)[(sweepTo now age keep pins l j).length]? = some m := by
  have hj := (List.getElem?_eq_some_iff.1 hm).1
  have h := sweepTo_pre now age keep pins l (i := j + 1) (j := l.length) (by omega)
  rw [sweepTo_yes hm hk] at h
  obtain ⟨t, ht⟩ := h
  rw [← ht]; simp
/-- The drawn parameters of a sweep are right. -/
theorem sweep_drawn {l : Log} {now age keep a b : Int} (hl : l.ok = true) (h1 : 0 ≤ now ∧ now < 60) (h2 : 0 ≤ age ∧ age < 30) (h3 : 0 ≤ keep ∧ keep < 6) (ha : 0 ≤ a ∧ a < 4) (hb : 0 ≤ b ∧ b < 4) : sweepOk l now age keep [1 + a, 6 + b] = true := by
  have hr : rises (fun n => inB n 1 1000000000) [1 + a, 6 + b] = true := by
    simp [rises, upTo, List.range_succ, riseAt, inB]
    omega
  unfold sweepOk
  rw [hl, hr]
  simp [inB]; omega
/-- The log of what a sweep keeps. -/
def sweptLog (l : Log) (now age keep : Int) (pins : List Int) : Log := ⟨l.xNext, sweepTo now age keep pins l.xMessages l.xMessages.length⟩
theorem swept_ok {l : Log} (hl : l.ok = true) (now age keep : Int) (pins : List Int) : (sweptLog l now age keep pins).ok = true := by
  have h := Log.msgs hl
  have hf := Log.few hl
  have hs := sweepTo_sub now age keep pins l.xMessages l.xMessages.length
  rw [List.take_length] at hs
  refine Log.ok_of ⟨List.Pairwise.sublist hs h.1, fun m hm => h.2 m (hs.subset hm)⟩ (Nat.le_trans hs.length_le hf.1) hf.2
theorem swept_twice {l : Log} {now age keep : Int} {pins : List Int} (h : sweepOk l now age keep pins = true) : SweepLog_f l now age keep pins = (sweptLog l now age keep pins, true) ∧ SweepLog_f (sweptLog l now age keep pins) now age keep pins = (sweptLog l now age keep pins, true) := by
  have hl : l.ok = true := by unfold sweepOk at h; rw [Bool.and_eq_true] at h; exact h.1
  have h2 : sweepOk (sweptLog l now age keep pins) now age keep pins = true := by
    unfold sweepOk at h ⊢
    rw [Bool.and_eq_true] at h ⊢
    exact ⟨swept_ok hl _ _ _ _, h.2⟩
  refine ⟨if_pos h, ?_⟩
  unfold SweepLog_f
  rw [if_pos h2]
  unfold sweptLog
  simp only
  rw [sweep_again]
theorem holes_some {l : Log} (hl : l.ok = true) (hn : l.xNext ≤ 100) : ∀ j, j ≤ l.xMessages.length → ∃ out, l.holesTo j = some out ∧ (∀ i, j = i + 1 → (out.length : Int) < l.behind i) := by
  intro j
  induction j with
  | zero => intro _; exact ⟨[], rfl, fun i h => by omega⟩
  | succ j ih =>
    intro hj
    obtain ⟨out, h1, h2⟩ := ih (by omega)
    obtain ⟨m, hm⟩ := get_lt (l := l.xMessages) (k := j) (by omega)
    have hb := Log.behind_gt hl j m hm
    have hm1 := (Message.bounds (Log.msg_ok hl hm).1).1
    have hb2 : l.behind j ≤ 100 := by
      unfold Log.behind
      split
      · rename_i p hp; have := (Log.msg_ok hl hp).2; omega
      · exact hn
    have hlen : (out.length : Int) ≤ m.xNumber := by
      cases j with
      | zero => have : out = [] := by simpa [Log.holesTo] using h1.symm
                subst this; simp; omega
      | succ i =>
        have := h2 i rfl
        rw [show l.behind i = m.xNumber from by unfold Log.behind; rw [hm]] at this
        omega
    rw [Log.holes_succ h1 hm rfl, if_pos (by omega)]
    refine ⟨_, rfl, fun i hi => ?_⟩
    have : i = j := by omega
    subst this
    rw [List.length_append, gapTo_len]
    omega
theorem mem_gapTo {a n : Int} {k : Nat} : n ∈ gapTo a k ↔ a < n ∧ n ≤ a + k := by
  unfold gapTo
  rw [List.mem_map]
  constructor
  · rintro ⟨t, ht, rfl⟩
    have := List.mem_range.1 ht
    omega
  · intro h
    exact ⟨(n - a - 1).toNat, List.mem_range.2 (by omega), by omega⟩
theorem holes_mem {l : Log} : ∀ (j : Nat) (out : List Int) (n : Int), l.holesTo j = some out → (n ∈ out ↔ ∃ (i : Nat) (m : Message), i < j ∧ l.xMessages[i]? = some m ∧ m.xNumber < n ∧ n < l.behind i) := by
  intro j
  induction j with
  | zero =>
    intro out n h
    have : out = [] := by simpa [Log.holesTo] using h.symm
    subst this
    simp
  | succ j ih =>
    intro out n h
    have h' : (match l.holesTo j, l.xMessages[j]? with
        | some out, some m => if l.behind j - m.xNumber - 1 + (out.length : Int) ≤ 300 then some (out ++ gapTo m.xNumber (l.behind j - m.xNumber - 1).toNat) else none
        | _, _ => none) = some out := h
    split at h'
    · rename_i o m ho hm
      split at h'
      · injection h' with h'
        rw [← h', List.mem_append, ih o n ho, mem_gapTo]
        constructor
        · rintro (⟨i, p, h1, h2, h3, h4⟩ | h1)
          · exact ⟨i, p, by omega, h2, h3, h4⟩
          · exact ⟨j, m, by omega, hm, h1.1, by omega⟩
        · rintro ⟨i, p, h1, h2, h3, h4⟩
          rcases Nat.lt_or_ge i j with h5 | h5
          · exact .inl ⟨i, p, h5, h2, h3, h4⟩
          · have : i = j := by omega
            subst this
            rw [hm] at h2; injection h2 with h2; subst h2
            exact .inr ⟨h3, by omega⟩
      · cases h'
    · cases h'
/-- Is a message of this number among the first ones? -/
def Log.hasTo (l : Log) (k : Int) (j : Nat) : Bool := (l.xMessages.take j).any fun (m : Message) => m.xNumber == k
theorem Log.hasTo_succ {l : Log} {k : Int} {j : Nat} {m : Message} (h : l.xMessages[j]? = some m) : l.hasTo k (j + 1) = (l.hasTo k j || (m.xNumber == k)) := by
  unfold Log.hasTo; rw [take_one h, List.any_append]; simp
/-- Holes are the numbers from the first one's that no message has. -/
theorem holes_law {l : Log} {out : List Int} {m0 : Message} {k : Int} (hl : l.ok = true) (h : l.holesTo l.xMessages.length = some out) (h0 : l.xMessages[0]? = some m0) (hk : m0.xNumber ≤ k ∧ k < l.xNext) : hasIt out k = !(l.hasTo k l.xMessages.length) := by
  have hh : hasIt out k = true ↔ k ∈ out := by unfold hasIt; simp
  have ht : l.hasTo k l.xMessages.length = true ↔ ∃ (i : Nat) (m : Message), l.xMessages[i]? = some m ∧ m.xNumber = k := by
    unfold Log.hasTo
    rw [List.take_length, List.any_eq_true]
    constructor
    · rintro ⟨m, h1, h2⟩
      obtain ⟨i, hi⟩ := List.mem_iff_getElem?.1 h1
      exact ⟨i, m, hi, by simpa using h2⟩
    · rintro ⟨i, m, h1, h2⟩
      exact ⟨m, List.mem_of_getElem? h1, by simpa using h2⟩
  rw [holes_mem _ _ _ h] at hh
  cases hb : l.hasTo k l.xMessages.length with
  | true =>
    obtain ⟨j, p, hp, hpk⟩ := ht.1 hb
    rw [Bool.not_true]
    rw [← Bool.not_eq_true]
    intro hc
    obtain ⟨i, m, h1, h2, h3, h4⟩ := hh.1 hc
    rcases Nat.lt_trichotomy i j with h5 | h5 | h5
    · have h6 : l.behind i ≤ p.xNumber := by
        unfold Log.behind
        obtain ⟨q, hq⟩ := get_lt (l := l.xMessages) (k := i + 1) (by have := (List.getElem?_eq_some_iff.1 hp).1; omega)
        rw [hq]
        simp only
        rcases Nat.lt_or_ge (i + 1) j with h7 | h7
        · exact Int.le_of_lt (Log.pair hl hq hp h7).1
        · have : i + 1 = j := by omega
          subst this
          rw [hp] at hq; injection hq with hq; subst hq; exact Int.le_refl _
      omega
    · subst h5
      rw [hp] at h2; injection h2 with h2; subst h2; omega
    · have := (Log.pair hl hp h2 h5).1
      omega
  | false =>
    rw [Bool.not_false]
    have hno : ∀ (i : Nat) (m : Message), l.xMessages[i]? = some m → m.xNumber ≠ k := fun i m h1 h2 => by
      have := ht.2 ⟨i, m, h1, h2⟩
      rw [hb] at this; cases this
    refine hh.2 ?_
    -- the last message whose number is smaller
    have key : ∀ (d i : Nat) (m : Message), l.xMessages[i]? = some m → m.xNumber < k → l.xMessages.length ≤ i + d → ∃ (i : Nat) (m : Message), i < l.xMessages.length ∧ l.xMessages[i]? = some m ∧ m.xNumber < k ∧ k < l.behind i := by
      intro d
      induction d with
      | zero =>
        intro i m h1 h2 h3
        have := (List.getElem?_eq_some_iff.1 h1).1
        omega
      | succ d ih =>
        intro i m h1 h2 h3
        have hi := (List.getElem?_eq_some_iff.1 h1).1
        cases hq : l.xMessages[i + 1]? with
        | none => exact ⟨i, m, hi, h1, h2, by unfold Log.behind; rw [hq]; exact hk.2⟩
        | some q =>
          rcases Int.lt_trichotomy q.xNumber k with h4 | h4 | h4
          · exact ih (i + 1) q hq h4 (by omega)
          · exact absurd h4 (hno _ _ hq)
          · exact ⟨i, m, hi, h1, h2, by unfold Log.behind; rw [hq]; exact h4⟩
    have h1 := hno 0 m0 h0
    exact key l.xMessages.length 0 m0 h0 (by omega) (by omega)
end Go.Proofs.Ytafihplbchofoaa

/- The holes of a log. -/
import Derived.Test.YtafihplbchofoaaAges
namespace Go.Proofs.Ytafihplbchofoaa
open Go.ChangeShapes Go.WideShapes Go.ChangeAt Go.RowKit Go.Dt
set_option linter.unusedVariables false
set_option linter.unusedSimpArgs false
def gapTo (a : Int) (i : Nat) : List Int := (List.range i).map fun (t : Nat) => a + 1 + (t : Int)
theorem gapTo_succ (a : Int) (i : Nat) : gapTo a (i + 1) = gapTo a i ++ [a + 1 + (i : Int)] := by unfold gapTo; rw [List.range_succ, List.map_append]; rfl
theorem gapTo_len (a : Int) (i : Nat) : (gapTo a i).length = i := by simp [gapTo]
/-- What comes behind a message: the next one's number, or the log's next. -/
def Log.behind (l : Log) (j : Nat) : Int := match l.xMessages[j + 1]? with | some p => p.xNumber | none => l.xNext
def Log.holesTo (l : Log) : Nat → Option (List Int)
  | 0 => some []
  | j + 1 => match l.holesTo j, l.xMessages[j]? with
    | some out, some m => if l.behind j - m.xNumber - 1 + (out.length : Int) ≤ 300 then some (out ++ gapTo m.xNumber (l.behind j - m.xNumber - 1).toNat) else none
    | _, _ => none
theorem Log.holes_succ {l : Log} {j : Nat} {m : Message} {out : List Int} {to : Int} (h : l.holesTo j = some out) (hm : l.xMessages[j]? = some m) (ht : l.behind j = to) :
    l.holesTo (j + 1) = if to - m.xNumber - 1 + (out.length : Int) ≤ 300 then some (out ++ gapTo m.xNumber (to - m.xNumber - 1).toNat) else none := by
  subst ht
  show (match l.holesTo j, l.xMessages[j]? with
    | some out, some m => if l.behind j - m.xNumber - 1 + (out.length : Int) ≤ 300 then some (out ++ gapTo m.xNumber (l.behind j - m.xNumber - 1).toNat) else none
    | _, _ => none) = _
  rw [h, hm]
theorem Log.holes_none {l : Log} {j : Nat} (h : l.holesTo j = none) : ∀ k, j ≤ k → l.holesTo k = none := by
  intro k hk
  induction k with
  | zero => have : j = 0 := by omega
            subst this; exact h
  | succ k ih =>
    rcases Nat.lt_or_ge k j with h' | h'
    · have : j = k + 1 := by omega
      subst this; exact h
    · show (match l.holesTo k, l.xMessages[k]? with
        | some out, some m => if l.behind k - m.xNumber - 1 + (out.length : Int) ≤ 300 then some (out ++ gapTo m.xNumber (l.behind k - m.xNumber - 1).toNat) else none
        | _, _ => none) = none
      rw [ih h']
def HolesOf_f (l : Log) : List Int × Bool := if l.ok then (match l.holesTo l.xMessages.length with | some out => (out, true) | none => ([], false)) else ([], false)
theorem holes_bad {l : Log} (h : l.ok = false) : HolesOf_f l = ([], false) := by unfold HolesOf_f; rw [h]; rfl
theorem holes_many {l : Log} {j : Nat} (hv : l.ok = true) (h : l.holesTo j = none) (hj : j ≤ l.xMessages.length) : HolesOf_f l = ([], false) := by
  unfold HolesOf_f; rw [hv, Log.holes_none h _ hj]; rfl
theorem holes_all {l : Log} {n : Nat} {out : List Int} (hv : l.ok = true) (hn : l.xMessages.length = n) (h : l.holesTo n = some out) : HolesOf_f l = (out, true) := by
  unfold HolesOf_f; rw [hv, hn, h]; rfl
theorem holes_le {l : Log} {j : Nat} {out : List Int} (h : l.holesTo j = some out) (hb : ∀ j, 0 ≤ l.behind j ∧ l.behind j ≤ 1000000000) (hm : ∀ j m, l.xMessages[j]? = some m → m.xNumber < l.behind j) : out.length ≤ 300 := by
  cases j with
  | zero => have : out = [] := by simpa [Log.holesTo] using h.symm
            subst this; simp
  | succ j =>
    have h' : (match l.holesTo j, l.xMessages[j]? with
        | some out, some m => if l.behind j - m.xNumber - 1 + (out.length : Int) ≤ 300 then some (out ++ gapTo m.xNumber (l.behind j - m.xNumber - 1).toNat) else none
        | _, _ => none) = some out := h
    split at h'
    · rename_i o m ho hmj
      have := hm j m hmj
      split at h'
      · injection h' with h'
        rw [← h', List.length_append, gapTo_len]
        omega
      · cases h'
    · cases h'
theorem Log.rising {l : Log} (h : l.ok = true) {j : Nat} {m p : Message} (hj : l.xMessages[j]? = some m) (hp : l.xMessages[j + 1]? = some p) : m.xNumber < p.xNumber ∧ m.xAt ≤ p.xAt := by
  unfold Log.ok at h
  rw [Bool.and_eq_true] at h
  have := upTo_at h.1 (List.getElem?_eq_some_iff.1 hp).1
  rw [Log.right_succ hp hj] at this
  simp at this
  omega
theorem Log.behind_bd {l : Log} (h : l.ok = true) (j : Nat) : 0 ≤ l.behind j ∧ l.behind j ≤ 1000000000 := by
  unfold Log.behind
  split
  · rename_i p hp
    have := Message.bounds (Log.msg_ok h hp).1
    omega
  · have := Log.few h
    omega
theorem Log.behind_gt {l : Log} (h : l.ok = true) (j : Nat) (m : Message) (hm : l.xMessages[j]? = some m) : m.xNumber < l.behind j := by
  unfold Log.behind
  split
  · rename_i p hp
    exact (Log.rising h hm hp).1
  · exact (Log.msg_ok h hm).2
theorem holes_len {l : Log} : (HolesOf_f l).1.length ≤ 300 := by
  unfold HolesOf_f
  split
  · rename_i hv
    split
    · rename_i out ho
      exact holes_le ho (Log.behind_bd hv) (Log.behind_gt hv)
    · simp
  · simp
theorem HolesOf_lawN (x : Log) (hz : Log.z x ≤ 1048576) : (HolesOf_f x).1.length ≤ 1000000000000 := Nat.le_trans holes_len (by decide)
end Go.Proofs.Ytafihplbchofoaa

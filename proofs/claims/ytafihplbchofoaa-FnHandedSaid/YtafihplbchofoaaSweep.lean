/- Sweeps. -/
import Derived.Test.YtafihplbchofoaaClone
import Derived.Test.YtafihplbchofoaaAges
import Derived.Test.YtafihplbchofoaaSPost
import Derived.Test.YtafihplbchofoaaLaw
namespace Go.Proofs.Ytafihplbchofoaa
open Go.ChangeShapes Go.WideShapes Go.ChangeAt Go.RowKit Go.Dt
set_option linter.unusedVariables false
set_option linter.unusedSimpArgs false
def sweepOk (l : Log) (now age keep : Int) (pins : List Int) : Bool := l.ok && (inB now 0 1000000 && (inB age 0 1000000 && (inB keep 0 40 && (decide ((pins.length : Int) ≤ 300) && rises (fun n => inB n 1 1000000000) pins))))
def kept (now age keep : Int) (pins : List Int) (n i : Nat) (m : Message) : Bool := decide (now - m.xAt ≤ age) || (decide ((n : Int) - (i : Int) ≤ keep) || hasIt pins m.xNumber)
def sweepTo (now age keep : Int) (pins : List Int) (l : List Message) : Nat → List Message
  | 0 => []
  | j + 1 => match l[j]? with
    | some m => if kept now age keep pins l.length j m = true then sweepTo now age keep pins l j ++ [m] else sweepTo now age keep pins l j
    | none => sweepTo now age keep pins l j
theorem sweepTo_yes {now age keep : Int} {pins : List Int} {l : List Message} {j : Nat} {m : Message} (h : l[j]? = some m) (hk : kept now age keep pins l.length j m = true) : sweepTo now age keep pins l (j + 1) = sweepTo now age keep pins l j ++ [m] := by
  rw [sweepTo, h]; exact if_pos hk
theorem sweepTo_no {now age keep : Int} {pins : List Int} {l : List Message} {j : Nat} {m : Message} (h : l[j]? = some m) (hk : kept now age keep pins l.length j m = false) : sweepTo now age keep pins l (j + 1) = sweepTo now age keep pins l j := by
  rw [sweepTo, h]; exact if_neg (by simp [hk])
theorem sweepTo_len (now age keep : Int) (pins : List Int) (l : List Message) (j : Nat) : (sweepTo now age keep pins l j).length ≤ j := by
  induction j with
  | zero => simp [sweepTo]
  | succ j ih =>
    unfold sweepTo
    split
    · split
      · simp only [List.length_append, List.length_cons, List.length_nil]; omega
      · omega
    · omega
theorem sweepTo_in (now age keep : Int) (pins : List Int) (l : List Message) (j : Nat) : ∀ m ∈ sweepTo now age keep pins l j, m ∈ l := by
  induction j with
  | zero => simp [sweepTo]
  | succ j ih =>
    unfold sweepTo
    split
    · rename_i m h
      split
      · intro x hx
        rw [List.mem_append] at hx
        rcases hx with hx | hx
        · exact ih x hx
        · simp at hx; subst hx; exact List.mem_of_getElem? h
      · exact ih
    · exact ih
def SweepLog_f (l : Log) (now age keep : Int) (pins : List Int) : Log × Bool := if sweepOk l now age keep pins = true then (⟨l.xNext, sweepTo now age keep pins l.xMessages l.xMessages.length⟩, true) else (⟨0, []⟩, false)
end Go.Proofs.Ytafihplbchofoaa

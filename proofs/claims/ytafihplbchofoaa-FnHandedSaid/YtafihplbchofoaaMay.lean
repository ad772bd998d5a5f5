/- The program may be entered: its head's words are read once, piece by piece. -/
import Derived.Test.YtafihplbchofoaaRows
import Derived.WalkKit
import Derived.ProofKit
namespace Go.Proofs.Ytafihplbchofoaa
open Go.ChangeShapes Go.WideShapes Go.ChangeAt Go.RowKit
theorem words_app (a r : List Char) : wordsSigns (a ++ ' ' :: r) = wordsSigns a ++ wordsSigns r := by
  induction a with
  | nil => simp [wordsSigns]
  | cons c a ih =>
    have hne : wordsSigns a ≠ [] := by
      cases a with
      | nil => simp [wordsSigns]
      | cons d a =>
        by_cases h : d = ' '
        · subst h; simp [wordsSigns]
        · rw [wordsSigns]
          · cases wordsSigns a <;> simp
          · exact h
    by_cases h : c = ' '
    · subst h; simp [wordsSigns, ih]
    · rw [List.cons_append, wordsSigns, wordsSigns, ih]
      · cases hw : wordsSigns a with
        | nil => exact absurd hw hne
        | cons x xs => simp
      · exact h
      · exact h
set_option maxRecDepth 100000 in
theorem head_lit : Try.prog.initOrder = "harness cef7412626b4cda3a734afc05e5efa1d21ced260832b34dbdb58a0ffbcc63279 cut at loop.example/g01202/laws.FnHanded loop.example/g01202/laws.FnSimulated loop.example/g01202/laws.FnExactRunSim loop.example/g01202/laws.FnExactDueReminders loop.example/g01202/laws.FnReminders" := by kernel_rfl
def headA : List Char := ['h', 'a', 'r', 'n', 'e', 's', 's', ' ', 'c', 'e', 'f', '7', '4', '1', '2', '6', '2', '6', 'b', '4', 'c', 'd', 'a', '3', 'a', '7', '3', '4', 'a', 'f', 'c', '0', '5', 'e', '5', 'e', 'f', 'a', '1', 'd', '2', '1', 'c', 'e', 'd', '2', '6', '0', '8', '3', '2', 'b', '3', '4', 'd', 'b', 'd', 'b', '5', '8', 'a', '0', 'f', 'f', 'b', 'c', 'c', '6', '3', '2', '7', '9', ' ', 'c', 'u', 't']
def headB : List Char := ['a', 't', ' ', 'l', 'o', 'o', 'p', '.', 'e', 'x', 'a', 'm', 'p', 'l', 'e', '/', 'g', '0', '1', '2', '0', '2', '/', 'l', 'a', 'w', 's', '.', 'F', 'n', 'H', 'a', 'n', 'd', 'e', 'd', ' ', 'l', 'o', 'o', 'p', '.', 'e', 'x', 'a', 'm', 'p', 'l', 'e', '/', 'g', '0', '1', '2', '0', '2', '/', 'l', 'a', 'w', 's', '.', 'F', 'n', 'S', 'i', 'm', 'u', 'l', 'a', 't', 'e', 'd', ' ', 'l', 'o', 'o', 'p', '.', 'e', 'x', 'a', 'm', 'p', 'l', 'e', '/', 'g', '0', '1', '2', '0', '2', '/', 'l', 'a', 'w', 's', '.', 'F', 'n', 'E', 'x', 'a', 'c', 't', 'R', 'u', 'n', 'S', 'i', 'm', ' ', 'l', 'o', 'o', 'p', '.', 'e', 'x', 'a', 'm', 'p', 'l', 'e', '/', 'g', '0', '1', '2', '0', '2', '/', 'l', 'a', 'w', 's', '.', 'F', 'n', 'E', 'x', 'a', 'c', 't', 'D', 'u', 'e', 'R', 'e', 'm', 'i', 'n', 'd', 'e', 'r', 's', ' ', 'l', 'o', 'o', 'p', '.', 'e', 'x', 'a', 'm', 'p', 'l', 'e', '/', 'g', '0', '1', '2', '0', '2', '/', 'l', 'a', 'w', 's', '.', 'F', 'n', 'R', 'e', 'm', 'i', 'n', 'd', 'e', 'r', 's']
set_option maxRecDepth 100000 in
theorem head_chars : "harness cef7412626b4cda3a734afc05e5efa1d21ced260832b34dbdb58a0ffbcc63279 cut at loop.example/g01202/laws.FnHanded loop.example/g01202/laws.FnSimulated loop.example/g01202/laws.FnExactRunSim loop.example/g01202/laws.FnExactDueReminders loop.example/g01202/laws.FnReminders" = String.ofList (headA ++ ' ' :: headB) := by kernel_rfl
theorem head_cut : Try.prog.initOrder.toList = headA ++ ' ' :: headB := by rw [head_lit, head_chars, String.toList_ofList]
def headSum : List Char := ['c', 'e', 'f', '7', '4', '1', '2', '6', '2', '6', 'b', '4', 'c', 'd', 'a', '3', 'a', '7', '3', '4', 'a', 'f', 'c', '0', '5', 'e', '5', 'e', 'f', 'a', '1', 'd', '2', '1', 'c', 'e', 'd', '2', '6', '0', '8', '3', '2', 'b', '3', '4', 'd', 'b', 'd', 'b', '5', '8', 'a', '0', 'f', 'f', 'b', 'c', 'c', '6', '3', '2', '7', '9']
theorem head_words : wordsSigns headA = ["harness".toList, headSum, "cut".toList] := by kernel_rfl
theorem head_sum : isSumSigns headSum = true := by kernel_rfl
theorem head_behind : ∃ X, behindMainWord (wordsSigns Try.prog.initOrder.toList) = "cut".toList :: X := by
  refine ⟨wordsSigns headB, ?_⟩
  rw [head_cut, words_app, head_words]
  simp only [List.cons_append, List.nil_append, behindMainWord, head_sum]
  simp
set_option maxRecDepth 100000 in
theorem not_later : Try.prog.laysLater = false := by kernel_rfl
set_option maxRecDepth 100000 in
theorem no_reflect : Try.prog.bearsReflect = false := by kernel_rfl
set_option maxRecDepth 100000 in
theorem no_doors : Try.prog.doorRows = [] := by kernel_rfl
theorem strip_cut (X : List (List Char)) : stripLifts liftWords ("cut".toList :: X) = ([], "cut".toList :: X) := by
  rfl
theorem may_of (P : Program) (X : List (List Char)) (h : behindMainWord (wordsSigns P.initOrder.toList) = "cut".toList :: X) (h1 : P.laysLater = false) (h2 : P.bearsReflect = false) (h3 : P.doorRows = []) : P.mayEnter = true := by
  unfold Program.mayEnter
  rw [h]
  simp only [strip_cut, h1, h2, Program.doorFits, h3]
  simp
theorem may : Try.prog.mayEnter = true := by
  obtain ⟨X, h⟩ := head_behind
  exact may_of _ X h not_later no_reflect no_doors
theorem lifts_of (P : Program) (X : List (List Char)) (h : behindMainWord (wordsSigns P.initOrder.toList) = "cut".toList :: X) : P.liftsFinal = false := by
  unfold Program.liftsFinal Program.headLifts
  rw [h]
  simp only [strip_cut]
  simp
theorem lifts : Try.prog.liftsFinal = false := by
  obtain ⟨X, h⟩ := head_behind
  exact lifts_of _ X h
theorem make_of (P : Program) (X : List (List Char)) (h : behindMainWord (wordsSigns P.initOrder.toList) = "cut".toList :: X) : P.make = some .cut := by
  unfold Program.make
  rw [h]
  simp
theorem make : Try.prog.make = some .cut := by
  obtain ⟨X, h⟩ := head_behind
  exact make_of _ X h
end Go.Proofs.Ytafihplbchofoaa

/- The program may be entered: its head's words are read once, piece by piece. -/
import Derived.Test.YtmofbfeclecdoaaRows
import Derived.WalkKit
import Derived.ProofKit
namespace Go.Proofs.Ytmofbfeclecdoaa
open Go.ChangeShapes Go.WideShapes Go.ChangeAt Go.RowKit
theorem words_app (a r : List Char) : wordsSigns (a ++ ' ' :: r) = wordsSigns a ++ wordsSigns r := by
  induction a with
  | nil => simp [wordsSigns]
  | cons c a ih =>
    have hne : wordsSigns a ≠ [] := by
      cases a with
      | nil => simp [wordsSigns]
      | cons d a =>
        by_cases h : d = ' '
        · subst h; simp [wordsSigns]
        · rw [wordsSigns]
          · cases wordsSigns a <;> simp
          · exact h
    by_cases h : c = ' '
    · subst h; simp [wordsSigns, ih]
    · rw [List.cons_append, wordsSigns, wordsSigns, ih]
      · cases hw : wordsSigns a with
        | nil => exact absurd hw hne
        | cons x xs => simp
      · exact h
      · exact h
set_option maxRecDepth 100000 in
theorem head_lit : Try.prog.initOrder = "harness 19e28c968b09686421af8b6bd15d59c52a9d2da8be8a657d1392756a50906b8e cut at loop.example/g01202/laws.FnSimulated loop.example/g01202/laws.FnExactAgesOf loop.example/g01202/laws.FnExactHolesOf loop.example/g01202/laws.FnExactSweepLog loop.example/g01202/laws.FnSweptLogs loop.example/g01202/laws.FnExactValidDesk loop.example/g01202/laws.FnHanded loop.example/g01202/laws.FnExactRunSim loop.example/g01202/laws.FnExactValidHand loop.example/g01202/laws.FnExactBeginHand loop.example/g01202/laws.FnExactLogOfHand loop.example/g01202/laws.FnExactFreezeHand loop.example/g01202/laws.FnExactBreakHand loop.example/g01202/laws.FnExactFinishHand loop.example/g01202/laws.FnExactCopyHand loop.example/g01202/laws.FnExactSayHand" := by kernel_rfl
def headA : List Char := ['h', 'a', 'r', 'n', 'e', 's', 's', ' ', '1', '9', 'e', '2', '8', 'c', '9', '6', '8', 'b', '0', '9', '6', '8', '6', '4', '2', '1', 'a', 'f', '8', 'b', '6', 'b', 'd', '1', '5', 'd', '5', '9', 'c', '5', '2', 'a', '9', 'd', '2', 'd', 'a', '8', 'b', 'e', '8', 'a', '6', '5', '7', 'd', '1', '3', '9', '2', '7', '5', '6', 'a', '5', '0', '9', '0', '6', 'b', '8', 'e', ' ', 'c', 'u', 't']
def headB : List Char := ['a', 't', ' ', 'l', 'o', 'o', 'p', '.', 'e', 'x', 'a', 'm', 'p', 'l', 'e', '/', 'g', '0', '1', '2', '0', '2', '/', 'l', 'a', 'w', 's', '.', 'F', 'n', 'S', 'i', 'm', 'u', 'l', 'a', 't', 'e', 'd', ' ', 'l', 'o', 'o', 'p', '.', 'e', 'x', 'a', 'm', 'p', 'l', 'e', '/', 'g', '0', '1', '2', '0', '2', '/', 'l', 'a', 'w', 's', '.', 'F', 'n', 'E', 'x', 'a', 'c', 't', 'A', 'g', 'e', 's', 'O', 'f', ' ', 'l', 'o', 'o', 'p', '.', 'e', 'x', 'a', 'm', 'p', 'l', 'e', '/', 'g', '0', '1', '2', '0', '2', '/', 'l', 'a', 'w', 's', '.', 'F', 'n', 'E', 'x', 'a', 'c', 't', 'H', 'o', 'l', 'e', 's', 'O', 'f', ' ', 'l', 'o', 'o', 'p', '.', 'e', 'x', 'a', 'm', 'p', 'l', 'e', '/', 'g', '0', '1', '2', '0', '2', '/', 'l', 'a', 'w', 's', '.', 'F', 'n', 'E', 'x', 'a', 'c', 't', 'S', 'w', 'e', 'e', 'p', 'L', 'o', 'g', ' ', 'l', 'o', 'o', 'p', '.', 'e', 'x', 'a', 'm', 'p', 'l', 'e', '/', 'g', '0', '1', '2', '0', '2', '/', 'l', 'a', 'w', 's', '.', 'F', 'n', 'S', 'w', 'e', 'p', 't', 'L', 'o', 'g', 's', ' ', 'l', 'o', 'o', 'p', '.', 'e', 'x', 'a', 'm', 'p', 'l', 'e', '/', 'g', '0', '1', '2', '0', '2', '/', 'l', 'a', 'w', 's', '.', 'F', 'n', 'E', 'x', 'a', 'c', 't', 'V', 'a', 'l', 'i', 'd', 'D', 'e', 's', 'k', ' ', 'l', 'o', 'o', 'p', '.', 'e', 'x', 'a', 'm', 'p', 'l', 'e', '/', 'g', '0', '1', '2', '0', '2', '/', 'l', 'a', 'w', 's', '.', 'F', 'n', 'H', 'a', 'n', 'd', 'e', 'd', ' ', 'l', 'o', 'o', 'p', '.', 'e', 'x', 'a', 'm', 'p', 'l', 'e', '/', 'g', '0', '1', '2', '0', '2', '/', 'l', 'a', 'w', 's', '.', 'F', 'n', 'E', 'x', 'a', 'c', 't', 'R', 'u', 'n', 'S', 'i', 'm', ' ', 'l', 'o', 'o', 'p', '.', 'e', 'x', 'a', 'm', 'p', 'l', 'e', '/', 'g', '0', '1', '2', '0', '2', '/', 'l', 'a', 'w', 's', '.', 'F', 'n', 'E', 'x', 'a', 'c', 't', 'V', 'a', 'l', 'i', 'd', 'H', 'a', 'n', 'd', ' ', 'l', 'o', 'o', 'p', '.', 'e', 'x', 'a', 'm', 'p', 'l', 'e', '/', 'g', '0', '1', '2', '0', '2', '/', 'l', 'a', 'w', 's', '.', 'F', 'n', 'E', 'x', 'a', 'c', 't', 'B', 'e', 'g', 'i', 'n', 'H', 'a', 'n', 'd', ' ', 'l', 'o', 'o', 'p', '.', 'e', 'x', 'a', 'm', 'p', 'l', 'e', '/', 'g', '0', '1', '2', '0', '2', '/', 'l', 'a', 'w', 's', '.', 'F', 'n', 'E', 'x', 'a', 'c', 't', 'L', 'o', 'g', 'O', 'f', 'H', 'a', 'n', 'd', ' ', 'l', 'o', 'o', 'p', '.', 'e', 'x', 'a', 'm', 'p', 'l', 'e', '/', 'g', '0', '1', '2', '0', '2', '/', 'l', 'a', 'w', 's', '.', 'F', 'n', 'E', 'x', 'a', 'c', 't', 'F', 'r', 'e', 'e', 'z', 'e', 'H', 'a', 'n', 'd', ' ', 'l', 'o', 'o', 'p', '.', 'e', 'x', 'a', 'm', 'p', 'l', 'e', '/', 'g', '0', '1', '2', '0', '2', '/', 'l', 'a', 'w', 's', '.', 'F', 'n', 'E', 'x', 'a', 'c', 't', 'B', 'r', 'e', 'a', 'k', 'H', 'a', 'n', 'd', ' ', 'l', 'o', 'o', 'p', '.', 'e', 'x', 'a', 'm', 'p', 'l', 'e', '/', 'g', '0', '1', '2', '0', '2', '/', 'l', 'a', 'w', 's', '.', 'F', 'n', 'E', 'x', 'a', 'c', 't', 'F', 'i', 'n', 'i', 's', 'h', 'H', 'a', 'n', 'd', ' ', 'l', 'o', 'o', 'p', '.', 'e', 'x', 'a', 'm', 'p', 'l', 'e', '/', 'g', '0', '1', '2', '0', '2', '/', 'l', 'a', 'w', 's', '.', 'F', 'n', 'E', 'x', 'a', 'c', 't', 'C', 'o', 'p', 'y', 'H', 'a', 'n', 'd', ' ', 'l', 'o', 'o', 'p', '.', 'e', 'x', 'a', 'm', 'p', 'l', 'e', '/', 'g', '0', '1', '2', '0', '2', '/', 'l', 'a', 'w', 's', '.', 'F', 'n', 'E', 'x', 'a', 'c', 't', 'S', 'a', 'y', 'H', 'a', 'n', 'd']
set_option maxRecDepth 100000 in
theorem head_chars : "harness 19e28c968b09686421af8b6bd15d59c52a9d2da8be8a657d1392756a50906b8e cut at loop.example/g01202/laws.FnSimulated loop.example/g01202/laws.FnExactAgesOf loop.example/g01202/laws.FnExactHolesOf loop.example/g01202/laws.FnExactSweepLog loop.example/g01202/laws.FnSweptLogs loop.example/g01202/laws.FnExactValidDesk loop.example/g01202/laws.FnHanded loop.example/g01202/laws.FnExactRunSim loop.example/g01202/laws.FnExactValidHand loop.example/g01202/laws.FnExactBeginHand loop.example/g01202/laws.FnExactLogOfHand loop.example/g01202/laws.FnExactFreezeHand loop.example/g01202/laws.FnExactBreakHand loop.example/g01202/laws.FnExactFinishHand loop.example/g01202/laws.FnExactCopyHand loop.example/g01202/laws.FnExactSayHand" = String.ofList (headA ++ ' ' :: headB) := by kernel_rfl
theorem head_cut : Try.prog.initOrder.toList = headA ++ ' ' :: headB := by rw [head_lit, head_chars, String.toList_ofList]
def headSum : List Char := ['1', '9', 'e', '2', '8', 'c', '9', '6', '8', 'b', '0', '9', '6', '8', '6', '4', '2', '1', 'a', 'f', '8', 'b', '6', 'b', 'd', '1', '5', 'd', '5', '9', 'c', '5', '2', 'a', '9', 'd', '2', 'd', 'a', '8', 'b', 'e', '8', 'a', '6', '5', '7', 'd', '1', '3', '9', '2', '7', '5', '6', 'a', '5', '0', '9', '0', '6', 'b', '8', 'e']
theorem head_words : wordsSigns headA = ["harness".toList, headSum, "cut".toList] := by kernel_rfl
theorem head_sum : isSumSigns headSum = true := by kernel_rfl
theorem head_behind : ∃ X, behindMainWord (wordsSigns Try.prog.initOrder.toList) = "cut".toList :: X := by
  refine ⟨wordsSigns headB, ?_⟩
  rw [head_cut, words_app, head_words]
  simp only [List.cons_append, List.nil_append, behindMainWord, head_sum]
  simp
set_option maxRecDepth 100000 in
theorem not_later : Try.prog.laysLater = false := by kernel_rfl
set_option maxRecDepth 100000 in
theorem no_reflect : Try.prog.bearsReflect = false := by kernel_rfl
set_option maxRecDepth 100000 in
theorem no_doors : Try.prog.doorRows = [] := by kernel_rfl
theorem strip_cut (X : List (List Char)) : stripLifts liftWords ("cut".toList :: X) = ([], "cut".toList :: X) := by
  rfl
theorem may_of (P : Program) (X : List (List Char)) (h : behindMainWord (wordsSigns P.initOrder.toList) = "cut".toList :: X) (h1 : P.laysLater = false) (h2 : P.bearsReflect = false) (h3 : P.doorRows = []) : P.mayEnter = true := by
  unfold Program.mayEnter
  rw [h]
  simp only [strip_cut, h1, h2, Program.doorFits, h3]
  simp
theorem may : Try.prog.mayEnter = true := by
  obtain ⟨X, h⟩ := head_behind
  exact may_of _ X h not_later no_reflect no_doors
theorem lifts_of (P : Program) (X : List (List Char)) (h : behindMainWord (wordsSigns P.initOrder.toList) = "cut".toList :: X) : P.liftsFinal = false := by
  unfold Program.liftsFinal Program.headLifts
  rw [h]
  simp only [strip_cut]
  simp
theorem lifts : Try.prog.liftsFinal = false := by
  obtain ⟨X, h⟩ := head_behind
  exact lifts_of _ X h
theorem make_of (P : Program) (X : List (List Char)) (h : behindMainWord (wordsSigns P.initOrder.toList) = "cut".toList :: X) : P.make = some .cut := by
  unfold Program.make
  rw [h]
  simp
theorem make : Try.prog.make = some .cut := by
  obtain ⟨X, h⟩ := head_behind
  exact make_of _ X h
end Go.Proofs.Ytmofbfeclecdoaa

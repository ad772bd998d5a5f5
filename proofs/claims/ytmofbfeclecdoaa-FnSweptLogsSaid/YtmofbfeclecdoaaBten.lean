/- The laws' own small functions: b10Long, b10At (some number below n), b10Has. -/
import Derived.Test.YtmofbfeclecdoaaSrc
import Derived.Test.YtmofbfeclecdoaaMlk
namespace Go.Proofs.Ytmofbfeclecdoaa
open Go.ChangeShapes Go.WideShapes Go.ChangeAt Go.RowKit Go.Dt
set_option linter.unusedVariables false
set_option linter.unusedSimpArgs false
def long10 (l m : List Int) : Bool := decide (1048576 < (l.length : Int)) || decide (1048576 < (m.length : Int))
theorem laws_b10Long (l m : List Int) (A A' : Option Addr) (c c' : Nat) (W : World) (hl : l.length ≤ 9223372036854775807) (hm : m.length ≤ 9223372036854775807) :
    Calls Try.prog 38 #[.slice A l.length c, .slice A' m.length c'] W fun e w' => e = .returned (.bool (long10 l m)) ∧ w' = W := by
  have HO := Lib.hid (show long10 l m = (decide (1048576 < (l.length : Int)) || decide (1048576 < (m.length : Int))) from rfl)
  generalize l.length = n at *
  generalize m.length = k at *
  by_cases h1 : 1048576 < (n : Int) <;> by_cases h2 : 1048576 < (k : Int)
  all_goals
    first | (have g1 : decide (1048576 < (n : Int)) = false := decide_eq_false h1) | (have g1 : decide (1048576 < (n : Int)) = true := decide_eq_true h1)
    first | (have g2 : decide (1048576 < (k : Int)) = false := decide_eq_false h2) | (have g2 : decide (1048576 < (k : Int)) = true := decide_eq_true h2)
    rw [g1, g2] at HO
    clear g1 g2
    go_enter Try.func38, Try.ntmps38
    go_wp2
    go_ret
    exact ⟨by rw [HO.out]; rfl, rfl⟩
set_option maxRecDepth 100000 in
theorem laws_b10At (l : List Int) (wf : ∀ n ∈ l, 0 ≤ n ∧ n < 256) (k : Nat) (n : Int) (A : Option Addr) (c : Nat) (W : World) (hr : Ro W (Lo W.heap.size) (bytes l) (.slice A l.length c)) (hk : k ≤ 1000000) (hn : 1 < n) (hn2 : n ≤ 1000000) :
    Calls Try.prog 40 #[.slice A l.length c, .int .i64 k, .int .i64 n] W fun e w' => ∃ v : Int, e = .returned (.int .i64 v) ∧ (0 ≤ v ∧ v < n) ∧ w' = W := by
  have H := (St.start W).addro hr
  have hl : l.length ≤ 9223372036854775807 := by have h1 := hr.sl_max; have h2 := hr.sl_cap; simp only [maxLen] at h1; omega
  clear hr
  have hn0 : ¬ n = 0 := by omega
  by_cases hlt : k < l.length
  · obtain ⟨x, hx⟩ := get_lt hlt
    have hxb := wf x (List.mem_of_getElem? hx)
    obtain ⟨bo, off, hA, H'⟩ := bytes_st H (l := l) (by repeat (first | with_reducible_and_instances exact .here | with_reducible refine .there ?_)) hx
    clear H
    subst hA
    have H := H'
    clear H' hx
    have hlt' : (k : Int) < (l.length : Int) := by omega
    generalize l.length = q at *
    (try clear hq); have hq := H.facts; simp only [factsOf, Pt.facts, CellsAt, Nat.add_zero, Nat.zero_add, Nat.reduceAdd, and_true, true_and, List.set_cons_zero, List.set_cons_succ] at hq
    go_enter Try.func40, Try.ntmps40
    go_wp2
    go_ret
    exact ⟨_, rfl, ⟨Int.emod_nonneg _ (by omega), Int.emod_lt_of_pos _ (by omega)⟩, rfl⟩
  · have hlt' : ¬ (k : Int) < (l.length : Int) := by omega
    generalize l.length = q at *
    (try clear hq); have hq := H.facts; simp only [factsOf, Pt.facts, CellsAt, Nat.add_zero, Nat.zero_add, Nat.reduceAdd, and_true, true_and, List.set_cons_zero, List.set_cons_succ] at hq
    go_enter Try.func40, Try.ntmps40
    go_wp2
    go_ret
    exact ⟨_, rfl, ⟨Int.emod_nonneg _ (by omega), Int.emod_lt_of_pos _ (by omega)⟩, rfl⟩
set_option maxRecDepth 100000 in
theorem laws_b10Has (l : List Int) (v : Int) (A : Option Addr) (c : Nat) (W : World) (hr : Ro W (Lo W.heap.size) (ints l) (.slice A l.length c)) :
    Calls Try.prog 43 #[.slice A l.length c, .int .i64 v] W fun e w' => e = .returned (.bool (hasIt l v)) ∧ w' = W := by
  have H := (St.start W).addro hr
  have hl : l.length ≤ 9223372036854775807 := by have h1 := hr.sl_max; have h2 := hr.sl_cap; simp only [maxLen] at h1; omega
  have HO := Lib.hid (hasIt_idx l v)
  clear hr
  generalize hn : l.length = n at *
  have HN := Lib.hid hn
  clear hn
  go_enter Try.func43, Try.ntmps43
  go_wp2
  go_loopw [8] (fun k wr => ∃ j : Nat, j ≤ n ∧ k = .int .i64 j ∧ Hid (∀ (q : Nat) (y : Int), q < j → l[q]? = some y → (v == y) = false) ∧ wr = W) (fun k _ => n - (intOf k).toNat)
  case atStart => exact ⟨0, by omega, rfl, Lib.hid (fun q _ h => by omega), rfl⟩
  case round =>
    obtain ⟨j, hj, rfl, HQ, hw⟩ := hrel
    subst hw
    by_cases hlt : j < n
    · obtain ⟨x, hx⟩ := get_lt (l := l) (k := j) (by rw [HN.out]; exact hlt)
      obtain ⟨b, off, hA, H'⟩ := ints_st H (by repeat (first | with_reducible_and_instances exact .here | with_reducible refine .there ?_)) hx
      clear H
      subst hA
      have H := H'
      clear H'
      have HX := Lib.hid hx
      have hlt' : (j : Int) < (n : Int) := by omega
      clear hx
      cases hp : (x == v)
      · have HO2 := Lib.hid (show ∀ (q : Nat) (y : Int), q < j + 1 → l[q]? = some y → (v == y) = false from fun q y h hy => by
          rcases Nat.lt_or_ge q j with h' | h'
          · exact HQ.out q y h' hy
          · obtain rfl : q = j := by omega
            rw [HX.out] at hy; injection hy with hy; rw [← hy, Bool.beq_comm]; exact hp)
        (try clear hq); have hq := H.facts; simp only [factsOf, Pt.facts, CellsAt, Nat.add_zero, Nat.zero_add, Nat.reduceAdd, and_true, true_and, List.set_cons_zero, List.set_cons_succ] at hq
        go_wp2
        go_roundw
        case rel => exact ⟨j + 1, by omega, by go_num, HO2, by first | rfl | trivial⟩
        case measure => simp [intOf]; omega
      · have HV := Lib.hid (show hasIt l v = true from List.any_eq_true.2 ⟨x, List.mem_of_getElem? HX.out, by rw [Bool.beq_comm]; exact hp⟩)
        (try clear hq); have hq := H.facts; simp only [factsOf, Pt.facts, CellsAt, Nat.add_zero, Nat.zero_add, Nat.reduceAdd, and_true, true_and, List.set_cons_zero, List.set_cons_succ] at hq
        go_wp2
        go_ret
        exact ⟨by rw [HV.out]; rfl, by first | rfl | trivial⟩
    · obtain rfl : j = n := by omega
      have HV := Lib.hid (show hasIt l v = false from List.any_eq_false.2 fun x hx => by
        obtain ⟨q, hq, hxq⟩ := List.getElem_of_mem hx
        have := HQ.out q x (by have := HN.out; omega) (by rw [List.getElem?_eq_getElem hq, hxq])
        simp [this])
      go_wp2
      go_ret
      exact ⟨by rw [HV.out]; rfl, by first | rfl | trivial⟩
end Go.Proofs.Ytmofbfeclecdoaa

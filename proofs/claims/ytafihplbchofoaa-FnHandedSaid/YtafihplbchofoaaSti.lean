/- The parts' rules at lists of numbers and of strings. -/
import Derived.Test.YtafihplbchofoaaSt
import Derived.Test.YtafihplbchofoaaInts
import Derived.Test.YtafihplbchofoaaLaw
namespace Go.Proofs.Ytafihplbchofoaa
open Go.ChangeShapes Go.WideShapes Go.ChangeAt Go.RowKit Go.Dt
set_option linter.unusedVariables false
set_option linter.unusedSimpArgs false
theorem ints_eq {l : List Int} {x : Int} : D.sl 2 1 ((l.map fun n => [D.int .i64 n]) ++ [[D.int .i64 x]]) = ints (l ++ [x]) := by unfold ints; rw [List.map_append]; rfl
section
variable {N R : Nat → Prop} {W w w' : World} {ps : List Pt}
theorem ints_st {l : List Int} {A : Option Addr} {n c k : Nat} {x : Int} (h : St N R W w ps) (ha : At (.ro (ints l) (.slice A n c)) ps) (hk : l[k]? = some x) :
    ∃ b off, A = some ⟨b, off, none⟩ ∧ St N R W w (.rd b (off + k) [.int .i64 x] :: ps) := by
  obtain ⟨b, off, us, rfl, h1, h2, h3⟩ := h.elem ha (map_at (f := fun n => [D.int .i64 n]) hk)
  obtain ⟨u, us', rfl, h4, h5⟩ := h2.uncons
  obtain rfl := h4.int_inv
  obtain rfl := h5.unnil
  rw [Nat.mul_one] at h3
  exact ⟨b, off, rfl, h3⟩
theorem St.len {l : List Int} {A : Option Addr} {q c : Nat} (h : St N R W w ps) (ha : At (.ow (ints l) (.slice A q c)) ps) : q = l.length := by
  obtain ⟨A0, c0, h2, -⟩ := (h.lo (.inr ha)).sl_inv
  injection h2 with _ h2 _
  simpa using h2
end
def strs (l : List ByteArray) : D := .sl 9 1 (l.map fun s => [.str s])
theorem inf_string : Inf Try.prog 9 (.string ByteArray.empty) 1 16 := by unfold Inf; kernel_rfl
theorem strs_eq {l : List ByteArray} {x : ByteArray} : D.sl 9 1 ((l.map fun s => [D.str s]) ++ [[D.str x]]) = strs (l ++ [x]) := by unfold strs; rw [List.map_append]; rfl
theorem strs_at {w : World} {Pb : Nat → Prop} {l : List ByteArray} {A : Option Addr} {n c k : Nat} {x : ByteArray} (h : Ro w Pb (strs l) (.slice A n c)) (hk : l[k]? = some x) : ∃ b off, A = some ⟨b, off, none⟩ ∧ Pb b ∧ w.cell? ⟨b, off + k, none⟩ = some (.string x) := by
  have hk : (l.map fun s => [D.str s])[k]? = some [.str x] := by simp [hk]
  obtain ⟨b, off, us, hA, hb, _, hru, hcl⟩ := h.sl_at hk
  obtain ⟨u, us', rfl, h0, h1⟩ := hru.uncons
  obtain rfl := h0.str_inv
  have := hcl 0 _ rfl
  rw [Nat.mul_one, Nat.add_zero] at this
  exact ⟨b, off, hA, hb, this⟩
section
variable {N R : Nat → Prop} {W w : World} {ps : List Pt}
theorem St.lenS {l : List ByteArray} {A : Option Addr} {q c : Nat} (h : St N R W w ps) (ha : At (.ow (strs l) (.slice A q c)) ps) : q = l.length := by
  obtain ⟨A0, c0, h2, -⟩ := (h.lo (.inr ha)).sl_inv
  injection h2 with _ h2 _
  simpa using h2
/-- What strings.Join asks of strings that are held. -/
theorem St.strs_all {l : List ByteArray} {A : Option Addr} {q c : Nat} (h : St N R W w ps) (ha : At (.ow (strs l) (.slice A q c)) ps) (hl : l ≠ []) :
    ∃ b off, A = some ⟨b, off, none⟩ ∧ b < w.heap.size ∧ (∀ (j : Nat) x, l[j]? = some x → w.cell? ⟨b, off + j, none⟩ = some (.string x)) ∧ l.length ≤ c := by
  have hro := h.lo (.inr ha)
  obtain ⟨x, hx⟩ := get_lt (l := l) (k := 0) (List.length_pos_iff.2 hl)
  obtain ⟨b, off, rfl, hb, h0⟩ := strs_at hro hx
  refine ⟨b, off, rfl, hb, fun j y hy => ?_, ?_⟩
  · obtain ⟨b2, off2, hA, hb2, h2⟩ := strs_at hro hy
    injection hA with hA
    injection hA with e1 e2
    subst e1 e2
    exact h2
  · have := Ro.sl_cap hro
    rw [← St.lenS h ha]
    exact this
end
end Go.Proofs.Ytafihplbchofoaa

/- The parts' rules at lists of numbers and of strings. -/
import Derived.Test.YtahbgkabdongnaaDoorSt
import Derived.Test.YtahbgkabdongnaaDoorInts
import Derived.Test.YtahbgkabdongnaaDoorLaw
namespace Go.Proofs.YtahbgkabdongnaaDoor
open Go.ChangeShapes Go.WideShapes Go.ChangeAt Go.RowKit Go.Dt
set_option linter.unusedVariables false
set_option linter.unusedSimpArgs false
theorem ints_eq {l : List Int} {x : Int} : D.sl 2 1 ((l.map fun n => [D.int .i64 n]) ++ [[D.int .i64 x]]) = ints (l ++ [x]) := by unfold ints; rw [List.map_append]; rfl
section
variable {N R : Nat → Prop} {W w w' : World} {ps : List Pt}
theorem ints_st {l : List Int} {A : Option Addr} {n c k : Nat} {x : Int} (h : St N R W w ps) (ha : At (.ro (ints l) (.slice A n c)) ps) (hk : l[k]? = some x) :
    ∃ b off, A = some ⟨b, off, none⟩ ∧ St N R W w (.rd b (off + k) [.int .i64 x] :: ps) := by
  obtain ⟨b, off, us, rfl, h1, h2, h3⟩ := h.elem ha (map_at (f := fun n => [D.int .i64 n]) hk)
  obtain ⟨u, us', rfl, h4, h5⟩ := h2.uncons
  obtain rfl := h4.int_inv
  obtain rfl := h5.unnil
  rw [Nat.mul_one] at h3
  exact ⟨b, off, rfl, h3⟩
theorem St.len {l : List Int} {A : Option Addr} {q c : Nat} (h : St N R W w ps) (ha : At (.ow (ints l) (.slice A q c)) ps) : q = l.length := by
  obtain ⟨A0, c0, h2, -⟩ := (h.lo (.inr ha)).sl_inv
  injection h2 with _ h2 _
  simpa using h2
end
def strs (l : List ByteArray) : D := .sl 9 1 (l.map fun s => [.str s])
theorem inf_string : Inf Tryd.prog 9 (.string ByteArray.empty) 1 16 := by unfold Inf; kernel_rfl
theorem strs_eq {l : List ByteArray} {x : ByteArray} : D.sl 9 1 ((l.map fun s => [D.str s]) ++ [[D.str x]]) = strs (l ++ [x]) := by unfold strs; rw [List.map_append]; rfl
theorem strs_at {w : World} {Pb : Nat → Prop} {l : List ByteArray} {A : Option Addr} {n c k : Nat} {x : ByteArray} (h : Ro w Pb (strs l) (.slice A n c)) (hk : l[k]? = some x) : ∃ b off, A = some ⟨b, off, none⟩ ∧ Pb b ∧ w.cell? ⟨b, off + k, none⟩ = some (.string x) := by
  have hk : (l.map fun s => [D.str s])[k]? = some [.str x] := by simp [hk]
  obtain ⟨b, off, us, hA, hb, _, hru, hcl⟩ := h.sl_at hk
  obtain ⟨u, us', rfl, h0, h1⟩ := hru.uncons
  obtain rfl := h0.str_inv
  have := hcl 0 _ rfl
  rw [Nat.mul_one, Nat.add_zero] at this
  exact ⟨b, off, hA, hb, this⟩
section
variable {N R : Nat → Prop} {W w : World} {ps : List Pt}
theorem St.lenS {l : List ByteArray} {A : Option Addr} {q c : Nat} (h : St N R W w ps) (ha : At (.ow (strs l) (.slice A q c)) ps) : q = l.length := by
  obtain ⟨A0, c0, h2, -⟩ := (h.lo (.inr ha)).sl_inv
  injection h2 with _ h2 _
  simpa using h2
/-- What strings.Join asks of strings that are held. -/
theorem St.strs_all {l : List ByteArray} {A : Option Addr} {q c : Nat} (h : St N R W w ps) (ha : At (.ow (strs l) (.slice A q c)) ps) (hl : l ≠ []) :
    ∃ b off, A = some ⟨b, off, none⟩ ∧ b < w.heap.size ∧ (∀ (j : Nat) x, l[j]? = some x → w.cell? ⟨b, off + j, none⟩ = some (.string x)) ∧ l.length ≤ c := by
  have hro := h.lo (.inr ha)
  obtain ⟨x, hx⟩ := get_lt (l := l) (k := 0) (List.length_pos_iff.2 hl)
  obtain ⟨b, off, rfl, hb, h0⟩ := strs_at hro hx
  refine ⟨b, off, rfl, hb, fun j y hy => ?_, ?_⟩
  · obtain ⟨b2, off2, hA, hb2, h2⟩ := strs_at hro hy
    injection hA with hA
    injection hA with e1 e2
    subst e1 e2
    exact h2
  · have := Ro.sl_cap hro
    rw [← St.lenS h ha]
    exact this
end
theorem str_add {P : Program} (a b : ByteArray) (h : a.size + b.size ≤ 9223372036854775807) : ∀ w : World, (Op.stringOp .add a b).run P w = .ok (.string (a ++ b)) w := fun w => run_string_add_sum w a b (by omega)
/-- A slice cut short reads as the beginning. -/
theorem Ro.cut {w : World} {Pb : Nat → Prop} {e : TypeId} {sz : Nat} {rows : List (List D)} {A : Option Addr} {n c k : Nat} (h : Ro w Pb (.sl e sz rows) (.slice A n c)) (hk : k ≤ n) : Ro w Pb (.sl e sz (rows.take k)) (.slice A k c) := by
  obtain ⟨A', c', hv, hlc, hm⟩ := h.sl_inv
  injection hv with e1 e2 e3
  rcases Nat.eq_zero_or_pos k with h0 | h0
  · subst h0
    rw [List.take_zero]
    exact .emp _ _ _ _ (by omega)
  · cases h with
    | emp _ _ A c hc => omega
    | row _ _ b off c _ us h1 h2 hb h3 h4 h5 =>
      have hlk : (rows.take k).length = k := by rw [List.length_take]; omega
      have := Ro.row (w := w) (Pb := Pb) e sz b off c (rows.take k) us (by omega) h2 hb (fun i row hi => h3 i row (by rw [List.getElem?_take] at hi; split at hi; exact hi; cases hi)) (fun i row j d hi hj => h4 i row j d (by rw [List.getElem?_take] at hi; split at hi; exact hi; cases hi) hj) (fun i row j d hi hj => h5 i row j d (by rw [List.getElem?_take] at hi; split at hi; exact hi; cases hi) hj)
      rwa [hlk] at this
section
variable {N R : Nat → Prop} {W w : World} {ps : List Pt}
theorem _root_.Go.Dt.St.base (h : St N R W w ps) : St N (Lo w.heap.size) W w [] := ⟨h.kp, fun b hb => h.lt b (h.sub b hb), fun _ h => h, fun _ => False, fun _ h => h, fun _ h => h.elim⟩
theorem strs_st {l : List ByteArray} {A : Option Addr} {n c k : Nat} {x : ByteArray} (h : St N R W w ps) (ha : At (.ro (strs l) (.slice A n c)) ps) (hk : l[k]? = some x) :
    ∃ b off, A = some ⟨b, off, none⟩ ∧ St N R W w (.rd b (off + k) [.string x] :: ps) := by
  obtain ⟨b, off, us, rfl, h1, h2, h3⟩ := h.elem ha (map_at (f := fun s => [D.str s]) hk)
  obtain ⟨u, us', rfl, h4, h5⟩ := h2.uncons
  obtain rfl := h4.str_inv
  obtain rfl := h5.unnil
  rw [Nat.mul_one] at h3
  exact ⟨b, off, rfl, h3⟩
end
end Go.Proofs.YtahbgkabdongnaaDoor

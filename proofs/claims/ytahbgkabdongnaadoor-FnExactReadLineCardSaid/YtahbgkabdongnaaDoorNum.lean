/- Numerals read back: plain lists. -/
import Derived.Test.YtahbgkabdongnaaDoorDec
import Derived.Test.YtahbgkabdongnaaDoorSmall
import Derived.Lib.ParseIntB
namespace Go.Proofs.YtahbgkabdongnaaDoor
open Go.ChangeShapes Go.WideShapes Go.ChangeAt Go.RowKit Go.Dt
set_option linter.unusedVariables false
set_option linter.unusedSimpArgs false
theorem u8_digit {d : Nat} (h : d < 10) : (UInt8.ofNat (48 + d)).toNat = 48 + d := by
  simp [UInt8.toNat_ofNat]; omega
theorem dec_ind {P : Nat → Prop} (h1 : ∀ u, u < 10 → P u) (h2 : ∀ u, 10 ≤ u → P (u / 10) → P u) : ∀ u, P u := by
  intro u
  induction u using Nat.strongRecOn with
  | ind u ih =>
    rcases Nat.lt_or_ge u 10 with h | h
    · exact h1 u h
    · exact h2 u h (ih (u / 10) (by omega))
theorem decDigits_small {u : Nat} (h : u < 10) : Lib.decDigits u = [UInt8.ofNat (48 + u)] := by rw [Lib.decDigits, dif_pos h]
theorem decDigits_big {u : Nat} (h : 10 ≤ u) : Lib.decDigits u = Lib.decDigits (u / 10) ++ [UInt8.ofNat (48 + u % 10)] := by
  conv => lhs; rw [Lib.decDigits, dif_neg (by omega)]
theorem pm_step (M acc d : Nat) (r : List UInt8) (hd : d < 10) (h1 : acc < 1844674407370955162) (h2 : acc * 10 + d ≤ M) : Lib.parseUintM M acc (UInt8.ofNat (48 + d) :: r) = Lib.parseUintM M (acc * 10 + d) r := by
  conv => lhs; unfold Lib.parseUintM
  rw [u8_digit hd, if_pos (by omega), if_neg (by omega), if_neg (by omega)]
  congr 1; omega
theorem pm_dec (M : Nat) (hM : 1000000000000000000 ≤ M) : ∀ u, u ≤ 1000000000000000000 → ∀ r, Lib.parseUintM M 0 (Lib.decDigits u ++ r) = Lib.parseUintM M u r := by
  refine dec_ind (fun u h hu r => ?_) (fun u h ih hu r => ?_)
  · rw [decDigits_small h, List.singleton_append, pm_step M 0 u r h (by omega) (by omega)]
    congr 1; omega
  · rw [decDigits_big h, List.append_assoc, List.singleton_append, ih (by omega), pm_step M (u / 10) (u % 10) r (by omega) (by omega) (by omega)]
    congr 1; omega
theorem decDigits_ne (u : Nat) : Lib.decDigits u ≠ [] := by
  rcases Nat.lt_or_ge u 10 with h | h
  · rw [decDigits_small h]; simp
  · rw [decDigits_big h]; simp
theorem decDigits_head : ∀ u, ∀ c r, Lib.decDigits u = c :: r → 48 ≤ c.toNat ∧ c.toNat ≤ 57 := by
  refine dec_ind (fun u h c r e => ?_) (fun u h ih c r e => ?_)
  · rw [decDigits_small h] at e
    injection e with e _
    rw [← e, u8_digit h]; omega
  · rw [decDigits_big h] at e
    cases hd : Lib.decDigits (u / 10) with
    | nil => exact absurd hd (decDigits_ne _)
    | cons x y =>
      rw [hd, List.cons_append] at e
      injection e with e _
      subst e
      exact ih x y hd
theorem parse_dec {u : Nat} (h : u ≤ 1000000000000000000) : Lib.parseUintB 64 (Lib.decDigits u) = .ok u := by
  unfold Lib.parseUintB
  rw [if_neg (decDigits_ne u)]
  have := pm_dec (2 ^ 64 - 1) (by decide) u h []
  rw [List.append_nil] at this
  rw [this]; rfl
theorem parse_itoa {n : Int} (h0 : -1000000000 ≤ n) (h1 : n ≤ 1000000000) : Lib.parseIntB 64 (Lib.itoa n) = .ok n := by
  by_cases hn : n < 0
  · obtain ⟨m, rfl⟩ : ∃ m : Nat, n = -(m : Int) := ⟨n.natAbs, by omega⟩
    rw [Lib.itoa_neg m (by omega)]
    unfold Lib.parseIntB
    have e45 : (45 : UInt8).toNat = 45 := rfl
    simp only [e45, or_true, if_true]
    rw [parse_dec (by omega)]
    simp only [not_true, false_and, if_false, true_and]
    rw [if_neg (by simp; omega)]
  · obtain ⟨m, rfl⟩ : ∃ m : Nat, n = (m : Int) := ⟨n.toNat, by omega⟩
    rw [Lib.itoa_nonneg]
    have hd := parse_dec (u := m) (by omega)
    cases he : Lib.decDigits m with
    | nil => exact absurd he (decDigits_ne _)
    | cons c r =>
      have hc := decDigits_head m c r he
      rw [he] at hd
      unfold Lib.parseIntB
      simp only []
      rw [if_neg (by omega), hd]
      have h45 : ¬ c.toNat = 45 := by omega
      simp only [h45, not_false_eq_true, true_and, if_false, false_and]
      rw [if_neg (by simp; omega)]
/-- What the reference makes of a numeral's bytes. -/
def vstep (n : Nat) (b : UInt8) : Nat := if 48 ≤ b.toNat ∧ b.toNat ≤ 57 then 10 * n + (b.toNat - 48) else n
def valL (l : List UInt8) : Nat := l.foldl vstep 0
theorem valL_snoc (l : List UInt8) (b : UInt8) : valL (l ++ [b]) = vstep (valL l) b := by unfold valL; rw [List.foldl_append]; rfl
theorem valL_bd (l : List UInt8) : valL l < 10 ^ l.length := by
  have key : ∀ (l : List UInt8) (n k : Nat), n < 10 ^ k → l.foldl vstep n < 10 ^ (k + l.length) := by
    intro l
    induction l with
    | nil => intro n k h; simpa using h
    | cons b r ih =>
      intro n k h
      have hs : vstep n b < 10 ^ (k + 1) := by
        unfold vstep
        rw [Nat.pow_succ]
        split <;> omega
      have := ih (vstep n b) (k + 1) hs
      rw [List.foldl_cons, List.length_cons, show k + (r.length + 1) = k + 1 + r.length by omega]
      exact this
  have := key l 0 0 (by decide)
  simpa [valL] using this
theorem valL_dec (p : List UInt8) (hp : valL p = 0) : ∀ u, valL (p ++ Lib.decDigits u) = u := by
  refine dec_ind (fun u h => ?_) (fun u h ih => ?_)
  · rw [decDigits_small h, valL_snoc, hp]
    unfold vstep
    rw [u8_digit h, if_pos (by omega)]; omega
  · rw [decDigits_big h, ← List.append_assoc, valL_snoc, ih]
    unfold vstep
    rw [u8_digit (by omega), if_pos (by omega)]; omega
def valN (l : List UInt8) : Int := if l.head? = some 45 then -(valL l : Int) else (valL l : Int)
theorem valN_itoa (n : Int) : valN (Lib.itoa n) = n := by
  by_cases hn : n < 0
  · obtain ⟨m, rfl⟩ : ∃ m : Nat, n = -(m : Int) := ⟨n.natAbs, by omega⟩
    rw [Lib.itoa_neg m (by omega)]
    unfold valN
    rw [if_pos (by rfl : (45 :: Lib.decDigits m).head? = some 45)]
    have := valL_dec [45] (by decide) m
    rw [List.singleton_append] at this
    rw [this]
  · obtain ⟨m, rfl⟩ : ∃ m : Nat, n = (m : Int) := ⟨n.toNat, by omega⟩
    rw [Lib.itoa_nonneg]
    unfold valN
    have hv := valL_dec [] rfl m
    rw [List.nil_append] at hv
    rw [hv, if_neg]
    intro h
    cases he : Lib.decDigits m with
    | nil => rw [he] at h; simp at h
    | cons c r =>
      have hc := decDigits_head m c r he
      rw [he] at h
      simp at h
      subst h
      have : (45 : UInt8).toNat = 45 := rfl
      omega
theorem decDigits_le : ∀ (k : Nat), ∀ u, u < 10 ^ (k + 1) → (Lib.decDigits u).length ≤ k + 1 := by
  intro k
  induction k with
  | zero => intro u h; rw [decDigits_small (by simpa using h)]; simp
  | succ k ih =>
    intro u h
    rcases Nat.lt_or_ge u 10 with h1 | h1
    · rw [decDigits_small h1]; simp
    · have := ih (u / 10) (by rw [Nat.pow_succ] at h; omega)
      rw [decDigits_big h1, List.length_append, List.length_singleton]; omega
theorem itoa_len {n : Int} (h0 : -1000000000 ≤ n) (h1 : n ≤ 1000000000) : 1 ≤ (Lib.itoa n).length ∧ (Lib.itoa n).length ≤ 11 := by
  by_cases hn : n < 0
  · obtain ⟨m, rfl⟩ : ∃ m : Nat, n = -(m : Int) := ⟨n.natAbs, by omega⟩
    have := decDigits_le 9 m (by omega)
    rw [Lib.itoa_neg m (by omega), List.length_cons]; omega
  · obtain ⟨m, rfl⟩ : ∃ m : Nat, n = (m : Int) := ⟨n.toNat, by omega⟩
    have := decDigits_le 9 m (by omega)
    have h2 := List.length_pos_iff.2 (decDigits_ne m)
    rw [Lib.itoa_nonneg]; omega
/-- A small numeral, read: the number, and whether there is one. -/
def numL (l : List UInt8) : Int × Bool := if inB (valN l) (-1000000000) 1000000000 = true ∧ Lib.itoa (valN l) = l then (valN l, true) else (0, false)
theorem numL_yes {l : List UInt8} {n : Int} (h0 : -1000000000 ≤ n) (h1 : n ≤ 1000000000) (h : Lib.itoa n = l) : numL l = (n, true) := by
  subst h
  unfold numL
  rw [valN_itoa, if_pos ⟨by unfold inB; simp; omega, rfl⟩]
theorem numL_no {l : List UInt8} (h : ∀ n : Int, -1000000000 ≤ n → n ≤ 1000000000 → Lib.itoa n ≠ l) : numL l = (0, false) := by
  unfold numL
  rw [if_neg]
  rintro ⟨h1, h2⟩
  unfold inB at h1
  simp at h1
  exact h _ h1.1 h1.2 h2
theorem numL_bad {l : List UInt8} (h : ∀ v, Lib.parseIntB 64 l ≠ .ok v) : numL l = (0, false) := numL_no fun n h0 h1 e => h n (e ▸ parse_itoa h0 h1)
theorem numL_ok {l : List UInt8} {v : Int} (h : Lib.parseIntB 64 l = .ok v) : numL l = if inB v (-1000000000) 1000000000 = true ∧ Lib.itoa v = l then (v, true) else (0, false) := by
  split
  · rename_i hh
    unfold inB at hh
    simp at hh
    exact numL_yes hh.1.1 hh.1.2 hh.2
  · rename_i hh
    refine numL_no fun n h0 h1 e => hh ?_
    have := parse_itoa h0 h1
    rw [e, h] at this
    injection this with this
    subst this
    exact ⟨by unfold inB; simp; omega, e⟩
theorem numL_long {l : List UInt8} (h : l.length < 1 ∨ 11 < l.length) : numL l = (0, false) := numL_no fun n h0 h1 e => by
  have := itoa_len h0 h1
  rw [e] at this
  omega
end Go.Proofs.YtahbgkabdongnaaDoor

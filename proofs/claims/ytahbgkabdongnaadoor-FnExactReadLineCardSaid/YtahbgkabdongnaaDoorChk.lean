/- The check number of a text. -/
import Derived.Test.YtahbgkabdongnaaDoorDec
import Derived.Test.YtahbgkabdongnaaDoorSmall
namespace Go.Proofs.YtahbgkabdongnaaDoor
open Go.ChangeShapes Go.WideShapes Go.ChangeAt Go.RowKit Go.Dt
set_option linter.unusedVariables false
set_option linter.unusedSimpArgs false
def chk (n : Int) (b : UInt8) : Int := (433 * n + (b.toNat : Int) + 37) % 65129
def check (n : Int) (l : List UInt8) : Int := l.foldl chk n
theorem check_bd (l : List UInt8) : ∀ n : Int, 0 ≤ n → n ≤ 65128 → 0 ≤ check n l ∧ check n l ≤ 65128 := by
  induction l with
  | nil => exact fun n h0 h1 => ⟨h0, h1⟩
  | cons b l ih =>
    intro n h0 h1
    exact ih (chk n b) (by unfold chk; omega) (by unfold chk; omega)
theorem check_take (n : Int) (s : ByteArray) (k : Nat) (h : k < s.size) : check n (s.data.toList.take (k + 1)) = (433 * check n (s.data.toList.take k) + (s[k].toNat : Int) + 37) % 65129 := by
  have e : s.data.toList.take (k + 1) = s.data.toList.take k ++ [s[k]] := by
    rw [List.take_succ_eq_append_getElem (by simpa using h)]; rfl
  rw [e]
  unfold check
  rw [List.foldl_append]
  rfl
set_option maxHeartbeats 400000 in
theorem spec_l01Check (n : Int) (s : ByteArray) (W : World) (h0 : 0 ≤ n) (h1 : n ≤ 65128) (hs : s.size ≤ maxLen) :
    Calls Tryd.prog 43 #[.int .i64 n, .string s] W fun e w' => e = .returned (.int .i64 (check n s.data.toList)) ∧ W = w' := by
  unfold maxLen at hs
  go_enter Tryd.func43, Tryd.ntmps43
  go_wp2
  go_loop [0, 5] (fun c i => ∃ k : Nat, k ≤ s.size ∧ i = .int .i64 k ∧ c = .int .i64 (check n (s.data.toList.take k))) (fun _ i => s.size - (intOf i).toNat)
  case atStart => exact ⟨0, Nat.zero_le _, rfl, rfl⟩
  case round =>
    obtain ⟨k, hk, rfl, rfl⟩ := hrel
    have hd := check_bd (s.data.toList.take k) n h0 h1
    by_cases hlt : k < s.size
    · have HT := Lib.hid (check_take n s k hlt)
      have hb : s[k].toNat < 256 := s[k].toNat_lt
      generalize check n (s.data.toList.take k) = c at *
      go_wp2
      go_round
      case rel => exact ⟨k + 1, by omega, by go_num, by rw [HT.out]⟩
      case measure => simp [intOf]; omega
    · have HE := Lib.hid (show s.data.toList.take k = s.data.toList from List.take_of_length_le (by simp; omega))
      go_wp2
      go_ret
      exact ⟨by rw [HE.out]; rfl, rfl⟩
set_option maxHeartbeats 400000 in
theorem impl_CheckOf (n : Int) (s : ByteArray) (W : World) (h0 : 0 ≤ n) (h1 : n ≤ 65128) (hs : s.size ≤ maxLen) :
    Calls Tryd.prog 38 #[.int .i64 n, .string s] W fun e w' => e = .returned (.tuple #[.int .i64 (check n s.data.toList), .bool true]) ∧ W = w' := by
  unfold maxLen at hs
  have hI := fun w => impl_in n 0 65128 w
  rw [show inB n 0 65128 = true from by unfold inB; simp; omega] at hI
  go_enter Tryd.func38, Tryd.ntmps38
  go_wp2_with (go_at_call 65; (with_reducible refine (hI _).mono ?_); rintro e w' ⟨rfl, rfl⟩)
  go_loop [0, 12] (fun c i => ∃ k : Nat, k ≤ s.size ∧ i = .int .i64 k ∧ c = .int .i64 (check n (s.data.toList.take k))) (fun _ i => s.size - (intOf i).toNat)
  case atStart => exact ⟨0, Nat.zero_le _, rfl, rfl⟩
  case round =>
    obtain ⟨k, hk, rfl, rfl⟩ := hrel
    have hd := check_bd (s.data.toList.take k) n h0 h1
    by_cases hlt : k < s.size
    · have HT := Lib.hid (check_take n s k hlt)
      have hb : s[k].toNat < 256 := s[k].toNat_lt
      generalize check n (s.data.toList.take k) = c at *
      go_wp2
      go_round
      case rel => exact ⟨k + 1, by omega, by go_num, by rw [HT.out]⟩
      case measure => simp [intOf]; omega
    · have HE := Lib.hid (show s.data.toList.take k = s.data.toList from List.take_of_length_le (by simp; omega))
      go_wp2
      go_ret2
      exact ⟨by rw [HE.out]; rfl, rfl⟩
end Go.Proofs.YtahbgkabdongnaaDoor

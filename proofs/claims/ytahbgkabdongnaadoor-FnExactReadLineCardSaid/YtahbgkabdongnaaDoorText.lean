/- The walk of markText. -/
import Derived.Test.YtahbgkabdongnaaDoorInts
import Derived.Laws.BytesArg
import Derived.Deep.RegionHeld3
namespace Go.Proofs.YtahbgkabdongnaaDoor
open Go.ChangeShapes Go.WideShapes Go.ChangeAt Go.RowKit Go.Dt
set_option linter.unusedVariables false
set_option linter.unusedSimpArgs false
def mdig : Nat → Int → ByteArray → ByteArray
  | 0, _, s => s
  | n + 1, r, s => if 0 < r then mdig n (r / 10) (strOfNums [48 + r % 10] ++ s) else s
def mtext (k : Int) : ByteArray := if k ≤ 0 then ⟨#[109, 48]⟩ else ⟨#[109]⟩ ++ mdig 64 k ByteArray.empty
theorem mdig_pos {n : Nat} {r : Int} {s : ByteArray} (h : 0 < r) (hn : r < 2 ^ n) : ∃ m, n = m + 1 ∧ mdig n r s = mdig m (r / 10) (strOfNums [48 + r % 10] ++ s) ∧ r / 10 < 2 ^ m := by
  cases n with
  | zero => simp at hn; omega
  | succ m => exact ⟨m, rfl, by simp [mdig, h], by rw [Int.pow_succ] at hn; omega⟩
theorem mdig_zero {n : Nat} {r : Int} {s : ByteArray} (h : ¬ 0 < r) : mdig n r s = s := by cases n <;> simp [mdig, h]
set_option maxRecDepth 100000 in
theorem laws_markText (k : Int) (W : World) (h1 : k ≤ 4611686018427387904) :
    Calls Tryd.prog 47 #[.int .i64 k] W fun e w' => e = .returned (.string (mtext k)) ∧ Below W.heap.size W w' := by
  by_cases h0 : 0 < k
  · have HK := Lib.hid (show mtext k = ⟨#[109]⟩ ++ mdig 64 k ByteArray.empty from by unfold mtext; rw [if_neg (by omega)])
    have kc := fun (w : World) (c : Int) => run_convert_bytes_arg (P := Tryd.prog) (w.alloc (.cells #[.int .u8 c] 5)) 62 5 Tryd.underlying62 Tryd.underlying5 w.heap.size 0 1 1 [c] rfl (fun i hi => by
      obtain rfl : i = 0 := by omega
      have : (w.alloc (.cells #[.int .u8 c] 5)).heap[w.heap.size]? = some (.cells #[.int .u8 c] 5 (0, 0)) := heap_alloc_new w _
      rw [cell_of_row _ _ _ _ _ _ this]; rfl) 9 Tryd.underlying9
    go_enter Tryd.func47, Tryd.ntmps47
    go_wp2
    go_loopw [0, 3] (fun q o wr => ∃ (r : Int) (s : ByteArray) (n : Nat), 0 ≤ r ∧ r ≤ k ∧ q = .int .i64 r ∧ o = .string s ∧ Hid (r < 2 ^ n) ∧ Hid (mdig n r s = mdig 64 k ByteArray.empty) ∧ s.size + n ≤ 64 ∧ Below W.heap.size W wr) (fun q _ _ => (intOf q).toNat)
    case atStart => exact ⟨k, ByteArray.empty, 64, by omega, by omega, rfl, rfl, Lib.hid (by omega), Lib.hid rfl, by simp, Below.refl _ _⟩
    case round =>
      obtain ⟨r, s, n, hr0, hr1, rfl, rfl, HN, HM, hsn, hb⟩ := hrel
      by_cases hlt : 0 < r
      · obtain ⟨m, hm, hm1, hm2⟩ := mdig_pos (s := s) hlt HN.out
        have HM1 := Lib.hid hm1
        have HM2 := Lib.hid hm2
        have HMM := Lib.hid hm
        clear hm hm1 hm2
        have hs1 : (strOfNums [48 + r % 10]).size = 1 := rfl
        have hs0 : s.size ≤ 64 := by omega
        have h10 : 0 ≤ r % 10 := by omega
        have h11 : r % 10 < 10 := by omega
        go_wp2
        go_roundw
        case rel => exact ⟨r / 10, _, m, by omega, by omega, rfl, rfl, HM2, Lib.hid (by rw [← HM.out]; exact HM1.out.symm), (by have := HMM.out; rw [ByteArray.size_append, hs1]; omega), (hb.alloc hb.size _)⟩
        case measure => simp [intOf]; omega
      · have hs0 : s.size ≤ 64 := by omega
        have HZ := Lib.hid (mdig_zero (n := n) (s := s) hlt)
        obtain rfl : r = 0 := by omega
        go_wp2
        go_ret
        exact ⟨by rw [HK.out, ← HM.out, HZ.out]; rfl, hb⟩
  · have HK := Lib.hid (show mtext k = ⟨#[109, 48]⟩ from by unfold mtext; rw [if_pos (by omega)])
    go_enter Tryd.func47, Tryd.ntmps47
    go_wp2
    go_ret
    exact ⟨by rw [HK.out]; rfl, Below.refl _ _⟩
theorem below_drew1 (w : World) : Below w.heap.size w w.drew := ⟨rfl, rfl, rfl, Nat.le_refl _, fun _ _ => rfl⟩
theorem below_call {w0 w w1 : World} (h : Below w0.heap.size w0 w) (h1 : Below w.heap.size w w1) : Below w0.heap.size w0 w1 := h.trans (h1.mono h.size)
end Go.Proofs.YtahbgkabdongnaaDoor

/- The score of a room and a shard. -/
import Derived.Test.YtmofbfeclecdoaaDoorChk
import Derived.OpenShut
namespace Go.Proofs.YtmofbfeclecdoaaDoor
open Go.ChangeShapes Go.WideShapes Go.ChangeAt Go.RowKit Go.Dt
set_option linter.unusedVariables false
set_option linter.unusedSimpArgs false
def scoreText (r s : Int) : ByteArray := (dec r ++ ⟨#[58]⟩) ++ dec s
def scoreOf (r s : Int) : Int := check 0 (scoreText r s).data.toList
theorem scoreOf_bd (r s : Int) : 0 ≤ scoreOf r s ∧ scoreOf r s ≤ 65128 := check_bd _ 0 (by decide) (by decide)
/-- What an int64 holds. -/
def I64 (n : Int) : Prop := -9223372036854775808 ≤ n ∧ n ≤ 9223372036854775807
theorem i64_wf {n : Int} (h : (Lit.int .i64 n).wf = true) : I64 n := bounds_i64 h
theorem scoreText_size (r s : Int) (hr : I64 r) (hs : I64 s) : (scoreText r s).size ≤ 43 := by
  have a := dec_size r hr.1 hr.2
  have b := dec_size s hs.1 hs.2
  unfold scoreText
  rw [ByteArray.size_append, ByteArray.size_append]
  have c : (⟨#[58]⟩ : ByteArray).size = 1 := rfl
  omega
set_option maxRecDepth 100000 in
theorem impl_score (r s : Int) (hr : I64 r) (hs : I64 s) (W : World) (ht : Pow10 W) :
    Calls Tryd.prog 46 #[.int .i64 r, .int .i64 s] W fun e w' => e = .returned (.int .i64 (scoreOf r s)) ∧ Below W.heap.size W w' := by
  have HD := fun (n : Int) (hn : I64 n) (w : World) (hb : Below W.heap.size W w) => impl_Decimal n hn.1 hn.2 w (ht.on hb)
  have HC := fun (w : World) => impl_CheckOf 0 (scoreText r s) w (by decide) (by decide) (by have := scoreText_size r s hr hs; simp only [maxLen]; omega)
  have HE := Lib.hid (show scoreOf r s = check 0 (scoreText r s).data.toList from rfl)
  have a := dec_size r hr.1 hr.2
  have b := dec_size s hs.1 hs.2
  have HT := Lib.hid (show scoreText r s = (dec r ++ ⟨#[58]⟩) ++ dec s from rfl)
  clear ht
  generalize scoreOf r s = k at *
  rw [HT.out] at HC HE
  rw [← HE.out] at HC
  clear HE HT
  go_enter Tryd.func46, Tryd.ntmps46
  go_wp2_with fail
  refine (HD r hr _ (Below.refl _ _)).mono ?_
  rintro e w1 ⟨rfl, hb1⟩
  go_wp2_with fail
  refine (HD s hs _ hb1).mono ?_
  rintro e w2 ⟨rfl, hb2⟩
  go_wp2_with fail
  refine (HC _).mono ?_
  rintro e w3 ⟨rfl, rfl⟩
  go_wp2
  go_ret
  exact ⟨rfl, hb1.trans (hb2.mono hb1.size)⟩
set_option maxRecDepth 100000 in
theorem spec_l10Score (r s : Int) (hr : I64 r) (hs : I64 s) (W : World) :
    Calls Tryd.prog 43 #[.int .i64 r, .int .i64 s] W fun e w' => e = .returned (.int .i64 (scoreOf r s)) ∧ Below W.heap.size W w' := by
  have HD := fun (n : Int) (hn : I64 n) (w : World) => spec_l01Dec n hn.1 hn.2 w
  have HC := fun (w : World) => spec_l01Check 0 (scoreText r s) w (by decide) (by decide) (by have := scoreText_size r s hr hs; simp only [maxLen]; omega)
  have HE := Lib.hid (show scoreOf r s = check 0 (scoreText r s).data.toList from rfl)
  have a := dec_size r hr.1 hr.2
  have b := dec_size s hs.1 hs.2
  have HT := Lib.hid (show scoreText r s = (dec r ++ ⟨#[58]⟩) ++ dec s from rfl)
  generalize scoreOf r s = k at *
  rw [HT.out] at HC HE
  rw [← HE.out] at HC
  clear HE HT
  go_enter Tryd.func43, Tryd.ntmps43
  go_wp2_with fail
  refine (HD r hr _).mono ?_
  rintro e w1 ⟨rfl, hb1⟩
  go_wp2_with fail
  refine (HD s hs _).mono ?_
  rintro e w2 ⟨rfl, hb2⟩
  go_wp2_with fail
  refine (HC _).mono ?_
  rintro e w3 ⟨rfl, rfl⟩
  go_wp2
  go_ret
  exact ⟨rfl, hb1.trans (hb2.mono hb1.size)⟩
theorem impl_isRoom (n : Int) (w : World) : Calls Tryd.prog 44 #[.int .i64 n] w fun e w' => e = .returned (.bool (inB n 1 1000)) ∧ w = w' := by
  go_enter Tryd.func44, Tryd.ntmps44
  go_wp2_with (go_at_call 69; (with_reducible refine (impl_in _ _ _ _).mono ?_); rintro e w' ⟨rfl, rfl⟩)
  go_ret
  exact ⟨rfl, rfl⟩
theorem impl_isShard (n : Int) (w : World) : Calls Tryd.prog 45 #[.int .i64 n] w fun e w' => e = .returned (.bool (inB n 1 1000)) ∧ w = w' := by
  go_enter Tryd.func45, Tryd.ntmps45
  go_wp2_with (go_at_call 69; (with_reducible refine (impl_in _ _ _ _).mono ?_); rintro e w' ⟨rfl, rfl⟩)
  go_ret
  exact ⟨rfl, rfl⟩
def ScoreOf_f (r s : Int) : Int × Bool := if inB r 1 1000 = true ∧ inB s 1 1000 = true then (scoreOf r s, true) else (0, false)
theorem inB_bd {n lo hi : Int} (h : inB n lo hi = true) : lo ≤ n ∧ n ≤ hi := by simpa [inB] using h
theorem inB_i64 {n : Int} (h : inB n 1 1000 = true) : I64 n := by have := inB_bd h; unfold I64; omega
set_option maxRecDepth 100000 in
theorem impl_ScoreOf (r s : Int) (W : World) (ht : Pow10 W) :
    Calls Tryd.prog 12 #[.int .i64 r, .int .i64 s] W fun e w' => e = .returned (.tuple #[.int .i64 (ScoreOf_f r s).1, .bool (ScoreOf_f r s).2]) ∧ Below W.heap.size W w' := by
  have HR := fun (w : World) => impl_isRoom r w
  have HS := fun (w : World) => impl_isShard s w
  cases h1 : inB r 1 1000
  · have HF := Lib.hid (show ScoreOf_f r s = (0, false) from if_neg (by simp [h1]))
    rw [h1] at HR
    clear h1 ht
    go_enter Tryd.func12, Tryd.ntmps12
    go_wp2_with (first | (go_at_call 44; (with_reducible refine (HR _).mono ?_); rintro e w' ⟨rfl, rfl⟩) | (go_at_call 45; (with_reducible refine (HS _).mono ?_); rintro e w' ⟨rfl, rfl⟩))
    go_ret2
    exact ⟨by rw [HF.out]; rfl, Below.refl _ _⟩
  cases h2 : inB s 1 1000
  · have HF := Lib.hid (show ScoreOf_f r s = (0, false) from if_neg (by simp [h2]))
    rw [h1] at HR
    rw [h2] at HS
    clear h1 h2 ht
    go_enter Tryd.func12, Tryd.ntmps12
    go_wp2_with (first | (go_at_call 44; (with_reducible refine (HR _).mono ?_); rintro e w' ⟨rfl, rfl⟩) | (go_at_call 45; (with_reducible refine (HS _).mono ?_); rintro e w' ⟨rfl, rfl⟩))
    go_ret2
    exact ⟨by rw [HF.out]; rfl, Below.refl _ _⟩
  have HF := Lib.hid (show ScoreOf_f r s = (scoreOf r s, true) from if_pos ⟨h1, h2⟩)
  have HC := impl_score r s (inB_i64 h1) (inB_i64 h2) W ht
  rw [h1] at HR
  rw [h2] at HS
  clear h1 h2 ht
  go_enter Tryd.func12, Tryd.ntmps12
  go_wp2_with (first | (go_at_call 44; (with_reducible refine (HR _).mono ?_); rintro e w' ⟨rfl, rfl⟩) | (go_at_call 45; (with_reducible refine (HS _).mono ?_); rintro e w' ⟨rfl, rfl⟩))
  refine HC.mono ?_
  rintro e w1 ⟨rfl, hb1⟩
  go_wp2
  go_ret2
  exact ⟨by rw [HF.out]; rfl, hb1⟩
set_option maxRecDepth 100000 in
theorem spec_ScoreOf (r s : Int) (W : World) :
    Calls Tryd.prog 11 #[.int .i64 r, .int .i64 s] W fun e w' => e = .returned (.tuple #[.int .i64 (ScoreOf_f r s).1, .bool (ScoreOf_f r s).2]) ∧ Below W.heap.size W w' := by
  have HR := fun (w : World) => spec_l00In r 1 1000 w
  have HS := fun (w : World) => spec_l00In s 1 1000 w
  cases h1 : inB r 1 1000
  · have HF := Lib.hid (show ScoreOf_f r s = (0, false) from if_neg (by simp [h1]))
    rw [h1] at HR
    clear h1
    go_enter Tryd.func11, Tryd.ntmps11
    go_wp2_with (first | (go_at_call 42; (with_reducible refine (HR _).mono ?_); rintro e w' ⟨rfl, rfl⟩) | (go_at_call 42; (with_reducible refine (HS _).mono ?_); rintro e w' ⟨rfl, rfl⟩))
    go_ret2
    exact ⟨by rw [HF.out]; rfl, Below.refl _ _⟩
  cases h2 : inB s 1 1000
  · have HF := Lib.hid (show ScoreOf_f r s = (0, false) from if_neg (by simp [h2]))
    rw [h1] at HR
    rw [h2] at HS
    clear h1 h2
    go_enter Tryd.func11, Tryd.ntmps11
    go_wp2_with (first | (go_at_call 42; (with_reducible refine (HR _).mono ?_); rintro e w' ⟨rfl, rfl⟩) | (go_at_call 42; (with_reducible refine (HS _).mono ?_); rintro e w' ⟨rfl, rfl⟩))
    go_ret2
    exact ⟨by rw [HF.out]; rfl, Below.refl _ _⟩
  have HF := Lib.hid (show ScoreOf_f r s = (scoreOf r s, true) from if_pos ⟨h1, h2⟩)
  have HC := spec_l10Score r s (inB_i64 h1) (inB_i64 h2) W
  rw [h1] at HR
  rw [h2] at HS
  clear h1 h2
  go_enter Tryd.func11, Tryd.ntmps11
  go_wp2_with (first | (go_at_call 42; (with_reducible refine (HR _).mono ?_); rintro e w' ⟨rfl, rfl⟩) | (go_at_call 42; (with_reducible refine (HS _).mono ?_); rintro e w' ⟨rfl, rfl⟩))
  refine HC.mono ?_
  rintro e w1 ⟨rfl, hb1⟩
  go_wp2
  go_ret2
  exact ⟨by rw [HF.out]; rfl, hb1⟩
theorem ScoreOf_lawI (r s : Int) (W : World) (ht : Pow10 W) : Calls Tryd.prog 12 #[.int .i64 r, .int .i64 s] W fun e w' => e = .returned (.tuple #[.int .i64 (ScoreOf_f r s).1, .bool (ScoreOf_f r s).2]) ∧ Below W.heap.size W w' := impl_ScoreOf r s W ht
theorem ScoreOf_lawS (r s : Int) (W : World) : Calls Tryd.prog 11 #[.int .i64 r, .int .i64 s] W fun e w' => e = .returned (.tuple #[.int .i64 (ScoreOf_f r s).1, .bool (ScoreOf_f r s).2]) ∧ Below W.heap.size W w' := spec_ScoreOf r s W
end Go.Proofs.YtmofbfeclecdoaaDoor

/- Messages: which are right. -/
import Derived.Test.YtahbgkabdongnaaDoorList
import Derived.Test.YtahbgkabdongnaaDoorQ
import Derived.Test.YtahbgkabdongnaaDoorYMessage
namespace Go.Proofs.YtahbgkabdongnaaDoor
open Go.ChangeShapes Go.WideShapes Go.ChangeAt Go.RowKit Go.Dt
set_option linter.unusedVariables false
set_option linter.unusedSimpArgs false
def Message.ok (m : Message) : Bool :=
  inB m.xNumber 1 1000000000 && (isMem m.xSender && (inB m.xAt 0 1000000 && (isText m.xText && (inB m.xEdits 0 1000000000 && (inB m.xReply 0 (m.xNumber - 1) && (decide ((m.xLikes.length : Int) ≤ 20) && (rises isMem m.xLikes && (!hasIt m.xLikes m.xSender &&
  (!m.xGone || (decide (m.xText.toList = []) && ((m.xLikes.length : Int) == 0)))))))))))
theorem inB_yes {n lo hi : Int} (h : inB n lo hi = true) : lo ≤ n ∧ n ≤ hi := by unfold inB at h; simpa using h
set_option maxHeartbeats 3200000 in
set_option maxRecDepth 100000 in
theorem impl_ValidMessage (x : Message) (us : List Value) (W : World) (hr : RoL W (Lo W.heap.size) (Message.d true x) us) (hwf : x.xText.size ≤ maxLen) :
    Calls Tryd.prog 52 #[.agg us.toArray] W fun e w' => e = .returned (.bool x.ok) ∧ Below W.heap.size W w' := by
  obtain ⟨A7, c7, rfl, r7, l7, m7⟩ := Message.cells hr
  obtain ⟨num, snd, at', txt, ed, gone, rep, likes⟩ := x
  simp only at *
  have HO := Lib.hid (show Message.ok ⟨num, snd, at', txt, ed, gone, rep, likes⟩ = (inB num 1 1000000000 && (isMem snd && (inB at' 0 1000000 && (isText txt && (inB ed 0 1000000000 && (inB rep 0 (num - 1) && (decide ((likes.length : Int) ≤ 20) && (rises isMem likes && (!hasIt likes snd && (!gone || (decide (txt.toList = []) && ((likes.length : Int) == 0))))))))))))  from rfl)
  generalize Message.ok ⟨num, snd, at', txt, ed, gone, rep, likes⟩ = ok at *
  have HM := fun w (hb : Below W.heap.size W w) => impl_IsMembers likes A7 c7 w (ro_to r7 hb) m7 l7
  have HC := fun w (hb : Below W.heap.size W w) => slices_Contains snd likes A7 c7 w (ro_to r7 hb) m7 l7
  have H1 := fun w => impl_in num 1 1000000000 w
  have H2 := fun w => impl_isMember snd w
  have H3 := fun w => impl_isTick at' w
  have H4 := fun w => impl_IsText txt w hwf
  have H5 := fun w => impl_in ed 0 1000000000 w
  have H6 := fun w => impl_in rep 0 (num - 1) w
  change ∀ w, Calls _ _ _ _ (fun e w' => e = .returned (.bool (isMem snd)) ∧ _) at H2
  clear hr r7 l7 m7 hwf
  have hlt : likes.length ≤ 9223372036854775807 ∨ True := .inr trivial
  generalize hb7 : rises isMem likes = b7 at *
  generalize hb8 : hasIt likes snd = b8 at *
  generalize likes.length = n at *
  cases h1 : inB num 1 1000000000
  all_goals (simp only [h1] at H1 HO; try (have hn := inB_yes h1); clear h1)
  all_goals
    generalize isMem snd = b2 at *
    generalize inB at' 0 1000000 = b3 at *
    generalize isText txt = b4 at *
    generalize inB ed 0 1000000000 = b5 at *
    generalize inB rep 0 (num - 1) = b6 at *
    go_enter Tryd.func52, Tryd.ntmps52
    go_wp2_with (first | (go_at_call 65; (with_reducible refine (H1 _).mono ?_); rintro e w' ⟨rfl, rfl⟩) | (go_at_call 83; (with_reducible refine (H2 _).mono ?_); rintro e w' ⟨rfl, rfl⟩) | (go_at_call 84; (with_reducible refine (H3 _).mono ?_); rintro e w' ⟨rfl, rfl⟩) | (go_at_call 85; (with_reducible refine (H4 _).mono ?_); rintro e w' ⟨rfl, rfl⟩) | (go_at_call 65; (with_reducible refine (H5 _).mono ?_); rintro e w' ⟨rfl, rfl⟩) | (go_at_call 65; (with_reducible refine (H6 _).mono ?_); rintro e w' ⟨rfl, rfl⟩) | (go_at_call 86; (with_reducible refine (HM _ (by (repeat (first | with_reducible assumption | with_reducible exact Below.refl _ _ | with_reducible refine Below.setCell ?_ ?_ _ | with_reducible refine Below.alloc ?_ ?_ _ | with_reducible refine Below.drew ?_ | with_reducible refine below_drewN ?_ _ | omega | (simp; done) | (simp; omega))); all_goals first | omega | (simp; done) | (simp; omega))).mono ?_); rintro e w' ⟨rfl, rfl⟩) | (go_at_call 87; (with_reducible refine (HC _ (by (repeat (first | with_reducible assumption | with_reducible exact Below.refl _ _ | with_reducible refine Below.setCell ?_ ?_ _ | with_reducible refine Below.alloc ?_ ?_ _ | with_reducible refine Below.drew ?_ | with_reducible refine below_drewN ?_ _ | omega | (simp; done) | (simp; omega))); all_goals first | omega | (simp; done) | (simp; omega))).mono ?_); rintro e w' ⟨rfl, rfl⟩))
  all_goals (go_ret; exact ⟨by rw [HO.out]; clear HO; cases b8 <;> first | (simp_all; done) | (simp_all; omega), (by (repeat (first | with_reducible assumption | with_reducible exact Below.refl _ _ | with_reducible refine Below.setCell ?_ ?_ _ | with_reducible refine Below.alloc ?_ ?_ _ | with_reducible refine Below.drew ?_ | with_reducible refine below_drewN ?_ _ | omega | (simp; done) | (simp; omega))); all_goals first | omega | (simp; done) | (simp; omega))⟩)
set_option maxHeartbeats 1600000 in
set_option maxRecDepth 100000 in
theorem spec_l03Message (x : Message) (us : List Value) (b off : Nat) (W : World) (hr : RoL W (Lo W.heap.size) (Message.d true x) us) (hwf : x.xText.size ≤ maxLen) (hcl : ∀ j u, us[j]? = some u → W.cell? ⟨b, off + j, none⟩ = some u) :
    Calls Tryd.prog 49 #[.pointer (some ⟨b, off, none⟩)] W fun e w' => e = .returned (.bool x.ok) ∧ Below W.heap.size W w' := by
  obtain ⟨A7, c7, rfl, r7, l7, m7⟩ := Message.cells hr
  obtain ⟨num, snd, at', txt, ed, gone, rep, likes⟩ := x
  simp only at *
  have HO := Lib.hid (show Message.ok ⟨num, snd, at', txt, ed, gone, rep, likes⟩ = (inB num 1 1000000000 && (isMem snd && (inB at' 0 1000000 && (isText txt && (inB ed 0 1000000000 && (inB rep 0 (num - 1) && (decide ((likes.length : Int) ≤ 20) && (rises isMem likes && (!hasIt likes snd && (!gone || (decide (txt.toList = []) && ((likes.length : Int) == 0))))))))))))  from rfl)
  generalize Message.ok ⟨num, snd, at', txt, ed, gone, rep, likes⟩ = ok at *
  have HM := fun (w : World) (hb : Below W.heap.size W w) => spec_l01Members likes A7 c7 w (ro_to r7 hb) m7 l7
  have HC := fun (w : World) (hb : Below W.heap.size W w) => spec_l00Has snd likes A7 c7 w (ro_to r7 hb) m7 l7
  have H1 := fun w => spec_l00In num 1 1000000000 w
  have H2 := fun w => spec_l01Member snd w
  have H3 := fun w => spec_l01Tick at' w
  have H4 := fun w => spec_l01IsText txt w hwf
  have H5 := fun w => spec_l00In ed 0 1000000000 w
  have H6 := fun w => spec_l00In rep 0 (num - 1) w
  change ∀ w, Calls _ _ _ _ (fun e w' => e = .returned (.bool (isMem snd)) ∧ _) at H2
  have c0 : W.cell? ⟨b, off, none⟩ = some (.int .i64 num) := hcl 0 _ rfl; have c1 : W.cell? ⟨b, off + 1, none⟩ = some (.int .i64 snd) := hcl 1 _ rfl; have c2 : W.cell? ⟨b, off + 2, none⟩ = some (.int .i64 at') := hcl 2 _ rfl; have c3 : W.cell? ⟨b, off + 3, none⟩ = some (.string txt) := hcl 3 _ rfl; have c4 : W.cell? ⟨b, off + 4, none⟩ = some (.int .i64 ed) := hcl 4 _ rfl; have c5 : W.cell? ⟨b, off + 5, none⟩ = some (.bool gone) := hcl 5 _ rfl; have c6 : W.cell? ⟨b, off + 6, none⟩ = some (.int .i64 rep) := hcl 6 _ rfl; have c7 : W.cell? ⟨b, off + 7, none⟩ = some (.slice A7 likes.length c7) := hcl 7 _ rfl
  have hbl := World.block_lt_of_cell? W _ c0
  have hx := (After.cells W.heap.size W).1
  clear hr r7 l7 m7 hwf hcl
  generalize hb7 : rises isMem likes = b7 at *
  generalize hb8 : hasIt likes snd = b8 at *
  generalize likes.length = n at *
  cases h1 : inB num 1 1000000000
  all_goals (simp only [h1] at H1 HO; try (have hn := inB_yes h1); clear h1)
  all_goals
    generalize isMem snd = b2 at *
    generalize inB at' 0 1000000 = b3 at *
    generalize isText txt = b4 at *
    generalize inB ed 0 1000000000 = b5 at *
    generalize inB rep 0 (num - 1) = b6 at *
  · go_enter Tryd.func49, Tryd.ntmps49
    go_wp2_with fail
    refine wp_region_after (W.heap.size) (by kernel_rfl) (by kernel_rfl) ?_; (repeat (go_big_quiet_step ((first | (go_at_call 61; with_reducible exact Calls.after_same (H1 _)) | (go_at_call 77; with_reducible exact Calls.after_same (H2 _)) | (go_at_call 78; with_reducible exact Calls.after_same (H3 _)) | (go_at_call 79; with_reducible exact Calls.after_same' (H4 _)) | (go_at_call 61; with_reducible exact Calls.after_same (H5 _)) | (go_at_call 61; with_reducible exact Calls.after_same (H6 _)))))); refine wpQuiet_nil ?_; intro w1 hb1
    go_wp2
    go_ret
    exact ⟨by rw [HO.out]; rfl, hb1⟩
  cases b2
  · go_enter Tryd.func49, Tryd.ntmps49
    go_wp2_with fail
    refine wp_region_after (W.heap.size) (by kernel_rfl) (by kernel_rfl) ?_; (repeat (go_big_quiet_step ((first | (go_at_call 61; with_reducible exact Calls.after_same (H1 _)) | (go_at_call 77; with_reducible exact Calls.after_same (H2 _)) | (go_at_call 78; with_reducible exact Calls.after_same (H3 _)) | (go_at_call 79; with_reducible exact Calls.after_same' (H4 _)) | (go_at_call 61; with_reducible exact Calls.after_same (H5 _)) | (go_at_call 61; with_reducible exact Calls.after_same (H6 _)))))); refine wpQuiet_nil ?_; intro w1 hb1
    go_wp2
    go_ret
    exact ⟨by rw [HO.out]; rfl, hb1⟩
  cases b3
  · go_enter Tryd.func49, Tryd.ntmps49
    go_wp2_with fail
    refine wp_region_after (W.heap.size) (by kernel_rfl) (by kernel_rfl) ?_; (repeat (go_big_quiet_step ((first | (go_at_call 61; with_reducible exact Calls.after_same (H1 _)) | (go_at_call 77; with_reducible exact Calls.after_same (H2 _)) | (go_at_call 78; with_reducible exact Calls.after_same (H3 _)) | (go_at_call 79; with_reducible exact Calls.after_same' (H4 _)) | (go_at_call 61; with_reducible exact Calls.after_same (H5 _)) | (go_at_call 61; with_reducible exact Calls.after_same (H6 _)))))); refine wpQuiet_nil ?_; intro w1 hb1
    go_wp2
    go_ret
    exact ⟨by rw [HO.out]; rfl, hb1⟩
  cases b4
  · go_enter Tryd.func49, Tryd.ntmps49
    go_wp2_with fail
    refine wp_region_after (W.heap.size) (by kernel_rfl) (by kernel_rfl) ?_; (repeat (go_big_quiet_step ((first | (go_at_call 61; with_reducible exact Calls.after_same (H1 _)) | (go_at_call 77; with_reducible exact Calls.after_same (H2 _)) | (go_at_call 78; with_reducible exact Calls.after_same (H3 _)) | (go_at_call 79; with_reducible exact Calls.after_same' (H4 _)) | (go_at_call 61; with_reducible exact Calls.after_same (H5 _)) | (go_at_call 61; with_reducible exact Calls.after_same (H6 _)))))); refine wpQuiet_nil ?_; intro w1 hb1
    go_wp2
    go_ret
    exact ⟨by rw [HO.out]; rfl, hb1⟩
  cases b5
  · go_enter Tryd.func49, Tryd.ntmps49
    go_wp2_with fail
    refine wp_region_after (W.heap.size) (by kernel_rfl) (by kernel_rfl) ?_; (repeat (go_big_quiet_step ((first | (go_at_call 61; with_reducible exact Calls.after_same (H1 _)) | (go_at_call 77; with_reducible exact Calls.after_same (H2 _)) | (go_at_call 78; with_reducible exact Calls.after_same (H3 _)) | (go_at_call 79; with_reducible exact Calls.after_same' (H4 _)) | (go_at_call 61; with_reducible exact Calls.after_same (H5 _)) | (go_at_call 61; with_reducible exact Calls.after_same (H6 _)))))); refine wpQuiet_nil ?_; intro w1 hb1
    go_wp2
    go_ret
    exact ⟨by rw [HO.out]; rfl, hb1⟩
  cases b6
  · go_enter Tryd.func49, Tryd.ntmps49
    go_wp2_with fail
    refine wp_region_after (W.heap.size) (by kernel_rfl) (by kernel_rfl) ?_; (repeat (go_big_quiet_step ((first | (go_at_call 61; with_reducible exact Calls.after_same (H1 _)) | (go_at_call 77; with_reducible exact Calls.after_same (H2 _)) | (go_at_call 78; with_reducible exact Calls.after_same (H3 _)) | (go_at_call 79; with_reducible exact Calls.after_same' (H4 _)) | (go_at_call 61; with_reducible exact Calls.after_same (H5 _)) | (go_at_call 61; with_reducible exact Calls.after_same (H6 _)))))); refine wpQuiet_nil ?_; intro w1 hb1
    go_wp2
    go_ret
    exact ⟨by rw [HO.out]; rfl, hb1⟩
  go_enter Tryd.func49, Tryd.ntmps49
  go_wp2_with fail
  refine wp_region_after (W.heap.size) (by kernel_rfl) (by kernel_rfl) ?_; (repeat (go_big_quiet_step ((first | (go_at_call 61; with_reducible exact Calls.after_same (H1 _)) | (go_at_call 77; with_reducible exact Calls.after_same (H2 _)) | (go_at_call 78; with_reducible exact Calls.after_same (H3 _)) | (go_at_call 79; with_reducible exact Calls.after_same' (H4 _)) | (go_at_call 61; with_reducible exact Calls.after_same (H5 _)) | (go_at_call 61; with_reducible exact Calls.after_same (H6 _)))))); refine wpQuiet_nil ?_; intro w1 hb1
  obtain ⟨hc1, -⟩ := bcell hb1
  have hbl1 := Nat.lt_of_lt_of_le hbl hb1.size
  have hx1 := (After.cells w1.heap.size w1).1
  clear hx
  go_wp2_with fail
  by_cases h20 : (n : Int) ≤ 20
  · have g20 : decide ((20 : Int) < (n : Int)) = false := by simpa using h20
    cases b7 <;> cases b8
    all_goals
      refine wp_region_after (w1.heap.size) (by kernel_rfl) (by kernel_rfl) ?_; (repeat (go_big_quiet_step ((first | (go_at_call 80; with_reducible exact Calls.after_drew (HM _ (hb1.trans ((After.b _).mono hb1.size)))) | (go_at_call 81; with_reducible exact Calls.after_same' (HC _ (hb1.trans ((After.b _).mono hb1.size)))))))); refine wpQuiet_nil ?_; intro w2 hb2
      have hb := hb1.trans (hb2.mono hb1.size)
      obtain ⟨hc2, -⟩ := bcell hb
      clear hx1 hc1
      go_wp2
      all_goals (go_ret; refine ⟨?_, hb⟩; show Ending.returned (.bool _) = _; rw [HO.out]; clear HO; first | (simp_all; done) | (simp_all; omega))
  · have g20 : decide ((20 : Int) < (n : Int)) = true := by simp; omega
    have HX := Lib.hid (show ok = false from by rw [HO.out]; simp [h20])
    clear HO h20
    refine wp_region_after (w1.heap.size) (by kernel_rfl) (by kernel_rfl) ?_; (repeat (go_big_quiet_step ((first | (go_at_call 80; with_reducible exact Calls.after_drew (HM _ (hb1.trans ((After.b _).mono hb1.size)))) | (go_at_call 81; with_reducible exact Calls.after_same' (HC _ (hb1.trans ((After.b _).mono hb1.size)))))))); refine wpQuiet_nil ?_; intro w2 hb2
    go_wp2
    go_ret
    exact ⟨by rw [HX.out]; rfl, hb1.trans (hb2.mono hb1.size)⟩
end Go.Proofs.YtahbgkabdongnaaDoor

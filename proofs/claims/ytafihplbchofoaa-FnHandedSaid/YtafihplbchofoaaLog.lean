/- Logs: which are right. -/
import Derived.Test.YtafihplbchofoaaMsg
import Derived.Test.YtafihplbchofoaaYLog
import Derived.Outline
namespace Go.Proofs.Ytafihplbchofoaa
open Go.ChangeShapes Go.WideShapes Go.ChangeAt Go.RowKit Go.Dt
set_option linter.unusedVariables false
set_option linter.unusedSimpArgs false
def Log.rightAt (l : Log) (i : Nat) : Bool := match l.xMessages[i]?, i with
  | some m, 0 => m.ok && decide (m.xNumber < l.xNext)
  | some m, k + 1 => m.ok && (decide (m.xNumber < l.xNext) && (match l.xMessages[k]? with | some p => decide (p.xNumber < m.xNumber) && decide (p.xAt ≤ m.xAt) | none => true))
  | none, _ => true
def Log.ok (l : Log) : Bool := upTo l.rightAt l.xMessages.length && (decide ((l.xMessages.length : Int) ≤ 40) && inB l.xNext 1 1000000000)
theorem Log.right_zero {l : Log} {m : Message} (h : l.xMessages[0]? = some m) : l.rightAt 0 = (m.ok && decide (m.xNumber < l.xNext)) := by unfold Log.rightAt; rw [h]
theorem Log.right_succ {l : Log} {k : Nat} {m p : Message} (h : l.xMessages[k + 1]? = some m) (h' : l.xMessages[k]? = some p) : l.rightAt (k + 1) = (m.ok && (decide (m.xNumber < l.xNext) && (decide (p.xNumber < m.xNumber) && decide (p.xAt ≤ m.xAt)))) := by
  unfold Log.rightAt
  rw [h]
  show (m.ok && (decide (m.xNumber < l.xNext) && (match l.xMessages[k]? with | some p => decide (p.xNumber < m.xNumber) && decide (p.xAt ≤ m.xAt) | none => true))) = _
  rw [h']
theorem Log.ok_no {l : Log} {j : Nat} (hj : j < l.xMessages.length) (h : l.rightAt j = false) : l.ok = false := by
  unfold Log.ok; rw [upTo_no hj h]; rfl
theorem Log.ok_yes {l : Log} {n : Nat} (hn : l.xMessages.length = n) (h : upTo l.rightAt n = true) : l.ok = (decide ((n : Int) ≤ 40) && inB l.xNext 1 1000000000) := by
  unfold Log.ok; rw [hn, h]; rfl
theorem Log.bad {l : Log} {j : Nat} {m : Message} (h : l.xMessages[j]? = some m) (hb : m.ok = false) : l.rightAt j = false := by
  cases j with
  | zero => rw [Log.right_zero h, hb]; rfl
  | succ k => unfold Log.rightAt; rw [h]; simp only [hb, Bool.false_and]
theorem Log.late {l : Log} {j : Nat} {m : Message} (h : l.xMessages[j]? = some m) (hb : ¬ m.xNumber < l.xNext) : l.rightAt j = false := by
  cases j with
  | zero => rw [Log.right_zero h]; simp [hb]
  | succ k => unfold Log.rightAt; rw [h]; simp [hb]
/-- An element of a slice of messages. -/
theorem msg_at {W : World} {l : List Message} {A : Option Addr} {n c k : Nat} {m : Message} (hr : Ro W (Lo W.heap.size) (Message.s true l) (.slice A n c)) (hk : l[k]? = some m) :
    ∃ (b off : Nat) (A7 : Option Addr) (c7 : Nat), A = some ⟨b, off, none⟩ ∧ b < W.heap.size ∧ RoL W (Lo W.heap.size) (Message.d true m) [.int .i64 m.xNumber, .int .i64 m.xSender, .int .i64 m.xAt, .string m.xText, .int .i64 m.xEdits, .bool m.xGone, .int .i64 m.xReply, .slice A7 m.xLikes.length c7] ∧
      (∀ (w : World), Below W.heap.size W w → ∀ (j : Nat) (u : Value), [.int .i64 m.xNumber, .int .i64 m.xSender, .int .i64 m.xAt, .string m.xText, .int .i64 m.xEdits, .bool m.xGone, .int .i64 m.xReply, .slice A7 m.xLikes.length c7][j]? = some u → w.cell? ⟨b, off + k * 8 + j, none⟩ = some u) := by
  obtain ⟨b, off, us, rfl, hbl, hul, hru, hcl⟩ := Ro.later hr (Below.refl _ _) (Nat.le_refl _) (map_at (f := Message.d true) hk)
  obtain ⟨A7, c7, rfl, -⟩ := Message.cells hru
  exact ⟨b, off, A7, c7, rfl, hbl, hru, fun w hb j u h => (hb.cell hbl).trans (hcl j u h)⟩
set_option maxHeartbeats 1600000 in
set_option maxRecDepth 100000 in
theorem spec_l03Is (x : Log) (b0 o0 : Nat) (A : Option Addr) (c : Nat) (W : World) (hw : ∀ m ∈ x.xMessages, m.xText.size ≤ maxLen) (k0 : W.cell? ⟨b0, o0, none⟩ = some (.int .i64 x.xNext)) (k1 : W.cell? ⟨b0, o0 + 1, none⟩ = some (.slice A x.xMessages.length c))
    (hr : Ro W (Lo W.heap.size) (Message.s true x.xMessages) (.slice A x.xMessages.length c)) (hm : c ≤ maxLen) (hlc : x.xMessages.length ≤ c) :
    Calls Try.prog 136 #[.pointer (some ⟨b0, o0, none⟩)] W fun e w' => e = .returned (.bool x.ok) ∧ Below W.heap.size W w' := by
  have hlen : x.xMessages.length ≤ 9223372036854775807 := by simp only [maxLen] at hm; omega
  clear hm hlc
  obtain ⟨next, l⟩ := x
  simp only at *
  have hbl0 := World.block_lt_of_cell? W _ k0
  generalize hn : l.length = n at *
  have HN := Lib.hid hn
  clear hn
  have HI := fun w => spec_l00In next 1 1000000000 w
  by_cases h40 : (n : Int) ≤ 40
  rotate_left
  · have HX := Lib.hid (show Log.ok ⟨next, l⟩ = false from by unfold Log.ok; simp only [HN.out]; simp [h40])
    have g40 : decide ((40 : Int) < (n : Int)) = true := by simp <;> omega
    clear hr
    go_enter Try.func136, Try.ntmps136
    go_wp2
    go_ret
    exact ⟨by rw [HX.out]; rfl, Below.refl _ _⟩
  cases hi : inB next 1 1000000000
  · have HX := Lib.hid (show Log.ok ⟨next, l⟩ = false from by unfold Log.ok; simp only [hi, Bool.and_false])
    rw [hi] at HI
    clear hr hi
    go_enter Try.func136, Try.ntmps136
    go_wp2_with (go_at_call 117; (with_reducible refine (HI _).mono ?_); rintro e w' ⟨rfl, rfl⟩)
    go_ret
    exact ⟨by rw [HX.out]; rfl, Below.refl _ _⟩
  rw [hi] at HI
  have HH := Lib.hid hi
  clear hi
  go_enter Try.func136, Try.ntmps136
  go_wp2_with (go_at_call 117; (with_reducible refine (HI _).mono ?_); rintro e w' ⟨rfl, rfl⟩)
  go_loopw [24] (fun k wr => ∃ j : Nat, j ≤ n ∧ k = .int .i64 j ∧ Hid (upTo (Log.rightAt ⟨next, l⟩) j = true) ∧ Below W.heap.size W wr) (fun k _ => n - (intOf k).toNat)
  case atStart => exact ⟨0, by omega, rfl, Lib.hid rfl, Below.refl _ _⟩
  case round =>
    obtain ⟨j, hj, rfl, HQ, hb⟩ := hrel
    have k0 : wr.cell? ⟨b0, o0, none⟩ = some (.int .i64 next) := (hb.cell hbl0).trans k0
    have k1 : wr.cell? ⟨b0, o0 + 1, none⟩ = some (.slice A n c) := (hb.cell hbl0).trans k1
    by_cases hlt : j < n
    · obtain ⟨m, hmj⟩ := get_lt (l := l) (k := j) (by rw [HN.out]; exact hlt)
      obtain ⟨b, off, A7, c7, rfl, hbl, hru, hcl⟩ := msg_at hr hmj
      have HM := fun (w : World) (hbw : Below W.heap.size W w) => spec_l03Message m _ b (off + j * 8) w (rol_to hru hbw) (hw m (List.mem_of_getElem? hmj)) (hcl w hbw)
      have d0 : wr.cell? ⟨b, off + j * 8, none⟩ = some (.int .i64 m.xNumber) := hcl wr hb 0 _ rfl
      have d2 : wr.cell? ⟨b, off + j * 8 + 2, none⟩ = some (.int .i64 m.xAt) := hcl wr hb 2 _ rfl
      have hx := (After.cells wr.heap.size wr).1
      have hblr := Nat.lt_of_lt_of_le hbl hb.size
      have hblr0 := Nat.lt_of_lt_of_le hbl0 hb.size
      have hlt' : (j : Int) < (n : Int) := by omega
      cases ho : m.ok
      · have HX := Lib.hid (Log.ok_no (l := ⟨next, l⟩) (by simp only [HN.out]; exact hlt) (Log.bad (l := ⟨next, l⟩) hmj ho))
        rw [ho] at HM
        clear hr hcl hru hmj ho
        go_wp2_with fail
        refine wp_region_after (wr.heap.size) (by kernel_rfl) (by kernel_rfl) ?_; (repeat (go_big_quiet_step ((go_at_call 162; with_reducible exact Calls.after (Nat.le_refl _) (HM _ (hb.trans ((After.b _).mono hb.size))))))); refine wpQuiet_nil ?_; intro w1 hb1
        go_wp2
        go_ret
        exact ⟨by rw [HX.out]; rfl, hb.trans (hb1.mono hb.size)⟩
      rw [ho] at HM
      by_cases hnum : m.xNumber < next
      rotate_left
      · have HX := Lib.hid (Log.ok_no (l := ⟨next, l⟩) (by simp only [HN.out]; exact hlt) (Log.late (l := ⟨next, l⟩) hmj hnum))
        have g : decide (next ≤ m.xNumber) = true := by simp <;> omega
        clear hr hcl hru hmj ho
        go_wp2_with fail
        refine wp_region_after (wr.heap.size) (by kernel_rfl) (by kernel_rfl) ?_; (repeat (go_big_quiet_step ((go_at_call 162; with_reducible exact Calls.after (Nat.le_refl _) (HM _ (hb.trans ((After.b _).mono hb.size))))))); refine wpQuiet_nil ?_; intro w1 hb1
        go_wp2
        go_ret
        exact ⟨by rw [HX.out]; rfl, hb.trans (hb1.mono hb.size)⟩
      have g : decide (next ≤ m.xNumber) = false := by simp <;> omega
      cases j with
      | zero =>
        have HS := Lib.hid (upTo_succ HQ.out (by rw [Log.right_zero hmj, ho]; simp [hnum]))
        simp only [Nat.zero_mul, Nat.add_zero] at d0 d2 HM
        clear hr hcl hru hmj ho
        go_wp2_with fail
        refine wp_region_after (wr.heap.size) (by kernel_rfl) (by kernel_rfl) ?_; (repeat (go_big_quiet_step ((go_at_call 162; with_reducible exact Calls.after (Nat.le_refl _) (HM _ (hb.trans ((After.b _).mono hb.size))))))); refine wpQuiet_nil ?_; intro w1 hb1
        have hB := hb.trans (hb1.mono hb.size)
        clear hx
        go_wp2_with fail
        refine wp_region_after (w1.heap.size) (by kernel_rfl) (by kernel_rfl) ?_; (repeat (go_big_quiet_step (fail))); refine wpQuiet_nil ?_; intro w2 hb2
        go_wp2
        go_roundw
        case rel => exact ⟨1, by omega, by go_num, HS, hB.trans (hb2.mono hB.size)⟩
        case measure => simp [intOf]; omega
      | succ k =>
        obtain ⟨p, hpj⟩ := get_lt (l := l) (k := k) (by rw [HN.out]; omega)
        obtain ⟨b', off', A7', c7', hbo, hbl', hru', hcl'⟩ := msg_at hr hpj
        injection hbo with hbo; injection hbo with e1 e2; subst e1; subst e2
        have e0 : wr.cell? ⟨b, off + k * 8, none⟩ = some (.int .i64 p.xNumber) := hcl' wr hb 0 _ rfl
        have e2 : wr.cell? ⟨b, off + k * 8 + 2, none⟩ = some (.int .i64 p.xAt) := hcl' wr hb 2 _ rfl
        have HZ := Lib.hid (Log.right_succ (l := ⟨next, l⟩) hmj hpj)
        have hi1 : ((k + 1 : Nat) : Int) - 1 = k := by omega
        have hi0 : decide ((0 : Int) < ((k + 1 : Nat) : Int)) = true := by simp <;> omega
        have hk1 : (k : Int) < (n : Int) := by omega
        have hx1 := (After.cells (wr.heap.size) wr).2
        clear hr hcl hru hcl' hru' hmj hpj hx1
        go_wp2_with fail
        refine wp_region_after (wr.heap.size) (by kernel_rfl) (by kernel_rfl) ?_; (repeat (go_big_quiet_step ((go_at_call 162; with_reducible exact Calls.after (Nat.le_refl _) (HM _ (hb.trans ((After.b _).mono hb.size))))))); refine wpQuiet_nil ?_; intro w1 hb1
        have hB := hb.trans (hb1.mono hb.size)
        obtain ⟨hc1, -⟩ := bcell hb1
        have hx1 := (After.cells w1.heap.size w1).1
        have hbl1 := Nat.lt_of_lt_of_le hblr hb1.size
        have hbl2 := Nat.lt_of_lt_of_le hblr0 hb1.size
        clear hx
        go_wp2_with fail
        by_cases c1 : p.xNumber < m.xNumber
        rotate_left
        · have HX := Lib.hid (Log.ok_no (l := ⟨next, l⟩) (by simp only [HN.out]; exact hlt) (by rw [HZ.out]; simp [c1]))
          have g1 : decide (m.xNumber ≤ p.xNumber) = true := by simp <;> omega
          refine wp_region_after (w1.heap.size) (by kernel_rfl) (by kernel_rfl) ?_; (repeat (go_big_quiet_step (fail))); refine wpQuiet_nil ?_; intro w2 hb2
          go_wp2
          go_ret
          exact ⟨by rw [HX.out]; rfl, hB.trans (hb2.mono hB.size)⟩
        have g1 : decide (m.xNumber ≤ p.xNumber) = false := by simp <;> omega
        by_cases c2 : p.xAt ≤ m.xAt
        rotate_left
        · have HX := Lib.hid (Log.ok_no (l := ⟨next, l⟩) (by simp only [HN.out]; exact hlt) (by rw [HZ.out]; simp [c2]))
          have g2 : decide (m.xAt < p.xAt) = true := by simp <;> omega
          refine wp_region_after (w1.heap.size) (by kernel_rfl) (by kernel_rfl) ?_; (repeat (go_big_quiet_step (fail))); refine wpQuiet_nil ?_; intro w2 hb2
          go_wp2
          go_ret
          exact ⟨by rw [HX.out]; rfl, hB.trans (hb2.mono hB.size)⟩
        have g2 : decide (m.xAt < p.xAt) = false := by simp <;> omega
        have HS := Lib.hid (upTo_succ HQ.out (by rw [HZ.out, ho]; simp [hnum, c1, c2]))
        refine wp_region_after (w1.heap.size) (by kernel_rfl) (by kernel_rfl) ?_; (repeat (go_big_quiet_step (fail))); refine wpQuiet_nil ?_; intro w2 hb2
        go_wp2
        go_roundw
        case rel => exact ⟨k + 1 + 1, by omega, by go_num, HS, hB.trans (hb2.mono hB.size)⟩
        case measure => simp [intOf]; omega
    · obtain rfl : j = n := by omega
      have HX := Lib.hid (Log.ok_yes (l := ⟨next, l⟩) HN.out HQ.out)
      clear hr
      go_wp2
      go_ret
      exact ⟨by rw [HX.out, HH.out, decide_eq_true h40]; rfl, hb⟩
set_option maxHeartbeats 1600000 in
set_option maxRecDepth 100000 in
theorem impl_ValidLog (x : Log) (us : List Value) (W : World) (hr : RoL W (Lo W.heap.size) (Log.d true x) us) (hw : ∀ m ∈ x.xMessages, m.xText.size ≤ maxLen) :
    Calls Try.prog 54 #[.agg us.toArray] W fun e w' => e = .returned (.bool x.ok) ∧ Below W.heap.size W w' := by
  obtain ⟨A, c, rfl, hr, hlc, hm⟩ := Log.cells hr
  have hlen : x.xMessages.length ≤ 9223372036854775807 := by simp only [maxLen] at hm; omega
  clear hm hlc
  obtain ⟨next, l⟩ := x
  simp only at *
  generalize hn : l.length = n at *
  have HN := Lib.hid hn
  clear hn
  have HI := fun w => impl_in next 1 1000000000 w
  go_enter Try.func54, Try.ntmps54
  go_wp2_with fail
  go_loopw [8] (fun k wr => ∃ j : Nat, j ≤ n ∧ k = .int .i64 j ∧ Hid (upTo (Log.rightAt ⟨next, l⟩) j = true) ∧ Below (W.heap.size + 1) (W.alloc (.cells #[.int .i64 next, .slice A n c] 26)) wr) (fun k _ => n - (intOf k).toNat)
  case atStart => exact ⟨0, by omega, rfl, Lib.hid rfl, Below.refl _ _⟩
  case round =>
    obtain ⟨j, hj, rfl, HQ, hbw⟩ := hrel
    obtain ⟨hbx, hb, hsz⟩ := box_after hbw
    have k0 := hbx 0 _ rfl
    have k1 := hbx 1 _ rfl
    clear hbx
    by_cases hlt : j < n
    · obtain ⟨m, hmj⟩ := get_lt (l := l) (k := j) (by rw [HN.out]; exact hlt)
      obtain ⟨b, off, A7, cc7, rfl, hbl, hru, hcl⟩ := msg_at hr hmj
      have HM := fun (w : World) (hbw : Below W.heap.size W w) => impl_ValidMessage m _ w (rol_to hru hbw) (hw m (List.mem_of_getElem? hmj))
      have c0 : wr.cell? ⟨b, off + j * 8, none⟩ = some (.int .i64 m.xNumber) := hcl wr hb 0 _ rfl; have c1 : wr.cell? ⟨b, off + j * 8 + 1, none⟩ = some (.int .i64 m.xSender) := hcl wr hb 1 _ rfl; have c2 : wr.cell? ⟨b, off + j * 8 + 2, none⟩ = some (.int .i64 m.xAt) := hcl wr hb 2 _ rfl; have c3 : wr.cell? ⟨b, off + j * 8 + 3, none⟩ = some (.string m.xText) := hcl wr hb 3 _ rfl; have c4 : wr.cell? ⟨b, off + j * 8 + 4, none⟩ = some (.int .i64 m.xEdits) := hcl wr hb 4 _ rfl; have c5 : wr.cell? ⟨b, off + j * 8 + 5, none⟩ = some (.bool m.xGone) := hcl wr hb 5 _ rfl; have c6 : wr.cell? ⟨b, off + j * 8 + 6, none⟩ = some (.int .i64 m.xReply) := hcl wr hb 6 _ rfl; have c7 : wr.cell? ⟨b, off + j * 8 + 7, none⟩ = some (.slice A7 m.xLikes.length cc7) := hcl wr hb 7 _ rfl
      have hblr := Nat.lt_of_lt_of_le hbl hb.size
      have hsz2 : W.heap.size < wr.heap.size := hsz
      go_wp2_with fail
      refine wp_any (fun w => Below (wr.heap.size + 1) (wr.alloc (.cells #[.int .i64 m.xNumber, .int .i64 m.xSender, .int .i64 m.xAt, .string m.xText, .int .i64 m.xEdits, .bool m.xGone, .int .i64 m.xReply, .slice A7 m.xLikes.length cc7] 99)) w) (Below.refl _ _) ?_
      intro w2 hbx2
      obtain ⟨hbx2, hb2, hs2⟩ := box_after hbx2
      have hB2 := hb.trans (hb2.mono hb.size)
      have c0 : w2.cell? ⟨wr.heap.size, 0, none⟩ = some (.int .i64 m.xNumber) := hbx2 0 _ rfl; have c1 : w2.cell? ⟨wr.heap.size, 0 + 1, none⟩ = some (.int .i64 m.xSender) := hbx2 1 _ rfl; have c2 : w2.cell? ⟨wr.heap.size, 0 + 2, none⟩ = some (.int .i64 m.xAt) := hbx2 2 _ rfl; have c3 : w2.cell? ⟨wr.heap.size, 0 + 3, none⟩ = some (.string m.xText) := hbx2 3 _ rfl; have c4 : w2.cell? ⟨wr.heap.size, 0 + 4, none⟩ = some (.int .i64 m.xEdits) := hbx2 4 _ rfl; have c5 : w2.cell? ⟨wr.heap.size, 0 + 5, none⟩ = some (.bool m.xGone) := hbx2 5 _ rfl; have c6 : w2.cell? ⟨wr.heap.size, 0 + 6, none⟩ = some (.int .i64 m.xReply) := hbx2 6 _ rfl; have c7 : w2.cell? ⟨wr.heap.size, 0 + 7, none⟩ = some (.slice A7 m.xLikes.length cc7) := hbx2 7 _ rfl
      have k0 : w2.cell? ⟨W.heap.size, 0, none⟩ = some (.int .i64 next) := (hb2.cell hsz).trans k0
      have k1 : w2.cell? ⟨W.heap.size, 1, none⟩ = some (.slice (some ⟨b, off, none⟩) n c) := (hb2.cell hsz).trans k1
      have hx := (After.cells w2.heap.size w2).1
      have hsz3 : W.heap.size < w2.heap.size := Nat.lt_trans hsz hs2
      have hbl2 : b < w2.heap.size := Nat.lt_of_lt_of_le hbl hB2.size
      have hbk2 := hbw.trans (hb2.mono hsz)
      clear hbx2
      cases ho : m.ok
      · have HX := Lib.hid (Log.ok_no (l := ⟨next, l⟩) (by simp only [HN.out]; exact hlt) (Log.bad (l := ⟨next, l⟩) hmj ho))
        rw [ho] at HM
        clear hr hcl hru hmj ho
        refine wp_region_after (w2.heap.size) (by kernel_rfl) (by kernel_rfl) ?_; (repeat (go_big_quiet_step ((go_at_call 104; with_reducible exact Calls.after (Nat.le_refl _) (HM _ (hB2.trans ((After.b _).mono hB2.size))))))); refine wpQuiet_nil ?_; intro w3 hb3
        go_wp2
        go_ret
        exact ⟨by rw [HX.out]; rfl, hB2.trans (hb3.mono hB2.size)⟩
      rw [ho] at HM
      by_cases hnum : m.xNumber < next
      rotate_left
      · have HX := Lib.hid (Log.ok_no (l := ⟨next, l⟩) (by simp only [HN.out]; exact hlt) (Log.late (l := ⟨next, l⟩) hmj hnum))
        have g : decide (next ≤ m.xNumber) = true := by simp <;> omega
        clear hr hcl hru hmj ho
        refine wp_region_after (w2.heap.size) (by kernel_rfl) (by kernel_rfl) ?_; (repeat (go_big_quiet_step ((go_at_call 104; with_reducible exact Calls.after (Nat.le_refl _) (HM _ (hB2.trans ((After.b _).mono hB2.size))))))); refine wpQuiet_nil ?_; intro w3 hb3
        go_wp2
        go_ret
        exact ⟨by rw [HX.out]; rfl, hB2.trans (hb3.mono hB2.size)⟩
      have g : decide (next ≤ m.xNumber) = false := by simp <;> omega
      cases j with
      | zero =>
        have HS := Lib.hid (upTo_succ HQ.out (by rw [Log.right_zero hmj, ho]; simp [hnum]))
        clear hr hcl hru hmj ho
        refine wp_region_after (w2.heap.size) (by kernel_rfl) (by kernel_rfl) ?_; (repeat (go_big_quiet_step ((go_at_call 104; with_reducible exact Calls.after (Nat.le_refl _) (HM _ (hB2.trans ((After.b _).mono hB2.size))))))); refine wpQuiet_nil ?_; intro w3 hb3
        go_wp2
        go_roundw
        case rel => exact ⟨1, by omega, by go_num, HS, hbk2.trans (hb3.mono (by omega))⟩
        case measure => simp [intOf]; omega
      | succ k =>
        obtain ⟨p, hpj⟩ := get_lt (l := l) (k := k) (by rw [HN.out]; omega)
        obtain ⟨b', off', A7', c7', hbo, hbl', hru', hcl'⟩ := msg_at hr hpj
        injection hbo with hbo; injection hbo with e1 e2; subst e1; subst e2
        have e0 : w2.cell? ⟨b, off + k * 8, none⟩ = some (.int .i64 p.xNumber) := hcl' w2 hB2 0 _ rfl
        have e2 : w2.cell? ⟨b, off + k * 8 + 2, none⟩ = some (.int .i64 p.xAt) := hcl' w2 hB2 2 _ rfl
        have HZ := Lib.hid (Log.right_succ (l := ⟨next, l⟩) hmj hpj)
        have hi1 : ((k + 1 : Nat) : Int) - 1 = k := by omega
        have hi0 : decide ((0 : Int) < ((k + 1 : Nat) : Int)) = true := by simp <;> omega
        have hk1 : (k : Int) < (n : Int) := by omega
        clear hr hcl hru hcl' hru' hmj hpj
        by_cases c1' : p.xNumber < m.xNumber
        rotate_left
        · have HX := Lib.hid (Log.ok_no (l := ⟨next, l⟩) (by simp only [HN.out]; exact hlt) (by rw [HZ.out]; simp [c1']))
          have g1 : decide (m.xNumber ≤ p.xNumber) = true := by simp <;> omega
          refine wp_region_after (w2.heap.size) (by kernel_rfl) (by kernel_rfl) ?_; (repeat (go_big_quiet_step ((go_at_call 104; with_reducible exact Calls.after (Nat.le_refl _) (HM _ (hB2.trans ((After.b _).mono hB2.size))))))); refine wpQuiet_nil ?_; intro w3 hb3
          go_wp2
          go_ret
          exact ⟨by rw [HX.out]; rfl, hB2.trans (hb3.mono hB2.size)⟩
        have g1 : decide (m.xNumber ≤ p.xNumber) = false := by simp <;> omega
        by_cases c2' : p.xAt ≤ m.xAt
        rotate_left
        · have HX := Lib.hid (Log.ok_no (l := ⟨next, l⟩) (by simp only [HN.out]; exact hlt) (by rw [HZ.out]; simp [c2']))
          have g2 : decide (m.xAt < p.xAt) = true := by simp <;> omega
          refine wp_region_after (w2.heap.size) (by kernel_rfl) (by kernel_rfl) ?_; (repeat (go_big_quiet_step ((go_at_call 104; with_reducible exact Calls.after (Nat.le_refl _) (HM _ (hB2.trans ((After.b _).mono hB2.size))))))); refine wpQuiet_nil ?_; intro w3 hb3
          go_wp2
          go_ret
          exact ⟨by rw [HX.out]; rfl, hB2.trans (hb3.mono hB2.size)⟩
        have g2 : decide (m.xAt < p.xAt) = false := by simp <;> omega
        have HS := Lib.hid (upTo_succ HQ.out (by rw [HZ.out, ho]; simp [hnum, c1', c2']))
        refine wp_region_after (w2.heap.size) (by kernel_rfl) (by kernel_rfl) ?_; (repeat (go_big_quiet_step ((go_at_call 104; with_reducible exact Calls.after (Nat.le_refl _) (HM _ (hB2.trans ((After.b _).mono hB2.size))))))); refine wpQuiet_nil ?_; intro w3 hb3
        go_wp2
        go_roundw
        case rel => exact ⟨k + 1 + 1, by omega, by go_num, HS, hbk2.trans (hb3.mono (by omega))⟩
        case measure => simp [intOf]; omega
    · obtain rfl : j = n := by omega
      have HX := Lib.hid (Log.ok_yes (l := ⟨next, l⟩) HN.out HQ.out)
      clear hr
      by_cases h40 : (j : Int) ≤ 40
      all_goals
        go_wp2_with (go_at_call 59; (with_reducible refine (HI _).mono ?_); rintro e w' ⟨rfl, rfl⟩)
        go_ret
        exact ⟨by rw [HX.out]; first | (simp [h40]; done) | (simp; intro h; omega), hb⟩
end Go.Proofs.Ytafihplbchofoaa

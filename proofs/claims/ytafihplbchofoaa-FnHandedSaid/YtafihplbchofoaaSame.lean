/- Messages that are the same; a log that has the first messages of another one. -/
import Derived.Test.YtafihplbchofoaaLog
import Derived.Test.YtafihplbchofoaaAges
namespace Go.Proofs.Ytafihplbchofoaa
open Go.ChangeShapes Go.WideShapes Go.ChangeAt Go.RowKit Go.Dt
set_option linter.unusedVariables false
set_option linter.unusedSimpArgs false
set_option maxHeartbeats 400000 in
theorem slices_EqualI (l m : List Int) (A A' : Option Addr) (c c' : Nat) (w : World) (hr : Ro w (Lo w.heap.size) (ints l) (.slice A l.length c)) (hs : Ro w (Lo w.heap.size) (ints m) (.slice A' m.length c')) (hc : c ≤ maxLen) (hc' : c' ≤ maxLen) (hlc : l.length ≤ c) (hmc : m.length ≤ c') :
    Calls Try.prog 107 #[.slice A l.length c, .slice A' m.length c'] w fun e w' => e = .returned (.bool (decide (l = m))) ∧ Below w.heap.size w w' := by
  unfold maxLen at hc hc'
  by_cases hl : l.length = m.length
  · have HL := Lib.hid hl
    rw [← hl] at hs hmc ⊢
    clear hl
    generalize hn : l.length = n at *
    have HN := Lib.hid hn
    clear hn
    have hlen : n ≤ 9223372036854775807 := by omega
    go_enter Try.func107, Try.ntmps107
    go_wp2
    go_loopw [13] (fun i wr => ∃ j : Nat, j ≤ n ∧ i = .int .i64 j ∧ l.take j = m.take j ∧ Below w.heap.size w wr) (fun i _ => n - (intOf i).toNat)
    case atStart => exact ⟨0, by omega, rfl, by simp, Below.refl _ _⟩
    case round =>
      obtain ⟨j, hj, rfl, hq, hb⟩ := hrel
      have HQ := Lib.hid hq
      clear hq
      by_cases hlt : j < n
      · obtain ⟨x, hx⟩ := get_lt (l := l) (k := j) (by rw [HN.out]; exact hlt)
        obtain ⟨y, hy⟩ := get_lt (l := m) (k := j) (by rw [← HL.out]; exact hlt)
        obtain ⟨b, off, rfl, hbl, c0⟩ := ints_at hr hb (Nat.le_refl _) hx
        obtain ⟨b', off', rfl, hbl', c1⟩ := ints_at hs hb (Nat.le_refl _) hy
        have HX := Lib.hid hx
        have HY := Lib.hid hy
        clear hr hs hx hy
        by_cases hxy : x = y
        · have hB : (x != y) = false := by simp [hxy]
          have HT := Lib.hid (take_eq_succ HQ.out HX.out HY.out hxy)
          clear hxy
          go_wp2_with fail
          go_quiet (fail)
          go_wp2
          go_roundw
          case rel => exact ⟨j + 1, by omega, by go_num, HT.out, below_drewN hb _⟩
          case measure => simp [intOf]; omega
        · have hB : (x != y) = true := by simp [hxy]
          have HT := Lib.hid (eq_no HX.out HY.out hxy)
          clear hxy
          go_wp2_with fail
          go_quiet (fail)
          go_wp2
          go_ret
          exact ⟨by rw [HT.out]; rfl, below_drewN hb _⟩
      · have HT := Lib.hid (take_all (l := l) (m := m) (j := j) (by have := HN.out; omega) (by have := HL.out; omega) HQ.out)
        clear hr hs
        go_wp2
        go_ret
        exact ⟨by rw [HT.out]; rfl, hb⟩
  · have HT := Lib.hid (len_no hl)
    have hB : ((l.length : Int) != (m.length : Int)) = true := by rw [bne_iff_ne]; omega
    have h1 : l.length ≤ 9223372036854775807 := by omega
    have h2 : m.length ≤ 9223372036854775807 := by omega
    clear hr hs
    go_enter Try.func107, Try.ntmps107
    go_wp2
    go_ret
    exact ⟨by rw [HT.out]; rfl, Below.refl _ _⟩
set_option maxHeartbeats 1000000 in
set_option maxRecDepth 100000 in
theorem impl_sameMessage (x y : Message) (us vs : List Value) (W : World) (hr : RoL W (Lo W.heap.size) (Message.d true x) us) (hs : RoL W (Lo W.heap.size) (Message.d true y) vs) :
    Calls Try.prog 68 #[.agg us.toArray, .agg vs.toArray] W fun e w' => e = .returned (.bool (decide (x = y))) ∧ Below W.heap.size W w' := by
  obtain ⟨A7, c7, rfl, r7, l7, m7⟩ := Message.cells hr
  obtain ⟨Ap7, cp7, rfl, rp7, lp7, mp7⟩ := Message.cells hs
  have HD := Lib.hid (Message.dec x y)
  go_enter Try.func68, Try.ntmps68
  go_wp2_with (go_at_call 107; (with_reducible refine (slices_EqualI x.xLikes y.xLikes _ _ _ _ _ (ro_to r7 (by (repeat (first | with_reducible assumption | with_reducible exact Below.refl _ _ | with_reducible refine Below.setCell ?_ ?_ _ | with_reducible refine Below.alloc ?_ ?_ _ | with_reducible refine Below.drew ?_ | with_reducible refine below_drewN ?_ _ | omega | (simp; done) | (simp; omega))); all_goals first | omega | (simp; done) | (simp; omega))) (ro_to rp7 (by (repeat (first | with_reducible assumption | with_reducible exact Below.refl _ _ | with_reducible refine Below.setCell ?_ ?_ _ | with_reducible refine Below.alloc ?_ ?_ _ | with_reducible refine Below.drew ?_ | with_reducible refine below_drewN ?_ _ | omega | (simp; done) | (simp; omega))); all_goals first | omega | (simp; done) | (simp; omega))) m7 mp7 l7 lp7).mono ?_); rintro e w1 ⟨rfl, hb⟩; obtain ⟨hc, hf⟩ := bcell hb; have hz : W.heap.size < w1.heap.size := (by have hs := hb.size; (try simp at hs) <;> omega); have hB : Below W.heap.size W w1 := (by first | exact below_step (by assumption) hb (by omega) | exact below_step (by repeat (first | with_reducible assumption | exact Below.refl _ _ | refine Below.setCell ?_ (by first | omega | (simp; done) | (simp; omega)) _ | refine Below.alloc ?_ (by first | omega | (simp; done) | (simp; omega)) _ | refine Below.drew ?_)) hb (by first | omega | (simp; done) | (simp; omega))); try (have hz2 : W.heap.size + 1 < w1.heap.size := (by have hs := hb.size; (try simp at hs) <;> omega)))
  all_goals (go_ret; exact ⟨by rw [HD.out]; simp_all [bytes_inj], (by (repeat (first | with_reducible assumption | with_reducible exact Below.refl _ _ | with_reducible refine Below.setCell ?_ ?_ _ | with_reducible refine Below.alloc ?_ ?_ _ | with_reducible refine Below.drew ?_ | with_reducible refine below_drewN ?_ _ | omega | (simp; done) | (simp; omega))); all_goals first | omega | (simp; done) | (simp; omega))⟩)
set_option maxHeartbeats 1600000 in
set_option maxRecDepth 100000 in
theorem EqualFunc_same (l m : List Message) (A A' : Option Addr) (c c' : Nat) (W : World) (hr : Ro W (Lo W.heap.size) (Message.s true l) (.slice A l.length c)) (hs : Ro W (Lo W.heap.size) (Message.s true m) (.slice A' m.length c')) (hc : c ≤ maxLen) (hlc : l.length ≤ c) (hc' : c' ≤ maxLen) (hmc : m.length ≤ c') :
    Calls Try.prog 67 #[.slice A l.length c, .slice A' m.length c', .func (.func 68) #[] #[]] W fun e w' => e = .returned (.bool (decide (l = m))) ∧ Below W.heap.size W w' := by
  unfold maxLen at hc hc'
  by_cases hl : l.length = m.length
  · have HL := Lib.hid hl
    rw [← hl] at hs hmc ⊢
    clear hl
    generalize hn : l.length = n at *
    have HN := Lib.hid hn
    clear hn
    have hlen : n ≤ 9223372036854775807 := by omega
    go_enter Try.func67, Try.ntmps67
    go_wp2
    go_loopw [17] (fun i wr => ∃ j : Nat, j ≤ n ∧ i = .int .i64 j ∧ Hid (l.take j = m.take j) ∧ Below W.heap.size W wr) (fun i _ => n - (intOf i).toNat)
    case atStart => exact ⟨0, by omega, rfl, Lib.hid (by simp), Below.refl _ _⟩
    case round =>
      obtain ⟨j, hj, rfl, HQ, hb⟩ := hrel
      by_cases hlt : j < n
      · obtain ⟨x, hx⟩ := get_lt (l := l) (k := j) (by rw [HN.out]; exact hlt)
        obtain ⟨y, hy⟩ := get_lt (l := m) (k := j) (by rw [← HL.out]; exact hlt)
        obtain ⟨b, off, A7, cc7, rfl, hbl, hru, hcl⟩ := msg_at hr hx
        obtain ⟨b', off', Ap7, cp7, rfl, hbl', hru', hcl'⟩ := msg_at hs hy
        have c0 : wr.cell? ⟨b, off + j * 8, none⟩ = some (.int .i64 x.xNumber) := hcl wr hb 0 _ rfl; have c1 : wr.cell? ⟨b, off + j * 8 + 1, none⟩ = some (.int .i64 x.xSender) := hcl wr hb 1 _ rfl; have c2 : wr.cell? ⟨b, off + j * 8 + 2, none⟩ = some (.int .i64 x.xAt) := hcl wr hb 2 _ rfl; have c3 : wr.cell? ⟨b, off + j * 8 + 3, none⟩ = some (.string x.xText) := hcl wr hb 3 _ rfl; have c4 : wr.cell? ⟨b, off + j * 8 + 4, none⟩ = some (.int .i64 x.xEdits) := hcl wr hb 4 _ rfl; have c5 : wr.cell? ⟨b, off + j * 8 + 5, none⟩ = some (.bool x.xGone) := hcl wr hb 5 _ rfl; have c6 : wr.cell? ⟨b, off + j * 8 + 6, none⟩ = some (.int .i64 x.xReply) := hcl wr hb 6 _ rfl; have c7 : wr.cell? ⟨b, off + j * 8 + 7, none⟩ = some (.slice A7 x.xLikes.length cc7) := hcl wr hb 7 _ rfl
        have e0 := c0; clear c0
        have e1 := c1; clear c1
        have e2 := c2; clear c2
        have e3 := c3; clear c3
        have e4 := c4; clear c4
        have e5 := c5; clear c5
        have e6 := c6; clear c6
        have e7 := c7; clear c7
        have c0 : wr.cell? ⟨b', off' + j * 8, none⟩ = some (.int .i64 y.xNumber) := hcl' wr hb 0 _ rfl; have c1 : wr.cell? ⟨b', off' + j * 8 + 1, none⟩ = some (.int .i64 y.xSender) := hcl' wr hb 1 _ rfl; have c2 : wr.cell? ⟨b', off' + j * 8 + 2, none⟩ = some (.int .i64 y.xAt) := hcl' wr hb 2 _ rfl; have c3 : wr.cell? ⟨b', off' + j * 8 + 3, none⟩ = some (.string y.xText) := hcl' wr hb 3 _ rfl; have c4 : wr.cell? ⟨b', off' + j * 8 + 4, none⟩ = some (.int .i64 y.xEdits) := hcl' wr hb 4 _ rfl; have c5 : wr.cell? ⟨b', off' + j * 8 + 5, none⟩ = some (.bool y.xGone) := hcl' wr hb 5 _ rfl; have c6 : wr.cell? ⟨b', off' + j * 8 + 6, none⟩ = some (.int .i64 y.xReply) := hcl' wr hb 6 _ rfl; have c7 : wr.cell? ⟨b', off' + j * 8 + 7, none⟩ = some (.slice Ap7 y.xLikes.length cp7) := hcl' wr hb 7 _ rfl
        have hblr : b < wr.heap.size := Nat.lt_of_lt_of_le hbl hb.size
        have hblr' : b' < wr.heap.size := Nat.lt_of_lt_of_le hbl' hb.size
        have hbls : b' < wr.heap.size + 1 := by omega
        have HS := fun (w : World) (hbw : Below W.heap.size W w) => impl_sameMessage x y _ _ w (rol_to hru hbw) (rol_to hru' hbw)
        have HX := Lib.hid hx
        have HY := Lib.hid hy
        clear hr hs hx hy hcl hcl' hru hru'
        by_cases hxy : x = y
        · have HT := Lib.hid (take_eq_succ HQ.out HX.out HY.out hxy)
          rw [decide_eq_true hxy] at HS
          clear hxy
          go_wp2_with fail
          refine (HS _ ((hb.alloc hb.size _).alloc (by have := hb.size; simp; omega) _)).mono ?_
          rintro e w1 ⟨rfl, hb1⟩
          go_wp2
          go_roundw
          case rel => exact ⟨j + 1, by omega, by go_num, HT, ((hb.alloc hb.size _).alloc (by have := hb.size; simp; omega) _).trans (hb1.mono (by have := hb.size; simp; omega))⟩
          case measure => simp [intOf]; omega
        · have HT := Lib.hid (eq_no HX.out HY.out hxy)
          rw [decide_eq_false hxy] at HS
          clear hxy
          go_wp2_with fail
          refine (HS _ ((hb.alloc hb.size _).alloc (by have := hb.size; simp; omega) _)).mono ?_
          rintro e w1 ⟨rfl, hb1⟩
          go_wp2
          go_ret
          exact ⟨by rw [HT.out]; rfl, ((hb.alloc hb.size _).alloc (by have := hb.size; simp; omega) _).trans (hb1.mono (by have := hb.size; simp; omega))⟩
      · have HT := Lib.hid (take_all (l := l) (m := m) (j := j) (by have := HN.out; omega) (by have := HL.out; omega) HQ.out)
        clear hr hs
        go_wp2
        go_ret
        exact ⟨by rw [HT.out]; rfl, hb⟩
  · have HT := Lib.hid (len_no hl)
    have hB : ((l.length : Int) != (m.length : Int)) = true := by rw [bne_iff_ne]; omega
    have h1 : l.length ≤ 9223372036854775807 := by omega
    have h2 : m.length ≤ 9223372036854775807 := by omega
    clear hr hs
    go_enter Try.func67, Try.ntmps67
    go_wp2
    go_ret
    exact ⟨by rw [HT.out]; rfl, Below.refl _ _⟩
end Go.Proofs.Ytafihplbchofoaa

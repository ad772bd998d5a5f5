/- Messages that are the same; a log that has the first messages of another one. -/
import Derived.Test.YtmofbfeclecdoaaLog
import Derived.Test.YtmofbfeclecdoaaAges
namespace Go.Proofs.Ytmofbfeclecdoaa
open Go.ChangeShapes Go.WideShapes Go.ChangeAt Go.RowKit Go.Dt
set_option linter.unusedVariables false
set_option linter.unusedSimpArgs false
set_option maxHeartbeats 400000 in
theorem slices_EqualI (l m : List Int) (A A' : Option Addr) (c c' : Nat) (w : World) (hr : Ro w (Lo w.heap.size) (ints l) (.slice A l.length c)) (hs : Ro w (Lo w.heap.size) (ints m) (.slice A' m.length c')) (hc : c ≤ maxLen) (hc' : c' ≤ maxLen) (hlc : l.length ≤ c) (hmc : m.length ≤ c') :
    Calls Try.prog 170 #[.slice A l.length c, .slice A' m.length c'] w fun e w' => e = .returned (.bool (decide (l = m))) ∧ Below w.heap.size w w' := by
  unfold maxLen at hc hc'
  by_cases hl : l.length = m.length
  · have HL := Lib.hid hl
    rw [← hl] at hs hmc ⊢
    clear hl
    generalize hn : l.length = n at *
    have HN := Lib.hid hn
    clear hn
    have hlen : n ≤ 9223372036854775807 := by omega
    go_enter Try.func170, Try.ntmps170
    go_wp2
    go_loopw [13] (fun i wr => ∃ j : Nat, j ≤ n ∧ i = .int .i64 j ∧ l.take j = m.take j ∧ Below w.heap.size w wr) (fun i _ => n - (intOf i).toNat)
    case atStart => exact ⟨0, by omega, rfl, by simp, Below.refl _ _⟩
    case round =>
      obtain ⟨j, hj, rfl, hq, hb⟩ := hrel
      have HQ := Lib.hid hq
      clear hq
      by_cases hlt : j < n
      · obtain ⟨x, hx⟩ := get_lt (l := l) (k := j) (by rw [HN.out]; exact hlt)
        obtain ⟨y, hy⟩ := get_lt (l := m) (k := j) (by rw [← HL.out]; exact hlt)
        obtain ⟨b, off, rfl, hbl, c0⟩ := ints_at hr hb (Nat.le_refl _) hx
        obtain ⟨b', off', rfl, hbl', c1⟩ := ints_at hs hb (Nat.le_refl _) hy
        have HX := Lib.hid hx
        have HY := Lib.hid hy
        clear hr hs hx hy
        by_cases hxy : x = y
        · have hB : (x != y) = false := by simp [hxy]
          have HT := Lib.hid (take_eq_succ HQ.out HX.out HY.out hxy)
          clear hxy
          go_wp2_with fail
          go_quiet (fail)
          go_wp2
          go_roundw
          case rel => exact ⟨j + 1, by omega, by go_num, HT.out, below_drewN hb _⟩
          case measure => simp [intOf]; omega
        · have hB : (x != y) = true := by simp [hxy]
          have HT := Lib.hid (eq_no HX.out HY.out hxy)
          clear hxy
          go_wp2_with fail
          go_quiet (fail)
          go_wp2
          go_ret
          exact ⟨by rw [HT.out]; rfl, below_drewN hb _⟩
      · have HT := Lib.hid (take_all (l := l) (m := m) (j := j) (by have := HN.out; omega) (by have := HL.out; omega) HQ.out)
        clear hr hs
        go_wp2
        go_ret
        exact ⟨by rw [HT.out]; rfl, hb⟩
  · have HT := Lib.hid (len_no hl)
    have hB : ((l.length : Int) != (m.length : Int)) = true := by rw [bne_iff_ne]; omega
    have h1 : l.length ≤ 9223372036854775807 := by omega
    have h2 : m.length ≤ 9223372036854775807 := by omega
    clear hr hs
    go_enter Try.func170, Try.ntmps170
    go_wp2
    go_ret
    exact ⟨by rw [HT.out]; rfl, Below.refl _ _⟩
set_option maxHeartbeats 400000 in
theorem spec_l00Same (l m : List Int) (A A' : Option Addr) (c c' : Nat) (w : World) (hr : Ro w (Lo w.heap.size) (ints l) (.slice A l.length c)) (hs : Ro w (Lo w.heap.size) (ints m) (.slice A' m.length c')) (hc : c ≤ maxLen) (hc' : c' ≤ maxLen) (hlc : l.length ≤ c) (hmc : m.length ≤ c') :
    Calls Try.prog 206 #[.slice A l.length c, .slice A' m.length c'] w fun e w' => e = .returned (.bool (decide (l = m))) ∧ Below w.heap.size w w' := by
  unfold maxLen at hc hc'
  by_cases hl : l.length = m.length
  · have HL := Lib.hid hl
    rw [← hl] at hs hmc ⊢
    clear hl
    generalize hn : l.length = n at *
    have HN := Lib.hid hn
    clear hn
    have hlen : n ≤ 9223372036854775807 := by omega
    go_enter Try.func206, Try.ntmps206
    go_wp2
    go_loopw [5] (fun i wr => ∃ j : Nat, j ≤ n ∧ i = .int .i64 j ∧ l.take j = m.take j ∧ Below w.heap.size w wr) (fun i _ => n - (intOf i).toNat)
    case atStart => exact ⟨0, by omega, rfl, by simp, Below.refl _ _⟩
    case round =>
      obtain ⟨j, hj, rfl, hq, hb⟩ := hrel
      have HQ := Lib.hid hq
      clear hq
      by_cases hlt : j < n
      · obtain ⟨x, hx⟩ := get_lt (l := l) (k := j) (by rw [HN.out]; exact hlt)
        obtain ⟨y, hy⟩ := get_lt (l := m) (k := j) (by rw [← HL.out]; exact hlt)
        obtain ⟨b, off, rfl, hbl, c0⟩ := ints_at hr hb (Nat.le_refl _) hx
        obtain ⟨b', off', rfl, hbl', c1⟩ := ints_at hs hb (Nat.le_refl _) hy
        have HX := Lib.hid hx
        have HY := Lib.hid hy
        clear hr hs hx hy
        by_cases hxy : x = y
        · have hB : (x != y) = false := by simp [hxy]
          have HT := Lib.hid (take_eq_succ HQ.out HX.out HY.out hxy)
          clear hxy
          go_wp2_with fail
          go_quiet (fail)
          go_wp2
          go_roundw
          case rel => exact ⟨j + 1, by omega, by go_num, HT.out, below_drewN hb _⟩
          case measure => simp [intOf]; omega
        · have hB : (x != y) = true := by simp [hxy]
          have HT := Lib.hid (eq_no HX.out HY.out hxy)
          clear hxy
          go_wp2_with fail
          go_quiet (fail)
          go_wp2
          go_ret
          exact ⟨by rw [HT.out]; rfl, below_drewN hb _⟩
      · have HT := Lib.hid (take_all (l := l) (m := m) (j := j) (by have := HN.out; omega) (by have := HL.out; omega) HQ.out)
        clear hr hs
        go_wp2
        go_ret
        exact ⟨by rw [HT.out]; rfl, hb⟩
  · have HT := Lib.hid (len_no hl)
    have hB : ((l.length : Int) != (m.length : Int)) = true := by rw [bne_iff_ne]; omega
    have h1 : l.length ≤ 9223372036854775807 := by omega
    have h2 : m.length ≤ 9223372036854775807 := by omega
    clear hr hs
    go_enter Try.func206, Try.ntmps206
    go_wp2
    go_ret
    exact ⟨by rw [HT.out]; rfl, Below.refl _ _⟩

set_option maxHeartbeats 1000000 in
set_option maxRecDepth 100000 in
theorem impl_sameMessage (x y : Message) (us vs : List Value) (W : World) (hr : RoL W (Lo W.heap.size) (Message.d true x) us) (hs : RoL W (Lo W.heap.size) (Message.d true y) vs) :
    Calls Try.prog 106 #[.agg us.toArray, .agg vs.toArray] W fun e w' => e = .returned (.bool (decide (x = y))) ∧ Below W.heap.size W w' := by
  obtain ⟨A7, c7, rfl, r7, l7, m7⟩ := Message.cells hr
  obtain ⟨Ap7, cp7, rfl, rp7, lp7, mp7⟩ := Message.cells hs
  have HD := Lib.hid (Message.dec x y)
  go_enter Try.func106, Try.ntmps106
  go_wp2_with (go_at_call 170; (with_reducible refine (slices_EqualI x.xLikes y.xLikes _ _ _ _ _ (ro_to r7 (by (repeat (first | with_reducible assumption | with_reducible exact Below.refl _ _ | with_reducible refine Below.setCell ?_ ?_ _ | with_reducible refine Below.alloc ?_ ?_ _ | with_reducible refine Below.drew ?_ | with_reducible refine below_drewN ?_ _ | omega | (simp; done) | (simp; omega))); all_goals first | omega | (simp; done) | (simp; omega))) (ro_to rp7 (by (repeat (first | with_reducible assumption | with_reducible exact Below.refl _ _ | with_reducible refine Below.setCell ?_ ?_ _ | with_reducible refine Below.alloc ?_ ?_ _ | with_reducible refine Below.drew ?_ | with_reducible refine below_drewN ?_ _ | omega | (simp; done) | (simp; omega))); all_goals first | omega | (simp; done) | (simp; omega))) m7 mp7 l7 lp7).mono ?_); rintro e w1 ⟨rfl, hb⟩; obtain ⟨hc, hf⟩ := bcell hb; have hz : W.heap.size < w1.heap.size := (by have hs := hb.size; (try simp at hs) <;> omega); have hB : Below W.heap.size W w1 := (by first | exact below_step (by assumption) hb (by omega) | exact below_step (by repeat (first | with_reducible assumption | exact Below.refl _ _ | refine Below.setCell ?_ (by first | omega | (simp; done) | (simp; omega)) _ | refine Below.alloc ?_ (by first | omega | (simp; done) | (simp; omega)) _ | refine Below.drew ?_)) hb (by first | omega | (simp; done) | (simp; omega))); try (have hz2 : W.heap.size + 1 < w1.heap.size := (by have hs := hb.size; (try simp at hs) <;> omega)))
  all_goals (go_ret; exact ⟨by rw [HD.out]; simp_all [bytes_inj], (by (repeat (first | with_reducible assumption | with_reducible exact Below.refl _ _ | with_reducible refine Below.setCell ?_ ?_ _ | with_reducible refine Below.alloc ?_ ?_ _ | with_reducible refine Below.drew ?_ | with_reducible refine below_drewN ?_ _ | omega | (simp; done) | (simp; omega))); all_goals first | omega | (simp; done) | (simp; omega))⟩)
set_option maxHeartbeats 1000000 in
set_option maxRecDepth 100000 in
theorem spec_l03SameMessage (x y : Message) (bx ox byy oy : Nat) (A7 Ap7 : Option Addr) (cc7 cp7 : Nat) (W : World) (hr : RoL W (Lo W.heap.size) (Message.d true x) [.int .i64 x.xNumber, .int .i64 x.xSender, .int .i64 x.xAt, .string x.xText, .int .i64 x.xEdits, .bool x.xGone, .int .i64 x.xReply, .slice A7 x.xLikes.length cc7]) (hs : RoL W (Lo W.heap.size) (Message.d true y) [.int .i64 y.xNumber, .int .i64 y.xSender, .int .i64 y.xAt, .string y.xText, .int .i64 y.xEdits, .bool y.xGone, .int .i64 y.xReply, .slice Ap7 y.xLikes.length cp7])
    (hx : ∀ (j : Nat) (u : Value), [.int .i64 x.xNumber, .int .i64 x.xSender, .int .i64 x.xAt, .string x.xText, .int .i64 x.xEdits, .bool x.xGone, .int .i64 x.xReply, .slice A7 x.xLikes.length cc7][j]? = some u → W.cell? ⟨bx, ox + j, none⟩ = some u) (hy : ∀ (j : Nat) (u : Value), [.int .i64 y.xNumber, .int .i64 y.xSender, .int .i64 y.xAt, .string y.xText, .int .i64 y.xEdits, .bool y.xGone, .int .i64 y.xReply, .slice Ap7 y.xLikes.length cp7][j]? = some u → W.cell? ⟨byy, oy + j, none⟩ = some u) :
    Calls Try.prog 171 #[.pointer (some ⟨bx, ox, none⟩), .pointer (some ⟨byy, oy, none⟩)] W fun e w' => e = .returned (.bool (decide (x = y))) ∧ Below W.heap.size W w' := by
  obtain ⟨A7', c7', hu, r7, l7, m7⟩ := Message.cells hr
  simp only [List.cons.injEq, Value.slice.injEq] at hu
  obtain ⟨-, -, -, -, -, -, -, ⟨rfl, -, rfl⟩, -⟩ := hu
  obtain ⟨A7', c7', hu, rp7, lp7, mp7⟩ := Message.cells hs
  simp only [List.cons.injEq, Value.slice.injEq] at hu
  obtain ⟨-, -, -, -, -, -, -, ⟨rfl, -, rfl⟩, -⟩ := hu
  have HS := fun (w : World) (hb : Below W.heap.size W w) => spec_l00Same x.xLikes y.xLikes _ _ _ _ w (ro_to r7 hb) (ro_to rp7 hb) m7 mp7 l7 lp7
  have HD := Lib.hid (Message.dec x y)
  have c0 : W.cell? ⟨bx, ox, none⟩ = some (.int .i64 x.xNumber) := hx 0 _ rfl; have c1 : W.cell? ⟨bx, ox + 1, none⟩ = some (.int .i64 x.xSender) := hx 1 _ rfl; have c2 : W.cell? ⟨bx, ox + 2, none⟩ = some (.int .i64 x.xAt) := hx 2 _ rfl; have c3 : W.cell? ⟨bx, ox + 3, none⟩ = some (.string x.xText) := hx 3 _ rfl; have c4 : W.cell? ⟨bx, ox + 4, none⟩ = some (.int .i64 x.xEdits) := hx 4 _ rfl; have c5 : W.cell? ⟨bx, ox + 5, none⟩ = some (.bool x.xGone) := hx 5 _ rfl; have c6 : W.cell? ⟨bx, ox + 6, none⟩ = some (.int .i64 x.xReply) := hx 6 _ rfl; have c7 : W.cell? ⟨bx, ox + 7, none⟩ = some (.slice A7 x.xLikes.length cc7) := hx 7 _ rfl
  have e0 := c0; clear c0
  have e1 := c1; clear c1
  have e2 := c2; clear c2
  have e3 := c3; clear c3
  have e4 := c4; clear c4
  have e5 := c5; clear c5
  have e6 := c6; clear c6
  have e7 := c7; clear c7
  have c0 : W.cell? ⟨byy, oy, none⟩ = some (.int .i64 y.xNumber) := hy 0 _ rfl; have c1 : W.cell? ⟨byy, oy + 1, none⟩ = some (.int .i64 y.xSender) := hy 1 _ rfl; have c2 : W.cell? ⟨byy, oy + 2, none⟩ = some (.int .i64 y.xAt) := hy 2 _ rfl; have c3 : W.cell? ⟨byy, oy + 3, none⟩ = some (.string y.xText) := hy 3 _ rfl; have c4 : W.cell? ⟨byy, oy + 4, none⟩ = some (.int .i64 y.xEdits) := hy 4 _ rfl; have c5 : W.cell? ⟨byy, oy + 5, none⟩ = some (.bool y.xGone) := hy 5 _ rfl; have c6 : W.cell? ⟨byy, oy + 6, none⟩ = some (.int .i64 y.xReply) := hy 6 _ rfl; have c7 : W.cell? ⟨byy, oy + 7, none⟩ = some (.slice Ap7 y.xLikes.length cp7) := hy 7 _ rfl
  have hblx := World.block_lt_of_cell? W _ e0
  have hbly := World.block_lt_of_cell? W _ c0
  have hxx := (After.cells W.heap.size W).1
  clear hr hs hx hy r7 rp7 m7 mp7 l7 lp7
  obtain ⟨a0, a1, a2, a3, a4, a5, a6, a7⟩ := x
  obtain ⟨b0, b1, b2, b3, b4, b5, b6, b7⟩ := y
  simp only at *
  by_cases h0 : a0 = b0
  rotate_left
  · have HX := Lib.hid (show decide (Message.mk a0 a1 a2 a3 a4 a5 a6 a7 = Message.mk b0 b1 b2 b3 b4 b5 b6 b7) = false from by simp [h0])
    have g0 : (a0 == b0) = false := by simp [h0]
    clear h0
    go_enter Try.func171, Try.ntmps171
    go_wp2_with fail
    try simp only [List.append_eq, List.cons_append, List.nil_append]
    refine wp_region_after (W.heap.size) (by kernel_rfl) (by kernel_rfl) ?_; (repeat (go_big_quiet_step ((go_at_call 206; with_reducible exact Calls.after (Nat.le_refl _) (HS _ (After.b _)))))); refine wpQuiet_nil ?_; intro w1 hb1
    go_wp2
    go_ret
    exact ⟨by rw [HX.out]; rfl, hb1⟩
  subst h0
  by_cases h1 : a1 = b1
  rotate_left
  · have HX := Lib.hid (show decide (Message.mk a0 a1 a2 a3 a4 a5 a6 a7 = Message.mk a0 b1 b2 b3 b4 b5 b6 b7) = false from by simp [h1])
    have g1 : (a1 == b1) = false := by simp [h1]
    clear h1
    go_enter Try.func171, Try.ntmps171
    go_wp2_with fail
    try simp only [List.append_eq, List.cons_append, List.nil_append]
    refine wp_region_after (W.heap.size) (by kernel_rfl) (by kernel_rfl) ?_; (repeat (go_big_quiet_step ((go_at_call 206; with_reducible exact Calls.after (Nat.le_refl _) (HS _ (After.b _)))))); refine wpQuiet_nil ?_; intro w1 hb1
    go_wp2
    go_ret
    exact ⟨by rw [HX.out]; rfl, hb1⟩
  subst h1
  by_cases h2 : a2 = b2
  rotate_left
  · have HX := Lib.hid (show decide (Message.mk a0 a1 a2 a3 a4 a5 a6 a7 = Message.mk a0 a1 b2 b3 b4 b5 b6 b7) = false from by simp [h2])
    have g2 : (a2 == b2) = false := by simp [h2]
    clear h2
    go_enter Try.func171, Try.ntmps171
    go_wp2_with fail
    try simp only [List.append_eq, List.cons_append, List.nil_append]
    refine wp_region_after (W.heap.size) (by kernel_rfl) (by kernel_rfl) ?_; (repeat (go_big_quiet_step ((go_at_call 206; with_reducible exact Calls.after (Nat.le_refl _) (HS _ (After.b _)))))); refine wpQuiet_nil ?_; intro w1 hb1
    go_wp2
    go_ret
    exact ⟨by rw [HX.out]; rfl, hb1⟩
  subst h2
  by_cases h3 : a3 = b3
  rotate_left
  · have HX := Lib.hid (show decide (Message.mk a0 a1 a2 a3 a4 a5 a6 a7 = Message.mk a0 a1 a2 b3 b4 b5 b6 b7) = false from by simp [h3])
    have g3 : (a3.toList == b3.toList) = false := by rw [beq_eq_false_iff_ne]; exact fun e => h3 (bytes_inj.1 e)
    clear h3
    go_enter Try.func171, Try.ntmps171
    go_wp2_with fail
    try simp only [List.append_eq, List.cons_append, List.nil_append]
    refine wp_region_after (W.heap.size) (by kernel_rfl) (by kernel_rfl) ?_; (repeat (go_big_quiet_step ((go_at_call 206; with_reducible exact Calls.after (Nat.le_refl _) (HS _ (After.b _)))))); refine wpQuiet_nil ?_; intro w1 hb1
    go_wp2
    go_ret
    exact ⟨by rw [HX.out]; rfl, hb1⟩
  subst h3
  by_cases h4 : a4 = b4
  rotate_left
  · have HX := Lib.hid (show decide (Message.mk a0 a1 a2 a3 a4 a5 a6 a7 = Message.mk a0 a1 a2 a3 b4 b5 b6 b7) = false from by simp [h4])
    have g4 : (a4 == b4) = false := by simp [h4]
    clear h4
    go_enter Try.func171, Try.ntmps171
    go_wp2_with fail
    try simp only [List.append_eq, List.cons_append, List.nil_append]
    refine wp_region_after (W.heap.size) (by kernel_rfl) (by kernel_rfl) ?_; (repeat (go_big_quiet_step ((go_at_call 206; with_reducible exact Calls.after (Nat.le_refl _) (HS _ (After.b _)))))); refine wpQuiet_nil ?_; intro w1 hb1
    go_wp2
    go_ret
    exact ⟨by rw [HX.out]; rfl, hb1⟩
  subst h4
  by_cases h5 : a5 = b5
  rotate_left
  · have HX := Lib.hid (show decide (Message.mk a0 a1 a2 a3 a4 a5 a6 a7 = Message.mk a0 a1 a2 a3 a4 b5 b6 b7) = false from by simp [h5])
    have g5 : (a5 == b5) = false := by simp [h5]
    clear h5
    go_enter Try.func171, Try.ntmps171
    go_wp2_with fail
    try simp only [List.append_eq, List.cons_append, List.nil_append]
    refine wp_region_after (W.heap.size) (by kernel_rfl) (by kernel_rfl) ?_; (repeat (go_big_quiet_step ((go_at_call 206; with_reducible exact Calls.after (Nat.le_refl _) (HS _ (After.b _)))))); refine wpQuiet_nil ?_; intro w1 hb1
    go_wp2
    go_ret
    exact ⟨by rw [HX.out]; rfl, hb1⟩
  subst h5
  by_cases h6 : a6 = b6
  rotate_left
  · have HX := Lib.hid (show decide (Message.mk a0 a1 a2 a3 a4 a5 a6 a7 = Message.mk a0 a1 a2 a3 a4 a5 b6 b7) = false from by simp [h6])
    have g6 : (a6 == b6) = false := by simp [h6]
    clear h6
    go_enter Try.func171, Try.ntmps171
    go_wp2_with fail
    try simp only [List.append_eq, List.cons_append, List.nil_append]
    refine wp_region_after (W.heap.size) (by kernel_rfl) (by kernel_rfl) ?_; (repeat (go_big_quiet_step ((go_at_call 206; with_reducible exact Calls.after (Nat.le_refl _) (HS _ (After.b _)))))); refine wpQuiet_nil ?_; intro w1 hb1
    go_wp2
    go_ret
    exact ⟨by rw [HX.out]; rfl, hb1⟩
  subst h6
  have HX := Lib.hid (show decide (Message.mk a0 a1 a2 a3 a4 a5 a6 a7 = Message.mk a0 a1 a2 a3 a4 a5 a6 b7) = decide (a7 = b7) from by simp)
  cases hd : decide (a7 = b7)
  all_goals
    rw [hd] at HS
    go_enter Try.func171, Try.ntmps171
    go_wp2_with fail
    try simp only [List.append_eq, List.cons_append, List.nil_append]
    refine wp_region_after (W.heap.size) (by kernel_rfl) (by kernel_rfl) ?_; (repeat (go_big_quiet_step ((go_at_call 206; with_reducible exact Calls.after (Nat.le_refl _) (HS _ (After.b _)))))); refine wpQuiet_nil ?_; intro w1 hb1
    go_wp2
    go_ret
    exact ⟨by rw [HX.out, hd]; rfl, hb1⟩
set_option maxHeartbeats 1600000 in
set_option maxRecDepth 100000 in
theorem EqualFunc_same (l m : List Message) (A A' : Option Addr) (c c' : Nat) (W : World) (hr : Ro W (Lo W.heap.size) (Message.s true l) (.slice A l.length c)) (hs : Ro W (Lo W.heap.size) (Message.s true m) (.slice A' m.length c')) (hc : c ≤ maxLen) (hlc : l.length ≤ c) (hc' : c' ≤ maxLen) (hmc : m.length ≤ c') :
    Calls Try.prog 105 #[.slice A l.length c, .slice A' m.length c', .func (.func 106) #[] #[]] W fun e w' => e = .returned (.bool (decide (l = m))) ∧ Below W.heap.size W w' := by
  unfold maxLen at hc hc'
  by_cases hl : l.length = m.length
  · have HL := Lib.hid hl
    rw [← hl] at hs hmc ⊢
    clear hl
    generalize hn : l.length = n at *
    have HN := Lib.hid hn
    clear hn
    have hlen : n ≤ 9223372036854775807 := by omega
    go_enter Try.func105, Try.ntmps105
    go_wp2
    go_loopw [17] (fun i wr => ∃ j : Nat, j ≤ n ∧ i = .int .i64 j ∧ Hid (l.take j = m.take j) ∧ Below W.heap.size W wr) (fun i _ => n - (intOf i).toNat)
    case atStart => exact ⟨0, by omega, rfl, Lib.hid (by simp), Below.refl _ _⟩
    case round =>
      obtain ⟨j, hj, rfl, HQ, hb⟩ := hrel
      by_cases hlt : j < n
      · obtain ⟨x, hx⟩ := get_lt (l := l) (k := j) (by rw [HN.out]; exact hlt)
        obtain ⟨y, hy⟩ := get_lt (l := m) (k := j) (by rw [← HL.out]; exact hlt)
        obtain ⟨b, off, A7, cc7, rfl, hbl, hru, hcl⟩ := msg_at hr hx
        obtain ⟨b', off', Ap7, cp7, rfl, hbl', hru', hcl'⟩ := msg_at hs hy
        have c0 : wr.cell? ⟨b, off + j * 8, none⟩ = some (.int .i64 x.xNumber) := hcl wr hb 0 _ rfl; have c1 : wr.cell? ⟨b, off + j * 8 + 1, none⟩ = some (.int .i64 x.xSender) := hcl wr hb 1 _ rfl; have c2 : wr.cell? ⟨b, off + j * 8 + 2, none⟩ = some (.int .i64 x.xAt) := hcl wr hb 2 _ rfl; have c3 : wr.cell? ⟨b, off + j * 8 + 3, none⟩ = some (.string x.xText) := hcl wr hb 3 _ rfl; have c4 : wr.cell? ⟨b, off + j * 8 + 4, none⟩ = some (.int .i64 x.xEdits) := hcl wr hb 4 _ rfl; have c5 : wr.cell? ⟨b, off + j * 8 + 5, none⟩ = some (.bool x.xGone) := hcl wr hb 5 _ rfl; have c6 : wr.cell? ⟨b, off + j * 8 + 6, none⟩ = some (.int .i64 x.xReply) := hcl wr hb 6 _ rfl; have c7 : wr.cell? ⟨b, off + j * 8 + 7, none⟩ = some (.slice A7 x.xLikes.length cc7) := hcl wr hb 7 _ rfl
        have e0 := c0; clear c0
        have e1 := c1; clear c1
        have e2 := c2; clear c2
        have e3 := c3; clear c3
        have e4 := c4; clear c4
        have e5 := c5; clear c5
        have e6 := c6; clear c6
        have e7 := c7; clear c7
        have c0 : wr.cell? ⟨b', off' + j * 8, none⟩ = some (.int .i64 y.xNumber) := hcl' wr hb 0 _ rfl; have c1 : wr.cell? ⟨b', off' + j * 8 + 1, none⟩ = some (.int .i64 y.xSender) := hcl' wr hb 1 _ rfl; have c2 : wr.cell? ⟨b', off' + j * 8 + 2, none⟩ = some (.int .i64 y.xAt) := hcl' wr hb 2 _ rfl; have c3 : wr.cell? ⟨b', off' + j * 8 + 3, none⟩ = some (.string y.xText) := hcl' wr hb 3 _ rfl; have c4 : wr.cell? ⟨b', off' + j * 8 + 4, none⟩ = some (.int .i64 y.xEdits) := hcl' wr hb 4 _ rfl; have c5 : wr.cell? ⟨b', off' + j * 8 + 5, none⟩ = some (.bool y.xGone) := hcl' wr hb 5 _ rfl; have c6 : wr.cell? ⟨b', off' + j * 8 + 6, none⟩ = some (.int .i64 y.xReply) := hcl' wr hb 6 _ rfl; have c7 : wr.cell? ⟨b', off' + j * 8 + 7, none⟩ = some (.slice Ap7 y.xLikes.length cp7) := hcl' wr hb 7 _ rfl
        have hblr : b < wr.heap.size := Nat.lt_of_lt_of_le hbl hb.size
        have hblr' : b' < wr.heap.size := Nat.lt_of_lt_of_le hbl' hb.size
        have hbls : b' < wr.heap.size + 1 := by omega
        have HS := fun (w : World) (hbw : Below W.heap.size W w) => impl_sameMessage x y _ _ w (rol_to hru hbw) (rol_to hru' hbw)
        have HX := Lib.hid hx
        have HY := Lib.hid hy
        clear hr hs hx hy hcl hcl' hru hru'
        by_cases hxy : x = y
        · have HT := Lib.hid (take_eq_succ HQ.out HX.out HY.out hxy)
          rw [decide_eq_true hxy] at HS
          clear hxy
          go_wp2_with fail
          refine (HS _ ((hb.alloc hb.size _).alloc (by have := hb.size; simp; omega) _)).mono ?_
          rintro e w1 ⟨rfl, hb1⟩
          go_wp2
          go_roundw
          case rel => exact ⟨j + 1, by omega, by go_num, HT, ((hb.alloc hb.size _).alloc (by have := hb.size; simp; omega) _).trans (hb1.mono (by have := hb.size; simp; omega))⟩
          case measure => simp [intOf]; omega
        · have HT := Lib.hid (eq_no HX.out HY.out hxy)
          rw [decide_eq_false hxy] at HS
          clear hxy
          go_wp2_with fail
          refine (HS _ ((hb.alloc hb.size _).alloc (by have := hb.size; simp; omega) _)).mono ?_
          rintro e w1 ⟨rfl, hb1⟩
          go_wp2
          go_ret
          exact ⟨by rw [HT.out]; rfl, ((hb.alloc hb.size _).alloc (by have := hb.size; simp; omega) _).trans (hb1.mono (by have := hb.size; simp; omega))⟩
      · have HT := Lib.hid (take_all (l := l) (m := m) (j := j) (by have := HN.out; omega) (by have := HL.out; omega) HQ.out)
        clear hr hs
        go_wp2
        go_ret
        exact ⟨by rw [HT.out]; rfl, hb⟩
  · have HT := Lib.hid (len_no hl)
    have hB : ((l.length : Int) != (m.length : Int)) = true := by rw [bne_iff_ne]; omega
    have h1 : l.length ≤ 9223372036854775807 := by omega
    have h2 : m.length ≤ 9223372036854775807 := by omega
    clear hr hs
    go_enter Try.func105, Try.ntmps105
    go_wp2
    go_ret
    exact ⟨by rw [HT.out]; rfl, Below.refl _ _⟩
end Go.Proofs.Ytmofbfeclecdoaa

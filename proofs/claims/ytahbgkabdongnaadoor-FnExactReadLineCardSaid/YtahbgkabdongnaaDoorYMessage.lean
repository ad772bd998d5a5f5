/- Walks of the laws' own functions on Message. -/
import Derived.Test.YtahbgkabdongnaaDoorData
import Derived.Test.YtahbgkabdongnaaDoorText
import Derived.StillTailTactics
namespace Go.Proofs.YtahbgkabdongnaaDoor
open Go.ChangeShapes Go.WideShapes Go.ChangeAt Go.RowKit Go.Dt
set_option linter.unusedVariables false
set_option linter.unusedSimpArgs false

def Message.z (x : Message) : Nat := x.xText.size + x.xLikes.length
def Message.zs (l : List Message) : Nat := l.length + (l.map fun y => Message.z y).sum
set_option maxHeartbeats 800000 in
theorem laws_szMessage (x : Message) (us : List Value) (left : Int) (W : World) (hr : RoL W (Lo W.heap.size) (Message.d false x) us) (hw : Message.wf x) (h0 : 0 ≤ left) (h1 : left ≤ 1048576) :
    Calls Tryd.prog 17 #[.agg us.toArray, .int .i64 left] W fun e w' => e = .returned (.int .i64 (szr left (Message.z x))) ∧ Below W.heap.size W w' := by
  obtain ⟨A7, c7, rfl, r7, l7, m7⟩ := Message.cells hr
  have hz : Message.z x = x.xText.size + x.xLikes.length := rfl
  have b0 : x.xText.size ≤ 9223372036854775807 := by have := hw; simp only [Message.wf, maxLen] at this; omega
  have b1 : True := trivial
  by_cases g0 : ((x.xText.size : Nat) : Int) ≤ left
  · have G0 := g0
    by_cases g1 : ((x.xLikes.length : Nat) : Int) ≤ left - (x.xText.size : Nat)
    · have G1 := g1
      have H := Lib.hid (show szr left (Message.z x) = left - (x.xText.size : Nat) - (x.xLikes.length : Nat) from by rw [szr_yes (by rw [hz]; push_cast; omega), hz] <;> (try push_cast) <;> omega)
      have S1 := Lib.hid (szr_yes (left := left - (x.xText.size : Nat)) g1)
      clear hz hw
      clear G0
      clear G1
      go_enter Tryd.func17, Tryd.ntmps17
      go_wp2_with fail
      refine (laws_szInt64S _ _ _ _ _ (by simp only [maxLen] at m7; omega) (by omega) (by omega)).mono ?_
      rintro e w1 ⟨rfl, rfl⟩
      rw [S1.out]
      go_wp2
      go_ret
      exact ⟨by rw [H.out]; rfl, (by (repeat (first | with_reducible assumption | with_reducible exact Below.refl _ _ | with_reducible refine Below.setCell ?_ ?_ _ | with_reducible refine Below.alloc ?_ ?_ _ | with_reducible refine Below.drew ?_ | with_reducible refine below_drewN ?_ _ | omega | (simp; done) | (simp; omega))); all_goals first | omega | (simp; done) | (simp; omega))⟩
    · have G1 := g1
      have H := Lib.hid (show szr left (Message.z x) = -1 from szr_no (by rw [hz]; push_cast; omega))
      have S1 := Lib.hid (szr_no (left := left - (x.xText.size : Nat)) g1)
      clear hz hw
      clear G0
      clear G1
      go_enter Tryd.func17, Tryd.ntmps17
      go_wp2_with fail
      refine (laws_szInt64S _ _ _ _ _ (by simp only [maxLen] at m7; omega) (by omega) (by omega)).mono ?_
      rintro e w1 ⟨rfl, rfl⟩
      rw [S1.out]
      go_wp2
      go_ret
      exact ⟨by rw [H.out]; rfl, (by (repeat (first | with_reducible assumption | with_reducible exact Below.refl _ _ | with_reducible refine Below.setCell ?_ ?_ _ | with_reducible refine Below.alloc ?_ ?_ _ | with_reducible refine Below.drew ?_ | with_reducible refine below_drewN ?_ _ | omega | (simp; done) | (simp; omega))); all_goals first | omega | (simp; done) | (simp; omega))⟩
  · have G0 := g0
    have H := Lib.hid (show szr left (Message.z x) = -1 from szr_no (by rw [hz]; push_cast; omega))
    clear hz hw
    clear G0
    go_enter Tryd.func17, Tryd.ntmps17
    go_wp2
    go_ret
    exact ⟨by rw [H.out]; rfl, (by (repeat (first | with_reducible assumption | with_reducible exact Below.refl _ _ | with_reducible refine Below.setCell ?_ ?_ _ | with_reducible refine Below.alloc ?_ ?_ _ | with_reducible refine Below.drew ?_ | with_reducible refine below_drewN ?_ _ | omega | (simp; done) | (simp; omega))); all_goals first | omega | (simp; done) | (simp; omega))⟩
set_option maxHeartbeats 800000 in
theorem laws_szMessageS (l : List Message) (A : Option Addr) (c : Nat) (left : Int) (W : World) (hr : Ro W (Lo W.heap.size) (Message.s false l) (.slice A l.length c)) (hw : ∀ y ∈ l, Message.wf y) (hlc : l.length ≤ c) (hm : c ≤ maxLen) (h0 : 0 ≤ left) (h1 : left ≤ 1048576) :
    Calls Tryd.prog 59 #[.slice A l.length c, .int .i64 left] W fun e w' => e = .returned (.int .i64 (szr left (Message.zs l))) ∧ Below W.heap.size W w' := by
  have hlen : l.length ≤ 9223372036854775807 := by simp only [maxLen] at hm; omega
  have hz : Message.zs l = l.length + (l.map fun y => Message.z y).sum := rfl
  generalize hn : l.length = n at *
  have HN := Lib.hid hn
  clear hn
  by_cases h : ((n : Nat) : Int) ≤ left
  · have HZ := Lib.hid hz
    clear hz
    go_enter Tryd.func59, Tryd.ntmps59
    go_wp2
    go_loopw [1, 5] (fun q i wr => ∃ j : Nat, j ≤ n ∧ i = .int .i64 j ∧ (∃ r : Int, q = .int .i64 r ∧ Hid (r = left - n - (((l.take j).map fun y => Message.z y).sum : Nat)) ∧ 0 ≤ r ∧ r ≤ 1048576) ∧ Below W.heap.size W wr) (fun _ i _ => n - (intOf i).toNat)
    case atStart => exact ⟨0, by omega, rfl, ⟨left - n, rfl, Lib.hid (by simp), by omega, by omega⟩, Below.refl _ _⟩
    case round =>
      obtain ⟨j, hj, rfl, ⟨r, rfl, HR, hr0, hr1⟩, hb⟩ := hrel
      by_cases hlt : j < n
      · obtain ⟨x, hx⟩ := get_lt (l := l) (k := j) (by rw [HN.out]; exact hlt)
        obtain ⟨b, off, us, rfl, hbl, hul, hru, hcl⟩ := Ro.later hr hb (Nat.le_refl _) (map_at (f := Message.d false) hx)
        have HX := Lib.hid hx
        have HWX := hw x (List.mem_of_getElem? hx)
        obtain ⟨u0, u1, u2, u3, u4, u5, u6, u7, rfl⟩ := list8 hul
        have k0 : wr.cell? ⟨b, off + j * 8, none⟩ = some u0 := hcl 0 _ rfl; have k1 : wr.cell? ⟨b, off + j * 8 + 1, none⟩ = some u1 := hcl 1 _ rfl; have k2 : wr.cell? ⟨b, off + j * 8 + 2, none⟩ = some u2 := hcl 2 _ rfl; have k3 : wr.cell? ⟨b, off + j * 8 + 3, none⟩ = some u3 := hcl 3 _ rfl; have k4 : wr.cell? ⟨b, off + j * 8 + 4, none⟩ = some u4 := hcl 4 _ rfl; have k5 : wr.cell? ⟨b, off + j * 8 + 5, none⟩ = some u5 := hcl 5 _ rfl; have k6 : wr.cell? ⟨b, off + j * 8 + 6, none⟩ = some u6 := hcl 6 _ rfl; have k7 : wr.cell? ⟨b, off + j * 8 + 7, none⟩ = some u7 := hcl 7 _ rfl
        clear hcl hx
        have hru' := rol_to hru hb
        have HT := Lib.hid (take_sum (fun y : Message => Message.z y) HX.out)
        go_wp2_with fail
        refine (laws_szMessage x [u0, u1, u2, u3, u4, u5, u6, u7] r wr hru' HWX hr0 hr1).mono ?_
        rintro e w1 ⟨rfl, hb1⟩
        have hB := below_step hb hb1 hb.size
        by_cases g : ((Message.z x : Nat) : Int) ≤ r
        · rw [szr_yes g]
          go_wp2
          go_roundw
          case rel => exact ⟨j + 1, by omega, by go_num, ⟨_, rfl, Lib.hid (by have h2 := HT.out; have h3 := HR.out; rw [h2, h3]; push_cast; omega), by omega, by omega⟩, hB⟩
          case measure => simp [intOf]; omega
        · have H := Lib.hid (szr_over (l := l) (fun y : Message => Message.z y) HX.out HT.out HR.out g HZ.out)
          rw [szr_no g]
          go_wp2
          go_ret
          exact ⟨by rw [H.out]; rfl, hB⟩
      · obtain rfl : j = n := by omega
        have H := Lib.hid (show szr left (Message.zs l) = r from by have h3 := HR.out; rw [List.take_of_length_le (by have := HN.out; omega)] at h3; rw [szr_yes (by rw [HZ.out]; push_cast; omega), HZ.out, h3]; push_cast; omega)
        clear hr
        go_wp2
        go_ret
        exact ⟨by rw [H.out]; rfl, hb⟩
  · have H := Lib.hid (show szr left (Message.zs l) = -1 from szr_no (by rw [hz]; push_cast; omega))
    clear hz hr
    go_enter Tryd.func59, Tryd.ntmps59
    go_wp2
    go_ret
    exact ⟨by rw [H.out]; rfl, Below.refl _ _⟩

theorem Message.dec (x y : Message) : decide (x = y) = (decide (x.xNumber = y.xNumber) && decide (x.xSender = y.xSender) && decide (x.xAt = y.xAt) && decide (x.xText = y.xText) && decide (x.xEdits = y.xEdits) && decide (x.xGone = y.xGone) && decide (x.xReply = y.xReply) && decide (x.xLikes = y.xLikes)) := by
  cases x; cases y
  simp only [Message.mk.injEq, Bool.decide_and, Bool.and_assoc]

set_option maxHeartbeats 1000000 in
theorem laws_eqMessage (x y : Message) (us vs : List Value) (W : World) (hr : RoL W (Lo W.heap.size) (Message.d true x) us) (hs : RoL W (Lo W.heap.size) (Message.d true y) vs) :
    Calls Tryd.prog 21 #[.agg us.toArray, .agg vs.toArray] W fun e w' => e = .returned (.bool (decide (x = y))) ∧ Below W.heap.size W w' := by
  obtain ⟨A7, c7, rfl, r7, l7, m7⟩ := Message.cells hr
  obtain ⟨Ap7, cp7, rfl, rp7, lp7, mp7⟩ := Message.cells hs
  have HD := Lib.hid (Message.dec x y)
  go_enter Tryd.func21, Tryd.ntmps21
  go_wp2_with (first | (go_at_call 54; (with_reducible refine (laws_eqInt64S x.xLikes y.xLikes _ _ _ _ _ (ro_to r7 (by (repeat (first | with_reducible assumption | with_reducible exact Below.refl _ _ | with_reducible refine Below.setCell ?_ ?_ _ | with_reducible refine Below.alloc ?_ ?_ _ | with_reducible refine Below.drew ?_ | with_reducible refine below_drewN ?_ _ | omega | (simp; done) | (simp; omega))); all_goals first | omega | (simp; done) | (simp; omega))) (ro_to rp7 (by (repeat (first | with_reducible assumption | with_reducible exact Below.refl _ _ | with_reducible refine Below.setCell ?_ ?_ _ | with_reducible refine Below.alloc ?_ ?_ _ | with_reducible refine Below.drew ?_ | with_reducible refine below_drewN ?_ _ | omega | (simp; done) | (simp; omega))); all_goals first | omega | (simp; done) | (simp; omega))) m7 mp7 l7 lp7).mono ?_); rintro e w1 ⟨rfl, hbLikes⟩; obtain ⟨hc_hbLikes, hf_hbLikes⟩ := bcell hbLikes; have hz0_hbLikes : W.heap.size < w1.heap.size := (by have hs := hbLikes.size; (try simp at hs) <;> omega); have hz1_hbLikes : W.heap.size + 1 < w1.heap.size := (by have hs := hbLikes.size; (try simp at hs) <;> omega); have hB_hbLikes : Below W.heap.size W w1 := Below.trans (by (repeat (first | with_reducible assumption | with_reducible exact Below.refl _ _ | with_reducible refine Below.setCell ?_ ?_ _ | with_reducible refine Below.alloc ?_ ?_ _ | with_reducible refine Below.drew ?_ | with_reducible refine below_drewN ?_ _ | omega | (simp; done) | (simp; omega))); all_goals first | omega | (simp; done) | (simp; omega)) (hbLikes.mono (by first | omega | (simp; done) | (simp; omega)))))
  all_goals (go_ret; exact ⟨by rw [HD.out]; simp_all [bytes_inj], (by (repeat (first | with_reducible assumption | with_reducible exact Below.refl _ _ | with_reducible refine Below.setCell ?_ ?_ _ | with_reducible refine Below.alloc ?_ ?_ _ | with_reducible refine Below.drew ?_ | with_reducible refine below_drewN ?_ _ | omega | (simp; done) | (simp; omega))); all_goals first | omega | (simp; done) | (simp; omega))⟩)
set_option maxHeartbeats 1000000 in
set_option maxRecDepth 100000 in
theorem laws_eqMessageS (l m : List Message) (A A' : Option Addr) (c c' : Nat) (W : World) (hr : Ro W (Lo W.heap.size) (Message.s true l) (.slice A l.length c)) (hs : Ro W (Lo W.heap.size) (Message.s true m) (.slice A' m.length c')) (hc : c ≤ maxLen) (hc' : c' ≤ maxLen) (hlc : l.length ≤ c) (hmc : m.length ≤ c') :
    Calls Tryd.prog 69 #[.slice A l.length c, .slice A' m.length c'] W fun e w' => e = .returned (.bool (decide (l = m))) ∧ Below W.heap.size W w' := by
  have hlen : l.length ≤ 9223372036854775807 := by simp only [maxLen] at hc; omega
  have hlen' : m.length ≤ 9223372036854775807 := by simp only [maxLen] at hc'; omega
  clear hc hc' hlc hmc
  by_cases hl : l.length = m.length
  · have HL := Lib.hid hl
    rw [← hl] at hs ⊢
    clear hl hlen'
    generalize hn : l.length = n at *
    have HN := Lib.hid hn
    clear hn
    go_enter Tryd.func69, Tryd.ntmps69
    go_wp2
    go_loopw [5] (fun i wr => ∃ j : Nat, j ≤ n ∧ i = .int .i64 j ∧ l.take j = m.take j ∧ Below W.heap.size W wr) (fun i _ => n - (intOf i).toNat)
    case atStart => exact ⟨0, by omega, rfl, by simp, Below.refl _ _⟩
    case round =>
      obtain ⟨j, hj, rfl, hq, hb⟩ := hrel
      have HQ := Lib.hid hq
      clear hq
      by_cases hlt : j < n
      · obtain ⟨x, hx⟩ := get_lt (l := l) (k := j) (by rw [HN.out]; exact hlt)
        obtain ⟨y, hy⟩ := get_lt (l := m) (k := j) (by rw [← HL.out]; exact hlt)
        obtain ⟨b, off, us, rfl, hbl, hul, hru, hcl⟩ := Ro.later hr hb (Nat.le_refl _) (map_at (f := Message.d true) hx)
        obtain ⟨b', off', vs, rfl, hbl', hul', hru', hcl'⟩ := Ro.later hs hb (Nat.le_refl _) (map_at (f := Message.d true) hy)
        have HX := Lib.hid hx
        have HY := Lib.hid hy
        obtain ⟨u0, u1, u2, u3, u4, u5, u6, u7, rfl⟩ := list8 hul
        obtain ⟨v0, v1, v2, v3, v4, v5, v6, v7, rfl⟩ := list8 hul'
        have k0 : wr.cell? ⟨b, off + j * 8, none⟩ = some u0 := hcl 0 _ rfl; have k1 : wr.cell? ⟨b, off + j * 8 + 1, none⟩ = some u1 := hcl 1 _ rfl; have k2 : wr.cell? ⟨b, off + j * 8 + 2, none⟩ = some u2 := hcl 2 _ rfl; have k3 : wr.cell? ⟨b, off + j * 8 + 3, none⟩ = some u3 := hcl 3 _ rfl; have k4 : wr.cell? ⟨b, off + j * 8 + 4, none⟩ = some u4 := hcl 4 _ rfl; have k5 : wr.cell? ⟨b, off + j * 8 + 5, none⟩ = some u5 := hcl 5 _ rfl; have k6 : wr.cell? ⟨b, off + j * 8 + 6, none⟩ = some u6 := hcl 6 _ rfl; have k7 : wr.cell? ⟨b, off + j * 8 + 7, none⟩ = some u7 := hcl 7 _ rfl
        have k0' : wr.cell? ⟨b', off' + j * 8, none⟩ = some v0 := hcl' 0 _ rfl; have k1' : wr.cell? ⟨b', off' + j * 8 + 1, none⟩ = some v1 := hcl' 1 _ rfl; have k2' : wr.cell? ⟨b', off' + j * 8 + 2, none⟩ = some v2 := hcl' 2 _ rfl; have k3' : wr.cell? ⟨b', off' + j * 8 + 3, none⟩ = some v3 := hcl' 3 _ rfl; have k4' : wr.cell? ⟨b', off' + j * 8 + 4, none⟩ = some v4 := hcl' 4 _ rfl; have k5' : wr.cell? ⟨b', off' + j * 8 + 5, none⟩ = some v5 := hcl' 5 _ rfl; have k6' : wr.cell? ⟨b', off' + j * 8 + 6, none⟩ = some v6 := hcl' 6 _ rfl; have k7' : wr.cell? ⟨b', off' + j * 8 + 7, none⟩ = some v7 := hcl' 7 _ rfl
        have hru1 := rol_to hru (Below.drew hb)
        have hru2 := rol_to hru' (Below.drew hb)
        clear hcl hcl' hx hy hr hs hru hru' hul hul'
        go_wp2_with fail
        go_still_tail 8, (by kernel_rfl)
        change wpList _ _ _ _ _ wr.drew
        go_wp2_with fail
        refine (laws_eqMessage x y [u0, u1, u2, u3, u4, u5, u6, u7] [v0, v1, v2, v3, v4, v5, v6, v7] _ hru1 hru2).mono ?_
        rintro e w1 ⟨rfl, hb1⟩
        have hB : Below W.heap.size W w1 := hb.trans (Below.mono (Below.trans (Below.drew (Below.refl _ _)) hb1) hb.size)
        by_cases hxy : x = y
        · have HT := Lib.hid (take_eq_succ HQ.out HX.out HY.out hxy)
          rw [decide_eq_true hxy]
          clear hxy
          go_wp2
          go_roundw
          case rel => exact ⟨j + 1, by omega, by go_num, HT.out, hB⟩
          case measure => simp [intOf]; omega
        · have HT := Lib.hid (eq_no HX.out HY.out hxy)
          rw [decide_eq_false hxy]
          clear hxy
          go_wp2
          go_ret
          exact ⟨by rw [HT.out]; rfl, hB⟩
      · have HT := Lib.hid (take_all (l := l) (m := m) (j := j) (by have := HN.out; omega) (by have := HL.out; omega) HQ.out)
        clear hr hs
        go_wp2
        go_ret
        exact ⟨by rw [HT.out]; rfl, hb⟩
  · have HT := Lib.hid (len_no hl)
    have hB : ((l.length : Int) != (m.length : Int)) = true := by rw [bne_iff_ne]; omega
    clear hr hs
    go_enter Tryd.func69, Tryd.ntmps69
    go_wp2
    go_ret
    exact ⟨by rw [HT.out]; rfl, Below.refl _ _⟩

set_option maxHeartbeats 1600000 in
set_option maxRecDepth 100000 in
theorem laws_toMessage (x : Message) (us : List Value) (W : World) (hr : RoL W (Lo W.heap.size) (Message.d false x) us) (hz : Message.z x ≤ 1048576) :
    Calls Tryd.prog 19 #[.agg us.toArray] W (MadeL W (Message.d true x)) := by
  obtain ⟨A7, c7, rfl, r7, l7, m7⟩ := Message.cells hr
  have hz' := hz
  unfold Message.z at hz'
  clear hz
  have hzLikes : x.xLikes.length ≤ 1048576 := by omega
  clear hz'
  go_enter Tryd.func19, Tryd.ntmps19
  go_wp2_with fail
  refine (laws_toInt64S x.xLikes _ _ _ (ro_to r7 (by (repeat (first | with_reducible assumption | with_reducible exact Below.refl _ _ | with_reducible refine Below.setCell ?_ ?_ _ | with_reducible refine Below.alloc ?_ ?_ _ | with_reducible refine Below.drew ?_ | with_reducible refine below_drewN ?_ _ | omega | (simp; done) | (simp; omega))); all_goals first | omega | (simp; done) | (simp; omega))) hzLikes).mono ?_
  rintro e w1 ⟨v7, F7, rfl, hO7, hb1, hG1⟩
  obtain ⟨B7, k7, rfl, lo7, mo7⟩ := hO7.shape
  simp only [List.length_map] at hO7 lo7 ⊢
  have hF7 : ∀ b, F7 b → W.heap.size + 3 ≤ b := fun b hb => by have h := hG1 b hb; (try simp at h) <;> omega
  obtain ⟨hc1, hf1⟩ := bcell hb1
  have hy1_0 : W.heap.size < w1.heap.size := (by have hs := hb1.size; (try simp at hs) <;> omega)
  have hy1_1 : W.heap.size + 1 < w1.heap.size := (by have hs := hb1.size; (try simp at hs) <;> omega)
  have hy1_2 : W.heap.size + 2 < w1.heap.size := (by have hs := hb1.size; (try simp at hs) <;> omega)
  have hB1 : Below W.heap.size W w1 := Below.trans (by (repeat (first | with_reducible assumption | with_reducible exact Below.refl _ _ | with_reducible refine Below.setCell ?_ ?_ _ | with_reducible refine Below.alloc ?_ ?_ _ | with_reducible refine Below.drew ?_ | with_reducible refine below_drewN ?_ _ | omega | (simp; done) | (simp; omega))); all_goals first | omega | (simp; done) | (simp; omega)) (hb1.mono (by first | omega | (simp; done) | (simp; omega)))
  have hL7_ : ∀ b, F7 b → b < w1.heap.size := hO7.lt
  go_wp2
  exact bodyPost_ret (v := .agg #[.int .i64 x.xNumber, .int .i64 x.xSender, .int .i64 x.xAt, .string x.xText, .int .i64 x.xEdits, .bool x.xGone, .int .i64 x.xReply, .slice B7 x.xLikes.length k7]) (by simp [results, Tryd.results19, go_sem, hc1, hf1, hy1_0, hy1_1, hy1_2]) rfl ⟨[.int .i64 x.xNumber, .int .i64 x.xSender, .int .i64 x.xAt, .string x.xText, .int .i64 x.xEdits, .bool x.xGone, .int .i64 x.xReply, .slice B7 x.xLikes.length k7], _, rfl, OwL.consP (Ow.I _ _) (OwL.consP (Ow.I _ _) (OwL.consP (Ow.I _ _) (OwL.consP (Ow.S _) (OwL.consP (Ow.I _ _) (OwL.consP (Ow.B _) (OwL.consP (Ow.I _ _) (OwL.cons (show Ow _ _ _ F7 from (by repeat (first | with_reducible exact hO7 | with_reducible refine Ow.far ?_ ?_ _ | with_reducible refine Ow.alloc ?_ _ | with_reducible refine Ow.drew ?_ | exact (fun h => absurd (hF7 _ h) (by first | omega | (simp; done) | (simp; omega)))))) (OwL.nil) (fun b h1 h2 => h2)))))))), (by (repeat (first | with_reducible assumption | with_reducible exact Below.refl _ _ | with_reducible refine Below.setCell ?_ ?_ _ | with_reducible refine Below.alloc ?_ ?_ _ | with_reducible refine Below.drew ?_ | with_reducible refine below_drewN ?_ _ | omega | (simp; done) | (simp; omega))); all_goals first | omega | (simp; done) | (simp; omega)), fun b h => by simp only [or_false] at h; have := hF7 b h; omega⟩
def Message.zero : List D := [.int .i64 0, .int .i64 0, .int .i64 0, .str ByteArray.empty, .int .i64 0, .bool false, .int .i64 0, ints []]
theorem Message.zero_own (w : World) : OwL w Message.zero (Value.agg #[.int .i64 0, .int .i64 0, .int .i64 0, .string ByteArray.empty, .int .i64 0, .bool false, .int .i64 0, .slice none 0 0]).cells.toList (fun _ => False) := OwL.consP (Ow.I _ _) (OwL.consP (Ow.I _ _) (OwL.consP (Ow.I _ _) (OwL.consP (Ow.S _) (OwL.consP (Ow.I _ _) (OwL.consP (Ow.B _) (OwL.consP (Ow.I _ _) (OwL.consP (.emp _ _ _ _ (by simp)) (OwL.nil))))))))
theorem Message.inf : Inf Tryd.prog 37 (.agg #[.int .i64 0, .int .i64 0, .int .i64 0, .string ByteArray.empty, .int .i64 0, .bool false, .int .i64 0, .slice none 0 0]) 8 88 := by unfold Inf; kernel_rfl
set_option maxHeartbeats 1600000 in
set_option maxRecDepth 100000 in
theorem laws_toMessageS (l : List Message) (A : Option Addr) (c : Nat) (W : World) (hr : Ro W (Lo W.heap.size) (Message.s false l) (.slice A l.length c)) (hzs : Message.zs l ≤ 1048576) :
    Calls Tryd.prog 63 #[.slice A l.length c] W (Made W (Message.s true l)) := by
  have hl : l.length ≤ 1048576 := by unfold Message.zs at hzs; omega
  have hel : ∀ x ∈ l, Message.z x ≤ 1048576 := fun x hx => by have := mem_sum (fun y : Message => Message.z y) hx; unfold Message.zs at hzs; omega
  clear hzs
  generalize hn : l.length = n at *
  have HN := Lib.hid hn
  clear hn
  go_enter Tryd.func63, Tryd.ntmps63
  go_wp2_with (at_make; refine dt_make rfl _ _ _ 37 rfl Tryd.underlying51 (.agg #[.int .i64 0, .int .i64 0, .int .i64 0, .string ByteArray.empty, .int .i64 0, .bool false, .int .i64 0, .slice none 0 0]) 88 Message.zero Message.inf rfl (by decide) Message.zero_own n rfl rfl (by omega) (by omega) ?_; intro w1 hO hb hz)
  go_loopw [4] (fun i wr => ∃ j : Nat, j ≤ n ∧ i = .int .i64 j ∧ (∃ F, Ow wr (.sl 37 8 ((l.take j).map (Message.d true) ++ List.replicate (n - j) Message.zero)) (.slice (some ⟨W.heap.size, 0, none⟩) n n) F ∧ ∀ b, F b → W.heap.size ≤ b) ∧ Below W.heap.size W wr) (fun i _ => n - (intOf i).toNat)
  case atStart => exact ⟨0, by omega, rfl, ⟨_, (by simp only [List.take_zero, List.map_nil, List.nil_append, Nat.sub_zero]; exact hO), by omega⟩, hb⟩
  case round =>
    obtain ⟨j, hj, rfl, ⟨F, hO, hF⟩, hb⟩ := hrel
    by_cases hlt : j < n
    · obtain ⟨x, hx⟩ := get_lt (l := l) (k := j) (by rw [HN.out]; exact hlt)
      obtain ⟨b, off, us, rfl, hbl, hul, hru, hcl⟩ := Ro.later hr hb (Nat.le_refl _) (map_at (f := Message.d false) hx)
      have HX := Lib.hid hx
      have HZX := hel x (List.mem_of_getElem? hx)
      obtain ⟨u0, u1, u2, u3, u4, u5, u6, u7, rfl⟩ := list8 hul
      have k0 : wr.cell? ⟨b, off + j * 8, none⟩ = some u0 := hcl 0 _ rfl; have k1 : wr.cell? ⟨b, off + j * 8 + 1, none⟩ = some u1 := hcl 1 _ rfl; have k2 : wr.cell? ⟨b, off + j * 8 + 2, none⟩ = some u2 := hcl 2 _ rfl; have k3 : wr.cell? ⟨b, off + j * 8 + 3, none⟩ = some u3 := hcl 3 _ rfl; have k4 : wr.cell? ⟨b, off + j * 8 + 4, none⟩ = some u4 := hcl 4 _ rfl; have k5 : wr.cell? ⟨b, off + j * 8 + 5, none⟩ = some u5 := hcl 5 _ rfl; have k6 : wr.cell? ⟨b, off + j * 8 + 6, none⟩ = some u6 := hcl 6 _ rfl; have k7 : wr.cell? ⟨b, off + j * 8 + 7, none⟩ = some u7 := hcl 7 _ rfl
      have hru' := rol_to hru hb
      clear hcl hx hr hru
      go_wp2_with fail
      refine (laws_toMessage x [u0, u1, u2, u3, u4, u5, u6, u7] wr hru' HZX).mono ?_
      rintro e w2 ⟨us2, F2, rfl, hO2, hb2, hF2⟩
      have hO1 := hO.keep hb2
      have hlt1 := hO.lt
      go_wp2_with (change wpList _ _ _ (⟨none, _, _, _, _, _⟩ :: _) _ _; refine dt_store (by rfl) 37 _ _ (by rfl) hO1 j _ (by rfl) (by have := HN.out; simp; omega) (by rfl) (.agg us2.toArray) (by rfl) (Message.d true x) (by rw [show (Value.agg us2.toArray).cells.size = us2.length from by simp [Value.cells]]; rw [hO2.1]; kernel_rfl) (show OwL _ _ (Value.agg us2.toArray).cells.toList F2 from by simpa [Value.cells] using hO2) (fun b h2 h1 => by have := hlt1 b h1; have := hF2 b h2; omega) (by rfl) (by decide) ?_; intro w3 F3 hO3 hk3 hz3 hF3 hg3)
      go_roundw
      case rel =>
        refine ⟨j + 1, by omega, by go_num, ⟨F3, ?_, fun b hb' => ?_⟩, (hb.trans (hb2.mono hb.size)).trans (hk3.below (by have := hb.size; have := hb2.size; omega) (by omega))⟩
        · rw [← HN.out] at hO3 ⊢
          rw [build_set (Message.d true) Message.zero l j x HX.out] at hO3
          exact hO3
        · rcases hF3 b hb' with h | h
          · exact hF b h
          · have := hF2 b h; have := hb.size; omega
      case measure => simp [intOf]; omega
    · obtain rfl : j = n := by omega
      clear hr
      go_wp2
      go_ret
      refine ⟨_, F, rfl, ?_, hb, hF⟩
      have := HN.out
      rw [← this] at hO ⊢
      simpa [Message.s, Message.e] using hO

def Message.me (x : Message) (k : Int) : Message := ⟨k, k + 1, k + 2, mtext (k + 3), k + 4, (((k + 5) % 3) == 0), k + 6, markI x.xLikes (k + 7)⟩
def Message.en (x : Message) : Nat := 7 + x.xLikes.length
def Message.ml : List Message → Int → List Message
  | [], _ => []
  | x :: l, k => Message.me x k :: Message.ml l (k + Message.en x)
def Message.ln (l : List Message) : Nat := (l.map Message.en).sum
theorem Message.ml_len (l : List Message) (k : Int) : (Message.ml l k).length = l.length := by
  induction l generalizing k with
  | nil => rfl
  | cons x l ih => simp [Message.ml, ih]
theorem Message.ml_get (l : List Message) (k : Int) (j : Nat) (x : Message) (h : l[j]? = some x) : (Message.ml l k)[j]? = some (Message.me x (k + (Message.ln (l.take j) : Nat))) := by
  induction l generalizing k j with
  | nil => simp at h
  | cons y l ih =>
    cases j with
    | zero => simp at h; subst h; simp [Message.ml, Message.ln]
    | succ j =>
      simp at h
      have := ih (k + (Message.en y : Nat)) j h
      simp only [Message.ml, List.getElem?_cons_succ, this, List.take_succ_cons, Message.ln, List.map_cons, List.sum_cons]
      congr 2
      push_cast
      omega
theorem Message.ln_snoc (l : List Message) (j : Nat) (x : Message) (h : l[j]? = some x) : Message.ln (l.take (j + 1)) = Message.ln (l.take j) + Message.en x := take_sum Message.en h
theorem Message.ln_le (l : List Message) (j : Nat) : Message.ln (l.take j) ≤ Message.ln l := sum_le Message.en l j
theorem Message.en_me (x : Message) (k : Int) : Message.en (Message.me x k) = Message.en x := by simp [Message.en, Message.me, markI_len, markI_markI]
theorem Message.me_me (x : Message) (k : Int) : Message.me (Message.me x k) k = Message.me x k := by simp [Message.me, markI_len, markI_markI]
theorem Message.ml_ml (l : List Message) (k : Int) : Message.ml (Message.ml l k) k = Message.ml l k := by
  induction l generalizing k with
  | nil => rfl
  | cons x l ih => simp [Message.ml, Message.me_me, Message.en_me, ih]
theorem Message.ln_ml (l : List Message) (k : Int) : Message.ln (Message.ml l k) = Message.ln l := by
  induction l generalizing k with
  | nil => rfl
  | cons x l ih => simp only [Message.ln, Message.ml, List.map_cons, List.sum_cons, Message.en_me] at ih ⊢; rw [ih]
set_option maxHeartbeats 3200000 in
set_option maxRecDepth 100000 in
theorem laws_markMessageS (l : List Message) (v : Value) (F : Nat → Prop) (k : Int) (W : World) (hO : Ow W (Message.s true l) v F) (h0 : 0 ≤ k) (h1 : k + (Message.ln l : Nat) ≤ 4611686018427387904) :
    Calls Tryd.prog 70 #[v, .int .i64 k] W (Marked W (Message.s true (Message.ml l k)) v F (k + (Message.ln l : Nat))) := by
  have hO' := hO
  rcases hO'.sl_inv with ⟨h, ⟨A, rfl⟩, hF⟩ | ⟨g, c, us, cs, F0, rfl, hg, hcs, hle, hcm, _, _, _, _, hFF⟩
  · have hl : l = [] := by simpa using h
    subst hl
    go_enter Tryd.func70, Tryd.ntmps70
    go_wp2
    refine wp_loop_rounds 1 ?_
    rw [rounds_succ]
    go_wp2
    go_ret
    exact ⟨by simp [Message.ln], Kp.refl _ _, F, hO, fun b h => h⟩
  · clear hO' hg hcs hle
    have hFg : F g := (hFF g).2 (.inl rfl)
    clear hFF
    rw [List.length_map] at hO
    rw [List.length_map]
    have hmx : l.length ≤ 9223372036854775807 := by have := hO.shape; obtain ⟨_, _, hv, h1, h2⟩ := this; simp only [List.length_map, maxLen] at h1 h2; omega
    have hln : ∀ j x, l[j]? = some x → k + (Message.ln (l.take j) : Nat) + (Message.en x : Nat) ≤ 4611686018427387904 := fun j x hx => by have a := Message.ln_snoc l j x hx; have b := Message.ln_le l (j + 1); omega
    generalize hn : l.length = n at *
    have HN := Lib.hid hn
    clear hn
    have HM := Lib.hid (Message.ml_len l k)
    go_enter Tryd.func70, Tryd.ntmps70
    go_wp2
    go_loopw [1, 5] (fun q i wr => ∃ j : Nat, j ≤ n ∧ i = .int .i64 j ∧ (∃ K : Int, q = .int .i64 K ∧ Hid (K = k + (Message.ln (l.take j) : Nat)) ∧ 0 ≤ K) ∧ (∃ F', Ow wr (Message.s true ((Message.ml l k).take j ++ l.drop j)) (.slice (some ⟨g, 0, none⟩) n c) F' ∧ ∀ b, F' b → F b ∨ W.heap.size ≤ b ∧ False) ∧ Kp F W wr) (fun _ i _ => n - (intOf i).toNat)
    case atStart => exact ⟨0, by omega, rfl, ⟨k, rfl, Lib.hid (by simp [Message.ln]), h0⟩, ⟨F, by simpa using hO, fun _ h => .inl h⟩, Kp.refl _ _⟩
    case round =>
      obtain ⟨j, hj, rfl, ⟨K, rfl, HK, hK0⟩, ⟨F', hO, hF'⟩, hk⟩ := hrel
      replace hF' : ∀ b, F' b → F b := fun b hb => (hF' b hb).elim id (fun h => h.2.elim)
      by_cases hlt : j < n
      · obtain ⟨x, hx⟩ := get_lt (l := l) (k := j) (by rw [HN.out]; exact hlt)
        have hKx : K + (Message.en x : Nat) ≤ 4611686018427387904 := by have a := hln j x hx; have b := HK.out; omega
        have HMG := Lib.hid (Message.ml_get l k j x hx)
        have HLS := Lib.hid (Message.ln_snoc l j x hx)
        have hMx : ((Message.ml l k).take j ++ l.drop j)[j]? = some x := by have a := HM.out; have b := HN.out; rw [List.getElem?_append_right (by simp only [List.length_take]; omega), List.getElem?_drop, List.length_take, show j + (j - min j (Message.ml l k).length) = j from by omega]; exact hx
        have hin : j < (((Message.ml l k).take j ++ l.drop j).map (Message.d true)).length := by have := HM.out; have := HN.out; simp; omega
        have hO1 : Ow wr (.sl 37 8 ((((Message.ml l k).take j ++ l.drop j).map (Message.d true)).set j (Message.d true x))) (.slice (some ⟨g, 0, none⟩) n c) F' := by
          have e : (((Message.ml l k).take j ++ l.drop j).map (Message.d true)).set j (Message.d true x) = ((Message.ml l k).take j ++ l.drop j).map (Message.d true) := by
            have := map_at (f := Message.d true) hMx
            obtain ⟨h1, h2⟩ := List.getElem?_eq_some_iff.1 this
            rw [← h2, List.set_getElem_self]
          rw [e]; exact hO
        have HX := Lib.hid hx
        have HR := Lib.hid (show (((Message.ml l k).take j ++ l.drop j).map (Message.d true)).set j (Message.d true (Message.me x K)) = ((Message.ml l k).take (j + 1) ++ l.drop (j + 1)).map (Message.d true) from by rw [← List.map_set, mix_set HM.out j _ (by rw [HMG.out, ← HK.out])])
        generalize ((Message.ml l k).take j ++ l.drop j).map (Message.d true) = R at *
        clear hx hMx hO hln
        unfold Message.en at hKx
        have hgs : g < wr.heap.size := (hO1.block_lt (by rw [List.length_set]; omega)).2
        obtain ⟨u7, Fd7, hcell7, hOd7, hFd7, hgd7, _⟩ := Ow.focus (w := wr) hO1 hin (j := 7) (d := ints x.xLikes) rfl
        obtain ⟨A7, c7, rfl, _, _⟩ := hOd7.shape
        clear hOd7 hFd7 hgd7
        simp only [List.length_map] at hcell7
        go_wp2_with (first | (go_at_call 47; (with_reducible refine (laws_markText _ _ (by omega)).mono ?_); rintro e w1 ⟨rfl, hb1⟩; replace hO1 := hO1.keep hb1; replace hcell7 := (hb1.cell (p := ⟨g, j * 8 + 7, none⟩) hgs).trans hcell7; replace hk : Kp F W w1 := hk.trans (Kp.of_below (F := F) hb1) (fun _ h => h) (fun _ _ h => h); replace hgs : g < w1.heap.size := (by have := hb1.size; omega)) | (change wpList _ _ _ (⟨none, _, _, _, _, _⟩ :: _) _ _; refine dt_storeF (by rfl) 2 _ _ (by rfl) hO1 hin 0 _ (by rfl) (by decide) (by rfl) _ (by rfl) (by rfl) _ (by kernel_rfl) (Ow.I _ _) (fun b h => h.elim) ?_; intro w2 F2 hO2 hk2 hz2 hF2 hg2 hcc2; replace hO1 := hO2; clear hO2; replace hF' : ∀ b, F2 b → F b := fun b hb => (hF2 b hb).elim (hF' b) (fun h => h.elim); replace hk : Kp F W w2 := hk.trans hk2 (fun _ h => h) (fun b _ h => h ▸ hFg); replace hgs : g < w2.heap.size := (by omega); replace hcell7 := (hcc2 (j * 8 + 7) (by omega)).trans hcell7; clear hcc2 hF2 hk2 hz2 hg2) | (change wpList _ _ _ (⟨none, _, _, _, _, _⟩ :: _) _ _; refine dt_storeF (by rfl) 2 _ _ (by rfl) hO1 hin 1 _ (by rfl) (by decide) (by rfl) _ (by rfl) (by rfl) _ (by kernel_rfl) (Ow.I _ _) (fun b h => h.elim) ?_; intro w2 F2 hO2 hk2 hz2 hF2 hg2 hcc2; replace hO1 := hO2; clear hO2; replace hF' : ∀ b, F2 b → F b := fun b hb => (hF2 b hb).elim (hF' b) (fun h => h.elim); replace hk : Kp F W w2 := hk.trans hk2 (fun _ h => h) (fun b _ h => h ▸ hFg); replace hgs : g < w2.heap.size := (by omega); replace hcell7 := (hcc2 (j * 8 + 7) (by omega)).trans hcell7; clear hcc2 hF2 hk2 hz2 hg2) | (change wpList _ _ _ (⟨none, _, _, _, _, _⟩ :: _) _ _; refine dt_storeF (by rfl) 2 _ _ (by rfl) hO1 hin 2 _ (by rfl) (by decide) (by rfl) _ (by rfl) (by rfl) _ (by kernel_rfl) (Ow.I _ _) (fun b h => h.elim) ?_; intro w2 F2 hO2 hk2 hz2 hF2 hg2 hcc2; replace hO1 := hO2; clear hO2; replace hF' : ∀ b, F2 b → F b := fun b hb => (hF2 b hb).elim (hF' b) (fun h => h.elim); replace hk : Kp F W w2 := hk.trans hk2 (fun _ h => h) (fun b _ h => h ▸ hFg); replace hgs : g < w2.heap.size := (by omega); replace hcell7 := (hcc2 (j * 8 + 7) (by omega)).trans hcell7; clear hcc2 hF2 hk2 hz2 hg2) | (change wpList _ _ _ (⟨none, _, _, _, _, _⟩ :: _) _ _; refine dt_storeF (by rfl) 9 _ _ (by rfl) hO1 hin 3 _ (by rfl) (by decide) (by rfl) _ (by rfl) (by rfl) _ (by kernel_rfl) (Ow.S _) (fun b h => h.elim) ?_; intro w2 F2 hO2 hk2 hz2 hF2 hg2 hcc2; replace hO1 := hO2; clear hO2; replace hF' : ∀ b, F2 b → F b := fun b hb => (hF2 b hb).elim (hF' b) (fun h => h.elim); replace hk : Kp F W w2 := hk.trans hk2 (fun _ h => h) (fun b _ h => h ▸ hFg); replace hgs : g < w2.heap.size := (by omega); replace hcell7 := (hcc2 (j * 8 + 7) (by omega)).trans hcell7; clear hcc2 hF2 hk2 hz2 hg2) | (change wpList _ _ _ (⟨none, _, _, _, _, _⟩ :: _) _ _; refine dt_storeF (by rfl) 2 _ _ (by rfl) hO1 hin 4 _ (by rfl) (by decide) (by rfl) _ (by rfl) (by rfl) _ (by kernel_rfl) (Ow.I _ _) (fun b h => h.elim) ?_; intro w2 F2 hO2 hk2 hz2 hF2 hg2 hcc2; replace hO1 := hO2; clear hO2; replace hF' : ∀ b, F2 b → F b := fun b hb => (hF2 b hb).elim (hF' b) (fun h => h.elim); replace hk : Kp F W w2 := hk.trans hk2 (fun _ h => h) (fun b _ h => h ▸ hFg); replace hgs : g < w2.heap.size := (by omega); replace hcell7 := (hcc2 (j * 8 + 7) (by omega)).trans hcell7; clear hcc2 hF2 hk2 hz2 hg2) | (change wpList _ _ _ (⟨none, _, _, _, _, _⟩ :: _) _ _; refine dt_storeF (by rfl) 4 _ _ (by rfl) hO1 hin 5 _ (by rfl) (by decide) (by rfl) _ (by rfl) (by rfl) _ (by kernel_rfl) (Ow.B _) (fun b h => h.elim) ?_; intro w2 F2 hO2 hk2 hz2 hF2 hg2 hcc2; replace hO1 := hO2; clear hO2; replace hF' : ∀ b, F2 b → F b := fun b hb => (hF2 b hb).elim (hF' b) (fun h => h.elim); replace hk : Kp F W w2 := hk.trans hk2 (fun _ h => h) (fun b _ h => h ▸ hFg); replace hgs : g < w2.heap.size := (by omega); replace hcell7 := (hcc2 (j * 8 + 7) (by omega)).trans hcell7; clear hcc2 hF2 hk2 hz2 hg2) | (change wpList _ _ _ (⟨none, _, _, _, _, _⟩ :: _) _ _; refine dt_storeF (by rfl) 2 _ _ (by rfl) hO1 hin 6 _ (by rfl) (by decide) (by rfl) _ (by rfl) (by rfl) _ (by kernel_rfl) (Ow.I _ _) (fun b h => h.elim) ?_; intro w2 F2 hO2 hk2 hz2 hF2 hg2 hcc2; replace hO1 := hO2; clear hO2; replace hF' : ∀ b, F2 b → F b := fun b hb => (hF2 b hb).elim (hF' b) (fun h => h.elim); replace hk : Kp F W w2 := hk.trans hk2 (fun _ h => h) (fun b _ h => h ▸ hFg); replace hgs : g < w2.heap.size := (by omega); replace hcell7 := (hcc2 (j * 8 + 7) (by omega)).trans hcell7; clear hcc2 hF2 hk2 hz2 hg2))
        obtain ⟨v7, Fd7, hcu7, hOd7, hFd7, hgd7, hback7⟩ := Ow.focus hO1 hin (j := 7) (d := ints x.xLikes) rfl
        obtain rfl : v7 = _ := by have h := hcu7.symm.trans hcell7; injection h
        refine (laws_markInt64S x.xLikes _ Fd7 _ _ hOd7 (by omega) (by push_cast at *; omega)).mono ?_
        rintro e w1 ⟨rfl, hk1, F1, hO3, hF1⟩
        obtain ⟨F4, hO4, hF4⟩ := hback7 w1 _ F1 hO3 hF1 hk1
        replace hO1 := hO4
        clear hO4 hback7 hOd7 hO3
        replace hk : Kp F W w1 := hk.trans hk1 (fun _ h => h) (fun b _ h => hF' b (hFd7 b h))
        replace hF' : ∀ b, F4 b → F b := fun b hb => hF' b (hF4 b hb)
        replace hgs : g < w1.heap.size := by have := hk1.size; omega
        clear hk1 hF1 hF4 hcu7
        go_wp2_with (first | (go_at_call 47; (with_reducible refine (laws_markText _ _ (by omega)).mono ?_); rintro e w1 ⟨rfl, hb1⟩; replace hO1 := hO1.keep hb1; replace hcell7 := (hb1.cell (p := ⟨g, j * 8 + 7, none⟩) hgs).trans hcell7; replace hk : Kp F W w1 := hk.trans (Kp.of_below (F := F) hb1) (fun _ h => h) (fun _ _ h => h); replace hgs : g < w1.heap.size := (by have := hb1.size; omega)) | (change wpList _ _ _ (⟨none, _, _, _, _, _⟩ :: _) _ _; refine dt_storeF (by rfl) 2 _ _ (by rfl) hO1 hin 0 _ (by rfl) (by decide) (by rfl) _ (by rfl) (by rfl) _ (by kernel_rfl) (Ow.I _ _) (fun b h => h.elim) ?_; intro w2 F2 hO2 hk2 hz2 hF2 hg2 hcc2; replace hO1 := hO2; clear hO2; replace hF' : ∀ b, F2 b → F b := fun b hb => (hF2 b hb).elim (hF' b) (fun h => h.elim); replace hk : Kp F W w2 := hk.trans hk2 (fun _ h => h) (fun b _ h => h ▸ hFg); replace hgs : g < w2.heap.size := (by omega); replace hcell7 := (hcc2 (j * 8 + 7) (by omega)).trans hcell7; clear hcc2 hF2 hk2 hz2 hg2) | (change wpList _ _ _ (⟨none, _, _, _, _, _⟩ :: _) _ _; refine dt_storeF (by rfl) 2 _ _ (by rfl) hO1 hin 1 _ (by rfl) (by decide) (by rfl) _ (by rfl) (by rfl) _ (by kernel_rfl) (Ow.I _ _) (fun b h => h.elim) ?_; intro w2 F2 hO2 hk2 hz2 hF2 hg2 hcc2; replace hO1 := hO2; clear hO2; replace hF' : ∀ b, F2 b → F b := fun b hb => (hF2 b hb).elim (hF' b) (fun h => h.elim); replace hk : Kp F W w2 := hk.trans hk2 (fun _ h => h) (fun b _ h => h ▸ hFg); replace hgs : g < w2.heap.size := (by omega); replace hcell7 := (hcc2 (j * 8 + 7) (by omega)).trans hcell7; clear hcc2 hF2 hk2 hz2 hg2) | (change wpList _ _ _ (⟨none, _, _, _, _, _⟩ :: _) _ _; refine dt_storeF (by rfl) 2 _ _ (by rfl) hO1 hin 2 _ (by rfl) (by decide) (by rfl) _ (by rfl) (by rfl) _ (by kernel_rfl) (Ow.I _ _) (fun b h => h.elim) ?_; intro w2 F2 hO2 hk2 hz2 hF2 hg2 hcc2; replace hO1 := hO2; clear hO2; replace hF' : ∀ b, F2 b → F b := fun b hb => (hF2 b hb).elim (hF' b) (fun h => h.elim); replace hk : Kp F W w2 := hk.trans hk2 (fun _ h => h) (fun b _ h => h ▸ hFg); replace hgs : g < w2.heap.size := (by omega); replace hcell7 := (hcc2 (j * 8 + 7) (by omega)).trans hcell7; clear hcc2 hF2 hk2 hz2 hg2) | (change wpList _ _ _ (⟨none, _, _, _, _, _⟩ :: _) _ _; refine dt_storeF (by rfl) 9 _ _ (by rfl) hO1 hin 3 _ (by rfl) (by decide) (by rfl) _ (by rfl) (by rfl) _ (by kernel_rfl) (Ow.S _) (fun b h => h.elim) ?_; intro w2 F2 hO2 hk2 hz2 hF2 hg2 hcc2; replace hO1 := hO2; clear hO2; replace hF' : ∀ b, F2 b → F b := fun b hb => (hF2 b hb).elim (hF' b) (fun h => h.elim); replace hk : Kp F W w2 := hk.trans hk2 (fun _ h => h) (fun b _ h => h ▸ hFg); replace hgs : g < w2.heap.size := (by omega); replace hcell7 := (hcc2 (j * 8 + 7) (by omega)).trans hcell7; clear hcc2 hF2 hk2 hz2 hg2) | (change wpList _ _ _ (⟨none, _, _, _, _, _⟩ :: _) _ _; refine dt_storeF (by rfl) 2 _ _ (by rfl) hO1 hin 4 _ (by rfl) (by decide) (by rfl) _ (by rfl) (by rfl) _ (by kernel_rfl) (Ow.I _ _) (fun b h => h.elim) ?_; intro w2 F2 hO2 hk2 hz2 hF2 hg2 hcc2; replace hO1 := hO2; clear hO2; replace hF' : ∀ b, F2 b → F b := fun b hb => (hF2 b hb).elim (hF' b) (fun h => h.elim); replace hk : Kp F W w2 := hk.trans hk2 (fun _ h => h) (fun b _ h => h ▸ hFg); replace hgs : g < w2.heap.size := (by omega); replace hcell7 := (hcc2 (j * 8 + 7) (by omega)).trans hcell7; clear hcc2 hF2 hk2 hz2 hg2) | (change wpList _ _ _ (⟨none, _, _, _, _, _⟩ :: _) _ _; refine dt_storeF (by rfl) 4 _ _ (by rfl) hO1 hin 5 _ (by rfl) (by decide) (by rfl) _ (by rfl) (by rfl) _ (by kernel_rfl) (Ow.B _) (fun b h => h.elim) ?_; intro w2 F2 hO2 hk2 hz2 hF2 hg2 hcc2; replace hO1 := hO2; clear hO2; replace hF' : ∀ b, F2 b → F b := fun b hb => (hF2 b hb).elim (hF' b) (fun h => h.elim); replace hk : Kp F W w2 := hk.trans hk2 (fun _ h => h) (fun b _ h => h ▸ hFg); replace hgs : g < w2.heap.size := (by omega); replace hcell7 := (hcc2 (j * 8 + 7) (by omega)).trans hcell7; clear hcc2 hF2 hk2 hz2 hg2) | (change wpList _ _ _ (⟨none, _, _, _, _, _⟩ :: _) _ _; refine dt_storeF (by rfl) 2 _ _ (by rfl) hO1 hin 6 _ (by rfl) (by decide) (by rfl) _ (by rfl) (by rfl) _ (by kernel_rfl) (Ow.I _ _) (fun b h => h.elim) ?_; intro w2 F2 hO2 hk2 hz2 hF2 hg2 hcc2; replace hO1 := hO2; clear hO2; replace hF' : ∀ b, F2 b → F b := fun b hb => (hF2 b hb).elim (hF' b) (fun h => h.elim); replace hk : Kp F W w2 := hk.trans hk2 (fun _ h => h) (fun b _ h => h ▸ hFg); replace hgs : g < w2.heap.size := (by omega); replace hcell7 := (hcc2 (j * 8 + 7) (by omega)).trans hcell7; clear hcc2 hF2 hk2 hz2 hg2))
        go_roundw
        case rel =>
          refine ⟨j + 1, by omega, by go_num, ⟨K + (Message.en x : Nat), by congr 1; unfold Message.en; push_cast; omega, Lib.hid (by have a := HK.out; have b := HLS.out; rw [a, b]; push_cast; omega), by unfold Message.en; push_cast; omega⟩, ⟨_, ?_, fun b hb => .inl (hF' b hb)⟩, hk⟩
          unfold Message.s
          rw [← HR.out]
          refine cast_own ?_ hO1
          rw [show Message.d true (Message.me x K) = _ from rfl]
          simp [Message.d, Message.me, List.set, Int.add_assoc]
        case measure => simp [intOf]; omega
      · obtain rfl : j = n := by omega
        go_wp2
        go_ret
        refine ⟨by rw [HK.out, List.take_of_length_le (by have := HN.out; omega)]; rfl, hk, F', ?_, hF'⟩
        rw [← HN.out] at hO ⊢
        rw [List.take_of_length_le (by have := HM.out; omega), List.drop_of_length_le (by omega), List.append_nil] at hO
        exact hO

/-- Marked by value: only what lies in blocks. -/
def Message.ms (x : Message) (k : Int) : Message := ⟨x.xNumber, x.xSender, x.xAt, x.xText, x.xEdits, x.xGone, x.xReply, markI x.xLikes (k)⟩
def Message.sn (x : Message) : Nat := x.xLikes.length
set_option maxHeartbeats 1600000 in
theorem laws_markMessage (x : Message) (us : List Value) (F : Nat → Prop) (k : Int) (W : World) (hO : OwL W (Message.d true x) us F) (h0 : 0 ≤ k) (h1 : k + (Message.sn x : Nat) ≤ 4611686018427387904) :
    Calls Tryd.prog 24 #[.agg us.toArray, .int .i64 k] W (MarkedL W (Message.d true (Message.ms x k)) us F (k + (Message.sn x : Nat))) := by
  obtain ⟨A7, c7, rfl, r7, l7, m7⟩ := Message.cells hO.lo
  clear r7 l7 m7
  have hFlt : ∀ b, F b → b < W.heap.size := hO.lt
  replace hO := hO.alloc (.cells #[.int .i64 x.xNumber, .int .i64 x.xSender, .int .i64 x.xAt, .string x.xText, .int .i64 x.xEdits, .bool x.xGone, .int .i64 x.xReply, .slice A7 x.xLikes.length c7] 37)
  have hk := Kp.alloc1 F W (.cells #[.int .i64 x.xNumber, .int .i64 x.xSender, .int .i64 x.xAt, .string x.xText, .int .i64 x.xEdits, .bool x.xGone, .int .i64 x.xReply, .slice A7 x.xLikes.length c7] 37)
  have hF' : ∀ b, F b → F b := fun _ h => h
  have hsz : W.heap.size < (W.alloc (.cells #[.int .i64 x.xNumber, .int .i64 x.xSender, .int .i64 x.xAt, .string x.xText, .int .i64 x.xEdits, .bool x.xGone, .int .i64 x.xReply, .slice A7 x.xLikes.length c7] 37)).heap.size := by simp
  unfold Message.sn at h1 ⊢
  push_cast at h1 ⊢
  go_enter Tryd.func24, Tryd.ntmps24
  obtain ⟨G0, hm0, hG0, hback0⟩ := OwL.seg1 (a := [.int .i64 x.xNumber, .int .i64 x.xSender, .int .i64 x.xAt, .str x.xText, .int .i64 x.xEdits, .bool x.xGone, .int .i64 x.xReply]) (d := ints x.xLikes) (c := []) (ua := [.int .i64 x.xNumber, .int .i64 x.xSender, .int .i64 x.xAt, .string x.xText, .int .i64 x.xEdits, .bool x.xGone, .int .i64 x.xReply]) (u := .slice A7 x.xLikes.length c7) (uc := []) hO rfl; have hn0 : ¬ G0 W.heap.size := fun h => absurd (hFlt _ (hF' _ (hG0 _ h))) (by omega)
  go_wp2_with (first | (go_at_call 57; (with_reducible refine (laws_markInt64S x.xLikes _ _ _ _ hm0 (by omega) (by omega)).mono ?_); rintro e w0 ⟨rfl, hk0, H0, hq0, hH0⟩; obtain ⟨F0, hO0, hF0⟩ := hback0 w0 _ H0 hq0 hH0 hk0; replace hk := hk.trans hk0 (fun _ h => h) (fun b _ h => hF' b (hG0 b h)); replace hF' : ∀ b, F0 b → F b := fun b hb => hF' b (hF0 b hb); obtain ⟨hc0, hf0⟩ := kcell hk0; have hsz0 : W.heap.size < w0.heap.size := (by have := hk0.size; omega); clear hback0 hk0 hq0 hm0))
  go_ret
  exact ⟨congrArg (fun n => Ending.returned (Value.int .i64 n)) (by omega), hk, _, hO0, hF'⟩
set_option maxHeartbeats 1600000 in
theorem laws_heldMessage (x : Message) (us : List Value) (k : Int) (W : World) (hr : RoL W (Lo W.heap.size) (Message.d true (Message.ms x k)) us) (h0 : 0 ≤ k) (h1 : k + (Message.sn x : Nat) ≤ 4611686018427387904) :
    Calls Tryd.prog 25 #[.agg us.toArray, .int .i64 k] W (fun e w' => e = .returned (.int .i64 (k + (Message.sn x : Nat))) ∧ Below W.heap.size W w') := by
  obtain ⟨A7, c7, hus, r7, l7, m7⟩ := Message.cells hr
  have e7 : (Message.ms x k).xLikes.length = x.xLikes.length := markI_len _ _
  rw [e7] at hus r7 l7
  subst hus
  unfold Message.sn at h1 ⊢
  push_cast at h1 ⊢
  have hB := Below.refl W.heap.size W
  go_enter Tryd.func25, Tryd.ntmps25
  go_wp2_with (first | (go_at_call 58; (with_reducible refine (laws_heldInt64M x.xLikes _ c7 _ _ (ro_to r7 (by (repeat (first | with_reducible assumption | with_reducible exact Below.refl _ _ | with_reducible refine Below.setCell ?_ ?_ _ | with_reducible refine Below.alloc ?_ ?_ _ | with_reducible refine Below.drew ?_ | with_reducible refine below_drewN ?_ _ | omega | (simp; done) | (simp; omega))); all_goals first | omega | (simp; done) | (simp; omega))) m7 l7 (by omega) (by omega)).mono ?_); rintro e w0 ⟨rfl, hb0⟩; obtain ⟨hc_hb0, hf_hb0⟩ := bcell hb0; have hz0_hb0 : W.heap.size < w0.heap.size := (by have hs := hb0.size; (try simp at hs) <;> omega); have hB_hb0 : Below W.heap.size W w0 := Below.trans (by (repeat (first | with_reducible assumption | with_reducible exact Below.refl _ _ | with_reducible refine Below.setCell ?_ ?_ _ | with_reducible refine Below.alloc ?_ ?_ _ | with_reducible refine Below.drew ?_ | with_reducible refine below_drewN ?_ _ | omega | (simp; done) | (simp; omega))); all_goals first | omega | (simp; done) | (simp; omega)) (hb0.mono (by first | omega | (simp; done) | (simp; omega)))))
  go_ret
  exact ⟨congrArg (fun n => Ending.returned (Value.int .i64 n)) (by omega), (by (repeat (first | with_reducible assumption | with_reducible exact Below.refl _ _ | with_reducible refine Below.setCell ?_ ?_ _ | with_reducible refine Below.alloc ?_ ?_ _ | with_reducible refine Below.drew ?_ | with_reducible refine below_drewN ?_ _ | omega | (simp; done) | (simp; omega))); all_goals first | omega | (simp; done) | (simp; omega))⟩

theorem Message.ln_z (l : List Message) : Message.ln l ≤ 16 * Message.zs l := by
  induction l with
  | nil => simp [Message.ln, Message.zs]
  | cons x l ih =>
    simp only [Message.ln, Message.zs, List.map_cons, List.sum_cons, List.length_cons, Message.en, Message.z] at ih ⊢
    omega
theorem Message.sn_z (x : Message) : Message.sn x ≤ 16 * Message.z x := by
  unfold Message.sn Message.z
  omega

end Go.Proofs.YtahbgkabdongnaaDoor

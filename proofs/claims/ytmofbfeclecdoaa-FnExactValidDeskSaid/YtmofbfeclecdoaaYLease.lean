/- Walks of the laws' own functions on Lease. -/
import Derived.Test.YtmofbfeclecdoaaData
import Derived.Test.YtmofbfeclecdoaaText
import Derived.StillTailTactics
namespace Go.Proofs.Ytmofbfeclecdoaa
open Go.ChangeShapes Go.WideShapes Go.ChangeAt Go.RowKit Go.Dt
set_option linter.unusedVariables false
set_option linter.unusedSimpArgs false

def Lease.zs (l : List Lease) : Nat := l.length
set_option maxHeartbeats 800000 in
theorem laws_szLeaseS (l : List Lease) (A : Option Addr) (c : Nat) (left : Int) (W : World) (hr : Ro W (Lo W.heap.size) (Lease.s false l) (.slice A l.length c)) (hw : ∀ y ∈ l, Lease.wf y) (hlc : l.length ≤ c) (hm : c ≤ maxLen) (h0 : 0 ≤ left) (h1 : left ≤ 1048576) :
    Calls Try.prog 172 #[.slice A l.length c, .int .i64 left] W fun e w' => e = .returned (.int .i64 (szr left (Lease.zs l))) ∧ Below W.heap.size W w' := by
  have hlen : l.length ≤ 9223372036854775807 := by simp only [maxLen] at hm; omega
  have hz : Lease.zs l = l.length := rfl
  by_cases h : ((l.length : Nat) : Int) ≤ left
  · have H := Lib.hid (show szr left (Lease.zs l) = left - (l.length : Nat) from szr_yes h)
    clear hz hr
    go_enter Try.func172, Try.ntmps172
    go_wp2
    go_ret
    exact ⟨by rw [H.out]; rfl, Below.refl _ _⟩
  · have H := Lib.hid (show szr left (Lease.zs l) = -1 from szr_no h)
    clear hz hr
    go_enter Try.func172, Try.ntmps172
    go_wp2
    go_ret
    exact ⟨by rw [H.out]; rfl, Below.refl _ _⟩

theorem Lease.dec (x y : Lease) : decide (x = y) = (decide (x.xMember = y.xMember) && decide (x.xUntil = y.xUntil)) := by
  cases x; cases y
  simp only [Lease.mk.injEq, Bool.decide_and, Bool.and_assoc]

set_option maxHeartbeats 1000000 in
theorem laws_eqLease (x y : Lease) (us vs : List Value) (W : World) (hr : RoL W (Lo W.heap.size) (Lease.d true x) us) (hs : RoL W (Lo W.heap.size) (Lease.d true y) vs) :
    Calls Try.prog 210 #[.agg us.toArray, .agg vs.toArray] W fun e w' => e = .returned (.bool (decide (x = y))) ∧ Below W.heap.size W w' := by
  obtain rfl := Lease.cells hr
  obtain rfl := Lease.cells hs
  have HD := Lib.hid (Lease.dec x y)
  go_enter Try.func210, Try.ntmps210
  go_wp2
  all_goals (go_ret; exact ⟨by rw [HD.out]; simp_all [bytes_inj], (by (repeat (first | with_reducible assumption | with_reducible exact Below.refl _ _ | with_reducible refine Below.setCell ?_ ?_ _ | with_reducible refine Below.alloc ?_ ?_ _ | with_reducible refine Below.drew ?_ | with_reducible refine below_drewN ?_ _ | omega | (simp; done) | (simp; omega))); all_goals first | omega | (simp; done) | (simp; omega))⟩)
set_option maxHeartbeats 1000000 in
set_option maxRecDepth 100000 in
theorem laws_eqLeaseS (l m : List Lease) (A A' : Option Addr) (c c' : Nat) (W : World) (hr : Ro W (Lo W.heap.size) (Lease.s true l) (.slice A l.length c)) (hs : Ro W (Lo W.heap.size) (Lease.s true m) (.slice A' m.length c')) (hc : c ≤ maxLen) (hc' : c' ≤ maxLen) (hlc : l.length ≤ c) (hmc : m.length ≤ c') :
    Calls Try.prog 179 #[.slice A l.length c, .slice A' m.length c'] W fun e w' => e = .returned (.bool (decide (l = m))) ∧ Below W.heap.size W w' := by
  have hlen : l.length ≤ 9223372036854775807 := by simp only [maxLen] at hc; omega
  have hlen' : m.length ≤ 9223372036854775807 := by simp only [maxLen] at hc'; omega
  clear hc hc' hlc hmc
  by_cases hl : l.length = m.length
  · have HL := Lib.hid hl
    rw [← hl] at hs ⊢
    clear hl hlen'
    generalize hn : l.length = n at *
    have HN := Lib.hid hn
    clear hn
    go_enter Try.func179, Try.ntmps179
    go_wp2
    go_loopw [5] (fun i wr => ∃ j : Nat, j ≤ n ∧ i = .int .i64 j ∧ l.take j = m.take j ∧ Below W.heap.size W wr) (fun i _ => n - (intOf i).toNat)
    case atStart => exact ⟨0, by omega, rfl, by simp, Below.refl _ _⟩
    case round =>
      obtain ⟨j, hj, rfl, hq, hb⟩ := hrel
      have HQ := Lib.hid hq
      clear hq
      by_cases hlt : j < n
      · obtain ⟨x, hx⟩ := get_lt (l := l) (k := j) (by rw [HN.out]; exact hlt)
        obtain ⟨y, hy⟩ := get_lt (l := m) (k := j) (by rw [← HL.out]; exact hlt)
        obtain ⟨b, off, us, rfl, hbl, hul, hru, hcl⟩ := Ro.later hr hb (Nat.le_refl _) (map_at (f := Lease.d true) hx)
        obtain ⟨b', off', vs, rfl, hbl', hul', hru', hcl'⟩ := Ro.later hs hb (Nat.le_refl _) (map_at (f := Lease.d true) hy)
        have HX := Lib.hid hx
        have HY := Lib.hid hy
        obtain ⟨u0, u1, rfl⟩ := list2 hul
        obtain ⟨v0, v1, rfl⟩ := list2 hul'
        have k0 : wr.cell? ⟨b, off + j * 2, none⟩ = some u0 := hcl 0 _ rfl; have k1 : wr.cell? ⟨b, off + j * 2 + 1, none⟩ = some u1 := hcl 1 _ rfl
        have k0' : wr.cell? ⟨b', off' + j * 2, none⟩ = some v0 := hcl' 0 _ rfl; have k1' : wr.cell? ⟨b', off' + j * 2 + 1, none⟩ = some v1 := hcl' 1 _ rfl
        have hru1 := rol_to hru (Below.drew hb)
        have hru2 := rol_to hru' (Below.drew hb)
        clear hcl hcl' hx hy hr hs hru hru' hul hul'
        go_wp2_with fail
        go_still_tail 8, (by kernel_rfl)
        change wpList _ _ _ _ _ wr.drew
        go_wp2_with fail
        refine (laws_eqLease x y [u0, u1] [v0, v1] _ hru1 hru2).mono ?_
        rintro e w1 ⟨rfl, hb1⟩
        have hB : Below W.heap.size W w1 := hb.trans (Below.mono (Below.trans (Below.drew (Below.refl _ _)) hb1) hb.size)
        by_cases hxy : x = y
        · have HT := Lib.hid (take_eq_succ HQ.out HX.out HY.out hxy)
          rw [decide_eq_true hxy]
          clear hxy
          go_wp2
          go_roundw
          case rel => exact ⟨j + 1, by omega, by go_num, HT.out, hB⟩
          case measure => simp [intOf]; omega
        · have HT := Lib.hid (eq_no HX.out HY.out hxy)
          rw [decide_eq_false hxy]
          clear hxy
          go_wp2
          go_ret
          exact ⟨by rw [HT.out]; rfl, hB⟩
      · have HT := Lib.hid (take_all (l := l) (m := m) (j := j) (by have := HN.out; omega) (by have := HL.out; omega) HQ.out)
        clear hr hs
        go_wp2
        go_ret
        exact ⟨by rw [HT.out]; rfl, hb⟩
  · have HT := Lib.hid (len_no hl)
    have hB : ((l.length : Int) != (m.length : Int)) = true := by rw [bne_iff_ne]; omega
    clear hr hs
    go_enter Try.func179, Try.ntmps179
    go_wp2
    go_ret
    exact ⟨by rw [HT.out]; rfl, Below.refl _ _⟩

set_option maxHeartbeats 1600000 in
set_option maxRecDepth 100000 in
theorem laws_toLease (x : Lease) (us : List Value) (W : World) (hr : RoL W (Lo W.heap.size) (Lease.d false x) us) :
    Calls Try.prog 208 #[.agg us.toArray] W (MadeL W (Lease.d true x)) := by
  obtain rfl := Lease.cells hr
  go_enter Try.func208, Try.ntmps208
  go_wp2
  exact bodyPost_ret (v := .agg #[.int .i64 x.xMember, .int .i64 x.xUntil]) (by simp [results, Try.results208, go_sem]) rfl ⟨[.int .i64 x.xMember, .int .i64 x.xUntil], _, rfl, OwL.consP (Ow.I _ _) (OwL.consP (Ow.I _ _) (OwL.nil)), (by (repeat (first | with_reducible assumption | with_reducible exact Below.refl _ _ | with_reducible refine Below.setCell ?_ ?_ _ | with_reducible refine Below.alloc ?_ ?_ _ | with_reducible refine Below.drew ?_ | with_reducible refine below_drewN ?_ _ | omega | (simp; done) | (simp; omega))); all_goals first | omega | (simp; done) | (simp; omega)), fun b h => by exact h.elim⟩
def Lease.zero : List D := [.int .i64 0, .int .i64 0]
theorem Lease.zero_own (w : World) : OwL w Lease.zero (Value.agg #[.int .i64 0, .int .i64 0]).cells.toList (fun _ => False) := OwL.consP (Ow.I _ _) (OwL.consP (Ow.I _ _) (OwL.nil))
theorem Lease.inf : Inf Try.prog 235 (.agg #[.int .i64 0, .int .i64 0]) 2 16 := by unfold Inf; kernel_rfl
set_option maxHeartbeats 1600000 in
set_option maxRecDepth 100000 in
theorem laws_toLeaseS (l : List Lease) (A : Option Addr) (c : Nat) (W : World) (hr : Ro W (Lo W.heap.size) (Lease.s false l) (.slice A l.length c)) (hzs : Lease.zs l ≤ 1048576) :
    Calls Try.prog 175 #[.slice A l.length c] W (Made W (Lease.s true l)) := by
  have hl : l.length ≤ 1048576 := by unfold Lease.zs at hzs; omega
  clear hzs
  generalize hn : l.length = n at *
  have HN := Lib.hid hn
  clear hn
  go_enter Try.func175, Try.ntmps175
  go_wp2_with (at_make; refine dt_make rfl _ _ _ 235 rfl Try.underlying67 (.agg #[.int .i64 0, .int .i64 0]) 16 Lease.zero Lease.inf rfl (by decide) Lease.zero_own n rfl rfl (by omega) (by omega) ?_; intro w1 hO hb hz)
  go_loopw [4] (fun i wr => ∃ j : Nat, j ≤ n ∧ i = .int .i64 j ∧ (∃ F, Ow wr (.sl 235 2 ((l.take j).map (Lease.d true) ++ List.replicate (n - j) Lease.zero)) (.slice (some ⟨W.heap.size, 0, none⟩) n n) F ∧ ∀ b, F b → W.heap.size ≤ b) ∧ Below W.heap.size W wr) (fun i _ => n - (intOf i).toNat)
  case atStart => exact ⟨0, by omega, rfl, ⟨_, (by simp only [List.take_zero, List.map_nil, List.nil_append, Nat.sub_zero]; exact hO), by omega⟩, hb⟩
  case round =>
    obtain ⟨j, hj, rfl, ⟨F, hO, hF⟩, hb⟩ := hrel
    by_cases hlt : j < n
    · obtain ⟨x, hx⟩ := get_lt (l := l) (k := j) (by rw [HN.out]; exact hlt)
      obtain ⟨b, off, us, rfl, hbl, hul, hru, hcl⟩ := Ro.later hr hb (Nat.le_refl _) (map_at (f := Lease.d false) hx)
      have HX := Lib.hid hx
      obtain ⟨u0, u1, rfl⟩ := list2 hul
      have k0 : wr.cell? ⟨b, off + j * 2, none⟩ = some u0 := hcl 0 _ rfl; have k1 : wr.cell? ⟨b, off + j * 2 + 1, none⟩ = some u1 := hcl 1 _ rfl
      have hru' := rol_to hru hb
      clear hcl hx hr hru
      go_wp2_with fail
      refine (laws_toLease x [u0, u1] wr hru').mono ?_
      rintro e w2 ⟨us2, F2, rfl, hO2, hb2, hF2⟩
      have hO1 := hO.keep hb2
      have hlt1 := hO.lt
      go_wp2_with (change wpList _ _ _ (⟨none, _, _, _, _, _⟩ :: _) _ _; refine dt_store (by rfl) 235 _ _ (by rfl) hO1 j _ (by rfl) (by have := HN.out; simp; omega) (by rfl) (.agg us2.toArray) (by rfl) (Lease.d true x) (by rw [show (Value.agg us2.toArray).cells.size = us2.length from by simp [Value.cells]]; rw [hO2.1]; kernel_rfl) (show OwL _ _ (Value.agg us2.toArray).cells.toList F2 from by simpa [Value.cells] using hO2) (fun b h2 h1 => by have := hlt1 b h1; have := hF2 b h2; omega) (by rfl) (by decide) ?_; intro w3 F3 hO3 hk3 hz3 hF3 hg3)
      go_roundw
      case rel =>
        refine ⟨j + 1, by omega, by go_num, ⟨F3, ?_, fun b hb' => ?_⟩, (hb.trans (hb2.mono hb.size)).trans (hk3.below (by have := hb.size; have := hb2.size; omega) (by omega))⟩
        · rw [← HN.out] at hO3 ⊢
          rw [build_set (Lease.d true) Lease.zero l j x HX.out] at hO3
          exact hO3
        · rcases hF3 b hb' with h | h
          · exact hF b h
          · have := hF2 b h; have := hb.size; omega
      case measure => simp [intOf]; omega
    · obtain rfl : j = n := by omega
      clear hr
      go_wp2
      go_ret
      refine ⟨_, F, rfl, ?_, hb, hF⟩
      have := HN.out
      rw [← this] at hO ⊢
      simpa [Lease.s, Lease.e] using hO


end Go.Proofs.Ytmofbfeclecdoaa

/- Walks of the laws' own functions on Home. -/
import Derived.Test.YtmofbfeclecdoaaDoorData
import Derived.Test.YtmofbfeclecdoaaDoorText
import Derived.StillTailTactics
namespace Go.Proofs.YtmofbfeclecdoaaDoor
open Go.ChangeShapes Go.WideShapes Go.ChangeAt Go.RowKit Go.Dt
set_option linter.unusedVariables false
set_option linter.unusedSimpArgs false

def Home.zs (l : List Home) : Nat := l.length

theorem Home.dec (x y : Home) : decide (x = y) = (decide (x.xRoom = y.xRoom) && decide (x.xShard = y.xShard)) := by
  cases x; cases y
  simp only [Home.mk.injEq, Bool.decide_and, Bool.and_assoc]

set_option maxHeartbeats 1000000 in
theorem laws_eqHome (x y : Home) (us vs : List Value) (W : World) (hr : RoL W (Lo W.heap.size) (Home.d true x) us) (hs : RoL W (Lo W.heap.size) (Home.d true y) vs) :
    Calls Tryd.prog 54 #[.agg us.toArray, .agg vs.toArray] W fun e w' => e = .returned (.bool (decide (x = y))) ∧ Below W.heap.size W w' := by
  obtain rfl := Home.cells hr
  obtain rfl := Home.cells hs
  have HD := Lib.hid (Home.dec x y)
  go_enter Tryd.func54, Tryd.ntmps54
  go_wp2
  all_goals (go_ret; exact ⟨by rw [HD.out]; simp_all [bytes_inj], (by (repeat (first | with_reducible assumption | with_reducible exact Below.refl _ _ | with_reducible refine Below.setCell ?_ ?_ _ | with_reducible refine Below.alloc ?_ ?_ _ | with_reducible refine Below.drew ?_ | with_reducible refine below_drewN ?_ _ | omega | (simp; done) | (simp; omega))); all_goals first | omega | (simp; done) | (simp; omega))⟩)
set_option maxHeartbeats 1000000 in
set_option maxRecDepth 100000 in
theorem laws_eqHomeS (l m : List Home) (A A' : Option Addr) (c c' : Nat) (W : World) (hr : Ro W (Lo W.heap.size) (Home.s true l) (.slice A l.length c)) (hs : Ro W (Lo W.heap.size) (Home.s true m) (.slice A' m.length c')) (hc : c ≤ maxLen) (hc' : c' ≤ maxLen) (hlc : l.length ≤ c) (hmc : m.length ≤ c') :
    Calls Tryd.prog 26 #[.slice A l.length c, .slice A' m.length c'] W fun e w' => e = .returned (.bool (decide (l = m))) ∧ Below W.heap.size W w' := by
  have hlen : l.length ≤ 9223372036854775807 := by simp only [maxLen] at hc; omega
  have hlen' : m.length ≤ 9223372036854775807 := by simp only [maxLen] at hc'; omega
  clear hc hc' hlc hmc
  by_cases hl : l.length = m.length
  · have HL := Lib.hid hl
    rw [← hl] at hs ⊢
    clear hl hlen'
    generalize hn : l.length = n at *
    have HN := Lib.hid hn
    clear hn
    go_enter Tryd.func26, Tryd.ntmps26
    go_wp2
    go_loopw [5] (fun i wr => ∃ j : Nat, j ≤ n ∧ i = .int .i64 j ∧ l.take j = m.take j ∧ Below W.heap.size W wr) (fun i _ => n - (intOf i).toNat)
    case atStart => exact ⟨0, by omega, rfl, by simp, Below.refl _ _⟩
    case round =>
      obtain ⟨j, hj, rfl, hq, hb⟩ := hrel
      have HQ := Lib.hid hq
      clear hq
      by_cases hlt : j < n
      · obtain ⟨x, hx⟩ := get_lt (l := l) (k := j) (by rw [HN.out]; exact hlt)
        obtain ⟨y, hy⟩ := get_lt (l := m) (k := j) (by rw [← HL.out]; exact hlt)
        obtain ⟨b, off, us, rfl, hbl, hul, hru, hcl⟩ := Ro.later hr hb (Nat.le_refl _) (map_at (f := Home.d true) hx)
        obtain ⟨b', off', vs, rfl, hbl', hul', hru', hcl'⟩ := Ro.later hs hb (Nat.le_refl _) (map_at (f := Home.d true) hy)
        have HX := Lib.hid hx
        have HY := Lib.hid hy
        obtain ⟨u0, u1, rfl⟩ := list2 hul
        obtain ⟨v0, v1, rfl⟩ := list2 hul'
        have k0 : wr.cell? ⟨b, off + j * 2, none⟩ = some u0 := hcl 0 _ rfl; have k1 : wr.cell? ⟨b, off + j * 2 + 1, none⟩ = some u1 := hcl 1 _ rfl
        have k0' : wr.cell? ⟨b', off' + j * 2, none⟩ = some v0 := hcl' 0 _ rfl; have k1' : wr.cell? ⟨b', off' + j * 2 + 1, none⟩ = some v1 := hcl' 1 _ rfl
        have hru1 := rol_to hru (Below.drew hb)
        have hru2 := rol_to hru' (Below.drew hb)
        clear hcl hcl' hx hy hr hs hru hru' hul hul'
        go_wp2_with fail
        go_still_tail 8, (by kernel_rfl)
        change wpList _ _ _ _ _ wr.drew
        go_wp2_with fail
        refine (laws_eqHome x y [u0, u1] [v0, v1] _ hru1 hru2).mono ?_
        rintro e w1 ⟨rfl, hb1⟩
        have hB : Below W.heap.size W w1 := hb.trans (Below.mono (Below.trans (Below.drew (Below.refl _ _)) hb1) hb.size)
        by_cases hxy : x = y
        · have HT := Lib.hid (take_eq_succ HQ.out HX.out HY.out hxy)
          rw [decide_eq_true hxy]
          clear hxy
          go_wp2
          go_roundw
          case rel => exact ⟨j + 1, by omega, by go_num, HT.out, hB⟩
          case measure => simp [intOf]; omega
        · have HT := Lib.hid (eq_no HX.out HY.out hxy)
          rw [decide_eq_false hxy]
          clear hxy
          go_wp2
          go_ret
          exact ⟨by rw [HT.out]; rfl, hB⟩
      · have HT := Lib.hid (take_all (l := l) (m := m) (j := j) (by have := HN.out; omega) (by have := HL.out; omega) HQ.out)
        clear hr hs
        go_wp2
        go_ret
        exact ⟨by rw [HT.out]; rfl, hb⟩
  · have HT := Lib.hid (len_no hl)
    have hB : ((l.length : Int) != (m.length : Int)) = true := by rw [bne_iff_ne]; omega
    clear hr hs
    go_enter Tryd.func26, Tryd.ntmps26
    go_wp2
    go_ret
    exact ⟨by rw [HT.out]; rfl, Below.refl _ _⟩


def Home.me (x : Home) (k : Int) : Home := ⟨k, k + 1⟩
def Home.en (x : Home) : Nat := 2
def Home.ml : List Home → Int → List Home
  | [], _ => []
  | x :: l, k => Home.me x k :: Home.ml l (k + Home.en x)
def Home.ln (l : List Home) : Nat := (l.map Home.en).sum
theorem Home.ml_len (l : List Home) (k : Int) : (Home.ml l k).length = l.length := by
  induction l generalizing k with
  | nil => rfl
  | cons x l ih => simp [Home.ml, ih]
theorem Home.ml_get (l : List Home) (k : Int) (j : Nat) (x : Home) (h : l[j]? = some x) : (Home.ml l k)[j]? = some (Home.me x (k + (Home.ln (l.take j) : Nat))) := by
  induction l generalizing k j with
  | nil => simp at h
  | cons y l ih =>
    cases j with
    | zero => simp at h; subst h; simp [Home.ml, Home.ln]
    | succ j =>
      simp at h
      have := ih (k + (Home.en y : Nat)) j h
      simp only [Home.ml, List.getElem?_cons_succ, this, List.take_succ_cons, Home.ln, List.map_cons, List.sum_cons]
      congr 2
      push_cast
      omega
theorem Home.ln_snoc (l : List Home) (j : Nat) (x : Home) (h : l[j]? = some x) : Home.ln (l.take (j + 1)) = Home.ln (l.take j) + Home.en x := take_sum Home.en h
theorem Home.ln_le (l : List Home) (j : Nat) : Home.ln (l.take j) ≤ Home.ln l := sum_le Home.en l j
theorem Home.en_me (x : Home) (k : Int) : Home.en (Home.me x k) = Home.en x := by simp [Home.en, Home.me]
theorem Home.me_me (x : Home) (k : Int) : Home.me (Home.me x k) k = Home.me x k := by simp [Home.me]
theorem Home.ml_ml (l : List Home) (k : Int) : Home.ml (Home.ml l k) k = Home.ml l k := by
  induction l generalizing k with
  | nil => rfl
  | cons x l ih => simp [Home.ml, Home.me_me, Home.en_me, ih]
theorem Home.ln_ml (l : List Home) (k : Int) : Home.ln (Home.ml l k) = Home.ln l := by
  induction l generalizing k with
  | nil => rfl
  | cons x l ih => simp only [Home.ln, Home.ml, List.map_cons, List.sum_cons, Home.en_me] at ih ⊢; rw [ih]
set_option maxHeartbeats 3200000 in
set_option maxRecDepth 100000 in
theorem laws_markHomeS (l : List Home) (v : Value) (F : Nat → Prop) (k : Int) (W : World) (hO : Ow W (Home.s true l) v F) (h0 : 0 ≤ k) (h1 : k + (Home.ln l : Nat) ≤ 4611686018427387904) :
    Calls Tryd.prog 27 #[v, .int .i64 k] W (Marked W (Home.s true (Home.ml l k)) v F (k + (Home.ln l : Nat))) := by
  have hO' := hO
  rcases hO'.sl_inv with ⟨h, ⟨A, rfl⟩, hF⟩ | ⟨g, c, us, cs, F0, rfl, hg, hcs, hle, hcm, _, _, _, _, hFF⟩
  · have hl : l = [] := by simpa using h
    subst hl
    go_enter Tryd.func27, Tryd.ntmps27
    go_wp2
    refine wp_loop_rounds 1 ?_
    rw [rounds_succ]
    go_wp2
    go_ret
    exact ⟨by simp [Home.ln], Kp.refl _ _, F, hO, fun b h => h⟩
  · clear hO' hg hcs hle
    have hFg : F g := (hFF g).2 (.inl rfl)
    clear hFF
    rw [List.length_map] at hO
    rw [List.length_map]
    have hmx : l.length ≤ 9223372036854775807 := by have := hO.shape; obtain ⟨_, _, hv, h1, h2⟩ := this; simp only [List.length_map, maxLen] at h1 h2; omega
    have hln : ∀ j x, l[j]? = some x → k + (Home.ln (l.take j) : Nat) + (Home.en x : Nat) ≤ 4611686018427387904 := fun j x hx => by have a := Home.ln_snoc l j x hx; have b := Home.ln_le l (j + 1); omega
    generalize hn : l.length = n at *
    have HN := Lib.hid hn
    clear hn
    have HM := Lib.hid (Home.ml_len l k)
    go_enter Tryd.func27, Tryd.ntmps27
    go_wp2
    go_loopw [1, 5] (fun q i wr => ∃ j : Nat, j ≤ n ∧ i = .int .i64 j ∧ (∃ K : Int, q = .int .i64 K ∧ Hid (K = k + (Home.ln (l.take j) : Nat)) ∧ 0 ≤ K) ∧ (∃ F', Ow wr (Home.s true ((Home.ml l k).take j ++ l.drop j)) (.slice (some ⟨g, 0, none⟩) n c) F' ∧ ∀ b, F' b → F b ∨ W.heap.size ≤ b ∧ False) ∧ Kp F W wr) (fun _ i _ => n - (intOf i).toNat)
    case atStart => exact ⟨0, by omega, rfl, ⟨k, rfl, Lib.hid (by simp [Home.ln]), h0⟩, ⟨F, by simpa using hO, fun _ h => .inl h⟩, Kp.refl _ _⟩
    case round =>
      obtain ⟨j, hj, rfl, ⟨K, rfl, HK, hK0⟩, ⟨F', hO, hF'⟩, hk⟩ := hrel
      replace hF' : ∀ b, F' b → F b := fun b hb => (hF' b hb).elim id (fun h => h.2.elim)
      by_cases hlt : j < n
      · obtain ⟨x, hx⟩ := get_lt (l := l) (k := j) (by rw [HN.out]; exact hlt)
        have hKx : K + (Home.en x : Nat) ≤ 4611686018427387904 := by have a := hln j x hx; have b := HK.out; omega
        have HMG := Lib.hid (Home.ml_get l k j x hx)
        have HLS := Lib.hid (Home.ln_snoc l j x hx)
        have hMx : ((Home.ml l k).take j ++ l.drop j)[j]? = some x := by have a := HM.out; have b := HN.out; rw [List.getElem?_append_right (by simp only [List.length_take]; omega), List.getElem?_drop, List.length_take, show j + (j - min j (Home.ml l k).length) = j from by omega]; exact hx
        have hin : j < (((Home.ml l k).take j ++ l.drop j).map (Home.d true)).length := by have := HM.out; have := HN.out; simp; omega
        have hO1 : Ow wr (.sl 40 2 ((((Home.ml l k).take j ++ l.drop j).map (Home.d true)).set j (Home.d true x))) (.slice (some ⟨g, 0, none⟩) n c) F' := by
          have e : (((Home.ml l k).take j ++ l.drop j).map (Home.d true)).set j (Home.d true x) = ((Home.ml l k).take j ++ l.drop j).map (Home.d true) := by
            have := map_at (f := Home.d true) hMx
            obtain ⟨h1, h2⟩ := List.getElem?_eq_some_iff.1 this
            rw [← h2, List.set_getElem_self]
          rw [e]; exact hO
        have HX := Lib.hid hx
        have HR := Lib.hid (show (((Home.ml l k).take j ++ l.drop j).map (Home.d true)).set j (Home.d true (Home.me x K)) = ((Home.ml l k).take (j + 1) ++ l.drop (j + 1)).map (Home.d true) from by rw [← List.map_set, mix_set HM.out j _ (by rw [HMG.out, ← HK.out])])
        generalize ((Home.ml l k).take j ++ l.drop j).map (Home.d true) = R at *
        clear hx hMx hO hln
        unfold Home.en at hKx
        have hgs : g < wr.heap.size := (hO1.block_lt (by rw [List.length_set]; omega)).2
        go_wp2_with (first | (change wpList _ _ _ (⟨none, _, _, _, _, _⟩ :: _) _ _; refine dt_storeF (by rfl) 2 _ _ (by rfl) hO1 hin 0 _ (by rfl) (by decide) (by rfl) _ (by rfl) (by rfl) _ (by kernel_rfl) (Ow.I _ _) (fun b h => h.elim) ?_; intro w2 F2 hO2 hk2 hz2 hF2 hg2 hcc2; replace hO1 := hO2; clear hO2; replace hF' : ∀ b, F2 b → F b := fun b hb => (hF2 b hb).elim (hF' b) (fun h => h.elim); replace hk : Kp F W w2 := hk.trans hk2 (fun _ h => h) (fun b _ h => h ▸ hFg); replace hgs : g < w2.heap.size := (by omega); clear hcc2 hF2 hk2 hz2 hg2) | (change wpList _ _ _ (⟨none, _, _, _, _, _⟩ :: _) _ _; refine dt_storeF (by rfl) 2 _ _ (by rfl) hO1 hin 1 _ (by rfl) (by decide) (by rfl) _ (by rfl) (by rfl) _ (by kernel_rfl) (Ow.I _ _) (fun b h => h.elim) ?_; intro w2 F2 hO2 hk2 hz2 hF2 hg2 hcc2; replace hO1 := hO2; clear hO2; replace hF' : ∀ b, F2 b → F b := fun b hb => (hF2 b hb).elim (hF' b) (fun h => h.elim); replace hk : Kp F W w2 := hk.trans hk2 (fun _ h => h) (fun b _ h => h ▸ hFg); replace hgs : g < w2.heap.size := (by omega); clear hcc2 hF2 hk2 hz2 hg2))
        go_roundw
        case rel =>
          refine ⟨j + 1, by omega, by go_num, ⟨K + (Home.en x : Nat), by congr 1; unfold Home.en; push_cast; omega, Lib.hid (by have a := HK.out; have b := HLS.out; rw [a, b]; push_cast; omega), by unfold Home.en; push_cast; omega⟩, ⟨_, ?_, fun b hb => .inl (hF' b hb)⟩, hk⟩
          unfold Home.s
          rw [← HR.out]
          refine cast_own ?_ hO1
          rw [show Home.d true (Home.me x K) = _ from rfl]
          simp [Home.d, Home.me, List.set, Int.add_assoc]
        case measure => simp [intOf]; omega
      · obtain rfl : j = n := by omega
        go_wp2
        go_ret
        refine ⟨by rw [HK.out, List.take_of_length_le (by have := HN.out; omega)]; rfl, hk, F', ?_, hF'⟩
        rw [← HN.out] at hO ⊢
        rw [List.take_of_length_le (by have := HM.out; omega), List.drop_of_length_le (by omega), List.append_nil] at hO
        exact hO

set_option maxHeartbeats 3200000 in
set_option maxRecDepth 100000 in
theorem laws_heldHomeS (l : List Home) (A : Option Addr) (c : Nat) (k : Int) (W : World) (hr : Ro W (Lo W.heap.size) (Home.s true (Home.ml l k)) (.slice A l.length c)) (hmx : l.length ≤ 9223372036854775807) (h0 : 0 ≤ k) (h1 : k + (Home.ln l : Nat) ≤ 4611686018427387904) :
    Calls Tryd.prog 28 #[.slice A l.length c, .int .i64 k] W (fun e w' => e = .returned (.int .i64 (k + (Home.ln l : Nat))) ∧ Below W.heap.size W w') := by
  have hln : ∀ j x, l[j]? = some x → k + (Home.ln (l.take j) : Nat) + (Home.en x : Nat) ≤ 4611686018427387904 := fun j x hx => by have a := Home.ln_snoc l j x hx; have b := Home.ln_le l (j + 1); omega
  generalize hn : l.length = n at *
  have HN := Lib.hid hn
  clear hn
  go_enter Tryd.func28, Tryd.ntmps28
  go_wp2
  go_loopw [1, 5] (fun q i wr => ∃ j : Nat, j ≤ n ∧ i = .int .i64 j ∧ (∃ K : Int, q = .int .i64 K ∧ Hid (K = k + (Home.ln (l.take j) : Nat)) ∧ 0 ≤ K) ∧ Below W.heap.size W wr) (fun _ i _ => n - (intOf i).toNat)
  case atStart => exact ⟨0, by omega, rfl, ⟨k, rfl, Lib.hid (by simp [Home.ln]), h0⟩, Below.refl _ _⟩
  case round =>
    obtain ⟨j, hj, rfl, ⟨K, rfl, HK, hK0⟩, hb⟩ := hrel
    by_cases hlt : j < n
    · obtain ⟨x, hx⟩ := get_lt (l := l) (k := j) (by rw [HN.out]; exact hlt)
      have hKx : K + (Home.en x : Nat) ≤ 4611686018427387904 := by have a := hln j x hx; have b := HK.out; omega
      have HLS := Lib.hid (Home.ln_snoc l j x hx)
      have hy : (Home.ml l k)[j]? = some (Home.me x K) := by rw [Home.ml_get l k j x hx, ← HK.out]
      obtain ⟨b, off, us, rfl, hbl, hul, hru, hcl⟩ := Ro.later hr hb (Nat.le_refl _) (map_at (f := Home.d true) hy)
      obtain rfl := Home.cells hru
      have k0 : wr.cell? ⟨b, off + j * 2, none⟩ = some (.int .i64 (K)) := by exact hcl 0 _ rfl
      have k1 : wr.cell? ⟨b, off + j * 2 + 1, none⟩ = some (.int .i64 (K + 1)) := by exact hcl 1 _ rfl
      clear hcl hx hy hr hln hru hul
      unfold Home.en at hKx
      have hbs : W.heap.size ≤ wr.heap.size := hb.size
      have hbr : b < wr.heap.size := by omega
      have hB : Below W.heap.size wr wr := Below.refl _ _
      have hE := hb
      go_wp2
      go_roundw
      case rel => exact ⟨j + 1, by omega, by go_num, ⟨K + (Home.en x : Nat), by congr 1; unfold Home.en; push_cast; omega, Lib.hid (by have a := HK.out; have b := HLS.out; rw [a, b]; push_cast; omega), by unfold Home.en; push_cast; omega⟩, hE⟩
      case measure => simp [intOf]; omega
    · obtain rfl : j = n := by omega
      clear hr hln
      go_wp2
      go_ret
      exact ⟨by rw [HK.out, List.take_of_length_le (by have := HN.out; omega)]; rfl, hb⟩

theorem Home.ln_z (l : List Home) : Home.ln l ≤ 16 * Home.zs l := by
  induction l with
  | nil => simp [Home.ln, Home.zs]
  | cons x l ih =>
    simp only [Home.ln, Home.zs, List.map_cons, List.sum_cons, List.length_cons, Home.en] at ih ⊢
    omega

end Go.Proofs.YtmofbfeclecdoaaDoor

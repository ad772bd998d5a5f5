/- Walks of the laws' own functions on Lease. -/
import Derived.Test.YtmojpkbdeiikiaaData
import Derived.Test.YtmojpkbdeiikiaaText
import Derived.StillTailTactics
namespace Go.Proofs.Ytmojpkbdeiikiaa
open Go.ChangeShapes Go.WideShapes Go.ChangeAt Go.RowKit Go.Dt
set_option linter.unusedVariables false
set_option linter.unusedSimpArgs false

def Lease.zs (l : List Lease) : Nat := l.length
set_option maxHeartbeats 800000 in
theorem laws_szLeaseS (l : List Lease) (A : Option Addr) (c : Nat) (left : Int) (W : World) (hr : Ro W (Lo W.heap.size) (Lease.s false l) (.slice A l.length c)) (hw : ∀ y ∈ l, Lease.wf y) (hlc : l.length ≤ c) (hm : c ≤ maxLen) (h0 : 0 ≤ left) (h1 : left ≤ 1048576) :
    Calls Try.prog 181 #[.slice A l.length c, .int .i64 left] W fun e w' => e = .returned (.int .i64 (szr left (Lease.zs l))) ∧ Below W.heap.size W w' := by
  have hlen : l.length ≤ 9223372036854775807 := by simp only [maxLen] at hm; omega
  have hz : Lease.zs l = l.length := rfl
  by_cases h : ((l.length : Nat) : Int) ≤ left
  · have H := Lib.hid (show szr left (Lease.zs l) = left - (l.length : Nat) from szr_yes h)
    clear hz hr
    go_enter Try.func181, Try.ntmps181
    go_wp2
    go_ret
    exact ⟨by rw [H.out]; rfl, Below.refl _ _⟩
  · have H := Lib.hid (show szr left (Lease.zs l) = -1 from szr_no h)
    clear hz hr
    go_enter Try.func181, Try.ntmps181
    go_wp2
    go_ret
    exact ⟨by rw [H.out]; rfl, Below.refl _ _⟩

theorem Lease.dec (x y : Lease) : decide (x = y) = (decide (x.xMember = y.xMember) && decide (x.xUntil = y.xUntil)) := by
  cases x; cases y
  simp only [Lease.mk.injEq, Bool.decide_and, Bool.and_assoc]

set_option maxHeartbeats 1000000 in
theorem laws_eqLease (x y : Lease) (us vs : List Value) (W : World) (hr : RoL W (Lo W.heap.size) (Lease.d true x) us) (hs : RoL W (Lo W.heap.size) (Lease.d true y) vs) :
    Calls Try.prog 200 #[.agg us.toArray, .agg vs.toArray] W fun e w' => e = .returned (.bool (decide (x = y))) ∧ Below W.heap.size W w' := by
  obtain rfl := Lease.cells hr
  obtain rfl := Lease.cells hs
  have HD := Lib.hid (Lease.dec x y)
  go_enter Try.func200, Try.ntmps200
  go_wp2
  all_goals (go_ret; exact ⟨by rw [HD.out]; simp_all [bytes_inj], (by (repeat (first | with_reducible assumption | with_reducible exact Below.refl _ _ | with_reducible refine Below.setCell ?_ ?_ _ | with_reducible refine Below.alloc ?_ ?_ _ | with_reducible refine Below.drew ?_ | with_reducible refine below_drewN ?_ _ | omega | (simp; done) | (simp; omega))); all_goals first | omega | (simp; done) | (simp; omega))⟩)
set_option maxHeartbeats 1000000 in
set_option maxRecDepth 100000 in
theorem laws_eqLeaseS (l m : List Lease) (A A' : Option Addr) (c c' : Nat) (W : World) (hr : Ro W (Lo W.heap.size) (Lease.s true l) (.slice A l.length c)) (hs : Ro W (Lo W.heap.size) (Lease.s true m) (.slice A' m.length c')) (hc : c ≤ maxLen) (hc' : c' ≤ maxLen) (hlc : l.length ≤ c) (hmc : m.length ≤ c') :
    Calls Try.prog 162 #[.slice A l.length c, .slice A' m.length c'] W fun e w' => e = .returned (.bool (decide (l = m))) ∧ Below W.heap.size W w' := by
  have hlen : l.length ≤ 9223372036854775807 := by simp only [maxLen] at hc; omega
  have hlen' : m.length ≤ 9223372036854775807 := by simp only [maxLen] at hc'; omega
  clear hc hc' hlc hmc
  by_cases hl : l.length = m.length
  · have HL := Lib.hid hl
    rw [← hl] at hs ⊢
    clear hl hlen'
    generalize hn : l.length = n at *
    have HN := Lib.hid hn
    clear hn
    go_enter Try.func162, Try.ntmps162
    go_wp2
    go_loopw [5] (fun i wr => ∃ j : Nat, j ≤ n ∧ i = .int .i64 j ∧ l.take j = m.take j ∧ Below W.heap.size W wr) (fun i _ => n - (intOf i).toNat)
    case atStart => exact ⟨0, by omega, rfl, by simp, Below.refl _ _⟩
    case round =>
      obtain ⟨j, hj, rfl, hq, hb⟩ := hrel
      have HQ := Lib.hid hq
      clear hq
      by_cases hlt : j < n
      · obtain ⟨x, hx⟩ := get_lt (l := l) (k := j) (by rw [HN.out]; exact hlt)
        obtain ⟨y, hy⟩ := get_lt (l := m) (k := j) (by rw [← HL.out]; exact hlt)
        obtain ⟨b, off, us, rfl, hbl, hul, hru, hcl⟩ := Ro.later hr hb (Nat.le_refl _) (map_at (f := Lease.d true) hx)
        obtain ⟨b', off', vs, rfl, hbl', hul', hru', hcl'⟩ := Ro.later hs hb (Nat.le_refl _) (map_at (f := Lease.d true) hy)
        have HX := Lib.hid hx
        have HY := Lib.hid hy
        obtain ⟨u0, u1, rfl⟩ := list2 hul
        obtain ⟨v0, v1, rfl⟩ := list2 hul'
        have k0 : wr.cell? ⟨b, off + j * 2, none⟩ = some u0 := hcl 0 _ rfl; have k1 : wr.cell? ⟨b, off + j * 2 + 1, none⟩ = some u1 := hcl 1 _ rfl
        have k0' : wr.cell? ⟨b', off' + j * 2, none⟩ = some v0 := hcl' 0 _ rfl; have k1' : wr.cell? ⟨b', off' + j * 2 + 1, none⟩ = some v1 := hcl' 1 _ rfl
        have hru1 := rol_to hru (Below.drew hb)
        have hru2 := rol_to hru' (Below.drew hb)
        clear hcl hcl' hx hy hr hs hru hru' hul hul'
        go_wp2_with fail
        go_still_tail 8, (by kernel_rfl)
        change wpList _ _ _ _ _ wr.drew
        go_wp2_with fail
        refine (laws_eqLease x y [u0, u1] [v0, v1] _ hru1 hru2).mono ?_
        rintro e w1 ⟨rfl, hb1⟩
        have hB : Below W.heap.size W w1 := hb.trans (Below.mono (Below.trans (Below.drew (Below.refl _ _)) hb1) hb.size)
        by_cases hxy : x = y
        · have HT := Lib.hid (take_eq_succ HQ.out HX.out HY.out hxy)
          rw [decide_eq_true hxy]
          clear hxy
          go_wp2
          go_roundw
          case rel => exact ⟨j + 1, by omega, by go_num, HT.out, hB⟩
          case measure => simp [intOf]; omega
        · have HT := Lib.hid (eq_no HX.out HY.out hxy)
          rw [decide_eq_false hxy]
          clear hxy
          go_wp2
          go_ret
          exact ⟨by rw [HT.out]; rfl, hB⟩
      · have HT := Lib.hid (take_all (l := l) (m := m) (j := j) (by have := HN.out; omega) (by have := HL.out; omega) HQ.out)
        clear hr hs
        go_wp2
        go_ret
        exact ⟨by rw [HT.out]; rfl, hb⟩
  · have HT := Lib.hid (len_no hl)
    have hB : ((l.length : Int) != (m.length : Int)) = true := by rw [bne_iff_ne]; omega
    clear hr hs
    go_enter Try.func162, Try.ntmps162
    go_wp2
    go_ret
    exact ⟨by rw [HT.out]; rfl, Below.refl _ _⟩

set_option maxHeartbeats 1600000 in
set_option maxRecDepth 100000 in
theorem laws_toLease (x : Lease) (us : List Value) (W : World) (hr : RoL W (Lo W.heap.size) (Lease.d false x) us) :
    Calls Try.prog 208 #[.agg us.toArray] W (MadeL W (Lease.d true x)) := by
  obtain rfl := Lease.cells hr
  go_enter Try.func208, Try.ntmps208
  go_wp2
  exact bodyPost_ret (v := .agg #[.int .i64 x.xMember, .int .i64 x.xUntil]) (by simp [results, Try.results208, go_sem]) rfl ⟨[.int .i64 x.xMember, .int .i64 x.xUntil], _, rfl, OwL.consP (Ow.I _ _) (OwL.consP (Ow.I _ _) (OwL.nil)), (by (repeat (first | with_reducible assumption | with_reducible exact Below.refl _ _ | with_reducible refine Below.setCell ?_ ?_ _ | with_reducible refine Below.alloc ?_ ?_ _ | with_reducible refine Below.drew ?_ | with_reducible refine below_drewN ?_ _ | omega | (simp; done) | (simp; omega))); all_goals first | omega | (simp; done) | (simp; omega)), fun b h => by exact h.elim⟩
def Lease.zero : List D := [.int .i64 0, .int .i64 0]
theorem Lease.zero_own (w : World) : OwL w Lease.zero (Value.agg #[.int .i64 0, .int .i64 0]).cells.toList (fun _ => False) := OwL.consP (Ow.I _ _) (OwL.consP (Ow.I _ _) (OwL.nil))
theorem Lease.inf : Inf Try.prog 213 (.agg #[.int .i64 0, .int .i64 0]) 2 16 := by unfold Inf; kernel_rfl
set_option maxHeartbeats 1600000 in
set_option maxRecDepth 100000 in
theorem laws_toLeaseS (l : List Lease) (A : Option Addr) (c : Nat) (W : World) (hr : Ro W (Lo W.heap.size) (Lease.s false l) (.slice A l.length c)) (hzs : Lease.zs l ≤ 1048576) :
    Calls Try.prog 184 #[.slice A l.length c] W (Made W (Lease.s true l)) := by
  have hl : l.length ≤ 1048576 := by unfold Lease.zs at hzs; omega
  clear hzs
  generalize hn : l.length = n at *
  have HN := Lib.hid hn
  clear hn
  go_enter Try.func184, Try.ntmps184
  go_wp2_with (at_make; refine dt_make rfl _ _ _ 213 rfl Try.underlying45 (.agg #[.int .i64 0, .int .i64 0]) 16 Lease.zero Lease.inf rfl (by decide) Lease.zero_own n rfl rfl (by omega) (by omega) ?_; intro w1 hO hb hz)
  go_loopw [4] (fun i wr => ∃ j : Nat, j ≤ n ∧ i = .int .i64 j ∧ (∃ F, Ow wr (.sl 213 2 ((l.take j).map (Lease.d true) ++ List.replicate (n - j) Lease.zero)) (.slice (some ⟨W.heap.size, 0, none⟩) n n) F ∧ ∀ b, F b → W.heap.size ≤ b) ∧ Below W.heap.size W wr) (fun i _ => n - (intOf i).toNat)
  case atStart => exact ⟨0, by omega, rfl, ⟨_, (by simp only [List.take_zero, List.map_nil, List.nil_append, Nat.sub_zero]; exact hO), by omega⟩, hb⟩
  case round =>
    obtain ⟨j, hj, rfl, ⟨F, hO, hF⟩, hb⟩ := hrel
    by_cases hlt : j < n
    · obtain ⟨x, hx⟩ := get_lt (l := l) (k := j) (by rw [HN.out]; exact hlt)
      obtain ⟨b, off, us, rfl, hbl, hul, hru, hcl⟩ := Ro.later hr hb (Nat.le_refl _) (map_at (f := Lease.d false) hx)
      have HX := Lib.hid hx
      obtain ⟨u0, u1, rfl⟩ := list2 hul
      have k0 : wr.cell? ⟨b, off + j * 2, none⟩ = some u0 := hcl 0 _ rfl; have k1 : wr.cell? ⟨b, off + j * 2 + 1, none⟩ = some u1 := hcl 1 _ rfl
      have hru' := rol_to hru hb
      clear hcl hx hr hru
      go_wp2_with fail
      refine (laws_toLease x [u0, u1] wr hru').mono ?_
      rintro e w2 ⟨us2, F2, rfl, hO2, hb2, hF2⟩
      have hO1 := hO.keep hb2
      have hlt1 := hO.lt
      go_wp2_with (change wpList _ _ _ (⟨none, _, _, _, _, _⟩ :: _) _ _; refine dt_store (by rfl) 213 _ _ (by rfl) hO1 j _ (by rfl) (by have := HN.out; simp; omega) (by rfl) (.agg us2.toArray) (by rfl) (Lease.d true x) (by rw [show (Value.agg us2.toArray).cells.size = us2.length from by simp [Value.cells]]; rw [hO2.1]; kernel_rfl) (show OwL _ _ (Value.agg us2.toArray).cells.toList F2 from by simpa [Value.cells] using hO2) (fun b h2 h1 => by have := hlt1 b h1; have := hF2 b h2; omega) (by rfl) (by decide) ?_; intro w3 F3 hO3 hk3 hz3 hF3 hg3)
      go_roundw
      case rel =>
        refine ⟨j + 1, by omega, by go_num, ⟨F3, ?_, fun b hb' => ?_⟩, (hb.trans (hb2.mono hb.size)).trans (hk3.below (by have := hb.size; have := hb2.size; omega) (by omega))⟩
        · rw [← HN.out] at hO3 ⊢
          rw [build_set (Lease.d true) Lease.zero l j x HX.out] at hO3
          exact hO3
        · rcases hF3 b hb' with h | h
          · exact hF b h
          · have := hF2 b h; have := hb.size; omega
      case measure => simp [intOf]; omega
    · obtain rfl : j = n := by omega
      clear hr
      go_wp2
      go_ret
      refine ⟨_, F, rfl, ?_, hb, hF⟩
      have := HN.out
      rw [← this] at hO ⊢
      simpa [Lease.s, Lease.e] using hO

def Lease.me (x : Lease) (k : Int) : Lease := ⟨k, k + 1⟩
def Lease.en (x : Lease) : Nat := 2
def Lease.ml : List Lease → Int → List Lease
  | [], _ => []
  | x :: l, k => Lease.me x k :: Lease.ml l (k + Lease.en x)
def Lease.ln (l : List Lease) : Nat := (l.map Lease.en).sum
theorem Lease.ml_len (l : List Lease) (k : Int) : (Lease.ml l k).length = l.length := by
  induction l generalizing k with
  | nil => rfl
  | cons x l ih => simp [Lease.ml, ih]
theorem Lease.ml_get (l : List Lease) (k : Int) (j : Nat) (x : Lease) (h : l[j]? = some x) : (Lease.ml l k)[j]? = some (Lease.me x (k + (Lease.ln (l.take j) : Nat))) := by
  induction l generalizing k j with
  | nil => simp at h
  | cons y l ih =>
    cases j with
    | zero => simp at h; subst h; simp [Lease.ml, Lease.ln]
    | succ j =>
      simp at h
      have := ih (k + (Lease.en y : Nat)) j h
      simp only [Lease.ml, List.getElem?_cons_succ, this, List.take_succ_cons, Lease.ln, List.map_cons, List.sum_cons]
      congr 2
      push_cast
      omega
theorem Lease.ln_snoc (l : List Lease) (j : Nat) (x : Lease) (h : l[j]? = some x) : Lease.ln (l.take (j + 1)) = Lease.ln (l.take j) + Lease.en x := take_sum Lease.en h
theorem Lease.ln_le (l : List Lease) (j : Nat) : Lease.ln (l.take j) ≤ Lease.ln l := sum_le Lease.en l j
theorem Lease.en_me (x : Lease) (k : Int) : Lease.en (Lease.me x k) = Lease.en x := by simp [Lease.en, Lease.me]
theorem Lease.me_me (x : Lease) (k : Int) : Lease.me (Lease.me x k) k = Lease.me x k := by simp [Lease.me]
theorem Lease.ml_ml (l : List Lease) (k : Int) : Lease.ml (Lease.ml l k) k = Lease.ml l k := by
  induction l generalizing k with
  | nil => rfl
  | cons x l ih => simp [Lease.ml, Lease.me_me, Lease.en_me, ih]
theorem Lease.ln_ml (l : List Lease) (k : Int) : Lease.ln (Lease.ml l k) = Lease.ln l := by
  induction l generalizing k with
  | nil => rfl
  | cons x l ih => simp only [Lease.ln, Lease.ml, List.map_cons, List.sum_cons, Lease.en_me] at ih ⊢; rw [ih]
set_option maxHeartbeats 3200000 in
set_option maxRecDepth 100000 in
theorem laws_markLeaseS (l : List Lease) (v : Value) (F : Nat → Prop) (k : Int) (W : World) (hO : Ow W (Lease.s true l) v F) (h0 : 0 ≤ k) (h1 : k + (Lease.ln l : Nat) ≤ 4611686018427387904) :
    Calls Try.prog 164 #[v, .int .i64 k] W (Marked W (Lease.s true (Lease.ml l k)) v F (k + (Lease.ln l : Nat))) := by
  have hO' := hO
  rcases hO'.sl_inv with ⟨h, ⟨A, rfl⟩, hF⟩ | ⟨g, c, us, cs, F0, rfl, hg, hcs, hle, hcm, _, _, _, _, hFF⟩
  · have hl : l = [] := by simpa using h
    subst hl
    go_enter Try.func164, Try.ntmps164
    go_wp2
    refine wp_loop_rounds 1 ?_
    rw [rounds_succ]
    go_wp2
    go_ret
    exact ⟨by simp [Lease.ln], Kp.refl _ _, F, hO, fun b h => h⟩
  · clear hO' hg hcs hle
    have hFg : F g := (hFF g).2 (.inl rfl)
    clear hFF
    rw [List.length_map] at hO
    rw [List.length_map]
    have hmx : l.length ≤ 9223372036854775807 := by have := hO.shape; obtain ⟨_, _, hv, h1, h2⟩ := this; simp only [List.length_map, maxLen] at h1 h2; omega
    have hln : ∀ j x, l[j]? = some x → k + (Lease.ln (l.take j) : Nat) + (Lease.en x : Nat) ≤ 4611686018427387904 := fun j x hx => by have a := Lease.ln_snoc l j x hx; have b := Lease.ln_le l (j + 1); omega
    generalize hn : l.length = n at *
    have HN := Lib.hid hn
    clear hn
    have HM := Lib.hid (Lease.ml_len l k)
    go_enter Try.func164, Try.ntmps164
    go_wp2
    go_loopw [1, 5] (fun q i wr => ∃ j : Nat, j ≤ n ∧ i = .int .i64 j ∧ (∃ K : Int, q = .int .i64 K ∧ Hid (K = k + (Lease.ln (l.take j) : Nat)) ∧ 0 ≤ K) ∧ (∃ F', Ow wr (Lease.s true ((Lease.ml l k).take j ++ l.drop j)) (.slice (some ⟨g, 0, none⟩) n c) F' ∧ ∀ b, F' b → F b ∨ W.heap.size ≤ b ∧ False) ∧ Kp F W wr) (fun _ i _ => n - (intOf i).toNat)
    case atStart => exact ⟨0, by omega, rfl, ⟨k, rfl, Lib.hid (by simp [Lease.ln]), h0⟩, ⟨F, by simpa using hO, fun _ h => .inl h⟩, Kp.refl _ _⟩
    case round =>
      obtain ⟨j, hj, rfl, ⟨K, rfl, HK, hK0⟩, ⟨F', hO, hF'⟩, hk⟩ := hrel
      replace hF' : ∀ b, F' b → F b := fun b hb => (hF' b hb).elim id (fun h => h.2.elim)
      by_cases hlt : j < n
      · obtain ⟨x, hx⟩ := get_lt (l := l) (k := j) (by rw [HN.out]; exact hlt)
        have hKx : K + (Lease.en x : Nat) ≤ 4611686018427387904 := by have a := hln j x hx; have b := HK.out; omega
        have HMG := Lib.hid (Lease.ml_get l k j x hx)
        have HLS := Lib.hid (Lease.ln_snoc l j x hx)
        have hMx : ((Lease.ml l k).take j ++ l.drop j)[j]? = some x := by have a := HM.out; have b := HN.out; rw [List.getElem?_append_right (by simp only [List.length_take]; omega), List.getElem?_drop, List.length_take, show j + (j - min j (Lease.ml l k).length) = j from by omega]; exact hx
        have hin : j < (((Lease.ml l k).take j ++ l.drop j).map (Lease.d true)).length := by have := HM.out; have := HN.out; simp; omega
        have hO1 : Ow wr (.sl 213 2 ((((Lease.ml l k).take j ++ l.drop j).map (Lease.d true)).set j (Lease.d true x))) (.slice (some ⟨g, 0, none⟩) n c) F' := by
          have e : (((Lease.ml l k).take j ++ l.drop j).map (Lease.d true)).set j (Lease.d true x) = ((Lease.ml l k).take j ++ l.drop j).map (Lease.d true) := by
            have := map_at (f := Lease.d true) hMx
            obtain ⟨h1, h2⟩ := List.getElem?_eq_some_iff.1 this
            rw [← h2, List.set_getElem_self]
          rw [e]; exact hO
        have HX := Lib.hid hx
        have HR := Lib.hid (show (((Lease.ml l k).take j ++ l.drop j).map (Lease.d true)).set j (Lease.d true (Lease.me x K)) = ((Lease.ml l k).take (j + 1) ++ l.drop (j + 1)).map (Lease.d true) from by rw [← List.map_set, mix_set HM.out j _ (by rw [HMG.out, ← HK.out])])
        generalize ((Lease.ml l k).take j ++ l.drop j).map (Lease.d true) = R at *
        clear hx hMx hO hln
        unfold Lease.en at hKx
        have hgs : g < wr.heap.size := (hO1.block_lt (by rw [List.length_set]; omega)).2
        go_wp2_with (first | (change wpList _ _ _ (⟨none, _, _, _, _, _⟩ :: _) _ _; refine dt_storeF (by rfl) 2 _ _ (by rfl) hO1 hin 0 _ (by rfl) (by decide) (by rfl) _ (by rfl) (by rfl) _ (by kernel_rfl) (Ow.I _ _) (fun b h => h.elim) ?_; intro w2 F2 hO2 hk2 hz2 hF2 hg2 hcc2; replace hO1 := hO2; clear hO2; replace hF' : ∀ b, F2 b → F b := fun b hb => (hF2 b hb).elim (hF' b) (fun h => h.elim); replace hk : Kp F W w2 := hk.trans hk2 (fun _ h => h) (fun b _ h => h ▸ hFg); replace hgs : g < w2.heap.size := (by omega); clear hcc2 hF2 hk2 hz2 hg2) | (change wpList _ _ _ (⟨none, _, _, _, _, _⟩ :: _) _ _; refine dt_storeF (by rfl) 2 _ _ (by rfl) hO1 hin 1 _ (by rfl) (by decide) (by rfl) _ (by rfl) (by rfl) _ (by kernel_rfl) (Ow.I _ _) (fun b h => h.elim) ?_; intro w2 F2 hO2 hk2 hz2 hF2 hg2 hcc2; replace hO1 := hO2; clear hO2; replace hF' : ∀ b, F2 b → F b := fun b hb => (hF2 b hb).elim (hF' b) (fun h => h.elim); replace hk : Kp F W w2 := hk.trans hk2 (fun _ h => h) (fun b _ h => h ▸ hFg); replace hgs : g < w2.heap.size := (by omega); clear hcc2 hF2 hk2 hz2 hg2))
        go_roundw
        case rel =>
          refine ⟨j + 1, by omega, by go_num, ⟨K + (Lease.en x : Nat), by congr 1; unfold Lease.en; push_cast; omega, Lib.hid (by have a := HK.out; have b := HLS.out; rw [a, b]; push_cast; omega), by unfold Lease.en; push_cast; omega⟩, ⟨_, ?_, fun b hb => .inl (hF' b hb)⟩, hk⟩
          unfold Lease.s
          rw [← HR.out]
          refine cast_own ?_ hO1
          rw [show Lease.d true (Lease.me x K) = _ from rfl]
          simp [Lease.d, Lease.me, List.set, Int.add_assoc]
        case measure => simp [intOf]; omega
      · obtain rfl : j = n := by omega
        go_wp2
        go_ret
        refine ⟨by rw [HK.out, List.take_of_length_le (by have := HN.out; omega)]; rfl, hk, F', ?_, hF'⟩
        rw [← HN.out] at hO ⊢
        rw [List.take_of_length_le (by have := HM.out; omega), List.drop_of_length_le (by omega), List.append_nil] at hO
        exact hO

set_option maxHeartbeats 3200000 in
set_option maxRecDepth 100000 in
theorem laws_heldLeaseS (l : List Lease) (A : Option Addr) (c : Nat) (k : Int) (W : World) (hr : Ro W (Lo W.heap.size) (Lease.s true (Lease.ml l k)) (.slice A l.length c)) (hmx : l.length ≤ 9223372036854775807) (h0 : 0 ≤ k) (h1 : k + (Lease.ln l : Nat) ≤ 4611686018427387904) :
    Calls Try.prog 166 #[.slice A l.length c, .int .i64 k] W (fun e w' => e = .returned (.int .i64 (k + (Lease.ln l : Nat))) ∧ Below W.heap.size W w') := by
  have hln : ∀ j x, l[j]? = some x → k + (Lease.ln (l.take j) : Nat) + (Lease.en x : Nat) ≤ 4611686018427387904 := fun j x hx => by have a := Lease.ln_snoc l j x hx; have b := Lease.ln_le l (j + 1); omega
  generalize hn : l.length = n at *
  have HN := Lib.hid hn
  clear hn
  go_enter Try.func166, Try.ntmps166
  go_wp2
  go_loopw [1, 5] (fun q i wr => ∃ j : Nat, j ≤ n ∧ i = .int .i64 j ∧ (∃ K : Int, q = .int .i64 K ∧ Hid (K = k + (Lease.ln (l.take j) : Nat)) ∧ 0 ≤ K) ∧ Below W.heap.size W wr) (fun _ i _ => n - (intOf i).toNat)
  case atStart => exact ⟨0, by omega, rfl, ⟨k, rfl, Lib.hid (by simp [Lease.ln]), h0⟩, Below.refl _ _⟩
  case round =>
    obtain ⟨j, hj, rfl, ⟨K, rfl, HK, hK0⟩, hb⟩ := hrel
    by_cases hlt : j < n
    · obtain ⟨x, hx⟩ := get_lt (l := l) (k := j) (by rw [HN.out]; exact hlt)
      have hKx : K + (Lease.en x : Nat) ≤ 4611686018427387904 := by have a := hln j x hx; have b := HK.out; omega
      have HLS := Lib.hid (Lease.ln_snoc l j x hx)
      have hy : (Lease.ml l k)[j]? = some (Lease.me x K) := by rw [Lease.ml_get l k j x hx, ← HK.out]
      obtain ⟨b, off, us, rfl, hbl, hul, hru, hcl⟩ := Ro.later hr hb (Nat.le_refl _) (map_at (f := Lease.d true) hy)
      obtain rfl := Lease.cells hru
      have k0 : wr.cell? ⟨b, off + j * 2, none⟩ = some (.int .i64 (K)) := by exact hcl 0 _ rfl
      have k1 : wr.cell? ⟨b, off + j * 2 + 1, none⟩ = some (.int .i64 (K + 1)) := by exact hcl 1 _ rfl
      clear hcl hx hy hr hln hru hul
      unfold Lease.en at hKx
      have hbs : W.heap.size ≤ wr.heap.size := hb.size
      have hbr : b < wr.heap.size := by omega
      have hB : Below W.heap.size wr wr := Below.refl _ _
      have hE := hb
      go_wp2
      go_roundw
      case rel => exact ⟨j + 1, by omega, by go_num, ⟨K + (Lease.en x : Nat), by congr 1; unfold Lease.en; push_cast; omega, Lib.hid (by have a := HK.out; have b := HLS.out; rw [a, b]; push_cast; omega), by unfold Lease.en; push_cast; omega⟩, hE⟩
      case measure => simp [intOf]; omega
    · obtain rfl : j = n := by omega
      clear hr hln
      go_wp2
      go_ret
      exact ⟨by rw [HK.out, List.take_of_length_le (by have := HN.out; omega)]; rfl, hb⟩

end Go.Proofs.Ytmojpkbdeiikiaa

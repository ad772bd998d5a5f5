/- Walks of the laws' own functions on Draft. -/
import Derived.Test.YtmofbfeclecdoaaData
import Derived.Test.YtmofbfeclecdoaaText
import Derived.StillTailTactics
namespace Go.Proofs.Ytmofbfeclecdoaa
open Go.ChangeShapes Go.WideShapes Go.ChangeAt Go.RowKit Go.Dt
set_option linter.unusedVariables false
set_option linter.unusedSimpArgs false

def Draft.z (x : Draft) : Nat := x.xText.size
def Draft.zs (l : List Draft) : Nat := l.length + (l.map fun y => Draft.z y).sum
set_option maxHeartbeats 800000 in
theorem laws_szDraft (x : Draft) (us : List Value) (left : Int) (W : World) (hr : RoL W (Lo W.heap.size) (Draft.d false x) us) (hw : Draft.wf x) (h0 : 0 ≤ left) (h1 : left ≤ 1048576) :
    Calls Try.prog 76 #[.agg us.toArray, .int .i64 left] W fun e w' => e = .returned (.int .i64 (szr left (Draft.z x))) ∧ Below W.heap.size W w' := by
  obtain rfl := Draft.cells hr
  have hz : Draft.z x = x.xText.size := rfl
  have b0 : x.xText.size ≤ 9223372036854775807 := by have := hw; simp only [Draft.wf, maxLen] at this; omega
  by_cases g0 : ((x.xText.size : Nat) : Int) ≤ left
  · have G0 := g0
    have H := Lib.hid (show szr left (Draft.z x) = left - (x.xText.size : Nat) from by rw [szr_yes (by rw [hz]; push_cast; omega), hz] <;> (try push_cast) <;> omega)
    clear hz hw
    clear G0
    go_enter Try.func76, Try.ntmps76
    go_wp2
    go_ret
    exact ⟨by rw [H.out]; rfl, (by (repeat (first | with_reducible assumption | with_reducible exact Below.refl _ _ | with_reducible refine Below.setCell ?_ ?_ _ | with_reducible refine Below.alloc ?_ ?_ _ | with_reducible refine Below.drew ?_ | with_reducible refine below_drewN ?_ _ | omega | (simp; done) | (simp; omega))); all_goals first | omega | (simp; done) | (simp; omega))⟩
  · have G0 := g0
    have H := Lib.hid (show szr left (Draft.z x) = -1 from szr_no (by rw [hz]; push_cast; omega))
    clear hz hw
    clear G0
    go_enter Try.func76, Try.ntmps76
    go_wp2
    go_ret
    exact ⟨by rw [H.out]; rfl, (by (repeat (first | with_reducible assumption | with_reducible exact Below.refl _ _ | with_reducible refine Below.setCell ?_ ?_ _ | with_reducible refine Below.alloc ?_ ?_ _ | with_reducible refine Below.drew ?_ | with_reducible refine below_drewN ?_ _ | omega | (simp; done) | (simp; omega))); all_goals first | omega | (simp; done) | (simp; omega))⟩
set_option maxHeartbeats 800000 in
theorem laws_szDraftS (l : List Draft) (A : Option Addr) (c : Nat) (left : Int) (W : World) (hr : Ro W (Lo W.heap.size) (Draft.s false l) (.slice A l.length c)) (hw : ∀ y ∈ l, Draft.wf y) (hlc : l.length ≤ c) (hm : c ≤ maxLen) (h0 : 0 ≤ left) (h1 : left ≤ 1048576) :
    Calls Try.prog 140 #[.slice A l.length c, .int .i64 left] W fun e w' => e = .returned (.int .i64 (szr left (Draft.zs l))) ∧ Below W.heap.size W w' := by
  have hlen : l.length ≤ 9223372036854775807 := by simp only [maxLen] at hm; omega
  have hz : Draft.zs l = l.length + (l.map fun y => Draft.z y).sum := rfl
  generalize hn : l.length = n at *
  have HN := Lib.hid hn
  clear hn
  by_cases h : ((n : Nat) : Int) ≤ left
  · have HZ := Lib.hid hz
    clear hz
    go_enter Try.func140, Try.ntmps140
    go_wp2
    go_loopw [1, 5] (fun q i wr => ∃ j : Nat, j ≤ n ∧ i = .int .i64 j ∧ (∃ r : Int, q = .int .i64 r ∧ Hid (r = left - n - (((l.take j).map fun y => Draft.z y).sum : Nat)) ∧ 0 ≤ r ∧ r ≤ 1048576) ∧ Below W.heap.size W wr) (fun _ i _ => n - (intOf i).toNat)
    case atStart => exact ⟨0, by omega, rfl, ⟨left - n, rfl, Lib.hid (by simp), by omega, by omega⟩, Below.refl _ _⟩
    case round =>
      obtain ⟨j, hj, rfl, ⟨r, rfl, HR, hr0, hr1⟩, hb⟩ := hrel
      by_cases hlt : j < n
      · obtain ⟨x, hx⟩ := get_lt (l := l) (k := j) (by rw [HN.out]; exact hlt)
        obtain ⟨b, off, us, rfl, hbl, hul, hru, hcl⟩ := Ro.later hr hb (Nat.le_refl _) (map_at (f := Draft.d false) hx)
        have HX := Lib.hid hx
        have HWX := hw x (List.mem_of_getElem? hx)
        obtain ⟨u0, u1, u2, rfl⟩ := list3 hul
        have k0 : wr.cell? ⟨b, off + j * 3, none⟩ = some u0 := hcl 0 _ rfl; have k1 : wr.cell? ⟨b, off + j * 3 + 1, none⟩ = some u1 := hcl 1 _ rfl; have k2 : wr.cell? ⟨b, off + j * 3 + 2, none⟩ = some u2 := hcl 2 _ rfl
        clear hcl hx
        have hru' := rol_to hru hb
        have HT := Lib.hid (take_sum (fun y : Draft => Draft.z y) HX.out)
        go_wp2_with fail
        refine (laws_szDraft x [u0, u1, u2] r wr hru' HWX hr0 hr1).mono ?_
        rintro e w1 ⟨rfl, hb1⟩
        have hB := below_step hb hb1 hb.size
        by_cases g : ((Draft.z x : Nat) : Int) ≤ r
        · rw [szr_yes g]
          go_wp2
          go_roundw
          case rel => exact ⟨j + 1, by omega, by go_num, ⟨_, rfl, Lib.hid (by have h2 := HT.out; have h3 := HR.out; rw [h2, h3]; push_cast; omega), by omega, by omega⟩, hB⟩
          case measure => simp [intOf]; omega
        · have H := Lib.hid (szr_over (l := l) (fun y : Draft => Draft.z y) HX.out HT.out HR.out g HZ.out)
          rw [szr_no g]
          go_wp2
          go_ret
          exact ⟨by rw [H.out]; rfl, hB⟩
      · obtain rfl : j = n := by omega
        have H := Lib.hid (show szr left (Draft.zs l) = r from by have h3 := HR.out; rw [List.take_of_length_le (by have := HN.out; omega)] at h3; rw [szr_yes (by rw [HZ.out]; push_cast; omega), HZ.out, h3]; push_cast; omega)
        clear hr
        go_wp2
        go_ret
        exact ⟨by rw [H.out]; rfl, hb⟩
  · have H := Lib.hid (show szr left (Draft.zs l) = -1 from szr_no (by rw [hz]; push_cast; omega))
    clear hz hr
    go_enter Try.func140, Try.ntmps140
    go_wp2
    go_ret
    exact ⟨by rw [H.out]; rfl, Below.refl _ _⟩

theorem Draft.dec (x y : Draft) : decide (x = y) = (decide (x.xSender = y.xSender) && decide (x.xAt = y.xAt) && decide (x.xText = y.xText)) := by
  cases x; cases y
  simp only [Draft.mk.injEq, Bool.decide_and, Bool.and_assoc]

set_option maxHeartbeats 1000000 in
theorem laws_eqDraft (x y : Draft) (us vs : List Value) (W : World) (hr : RoL W (Lo W.heap.size) (Draft.d true x) us) (hs : RoL W (Lo W.heap.size) (Draft.d true y) vs) :
    Calls Try.prog 198 #[.agg us.toArray, .agg vs.toArray] W fun e w' => e = .returned (.bool (decide (x = y))) ∧ Below W.heap.size W w' := by
  obtain rfl := Draft.cells hr
  obtain rfl := Draft.cells hs
  have HD := Lib.hid (Draft.dec x y)
  go_enter Try.func198, Try.ntmps198
  go_wp2
  all_goals (go_ret; exact ⟨by rw [HD.out]; simp_all [bytes_inj], (by (repeat (first | with_reducible assumption | with_reducible exact Below.refl _ _ | with_reducible refine Below.setCell ?_ ?_ _ | with_reducible refine Below.alloc ?_ ?_ _ | with_reducible refine Below.drew ?_ | with_reducible refine below_drewN ?_ _ | omega | (simp; done) | (simp; omega))); all_goals first | omega | (simp; done) | (simp; omega))⟩)
set_option maxHeartbeats 1000000 in
set_option maxRecDepth 100000 in
theorem laws_eqDraftS (l m : List Draft) (A A' : Option Addr) (c c' : Nat) (W : World) (hr : Ro W (Lo W.heap.size) (Draft.s true l) (.slice A l.length c)) (hs : Ro W (Lo W.heap.size) (Draft.s true m) (.slice A' m.length c')) (hc : c ≤ maxLen) (hc' : c' ≤ maxLen) (hlc : l.length ≤ c) (hmc : m.length ≤ c') :
    Calls Try.prog 143 #[.slice A l.length c, .slice A' m.length c'] W fun e w' => e = .returned (.bool (decide (l = m))) ∧ Below W.heap.size W w' := by
  have hlen : l.length ≤ 9223372036854775807 := by simp only [maxLen] at hc; omega
  have hlen' : m.length ≤ 9223372036854775807 := by simp only [maxLen] at hc'; omega
  clear hc hc' hlc hmc
  by_cases hl : l.length = m.length
  · have HL := Lib.hid hl
    rw [← hl] at hs ⊢
    clear hl hlen'
    generalize hn : l.length = n at *
    have HN := Lib.hid hn
    clear hn
    go_enter Try.func143, Try.ntmps143
    go_wp2
    go_loopw [5] (fun i wr => ∃ j : Nat, j ≤ n ∧ i = .int .i64 j ∧ l.take j = m.take j ∧ Below W.heap.size W wr) (fun i _ => n - (intOf i).toNat)
    case atStart => exact ⟨0, by omega, rfl, by simp, Below.refl _ _⟩
    case round =>
      obtain ⟨j, hj, rfl, hq, hb⟩ := hrel
      have HQ := Lib.hid hq
      clear hq
      by_cases hlt : j < n
      · obtain ⟨x, hx⟩ := get_lt (l := l) (k := j) (by rw [HN.out]; exact hlt)
        obtain ⟨y, hy⟩ := get_lt (l := m) (k := j) (by rw [← HL.out]; exact hlt)
        obtain ⟨b, off, us, rfl, hbl, hul, hru, hcl⟩ := Ro.later hr hb (Nat.le_refl _) (map_at (f := Draft.d true) hx)
        obtain ⟨b', off', vs, rfl, hbl', hul', hru', hcl'⟩ := Ro.later hs hb (Nat.le_refl _) (map_at (f := Draft.d true) hy)
        have HX := Lib.hid hx
        have HY := Lib.hid hy
        obtain ⟨u0, u1, u2, rfl⟩ := list3 hul
        obtain ⟨v0, v1, v2, rfl⟩ := list3 hul'
        have k0 : wr.cell? ⟨b, off + j * 3, none⟩ = some u0 := hcl 0 _ rfl; have k1 : wr.cell? ⟨b, off + j * 3 + 1, none⟩ = some u1 := hcl 1 _ rfl; have k2 : wr.cell? ⟨b, off + j * 3 + 2, none⟩ = some u2 := hcl 2 _ rfl
        have k0' : wr.cell? ⟨b', off' + j * 3, none⟩ = some v0 := hcl' 0 _ rfl; have k1' : wr.cell? ⟨b', off' + j * 3 + 1, none⟩ = some v1 := hcl' 1 _ rfl; have k2' : wr.cell? ⟨b', off' + j * 3 + 2, none⟩ = some v2 := hcl' 2 _ rfl
        have hru1 := rol_to hru (Below.drew hb)
        have hru2 := rol_to hru' (Below.drew hb)
        clear hcl hcl' hx hy hr hs hru hru' hul hul'
        go_wp2_with fail
        go_still_tail 8, (by kernel_rfl)
        change wpList _ _ _ _ _ wr.drew
        go_wp2_with fail
        refine (laws_eqDraft x y [u0, u1, u2] [v0, v1, v2] _ hru1 hru2).mono ?_
        rintro e w1 ⟨rfl, hb1⟩
        have hB : Below W.heap.size W w1 := hb.trans (Below.mono (Below.trans (Below.drew (Below.refl _ _)) hb1) hb.size)
        by_cases hxy : x = y
        · have HT := Lib.hid (take_eq_succ HQ.out HX.out HY.out hxy)
          rw [decide_eq_true hxy]
          clear hxy
          go_wp2
          go_roundw
          case rel => exact ⟨j + 1, by omega, by go_num, HT.out, hB⟩
          case measure => simp [intOf]; omega
        · have HT := Lib.hid (eq_no HX.out HY.out hxy)
          rw [decide_eq_false hxy]
          clear hxy
          go_wp2
          go_ret
          exact ⟨by rw [HT.out]; rfl, hB⟩
      · have HT := Lib.hid (take_all (l := l) (m := m) (j := j) (by have := HN.out; omega) (by have := HL.out; omega) HQ.out)
        clear hr hs
        go_wp2
        go_ret
        exact ⟨by rw [HT.out]; rfl, hb⟩
  · have HT := Lib.hid (len_no hl)
    have hB : ((l.length : Int) != (m.length : Int)) = true := by rw [bne_iff_ne]; omega
    clear hr hs
    go_enter Try.func143, Try.ntmps143
    go_wp2
    go_ret
    exact ⟨by rw [HT.out]; rfl, Below.refl _ _⟩

set_option maxHeartbeats 1600000 in
set_option maxRecDepth 100000 in
theorem laws_toDraft (x : Draft) (us : List Value) (W : World) (hr : RoL W (Lo W.heap.size) (Draft.d false x) us) (hz : Draft.z x ≤ 1048576) :
    Calls Try.prog 78 #[.agg us.toArray] W (MadeL W (Draft.d true x)) := by
  obtain rfl := Draft.cells hr
  have hz' := hz
  unfold Draft.z at hz'
  clear hz
  clear hz'
  go_enter Try.func78, Try.ntmps78
  go_wp2
  exact bodyPost_ret (v := .agg #[.int .i64 x.xSender, .int .i64 x.xAt, .string x.xText]) (by simp [results, Try.results78, go_sem]) rfl ⟨[.int .i64 x.xSender, .int .i64 x.xAt, .string x.xText], _, rfl, OwL.consP (Ow.I _ _) (OwL.consP (Ow.I _ _) (OwL.consP (Ow.S _) (OwL.nil))), (by (repeat (first | with_reducible assumption | with_reducible exact Below.refl _ _ | with_reducible refine Below.setCell ?_ ?_ _ | with_reducible refine Below.alloc ?_ ?_ _ | with_reducible refine Below.drew ?_ | with_reducible refine below_drewN ?_ _ | omega | (simp; done) | (simp; omega))); all_goals first | omega | (simp; done) | (simp; omega)), fun b h => by exact h.elim⟩
def Draft.zero : List D := [.int .i64 0, .int .i64 0, .str ByteArray.empty]
theorem Draft.zero_own (w : World) : OwL w Draft.zero (Value.agg #[.int .i64 0, .int .i64 0, .string ByteArray.empty]).cells.toList (fun _ => False) := OwL.consP (Ow.I _ _) (OwL.consP (Ow.I _ _) (OwL.consP (Ow.S _) (OwL.nil)))
theorem Draft.inf : Inf Try.prog 82 (.agg #[.int .i64 0, .int .i64 0, .string ByteArray.empty]) 3 32 := by unfold Inf; kernel_rfl
set_option maxHeartbeats 1600000 in
set_option maxRecDepth 100000 in
theorem laws_toDraftS (l : List Draft) (A : Option Addr) (c : Nat) (W : World) (hr : Ro W (Lo W.heap.size) (Draft.s false l) (.slice A l.length c)) (hzs : Draft.zs l ≤ 1048576) :
    Calls Try.prog 142 #[.slice A l.length c] W (Made W (Draft.s true l)) := by
  have hl : l.length ≤ 1048576 := by unfold Draft.zs at hzs; omega
  have hel : ∀ x ∈ l, Draft.z x ≤ 1048576 := fun x hx => by have := mem_sum (fun y : Draft => Draft.z y) hx; unfold Draft.zs at hzs; omega
  clear hzs
  generalize hn : l.length = n at *
  have HN := Lib.hid hn
  clear hn
  go_enter Try.func142, Try.ntmps142
  go_wp2_with (at_make; refine dt_make rfl _ _ _ 82 rfl Try.underlying76 (.agg #[.int .i64 0, .int .i64 0, .string ByteArray.empty]) 32 Draft.zero Draft.inf rfl (by decide) Draft.zero_own n rfl rfl (by omega) (by omega) ?_; intro w1 hO hb hz)
  go_loopw [4] (fun i wr => ∃ j : Nat, j ≤ n ∧ i = .int .i64 j ∧ (∃ F, Ow wr (.sl 82 3 ((l.take j).map (Draft.d true) ++ List.replicate (n - j) Draft.zero)) (.slice (some ⟨W.heap.size, 0, none⟩) n n) F ∧ ∀ b, F b → W.heap.size ≤ b) ∧ Below W.heap.size W wr) (fun i _ => n - (intOf i).toNat)
  case atStart => exact ⟨0, by omega, rfl, ⟨_, (by simp only [List.take_zero, List.map_nil, List.nil_append, Nat.sub_zero]; exact hO), by omega⟩, hb⟩
  case round =>
    obtain ⟨j, hj, rfl, ⟨F, hO, hF⟩, hb⟩ := hrel
    by_cases hlt : j < n
    · obtain ⟨x, hx⟩ := get_lt (l := l) (k := j) (by rw [HN.out]; exact hlt)
      obtain ⟨b, off, us, rfl, hbl, hul, hru, hcl⟩ := Ro.later hr hb (Nat.le_refl _) (map_at (f := Draft.d false) hx)
      have HX := Lib.hid hx
      have HZX := hel x (List.mem_of_getElem? hx)
      obtain ⟨u0, u1, u2, rfl⟩ := list3 hul
      have k0 : wr.cell? ⟨b, off + j * 3, none⟩ = some u0 := hcl 0 _ rfl; have k1 : wr.cell? ⟨b, off + j * 3 + 1, none⟩ = some u1 := hcl 1 _ rfl; have k2 : wr.cell? ⟨b, off + j * 3 + 2, none⟩ = some u2 := hcl 2 _ rfl
      have hru' := rol_to hru hb
      clear hcl hx hr hru
      go_wp2_with fail
      refine (laws_toDraft x [u0, u1, u2] wr hru' HZX).mono ?_
      rintro e w2 ⟨us2, F2, rfl, hO2, hb2, hF2⟩
      have hO1 := hO.keep hb2
      have hlt1 := hO.lt
      go_wp2_with (change wpList _ _ _ (⟨none, _, _, _, _, _⟩ :: _) _ _; refine dt_store (by rfl) 82 _ _ (by rfl) hO1 j _ (by rfl) (by have := HN.out; simp; omega) (by rfl) (.agg us2.toArray) (by rfl) (Draft.d true x) (by rw [show (Value.agg us2.toArray).cells.size = us2.length from by simp [Value.cells]]; rw [hO2.1]; kernel_rfl) (show OwL _ _ (Value.agg us2.toArray).cells.toList F2 from by simpa [Value.cells] using hO2) (fun b h2 h1 => by have := hlt1 b h1; have := hF2 b h2; omega) (by rfl) (by decide) ?_; intro w3 F3 hO3 hk3 hz3 hF3 hg3)
      go_roundw
      case rel =>
        refine ⟨j + 1, by omega, by go_num, ⟨F3, ?_, fun b hb' => ?_⟩, (hb.trans (hb2.mono hb.size)).trans (hk3.below (by have := hb.size; have := hb2.size; omega) (by omega))⟩
        · rw [← HN.out] at hO3 ⊢
          rw [build_set (Draft.d true) Draft.zero l j x HX.out] at hO3
          exact hO3
        · rcases hF3 b hb' with h | h
          · exact hF b h
          · have := hF2 b h; have := hb.size; omega
      case measure => simp [intOf]; omega
    · obtain rfl : j = n := by omega
      clear hr
      go_wp2
      go_ret
      refine ⟨_, F, rfl, ?_, hb, hF⟩
      have := HN.out
      rw [← this] at hO ⊢
      simpa [Draft.s, Draft.e] using hO

def Draft.me (x : Draft) (k : Int) : Draft := ⟨k, k + 1, mtext (k + 2)⟩
def Draft.en (x : Draft) : Nat := 3
def Draft.ml : List Draft → Int → List Draft
  | [], _ => []
  | x :: l, k => Draft.me x k :: Draft.ml l (k + Draft.en x)
def Draft.ln (l : List Draft) : Nat := (l.map Draft.en).sum
theorem Draft.ml_len (l : List Draft) (k : Int) : (Draft.ml l k).length = l.length := by
  induction l generalizing k with
  | nil => rfl
  | cons x l ih => simp [Draft.ml, ih]
theorem Draft.ml_get (l : List Draft) (k : Int) (j : Nat) (x : Draft) (h : l[j]? = some x) : (Draft.ml l k)[j]? = some (Draft.me x (k + (Draft.ln (l.take j) : Nat))) := by
  induction l generalizing k j with
  | nil => simp at h
  | cons y l ih =>
    cases j with
    | zero => simp at h; subst h; simp [Draft.ml, Draft.ln]
    | succ j =>
      simp at h
      have := ih (k + (Draft.en y : Nat)) j h
      simp only [Draft.ml, List.getElem?_cons_succ, this, List.take_succ_cons, Draft.ln, List.map_cons, List.sum_cons]
      congr 2
      push_cast
      omega
theorem Draft.ln_snoc (l : List Draft) (j : Nat) (x : Draft) (h : l[j]? = some x) : Draft.ln (l.take (j + 1)) = Draft.ln (l.take j) + Draft.en x := take_sum Draft.en h
theorem Draft.ln_le (l : List Draft) (j : Nat) : Draft.ln (l.take j) ≤ Draft.ln l := sum_le Draft.en l j
theorem Draft.en_me (x : Draft) (k : Int) : Draft.en (Draft.me x k) = Draft.en x := by simp [Draft.en, Draft.me]
theorem Draft.me_me (x : Draft) (k : Int) : Draft.me (Draft.me x k) k = Draft.me x k := by simp [Draft.me]
theorem Draft.ml_ml (l : List Draft) (k : Int) : Draft.ml (Draft.ml l k) k = Draft.ml l k := by
  induction l generalizing k with
  | nil => rfl
  | cons x l ih => simp [Draft.ml, Draft.me_me, Draft.en_me, ih]
theorem Draft.ln_ml (l : List Draft) (k : Int) : Draft.ln (Draft.ml l k) = Draft.ln l := by
  induction l generalizing k with
  | nil => rfl
  | cons x l ih => simp only [Draft.ln, Draft.ml, List.map_cons, List.sum_cons, Draft.en_me] at ih ⊢; rw [ih]
set_option maxHeartbeats 3200000 in
set_option maxRecDepth 100000 in
theorem laws_markDraftS (l : List Draft) (v : Value) (F : Nat → Prop) (k : Int) (W : World) (hO : Ow W (Draft.s true l) v F) (h0 : 0 ≤ k) (h1 : k + (Draft.ln l : Nat) ≤ 4611686018427387904) :
    Calls Try.prog 145 #[v, .int .i64 k] W (Marked W (Draft.s true (Draft.ml l k)) v F (k + (Draft.ln l : Nat))) := by
  have hO' := hO
  rcases hO'.sl_inv with ⟨h, ⟨A, rfl⟩, hF⟩ | ⟨g, c, us, cs, F0, rfl, hg, hcs, hle, hcm, _, _, _, _, hFF⟩
  · have hl : l = [] := by simpa using h
    subst hl
    go_enter Try.func145, Try.ntmps145
    go_wp2
    refine wp_loop_rounds 1 ?_
    rw [rounds_succ]
    go_wp2
    go_ret
    exact ⟨by simp [Draft.ln], Kp.refl _ _, F, hO, fun b h => h⟩
  · clear hO' hg hcs hle
    have hFg : F g := (hFF g).2 (.inl rfl)
    clear hFF
    rw [List.length_map] at hO
    rw [List.length_map]
    have hmx : l.length ≤ 9223372036854775807 := by have := hO.shape; obtain ⟨_, _, hv, h1, h2⟩ := this; simp only [List.length_map, maxLen] at h1 h2; omega
    have hln : ∀ j x, l[j]? = some x → k + (Draft.ln (l.take j) : Nat) + (Draft.en x : Nat) ≤ 4611686018427387904 := fun j x hx => by have a := Draft.ln_snoc l j x hx; have b := Draft.ln_le l (j + 1); omega
    generalize hn : l.length = n at *
    have HN := Lib.hid hn
    clear hn
    have HM := Lib.hid (Draft.ml_len l k)
    go_enter Try.func145, Try.ntmps145
    go_wp2
    go_loopw [1, 5] (fun q i wr => ∃ j : Nat, j ≤ n ∧ i = .int .i64 j ∧ (∃ K : Int, q = .int .i64 K ∧ Hid (K = k + (Draft.ln (l.take j) : Nat)) ∧ 0 ≤ K) ∧ (∃ F', Ow wr (Draft.s true ((Draft.ml l k).take j ++ l.drop j)) (.slice (some ⟨g, 0, none⟩) n c) F' ∧ ∀ b, F' b → F b ∨ W.heap.size ≤ b ∧ False) ∧ Kp F W wr) (fun _ i _ => n - (intOf i).toNat)
    case atStart => exact ⟨0, by omega, rfl, ⟨k, rfl, Lib.hid (by simp [Draft.ln]), h0⟩, ⟨F, by simpa using hO, fun _ h => .inl h⟩, Kp.refl _ _⟩
    case round =>
      obtain ⟨j, hj, rfl, ⟨K, rfl, HK, hK0⟩, ⟨F', hO, hF'⟩, hk⟩ := hrel
      replace hF' : ∀ b, F' b → F b := fun b hb => (hF' b hb).elim id (fun h => h.2.elim)
      by_cases hlt : j < n
      · obtain ⟨x, hx⟩ := get_lt (l := l) (k := j) (by rw [HN.out]; exact hlt)
        have hKx : K + (Draft.en x : Nat) ≤ 4611686018427387904 := by have a := hln j x hx; have b := HK.out; omega
        have HMG := Lib.hid (Draft.ml_get l k j x hx)
        have HLS := Lib.hid (Draft.ln_snoc l j x hx)
        have hMx : ((Draft.ml l k).take j ++ l.drop j)[j]? = some x := by have a := HM.out; have b := HN.out; rw [List.getElem?_append_right (by simp only [List.length_take]; omega), List.getElem?_drop, List.length_take, show j + (j - min j (Draft.ml l k).length) = j from by omega]; exact hx
        have hin : j < (((Draft.ml l k).take j ++ l.drop j).map (Draft.d true)).length := by have := HM.out; have := HN.out; simp; omega
        have hO1 : Ow wr (.sl 82 3 ((((Draft.ml l k).take j ++ l.drop j).map (Draft.d true)).set j (Draft.d true x))) (.slice (some ⟨g, 0, none⟩) n c) F' := by
          have e : (((Draft.ml l k).take j ++ l.drop j).map (Draft.d true)).set j (Draft.d true x) = ((Draft.ml l k).take j ++ l.drop j).map (Draft.d true) := by
            have := map_at (f := Draft.d true) hMx
            obtain ⟨h1, h2⟩ := List.getElem?_eq_some_iff.1 this
            rw [← h2, List.set_getElem_self]
          rw [e]; exact hO
        have HX := Lib.hid hx
        have HR := Lib.hid (show (((Draft.ml l k).take j ++ l.drop j).map (Draft.d true)).set j (Draft.d true (Draft.me x K)) = ((Draft.ml l k).take (j + 1) ++ l.drop (j + 1)).map (Draft.d true) from by rw [← List.map_set, mix_set HM.out j _ (by rw [HMG.out, ← HK.out])])
        generalize ((Draft.ml l k).take j ++ l.drop j).map (Draft.d true) = R at *
        clear hx hMx hO hln
        unfold Draft.en at hKx
        have hgs : g < wr.heap.size := (hO1.block_lt (by rw [List.length_set]; omega)).2
        go_wp2_with (first | (go_at_call 162; (with_reducible refine (laws_markText _ _ (by omega)).mono ?_); rintro e w1 ⟨rfl, hb1⟩; replace hO1 := hO1.keep hb1; replace hk : Kp F W w1 := hk.trans (Kp.of_below (F := F) hb1) (fun _ h => h) (fun _ _ h => h); replace hgs : g < w1.heap.size := (by have := hb1.size; omega)) | (change wpList _ _ _ (⟨none, _, _, _, _, _⟩ :: _) _ _; refine dt_storeF (by rfl) 2 _ _ (by rfl) hO1 hin 0 _ (by rfl) (by decide) (by rfl) _ (by rfl) (by rfl) _ (by kernel_rfl) (Ow.I _ _) (fun b h => h.elim) ?_; intro w2 F2 hO2 hk2 hz2 hF2 hg2 hcc2; replace hO1 := hO2; clear hO2; replace hF' : ∀ b, F2 b → F b := fun b hb => (hF2 b hb).elim (hF' b) (fun h => h.elim); replace hk : Kp F W w2 := hk.trans hk2 (fun _ h => h) (fun b _ h => h ▸ hFg); replace hgs : g < w2.heap.size := (by omega); clear hcc2 hF2 hk2 hz2 hg2) | (change wpList _ _ _ (⟨none, _, _, _, _, _⟩ :: _) _ _; refine dt_storeF (by rfl) 2 _ _ (by rfl) hO1 hin 1 _ (by rfl) (by decide) (by rfl) _ (by rfl) (by rfl) _ (by kernel_rfl) (Ow.I _ _) (fun b h => h.elim) ?_; intro w2 F2 hO2 hk2 hz2 hF2 hg2 hcc2; replace hO1 := hO2; clear hO2; replace hF' : ∀ b, F2 b → F b := fun b hb => (hF2 b hb).elim (hF' b) (fun h => h.elim); replace hk : Kp F W w2 := hk.trans hk2 (fun _ h => h) (fun b _ h => h ▸ hFg); replace hgs : g < w2.heap.size := (by omega); clear hcc2 hF2 hk2 hz2 hg2) | (change wpList _ _ _ (⟨none, _, _, _, _, _⟩ :: _) _ _; refine dt_storeF (by rfl) 9 _ _ (by rfl) hO1 hin 2 _ (by rfl) (by decide) (by rfl) _ (by rfl) (by rfl) _ (by kernel_rfl) (Ow.S _) (fun b h => h.elim) ?_; intro w2 F2 hO2 hk2 hz2 hF2 hg2 hcc2; replace hO1 := hO2; clear hO2; replace hF' : ∀ b, F2 b → F b := fun b hb => (hF2 b hb).elim (hF' b) (fun h => h.elim); replace hk : Kp F W w2 := hk.trans hk2 (fun _ h => h) (fun b _ h => h ▸ hFg); replace hgs : g < w2.heap.size := (by omega); clear hcc2 hF2 hk2 hz2 hg2))
        go_roundw
        case rel =>
          refine ⟨j + 1, by omega, by go_num, ⟨K + (Draft.en x : Nat), by congr 1; unfold Draft.en; push_cast; omega, Lib.hid (by have a := HK.out; have b := HLS.out; rw [a, b]; push_cast; omega), by unfold Draft.en; push_cast; omega⟩, ⟨_, ?_, fun b hb => .inl (hF' b hb)⟩, hk⟩
          unfold Draft.s
          rw [← HR.out]
          refine cast_own ?_ hO1
          rw [show Draft.d true (Draft.me x K) = _ from rfl]
          simp [Draft.d, Draft.me, List.set, Int.add_assoc]
        case measure => simp [intOf]; omega
      · obtain rfl : j = n := by omega
        go_wp2
        go_ret
        refine ⟨by rw [HK.out, List.take_of_length_le (by have := HN.out; omega)]; rfl, hk, F', ?_, hF'⟩
        rw [← HN.out] at hO ⊢
        rw [List.take_of_length_le (by have := HM.out; omega), List.drop_of_length_le (by omega), List.append_nil] at hO
        exact hO

set_option maxHeartbeats 3200000 in
set_option maxRecDepth 100000 in
theorem laws_heldDraftS (l : List Draft) (A : Option Addr) (c : Nat) (k : Int) (W : World) (hr : Ro W (Lo W.heap.size) (Draft.s true (Draft.ml l k)) (.slice A l.length c)) (hmx : l.length ≤ 9223372036854775807) (h0 : 0 ≤ k) (h1 : k + (Draft.ln l : Nat) ≤ 4611686018427387904) :
    Calls Try.prog 146 #[.slice A l.length c, .int .i64 k] W (fun e w' => e = .returned (.int .i64 (k + (Draft.ln l : Nat))) ∧ Below W.heap.size W w') := by
  have hln : ∀ j x, l[j]? = some x → k + (Draft.ln (l.take j) : Nat) + (Draft.en x : Nat) ≤ 4611686018427387904 := fun j x hx => by have a := Draft.ln_snoc l j x hx; have b := Draft.ln_le l (j + 1); omega
  generalize hn : l.length = n at *
  have HN := Lib.hid hn
  clear hn
  go_enter Try.func146, Try.ntmps146
  go_wp2
  go_loopw [1, 5] (fun q i wr => ∃ j : Nat, j ≤ n ∧ i = .int .i64 j ∧ (∃ K : Int, q = .int .i64 K ∧ Hid (K = k + (Draft.ln (l.take j) : Nat)) ∧ 0 ≤ K) ∧ Below W.heap.size W wr) (fun _ i _ => n - (intOf i).toNat)
  case atStart => exact ⟨0, by omega, rfl, ⟨k, rfl, Lib.hid (by simp [Draft.ln]), h0⟩, Below.refl _ _⟩
  case round =>
    obtain ⟨j, hj, rfl, ⟨K, rfl, HK, hK0⟩, hb⟩ := hrel
    by_cases hlt : j < n
    · obtain ⟨x, hx⟩ := get_lt (l := l) (k := j) (by rw [HN.out]; exact hlt)
      have hKx : K + (Draft.en x : Nat) ≤ 4611686018427387904 := by have a := hln j x hx; have b := HK.out; omega
      have HLS := Lib.hid (Draft.ln_snoc l j x hx)
      have hy : (Draft.ml l k)[j]? = some (Draft.me x K) := by rw [Draft.ml_get l k j x hx, ← HK.out]
      obtain ⟨b, off, us, rfl, hbl, hul, hru, hcl⟩ := Ro.later hr hb (Nat.le_refl _) (map_at (f := Draft.d true) hy)
      obtain rfl := Draft.cells hru
      have k0 : wr.cell? ⟨b, off + j * 3, none⟩ = some (.int .i64 (K)) := by exact hcl 0 _ rfl
      have k1 : wr.cell? ⟨b, off + j * 3 + 1, none⟩ = some (.int .i64 (K + 1)) := by exact hcl 1 _ rfl
      have k2 : wr.cell? ⟨b, off + j * 3 + 2, none⟩ = some (.string (mtext (K + 1 + 1))) := by rw [show K + 1 + 1 = K + 2 from by omega]; exact hcl 2 _ rfl
      clear hcl hx hy hr hln hru hul
      unfold Draft.en at hKx
      have hbs : W.heap.size ≤ wr.heap.size := hb.size
      have hbr : b < wr.heap.size := by omega
      go_wp2
      go_region_held3 (fun w' => Below wr.heap.size wr w' ∧ w'.cell? ⟨b, off + j * 3 + 2, none⟩ = some (.string (mtext (K + 1 + 1)))) (first | (refine ⟨below_drew1 _, ?_⟩; go_keep) | exact ⟨(below_drew1 _).trans hb1, (hb1.cell (p := ⟨b, _, none⟩) hbr).trans k2⟩ | go_keep) (first | (go_at_call 162; (with_reducible refine (laws_markText _ _ (by omega)).mono ?_); rintro e w1 ⟨rfl, hb1⟩))
      have hB : Below W.heap.size wr w1 := ((below_drew1 _).trans hb1).mono hbs
      have hE : Below W.heap.size W w1 := hb.trans hB
      clear hb1
      go_wp2
      go_roundw
      case rel => exact ⟨j + 1, by omega, by go_num, ⟨K + (Draft.en x : Nat), by congr 1; unfold Draft.en; push_cast; omega, Lib.hid (by have a := HK.out; have b := HLS.out; rw [a, b]; push_cast; omega), by unfold Draft.en; push_cast; omega⟩, hE⟩
      case measure => simp [intOf]; omega
    · obtain rfl : j = n := by omega
      clear hr hln
      go_wp2
      go_ret
      exact ⟨by rw [HK.out, List.take_of_length_le (by have := HN.out; omega)]; rfl, hb⟩

theorem Draft.ln_z (l : List Draft) : Draft.ln l ≤ 16 * Draft.zs l := by
  induction l with
  | nil => simp [Draft.ln, Draft.zs]
  | cons x l ih =>
    simp only [Draft.ln, Draft.zs, List.map_cons, List.sum_cons, List.length_cons, Draft.en, Draft.z] at ih ⊢
    omega

end Go.Proofs.Ytmofbfeclecdoaa

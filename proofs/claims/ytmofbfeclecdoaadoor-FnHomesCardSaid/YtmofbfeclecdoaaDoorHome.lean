/- Homes of rooms. -/
import Derived.Test.YtmofbfeclecdoaaDoorScore
import Derived.Test.YtmofbfeclecdoaaDoorList
import Derived.Test.YtmofbfeclecdoaaDoorLaw
namespace Go.Proofs.YtmofbfeclecdoaaDoor
open Go.ChangeShapes Go.WideShapes Go.ChangeAt Go.RowKit Go.Dt
set_option linter.unusedVariables false
set_option linter.unusedSimpArgs false
def okShards (l : List Int) : Bool := (decide (1 ≤ (l.length : Int)) && decide ((l.length : Int) ≤ 16)) && rises (fun n => inB n 1 1000) l
def okRooms (l : List Int) : Bool := decide ((l.length : Int) ≤ 64) && rises (fun n => inB n 1 1000) l
theorem rises_at {p : Int → Bool} {l : List Int} (h : rises p l = true) : ∀ x ∈ l, p x = true := by
  intro x hx
  obtain ⟨j, hj, rfl⟩ := List.getElem_of_mem hx
  unfold rises upTo at h
  rw [List.all_eq_true] at h
  have := h j (List.mem_range.2 hj)
  unfold riseAt at this
  rw [List.getElem?_eq_getElem hj] at this
  cases j with
  | zero => exact this
  | succ k => simp only [Bool.and_eq_true] at this; exact this.1
theorem okShards_at {l : List Int} (h : okShards l = true) : ∀ x ∈ l, I64 x := by
  intro x hx
  unfold okShards at h
  simp only [Bool.and_eq_true] at h
  exact inB_i64 (rises_at h.2 x hx)
theorem okRooms_at {l : List Int} (h : okRooms l = true) : ∀ x ∈ l, I64 x := by
  intro x hx
  unfold okRooms at h
  simp only [Bool.and_eq_true] at h
  exact inB_i64 (rises_at h.2 x hx)
theorem okShards_len {l : List Int} (h : okShards l = true) : 0 < l.length := by
  unfold okShards at h
  simp only [Bool.and_eq_true, decide_eq_true_eq] at h
  omega
set_option maxRecDepth 100000 in
theorem impl_shardsOk (l : List Int) (A : Option Addr) (c : Nat) (W : World) (hr : Ro W (Lo W.heap.size) (ints l) (.slice A l.length c)) (hc : c ≤ maxLen) (hlc : l.length ≤ c) :
    Calls Tryd.prog 48 #[.slice A l.length c] W fun e w' => e = .returned (.bool (okShards l)) ∧ Below W.heap.size W w' := by
  have HR := impl_rising 45 (fun _ _ => by rfl) (fun n => inB n 1 1000) (fun n w => impl_isShard n w) l A c W hr hc hlc
  have HI := fun w => impl_in (l.length : Int) 1 16 w
  have HO := Lib.hid (show okShards l = (inB (l.length : Int) 1 16 && rises (fun n => inB n 1 1000) l) from rfl)
  clear hr hc hlc
  generalize rises (fun n => inB n 1 1000) l = q at *
  generalize okShards l = o at *
  generalize l.length = n at *
  cases hi : inB (n : Int) 1 16
  all_goals
    rw [hi] at HI HO
    clear hi
    go_enter Tryd.func48, Tryd.ntmps48
    go_wp2_with (first | (go_at_call 69; (with_reducible refine (HI _).mono ?_); rintro e w' ⟨rfl, rfl⟩) | (go_at_call 70; (with_reducible refine HR.mono ?_); rintro e w1 ⟨rfl, rfl⟩))
    go_ret
    exact ⟨by rw [HO.out]; rfl, Below.refl _ _⟩
set_option maxRecDepth 100000 in
theorem impl_roomsOk (l : List Int) (A : Option Addr) (c : Nat) (W : World) (hr : Ro W (Lo W.heap.size) (ints l) (.slice A l.length c)) (hc : c ≤ maxLen) (hlc : l.length ≤ c) :
    Calls Tryd.prog 47 #[.slice A l.length c] W fun e w' => e = .returned (.bool (okRooms l)) ∧ Below W.heap.size W w' := by
  have HR := impl_rising 44 (fun _ _ => by rfl) (fun n => inB n 1 1000) (fun n w => impl_isRoom n w) l A c W hr hc hlc
  have HO := Lib.hid (show okRooms l = (decide ((l.length : Int) ≤ 64) && rises (fun n => inB n 1 1000) l) from rfl)
  clear hr hc hlc
  generalize rises (fun n => inB n 1 1000) l = q at *
  generalize okRooms l = o at *
  generalize l.length = n at *
  by_cases hi : (n : Int) ≤ 64
  · have hd : decide ((n : Int) ≤ 64) = true := by simpa using hi
    rw [hd] at HO
    go_enter Tryd.func47, Tryd.ntmps47
    go_wp2_with (go_at_call 70; (with_reducible refine HR.mono ?_); rintro e w1 ⟨rfl, rfl⟩)
    go_ret
    exact ⟨by rw [HO.out]; rfl, Below.refl _ _⟩
  · have hd : decide ((n : Int) ≤ 64) = false := by simpa using hi
    rw [hd] at HO
    go_enter Tryd.func47, Tryd.ntmps47
    go_wp2_with (go_at_call 70; (with_reducible refine HR.mono ?_); rintro e w1 ⟨rfl, rfl⟩)
    go_ret
    exact ⟨by rw [HO.out]; rfl, Below.refl _ _⟩
set_option maxRecDepth 100000 in
theorem spec_l10Shards (l : List Int) (A : Option Addr) (c : Nat) (W : World) (hr : Ro W (Lo W.heap.size) (ints l) (.slice A l.length c)) (hc : c ≤ maxLen) (hlc : l.length ≤ c) :
    Calls Tryd.prog 51 #[.slice A l.length c] W fun e w' => e = .returned (.bool (okShards l)) ∧ Below W.heap.size W w' := by
  have HR := spec_l00Rises 1 1000 l A c W hr hc hlc
  have HO := Lib.hid (show okShards l = ((decide (1 ≤ (l.length : Int)) && decide ((l.length : Int) ≤ 16)) && rises (fun n => inB n 1 1000) l) from rfl)
  clear hr hc hlc
  generalize rises (fun n => inB n 1 1000) l = q at *
  generalize okShards l = o at *
  generalize l.length = n at *
  by_cases h1 : 1 ≤ (n : Int) <;> by_cases h2 : (n : Int) ≤ 16
  all_goals
    first | (have g1 : decide (1 ≤ (n : Int)) = true := decide_eq_true h1) | (have g1 : decide (1 ≤ (n : Int)) = false := decide_eq_false h1)
    first | (have g2 : decide ((n : Int) ≤ 16) = true := decide_eq_true h2) | (have g2 : decide ((n : Int) ≤ 16) = false := decide_eq_false h2)
    rw [g1, g2] at HO
    clear g1 g2
    go_enter Tryd.func51, Tryd.ntmps51
    go_wp2_with (go_at_call 71; (with_reducible refine HR.mono ?_); rintro e w1 ⟨rfl, m, rfl⟩)
    go_ret
    exact ⟨by rw [HO.out]; rfl, by first | exact Below.refl _ _ | exact below_drewN (Below.refl _ _) _⟩
set_option maxRecDepth 100000 in
theorem spec_l10Rooms (l : List Int) (A : Option Addr) (c : Nat) (W : World) (hr : Ro W (Lo W.heap.size) (ints l) (.slice A l.length c)) (hc : c ≤ maxLen) (hlc : l.length ≤ c) :
    Calls Tryd.prog 53 #[.slice A l.length c] W fun e w' => e = .returned (.bool (okRooms l)) ∧ Below W.heap.size W w' := by
  have HR := spec_l00Rises 1 1000 l A c W hr hc hlc
  have HO := Lib.hid (show okRooms l = (decide ((l.length : Int) ≤ 64) && rises (fun n => inB n 1 1000) l) from rfl)
  clear hr hc hlc
  generalize rises (fun n => inB n 1 1000) l = q at *
  generalize okRooms l = o at *
  generalize l.length = n at *
  by_cases h2 : (n : Int) ≤ 64
  all_goals
    first | (have g2 : decide ((n : Int) ≤ 64) = true := decide_eq_true h2) | (have g2 : decide ((n : Int) ≤ 64) = false := decide_eq_false h2)
    rw [g2] at HO
    clear g2
    go_enter Tryd.func53, Tryd.ntmps53
    go_wp2_with (go_at_call 71; (with_reducible refine HR.mono ?_); rintro e w1 ⟨rfl, m, rfl⟩)
    go_ret
    exact ⟨by rw [HO.out]; rfl, by first | exact Below.refl _ _ | exact below_drewN (Below.refl _ _) _⟩
/-- The better one of two shards. -/
def better (r b s : Int) : Int := if scoreOf r b < scoreOf r s then s else b
def homeTo (r : Int) (l : List Int) (k : Nat) : Int := (l.take k).foldl (better r) (l.headD 0)
def homeOf (r : Int) (l : List Int) : Int := l.foldl (better r) (l.headD 0)
theorem homeTo_all (r : Int) (l : List Int) : homeTo r l l.length = homeOf r l := by unfold homeTo homeOf; rw [List.take_length]
theorem homeTo_succ {r : Int} {l : List Int} {k : Nat} {x : Int} (h : l[k]? = some x) : homeTo r l (k + 1) = better r (homeTo r l k) x := by
  unfold homeTo
  rw [List.take_add_one, h, List.foldl_append]
  rfl
theorem homeTo_one {r : Int} {l : List Int} {x : Int} (h : l[0]? = some x) : homeTo r l 1 = x := by
  rw [homeTo_succ h]
  cases l with
  | nil => simp at h
  | cons y l =>
    simp at h
    subst h
    show better r y y = y
    unfold better
    simp
theorem better_yes {r b s : Int} (h : scoreOf r b < scoreOf r s) : better r b s = s := if_pos h
theorem better_no {r b s : Int} (h : ¬ scoreOf r b < scoreOf r s) : better r b s = b := if_neg h
theorem homeTo_i64 {r : Int} {l : List Int} (hl : ∀ x ∈ l, I64 x) (h0 : 0 < l.length) (k : Nat) : homeTo r l k ∈ l := by
  induction k with
  | zero =>
    cases l with
    | nil => simp at h0
    | cons y l => simp [homeTo]
  | succ k ih =>
    cases hk : l[k]? with
    | none =>
      have : homeTo r l (k + 1) = homeTo r l k := by
        unfold homeTo
        rw [List.take_add_one, hk]
        simp
      rw [this]; exact ih
    | some x =>
      rw [homeTo_succ hk]
      unfold better
      split
      · exact List.mem_of_getElem? hk
      · exact ih
set_option maxHeartbeats 800000 in
set_option maxRecDepth 100000 in
theorem impl_home (r : Int) (hrr : I64 r) (l : List Int) (hl : ∀ x ∈ l, I64 x) (h0 : 0 < l.length) (A : Option Addr) (c : Nat) (W : World) (ht : Pow10 W) (hr : Ro W (Lo W.heap.size) (ints l) (.slice A l.length c)) (hc : c ≤ maxLen) (hlc : l.length ≤ c) :
    Calls Tryd.prog 49 #[.int .i64 r, .slice A l.length c] W fun e w' => e = .returned (.int .i64 (homeOf r l)) ∧ Below W.heap.size W w' := by
  have hlen : l.length ≤ 9223372036854775807 := by simp only [maxLen] at hc; omega
  have HS := fun (s : Int) (hs : I64 s) (w : World) (hb : Below W.heap.size W w) => impl_score r s hrr hs w (ht.on hb)
  have HM := Lib.hid (homeTo_i64 (r := r) hl h0)
  have HL := Lib.hid hl
  obtain ⟨x0, hx0⟩ := get_lt (l := l) (k := 0) h0
  have H1 := Lib.hid (homeTo_one (r := r) hx0)
  have H00 := Lib.hid (show homeTo r l 0 = x0 from by cases l with | nil => simp at hx0 | cons y l => simp at hx0; simpa [homeTo] using hx0)
  obtain ⟨b0, off0, hA, hbl0, c0⟩ := ints_at hr (Below.refl _ _) (Nat.le_refl _) hx0
  subst hA
  rw [Nat.add_zero] at c0
  have HA := Lib.hid (homeTo_all r l)
  clear hc hlc hl ht hx0
  have hn0 : 1 ≤ l.length := h0
  have hn0' : (0 : Int) < (l.length : Int) := by omega
  generalize hn : l.length = n at *
  have HN := Lib.hid hn
  clear hn
  go_enter Tryd.func49, Tryd.ntmps49
  go_wp2
  go_loopw [5, 13] (fun b k wr => ∃ j : Nat, j ≤ n ∧ k = .int .i64 j ∧ b = .int .i64 (homeTo r l j) ∧ Below W.heap.size W wr) (fun _ k _ => n - (intOf k).toNat)
  case atStart => exact ⟨0, Nat.zero_le _, rfl, by rw [H00.out], Below.refl _ _⟩
  case round =>
    obtain ⟨j, hj, rfl, rfl, hb⟩ := hrel
    by_cases hlt : j < n
    · obtain ⟨x, hx⟩ := get_lt (l := l) (k := j) (by rw [HN.out]; exact hlt)
      obtain ⟨b1, off1, hA, hbl, cj⟩ := ints_at hr hb (Nat.le_refl _) hx
      injection hA with hA
      injection hA with e1 e2
      subst e1; subst e2
      have hxi := HL.out x (List.mem_of_getElem? hx)
      have hbi := HL.out _ (HM.out j)
      have HT := Lib.hid (homeTo_succ (r := r) hx)
      have hlt' : (j : Int) < (n : Int) := by omega
      have hbs := hb.size
      clear hx c0
      generalize homeTo r l j = best at *
      go_wp2_with fail
      refine (HS x hxi _ hb).mono ?_
      rintro e w1 ⟨rfl, hb1⟩
      go_wp2_with fail
      refine (HS best hbi _ (hb.trans (hb1.mono hb.size))).mono ?_
      rintro e w2 ⟨rfl, hb2⟩
      have hbw := (hb.trans (hb1.mono hb.size)).trans (hb2.mono (hb.trans (hb1.mono hb.size)).size)
      have cj2 := (hbw.cell (p := ⟨b0, off0 + j, none⟩) hbl).trans ((hb.cell (p := ⟨b0, off0 + j, none⟩) hbl).symm.trans cj)
      clear cj
      by_cases hg : scoreOf r best < scoreOf r x
      · have HG := Lib.hid (better_yes hg)
        go_wp2
        go_roundw
        case rel => exact ⟨j + 1, by omega, by go_num, by rw [HT.out, HG.out], hbw⟩
        case measure => simp [intOf]; omega
      · have HG := Lib.hid (better_no hg)
        go_wp2
        go_roundw
        case rel => exact ⟨j + 1, by omega, by go_num, by rw [HT.out, HG.out], hbw⟩
        case measure => simp [intOf]; omega
    · obtain rfl : j = n := by omega
      have HE := Lib.hid (show homeTo r l j = homeOf r l from HA.out)
      clear c0
      go_wp2
      go_ret
      exact ⟨by rw [HE.out]; rfl, hb⟩
set_option maxHeartbeats 800000 in
set_option maxRecDepth 100000 in
theorem spec_l10Home (r : Int) (hrr : I64 r) (l : List Int) (hl : ∀ x ∈ l, I64 x) (h0 : 0 < l.length) (A : Option Addr) (c : Nat) (W : World) (hr : Ro W (Lo W.heap.size) (ints l) (.slice A l.length c)) (hc : c ≤ maxLen) (hlc : l.length ≤ c) :
    Calls Tryd.prog 52 #[.int .i64 r, .slice A l.length c] W fun e w' => e = .returned (.int .i64 (homeOf r l)) ∧ Below W.heap.size W w' := by
  have hlen : l.length ≤ 9223372036854775807 := by simp only [maxLen] at hc; omega
  have HS := fun (s : Int) (hs : I64 s) (w : World) (hb : Below W.heap.size W w) => spec_l10Score r s hrr hs w
  have HM := Lib.hid (homeTo_i64 (r := r) hl h0)
  have HL := Lib.hid hl
  obtain ⟨x0, hx0⟩ := get_lt (l := l) (k := 0) h0
  have H1 := Lib.hid (homeTo_one (r := r) hx0)
  have H00 := Lib.hid (show homeTo r l 0 = x0 from by cases l with | nil => simp at hx0 | cons y l => simp at hx0; simpa [homeTo] using hx0)
  obtain ⟨b0, off0, hA, hbl0, c0⟩ := ints_at hr (Below.refl _ _) (Nat.le_refl _) hx0
  subst hA
  rw [Nat.add_zero] at c0
  have HA := Lib.hid (homeTo_all r l)
  clear hc hlc hl hx0
  have hn0 : 1 ≤ l.length := h0
  have hn0' : (0 : Int) < (l.length : Int) := by omega
  generalize hn : l.length = n at *
  have HN := Lib.hid hn
  clear hn
  go_enter Tryd.func52, Tryd.ntmps52
  go_wp2
  go_loopw [5, 6] (fun b k wr => ∃ j : Nat, j ≤ n ∧ k = .int .i64 j ∧ b = .int .i64 (homeTo r l j) ∧ Below W.heap.size W wr) (fun _ k _ => n - (intOf k).toNat)
  case atStart => exact ⟨1, hn0, rfl, by rw [H1.out], Below.refl _ _⟩
  case round =>
    obtain ⟨j, hj, rfl, rfl, hb⟩ := hrel
    by_cases hlt : j < n
    · obtain ⟨x, hx⟩ := get_lt (l := l) (k := j) (by rw [HN.out]; exact hlt)
      obtain ⟨b1, off1, hA, hbl, cj⟩ := ints_at hr hb (Nat.le_refl _) hx
      injection hA with hA
      injection hA with e1 e2
      subst e1; subst e2
      have hxi := HL.out x (List.mem_of_getElem? hx)
      have hbi := HL.out _ (HM.out j)
      have HT := Lib.hid (homeTo_succ (r := r) hx)
      have hlt' : (j : Int) < (n : Int) := by omega
      have hbs := hb.size
      clear hx c0
      generalize homeTo r l j = best at *
      go_wp2_with fail
      refine (HS x hxi _ hb).mono ?_
      rintro e w1 ⟨rfl, hb1⟩
      go_wp2_with fail
      refine (HS best hbi _ (hb.trans (hb1.mono hb.size))).mono ?_
      rintro e w2 ⟨rfl, hb2⟩
      have hbw := (hb.trans (hb1.mono hb.size)).trans (hb2.mono (hb.trans (hb1.mono hb.size)).size)
      have cj2 := (hbw.cell (p := ⟨b0, off0 + j, none⟩) hbl).trans ((hb.cell (p := ⟨b0, off0 + j, none⟩) hbl).symm.trans cj)
      clear cj
      by_cases hg : scoreOf r best < scoreOf r x
      · have HG := Lib.hid (better_yes hg)
        go_wp2
        go_roundw
        case rel => exact ⟨j + 1, by omega, by go_num, by rw [HT.out, HG.out], hbw⟩
        case measure => simp [intOf]; omega
      · have HG := Lib.hid (better_no hg)
        go_wp2
        go_roundw
        case rel => exact ⟨j + 1, by omega, by go_num, by rw [HT.out, HG.out], hbw⟩
        case measure => simp [intOf]; omega
    · obtain rfl : j = n := by omega
      have HE := Lib.hid (show homeTo r l j = homeOf r l from HA.out)
      clear c0
      go_wp2
      go_ret
      exact ⟨by rw [HE.out]; rfl, hb⟩
def ShardFor_f (r : Int) (l : List Int) : Int × Bool := if inB r 1 1000 = true ∧ okShards l = true then (homeOf r l, true) else (0, false)
set_option maxRecDepth 100000 in
theorem impl_ShardFor (r : Int) (l : List Int) (A : Option Addr) (c : Nat) (W : World) (ht : Pow10 W) (hr : Ro W (Lo W.heap.size) (ints l) (.slice A l.length c)) (hc : c ≤ maxLen) (hlc : l.length ≤ c) :
    Calls Tryd.prog 18 #[.int .i64 r, .slice A l.length c] W fun e w' => e = .returned (.tuple #[.int .i64 (ShardFor_f r l).1, .bool (ShardFor_f r l).2]) ∧ Below W.heap.size W w' := by
  have HR := fun (w : World) => impl_isRoom r w
  have HS := fun (w : World) (hb : Below W.heap.size W w) => impl_shardsOk l A c w (ro_to hr hb) hc hlc
  cases h1 : inB r 1 1000
  · have HF := Lib.hid (show ShardFor_f r l = (0, false) from if_neg (by simp [h1]))
    rw [h1] at HR
    clear h1 hr hc hlc ht HS
    generalize l.length = n at *
    go_enter Tryd.func18, Tryd.ntmps18
    go_wp2_with (go_at_call 44; (with_reducible refine (HR _).mono ?_); rintro e w' ⟨rfl, rfl⟩)
    go_ret2
    exact ⟨by rw [HF.out]; rfl, Below.refl _ _⟩
  cases h2 : okShards l
  · have HF := Lib.hid (show ShardFor_f r l = (0, false) from if_neg (by simp [h2]))
    rw [h1] at HR
    rw [h2] at HS
    clear h1 h2 hr hc hlc ht 
    generalize l.length = n at *
    go_enter Tryd.func18, Tryd.ntmps18
    go_wp2_with (first | (go_at_call 44; (with_reducible refine (HR _).mono ?_); rintro e w' ⟨rfl, rfl⟩) | (go_at_call 48; (with_reducible refine (HS _ (Below.refl _ _)).mono ?_); rintro e w1 ⟨rfl, hb1⟩))
    go_ret2
    exact ⟨by rw [HF.out]; rfl, hb1⟩
  have HF := Lib.hid (show ShardFor_f r l = (homeOf r l, true) from if_pos ⟨h1, h2⟩)
  have HC := fun (w : World) (hb : Below W.heap.size W w) => impl_home r (inB_i64 h1) l (okShards_at h2) (okShards_len h2) A c w (ht.on hb) (ro_to hr hb) hc hlc
  rw [h1] at HR
  rw [h2] at HS
  clear h1 h2 hr hc hlc ht 
  generalize l.length = n at *
  go_enter Tryd.func18, Tryd.ntmps18
  go_wp2_with (first | (go_at_call 44; (with_reducible refine (HR _).mono ?_); rintro e w' ⟨rfl, rfl⟩) | (go_at_call 48; (with_reducible refine (HS _ (Below.refl _ _)).mono ?_); rintro e w1 ⟨rfl, hb1⟩))
  refine (HC _ hb1).mono ?_
  rintro e w2 ⟨rfl, hb2⟩
  go_wp2
  go_ret2
  exact ⟨by rw [HF.out]; rfl, hb1.trans (hb2.mono hb1.size)⟩
set_option maxRecDepth 100000 in
theorem spec_ShardFor (r : Int) (l : List Int) (A : Option Addr) (c : Nat) (W : World) (hr : Ro W (Lo W.heap.size) (ints l) (.slice A l.length c)) (hc : c ≤ maxLen) (hlc : l.length ≤ c) :
    Calls Tryd.prog 19 #[.int .i64 r, .slice A l.length c] W fun e w' => e = .returned (.tuple #[.int .i64 (ShardFor_f r l).1, .bool (ShardFor_f r l).2]) ∧ Below W.heap.size W w' := by
  have HR := fun (w : World) => spec_l00In r 1 1000 w
  have HS := fun (w : World) (hb : Below W.heap.size W w) => spec_l10Shards l A c w (ro_to hr hb) hc hlc
  cases h1 : inB r 1 1000
  · have HF := Lib.hid (show ShardFor_f r l = (0, false) from if_neg (by simp [h1]))
    rw [h1] at HR
    clear h1 hr hc hlc HS
    generalize l.length = n at *
    go_enter Tryd.func19, Tryd.ntmps19
    go_wp2_with (go_at_call 42; (with_reducible refine (HR _).mono ?_); rintro e w' ⟨rfl, rfl⟩)
    go_ret2
    exact ⟨by rw [HF.out]; rfl, Below.refl _ _⟩
  cases h2 : okShards l
  · have HF := Lib.hid (show ShardFor_f r l = (0, false) from if_neg (by simp [h2]))
    rw [h1] at HR
    rw [h2] at HS
    clear h1 h2 hr hc hlc 
    generalize l.length = n at *
    go_enter Tryd.func19, Tryd.ntmps19
    go_wp2_with (first | (go_at_call 42; (with_reducible refine (HR _).mono ?_); rintro e w' ⟨rfl, rfl⟩) | (go_at_call 51; (with_reducible refine (HS _ (Below.refl _ _)).mono ?_); rintro e w1 ⟨rfl, hb1⟩))
    go_ret2
    exact ⟨by rw [HF.out]; rfl, hb1⟩
  have HF := Lib.hid (show ShardFor_f r l = (homeOf r l, true) from if_pos ⟨h1, h2⟩)
  have HC := fun (w : World) (hb : Below W.heap.size W w) => spec_l10Home r (inB_i64 h1) l (okShards_at h2) (okShards_len h2) A c w (ro_to hr hb) hc hlc
  rw [h1] at HR
  rw [h2] at HS
  clear h1 h2 hr hc hlc 
  generalize l.length = n at *
  go_enter Tryd.func19, Tryd.ntmps19
  go_wp2_with (first | (go_at_call 42; (with_reducible refine (HR _).mono ?_); rintro e w' ⟨rfl, rfl⟩) | (go_at_call 51; (with_reducible refine (HS _ (Below.refl _ _)).mono ?_); rintro e w1 ⟨rfl, hb1⟩))
  refine (HC _ hb1).mono ?_
  rintro e w2 ⟨rfl, hb2⟩
  go_wp2
  go_ret2
  exact ⟨by rw [HF.out]; rfl, hb1.trans (hb2.mono hb1.size)⟩
theorem ShardFor_lawI (r : Int) (l : List Int) (A : Option Addr) (c : Nat) (W : World) (ht : Pow10 W) (hr : Ro W (Lo W.heap.size) (ints l) (.slice A l.length c)) (hz : l.length ≤ 1048576) : Calls Tryd.prog 18 #[.int .i64 r, .slice A l.length c] W fun e w' => e = .returned (.tuple #[.int .i64 (ShardFor_f r l).1, .bool (ShardFor_f r l).2]) ∧ Below W.heap.size W w' :=
  impl_ShardFor r l A c W ht hr hr.sl_max hr.sl_cap
theorem ShardFor_lawS (r : Int) (l : List Int) (A : Option Addr) (c : Nat) (W : World) (hr : Ro W (Lo W.heap.size) (ints l) (.slice A l.length c)) (hz : l.length ≤ 1048576) : Calls Tryd.prog 19 #[.int .i64 r, .slice A l.length c] W fun e w' => e = .returned (.tuple #[.int .i64 (ShardFor_f r l).1, .bool (ShardFor_f r l).2]) ∧ Below W.heap.size W w' :=
  spec_ShardFor r l A c W hr hr.sl_max hr.sl_cap
end Go.Proofs.YtmofbfeclecdoaaDoor

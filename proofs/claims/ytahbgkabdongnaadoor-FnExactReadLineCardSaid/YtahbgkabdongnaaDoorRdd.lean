/- ReadDecimal, by both. -/
import Derived.Test.YtahbgkabdongnaaDoorNum
import Derived.Test.YtahbgkabdongnaaDoorSti
namespace Go.Proofs.YtahbgkabdongnaaDoor
open Go.ChangeShapes Go.WideShapes Go.ChangeAt Go.RowKit Go.Dt
set_option linter.unusedVariables false
set_option linter.unusedSimpArgs false
/-- A variable of the library's that holds an error, or none. -/
def ErrAt (g : Nat) (w : World) : Prop := ∃ ev, w.cell? ⟨g, 0, none⟩ = some ev ∧ (ev = .nilIface ∨ ∃ te pe, ev = .iface te pe)
def Errs (w : World) : Prop := ErrAt 4 w ∧ ErrAt 5 w
theorem ErrAt.on {g : Nat} {w w' : World} (h : ErrAt g w) (hb : Below w.heap.size w w') : ErrAt g w' := by
  obtain ⟨ev, h1, h2⟩ := h
  have hlt : g < w.heap.size := World.block_lt_of_cell? w _ h1
  exact ⟨ev, (hb.cell (p := ⟨g, 0, none⟩) hlt).trans h1, h2⟩
theorem Errs.on {w w' : World} (h : Errs w) (hb : Below w.heap.size w w') : Errs w' := ⟨h.1.on hb, h.2.on hb⟩
/-- What the library's readers ask of a world: its tables, its errors, its limit. -/
structure Std (w : World) : Prop where
  pow : Pow10 w
  errs : Errs w
  len : ∃ m, w.cell? ⟨0, 0, none⟩ = some (.int .i64 m)
theorem Std.on {w w' : World} (h : Std w) (hb : Below w.heap.size w w') : Std w' := by
  refine ⟨h.pow.on hb, h.errs.on hb, ?_⟩
  obtain ⟨m, hm⟩ := h.len
  have hlt : 0 < w.heap.size := World.block_lt_of_cell? w _ hm
  exact ⟨m, (hb.cell (p := ⟨0, 0, none⟩) hlt).trans hm⟩
def numT (s : ByteArray) (W : World) (e : Ending) (w' : World) : Prop := e = .returned (.tuple #[.int .i64 (numL s.data.toList).1, .bool (numL s.data.toList).2]) ∧ Below W.heap.size W w'
theorem dec_eqB (s : ByteArray) (v : Int) : ((dec v).toList == s.toList) = decide (Lib.itoa v = s.data.toList) := by
  rw [Bool.eq_iff_iff, beq_iff_eq, bytes_inj, decide_eq_true_eq]
  constructor
  · intro h; rw [← h]; rfl
  · intro h
    apply ByteArray.ext
    apply Array.ext'
    exact h
set_option maxHeartbeats 1600000 in
set_option maxRecDepth 100000 in
theorem impl_ReadDecimal (s : ByteArray) (W : World) (ht : Pow10 W) (he : Errs W) (hs : s.size ≤ 1048576) :
    Calls Tryd.prog 107 #[.string s] W (numT s W) := by
  cases hp : Lib.parseIntB 64 s.data.toList with
  | «syntax» =>
    have HN := Lib.hid (numL_bad (l := s.data.toList) (fun v h => by rw [hp] at h; cases h))
    obtain ⟨ev, h1, h2⟩ := he.1
    have HC := Tryd.strconv_ParseInt_10_at64_syntax s (by omega) hp ev W h1 h2
    clear ht he h1 h2 hp
    go_enter Tryd.func107, Tryd.ntmps107
    go_wp2_with fail
    refine HC.mono ?_
    rintro e w1 ⟨N, rfl, -, -, hb1⟩
    go_wp2
    go_ret2
    exact ⟨by rw [HN.out]; rfl, hb1⟩
  | range =>
    have HN := Lib.hid (numL_bad (l := s.data.toList) (fun v h => by rw [hp] at h; cases h))
    obtain ⟨ev, h1, h2⟩ := he.2
    have HC := Tryd.strconv_ParseInt_10_at64_range s (by omega) hp ev W h1 h2
    generalize Lib.intSat 64 s.data.toList = z at *
    clear ht he h1 h2 hp
    go_enter Tryd.func107, Tryd.ntmps107
    go_wp2_with fail
    refine HC.mono ?_
    rintro e w1 ⟨N, rfl, -, -, hb1⟩
    go_wp2
    go_ret2
    exact ⟨by rw [HN.out]; rfl, hb1⟩
  | ok v =>
    have HN := Lib.hid (numL_ok hp)
    have HC := Tryd.strconv_ParseInt_10_at64_ok s (by omega) v hp W
    have HI := fun (w : World) => impl_in v (-1000000000) 1000000000 w
    have HE := dec_eqB s v
    cases hi : inB v (-1000000000) 1000000000
    · have HN2 := Lib.hid (HN.out.trans (if_neg (by rw [hi]; simp)))
      rw [hi] at HI
      clear ht he hp hi HE
      go_enter Tryd.func107, Tryd.ntmps107
      go_wp2_with fail
      refine HC.mono ?_
      rintro e w1 ⟨rfl, hw⟩
      have hb1 : Below W.heap.size W w1 := by
        rcases hw with rfl | ⟨t, rfl⟩
        · exact Below.refl _ _
        · exact Lib.bytesWorld_below _ _ _
      clear hw
      go_wp2_with (go_at_call 65; (with_reducible refine (HI _).mono ?_); rintro e w' ⟨rfl, rfl⟩)
      go_ret2
      exact ⟨by rw [HN2.out]; rfl, hb1⟩
    · have hv := hi
      unfold inB at hv
      simp at hv
      have HD := fun (w : World) (hb : Below W.heap.size W w) => impl_Decimal v (by omega) (by omega) w (ht.on hb)
      rw [hi] at HI
      cases hd : decide (Lib.itoa v = s.data.toList)
      · have HN2 := Lib.hid (HN.out.trans (if_neg (by simp at hd; simp [hd])))
        rw [hd] at HE
        clear ht he hp hi hd hv
        go_enter Tryd.func107, Tryd.ntmps107
        go_wp2_with fail
        refine HC.mono ?_
        rintro e w1 ⟨rfl, hw⟩
        have hb1 : Below W.heap.size W w1 := by
          rcases hw with rfl | ⟨t, rfl⟩
          · exact Below.refl _ _
          · exact Lib.bytesWorld_below _ _ _
        clear hw
        go_wp2_with (go_at_call 65; (with_reducible refine (HI _).mono ?_); rintro e w' ⟨rfl, rfl⟩)
        refine (HD _ hb1).mono ?_
        rintro e w2 ⟨rfl, hb2⟩
        go_wp2
        go_ret2
        exact ⟨by rw [HN2.out]; rfl, hb1.trans (hb2.mono hb1.size)⟩
      · have HN2 := Lib.hid (HN.out.trans (if_pos ⟨hi, by simpa using hd⟩))
        rw [hd] at HE
        clear ht he hp hi hd hv
        go_enter Tryd.func107, Tryd.ntmps107
        go_wp2_with fail
        refine HC.mono ?_
        rintro e w1 ⟨rfl, hw⟩
        have hb1 : Below W.heap.size W w1 := by
          rcases hw with rfl | ⟨t, rfl⟩
          · exact Below.refl _ _
          · exact Lib.bytesWorld_below _ _ _
        clear hw
        go_wp2_with (go_at_call 65; (with_reducible refine (HI _).mono ?_); rintro e w' ⟨rfl, rfl⟩)
        refine (HD _ hb1).mono ?_
        rintro e w2 ⟨rfl, hb2⟩
        go_wp2
        go_ret2
        exact ⟨by rw [HN2.out]; rfl, hb1.trans (hb2.mono hb1.size)⟩
theorem size_data (s : ByteArray) : s.data.toList.length = s.size := Array.length_toList
theorem valL_take {s : ByteArray} {k : Nat} (h : k < s.size) : valL (s.data.toList.take (k + 1)) = vstep (valL (s.data.toList.take k)) s[k] := by
  rw [List.take_succ_eq_append_getElem (by rw [size_data]; exact h), valL_snoc]
  rfl
theorem valL_11 {s : ByteArray} {k : Nat} (h : k ≤ 11) : valL (s.data.toList.take k) < 100000000000 := by
  have h1 := valL_bd (s.data.toList.take k)
  have h2 := List.length_take_le k s.data.toList
  have h3 : 10 ^ (s.data.toList.take k).length ≤ 10 ^ 11 := Nat.pow_le_pow_right (by decide) (by omega)
  have h4 : (10 : Nat) ^ 11 = 100000000000 := by decide
  omega
set_option maxHeartbeats 3200000 in
set_option maxRecDepth 100000 in
theorem spec_l01Value (s : ByteArray) (W : World) (hs : s.size ≤ 1048576) :
    Calls Tryd.prog 105 #[.string s] W (numT s W) := by
  by_cases h1 : s.size < 1
  · have HN := Lib.hid (numL_long (l := s.data.toList) (.inl (by rw [size_data]; exact h1)))
    have h1' : (s.size : Int) < 1 := by omega
    clear h1
    go_enter Tryd.func105, Tryd.ntmps105
    go_wp2
    go_ret2
    exact ⟨by rw [HN.out]; rfl, Below.refl _ _⟩
  have h1' : ¬ (s.size : Int) < 1 := by omega
  by_cases h2 : 11 < s.size
  · have HN := Lib.hid (numL_long (l := s.data.toList) (.inr (by rw [size_data]; exact h2)))
    have h2' : (11 : Int) < (s.size : Int) := by omega
    clear h2
    go_enter Tryd.func105, Tryd.ntmps105
    go_wp2
    go_ret2
    exact ⟨by rw [HN.out]; rfl, Below.refl _ _⟩
  have h2' : ¬ (11 : Int) < (s.size : Int) := by omega
  have h0 : 0 < s.size := by omega
  have hle : (s.size : Int) ≤ 11 := by omega
  go_enter Tryd.func105, Tryd.ntmps105
  go_wp2
  go_loop [4, 5] (fun v4 v5 => ∃ k : Nat, k ≤ s.size ∧ v4 = .int .i64 ((valL (s.data.toList.take k) : Nat) : Int) ∧ v5 = .int .i64 k) (fun _ v5 => s.size - (intOf v5).toNat)
  case atStart => exact ⟨0, by omega, rfl, rfl⟩
  case round =>
    obtain ⟨k, hk, rfl, rfl⟩ := hrel
    have hv := valL_11 (s := s) (k := k) (by omega)
    by_cases hlt : k < s.size
    · have hlt' : (k : Int) < (s.size : Int) := by omega
      have hb : s[k].toNat < 256 := s[k].toNat_lt
      have HT := valL_take hlt
      unfold vstep at HT
      generalize valL (s.data.toList.take k) = n at *
      by_cases h48 : 48 ≤ s[k].toNat
      · have g48 : (48 : Int) ≤ (s[k].toNat : Int) := by omega
        by_cases h57 : s[k].toNat ≤ 57
        · have g57 : (s[k].toNat : Int) ≤ 57 := by omega
          rw [if_pos ⟨h48, h57⟩] at HT
          replace HT := Lib.hid (show ((valL (s.data.toList.take (k + 1)) : Nat) : Int) = 10 * (n : Int) + ((s[k].toNat : Int) - 48) by omega)
          clear h48 h57
          go_wp2
          go_round
          case rel => exact ⟨k + 1, by omega, by rw [HT.out], by go_num⟩
          case measure => simp [intOf]; omega
        · have g57 : ¬ (s[k].toNat : Int) ≤ 57 := by omega
          rw [if_neg (fun h => h57 h.2)] at HT
          replace HT := Lib.hid HT
          clear h48 h57
          go_wp2
          go_round
          case rel => exact ⟨k + 1, by omega, by rw [HT.out], by go_num⟩
          case measure => simp [intOf]; omega
      · have g48 : ¬ (48 : Int) ≤ (s[k].toNat : Int) := by omega
        rw [if_neg (fun h => h48 h.1)] at HT
        replace HT := Lib.hid HT
        clear h48
        go_wp2
        go_round
        case rel => exact ⟨k + 1, by omega, by rw [HT.out], by go_num⟩
        case measure => simp [intOf]; omega
    · obtain rfl : k = s.size := by omega
      have hall : s.data.toList.take s.size = s.data.toList := List.take_of_length_le (by rw [size_data]; exact Nat.le_refl _)
      rw [hall] at hv ⊢
      clear hall hlt
      have h0' : (0 : Int) < (s.size : Int) := by omega
      have hb : s[0].toNat < 256 := s[0].toNat_lt
      have hhd : s.data.toList.head? = some s[0] := by
        rw [List.head?_eq_getElem?, List.getElem?_eq_getElem (by rw [size_data]; exact h0)]
        rfl
      have HVN : valN s.data.toList = if s[0] = 45 then -((valL s.data.toList : Nat) : Int) else ((valL s.data.toList : Nat) : Int) := by
        unfold valN; rw [hhd]; simp only [Option.some.injEq]
      have HNL : numL s.data.toList = if inB (valN s.data.toList) (-1000000000) 1000000000 = true ∧ Lib.itoa (valN s.data.toList) = s.data.toList then (valN s.data.toList, true) else (0, false) := rfl
      have HE := dec_eqB s (valN s.data.toList)
      have HI := fun (w : World) => spec_l00In (valN s.data.toList) (-1000000000) 1000000000 w
      have HD := fun (w : World) (h0 : -1000000000 ≤ valN s.data.toList) (h1 : valN s.data.toList ≤ 1000000000) => spec_l01Dec (valN s.data.toList) (by omega) (by omega) w
      generalize valL s.data.toList = n at *
      generalize valN s.data.toList = v at *
      by_cases h45 : s[0] = 45
      · rw [if_pos h45] at HVN
        have g45 : ((s[0].toNat : Int) == 45) = true := by rw [h45]; rfl
        clear h45 hhd
        subst HVN
        cases hi : inB (-(n : Int)) (-1000000000) 1000000000
        · have HN2 := Lib.hid (HNL.trans (if_neg (by rw [hi]; simp)))
          rw [hi] at HI
          clear hi HE HNL HD
          go_wp2_with (go_at_call 61; (with_reducible refine (HI _).mono ?_); rintro e w' ⟨rfl, rfl⟩)
          go_ret2
          exact ⟨by rw [HN2.out]; rfl, Below.refl _ _⟩
        · have hw := hi
          unfold inB at hw
          simp at hw
          have HDX := fun (w : World) => HD w (by omega) (by omega)
          rw [hi] at HI
          cases hd : decide (Lib.itoa (-(n : Int)) = s.data.toList)
          · have HN2 := Lib.hid (HNL.trans (if_neg (by simp at hd; simp [hd])))
            rw [hd] at HE
            clear hi hd HNL HD
            go_wp2_with (go_at_call 61; (with_reducible refine (HI _).mono ?_); rintro e w' ⟨rfl, rfl⟩)
            refine (HDX _).mono ?_
            rintro e w2 ⟨rfl, hb2⟩
            go_wp2
            go_ret2
            exact ⟨by rw [HN2.out]; rfl, hb2⟩
          · have HN2 := Lib.hid (HNL.trans (if_pos ⟨hi, by simpa using hd⟩))
            rw [hd] at HE
            clear hi hd HNL HD
            go_wp2_with (go_at_call 61; (with_reducible refine (HI _).mono ?_); rintro e w' ⟨rfl, rfl⟩)
            refine (HDX _).mono ?_
            rintro e w2 ⟨rfl, hb2⟩
            go_wp2
            go_ret2
            exact ⟨by rw [HN2.out]; rfl, hb2⟩
      · rw [if_neg h45] at HVN
        have g45 : ((s[0].toNat : Int) == 45) = false := by
          simp
          intro h
          exact h45 (UInt8.toNat_inj.1 (by show _ = 45; omega))
        clear h45 hhd
        subst HVN
        cases hi : inB (n : Int) (-1000000000) 1000000000
        · have HN2 := Lib.hid (HNL.trans (if_neg (by rw [hi]; simp)))
          rw [hi] at HI
          clear hi HE HNL HD
          go_wp2_with (go_at_call 61; (with_reducible refine (HI _).mono ?_); rintro e w' ⟨rfl, rfl⟩)
          go_ret2
          exact ⟨by rw [HN2.out]; rfl, Below.refl _ _⟩
        · have hw := hi
          unfold inB at hw
          simp at hw
          have HDX := fun (w : World) => HD w (by omega) (by omega)
          rw [hi] at HI
          cases hd : decide (Lib.itoa (n : Int) = s.data.toList)
          · have HN2 := Lib.hid (HNL.trans (if_neg (by simp at hd; simp [hd])))
            rw [hd] at HE
            clear hi hd HNL HD
            go_wp2_with (go_at_call 61; (with_reducible refine (HI _).mono ?_); rintro e w' ⟨rfl, rfl⟩)
            refine (HDX _).mono ?_
            rintro e w2 ⟨rfl, hb2⟩
            go_wp2
            go_ret2
            exact ⟨by rw [HN2.out]; rfl, hb2⟩
          · have HN2 := Lib.hid (HNL.trans (if_pos ⟨hi, by simpa using hd⟩))
            rw [hd] at HE
            clear hi hd HNL HD
            go_wp2_with (go_at_call 61; (with_reducible refine (HI _).mono ?_); rintro e w' ⟨rfl, rfl⟩)
            refine (HDX _).mono ?_
            rintro e w2 ⟨rfl, hb2⟩
            go_wp2
            go_ret2
            exact ⟨by rw [HN2.out]; rfl, hb2⟩
end Go.Proofs.YtahbgkabdongnaaDoor

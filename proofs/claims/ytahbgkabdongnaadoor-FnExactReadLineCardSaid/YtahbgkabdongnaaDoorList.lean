/- Texts, rising lists, what lies in a list: the program's and the reference's. -/
import Derived.Test.YtahbgkabdongnaaDoorSmall
import Derived.Test.YtahbgkabdongnaaDoorInts
import Derived.Deep.QuietTactic
import Derived.BigQuiet
namespace Go.Proofs.YtahbgkabdongnaaDoor
open Go.ChangeShapes Go.WideShapes Go.ChangeAt Go.RowKit Go.Dt
set_option linter.unusedVariables false
set_option linter.unusedSimpArgs false
def okByte (s : ByteArray) (i : Nat) : Bool := if h : i < s.size then !(decide ((s[i].toNat : Int) < 32) || decide (126 < (s[i].toNat : Int))) else true
theorem okByte_at {s : ByteArray} {i : Nat} (h : i < s.size) : okByte s i = !(decide ((s[i].toNat : Int) < 32) || decide (126 < (s[i].toNat : Int))) := dif_pos h
/-- All bytes ahead of j may stand in a text. -/
def okTo (s : ByteArray) (j : Nat) : Bool := (List.range j).all (okByte s)
def isText (s : ByteArray) : Bool := okTo s s.size && decide (s.size ≤ 80)
theorem okTo_succ {s : ByteArray} {j : Nat} (h : okTo s j = true) (hb : okByte s j = true) : okTo s (j + 1) = true := by
  unfold okTo at *; rw [List.range_succ, List.all_append, h]; simp [hb]
theorem isText_no {s : ByteArray} {j : Nat} (hj : j < s.size) (hb : okByte s j = false) : isText s = false := by
  unfold isText okTo
  rw [Bool.and_eq_false_iff]
  exact .inl (List.all_eq_false.2 ⟨j, List.mem_range.2 hj, by simp [hb]⟩)
theorem isText_yes {s : ByteArray} (h : okTo s s.size = true) : isText s = decide (s.size ≤ 80) := by unfold isText; rw [h, Bool.true_and]
set_option maxRecDepth 100000 in
theorem impl_IsText (s : ByteArray) (W : World) (hs : s.size ≤ maxLen) : Calls Tryd.prog 85 #[.string s] W fun e w' => e = .returned (.bool (isText s)) ∧ w' = W := by
  have hs' : s.size ≤ 9223372036854775807 := by simp only [maxLen] at hs; omega
  go_enter Tryd.func85, Tryd.ntmps85
  go_wp2
  go_loopw [6] (fun k wr => ∃ j : Nat, j ≤ s.size ∧ k = .int .i64 j ∧ Hid (okTo s j = true) ∧ wr = W) (fun k _ => s.size - (intOf k).toNat)
  case atStart => exact ⟨0, by omega, rfl, Lib.hid rfl, rfl⟩
  case round =>
    obtain ⟨j, hj, rfl, HQ, rfl⟩ := hrel
    by_cases hlt : j < s.size
    · cases hb : okByte s j
      · have HN := Lib.hid (isText_no hlt hb)
        have hb' : (decide ((s[j].toNat : Int) < 32) || decide (126 < (s[j].toNat : Int))) = true := by rw [okByte_at hlt, Bool.not_eq_false'] at hb; exact hb
        clear hb
        go_wp2
        all_goals first | (go_ret; exact ⟨by rw [HN.out]; rfl, by first | rfl | trivial⟩) | (exfalso; simp at hb'; omega)
      · have HS := Lib.hid (okTo_succ HQ.out hb)
        have hb' : (decide ((s[j].toNat : Int) < 32) || decide (126 < (s[j].toNat : Int))) = false := by rw [okByte_at hlt, Bool.not_eq_true'] at hb; exact hb
        have h1 : ¬ (s[j].toNat : Int) < 32 := by simp at hb'; omega
        have h2 : ¬ 126 < (s[j].toNat : Int) := by simp at hb'; omega
        clear hb hb'
        go_wp2
        go_roundw
        case rel => exact ⟨j + 1, by omega, by go_num, HS, by first | rfl | trivial⟩
        case measure => simp [intOf]; omega
    · obtain rfl : j = s.size := by omega
      have HY := Lib.hid (isText_yes HQ.out)
      have HD := Lib.hid (show decide ((s.size : Int) ≤ 80) = decide (s.size ≤ 80) from by rw [decide_eq_decide]; omega)
      go_wp2
      go_ret
      exact ⟨by rw [HY.out, ← HD.out]; rfl, by first | rfl | trivial⟩
set_option maxRecDepth 100000 in
theorem spec_l01IsText (s : ByteArray) (W : World) (hs : s.size ≤ maxLen) : Calls Tryd.prog 79 #[.string s] W fun e w' => e = .returned (.bool (isText s)) ∧ w' = W := by
  have hs' : s.size ≤ 9223372036854775807 := by simp only [maxLen] at hs; omega
  go_enter Tryd.func79, Tryd.ntmps79
  go_wp2
  go_loopw [3] (fun k wr => ∃ j : Nat, j ≤ s.size ∧ k = .int .i64 j ∧ Hid (okTo s j = true) ∧ wr = W) (fun k _ => s.size - (intOf k).toNat)
  case atStart => exact ⟨0, by omega, rfl, Lib.hid rfl, rfl⟩
  case round =>
    obtain ⟨j, hj, rfl, HQ, rfl⟩ := hrel
    by_cases hlt : j < s.size
    · cases hb : okByte s j
      · have HN := Lib.hid (isText_no hlt hb)
        have hb' : (decide ((s[j].toNat : Int) < 32) || decide (126 < (s[j].toNat : Int))) = true := by rw [okByte_at hlt, Bool.not_eq_false'] at hb; exact hb
        clear hb
        go_wp2
        all_goals first | (go_ret; exact ⟨by rw [HN.out]; rfl, by first | rfl | trivial⟩) | (exfalso; simp at hb'; omega)
      · have HS := Lib.hid (okTo_succ HQ.out hb)
        have hb' : (decide ((s[j].toNat : Int) < 32) || decide (126 < (s[j].toNat : Int))) = false := by rw [okByte_at hlt, Bool.not_eq_true'] at hb; exact hb
        have h1 : ¬ (s[j].toNat : Int) < 32 := by simp at hb'; omega
        have h2 : ¬ 126 < (s[j].toNat : Int) := by simp at hb'; omega
        clear hb hb'
        go_wp2
        go_roundw
        case rel => exact ⟨j + 1, by omega, by go_num, HS, by first | rfl | trivial⟩
        case measure => simp [intOf]; omega
    · obtain rfl : j = s.size := by omega
      have HY := Lib.hid (isText_yes HQ.out)
      have HD := Lib.hid (show decide ((s.size : Int) ≤ 80) = decide (s.size ≤ 80) from by rw [decide_eq_decide]; omega)
      go_wp2
      go_ret
      exact ⟨by rw [HY.out, ← HD.out]; rfl, by first | rfl | trivial⟩
def upTo (f : Nat → Bool) (n : Nat) : Bool := (List.range n).all f
theorem upTo_succ {f : Nat → Bool} {j : Nat} (h : upTo f j = true) (hb : f j = true) : upTo f (j + 1) = true := by
  unfold upTo at *; rw [List.range_succ, List.all_append, h]; simp [hb]
theorem upTo_no {f : Nat → Bool} {n j : Nat} (hj : j < n) (hb : f j = false) : upTo f n = false :=
  List.all_eq_false.2 ⟨j, List.mem_range.2 hj, by simp [hb]⟩
/-- The i-th of a list is right, and more than the one ahead of it. -/
def riseAt (p : Int → Bool) (l : List Int) (i : Nat) : Bool := match l[i]?, i with
  | some x, 0 => p x
  | some x, k + 1 => p x && (match l[k]? with | some y => decide (y < x) | none => true)
  | none, _ => true
def rises (p : Int → Bool) (l : List Int) : Bool := upTo (riseAt p l) l.length
theorem riseAt_zero {p : Int → Bool} {l : List Int} {x : Int} (h : l[0]? = some x) : riseAt p l 0 = p x := by unfold riseAt; rw [h]
theorem riseAt_succ {p : Int → Bool} {l : List Int} {k : Nat} {x y : Int} (h : l[k + 1]? = some x) (h' : l[k]? = some y) : riseAt p l (k + 1) = (p x && decide (y < x)) := by
  unfold riseAt
  rw [h]
  show (p x && (match l[k]? with | some y => decide (y < x) | none => true)) = _
  rw [h']
set_option maxRecDepth 100000 in
theorem impl_rising (f : FuncId) (hcf : ∀ (args : Array Value) (w : World), (callFunc f args).run Tryd.prog w = .ok (.enter f args) w) (p : Int → Bool) (hf : ∀ (n : Int) (w : World), Calls Tryd.prog f (#[.int .i64 n] ++ #[]) w fun e w' => e = .returned (.bool (p n)) ∧ w = w')
    (l : List Int) (A : Option Addr) (c : Nat) (W : World) (hr : Ro W (Lo W.heap.size) (ints l) (.slice A l.length c)) (hc : c ≤ maxLen) (hlc : l.length ≤ c) :
    Calls Tryd.prog 102 #[.slice A l.length c, .func (.func f) #[] #[]] W fun e w' => e = .returned (.bool (rises p l)) ∧ w' = W := by
  have hlen : l.length ≤ 9223372036854775807 := by simp only [maxLen] at hc; omega
  clear hc hlc
  have HR := Lib.hid (show rises p l = upTo (riseAt p l) l.length from rfl)
  generalize hn : l.length = n at *
  have HN := Lib.hid hn
  clear hn
  go_enter Tryd.func102, Tryd.ntmps102
  go_wp2
  go_loopw [9] (fun k wr => ∃ j : Nat, j ≤ n ∧ k = .int .i64 j ∧ Hid (upTo (riseAt p l) j = true) ∧ wr = W) (fun k _ => n - (intOf k).toNat)
  case atStart => exact ⟨0, by omega, rfl, Lib.hid rfl, rfl⟩
  case round =>
    obtain ⟨j, hj, rfl, HQ, rfl⟩ := hrel
    by_cases hlt : j < n
    · obtain ⟨x, hx⟩ := get_lt (l := l) (k := j) (by rw [HN.out]; exact hlt)
      obtain ⟨b, off, rfl, hbl, c0⟩ := ints_at hr (Below.refl _ _) (Nat.le_refl _) hx
      have HP := hf x wr
      cases j with
      | zero =>
        have HZ := Lib.hid (riseAt_zero (p := p) hx)
        rw [Nat.add_zero] at c0
        clear hr hx
        cases hp : p x
        · rw [hp] at HP
          have HO := Lib.hid (show rises p l = false from by rw [HR.out]; exact upTo_no hlt (by rw [HZ.out, hp]))
          clear hp hf
          go_wp2_with fail
          refine HP.mono ?_
          rintro e w1 ⟨rfl, rfl⟩
          go_wp2
          go_ret
          exact ⟨by rw [HO.out]; rfl, by first | rfl | trivial⟩
        · rw [hp] at HP
          have HO := Lib.hid (upTo_succ HQ.out (by rw [HZ.out, hp]))
          clear hp hf
          go_wp2_with fail
          refine HP.mono ?_
          rintro e w1 ⟨rfl, rfl⟩
          go_wp2
          go_roundw
          case rel => exact ⟨1, by omega, by go_num, HO, by first | rfl | trivial⟩
          case measure => simp [intOf]; omega
      | succ k =>
        obtain ⟨y, hy⟩ := get_lt (l := l) (k := k) (by rw [HN.out]; omega)
        obtain ⟨b', off', hbo, hbl', c1⟩ := ints_at hr (Below.refl _ _) (Nat.le_refl _) hy
        injection hbo with hbo; injection hbo with hb1 hb2; subst hb1; subst hb2
        have HZ := Lib.hid (riseAt_succ (p := p) hx hy)
        clear hr hx hy
        have hi : ((k + 1 : Nat) : Int) - 1 = k := by omega
        cases hp : p x
        · rw [hp] at HP
          have HO := Lib.hid (show rises p l = false from by rw [HR.out]; exact upTo_no hlt (by rw [HZ.out, hp]; rfl))
          clear hp hf
          go_wp2_with fail
          refine HP.mono ?_
          rintro e w1 ⟨rfl, rfl⟩
          go_wp2
          go_ret
          exact ⟨by rw [HO.out]; rfl, by first | rfl | trivial⟩
        · rw [hp] at HP
          by_cases hyx : y < x
          · have HO := Lib.hid (upTo_succ HQ.out (by rw [HZ.out, hp]; simp [hyx]))
            clear hp hf
            go_wp2_with fail
            refine HP.mono ?_
            rintro e w1 ⟨rfl, rfl⟩
            go_wp2
            go_roundw
            case rel => exact ⟨k + 1 + 1, by omega, by go_num, HO, by first | rfl | trivial⟩
            case measure => simp [intOf]; omega
          · have HO := Lib.hid (show rises p l = false from by rw [HR.out]; exact upTo_no hlt (by rw [HZ.out, hp]; simp; omega))
            clear hp hf
            go_wp2_with fail
            refine HP.mono ?_
            rintro e w1 ⟨rfl, rfl⟩
            go_wp2
            go_ret
            exact ⟨by rw [HO.out]; rfl, by first | rfl | trivial⟩
    · obtain rfl : j = n := by omega
      clear hr hf
      go_wp2
      go_ret
      exact ⟨by rw [HR.out, HQ.out]; rfl, by first | rfl | trivial⟩
def isMem (n : Int) : Bool := inB n 1 1000
set_option maxRecDepth 100000 in
theorem impl_IsMembers (l : List Int) (A : Option Addr) (c : Nat) (W : World) (hr : Ro W (Lo W.heap.size) (ints l) (.slice A l.length c)) (hc : c ≤ maxLen) (hlc : l.length ≤ c) :
    Calls Tryd.prog 86 #[.slice A l.length c] W fun e w' => e = .returned (.bool (rises isMem l)) ∧ w' = W := by
  have HR := impl_rising 83 (fun _ _ => by rfl) isMem (fun n w => impl_isMember n w) l A c W hr hc hlc
  clear hr hc hlc
  generalize l.length = n at *
  go_enter Tryd.func86, Tryd.ntmps86
  go_wp2_with fail
  refine HR.mono ?_
  rintro e w1 ⟨rfl, rfl⟩
  go_wp2
  go_ret
  exact ⟨rfl, by first | rfl | trivial⟩
set_option maxHeartbeats 1600000 in
set_option maxRecDepth 100000 in
theorem spec_l00Rises (lo hi : Int) (l : List Int) (A : Option Addr) (c : Nat) (W : World) (hr : Ro W (Lo W.heap.size) (ints l) (.slice A l.length c)) (hc : c ≤ maxLen) (hlc : l.length ≤ c) :
    Calls Tryd.prog 100 #[.slice A l.length c, .int .i64 lo, .int .i64 hi] W fun e w' => e = .returned (.bool (rises (fun n => inB n lo hi) l)) ∧ ∃ m, w' = W.drewN m := by
  have hlen : l.length ≤ 9223372036854775807 := by simp only [maxLen] at hc; omega
  clear hc hlc
  have HR := Lib.hid (show rises (fun n => inB n lo hi) l = upTo (riseAt (fun n => inB n lo hi) l) l.length from rfl)
  generalize hn : l.length = n at *
  have HN := Lib.hid hn
  clear hn
  go_enter Tryd.func100, Tryd.ntmps100
  go_wp2
  go_loopw [7] (fun k wr => ∃ j : Nat, j ≤ n ∧ k = .int .i64 j ∧ Hid (upTo (riseAt (fun n => inB n lo hi) l) j = true) ∧ ∃ m, wr = W.drewN m) (fun k _ => n - (intOf k).toNat)
  case atStart => exact ⟨0, by omega, rfl, Lib.hid rfl, 0, rfl⟩
  case round =>
    obtain ⟨j, hj, rfl, HQ, m, hw⟩ := hrel
    have hb : Below W.heap.size W wr := hw ▸ below_drewN (Below.refl _ _) m
    have HW := Lib.hid hw
    clear hw
    by_cases hlt : j < n
    · obtain ⟨x, hx⟩ := get_lt (l := l) (k := j) (by rw [HN.out]; exact hlt)
      obtain ⟨b, off, rfl, hbl, c0⟩ := ints_at hr hb (Nat.le_refl _) hx
      have hlt' : (j : Int) < (n : Int) := by omega
      cases j with
      | zero =>
        have HZ := Lib.hid (riseAt_zero (p := fun n => inB n lo hi) hx)
        rw [Nat.add_zero] at c0
        clear hr hx
        have HV := fun w => spec_l00In x lo hi w
        cases hp : inB x lo hi
        · simp only [hp] at HV
          have HO := Lib.hid (show rises (fun n => inB n lo hi) l = false from by rw [HR.out]; exact upTo_no hlt (by rw [HZ.out]; exact hp))
          go_wp2
          go_quiet (first | (go_at_call 61; exact Calls.quiet_of_same ((HV _).mono fun _ _ ⟨he, hw⟩ => ⟨he, hw.symm⟩)))
          go_wp2
          go_ret
          exact ⟨by rw [HO.out]; rfl, ⟨_, by rw [HW.out, World.drewN_drewN]⟩⟩
        · simp only [hp] at HV
          have HO := Lib.hid (upTo_succ HQ.out (by rw [HZ.out]; exact hp))
          go_wp2
          go_quiet (first | (go_at_call 61; exact Calls.quiet_of_same ((HV _).mono fun _ _ ⟨he, hw⟩ => ⟨he, hw.symm⟩)))
          go_wp2
          go_roundw
          case rel => exact ⟨1, by omega, by go_num, HO, ⟨_, by rw [HW.out, World.drewN_drewN]⟩⟩
          case measure => simp [intOf]; omega
      | succ k =>
        obtain ⟨y, hy⟩ := get_lt (l := l) (k := k) (by rw [HN.out]; omega)
        obtain ⟨b', off', hbo, hbl', c1⟩ := ints_at hr hb (Nat.le_refl _) hy
        injection hbo with hbo; injection hbo with hb1 hb2; subst hb1; subst hb2
        have HZ := Lib.hid (riseAt_succ (p := fun n => inB n lo hi) hx hy)
        clear hr hx hy
        have hi1 : (k : Int) + 1 - 1 = k := by omega
        have h0 : (0 : Int) < (k : Int) + 1 := by omega
        have hk1 : (k : Int) < (n : Int) := by omega
        have hk2 : (k : Int) + 1 < (n : Int) := by omega
        have HV := fun w => spec_l00In x lo hi w
        cases hp : inB x lo hi
        · simp only [hp] at HV
          have HO := Lib.hid (show rises (fun n => inB n lo hi) l = false from by rw [HR.out]; exact upTo_no hlt (by rw [HZ.out, hp]; rfl))
          go_wp2
          go_quiet (first | (go_at_call 61; exact Calls.quiet_of_same ((HV _).mono fun _ _ ⟨he, hw⟩ => ⟨he, hw.symm⟩)))
          go_wp2
          go_ret
          exact ⟨by rw [HO.out]; rfl, ⟨_, by rw [HW.out, World.drewN_drewN]⟩⟩
        · simp only [hp] at HV
          by_cases hyx : y < x
          · have HO := Lib.hid (upTo_succ HQ.out (by rw [HZ.out, hp]; simp [hyx]))
            have hge : decide (x ≤ y) = false := by simp; omega
            go_wp2
            go_quiet (first | (go_at_call 61; exact Calls.quiet_of_same ((HV _).mono fun _ _ ⟨he, hw⟩ => ⟨he, hw.symm⟩)))
            go_wp2
            go_roundw
            case rel => exact ⟨k + 1 + 1, by omega, by go_num, HO, ⟨_, by rw [HW.out, World.drewN_drewN]⟩⟩
            case measure => simp [intOf]; omega
          · have HO := Lib.hid (show rises (fun n => inB n lo hi) l = false from by rw [HR.out]; exact upTo_no hlt (by rw [HZ.out, hp]; simp; omega))
            have hge : decide (x ≤ y) = true := by simp; omega
            go_wp2
            go_quiet (first | (go_at_call 61; exact Calls.quiet_of_same ((HV _).mono fun _ _ ⟨he, hw⟩ => ⟨he, hw.symm⟩)))
            go_wp2
            go_ret
            exact ⟨by rw [HO.out]; rfl, ⟨_, by rw [HW.out, World.drewN_drewN]⟩⟩
    · obtain rfl : j = n := by omega
      clear hr
      go_wp2
      go_ret
      exact ⟨by rw [HR.out, HQ.out]; rfl, m, HW.out⟩
theorem spec_l01Members (l : List Int) (A : Option Addr) (c : Nat) (W : World) (hr : Ro W (Lo W.heap.size) (ints l) (.slice A l.length c)) (hc : c ≤ maxLen) (hlc : l.length ≤ c) :
    Calls Tryd.prog 80 #[.slice A l.length c] W fun e w' => e = .returned (.bool (rises isMem l)) ∧ ∃ m, w' = W.drewN m := by
  have HR := spec_l00Rises 1 1000 l A c W hr hc hlc
  change Calls _ _ _ _ (fun e w' => e = .returned (.bool (rises isMem l)) ∧ _) at HR
  clear hr hc hlc
  generalize l.length = n at *
  go_enter Tryd.func80, Tryd.ntmps80
  go_wp2_with fail
  refine HR.mono ?_
  rintro e w1 ⟨rfl, m, rfl⟩
  go_wp2
  go_ret
  exact ⟨rfl, m, rfl⟩
def hasIt (l : List Int) (n : Int) : Bool := l.any fun x => n == x
theorem hasIt_idx (l : List Int) (n : Int) : decide (0 ≤ idx (fun x => n == x) l) = hasIt l n := idx_any _ l
set_option maxRecDepth 100000 in
theorem slices_Index (v : Int) (l : List Int) (A : Option Addr) (c : Nat) (W : World) (hr : Ro W (Lo W.heap.size) (ints l) (.slice A l.length c)) (hc : c ≤ maxLen) (hlc : l.length ≤ c) :
    Calls Tryd.prog 103 #[.slice A l.length c, .int .i64 v] W fun e w' => e = .returned (.int .i64 (idx (fun x => v == x) l)) ∧ w' = W := by
  have hlen : l.length ≤ 9223372036854775807 := by simp only [maxLen] at hc; omega
  clear hc hlc
  generalize hn : l.length = n at *
  have HN := Lib.hid hn
  clear hn
  go_enter Tryd.func103, Tryd.ntmps103
  go_wp2
  go_loopw [8] (fun k wr => ∃ j : Nat, j ≤ n ∧ k = .int .i64 j ∧ Hid (∀ (q : Nat) (y : Int), q < j → l[q]? = some y → (v == y) = false) ∧ wr = W) (fun k _ => n - (intOf k).toNat)
  case atStart => exact ⟨0, by omega, rfl, Lib.hid (fun q _ h => by omega), rfl⟩
  case round =>
    obtain ⟨j, hj, rfl, HQ, rfl⟩ := hrel
    by_cases hlt : j < n
    · obtain ⟨x, hx⟩ := get_lt (l := l) (k := j) (by rw [HN.out]; exact hlt)
      obtain ⟨b, off, rfl, hbl, c0⟩ := ints_at hr (Below.refl _ _) (Nat.le_refl _) hx
      have HX := Lib.hid hx
      clear hr hx
      cases hp : (v == x)
      · have HO := Lib.hid (show ∀ (q : Nat) (y : Int), q < j + 1 → l[q]? = some y → (v == y) = false from fun q y h hy => by
          rcases Nat.lt_or_ge q j with h' | h'
          · exact HQ.out q y h' hy
          · obtain rfl : q = j := by omega
            rw [HX.out] at hy; injection hy with hy; rw [← hy]; exact hp)
        go_wp2
        go_roundw
        case rel => exact ⟨j + 1, by omega, by go_num, HO, by first | rfl | trivial⟩
        case measure => simp [intOf]; omega
      · have HO := Lib.hid (idx_found (p := fun y => v == y) HX.out hp HQ.out)
        go_wp2
        go_ret
        exact ⟨by rw [HO.out]; rfl, by first | rfl | trivial⟩
    · obtain rfl : j = n := by omega
      have HO := Lib.hid (idx_none (p := fun y => v == y) (l := l) fun q y h hy => HQ.out q y (by have := HN.out; omega) hy)
      clear hr
      go_wp2
      go_ret
      exact ⟨by rw [HO.out]; rfl, by first | rfl | trivial⟩
theorem slices_Contains (v : Int) (l : List Int) (A : Option Addr) (c : Nat) (W : World) (hr : Ro W (Lo W.heap.size) (ints l) (.slice A l.length c)) (hc : c ≤ maxLen) (hlc : l.length ≤ c) :
    Calls Tryd.prog 87 #[.slice A l.length c, .int .i64 v] W fun e w' => e = .returned (.bool (hasIt l v)) ∧ w' = W := by
  have HR := slices_Index v l A c W hr hc hlc
  have HI := Lib.hid (hasIt_idx l v)
  clear hr hc hlc
  generalize idx (fun x => v == x) l = i at *
  generalize l.length = n at *
  go_enter Tryd.func87, Tryd.ntmps87
  go_wp2_with fail
  refine HR.mono ?_
  rintro e w1 ⟨rfl, rfl⟩
  go_wp2
  go_ret
  exact ⟨by rw [← HI.out]; rfl, by first | rfl | trivial⟩
set_option maxRecDepth 100000 in
theorem spec_l00Has (v : Int) (l : List Int) (A : Option Addr) (c : Nat) (W : World) (hr : Ro W (Lo W.heap.size) (ints l) (.slice A l.length c)) (hc : c ≤ maxLen) (hlc : l.length ≤ c) :
    Calls Tryd.prog 81 #[.slice A l.length c, .int .i64 v] W fun e w' => e = .returned (.bool (hasIt l v)) ∧ w' = W := by
  have hlen : l.length ≤ 9223372036854775807 := by simp only [maxLen] at hc; omega
  clear hc hlc
  generalize hn : l.length = n at *
  have HN := Lib.hid hn
  clear hn
  go_enter Tryd.func81, Tryd.ntmps81
  go_wp2
  go_loopw [5] (fun k wr => ∃ j : Nat, j ≤ n ∧ k = .int .i64 j ∧ Hid (∀ (q : Nat) (y : Int), q < j → l[q]? = some y → (v == y) = false) ∧ wr = W) (fun k _ => n - (intOf k).toNat)
  case atStart => exact ⟨0, by omega, rfl, Lib.hid (fun q _ h => by omega), rfl⟩
  case round =>
    obtain ⟨j, hj, rfl, HQ, rfl⟩ := hrel
    by_cases hlt : j < n
    · obtain ⟨x, hx⟩ := get_lt (l := l) (k := j) (by rw [HN.out]; exact hlt)
      obtain ⟨b, off, rfl, hbl, c0⟩ := ints_at hr (Below.refl _ _) (Nat.le_refl _) hx
      have HX := Lib.hid hx
      clear hr hx
      by_cases hp : x = v
      · have HO := Lib.hid (show hasIt l v = true from by
          unfold hasIt
          exact List.any_eq_true.2 ⟨x, List.mem_of_getElem? HX.out, by simp [hp]⟩)
        have hB : (x == v) = true := by simp [hp]
        clear hp
        go_wp2
        go_ret
        exact ⟨by rw [HO.out]; rfl, by first | rfl | trivial⟩
      · have HO := Lib.hid (show ∀ (q : Nat) (y : Int), q < j + 1 → l[q]? = some y → (v == y) = false from fun q y h hy => by
          rcases Nat.lt_or_ge q j with h' | h'
          · exact HQ.out q y h' hy
          · obtain rfl : q = j := by omega
            rw [HX.out] at hy; injection hy with hy; rw [← hy]; simp; omega)
        have hB : (x == v) = false := by simp [hp]
        clear hp
        go_wp2
        go_roundw
        case rel => exact ⟨j + 1, by omega, by go_num, HO, by first | rfl | trivial⟩
        case measure => simp [intOf]; omega
    · obtain rfl : j = n := by omega
      have HO := Lib.hid (show hasIt l v = false from by
        unfold hasIt
        rw [List.any_eq_false]
        intro y hy
        obtain ⟨q, h, rfl⟩ := List.getElem_of_mem hy
        have := HQ.out q _ (by have := HN.out; omega) (List.getElem?_eq_getElem h)
        simpa using this)
      clear hr
      go_wp2
      go_ret
      exact ⟨by rw [HO.out]; rfl, by first | rfl | trivial⟩
theorem rises_at {p : Int → Bool} {l : List Int} (h : rises p l = true) : ∀ x ∈ l, p x = true := by
  intro x hx
  obtain ⟨j, hj, rfl⟩ := List.getElem_of_mem hx
  unfold rises upTo at h
  rw [List.all_eq_true] at h
  have := h j (List.mem_range.2 hj)
  unfold riseAt at this
  rw [List.getElem?_eq_getElem hj] at this
  cases j with
  | zero => exact this
  | succ k => simp only [Bool.and_eq_true] at this; exact this.1
end Go.Proofs.YtahbgkabdongnaaDoor

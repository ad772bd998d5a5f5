/- A log that has the first messages of another one; an empty log. -/
import Derived.Test.YtmofbfeclecdoaaSame
import Derived.Test.YtmofbfeclecdoaaBox
import Derived.Test.YtmofbfeclecdoaaLaw
namespace Go.Proofs.Ytmofbfeclecdoaa
open Go.ChangeShapes Go.WideShapes Go.ChangeAt Go.RowKit Go.Dt
set_option linter.unusedVariables false
set_option linter.unusedSimpArgs false
def nextOf (l : List Message) : Int := match l.getLast? with | some m => m.xNumber + 1 | none => 1
def Log.isEmpty (x : Log) : Bool := (x.xNext == 1) && ((x.xMessages.length : Int) == 0)
def copied (a b : Log) : Bool := decide (b.xMessages.length ≤ a.xMessages.length) && (decide (a.xMessages.take b.xMessages.length = b.xMessages) && (b.xNext == nextOf b.xMessages))
theorem nextOf_take {l : List Message} {j : Nat} {m : Message} (h : l[j]? = some m) : nextOf (l.take (j + 1)) = m.xNumber + 1 := by
  unfold nextOf
  rw [List.take_add_one, h]
  simp
theorem nextOf_last {l : List Message} {n : Nat} {m : Message} (hn : l.length = n + 1) (h : l[n]? = some m) : nextOf l = m.xNumber + 1 := by
  have := nextOf_take h
  rwa [List.take_of_length_le (by omega)] at this
/-- A slice cut short reads as the beginning. -/
theorem Ro.cut {w : World} {Pb : Nat → Prop} {e : TypeId} {sz : Nat} {rows : List (List D)} {A : Option Addr} {n c k : Nat} (h : Ro w Pb (.sl e sz rows) (.slice A n c)) (hk : k ≤ n) : Ro w Pb (.sl e sz (rows.take k)) (.slice A k c) := by
  obtain ⟨A', c', hv, hlc, hm⟩ := h.sl_inv
  injection hv with e1 e2 e3
  rcases Nat.eq_zero_or_pos k with h0 | h0
  · subst h0
    rw [List.take_zero]
    exact .emp _ _ _ _ (by omega)
  · cases h with
    | emp _ _ A c hc => omega
    | row _ _ b off c _ us h1 h2 hb h3 h4 h5 =>
      have hlk : (rows.take k).length = k := by rw [List.length_take]; omega
      have := Ro.row (w := w) (Pb := Pb) e sz b off c (rows.take k) us (by omega) h2 hb (fun i row hi => h3 i row (by rw [List.getElem?_take] at hi; split at hi; exact hi; cases hi)) (fun i row j d hi hj => h4 i row j d (by rw [List.getElem?_take] at hi; split at hi; exact hi; cases hi) hj) (fun i row j d hi hj => h5 i row j d (by rw [List.getElem?_take] at hi; split at hi; exact hi; cases hi) hj)
      rwa [hlk] at this
set_option maxRecDepth 100000 in
theorem impl_isEmpty (x : Log) (A : Option Addr) (c : Nat) (W : World) :
    Calls Try.prog 131 #[.agg #[.int .i64 x.xNext, .slice A x.xMessages.length c]] W fun e w' => e = .returned (.bool x.isEmpty) ∧ Below W.heap.size W w' := by
  have HO := Lib.hid (show x.isEmpty = ((x.xNext == 1) && ((x.xMessages.length : Int) == 0)) from rfl)
  generalize x.isEmpty = o at *
  generalize x.xMessages.length = n at *
  generalize x.xNext = next at *
  cases h1 : (next == 1) <;> cases h2 : ((n : Int) == 0)
  all_goals
    go_enter Try.func131, Try.ntmps131
    go_wp2
    go_ret
    exact ⟨by rw [HO.out]; simp [h1, h2], (by (repeat (first | with_reducible assumption | with_reducible exact Below.refl _ _ | with_reducible refine Below.setCell ?_ ?_ _ | with_reducible refine Below.alloc ?_ ?_ _ | with_reducible refine Below.drew ?_ | with_reducible refine below_drewN ?_ _ | omega | (simp; done) | (simp; omega))); all_goals first | omega | (simp; done) | (simp; omega))⟩
set_option maxRecDepth 100000 in
theorem spec_l10Empty (x : Log) (b0 o0 : Nat) (A : Option Addr) (c : Nat) (W : World) (k0 : W.cell? ⟨b0, o0, none⟩ = some (.int .i64 x.xNext)) (k1 : W.cell? ⟨b0, o0 + 1, none⟩ = some (.slice A x.xMessages.length c)) :
    Calls Try.prog 196 #[.pointer (some ⟨b0, o0, none⟩)] W fun e w' => e = .returned (.bool x.isEmpty) ∧ Below W.heap.size W w' := by
  have HO := Lib.hid (show x.isEmpty = ((x.xNext == 1) && ((x.xMessages.length : Int) == 0)) from rfl)
  generalize x.isEmpty = o at *
  generalize x.xMessages.length = n at *
  generalize x.xNext = next at *
  cases h1 : (next == 1) <;> cases h2 : ((n : Int) == 0)
  all_goals
    go_enter Try.func196, Try.ntmps196
    go_wp2
    go_ret
    exact ⟨by rw [HO.out]; simp [h1, h2], (by (repeat (first | with_reducible assumption | with_reducible exact Below.refl _ _ | with_reducible refine Below.setCell ?_ ?_ _ | with_reducible refine Below.alloc ?_ ?_ _ | with_reducible refine Below.drew ?_ | with_reducible refine below_drewN ?_ _ | omega | (simp; done) | (simp; omega))); all_goals first | omega | (simp; done) | (simp; omega))⟩
set_option maxRecDepth 100000 in
theorem impl_nextOf (l : List Message) (A : Option Addr) (c : Nat) (W : World) (hr : Ro W (Lo W.heap.size) (Message.s true l) (.slice A l.length c)) (hb : ∀ m ∈ l, 0 ≤ m.xNumber ∧ m.xNumber ≤ 2000000000) (hlen : l.length ≤ 1048576) :
    Calls Try.prog 126 #[.slice A l.length c] W fun e w' => e = .returned (.int .i64 (nextOf l)) ∧ Below W.heap.size W w' := by
  generalize hn : l.length = n at *
  cases n with
  | zero =>
    have HO := Lib.hid (show nextOf l = 1 from by rw [List.eq_nil_of_length_eq_zero hn]; rfl)
    clear hr hn
    go_enter Try.func126, Try.ntmps126
    go_wp2
    go_ret
    exact ⟨by rw [HO.out]; rfl, Below.refl _ _⟩
  | succ n =>
    obtain ⟨m, hm⟩ := get_lt (l := l) (k := n) (by omega)
    obtain ⟨b, off, A7, cc7, rfl, hbl, hru, hcl⟩ := msg_at hr hm
    have d0 : W.cell? ⟨b, off + n * 8, none⟩ = some (.int .i64 m.xNumber) := hcl W (Below.refl _ _) 0 _ rfl
    have HO := Lib.hid (nextOf_last hn hm)
    have hbm := hb m (List.mem_of_getElem? hm)
    have hB0 : (((n + 1 : Nat) : Int) == 0) = false := by simp; omega
    have hi1 : ((n + 1 : Nat) : Int) - 1 = n := by omega
    clear hr hn hcl hru hm
    go_enter Try.func126, Try.ntmps126
    go_wp2
    go_ret
    exact ⟨by rw [HO.out]; rfl, Below.refl _ _⟩
set_option maxHeartbeats 800000 in
set_option maxRecDepth 100000 in
theorem impl_copied (x y : Log) (A A' : Option Addr) (c c' : Nat) (W : World) (hr : Ro W (Lo W.heap.size) (Message.s true x.xMessages) (.slice A x.xMessages.length c)) (hs : Ro W (Lo W.heap.size) (Message.s true y.xMessages) (.slice A' y.xMessages.length c'))
    (hb : ∀ m ∈ y.xMessages, 0 ≤ m.xNumber ∧ m.xNumber ≤ 2000000000) (hlx : x.xMessages.length ≤ 1048576) (hly : y.xMessages.length ≤ 1048576) :
    Calls Try.prog 132 #[.agg #[.int .i64 x.xNext, .slice A x.xMessages.length c], .agg #[.int .i64 y.xNext, .slice A' y.xMessages.length c']] W fun e w' => e = .returned (.bool (copied x y)) ∧ Below W.heap.size W w' := by
  obtain ⟨x0, l⟩ := x
  obtain ⟨y0, m⟩ := y
  simp only at *
  by_cases hle : m.length ≤ l.length
  · have HE := fun (w : World) (hb : Below W.heap.size W w) => EqualFunc_same (l.take m.length) m A A' c c' w (by
      have h := Ro.cut (ro_to hr hb) hle
      unfold Message.s
      rw [List.map_take, List.length_take, Nat.min_eq_left hle]
      exact h) (ro_to hs hb) hr.sl_max (by rw [List.length_take]; have := hr.sl_cap; omega) hs.sl_max hs.sl_cap
    have HNX := fun (w : World) (hbw : Below W.heap.size W w) => impl_nextOf m A' c' w (ro_to hs hbw) hb hly
    rw [List.length_take, Nat.min_eq_left hle] at HE
    have hcap := hr.sl_cap
    have hcmx := hr.sl_max
    unfold maxLen at hcmx
    have HX := Lib.hid (show copied ⟨x0, l⟩ ⟨y0, m⟩ = (decide (l.take m.length = m) && (y0 == nextOf m)) from by unfold copied; simp [hle])
    generalize decide (l.take m.length = m) = be at *
    generalize nextOf m = nx at *
    generalize copied ⟨x0, l⟩ ⟨y0, m⟩ = o at *
    generalize m.length = k at *
    generalize l.length = n at *
    have g : decide (n < k) = false := by simp; omega
    clear hr hs hb
    go_enter Try.func132, Try.ntmps132
    have hkn : k ≤ c := by omega
    have hkn' : (k : Int) ≤ (c : Int) := by omega
    go_wp2_with fail
    refine wp_any (fun w => Below (W.heap.size + 1 + 1) ((W.alloc (.cells #[.int .i64 x0, .slice A n c] 41)).alloc (.cells #[.int .i64 y0, .slice A' k c'] 41)) w) (Below.refl _ _) ?_
    intro w1 hbw
    have xa : Bx w1 W.heap.size #[.int .i64 x0, .slice A n c] 41 := ((Bx.new W _ _).alloc _).below hbw (by omega)
    have xb : Bx w1 (W.heap.size + 1) #[.int .i64 y0, .slice A' k c'] 41 := (Bx.new2 W _ _ _).below hbw (by omega)
    have hB1 : Below W.heap.size W w1 := (((Below.refl _ _).alloc (Nat.le_refl _) _).alloc (by simp) _).trans (hbw.mono (by omega))
    have p1 := xa.cell 1 rfl
    have q0 := xb.cell 0 rfl
    have q1 := xb.cell 1 rfl
    have hsa := xa.lt
    have hsb := xb.lt
    have hx := (After.cells w1.heap.size w1).1
    clear hbw
    cases be
    · refine wp_region_after (w1.heap.size) (by kernel_rfl) (by kernel_rfl) ?_; (repeat (go_big_quiet_step ((go_at_call 105; with_reducible exact Calls.after (Nat.le_refl _) (HE _ (hB1.trans ((After.b _).mono hB1.size))))))); refine wpQuiet_nil ?_; intro w2 hb2
      go_wp2
      go_ret
      exact ⟨by rw [HX.out]; rfl, hB1.trans (hb2.mono hB1.size)⟩
    · refine wp_region_after (w1.heap.size) (by kernel_rfl) (by kernel_rfl) ?_; (repeat (go_big_quiet_step ((go_at_call 105; with_reducible exact Calls.after (Nat.le_refl _) (HE _ (hB1.trans ((After.b _).mono hB1.size))))))); refine wpQuiet_nil ?_; intro w2 hb2
      have hB2 := hB1.trans (hb2.mono hB1.size)
      obtain ⟨hc2, -⟩ := bcell hb2
      have hx2 := (After.cells w2.heap.size w2).1
      have hsa2 : W.heap.size < w2.heap.size := Nat.lt_of_lt_of_le hsa hb2.size
      have hsb2 : W.heap.size + 1 < w2.heap.size := Nat.lt_of_lt_of_le hsb hb2.size
      clear hx
      go_wp2_with fail
      refine wp_region_after (w2.heap.size) (by kernel_rfl) (by kernel_rfl) ?_; (repeat (go_big_quiet_step ((go_at_call 126; with_reducible exact Calls.after (Nat.le_refl _) (HNX _ (hB2.trans ((After.b _).mono hB2.size))))))); refine wpQuiet_nil ?_; intro w3 hb3
      go_wp2
      go_ret
      exact ⟨by rw [HX.out]; rfl, hB2.trans (hb3.mono hB2.size)⟩
  · have HX := Lib.hid (show copied ⟨x0, l⟩ ⟨y0, m⟩ = false from by unfold copied; simp [hle])
    have h1 : (m.length : Int) ≤ 1048576 := by omega
    generalize copied ⟨x0, l⟩ ⟨y0, m⟩ = o at *
    generalize m.length = k at *
    generalize l.length = n at *
    have g : decide (n < k) = true := by simp; omega
    clear hr hs hb
    go_enter Try.func132, Try.ntmps132
    go_wp2_with fail
    refine wp_any (fun w => Below (W.heap.size + 1 + 1) ((W.alloc (.cells #[.int .i64 x0, .slice A n c] 41)).alloc (.cells #[.int .i64 y0, .slice A' k c'] 41)) w) (Below.refl _ _) ?_
    intro w1 hbw
    have xa : Bx w1 W.heap.size #[.int .i64 x0, .slice A n c] 41 := ((Bx.new W _ _).alloc _).below hbw (by omega)
    have hB1 : Below W.heap.size W w1 := (((Below.refl _ _).alloc (Nat.le_refl _) _).alloc (by simp) _).trans (hbw.mono (by omega))
    have p1 := xa.cell 1 rfl
    have hsa := xa.lt
    have hx := (After.cells w1.heap.size w1).1
    clear hbw
    refine wp_region_after (w1.heap.size) (by kernel_rfl) (by kernel_rfl) ?_; (repeat (go_big_quiet_step (fail))); refine wpQuiet_nil ?_; intro w2 hb2
    go_wp2
    go_ret
    exact ⟨by rw [HX.out]; rfl, hB1.trans (hb2.mono hB1.size)⟩
set_option maxHeartbeats 1600000 in
set_option maxRecDepth 100000 in
theorem spec_l10Copied (x y : Log) (bx ox byy oy : Nat) (A A' : Option Addr) (c c' : Nat) (W : World) (k1 : W.cell? ⟨bx, ox + 1, none⟩ = some (.slice A x.xMessages.length c)) (j0 : W.cell? ⟨byy, oy, none⟩ = some (.int .i64 y.xNext)) (j1 : W.cell? ⟨byy, oy + 1, none⟩ = some (.slice A' y.xMessages.length c'))
    (hr : Ro W (Lo W.heap.size) (Message.s true x.xMessages) (.slice A x.xMessages.length c)) (hs : Ro W (Lo W.heap.size) (Message.s true y.xMessages) (.slice A' y.xMessages.length c'))
    (hb : ∀ m ∈ y.xMessages, 0 ≤ m.xNumber ∧ m.xNumber ≤ 2000000000) (hlx : x.xMessages.length ≤ 1048576) (hly : y.xMessages.length ≤ 1048576) :
    Calls Try.prog 197 #[.pointer (some ⟨bx, ox, none⟩), .pointer (some ⟨byy, oy, none⟩)] W fun e w' => e = .returned (.bool (copied x y)) ∧ Below W.heap.size W w' := by
  obtain ⟨x0, l⟩ := x
  obtain ⟨y0, m⟩ := y
  simp only at *
  have hblx := World.block_lt_of_cell? W _ k1
  have hbly := World.block_lt_of_cell? W _ j0
  generalize hkn : m.length = k at *
  generalize hnn : l.length = n at *
  have HK := Lib.hid hkn
  have HN := Lib.hid hnn
  clear hkn hnn
  by_cases hle : k ≤ n
  rotate_left
  · have HX := Lib.hid (show copied ⟨x0, l⟩ ⟨y0, m⟩ = false from by unfold copied; simp only [HK.out, HN.out]; simp [hle])
    have g : decide (n < k) = true := by simp; omega
    clear hr hs hb
    go_enter Try.func197, Try.ntmps197
    go_wp2
    go_ret
    exact ⟨by rw [HX.out]; rfl, Below.refl _ _⟩
  have HX := Lib.hid (show copied ⟨x0, l⟩ ⟨y0, m⟩ = (decide (l.take k = m) && (y0 == nextOf m)) from by unfold copied; simp only [HK.out, HN.out]; simp [hle])
  have g : decide (n < k) = false := by simp; omega
  have HBD := Lib.hid hb
  clear hb
  go_enter Try.func197, Try.ntmps197
  go_wp2
  go_loopw [6, 7] (fun q i wr => ∃ j : Nat, j ≤ k ∧ i = .int .i64 j ∧ q = .int .i64 (nextOf (m.take j)) ∧ Hid (l.take j = m.take j) ∧ Below W.heap.size W wr) (fun _ i _ => k - (intOf i).toNat)
  case atStart => exact ⟨0, by omega, rfl, rfl, Lib.hid (by simp), Below.refl _ _⟩
  case round =>
    obtain ⟨j, hj, rfl, rfl, HQ, hb⟩ := hrel
    have k1 : wr.cell? ⟨bx, ox + 1, none⟩ = some (.slice A n c) := (hb.cell (p := ⟨bx, ox + 1, none⟩) hblx).trans k1
    have j0 : wr.cell? ⟨byy, oy, none⟩ = some (.int .i64 y0) := (hb.cell (p := ⟨byy, oy, none⟩) hbly).trans j0
    have j1 : wr.cell? ⟨byy, oy + 1, none⟩ = some (.slice A' k c') := (hb.cell (p := ⟨byy, oy + 1, none⟩) hbly).trans j1
    have hbx := Nat.lt_of_lt_of_le hblx hb.size
    have hby := Nat.lt_of_lt_of_le hbly hb.size
    generalize hnx : nextOf (m.take j) = nx at *
    by_cases hlt : j < k
    · obtain ⟨u, hu⟩ := get_lt (l := l) (k := j) (by rw [HN.out]; omega)
      obtain ⟨v, hv⟩ := get_lt (l := m) (k := j) (by rw [HK.out]; exact hlt)
      obtain ⟨b, off, A7, cc7, rfl, hbl, hru, hcl⟩ := msg_at hr hu
      obtain ⟨b', off', Ap7, cp7, rfl, hbl', hru', hcl'⟩ := msg_at hs hv
      have HS := fun (w : World) (hbw : Below W.heap.size W w) => spec_l03SameMessage u v b (off + j * 8) b' (off' + j * 8) A7 Ap7 cc7 cp7 w (rol_to hru hbw) (rol_to hru' hbw) (hcl w hbw) (hcl' w hbw)
      have d0 : wr.cell? ⟨b', off' + j * 8, none⟩ = some (.int .i64 v.xNumber) := hcl' wr hb 0 _ rfl
      have hbl2 := Nat.lt_of_lt_of_le hbl' hb.size
      have hbv := HBD.out v (List.mem_of_getElem? hv)
      have HNX := Lib.hid (nextOf_take hv)
      have HU := Lib.hid hu
      have HV := Lib.hid hv
      have hlt' : (j : Int) < (k : Int) := by omega
      have hltn : (j : Int) < (n : Int) := by omega
      have hx := (After.cells wr.heap.size wr).1
      clear hr hs hcl hcl' hru hru' hu hv hnx
      by_cases huv : u = v
      · rw [decide_eq_true huv] at HS
        have HT := Lib.hid (take_eq_succ HQ.out HU.out HV.out huv)
        clear huv
        go_wp2_with fail
        refine wp_region_after (wr.heap.size) (by kernel_rfl) (by kernel_rfl) ?_; (repeat (go_big_quiet_step ((go_at_call 171; with_reducible exact Calls.after (Nat.le_refl _) (HS _ (hb.trans ((After.b _).mono hb.size))))))); refine wpQuiet_nil ?_; intro w1 hb1
        obtain ⟨hc1, -⟩ := bcell hb1
        go_wp2
        go_roundw
        case rel => exact ⟨j + 1, by omega, by go_num, by rw [HNX.out], HT, hb.trans (hb1.mono hb.size)⟩
        case measure => simp [intOf]; omega
      · rw [decide_eq_false huv] at HS
        have HO := Lib.hid (show copied ⟨x0, l⟩ ⟨y0, m⟩ = false from by
          rw [HX.out]
          have : decide (l.take k = m) = false := by
            rw [decide_eq_false_iff_not]
            intro e
            have h1 : (l.take k)[j]? = some u := by rw [List.getElem?_take, if_pos hlt]; exact HU.out
            rw [e, HV.out] at h1
            injection h1 with h1
            exact huv h1.symm
          rw [this]; rfl)
        clear huv
        go_wp2_with fail
        refine wp_region_after (wr.heap.size) (by kernel_rfl) (by kernel_rfl) ?_; (repeat (go_big_quiet_step ((go_at_call 171; with_reducible exact Calls.after (Nat.le_refl _) (HS _ (hb.trans ((After.b _).mono hb.size))))))); refine wpQuiet_nil ?_; intro w1 hb1
        go_wp2
        go_ret
        exact ⟨by rw [HO.out]; rfl, hb.trans (hb1.mono hb.size)⟩
    · obtain rfl : j = k := by omega
      have HE : Hid (copied ⟨x0, l⟩ ⟨y0, m⟩ = (y0 == nx)) := Lib.hid (by
        have e1 : m.take j = m := List.take_of_length_le (by have := HK.out; omega)
        rw [HX.out, HQ.out, e1, ← hnx, e1]; simp)
      clear hr hs hnx
      go_wp2
      go_ret
      exact ⟨by rw [HE.out]; rfl, hb⟩
end Go.Proofs.Ytmofbfeclecdoaa

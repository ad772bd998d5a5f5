/- A log that has the first messages of another one; an empty log. -/
import Derived.Test.YtafihplbchofoaaSame
import Derived.Test.YtafihplbchofoaaBox
import Derived.Test.YtafihplbchofoaaLaw
namespace Go.Proofs.Ytafihplbchofoaa
open Go.ChangeShapes Go.WideShapes Go.ChangeAt Go.RowKit Go.Dt
set_option linter.unusedVariables false
set_option linter.unusedSimpArgs false
def nextOf (l : List Message) : Int := match l.getLast? with | some m => m.xNumber + 1 | none => 1
def Log.isEmpty (x : Log) : Bool := (x.xNext == 1) && ((x.xMessages.length : Int) == 0)
def copied (a b : Log) : Bool := decide (b.xMessages.length ≤ a.xMessages.length) && (decide (a.xMessages.take b.xMessages.length = b.xMessages) && (b.xNext == nextOf b.xMessages))
theorem nextOf_take {l : List Message} {j : Nat} {m : Message} (h : l[j]? = some m) : nextOf (l.take (j + 1)) = m.xNumber + 1 := by
  unfold nextOf
  rw [List.take_add_one, h]
  simp
theorem nextOf_last {l : List Message} {n : Nat} {m : Message} (hn : l.length = n + 1) (h : l[n]? = some m) : nextOf l = m.xNumber + 1 := by
  have := nextOf_take h
  rwa [List.take_of_length_le (by omega)] at this
/-- A slice cut short reads as the beginning. -/
theorem Ro.cut {w : World} {Pb : Nat → Prop} {e : TypeId} {sz : Nat} {rows : List (List D)} {A : Option Addr} {n c k : Nat} (h : Ro w Pb (.sl e sz rows) (.slice A n c)) (hk : k ≤ n) : Ro w Pb (.sl e sz (rows.take k)) (.slice A k c) := by
  obtain ⟨A', c', hv, hlc, hm⟩ := h.sl_inv
  injection hv with e1 e2 e3
  rcases Nat.eq_zero_or_pos k with h0 | h0
  · subst h0
    rw [List.take_zero]
    exact .emp _ _ _ _ (by omega)
  · cases h with
    | emp _ _ A c hc => omega
    | row _ _ b off c _ us h1 h2 hb h3 h4 h5 =>
      have hlk : (rows.take k).length = k := by rw [List.length_take]; omega
      have := Ro.row (w := w) (Pb := Pb) e sz b off c (rows.take k) us (by omega) h2 hb (fun i row hi => h3 i row (by rw [List.getElem?_take] at hi; split at hi; exact hi; cases hi)) (fun i row j d hi hj => h4 i row j d (by rw [List.getElem?_take] at hi; split at hi; exact hi; cases hi) hj) (fun i row j d hi hj => h5 i row j d (by rw [List.getElem?_take] at hi; split at hi; exact hi; cases hi) hj)
      rwa [hlk] at this
set_option maxRecDepth 100000 in
theorem impl_isEmpty (x : Log) (A : Option Addr) (c : Nat) (W : World) :
    Calls Try.prog 65 #[.agg #[.int .i64 x.xNext, .slice A x.xMessages.length c]] W fun e w' => e = .returned (.bool x.isEmpty) ∧ Below W.heap.size W w' := by
  have HO := Lib.hid (show x.isEmpty = ((x.xNext == 1) && ((x.xMessages.length : Int) == 0)) from rfl)
  generalize x.isEmpty = o at *
  generalize x.xMessages.length = n at *
  generalize x.xNext = next at *
  cases h1 : (next == 1) <;> cases h2 : ((n : Int) == 0)
  all_goals
    go_enter Try.func65, Try.ntmps65
    go_wp2
    go_ret
    exact ⟨by rw [HO.out]; simp [h1, h2], (by (repeat (first | with_reducible assumption | with_reducible exact Below.refl _ _ | with_reducible refine Below.setCell ?_ ?_ _ | with_reducible refine Below.alloc ?_ ?_ _ | with_reducible refine Below.drew ?_ | with_reducible refine below_drewN ?_ _ | omega | (simp; done) | (simp; omega))); all_goals first | omega | (simp; done) | (simp; omega))⟩
set_option maxRecDepth 100000 in
theorem impl_nextOf (l : List Message) (A : Option Addr) (c : Nat) (W : World) (hr : Ro W (Lo W.heap.size) (Message.s true l) (.slice A l.length c)) (hb : ∀ m ∈ l, 0 ≤ m.xNumber ∧ m.xNumber ≤ 2000000000) (hlen : l.length ≤ 1048576) :
    Calls Try.prog 60 #[.slice A l.length c] W fun e w' => e = .returned (.int .i64 (nextOf l)) ∧ Below W.heap.size W w' := by
  generalize hn : l.length = n at *
  cases n with
  | zero =>
    have HO := Lib.hid (show nextOf l = 1 from by rw [List.eq_nil_of_length_eq_zero hn]; rfl)
    clear hr hn
    go_enter Try.func60, Try.ntmps60
    go_wp2
    go_ret
    exact ⟨by rw [HO.out]; rfl, Below.refl _ _⟩
  | succ n =>
    obtain ⟨m, hm⟩ := get_lt (l := l) (k := n) (by omega)
    obtain ⟨b, off, A7, cc7, rfl, hbl, hru, hcl⟩ := msg_at hr hm
    have d0 : W.cell? ⟨b, off + n * 8, none⟩ = some (.int .i64 m.xNumber) := hcl W (Below.refl _ _) 0 _ rfl
    have HO := Lib.hid (nextOf_last hn hm)
    have hbm := hb m (List.mem_of_getElem? hm)
    have hB0 : (((n + 1 : Nat) : Int) == 0) = false := by simp; omega
    have hi1 : ((n + 1 : Nat) : Int) - 1 = n := by omega
    clear hr hn hcl hru hm
    go_enter Try.func60, Try.ntmps60
    go_wp2
    go_ret
    exact ⟨by rw [HO.out]; rfl, Below.refl _ _⟩
set_option maxHeartbeats 800000 in
set_option maxRecDepth 100000 in
theorem impl_copied (x y : Log) (A A' : Option Addr) (c c' : Nat) (W : World) (hr : Ro W (Lo W.heap.size) (Message.s true x.xMessages) (.slice A x.xMessages.length c)) (hs : Ro W (Lo W.heap.size) (Message.s true y.xMessages) (.slice A' y.xMessages.length c'))
    (hb : ∀ m ∈ y.xMessages, 0 ≤ m.xNumber ∧ m.xNumber ≤ 2000000000) (hlx : x.xMessages.length ≤ 1048576) (hly : y.xMessages.length ≤ 1048576) :
    Calls Try.prog 66 #[.agg #[.int .i64 x.xNext, .slice A x.xMessages.length c], .agg #[.int .i64 y.xNext, .slice A' y.xMessages.length c']] W fun e w' => e = .returned (.bool (copied x y)) ∧ Below W.heap.size W w' := by
  obtain ⟨x0, l⟩ := x
  obtain ⟨y0, m⟩ := y
  simp only at *
  by_cases hle : m.length ≤ l.length
  · have HE := fun (w : World) (hb : Below W.heap.size W w) => EqualFunc_same (l.take m.length) m A A' c c' w (by
      have h := Ro.cut (ro_to hr hb) hle
      unfold Message.s
      rw [List.map_take, List.length_take, Nat.min_eq_left hle]
      exact h) (ro_to hs hb) hr.sl_max (by rw [List.length_take]; have := hr.sl_cap; omega) hs.sl_max hs.sl_cap
    have HNX := fun (w : World) (hbw : Below W.heap.size W w) => impl_nextOf m A' c' w (ro_to hs hbw) hb hly
    rw [List.length_take, Nat.min_eq_left hle] at HE
    have hcap := hr.sl_cap
    have hcmx := hr.sl_max
    unfold maxLen at hcmx
    have HX := Lib.hid (show copied ⟨x0, l⟩ ⟨y0, m⟩ = (decide (l.take m.length = m) && (y0 == nextOf m)) from by unfold copied; simp [hle])
    generalize decide (l.take m.length = m) = be at *
    generalize nextOf m = nx at *
    generalize copied ⟨x0, l⟩ ⟨y0, m⟩ = o at *
    generalize m.length = k at *
    generalize l.length = n at *
    have g : decide (n < k) = false := by simp; omega
    clear hr hs hb
    go_enter Try.func66, Try.ntmps66
    have hkn : k ≤ c := by omega
    have hkn' : (k : Int) ≤ (c : Int) := by omega
    go_wp2_with fail
    refine wp_any (fun w => Below (W.heap.size + 1 + 1) ((W.alloc (.cells #[.int .i64 x0, .slice A n c] 26)).alloc (.cells #[.int .i64 y0, .slice A' k c'] 26)) w) (Below.refl _ _) ?_
    intro w1 hbw
    have xa : Bx w1 W.heap.size #[.int .i64 x0, .slice A n c] 26 := ((Bx.new W _ _).alloc _).below hbw (by omega)
    have xb : Bx w1 (W.heap.size + 1) #[.int .i64 y0, .slice A' k c'] 26 := (Bx.new2 W _ _ _).below hbw (by omega)
    have hB1 : Below W.heap.size W w1 := (((Below.refl _ _).alloc (Nat.le_refl _) _).alloc (by simp) _).trans (hbw.mono (by omega))
    have p1 := xa.cell 1 rfl
    have q0 := xb.cell 0 rfl
    have q1 := xb.cell 1 rfl
    have hsa := xa.lt
    have hsb := xb.lt
    have hx := (After.cells w1.heap.size w1).1
    clear hbw
    cases be
    · refine wp_region_after (w1.heap.size) (by kernel_rfl) (by kernel_rfl) ?_; (repeat (go_big_quiet_step ((go_at_call 67; with_reducible exact Calls.after (Nat.le_refl _) (HE _ (hB1.trans ((After.b _).mono hB1.size))))))); refine wpQuiet_nil ?_; intro w2 hb2
      go_wp2
      go_ret
      exact ⟨by rw [HX.out]; rfl, hB1.trans (hb2.mono hB1.size)⟩
    · refine wp_region_after (w1.heap.size) (by kernel_rfl) (by kernel_rfl) ?_; (repeat (go_big_quiet_step ((go_at_call 67; with_reducible exact Calls.after (Nat.le_refl _) (HE _ (hB1.trans ((After.b _).mono hB1.size))))))); refine wpQuiet_nil ?_; intro w2 hb2
      have hB2 := hB1.trans (hb2.mono hB1.size)
      obtain ⟨hc2, -⟩ := bcell hb2
      have hx2 := (After.cells w2.heap.size w2).1
      have hsa2 : W.heap.size < w2.heap.size := Nat.lt_of_lt_of_le hsa hb2.size
      have hsb2 : W.heap.size + 1 < w2.heap.size := Nat.lt_of_lt_of_le hsb hb2.size
      clear hx
      go_wp2_with fail
      refine wp_region_after (w2.heap.size) (by kernel_rfl) (by kernel_rfl) ?_; (repeat (go_big_quiet_step ((go_at_call 60; with_reducible exact Calls.after (Nat.le_refl _) (HNX _ (hB2.trans ((After.b _).mono hB2.size))))))); refine wpQuiet_nil ?_; intro w3 hb3
      go_wp2
      go_ret
      exact ⟨by rw [HX.out]; rfl, hB2.trans (hb3.mono hB2.size)⟩
  · have HX := Lib.hid (show copied ⟨x0, l⟩ ⟨y0, m⟩ = false from by unfold copied; simp [hle])
    have h1 : (m.length : Int) ≤ 1048576 := by omega
    generalize copied ⟨x0, l⟩ ⟨y0, m⟩ = o at *
    generalize m.length = k at *
    generalize l.length = n at *
    have g : decide (n < k) = true := by simp; omega
    clear hr hs hb
    go_enter Try.func66, Try.ntmps66
    go_wp2_with fail
    refine wp_any (fun w => Below (W.heap.size + 1 + 1) ((W.alloc (.cells #[.int .i64 x0, .slice A n c] 26)).alloc (.cells #[.int .i64 y0, .slice A' k c'] 26)) w) (Below.refl _ _) ?_
    intro w1 hbw
    have xa : Bx w1 W.heap.size #[.int .i64 x0, .slice A n c] 26 := ((Bx.new W _ _).alloc _).below hbw (by omega)
    have hB1 : Below W.heap.size W w1 := (((Below.refl _ _).alloc (Nat.le_refl _) _).alloc (by simp) _).trans (hbw.mono (by omega))
    have p1 := xa.cell 1 rfl
    have hsa := xa.lt
    have hx := (After.cells w1.heap.size w1).1
    clear hbw
    refine wp_region_after (w1.heap.size) (by kernel_rfl) (by kernel_rfl) ?_; (repeat (go_big_quiet_step (fail))); refine wpQuiet_nil ?_; intro w2 hb2
    go_wp2
    go_ret
    exact ⟨by rw [HX.out]; rfl, hB1.trans (hb2.mono hB1.size)⟩
end Go.Proofs.Ytafihplbchofoaa

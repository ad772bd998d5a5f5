/- The post of the reference, where nothing is replied to. -/
import Derived.Test.YtafihplbchofoaaPut
namespace Go.Proofs.Ytafihplbchofoaa
open Go.ChangeShapes Go.WideShapes Go.ChangeAt Go.RowKit Go.Dt
set_option linter.unusedVariables false
set_option linter.unusedSimpArgs false
def posted (x : Log) (s a : Int) (t : ByteArray) : Log × Bool := if (post0 x s a t).ok = true then (post0 x s a t, true) else (⟨0, []⟩, false)
/-- What hands back a log and a bool. -/
def MadeLB (W : World) (r : Log × Bool) (e : Ending) (w' : World) : Prop := ∃ A n c F, e = .returned (.tuple #[.agg #[.int .i64 r.1.xNext, .slice A n c], .bool r.2]) ∧ Ow w' (Message.s true r.1.xMessages) (.slice A n c) F ∧ Below W.heap.size W w' ∧ ∀ b, F b → W.heap.size ≤ b
theorem madeLB_no {W w' : World} {r : Log × Bool} (hr : r = (⟨0, []⟩, false)) (hb : Below W.heap.size W w') : MadeLB W r (.returned (.tuple #[.agg #[.int .i64 0, .slice none 0 0], .bool false])) w' := by
  subst hr; exact ⟨none, 0, 0, fun _ => False, rfl, .emp _ _ _ _ (by simp), hb, fun b h => h.elim⟩
set_option maxHeartbeats 800000 in
set_option maxRecDepth 100000 in
theorem spec_l03Give (x : Log) (A : Option Addr) (n c : Nat) (W : World) (hr : Ro W (Lo W.heap.size) (Message.s true x.xMessages) (.slice A n c)) (hw : ∀ m ∈ x.xMessages, m.xText.size ≤ maxLen) :
    Calls Try.prog 99 #[.agg #[.int .i64 x.xNext, .slice A n c], .bool true] W fun e w' => e = .returned (if x.ok = true then .tuple #[.agg #[.int .i64 x.xNext, .slice A n c], .bool true] else .tuple #[.agg #[.int .i64 0, .slice none 0 0], .bool false]) ∧ Below W.heap.size W w' := by
  obtain ⟨A', c', hv, hlc, hm⟩ := hr.sl_inv
  injection hv with e1 e2 e3
  subst e1; subst e2; subst e3
  simp only [List.length_map] at *
  have HV := fun (w : World) (hbw : Below (W.heap.size + 1) (W.alloc (.cells #[.int .i64 x.xNext, .slice A x.xMessages.length c] 26)) w) => spec_l03Is x W.heap.size 0 A c w hw ((box_after hbw).1 0 _ rfl) ((box_after hbw).1 1 _ rfl) (ro_to hr (box_after hbw).2.1) hm hlc
  have HW := HV _ ((Below.refl _ _).alloc (by simp) (.cells #[.int .i64 0, .slice none 0 0] 26))
  clear HV hr hm hlc hw
  generalize x.xNext = next at *
  generalize x.xMessages.length = n at *
  cases hok : x.ok
  all_goals
    rw [hok] at HW
    clear hok
    go_enter Try.func99, Try.ntmps99
    go_wp2_with fail
    refine HW.mono ?_
    rintro e w1 ⟨rfl, hb⟩
    have xa := ((Bx.new W #[.int .i64 next, .slice A n c] 26).alloc (.cells #[.int .i64 0, .slice none 0 0] 26)).below hb (by simp; omega)
    have xb := (Bx.new2 W (.cells #[.int .i64 next, .slice A n c] 26) #[.int .i64 0, .slice none 0 0] 26).below hb (by simp)
    have p0 := xa.cell 0 rfl
    have p1 := xa.cell 1 rfl
    have q0 := xb.cell 0 rfl
    have q1 := xb.cell 1 rfl
    have f0 := xb.free 0
    have f1 := xb.free 1
    have hs1 := xb.lt
    have hB : Below W.heap.size W w1 := Below.trans (by (repeat (first | with_reducible assumption | with_reducible exact Below.refl _ _ | with_reducible refine Below.setCell ?_ ?_ _ | with_reducible refine Below.alloc ?_ ?_ _ | with_reducible refine Below.drew ?_ | with_reducible refine below_drewN ?_ _ | omega | (simp; done) | (simp; omega))); all_goals first | omega | (simp; done) | (simp; omega)) (hb.mono (by simp; omega))
    go_wp2
  · exact bodyPost_ret (v := .tuple #[.agg #[.int .i64 0, .slice none 0 0], .bool false]) (by simp [results, Try.results99, go_sem, p0, p1, q0, q1, f0, f1, hs1]) rfl ⟨rfl, (by (repeat (first | with_reducible assumption | with_reducible exact Below.refl _ _ | with_reducible refine Below.setCell ?_ ?_ _ | with_reducible refine Below.alloc ?_ ?_ _ | with_reducible refine Below.drew ?_ | with_reducible refine below_drewN ?_ _ | omega | (simp; done) | (simp; omega))); all_goals first | omega | (simp; done) | (simp; omega))⟩
  · exact bodyPost_ret (v := .tuple #[.agg #[.int .i64 next, .slice A n c], .bool true]) (by simp [results, Try.results99, go_sem, p0, p1, q0, q1, f0, f1, hs1]) rfl ⟨rfl, (by (repeat (first | with_reducible assumption | with_reducible exact Below.refl _ _ | with_reducible refine Below.setCell ?_ ?_ _ | with_reducible refine Below.alloc ?_ ?_ _ | with_reducible refine Below.drew ?_ | with_reducible refine below_drewN ?_ _ | omega | (simp; done) | (simp; omega))); all_goals first | omega | (simp; done) | (simp; omega))⟩
set_option maxHeartbeats 3200000 in
set_option maxRecDepth 100000 in
theorem spec_l03Post (x : Log) (s a : Int) (txt : ByteArray) (b0 o0 : Nat) (A : Option Addr) (c : Nat) (W : World) (k0 : W.cell? ⟨b0, o0, none⟩ = some (.int .i64 x.xNext)) (k1 : W.cell? ⟨b0, o0 + 1, none⟩ = some (.slice A x.xMessages.length c))
    (hr : Ro W (Lo W.heap.size) (Message.s true x.xMessages) (.slice A x.xMessages.length c)) (hn : ∀ m ∈ x.xMessages, m.xLikes.length ≤ 1048576) (hs : x.xMessages.length ≤ 1048576) (h0 : 0 ≤ x.xNext) (h1 : x.xNext ≤ 2000000000)
    (hw : ∀ m ∈ x.xMessages, m.xText.size ≤ maxLen) (ht : txt.size ≤ maxLen) :
    Calls Try.prog 49 #[.pointer (some ⟨b0, o0, none⟩), .int .i64 s, .int .i64 a, .string txt, .int .i64 0] W (MadeLB W (posted x s a txt)) := by
  obtain ⟨A', c', hv, hlc, hm⟩ := hr.sl_inv
  injection hv with e1 e2 e3
  subst e1; subst e3
  simp only [List.length_map] at *
  have hbl0 := World.block_lt_of_cell? W _ k0
  have hF := fun (w : World) (hb : Below W.heap.size W w) => spec_l03Find x.xMessages 0 b0 o0 A c w ((hb.cell (p := ⟨b0, o0 + 1, none⟩) hbl0).trans k1) (ro_to hr hb) hm hlc
  have hC := fun (w : World) (hb : Below W.heap.size W w) => spec_l03Own x b0 o0 A c w ((hb.cell (p := ⟨b0, o0, none⟩) hbl0).trans k0) ((hb.cell (p := ⟨b0, o0 + 1, none⟩) hbl0).trans k1) (ro_to hr hb) hn hs
  have hG := fun (A : Option Addr) (n c : Nat) (w : World) (h : Ro w (Lo w.heap.size) (Message.s true (post0 x s a txt).xMessages) (.slice A n c)) => spec_l03Give (post0 x s a txt) A n c w h (by
    intro m hm
    simp only [post0, List.mem_append, List.mem_singleton] at hm
    rcases hm with hm | rfl
    · exact hw m hm
    · exact ht)
  have HL := Lib.hid (show (x.xMessages.map (Message.d true)).length ≤ 1048576 from by rw [List.length_map]; exact hs)
  obtain ⟨next, l⟩ := x
  simp only at *
  clear hr hm hlc hw hn k1
  generalize hin : numAt l 0 = i at *
  clear hin
  go_enter Try.func49, Try.ntmps49
  go_wp2_with fail
  refine (hF _ (by (repeat (first | with_reducible assumption | with_reducible exact Below.refl _ _ | with_reducible refine Below.setCell ?_ ?_ _ | with_reducible refine Below.alloc ?_ ?_ _ | with_reducible refine Below.drew ?_ | with_reducible refine below_drewN ?_ _ | omega | (simp; done) | (simp; omega))); all_goals first | omega | (simp; done) | (simp; omega))).mono ?_
  rintro e w1 ⟨rfl, hb⟩
  have hB1 : Below (W.heap.size + 1) (W.alloc (.cells #[.int .i64 0, .slice none 0 0] 26)) w1 := hb.mono (by simp)
  obtain ⟨-, hBW1, hs1⟩ := box_after hB1
  go_wp2_with fail
  refine (hC _ hBW1).mono ?_
  rintro e w2 ⟨us2, F2, rfl, hO2, hb2, hF2⟩
  obtain ⟨A2, c2, F2', rfl, hO2, hl2, hm2, hFe⟩ := Log.owned hO2
  simp only at hO2 hl2 ⊢
  have hBW2 := hBW1.trans (hb2.mono hBW1.size)
  have hB2 := hB1.trans (hb2.mono (by omega))
  have hlo2 : ∀ b, F2' b → W.heap.size + 1 ≤ b := fun b h => by have := hF2 b ((hFe b).2 h); omega
  clear hFe hF2 hF hC
  go_wp2_with fail
  refine wp_any (fun w => Below (w2.heap.size + 1) (w2.alloc (.cells #[.int .i64 next, .slice A2 l.length c2] 26)) w) (Below.refl _ _) ?_
  intro w3 hb3
  have x13 : Bx w3 w2.heap.size #[.int .i64 next, .slice A2 l.length c2] 26 := (Bx.new w2 _ _).below hb3 (by omega)
  obtain ⟨-, hb23, hs3⟩ := box_after hb3
  have hO3 := hO2.keep hb23
  have hhi : ∀ b, F2' b → b < w2.heap.size := hO2.lt
  have hBW3 := hBW2.trans (hb23.mono hBW2.size)
  have k3 : w3.cell? ⟨b0, o0, none⟩ = some (.int .i64 next) := (hBW3.cell hbl0).trans k0
  have hs2 := hBW2.size
  have hs12 : W.heap.size + 1 ≤ w2.heap.size := by have := hb2.size; omega
  have hbl3 : b0 < w3.heap.size := by omega
  have hB3 := hB2.trans (hb23.mono (by have := hB2.size; simp at this; omega))
  have q1 := x13.cell 1 rfl
  clear hb3
  go_region_law (refine step_append1 (by rfl) _ _ 24 99 (by rfl) Try.underlying24 (.agg #[.int .i64 0, .int .i64 0, .int .i64 0, .string ByteArray.empty, .int .i64 0, .bool false, .int .i64 0, .slice none 0 0]) 8 88 Message.inf rfl (by decide) (by decide) (by rfl) (hO3.drew.alloc (.cells #[] 2)) #[.int .i64 next, .int .i64 s, .int .i64 a, .string txt, .int .i64 0, .bool false, .int .i64 0, .slice (some ⟨w3.heap.size, 0, none⟩) 0 0] (by show Value.slice _ _ _ = Value.slice _ _ _; simp) (Message.d true ⟨next, s, a, txt, 0, false, 0, []⟩) (fun _ => False) rfl (new_own _ _ _ _ _ _) (by simp) (by have := HL.out; omega) ?_; intro v4 w4 F4 hO4 hk4 hF4; obtain ⟨A9, n9, c9, rfl⟩ := hO4.slice; have x4 := (x13.drew.alloc (.cells #[] 2)).kp hk4 (fun h => by have := hhi _ h; omega); have q4 := x4.cell 1 rfl; have f4 := x4.free 1; have hs4 := x4.lt)
  all_goals
    have x5 := x4.put 1 (.slice A9 n9 c9)
    have hs34 : w3.heap.size + 1 ≤ w4.heap.size := by have := hk4.size; simpa using this
    have hF4' : ∀ b, F4 b → W.heap.size + 1 ≤ b ∧ b ≠ w2.heap.size := fun b h => by
      rcases hF4 b h with h | h | h
      · exact ⟨hlo2 b h, by have := hhi b h; omega⟩
      · exact h.elim
      · simp at h; omega
    have hO5 : Ow (w4.setCell ⟨w2.heap.size, 1, none⟩ (.slice A9 n9 c9)) (Message.s true (post0 ⟨next, l⟩ s a txt).xMessages) (.slice A9 n9 c9) F4 := (msgs_snoc hO4).far (p := ⟨w2.heap.size, 1, none⟩) (fun h => (hF4' _ h).2 rfl) _
    have hB4 := ((hB3.drew).alloc (by show _ ≤ w3.heap.size; omega) (.cells #[] 2)).trans (hk4.below (by simp; omega) hlo2)
    have hB5 := hB4.setCell (p := ⟨w2.heap.size, 1, none⟩) (by show W.heap.size + 1 ≤ w2.heap.size; omega) (.slice A9 n9 c9)
    have k5 : (w4.setCell ⟨w2.heap.size, 1, none⟩ (.slice A9 n9 c9)).cell? ⟨b0, o0, none⟩ = some (.int .i64 next) := ((((Below.refl _ _).alloc (Nat.le_refl _) _).trans (hB5.mono (Nat.le_succ _))).cell hbl0).trans k0
    clear q4 f4 hs4 hk4 hO4 x4 hB4 q1 k3
    generalize w4.setCell ⟨w2.heap.size, 1, none⟩ (.slice A9 n9 c9) = w5 at *
    have p0 := x5.cell 0 rfl
    have p1 := x5.cell 1 rfl
    have f0 := x5.free 0
    have hs5 := x5.lt
    have x6 := x5.put 0 (.int .i64 (next + 1))
    have hO6 := hO5.far (p := ⟨w2.heap.size, 0, none⟩) (fun h => (hF4' _ h).2 rfl) (.int .i64 (next + 1))
    have hB6 := hB5.setCell (p := ⟨w2.heap.size, 0, none⟩) (by show W.heap.size + 1 ≤ w2.heap.size; omega) (.int .i64 (next + 1))
    have hbl5 : b0 < w5.heap.size := by omega
    have hLr : ∀ b, F4 b → W.heap.size ≤ b := fun b h => by have := (hF4' b h).1; omega
    go_wp2_with fail
    refine (hG A9 n9 c9 _ hO6.lo).mono ?_
    rintro e w7 ⟨rfl, hb7⟩
    have hB7 := hB6.trans (hb7.mono (by have := hB6.size; simp at this; simp; omega))
    have hO7 := hO6.keep hb7
    have xr : Bx w7 W.heap.size #[.int .i64 0, .slice none 0 0] 26 := (Bx.new W _ _).below hB7 (by omega)
    have r0 := xr.cell 0 rfl
    have r1 := xr.cell 1 rfl
    have g0 := xr.free 0
    have g1 := xr.free 1
    have hs7 := xr.lt
    have hBW7 : Below W.heap.size W w7 := ((Below.refl _ _).alloc (Nat.le_refl _) _).trans (hB7.mono (Nat.le_succ _))
    by_cases hok : (post0 ⟨next, l⟩ s a txt).ok = true
    · have HX := Lib.hid (show posted ⟨next, l⟩ s a txt = (post0 ⟨next, l⟩ s a txt, true) from if_pos hok)
      rw [if_pos hok]
      clear hok
      go_wp2
      refine bodyPost_ret (v := .tuple #[.agg #[.int .i64 (next + 1), .slice A9 n9 c9], .bool true]) (by simp [show (post0 ⟨next, l⟩ s a txt).xNext = next + 1 from rfl, results, Try.results49, go_sem, r0, r1, g0, g1, hs7]) rfl ⟨A9, n9, c9, F4, by rw [HX.out]; rfl, ?_, (by (repeat (first | with_reducible assumption | with_reducible exact Below.refl _ _ | with_reducible refine Below.setCell ?_ ?_ _ | with_reducible refine Below.alloc ?_ ?_ _ | with_reducible refine Below.drew ?_ | with_reducible refine below_drewN ?_ _ | omega | (simp; done) | (simp; omega))); all_goals first | omega | (simp; done) | (simp; omega)), hLr⟩
      rw [HX.out]
      repeat (refine Ow.far ?_ (fun h => by have := (hF4' _ h).1; simp at this; omega) _)
      exact hO7
    · have HX := Lib.hid (show posted ⟨next, l⟩ s a txt = (⟨0, []⟩, false) from if_neg hok)
      rw [if_neg hok]
      clear hok
      go_wp2
      exact bodyPost_ret (v := .tuple #[.agg #[.int .i64 0, .slice none 0 0], .bool false]) (by simp [results, Try.results49, go_sem, r0, r1, g0, g1, hs7]) rfl (madeLB_no HX.out (by (repeat (first | with_reducible assumption | with_reducible exact Below.refl _ _ | with_reducible refine Below.setCell ?_ ?_ _ | with_reducible refine Below.alloc ?_ ?_ _ | with_reducible refine Below.drew ?_ | with_reducible refine below_drewN ?_ _ | omega | (simp; done) | (simp; omega))); all_goals first | omega | (simp; done) | (simp; omega)))
end Go.Proofs.Ytafihplbchofoaa

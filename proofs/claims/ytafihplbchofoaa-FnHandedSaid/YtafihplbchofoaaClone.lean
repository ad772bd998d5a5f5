/- Copies of messages and of logs. -/
import Derived.Test.YtafihplbchofoaaBox
import Derived.Test.YtafihplbchofoaaLog
import Derived.Deep.RegionLaw
namespace Go.Proofs.Ytafihplbchofoaa
open Go.ChangeShapes Go.WideShapes Go.ChangeAt Go.RowKit Go.Dt
set_option linter.unusedVariables false
set_option linter.unusedSimpArgs false
theorem Message.own_mk {w : World} {m : Message} {A : Option Addr} {c : Nat} {F : Nat → Prop} (h : Ow w (ints m.xLikes) (.slice A m.xLikes.length c) F) :
    OwL w (Message.d true m) [.int .i64 m.xNumber, .int .i64 m.xSender, .int .i64 m.xAt, .string m.xText, .int .i64 m.xEdits, .bool m.xGone, .int .i64 m.xReply, .slice A m.xLikes.length c] F := by
  unfold Message.d
  exact OwL.consP (Ow.I _ _) (OwL.consP (Ow.I _ _) (OwL.consP (Ow.I _ _) (OwL.consP (Ow.S _) (OwL.consP (Ow.I _ _) (OwL.consP (Ow.B _) (OwL.consP (Ow.I _ _) (OwL.one h)))))))
set_option maxHeartbeats 1000000 in
set_option maxRecDepth 100000 in
theorem impl_cloneMessage (m : Message) (us : List Value) (W : World) (hr : RoL W (Lo W.heap.size) (Message.d true m) us) (hn : m.xLikes.length ≤ 1048576) :
    Calls Try.prog 103 #[.agg us.toArray] W (MadeL W (Message.d true m)) := by
  obtain ⟨A, c, rfl, r7, l7, m7⟩ := Message.cells hr
  have HC := fun (w : World) (hb : Below W.heap.size W w) => slices_CloneI m.xLikes A c w (ro_to r7 hb) hn
  clear hr r7 l7 m7
  go_enter Try.func103, Try.ntmps103
  go_wp2_with (go_at_call 137; (with_reducible refine (HC _ (by (repeat (first | with_reducible assumption | with_reducible exact Below.refl _ _ | with_reducible refine Below.setCell ?_ ?_ _ | with_reducible refine Below.alloc ?_ ?_ _ | with_reducible refine Below.drew ?_ | with_reducible refine below_drewN ?_ _ | omega | (simp; done) | (simp; omega))); all_goals first | omega | (simp; done) | (simp; omega))).mono ?_); rintro e w1 ⟨v, F, rfl, hO, hb, hF⟩; obtain ⟨A1, c1, rfl, hl1, hm1⟩ := hO.shape; simp only [List.length_map] at hl1 hO ⊢; obtain ⟨hc, hf⟩ := bcell hb; have hz : W.heap.size < w1.heap.size := (by have hs := hb.size; (try simp at hs) <;> omega); have hB : Below W.heap.size W w1 := (by first | exact below_step (by assumption) hb (by omega) | exact below_step (by repeat (first | with_reducible assumption | exact Below.refl _ _ | refine Below.setCell ?_ (by first | omega | (simp; done) | (simp; omega)) _ | refine Below.alloc ?_ (by first | omega | (simp; done) | (simp; omega)) _ | refine Below.drew ?_)) hb (by first | omega | (simp; done) | (simp; omega))); have hz1 : W.heap.size + 1 < w1.heap.size := (by have hs := hb.size; (try simp at hs) <;> omega); have x1 := ((Bx.new W #[.int .i64 m.xNumber, .int .i64 m.xSender, .int .i64 m.xAt, .string m.xText, .int .i64 m.xEdits, .bool m.xGone, .int .i64 m.xReply, .slice A m.xLikes.length c] 99).alloc _).below hb (by simp; omega); have q7 := x1.cell 7 rfl; have f7 := x1.free 7)
  refine bodyPost_ret (v := .agg #[.int .i64 m.xNumber, .int .i64 m.xSender, .int .i64 m.xAt, .string m.xText, .int .i64 m.xEdits, .bool m.xGone, .int .i64 m.xReply, .slice A1 m.xLikes.length c1]) (by simp [results, Try.results103, go_sem, hc, hf, hz, hz1]) rfl ⟨_, F, rfl, Message.own_mk (w := _) ?_, ?_, fun b h => ?_⟩
  · repeat (refine Ow.far ?_ (fun h => by have hq := hF _ h; first | omega | (dsimp only at hq; omega) | (simp at hq; done) | (simp at hq; omega)) _)
    exact hO
  · exact (by (repeat (first | with_reducible assumption | with_reducible exact Below.refl _ _ | with_reducible refine Below.setCell ?_ ?_ _ | with_reducible refine Below.alloc ?_ ?_ _ | with_reducible refine Below.drew ?_ | with_reducible refine below_drewN ?_ _ | omega | (simp; done) | (simp; omega))); all_goals first | omega | (simp; done) | (simp; omega))
  · have := hF _ h
    simp at this
    omega
theorem Log.own_mk {w : World} {x : Log} {A : Option Addr} {c : Nat} {F : Nat → Prop} (h : Ow w (Message.s true x.xMessages) (.slice A x.xMessages.length c) F) : OwL w (Log.d true x) [.int .i64 x.xNext, .slice A x.xMessages.length c] F := by
  unfold Log.d
  exact OwL.consP (Ow.I _ _) (OwL.one h)
theorem Log.own_mk' {w : World} {next : Int} {l : List Message} {n : Nat} {A : Option Addr} {c : Nat} {F : Nat → Prop} (hn : l.length = n) (h : Ow w (Message.s true l) (.slice A n c) F) : OwL w (Log.d true ⟨next, l⟩) [.int .i64 next, .slice A n c] F := by
  subst hn; exact Log.own_mk (x := ⟨next, l⟩) h
theorem msgs_own_nil (w : World) (A : Option Addr) : Ow w (Message.s true []) (.slice A 0 0) (fun _ => False) := .emp _ _ _ _ (by simp)
theorem msgs_snoc {w : World} {l : List Message} {m : Message} {v : Value} {F : Nat → Prop} (h : Ow w (.sl 99 8 (l.map (Message.d true) ++ [Message.d true m])) v F) : Ow w (Message.s true (l ++ [m])) v F := by
  unfold Message.s; rw [List.map_append]; exact h
set_option maxHeartbeats 1600000 in
set_option maxRecDepth 100000 in
theorem impl_cloneLog (x : Log) (us : List Value) (W : World) (hr : RoL W (Lo W.heap.size) (Log.d true x) us) (hn : ∀ m ∈ x.xMessages, m.xLikes.length ≤ 1048576) (hs : x.xMessages.length ≤ 1048576) :
    Calls Try.prog 52 #[.agg us.toArray] W (MadeL W (Log.d true x)) := by
  obtain ⟨A, c, rfl, hr, hlc, hm⟩ := Log.cells hr
  clear hm hlc
  obtain ⟨next, l⟩ := x
  simp only at *
  have HZ := Lib.hid (show ∀ (v : Value) (w : World) (F : Nat → Prop), Ow w (Message.s true l) v F → ∃ A c, v = .slice A l.length c from fun v w F h => by obtain ⟨A, c, hv, _⟩ := h.shape; simp only [List.length_map] at hv; exact ⟨A, c, hv⟩)
  generalize hnn : l.length = n at *
  have HN := Lib.hid hnn
  clear hnn
  go_enter Try.func52, Try.ntmps52
  go_wp2
  go_loopw [12] (fun k wr => ∃ j : Nat, j ≤ n ∧ k = .int .i64 j ∧ (∃ v F, Bx wr (W.heap.size + 1 + 1) #[.int .i64 next, v] 26 ∧ Ow wr (Message.s true (l.take j)) v F ∧ ∀ b, F b → W.heap.size + 3 ≤ b) ∧ Below (W.heap.size + 2) ((W.alloc (.cells #[.int .i64 next, .slice A n c] 26)).alloc (.cells #[.int .i64 0, .slice none 0 0] 26)) wr) (fun k _ => n - (intOf k).toNat)
  case atStart =>
    refine ⟨0, by omega, rfl, ⟨.slice none 0 0, fun _ => False, ?_, ?_, fun b h => h.elim⟩, (Below.refl _ _).alloc (by simp) _⟩
    · have := Bx.new ((W.alloc (.cells #[.int .i64 next, .slice A n c] 26)).alloc (.cells #[.int .i64 0, .slice none 0 0] 26)) #[.int .i64 next, .slice none 0 0] 26
      simpa using this
    · simpa using msgs_own_nil _ none
  case round =>
    obtain ⟨j, hj, rfl, ⟨v, F, x3, hO, hF⟩, hbw⟩ := hrel
    have hb : Below W.heap.size W wr := (((Below.refl _ _).alloc (Nat.le_refl _) _).alloc (by simp) _).trans (hbw.mono (by omega))
    have hs3 := x3.lt
    have q0 := x3.cell 0 rfl
    have q1 := x3.cell 1 rfl
    by_cases hlt : j < n
    · obtain ⟨m, hmj⟩ := get_lt (l := l) (k := j) (by rw [HN.out]; exact hlt)
      obtain ⟨b, off, A7, cc7, rfl, hbl, hru, hcl⟩ := msg_at hr hmj
      have c0 : wr.cell? ⟨b, off + j * 8, none⟩ = some (.int .i64 m.xNumber) := hcl wr hb 0 _ rfl; have c1 : wr.cell? ⟨b, off + j * 8 + 1, none⟩ = some (.int .i64 m.xSender) := hcl wr hb 1 _ rfl; have c2 : wr.cell? ⟨b, off + j * 8 + 2, none⟩ = some (.int .i64 m.xAt) := hcl wr hb 2 _ rfl; have c3 : wr.cell? ⟨b, off + j * 8 + 3, none⟩ = some (.string m.xText) := hcl wr hb 3 _ rfl; have c4 : wr.cell? ⟨b, off + j * 8 + 4, none⟩ = some (.int .i64 m.xEdits) := hcl wr hb 4 _ rfl; have c5 : wr.cell? ⟨b, off + j * 8 + 5, none⟩ = some (.bool m.xGone) := hcl wr hb 5 _ rfl; have c6 : wr.cell? ⟨b, off + j * 8 + 6, none⟩ = some (.int .i64 m.xReply) := hcl wr hb 6 _ rfl; have c7 : wr.cell? ⟨b, off + j * 8 + 7, none⟩ = some (.slice A7 m.xLikes.length cc7) := hcl wr hb 7 _ rfl
      have HC := fun (w : World) (hbw : Below W.heap.size W w) => impl_cloneMessage m _ w (rol_to hru hbw) (hn m (List.mem_of_getElem? hmj))
      have HT := Lib.hid (show l.take (j + 1) = l.take j ++ [m] from by rw [List.take_add_one, hmj]; rfl)
      have HTL := Lib.hid (show (l.take j).length = j from by rw [List.length_take]; have := HN.out; omega)
      clear hr hcl hru hmj
      go_wp2_with fail
      refine wp_any (fun w => Below (wr.heap.size + 1) (wr.alloc (.cells #[.int .i64 m.xNumber, .int .i64 m.xSender, .int .i64 m.xAt, .string m.xText, .int .i64 m.xEdits, .bool m.xGone, .int .i64 m.xReply, .slice A7 m.xLikes.length cc7] 99)) w) (Below.refl _ _) ?_
      intro w2 hbx2
      obtain ⟨hbx2, hb2, hs2⟩ := box_after hbx2
      have hB2 := hb.trans (hb2.mono hb.size)
      have c0 : w2.cell? ⟨wr.heap.size, 0, none⟩ = some (.int .i64 m.xNumber) := hbx2 0 _ rfl; have c1 : w2.cell? ⟨wr.heap.size, 0 + 1, none⟩ = some (.int .i64 m.xSender) := hbx2 1 _ rfl; have c2 : w2.cell? ⟨wr.heap.size, 0 + 2, none⟩ = some (.int .i64 m.xAt) := hbx2 2 _ rfl; have c3 : w2.cell? ⟨wr.heap.size, 0 + 3, none⟩ = some (.string m.xText) := hbx2 3 _ rfl; have c4 : w2.cell? ⟨wr.heap.size, 0 + 4, none⟩ = some (.int .i64 m.xEdits) := hbx2 4 _ rfl; have c5 : w2.cell? ⟨wr.heap.size, 0 + 5, none⟩ = some (.bool m.xGone) := hbx2 5 _ rfl; have c6 : w2.cell? ⟨wr.heap.size, 0 + 6, none⟩ = some (.int .i64 m.xReply) := hbx2 6 _ rfl; have c7 : w2.cell? ⟨wr.heap.size, 0 + 7, none⟩ = some (.slice A7 m.xLikes.length cc7) := hbx2 7 _ rfl
      have x32 := x3.below hb2 hs3
      have hO2 := hO.keep hb2
      have hlo : ∀ b, F b → b < w2.heap.size := hO2.lt
      have hs32 := x32.lt
      have q12 := x32.cell 1 rfl
      clear hbx2 q0 q1
      go_region_law ((first
        | (refine step_enter (f := 103) (by rfl) (by rfl) (fun _ _ => by rfl) [.agg #[.int .i64 m.xNumber, .int .i64 m.xSender, .int .i64 m.xAt, .string m.xText, .int .i64 m.xEdits, .bool m.xGone, .int .i64 m.xReply, .slice A7 m.xLikes.length cc7]] (by rfl) (HC _ hB2.drew) ?_; rintro e w3 ⟨us3, F3, rfl, hO3, hb3, hF3⟩; obtain ⟨A8, c8, rfl, -⟩ := Message.cells hO3.ro; have x33 := x32.drew.below hb3 hs32; have q13 := x33.cell 1 rfl; have hs33 := x33.lt; have hOv := hO2.drew.keep hb3; refine ⟨_, rfl, ?_⟩)
        | (refine step_append1 (by rfl) _ _ 24 99 (by rfl) Try.underlying24 (.agg #[.int .i64 0, .int .i64 0, .int .i64 0, .string ByteArray.empty, .int .i64 0, .bool false, .int .i64 0, .slice none 0 0]) 8 88 Message.inf rfl (by decide) (by decide) (by rfl) hOv #[.int .i64 m.xNumber, .int .i64 m.xSender, .int .i64 m.xAt, .string m.xText, .int .i64 m.xEdits, .bool m.xGone, .int .i64 m.xReply, .slice A8 m.xLikes.length c8] (by rfl) (Message.d true m) F3 rfl hO3 (fun b h1 h2 => by have a := hF3 b h1; have c := hlo b h2; simp at a; omega) (by have := HTL.out; simp only [List.length_map]; omega) ?_; intro v4 w4 F4 hO4 hk4 hF4; obtain ⟨A9, n9, c9, rfl⟩ := hO4.slice; have x34 := x33.kp hk4 (fun h => by have := hF _ h; omega); have q14 := x34.cell 1 rfl; have f14 := x34.free 1)))
      all_goals
        have hF4' : ∀ b, F4 b → W.heap.size + 3 ≤ b := fun b h => by
          rcases hF4 b h with h | h | h
          · exact hF b h
          · have a := hF3 b h
            simp at a
            omega
          · omega
        have hB4 : Below (W.heap.size + 2) ((W.alloc (.cells #[.int .i64 next, .slice (some ⟨b, off, none⟩) n c] 26)).alloc (.cells #[.int .i64 0, .slice none 0 0] 26)) w4 :=
          (((hbw.trans (hb2.mono (by omega))).drew).trans (hb3.mono (by show W.heap.size + 2 ≤ w2.heap.size; omega))).trans (hk4.below (by omega) (fun b h => by have := hF b h; omega))
        go_wp2
        go_roundw
        case rel => exact ⟨j + 1, by omega, by go_num, ⟨_, F4, x34.put 1 _, by rw [HT.out]; exact (msgs_snoc hO4).far (p := ⟨W.heap.size + 1 + 1, 1, none⟩) (fun h => by have hq := hF4' _ h; first | omega | (dsimp only at hq; omega) | (simp at hq; done) | (simp at hq; omega)) _, hF4'⟩, hB4.setCell (by simp) _⟩
        case measure => simp [intOf]; omega
    · obtain rfl : j = n := by omega
      rw [List.take_of_length_le (by have := HN.out; omega)] at hO
      obtain ⟨A9, c9, rfl⟩ := HZ.out v wr F hO
      have x2 : Bx wr (W.heap.size + 1) #[.int .i64 0, .slice none 0 0] 26 := by
        exact (Bx.new2 W (.cells #[.int .i64 next, .slice A j c] 26) #[.int .i64 0, .slice none 0 0] 26).below hbw (by omega)
      have y0 := x2.cell 0 rfl
      have y1 := x2.cell 1 rfl
      have z0 := x2.free 0
      have z1 := x2.free 1
      have hs2 := x2.lt
      clear hr
      go_wp2
      refine bodyPost_ret (v := .agg #[.int .i64 next, .slice A9 j c9]) (by simp [results, Try.results52, go_sem, q0, q1, y0, y1, z0, z1, hs2, hs3]) rfl ⟨_, F, rfl, Log.own_mk' HN.out ?_, ?_, fun b h => by have := hF b h; omega⟩
      · repeat (refine Ow.far ?_ (fun h => by have hq := hF _ h; first | omega | (dsimp only at hq; omega) | (simp at hq; done) | (simp at hq; omega)) _)
        exact hO
      · exact (by (repeat (first | with_reducible assumption | with_reducible exact Below.refl _ _ | with_reducible refine Below.setCell ?_ ?_ _ | with_reducible refine Below.alloc ?_ ?_ _ | with_reducible refine Below.drew ?_ | with_reducible refine below_drewN ?_ _ | omega | (simp; done) | (simp; omega))); all_goals first | omega | (simp; done) | (simp; omega))
set_option maxHeartbeats 1600000 in
set_option maxRecDepth 100000 in
theorem spec_l03Own (x : Log) (b0 o0 : Nat) (A : Option Addr) (c : Nat) (W : World) (k0 : W.cell? ⟨b0, o0, none⟩ = some (.int .i64 x.xNext)) (k1 : W.cell? ⟨b0, o0 + 1, none⟩ = some (.slice A x.xMessages.length c))
    (hr : Ro W (Lo W.heap.size) (Message.s true x.xMessages) (.slice A x.xMessages.length c)) (hn : ∀ m ∈ x.xMessages, m.xLikes.length ≤ 1048576) (hs : x.xMessages.length ≤ 1048576) :
    Calls Try.prog 98 #[.pointer (some ⟨b0, o0, none⟩)] W (MadeL W (Log.d true x)) := by
  obtain ⟨next, l⟩ := x
  simp only at *
  have hbl0 := World.block_lt_of_cell? W _ k0
  have hblA : b0 < W.heap.size + 1 := Nat.lt_succ_of_lt hbl0
  have hblB : b0 < W.heap.size + 1 + 1 := Nat.lt_succ_of_lt hblA
  have HZ := Lib.hid (show ∀ (v : Value) (w : World) (F : Nat → Prop), Ow w (Message.s true l) v F → ∃ A c, v = .slice A l.length c from fun v w F h => by obtain ⟨A, c, hv, _⟩ := h.shape; simp only [List.length_map] at hv; exact ⟨A, c, hv⟩)
  generalize hnn : l.length = n at *
  have HN := Lib.hid hnn
  clear hnn
  go_enter Try.func98, Try.ntmps98
  go_wp2
  go_loopw [17] (fun k wr => ∃ j : Nat, j ≤ n ∧ k = .int .i64 j ∧ (∃ v F, Bx wr (W.heap.size + 1 + 1) #[.int .i64 next, v] 26 ∧ Ow wr (Message.s true (l.take j)) v F ∧ ∀ b, F b → W.heap.size + 3 ≤ b) ∧ Below (W.heap.size + 1) (W.alloc (.cells #[.int .i64 0, .slice none 0 0] 26)) wr) (fun k _ => n - (intOf k).toNat)
  case atStart =>
    refine ⟨0, by omega, rfl, ⟨.slice (some ⟨W.heap.size + 1, 0, none⟩) 0 0, fun _ => False, ?_, ?_, fun b h => h.elim⟩, ((Below.refl _ _).alloc (by simp) _).alloc (by simp) _⟩
    · have := Bx.new2 (W.alloc (.cells #[.int .i64 0, .slice none 0 0] 26)) (.cells #[] 99) #[.int .i64 next, .slice (some ⟨W.heap.size + 1, 0, none⟩) 0 0] 26
      simpa using this
    · simpa using msgs_own_nil _ (some ⟨W.heap.size + 1, 0, none⟩)
  case round =>
    obtain ⟨j, hj, rfl, ⟨v, F, x3, hO, hF⟩, hbw⟩ := hrel
    have hb : Below W.heap.size W wr := ((Below.refl _ _).alloc (Nat.le_refl _) _).trans (hbw.mono (by omega))
    have hs3 := x3.lt
    have k0 : wr.cell? ⟨b0, o0, none⟩ = some (.int .i64 next) := (hb.cell hbl0).trans k0
    have k1 : wr.cell? ⟨b0, o0 + 1, none⟩ = some (.slice A n c) := (hb.cell hbl0).trans k1
    by_cases hlt : j < n
    · obtain ⟨m, hmj⟩ := get_lt (l := l) (k := j) (by rw [HN.out]; exact hlt)
      obtain ⟨b, off, A7, cc7, rfl, hbl, hru, hcl⟩ := msg_at hr hmj
      have c0 : wr.cell? ⟨b, off + j * 8, none⟩ = some (.int .i64 m.xNumber) := hcl wr hb 0 _ rfl; have c1 : wr.cell? ⟨b, off + j * 8 + 1, none⟩ = some (.int .i64 m.xSender) := hcl wr hb 1 _ rfl; have c2 : wr.cell? ⟨b, off + j * 8 + 2, none⟩ = some (.int .i64 m.xAt) := hcl wr hb 2 _ rfl; have c3 : wr.cell? ⟨b, off + j * 8 + 3, none⟩ = some (.string m.xText) := hcl wr hb 3 _ rfl; have c4 : wr.cell? ⟨b, off + j * 8 + 4, none⟩ = some (.int .i64 m.xEdits) := hcl wr hb 4 _ rfl; have c5 : wr.cell? ⟨b, off + j * 8 + 5, none⟩ = some (.bool m.xGone) := hcl wr hb 5 _ rfl; have c6 : wr.cell? ⟨b, off + j * 8 + 6, none⟩ = some (.int .i64 m.xReply) := hcl wr hb 6 _ rfl; have c7 : wr.cell? ⟨b, off + j * 8 + 7, none⟩ = some (.slice A7 m.xLikes.length cc7) := hcl wr hb 7 _ rfl
      obtain ⟨A7', c7', hus, r7, l7, m7⟩ := Message.cells hru
      simp only [List.cons.injEq, Value.slice.injEq] at hus
      obtain ⟨-, -, -, -, -, -, -, ⟨rfl, -, rfl⟩, -⟩ := hus
      have HC := fun (w : World) (hbw : Below W.heap.size W w) => spec_l00Own m.xLikes A7 cc7 w (ro_to r7 hbw) (hn m (List.mem_of_getElem? hmj))
      have HT := Lib.hid (show l.take (j + 1) = l.take j ++ [m] from by rw [List.take_add_one, hmj]; rfl)
      have HTL := Lib.hid (show (l.take j).length = j from by rw [List.length_take]; have := HN.out; omega)
      have hlt' : (j : Int) < (n : Int) := by omega
      have hbl2 : b < wr.heap.size := Nat.lt_of_lt_of_le hbl hb.size
      clear hr hcl hru hmj r7 l7 m7
      have hne : W.heap.size + 1 + 1 ≠ wr.heap.size := by omega
      go_wp2_with fail
      refine (HC _ (hb.alloc hb.size _)).mono ?_
      rintro e w3 ⟨v', F', rfl, hO', hb3, hF'⟩
      obtain ⟨A8, c8, rfl, -, -⟩ := hO'.shape
      simp only [List.length_map] at hO' ⊢
      have hz3 := hb3.size
      simp at hz3
      have hlo : ∀ b, F b → b < wr.heap.size := hO.lt
      have hF'' : ∀ b, F' b → wr.heap.size + 1 ≤ b := fun b h => by have := hF' b h; simpa using this
      have xm := (Bx.new wr #[.int .i64 m.xNumber, .int .i64 m.xSender, .int .i64 m.xAt, .string m.xText, .int .i64 m.xEdits, .bool m.xGone, .int .i64 m.xReply, .slice A7 m.xLikes.length cc7] 99).below hb3 (by simp)
      have x33 := (x3.alloc _).below hb3 (by simp; omega)
      have hOv := (hO.alloc _).keep hb3
      have hs33 := x33.lt
      have hsm := xm.lt
      have q13 := x33.cell 1 rfl
      have p0 := xm.cell 0 rfl
      have p1 := xm.cell 1 rfl
      have p2 := xm.cell 2 rfl
      have p3 := xm.cell 3 rfl
      have p4 := xm.cell 4 rfl
      have p5 := xm.cell 5 rfl
      have p6 := xm.cell 6 rfl
      have p7 := xm.cell 7 rfl
      have f7 := xm.free 7
      go_wp2_with (at_builtin; refine dt_append1 rfl _ _ 24 99 rfl Try.underlying24 (.agg #[.int .i64 0, .int .i64 0, .int .i64 0, .string ByteArray.empty, .int .i64 0, .bool false, .int .i64 0, .slice none 0 0]) 8 88 Message.inf rfl (by decide) (by decide) (by rfl) (hOv.far (p := ⟨wr.heap.size, 7, none⟩) (fun h => by have hq := hlo _ h; first | omega | (dsimp only at hq; omega) | (simp at hq; done) | (simp at hq; omega)) _) #[.int .i64 m.xNumber, .int .i64 m.xSender, .int .i64 m.xAt, .string m.xText, .int .i64 m.xEdits, .bool m.xGone, .int .i64 m.xReply, .slice A8 m.xLikes.length c8] (by show Value.slice _ _ _ = Value.slice _ _ _; simp) (Message.d true m) F' rfl (Message.own_mk (hO'.far (p := ⟨wr.heap.size, 7, none⟩) (fun h => by have hq := hF'' _ h; first | omega | (dsimp only at hq; omega) | (simp at hq; done) | (simp at hq; omega)) _)) (fun b h1 h2 => by have a := hF'' b h1; have c := hlo b h2; omega) (by have := HTL.out; simp only [List.length_map]; omega) ?_; intro v4 w4 F4 hO4 hk4 hF4; obtain ⟨A9, n9, c9, rfl⟩ := hO4.slice; have x34 := (x33.far (p := ⟨wr.heap.size, 7, none⟩) hne _).kp hk4 (fun h => by have := hF _ h; omega); have q14 := x34.cell 1 rfl; have f14 := x34.free 1)
      have hF4' : ∀ b, F4 b → W.heap.size + 3 ≤ b := fun b h => by
        rcases hF4 b h with h | h | h
        · exact hF b h
        · have a := hF'' b h
          omega
        · simp [World.setCell] at h
          omega
      have hB4 : Below (W.heap.size + 1) (W.alloc (.cells #[.int .i64 0, .slice none 0 0] 26)) w4 :=
        (((hbw.alloc (by omega) _).trans (hb3.mono (by simp; omega))).setCell (p := ⟨wr.heap.size, 7, none⟩) (by show _ ≤ wr.heap.size; omega) _).trans (hk4.below (by simp [World.setCell]; omega) (fun b h => by have := hF b h; omega))
      go_roundw
      case rel => exact ⟨j + 1, by omega, by go_num, ⟨_, F4, x34.put 1 _, by rw [HT.out]; exact (msgs_snoc hO4).far (p := ⟨W.heap.size + 1 + 1, 1, none⟩) (fun h => by have hq := hF4' _ h; first | omega | (dsimp only at hq; omega) | (simp at hq; done) | (simp at hq; omega)) _, hF4'⟩, hB4.setCell (by simp <;> omega) _⟩
      case measure => simp [intOf]; omega
    · obtain rfl : j = n := by omega
      rw [List.take_of_length_le (by have := HN.out; omega)] at hO
      obtain ⟨A9, c9, rfl⟩ := HZ.out v wr F hO
      have x2 : Bx wr W.heap.size #[.int .i64 0, .slice none 0 0] 26 := (Bx.new W #[.int .i64 0, .slice none 0 0] 26).below hbw (by omega)
      have y0 := x2.cell 0 rfl
      have y1 := x2.cell 1 rfl
      have z0 := x2.free 0
      have z1 := x2.free 1
      have hs2 := x2.lt
      have q0 := x3.cell 0 rfl
      have q1 := x3.cell 1 rfl
      clear hr
      go_wp2
      refine bodyPost_ret (v := .agg #[.int .i64 next, .slice A9 j c9]) (by simp [results, Try.results98, go_sem, q0, q1, y0, y1, z0, z1, hs2, hs3]) rfl ⟨_, F, rfl, Log.own_mk' HN.out ?_, ?_, fun b h => by have := hF b h; omega⟩
      · repeat (refine Ow.far ?_ (fun h => by have hq := hF _ h; first | omega | (dsimp only at hq; omega) | (simp at hq; done) | (simp at hq; omega)) _)
        exact hO
      · exact (by (repeat (first | with_reducible assumption | with_reducible exact Below.refl _ _ | with_reducible refine Below.setCell ?_ ?_ _ | with_reducible refine Below.alloc ?_ ?_ _ | with_reducible refine Below.drew ?_ | with_reducible refine below_drewN ?_ _ | omega | (simp; done) | (simp; omega))); all_goals first | omega | (simp; done) | (simp; omega))
end Go.Proofs.Ytafihplbchofoaa

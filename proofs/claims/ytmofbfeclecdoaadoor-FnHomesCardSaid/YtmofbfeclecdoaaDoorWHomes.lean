/- The walk of FnHomes. -/
import Derived.Test.YtmofbfeclecdoaaDoorHpl
import Derived.Deep.LoopGhost
namespace Go.Proofs.YtmofbfeclecdoaaDoor
open Go.ChangeShapes Go.WideShapes Go.ChangeAt Go.RowKit Go.Dt
set_option linter.unusedVariables false
set_option linter.unusedSimpArgs false
theorem ints_flat (m : List Int) : (m.map fun n => [D.int .i64 n]).flatten = m.map fun n => D.int .i64 n := by
  induction m with
  | nil => rfl
  | cons x m ih => rw [List.map_cons, List.flatten_cons, ih]; rfl
theorem ints_own (w : World) (m : List Int) : OwL w (m.map fun n => D.int .i64 n) (m.map fun n => Value.int .i64 n) (fun _ => False) := by
  induction m with
  | nil => exact OwL.of_plain (Pb := fun _ => False) (by simp) RoL.nil
  | cons x m ih => exact OwL.consP (Ow.I _ _) ih
theorem ints_lit (w : World) (x : Int) : Ow (w.alloc (.cells #[.int .i64 x] 2)) (ints [x]) (.slice (some ⟨w.heap.size, 0, none⟩) 1 1) (fun b => b = w.heap.size) :=
  (Ow.of_block (rows := [[.int .i64 x]]) (F := fun _ => False) (Bx.new w _ _) rfl (Nat.le_refl _) (by simp [maxLen]) (by simp) rfl (OwL.one (Ow.I _ _)) (fun h => h)).same (fun b => by simp)
section
variable {P : Program} {w : World} {ops : Array Oper} {Q : Exit → Act → World → Prop} {rest : List Oper} {a : Act} {o : Oper}
theorem dt_appendI (hgd : o.guard = none) (s x : Operand) (ho : o.op = .call { callee := .builtin .append, args := #[s, x], argTypes := #[27, 27] })
    {v : Value} {l m : List Int} {F : Nat → Prop} (hs : a.eval s = v) (h : Ow w (ints l) v F) {A : Option Addr} {n c : Nat} (hx : a.eval x = .slice A n c) (hn : m.length = n) (hm : Ro w (Lo w.heap.size) (ints m) (.slice A n c)) (h0 : 0 < m.length) (hbytes : (l.length + m.length) * 8 ≤ 140737488355328)
    (k : ∀ v' w' F', Ow w' (ints (l ++ m)) v' F' → Kp F w w' → (∀ b, F' b → F b ∨ b = w.heap.size) → wpList Tryd.prog ops Q rest (a.put o.dst v') w') : wpList Tryd.prog ops Q (o :: rest) a w := by
  obtain ⟨x0, hx0⟩ := get_lt h0
  obtain ⟨b, off, hA, hbl, _⟩ := ints_at hm (Below.refl _ _) (Nat.le_refl _) hx0
  subst hA
  refine dt_append hgd s x 27 2 ho Tryd.underlying27 (.int .i64 0) 1 8 inf_int64 rfl (by decide) (by decide) hs h ⟨b, off, none⟩ n c hx (m.map fun n => Value.int .i64 n) (m.map fun n => [D.int .i64 n]) (fun _ => False) (by simpa using hn) (by simp) (fun j u hu => ?_) (by rw [ints_flat]; exact ints_own _ _) (fun _ h => h.elim) (by simp [Value.oneCell']) (by simpa [hn] using hbytes) fun v' w' F' h1 h2 h3 => k v' w' F' (by unfold ints; rw [List.map_append]; exact h1) h2 (fun b hb => ?_)
  · rw [List.getElem?_map] at hu
    cases hj : m[j]? with
    | none => rw [hj] at hu; cases hu
    | some y =>
      rw [hj] at hu
      injection hu with hu
      subst hu
      obtain ⟨b', off', hA', _, cj⟩ := ints_at hm (Below.refl _ _) (Nat.le_refl _) hj
      injection hA' with hA'
      injection hA' with e1 e2
      subst e1; subst e2
      rw [add_lit]
      exact cj
  · rcases h3 b hb with h | h | h
    · exact .inl h
    · exact h.elim
    · exact .inr h
end
namespace FnHomes
set_option maxHeartbeats 1600000 in
set_option maxRecDepth 100000 in
theorem walk (W : World) (ht : Pow10 W) (A0 : Option Addr) (n0 c0 : Nat) (e0 : List D) (t0 : IsL [.sl 5 1 [.int .u8]] e0) (x0 : RoL W (Lo W.heap.size) e0 [.slice A0 n0 c0]) (A1 : Option Addr) (n1 c1 : Nat) (e1 : List D) (t1 : IsL [.sl 5 1 [.int .u8]] e1) (x1 : RoL W (Lo W.heap.size) e1 [.slice A1 n1 c1]) :
    Calls Tryd.prog 4 #[.slice A0 n0 c0, .slice A1 n1 c1] W fun e w' => e = .returned (.bool true) ∧ Below W.heap.size W w' := by
  obtain ⟨l, rfl, y0, w0, lc0, mc0⟩ := open_bytes t0 x0
  obtain ⟨m, rfl, y1, w1, lc1, mc1⟩ := open_bytes t1 x1
  clear t0 x0 t1 x1
  have HL := fun (w : World) => laws_r8Long l m A0 A1 c0 c1 w (by simp only [maxLen] at mc0; omega) (by simp only [maxLen] at mc1; omega)
  by_cases hlong : long8 l m = true
  · rw [hlong] at HL
    clear hlong ht y0 y1 w0 w1
    generalize l.length = n0 at *
    generalize m.length = n1 at *
    go_enter Tryd.func4, Tryd.ntmps4
    go_wp2_with (go_at_call 13; (with_reducible refine (HL _).mono ?_); rintro e w1 ⟨rfl, hw1⟩; obtain rfl := hw1.symm)
    go_ret
    exact ⟨rfl, Below.refl _ _⟩
  have hlong' : long8 l m = false := by simpa using hlong
  rw [hlong'] at HL
  clear hlong hlong'
  have HA := fun (k : Nat) (n : Int) (w : World) (hb : Below W.heap.size W w) (hk : k ≤ 1000000) (hn : 1 < n) (hn2 : n ≤ 1000000) => laws_r8At l k n A0 c0 w (ro_to y0 hb) w0 (by simp only [maxLen] at mc0; omega) hk hn hn2
  have HM := fun (k : Nat) (w : World) (hb : Below W.heap.size W w) (hk : k ≤ 1000) => (show Calls Tryd.prog 14 #[.slice A1 m.length c1, .int .i64 ((k : Int) + 2), .int .i64 2] w fun e w' => e = .returned (.int .i64 (at8 m ((k : Int) + 2) 2)) ∧ w' = w from by
    have h := laws_r8At m (k + 2) 2 A1 c1 w (ro_to y1 hb) w1 (by simp only [maxLen] at mc1; omega) (by omega) (by omega) (by omega)
    rw [show ((k + 2 : Nat) : Int) = (k : Int) + 2 by omega] at h
    exact h)
  have HRS := Lib.hid (rooms8_succ l)
  have HRL := Lib.hid (rooms8_len l)
  clear y0 y1 w0 w1
  generalize l.length = n0 at *
  generalize m.length = n1 at *
  go_enter Tryd.func4, Tryd.ntmps4
  go_wp2_with (go_at_call 13; (with_reducible refine (HL _).mono ?_); rintro e w1 ⟨rfl, hw1⟩; obtain rfl := hw1.symm)
  go_loopw [5, 6] (fun o k wr => ∃ (j : Nat) (F : Nat → Prop), j ≤ 12 ∧ k = .int .i64 j ∧ Ow wr (ints (rooms8 l j)) o F ∧ (∀ b, F b → W.heap.size ≤ b) ∧ Below W.heap.size W wr) (fun _ k _ => 12 - (intOf k).toNat)
  case atStart => exact ⟨0, fun _ => False, Nat.zero_le _, rfl, .emp _ _ _ _ (by simp), fun b h => h.elim, (Below.refl _ _).alloc (Nat.le_refl _) _⟩
  case round =>
    obtain ⟨j, F, hj, rfl, hO, hF, hb⟩ := hrel
    have hbs := hb.size
    by_cases hlt : j < 12
    · have HJ := HA j 20 wr hb (by omega) (by omega) (by omega)
      have HS := Lib.hid (HRS.out j)
      have hz := HRL.out j
      have ha0 := at8_nn l j (n := 20) (by omega)
      have ha1 := at8_lt l j (n := 20) (by omega)
      have hlt' : (j : Int) < 12 := by omega
      generalize at8 l j 20 = q at *
      go_wp2_with (first | (go_at_call 14; (with_reducible refine (HJ).mono ?_); rintro e w' ⟨rfl, rfl⟩) | (at_builtin; refine dt_append1 rfl _ _ 27 2 rfl Tryd.underlying27 (.int .i64 0) 1 8 inf_int64 rfl (by decide) (by decide) (by rfl) hO #[.int .i64 (20 * (j : Int) + 1 + q)] (by rfl) [.int .i64 (20 * (j : Int) + 1 + q)] (fun _ => False) rfl (OwL.one (Ow.I _ _)) (by simp) (by simp only [List.length_map]; omega) ?_; intro v2 w2 F2 hO2 hk2 hF2))
      have hF2' : ∀ b, F2 b → W.heap.size ≤ b := fun b h => by
        rcases hF2 b h with h | h | h
        · exact hF b h
        · exact h.elim
        · omega
      have hbe : Below W.heap.size W w2 := hb.trans (hk2.below hbs hF)
      go_roundw
      case rel => exact ⟨j + 1, F2, by omega, by go_num, by rw [HS.out]; exact ints_snoc hO2, hF2', hbe⟩
      case measure => simp [intOf]; omega
    · obtain rfl : j = 12 := by omega
      rw [show ((12 : Nat) : Int) = 12 from rfl]
      rename World => wo
      obtain ⟨A5, c5, hv, -⟩ := hO.shape
      subst hv
      rw [List.length_map, HRL.out 12] at hO ⊢
      rename Nat → Prop => F5
      have hO5 := hO
      have hF5 := hF
      have hbo := hb
      have hso := hbs
      have hP := plan8 l m
      clear hO hF hb hbs HRS HRL HA
      generalize rooms8 l 12 = R at *
      go_wp2
      go_loopw [7, 8] (fun o k wr => ∃ (j : Nat) (F : Nat → Prop), j ≤ 5 ∧ k = .int .i64 ((j : Int) + 2) ∧ Ow wr (ints (shards8 m j)) o F ∧ (∀ b, F b → wo.heap.size ≤ b) ∧ Below wo.heap.size wo wr) (fun _ k _ => 7 - (intOf k).toNat)
      case atStart => exact ⟨0, _, Nat.zero_le _, by simp, ints_lit wo 1, fun b h => by omega, (Below.refl _ _).alloc (Nat.le_refl _) _⟩
      case round =>
        obtain ⟨j, F, hj, rfl, hO, hF, hb⟩ := hrel
        have hbs := hb.size
        by_cases hlt : j < 5
        · have HJ := HM j wr (hbo.trans (hb.mono hso)) (by omega)
          have HSY := fun h => Lib.hid (shards8_yes (m := m) (k := j) h)
          have HSN := fun h => Lib.hid (shards8_no (m := m) (k := j) h)
          have hz := (shards8_len m j).2
          have hlt' : ((j : Int) + 2) ≤ 6 := by omega
          generalize at8 m ((j : Int) + 2) 2 = q at *
          by_cases hq : q = 0
          · have HS := HSY hq
            subst hq
            go_wp2_with (first | (go_at_call 14; (with_reducible refine (HJ).mono ?_); rintro e w' ⟨rfl, rfl⟩) | (at_builtin; refine dt_append1 rfl _ _ 27 2 rfl Tryd.underlying27 (.int .i64 0) 1 8 inf_int64 rfl (by decide) (by decide) (by rfl) hO #[.int .i64 ((j : Int) + 2)] (by rfl) [.int .i64 ((j : Int) + 2)] (fun _ => False) rfl (OwL.one (Ow.I _ _)) (by simp) (by simp only [List.length_map]; omega) ?_; intro v2 w2 F2 hO2 hk2 hF2))
            have hF2' : ∀ b, F2 b → wo.heap.size ≤ b := fun b h => by
              rcases hF2 b h with h | h | h
              · exact hF b h
              · exact h.elim
              · omega
            have hbe : Below wo.heap.size wo w2 := hb.trans (hk2.below hbs hF)
            go_roundw
            case rel => exact ⟨j + 1, F2, by omega, by first | go_num | (congr 1; push_cast; omega), by rw [HS.out]; exact ints_snoc hO2, hF2', hbe⟩
            case measure => simp [intOf]; omega
          · have HS := HSN hq
            go_wp2_with (go_at_call 14; (with_reducible refine (HJ).mono ?_); rintro e w' ⟨rfl, rfl⟩)
            go_roundw
            case rel => exact ⟨j + 1, F, by omega, by first | go_num | (congr 1; push_cast; omega), by rw [HS.out]; exact hO, hF, hb⟩
            case measure => simp [intOf]; omega
        · obtain rfl : j = 5 := by omega
          rw [show ((5 : Nat) : Int) + 2 = 7 from rfl]
          obtain ⟨A7, c7, hv, -⟩ := hO.shape
          subst hv
          rw [List.length_map] at hO ⊢
          rename World => ws
          have hO5' := hO5.keep hb
          have hbW := hbo.trans (hb.mono hso)
          have hz5 := shards8_len m 5
          clear HM
          generalize shards8 m 5 = S at *
          generalize hns : S.length = ns at *
          have HNS := Lib.hid hns
          have hE : Ow (ws.alloc (.cells #[] 2)) (ints []) (.slice (some ⟨ws.heap.size, 0, none⟩) 0 0) (fun _ => False) := .emp _ _ _ _ (by simp)
          have hS0 := (hO.alloc (.cells #[] 2)).lo
          have hz6 : ns ≤ 6 := by omega
          have hz7 : 1 ≤ ns := hz5.1
          clear hns hz5
          go_wp2_with (at_builtin; first | (refine dt_append1 rfl _ _ 27 2 rfl Tryd.underlying27 (.int .i64 0) 1 8 inf_int64 rfl (by decide) (by decide) (by rfl) hO2 #[.int .i64 9] (by rfl) [.int .i64 9] (fun _ => False) rfl (OwL.one (Ow.I _ _)) (by simp) (by have := HNS.out; simp only [List.length_map, List.nil_append]; omega) ?_; intro v4 w4 F4 hO4 hk4 hF4) | (refine dt_appendI rfl _ _ rfl rfl hE rfl HNS.out hS0 (by have := HNS.out; omega) (by have := HNS.out; simp only [List.length_nil]; omega) ?_; intro v2 w2 F2 hO2 hk2 hF2))
          have hb2 : Below ws.heap.size ws w2 := ((Below.refl _ _).alloc (Nat.le_refl _) _).trans (hk2.below (by simp) (fun _ h => h.elim))
          have hF2' : ∀ b, F2 b → ws.heap.size ≤ b := fun b h => by
            rcases hF2 b h with h | h
            · exact h.elim
            · simp at h; omega
          have hb4 : Below ws.heap.size ws w4 := hb2.trans (hk4.below hb2.size hF2')
          have hbW4 := hbW.trans (hb4.mono hbW.size)
          have hO4' := ints_snoc hO4
          rw [List.nil_append] at hO4'
          obtain ⟨A9, c9, hv, -⟩ := hO4'.shape
          subst hv
          rw [List.length_map, List.length_append, HNS.out] at hO4' ⊢
          simp only [List.length_cons, List.length_nil, Nat.zero_add] at hO4' ⊢
          have hLG := hO4'.lo
          have hR := (hO5'.keep hb4).lo
          have hS := (hO.keep hb4).lo
          have hns1 : (S ++ [9]).length = ns + 1 := by rw [List.length_append, HNS.out]; rfl
          have h12 := hP.twelve
          have H1 := fun (w : World) (hb : Below w4.heap.size w4 w) => (show Calls Tryd.prog 15 #[.slice A5 12 c5, .slice A7 ns c7] w (MadeHs w (HomesOf_f R S)) from by
            have h := impl_HomesOf R S A5 A7 c5 c7 w (ht.on (hbW4.trans (hb.mono hbW4.size))) (by rw [h12]; exact ro_to hR hb) (by rw [HNS.out]; exact ro_to hS hb) (by omega)
            rwa [h12, HNS.out] at h)
          have H2 := fun (w : World) (hb : Below w4.heap.size w4 w) => (show Calls Tryd.prog 16 #[.slice A5 12 c5, .slice A7 ns c7, .slice A9 (ns + 1) c9] w (MadeMv w (MovesFor_f R S (S ++ [9]))) from by
            have h := impl_MovesFor R S (S ++ [9]) A5 A7 A9 c5 c7 c9 w (ht.on (hbW4.trans (hb.mono hbW4.size))) (by rw [h12]; exact ro_to hR hb) (by rw [HNS.out]; exact ro_to hS hb) (by rw [hns1]; exact ro_to hLG hb) (by omega)
            rwa [h12, HNS.out, hns1] at h)
          have H3 := fun (w : World) (hb : Below w4.heap.size w4 w) => (show Calls Tryd.prog 16 #[.slice A5 12 c5, .slice A9 (ns + 1) c9, .slice A7 ns c7] w (MadeMv w (MovesFor_f R (S ++ [9]) S)) from by
            have h := impl_MovesFor R (S ++ [9]) S A5 A9 A7 c5 c9 c7 w (ht.on (hbW4.trans (hb.mono hbW4.size))) (by rw [h12]; exact ro_to hR hb) (by rw [hns1]; exact ro_to hLG hb) (by rw [HNS.out]; exact ro_to hS hb) (by omega)
            rwa [h12, HNS.out, hns1] at h)
          have H4 := fun (w : World) (hb : Below w4.heap.size w4 w) => (show Calls Tryd.prog 17 #[.slice A5 12 c5, .slice A7 ns c7] w (MadeLd w (LoadOfShards_f R S)) from by
            have h := impl_LoadOfShards R S A5 A7 c5 c7 w (ht.on (hbW4.trans (hb.mono hbW4.size))) (by rw [h12]; exact ro_to hR hb) (by rw [HNS.out]; exact ro_to hS hb) (by omega) (by have := HNS.out; omega)
            rwa [h12, HNS.out] at h)
          have H5 := fun (r : Int) (w : World) (hb : Below w4.heap.size w4 w) => (show Calls Tryd.prog 18 #[.int .i64 r, .slice A7 ns c7] w _ from by
            have h := impl_ShardFor r S A7 c7 w (ht.on (hbW4.trans (hb.mono hbW4.size))) (by rw [HNS.out]; exact ro_to hS hb) hS.sl_max (by rw [HNS.out]; have := hS.sl_cap; simpa [HNS.out] using this)
            rwa [HNS.out] at h)
          have H6 := fun (r z : Int) (w : World) (hb : Below w4.heap.size w4 w) => impl_ScoreOf r z w (ht.on (hbW4.trans (hb.mono hbW4.size)))
          rw [show HomesOf_f R S = (R.map fun r => ⟨r, homeOf r S⟩, true) from if_pos ⟨hP.rooms, hP.shards⟩] at H1
          rw [show MovesFor_f R S (S ++ [9]) = (R.filterMap (moveOf S (S ++ [9])), true) from if_pos ⟨hP.rooms, hP.shards, hP.longer⟩] at H2
          rw [show MovesFor_f R (S ++ [9]) S = ((R.filterMap (moveOf S (S ++ [9]))).map turn, true) from by rw [← moves_turn]; exact if_pos ⟨hP.rooms, hP.longer, hP.shards⟩] at H3
          rw [show LoadOfShards_f R S = (loads R S, true) from if_pos ⟨hP.rooms, hP.shards⟩] at H4
          unfold MadeHs at H1
          unfold MadeMv at H2 H3
          unfold MadeLd at H4
          simp only [List.length_map, h12] at H1 H3
          simp only [loads_len, HNS.out] at H4
          have HMT := Lib.hid (moves_to (R := R) hP.shards hP.nine)
          have hnm12 : (R.filterMap (moveOf S (S ++ [9]))).length ≤ 12 := by have := List.length_filterMap_le (moveOf S (S ++ [9])) R; omega
          generalize hms : R.filterMap (moveOf S (S ++ [9])) = ms at *
          clear hms
          generalize hnm : ms.length = nm at *
          have HNM := Lib.hid hnm
          clear hnm ht hO hO4 hO4' hO2 hO5' hO5 hE hS0 hF4 hF2 hF2' hk2 hk4
          go_wp2_with fail
          refine (H1 w4 (Below.refl _ _)).mono ?_
          rintro e w5 ⟨A10, c10, F10, rfl, hO10, -, hb5⟩
          go_wp2_with fail
          refine (H2 w5 hb5).mono ?_
          rintro e w6 ⟨A11, c11, F11, rfl, hO11, -, hb6⟩
          have hc6 := hb5.trans (hb6.mono hb5.size)
          go_wp2_with fail
          refine (H3 w6 hc6).mono ?_
          rintro e w7 ⟨A12, c12, F12, rfl, hO12, -, hb7⟩
          have hc7 := hc6.trans (hb7.mono hc6.size)
          go_wp2_with fail
          refine (H4 w7 hc7).mono ?_
          rintro e w8 ⟨A13, c13, F13, rfl, hO13, -, hb8⟩
          have hc8 := hc7.trans (hb8.mono hc7.size)
          have hL8 := hO13.lo
          have hB8 := (hO12.keep hb8).lo
          have hM8 := ((hO11.keep hb7).keep hb8).lo
          have hH8 := (((hO10.keep hb6).keep hb7).keep hb8).lo
          have hR8 := ro_to hR hc8
          have hS8 := ro_to hS hc8
          have hbW8 := hbW4.trans (hc8.mono hbW4.size)
          clear hO10 hO11 hO12 hO13 hR hS hLG H1 H2 H3 H4
          go_wp2
          have hs8 := hbW8.size
          go_loopw [18] (fun k wr => ∃ j : Nat, j ≤ nm ∧ k = .int .i64 j ∧ Below w8.heap.size w8 wr) (fun k _ => nm - (intOf k).toNat)
          case atStart => exact ⟨0, Nat.zero_le _, rfl, Below.refl _ _⟩
          case round =>
            obtain ⟨j, hj, rfl, hb⟩ := hrel
            have hbs := hb.size
            by_cases hlt : j < nm
            · obtain ⟨⟨r, a, b⟩, hx⟩ := get_lt (l := ms) (k := j) (by rw [HNM.out]; exact hlt)
              obtain ⟨h9, hne⟩ := HMT.out _ (List.mem_of_getElem? hx)
              dsimp only at h9 hne
              subst h9
              have hx' : (ms.map turn)[j]? = some ⟨r, 9, a⟩ := by rw [List.getElem?_map, hx]; rfl
              obtain ⟨b1, off1, us, rfl, hbl, hul, hru, hcl⟩ := Ro.later hM8 hb (Nat.le_refl _) (map_at (f := Move.d true) hx)
              obtain rfl := Move.cells hru
              obtain ⟨b2, off2, us, rfl, hbl2, hul2, hru2, hcl2⟩ := Ro.later hB8 hb (Nat.le_refl _) (map_at (f := Move.d true) hx')
              obtain rfl := Move.cells hru2
              have k0 : wr.cell? ⟨b1, off1 + j * 3, none⟩ = some (.int .i64 r) := hcl 0 _ rfl
              have k1 : wr.cell? ⟨b1, off1 + j * 3 + 1, none⟩ = some (.int .i64 a) := hcl 1 _ rfl
              have k2 : wr.cell? ⟨b1, off1 + j * 3 + 2, none⟩ = some (.int .i64 9) := hcl 2 _ rfl
              have q0 : wr.cell? ⟨b2, off2 + j * 3, none⟩ = some (.int .i64 r) := hcl2 0 _ rfl
              have q1 : wr.cell? ⟨b2, off2 + j * 3 + 1, none⟩ = some (.int .i64 9) := hcl2 1 _ rfl
              have q2 : wr.cell? ⟨b2, off2 + j * 3 + 2, none⟩ = some (.int .i64 a) := hcl2 2 _ rfl
              have hlt' : (j : Int) < (nm : Int) := by omega
              clear hx hx' hul hru hcl hul2 hru2 hcl2 hM8 hB8 hH8 hL8 hR8 hS8 H5 H6
              have d1 : (a == 9) = false := by simpa using hne
              have d2 : (a != 9) = true := by simpa using hne
              have d3 : decide (a = 9) = false := decide_eq_false hne
              go_wp2_with fail
              go_quiet (fail)
              go_wp2
              go_roundw
              case rel => exact ⟨j + 1, by omega, by go_num, by first | exact hb | exact below_drewN hb _⟩
              case measure => simp [intOf]; omega
            · obtain rfl : j = nm := by omega
              rename World => w9
              have hH9 := ro_to hH8 hb
              have hL9 := ro_to hL8 hb
              have hR9 := ro_to hR8 hb
              have hS9 := ro_to hS8 hb
              have hc9 := hc8.trans (hb.mono hc8.size)
              have hbW9 := hbW8.trans (hb.mono hs8)
              have hs9 := hbW9.size
              have HTK := Lib.hid (loads_take hP)
              clear hM8 hB8 hH8 hL8 hR8 hS8 HMT
              go_wp2
              go_loopw [19, 20] (fun s k wr => ∃ i : Nat, i ≤ ns ∧ k = .int .i64 i ∧ s = .int .i64 ((loads R S).take i).sum ∧ Below w9.heap.size w9 wr) (fun _ k _ => ns - (intOf k).toNat)
              case atStart => exact ⟨0, Nat.zero_le _, rfl, by simp, Below.refl _ _⟩
              case round =>
                obtain ⟨i, hi, rfl, rfl, hb⟩ := hrel
                have hbs := hb.size
                by_cases hlt : i < ns
                · obtain ⟨y, hy⟩ := get_lt (l := S) (k := i) (by rw [HNS.out]; exact hlt)
                  obtain ⟨b2, off2, hA2, hbl2, -⟩ := ints_at hS9 (Below.refl _ _) (Nat.le_refl _) hy
                  subst hA2
                  obtain ⟨b4, off4, hA4, hbl4, -⟩ := ints_at hL9 (Below.refl _ _) (Nat.le_refl _) (loads_get (R := R) hy)
                  subst hA4
                  have HCY := Lib.hid (show ∀ w', Below w9.heap.size w9 w' → w'.cell? ⟨b2, off2 + i, none⟩ = some (.int .i64 y) from fun w' hb => by
                    obtain ⟨b3, off3, hA3, hbl3, c3⟩ := ints_at hS9 hb (Nat.le_refl _) hy
                    injection hA3 with hA3
                    injection hA3 with e1 e2
                    subst e1; subst e2
                    exact c3)
                  have HCL := Lib.hid (show ∀ w', Below w9.heap.size w9 w' → w'.cell? ⟨b4, off4 + i, none⟩ = some (.int .i64 (cnt R S y : Nat)) from fun w' hb => by
                    obtain ⟨b3, off3, hA3, hbl3, c3⟩ := ints_at hL9 hb (Nat.le_refl _) (loads_get (R := R) hy)
                    injection hA3 with hA3
                    injection hA3 with e1 e2
                    subst e1; subst e2
                    exact c3)
                  have HNX := Lib.hid (loads_next (R := R) hy)
                  have hsum := HTK.out i
                  have hlt' : (i : Int) < (ns : Int) := by omega
                  generalize ((loads R S).take i).sum = sm at *
                  clear hy hS9 hL9 H5 H6
                  rename World => wi
                  go_wp2
                  go_loopw [21, 22] (fun v q wr => ∃ j : Nat, j ≤ 12 ∧ q = .int .i64 j ∧ v = .int .i64 (cnt (R.take j) S y : Nat) ∧ Below w9.heap.size w9 wr) (fun _ q _ => 12 - (intOf q).toNat)
                  case atStart => exact ⟨0, Nat.zero_le _, rfl, by simp [cnt], hb⟩
                  case round =>
                    obtain ⟨j, hj, rfl, rfl, hbi⟩ := hrel
                    have hbis := hbi.size
                    by_cases hlj : j < 12
                    · obtain ⟨x, hx⟩ := get_lt (l := R) (k := j) (by rw [h12]; exact hlj)
                      have hxh : (R.map fun r => (⟨r, homeOf r S⟩ : Home))[j]? = some ⟨x, homeOf x S⟩ := by rw [List.getElem?_map, hx]; rfl
                      obtain ⟨b1, off1, us, rfl, hbl, hul, hru, hcl⟩ := Ro.later hH9 hbi (Nat.le_refl _) (map_at (f := Home.d true) hxh)
                      obtain rfl := Home.cells hru
                      have k1 : wr.cell? ⟨b1, off1 + j * 2 + 1, none⟩ = some (.int .i64 (homeOf x S)) := hcl 1 _ rfl
                      have cy := HCY.out wr hbi
                      have HY := fun h => Lib.hid (cnt_yes (s := S) (y := y) hx h)
                      have HNO := fun h => Lib.hid (cnt_no (s := S) (y := y) hx h)
                      have hcle : cnt (R.take j) S y ≤ j := by have := cnt_le (R.take j) S y; have := List.length_take_le j R; omega
                      have hlj' : (j : Int) < 12 := by omega
                      generalize homeOf x S = h at *
                      generalize hmm : cnt (R.take j) S y = m at *
                      clear hx hmm hxh hul hru hcl hH9
                      by_cases hh : h = y
                      · have HT := HY hh
                        go_wp2_with fail
                        go_quiet (fail)
                        go_wp2
                        go_roundw
                        case rel => exact ⟨j + 1, by omega, by go_num, by rw [HT.out]; first | rfl | go_num, by first | exact hbi | exact below_drewN hbi _⟩
                        case measure => simp [intOf]; omega
                      · have HT := HNO hh
                        go_wp2_with fail
                        go_quiet (fail)
                        go_wp2
                        go_roundw
                        case rel => exact ⟨j + 1, by omega, by go_num, by rw [HT.out], by first | exact hbi | exact below_drewN hbi _⟩
                        case measure => simp [intOf]; omega
                    · obtain rfl : j = 12 := by omega
                      rw [show R.take 12 = R from List.take_of_length_le (by omega), show ((12 : Nat) : Int) = 12 from rfl]
                      have cl := HCL.out wr hbi
                      have hcle : cnt R S y ≤ 12 := by have := cnt_le R S y; omega
                      generalize cnt R S y = m at *
                      go_wp2
                      go_roundw
                      case rel => exact ⟨i + 1, by omega, by go_num, by rw [HNX.out], by first | exact hbi | exact below_drewN hbi _⟩
                      case measure => simp [intOf]; omega
                · obtain rfl : i = ns := by omega
                  obtain ⟨q, hqi⟩ : ∃ q, i = q + 1 := ⟨i - 1, by omega⟩
                  have HQI := Lib.hid hqi
                  clear hqi
                  rename World => wq
                  have hsm : ((loads R S).take i).sum = 12 := by rw [List.take_of_length_le (by rw [loads_len, HNS.out]; exact Nat.le_refl _), loads_sum hP.shards, h12]; rfl
                  rw [hsm]
                  obtain ⟨r0, hr0⟩ := get_lt (l := R) (k := 0) (by omega)
                  obtain ⟨z, hz⟩ := get_lt (l := S) (k := q) (by have := HNS.out; have := HQI.out; omega)
                  obtain ⟨b5, off5, hA5, -, -⟩ := ints_at hR9 hb (Nat.le_refl _) hr0
                  subst hA5
                  obtain ⟨b7, off7, hA7, -, -⟩ := ints_at hS9 hb (Nat.le_refl _) hz
                  subst hA7
                  have hxh : (R.map fun r => (⟨r, homeOf r S⟩ : Home))[0]? = some ⟨r0, homeOf r0 S⟩ := by rw [List.getElem?_map, hr0]; rfl
                  obtain ⟨b1, off1, us, rfl, -, -, -, -⟩ := Ro.later hH9 hb (Nat.le_refl _) (map_at (f := Home.d true) hxh)
                  have CR := Lib.hid (show ∀ w', Below w9.heap.size w9 w' → w'.cell? ⟨b5, off5, none⟩ = some (.int .i64 r0) from fun w' hb => by
                    obtain ⟨b3, off3, hA3, hbl3, c3⟩ := ints_at hR9 hb (Nat.le_refl _) hr0
                    injection hA3 with hA3
                    injection hA3 with e1 e2
                    subst e1; subst e2
                    rwa [Nat.add_zero] at c3)
                  have CZ := Lib.hid (show ∀ w', Below w9.heap.size w9 w' → w'.cell? ⟨b7, off7 + q, none⟩ = some (.int .i64 z) from fun w' hb => by
                    obtain ⟨b3, off3, hA3, hbl3, c3⟩ := ints_at hS9 hb (Nat.le_refl _) hz
                    injection hA3 with hA3
                    injection hA3 with e1 e2
                    subst e1; subst e2
                    exact c3)
                  have CH := Lib.hid (show ∀ w', Below w9.heap.size w9 w' → w'.cell? ⟨b1, off1 + 1, none⟩ = some (.int .i64 (homeOf r0 S)) from fun w' hb => by
                    obtain ⟨b3, off3, us, hA3, hbl3, _, hru, hcl⟩ := Ro.later hH9 hb (Nat.le_refl _) (map_at (f := Home.d true) hxh)
                    injection hA3 with hA3
                    injection hA3 with e1 e2
                    subst e1; subst e2
                    obtain rfl := Home.cells hru
                    have := hcl 1 _ rfl
                    simpa using this)
                  have hir := plan_room hP r0 (List.mem_of_getElem? hr0)
                  have hiz := plan_shard hP z (List.mem_of_getElem? hz)
                  have hih := plan_shard hP _ (home_mem (r := r0) hP.shards)
                  have G5 := H5 r0
                  rw [show ShardFor_f r0 S = (homeOf r0 S, true) from if_pos ⟨hir, hP.shards⟩] at G5
                  have G6 := H6 r0 (homeOf r0 S)
                  rw [show ScoreOf_f r0 (homeOf r0 S) = (scoreOf r0 (homeOf r0 S), true) from if_pos ⟨hir, hih⟩] at G6
                  have G7 := H6 r0 z
                  rw [show ScoreOf_f r0 z = (scoreOf r0 z, true) from if_pos ⟨hir, hiz⟩] at G7
                  have hbest := home_best (r := r0) (List.mem_of_getElem? hz)
                  generalize scoreOf r0 (homeOf r0 S) = s1 at *
                  generalize scoreOf r0 z = s2 at *
                  generalize homeOf r0 S = h at *
                  have hbq := hb
                  have hbqs := hbq.size
                  have cr0 := CR.out wq hbq
                  clear hr0 hz hxh hH9 hL9 hR9 hS9 hb hsm HTK H5 H6
                  go_wp2_with fail
                  refine (G5 wq (hc9.trans (hbq.mono hc9.size))).mono ?_
                  rintro e wa ⟨rfl, hba⟩
                  have hqa := hbq.trans (hba.mono hbqs)
                  have cra := CR.out wa hqa
                  go_wp2_with fail
                  refine (G6 wa (hc9.trans (hqa.mono hc9.size))).mono ?_
                  rintro e wb ⟨rfl, hbb⟩
                  have hqb := hqa.trans (hbb.mono hqa.size)
                  clear cr0 cra
                  have HSS := Lib.hid (show ∀ w', Below w9.heap.size w9 w' → (fun w' => w'.cell? ⟨b5, off5, none⟩ = some (.int .i64 r0) ∧ w'.cell? ⟨b7, off7 + q, none⟩ = some (.int .i64 z)) w' from fun w' h => ⟨CR.out w' h, CZ.out w' h⟩)
                  have hq1 : (i : Int) - 1 = (q : Int) := by have := HQI.out; omega
                  have hq0 : 0 ≤ (q : Int) := by omega
                  have hq2 : (q : Int) < (i : Int) := by have := HQI.out; omega
                  have hq3 : IntKind.i64.wrap (q : Int) = (q : Int) := IntWalk.i64_in _ (by have := HQI.out; omega)
                  have hq4 : IntKind.i64.wrap ((i : Int) - 1) = (q : Int) := by rw [hq1]; exact hq3
                  have hqbs := hqb.size
                  go_wp2_with fail
                  go_region_held3 (fun w' => w'.cell? ⟨b5, off5, none⟩ = some (.int .i64 r0) ∧ w'.cell? ⟨b7, off7 + q, none⟩ = some (.int .i64 z))
                    (exact HSS.out _ (by first | exact hqb | exact hqb.drew | exact hqc | exact hqc.drew))
                    ((go_at_call 12; (with_reducible refine (G7 _ (hc9.trans (Below.mono (by first | exact hqb | exact hqb.drew) hc9.size))).mono ?_); rintro e wc ⟨rfl, hbc⟩; have hqc : Below w9.heap.size w9 wc := (by first | exact hqb.trans (hbc.mono hqbs) | exact hqb.drew.trans (hbc.mono hqbs))))
                  have ch := CH.out wc hqc
                  have hge : s2 ≤ s1 := hbest
                  go_wp2
                  go_ret
                  exact ⟨rfl, by first | exact hbW9.trans (hqc.mono hs9) | exact below_drewN (hbW9.trans (hqc.mono hs9)) _⟩
end FnHomes
end Go.Proofs.YtmofbfeclecdoaaDoor

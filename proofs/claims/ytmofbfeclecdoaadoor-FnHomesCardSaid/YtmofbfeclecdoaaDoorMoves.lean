/- What moves where. -/
import Derived.Test.YtmofbfeclecdoaaDoorHome
import Derived.Test.YtmofbfeclecdoaaDoorYMove
import Derived.Test.YtmofbfeclecdoaaDoorBox
import Derived.Deep.LoopGhost
namespace Go.Proofs.YtmofbfeclecdoaaDoor
open Go.ChangeShapes Go.WideShapes Go.ChangeAt Go.RowKit Go.Dt
set_option linter.unusedVariables false
set_option linter.unusedSimpArgs false
theorem move_inf : Inf Tryd.prog 38 (.agg #[.int .i64 0, .int .i64 0, .int .i64 0]) 3 24 := by unfold Inf; kernel_rfl
theorem move_own (w : World) (x a b : Int) : OwL w (Move.d true ⟨x, a, b⟩) [.int .i64 x, .int .i64 a, .int .i64 b] (fun _ => False) := OwL.consP (Ow.I _ _) (OwL.consP (Ow.I _ _) (OwL.one (Ow.I _ _)))
theorem moves_snoc {w : World} {l : List Move} {m : Move} {v : Value} {F : Nat → Prop} (h : Ow w (.sl 38 3 (l.map (Move.d true) ++ [Move.d true m])) v F) : Ow w (Move.s true (l ++ [m])) v F := by
  unfold Move.s; rw [List.map_append]; exact h
def moveOf (s u : List Int) (r : Int) : Option Move := if homeOf r s = homeOf r u then none else some ⟨r, homeOf r s, homeOf r u⟩
theorem moves_no {l s u : List Int} {j : Nat} {x : Int} (hx : l[j]? = some x) (h : homeOf x s = homeOf x u) : (l.take (j + 1)).filterMap (moveOf s u) = (l.take j).filterMap (moveOf s u) := by
  rw [List.take_add_one, hx, List.filterMap_append]
  simp [moveOf, h]
theorem moves_yes {l s u : List Int} {j : Nat} {x : Int} (hx : l[j]? = some x) (h : ¬ homeOf x s = homeOf x u) : (l.take (j + 1)).filterMap (moveOf s u) = (l.take j).filterMap (moveOf s u) ++ [⟨x, homeOf x s, homeOf x u⟩] := by
  rw [List.take_add_one, hx, List.filterMap_append]
  simp [moveOf, h]
def MovesFor_f (l s u : List Int) : List Move × Bool := if okRooms l = true ∧ okShards s = true ∧ okShards u = true then (l.filterMap (moveOf s u), true) else ([], false)
def MadeMv (W : World) (r : List Move × Bool) (e : Ending) (w' : World) : Prop := ∃ A c F, e = .returned (.tuple #[.slice A r.1.length c, .bool r.2]) ∧ Ow w' (Move.s true r.1) (.slice A r.1.length c) F ∧ (∀ b, F b → W.heap.size ≤ b) ∧ Below W.heap.size W w'
theorem madeMv_no {W w' : World} {r : List Move × Bool} (hr : r = ([], false)) (hb : Below W.heap.size W w') : MadeMv W r (.returned (.tuple #[.slice none 0 0, .bool false])) w' := by
  subst hr
  exact ⟨none, 0, fun _ => False, rfl, .emp _ _ _ _ (by simp), fun b h => h.elim, hb⟩
set_option maxHeartbeats 1600000 in
set_option maxRecDepth 100000 in
theorem impl_MovesFor (l s u : List Int) (A As Au : Option Addr) (c cs cu : Nat) (W : World) (ht : Pow10 W) (hr : Ro W (Lo W.heap.size) (ints l) (.slice A l.length c)) (hs : Ro W (Lo W.heap.size) (ints s) (.slice As s.length cs)) (hu : Ro W (Lo W.heap.size) (ints u) (.slice Au u.length cu)) (hl : l.length ≤ 1048576) :
    Calls Tryd.prog 16 #[.slice A l.length c, .slice As s.length cs, .slice Au u.length cu] W (MadeMv W (MovesFor_f l s u)) := by
  have HR := fun (w : World) (hb : Below W.heap.size W w) => impl_roomsOk l A c w (ro_to hr hb) hr.sl_max hr.sl_cap
  have HS := fun (w : World) (hb : Below W.heap.size W w) => impl_shardsOk s As cs w (ro_to hs hb) hs.sl_max hs.sl_cap
  have HU := fun (w : World) (hb : Below W.heap.size W w) => impl_shardsOk u Au cu w (ro_to hu hb) hu.sl_max hu.sl_cap
  cases h1 : okRooms l
  · have HF := Lib.hid (show MovesFor_f l s u = ([], false) from if_neg (by simp [h1]))
    rw [h1] at HR
    clear h1 hr hs hu ht
    generalize l.length = n at *
    generalize s.length = ns at *
    generalize u.length = nu at *
    go_enter Tryd.func16, Tryd.ntmps16
    go_wp2_with (first | (go_at_call 47; (with_reducible refine (HR _ (Below.refl _ _)).mono ?_); rintro e w1 ⟨rfl, hb1⟩))
    go_ret2
    exact madeMv_no HF.out hb1
  cases h2 : okShards s
  · have HF := Lib.hid (show MovesFor_f l s u = ([], false) from if_neg (by simp [h2]))
    rw [h1] at HR
    rw [h2] at HS
    clear h1 h2 hr hs hu ht
    generalize l.length = n at *
    generalize s.length = ns at *
    generalize u.length = nu at *
    go_enter Tryd.func16, Tryd.ntmps16
    go_wp2_with (first | (go_at_call 48; (with_reducible refine (HS _ hb1).mono ?_); rintro e w2 ⟨rfl, hb2⟩; have hbw := hb1.trans (hb2.mono hb1.size)) | (go_at_call 47; (with_reducible refine (HR _ (Below.refl _ _)).mono ?_); rintro e w1 ⟨rfl, hb1⟩))
    go_ret2
    exact madeMv_no HF.out hbw
  cases h3 : okShards u
  · have HF := Lib.hid (show MovesFor_f l s u = ([], false) from if_neg (by simp [h3]))
    rw [h1] at HR
    rw [h2] at HS
    rw [h3] at HU
    clear h1 h2 h3 hr hs hu ht
    generalize l.length = n at *
    generalize s.length = ns at *
    generalize u.length = nu at *
    go_enter Tryd.func16, Tryd.ntmps16
    go_wp2_with (first | (go_at_call 48; (with_reducible refine (HU _ hbw).mono ?_); rintro e w3 ⟨rfl, hb3⟩; have hbv := hbw.trans (hb3.mono hbw.size)) | (go_at_call 48; (with_reducible refine (HS _ hb1).mono ?_); rintro e w2 ⟨rfl, hb2⟩; have hbw := hb1.trans (hb2.mono hb1.size)) | (go_at_call 47; (with_reducible refine (HR _ (Below.refl _ _)).mono ?_); rintro e w1 ⟨rfl, hb1⟩))
    go_ret2
    exact madeMv_no HF.out hbv
  have HF := Lib.hid (show MovesFor_f l s u = (l.filterMap (moveOf s u), true) from if_pos ⟨h1, h2, h3⟩)
  have HC := fun (x : Int) (hx : x ∈ l) (w : World) (hb : Below W.heap.size W w) => impl_home x (okRooms_at h1 x hx) s (okShards_at h2) (okShards_len h2) As cs w (ht.on hb) (ro_to hs hb) hs.sl_max hs.sl_cap
  have HD := fun (x : Int) (hx : x ∈ l) (w : World) (hb : Below W.heap.size W w) => impl_home x (okRooms_at h1 x hx) u (okShards_at h3) (okShards_len h3) Au cu w (ht.on hb) (ro_to hu hb) hu.sl_max hu.sl_cap
  rw [h1] at HR
  rw [h2] at HS
  rw [h3] at HU
  have hlen := hl
  clear h1 h2 h3 hs hu ht
  generalize s.length = ns at *
  generalize u.length = nu at *
  generalize hn : l.length = n at *
  have HN := Lib.hid hn
  clear hn
  go_enter Tryd.func16, Tryd.ntmps16
  go_wp2_with (first | (go_at_call 48; (with_reducible refine (HU _ hbw).mono ?_); rintro e w3 ⟨rfl, hb3⟩; have hbv := hbw.trans (hb3.mono hbw.size)) | (go_at_call 48; (with_reducible refine (HS _ hb1).mono ?_); rintro e w2 ⟨rfl, hb2⟩; have hbw := hb1.trans (hb2.mono hb1.size)) | (go_at_call 47; (with_reducible refine (HR _ (Below.refl _ _)).mono ?_); rintro e w1 ⟨rfl, hb1⟩))
  have hs2 := hbv.size
  go_loopw [8, 29] (fun o k wr => ∃ (j : Nat) (F : Nat → Prop), j ≤ n ∧ k = .int .i64 j ∧ Ow wr (Move.s true ((l.take j).filterMap (moveOf s u))) o F ∧ (∀ b, F b → W.heap.size ≤ b) ∧ Below W.heap.size W wr) (fun _ k _ => n - (intOf k).toNat)
  case atStart => exact ⟨0, fun _ => False, Nat.zero_le _, rfl, .emp _ _ _ _ (by simp), fun b h => h.elim, hbv.alloc hs2 _⟩
  case round =>
    obtain ⟨j, F, hj, rfl, hO, hF, hb⟩ := hrel
    by_cases hlt : j < n
    · obtain ⟨x, hx⟩ := get_lt (l := l) (k := j) (by rw [HN.out]; exact hlt)
      obtain ⟨b1, off1, hA, hbl, cj⟩ := ints_at hr hb (Nat.le_refl _) hx
      subst hA
      have HX := HC x (List.mem_of_getElem? hx)
      have HY := HD x (List.mem_of_getElem? hx)
      have HTL := Lib.hid (show (((l.take j).filterMap (moveOf s u)).map (Move.d true)).length ≤ 1048576 from by have := List.length_filterMap_le (moveOf s u) (l.take j); simp only [List.length_map, List.length_take] at *; omega)
      have HTY := fun h => Lib.hid (moves_yes (s := s) (u := u) hx h)
      have HTN := fun h => Lib.hid (moves_no (s := s) (u := u) hx h)
      have hlt' : (j : Int) < (n : Int) := by omega
      have hbs := hb.size
      generalize homeOf x s = a at *
      generalize homeOf x u = b at *
      clear hr hx
      go_wp2_with fail
      refine (HX _ hb).mono ?_
      rintro e w3 ⟨rfl, hb3⟩
      have hbx := hb.trans (hb3.mono hbs)
      go_wp2_with fail
      refine (HY _ hbx).mono ?_
      rintro e w4 ⟨rfl, hb4⟩
      have hby := hbx.trans (hb4.mono hbx.size)
      have hbq : Below wr.heap.size wr w4 := hb3.trans (hb4.mono hb3.size)
      by_cases hab : a = b
      · have HT := HTN hab
        go_wp2
        go_roundw
        case rel => exact ⟨j + 1, F, by omega, by go_num, by rw [HT.out]; exact hO.keep hbq, hF, hby⟩
        case measure => simp [intOf]; omega
      · have HT := HTY hab
        go_wp2_with (at_builtin; refine dt_append1 rfl _ _ 32 38 rfl Tryd.underlying32 (.agg #[.int .i64 0, .int .i64 0, .int .i64 0]) 3 24 move_inf rfl (by decide) (by decide) (by rfl) (hO.keep hbq) #[.int .i64 x, .int .i64 a, .int .i64 b] (by rfl) (Move.d true ⟨x, a, b⟩) (fun _ => False) rfl (move_own _ _ _ _) (by simp) (by have := HTL.out; omega) ?_; intro v2 w2 F2 hO2 hk2 hF2)
        have hF2' : ∀ b, F2 b → W.heap.size ≤ b := fun b h => by
          rcases hF2 b h with h | h | h
          · exact hF b h
          · exact h.elim
          · have := hbq.size; omega
        have hbe : Below W.heap.size W w2 := hby.trans (hk2.below (by have := hbq.size; omega) hF)
        go_roundw
        case rel => exact ⟨j + 1, F2, by omega, by go_num, by rw [HT.out]; exact moves_snoc hO2, hF2', hbe⟩
        case measure => simp [intOf]; omega
    · obtain rfl : j = n := by omega
      have HE := Lib.hid (show (l.take j).filterMap (moveOf s u) = l.filterMap (moveOf s u) from by rw [List.take_of_length_le (by rw [HN.out]; exact Nat.le_refl _)])
      rw [HE.out] at hO
      obtain ⟨A9, c9, hv, -⟩ := hO.shape
      subst hv
      simp only [List.length_map] at hO
      clear hr
      generalize hm : l.filterMap (moveOf s u) = ms at *
      generalize hq : ms.length = q at *
      have HQ := Lib.hid hq
      have HM := Lib.hid hm
      clear hq hm
      go_wp2
      go_ret2
      exact ⟨A9, c9, F, by rw [HF.out]; simp only [List.length_map, HQ.out]; rfl, by rw [HF.out, HQ.out]; exact hO, hF, hb⟩
set_option maxHeartbeats 1600000 in
set_option maxRecDepth 100000 in
theorem spec_MovesFor (l s u : List Int) (A As Au : Option Addr) (c cs cu : Nat) (W : World) (hr : Ro W (Lo W.heap.size) (ints l) (.slice A l.length c)) (hs : Ro W (Lo W.heap.size) (ints s) (.slice As s.length cs)) (hu : Ro W (Lo W.heap.size) (ints u) (.slice Au u.length cu)) (hl : l.length ≤ 1048576) :
    Calls Tryd.prog 29 #[.slice A l.length c, .slice As s.length cs, .slice Au u.length cu] W (MadeMv W (MovesFor_f l s u)) := by
  have HR := fun (w : World) (hb : Below W.heap.size W w) => spec_l10Rooms l A c w (ro_to hr hb) hr.sl_max hr.sl_cap
  have HS := fun (w : World) (hb : Below W.heap.size W w) => spec_l10Shards s As cs w (ro_to hs hb) hs.sl_max hs.sl_cap
  have HU := fun (w : World) (hb : Below W.heap.size W w) => spec_l10Shards u Au cu w (ro_to hu hb) hu.sl_max hu.sl_cap
  cases h1 : okRooms l
  · have HF := Lib.hid (show MovesFor_f l s u = ([], false) from if_neg (by simp [h1]))
    rw [h1] at HR
    clear h1 hr hs hu 
    generalize l.length = n at *
    generalize s.length = ns at *
    generalize u.length = nu at *
    go_enter Tryd.func29, Tryd.ntmps29
    go_wp2_with (first | (go_at_call 53; (with_reducible refine (HR _ (Below.refl _ _)).mono ?_); rintro e w1 ⟨rfl, hb1⟩))
    go_ret2
    exact madeMv_no HF.out hb1
  cases h2 : okShards s
  · have HF := Lib.hid (show MovesFor_f l s u = ([], false) from if_neg (by simp [h2]))
    rw [h1] at HR
    rw [h2] at HS
    clear h1 h2 hr hs hu 
    generalize l.length = n at *
    generalize s.length = ns at *
    generalize u.length = nu at *
    go_enter Tryd.func29, Tryd.ntmps29
    go_wp2_with (first | (go_at_call 51; (with_reducible refine (HS _ hb1).mono ?_); rintro e w2 ⟨rfl, hb2⟩; have hbw := hb1.trans (hb2.mono hb1.size)) | (go_at_call 53; (with_reducible refine (HR _ (Below.refl _ _)).mono ?_); rintro e w1 ⟨rfl, hb1⟩))
    go_ret2
    exact madeMv_no HF.out hbw
  cases h3 : okShards u
  · have HF := Lib.hid (show MovesFor_f l s u = ([], false) from if_neg (by simp [h3]))
    rw [h1] at HR
    rw [h2] at HS
    rw [h3] at HU
    clear h1 h2 h3 hr hs hu 
    generalize l.length = n at *
    generalize s.length = ns at *
    generalize u.length = nu at *
    go_enter Tryd.func29, Tryd.ntmps29
    go_wp2_with (first | (go_at_call 51; (with_reducible refine (HU _ hbw).mono ?_); rintro e w3 ⟨rfl, hb3⟩; have hbv := hbw.trans (hb3.mono hbw.size)) | (go_at_call 51; (with_reducible refine (HS _ hb1).mono ?_); rintro e w2 ⟨rfl, hb2⟩; have hbw := hb1.trans (hb2.mono hb1.size)) | (go_at_call 53; (with_reducible refine (HR _ (Below.refl _ _)).mono ?_); rintro e w1 ⟨rfl, hb1⟩))
    go_ret2
    exact madeMv_no HF.out hbv
  have HF := Lib.hid (show MovesFor_f l s u = (l.filterMap (moveOf s u), true) from if_pos ⟨h1, h2, h3⟩)
  have HC := fun (x : Int) (hx : x ∈ l) (w : World) (hb : Below W.heap.size W w) => spec_l10Home x (okRooms_at h1 x hx) s (okShards_at h2) (okShards_len h2) As cs w (ro_to hs hb) hs.sl_max hs.sl_cap
  have HD := fun (x : Int) (hx : x ∈ l) (w : World) (hb : Below W.heap.size W w) => spec_l10Home x (okRooms_at h1 x hx) u (okShards_at h3) (okShards_len h3) Au cu w (ro_to hu hb) hu.sl_max hu.sl_cap
  rw [h1] at HR
  rw [h2] at HS
  rw [h3] at HU
  have hlen := hl
  clear h1 h2 h3 hs hu 
  generalize s.length = ns at *
  generalize u.length = nu at *
  generalize hn : l.length = n at *
  have HN := Lib.hid hn
  clear hn
  go_enter Tryd.func29, Tryd.ntmps29
  go_wp2_with (first | (go_at_call 51; (with_reducible refine (HU _ hbw).mono ?_); rintro e w3 ⟨rfl, hb3⟩; have hbv := hbw.trans (hb3.mono hbw.size)) | (go_at_call 51; (with_reducible refine (HS _ hb1).mono ?_); rintro e w2 ⟨rfl, hb2⟩; have hbw := hb1.trans (hb2.mono hb1.size)) | (go_at_call 53; (with_reducible refine (HR _ (Below.refl _ _)).mono ?_); rintro e w1 ⟨rfl, hb1⟩))
  have hs2 := hbv.size
  go_loopw [8, 9] (fun o k wr => ∃ (j : Nat) (F : Nat → Prop), j ≤ n ∧ k = .int .i64 j ∧ Ow wr (Move.s true ((l.take j).filterMap (moveOf s u))) o F ∧ (∀ b, F b → W.heap.size ≤ b) ∧ Below W.heap.size W wr) (fun _ k _ => n - (intOf k).toNat)
  case atStart => exact ⟨0, fun _ => False, Nat.zero_le _, rfl, .emp _ _ _ _ (by simp), fun b h => h.elim, hbv.alloc hs2 _⟩
  case round =>
    obtain ⟨j, F, hj, rfl, hO, hF, hb⟩ := hrel
    by_cases hlt : j < n
    · obtain ⟨x, hx⟩ := get_lt (l := l) (k := j) (by rw [HN.out]; exact hlt)
      obtain ⟨b1, off1, hA, hbl, cj⟩ := ints_at hr hb (Nat.le_refl _) hx
      subst hA
      have HX := HC x (List.mem_of_getElem? hx)
      have HY := HD x (List.mem_of_getElem? hx)
      have HTL := Lib.hid (show (((l.take j).filterMap (moveOf s u)).map (Move.d true)).length ≤ 1048576 from by have := List.length_filterMap_le (moveOf s u) (l.take j); simp only [List.length_map, List.length_take] at *; omega)
      have HTY := fun h => Lib.hid (moves_yes (s := s) (u := u) hx h)
      have HTN := fun h => Lib.hid (moves_no (s := s) (u := u) hx h)
      have hlt' : (j : Int) < (n : Int) := by omega
      have hbs := hb.size
      generalize homeOf x s = a at *
      generalize homeOf x u = b at *
      clear hr hx
      go_wp2_with fail
      refine (HX _ hb).mono ?_
      rintro e w3 ⟨rfl, hb3⟩
      have hbx := hb.trans (hb3.mono hbs)
      have cj_w3 := (hbx.cell (p := ⟨b1, off1 + j, none⟩) hbl).trans ((hb.cell (p := ⟨b1, off1 + j, none⟩) hbl).symm.trans cj)
      go_wp2_with fail
      refine (HY _ hbx).mono ?_
      rintro e w4 ⟨rfl, hb4⟩
      have hby := hbx.trans (hb4.mono hbx.size)
      have cj_w4 := (hby.cell (p := ⟨b1, off1 + j, none⟩) hbl).trans ((hb.cell (p := ⟨b1, off1 + j, none⟩) hbl).symm.trans cj)
      have hbq : Below wr.heap.size wr w4 := hb3.trans (hb4.mono hb3.size)
      by_cases hab : a = b
      · have HT := HTN hab
        go_wp2
        go_roundw
        case rel => exact ⟨j + 1, F, by omega, by go_num, by rw [HT.out]; exact hO.keep hbq, hF, hby⟩
        case measure => simp [intOf]; omega
      · have HT := HTY hab
        go_wp2_with (at_builtin; refine dt_append1 rfl _ _ 32 38 rfl Tryd.underlying32 (.agg #[.int .i64 0, .int .i64 0, .int .i64 0]) 3 24 move_inf rfl (by decide) (by decide) (by rfl) (hO.keep hbq) #[.int .i64 x, .int .i64 a, .int .i64 b] (by rfl) (Move.d true ⟨x, a, b⟩) (fun _ => False) rfl (move_own _ _ _ _) (by simp) (by have := HTL.out; omega) ?_; intro v2 w2 F2 hO2 hk2 hF2)
        have hF2' : ∀ b, F2 b → W.heap.size ≤ b := fun b h => by
          rcases hF2 b h with h | h | h
          · exact hF b h
          · exact h.elim
          · have := hbq.size; omega
        have hbe : Below W.heap.size W w2 := hby.trans (hk2.below (by have := hbq.size; omega) hF)
        go_roundw
        case rel => exact ⟨j + 1, F2, by omega, by go_num, by rw [HT.out]; exact moves_snoc hO2, hF2', hbe⟩
        case measure => simp [intOf]; omega
    · obtain rfl : j = n := by omega
      have HE := Lib.hid (show (l.take j).filterMap (moveOf s u) = l.filterMap (moveOf s u) from by rw [List.take_of_length_le (by rw [HN.out]; exact Nat.le_refl _)])
      rw [HE.out] at hO
      obtain ⟨A9, c9, hv, -⟩ := hO.shape
      subst hv
      simp only [List.length_map] at hO
      clear hr
      generalize hm : l.filterMap (moveOf s u) = ms at *
      generalize hq : ms.length = q at *
      have HQ := Lib.hid hq
      have HM := Lib.hid hm
      clear hq hm
      go_wp2
      go_ret2
      exact ⟨A9, c9, F, by rw [HF.out]; simp only [List.length_map, HQ.out]; rfl, by rw [HF.out, HQ.out]; exact hO, hF, hb⟩
theorem MovesFor_len (l s u : List Int) : (MovesFor_f l s u).1.length ≤ l.length := by
  unfold MovesFor_f
  split
  · exact List.length_filterMap_le _ _
  · simp
theorem MovesFor_lawI (l s u : List Int) (A : Option Addr) (c : Nat) (As : Option Addr) (cs : Nat) (Au : Option Addr) (cu : Nat) (W : World) (ht : Pow10 W) (hr : Ro W (Lo W.heap.size) (ints l) (.slice A l.length c)) (hs : Ro W (Lo W.heap.size) (ints s) (.slice As s.length cs)) (hu : Ro W (Lo W.heap.size) (ints u) (.slice Au u.length cu)) (hz : l.length ≤ 1048576) (hz1 : s.length ≤ 1048576) (hz2 : u.length ≤ 1048576) : Calls Tryd.prog 16 #[.slice A l.length c, .slice As s.length cs, .slice Au u.length cu] W fun e w' =>
    ∃ A c F, e = .returned (.tuple #[.slice A (MovesFor_f l s u).1.length c, .bool (MovesFor_f l s u).2]) ∧ Ow w' (Move.s true (MovesFor_f l s u).1) (.slice A (MovesFor_f l s u).1.length c) F ∧ (∀ b, F b → W.heap.size ≤ b) ∧ Below W.heap.size W w' :=
  (impl_MovesFor l s u A As Au c cs cu W ht hr hs hu hz)
theorem MovesFor_lawS (l s u : List Int) (A : Option Addr) (c : Nat) (As : Option Addr) (cs : Nat) (Au : Option Addr) (cu : Nat) (W : World) (hr : Ro W (Lo W.heap.size) (ints l) (.slice A l.length c)) (hs : Ro W (Lo W.heap.size) (ints s) (.slice As s.length cs)) (hu : Ro W (Lo W.heap.size) (ints u) (.slice Au u.length cu)) (hz : l.length ≤ 1048576) (hz1 : s.length ≤ 1048576) (hz2 : u.length ≤ 1048576) : Calls Tryd.prog 29 #[.slice A l.length c, .slice As s.length cs, .slice Au u.length cu] W fun e w' =>
    ∃ A c, e = .returned (.tuple #[.slice A (MovesFor_f l s u).1.length c, .bool (MovesFor_f l s u).2]) ∧ Ro w' (Lo w'.heap.size) (Move.s true (MovesFor_f l s u).1) (.slice A (MovesFor_f l s u).1.length c) ∧ Below W.heap.size W w' :=
  (spec_MovesFor l s u A As Au c cs cu W hr hs hu hz).mono fun e w' ⟨A, c, F, h1, h2, h3, h4⟩ => ⟨A, c, h1, h2.lo, h4⟩
theorem MovesFor_lawN (l s u : List Int) (hz : l.length ≤ 1048576) (hz1 : s.length ≤ 1048576) (hz2 : u.length ≤ 1048576) : Move.ln (MovesFor_f l s u).1 ≤ 1000000000000 := by
  have h1 := Move.ln_z (MovesFor_f l s u).1
  have h2 := MovesFor_len l s u
  unfold Move.zs at h1
  omega
end Go.Proofs.YtmofbfeclecdoaaDoor

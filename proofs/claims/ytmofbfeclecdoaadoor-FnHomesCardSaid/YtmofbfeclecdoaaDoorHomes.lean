/- The homes of many rooms. -/
import Derived.Test.YtmofbfeclecdoaaDoorHome
import Derived.Test.YtmofbfeclecdoaaDoorYHome
import Derived.Test.YtmofbfeclecdoaaDoorBox
import Derived.Deep.LoopGhost
namespace Go.Proofs.YtmofbfeclecdoaaDoor
open Go.ChangeShapes Go.WideShapes Go.ChangeAt Go.RowKit Go.Dt
set_option linter.unusedVariables false
set_option linter.unusedSimpArgs false
theorem home_inf : Inf Tryd.prog 40 (.agg #[.int .i64 0, .int .i64 0]) 2 16 := by unfold Inf; kernel_rfl
theorem home_own (w : World) (x h : Int) : OwL w (Home.d true ⟨x, h⟩) [.int .i64 x, .int .i64 h] (fun _ => False) := OwL.consP (Ow.I _ _) (OwL.one (Ow.I _ _))
theorem homes_snoc {w : World} {l : List Home} {m : Home} {v : Value} {F : Nat → Prop} (h : Ow w (.sl 40 2 (l.map (Home.d true) ++ [Home.d true m])) v F) : Ow w (Home.s true (l ++ [m])) v F := by
  unfold Home.s; rw [List.map_append]; exact h
def HomesOf_f (l s : List Int) : List Home × Bool := if okRooms l = true ∧ okShards s = true then (l.map fun r => ⟨r, homeOf r s⟩, true) else ([], false)
def MadeHs (W : World) (r : List Home × Bool) (e : Ending) (w' : World) : Prop := ∃ A c F, e = .returned (.tuple #[.slice A r.1.length c, .bool r.2]) ∧ Ow w' (Home.s true r.1) (.slice A r.1.length c) F ∧ (∀ b, F b → W.heap.size ≤ b) ∧ Below W.heap.size W w'
theorem madeHs_no {W w' : World} {r : List Home × Bool} (hr : r = ([], false)) (hb : Below W.heap.size W w') : MadeHs W r (.returned (.tuple #[.slice none 0 0, .bool false])) w' := by
  subst hr
  exact ⟨none, 0, fun _ => False, rfl, .emp _ _ _ _ (by simp), fun b h => h.elim, hb⟩
set_option maxHeartbeats 1600000 in
set_option maxRecDepth 100000 in
theorem impl_HomesOf (l s : List Int) (A As : Option Addr) (c cs : Nat) (W : World) (ht : Pow10 W) (hr : Ro W (Lo W.heap.size) (ints l) (.slice A l.length c)) (hs : Ro W (Lo W.heap.size) (ints s) (.slice As s.length cs)) (hl : l.length ≤ 1048576) :
    Calls Tryd.prog 15 #[.slice A l.length c, .slice As s.length cs] W (MadeHs W (HomesOf_f l s)) := by
  have HR := fun (w : World) (hb : Below W.heap.size W w) => impl_roomsOk l A c w (ro_to hr hb) hr.sl_max hr.sl_cap
  have HS := fun (w : World) (hb : Below W.heap.size W w) => impl_shardsOk s As cs w (ro_to hs hb) hs.sl_max hs.sl_cap
  cases h1 : okRooms l
  · have HF := Lib.hid (show HomesOf_f l s = ([], false) from if_neg (by simp [h1]))
    rw [h1] at HR
    clear h1 hr hs ht
    generalize l.length = n at *
    generalize s.length = ns at *
    go_enter Tryd.func15, Tryd.ntmps15
    go_wp2_with (go_at_call 47; (with_reducible refine (HR _ (Below.refl _ _)).mono ?_); rintro e w1 ⟨rfl, hb1⟩)
    go_ret2
    exact madeHs_no HF.out hb1
  cases h2 : okShards s
  · have HF := Lib.hid (show HomesOf_f l s = ([], false) from if_neg (by simp [h2]))
    rw [h1] at HR
    rw [h2] at HS
    clear h1 h2 hr hs ht
    generalize l.length = n at *
    generalize s.length = ns at *
    go_enter Tryd.func15, Tryd.ntmps15
    go_wp2_with (first | (go_at_call 47; (with_reducible refine (HR _ (Below.refl _ _)).mono ?_); rintro e w1 ⟨rfl, hb1⟩) | (go_at_call 48; (with_reducible refine (HS _ hb1).mono ?_); rintro e w2 ⟨rfl, hb2⟩))
    go_ret2
    exact madeHs_no HF.out (hb1.trans (hb2.mono hb1.size))
  have HF := Lib.hid (show HomesOf_f l s = (l.map fun r => ⟨r, homeOf r s⟩, true) from if_pos ⟨h1, h2⟩)
  have HC := fun (x : Int) (hx : x ∈ l) (w : World) (hb : Below W.heap.size W w) => impl_home x (okRooms_at h1 x hx) s (okShards_at h2) (okShards_len h2) As cs w (ht.on hb) (ro_to hs hb) hs.sl_max hs.sl_cap
  rw [h1] at HR
  rw [h2] at HS
  have hlen := hl
  clear h1 h2 hs ht
  generalize s.length = ns at *
  generalize hn : l.length = n at *
  have HN := Lib.hid hn
  clear hn
  go_enter Tryd.func15, Tryd.ntmps15
  go_wp2_with (first | (go_at_call 47; (with_reducible refine (HR _ (Below.refl _ _)).mono ?_); rintro e w1 ⟨rfl, hb1⟩) | (go_at_call 48; (with_reducible refine (HS _ hb1).mono ?_); rintro e w2 ⟨rfl, hb2⟩))
  have hbw := hb1.trans (hb2.mono hb1.size)
  have hs2 := hbw.size
  go_loopw [6, 20] (fun o k wr => ∃ (j : Nat) (F : Nat → Prop), j ≤ n ∧ k = .int .i64 j ∧ Ow wr (Home.s true ((l.take j).map fun r => ⟨r, homeOf r s⟩)) o F ∧ (∀ b, F b → W.heap.size ≤ b) ∧ Below W.heap.size W wr) (fun _ k _ => n - (intOf k).toNat)
  case atStart => exact ⟨0, fun _ => False, Nat.zero_le _, rfl, .emp _ _ _ _ (by simp), fun b h => h.elim, hbw.alloc hs2 _⟩
  case round =>
    obtain ⟨j, F, hj, rfl, hO, hF, hb⟩ := hrel
    by_cases hlt : j < n
    · obtain ⟨x, hx⟩ := get_lt (l := l) (k := j) (by rw [HN.out]; exact hlt)
      obtain ⟨b1, off1, hA, hbl, cj⟩ := ints_at hr hb (Nat.le_refl _) hx
      subst hA
      have HX := HC x (List.mem_of_getElem? hx)
      have HT := Lib.hid (show (l.take (j + 1)).map (fun r => (⟨r, homeOf r s⟩ : Home)) = (l.take j).map (fun r => ⟨r, homeOf r s⟩) ++ [⟨x, homeOf x s⟩] from by rw [List.take_add_one, hx]; simp)
      have HTL := Lib.hid (show (((l.take j).map fun r => (⟨r, homeOf r s⟩ : Home)).map (Home.d true)).length ≤ 1048576 from by simp only [List.length_map, List.length_take]; omega)
      have hlt' : (j : Int) < (n : Int) := by omega
      have hbs := hb.size
      generalize homeOf x s = hh at *
      clear hr hx
      go_wp2_with fail
      refine (HX _ hb).mono ?_
      rintro e w3 ⟨rfl, hb3⟩
      go_wp2_with (at_builtin; refine dt_append1 rfl _ _ 29 40 rfl Tryd.underlying29 (.agg #[.int .i64 0, .int .i64 0]) 2 16 home_inf rfl (by decide) (by decide) (by rfl) (hO.keep hb3) #[.int .i64 x, .int .i64 hh] (by rfl) (Home.d true ⟨x, hh⟩) (fun _ => False) rfl (home_own _ _ _) (by simp) (by have := HTL.out; omega) ?_; intro v2 w2 F2 hO2 hk2 hF2)
      have hF2' : ∀ b, F2 b → W.heap.size ≤ b := fun b h => by
        rcases hF2 b h with h | h | h
        · exact hF b h
        · exact h.elim
        · have := hb3.size; omega
      have hbe : Below W.heap.size W w2 := (hb.trans (hb3.mono hbs)).trans (hk2.below (by have := hb3.size; omega) hF)
      focus
        go_roundw
        case rel => exact ⟨j + 1, F2, by omega, by go_num, by rw [HT.out]; exact homes_snoc hO2, hF2', hbe⟩
        case measure => simp [intOf]; omega
    · obtain rfl : j = n := by omega
      have HE := Lib.hid (show ((l.take j).map fun r => (⟨r, homeOf r s⟩ : Home)) = l.map fun r => ⟨r, homeOf r s⟩ from by rw [List.take_of_length_le (by rw [HN.out]; exact Nat.le_refl _)])
      rw [HE.out] at hO
      obtain ⟨A9, c9, hv, -⟩ := hO.shape
      subst hv
      simp only [List.length_map, HN.out] at hO
      clear hr
      go_wp2
      go_ret2
      exact ⟨A9, c9, F, by rw [HF.out]; simp only [List.length_map, HN.out]; rfl, by rw [HF.out]; simp only [List.length_map, HN.out]; exact hO, hF, hb⟩
set_option maxHeartbeats 1600000 in
set_option maxRecDepth 100000 in
theorem spec_HomesOf (l s : List Int) (A As : Option Addr) (c cs : Nat) (W : World) (hr : Ro W (Lo W.heap.size) (ints l) (.slice A l.length c)) (hs : Ro W (Lo W.heap.size) (ints s) (.slice As s.length cs)) (hl : l.length ≤ 1048576) :
    Calls Tryd.prog 25 #[.slice A l.length c, .slice As s.length cs] W (MadeHs W (HomesOf_f l s)) := by
  have HR := fun (w : World) (hb : Below W.heap.size W w) => spec_l10Rooms l A c w (ro_to hr hb) hr.sl_max hr.sl_cap
  have HS := fun (w : World) (hb : Below W.heap.size W w) => spec_l10Shards s As cs w (ro_to hs hb) hs.sl_max hs.sl_cap
  cases h1 : okRooms l
  · have HF := Lib.hid (show HomesOf_f l s = ([], false) from if_neg (by simp [h1]))
    rw [h1] at HR
    clear h1 hr hs 
    generalize l.length = n at *
    generalize s.length = ns at *
    go_enter Tryd.func25, Tryd.ntmps25
    go_wp2_with (go_at_call 53; (with_reducible refine (HR _ (Below.refl _ _)).mono ?_); rintro e w1 ⟨rfl, hb1⟩)
    go_ret2
    exact madeHs_no HF.out hb1
  cases h2 : okShards s
  · have HF := Lib.hid (show HomesOf_f l s = ([], false) from if_neg (by simp [h2]))
    rw [h1] at HR
    rw [h2] at HS
    clear h1 h2 hr hs 
    generalize l.length = n at *
    generalize s.length = ns at *
    go_enter Tryd.func25, Tryd.ntmps25
    go_wp2_with (first | (go_at_call 53; (with_reducible refine (HR _ (Below.refl _ _)).mono ?_); rintro e w1 ⟨rfl, hb1⟩) | (go_at_call 51; (with_reducible refine (HS _ hb1).mono ?_); rintro e w2 ⟨rfl, hb2⟩))
    go_ret2
    exact madeHs_no HF.out (hb1.trans (hb2.mono hb1.size))
  have HF := Lib.hid (show HomesOf_f l s = (l.map fun r => ⟨r, homeOf r s⟩, true) from if_pos ⟨h1, h2⟩)
  have HC := fun (x : Int) (hx : x ∈ l) (w : World) (hb : Below W.heap.size W w) => spec_l10Home x (okRooms_at h1 x hx) s (okShards_at h2) (okShards_len h2) As cs w (ro_to hs hb) hs.sl_max hs.sl_cap
  rw [h1] at HR
  rw [h2] at HS
  have hlen := hl
  clear h1 h2 hs 
  generalize s.length = ns at *
  generalize hn : l.length = n at *
  have HN := Lib.hid hn
  clear hn
  go_enter Tryd.func25, Tryd.ntmps25
  go_wp2_with (first | (go_at_call 53; (with_reducible refine (HR _ (Below.refl _ _)).mono ?_); rintro e w1 ⟨rfl, hb1⟩) | (go_at_call 51; (with_reducible refine (HS _ hb1).mono ?_); rintro e w2 ⟨rfl, hb2⟩))
  have hbw := hb1.trans (hb2.mono hb1.size)
  have hs2 := hbw.size
  go_loopw [6, 7] (fun o k wr => ∃ (j : Nat) (F : Nat → Prop), j ≤ n ∧ k = .int .i64 j ∧ Ow wr (Home.s true ((l.take j).map fun r => ⟨r, homeOf r s⟩)) o F ∧ (∀ b, F b → W.heap.size ≤ b) ∧ Below W.heap.size W wr) (fun _ k _ => n - (intOf k).toNat)
  case atStart => exact ⟨0, fun _ => False, Nat.zero_le _, rfl, .emp _ _ _ _ (by simp), fun b h => h.elim, hbw.alloc hs2 _⟩
  case round =>
    obtain ⟨j, F, hj, rfl, hO, hF, hb⟩ := hrel
    by_cases hlt : j < n
    · obtain ⟨x, hx⟩ := get_lt (l := l) (k := j) (by rw [HN.out]; exact hlt)
      obtain ⟨b1, off1, hA, hbl, cj⟩ := ints_at hr hb (Nat.le_refl _) hx
      subst hA
      have HX := HC x (List.mem_of_getElem? hx)
      have HT := Lib.hid (show (l.take (j + 1)).map (fun r => (⟨r, homeOf r s⟩ : Home)) = (l.take j).map (fun r => ⟨r, homeOf r s⟩) ++ [⟨x, homeOf x s⟩] from by rw [List.take_add_one, hx]; simp)
      have HTL := Lib.hid (show (((l.take j).map fun r => (⟨r, homeOf r s⟩ : Home)).map (Home.d true)).length ≤ 1048576 from by simp only [List.length_map, List.length_take]; omega)
      have hlt' : (j : Int) < (n : Int) := by omega
      have hbs := hb.size
      generalize homeOf x s = hh at *
      clear hr hx
      have HSS := Lib.hid (show ∀ w', Below W.heap.size W w' → (fun w' => w'.cell? ⟨b1, off1 + j, none⟩ = some (.int .i64 x)) w' from fun w' h => (h.cell (p := ⟨b1, off1 + j, none⟩) hbl).trans ((hb.cell (p := ⟨b1, off1 + j, none⟩) hbl).symm.trans cj))
      clear cj
      go_wp2_with fail
      go_region_held3 (fun w' => w'.cell? ⟨b1, off1 + j, none⟩ = some (.int .i64 x))
        (exact HSS.out _ (by first | exact hb | exact hb.drew | exact hbe | exact hbB | exact hbB.drew | exact hbB.alloc hbB.size _ | exact (hbB.drew).alloc hbB.size _))
        ((first | (go_at_call 52; (with_reducible refine (HX _ (by first | exact hb | exact hb.drew)).mono ?_); rintro e w3 ⟨rfl, hb3⟩; have hb4 : Below wr.heap.size wr w3 := (by first | exact hb3 | exact (below_drew1 wr).trans hb3); have hOk := hO.keep hb4; have hbB := hb.trans (hb4.mono hbs)) | (refine step_append1 (by rfl) _ _ 29 40 (by rfl) Tryd.underlying29 (.agg #[.int .i64 0, .int .i64 0]) 2 16 home_inf rfl (by decide) (by decide) (by rfl) (by first | exact hOk | exact hOk.drew) #[.int .i64 x, .int .i64 hh] (by rfl) (Home.d true ⟨x, hh⟩) (fun _ => False) rfl (home_own _ _ _) (by simp) (by have := HTL.out; omega) ?_; intro v2 w2 F2 hO2 hk2 hF2; have hbe : Below W.heap.size W w2 := hbB.trans (hk2.below (by have := hb4.size; omega) hF))))
      have hF2' : ∀ b, F2 b → W.heap.size ≤ b := fun b h => by
        rcases hF2 b h with h | h | h
        · exact hF b h
        · exact h.elim
        · have := hb4.size; omega
      go_wp2
      focus
        go_roundw
        case rel => exact ⟨j + 1, F2, by omega, by go_num, by rw [HT.out]; exact homes_snoc hO2, hF2', hbe⟩
        case measure => simp [intOf]; omega
    · obtain rfl : j = n := by omega
      have HE := Lib.hid (show ((l.take j).map fun r => (⟨r, homeOf r s⟩ : Home)) = l.map fun r => ⟨r, homeOf r s⟩ from by rw [List.take_of_length_le (by rw [HN.out]; exact Nat.le_refl _)])
      rw [HE.out] at hO
      obtain ⟨A9, c9, hv, -⟩ := hO.shape
      subst hv
      simp only [List.length_map, HN.out] at hO
      clear hr
      go_wp2
      go_ret2
      exact ⟨A9, c9, F, by rw [HF.out]; simp only [List.length_map, HN.out]; rfl, by rw [HF.out]; simp only [List.length_map, HN.out]; exact hO, hF, hb⟩
theorem HomesOf_len (l s : List Int) : (HomesOf_f l s).1.length ≤ l.length := by
  unfold HomesOf_f
  split
  · simp
  · simp
theorem HomesOf_lawI (l s : List Int) (A : Option Addr) (c : Nat) (As : Option Addr) (cs : Nat) (W : World) (ht : Pow10 W) (hr : Ro W (Lo W.heap.size) (ints l) (.slice A l.length c)) (hs : Ro W (Lo W.heap.size) (ints s) (.slice As s.length cs)) (hz : l.length ≤ 1048576) (hz1 : s.length ≤ 1048576) : Calls Tryd.prog 15 #[.slice A l.length c, .slice As s.length cs] W fun e w' =>
    ∃ A c F, e = .returned (.tuple #[.slice A (HomesOf_f l s).1.length c, .bool (HomesOf_f l s).2]) ∧ Ow w' (Home.s true (HomesOf_f l s).1) (.slice A (HomesOf_f l s).1.length c) F ∧ (∀ b, F b → W.heap.size ≤ b) ∧ Below W.heap.size W w' :=
  (impl_HomesOf l s A As c cs W ht hr hs hz)
theorem HomesOf_lawS (l s : List Int) (A : Option Addr) (c : Nat) (As : Option Addr) (cs : Nat) (W : World) (hr : Ro W (Lo W.heap.size) (ints l) (.slice A l.length c)) (hs : Ro W (Lo W.heap.size) (ints s) (.slice As s.length cs)) (hz : l.length ≤ 1048576) (hz1 : s.length ≤ 1048576) : Calls Tryd.prog 25 #[.slice A l.length c, .slice As s.length cs] W fun e w' =>
    ∃ A c, e = .returned (.tuple #[.slice A (HomesOf_f l s).1.length c, .bool (HomesOf_f l s).2]) ∧ Ro w' (Lo w'.heap.size) (Home.s true (HomesOf_f l s).1) (.slice A (HomesOf_f l s).1.length c) ∧ Below W.heap.size W w' :=
  (spec_HomesOf l s A As c cs W hr hs hz).mono fun e w' ⟨A, c, F, h1, h2, h3, h4⟩ => ⟨A, c, h1, h2.lo, h4⟩
theorem HomesOf_lawN (l s : List Int) (hz : l.length ≤ 1048576) (hz1 : s.length ≤ 1048576) : Home.ln (HomesOf_f l s).1 ≤ 1000000000000 := by
  have h1 := Home.ln_z (HomesOf_f l s).1
  have h2 := HomesOf_len l s
  unfold Home.zs at h1
  omega
end Go.Proofs.YtmofbfeclecdoaaDoor

/- How many rooms each shard has. -/
import Derived.Test.YtmofbfeclecdoaaDoorHomes
namespace Go.Proofs.YtmofbfeclecdoaaDoor
open Go.ChangeShapes Go.WideShapes Go.ChangeAt Go.RowKit Go.Dt
set_option linter.unusedVariables false
set_option linter.unusedSimpArgs false
def cnt (l s : List Int) (y : Int) : Nat := (l.filter fun r => homeOf r s == y).length
theorem cnt_le (l s : List Int) (y : Int) : cnt l s y ≤ l.length := List.length_filter_le _ _
theorem cnt_yes {l s : List Int} {j : Nat} {x y : Int} (hx : l[j]? = some x) (h : homeOf x s = y) : cnt (l.take (j + 1)) s y = cnt (l.take j) s y + 1 := by
  unfold cnt; rw [List.take_add_one, hx, List.filter_append]; simp [h]
theorem cnt_no {l s : List Int} {j : Nat} {x y : Int} (hx : l[j]? = some x) (h : ¬ homeOf x s = y) : cnt (l.take (j + 1)) s y = cnt (l.take j) s y := by
  unfold cnt; rw [List.take_add_one, hx, List.filter_append]; simp [h]
def loads (l s : List Int) : List Int := s.map fun y => ((cnt l s y : Nat) : Int)
theorem loads_len (l s : List Int) : (loads l s).length = s.length := by simp [loads]
theorem rises_lt {p : Int → Bool} {l : List Int} (h : rises p l = true) {i : Nat} : ∀ {q : Nat} {x y : Int}, q < i → l[q]? = some x → l[i]? = some y → x < y := by
  induction i with
  | zero => intro q x y h; omega
  | succ i ih =>
    intro q x y hq hx hy
    have hi := (List.getElem?_eq_some_iff.1 hy).1
    obtain ⟨z, hz⟩ := get_lt (l := l) (k := i) (by omega)
    have h2 := h
    unfold rises upTo at h2
    rw [List.all_eq_true] at h2
    have h3 := h2 (i + 1) (List.mem_range.2 hi)
    rw [riseAt_succ hy hz] at h3
    simp only [Bool.and_eq_true, decide_eq_true_eq] at h3
    rcases Nat.lt_or_ge q i with h' | h'
    · have := ih h' hx hz; omega
    · obtain rfl : q = i := by omega
      rw [hz] at hx; injection hx with hx; omega
theorem okShards_idx {l : List Int} (h : okShards l = true) {i : Nat} {y : Int} (hy : l[i]? = some y) : idx (fun x => y == x) l = i := by
  unfold okShards at h
  simp only [Bool.and_eq_true] at h
  refine idx_found hy (by simp) fun q z hq hz => ?_
  have := rises_lt h.2 hq hz hy
  simp; omega
theorem okShards_le {l : List Int} (h : okShards l = true) : l.length ≤ 16 := by
  unfold okShards at h
  simp only [Bool.and_eq_true, decide_eq_true_eq] at h
  omega
theorem loads_step {l s : List Int} (h : okShards s = true) {j i : Nat} {x : Int} (hx : l[j]? = some x) (hi : s[i]? = some (homeOf x s)) : (loads (l.take j) s).set i ((cnt (l.take j) s (homeOf x s) : Nat) + 1) = loads (l.take (j + 1)) s := by
  apply List.ext_getElem?
  intro q
  have hil := (List.getElem?_eq_some_iff.1 hi).1
  unfold loads
  rw [List.getElem?_set, List.getElem?_map]
  by_cases hq : i = q
  · subst hq
    rw [if_pos rfl, List.getElem?_map, hi]
    simp only [List.length_map, hil, if_true, Option.map_some]
    rw [cnt_yes hx rfl]
    simp
  · rw [if_neg hq, List.getElem?_map]
    cases hs : s[q]? with
    | none => rfl
    | some z =>
      simp only [Option.map_some]
      rw [cnt_no hx ?_]
      intro he
      unfold okShards at h
      simp only [Bool.and_eq_true] at h
      rcases Nat.lt_or_ge q i with h' | h'
      · have := rises_lt h.2 h' hs hi; omega
      · have := rises_lt h.2 (show i < q by omega) hi hs; omega
def LoadOfShards_f (l s : List Int) : List Int × Bool := if okRooms l = true ∧ okShards s = true then (loads l s, true) else ([], false)
def MadeLd (W : World) (r : List Int × Bool) (e : Ending) (w' : World) : Prop := ∃ A c F, e = .returned (.tuple #[.slice A r.1.length c, .bool r.2]) ∧ Ow w' (ints r.1) (.slice A r.1.length c) F ∧ (∀ b, F b → W.heap.size ≤ b) ∧ Below W.heap.size W w'
theorem madeLd_no {W w' : World} {r : List Int × Bool} (hr : r = ([], false)) (hb : Below W.heap.size W w') : MadeLd W r (.returned (.tuple #[.slice none 0 0, .bool false])) w' := by
  subst hr
  exact ⟨none, 0, fun _ => False, rfl, .emp _ _ _ _ (by simp), fun b h => h.elim, hb⟩
set_option maxHeartbeats 1600000 in
set_option maxRecDepth 100000 in
theorem impl_LoadOfShards (l s : List Int) (A As : Option Addr) (c cs : Nat) (W : World) (ht : Pow10 W) (hr : Ro W (Lo W.heap.size) (ints l) (.slice A l.length c)) (hs : Ro W (Lo W.heap.size) (ints s) (.slice As s.length cs)) (hl : l.length ≤ 1048576) (hsl : s.length ≤ 1048576) :
    Calls Tryd.prog 17 #[.slice A l.length c, .slice As s.length cs] W (MadeLd W (LoadOfShards_f l s)) := by
  have HX := impl_HomesOf l s A As c cs W ht hr hs hl
  by_cases hok : okRooms l = true ∧ okShards s = true
  · have HF := Lib.hid (show LoadOfShards_f l s = (loads l s, true) from if_pos hok)
    have hH : HomesOf_f l s = (l.map fun r => ⟨r, homeOf r s⟩, true) := if_pos hok
    rw [hH] at HX
    unfold MadeHs at HX
    have HI := fun (v : Int) (w : World) (hb : Below W.heap.size W w) => slices_Index v s As cs w (ro_to hs hb) hs.sl_max hs.sl_cap
    have HID := fun (i : Nat) (y : Int) (h : s[i]? = some y) => Lib.hid (okShards_idx hok.2 h)
    have HM := fun (x : Int) => Lib.hid (homeTo_i64 (r := x) (okShards_at hok.2) (okShards_len hok.2) s.length)
    have HST := fun (j i : Nat) (x : Int) (hx : l[j]? = some x) (hi : s[i]? = some (homeOf x s)) => Lib.hid (loads_step hok.2 hx hi)
    have HG := Lib.hid (show ∀ (j : Nat) (x : Int), l[j]? = some x → (l.map fun r => (⟨r, homeOf r s⟩ : Home))[j]? = some ⟨x, homeOf x s⟩ from fun j x h => by simp [h])
    have HSL := Lib.hid (show (loads l s).length = s.length from loads_len l s)
    have H0 := Lib.hid (show (loads (l.take 0) s) = List.replicate s.length 0 from by unfold loads; simp only [List.take_zero, cnt, List.filter_nil, List.length_nil]; exact List.map_const')
    clear hH hok hr ht
    have hs0 := hs
    clear hs hs0
    simp only [List.length_map] at HX
    generalize hms : (l.map fun r => (⟨r, homeOf r s⟩ : Home)) = ms at *
    clear hms
    generalize hns : s.length = ns at *
    generalize hn : l.length = n at *
    have HN := Lib.hid hn
    have HNS := Lib.hid hns
    clear hn hns
    go_enter Tryd.func17, Tryd.ntmps17
    go_wp2_with fail
    refine HX.mono ?_
    rintro e w1 ⟨A9, c9, F9, rfl, hO9, -, hb1⟩
    have hr9 := hO9.lo
    clear hO9
    go_wp2_with (at_make; refine dt_make rfl _ _ _ 2 rfl Tryd.underlying27 (.int .i64 0) 8 [.int .i64 0] inf_int64 rfl (by decide) (fun w => OwL.one (.int .i64 0 _ (by simp))) ns rfl rfl (by omega) (by omega) ?_; intro w2 hO2 hb2 hz2)
    have hbw2 := hb1.trans (hb2.mono hb1.size)
    have hs1 := hb1.size
    have hO3 : Ow w2 (ints (loads (l.take 0) s)) (.slice (some ⟨w1.heap.size, 0, none⟩) ns ns) (fun b => b = w1.heap.size) := by rw [H0.out]; unfold ints; rw [List.map_replicate]; exact hO2
    clear hO2
    go_loopw [24] (fun k wr => ∃ (j : Nat) (F : Nat → Prop), j ≤ n ∧ k = .int .i64 j ∧ Ow wr (ints (loads (l.take j) s)) (.slice (some ⟨w1.heap.size, 0, none⟩) ns ns) F ∧ (∀ b, F b → b = w1.heap.size) ∧ Below w1.heap.size w1 wr) (fun k _ => n - (intOf k).toNat)
    case atStart => exact ⟨0, _, Nat.zero_le _, rfl, hO3, fun b h => h, hb2⟩
    case round =>
      obtain ⟨j, F, hj, rfl, hO, hF, hb⟩ := hrel
      have hbW := hb1.trans (hb.mono hb1.size)
      by_cases hlt : j < n
      · obtain ⟨x, hx⟩ := get_lt (l := l) (k := j) (by rw [HN.out]; exact hlt)
        obtain ⟨b, off, us, rfl, hbl, hul, hru, hcl⟩ := Ro.later hr9 hb (Nat.le_refl _) (map_at (f := Home.d true) (HG.out j x hx))
        obtain rfl := Home.cells hru
        have k0 : wr.cell? ⟨b, off + j * 2, none⟩ = some (.int .i64 x) := hcl 0 _ rfl
        have k1 : wr.cell? ⟨b, off + j * 2 + 1, none⟩ = some (.int .i64 (homeOf x s)) := hcl 1 _ rfl
        have hmem : homeOf x s ∈ s := by rw [← homeTo_all, HNS.out]; exact (HM x).out
        obtain ⟨i, hi, hiy⟩ := List.getElem_of_mem hmem
        have hsi : s[i]? = some (homeOf x s) := by rw [List.getElem?_eq_getElem hi, hiy]
        have HIX := HID i _ hsi
        have HSX := HST j i x hx hsi
        have hcn : (loads (l.take j) s)[i]? = some ((cnt (l.take j) s (homeOf x s) : Nat) : Int) := by unfold loads; rw [List.getElem?_map, hsi]; rfl
        have hcle := cnt_le (l.take j) s (homeOf x s)
        have hclj : cnt (l.take j) s (homeOf x s) ≤ j := by have := List.length_take_le j l; omega
        have hix := HI (homeOf x s)
        rw [HIX.out] at hix
        have hil : i < ns := by have := HNS.out; omega
        have HLL := Lib.hid (show (loads (l.take j) s).length = ns from by rw [loads_len]; exact HNS.out)
        obtain ⟨b3, off3, hA3, -, cj⟩ := ints_at hO.lo (Below.refl _ _) (Nat.le_refl _) hcn
        injection hA3 with hA3
        injection hA3 with e1 e2
        subst e1; subst e2
        rw [Nat.zero_add] at cj
        clear hr9 hx hcl hru hul hmem hi hiy hsi HIX hcn hcle
        generalize homeOf x s = y at *
        generalize cnt (l.take j) s y = m at *
        have hlt' : (j : Int) < (n : Int) := by omega
        have hil' : (i : Int) < (ns : Int) := by omega
        have hbs := hbW.size
        have hgl : w1.heap.size < wr.heap.size := by have := (hO.block_lt (by have := HLL.out; simp; omega)).2; exact this
        have hbs1 := hb.size
        go_wp2_with fail
        refine (hix _ (hbW.alloc hbs _)).mono ?_
        rintro e w3 ⟨rfl, hw3⟩
        have hkq : Below wr.heap.size wr w3 := hw3 ▸ ((Below.refl _ _).alloc (Nat.le_refl _) _)
        clear hw3
        have hOq := hO.keep hkq
        have cjq := (hkq.cell (p := ⟨w1.heap.size, i, none⟩) hgl).trans cj
        have hbq := hb.trans (hkq.mono hbs1)
        clear hO cj
        go_wp2_with (change wpList _ _ _ (⟨none, _, _, _, _, _⟩ :: _) _ _; refine dt_store (by rfl) 2 _ _ (by rfl) hOq i _ (by rw [Nat.mul_one]) (by have := HLL.out; simp; omega) (by rfl) (.int .i64 ((m : Int) + 1)) (by rfl) [.int .i64 ((m : Int) + 1)] (by kernel_rfl) (OwL.one (.int .i64 ((m : Int) + 1) (fun _ => False) (by simp))) (by simp) (by rfl) (by decide) ?_; intro w4 F2 hO2 hk2 hz2 hF2 hg)
        go_roundw
        case rel =>
          refine ⟨j + 1, F2, by omega, by go_num, ?_, fun b hb => ?_, ?_⟩
          · have h : Ow w4 (ints ((loads (l.take j) s).set i ((m : Int) + 1))) (.slice (some ⟨w1.heap.size, 0, none⟩) ns ns) F2 := by unfold ints; rw [List.map_set]; exact hO2
            rw [HSX.out] at h
            exact h
          · rcases hF2 b hb with h | h
            · exact hF b h
            · exact h.elim
          · exact hbq.trans (hk2.below (by have := hbq.size; omega) (fun b h => by omega))
        case measure => simp [intOf]; omega
      · obtain rfl : j = n := by omega
        have HE := Lib.hid (show loads (l.take j) s = loads l s from by rw [List.take_of_length_le (by rw [HN.out]; exact Nat.le_refl _)])
        rw [HE.out] at hO
        clear hr9
        go_wp2
        go_ret2
        exact ⟨_, _, F, by rw [HF.out]; simp only [HSL.out]; rfl, by rw [HF.out]; simp only [HSL.out]; exact hO, fun b h => by have := hF b h; omega, hbW⟩
  · have HF := Lib.hid (show LoadOfShards_f l s = ([], false) from if_neg hok)
    have hH : HomesOf_f l s = ([], false) := if_neg hok
    rw [hH] at HX
    unfold MadeHs at HX
    clear hH hok hr hs ht
    generalize s.length = ns at *
    generalize l.length = n at *
    go_enter Tryd.func17, Tryd.ntmps17
    go_wp2_with fail
    refine HX.mono ?_
    rintro e w1 ⟨A9, c9, F9, rfl, -, -, hb1⟩
    go_wp2
    go_ret2
    exact madeLd_no HF.out hb1
theorem ints_snoc {w : World} {l : List Int} {x : Int} {v : Value} {F : Nat → Prop} (h : Ow w (.sl 2 1 (l.map (fun n => [D.int .i64 n]) ++ [[D.int .i64 x]])) v F) : Ow w (ints (l ++ [x])) v F := by
  unfold ints; rw [List.map_append]; exact h
set_option maxHeartbeats 1600000 in
set_option maxRecDepth 100000 in
theorem spec_LoadOfShards (l s : List Int) (A As : Option Addr) (c cs : Nat) (W : World) (hr : Ro W (Lo W.heap.size) (ints l) (.slice A l.length c)) (hs : Ro W (Lo W.heap.size) (ints s) (.slice As s.length cs)) (hl : l.length ≤ 1048576) (hsl : s.length ≤ 1048576) :
    Calls Tryd.prog 22 #[.slice A l.length c, .slice As s.length cs] W (MadeLd W (LoadOfShards_f l s)) := by
  have HR := fun (w : World) (hb : Below W.heap.size W w) => spec_l10Rooms l A c w (ro_to hr hb) hr.sl_max hr.sl_cap
  have HS := fun (w : World) (hb : Below W.heap.size W w) => spec_l10Shards s As cs w (ro_to hs hb) hs.sl_max hs.sl_cap
  cases h1 : okRooms l
  · have HF := Lib.hid (show LoadOfShards_f l s = ([], false) from if_neg (by simp [h1]))
    rw [h1] at HR
    clear h1 hr hs
    generalize l.length = n at *
    generalize s.length = ns at *
    go_enter Tryd.func22, Tryd.ntmps22
    go_wp2_with (go_at_call 53; (with_reducible refine (HR _ (Below.refl _ _)).mono ?_); rintro e w1 ⟨rfl, hb1⟩)
    go_ret2
    exact madeLd_no HF.out hb1
  cases h2 : okShards s
  · have HF := Lib.hid (show LoadOfShards_f l s = ([], false) from if_neg (by simp [h2]))
    rw [h1] at HR
    rw [h2] at HS
    clear h1 h2 hr hs
    generalize l.length = n at *
    generalize s.length = ns at *
    go_enter Tryd.func22, Tryd.ntmps22
    go_wp2_with (first | (go_at_call 53; (with_reducible refine (HR _ (Below.refl _ _)).mono ?_); rintro e w1 ⟨rfl, hb1⟩) | (go_at_call 51; (with_reducible refine (HS _ hb1).mono ?_); rintro e w2 ⟨rfl, hb2⟩))
    go_ret2
    exact madeLd_no HF.out (hb1.trans (hb2.mono hb1.size))
  have HF := Lib.hid (show LoadOfShards_f l s = (loads l s, true) from if_pos ⟨h1, h2⟩)
  have HC := fun (x : Int) (hx : x ∈ l) (w : World) (hb : Below W.heap.size W w) => spec_l10Home x (okRooms_at h1 x hx) s (okShards_at h2) (okShards_len h2) As cs w (ro_to hs hb) hs.sl_max hs.sl_cap
  have HSL := Lib.hid (show (loads l s).length = s.length from loads_len l s)
  have HT0 := fun (i : Nat) => Lib.hid (show ((loads l s).take i).length ≤ i from List.length_take_le _ _)
  have HTS := Lib.hid (show ∀ (i : Nat) (y : Int), s[i]? = some y → (loads l s).take (i + 1) = (loads l s).take i ++ [((cnt l s y : Nat) : Int)] from fun i y h => by
    rw [List.take_add_one]
    congr 1
    unfold loads
    rw [List.getElem?_map, h]
    rfl)
  rw [h1] at HR
  rw [h2] at HS
  clear h1 h2
  generalize hns : s.length = ns at *
  generalize hn : l.length = n at *
  have HN := Lib.hid hn
  have HNS := Lib.hid hns
  clear hn hns
  go_enter Tryd.func22, Tryd.ntmps22
  go_wp2_with (first | (go_at_call 53; (with_reducible refine (HR _ (Below.refl _ _)).mono ?_); rintro e w1 ⟨rfl, hb1⟩) | (go_at_call 51; (with_reducible refine (HS _ hb1).mono ?_); rintro e w2 ⟨rfl, hb2⟩))
  have hbw := hb1.trans (hb2.mono hb1.size)
  have hs2 := hbw.size
  go_loopw [6, 7] (fun o k wr => ∃ (i : Nat) (F : Nat → Prop), i ≤ ns ∧ k = .int .i64 i ∧ Ow wr (ints ((loads l s).take i)) o F ∧ (∀ b, F b → W.heap.size ≤ b) ∧ Below W.heap.size W wr) (fun _ k _ => ns - (intOf k).toNat)
  case atStart => exact ⟨0, fun _ => False, Nat.zero_le _, rfl, .emp _ _ _ _ (by simp), fun b h => h.elim, hbw.alloc hs2 _⟩
  case round =>
    obtain ⟨i, F, hi, rfl, hO, hF, hb⟩ := hrel
    rename World => wo
    by_cases hlt : i < ns
    · obtain ⟨y, hy⟩ := get_lt (l := s) (k := i) (by rw [HNS.out]; exact hlt)
      obtain ⟨b2, off2, hA2, hbl2, -⟩ := ints_at hs (Below.refl _ _) (Nat.le_refl _) hy
      subst hA2
      have HCY := Lib.hid (show ∀ w', Below W.heap.size W w' → w'.cell? ⟨b2, off2 + i, none⟩ = some (.int .i64 y) from fun w' hb => by
        obtain ⟨b3, off3, hA3, hbl3, c3⟩ := ints_at hs hb (Nat.le_refl _) hy
        injection hA3 with hA3
        injection hA3 with e1 e2
        subst e1; subst e2
        exact c3)
      have HTY := Lib.hid (HTS.out i y hy)
      have HTI := HT0 i
      have hlt' : (i : Int) < (ns : Int) := by omega
      have hbs := hb.size
      clear hy hs
      go_wp2
      go_loopw [8, 9] (fun v q wi => ∃ j : Nat, j ≤ n ∧ q = .int .i64 j ∧ v = .int .i64 (cnt (l.take j) s y : Nat) ∧ Below wo.heap.size wo wi) (fun _ q _ => n - (intOf q).toNat)
      case atStart => exact ⟨0, Nat.zero_le _, rfl, by simp [cnt], Below.refl _ _⟩
      case round =>
        obtain ⟨j, hj, rfl, rfl, hbi⟩ := hrel
        have hbI := hb.trans (hbi.mono hbs)
        have hbIs := hbI.size
        by_cases hlj : j < n
        · obtain ⟨x, hx⟩ := get_lt (l := l) (k := j) (by rw [HN.out]; exact hlj)
          obtain ⟨b1, off1, hA, hbl, -⟩ := ints_at hr hbI (Nat.le_refl _) hx
          subst hA
          have HCX := Lib.hid (show ∀ w', Below W.heap.size W w' → w'.cell? ⟨b1, off1 + j, none⟩ = some (.int .i64 x) from fun w' hb => by
            obtain ⟨b3, off3, hA3, hbl3, c3⟩ := ints_at hr hb (Nat.le_refl _) hx
            injection hA3 with hA3
            injection hA3 with e1 e2
            subst e1; subst e2
            exact c3)
          have HX := HC x (List.mem_of_getElem? hx)
          have HY := fun h => Lib.hid (cnt_yes (s := s) (y := y) hx h)
          have HNO := fun h => Lib.hid (cnt_no (s := s) (y := y) hx h)
          have hcle : cnt (l.take j) s y ≤ j := by have := cnt_le (l.take j) s y; have := List.length_take_le j l; omega
          have hlj' : (j : Int) < (n : Int) := by omega
          generalize homeOf x s = h at *
          generalize hmm : cnt (l.take j) s y = m at *
          have HMM := Lib.hid hmm
          clear hr hx hmm
          by_cases hh : h = y
          · have HT := HY hh
            have HSS := Lib.hid (show ∀ w', Below W.heap.size W w' → (fun w' => w'.cell? ⟨b1, off1 + j, none⟩ = some (.int .i64 x) ∧ w'.cell? ⟨b2, off2 + i, none⟩ = some (.int .i64 y)) w' from fun w' h => ⟨HCX.out w' h, HCY.out w' h⟩)
            go_wp2_with fail
            go_region_held3 (fun w' => w'.cell? ⟨b1, off1 + j, none⟩ = some (.int .i64 x) ∧ w'.cell? ⟨b2, off2 + i, none⟩ = some (.int .i64 y))
              (exact HSS.out _ (by first | exact hbI | exact hbI.drew | exact hbx3 | exact hbx3.drew))
              ((go_at_call 52; (with_reducible refine (HX _ (by first | exact hbI | exact hbI.drew)).mono ?_); rintro e w3 ⟨rfl, hb3⟩; have hbi3 : Below wr.heap.size wr w3 := (by first | exact hb3 | exact (below_drew1 wr).trans hb3); have hbi4 := hbi.trans (hbi3.mono hbi.size); have hbx3 := hbI.trans (hbi3.mono hbIs)))
            go_wp2
            go_roundw
            case rel => exact ⟨j + 1, by omega, by go_num, by rw [HT.out]; first | rfl | go_num, hbi4⟩
            case measure => simp [intOf]; omega
          · have HT := HNO hh
            have HSS := Lib.hid (show ∀ w', Below W.heap.size W w' → (fun w' => w'.cell? ⟨b1, off1 + j, none⟩ = some (.int .i64 x) ∧ w'.cell? ⟨b2, off2 + i, none⟩ = some (.int .i64 y)) w' from fun w' h => ⟨HCX.out w' h, HCY.out w' h⟩)
            go_wp2_with fail
            go_region_held3 (fun w' => w'.cell? ⟨b1, off1 + j, none⟩ = some (.int .i64 x) ∧ w'.cell? ⟨b2, off2 + i, none⟩ = some (.int .i64 y))
              (exact HSS.out _ (by first | exact hbI | exact hbI.drew | exact hbx3 | exact hbx3.drew))
              ((go_at_call 52; (with_reducible refine (HX _ (by first | exact hbI | exact hbI.drew)).mono ?_); rintro e w3 ⟨rfl, hb3⟩; have hbi3 : Below wr.heap.size wr w3 := (by first | exact hb3 | exact (below_drew1 wr).trans hb3); have hbi4 := hbi.trans (hbi3.mono hbi.size); have hbx3 := hbI.trans (hbi3.mono hbIs)))
            go_wp2
            go_roundw
            case rel => exact ⟨j + 1, by omega, by go_num, by rw [HT.out], hbi4⟩
            case measure => simp [intOf]; omega
        · obtain rfl : j = n := by omega
          have HE := Lib.hid (show cnt (l.take j) s y = cnt l s y from by rw [List.take_of_length_le (by rw [HN.out]; exact Nat.le_refl _)])
          rw [HE.out]
          generalize cnt l s y = m at *
          have hOi := hO.keep hbi
          clear hr
          go_wp2_with (at_builtin; refine dt_append1 rfl _ _ 27 2 rfl Tryd.underlying27 (.int .i64 0) 1 8 inf_int64 rfl (by decide) (by decide) (by rfl) hOi #[.int .i64 (m : Int)] (by rfl) [.int .i64 (m : Int)] (fun _ => False) rfl (OwL.one (Ow.I _ _)) (by simp) (by have := HTI.out; simp only [List.length_map]; omega) ?_; intro v2 w2 F2 hO2 hk2 hF2)
          have hF2' : ∀ b, F2 b → W.heap.size ≤ b := fun b h => by
            rcases hF2 b h with h | h | h
            · exact hF b h
            · exact h.elim
            · omega
          have hbe : Below W.heap.size W w2 := hbI.trans (hk2.below hbIs hF)
          go_roundw
          case rel => exact ⟨i + 1, F2, by omega, by go_num, by rw [HTY.out]; exact ints_snoc hO2, hF2', hbe⟩
          case measure => simp [intOf]; omega
    · obtain rfl : i = ns := by omega
      have HE := Lib.hid (show (loads l s).take i = loads l s from List.take_of_length_le (by rw [HSL.out]; exact Nat.le_refl _))
      rw [HE.out] at hO
      obtain ⟨A9, c9, hv, -⟩ := hO.shape
      subst hv
      simp only [List.length_map, HSL.out] at hO
      clear hr hs
      go_wp2
      go_ret2
      exact ⟨A9, c9, F, by rw [HF.out]; simp only [List.length_map, HSL.out]; rfl, by rw [HF.out]; simp only [HSL.out]; exact hO, hF, hb⟩
theorem LoadOfShards_lawI (l s : List Int) (A : Option Addr) (c : Nat) (As : Option Addr) (cs : Nat) (W : World) (ht : Pow10 W) (hr : Ro W (Lo W.heap.size) (ints l) (.slice A l.length c)) (hs : Ro W (Lo W.heap.size) (ints s) (.slice As s.length cs)) (hz : l.length ≤ 1048576) (hz1 : s.length ≤ 1048576) : Calls Tryd.prog 17 #[.slice A l.length c, .slice As s.length cs] W fun e w' =>
    ∃ A c F, e = .returned (.tuple #[.slice A (LoadOfShards_f l s).1.length c, .bool (LoadOfShards_f l s).2]) ∧ Ow w' (ints (LoadOfShards_f l s).1) (.slice A (LoadOfShards_f l s).1.length c) F ∧ (∀ b, F b → W.heap.size ≤ b) ∧ Below W.heap.size W w' :=
  (impl_LoadOfShards l s A As c cs W ht hr hs hz hz1)
theorem LoadOfShards_lawS (l s : List Int) (A : Option Addr) (c : Nat) (As : Option Addr) (cs : Nat) (W : World) (hr : Ro W (Lo W.heap.size) (ints l) (.slice A l.length c)) (hs : Ro W (Lo W.heap.size) (ints s) (.slice As s.length cs)) (hz : l.length ≤ 1048576) (hz1 : s.length ≤ 1048576) : Calls Tryd.prog 22 #[.slice A l.length c, .slice As s.length cs] W fun e w' =>
    ∃ A c, e = .returned (.tuple #[.slice A (LoadOfShards_f l s).1.length c, .bool (LoadOfShards_f l s).2]) ∧ Ro w' (Lo w'.heap.size) (ints (LoadOfShards_f l s).1) (.slice A (LoadOfShards_f l s).1.length c) ∧ Below W.heap.size W w' :=
  (spec_LoadOfShards l s A As c cs W hr hs hz hz1).mono fun e w' ⟨A, c, F, h1, h2, h3, h4⟩ => ⟨A, c, h1, h2.lo, h4⟩
theorem LoadOfShards_lawN (l s : List Int) (hz : l.length ≤ 1048576) (hz1 : s.length ≤ 1048576) : (LoadOfShards_f l s).1.length ≤ 1000000000000 := by
  unfold LoadOfShards_f
  split
  · simp only [loads_len]; omega
  · simp
end Go.Proofs.YtmofbfeclecdoaaDoor

/- The laws' own functions on lists of strings: sizes, copies, equality, marks. -/
import Derived.Test.YtahbgkabdongnaaDoorSti
import Derived.Test.YtahbgkabdongnaaDoorText
import Derived.Test.YtahbgkabdongnaaDoorOpen
import Derived.Deep.QuietTactic
import Derived.BigQuiet
import Derived.Deep.RegionHeld3
namespace Go.Proofs.YtahbgkabdongnaaDoor
open Go.ChangeShapes Go.WideShapes Go.ChangeAt Go.RowKit Go.Dt
set_option linter.unusedVariables false
set_option linter.unusedSimpArgs false
theorem strs_at2 {w w2 : World} {B B' : Nat} {l : List ByteArray} {A : Option Addr} {n c k : Nat} {x : ByteArray} (h : Ro w (Lo B) (strs l) (.slice A n c)) (hb : Below B' w w2) (hB : B ≤ B') (hk : l[k]? = some x) :
    ∃ (b off : Nat), A = some ⟨b, off, none⟩ ∧ b < B ∧ w2.cell? ⟨b, off + k, none⟩ = some (.string x) := by
  obtain ⟨b, off, hA, hlt, h1⟩ := strs_at h hk
  exact ⟨b, off, hA, hlt, (hb.cell (p := ⟨b, off + k, none⟩) (Nat.lt_of_lt_of_le hlt hB)).trans h1⟩
theorem open_strs {w : World} {Pb : Nat → Prop} {A : Option Addr} {n c : Nat} {e : List D} (t : IsL [.sl 9 1 [.str]] e) (x : RoL w Pb e [.slice A n c]) :
    ∃ l : List ByteArray, n = l.length ∧ Ro w Pb (strs l) (.slice A l.length c) ∧ (∀ y ∈ l, y.size ≤ maxLen) ∧ l.length ≤ c ∧ c ≤ maxLen := by
  obtain ⟨d, ds, rfl, i, t⟩ := t.uncons
  obtain rfl := t.unnil
  obtain ⟨l, rfl, wf⟩ := Is.sl_inv (fun s => [D.str s]) (fun s : ByteArray => s.size ≤ maxLen) (fun ds h => by
    obtain ⟨d, ds, rfl, i, h⟩ := h.uncons
    obtain rfl := h.unnil
    obtain ⟨s, rfl, wf⟩ := i.str_inv
    exact ⟨s, rfl, wf⟩) i
  obtain ⟨u, us, hu, hr, _⟩ := x.uncons
  injection hu with hu _
  subst hu
  obtain ⟨A', c', hv, hl, hm⟩ := hr.sl_inv
  injection hv with e1 e2 e3
  subst e1; subst e2; subst e3
  simp only [List.length_map] at hl hr ⊢
  exact ⟨l, rfl, hr, wf, hl, hm⟩
set_option maxHeartbeats 400000 in
theorem laws_toStringS (l : List ByteArray) (A : Option Addr) (c : Nat) (W : World) (hr : Ro W (Lo W.heap.size) (strs l) (.slice A l.length c)) (hl : l.length ≤ 1048576) :
    Calls Tryd.prog 10 #[.slice A l.length c] W (Made W (strs l)) := by
  have hlen : l.length ≤ 9223372036854775807 := by omega
  generalize hn : l.length = n at *
  have HN := Lib.hid hn
  clear hn
  go_enter Tryd.func10, Tryd.ntmps10
  go_wp2_with (at_make; refine dt_make rfl _ _ _ 9 rfl Tryd.underlying22 (.string ByteArray.empty) 16 [.str ByteArray.empty] inf_string rfl (by decide) (fun w => OwL.one (Ow.S _)) n rfl rfl (by omega) (by omega) ?_; intro w1 hO hb hz)
  go_loopw [4] (fun i wr => ∃ j : Nat, j ≤ n ∧ i = .int .i64 j ∧ (∃ F, Ow wr (.sl 9 1 ((l.take j).map (fun s => [.str s]) ++ List.replicate (n - j) [.str ByteArray.empty])) (.slice (some ⟨W.heap.size, 0, none⟩) n n) F ∧ ∀ b, F b → W.heap.size ≤ b) ∧ Below W.heap.size W wr) (fun i _ => n - (intOf i).toNat)
  case atStart => exact ⟨0, by omega, rfl, ⟨_, by simpa using hO, by omega⟩, hb⟩
  case round =>
    obtain ⟨j, hj, rfl, ⟨F, hO, hF⟩, hb⟩ := hrel
    by_cases hlt : j < n
    · obtain ⟨x, hx⟩ := get_lt (l := l) (k := j) (by rw [HN.out]; exact hlt)
      obtain ⟨b, off, rfl, hbl, c0⟩ := strs_at2 hr hb (Nat.le_refl _) hx
      have HX := Lib.hid hx
      clear hr hx
      go_wp2_with (change wpList _ _ _ (⟨none, _, _, _, _, _⟩ :: _) _ _; refine dt_store (by rfl) 9 _ _ (by rfl) hO j _ (by rw [Nat.mul_one]) (by have := HN.out; simp; omega) (by rfl) (.string x) (by rfl) [.str x] (by kernel_rfl) (OwL.one (Ow.S _)) (by simp) (by rfl) (by decide) ?_; intro w2 F2 hO2 hk2 hz2 hF2 hg2)
      go_roundw
      case rel =>
        refine ⟨j + 1, by omega, by go_num, ⟨F2, ?_, fun b hb => ?_⟩, hb.trans (hk2.below hb.size (by omega))⟩
        · rw [← HN.out] at hO2 ⊢
          rw [build_set (fun s => [D.str s]) [.str ByteArray.empty] l j x HX.out] at hO2
          exact hO2
        · rcases hF2 b hb with h | h
          · exact hF b h
          · exact h.elim
      case measure => simp [intOf]; omega
    · obtain rfl : j = n := by omega
      clear hr
      go_wp2
      go_ret
      refine ⟨_, F, rfl, ?_, hb, hF⟩
      have := HN.out
      rw [← this] at hO ⊢
      simpa [strs] using hO

def strz (l : List ByteArray) : Nat := l.length + (l.map fun y => y.size).sum
set_option maxHeartbeats 800000 in
theorem laws_szStringS (l : List ByteArray) (A : Option Addr) (c : Nat) (left : Int) (W : World) (hr : Ro W (Lo W.heap.size) (strs l) (.slice A l.length c)) (hw : ∀ y ∈ l, y.size ≤ maxLen) (hlc : l.length ≤ c) (hm : c ≤ maxLen) (h0 : 0 ≤ left) (h1 : left ≤ 1048576) :
    Calls Tryd.prog 8 #[.slice A l.length c, .int .i64 left] W fun e w' => e = .returned (.int .i64 (szr left (strz l))) ∧ Below W.heap.size W w' := by
  have hlen : l.length ≤ 9223372036854775807 := by simp only [maxLen] at hm; omega
  have hz : strz l = l.length + (l.map fun y => y.size).sum := rfl
  generalize hn : l.length = n at *
  have HN := Lib.hid hn
  clear hn
  by_cases h : ((n : Nat) : Int) ≤ left
  · have HZ := Lib.hid hz
    clear hz
    go_enter Tryd.func8, Tryd.ntmps8
    go_wp2
    go_loopw [1, 5] (fun q i wr => ∃ j : Nat, j ≤ n ∧ i = .int .i64 j ∧ (∃ r : Int, q = .int .i64 r ∧ Hid (r = left - n - (((l.take j).map fun y => y.size).sum : Nat)) ∧ 0 ≤ r ∧ r ≤ 1048576) ∧ Below W.heap.size W wr) (fun _ i _ => n - (intOf i).toNat)
    case atStart => exact ⟨0, by omega, rfl, ⟨left - n, rfl, Lib.hid (by simp), by omega, by omega⟩, Below.refl _ _⟩
    case round =>
      obtain ⟨j, hj, rfl, ⟨r, rfl, HR, hr0, hr1⟩, hb⟩ := hrel
      by_cases hlt : j < n
      · obtain ⟨x, hx⟩ := get_lt (l := l) (k := j) (by rw [HN.out]; exact hlt)
        obtain ⟨b, off, rfl, hbl, c0⟩ := strs_at2 hr hb (Nat.le_refl _) hx
        have HX := Lib.hid hx
        have HWX := hw x (List.mem_of_getElem? hx)
        simp only [maxLen] at HWX
        clear hx
        have HT := Lib.hid (take_sum (fun y : ByteArray => y.size) HX.out)
        by_cases g : ((x.size : Nat) : Int) ≤ r
        · go_wp2
          go_roundw
          case rel => exact ⟨j + 1, by omega, by go_num, ⟨r - (x.size : Int), rfl, Lib.hid (by have h2 := HT.out; have h3 := HR.out; rw [h2, h3]; push_cast; omega), by omega, by omega⟩, hb⟩
          case measure => simp [intOf]; omega
        · have H := Lib.hid (szr_over (l := l) (fun y : ByteArray => y.size) HX.out HT.out HR.out g HZ.out)
          go_wp2
          go_ret
          exact ⟨by rw [H.out]; rfl, hb⟩
      · obtain rfl : j = n := by omega
        have H := Lib.hid (show szr left (strz l) = r from by have h3 := HR.out; rw [List.take_of_length_le (by have := HN.out; omega)] at h3; rw [szr_yes (by rw [HZ.out]; push_cast; omega), HZ.out, h3]; push_cast; omega)
        clear hr
        go_wp2
        go_ret
        exact ⟨by rw [H.out]; rfl, hb⟩
  · have H := Lib.hid (show szr left (strz l) = -1 from szr_no (by rw [hz]; push_cast; omega))
    clear hz hr
    go_enter Tryd.func8, Tryd.ntmps8
    go_wp2
    go_ret
    exact ⟨by rw [H.out]; rfl, Below.refl _ _⟩
set_option maxHeartbeats 400000 in
theorem laws_eqStringS (l m : List ByteArray) (A A' : Option Addr) (c c' : Nat) (w : World) (hr : Ro w (Lo w.heap.size) (strs l) (.slice A l.length c)) (hs : Ro w (Lo w.heap.size) (strs m) (.slice A' m.length c')) (hc : c ≤ maxLen) (hc' : c' ≤ maxLen) (hlc : l.length ≤ c) (hmc : m.length ≤ c') :
    Calls Tryd.prog 12 #[.slice A l.length c, .slice A' m.length c'] w fun e w' => e = .returned (.bool (decide (l = m))) ∧ Below w.heap.size w w' := by
  unfold maxLen at hc hc'
  by_cases hl : l.length = m.length
  · have HL := Lib.hid hl
    rw [← hl] at hs hmc ⊢
    clear hl
    generalize hn : l.length = n at *
    have HN := Lib.hid hn
    clear hn
    have hlen : n ≤ 9223372036854775807 := by omega
    go_enter Tryd.func12, Tryd.ntmps12
    go_wp2
    go_loopw [5] (fun i wr => ∃ j : Nat, j ≤ n ∧ i = .int .i64 j ∧ l.take j = m.take j ∧ Below w.heap.size w wr) (fun i _ => n - (intOf i).toNat)
    case atStart => exact ⟨0, by omega, rfl, by simp, Below.refl _ _⟩
    case round =>
      obtain ⟨j, hj, rfl, hq, hb⟩ := hrel
      have HQ := Lib.hid hq
      clear hq
      by_cases hlt : j < n
      · obtain ⟨x, hx⟩ := get_lt (l := l) (k := j) (by rw [HN.out]; exact hlt)
        obtain ⟨y, hy⟩ := get_lt (l := m) (k := j) (by rw [← HL.out]; exact hlt)
        obtain ⟨b, off, rfl, hbl, c0⟩ := strs_at2 hr hb (Nat.le_refl _) hx
        obtain ⟨b', off', rfl, hbl', c1⟩ := strs_at2 hs hb (Nat.le_refl _) hy
        have HX := Lib.hid hx
        have HY := Lib.hid hy
        clear hr hs hx hy
        by_cases hxy : x = y
        · have hB : (x.toList == y.toList) = true := by simp [hxy]
          have HT := Lib.hid (take_eq_succ HQ.out HX.out HY.out hxy)
          clear hxy
          go_wp2_with fail
          go_quiet (fail)
          go_wp2
          go_roundw
          case rel => exact ⟨j + 1, by omega, by go_num, HT.out, below_drewN hb _⟩
          case measure => simp [intOf]; omega
        · have hB : (x.toList == y.toList) = false := by simp [bytes_inj, hxy]
          have HT := Lib.hid (eq_no HX.out HY.out hxy)
          clear hxy
          go_wp2_with fail
          go_quiet (fail)
          go_wp2
          go_ret
          exact ⟨by rw [HT.out]; rfl, below_drewN hb _⟩
      · have HT := Lib.hid (take_all (l := l) (m := m) (j := j) (by have := HN.out; omega) (by have := HL.out; omega) HQ.out)
        clear hr hs
        go_wp2
        go_ret
        exact ⟨by rw [HT.out]; rfl, hb⟩
  · have HT := Lib.hid (len_no hl)
    have hB : ((l.length : Int) != (m.length : Int)) = true := by rw [bne_iff_ne]; omega
    have h1 : l.length ≤ 9223372036854775807 := by omega
    have h2 : m.length ≤ 9223372036854775807 := by omega
    clear hr hs
    go_enter Tryd.func12, Tryd.ntmps12
    go_wp2
    go_ret
    exact ⟨by rw [HT.out]; rfl, Below.refl _ _⟩

def markS (l : List ByteArray) (k : Int) : List ByteArray := (List.range l.length).map fun (j : Nat) => mtext (k + (j : Int))
theorem markS_len (l : List ByteArray) (k : Int) : (markS l k).length = l.length := by simp [markS]
theorem markS_get (l : List ByteArray) (k : Int) (j : Nat) (h : j < l.length) : (markS l k)[j]? = some (mtext (k + j)) := by simp [markS, h]
set_option maxHeartbeats 400000 in
theorem laws_markStringS (l : List ByteArray) (v : Value) (F : Nat → Prop) (k : Int) (W : World) (hO : Ow W (strs l) v F) (h0 : 0 ≤ k) (h1 : k + l.length ≤ 4611686018427387904) :
    Calls Tryd.prog 15 #[v, .int .i64 k] W (Marked W (strs (markS l k)) v F (k + l.length)) := by
  have hO' := hO
  rcases hO'.sl_inv with ⟨h, ⟨A, rfl⟩, hF⟩ | ⟨g, c, us, cs, F0, rfl, hg, hcs, hle, hcm, _, _, _, _, hFF⟩
  · have hl : l = [] := by simpa using h
    subst hl
    go_enter Tryd.func15, Tryd.ntmps15
    go_wp2
    refine wp_loop_rounds 1 ?_
    rw [rounds_succ]
    go_wp2
    go_ret
    exact ⟨by simp, Kp.refl _ _, F, hO, fun b h => h⟩
  · clear hO' hg hcs hle
    have hFg : F g := (hFF g).2 (.inl rfl)
    clear hFF
    rw [List.length_map] at hO
    rw [List.length_map]
    generalize hn : l.length = n at *
    have HN := Lib.hid hn
    clear hn
    have HM := Lib.hid (markS_len l k)
    go_enter Tryd.func15, Tryd.ntmps15
    go_wp2
    go_loopw [1, 5] (fun q i wr => ∃ j : Nat, j ≤ n ∧ i = .int .i64 j ∧ q = .int .i64 (k + j) ∧ (∃ F', Ow wr (strs ((markS l k).take j ++ l.drop j)) (.slice (some ⟨g, 0, none⟩) n c) F' ∧ ∀ b, F' b → F b) ∧ Kp F W wr) (fun _ i _ => n - (intOf i).toNat)
    case atStart => exact ⟨0, by omega, rfl, by simp, ⟨F, by simpa using hO, fun _ h => h⟩, Kp.refl _ _⟩
    case round =>
      obtain ⟨j, hj, rfl, rfl, ⟨F', hO, hF'⟩, hk⟩ := hrel
      by_cases hlt : j < n
      · have hkj : k + (j : Int) < 4611686018427387904 := by omega
        have hMK := laws_markText (k + (j : Int)) wr (by omega)
        go_wp2_with fail
        refine hMK.mono ?_
        rintro e w1 ⟨rfl, hb1⟩
        replace hO := hO.keep hb1
        replace hk : Kp F W w1 := hk.trans (Kp.of_below (F := F) hb1) (fun _ h => h) (fun _ _ h => h)
        go_wp2_with (change wpList _ _ _ (⟨none, _, _, _, _, _⟩ :: _) _ _; refine dt_store (by rfl) 9 _ _ (by rfl) hO j _ (by rw [Nat.mul_one]) (by have := HN.out; have := HM.out; simp; omega) (by rfl) (.string (mtext (k + j))) (by rfl) [.str (mtext (k + j))] (by kernel_rfl) (OwL.one (Ow.S _)) (by simp) (by rfl) (by decide) ?_; intro w2 F2 hO2 hk2 hz2 hF2 hg2)
        go_roundw
        case rel =>
          refine ⟨j + 1, by omega, by go_num, by congr 1; push_cast; omega, ⟨F2, ?_, fun b hb => ?_⟩, hk.trans hk2 (fun _ h => h) (fun b _ h => h ▸ hFg)⟩
          · have h : Ow w2 (strs (((markS l k).take j ++ l.drop j).set j (mtext (k + j)))) (.slice (some ⟨g, 0, none⟩) n c) F2 := by unfold strs; rw [List.map_set]; exact hO2
            rw [mix_set HM.out j _ (markS_get l k j (by rw [HN.out]; exact hlt))] at h
            exact h
          · rcases hF2 b hb with h | h
            · exact hF' b h
            · exact h.elim
        case measure => simp [intOf]; omega
      · obtain rfl : j = n := by omega
        go_wp2
        go_ret
        refine ⟨rfl, hk, F', ?_, hF'⟩
        rw [← HN.out] at hO ⊢
        rw [List.take_of_length_le (by have := HM.out; omega), List.drop_of_length_le (by omega), List.append_nil] at hO
        exact hO
set_option maxHeartbeats 400000 in
theorem laws_heldStringM (l : List ByteArray) (A : Option Addr) (c : Nat) (k : Int) (w : World) (hr : Ro w (Lo w.heap.size) (strs (markS l k)) (.slice A l.length c)) (hc : c ≤ maxLen) (hlc : l.length ≤ c) (h0 : 0 ≤ k) (h1 : k + l.length ≤ 4611686018427387904) :
    Calls Tryd.prog 16 #[.slice A l.length c, .int .i64 k] w fun e w' => e = .returned (.int .i64 (k + l.length)) ∧ Below w.heap.size w w' := by
  have hlen : l.length ≤ 9223372036854775807 := by simp only [maxLen] at hc; omega
  clear hc hlc
  have HG := fun j hj => Lib.hid (markS_get l k j hj)
  generalize markS l k = m at *
  generalize hn : l.length = n at *
  have HN := Lib.hid hn
  clear hn
  go_enter Tryd.func16, Tryd.ntmps16
  go_wp2
  go_loopw [1, 5] (fun q i wr => ∃ j : Nat, j ≤ n ∧ i = .int .i64 j ∧ q = .int .i64 (k + j) ∧ Below w.heap.size w wr) (fun _ i _ => n - (intOf i).toNat)
  case atStart => exact ⟨0, by omega, rfl, by simp, Below.refl _ _⟩
  case round =>
    obtain ⟨j, hj, rfl, rfl, hb⟩ := hrel
    by_cases hlt : j < n
    · have hkj : k + (j : Int) < 4611686018427387904 := by omega
      obtain ⟨b, off, rfl, hbl, c0⟩ := strs_at2 hr hb (Nat.le_refl _) (HG j hlt).out
      have hMK := fun (w : World) => laws_markText (k + (j : Int)) w (by omega)
      clear hr
      have hbr : b < wr.heap.size := Nat.lt_of_lt_of_le hbl hb.size
      have hB : ((mtext (k + j)).toList == (mtext (k + j)).toList) = true := by simp
      generalize mtext (k + (j : Int)) = x at *
      go_wp2
      go_region_held3 (fun w' => Below wr.heap.size wr w' ∧ w'.cell? ⟨b, off + j, none⟩ = some (.string x)) (first | exact ⟨below_drew1 _, c0⟩ | exact ⟨(below_drew1 _).trans hb1, (hb1.cell (p := ⟨b, _, none⟩) hbr).trans c0⟩ | go_keep) (first | (go_at_call 47; (with_reducible refine (hMK _).mono ?_); rintro e w1 ⟨rfl, hb1⟩))
      go_wp2
      go_roundw
      case rel => exact ⟨j + 1, by omega, by go_num, by congr 1; push_cast; omega, below_step hb ((below_drew1 _).trans hb1) hb.size⟩
      case measure => simp [intOf]; omega
    · obtain rfl : j = n := by omega
      clear hr
      go_wp2
      go_ret
      exact ⟨rfl, hb⟩
end Go.Proofs.YtahbgkabdongnaaDoor

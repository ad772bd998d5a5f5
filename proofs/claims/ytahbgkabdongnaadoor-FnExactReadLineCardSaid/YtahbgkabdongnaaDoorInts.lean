/- Walks of the laws' own functions on slices of integers: copies, equality, sizes, marks. -/
import Derived.Test.YtahbgkabdongnaaDoorArm
import Derived.Test.YtahbgkabdongnaaDoorProg
import Derived.Deep.LoopGhost
import Derived.Deep.QuietTactic
import Derived.BigQuiet
namespace Go.Proofs.YtahbgkabdongnaaDoor
open Go.ChangeShapes Go.WideShapes Go.ChangeAt Go.RowKit Go.Dt
set_option linter.unusedVariables false
set_option linter.unusedSimpArgs false

/-- An element of a slice that is read, its cells as they lie in a later world. -/
theorem Ro.later {w w2 : World} {B B' : Nat} {e : TypeId} {sz : Nat} {rows : List (List D)} {A : Option Addr} {n c k : Nat} {row : List D} (h : Ro w (Lo B) (.sl e sz rows) (.slice A n c)) (hb : Below B' w w2) (hB : B ≤ B') (hk : rows[k]? = some row) :
    ∃ (b off : Nat) (us : List Value), A = some ⟨b, off, none⟩ ∧ b < B ∧ us.length = sz ∧ RoL w (Lo B) row us ∧ ∀ j u, us[j]? = some u → w2.cell? ⟨b, off + k * sz + j, none⟩ = some u := by
  obtain ⟨b, off, us, rfl, hlt, hl, hr, hc⟩ := h.sl_at hk
  exact ⟨b, off, us, rfl, hlt, by rw [hr.1, hl], hr, fun j u hu => (hb.cell (Nat.lt_of_lt_of_le hlt hB)).trans (hc j u hu)⟩
theorem map_at {α : Type} {l : List α} {f : α → List D} {k : Nat} {x : α} (h : l[k]? = some x) : (l.map f)[k]? = some (f x) := by simp [h]
theorem get_lt {α : Type} {l : List α} {k : Nat} (h : k < l.length) : ∃ x, l[k]? = some x := ⟨_, List.getElem?_eq_getElem h⟩

/-- What a call that makes memory hands back: a value of its own. -/
def Made (W : World) (d : D) (e : Ending) (w' : World) : Prop := ∃ v F, e = .returned v ∧ Ow w' d v F ∧ Below W.heap.size W w' ∧ ∀ b, F b → W.heap.size ≤ b

def MadeL (W : World) (ds : List D) (e : Ending) (w' : World) : Prop := ∃ us F, e = .returned (.agg us.toArray) ∧ OwL w' ds us F ∧ Below W.heap.size W w' ∧ ∀ b, F b → W.heap.size ≤ b
theorem mem_sum {α : Type} (f : α → Nat) {l : List α} {x : α} (h : x ∈ l) : f x ≤ (l.map f).sum := by
  induction l with
  | nil => simp at h
  | cons y l ih =>
    rcases List.mem_cons.1 h with rfl | h
    · simp
    · have := ih h; simp; omega
/-- What a call that writes marks into what it is handed leaves: the same value, marked. -/
def MarkedL (W : World) (ds : List D) (us : List Value) (F : Nat → Prop) (k : Int) (e : Ending) (w' : World) : Prop := e = .returned (.int .i64 k) ∧ Kp F W w' ∧ ∃ F', OwL w' ds us F' ∧ ∀ b, F' b → F b

def Marked (W : World) (d : D) (v : Value) (F : Nat → Prop) (k : Int) (e : Ending) (w' : World) : Prop := e = .returned (.int .i64 k) ∧ Kp F W w' ∧ ∃ F', Ow w' d v F' ∧ ∀ b, F' b → F b

theorem take_eq_succ {α : Type} {l m : List α} {j : Nat} {x y : α} (h : l.take j = m.take j) (hx : l[j]? = some x) (hy : m[j]? = some y) (e : x = y) : l.take (j + 1) = m.take (j + 1) := by
  rw [List.take_add_one, List.take_add_one, h, hx, hy, e]
theorem eq_no {α : Type} [DecidableEq α] {l m : List α} {j : Nat} {x y : α} (hx : l[j]? = some x) (hy : m[j]? = some y) (e : ¬ x = y) : decide (l = m) = false := by
  rw [decide_eq_false_iff_not]
  rintro rfl
  rw [hx] at hy
  injection hy with hy
  exact e hy
theorem take_all {α : Type} [DecidableEq α] {l m : List α} {j : Nat} (hl : l.length ≤ j) (hm : m.length ≤ j) (h : l.take j = m.take j) : decide (l = m) = true := by
  rw [List.take_of_length_le hl, List.take_of_length_le hm] at h
  simp [h]
theorem len_no {α : Type} [DecidableEq α] {l m : List α} (h : ¬ l.length = m.length) : decide (l = m) = false := by
  rw [decide_eq_false_iff_not]
  rintro rfl
  exact h rfl

theorem take_sum {α : Type} (f : α → Nat) {l : List α} {j : Nat} {x : α} (h : l[j]? = some x) : ((l.take (j + 1)).map f).sum = ((l.take j).map f).sum + f x := by
  rw [List.take_add_one, h]; simp
theorem sum_le {α : Type} (f : α → Nat) (l : List α) (j : Nat) : ((l.take j).map f).sum ≤ (l.map f).sum := by
  conv => rhs; rw [← List.take_append_drop j l]
  rw [List.map_append, List.sum_append]
  omega
theorem list2 {α : Type} {us : List α} (h : us.length = 2) : ∃ u0 u1, us = [u0, u1] := by
  match us, h with
  | [u0, u1], _ => exact ⟨u0, u1, rfl⟩
theorem list3 {α : Type} {us : List α} (h : us.length = 3) : ∃ u0 u1 u2, us = [u0, u1, u2] := by
  match us, h with
  | [u0, u1, u2], _ => exact ⟨u0, u1, u2, rfl⟩
theorem list4 {α : Type} {us : List α} (h : us.length = 4) : ∃ u0 u1 u2 u3, us = [u0, u1, u2, u3] := by
  match us, h with
  | [u0, u1, u2, u3], _ => exact ⟨u0, u1, u2, u3, rfl⟩
theorem list5 {α : Type} {us : List α} (h : us.length = 5) : ∃ u0 u1 u2 u3 u4, us = [u0, u1, u2, u3, u4] := by
  match us, h with
  | [u0, u1, u2, u3, u4], _ => exact ⟨u0, u1, u2, u3, u4, rfl⟩
theorem list6 {α : Type} {us : List α} (h : us.length = 6) : ∃ u0 u1 u2 u3 u4 u5, us = [u0, u1, u2, u3, u4, u5] := by
  match us, h with
  | [u0, u1, u2, u3, u4, u5], _ => exact ⟨u0, u1, u2, u3, u4, u5, rfl⟩
theorem list8 {α : Type} {us : List α} (h : us.length = 8) : ∃ u0 u1 u2 u3 u4 u5 u6 u7, us = [u0, u1, u2, u3, u4, u5, u6, u7] := by
  match us, h with
  | [u0, u1, u2, u3, u4, u5, u6, u7], _ => exact ⟨u0, u1, u2, u3, u4, u5, u6, u7, rfl⟩

theorem bytes_inj {a b : ByteArray} : a.toList = b.toList ↔ a = b := by
  rw [ByteArray.toList_eq, ByteArray.toList_eq]
  exact ⟨fun h => ByteArray.ext (Array.toList_inj.1 h), fun h => by rw [h]⟩

/-! ### []int64 -/
def ints (l : List Int) : D := .sl 2 1 (l.map fun n => [.int .i64 n])
theorem inf_int64 : Inf Tryd.prog 2 (.int .i64 0) 1 8 := by unfold Inf; kernel_rfl
theorem ints_at {w w2 : World} {B B' : Nat} {l : List Int} {A : Option Addr} {n c k : Nat} {x : Int} (h : Ro w (Lo B) (ints l) (.slice A n c)) (hb : Below B' w w2) (hB : B ≤ B') (hk : l[k]? = some x) :
    ∃ (b off : Nat), A = some ⟨b, off, none⟩ ∧ b < B ∧ w2.cell? ⟨b, off + k, none⟩ = some (.int .i64 x) := by
  obtain ⟨b, off, us, rfl, hlt, hl, hr, hc⟩ := Ro.later h hb hB (map_at (f := fun n => [.int .i64 n]) hk)
  obtain ⟨u, us, rfl, h1, h2⟩ := hr.uncons
  obtain rfl := h1.int_inv
  have := hc 0 _ rfl
  simp only [Nat.mul_one, Nat.add_zero] at this
  exact ⟨b, off, rfl, hlt, this⟩
theorem build_set {α β : Type} (f : α → β) (z : β) (l : List α) (j : Nat) (x : α) (h : l[j]? = some x) : ((l.take j).map f ++ List.replicate (l.length - j) z).set j (f x) = (l.take (j + 1)).map f ++ List.replicate (l.length - (j + 1)) z := by
  obtain ⟨hj, rfl⟩ := List.getElem?_eq_some_iff.1 h
  have h1 : ((l.take j).map f).length = j := by simp; omega
  rw [List.set_append_right _ _ (by omega), h1, Nat.sub_self]
  rw [show l.length - j = (l.length - (j + 1)) + 1 from by omega, List.replicate_succ, List.set_cons_zero]
  rw [List.take_succ_eq_append_getElem hj, List.map_append, List.append_assoc]
  rfl
theorem build_len {α β : Type} (f : α → β) (z : β) (l : List α) (j : Nat) (h : j ≤ l.length) : ((l.take j).map f ++ List.replicate (l.length - j) z).length = l.length := by simp; omega

set_option maxHeartbeats 400000 in
theorem laws_toInt64S (l : List Int) (A : Option Addr) (c : Nat) (W : World) (hr : Ro W (Lo W.heap.size) (ints l) (.slice A l.length c)) (hl : l.length ≤ 1048576) :
    Calls Tryd.prog 51 #[.slice A l.length c] W (Made W (ints l)) := by
  have hlen : l.length ≤ 9223372036854775807 := by omega
  generalize hn : l.length = n at *
  have HN := Lib.hid hn
  clear hn
  go_enter Tryd.func51, Tryd.ntmps51
  go_wp2_with (at_make; refine dt_make rfl _ _ _ 2 rfl Tryd.underlying32 (.int .i64 0) 8 [.int .i64 0] inf_int64 rfl (by decide) (fun w => OwL.one (.int .i64 0 _ (by simp))) n rfl rfl (by omega) (by omega) ?_; intro w1 hO hb hz)
  go_loopw [4] (fun i wr => ∃ j : Nat, j ≤ n ∧ i = .int .i64 j ∧ (∃ F, Ow wr (.sl 2 1 ((l.take j).map (fun n => [.int .i64 n]) ++ List.replicate (n - j) [.int .i64 0])) (.slice (some ⟨W.heap.size, 0, none⟩) n n) F ∧ ∀ b, F b → W.heap.size ≤ b) ∧ Below W.heap.size W wr) (fun i _ => n - (intOf i).toNat)
  case atStart => exact ⟨0, by omega, rfl, ⟨_, by simpa using hO, by omega⟩, hb⟩
  case round =>
    obtain ⟨j, hj, rfl, ⟨F, hO, hF⟩, hb⟩ := hrel
    by_cases hlt : j < n
    · obtain ⟨x, hx⟩ := get_lt (l := l) (k := j) (by rw [HN.out]; exact hlt)
      obtain ⟨b, off, rfl, hbl, c0⟩ := ints_at hr hb (Nat.le_refl _) hx
      have HX := Lib.hid hx
      clear hr hx
      go_wp2_with (change wpList _ _ _ (⟨none, _, _, _, _, _⟩ :: _) _ _; refine dt_store (by rfl) 2 _ _ (by rfl) hO j _ (by rw [Nat.mul_one]) (by have := HN.out; simp; omega) (by rfl) (.int .i64 x) (by rfl) [.int .i64 x] (by kernel_rfl) (OwL.one (.int .i64 x (fun _ => False) (by simp))) (by simp) (by rfl) (by decide) ?_; intro w2 F2 hO2 hk2 hz2 hF2 hg2)
      go_roundw
      case rel =>
        refine ⟨j + 1, by omega, by go_num, ⟨F2, ?_, fun b hb => ?_⟩, hb.trans (hk2.below hb.size (by omega))⟩
        · rw [← HN.out] at hO2 ⊢
          rw [build_set (fun n => [D.int .i64 n]) [.int .i64 0] l j x HX.out] at hO2
          exact hO2
        · rcases hF2 b hb with h | h
          · exact hF b h
          · exact h.elim
      case measure => simp [intOf]; omega
    · obtain rfl : j = n := by omega
      clear hr
      go_wp2
      go_ret
      refine ⟨_, F, rfl, ?_, hb, hF⟩
      have := HN.out
      rw [← this] at hO ⊢
      simpa [ints] using hO

/-- What is left of a bound on sizes. -/
def szr (left : Int) (n : Nat) : Int := if (n : Int) ≤ left then left - n else -1
theorem szr_yes {left : Int} {n : Nat} (h : (n : Int) ≤ left) : szr left n = left - n := if_pos h
theorem szr_no {left : Int} {n : Nat} (h : ¬ (n : Int) ≤ left) : szr left n = -1 := if_neg h
theorem szr_over {α : Type} {l : List α} {n : Nat} {left r : Int} {j zs : Nat} {x : α} (f : α → Nat) (hx : l[j]? = some x) (ht : ((l.take (j + 1)).map f).sum = ((l.take j).map f).sum + f x) (hr : r = left - n - (((l.take j).map f).sum : Nat)) (g : ¬ ((f x : Nat) : Int) ≤ r) (hz : zs = n + (l.map f).sum) : szr left zs = -1 := by
  have := sum_le f l (j + 1)
  exact szr_no (by rw [hz]; push_cast; omega)
theorem laws_szInt64S (A : Option Addr) (n c : Nat) (left : Int) (w : World) (hn : n ≤ 9223372036854775807) (h0 : 0 ≤ left) (h1 : left ≤ 1048576) :
    Calls Tryd.prog 48 #[.slice A n c, .int .i64 left] w fun e w' => e = .returned (.int .i64 (szr left n)) ∧ w = w' := by
  by_cases h : (n : Int) ≤ left
  · have H := Lib.hid (szr_yes h)
    go_enter Tryd.func48, Tryd.ntmps48
    go_wp2
    go_ret
    exact ⟨by rw [H.out]; rfl, rfl⟩
  · have H := Lib.hid (szr_no h)
    go_enter Tryd.func48, Tryd.ntmps48
    go_wp2
    go_ret
    exact ⟨by rw [H.out]; rfl, rfl⟩

set_option maxHeartbeats 400000 in
theorem laws_eqInt64S (l m : List Int) (A A' : Option Addr) (c c' : Nat) (w : World) (hr : Ro w (Lo w.heap.size) (ints l) (.slice A l.length c)) (hs : Ro w (Lo w.heap.size) (ints m) (.slice A' m.length c')) (hc : c ≤ maxLen) (hc' : c' ≤ maxLen) (hlc : l.length ≤ c) (hmc : m.length ≤ c') :
    Calls Tryd.prog 54 #[.slice A l.length c, .slice A' m.length c'] w fun e w' => e = .returned (.bool (decide (l = m))) ∧ Below w.heap.size w w' := by
  unfold maxLen at hc hc'
  by_cases hl : l.length = m.length
  · have HL := Lib.hid hl
    rw [← hl] at hs hmc ⊢
    clear hl
    generalize hn : l.length = n at *
    have HN := Lib.hid hn
    clear hn
    have hlen : n ≤ 9223372036854775807 := by omega
    go_enter Tryd.func54, Tryd.ntmps54
    go_wp2
    go_loopw [5] (fun i wr => ∃ j : Nat, j ≤ n ∧ i = .int .i64 j ∧ l.take j = m.take j ∧ Below w.heap.size w wr) (fun i _ => n - (intOf i).toNat)
    case atStart => exact ⟨0, by omega, rfl, by simp, Below.refl _ _⟩
    case round =>
      obtain ⟨j, hj, rfl, hq, hb⟩ := hrel
      have HQ := Lib.hid hq
      clear hq
      by_cases hlt : j < n
      · obtain ⟨x, hx⟩ := get_lt (l := l) (k := j) (by rw [HN.out]; exact hlt)
        obtain ⟨y, hy⟩ := get_lt (l := m) (k := j) (by rw [← HL.out]; exact hlt)
        obtain ⟨b, off, rfl, hbl, c0⟩ := ints_at hr hb (Nat.le_refl _) hx
        obtain ⟨b', off', rfl, hbl', c1⟩ := ints_at hs hb (Nat.le_refl _) hy
        have HX := Lib.hid hx
        have HY := Lib.hid hy
        clear hr hs hx hy
        by_cases hxy : x = y
        · have hB : (x != y) = false := by simp [hxy]
          have HT := Lib.hid (take_eq_succ HQ.out HX.out HY.out hxy)
          clear hxy
          go_wp2_with fail
          go_quiet (fail)
          go_wp2
          go_roundw
          case rel => exact ⟨j + 1, by omega, by go_num, HT.out, below_drewN hb _⟩
          case measure => simp [intOf]; omega
        · have hB : (x != y) = true := by simp [hxy]
          have HT := Lib.hid (eq_no HX.out HY.out hxy)
          clear hxy
          go_wp2_with fail
          go_quiet (fail)
          go_wp2
          go_ret
          exact ⟨by rw [HT.out]; rfl, below_drewN hb _⟩
      · have HT := Lib.hid (take_all (l := l) (m := m) (j := j) (by have := HN.out; omega) (by have := HL.out; omega) HQ.out)
        clear hr hs
        go_wp2
        go_ret
        exact ⟨by rw [HT.out]; rfl, hb⟩
  · have HT := Lib.hid (len_no hl)
    have hB : ((l.length : Int) != (m.length : Int)) = true := by rw [bne_iff_ne]; omega
    have h1 : l.length ≤ 9223372036854775807 := by omega
    have h2 : m.length ≤ 9223372036854775807 := by omega
    clear hr hs
    go_enter Tryd.func54, Tryd.ntmps54
    go_wp2
    go_ret
    exact ⟨by rw [HT.out]; rfl, Below.refl _ _⟩

def markI (l : List Int) (k : Int) : List Int := (List.range l.length).map fun (j : Nat) => k + (j : Int)
theorem markI_len (l : List Int) (k : Int) : (markI l k).length = l.length := by simp [markI]
theorem markI_get (l : List Int) (k : Int) (j : Nat) (h : j < l.length) : (markI l k)[j]? = some (k + j) := by simp [markI, h]
theorem markI_nil (k : Int) : markI [] k = [] := rfl
theorem markI_markI (l : List Int) (k : Int) : markI (markI l k) k = markI l k := by simp [markI]
theorem cast_own {w : World} {e : TypeId} {sz : Nat} {rows rows' : List (List D)} {v : Value} {F : Nat → Prop} (h : rows = rows') (ho : Ow w (.sl e sz rows) v F) : Ow w (.sl e sz rows') v F := h ▸ ho
theorem mix_set {α : Type} {xs ys : List α} (h : ys.length = xs.length) (j : Nat) (x : α) (hy : ys[j]? = some x) : (ys.take j ++ xs.drop j).set j x = ys.take (j + 1) ++ xs.drop (j + 1) := by
  obtain ⟨hj, rfl⟩ := List.getElem?_eq_some_iff.1 hy
  have h1 : (ys.take j).length = j := by simp; omega
  rw [List.set_append_right _ _ (by omega), h1, Nat.sub_self]
  rw [List.drop_eq_getElem_cons (show j < xs.length by omega), List.set_cons_zero, List.take_succ_eq_append_getElem hj, List.append_assoc]
  rfl
theorem mix_len {α : Type} {xs ys : List α} (h : ys.length = xs.length) (j : Nat) (hj : j ≤ xs.length) : (ys.take j ++ xs.drop j).length = xs.length := by simp; omega
set_option maxHeartbeats 400000 in
theorem laws_markInt64S (l : List Int) (v : Value) (F : Nat → Prop) (k : Int) (W : World) (hO : Ow W (ints l) v F) (h0 : 0 ≤ k) (h1 : k + l.length ≤ 4611686018427387904) :
    Calls Tryd.prog 57 #[v, .int .i64 k] W (Marked W (ints (markI l k)) v F (k + l.length)) := by
  have hO' := hO
  rcases hO'.sl_inv with ⟨h, ⟨A, rfl⟩, hF⟩ | ⟨g, c, us, cs, F0, rfl, hg, hcs, hle, hcm, _, _, _, _, hFF⟩
  · have hl : l = [] := by simpa using h
    subst hl
    go_enter Tryd.func57, Tryd.ntmps57
    go_wp2
    refine wp_loop_rounds 1 ?_
    rw [rounds_succ]
    go_wp2
    go_ret
    exact ⟨by simp, Kp.refl _ _, F, hO, fun b h => h⟩
  · clear hO' hg hcs hle
    have hFg : F g := (hFF g).2 (.inl rfl)
    clear hFF
    rw [List.length_map] at hO
    rw [List.length_map]
    generalize hn : l.length = n at *
    have HN := Lib.hid hn
    clear hn
    have HM := Lib.hid (markI_len l k)
    go_enter Tryd.func57, Tryd.ntmps57
    go_wp2
    go_loopw [1, 5] (fun q i wr => ∃ j : Nat, j ≤ n ∧ i = .int .i64 j ∧ q = .int .i64 (k + j) ∧ (∃ F', Ow wr (ints ((markI l k).take j ++ l.drop j)) (.slice (some ⟨g, 0, none⟩) n c) F' ∧ ∀ b, F' b → F b) ∧ Kp F W wr) (fun _ i _ => n - (intOf i).toNat)
    case atStart => exact ⟨0, by omega, rfl, by simp, ⟨F, by simpa using hO, fun _ h => h⟩, Kp.refl _ _⟩
    case round =>
      obtain ⟨j, hj, rfl, rfl, ⟨F', hO, hF'⟩, hk⟩ := hrel
      by_cases hlt : j < n
      · have hkj : k + (j : Int) < 4611686018427387904 := by omega
        go_wp2_with (change wpList _ _ _ (⟨none, _, _, _, _, _⟩ :: _) _ _; refine dt_store (by rfl) 2 _ _ (by rfl) hO j _ (by rw [Nat.mul_one]) (by have := HN.out; have := HM.out; simp; omega) (by rfl) (.int .i64 (k + j)) (by rfl) [.int .i64 (k + j)] (by kernel_rfl) (OwL.one (.int .i64 (k + j) (fun _ => False) (by simp))) (by simp) (by rfl) (by decide) ?_; intro w2 F2 hO2 hk2 hz2 hF2 hg2)
        go_roundw
        case rel =>
          refine ⟨j + 1, by omega, by go_num, by congr 1; push_cast; omega, ⟨F2, ?_, fun b hb => ?_⟩, hk.trans hk2 (fun _ h => h) (fun b _ h => h ▸ hFg)⟩
          · have h : Ow w2 (ints (((markI l k).take j ++ l.drop j).set j (k + j))) (.slice (some ⟨g, 0, none⟩) n c) F2 := by unfold ints; rw [List.map_set]; exact hO2
            rw [mix_set HM.out j _ (markI_get l k j (by rw [HN.out]; exact hlt))] at h
            exact h
          · rcases hF2 b hb with h | h
            · exact hF' b h
            · exact h.elim
        case measure => simp [intOf]; omega
      · obtain rfl : j = n := by omega
        go_wp2
        go_ret
        refine ⟨rfl, hk, F', ?_, hF'⟩
        rw [← HN.out] at hO ⊢
        rw [List.take_of_length_le (by have := HM.out; omega), List.drop_of_length_le (by omega), List.append_nil] at hO
        exact hO
def heldI (l : List Int) (k : Int) : Int := if l = markI l k then k + l.length else -1
set_option maxHeartbeats 400000 in
theorem laws_heldInt64S (l : List Int) (A : Option Addr) (c : Nat) (k : Int) (w : World) (hr : Ro w (Lo w.heap.size) (ints l) (.slice A l.length c)) (hc : c ≤ maxLen) (hlc : l.length ≤ c) (h0 : 0 ≤ k) (h1 : k + l.length ≤ 4611686018427387904) :
    Calls Tryd.prog 58 #[.slice A l.length c, .int .i64 k] w fun e w' => e = .returned (.int .i64 (heldI l k)) ∧ Below w.heap.size w w' := by
  have hlen : l.length ≤ 9223372036854775807 := by simp only [maxLen] at hc; omega
  clear hc hlc
  generalize hn : l.length = n at *
  have HN := Lib.hid hn
  clear hn
  have HM := Lib.hid (markI_len l k)
  go_enter Tryd.func58, Tryd.ntmps58
  go_wp2
  go_loopw [1, 5] (fun q i wr => ∃ j : Nat, j ≤ n ∧ i = .int .i64 j ∧ q = .int .i64 (k + j) ∧ l.take j = (markI l k).take j ∧ Below w.heap.size w wr) (fun _ i _ => n - (intOf i).toNat)
  case atStart => exact ⟨0, by omega, rfl, by simp, by simp, Below.refl _ _⟩
  case round =>
    obtain ⟨j, hj, rfl, rfl, hq, hb⟩ := hrel
    have HQ := Lib.hid hq
    clear hq
    by_cases hlt : j < n
    · have hkj : k + (j : Int) < 4611686018427387904 := by omega
      obtain ⟨x, hx⟩ := get_lt (l := l) (k := j) (by rw [HN.out]; exact hlt)
      have HY := Lib.hid (markI_get l k j (by rw [HN.out]; exact hlt))
      obtain ⟨b, off, rfl, hbl, c0⟩ := ints_at hr hb (Nat.le_refl _) hx
      have HX := Lib.hid hx
      clear hr hx
      by_cases hxy : x = k + j
      · have hB : (x != k + j) = false := by simp [hxy]
        have HT := Lib.hid (take_eq_succ HQ.out HX.out HY.out hxy)
        clear hxy
        go_wp2
        go_roundw
        case rel => exact ⟨j + 1, by omega, by go_num, by congr 1; push_cast; omega, HT.out, hb⟩
        case measure => simp [intOf]; omega
      · have hB : (x != k + j) = true := by simp [hxy]
        have HT := Lib.hid (of_decide_eq_false (eq_no HX.out HY.out hxy))
        clear hxy
        go_wp2
        go_ret
        exact ⟨by rw [heldI, if_neg HT.out]; rfl, hb⟩
    · have HT := Lib.hid (of_decide_eq_true (take_all (l := l) (m := markI l k) (j := j) (by have := HN.out; omega) (by have := HM.out; have := HN.out; omega) HQ.out))
      obtain rfl : j = n := by omega
      clear hr
      go_wp2
      go_ret
      exact ⟨by rw [heldI, if_pos HT.out, HN.out]; rfl, hb⟩
theorem laws_heldInt64M (l : List Int) (A : Option Addr) (c : Nat) (k : Int) (w : World) (hr : Ro w (Lo w.heap.size) (ints (markI l k)) (.slice A l.length c)) (hc : c ≤ maxLen) (hlc : l.length ≤ c) (h0 : 0 ≤ k) (h1 : k + l.length ≤ 4611686018427387904) :
    Calls Tryd.prog 58 #[.slice A l.length c, .int .i64 k] w fun e w' => e = .returned (.int .i64 (k + l.length)) ∧ Below w.heap.size w w' := by
  have := laws_heldInt64S (markI l k) A c k w (by rw [markI_len]; exact hr) hc (by rw [markI_len]; exact hlc) h0 (by rw [markI_len]; exact h1)
  rw [markI_len] at this
  refine this.mono ?_
  rintro e w' ⟨rfl, hb⟩
  exact ⟨by rw [heldI, if_pos (markI_markI l k).symm, markI_len], hb⟩
end Go.Proofs.YtahbgkabdongnaaDoor

/- Numbers in decimal: the program's and the reference's numerals. -/
import Derived.Test.YtahbgkabdongnaaDoorShelf
import Derived.Test.YtahbgkabdongnaaDoorArm
import Derived.Lib.ItoaLen
import Derived.Lib.AppendIntMem
import Derived.Laws.IdiomStrings
import Derived.Deep.LoopGhost
import Derived.OpenShut
namespace Go.Proofs.YtahbgkabdongnaaDoor
open Go.ChangeShapes Go.WideShapes Go.ChangeAt Go.RowKit Go.Dt
set_option linter.unusedVariables false
set_option linter.unusedSimpArgs false
/-- The numeral of a number. -/
def dec (n : Int) : ByteArray := ⟨(Lib.itoa n).toArray⟩
theorem dec_size (n : Int) (h0 : -9223372036854775808 ≤ n) (h1 : n ≤ 9223372036854775807) : (dec n).size ≤ 21 := by
  have := Lib.itoa_length_le n h0 h1
  show (Lib.itoa n).toArray.size ≤ 21
  simpa using this
/-- What an int64 holds. -/
def I64 (n : Int) : Prop := -9223372036854775808 ≤ n ∧ n ≤ 9223372036854775807
theorem i64_wf {n : Int} (h : (Lit.int .i64 n).wf = true) : I64 n := bounds_i64 h
/-- The table that the library's numerals are made of. -/
abbrev Pow10 (w : World) : Prop := Lib.TabIs Tryd.prog w "internal/strconv.uint64pow10" .u64 Lib.pow10Tab
theorem Pow10.on {w w' : World} (h : Pow10 w) (hb : Below w.heap.size w w') : Pow10 w' := Lib.tabBelow_of_tabIs h w' hb
set_option maxRecDepth 100000 in
theorem impl_Decimal (n : Int) (h0 : -9223372036854775808 ≤ n) (h1 : n ≤ 9223372036854775807) (W : World) (ht : Pow10 W) :
    Calls Tryd.prog 40 #[.int .i64 n] W fun e w' => e = .returned (.string (dec n)) ∧ Below W.heap.size W w' := by
  have HC := Tryd.strconv_FormatInt_10 n h0 h1 W ht
  go_enter Tryd.func40, Tryd.ntmps40
  go_wp2_with fail
  refine HC.mono ?_
  rintro e w1 ⟨rfl, k, os, rfl⟩
  have hb := Lib.below_grow W.heap.size W (Nat.le_refl _) k os
  generalize Go.Sort.grow (W.drewN k) os = w2 at *
  go_wp2
  go_ret
  exact ⟨rfl, hb⟩
/-- Bytes as data, as values. -/
def byD (l : List UInt8) : List (List D) := l.map fun b => [.int .u8 (b.toNat : Int)]
def byV (l : List UInt8) : List Value := l.map fun b => .int .u8 (b.toNat : Int)
theorem byD_len (l : List UInt8) : (byD l).length = l.length := by simp [byD]
theorem byD_rows (l : List UInt8) : ∀ row ∈ byD l, row.length = 1 := by
  intro row h
  obtain ⟨b, _, rfl⟩ := List.mem_map.1 h
  rfl
theorem byV_own (w : World) (l : List UInt8) : OwL w (byD l).flatten (byV l) (fun _ => False) := by
  induction l with
  | nil => exact OwL.nil
  | cons b l ih => exact OwL.consP (Ow.I _ _) ih
theorem bytes_cells {w : World} {Pb : Nat → Prop} {e : TypeId} {l : List UInt8} {g n c : Nat} (h : Ro w Pb (.sl e 1 (byD l)) (.slice (some ⟨g, 0, none⟩) n c)) (j : Nat) (hj : j < l.length) : w.cell? ((⟨g, 0, none⟩ : Addr).add j) = some (.int .u8 (l[j].toNat : Int)) := by
  have hk : (byD l)[j]? = some [.int .u8 (l[j].toNat : Int)] := by simp [byD, hj]
  obtain ⟨b, off, us, hA, _, _, hru, hcl⟩ := h.sl_at hk
  injection hA with hA
  injection hA with e1 e2
  subst e1; subst e2
  obtain ⟨u, us', rfl, h0, h1⟩ := hru.uncons
  obtain rfl := h0.int_inv
  have := hcl 0 _ rfl
  rw [add_lit]
  simpa using this
theorem bytes_news {w : World} {Pb : Nat → Prop} {e : TypeId} {l : List UInt8} {g n c : Nat} (h : Ro w Pb (.sl e 1 (byD l)) (.slice (some ⟨g, 0, none⟩) n c)) (j : Nat) (u : Value) (hu : (byV l)[j]? = some u) : w.cell? ((⟨g, 0, none⟩ : Addr).add j) = some u := by
  have hj : j < l.length := by have := (List.getElem?_eq_some_iff.1 hu).1; simpa [byV] using this
  rw [bytes_cells h j hj]
  simp [byV, hj] at hu
  rw [hu]
theorem bytes_one {w : World} {g : Nat} {b : UInt8} (h : w.heap[g]? = some (.cells #[.int .u8 (b.toNat : Int)] 5 (0, 0))) : Ow w (.sl 5 1 (byD [b])) (.slice (some ⟨g, 0, none⟩) 1 1) (fun x => x = g ∨ False) :=
  Ow.of_block (rows := byD [b]) (c := 1) (F := fun _ => False) h rfl (by simp [byD]) (by simp [maxLen]) (byD_rows [b]) rfl (byV_own w [b]) (by simp)
theorem bytes_shape {w : World} {e : TypeId} {l : List UInt8} {v : Value} {F : Nat → Prop} {k : Nat} (h : Ow w (.sl e 1 (byD l)) v F) (hl : l.length = k + 1) : ∃ g c, v = .slice (some ⟨g, 0, none⟩) (k + 1) c := by
  rcases h.sl_inv with ⟨h, _⟩ | ⟨g, c, _, _, _, hv, _⟩
  · have := congrArg List.length h
    rw [byD_len, List.length_nil] at this
    omega
  · exact ⟨g, c, by rw [hv, byD_len, hl]⟩
theorem byD_append (a b : List UInt8) : byD (a ++ b) = byD a ++ byD b := by simp [byD]
theorem inf_uint8 : Inf Tryd.prog 5 (.int .u8 0) 1 1 := by unfold Inf; kernel_rfl
/-- How far the digits of m are laid: r is left, l stands. -/
def Dgs (m r : Nat) (l : List UInt8) : Prop := (l = [] ∧ r = m) ∨ (l ≠ [] ∧ ((r = 0 ∧ l = Lib.decDigits m) ∨ (r ≠ 0 ∧ Lib.decDigits r ++ l = Lib.decDigits m)))
theorem Dgs.step {m r : Nat} {l : List UInt8} (h : Dgs m r l) (hr : l = [] ∨ r ≠ 0) : Dgs m (r / 10) (UInt8.ofNat (48 + r % 10) :: l) := by
  have key : Lib.decDigits r ++ l = Lib.decDigits m := by
    rcases h with ⟨rfl, rfl⟩ | ⟨h1, ⟨h2, h3⟩ | ⟨h2, h3⟩⟩
    · simp
    · rcases hr with hr | hr
      · exact absurd hr h1
      · exact absurd h2 hr
    · exact h3
  refine .inr ⟨by simp, ?_⟩
  by_cases h10 : r < 10
  · refine .inl ⟨by omega, ?_⟩
    rw [← key, Lib.decDigits, dif_pos h10, Nat.mod_eq_of_lt h10]
    rfl
  · refine .inr ⟨by omega, ?_⟩
    rw [← key]
    conv => rhs; rw [Lib.decDigits, dif_neg h10]
    simp
theorem Dgs.done {m : Nat} {l : List UInt8} (h : Dgs m 0 l) (hl : l ≠ []) : l = Lib.decDigits m := by
  rcases h with ⟨rfl, _⟩ | ⟨_, ⟨_, h3⟩ | ⟨h2, _⟩⟩
  · exact absurd rfl hl
  · exact h3
  · exact absurd rfl h2
theorem dgs_len {m r : Nat} {l : List UInt8} (h : Dgs m r l) : l.length ≤ (Lib.decDigits m).length := by
  rcases h with ⟨rfl, _⟩ | ⟨_, ⟨_, rfl⟩ | ⟨_, h3⟩⟩
  · simp
  · exact Nat.le_refl _
  · rw [← h3, List.length_append]; omega
theorem digit_u8 (r : Nat) : (((UInt8.ofNat (48 + r % 10)).toNat : Nat) : Int) = 48 + ((r % 10 : Nat) : Int) := by
  have : r % 10 < 10 := Nat.mod_lt _ (by decide)
  simp [UInt8.toNat_ofNat]; omega
def lenZ : Value → Nat
  | .slice _ 0 _ => 1
  | _ => 0
set_option maxHeartbeats 1600000 in
set_option maxRecDepth 100000 in
theorem spec_l01Dec_nonneg (m : Nat) (h1 : m ≤ 9223372036854775807) (W : World) :
    Calls Tryd.prog 44 #[.int .i64 (m : Int)] W fun e w' => e = .returned (.string (dec (m : Int))) ∧ Below W.heap.size W w' := by
  have hm0 : ¬ ((m : Int) < 0) := by omega
  go_enter Tryd.func44, Tryd.ntmps44
  go_wp2
  go_loopw [3, 4] (fun o r4 wr => ∃ (l : List UInt8) (r k g c : Nat) (F : Nat → Prop), Hid (l.length = k ∧ Dgs m r l) ∧ o = .slice (some ⟨g, 0, none⟩) k c ∧ r4 = .int .i64 (r : Int) ∧ Ow wr (.sl 5 1 (byD l)) (.slice (some ⟨g, 0, none⟩) k c) F ∧ (∀ b, F b → W.heap.size ≤ b) ∧ Below W.heap.size W wr ∧ r ≤ m) (fun o r4 _ => (intOf r4).natAbs + lenZ o)
  case atStart => exact ⟨[], m, 0, _, _, fun _ => False, Lib.hid ⟨rfl, .inl ⟨rfl, rfl⟩⟩, rfl, rfl, .emp _ _ _ _ (by simp), fun b h => h.elim, (Below.refl _ _).alloc (Nat.le_refl _) _, Nat.le_refl _⟩
  case round =>
    obtain ⟨l, r, k, g, c, F, HL, rfl, rfl, hO, hF, hb, hrm⟩ := hrel
    have hdg : ((UInt8.ofNat (48 + r % 10)).toNat : Int) = 48 + (r : Int) % 10 := by rw [digit_u8]; omega
    rcases Nat.eq_zero_or_pos k with h0 | h0
    · have g0 : ((k : Int) == 0) = true := by simp [h0]
      subst h0
      go_wp2
      go_roundw
      case rel =>
        have hone := bytes_one (w := wr.alloc (.cells #[.int .u8 ((UInt8.ofNat (48 + r % 10)).toNat : Int)] 5)) (g := wr.heap.size) (heap_alloc_new wr _)
        rw [hdg] at hone
        have hl0 : l = [] := List.eq_nil_of_length_eq_zero HL.out.1
        refine ⟨[UInt8.ofNat (48 + r % 10)], r / 10, 1, wr.heap.size, 1, _, Lib.hid ⟨rfl, ?_⟩, rfl, by go_num, hone, fun b h => ?_, hb.alloc hb.size _, by omega⟩
        · have := HL.out.2.step (.inl hl0)
          rwa [hl0] at this
        · rcases h with rfl | h
          · exact hb.size
          · exact h.elim
      case measure => simp [intOf, lenZ]; omega
    · have g0 : ((k : Int) == 0) = false := by simp; omega
      have hk20 : k ≤ 20 := by
        have a := dgs_len HL.out.2
        rw [Lib.decDigits_length, HL.out.1] at a
        have := Lib.nDigits_le20 m (by omega)
        omega
      by_cases hr0 : r = 0
      · subst hr0
        have hcv := run_convert_bytes_back (P := Tryd.prog) wr 62 9 5 ⟨g, 0, none⟩ c l Tryd.underlying62 Tryd.underlying5 Tryd.underlying9 (fun j hj => bytes_cells hO.ro j hj)
        rw [HL.out.1] at hcv
        have HE := Lib.hid (HL.out.2.done (by intro e; rw [e] at HL; have := HL.out.1; simp at this; omega))
        clear hrm hdg
        go_wp2
        go_ret
        exact ⟨by rw [HE.out]; unfold dec; rw [Lib.itoa_nonneg]; rfl, hb⟩
      · have g1 : ((r : Int) != 0) = true := by simp; omega
        have g2 : ((r : Int) == 0) = false := by simp; omega
        have HONE := Lib.hid (show Ow (wr.alloc (.cells #[.int .u8 (48 + (r : Int) % 10)] 5)) (.sl 5 1 (byD [UInt8.ofNat (48 + r % 10)])) (.slice (some ⟨wr.heap.size, 0, none⟩) 1 1) (fun x => x = wr.heap.size ∨ False) from by
          have := bytes_one (w := wr.alloc (.cells #[.int .u8 ((UInt8.ofNat (48 + r % 10)).toNat : Int)] 5)) (g := wr.heap.size) (heap_alloc_new wr _)
          rwa [hdg] at this)
        clear hdg
        go_wp2_with (at_builtin; refine dt_append rfl _ _ 62 5 rfl Tryd.underlying62 (.int .u8 0) 1 1 inf_uint8 rfl (by decide) (by decide) (by rfl) HONE.out ⟨g, 0, none⟩ k c (by rfl) (byV l) (byD l) (fun _ => False) (by rw [byD_len]; exact HL.out.1) (byD_rows l) (fun j u hu => bytes_news (hO.alloc _).ro j u hu) (byV_own _ l) (by simp) (oneCells_of (byV_own wr l).ro) (by rw [byD_len]; simp; omega) ?_; intro v2 w2 F2 hO2 hk2 hF2; (have hsz2 := hk2.size))
        rw [← byD_append] at hO2
        obtain ⟨g2, c2, rfl⟩ := bytes_shape (k := k) hO2 (by rw [List.length_append, HL.out.1]; simp; omega)
        have hb2 : Below W.heap.size W w2 := (hb.alloc hb.size _).trans (hk2.below (by have := hb.size; simp; omega) (fun b h => by rcases h with rfl | h <;> first | exact hb.size | exact h.elim))
        go_roundw
        case rel =>
          refine ⟨UInt8.ofNat (48 + r % 10) :: l, r / 10, k + 1, g2, c2, F2, Lib.hid ⟨by simp [HL.out.1], HL.out.2.step (.inr hr0)⟩, rfl, by go_num, hO2, fun b h => ?_, hb2, by omega⟩
          rcases hF2 b h with h | h | h
          · rcases h with rfl | h
            · exact hb.size
            · exact h.elim
          · exact h.elim
          · simp at h; have := hb.size; omega
        case measure => simp [intOf, lenZ]; omega
set_option maxHeartbeats 1600000 in
set_option maxRecDepth 100000 in
theorem spec_l01Dec_neg (m : Nat) (h0m : 1 ≤ m) (h1 : m ≤ 9223372036854775808) (W : World) :
    Calls Tryd.prog 44 #[.int .i64 (-(m : Int))] W fun e w' => e = .returned (.string (dec (-(m : Int)))) ∧ Below W.heap.size W w' := by
  have hm0 : -(m : Int) < 0 := by omega
  go_enter Tryd.func44, Tryd.ntmps44
  go_wp2
  go_loopw [3, 4] (fun o r4 wr => ∃ (l : List UInt8) (r k g c : Nat) (F : Nat → Prop), Hid (l.length = k ∧ Dgs m r l) ∧ o = .slice (some ⟨g, 0, none⟩) k c ∧ r4 = .int .i64 (-(r : Int)) ∧ Ow wr (.sl 5 1 (byD l)) (.slice (some ⟨g, 0, none⟩) k c) F ∧ (∀ b, F b → W.heap.size ≤ b) ∧ Below W.heap.size W wr ∧ r ≤ m) (fun o r4 _ => (intOf r4).natAbs + lenZ o)
  case atStart => exact ⟨[], m, 0, _, _, fun _ => False, Lib.hid ⟨rfl, .inl ⟨rfl, rfl⟩⟩, rfl, rfl, .emp _ _ _ _ (by simp), fun b h => h.elim, (Below.refl _ _).alloc (Nat.le_refl _) _, Nat.le_refl _⟩
  case round =>
    obtain ⟨l, r, k, g, c, F, HL, rfl, rfl, hO, hF, hb, hrm⟩ := hrel
    have hdg : ((UInt8.ofNat (48 + r % 10)).toNat : Int) = 48 + (r : Int) % 10 := by rw [digit_u8]; omega
    by_cases hz : r % 10 = 0
    · have hz1 : (r : Int) % 10 ≤ 0 := by omega
      have hz2 : ¬ (0 < (r : Int) % 10) := by omega
      replace hdg : ((UInt8.ofNat (48 + r % 10)).toNat : Int) = 48 + -((r : Int) % 10) := by rw [hdg]; omega
      clear hz
      rcases Nat.eq_zero_or_pos k with h0 | h0
      · have g0 : ((k : Int) == 0) = true := by simp [h0]
        subst h0
        go_wp2
        go_roundw
        case rel =>
          have hone := bytes_one (w := wr.alloc (.cells #[.int .u8 ((UInt8.ofNat (48 + r % 10)).toNat : Int)] 5)) (g := wr.heap.size) (heap_alloc_new wr _)
          rw [hdg] at hone
          have hl0 : l = [] := List.eq_nil_of_length_eq_zero HL.out.1
          refine ⟨[UInt8.ofNat (48 + r % 10)], r / 10, 1, wr.heap.size, 1, _, Lib.hid ⟨rfl, ?_⟩, rfl, congrArg (Value.int IntKind.i64) (by omega), hone, fun b h => ?_, hb.alloc hb.size _, by omega⟩
          · have := HL.out.2.step (.inl hl0)
            rwa [hl0] at this
          · rcases h with rfl | h
            · exact hb.size
            · exact h.elim
        case measure => simp [intOf, lenZ]; omega
      · have g0 : ((k : Int) == 0) = false := by simp; omega
        have hk20 : k ≤ 20 := by
          have a := dgs_len HL.out.2
          rw [Lib.decDigits_length, HL.out.1] at a
          have := Lib.nDigits_le20 m (by omega)
          omega
        by_cases hr0 : r = 0
        · subst hr0
          have hcv := run_convert_bytes_back (P := Tryd.prog) wr 62 9 5 ⟨g, 0, none⟩ c l Tryd.underlying62 Tryd.underlying5 Tryd.underlying9 (fun j hj => bytes_cells hO.ro j hj)
          rw [HL.out.1] at hcv
          have HE := Lib.hid (HL.out.2.done (by intro e; rw [e] at HL; have := HL.out.1; simp at this; omega))
          clear hrm hdg
          have HONE := Lib.hid (show Ow (wr.alloc (.cells #[.int .u8 45] 5)) (.sl 5 1 (byD [45])) (.slice (some ⟨wr.heap.size, 0, none⟩) 1 1) (fun x => x = wr.heap.size ∨ False) from bytes_one (b := 45) (heap_alloc_new wr _))
          have hsz := hb.size
          clear hcv
          go_wp2_with (at_builtin; refine dt_append rfl _ _ 62 5 rfl Tryd.underlying62 (.int .u8 0) 1 1 inf_uint8 rfl (by decide) (by decide) (by rfl) HONE.out ⟨g, 0, none⟩ k c (by rfl) (byV l) (byD l) (fun _ => False) (by rw [byD_len]; exact HL.out.1) (byD_rows l) (fun j u hu => bytes_news (hO.alloc _).ro j u hu) (byV_own _ l) (by simp) (oneCells_of (byV_own wr l).ro) (by rw [byD_len]; simp; omega) ?_; intro v2 w2 F2 hO2 hk2 hF2; (rw [← byD_append] at hO2); obtain ⟨g2, c2, rfl⟩ := bytes_shape (k := k) hO2 (by rw [List.length_append, HL.out.1]; simp; omega); have hcv := run_convert_bytes_back (P := Tryd.prog) w2 62 9 5 ⟨g2, 0, none⟩ c2 ([45] ++ l) Tryd.underlying62 Tryd.underlying5 Tryd.underlying9 (fun j hj => bytes_cells hO2.ro j hj); (rw [show ([45] ++ l : List UInt8).length = k + 1 from by rw [List.length_append, HL.out.1]; simp; omega] at hcv))
          go_ret
          exact ⟨by rw [HE.out]; unfold dec; rw [Lib.itoa_neg m h0m]; rfl, (hb.alloc hb.size _).trans (hk2.below (by simp; omega) (fun b h => by rcases h with rfl | h <;> first | exact hsz | exact h.elim))⟩
        · have g1 : ((-(r : Int)) != 0) = true := by simp; omega
          have g2 : ((-(r : Int)) == 0) = false := by simp; omega
          have HONE := Lib.hid (show Ow (wr.alloc (.cells #[.int .u8 (48 + -((r : Int) % 10))] 5)) (.sl 5 1 (byD [UInt8.ofNat (48 + r % 10)])) (.slice (some ⟨wr.heap.size, 0, none⟩) 1 1) (fun x => x = wr.heap.size ∨ False) from by
            have := bytes_one (w := wr.alloc (.cells #[.int .u8 ((UInt8.ofNat (48 + r % 10)).toNat : Int)] 5)) (g := wr.heap.size) (heap_alloc_new wr _)
            rwa [hdg] at this)
          clear hdg
          go_wp2_with (at_builtin; refine dt_append rfl _ _ 62 5 rfl Tryd.underlying62 (.int .u8 0) 1 1 inf_uint8 rfl (by decide) (by decide) (by rfl) HONE.out ⟨g, 0, none⟩ k c (by rfl) (byV l) (byD l) (fun _ => False) (by rw [byD_len]; exact HL.out.1) (byD_rows l) (fun j u hu => bytes_news (hO.alloc _).ro j u hu) (byV_own _ l) (by simp) (oneCells_of (byV_own wr l).ro) (by rw [byD_len]; simp; omega) ?_; intro v2 w2 F2 hO2 hk2 hF2; (have hsz2 := hk2.size))
          rw [← byD_append] at hO2
          obtain ⟨g2, c2, rfl⟩ := bytes_shape (k := k) hO2 (by rw [List.length_append, HL.out.1]; simp; omega)
          have hb2 : Below W.heap.size W w2 := (hb.alloc hb.size _).trans (hk2.below (by have := hb.size; simp; omega) (fun b h => by rcases h with rfl | h <;> first | exact hb.size | exact h.elim))
          go_roundw
          case rel =>
            refine ⟨UInt8.ofNat (48 + r % 10) :: l, r / 10, k + 1, g2, c2, F2, Lib.hid ⟨by simp [HL.out.1], HL.out.2.step (.inr hr0)⟩, rfl, congrArg (Value.int IntKind.i64) (by omega), hO2, fun b h => ?_, hb2, by omega⟩
            rcases hF2 b h with h | h | h
            · rcases h with rfl | h
              · exact hb.size
              · exact h.elim
            · exact h.elim
            · simp at h; have := hb.size; omega
          case measure => simp [intOf, lenZ]; omega
    · have hz1 : 0 < (r : Int) % 10 := by omega
      clear hz
      rcases Nat.eq_zero_or_pos k with h0 | h0
      · have g0 : ((k : Int) == 0) = true := by simp [h0]
        subst h0
        go_wp2
        go_roundw
        case rel =>
          have hone := bytes_one (w := wr.alloc (.cells #[.int .u8 ((UInt8.ofNat (48 + r % 10)).toNat : Int)] 5)) (g := wr.heap.size) (heap_alloc_new wr _)
          rw [hdg] at hone
          have hl0 : l = [] := List.eq_nil_of_length_eq_zero HL.out.1
          refine ⟨[UInt8.ofNat (48 + r % 10)], r / 10, 1, wr.heap.size, 1, _, Lib.hid ⟨rfl, ?_⟩, rfl, congrArg (Value.int IntKind.i64) (by omega), hone, fun b h => ?_, hb.alloc hb.size _, by omega⟩
          · have := HL.out.2.step (.inl hl0)
            rwa [hl0] at this
          · rcases h with rfl | h
            · exact hb.size
            · exact h.elim
        case measure => simp [intOf, lenZ]; omega
      · have g0 : ((k : Int) == 0) = false := by simp; omega
        have hk20 : k ≤ 20 := by
          have a := dgs_len HL.out.2
          rw [Lib.decDigits_length, HL.out.1] at a
          have := Lib.nDigits_le20 m (by omega)
          omega
        by_cases hr0 : r = 0
        · subst hr0
          have hcv := run_convert_bytes_back (P := Tryd.prog) wr 62 9 5 ⟨g, 0, none⟩ c l Tryd.underlying62 Tryd.underlying5 Tryd.underlying9 (fun j hj => bytes_cells hO.ro j hj)
          rw [HL.out.1] at hcv
          have HE := Lib.hid (HL.out.2.done (by intro e; rw [e] at HL; have := HL.out.1; simp at this; omega))
          simp at hz1
        · have g1 : ((-(r : Int)) != 0) = true := by simp; omega
          have g2 : ((-(r : Int)) == 0) = false := by simp; omega
          have HONE := Lib.hid (show Ow (wr.alloc (.cells #[.int .u8 (48 + (r : Int) % 10)] 5)) (.sl 5 1 (byD [UInt8.ofNat (48 + r % 10)])) (.slice (some ⟨wr.heap.size, 0, none⟩) 1 1) (fun x => x = wr.heap.size ∨ False) from by
            have := bytes_one (w := wr.alloc (.cells #[.int .u8 ((UInt8.ofNat (48 + r % 10)).toNat : Int)] 5)) (g := wr.heap.size) (heap_alloc_new wr _)
            rwa [hdg] at this)
          clear hdg
          go_wp2_with (at_builtin; refine dt_append rfl _ _ 62 5 rfl Tryd.underlying62 (.int .u8 0) 1 1 inf_uint8 rfl (by decide) (by decide) (by rfl) HONE.out ⟨g, 0, none⟩ k c (by rfl) (byV l) (byD l) (fun _ => False) (by rw [byD_len]; exact HL.out.1) (byD_rows l) (fun j u hu => bytes_news (hO.alloc _).ro j u hu) (byV_own _ l) (by simp) (oneCells_of (byV_own wr l).ro) (by rw [byD_len]; simp; omega) ?_; intro v2 w2 F2 hO2 hk2 hF2; (have hsz2 := hk2.size))
          rw [← byD_append] at hO2
          obtain ⟨g2, c2, rfl⟩ := bytes_shape (k := k) hO2 (by rw [List.length_append, HL.out.1]; simp; omega)
          have hb2 : Below W.heap.size W w2 := (hb.alloc hb.size _).trans (hk2.below (by have := hb.size; simp; omega) (fun b h => by rcases h with rfl | h <;> first | exact hb.size | exact h.elim))
          go_roundw
          case rel =>
            refine ⟨UInt8.ofNat (48 + r % 10) :: l, r / 10, k + 1, g2, c2, F2, Lib.hid ⟨by simp [HL.out.1], HL.out.2.step (.inr hr0)⟩, rfl, congrArg (Value.int IntKind.i64) (by omega), hO2, fun b h => ?_, hb2, by omega⟩
            rcases hF2 b h with h | h | h
            · rcases h with rfl | h
              · exact hb.size
              · exact h.elim
            · exact h.elim
            · simp at h; have := hb.size; omega
          case measure => simp [intOf, lenZ]; omega
theorem spec_l01Dec (n : Int) (h0 : -9223372036854775808 ≤ n) (h1 : n ≤ 9223372036854775807) (W : World) :
    Calls Tryd.prog 44 #[.int .i64 n] W fun e w' => e = .returned (.string (dec n)) ∧ Below W.heap.size W w' := by
  by_cases hn : n < 0
  · obtain ⟨m, rfl⟩ : ∃ m : Nat, n = -(m : Int) := ⟨n.natAbs, by omega⟩
    exact spec_l01Dec_neg m (by omega) (by omega) W
  · obtain ⟨m, rfl⟩ : ∃ m : Nat, n = (m : Int) := ⟨n.toNat, by omega⟩
    exact spec_l01Dec_nonneg m (by omega) W
end Go.Proofs.YtahbgkabdongnaaDoor

/- The source of choices: 'next' is some byte, 'pick' some number below n. -/
import Derived.Test.YtmofbfeclecdoaaStm
import Derived.Test.YtmofbfeclecdoaaByte
import Derived.Laws.Bits64b
import Derived.Laws.Closers25b
namespace Go.Proofs.Ytmofbfeclecdoaa
open Go.ChangeShapes Go.WideShapes Go.ChangeAt Go.RowKit Go.Dt
set_option linter.unusedVariables false
set_option linter.unusedSimpArgs false
section
variable {N R : Nat → Prop} {W w w' : World} {ps : List Pt}
theorem bytes_st {l : List Int} {A : Option Addr} {n c k : Nat} {x : Int} (h : St N R W w ps) (ha : At (.ro (bytes l) (.slice A n c)) ps) (hk : l[k]? = some x) :
    ∃ b off, A = some ⟨b, off, none⟩ ∧ St N R W w (.rd b (off + k) [.int .u8 x] :: ps) := by
  obtain ⟨b, off, us, rfl, h1, h2, h3⟩ := h.elem ha (map_at (f := fun n => [D.int .u8 n]) hk)
  obtain ⟨u, us', rfl, h4, h5⟩ := h2.uncons
  obtain rfl := h4.int_inv
  obtain rfl := h5.unnil
  rw [Nat.mul_one] at h3
  exact ⟨b, off, rfl, h3⟩
theorem St.seed {b : Nat} {x y : Value} {e : Int} {T : TypeId} (h : St N R W w (.bx b #[x, y, .int .u64 (IntKind.u64.wrap e)] T :: ps)) : ∃ s, (0 ≤ s ∧ s < 18446744073709551616) ∧ St N R W w (.bx b #[x, y, .int .u64 s] T :: ps) := by
  have h1 := wrap_within IntKind.u64 e
  have h2 : IntKind.u64.min = 0 := rfl
  have h3 : IntKind.u64.max = 18446744073709551615 := rfl
  exact ⟨_, by omega, h⟩
theorem and255 {s : Int} (h : 0 ≤ s ∧ s < 18446744073709551616) : 0 ≤ wrap64 (bits BinOp.and IntKind.u64 (s / 1099511627776) 255) ∧ wrap64 (bits BinOp.and IntKind.u64 (s / 1099511627776) 255) ≤ 255 := by
  obtain ⟨n, hn⟩ := Int.eq_ofNat_of_zero_le (show 0 ≤ s / 1099511627776 by omega)
  have hb := bits_and_u64_nat n 255 (by omega) (by decide)
  rw [hn, show (255 : Int) = ((255 : Nat) : Int) from rfl, hb]
  have : n &&& 255 ≤ 255 := Nat.and_le_right
  unfold wrap64
  omega
theorem St.lenR {e : TypeId} {sz : Nat} {rows : List (List D)} {A : Option Addr} {q c : Nat} (h : St N R W w ps) (ha : At (.ro (.sl e sz rows) (.slice A q c)) ps) : q = rows.length ∧ q ≤ c ∧ c ≤ maxLen := by
  obtain ⟨A0, c0, h2, h3, h4⟩ := (h.lo (.inl ha)).sl_inv
  injection h2 with _ h2 h5
  exact ⟨h2, by omega, by omega⟩
end
/-- The source: so many draws at most. -/
def Src (N R : Nat → Prop) (W w : World) (b : Nat) (Ac : Option Addr) (nc cc : Nat) (k : Int) (ps : List Pt) : Prop := ∃ at_ seed : Int, 0 ≤ at_ ∧ at_ ≤ k ∧ (0 ≤ seed ∧ seed < 18446744073709551616) ∧ St N R W w (.bx b #[.slice Ac nc cc, .int .i64 (at_), .int .u64 (seed)] 200 :: ps)
set_option maxHeartbeats 3200000 in
set_option maxRecDepth 100000 in
theorem spec_next (code : List Int) (wf : ∀ n ∈ code, 0 ≤ n ∧ n < 256) (Ac : Option Addr) (nc cc b : Nat) (k : Int) (N R : Nat → Prop) (W w : World) (ps : List Pt) (H : Src N R W w b Ac nc cc k (.ro (bytes code) (.slice Ac nc cc) :: ps)) (hk : k ≤ 1000000000000) :
    Calls Try.prog 181 #[.pointer (some ⟨b, 0, none⟩)] w fun e w' => ∃ v : Int, e = .returned (.int .i64 v) ∧ (0 ≤ v ∧ v ≤ 255) ∧ Src N R W w' b Ac nc cc (k + 1) (.ro (bytes code) (.slice Ac nc cc) :: ps) := by
  obtain ⟨at_, seed, h0, h1, -, H⟩ := H
  obtain ⟨a, rfl⟩ := Int.eq_ofNat_of_zero_le h0
  obtain ⟨hq1, hq2, hq3⟩ := St.lenR (e := 5) (sz := 1) (rows := code.map fun n => [.int .u8 n]) H (.there .here)
  simp only [maxLen] at hq3
  rw [List.length_map] at hq1
  have HQ1 := Lib.hid hq1
  clear hq1
  by_cases hlt : a < nc
  · obtain ⟨x, hx⟩ := get_lt (l := code) (k := a) (by have := HQ1.out; omega)
    have hxb := wf x (List.mem_of_getElem? hx)
    obtain ⟨bo, off, hA, H'⟩ := bytes_st H (l := code) (by repeat (first | with_reducible_and_instances exact .here | with_reducible refine .there ?_)) hx
    clear H
    subst hA
    have H := St.front2 H' (.there .here) .here
    clear H' hx
    have hlt' : (a : Int) < (nc : Int) := by omega
    (try clear hq); have hq := H.facts; simp only [factsOf, Pt.facts, CellsAt, Nat.add_zero, Nat.zero_add, Nat.reduceAdd, and_true, true_and, List.set_cons_zero, List.set_cons_succ] at hq
    go_enter Try.func181, Try.ntmps181
    go_wp2_with fail
    have hxx := (After.cells w.heap.size w).1
    refine wp_region_after (w.heap.size) (by kernel_rfl) (by kernel_rfl) ?_; (repeat (go_big_quiet_step (fail))); refine wpQuiet_nil ?_; intro w1 hb1
    replace H := H.below hb1
    clear hxx hb1
    (try clear hq); have hq := H.facts; simp only [factsOf, Pt.facts, CellsAt, Nat.add_zero, Nat.zero_add, Nat.reduceAdd, and_true, true_and, List.set_cons_zero, List.set_cons_succ] at hq
    go_wp2_with fail
    have hxx := (After.cells w1.heap.size w1).1
    refine wp_region_after (w1.heap.size) (by kernel_rfl) (by kernel_rfl) ?_; (repeat (go_big_quiet_step (fail))); refine wpQuiet_nil ?_; intro w2 hb2
    replace H := H.below hb2
    clear hxx hb2
    (try clear hq); have hq := H.facts; simp only [factsOf, Pt.facts, CellsAt, Nat.add_zero, Nat.zero_add, Nat.reduceAdd, and_true, true_and, List.set_cons_zero, List.set_cons_succ] at hq
    go_wp2_with fail
    refine St.any ((H.put' 1 _ _ rfl).put' 2 _ _ rfl) ?_
    intro w3 H
    simp only [List.setIfInBounds_toArray, List.set_cons_zero, List.set_cons_succ] at H
    obtain ⟨sd, hsd, H⟩ := St.seed H
    have hle : (a : Int) + 1 ≤ (nc : Int) := by omega
    (try clear hq); have hq := H.facts; simp only [factsOf, Pt.facts, CellsAt, Nat.add_zero, Nat.zero_add, Nat.reduceAdd, and_true, true_and, List.set_cons_zero, List.set_cons_succ] at hq
    have hxx := (After.cells w3.heap.size w3).1
    refine wp_region_after (w3.heap.size) (by kernel_rfl) (by kernel_rfl) ?_; (repeat (go_big_quiet_step (fail))); refine wpQuiet_nil ?_; intro w4 hb4
    replace H := H.below hb4
    clear hxx hb4
    (try clear hq); have hq := H.facts; simp only [factsOf, Pt.facts, CellsAt, Nat.add_zero, Nat.zero_add, Nat.reduceAdd, and_true, true_and, List.set_cons_zero, List.set_cons_succ] at hq
    go_wp2
    go_ret
    exact ⟨x, rfl, by omega, (a : Int) + 1, sd, by omega, by omega, hsd, St.tail (St.front H (.there .here))⟩
  · have hlt' : ¬ (a : Int) < (nc : Int) := by omega
    (try clear hq); have hq := H.facts; simp only [factsOf, Pt.facts, CellsAt, Nat.add_zero, Nat.zero_add, Nat.reduceAdd, and_true, true_and, List.set_cons_zero, List.set_cons_succ] at hq
    go_enter Try.func181, Try.ntmps181
    go_wp2_with fail
    have hxx := (After.cells w.heap.size w).1
    refine wp_region_after (w.heap.size) (by kernel_rfl) (by kernel_rfl) ?_; (repeat (go_big_quiet_step (fail))); refine wpQuiet_nil ?_; intro w1 hb1
    replace H := H.below hb1
    clear hxx hb1
    (try clear hq); have hq := H.facts; simp only [factsOf, Pt.facts, CellsAt, Nat.add_zero, Nat.zero_add, Nat.reduceAdd, and_true, true_and, List.set_cons_zero, List.set_cons_succ] at hq
    go_wp2_with fail
    refine St.any ((H.put' 1 _ _ rfl).put' 2 _ _ rfl) ?_
    intro w3 H
    simp only [List.setIfInBounds_toArray, List.set_cons_zero, List.set_cons_succ] at H
    obtain ⟨sd, hsd, H⟩ := St.seed H
    have hle : ¬ (a : Int) + 1 ≤ (nc : Int) := by omega
    (try clear hq); have hq := H.facts; simp only [factsOf, Pt.facts, CellsAt, Nat.add_zero, Nat.zero_add, Nat.reduceAdd, and_true, true_and, List.set_cons_zero, List.set_cons_succ] at hq
    have hxx := (After.cells w3.heap.size w3).1
    refine wp_region_after (w3.heap.size) (by kernel_rfl) (by kernel_rfl) ?_; (repeat (go_big_quiet_step (fail))); refine wpQuiet_nil ?_; intro w4 hb4
    replace H := H.below hb4
    clear hxx hb4
    (try clear hq); have hq := H.facts; simp only [factsOf, Pt.facts, CellsAt, Nat.add_zero, Nat.zero_add, Nat.reduceAdd, and_true, true_and, List.set_cons_zero, List.set_cons_succ] at hq
    go_wp2
    go_ret
    exact ⟨_, rfl, and255 hsd, (a : Int) + 1, sd, by omega, by omega, hsd, H⟩
set_option maxHeartbeats 1600000 in
set_option maxRecDepth 100000 in
theorem spec_pick (code : List Int) (wf : ∀ n ∈ code, 0 ≤ n ∧ n < 256) (Ac : Option Addr) (nc cc b : Nat) (k n : Int) (N R : Nat → Prop) (W w : World) (ps : List Pt) (H : Src N R W w b Ac nc cc k (.ro (bytes code) (.slice Ac nc cc) :: ps)) (hk : k ≤ 999999999990) (hn : 0 ≤ n ∧ n ≤ 9000000000000000000) :
    Calls Try.prog 115 #[.pointer (some ⟨b, 0, none⟩), .int .i64 n] w fun e w' => ∃ v : Int, e = .returned (.int .i64 v) ∧ (0 ≤ v ∧ (v = 0 ∨ v < n)) ∧ Src N R W w' b Ac nc cc (k + 2) (.ro (bytes code) (.slice Ac nc cc) :: ps) := by
  have HX := fun (k : Int) (w : World) (H : Src N R W w b Ac nc cc k (.ro (bytes code) (.slice Ac nc cc) :: ps)) (hk : k ≤ 1000000000000) => spec_next code wf Ac nc cc b k N R W w ps H hk
  by_cases h1 : n ≤ 1
  · have HS := Lib.hid (show Src N R W w b Ac nc cc (k + 2) (.ro (bytes code) (.slice Ac nc cc) :: ps) from by obtain ⟨a, s, x1, x2, x3, x4⟩ := H; exact ⟨a, s, x1, by omega, x3, x4⟩)
    clear H
    go_enter Try.func115, Try.ntmps115
    go_wp2
    go_ret
    exact ⟨0, rfl, by omega, HS.out⟩
  · by_cases h2 : 200 < n
    · go_enter Try.func115, Try.ntmps115
      go_wp2_with fail
      refine (HX _ _ H (by omega)).mono ?_
      rintro e w1 ⟨v1, rfl, hv1, H1⟩
      go_wp2_with fail
      refine (HX _ _ H1 (by omega)).mono ?_
      rintro e w2 ⟨v2, rfl, hv2, H2⟩
      have HS := Lib.hid (show Src N R W w2 b Ac nc cc (k + 2) (.ro (bytes code) (.slice Ac nc cc) :: ps) from by obtain ⟨a, s, x1, x2, x3, x4⟩ := H2; exact ⟨a, s, x1, by omega, x3, x4⟩)
      clear H H1 H2
      go_wp2
      go_ret
      exact ⟨_, rfl, ⟨Int.emod_nonneg _ (by omega), .inr (Int.emod_lt_of_pos _ (by omega))⟩, HS.out⟩
    · go_enter Try.func115, Try.ntmps115
      go_wp2_with fail
      refine (HX _ _ H (by omega)).mono ?_
      rintro e w1 ⟨v1, rfl, hv1, H1⟩
      have HS := Lib.hid (show Src N R W w1 b Ac nc cc (k + 2) (.ro (bytes code) (.slice Ac nc cc) :: ps) from by obtain ⟨a, s, x1, x2, x3, x4⟩ := H1; exact ⟨a, s, x1, by omega, x3, x4⟩)
      clear H H1
      go_wp2
      go_ret
      exact ⟨_, rfl, ⟨Int.emod_nonneg _ (by omega), .inr (Int.emod_lt_of_pos _ (by omega))⟩, HS.out⟩
set_option maxHeartbeats 1600000 in
set_option maxRecDepth 100000 in
theorem spec_one (n : Int) (code : List Int) (wf : ∀ n ∈ code, 0 ≤ n ∧ n < 256) (Ac : Option Addr) (nc cc b : Nat) (k : Int) (N R : Nat → Prop) (W w : World) (ps : List Pt) (H : Src N R W w b Ac nc cc k (.ro (bytes code) (.slice Ac nc cc) :: ps)) (hk : k ≤ 999999999990) (hn : 0 ≤ n ∧ n ≤ 1000000) :
    Calls Try.prog 118 #[.pointer (some ⟨b, 0, none⟩), .int .i64 n] w fun e w' => ∃ v : Bool, e = .returned (.bool v) ∧ Src N R W w' b Ac nc cc (k + 2) (.ro (bytes code) (.slice Ac nc cc) :: ps) := by
  have HX := spec_pick code wf Ac nc cc b k n N R W w ps H hk (by omega)
  clear H
  go_enter Try.func118, Try.ntmps118
  go_wp2_with fail
  refine HX.mono ?_
  rintro e w1 ⟨v1, rfl, -, H1⟩
  have HS := Lib.hid H1
  clear H1
  go_wp2
  go_ret
  exact ⟨_, rfl, HS.out⟩
set_option maxHeartbeats 1600000 in
set_option maxRecDepth 100000 in
theorem spec_l01DrawMember (code : List Int) (wf : ∀ n ∈ code, 0 ≤ n ∧ n < 256) (Ac : Option Addr) (nc cc b : Nat) (k : Int) (N R : Nat → Prop) (W w : World) (ps : List Pt) (H : Src N R W w b Ac nc cc k (.ro (bytes code) (.slice Ac nc cc) :: ps)) (hk : k ≤ 999999999990) :
    Calls Try.prog 219 #[.pointer (some ⟨b, 0, none⟩)] w fun e w' => ∃ v : Int, e = .returned (.int .i64 v) ∧ (1 ≤ v ∧ v ≤ 5) ∧ Src N R W w' b Ac nc cc (k + 2) (.ro (bytes code) (.slice Ac nc cc) :: ps) := by
  have HX := spec_pick code wf Ac nc cc b k 5 N R W w ps H hk (by omega)
  clear H
  go_enter Try.func219, Try.ntmps219
  go_wp2_with fail
  refine HX.mono ?_
  rintro e w1 ⟨v1, rfl, hv1, H1⟩
  have HS := Lib.hid H1
  clear H1
  go_wp2
  go_ret
  exact ⟨_, rfl, by omega, HS.out⟩
set_option maxHeartbeats 1600000 in
set_option maxRecDepth 100000 in
theorem spec_text (P : ByteArray → Prop) (bl m c : Nat) (cs : Array Value) (T : TypeId) (code : List Int) (wf : ∀ n ∈ code, 0 ≤ n ∧ n < 256) (Ac : Option Addr) (nc cc b : Nat) (k : Int) (N R : Nat → Prop) (W w : World) (ps : List Pt) (H : Src N R W w b Ac nc cc k (.ro (bytes code) (.slice Ac nc cc) :: ps)) (hk : k ≤ 999999999990) (hb : At (.bx bl cs T) ps) (hm : cs.size = m) (h0 : 0 < m ∧ m ≤ 1000) (hP : ∀ (i : Nat) (u : Value), cs[i]? = some u → ∃ s, u = Value.string s ∧ P s) :
    Calls Try.prog 116 #[.pointer (some ⟨b, 0, none⟩), .slice (some ⟨bl, 0, none⟩) m c] w fun e w' => ∃ s : ByteArray, e = .returned (.string s) ∧ P s ∧ Src N R W w' b Ac nc cc (k + 2) (.ro (bytes code) (.slice Ac nc cc) :: ps) := by
  have HX := spec_pick code wf Ac nc cc b k m N R W w ps H hk (by omega)
  clear H
  go_enter Try.func116, Try.ntmps116
  go_wp2_with fail
  refine HX.mono ?_
  rintro e w1 ⟨v1, rfl, hv1, H1⟩
  obtain ⟨j, rfl⟩ := Int.eq_ofNat_of_zero_le hv1.1
  have hj : j < m := by omega
  have hj' : (j : Int) < (m : Int) := by omega
  obtain ⟨s, hs, hps⟩ := hP j cs[j] (Array.getElem?_eq_getElem (by omega))
  have hcell : w1.cell? ⟨bl, j, none⟩ = some (.string s) := by
    obtain ⟨a, sd, x1, x2, x3, x4⟩ := H1
    rw [← hs]
    exact (x4.bx (.there (.there hb))).cell j (Array.getElem?_eq_getElem (by omega))
  have HS := Lib.hid H1
  clear H1 hs hP hv1
  go_wp2
  go_ret
  exact ⟨s, rfl, hps, HS.out⟩
end Go.Proofs.Ytmofbfeclecdoaa

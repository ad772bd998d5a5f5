/- The source of choices: 'next' is some byte, 'pick' some number below n. -/
import Derived.Test.YtafihplbchofoaaStm
import Derived.Test.YtafihplbchofoaaByte
import Derived.Laws.Bits64b
import Derived.Laws.Closers25b
import Derived.Test.YtafihplbchofoaaMpo
import Derived.Test.YtafihplbchofoaaMlk
import Derived.Test.YtafihplbchofoaaSPost
import Derived.Test.YtafihplbchofoaaHdl
/- Drawn texts. -/
/- Drawn logs: some valid log. -/
/- Drawn logs. -/
/- Logs and drafts drawn for hands. -/
namespace Go.Proofs.Ytafihplbchofoaa
open Go.ChangeShapes Go.WideShapes Go.ChangeAt Go.RowKit Go.Dt
set_option linter.unusedVariables false
set_option linter.unusedSimpArgs false
section
variable {N R : Nat → Prop} {W w w' : World} {ps : List Pt}
theorem bytes_st {l : List Int} {A : Option Addr} {n c k : Nat} {x : Int} (h : St N R W w ps) (ha : At (.ro (bytes l) (.slice A n c)) ps) (hk : l[k]? = some x) :
    ∃ b off, A = some ⟨b, off, none⟩ ∧ St N R W w (.rd b (off + k) [.int .u8 x] :: ps) := by
  obtain ⟨b, off, us, rfl, h1, h2, h3⟩ := h.elem ha (map_at (f := fun n => [D.int .u8 n]) hk)
  obtain ⟨u, us', rfl, h4, h5⟩ := h2.uncons
  obtain rfl := h4.int_inv
  obtain rfl := h5.unnil
  rw [Nat.mul_one] at h3
  exact ⟨b, off, rfl, h3⟩
theorem St.seed {b : Nat} {x y : Value} {e : Int} {T : TypeId} (h : St N R W w (.bx b #[x, y, .int .u64 (IntKind.u64.wrap e)] T :: ps)) : ∃ s, (0 ≤ s ∧ s < 18446744073709551616) ∧ St N R W w (.bx b #[x, y, .int .u64 s] T :: ps) := by
  have h1 := wrap_within IntKind.u64 e
  have h2 : IntKind.u64.min = 0 := rfl
  have h3 : IntKind.u64.max = 18446744073709551615 := rfl
  exact ⟨_, by omega, h⟩
theorem and255 {s : Int} (h : 0 ≤ s ∧ s < 18446744073709551616) : 0 ≤ wrap64 (bits BinOp.and IntKind.u64 (s / 1099511627776) 255) ∧ wrap64 (bits BinOp.and IntKind.u64 (s / 1099511627776) 255) ≤ 255 := by
  obtain ⟨n, hn⟩ := Int.eq_ofNat_of_zero_le (show 0 ≤ s / 1099511627776 by omega)
  have hb := bits_and_u64_nat n 255 (by omega) (by decide)
  rw [hn, show (255 : Int) = ((255 : Nat) : Int) from rfl, hb]
  have : n &&& 255 ≤ 255 := Nat.and_le_right
  unfold wrap64
  omega
theorem St.lenR {e : TypeId} {sz : Nat} {rows : List (List D)} {A : Option Addr} {q c : Nat} (h : St N R W w ps) (ha : At (.ro (.sl e sz rows) (.slice A q c)) ps) : q = rows.length ∧ q ≤ c ∧ c ≤ maxLen := by
  obtain ⟨A0, c0, h2, h3, h4⟩ := (h.lo (.inl ha)).sl_inv
  injection h2 with _ h2 h5
  exact ⟨h2, by omega, by omega⟩
end
/-- The source: so many draws at most. -/
def Src (N R : Nat → Prop) (W w : World) (b : Nat) (Ac : Option Addr) (nc cc : Nat) (k : Int) (ps : List Pt) : Prop := ∃ at_ seed : Int, 0 ≤ at_ ∧ at_ ≤ k ∧ (0 ≤ seed ∧ seed < 18446744073709551616) ∧ St N R W w (.bx b #[.slice Ac nc cc, .int .i64 (at_), .int .u64 (seed)] 143 :: ps)
set_option maxHeartbeats 3200000 in
set_option maxRecDepth 100000 in
theorem spec_next (code : List Int) (wf : ∀ n ∈ code, 0 ≤ n ∧ n < 256) (Ac : Option Addr) (nc cc b : Nat) (k : Int) (N R : Nat → Prop) (W w : World) (ps : List Pt) (H : Src N R W w b Ac nc cc k (.ro (bytes code) (.slice Ac nc cc) :: ps)) (hk : k ≤ 1000000000000) :
    Calls Try.prog 96 #[.pointer (some ⟨b, 0, none⟩)] w fun e w' => ∃ v : Int, e = .returned (.int .i64 v) ∧ (0 ≤ v ∧ v ≤ 255) ∧ Src N R W w' b Ac nc cc (k + 1) (.ro (bytes code) (.slice Ac nc cc) :: ps) := by
  obtain ⟨at_, seed, h0, h1, -, H⟩ := H
  obtain ⟨a, rfl⟩ := Int.eq_ofNat_of_zero_le h0
  obtain ⟨hq1, hq2, hq3⟩ := St.lenR (e := 5) (sz := 1) (rows := code.map fun n => [.int .u8 n]) H (.there .here)
  simp only [maxLen] at hq3
  rw [List.length_map] at hq1
  have HQ1 := Lib.hid hq1
  clear hq1
  by_cases hlt : a < nc
  · obtain ⟨x, hx⟩ := get_lt (l := code) (k := a) (by have := HQ1.out; omega)
    have hxb := wf x (List.mem_of_getElem? hx)
    obtain ⟨bo, off, hA, H'⟩ := bytes_st H (l := code) (by repeat (first | with_reducible_and_instances exact .here | with_reducible refine .there ?_)) hx
    clear H
    subst hA
    have H := St.front2 H' (.there .here) .here
    clear H' hx
    have hlt' : (a : Int) < (nc : Int) := by omega
    (try clear hq); have hq := H.facts; simp only [factsOf, Pt.facts, CellsAt, Nat.add_zero, Nat.zero_add, Nat.reduceAdd, and_true, true_and, List.set_cons_zero, List.set_cons_succ] at hq
    go_enter Try.func96, Try.ntmps96
    go_wp2_with fail
    have hxx := (After.cells w.heap.size w).1
    refine wp_region_after (w.heap.size) (by kernel_rfl) (by kernel_rfl) ?_; (repeat (go_big_quiet_step (fail))); refine wpQuiet_nil ?_; intro w1 hb1
    replace H := H.below hb1
    clear hxx hb1
    (try clear hq); have hq := H.facts; simp only [factsOf, Pt.facts, CellsAt, Nat.add_zero, Nat.zero_add, Nat.reduceAdd, and_true, true_and, List.set_cons_zero, List.set_cons_succ] at hq
    go_wp2_with fail
    have hxx := (After.cells w1.heap.size w1).1
    refine wp_region_after (w1.heap.size) (by kernel_rfl) (by kernel_rfl) ?_; (repeat (go_big_quiet_step (fail))); refine wpQuiet_nil ?_; intro w2 hb2
    replace H := H.below hb2
    clear hxx hb2
    (try clear hq); have hq := H.facts; simp only [factsOf, Pt.facts, CellsAt, Nat.add_zero, Nat.zero_add, Nat.reduceAdd, and_true, true_and, List.set_cons_zero, List.set_cons_succ] at hq
    go_wp2_with fail
    refine St.any ((H.put' 1 _ _ rfl).put' 2 _ _ rfl) ?_
    intro w3 H
    simp only [List.setIfInBounds_toArray, List.set_cons_zero, List.set_cons_succ] at H
    obtain ⟨sd, hsd, H⟩ := St.seed H
    have hle : (a : Int) + 1 ≤ (nc : Int) := by omega
    (try clear hq); have hq := H.facts; simp only [factsOf, Pt.facts, CellsAt, Nat.add_zero, Nat.zero_add, Nat.reduceAdd, and_true, true_and, List.set_cons_zero, List.set_cons_succ] at hq
    have hxx := (After.cells w3.heap.size w3).1
    refine wp_region_after (w3.heap.size) (by kernel_rfl) (by kernel_rfl) ?_; (repeat (go_big_quiet_step (fail))); refine wpQuiet_nil ?_; intro w4 hb4
    replace H := H.below hb4
    clear hxx hb4
    (try clear hq); have hq := H.facts; simp only [factsOf, Pt.facts, CellsAt, Nat.add_zero, Nat.zero_add, Nat.reduceAdd, and_true, true_and, List.set_cons_zero, List.set_cons_succ] at hq
    go_wp2
    go_ret
    exact ⟨x, rfl, by omega, (a : Int) + 1, sd, by omega, by omega, hsd, St.tail (St.front H (.there .here))⟩
  · have hlt' : ¬ (a : Int) < (nc : Int) := by omega
    (try clear hq); have hq := H.facts; simp only [factsOf, Pt.facts, CellsAt, Nat.add_zero, Nat.zero_add, Nat.reduceAdd, and_true, true_and, List.set_cons_zero, List.set_cons_succ] at hq
    go_enter Try.func96, Try.ntmps96
    go_wp2_with fail
    have hxx := (After.cells w.heap.size w).1
    refine wp_region_after (w.heap.size) (by kernel_rfl) (by kernel_rfl) ?_; (repeat (go_big_quiet_step (fail))); refine wpQuiet_nil ?_; intro w1 hb1
    replace H := H.below hb1
    clear hxx hb1
    (try clear hq); have hq := H.facts; simp only [factsOf, Pt.facts, CellsAt, Nat.add_zero, Nat.zero_add, Nat.reduceAdd, and_true, true_and, List.set_cons_zero, List.set_cons_succ] at hq
    go_wp2_with fail
    refine St.any ((H.put' 1 _ _ rfl).put' 2 _ _ rfl) ?_
    intro w3 H
    simp only [List.setIfInBounds_toArray, List.set_cons_zero, List.set_cons_succ] at H
    obtain ⟨sd, hsd, H⟩ := St.seed H
    have hle : ¬ (a : Int) + 1 ≤ (nc : Int) := by omega
    (try clear hq); have hq := H.facts; simp only [factsOf, Pt.facts, CellsAt, Nat.add_zero, Nat.zero_add, Nat.reduceAdd, and_true, true_and, List.set_cons_zero, List.set_cons_succ] at hq
    have hxx := (After.cells w3.heap.size w3).1
    refine wp_region_after (w3.heap.size) (by kernel_rfl) (by kernel_rfl) ?_; (repeat (go_big_quiet_step (fail))); refine wpQuiet_nil ?_; intro w4 hb4
    replace H := H.below hb4
    clear hxx hb4
    (try clear hq); have hq := H.facts; simp only [factsOf, Pt.facts, CellsAt, Nat.add_zero, Nat.zero_add, Nat.reduceAdd, and_true, true_and, List.set_cons_zero, List.set_cons_succ] at hq
    go_wp2
    go_ret
    exact ⟨_, rfl, and255 hsd, (a : Int) + 1, sd, by omega, by omega, hsd, H⟩
set_option maxHeartbeats 1600000 in
set_option maxRecDepth 100000 in
theorem spec_pick (code : List Int) (wf : ∀ n ∈ code, 0 ≤ n ∧ n < 256) (Ac : Option Addr) (nc cc b : Nat) (k n : Int) (N R : Nat → Prop) (W w : World) (ps : List Pt) (H : Src N R W w b Ac nc cc k (.ro (bytes code) (.slice Ac nc cc) :: ps)) (hk : k ≤ 999999999990) (hn : 0 ≤ n ∧ n ≤ 9000000000000000000) :
    Calls Try.prog 47 #[.pointer (some ⟨b, 0, none⟩), .int .i64 n] w fun e w' => ∃ v : Int, e = .returned (.int .i64 v) ∧ (0 ≤ v ∧ (v = 0 ∨ v < n)) ∧ Src N R W w' b Ac nc cc (k + 2) (.ro (bytes code) (.slice Ac nc cc) :: ps) := by
  have HX := fun (k : Int) (w : World) (H : Src N R W w b Ac nc cc k (.ro (bytes code) (.slice Ac nc cc) :: ps)) (hk : k ≤ 1000000000000) => spec_next code wf Ac nc cc b k N R W w ps H hk
  by_cases h1 : n ≤ 1
  · have HS := Lib.hid (show Src N R W w b Ac nc cc (k + 2) (.ro (bytes code) (.slice Ac nc cc) :: ps) from by obtain ⟨a, s, x1, x2, x3, x4⟩ := H; exact ⟨a, s, x1, by omega, x3, x4⟩)
    clear H
    go_enter Try.func47, Try.ntmps47
    go_wp2
    go_ret
    exact ⟨0, rfl, by omega, HS.out⟩
  · by_cases h2 : 200 < n
    · go_enter Try.func47, Try.ntmps47
      go_wp2_with fail
      refine (HX _ _ H (by omega)).mono ?_
      rintro e w1 ⟨v1, rfl, hv1, H1⟩
      go_wp2_with fail
      refine (HX _ _ H1 (by omega)).mono ?_
      rintro e w2 ⟨v2, rfl, hv2, H2⟩
      have HS := Lib.hid (show Src N R W w2 b Ac nc cc (k + 2) (.ro (bytes code) (.slice Ac nc cc) :: ps) from by obtain ⟨a, s, x1, x2, x3, x4⟩ := H2; exact ⟨a, s, x1, by omega, x3, x4⟩)
      clear H H1 H2
      go_wp2
      go_ret
      exact ⟨_, rfl, ⟨Int.emod_nonneg _ (by omega), .inr (Int.emod_lt_of_pos _ (by omega))⟩, HS.out⟩
    · go_enter Try.func47, Try.ntmps47
      go_wp2_with fail
      refine (HX _ _ H (by omega)).mono ?_
      rintro e w1 ⟨v1, rfl, hv1, H1⟩
      have HS := Lib.hid (show Src N R W w1 b Ac nc cc (k + 2) (.ro (bytes code) (.slice Ac nc cc) :: ps) from by obtain ⟨a, s, x1, x2, x3, x4⟩ := H1; exact ⟨a, s, x1, by omega, x3, x4⟩)
      clear H H1
      go_wp2
      go_ret
      exact ⟨_, rfl, ⟨Int.emod_nonneg _ (by omega), .inr (Int.emod_lt_of_pos _ (by omega))⟩, HS.out⟩
set_option maxHeartbeats 1600000 in
set_option maxRecDepth 100000 in
theorem spec_one (n : Int) (code : List Int) (wf : ∀ n ∈ code, 0 ≤ n ∧ n < 256) (Ac : Option Addr) (nc cc b : Nat) (k : Int) (N R : Nat → Prop) (W w : World) (ps : List Pt) (H : Src N R W w b Ac nc cc k (.ro (bytes code) (.slice Ac nc cc) :: ps)) (hk : k ≤ 999999999990) (hn : 0 ≤ n ∧ n ≤ 1000000) :
    Calls Try.prog 50 #[.pointer (some ⟨b, 0, none⟩), .int .i64 n] w fun e w' => ∃ v : Bool, e = .returned (.bool v) ∧ Src N R W w' b Ac nc cc (k + 2) (.ro (bytes code) (.slice Ac nc cc) :: ps) := by
  have HX := spec_pick code wf Ac nc cc b k n N R W w ps H hk (by omega)
  clear H
  go_enter Try.func50, Try.ntmps50
  go_wp2_with fail
  refine HX.mono ?_
  rintro e w1 ⟨v1, rfl, -, H1⟩
  have HS := Lib.hid H1
  clear H1
  go_wp2
  go_ret
  exact ⟨_, rfl, HS.out⟩
set_option maxHeartbeats 1600000 in
set_option maxRecDepth 100000 in
theorem spec_l01DrawMember (code : List Int) (wf : ∀ n ∈ code, 0 ≤ n ∧ n < 256) (Ac : Option Addr) (nc cc b : Nat) (k : Int) (N R : Nat → Prop) (W w : World) (ps : List Pt) (H : Src N R W w b Ac nc cc k (.ro (bytes code) (.slice Ac nc cc) :: ps)) (hk : k ≤ 999999999990) :
    Calls Try.prog 131 #[.pointer (some ⟨b, 0, none⟩)] w fun e w' => ∃ v : Int, e = .returned (.int .i64 v) ∧ (1 ≤ v ∧ v ≤ 5) ∧ Src N R W w' b Ac nc cc (k + 2) (.ro (bytes code) (.slice Ac nc cc) :: ps) := by
  have HX := spec_pick code wf Ac nc cc b k 5 N R W w ps H hk (by omega)
  clear H
  go_enter Try.func131, Try.ntmps131
  go_wp2_with fail
  refine HX.mono ?_
  rintro e w1 ⟨v1, rfl, hv1, H1⟩
  have HS := Lib.hid H1
  clear H1
  go_wp2
  go_ret
  exact ⟨_, rfl, by omega, HS.out⟩
set_option maxHeartbeats 1600000 in
set_option maxRecDepth 100000 in
theorem spec_text (P : ByteArray → Prop) (bl m c : Nat) (cs : Array Value) (T : TypeId) (code : List Int) (wf : ∀ n ∈ code, 0 ≤ n ∧ n < 256) (Ac : Option Addr) (nc cc b : Nat) (k : Int) (N R : Nat → Prop) (W w : World) (ps : List Pt) (H : Src N R W w b Ac nc cc k (.ro (bytes code) (.slice Ac nc cc) :: ps)) (hk : k ≤ 999999999990) (hb : At (.bx bl cs T) ps) (hm : cs.size = m) (h0 : 0 < m ∧ m ≤ 1000) (hP : ∀ (i : Nat) (u : Value), cs[i]? = some u → ∃ s, u = Value.string s ∧ P s) :
    Calls Try.prog 48 #[.pointer (some ⟨b, 0, none⟩), .slice (some ⟨bl, 0, none⟩) m c] w fun e w' => ∃ s : ByteArray, e = .returned (.string s) ∧ P s ∧ Src N R W w' b Ac nc cc (k + 2) (.ro (bytes code) (.slice Ac nc cc) :: ps) := by
  have HX := spec_pick code wf Ac nc cc b k m N R W w ps H hk (by omega)
  clear H
  go_enter Try.func48, Try.ntmps48
  go_wp2_with fail
  refine HX.mono ?_
  rintro e w1 ⟨v1, rfl, hv1, H1⟩
  obtain ⟨j, rfl⟩ := Int.eq_ofNat_of_zero_le hv1.1
  have hj : j < m := by omega
  have hj' : (j : Int) < (m : Int) := by omega
  obtain ⟨s, hs, hps⟩ := hP j cs[j] (Array.getElem?_eq_getElem (by omega))
  have hcell : w1.cell? ⟨bl, j, none⟩ = some (.string s) := by
    obtain ⟨a, sd, x1, x2, x3, x4⟩ := H1
    rw [← hs]
    exact (x4.bx (.there (.there hb))).cell j (Array.getElem?_eq_getElem (by omega))
  have HS := Lib.hid H1
  clear H1 hs hP hv1
  go_wp2
  go_ret
  exact ⟨s, rfl, hps, HS.out⟩
end Go.Proofs.Ytafihplbchofoaa

namespace Go.Proofs.Ytafihplbchofoaa
open Go.ChangeShapes Go.WideShapes Go.ChangeAt Go.RowKit Go.Dt
set_option linter.unusedVariables false
set_option linter.unusedSimpArgs false
theorem strs_ok (l : List ByteArray) (hl : l.all (fun s => decide (s.size ≤ 5)) = true) (i : Nat) (u : Value) (h : (l.map Value.string).toArray[i]? = some u) : ∃ s : ByteArray, u = Value.string s ∧ s.size ≤ 5 := by
  rw [List.getElem?_toArray, List.getElem?_map] at h
  obtain ⟨s, hs, rfl⟩ := Option.map_eq_some_iff.1 h
  exact ⟨s, rfl, by simpa using List.all_eq_true.1 hl s (List.mem_of_getElem? hs)⟩
section
variable {N R : Nat → Prop} {W w w' : World} {b : Nat} {Ac : Option Addr} {nc cc : Nat} {k : Int} {p q : Pt} {ps : List Pt}
theorem Src.box (h : Src N R W w b Ac nc cc k (p :: ps)) (cs : Array Value) (T : TypeId) : Src N R W (w.alloc (.cells cs T)) b Ac nc cc k (p :: .bx w.heap.size cs T :: ps) := by
  obtain ⟨a, s, x1, x2, x3, x4⟩ := h
  exact ⟨a, s, x1, x2, x3, (x4.box cs T).front2 (.there .here) (.there .here)⟩
theorem Src.drop (h : Src N R W w b Ac nc cc k (p :: q :: ps)) : Src N R W w b Ac nc cc k (p :: ps) := by
  obtain ⟨a, s, x1, x2, x3, x4⟩ := h
  exact ⟨a, s, x1, x2, x3, St.tail (x4.front (.there (.there .here)))⟩
theorem Src.le {k' : Int} (h : Src N R W w b Ac nc cc k ps) (hk : k ≤ k') : Src N R W w b Ac nc cc k' ps := by
  obtain ⟨a, s, x1, x2, x3, x4⟩ := h
  exact ⟨a, s, x1, by omega, x3, x4⟩
theorem Src.junk (h : Src N R W w b Ac nc cc k ps) (o : Obj) : Src N R W (w.alloc o) b Ac nc cc k ps := by
  obtain ⟨a, s, x1, x2, x3, x4⟩ := h
  exact ⟨a, s, x1, x2, x3, x4.junk o⟩
end
end Go.Proofs.Ytafihplbchofoaa

namespace Go.Dt
section
variable {N R : Nat → Prop} {W w : World} {qs ps rest : List Pt}
/-- Boxes of one's own are different ones. -/
theorem St.ne {b b' : Nat} {cs cs' : Array Value} {t t' : TypeId} (h : St N R W w (.bx b cs t :: ps)) (ha : At (.bx b' cs' t') ps) : b ≠ b' := by
  obtain ⟨F, ⟨F1, F2, h1, h2, h3, h4⟩, _⟩ := h.sat
  obtain ⟨G, k1, k2⟩ := h2.at ha
  exact fun e => h3 b ((h1.2 b).2 rfl) (k2 b ((k1.2 b).2 e))
/-- A list's end. -/
inductive Tail (ps : List Pt) : List Pt → Prop
  | here : Tail ps ps
  | there {q : Pt} {l : List Pt} : Tail ps l → Tail ps (q :: l)
/-- As St.sub', the end of the list (what the caller holds) staying. -/
theorem St.sub2 {l : List Pt} (hp : Pick qs l rest) (ht : Tail ps rest) (h : St N R W w l) : St N R W w (qs ++ ps) := by
  have h := h.pick hp
  clear hp
  induction ht with
  | here => exact h
  | there ht ih =>
    refine ih ?_
    rename_i q l'
    have h1 := St.rots (qs := qs) (ps := q :: l') h
    exact St.rots (qs := l') (ps := qs) (St.tail h1)
end
end Go.Dt
namespace Go.Proofs.Ytafihplbchofoaa
open Go.ChangeShapes Go.WideShapes Go.ChangeAt Go.RowKit Go.Dt
set_option linter.unusedVariables false
set_option linter.unusedSimpArgs false
section
variable {N R : Nat → Prop} {W w w' : World} {b : Nat} {Ac : Option Addr} {nc cc : Nat} {k : Int} {p q : Pt} {ps : List Pt}
theorem Src.below (h : Src N R W w b Ac nc cc k ps) (hb : Below w.heap.size w w') : Src N R W w' b Ac nc cc k ps := by
  obtain ⟨a, s, x1, x2, x3, x4⟩ := h
  exact ⟨a, s, x1, x2, x3, x4.below hb⟩
theorem Src.addow {F1 : Nat → Prop} {d : D} {v : Value} (h : Src N R W w b Ac nc cc k (p :: ps)) (hb : Below w.heap.size w w') (ho : Ow w' d v F1) (hF : ∀ b, F1 b → w.heap.size ≤ b) : Src N R W w' b Ac nc cc k (p :: .ow d v :: ps) := by
  obtain ⟨a, s, x1, x2, x3, x4⟩ := h
  exact ⟨a, s, x1, x2, x3, (x4.addow hb ho hF).front2 (.there .here) (.there .here)⟩
theorem Src.freeze {d : D} {v : Value} (h : Src N R W w b Ac nc cc k (p :: .ow d v :: ps)) : ∃ R', (∀ b, R b → R' b) ∧ Src N R' W w b Ac nc cc k (p :: .ro d v :: ps) := by
  obtain ⟨a, s, x1, x2, x3, x4⟩ := h
  obtain ⟨R', h1, h2⟩ := St.freeze (x4.front (.there (.there .here)))
  exact ⟨R', h2, a, s, x1, x2, x3, h1.front2 (.there .here) (.there .here)⟩
theorem give_ok {y : Log} : (give y).2 = true → (give y).1.ok = true ∧ (give y).1.xNext = y.xNext := by
  unfold give
  split
  · exact fun _ => ⟨‹_›, rfl⟩
  · intro h; cases h
theorem postedR_ok {x : Log} {s a r : Int} {t : ByteArray} : (postedR x s a t r).2 = true → (postedR x s a t r).1.ok = true ∧ (postedR x s a t r).1.xNext ≤ x.xNext + 1 := by
  unfold postedR
  split
  · exact fun h => ⟨(give_ok h).1, by rw [(give_ok h).2]; exact Int.le_refl _⟩
  · intro h; cases h
theorem changeAt_ok {x : Log} {n : Int} {ok : Message → Bool} {f : Message → Message} : (changeAt x n ok f).2 = true → (changeAt x n ok f).1.ok = true ∧ (changeAt x n ok f).1.xNext ≤ x.xNext + 1 := by
  unfold changeAt
  split
  · intro h; cases h
  · split
    · split
      · exact fun h => ⟨(give_ok h).1, by rw [(give_ok h).2]; show x.xNext ≤ x.xNext + 1; omega⟩
      · intro h; cases h
    · intro h; cases h
theorem edited_ok (x : Log) (n s : Int) (t : ByteArray) : (edited x n s t).2 = true → (edited x n s t).1.ok = true ∧ (edited x n s t).1.xNext ≤ x.xNext + 1 := changeAt_ok
theorem takenBack_ok (x : Log) (n s : Int) : (takenBack x n s).2 = true → (takenBack x n s).1.ok = true ∧ (takenBack x n s).1.xNext ≤ x.xNext + 1 := changeAt_ok
theorem liked_ok (x : Log) (n s : Int) (b : Bool) : (liked x n s b).2 = true → (liked x n s b).1.ok = true ∧ (liked x n s b).1.xNext ≤ x.xNext + 1 := changeAt_ok
end
def Drawn (N R : Nat → Prop) (W : World) (b : Nat) (Ac : Option Addr) (nc cc : Nat) (top k : Int) (p q : Pt) (ps : List Pt) (e : Ending) (w' : World) : Prop := ∃ (y : Log) (A' : Option Addr) (n' c' : Nat) (R' : Nat → Prop), e = .returned (.agg #[.int .i64 y.xNext, .slice A' n' c']) ∧ (y.ok = true ∧ y.xNext ≤ top) ∧ (∀ b, R b → R' b) ∧
  Src N R' W w' b Ac nc cc k (p :: q :: .ro (Message.s true y.xMessages) (.slice A' n' c') :: ps)
end Go.Proofs.Ytafihplbchofoaa

namespace Go.Proofs.Ytafihplbchofoaa
open Go.ChangeShapes Go.WideShapes Go.ChangeAt Go.RowKit Go.Dt
set_option linter.unusedVariables false
set_option linter.unusedSimpArgs false
def DrawnLog (N R : Nat → Prop) (W : World) (b : Nat) (Ac : Option Addr) (nc cc : Nat) (top k : Int) (p : Pt) (ps : List Pt) (e : Ending) (w' : World) : Prop := ∃ (y : Log) (A' : Option Addr) (n' c' : Nat) (R' : Nat → Prop), e = .returned (.agg #[.int .i64 y.xNext, .slice A' n' c']) ∧ (y.ok = true ∧ y.xNext ≤ top) ∧ (∀ b, R b → R' b) ∧
  Src N R' W w' b Ac nc cc k (p :: .ro (Message.s true y.xMessages) (.slice A' n' c') :: ps)
theorem log0_ok {v : Int} (h : 0 ≤ v ∧ v ≤ 10) : Log.ok ⟨1 + v, []⟩ = true := by
  unfold Log.ok upTo inB
  simp
  omega
theorem Src.put2 {N R : Nat → Prop} {W w : World} {b b' : Nat} {Ac : Option Addr} {nc cc : Nat} {k : Int} {p : Pt} {ps : List Pt} {x y : Value} {T : TypeId} (h : Src N R W w b Ac nc cc k (p :: .bx b' #[x, y] T :: ps)) (u v : Value) : Src N R W ((w.setCell ⟨b', 0, none⟩ u).setCell ⟨b', 1, none⟩ v) b Ac nc cc k (p :: .bx b' #[u, v] T :: ps) := by
  obtain ⟨a, s, x1, x2, x3, x4⟩ := h
  exact ⟨a, s, x1, x2, x3, (((x4.front (.there (.there .here))).put' 0 u #[u, y] rfl).put' 1 v #[u, v] rfl).front2 (.there .here) (.there .here)⟩
theorem spec_l00From (v : Value) (A : Option Addr) (n c : Nat) (W : World) (hv : v = .slice A n c) :
    Calls Try.prog 46 #[v] W fun e w' => e = .returned (.pointer (some ⟨W.heap.size, 0, none⟩)) ∧ w' = W.alloc (.cells #[.slice A n c, .int .i64 0, .int .u64 0] 143) := by
  subst hv
  go_enter Try.func46, Try.ntmps46
  go_wp2
  go_ret
  exact ⟨rfl, rfl⟩
end Go.Proofs.Ytafihplbchofoaa

namespace Go.Proofs.Ytafihplbchofoaa
open Go.ChangeShapes Go.WideShapes Go.ChangeAt Go.RowKit Go.Dt
set_option linter.unusedVariables false
set_option linter.unusedSimpArgs false
def R8ok (y : Log) (i : Nat) : Prop := y.ok = true ∧ y.xNext ≤ 4 + i ∧ y.xMessages.length ≤ i ∧ ∀ m ∈ y.xMessages, m.xAt ≤ 60 * i
theorem R8ok.up {y : Log} {i : Nat} (h : R8ok y i) : R8ok y (i + 1) := ⟨h.1, by have := h.2.1; omega, by have := h.2.2.1; omega, fun m hm => by have := h.2.2.2 m hm; omega⟩
theorem r8_post {x : Log} {i : Nat} {s a : Int} {t : ByteArray} (h : R8ok x i) (ha : a ≤ 60 * (i + 1 : Nat)) : (posted x s a t).2 = true → R8ok (posted x s a t).1 (i + 1) := by
  unfold posted
  split
  · rename_i ho
    intro _
    obtain ⟨h1, h2, h3, h4⟩ := h
    refine ⟨ho, by simp [post0]; omega, by simp [post0]; omega, fun m hm => ?_⟩
    simp only [post0, List.mem_append, List.mem_singleton] at hm
    rcases hm with hm | hm
    · have := h4 m hm; omega
    · subst hm; exact ha
  · intro h; cases h
theorem r8_like {x : Log} {i : Nat} {n s : Int} {b : Bool} (h : R8ok x i) : (liked x n s b).2 = true → R8ok (liked x n s b).1 i := by
  intro h2
  have hok := (liked_ok x n s b h2).1
  obtain ⟨-, k2, k3, k4⟩ := h
  refine ⟨hok, ?_⟩
  unfold liked changeAt at h2 ⊢
  split at h2
  · cases h2
  · rename_i hn0
    rw [if_neg hn0]
    split at h2
    · rename_i m hm
      split at h2
      · rename_i hc
        simp only [hm, hc, if_true]
        unfold give at h2 ⊢
        split at h2
        · rename_i hg
          rw [if_pos hg]
          refine ⟨k2, by simp; exact k3, fun q hq => ?_⟩
          rcases List.mem_or_eq_of_mem_set hq with hq | hq
          · exact k4 q hq
          · subst hq; exact k4 m (List.mem_of_getElem? hm)
        · cases h2
      · cases h2
    · cases h2
theorem Src.swap {N R : Nat → Prop} {W w : World} {b : Nat} {Ac : Option Addr} {nc cc : Nat} {k : Int} {p q r : Pt} {ps : List Pt} (h : Src N R W w b Ac nc cc k (p :: q :: r :: ps)) : Src N R W w b Ac nc cc k (p :: r :: q :: ps) := by
  obtain ⟨a, s, x1, x2, x3, x4⟩ := h
  exact ⟨a, s, x1, x2, x3, (x4.front (.there (.there (.there .here)))).front2 (.there .here) (.there .here)⟩
theorem strs_P {P : ByteArray → Prop} (l : List ByteArray) (h : ∀ s ∈ l, P s) (i : Nat) (u : Value) (hu : (l.map Value.string).toArray[i]? = some u) : ∃ s, u = Value.string s ∧ P s := by
  rw [List.getElem?_toArray, List.getElem?_map] at hu
  cases hs : l[i]? with
  | none => rw [hs] at hu; cases hu
  | some s =>
    rw [hs] at hu
    injection hu with hu
    exact ⟨s, hu.symm, h s (List.mem_of_getElem? hs)⟩
theorem Src.mlen {N R : Nat → Prop} {W w : World} {b : Nat} {Ac : Option Addr} {nc cc : Nat} {k : Int} {ps : List Pt} {l : List Message} {A : Option Addr} {n c : Nat} (h : Src N R W w b Ac nc cc k ps) (ha : At (.ro (Message.s true l) (.slice A n c)) ps) : n = l.length := by
  obtain ⟨a_, s_, -, -, -, HS⟩ := h
  obtain ⟨A0, c0, h2, -⟩ := (HS.lo (.inl (.there ha))).sl_inv
  injection h2 with _ h2 _
  simpa using h2

set_option maxHeartbeats 6400000 in
set_option maxRecDepth 100000 in
theorem spec_R8Log (code : List Int) (wf : ∀ n ∈ code, 0 ≤ n ∧ n < 256) (A : Option Addr) (c : Nat) (W : World) (hr : Ro W (Lo W.heap.size) (bytes code) (.slice A code.length c)) :
    Calls Try.prog 9 #[.slice A code.length c] W fun e w' => ∃ (y : Log) (A' : Option Addr) (n' c' : Nat), e = .returned (.agg #[.int .i64 y.xNext, .slice A' n' c']) ∧ R8ok y 9 ∧ Ro w' (Lo w'.heap.size) (Message.s true y.xMessages) (.slice A' n' c') ∧ Below W.heap.size W w' := by
  have H := (St.start W).addro hr
  clear hr
  go_enter Try.func9, Try.ntmps9
  have H := H.box #[.int .i64 0, .slice none 0 0] 26
  go_wp2_with fail
  refine (spec_l00From _ A code.length c _ rfl).mono ?_
  rintro e w1 ⟨rfl, rfl⟩
  have H := H.box #[.slice A code.length c, .int .i64 0, .int .u64 0] 143
  rw [show (W.alloc (.cells #[.int .i64 0, .slice none 0 0] 26)).heap.size = W.heap.size + 1 from by simp] at H
  have H : Src (Lo W.heap.size) (Lo W.heap.size) W _ (W.heap.size + 1) A code.length c 0 (.ro (bytes code) (.slice A code.length c) :: [.bx W.heap.size #[.int .i64 0, .slice none 0 0] 26]) := ⟨0, 0, by omega, by omega, by omega, St.front2 H .here (.there .here)⟩
  go_wp2_with fail
  refine (spec_pick code wf A code.length c (W.heap.size + 1) _ 4 _ _ W _ _ H (by omega) (by omega)).mono ?_
  rintro e w1 ⟨v1, rfl, hv1, H⟩
  go_wp2_with fail
  have H := Src.box (Src.junk H (.cells #[] 99)) #[.int .i64 (1 + v1), .slice (some ⟨w1.heap.size, 0, none⟩) 0 0] 26
  rw [show (w1.alloc (.cells #[] 99)).heap.size = w1.heap.size + 1 from by simp] at H
  refine (spec_pick code wf A code.length c (W.heap.size + 1) _ 10 _ _ W _ _ H (by omega) (by omega)).mono ?_
  rintro e w2 ⟨v2, rfl, hv2, H⟩
  obtain ⟨a2, rfl⟩ := Int.eq_ofNat_of_zero_le hv2.1
  go_wp2_with fail
  go_loopw [5, 6] (fun v5 v6 wr => ∃ (i a : Nat) (y : Log) (A' : Option Addr) (c' : Nat) (R' : Nat → Prop), v5 = .int .i64 a ∧ v6 = .int .i64 i ∧ i ≤ 9 ∧ a ≤ 60 * (9 - i) ∧ R8ok y (9 - i) ∧ Src (Lo W.heap.size) R' W wr (W.heap.size + 1) A code.length c (4 + 50 * (9 - i)) [.ro (bytes code) (.slice A code.length c), .bx (w1.heap.size + 1) #[.int .i64 y.xNext, .slice A' y.xMessages.length c'] 26, .ro (Message.s true y.xMessages) (.slice A' y.xMessages.length c'), .bx W.heap.size #[.int .i64 0, .slice none 0 0] 26]) (fun _ v6 _ => (intOf v6).toNat)
  case atStart =>
    refine ⟨a2, 0, ⟨1 + v1, []⟩, some ⟨w1.heap.size, 0, none⟩, 0, Lo W.heap.size, rfl, rfl, by omega, by omega, ⟨log0_ok (by omega), by show 1 + v1 ≤ _; omega, by simp, by simp⟩, ?_⟩
    obtain ⟨at_, sd_, x1, x2, x3, HS⟩ := H
    refine ⟨at_, sd_, x1, by omega, x3, ?_⟩
    have H2 := HS.addro (d := Message.s true []) (v := .slice (some ⟨w1.heap.size, 0, none⟩) 0 0) (.emp _ _ _ _ (Nat.zero_le _))
    apply St.sub' (h := H2)
    (repeat (first | exact Pick.nil | with_reducible_and_instances exact Del.here | apply Pick.cons | with_reducible apply Del.there))
  case round =>
    obtain ⟨i, a, y, A', c', R', rfl, rfl, hi, ha, hy, H⟩ := hrel
    cases i with
    | zero =>
      have HS := H; obtain ⟨at_, sd_, -, -, -, HS⟩ := HS; (try clear hq); have hq := HS.facts; simp only [factsOf, Pt.facts, CellsAt, Nat.add_zero, Nat.zero_add, Nat.reduceAdd, and_true, true_and, List.set_cons_zero, List.set_cons_succ] at hq
      go_wp2
      obtain ⟨at_, sd_, x1, x2, x3, HS⟩ := H
      refine bodyPost_ret (v := .agg #[.int .i64 y.xNext, .slice A' y.xMessages.length c']) (by simp [results, Try.results9, go_sem, hq]) rfl ?_
      have H3 := ((HS.pull (k := 4) rfl).put 0 (.int .i64 y.xNext)).put 1 (.slice A' y.xMessages.length c')
      simp only [List.set_cons_zero, List.set_cons_succ] at H3
      exact ⟨y, A', _, c', rfl, hy, H3.lo (.inl (by repeat (first | with_reducible_and_instances exact .here | with_reducible refine .there ?_))), H3.belowW⟩
    | succ i =>
      have hi0 : (0 : Int) < (i : Int) + 1 := by omega
      have hi1 : (i : Int) + 1 - 1 = i := by omega
      go_wp2_with fail
      refine (spec_pick code wf A code.length c (W.heap.size + 1) _ 5 _ _ W _ _ H (by omega) (by omega)).mono ?_
      rintro e w3 ⟨v3, rfl, hv3, H⟩
      obtain ⟨j3, rfl⟩ := Int.eq_ofNat_of_zero_le hv3.1
      have hj3 : j3 ≤ 4 := by omega
      clear hv3
      go_wp2_with fail
      go_loopw [7, 8] (fun v7 v8 wr => ∃ (s : ByteArray) (j : Nat), j ≤ 4 ∧ v7 = .string s ∧ v8 = .int .i64 j ∧ s.size + 5 * j ≤ 20 ∧ Src (Lo W.heap.size) R' W wr (W.heap.size + 1) A code.length c (4 + 50 * (9 - (i + 1)) + 10 - 2 * j) [.ro (bytes code) (.slice A code.length c), .bx (w1.heap.size + 1) #[.int .i64 y.xNext, .slice A' y.xMessages.length c'] 26, .ro (Message.s true y.xMessages) (.slice A' y.xMessages.length c'), .bx W.heap.size #[.int .i64 0, .slice none 0 0] 26]) (fun _ v8 _ => (intOf v8).toNat)
      case atStart => exact ⟨ByteArray.empty, j3, hj3, rfl, rfl, by simp; omega, H.le (by omega)⟩
      case round =>
        obtain ⟨s, j, hj, rfl, rfl, hs, H⟩ := hrel
        cases j with
        | succ j =>
          have hj0 : (0 : Int) < (j : Int) + 1 := by omega
          have hj1 : (j : Int) + 1 - 1 = j := by omega
          go_wp2_with fail
          refine (spec_text (fun s => s.size ≤ 5) _ 7 _ _ _ code wf A code.length c _ _ _ R' W _ _ (Src.box H _ _) (by omega) .here rfl (by decide) (fun i u h => strs_ok [⟨#[98, 97, 100, 32]⟩, ⟨#[67, 97, 116, 44, 32]⟩, ⟨#[100, 45]⟩, ⟨#[120, 32]⟩, ⟨#[111, 107, 46, 32]⟩, ⟨#[99, 97, 116, 32]⟩, ⟨#[66, 65, 68]⟩] (by decide) i u h)).mono ?_
          rintro e w4 ⟨s1, rfl, hs1, H1⟩
          have H := Src.drop H1
          clear H1
          go_wp2_with fail
          go_roundw
          case rel => exact ⟨_, j, by omega, rfl, by go_num, by simp only [ByteArray.size_append]; omega, H.le (by omega)⟩
          case measure => simp [intOf]
        | zero =>
          go_wp2_with fail
          refine (spec_pick code wf A code.length c (W.heap.size + 1) _ 60 _ _ W _ _ H (by omega) (by omega)).mono ?_
          rintro e w4 ⟨v4, rfl, hv4, H⟩
          obtain ⟨a6, rfl⟩ := Int.eq_ofNat_of_zero_le hv4.1
          have ha6 : a6 < 60 := by omega
          clear hv4
          go_wp2_with fail
          refine (spec_pick code wf A code.length c (W.heap.size + 1) _ 5 _ _ W _ _ H (by omega) (by omega)).mono ?_
          rintro e w5 ⟨vs, rfl, hvs, H⟩
          have HS := H; obtain ⟨at_, sd_, -, -, -, HS⟩ := HS; (try clear hq); have hq := HS.facts; simp only [factsOf, Pt.facts, CellsAt, Nat.add_zero, Nat.zero_add, Nat.reduceAdd, and_true, true_and, List.set_cons_zero, List.set_cons_succ] at hq
          have hfit := Log.fit_at hy.1
          have hfew := Log.few hy.1
          go_wp2_with fail
          refine (spec_l03Post y (1 + vs) ((a : Int) + a6) s (w1.heap.size + 1) 0 A' c' _ ((HS.bx (by repeat (first | with_reducible_and_instances exact .here | with_reducible refine .there ?_))).cell 0 rfl) ((HS.bx (by repeat (first | with_reducible_and_instances exact .here | with_reducible refine .there ?_))).cell 1 rfl) (HS.lo (.inl (by repeat (first | with_reducible_and_instances exact .here | with_reducible refine .there ?_)))) (fun m hm => (hfit m hm).2) (by omega) (by omega) (by omega) (fun m hm => (hfit m hm).1) (by simp only [maxLen]; omega)).mono ?_
          rintro e w6 ⟨A7, n7, c7, F7, rfl, hO, hb, hF⟩
          have H := Src.addow H hb hO hF
          clear hO hb hF hfit hfew
          have hpo := @r8_post y (9 - (i + 1)) (1 + vs) ((a : Int) + a6) s hy (by omega)
          generalize posted y (1 + vs) ((a : Int) + a6) s = rr at *
          obtain ⟨y7, okp⟩ := rr
          simp only at *
          have he9 : 9 - (i + 1) + 1 = 9 - i := by omega
          rw [he9] at hpo
          have hup : R8ok y (9 - i) := by have h := hy.up; rw [he9] at h; exact h
          have HS := H; obtain ⟨at_, sd_, -, -, -, HS⟩ := HS; (try clear hq); have hq := HS.facts; simp only [factsOf, Pt.facts, CellsAt, Nat.add_zero, Nat.zero_add, Nat.reduceAdd, and_true, true_and, List.set_cons_zero, List.set_cons_succ] at hq
          cases okp
          · clear hpo
            go_wp2_with fail
            replace H := Src.drop <| Src.below H ((Below.refl _ _).alloc (Nat.le_refl _) (.cells #[.int .i64 y7.xNext, .slice A7 n7 c7] 26))
            refine (spec_one 4 code wf A code.length c _ _ _ _ W _ _ H (by omega) (by omega)).mono ?_
            rintro e w6 ⟨v5, rfl, H⟩
            have HS := H; obtain ⟨at_, sd_, -, -, -, HS⟩ := HS; (try clear hq); have hq := HS.facts; simp only [factsOf, Pt.facts, CellsAt, Nat.add_zero, Nat.zero_add, Nat.reduceAdd, and_true, true_and, List.set_cons_zero, List.set_cons_succ] at hq
            cases v5
            · go_wp2_with fail
              go_roundw
              case rel =>
                refine ⟨i, a + a6, y, A', c', R', by go_num, by go_num, by omega, by omega, hup, ?_⟩
                obtain ⟨at_, sd_, x1, x2, x3, HS⟩ := H
                refine ⟨at_, sd_, x1, by omega, x3, ?_⟩
                apply St.sub' (h := HS)
                (repeat (first | exact Pick.nil | with_reducible_and_instances exact Del.here | apply Pick.cons | with_reducible apply Del.there))
              case measure => simp [intOf]
            · obtain ⟨hf1, hf2, hf3⟩ := Log.few hup.1
              go_wp2_with fail
              refine (spec_l03Like y (y.xNext - 1) 9 true (w1.heap.size + 1) 0 A' c' _ ((HS.bx (by repeat (first | with_reducible_and_instances exact .here | with_reducible refine .there ?_))).cell 0 rfl) ((HS.bx (by repeat (first | with_reducible_and_instances exact .here | with_reducible refine .there ?_))).cell 1 rfl) (HS.lo (.inl (by repeat (first | with_reducible_and_instances exact .here | with_reducible refine .there ?_)))) hup.1).mono ?_
              rintro e w7 ⟨A8, n8, c8, F8, rfl, hO, hb, hF⟩
              have H := Src.addow H hb hO hF
              clear hO hb hF
              have hlk := @r8_like y _ (y.xNext - 1) 9 true hup
              generalize liked y (y.xNext - 1) 9 true = rr at *
              obtain ⟨y8, okl⟩ := rr
              simp only at *
              have HS := H; obtain ⟨at_, sd_, -, -, -, HS⟩ := HS; (try clear hq); have hq := HS.facts; simp only [factsOf, Pt.facts, CellsAt, Nat.add_zero, Nat.zero_add, Nat.reduceAdd, and_true, true_and, List.set_cons_zero, List.set_cons_succ] at hq
              cases okl
              · clear hlk
                go_wp2_with fail
                replace H := Src.drop (Src.below H ((Below.refl _ _).alloc (Nat.le_refl _) (.cells #[.int .i64 y8.xNext, .slice A8 n8 c8] 26)))
                go_roundw
                case rel =>
                  refine ⟨i, a + a6, y, A', c', R', by go_num, by go_num, by omega, by omega, hup, ?_⟩
                  obtain ⟨at_, sd_, x1, x2, x3, HS⟩ := H
                  refine ⟨at_, sd_, x1, by omega, x3, ?_⟩
                  apply St.sub' (h := HS)
                  (repeat (first | exact Pick.nil | with_reducible_and_instances exact Del.here | apply Pick.cons | with_reducible apply Del.there))
                case measure => simp [intOf]
              · replace hlk := hlk (by trivial)
                obtain ⟨R8, -, H⟩ := Src.freeze H
                obtain rfl := Src.mlen H (by repeat (first | with_reducible_and_instances exact .here | with_reducible refine .there ?_))
                go_wp2_with fail
                replace H := Src.below (Src.put2 (H.swap) (.int .i64 y8.xNext) (.slice A8 y8.xMessages.length c8)) ((Below.refl _ _).alloc (Nat.le_refl _) (.cells #[.int .i64 y8.xNext, .slice A8 y8.xMessages.length c8] 26))
                go_roundw
                case rel =>
                  refine ⟨i, a + a6, y8, A8, c8, R8, by go_num, by go_num, by omega, by omega, hlk, ?_⟩
                  obtain ⟨at_, sd_, x1, x2, x3, HS⟩ := H
                  refine ⟨at_, sd_, x1, by omega, x3, ?_⟩
                  apply St.sub' (h := HS)
                  (repeat (first | exact Pick.nil | with_reducible_and_instances exact Del.here | apply Pick.cons | with_reducible apply Del.there))
                case measure => simp [intOf]
          · replace hpo := hpo (by trivial)
            obtain ⟨R7, -, H⟩ := Src.freeze H
            obtain rfl := Src.mlen H (by repeat (first | with_reducible_and_instances exact .here | with_reducible refine .there ?_))
            go_wp2_with fail
            replace H := Src.below (Src.put2 (H.swap) (.int .i64 y7.xNext) (.slice A7 y7.xMessages.length c7)) ((Below.refl _ _).alloc (Nat.le_refl _) (.cells #[.int .i64 y7.xNext, .slice A7 y7.xMessages.length c7] 26))
            refine (spec_one 4 code wf A code.length c _ _ _ _ W _ _ H (by omega) (by omega)).mono ?_
            rintro e w6 ⟨v5, rfl, H⟩
            have HS := H; obtain ⟨at_, sd_, -, -, -, HS⟩ := HS; (try clear hq); have hq := HS.facts; simp only [factsOf, Pt.facts, CellsAt, Nat.add_zero, Nat.zero_add, Nat.reduceAdd, and_true, true_and, List.set_cons_zero, List.set_cons_succ] at hq
            cases v5
            · go_wp2_with fail
              go_roundw
              case rel =>
                refine ⟨i, a + a6, y7, A7, c7, R7, by go_num, by go_num, by omega, by omega, hpo, ?_⟩
                obtain ⟨at_, sd_, x1, x2, x3, HS⟩ := H
                refine ⟨at_, sd_, x1, by omega, x3, ?_⟩
                apply St.sub' (h := HS)
                (repeat (first | exact Pick.nil | with_reducible_and_instances exact Del.here | apply Pick.cons | with_reducible apply Del.there))
              case measure => simp [intOf]
            · obtain ⟨hf1, hf2, hf3⟩ := Log.few hpo.1
              go_wp2_with fail
              refine (spec_l03Like y7 (y7.xNext - 1) 9 true (w1.heap.size + 1) 0 A7 c7 _ ((HS.bx (by repeat (first | with_reducible_and_instances exact .here | with_reducible refine .there ?_))).cell 0 rfl) ((HS.bx (by repeat (first | with_reducible_and_instances exact .here | with_reducible refine .there ?_))).cell 1 rfl) (HS.lo (.inl (by repeat (first | with_reducible_and_instances exact .here | with_reducible refine .there ?_)))) hpo.1).mono ?_
              rintro e w7 ⟨A8, n8, c8, F8, rfl, hO, hb, hF⟩
              have H := Src.addow H hb hO hF
              clear hO hb hF
              have hlk := @r8_like y7 _ (y7.xNext - 1) 9 true hpo
              generalize liked y7 (y7.xNext - 1) 9 true = rr at *
              obtain ⟨y8, okl⟩ := rr
              simp only at *
              have HS := H; obtain ⟨at_, sd_, -, -, -, HS⟩ := HS; (try clear hq); have hq := HS.facts; simp only [factsOf, Pt.facts, CellsAt, Nat.add_zero, Nat.zero_add, Nat.reduceAdd, and_true, true_and, List.set_cons_zero, List.set_cons_succ] at hq
              cases okl
              · clear hlk
                go_wp2_with fail
                replace H := Src.drop (Src.below H ((Below.refl _ _).alloc (Nat.le_refl _) (.cells #[.int .i64 y8.xNext, .slice A8 n8 c8] 26)))
                go_roundw
                case rel =>
                  refine ⟨i, a + a6, y7, A7, c7, R7, by go_num, by go_num, by omega, by omega, hpo, ?_⟩
                  obtain ⟨at_, sd_, x1, x2, x3, HS⟩ := H
                  refine ⟨at_, sd_, x1, by omega, x3, ?_⟩
                  apply St.sub' (h := HS)
                  (repeat (first | exact Pick.nil | with_reducible_and_instances exact Del.here | apply Pick.cons | with_reducible apply Del.there))
                case measure => simp [intOf]
              · replace hlk := hlk (by trivial)
                obtain ⟨R8, -, H⟩ := Src.freeze H
                obtain rfl := Src.mlen H (by repeat (first | with_reducible_and_instances exact .here | with_reducible refine .there ?_))
                go_wp2_with fail
                replace H := Src.below (Src.put2 (H.swap) (.int .i64 y8.xNext) (.slice A8 y8.xMessages.length c8)) ((Below.refl _ _).alloc (Nat.le_refl _) (.cells #[.int .i64 y8.xNext, .slice A8 y8.xMessages.length c8] 26))
                go_roundw
                case rel =>
                  refine ⟨i, a + a6, y8, A8, c8, R8, by go_num, by go_num, by omega, by omega, hlk, ?_⟩
                  obtain ⟨at_, sd_, x1, x2, x3, HS⟩ := H
                  refine ⟨at_, sd_, x1, by omega, x3, ?_⟩
                  apply St.sub' (h := HS)
                  (repeat (first | exact Pick.nil | with_reducible_and_instances exact Del.here | apply Pick.cons | with_reducible apply Del.there))
                case measure => simp [intOf]
set_option maxHeartbeats 1600000 in
set_option maxRecDepth 100000 in
theorem spec_R8Draft (code : List Int) (wf : ∀ n ∈ code, 0 ≤ n ∧ n < 256) (at0 : Int) (A : Option Addr) (c : Nat) (W : World) (hr : Ro W (Lo W.heap.size) (bytes code) (.slice A code.length c)) :
    Calls Try.prog 12 #[.slice A code.length c, .int .i64 at0] W fun e w' => ∃ (d : Draft), e = .returned (.agg #[.int .i64 d.xSender, .int .i64 at0, .string d.xText]) ∧ (d.xAt = at0 ∧ isMem d.xSender = true ∧ isText d.xText = true ∧ d.xText.size ≤ 10) ∧ Below W.heap.size W w' := by
  have H := (St.start W).addro hr
  clear hr
  go_enter Try.func12, Try.ntmps12
  have H := H.box #[.int .i64 0, .int .i64 0, .string ⟨#[]⟩] 35
  go_wp2_with fail
  refine (spec_l00From _ A code.length c _ rfl).mono ?_
  rintro e w1 ⟨rfl, rfl⟩
  have H := H.box #[.slice A code.length c, .int .i64 0, .int .u64 0] 143
  rw [show (W.alloc (.cells #[.int .i64 0, .int .i64 0, .string ⟨#[]⟩] 35)).heap.size = W.heap.size + 1 from by simp] at H
  have H : Src (Lo W.heap.size) (Lo W.heap.size) W _ (W.heap.size + 1) A code.length c 0 (.ro (bytes code) (.slice A code.length c) :: [.bx W.heap.size #[.int .i64 0, .int .i64 0, .string ⟨#[]⟩] 35]) := ⟨0, 0, by omega, by omega, by omega, St.front2 H .here (.there .here)⟩
  go_wp2_with fail
  refine (spec_pick code wf A code.length c (W.heap.size + 1) _ 5 _ _ W _ _ H (by omega) (by omega)).mono ?_
  rintro e w1 ⟨v1, rfl, hv1, H⟩
  go_wp2_with fail
  refine (spec_text (fun s => isText s = true ∧ s.size ≤ 10) _ 4 _ _ _ code wf A code.length c _ _ _ _ W _ _ (Src.box H _ _) (by omega) .here rfl (by decide) (fun i u h => strs_P [⟨#[]⟩, ⟨#[104, 105]⟩, ⟨#[98, 97, 100, 32, 99, 97, 116]⟩, ⟨#[111, 107, 46]⟩] (by decide) i u h)).mono ?_
  rintro e w2 ⟨s, rfl, hs, H1⟩
  have H := Src.drop H1
  clear H1
  have HS := H; obtain ⟨at_, sd_, -, -, -, HS⟩ := HS; (try clear hq); have hq := HS.facts; simp only [factsOf, Pt.facts, CellsAt, Nat.add_zero, Nat.zero_add, Nat.reduceAdd, and_true, true_and, List.set_cons_zero, List.set_cons_succ] at hq
  go_wp2
  obtain ⟨at_, sd_, x1, x2, x3, HS⟩ := H
  refine bodyPost_ret (v := .agg #[.int .i64 (1 + v1), .int .i64 at0, .string s]) (by simp [results, Try.results12, go_sem, hq]) rfl ?_
  have H3 := (((HS.pull (k := 2) rfl).put 0 (.int .i64 (1 + v1))).put 1 (.int .i64 at0)).put 2 (.string s)
  simp only [List.set_cons_zero, List.set_cons_succ] at H3
  exact ⟨⟨1 + v1, at0, s⟩, rfl, ⟨rfl, by simp [isMem, inB]; omega, hs.1, hs.2⟩, H3.belowW⟩
end Go.Proofs.Ytafihplbchofoaa

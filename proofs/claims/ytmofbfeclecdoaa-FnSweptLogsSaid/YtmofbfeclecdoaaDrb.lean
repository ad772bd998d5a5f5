/- Drawn logs. -/
import Derived.Test.YtmofbfeclecdoaaDraw
namespace Go.Proofs.Ytmofbfeclecdoaa
open Go.ChangeShapes Go.WideShapes Go.ChangeAt Go.RowKit Go.Dt
set_option linter.unusedVariables false
set_option linter.unusedSimpArgs false
def DrawnLog (N R : Nat → Prop) (W : World) (b : Nat) (Ac : Option Addr) (nc cc : Nat) (top k : Int) (p : Pt) (ps : List Pt) (e : Ending) (w' : World) : Prop := ∃ (y : Log) (A' : Option Addr) (n' c' : Nat) (R' : Nat → Prop), e = .returned (.agg #[.int .i64 y.xNext, .slice A' n' c']) ∧ (y.ok = true ∧ y.xNext ≤ top) ∧ (∀ b, R b → R' b) ∧
  Src N R' W w' b Ac nc cc k (p :: .ro (Message.s true y.xMessages) (.slice A' n' c') :: ps)
theorem log0_ok {v : Int} (h : 0 ≤ v ∧ v ≤ 10) : Log.ok ⟨1 + v, []⟩ = true := by
  unfold Log.ok upTo inB
  simp
  omega
theorem Src.put2 {N R : Nat → Prop} {W w : World} {b b' : Nat} {Ac : Option Addr} {nc cc : Nat} {k : Int} {p : Pt} {ps : List Pt} {x y : Value} {T : TypeId} (h : Src N R W w b Ac nc cc k (p :: .bx b' #[x, y] T :: ps)) (u v : Value) : Src N R W ((w.setCell ⟨b', 0, none⟩ u).setCell ⟨b', 1, none⟩ v) b Ac nc cc k (p :: .bx b' #[u, v] T :: ps) := by
  obtain ⟨a, s, x1, x2, x3, x4⟩ := h
  exact ⟨a, s, x1, x2, x3, (((x4.front (.there (.there .here))).put' 0 u #[u, y] rfl).put' 1 v #[u, v] rfl).front2 (.there .here) (.there .here)⟩
set_option maxHeartbeats 3200000 in
set_option maxRecDepth 100000 in
theorem spec_l03DrawSized (m : Nat) (hm : m ≤ 100) (code : List Int) (wf : ∀ n ∈ code, 0 ≤ n ∧ n < 256) (Ac : Option Addr) (nc cc b : Nat) (k : Int) (N R : Nat → Prop) (W w : World) (ps : List Pt) (H : Src N R W w b Ac nc cc k (.ro (bytes code) (.slice Ac nc cc) :: ps)) (hk : k ≤ 800000000000) :
    Calls Try.prog 166 #[.pointer (some ⟨b, 0, none⟩), .int .i64 m] w (DrawnLog N R W b Ac nc cc (3 + m) (k + 4 + 50 * m) (.ro (bytes code) (.slice Ac nc cc)) ps) := by
  go_enter Try.func166, Try.ntmps166
  have H := Src.box H #[.int .i64 0, .slice none 0 0] 41
  go_wp2_with fail
  refine (spec_pick code wf Ac nc cc b _ 3 N _ W _ _ H (by omega) (by omega)).mono ?_
  rintro e w1 ⟨v1, rfl, hv1, H⟩
  go_wp2_with fail
  have H := Src.box (Src.junk H (.cells #[] 57)) #[.int .i64 (1 + v1), .slice (some ⟨w1.heap.size, 0, none⟩) 0 0] 41
  rw [show (w1.alloc (.cells #[] 57)).heap.size = w1.heap.size + 1 from by simp] at H
  refine (spec_pick code wf Ac nc cc b _ 5 N _ W _ _ H (by omega) (by omega)).mono ?_
  rintro e w2 ⟨v2, rfl, hv2, H⟩
  obtain ⟨a2, rfl⟩ := Int.eq_ofNat_of_zero_le hv2.1
  go_wp2_with fail
  go_loopw [1, 6] (fun v1' v6 wr => ∃ (i a : Nat) (y : Log) (A' : Option Addr) (n' c' : Nat) (R' : Nat → Prop), v1' = .int .i64 i ∧ v6 = .int .i64 a ∧ i ≤ m ∧ a ≤ 4 + 3 * (m - i) ∧ (y.ok = true ∧ y.xNext ≤ 3 + (m - i)) ∧ (∀ b, R b → R' b) ∧ Src N R' W wr b Ac nc cc (k + 4 + 50 * (m - i)) (.ro (bytes code) (.slice Ac nc cc) :: .bx (w1.heap.size + 1) #[.int .i64 y.xNext, .slice A' n' c'] 41 :: .ro (Message.s true y.xMessages) (.slice A' n' c') :: .bx w.heap.size #[.int .i64 0, .slice none 0 0] 41 :: ps)) (fun v1' _ _ => (intOf v1').toNat)
  case atStart =>
    refine ⟨m, a2, ⟨1 + v1, []⟩, some ⟨w1.heap.size, 0, none⟩, 0, 0, R, rfl, rfl, Nat.le_refl _, by omega, ⟨log0_ok (by omega), by show 1 + v1 ≤ _; omega⟩, fun _ h => h, ?_⟩
    obtain ⟨at_, sd_, x1, x2, x3, HS⟩ := H
    refine ⟨at_, sd_, x1, by omega, x3, ?_⟩
    have H2 := HS.addro (d := Message.s true []) (v := .slice (some ⟨w1.heap.size, 0, none⟩) 0 0) (.emp _ _ _ _ (Nat.zero_le _))
    apply St.sub2 (qs := [.bx b _ _, .ro _ _, .bx (w1.heap.size + 1) _ 41, .ro _ _, .bx w.heap.size _ 41]) (h := H2)
    · repeat (first | exact Pick.nil | with_reducible_and_instances exact Del.here | apply Pick.cons | with_reducible apply Del.there)
    · repeat (first | exact Tail.here | apply Tail.there)
  case round =>
    obtain ⟨i, a, y, A', n', c', R', rfl, rfl, hi, ha, hy, hR, H⟩ := hrel
    cases i with
    | zero =>
      have HS := H; obtain ⟨at_, sd_, -, -, -, HS⟩ := HS; (try clear hq); have hq := HS.facts; simp only [factsOf, Pt.facts, CellsAt, Nat.add_zero, Nat.zero_add, Nat.reduceAdd, and_true, true_and, List.set_cons_zero, List.set_cons_succ] at hq
      go_wp2
      obtain ⟨at_, sd_, x1, x2, x3, HS⟩ := H
      refine bodyPost_ret (v := .agg #[.int .i64 y.xNext, .slice A' n' c']) (by simp [results, Try.results166, go_sem, hq]) rfl ?_
      refine ⟨y, A', n', c', R', rfl, ⟨hy.1, by have := hy.2; omega⟩, hR, at_, sd_, x1, by omega, x3, ?_⟩
      have H3 := ((HS.pull (k := 4) rfl).put 0 (.int .i64 y.xNext)).put 1 (.slice A' n' c')
      simp only [List.set_cons_zero, List.set_cons_succ] at H3
      apply St.sub2 (qs := [.bx b _ _, .ro _ _, .ro _ _]) (h := H3)
      · repeat (first | exact Pick.nil | with_reducible_and_instances exact Del.here | apply Pick.cons | with_reducible apply Del.there)
      · repeat (first | exact Tail.here | apply Tail.there)
    | succ i =>
      have hi0 : (0 : Int) < (i : Int) + 1 := by omega
      have hi1 : (i : Int) + 1 - 1 = i := by omega
      go_wp2_with fail
      refine (spec_l03DrawDo y hy.1 a (w1.heap.size + 1) n' c' A' code wf Ac nc cc b _ N R' W _ _ H (by omega)).mono ?_
      rintro e w3 ⟨y2, A2, n2, c2, R2, rfl, hy2, hR2, H⟩
      have HS := H; obtain ⟨at_, sd_, -, -, -, HS⟩ := HS; (try clear hq); have hq := HS.facts; simp only [factsOf, Pt.facts, CellsAt, Nat.add_zero, Nat.zero_add, Nat.reduceAdd, and_true, true_and, List.set_cons_zero, List.set_cons_succ] at hq
      go_wp2_with fail
      refine (spec_pick code wf Ac nc cc b _ 4 N R2 W _ _ (Src.put2 H (.int .i64 y2.xNext) (.slice A2 n2 c2)) (by omega) (by omega)).mono ?_
      rintro e w4 ⟨v4, rfl, hv4, H⟩
      obtain ⟨a4, rfl⟩ := Int.eq_ofNat_of_zero_le hv4.1
      go_wp2_with fail
      go_roundw
      case rel =>
        refine ⟨i, a + a4, y2, A2, n2, c2, R2, by go_num, by go_num, by omega, by omega, ⟨hy2.1, by have := hy2.2; have := hy.2; omega⟩, fun b h => hR2 b (hR b h), H.le (by omega)⟩
      case measure => simp [intOf]
set_option maxHeartbeats 3200000 in
set_option maxRecDepth 100000 in
theorem spec_l03DrawOk (code : List Int) (wf : ∀ n ∈ code, 0 ≤ n ∧ n < 256) (Ac : Option Addr) (nc cc b : Nat) (k : Int) (N R : Nat → Prop) (W w : World) (ps : List Pt) (H : Src N R W w b Ac nc cc k (.ro (bytes code) (.slice Ac nc cc) :: ps)) (hk : k ≤ 700000000000) :
    Calls Try.prog 103 #[.pointer (some ⟨b, 0, none⟩)] w (DrawnLog N R W b Ac nc cc 100 (k + 5000) (.ro (bytes code) (.slice Ac nc cc)) ps) := by
  go_enter Try.func103, Try.ntmps103
  have H := Src.box H #[.int .i64 0, .slice none 0 0] 41
  go_wp2_with fail
  refine (spec_one 30 code wf Ac nc cc b _ N _ W _ _ H (by omega) (by omega)).mono ?_
  rintro e w1 ⟨v1, rfl, H⟩
  cases v1
  · go_wp2_with fail
    refine (spec_pick code wf Ac nc cc b _ 14 N _ W _ _ H (by omega) (by omega)).mono ?_
    rintro e w1 ⟨v2, rfl, hv2, H⟩
    obtain ⟨a2, rfl⟩ := Int.eq_ofNat_of_zero_le hv2.1
    go_wp2_with fail
    refine (spec_l03DrawSized a2 (by omega) code wf Ac nc cc b _ N R W _ _ H (by omega)).mono ?_
    rintro e w2 ⟨y, A', n', c', R', rfl, hy, hR, H⟩
    have HS := H; obtain ⟨at_, sd_, -, -, -, HS⟩ := HS; (try clear hq); have hq := HS.facts; simp only [factsOf, Pt.facts, CellsAt, Nat.add_zero, Nat.zero_add, Nat.reduceAdd, and_true, true_and, List.set_cons_zero, List.set_cons_succ] at hq
    go_wp2
    obtain ⟨at_, sd_, x1, x2, x3, HS⟩ := H
    refine bodyPost_ret (v := .agg #[.int .i64 y.xNext, .slice A' n' c']) (by simp [results, Try.results103, go_sem, hq]) rfl ?_
    refine ⟨y, A', n', c', R', rfl, ⟨hy.1, by have := hy.2; omega⟩, hR, at_, sd_, x1, by omega, x3, ?_⟩
    have H3 := ((HS.pull (k := 3) rfl).put 0 (.int .i64 y.xNext)).put 1 (.slice A' n' c')
    simp only [List.set_cons_zero, List.set_cons_succ] at H3
    apply St.sub2 (qs := [.bx b _ _, .ro _ _, .ro _ _]) (h := H3)
    · repeat (first | exact Pick.nil | with_reducible_and_instances exact Del.here | apply Pick.cons | with_reducible apply Del.there)
    · repeat (first | exact Tail.here | apply Tail.there)
  · go_wp2_with fail
    refine (spec_l03DrawSized 80 (by omega) code wf Ac nc cc b _ N R W _ _ H (by omega)).mono ?_
    rintro e w2 ⟨y, A', n', c', R', rfl, hy, hR, H⟩
    have HS := H; obtain ⟨at_, sd_, -, -, -, HS⟩ := HS; (try clear hq); have hq := HS.facts; simp only [factsOf, Pt.facts, CellsAt, Nat.add_zero, Nat.zero_add, Nat.reduceAdd, and_true, true_and, List.set_cons_zero, List.set_cons_succ] at hq
    go_wp2
    obtain ⟨at_, sd_, x1, x2, x3, HS⟩ := H
    refine bodyPost_ret (v := .agg #[.int .i64 y.xNext, .slice A' n' c']) (by simp [results, Try.results103, go_sem, hq]) rfl ?_
    refine ⟨y, A', n', c', R', rfl, ⟨hy.1, by have := hy.2; omega⟩, hR, at_, sd_, x1, by omega, x3, ?_⟩
    have H3 := ((HS.pull (k := 3) rfl).put 0 (.int .i64 y.xNext)).put 1 (.slice A' n' c')
    simp only [List.set_cons_zero, List.set_cons_succ] at H3
    apply St.sub2 (qs := [.bx b _ _, .ro _ _, .ro _ _]) (h := H3)
    · repeat (first | exact Pick.nil | with_reducible_and_instances exact Del.here | apply Pick.cons | with_reducible apply Del.there)
    · repeat (first | exact Tail.here | apply Tail.there)
theorem spec_l00From (v : Value) (A : Option Addr) (n c : Nat) (W : World) (hv : v = .slice A n c) :
    Calls Try.prog 102 #[v] W fun e w' => e = .returned (.pointer (some ⟨W.heap.size, 0, none⟩)) ∧ w' = W.alloc (.cells #[.slice A n c, .int .i64 0, .int .u64 0] 200) := by
  subst hv
  go_enter Try.func102, Try.ntmps102
  go_wp2
  go_ret
  exact ⟨rfl, rfl⟩
set_option maxHeartbeats 3200000 in
set_option maxRecDepth 100000 in
theorem spec_B10Log (code : List Int) (wf : ∀ n ∈ code, 0 ≤ n ∧ n < 256) (A : Option Addr) (c : Nat) (W : World) (hr : Ro W (Lo W.heap.size) (bytes code) (.slice A code.length c)) :
    Calls Try.prog 39 #[.slice A code.length c] W fun e w' => ∃ (y : Log) (A' : Option Addr) (n' c' : Nat), e = .returned (.agg #[.int .i64 y.xNext, .slice A' n' c']) ∧ (y.ok = true ∧ y.xNext ≤ 100) ∧ Ro w' (Lo w'.heap.size) (Message.s true y.xMessages) (.slice A' n' c') ∧ Below W.heap.size W w' := by
  have H := (St.start W).addro hr
  clear hr
  go_enter Try.func39, Try.ntmps39
  have H := H.box #[.int .i64 0, .slice none 0 0] 41
  go_wp2_with fail
  refine (spec_l00From _ A code.length c _ rfl).mono ?_
  rintro e w1 ⟨rfl, rfl⟩
  have H := H.box #[.slice A code.length c, .int .i64 0, .int .u64 0] 200
  rw [show (W.alloc (.cells #[.int .i64 0, .slice none 0 0] 41)).heap.size = W.heap.size + 1 from by simp] at H
  have H : Src (Lo W.heap.size) (Lo W.heap.size) W _ (W.heap.size + 1) A code.length c 0 (.ro (bytes code) (.slice A code.length c) :: [.bx W.heap.size #[.int .i64 0, .slice none 0 0] 41]) := ⟨0, 0, by omega, by omega, by omega, St.front2 H .here (.there .here)⟩
  go_wp2_with fail
  refine (spec_l03DrawOk code wf A code.length c (W.heap.size + 1) 0 _ _ W _ _ H (by omega)).mono ?_
  rintro e w2 ⟨y, A', n', c', R', rfl, hy, hR, H⟩
  have HS := H; obtain ⟨at_, sd_, -, -, -, HS⟩ := HS; (try clear hq); have hq := HS.facts; simp only [factsOf, Pt.facts, CellsAt, Nat.add_zero, Nat.zero_add, Nat.reduceAdd, and_true, true_and, List.set_cons_zero, List.set_cons_succ] at hq
  go_wp2
  obtain ⟨at_, sd_, x1, x2, x3, HS⟩ := H
  refine bodyPost_ret (v := .agg #[.int .i64 y.xNext, .slice A' n' c']) (by simp [results, Try.results39, go_sem, hq]) rfl ?_
  have H3 := ((HS.pull (k := 3) rfl).put 0 (.int .i64 y.xNext)).put 1 (.slice A' n' c')
  simp only [List.set_cons_zero, List.set_cons_succ] at H3
  exact ⟨y, A', n', c', rfl, hy, H3.lo (.inl (by repeat (first | with_reducible_and_instances exact .here | with_reducible refine .there ?_))), H3.belowW⟩
end Go.Proofs.Ytmofbfeclecdoaa

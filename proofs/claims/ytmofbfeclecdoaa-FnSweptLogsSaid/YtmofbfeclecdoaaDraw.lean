/- Drawn logs: some valid log. -/
import Derived.Test.YtmofbfeclecdoaaSrt
import Derived.Test.YtmofbfeclecdoaaMpo
import Derived.Test.YtmofbfeclecdoaaMlk
namespace Go.Dt
section
variable {N R : Nat → Prop} {W w : World} {qs ps rest : List Pt}
/-- Boxes of one's own are different ones. -/
theorem St.ne {b b' : Nat} {cs cs' : Array Value} {t t' : TypeId} (h : St N R W w (.bx b cs t :: ps)) (ha : At (.bx b' cs' t') ps) : b ≠ b' := by
  obtain ⟨F, ⟨F1, F2, h1, h2, h3, h4⟩, _⟩ := h.sat
  obtain ⟨G, k1, k2⟩ := h2.at ha
  exact fun e => h3 b ((h1.2 b).2 rfl) (k2 b ((k1.2 b).2 e))
/-- A list's end. -/
inductive Tail (ps : List Pt) : List Pt → Prop
  | here : Tail ps ps
  | there {q : Pt} {l : List Pt} : Tail ps l → Tail ps (q :: l)
/-- As St.sub', the end of the list (what the caller holds) staying. -/
theorem St.sub2 {l : List Pt} (hp : Pick qs l rest) (ht : Tail ps rest) (h : St N R W w l) : St N R W w (qs ++ ps) := by
  have h := h.pick hp
  clear hp
  induction ht with
  | here => exact h
  | there ht ih =>
    refine ih ?_
    rename_i q l'
    have h1 := St.rots (qs := qs) (ps := q :: l') h
    exact St.rots (qs := l') (ps := qs) (St.tail h1)
end
end Go.Dt
namespace Go.Proofs.Ytmofbfeclecdoaa
open Go.ChangeShapes Go.WideShapes Go.ChangeAt Go.RowKit Go.Dt
set_option linter.unusedVariables false
set_option linter.unusedSimpArgs false
section
variable {N R : Nat → Prop} {W w w' : World} {b : Nat} {Ac : Option Addr} {nc cc : Nat} {k : Int} {p q : Pt} {ps : List Pt}
theorem Src.below (h : Src N R W w b Ac nc cc k ps) (hb : Below w.heap.size w w') : Src N R W w' b Ac nc cc k ps := by
  obtain ⟨a, s, x1, x2, x3, x4⟩ := h
  exact ⟨a, s, x1, x2, x3, x4.below hb⟩
theorem Src.addow {F1 : Nat → Prop} {d : D} {v : Value} (h : Src N R W w b Ac nc cc k (p :: ps)) (hb : Below w.heap.size w w') (ho : Ow w' d v F1) (hF : ∀ b, F1 b → w.heap.size ≤ b) : Src N R W w' b Ac nc cc k (p :: .ow d v :: ps) := by
  obtain ⟨a, s, x1, x2, x3, x4⟩ := h
  exact ⟨a, s, x1, x2, x3, (x4.addow hb ho hF).front2 (.there .here) (.there .here)⟩
theorem Src.freeze {d : D} {v : Value} (h : Src N R W w b Ac nc cc k (p :: .ow d v :: ps)) : ∃ R', (∀ b, R b → R' b) ∧ Src N R' W w b Ac nc cc k (p :: .ro d v :: ps) := by
  obtain ⟨a, s, x1, x2, x3, x4⟩ := h
  obtain ⟨R', h1, h2⟩ := St.freeze (x4.front (.there (.there .here)))
  exact ⟨R', h2, a, s, x1, x2, x3, h1.front2 (.there .here) (.there .here)⟩
theorem give_ok {y : Log} : (give y).2 = true → (give y).1.ok = true ∧ (give y).1.xNext = y.xNext := by
  unfold give
  split
  · exact fun _ => ⟨‹_›, rfl⟩
  · intro h; cases h
theorem postedR_ok {x : Log} {s a r : Int} {t : ByteArray} : (postedR x s a t r).2 = true → (postedR x s a t r).1.ok = true ∧ (postedR x s a t r).1.xNext ≤ x.xNext + 1 := by
  unfold postedR
  split
  · exact fun h => ⟨(give_ok h).1, by rw [(give_ok h).2]; exact Int.le_refl _⟩
  · intro h; cases h
theorem changeAt_ok {x : Log} {n : Int} {ok : Message → Bool} {f : Message → Message} : (changeAt x n ok f).2 = true → (changeAt x n ok f).1.ok = true ∧ (changeAt x n ok f).1.xNext ≤ x.xNext + 1 := by
  unfold changeAt
  split
  · intro h; cases h
  · split
    · split
      · exact fun h => ⟨(give_ok h).1, by rw [(give_ok h).2]; show x.xNext ≤ x.xNext + 1; omega⟩
      · intro h; cases h
    · intro h; cases h
theorem edited_ok (x : Log) (n s : Int) (t : ByteArray) : (edited x n s t).2 = true → (edited x n s t).1.ok = true ∧ (edited x n s t).1.xNext ≤ x.xNext + 1 := changeAt_ok
theorem takenBack_ok (x : Log) (n s : Int) : (takenBack x n s).2 = true → (takenBack x n s).1.ok = true ∧ (takenBack x n s).1.xNext ≤ x.xNext + 1 := changeAt_ok
theorem liked_ok (x : Log) (n s : Int) (b : Bool) : (liked x n s b).2 = true → (liked x n s b).1.ok = true ∧ (liked x n s b).1.xNext ≤ x.xNext + 1 := changeAt_ok
end
def Drawn (N R : Nat → Prop) (W : World) (b : Nat) (Ac : Option Addr) (nc cc : Nat) (top k : Int) (p q : Pt) (ps : List Pt) (e : Ending) (w' : World) : Prop := ∃ (y : Log) (A' : Option Addr) (n' c' : Nat) (R' : Nat → Prop), e = .returned (.agg #[.int .i64 y.xNext, .slice A' n' c']) ∧ (y.ok = true ∧ y.xNext ≤ top) ∧ (∀ b, R b → R' b) ∧
  Src N R' W w' b Ac nc cc k (p :: q :: .ro (Message.s true y.xMessages) (.slice A' n' c') :: ps)
set_option maxHeartbeats 3200000 in
set_option maxRecDepth 100000 in
theorem spec_l03DrawDo (x : Log) (hx : x.ok = true) (at0 : Int) (bl n c : Nat) (A : Option Addr) (code : List Int) (wf : ∀ n ∈ code, 0 ≤ n ∧ n < 256) (Ac : Option Addr) (nc cc b : Nat) (k : Int) (N R : Nat → Prop) (W w : World) (ps : List Pt)
    (H : Src N R W w b Ac nc cc k (.ro (bytes code) (.slice Ac nc cc) :: .bx bl #[.int .i64 x.xNext, .slice A n c] 41 :: .ro (Message.s true x.xMessages) (.slice A n c) :: ps)) (hk : k ≤ 900000000000) :
    Calls Try.prog 205 #[.pointer (some ⟨b, 0, none⟩), .pointer (some ⟨bl, 0, none⟩), .int .i64 at0] w (Drawn N R W b Ac nc cc (x.xNext + 1) (k + 40) (.ro (bytes code) (.slice Ac nc cc)) (.bx bl #[.int .i64 x.xNext, .slice A n c] 41) ps) := by
  obtain ⟨hfew, hx1, hx2⟩ := Log.few hx
  have hn : n = x.xMessages.length := by
    obtain ⟨a_, s_, -, -, -, HS⟩ := H
    obtain ⟨A0, c0, h2, -⟩ := (HS.lo (.inl (.there (.there (.there .here))))).sl_inv
    injection h2 with _ h2 _
    simpa using h2
  subst hn
  obtain ⟨next, l⟩ := x
  simp only at *
  have hlen : l.length ≤ 9223372036854775807 := by omega
  have HS := H; obtain ⟨at_, sd_, -, -, -, HS⟩ := HS; (try clear hq); have hq := HS.facts; simp only [factsOf, Pt.facts, CellsAt, Nat.add_zero, Nat.zero_add, Nat.reduceAdd, and_true, true_and, List.set_cons_zero, List.set_cons_succ] at hq
  go_enter Try.func205, Try.ntmps205
  have H := Src.box H #[.int .i64 0, .slice none 0 0] 41
  go_wp2_with fail
  refine (spec_l01DrawMember code wf Ac nc cc b _ N _ W _ _ H (by omega)).mono ?_
  rintro e w1 ⟨vm, rfl, hvm, H⟩
  have HS := H; obtain ⟨at_, sd_, -, -, -, HS⟩ := HS; (try clear hq); have hq := HS.facts; simp only [factsOf, Pt.facts, CellsAt, Nat.add_zero, Nat.zero_add, Nat.reduceAdd, and_true, true_and, List.set_cons_zero, List.set_cons_succ] at hq
  go_wp2_with fail
  refine (spec_pick code wf Ac nc cc b _ next N _ W _ _ H (by omega) (by omega)).mono ?_
  rintro e w1 ⟨vn, rfl, hvn, H⟩
  have HS := H; obtain ⟨at_, sd_, -, -, -, HS⟩ := HS; (try clear hq); have hq := HS.facts; simp only [factsOf, Pt.facts, CellsAt, Nat.add_zero, Nat.zero_add, Nat.reduceAdd, and_true, true_and, List.set_cons_zero, List.set_cons_succ] at hq
  by_cases h0 : l.length = 0
  · have hl0 : ((l.length : Int) == 0) = true := by simp [h0]
    clear h0
    go_wp2_with fail
    refine (spec_one 3 code wf Ac nc cc b _ N _ W _ _ H (by omega) (by omega)).mono ?_
    rintro e w1 ⟨v3, rfl, H⟩
    have HS := H; obtain ⟨at_, sd_, -, -, -, HS⟩ := HS; (try clear hq); have hq := HS.facts; simp only [factsOf, Pt.facts, CellsAt, Nat.add_zero, Nat.zero_add, Nat.reduceAdd, and_true, true_and, List.set_cons_zero, List.set_cons_succ] at hq
    cases v3
    · go_wp2_with fail
      refine (spec_l01DrawText code wf Ac nc cc b _ N _ W _ _ H (by omega)).mono ?_
      rintro e w1 ⟨s, rfl, hs, H⟩
      have HS := H; obtain ⟨at_, sd_, -, -, -, HS⟩ := HS; (try clear hq); have hq := HS.facts; simp only [factsOf, Pt.facts, CellsAt, Nat.add_zero, Nat.zero_add, Nat.reduceAdd, and_true, true_and, List.set_cons_zero, List.set_cons_succ] at hq
      go_wp2_with fail
      refine (spec_l03PostR ⟨next, l⟩ vm at0 s 0 bl 0 A c _ ((HS.bx (by repeat (first | with_reducible_and_instances exact .here | with_reducible refine .there ?_))).cell 0 rfl) ((HS.bx (by repeat (first | with_reducible_and_instances exact .here | with_reducible refine .there ?_))).cell 1 rfl) (HS.lo (.inl (by repeat (first | with_reducible_and_instances exact .here | with_reducible refine .there ?_)))) hx (by simp only [maxLen]; omega)).mono ?_
      rintro e w1 ⟨A1, n1, c1, F1, rfl, hO, hb, hF⟩
      have H := Src.addow H hb hO hF
      clear hO hb hF
      have hok := @postedR_ok ⟨next, l⟩ vm at0 0 s
      generalize postedR ⟨next, l⟩ vm at0 s 0 = rr at *
      obtain ⟨y, okb⟩ := rr
      simp only at *
      have HS := H; obtain ⟨at_, sd_, -, -, -, HS⟩ := HS; (try clear hq); have hq := HS.facts; simp only [factsOf, Pt.facts, CellsAt, Nat.add_zero, Nat.zero_add, Nat.reduceAdd, and_true, true_and, List.set_cons_zero, List.set_cons_succ] at hq
      cases okb
      · clear hok
        go_wp2
        obtain ⟨at_, sd_, x1, x2, x3, HS⟩ := H
        refine bodyPost_ret (v := .agg #[.int .i64 next, .slice A l.length c]) (by simp [results, Try.results205, go_sem, hq]) rfl ?_
        refine ⟨⟨next, l⟩, A, l.length, c, R, rfl, ⟨hx, by show next ≤ next + 1; omega⟩, fun _ h => h, at_, sd_, x1, by omega, x3, ?_⟩
        have H3 := (((HS.pull (k := 3) rfl).put 0 (.int .i64 next)).put 1 (.slice A l.length c)).junk (.cells #[.int .i64 y.xNext, .slice A1 n1 c1] 41)
        simp only [List.set_cons_zero, List.set_cons_succ] at H3
        apply St.sub2 (qs := [.bx b _ _, .ro _ _, .bx bl _ 41, .ro _ _]) (h := H3)
        · repeat (first | exact Pick.nil | with_reducible_and_instances exact Del.here | apply Pick.cons | with_reducible apply Del.there)
        · repeat (first | exact Tail.here | apply Tail.there)
      · have hyo := Lib.hid (hok rfl)
        clear hok
        go_wp2
        obtain ⟨R', hR, H⟩ := Src.freeze H
        obtain ⟨at_, sd_, x1, x2, x3, HS⟩ := H
        refine bodyPost_ret (v := .agg #[.int .i64 y.xNext, .slice A1 n1 c1]) (by simp [results, Try.results205, go_sem, hq]) rfl ?_
        refine ⟨y, A1, n1, c1, R', rfl, ⟨hyo.out.1, hyo.out.2⟩, hR, at_, sd_, x1, by omega, x3, ?_⟩
        have H3 := (((HS.pull (k := 3) rfl).put 0 (.int .i64 y.xNext)).put 1 (.slice A1 n1 c1)).junk (.cells #[.int .i64 y.xNext, .slice A1 n1 c1] 41)
        simp only [List.set_cons_zero, List.set_cons_succ] at H3
        apply St.sub2 (qs := [.bx b _ _, .ro _ _, .bx bl _ 41, .ro _ _]) (h := H3)
        · repeat (first | exact Pick.nil | with_reducible_and_instances exact Del.here | apply Pick.cons | with_reducible apply Del.there)
        · repeat (first | exact Tail.here | apply Tail.there)
    · go_wp2_with fail
      refine (spec_l01DrawText code wf Ac nc cc b _ N _ W _ _ H (by omega)).mono ?_
      rintro e w1 ⟨s, rfl, hs, H⟩
      have HS := H; obtain ⟨at_, sd_, -, -, -, HS⟩ := HS; (try clear hq); have hq := HS.facts; simp only [factsOf, Pt.facts, CellsAt, Nat.add_zero, Nat.zero_add, Nat.reduceAdd, and_true, true_and, List.set_cons_zero, List.set_cons_succ] at hq
      go_wp2_with fail
      refine (spec_l03PostR ⟨next, l⟩ vm at0 s (1 + vn) bl 0 A c _ ((HS.bx (by repeat (first | with_reducible_and_instances exact .here | with_reducible refine .there ?_))).cell 0 rfl) ((HS.bx (by repeat (first | with_reducible_and_instances exact .here | with_reducible refine .there ?_))).cell 1 rfl) (HS.lo (.inl (by repeat (first | with_reducible_and_instances exact .here | with_reducible refine .there ?_)))) hx (by simp only [maxLen]; omega)).mono ?_
      rintro e w1 ⟨A1, n1, c1, F1, rfl, hO, hb, hF⟩
      have H := Src.addow H hb hO hF
      clear hO hb hF
      have hok := @postedR_ok ⟨next, l⟩ vm at0 (1 + vn) s
      generalize postedR ⟨next, l⟩ vm at0 s (1 + vn) = rr at *
      obtain ⟨y, okb⟩ := rr
      simp only at *
      have HS := H; obtain ⟨at_, sd_, -, -, -, HS⟩ := HS; (try clear hq); have hq := HS.facts; simp only [factsOf, Pt.facts, CellsAt, Nat.add_zero, Nat.zero_add, Nat.reduceAdd, and_true, true_and, List.set_cons_zero, List.set_cons_succ] at hq
      cases okb
      · clear hok
        go_wp2
        obtain ⟨at_, sd_, x1, x2, x3, HS⟩ := H
        refine bodyPost_ret (v := .agg #[.int .i64 next, .slice A l.length c]) (by simp [results, Try.results205, go_sem, hq]) rfl ?_
        refine ⟨⟨next, l⟩, A, l.length, c, R, rfl, ⟨hx, by show next ≤ next + 1; omega⟩, fun _ h => h, at_, sd_, x1, by omega, x3, ?_⟩
        have H3 := (((HS.pull (k := 3) rfl).put 0 (.int .i64 next)).put 1 (.slice A l.length c)).junk (.cells #[.int .i64 y.xNext, .slice A1 n1 c1] 41)
        simp only [List.set_cons_zero, List.set_cons_succ] at H3
        apply St.sub2 (qs := [.bx b _ _, .ro _ _, .bx bl _ 41, .ro _ _]) (h := H3)
        · repeat (first | exact Pick.nil | with_reducible_and_instances exact Del.here | apply Pick.cons | with_reducible apply Del.there)
        · repeat (first | exact Tail.here | apply Tail.there)
      · have hyo := Lib.hid (hok rfl)
        clear hok
        go_wp2
        obtain ⟨R', hR, H⟩ := Src.freeze H
        obtain ⟨at_, sd_, x1, x2, x3, HS⟩ := H
        refine bodyPost_ret (v := .agg #[.int .i64 y.xNext, .slice A1 n1 c1]) (by simp [results, Try.results205, go_sem, hq]) rfl ?_
        refine ⟨y, A1, n1, c1, R', rfl, ⟨hyo.out.1, hyo.out.2⟩, hR, at_, sd_, x1, by omega, x3, ?_⟩
        have H3 := (((HS.pull (k := 3) rfl).put 0 (.int .i64 y.xNext)).put 1 (.slice A1 n1 c1)).junk (.cells #[.int .i64 y.xNext, .slice A1 n1 c1] 41)
        simp only [List.set_cons_zero, List.set_cons_succ] at H3
        apply St.sub2 (qs := [.bx b _ _, .ro _ _, .bx bl _ 41, .ro _ _]) (h := H3)
        · repeat (first | exact Pick.nil | with_reducible_and_instances exact Del.here | apply Pick.cons | with_reducible apply Del.there)
        · repeat (first | exact Tail.here | apply Tail.there)
  · have hl0 : ((l.length : Int) == 0) = false := beq_false_of_ne (by omega)
    go_wp2_with fail
    refine (spec_one 2 code wf Ac nc cc b _ N _ W _ _ H (by omega) (by omega)).mono ?_
    rintro e w1 ⟨v2, rfl, H⟩
    have HS := H; obtain ⟨at_, sd_, -, -, -, HS⟩ := HS; (try clear hq); have hq := HS.facts; simp only [factsOf, Pt.facts, CellsAt, Nat.add_zero, Nat.zero_add, Nat.reduceAdd, and_true, true_and, List.set_cons_zero, List.set_cons_succ] at hq
    cases v2
    rotate_left
    · go_wp2_with fail
      refine (spec_one 3 code wf Ac nc cc b _ N _ W _ _ H (by omega) (by omega)).mono ?_
      rintro e w1 ⟨v3, rfl, H⟩
      have HS := H; obtain ⟨at_, sd_, -, -, -, HS⟩ := HS; (try clear hq); have hq := HS.facts; simp only [factsOf, Pt.facts, CellsAt, Nat.add_zero, Nat.zero_add, Nat.reduceAdd, and_true, true_and, List.set_cons_zero, List.set_cons_succ] at hq
      cases v3
      · go_wp2_with fail
        refine (spec_l01DrawText code wf Ac nc cc b _ N _ W _ _ H (by omega)).mono ?_
        rintro e w1 ⟨s, rfl, hs, H⟩
        have HS := H; obtain ⟨at_, sd_, -, -, -, HS⟩ := HS; (try clear hq); have hq := HS.facts; simp only [factsOf, Pt.facts, CellsAt, Nat.add_zero, Nat.zero_add, Nat.reduceAdd, and_true, true_and, List.set_cons_zero, List.set_cons_succ] at hq
        go_wp2_with fail
        refine (spec_l03PostR ⟨next, l⟩ vm at0 s 0 bl 0 A c _ ((HS.bx (by repeat (first | with_reducible_and_instances exact .here | with_reducible refine .there ?_))).cell 0 rfl) ((HS.bx (by repeat (first | with_reducible_and_instances exact .here | with_reducible refine .there ?_))).cell 1 rfl) (HS.lo (.inl (by repeat (first | with_reducible_and_instances exact .here | with_reducible refine .there ?_)))) hx (by simp only [maxLen]; omega)).mono ?_
        rintro e w1 ⟨A1, n1, c1, F1, rfl, hO, hb, hF⟩
        have H := Src.addow H hb hO hF
        clear hO hb hF
        have hok := @postedR_ok ⟨next, l⟩ vm at0 0 s
        generalize postedR ⟨next, l⟩ vm at0 s 0 = rr at *
        obtain ⟨y, okb⟩ := rr
        simp only at *
        have HS := H; obtain ⟨at_, sd_, -, -, -, HS⟩ := HS; (try clear hq); have hq := HS.facts; simp only [factsOf, Pt.facts, CellsAt, Nat.add_zero, Nat.zero_add, Nat.reduceAdd, and_true, true_and, List.set_cons_zero, List.set_cons_succ] at hq
        cases okb
        · clear hok
          go_wp2
          obtain ⟨at_, sd_, x1, x2, x3, HS⟩ := H
          refine bodyPost_ret (v := .agg #[.int .i64 next, .slice A l.length c]) (by simp [results, Try.results205, go_sem, hq]) rfl ?_
          refine ⟨⟨next, l⟩, A, l.length, c, R, rfl, ⟨hx, by show next ≤ next + 1; omega⟩, fun _ h => h, at_, sd_, x1, by omega, x3, ?_⟩
          have H3 := (((HS.pull (k := 3) rfl).put 0 (.int .i64 next)).put 1 (.slice A l.length c)).junk (.cells #[.int .i64 y.xNext, .slice A1 n1 c1] 41)
          simp only [List.set_cons_zero, List.set_cons_succ] at H3
          apply St.sub2 (qs := [.bx b _ _, .ro _ _, .bx bl _ 41, .ro _ _]) (h := H3)
          · repeat (first | exact Pick.nil | with_reducible_and_instances exact Del.here | apply Pick.cons | with_reducible apply Del.there)
          · repeat (first | exact Tail.here | apply Tail.there)
        · have hyo := Lib.hid (hok rfl)
          clear hok
          go_wp2
          obtain ⟨R', hR, H⟩ := Src.freeze H
          obtain ⟨at_, sd_, x1, x2, x3, HS⟩ := H
          refine bodyPost_ret (v := .agg #[.int .i64 y.xNext, .slice A1 n1 c1]) (by simp [results, Try.results205, go_sem, hq]) rfl ?_
          refine ⟨y, A1, n1, c1, R', rfl, ⟨hyo.out.1, hyo.out.2⟩, hR, at_, sd_, x1, by omega, x3, ?_⟩
          have H3 := (((HS.pull (k := 3) rfl).put 0 (.int .i64 y.xNext)).put 1 (.slice A1 n1 c1)).junk (.cells #[.int .i64 y.xNext, .slice A1 n1 c1] 41)
          simp only [List.set_cons_zero, List.set_cons_succ] at H3
          apply St.sub2 (qs := [.bx b _ _, .ro _ _, .bx bl _ 41, .ro _ _]) (h := H3)
          · repeat (first | exact Pick.nil | with_reducible_and_instances exact Del.here | apply Pick.cons | with_reducible apply Del.there)
          · repeat (first | exact Tail.here | apply Tail.there)
      · go_wp2_with fail
        refine (spec_l01DrawText code wf Ac nc cc b _ N _ W _ _ H (by omega)).mono ?_
        rintro e w1 ⟨s, rfl, hs, H⟩
        have HS := H; obtain ⟨at_, sd_, -, -, -, HS⟩ := HS; (try clear hq); have hq := HS.facts; simp only [factsOf, Pt.facts, CellsAt, Nat.add_zero, Nat.zero_add, Nat.reduceAdd, and_true, true_and, List.set_cons_zero, List.set_cons_succ] at hq
        go_wp2_with fail
        refine (spec_l03PostR ⟨next, l⟩ vm at0 s (1 + vn) bl 0 A c _ ((HS.bx (by repeat (first | with_reducible_and_instances exact .here | with_reducible refine .there ?_))).cell 0 rfl) ((HS.bx (by repeat (first | with_reducible_and_instances exact .here | with_reducible refine .there ?_))).cell 1 rfl) (HS.lo (.inl (by repeat (first | with_reducible_and_instances exact .here | with_reducible refine .there ?_)))) hx (by simp only [maxLen]; omega)).mono ?_
        rintro e w1 ⟨A1, n1, c1, F1, rfl, hO, hb, hF⟩
        have H := Src.addow H hb hO hF
        clear hO hb hF
        have hok := @postedR_ok ⟨next, l⟩ vm at0 (1 + vn) s
        generalize postedR ⟨next, l⟩ vm at0 s (1 + vn) = rr at *
        obtain ⟨y, okb⟩ := rr
        simp only at *
        have HS := H; obtain ⟨at_, sd_, -, -, -, HS⟩ := HS; (try clear hq); have hq := HS.facts; simp only [factsOf, Pt.facts, CellsAt, Nat.add_zero, Nat.zero_add, Nat.reduceAdd, and_true, true_and, List.set_cons_zero, List.set_cons_succ] at hq
        cases okb
        · clear hok
          go_wp2
          obtain ⟨at_, sd_, x1, x2, x3, HS⟩ := H
          refine bodyPost_ret (v := .agg #[.int .i64 next, .slice A l.length c]) (by simp [results, Try.results205, go_sem, hq]) rfl ?_
          refine ⟨⟨next, l⟩, A, l.length, c, R, rfl, ⟨hx, by show next ≤ next + 1; omega⟩, fun _ h => h, at_, sd_, x1, by omega, x3, ?_⟩
          have H3 := (((HS.pull (k := 3) rfl).put 0 (.int .i64 next)).put 1 (.slice A l.length c)).junk (.cells #[.int .i64 y.xNext, .slice A1 n1 c1] 41)
          simp only [List.set_cons_zero, List.set_cons_succ] at H3
          apply St.sub2 (qs := [.bx b _ _, .ro _ _, .bx bl _ 41, .ro _ _]) (h := H3)
          · repeat (first | exact Pick.nil | with_reducible_and_instances exact Del.here | apply Pick.cons | with_reducible apply Del.there)
          · repeat (first | exact Tail.here | apply Tail.there)
        · have hyo := Lib.hid (hok rfl)
          clear hok
          go_wp2
          obtain ⟨R', hR, H⟩ := Src.freeze H
          obtain ⟨at_, sd_, x1, x2, x3, HS⟩ := H
          refine bodyPost_ret (v := .agg #[.int .i64 y.xNext, .slice A1 n1 c1]) (by simp [results, Try.results205, go_sem, hq]) rfl ?_
          refine ⟨y, A1, n1, c1, R', rfl, ⟨hyo.out.1, hyo.out.2⟩, hR, at_, sd_, x1, by omega, x3, ?_⟩
          have H3 := (((HS.pull (k := 3) rfl).put 0 (.int .i64 y.xNext)).put 1 (.slice A1 n1 c1)).junk (.cells #[.int .i64 y.xNext, .slice A1 n1 c1] 41)
          simp only [List.set_cons_zero, List.set_cons_succ] at H3
          apply St.sub2 (qs := [.bx b _ _, .ro _ _, .bx bl _ 41, .ro _ _]) (h := H3)
          · repeat (first | exact Pick.nil | with_reducible_and_instances exact Del.here | apply Pick.cons | with_reducible apply Del.there)
          · repeat (first | exact Tail.here | apply Tail.there)
    have hmc := (HS.lo (d := Message.s true l) (v := .slice A l.length c) (.inl (by repeat (first | with_reducible_and_instances exact .here | with_reducible refine .there ?_)))).sl_max
    have hlc := (HS.lo (d := Message.s true l) (v := .slice A l.length c) (.inl (by repeat (first | with_reducible_and_instances exact .here | with_reducible refine .there ?_)))).sl_cap
    go_wp2_with fail
    refine (spec_l03Find l (1 + vn) bl 0 A c _ ((HS.bx (cs := #[.int .i64 next, .slice A l.length c]) (t := 41) (b := bl) (by repeat (first | with_reducible_and_instances exact .here | with_reducible refine .there ?_))).cell 1 rfl) (HS.lo (.inl (by repeat (first | with_reducible_and_instances exact .here | with_reducible refine .there ?_)))) hmc hlc).mono ?_
    rintro e w1 ⟨rfl, hb⟩
    have H := Src.below H hb
    clear hb
    rcases num_cases l (1 + vn) with hnum | ⟨j, m, hnum, hm, -⟩
    · rw [hnum]
      have HS := H; obtain ⟨at_, sd_, -, -, -, HS⟩ := HS; (try clear hq); have hq := HS.facts; simp only [factsOf, Pt.facts, CellsAt, Nat.add_zero, Nat.zero_add, Nat.reduceAdd, and_true, true_and, List.set_cons_zero, List.set_cons_succ] at hq
      go_wp2_with fail
      refine (spec_pick code wf Ac nc cc b _ 4 N _ W _ _ (Src.box H _ _) (by omega) (by omega)).mono ?_
      rintro e w1 ⟨v4, rfl, hv4, H⟩
      have HS := H; obtain ⟨at_, sd_, -, -, -, HS⟩ := HS; (try clear hq); have hq := HS.facts; simp only [factsOf, Pt.facts, CellsAt, Nat.add_zero, Nat.zero_add, Nat.reduceAdd, and_true, true_and, List.set_cons_zero, List.set_cons_succ] at hq
      by_cases e0 : v4 = 0
      · subst e0
        go_wp2_with fail
        refine (spec_l01DrawText code wf Ac nc cc b _ N _ W _ _ H (by omega)).mono ?_
        rintro e w1 ⟨s, rfl, hs, H⟩
        have HS := H; obtain ⟨at_, sd_, -, -, -, HS⟩ := HS; (try clear hq); have hq := HS.facts; simp only [factsOf, Pt.facts, CellsAt, Nat.add_zero, Nat.zero_add, Nat.reduceAdd, and_true, true_and, List.set_cons_zero, List.set_cons_succ] at hq
        go_wp2_with fail
        refine (spec_l03Edit ⟨next, l⟩ (1 + vn) (vm) s bl 0 A c _ ((HS.bx (cs := #[.int .i64 next, .slice A l.length c]) (t := 41) (b := bl) (by repeat (first | with_reducible_and_instances exact .here | with_reducible refine .there ?_))).cell 0 rfl) ((HS.bx (cs := #[.int .i64 next, .slice A l.length c]) (t := 41) (b := bl) (by repeat (first | with_reducible_and_instances exact .here | with_reducible refine .there ?_))).cell 1 rfl) (HS.lo (.inl (by repeat (first | with_reducible_and_instances exact .here | with_reducible refine .there ?_)))) hx (by simp only [maxLen]; omega)).mono ?_
        rintro e w1 ⟨A1, n1, c1, F1, rfl, hO, hb, hF⟩
        have H := Src.addow H hb hO hF
        clear hO hb hF
        have hok := @edited_ok ⟨next, l⟩ (1 + vn) (vm) s
        generalize edited ⟨next, l⟩ (1 + vn) (vm) s = rr at *
        obtain ⟨y, okb⟩ := rr
        simp only at *
        have HS := H; obtain ⟨at_, sd_, -, -, -, HS⟩ := HS; (try clear hq); have hq := HS.facts; simp only [factsOf, Pt.facts, CellsAt, Nat.add_zero, Nat.zero_add, Nat.reduceAdd, and_true, true_and, List.set_cons_zero, List.set_cons_succ] at hq
        have HP := HS.pull (k := 3) rfl
        simp only [List.set_cons_zero, List.set_cons_succ] at HP
        have hne1 := HP.ne (b' := bl) (cs' := #[.int .i64 next, .slice A l.length c]) (t' := 41) (by repeat (first | with_reducible_and_instances exact .here | with_reducible refine .there ?_))
        have hne2 := HP.ne (b' := w.heap.size) (cs' := #[.int .i64 0, .slice none 0 0]) (t' := 41) (by repeat (first | with_reducible_and_instances exact .here | with_reducible refine .there ?_))
        have hne3 := hne1.symm
        have hne4 := hne2.symm
        cases okb
        · clear hok
          go_wp2
          obtain ⟨at_, sd_, x1, x2, x3, HS⟩ := H
          refine bodyPost_ret (v := .agg #[.int .i64 next, .slice A l.length c]) (by simp [results, Try.results205, go_sem, hq]) rfl ?_
          refine ⟨⟨next, l⟩, A, l.length, c, R, rfl, ⟨hx, by show next ≤ next + 1; omega⟩, fun _ h => h, at_, sd_, x1, by omega, x3, ?_⟩
          have H3 := ((HS.pull (k := 3) rfl).put 0 (.int .i64 y.xNext)).put 1 (.slice A1 n1 c1)
          simp only [List.set_cons_zero, List.set_cons_succ] at H3
          have H3 := ((H3.pull (k := 5) rfl).put 0 (.int .i64 next)).put 1 (.slice A l.length c)
          simp only [List.set_cons_zero, List.set_cons_succ] at H3
          apply St.sub2 (qs := [.bx b _ _, .ro _ _, .bx bl _ 41, .ro _ _]) (h := H3)
          · repeat (first | exact Pick.nil | with_reducible_and_instances exact Del.here | apply Pick.cons | with_reducible apply Del.there)
          · repeat (first | exact Tail.here | apply Tail.there)
        · have hyo := Lib.hid (hok rfl)
          clear hok
          go_wp2
          obtain ⟨R', hR, H⟩ := Src.freeze H
          obtain ⟨at_, sd_, x1, x2, x3, HS⟩ := H
          refine bodyPost_ret (v := .agg #[.int .i64 y.xNext, .slice A1 n1 c1]) (by simp [results, Try.results205, go_sem, hq]) rfl ?_
          refine ⟨y, A1, n1, c1, R', rfl, ⟨hyo.out.1, hyo.out.2⟩, hR, at_, sd_, x1, by omega, x3, ?_⟩
          have H3 := ((HS.pull (k := 3) rfl).put 0 (.int .i64 y.xNext)).put 1 (.slice A1 n1 c1)
          simp only [List.set_cons_zero, List.set_cons_succ] at H3
          have H3 := ((H3.pull (k := 5) rfl).put 0 (.int .i64 y.xNext)).put 1 (.slice A1 n1 c1)
          simp only [List.set_cons_zero, List.set_cons_succ] at H3
          apply St.sub2 (qs := [.bx b _ _, .ro _ _, .bx bl _ 41, .ro _ _]) (h := H3)
          · repeat (first | exact Pick.nil | with_reducible_and_instances exact Del.here | apply Pick.cons | with_reducible apply Del.there)
          · repeat (first | exact Tail.here | apply Tail.there)
      · have g0 : (v4 == 0) = false := by simp [e0]
        by_cases e1 : v4 = 1
        · subst e1
          go_wp2_with fail
          refine (spec_l03TakeBack ⟨next, l⟩ (1 + vn) (vm) bl 0 A c _ ((HS.bx (cs := #[.int .i64 next, .slice A l.length c]) (t := 41) (b := bl) (by repeat (first | with_reducible_and_instances exact .here | with_reducible refine .there ?_))).cell 0 rfl) ((HS.bx (cs := #[.int .i64 next, .slice A l.length c]) (t := 41) (b := bl) (by repeat (first | with_reducible_and_instances exact .here | with_reducible refine .there ?_))).cell 1 rfl) (HS.lo (.inl (by repeat (first | with_reducible_and_instances exact .here | with_reducible refine .there ?_)))) hx).mono ?_
          rintro e w1 ⟨A1, n1, c1, F1, rfl, hO, hb, hF⟩
          have H := Src.addow H hb hO hF
          clear hO hb hF
          have hok := @takenBack_ok ⟨next, l⟩ (1 + vn) (vm)
          generalize takenBack ⟨next, l⟩ (1 + vn) (vm) = rr at *
          obtain ⟨y, okb⟩ := rr
          simp only at *
          have HS := H; obtain ⟨at_, sd_, -, -, -, HS⟩ := HS; (try clear hq); have hq := HS.facts; simp only [factsOf, Pt.facts, CellsAt, Nat.add_zero, Nat.zero_add, Nat.reduceAdd, and_true, true_and, List.set_cons_zero, List.set_cons_succ] at hq
          have HP := HS.pull (k := 3) rfl
          simp only [List.set_cons_zero, List.set_cons_succ] at HP
          have hne1 := HP.ne (b' := bl) (cs' := #[.int .i64 next, .slice A l.length c]) (t' := 41) (by repeat (first | with_reducible_and_instances exact .here | with_reducible refine .there ?_))
          have hne2 := HP.ne (b' := w.heap.size) (cs' := #[.int .i64 0, .slice none 0 0]) (t' := 41) (by repeat (first | with_reducible_and_instances exact .here | with_reducible refine .there ?_))
          have hne3 := hne1.symm
          have hne4 := hne2.symm
          cases okb
          · clear hok
            go_wp2
            obtain ⟨at_, sd_, x1, x2, x3, HS⟩ := H
            refine bodyPost_ret (v := .agg #[.int .i64 next, .slice A l.length c]) (by simp [results, Try.results205, go_sem, hq]) rfl ?_
            refine ⟨⟨next, l⟩, A, l.length, c, R, rfl, ⟨hx, by show next ≤ next + 1; omega⟩, fun _ h => h, at_, sd_, x1, by omega, x3, ?_⟩
            have H3 := ((HS.pull (k := 3) rfl).put 0 (.int .i64 y.xNext)).put 1 (.slice A1 n1 c1)
            simp only [List.set_cons_zero, List.set_cons_succ] at H3
            have H3 := ((H3.pull (k := 5) rfl).put 0 (.int .i64 next)).put 1 (.slice A l.length c)
            simp only [List.set_cons_zero, List.set_cons_succ] at H3
            apply St.sub2 (qs := [.bx b _ _, .ro _ _, .bx bl _ 41, .ro _ _]) (h := H3)
            · repeat (first | exact Pick.nil | with_reducible_and_instances exact Del.here | apply Pick.cons | with_reducible apply Del.there)
            · repeat (first | exact Tail.here | apply Tail.there)
          · have hyo := Lib.hid (hok rfl)
            clear hok
            go_wp2
            obtain ⟨R', hR, H⟩ := Src.freeze H
            obtain ⟨at_, sd_, x1, x2, x3, HS⟩ := H
            refine bodyPost_ret (v := .agg #[.int .i64 y.xNext, .slice A1 n1 c1]) (by simp [results, Try.results205, go_sem, hq]) rfl ?_
            refine ⟨y, A1, n1, c1, R', rfl, ⟨hyo.out.1, hyo.out.2⟩, hR, at_, sd_, x1, by omega, x3, ?_⟩
            have H3 := ((HS.pull (k := 3) rfl).put 0 (.int .i64 y.xNext)).put 1 (.slice A1 n1 c1)
            simp only [List.set_cons_zero, List.set_cons_succ] at H3
            have H3 := ((H3.pull (k := 5) rfl).put 0 (.int .i64 y.xNext)).put 1 (.slice A1 n1 c1)
            simp only [List.set_cons_zero, List.set_cons_succ] at H3
            apply St.sub2 (qs := [.bx b _ _, .ro _ _, .bx bl _ 41, .ro _ _]) (h := H3)
            · repeat (first | exact Pick.nil | with_reducible_and_instances exact Del.here | apply Pick.cons | with_reducible apply Del.there)
            · repeat (first | exact Tail.here | apply Tail.there)
        · have g1 : (v4 == 1) = false := by simp [e1]
          go_wp2_with fail
          refine (spec_one 4 code wf Ac nc cc b _ N _ W _ _ H (by omega) (by omega)).mono ?_
          rintro e w1 ⟨v5, rfl, H⟩
          have HS := H; obtain ⟨at_, sd_, -, -, -, HS⟩ := HS; (try clear hq); have hq := HS.facts; simp only [factsOf, Pt.facts, CellsAt, Nat.add_zero, Nat.zero_add, Nat.reduceAdd, and_true, true_and, List.set_cons_zero, List.set_cons_succ] at hq
          go_wp2_with fail
          refine (spec_l03Like ⟨next, l⟩ (1 + vn) (vm) (!v5) bl 0 A c _ ((HS.bx (cs := #[.int .i64 next, .slice A l.length c]) (t := 41) (b := bl) (by repeat (first | with_reducible_and_instances exact .here | with_reducible refine .there ?_))).cell 0 rfl) ((HS.bx (cs := #[.int .i64 next, .slice A l.length c]) (t := 41) (b := bl) (by repeat (first | with_reducible_and_instances exact .here | with_reducible refine .there ?_))).cell 1 rfl) (HS.lo (.inl (by repeat (first | with_reducible_and_instances exact .here | with_reducible refine .there ?_)))) hx).mono ?_
          rintro e w1 ⟨A1, n1, c1, F1, rfl, hO, hb, hF⟩
          have H := Src.addow H hb hO hF
          clear hO hb hF
          have hok := @liked_ok ⟨next, l⟩ (1 + vn) (vm) (!v5)
          generalize liked ⟨next, l⟩ (1 + vn) (vm) (!v5) = rr at *
          obtain ⟨y, okb⟩ := rr
          simp only at *
          have HS := H; obtain ⟨at_, sd_, -, -, -, HS⟩ := HS; (try clear hq); have hq := HS.facts; simp only [factsOf, Pt.facts, CellsAt, Nat.add_zero, Nat.zero_add, Nat.reduceAdd, and_true, true_and, List.set_cons_zero, List.set_cons_succ] at hq
          have HP := HS.pull (k := 3) rfl
          simp only [List.set_cons_zero, List.set_cons_succ] at HP
          have hne1 := HP.ne (b' := bl) (cs' := #[.int .i64 next, .slice A l.length c]) (t' := 41) (by repeat (first | with_reducible_and_instances exact .here | with_reducible refine .there ?_))
          have hne2 := HP.ne (b' := w.heap.size) (cs' := #[.int .i64 0, .slice none 0 0]) (t' := 41) (by repeat (first | with_reducible_and_instances exact .here | with_reducible refine .there ?_))
          have hne3 := hne1.symm
          have hne4 := hne2.symm
          cases okb
          · clear hok
            go_wp2
            obtain ⟨at_, sd_, x1, x2, x3, HS⟩ := H
            refine bodyPost_ret (v := .agg #[.int .i64 next, .slice A l.length c]) (by simp [results, Try.results205, go_sem, hq]) rfl ?_
            refine ⟨⟨next, l⟩, A, l.length, c, R, rfl, ⟨hx, by show next ≤ next + 1; omega⟩, fun _ h => h, at_, sd_, x1, by omega, x3, ?_⟩
            have H3 := ((HS.pull (k := 3) rfl).put 0 (.int .i64 y.xNext)).put 1 (.slice A1 n1 c1)
            simp only [List.set_cons_zero, List.set_cons_succ] at H3
            have H3 := ((H3.pull (k := 5) rfl).put 0 (.int .i64 next)).put 1 (.slice A l.length c)
            simp only [List.set_cons_zero, List.set_cons_succ] at H3
            apply St.sub2 (qs := [.bx b _ _, .ro _ _, .bx bl _ 41, .ro _ _]) (h := H3)
            · repeat (first | exact Pick.nil | with_reducible_and_instances exact Del.here | apply Pick.cons | with_reducible apply Del.there)
            · repeat (first | exact Tail.here | apply Tail.there)
          · have hyo := Lib.hid (hok rfl)
            clear hok
            go_wp2
            obtain ⟨R', hR, H⟩ := Src.freeze H
            obtain ⟨at_, sd_, x1, x2, x3, HS⟩ := H
            refine bodyPost_ret (v := .agg #[.int .i64 y.xNext, .slice A1 n1 c1]) (by simp [results, Try.results205, go_sem, hq]) rfl ?_
            refine ⟨y, A1, n1, c1, R', rfl, ⟨hyo.out.1, hyo.out.2⟩, hR, at_, sd_, x1, by omega, x3, ?_⟩
            have H3 := ((HS.pull (k := 3) rfl).put 0 (.int .i64 y.xNext)).put 1 (.slice A1 n1 c1)
            simp only [List.set_cons_zero, List.set_cons_succ] at H3
            have H3 := ((H3.pull (k := 5) rfl).put 0 (.int .i64 y.xNext)).put 1 (.slice A1 n1 c1)
            simp only [List.set_cons_zero, List.set_cons_succ] at H3
            apply St.sub2 (qs := [.bx b _ _, .ro _ _, .bx bl _ 41, .ro _ _]) (h := H3)
            · repeat (first | exact Pick.nil | with_reducible_and_instances exact Del.here | apply Pick.cons | with_reducible apply Del.there)
            · repeat (first | exact Tail.here | apply Tail.there)
    · rw [hnum]
      have hj := (List.getElem?_eq_some_iff.1 hm).1
      have hj' : (j : Int) < (l.length : Int) := by omega
      clear hnum
      have HS := H; obtain ⟨at_, sd_, -, -, -, HS⟩ := HS; (try clear hq); have hq := HS.facts; simp only [factsOf, Pt.facts, CellsAt, Nat.add_zero, Nat.zero_add, Nat.reduceAdd, and_true, true_and, List.set_cons_zero, List.set_cons_succ] at hq
      go_wp2_with fail
      refine (spec_one 2 code wf Ac nc cc b _ N _ W _ _ H (by omega) (by omega)).mono ?_
      rintro e w1 ⟨v6, rfl, H⟩
      have HS := H; obtain ⟨at_, sd_, -, -, -, HS⟩ := HS; (try clear hq); have hq := HS.facts; simp only [factsOf, Pt.facts, CellsAt, Nat.add_zero, Nat.zero_add, Nat.reduceAdd, and_true, true_and, List.set_cons_zero, List.set_cons_succ] at hq
      cases v6
      · clear hm
        go_wp2_with fail
        refine (spec_pick code wf Ac nc cc b _ 4 N _ W _ _ (Src.box H _ _) (by omega) (by omega)).mono ?_
        rintro e w1 ⟨v4, rfl, hv4, H⟩
        have HS := H; obtain ⟨at_, sd_, -, -, -, HS⟩ := HS; (try clear hq); have hq := HS.facts; simp only [factsOf, Pt.facts, CellsAt, Nat.add_zero, Nat.zero_add, Nat.reduceAdd, and_true, true_and, List.set_cons_zero, List.set_cons_succ] at hq
        by_cases e0 : v4 = 0
        · subst e0
          go_wp2_with fail
          refine (spec_l01DrawText code wf Ac nc cc b _ N _ W _ _ H (by omega)).mono ?_
          rintro e w1 ⟨s, rfl, hs, H⟩
          have HS := H; obtain ⟨at_, sd_, -, -, -, HS⟩ := HS; (try clear hq); have hq := HS.facts; simp only [factsOf, Pt.facts, CellsAt, Nat.add_zero, Nat.zero_add, Nat.reduceAdd, and_true, true_and, List.set_cons_zero, List.set_cons_succ] at hq
          go_wp2_with fail
          refine (spec_l03Edit ⟨next, l⟩ (1 + vn) (vm) s bl 0 A c _ ((HS.bx (cs := #[.int .i64 next, .slice A l.length c]) (t := 41) (b := bl) (by repeat (first | with_reducible_and_instances exact .here | with_reducible refine .there ?_))).cell 0 rfl) ((HS.bx (cs := #[.int .i64 next, .slice A l.length c]) (t := 41) (b := bl) (by repeat (first | with_reducible_and_instances exact .here | with_reducible refine .there ?_))).cell 1 rfl) (HS.lo (.inl (by repeat (first | with_reducible_and_instances exact .here | with_reducible refine .there ?_)))) hx (by simp only [maxLen]; omega)).mono ?_
          rintro e w1 ⟨A1, n1, c1, F1, rfl, hO, hb, hF⟩
          have H := Src.addow H hb hO hF
          clear hO hb hF
          have hok := @edited_ok ⟨next, l⟩ (1 + vn) (vm) s
          generalize edited ⟨next, l⟩ (1 + vn) (vm) s = rr at *
          obtain ⟨y, okb⟩ := rr
          simp only at *
          have HS := H; obtain ⟨at_, sd_, -, -, -, HS⟩ := HS; (try clear hq); have hq := HS.facts; simp only [factsOf, Pt.facts, CellsAt, Nat.add_zero, Nat.zero_add, Nat.reduceAdd, and_true, true_and, List.set_cons_zero, List.set_cons_succ] at hq
          have HP := HS.pull (k := 3) rfl
          simp only [List.set_cons_zero, List.set_cons_succ] at HP
          have hne1 := HP.ne (b' := bl) (cs' := #[.int .i64 next, .slice A l.length c]) (t' := 41) (by repeat (first | with_reducible_and_instances exact .here | with_reducible refine .there ?_))
          have hne2 := HP.ne (b' := w.heap.size) (cs' := #[.int .i64 0, .slice none 0 0]) (t' := 41) (by repeat (first | with_reducible_and_instances exact .here | with_reducible refine .there ?_))
          have hne3 := hne1.symm
          have hne4 := hne2.symm
          cases okb
          · clear hok
            go_wp2
            obtain ⟨at_, sd_, x1, x2, x3, HS⟩ := H
            refine bodyPost_ret (v := .agg #[.int .i64 next, .slice A l.length c]) (by simp [results, Try.results205, go_sem, hq]) rfl ?_
            refine ⟨⟨next, l⟩, A, l.length, c, R, rfl, ⟨hx, by show next ≤ next + 1; omega⟩, fun _ h => h, at_, sd_, x1, by omega, x3, ?_⟩
            have H3 := ((HS.pull (k := 3) rfl).put 0 (.int .i64 y.xNext)).put 1 (.slice A1 n1 c1)
            simp only [List.set_cons_zero, List.set_cons_succ] at H3
            have H3 := ((H3.pull (k := 5) rfl).put 0 (.int .i64 next)).put 1 (.slice A l.length c)
            simp only [List.set_cons_zero, List.set_cons_succ] at H3
            apply St.sub2 (qs := [.bx b _ _, .ro _ _, .bx bl _ 41, .ro _ _]) (h := H3)
            · repeat (first | exact Pick.nil | with_reducible_and_instances exact Del.here | apply Pick.cons | with_reducible apply Del.there)
            · repeat (first | exact Tail.here | apply Tail.there)
          · have hyo := Lib.hid (hok rfl)
            clear hok
            go_wp2
            obtain ⟨R', hR, H⟩ := Src.freeze H
            obtain ⟨at_, sd_, x1, x2, x3, HS⟩ := H
            refine bodyPost_ret (v := .agg #[.int .i64 y.xNext, .slice A1 n1 c1]) (by simp [results, Try.results205, go_sem, hq]) rfl ?_
            refine ⟨y, A1, n1, c1, R', rfl, ⟨hyo.out.1, hyo.out.2⟩, hR, at_, sd_, x1, by omega, x3, ?_⟩
            have H3 := ((HS.pull (k := 3) rfl).put 0 (.int .i64 y.xNext)).put 1 (.slice A1 n1 c1)
            simp only [List.set_cons_zero, List.set_cons_succ] at H3
            have H3 := ((H3.pull (k := 5) rfl).put 0 (.int .i64 y.xNext)).put 1 (.slice A1 n1 c1)
            simp only [List.set_cons_zero, List.set_cons_succ] at H3
            apply St.sub2 (qs := [.bx b _ _, .ro _ _, .bx bl _ 41, .ro _ _]) (h := H3)
            · repeat (first | exact Pick.nil | with_reducible_and_instances exact Del.here | apply Pick.cons | with_reducible apply Del.there)
            · repeat (first | exact Tail.here | apply Tail.there)
        · have g0 : (v4 == 0) = false := by simp [e0]
          by_cases e1 : v4 = 1
          · subst e1
            go_wp2_with fail
            refine (spec_l03TakeBack ⟨next, l⟩ (1 + vn) (vm) bl 0 A c _ ((HS.bx (cs := #[.int .i64 next, .slice A l.length c]) (t := 41) (b := bl) (by repeat (first | with_reducible_and_instances exact .here | with_reducible refine .there ?_))).cell 0 rfl) ((HS.bx (cs := #[.int .i64 next, .slice A l.length c]) (t := 41) (b := bl) (by repeat (first | with_reducible_and_instances exact .here | with_reducible refine .there ?_))).cell 1 rfl) (HS.lo (.inl (by repeat (first | with_reducible_and_instances exact .here | with_reducible refine .there ?_)))) hx).mono ?_
            rintro e w1 ⟨A1, n1, c1, F1, rfl, hO, hb, hF⟩
            have H := Src.addow H hb hO hF
            clear hO hb hF
            have hok := @takenBack_ok ⟨next, l⟩ (1 + vn) (vm)
            generalize takenBack ⟨next, l⟩ (1 + vn) (vm) = rr at *
            obtain ⟨y, okb⟩ := rr
            simp only at *
            have HS := H; obtain ⟨at_, sd_, -, -, -, HS⟩ := HS; (try clear hq); have hq := HS.facts; simp only [factsOf, Pt.facts, CellsAt, Nat.add_zero, Nat.zero_add, Nat.reduceAdd, and_true, true_and, List.set_cons_zero, List.set_cons_succ] at hq
            have HP := HS.pull (k := 3) rfl
            simp only [List.set_cons_zero, List.set_cons_succ] at HP
            have hne1 := HP.ne (b' := bl) (cs' := #[.int .i64 next, .slice A l.length c]) (t' := 41) (by repeat (first | with_reducible_and_instances exact .here | with_reducible refine .there ?_))
            have hne2 := HP.ne (b' := w.heap.size) (cs' := #[.int .i64 0, .slice none 0 0]) (t' := 41) (by repeat (first | with_reducible_and_instances exact .here | with_reducible refine .there ?_))
            have hne3 := hne1.symm
            have hne4 := hne2.symm
            cases okb
            · clear hok
              go_wp2
              obtain ⟨at_, sd_, x1, x2, x3, HS⟩ := H
              refine bodyPost_ret (v := .agg #[.int .i64 next, .slice A l.length c]) (by simp [results, Try.results205, go_sem, hq]) rfl ?_
              refine ⟨⟨next, l⟩, A, l.length, c, R, rfl, ⟨hx, by show next ≤ next + 1; omega⟩, fun _ h => h, at_, sd_, x1, by omega, x3, ?_⟩
              have H3 := ((HS.pull (k := 3) rfl).put 0 (.int .i64 y.xNext)).put 1 (.slice A1 n1 c1)
              simp only [List.set_cons_zero, List.set_cons_succ] at H3
              have H3 := ((H3.pull (k := 5) rfl).put 0 (.int .i64 next)).put 1 (.slice A l.length c)
              simp only [List.set_cons_zero, List.set_cons_succ] at H3
              apply St.sub2 (qs := [.bx b _ _, .ro _ _, .bx bl _ 41, .ro _ _]) (h := H3)
              · repeat (first | exact Pick.nil | with_reducible_and_instances exact Del.here | apply Pick.cons | with_reducible apply Del.there)
              · repeat (first | exact Tail.here | apply Tail.there)
            · have hyo := Lib.hid (hok rfl)
              clear hok
              go_wp2
              obtain ⟨R', hR, H⟩ := Src.freeze H
              obtain ⟨at_, sd_, x1, x2, x3, HS⟩ := H
              refine bodyPost_ret (v := .agg #[.int .i64 y.xNext, .slice A1 n1 c1]) (by simp [results, Try.results205, go_sem, hq]) rfl ?_
              refine ⟨y, A1, n1, c1, R', rfl, ⟨hyo.out.1, hyo.out.2⟩, hR, at_, sd_, x1, by omega, x3, ?_⟩
              have H3 := ((HS.pull (k := 3) rfl).put 0 (.int .i64 y.xNext)).put 1 (.slice A1 n1 c1)
              simp only [List.set_cons_zero, List.set_cons_succ] at H3
              have H3 := ((H3.pull (k := 5) rfl).put 0 (.int .i64 y.xNext)).put 1 (.slice A1 n1 c1)
              simp only [List.set_cons_zero, List.set_cons_succ] at H3
              apply St.sub2 (qs := [.bx b _ _, .ro _ _, .bx bl _ 41, .ro _ _]) (h := H3)
              · repeat (first | exact Pick.nil | with_reducible_and_instances exact Del.here | apply Pick.cons | with_reducible apply Del.there)
              · repeat (first | exact Tail.here | apply Tail.there)
          · have g1 : (v4 == 1) = false := by simp [e1]
            go_wp2_with fail
            refine (spec_one 4 code wf Ac nc cc b _ N _ W _ _ H (by omega) (by omega)).mono ?_
            rintro e w1 ⟨v5, rfl, H⟩
            have HS := H; obtain ⟨at_, sd_, -, -, -, HS⟩ := HS; (try clear hq); have hq := HS.facts; simp only [factsOf, Pt.facts, CellsAt, Nat.add_zero, Nat.zero_add, Nat.reduceAdd, and_true, true_and, List.set_cons_zero, List.set_cons_succ] at hq
            go_wp2_with fail
            refine (spec_l03Like ⟨next, l⟩ (1 + vn) (vm) (!v5) bl 0 A c _ ((HS.bx (cs := #[.int .i64 next, .slice A l.length c]) (t := 41) (b := bl) (by repeat (first | with_reducible_and_instances exact .here | with_reducible refine .there ?_))).cell 0 rfl) ((HS.bx (cs := #[.int .i64 next, .slice A l.length c]) (t := 41) (b := bl) (by repeat (first | with_reducible_and_instances exact .here | with_reducible refine .there ?_))).cell 1 rfl) (HS.lo (.inl (by repeat (first | with_reducible_and_instances exact .here | with_reducible refine .there ?_)))) hx).mono ?_
            rintro e w1 ⟨A1, n1, c1, F1, rfl, hO, hb, hF⟩
            have H := Src.addow H hb hO hF
            clear hO hb hF
            have hok := @liked_ok ⟨next, l⟩ (1 + vn) (vm) (!v5)
            generalize liked ⟨next, l⟩ (1 + vn) (vm) (!v5) = rr at *
            obtain ⟨y, okb⟩ := rr
            simp only at *
            have HS := H; obtain ⟨at_, sd_, -, -, -, HS⟩ := HS; (try clear hq); have hq := HS.facts; simp only [factsOf, Pt.facts, CellsAt, Nat.add_zero, Nat.zero_add, Nat.reduceAdd, and_true, true_and, List.set_cons_zero, List.set_cons_succ] at hq
            have HP := HS.pull (k := 3) rfl
            simp only [List.set_cons_zero, List.set_cons_succ] at HP
            have hne1 := HP.ne (b' := bl) (cs' := #[.int .i64 next, .slice A l.length c]) (t' := 41) (by repeat (first | with_reducible_and_instances exact .here | with_reducible refine .there ?_))
            have hne2 := HP.ne (b' := w.heap.size) (cs' := #[.int .i64 0, .slice none 0 0]) (t' := 41) (by repeat (first | with_reducible_and_instances exact .here | with_reducible refine .there ?_))
            have hne3 := hne1.symm
            have hne4 := hne2.symm
            cases okb
            · clear hok
              go_wp2
              obtain ⟨at_, sd_, x1, x2, x3, HS⟩ := H
              refine bodyPost_ret (v := .agg #[.int .i64 next, .slice A l.length c]) (by simp [results, Try.results205, go_sem, hq]) rfl ?_
              refine ⟨⟨next, l⟩, A, l.length, c, R, rfl, ⟨hx, by show next ≤ next + 1; omega⟩, fun _ h => h, at_, sd_, x1, by omega, x3, ?_⟩
              have H3 := ((HS.pull (k := 3) rfl).put 0 (.int .i64 y.xNext)).put 1 (.slice A1 n1 c1)
              simp only [List.set_cons_zero, List.set_cons_succ] at H3
              have H3 := ((H3.pull (k := 5) rfl).put 0 (.int .i64 next)).put 1 (.slice A l.length c)
              simp only [List.set_cons_zero, List.set_cons_succ] at H3
              apply St.sub2 (qs := [.bx b _ _, .ro _ _, .bx bl _ 41, .ro _ _]) (h := H3)
              · repeat (first | exact Pick.nil | with_reducible_and_instances exact Del.here | apply Pick.cons | with_reducible apply Del.there)
              · repeat (first | exact Tail.here | apply Tail.there)
            · have hyo := Lib.hid (hok rfl)
              clear hok
              go_wp2
              obtain ⟨R', hR, H⟩ := Src.freeze H
              obtain ⟨at_, sd_, x1, x2, x3, HS⟩ := H
              refine bodyPost_ret (v := .agg #[.int .i64 y.xNext, .slice A1 n1 c1]) (by simp [results, Try.results205, go_sem, hq]) rfl ?_
              refine ⟨y, A1, n1, c1, R', rfl, ⟨hyo.out.1, hyo.out.2⟩, hR, at_, sd_, x1, by omega, x3, ?_⟩
              have H3 := ((HS.pull (k := 3) rfl).put 0 (.int .i64 y.xNext)).put 1 (.slice A1 n1 c1)
              simp only [List.set_cons_zero, List.set_cons_succ] at H3
              have H3 := ((H3.pull (k := 5) rfl).put 0 (.int .i64 y.xNext)).put 1 (.slice A1 n1 c1)
              simp only [List.set_cons_zero, List.set_cons_succ] at H3
              apply St.sub2 (qs := [.bx b _ _, .ro _ _, .bx bl _ 41, .ro _ _]) (h := H3)
              · repeat (first | exact Pick.nil | with_reducible_and_instances exact Del.here | apply Pick.cons | with_reducible apply Del.there)
              · repeat (first | exact Tail.here | apply Tail.there)
      · obtain ⟨bb, off, A7, c7, hA, HM⟩ := Message.st HS (by repeat (first | with_reducible_and_instances exact .here | with_reducible refine .there ?_)) hm
        subst hA
        have hqm := HM.facts
        simp only [factsOf, Pt.facts, CellsAt, Nat.add_zero, Nat.zero_add, Nat.reduceAdd, and_true, true_and] at hqm
        clear HM hm
        go_wp2_with fail
        refine (spec_pick code wf Ac nc cc b _ 4 N _ W _ _ (Src.box H _ _) (by omega) (by omega)).mono ?_
        rintro e w1 ⟨v4, rfl, hv4, H⟩
        have HS := H; obtain ⟨at_, sd_, -, -, -, HS⟩ := HS; (try clear hq); have hq := HS.facts; simp only [factsOf, Pt.facts, CellsAt, Nat.add_zero, Nat.zero_add, Nat.reduceAdd, and_true, true_and, List.set_cons_zero, List.set_cons_succ] at hq
        by_cases e0 : v4 = 0
        · subst e0
          go_wp2_with fail
          refine (spec_l01DrawText code wf Ac nc cc b _ N _ W _ _ H (by omega)).mono ?_
          rintro e w1 ⟨s, rfl, hs, H⟩
          have HS := H; obtain ⟨at_, sd_, -, -, -, HS⟩ := HS; (try clear hq); have hq := HS.facts; simp only [factsOf, Pt.facts, CellsAt, Nat.add_zero, Nat.zero_add, Nat.reduceAdd, and_true, true_and, List.set_cons_zero, List.set_cons_succ] at hq
          go_wp2_with fail
          refine (spec_l03Edit ⟨next, l⟩ (1 + vn) (m.xSender) s bl 0 (some ⟨bb, off, none⟩) c _ ((HS.bx (cs := #[.int .i64 next, .slice (some ⟨bb, off, none⟩) l.length c]) (t := 41) (b := bl) (by repeat (first | with_reducible_and_instances exact .here | with_reducible refine .there ?_))).cell 0 rfl) ((HS.bx (cs := #[.int .i64 next, .slice (some ⟨bb, off, none⟩) l.length c]) (t := 41) (b := bl) (by repeat (first | with_reducible_and_instances exact .here | with_reducible refine .there ?_))).cell 1 rfl) (HS.lo (.inl (by repeat (first | with_reducible_and_instances exact .here | with_reducible refine .there ?_)))) hx (by simp only [maxLen]; omega)).mono ?_
          rintro e w1 ⟨A1, n1, c1, F1, rfl, hO, hb, hF⟩
          have H := Src.addow H hb hO hF
          clear hO hb hF
          have hok := @edited_ok ⟨next, l⟩ (1 + vn) (m.xSender) s
          generalize edited ⟨next, l⟩ (1 + vn) (m.xSender) s = rr at *
          obtain ⟨y, okb⟩ := rr
          simp only at *
          have HS := H; obtain ⟨at_, sd_, -, -, -, HS⟩ := HS; (try clear hq); have hq := HS.facts; simp only [factsOf, Pt.facts, CellsAt, Nat.add_zero, Nat.zero_add, Nat.reduceAdd, and_true, true_and, List.set_cons_zero, List.set_cons_succ] at hq
          have HP := HS.pull (k := 3) rfl
          simp only [List.set_cons_zero, List.set_cons_succ] at HP
          have hne1 := HP.ne (b' := bl) (cs' := #[.int .i64 next, .slice (some ⟨bb, off, none⟩) l.length c]) (t' := 41) (by repeat (first | with_reducible_and_instances exact .here | with_reducible refine .there ?_))
          have hne2 := HP.ne (b' := w.heap.size) (cs' := #[.int .i64 0, .slice none 0 0]) (t' := 41) (by repeat (first | with_reducible_and_instances exact .here | with_reducible refine .there ?_))
          have hne3 := hne1.symm
          have hne4 := hne2.symm
          cases okb
          · clear hok
            go_wp2
            obtain ⟨at_, sd_, x1, x2, x3, HS⟩ := H
            refine bodyPost_ret (v := .agg #[.int .i64 next, .slice (some ⟨bb, off, none⟩) l.length c]) (by simp [results, Try.results205, go_sem, hq]) rfl ?_
            refine ⟨⟨next, l⟩, some ⟨bb, off, none⟩, l.length, c, R, rfl, ⟨hx, by show next ≤ next + 1; omega⟩, fun _ h => h, at_, sd_, x1, by omega, x3, ?_⟩
            have H3 := ((HS.pull (k := 3) rfl).put 0 (.int .i64 y.xNext)).put 1 (.slice A1 n1 c1)
            simp only [List.set_cons_zero, List.set_cons_succ] at H3
            have H3 := ((H3.pull (k := 5) rfl).put 0 (.int .i64 next)).put 1 (.slice (some ⟨bb, off, none⟩) l.length c)
            simp only [List.set_cons_zero, List.set_cons_succ] at H3
            apply St.sub2 (qs := [.bx b _ _, .ro _ _, .bx bl _ 41, .ro _ _]) (h := H3)
            · repeat (first | exact Pick.nil | with_reducible_and_instances exact Del.here | apply Pick.cons | with_reducible apply Del.there)
            · repeat (first | exact Tail.here | apply Tail.there)
          · have hyo := Lib.hid (hok rfl)
            clear hok
            go_wp2
            obtain ⟨R', hR, H⟩ := Src.freeze H
            obtain ⟨at_, sd_, x1, x2, x3, HS⟩ := H
            refine bodyPost_ret (v := .agg #[.int .i64 y.xNext, .slice A1 n1 c1]) (by simp [results, Try.results205, go_sem, hq]) rfl ?_
            refine ⟨y, A1, n1, c1, R', rfl, ⟨hyo.out.1, hyo.out.2⟩, hR, at_, sd_, x1, by omega, x3, ?_⟩
            have H3 := ((HS.pull (k := 3) rfl).put 0 (.int .i64 y.xNext)).put 1 (.slice A1 n1 c1)
            simp only [List.set_cons_zero, List.set_cons_succ] at H3
            have H3 := ((H3.pull (k := 5) rfl).put 0 (.int .i64 y.xNext)).put 1 (.slice A1 n1 c1)
            simp only [List.set_cons_zero, List.set_cons_succ] at H3
            apply St.sub2 (qs := [.bx b _ _, .ro _ _, .bx bl _ 41, .ro _ _]) (h := H3)
            · repeat (first | exact Pick.nil | with_reducible_and_instances exact Del.here | apply Pick.cons | with_reducible apply Del.there)
            · repeat (first | exact Tail.here | apply Tail.there)
        · have g0 : (v4 == 0) = false := by simp [e0]
          by_cases e1 : v4 = 1
          · subst e1
            go_wp2_with fail
            refine (spec_l03TakeBack ⟨next, l⟩ (1 + vn) (m.xSender) bl 0 (some ⟨bb, off, none⟩) c _ ((HS.bx (cs := #[.int .i64 next, .slice (some ⟨bb, off, none⟩) l.length c]) (t := 41) (b := bl) (by repeat (first | with_reducible_and_instances exact .here | with_reducible refine .there ?_))).cell 0 rfl) ((HS.bx (cs := #[.int .i64 next, .slice (some ⟨bb, off, none⟩) l.length c]) (t := 41) (b := bl) (by repeat (first | with_reducible_and_instances exact .here | with_reducible refine .there ?_))).cell 1 rfl) (HS.lo (.inl (by repeat (first | with_reducible_and_instances exact .here | with_reducible refine .there ?_)))) hx).mono ?_
            rintro e w1 ⟨A1, n1, c1, F1, rfl, hO, hb, hF⟩
            have H := Src.addow H hb hO hF
            clear hO hb hF
            have hok := @takenBack_ok ⟨next, l⟩ (1 + vn) (m.xSender)
            generalize takenBack ⟨next, l⟩ (1 + vn) (m.xSender) = rr at *
            obtain ⟨y, okb⟩ := rr
            simp only at *
            have HS := H; obtain ⟨at_, sd_, -, -, -, HS⟩ := HS; (try clear hq); have hq := HS.facts; simp only [factsOf, Pt.facts, CellsAt, Nat.add_zero, Nat.zero_add, Nat.reduceAdd, and_true, true_and, List.set_cons_zero, List.set_cons_succ] at hq
            have HP := HS.pull (k := 3) rfl
            simp only [List.set_cons_zero, List.set_cons_succ] at HP
            have hne1 := HP.ne (b' := bl) (cs' := #[.int .i64 next, .slice (some ⟨bb, off, none⟩) l.length c]) (t' := 41) (by repeat (first | with_reducible_and_instances exact .here | with_reducible refine .there ?_))
            have hne2 := HP.ne (b' := w.heap.size) (cs' := #[.int .i64 0, .slice none 0 0]) (t' := 41) (by repeat (first | with_reducible_and_instances exact .here | with_reducible refine .there ?_))
            have hne3 := hne1.symm
            have hne4 := hne2.symm
            cases okb
            · clear hok
              go_wp2
              obtain ⟨at_, sd_, x1, x2, x3, HS⟩ := H
              refine bodyPost_ret (v := .agg #[.int .i64 next, .slice (some ⟨bb, off, none⟩) l.length c]) (by simp [results, Try.results205, go_sem, hq]) rfl ?_
              refine ⟨⟨next, l⟩, some ⟨bb, off, none⟩, l.length, c, R, rfl, ⟨hx, by show next ≤ next + 1; omega⟩, fun _ h => h, at_, sd_, x1, by omega, x3, ?_⟩
              have H3 := ((HS.pull (k := 3) rfl).put 0 (.int .i64 y.xNext)).put 1 (.slice A1 n1 c1)
              simp only [List.set_cons_zero, List.set_cons_succ] at H3
              have H3 := ((H3.pull (k := 5) rfl).put 0 (.int .i64 next)).put 1 (.slice (some ⟨bb, off, none⟩) l.length c)
              simp only [List.set_cons_zero, List.set_cons_succ] at H3
              apply St.sub2 (qs := [.bx b _ _, .ro _ _, .bx bl _ 41, .ro _ _]) (h := H3)
              · repeat (first | exact Pick.nil | with_reducible_and_instances exact Del.here | apply Pick.cons | with_reducible apply Del.there)
              · repeat (first | exact Tail.here | apply Tail.there)
            · have hyo := Lib.hid (hok rfl)
              clear hok
              go_wp2
              obtain ⟨R', hR, H⟩ := Src.freeze H
              obtain ⟨at_, sd_, x1, x2, x3, HS⟩ := H
              refine bodyPost_ret (v := .agg #[.int .i64 y.xNext, .slice A1 n1 c1]) (by simp [results, Try.results205, go_sem, hq]) rfl ?_
              refine ⟨y, A1, n1, c1, R', rfl, ⟨hyo.out.1, hyo.out.2⟩, hR, at_, sd_, x1, by omega, x3, ?_⟩
              have H3 := ((HS.pull (k := 3) rfl).put 0 (.int .i64 y.xNext)).put 1 (.slice A1 n1 c1)
              simp only [List.set_cons_zero, List.set_cons_succ] at H3
              have H3 := ((H3.pull (k := 5) rfl).put 0 (.int .i64 y.xNext)).put 1 (.slice A1 n1 c1)
              simp only [List.set_cons_zero, List.set_cons_succ] at H3
              apply St.sub2 (qs := [.bx b _ _, .ro _ _, .bx bl _ 41, .ro _ _]) (h := H3)
              · repeat (first | exact Pick.nil | with_reducible_and_instances exact Del.here | apply Pick.cons | with_reducible apply Del.there)
              · repeat (first | exact Tail.here | apply Tail.there)
          · have g1 : (v4 == 1) = false := by simp [e1]
            go_wp2_with fail
            refine (spec_one 4 code wf Ac nc cc b _ N _ W _ _ H (by omega) (by omega)).mono ?_
            rintro e w1 ⟨v5, rfl, H⟩
            have HS := H; obtain ⟨at_, sd_, -, -, -, HS⟩ := HS; (try clear hq); have hq := HS.facts; simp only [factsOf, Pt.facts, CellsAt, Nat.add_zero, Nat.zero_add, Nat.reduceAdd, and_true, true_and, List.set_cons_zero, List.set_cons_succ] at hq
            go_wp2_with fail
            refine (spec_l03Like ⟨next, l⟩ (1 + vn) (m.xSender) (!v5) bl 0 (some ⟨bb, off, none⟩) c _ ((HS.bx (cs := #[.int .i64 next, .slice (some ⟨bb, off, none⟩) l.length c]) (t := 41) (b := bl) (by repeat (first | with_reducible_and_instances exact .here | with_reducible refine .there ?_))).cell 0 rfl) ((HS.bx (cs := #[.int .i64 next, .slice (some ⟨bb, off, none⟩) l.length c]) (t := 41) (b := bl) (by repeat (first | with_reducible_and_instances exact .here | with_reducible refine .there ?_))).cell 1 rfl) (HS.lo (.inl (by repeat (first | with_reducible_and_instances exact .here | with_reducible refine .there ?_)))) hx).mono ?_
            rintro e w1 ⟨A1, n1, c1, F1, rfl, hO, hb, hF⟩
            have H := Src.addow H hb hO hF
            clear hO hb hF
            have hok := @liked_ok ⟨next, l⟩ (1 + vn) (m.xSender) (!v5)
            generalize liked ⟨next, l⟩ (1 + vn) (m.xSender) (!v5) = rr at *
            obtain ⟨y, okb⟩ := rr
            simp only at *
            have HS := H; obtain ⟨at_, sd_, -, -, -, HS⟩ := HS; (try clear hq); have hq := HS.facts; simp only [factsOf, Pt.facts, CellsAt, Nat.add_zero, Nat.zero_add, Nat.reduceAdd, and_true, true_and, List.set_cons_zero, List.set_cons_succ] at hq
            have HP := HS.pull (k := 3) rfl
            simp only [List.set_cons_zero, List.set_cons_succ] at HP
            have hne1 := HP.ne (b' := bl) (cs' := #[.int .i64 next, .slice (some ⟨bb, off, none⟩) l.length c]) (t' := 41) (by repeat (first | with_reducible_and_instances exact .here | with_reducible refine .there ?_))
            have hne2 := HP.ne (b' := w.heap.size) (cs' := #[.int .i64 0, .slice none 0 0]) (t' := 41) (by repeat (first | with_reducible_and_instances exact .here | with_reducible refine .there ?_))
            have hne3 := hne1.symm
            have hne4 := hne2.symm
            cases okb
            · clear hok
              go_wp2
              obtain ⟨at_, sd_, x1, x2, x3, HS⟩ := H
              refine bodyPost_ret (v := .agg #[.int .i64 next, .slice (some ⟨bb, off, none⟩) l.length c]) (by simp [results, Try.results205, go_sem, hq]) rfl ?_
              refine ⟨⟨next, l⟩, some ⟨bb, off, none⟩, l.length, c, R, rfl, ⟨hx, by show next ≤ next + 1; omega⟩, fun _ h => h, at_, sd_, x1, by omega, x3, ?_⟩
              have H3 := ((HS.pull (k := 3) rfl).put 0 (.int .i64 y.xNext)).put 1 (.slice A1 n1 c1)
              simp only [List.set_cons_zero, List.set_cons_succ] at H3
              have H3 := ((H3.pull (k := 5) rfl).put 0 (.int .i64 next)).put 1 (.slice (some ⟨bb, off, none⟩) l.length c)
              simp only [List.set_cons_zero, List.set_cons_succ] at H3
              apply St.sub2 (qs := [.bx b _ _, .ro _ _, .bx bl _ 41, .ro _ _]) (h := H3)
              · repeat (first | exact Pick.nil | with_reducible_and_instances exact Del.here | apply Pick.cons | with_reducible apply Del.there)
              · repeat (first | exact Tail.here | apply Tail.there)
            · have hyo := Lib.hid (hok rfl)
              clear hok
              go_wp2
              obtain ⟨R', hR, H⟩ := Src.freeze H
              obtain ⟨at_, sd_, x1, x2, x3, HS⟩ := H
              refine bodyPost_ret (v := .agg #[.int .i64 y.xNext, .slice A1 n1 c1]) (by simp [results, Try.results205, go_sem, hq]) rfl ?_
              refine ⟨y, A1, n1, c1, R', rfl, ⟨hyo.out.1, hyo.out.2⟩, hR, at_, sd_, x1, by omega, x3, ?_⟩
              have H3 := ((HS.pull (k := 3) rfl).put 0 (.int .i64 y.xNext)).put 1 (.slice A1 n1 c1)
              simp only [List.set_cons_zero, List.set_cons_succ] at H3
              have H3 := ((H3.pull (k := 5) rfl).put 0 (.int .i64 y.xNext)).put 1 (.slice A1 n1 c1)
              simp only [List.set_cons_zero, List.set_cons_succ] at H3
              apply St.sub2 (qs := [.bx b _ _, .ro _ _, .bx bl _ 41, .ro _ _]) (h := H3)
              · repeat (first | exact Pick.nil | with_reducible_and_instances exact Del.here | apply Pick.cons | with_reducible apply Del.there)
              · repeat (first | exact Tail.here | apply Tail.there)
end Go.Proofs.Ytmofbfeclecdoaa

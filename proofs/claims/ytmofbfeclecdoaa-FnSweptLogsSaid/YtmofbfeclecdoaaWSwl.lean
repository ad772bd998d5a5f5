/- FnSweptLogs: the walk. -/
import Derived.Test.YtmofbfeclecdoaaSwl
import Derived.Test.YtmofbfeclecdoaaSml
import Derived.Test.YtmofbfeclecdoaaSSwp
import Derived.Test.YtmofbfeclecdoaaBten
import Derived.Test.YtmofbfeclecdoaaDrb
namespace Go.Proofs.Ytmofbfeclecdoaa
open Go.ChangeShapes Go.WideShapes Go.ChangeAt Go.RowKit Go.Dt
set_option linter.unusedVariables false
set_option linter.unusedSimpArgs false
section
variable {N R : Nat → Prop} {W w : World} {ps : List Pt}
theorem _root_.Go.Dt.St.base (h : St N R W w ps) : St N (Lo w.heap.size) W w [] := ⟨h.kp, fun b hb => h.lt b (h.sub b hb), fun _ h => h, fun _ => False, fun _ h => h, fun _ h => h.elim⟩
theorem ints_lit2 (w : World) (x y : Int) : Ow (w.alloc (.cells #[.int .i64 x, .int .i64 y] 2)) (ints [x, y]) (.slice (some ⟨w.heap.size, 0, none⟩) 2 2) (fun b => b = w.heap.size) :=
  (Ow.of_block (rows := [[.int .i64 x], [.int .i64 y]]) (F := fun _ => False) (Bx.new w _ _) rfl (Nat.le_refl _) (by simp [maxLen]) (by simp) rfl (OwL.consP (Ow.I _ _) (OwL.one (Ow.I _ _))) (fun h => h)).same (fun b => by simp)
theorem u8_wf {l : List Int} (h : ∀ n ∈ l, (Lit.int .u8 n).wf = true) : ∀ n ∈ l, 0 ≤ n ∧ n < 256 := fun n hn => by
  have hw := h n hn
  simp [Lit.wf, IntKind.min, IntKind.max, IntKind.bits, IntKind.signed] at hw; omega
/-- One element of a slice, as a slice. -/
theorem Ro.one {Pb : Nat → Prop} {e : TypeId} {sz n c i : Nat} {rows : List (List D)} {A : Option Addr} {row : List D} (h : Ro w Pb (.sl e sz rows) (.slice A n c)) (hi : rows[i]? = some row) : ∃ b off, A = some ⟨b, off, none⟩ ∧ Ro w Pb (.sl e sz [row]) (.slice (some ⟨b, off + i * sz, none⟩) 1 (c - i)) := by
  cases h with
  | emp => simp at hi
  | row _ _ b off c _ us h1 h2 hb h3 h4 h5 =>
    have hlt := (List.getElem?_eq_some_iff.1 hi).1
    refine ⟨b, off, rfl, ?_⟩
    have := Ro.row (w := w) (Pb := Pb) e sz b (off + i * sz) (c - i) [row] (fun k j => us (i + k) j) (by simp; omega) (by omega) hb (fun k r hk => ?_) (fun k r j d hk hj => ?_) (fun k r j d hk hj => ?_)
    · exact this
    all_goals
      obtain ⟨rfl, rfl⟩ : k = 0 ∧ r = row := by
        cases k with
        | zero => exact ⟨rfl, by simpa using hk.symm⟩
        | succ k => simp at hk
    · exact h3 i r hi
    · have := h4 i r j d hi hj
      simpa using this
    · exact h5 i r j d hi hj
theorem Message.one {Pb : Nat → Prop} {b off n c i : Nat} {l : List Message} {m : Message} (h : Ro w Pb (Message.s true l) (.slice (some ⟨b, off, none⟩) n c)) (hi : l[i]? = some m) : Ro w Pb (Message.s true [m]) (.slice (some ⟨b, off + i * 8, none⟩) 1 (c - i)) := by
  obtain ⟨b', off', h1, h2⟩ := Ro.one h (map_at (f := Message.d true) hi)
  injection h1 with h1
  injection h1 with h1 h3
  subst h1 h3
  exact h2
end
namespace FnSweptLogs
set_option maxHeartbeats 6400000 in
set_option maxRecDepth 100000 in
theorem walk (W : World) (A0 : Option Addr) (n0 c0 : Nat) (e0 : List D) (t0 : IsL [.sl 5 1 [.int .u8]] e0) (x0 : RoL W (Lo W.heap.size) e0 [.slice A0 n0 c0]) (A1 : Option Addr) (n1 c1 : Nat) (e1 : List D) (t1 : IsL [.sl 5 1 [.int .u8]] e1) (x1 : RoL W (Lo W.heap.size) e1 [.slice A1 n1 c1]) :
    Calls Try.prog 7 #[.slice A0 n0 c0, .slice A1 n1 c1] W fun e w' => e = .returned (.bool true) ∧ Below W.heap.size W w' := by
  obtain ⟨l, rfl, y0, w0, lc0, mc0⟩ := open_bytes t0 x0
  obtain ⟨m, rfl, y1, w1, lc1, mc1⟩ := open_bytes t1 x1
  clear t0 x0 t1 x1
  have HL := fun (w : World) => laws_b10Long l m A0 A1 c0 c1 w (by simp only [maxLen] at mc0; omega) (by simp only [maxLen] at mc1; omega)
  by_cases hlong : long10 l m = true
  · rw [hlong] at HL
    clear hlong y0 y1 w0 w1
    generalize l.length = n0 at *
    generalize m.length = n1 at *
    go_enter Try.func7, Try.ntmps7
    go_wp2_with (go_at_call 38; (with_reducible refine (HL _).mono ?_); rintro e w1 ⟨rfl, hw1⟩; obtain rfl := hw1.symm)
    go_ret
    exact ⟨rfl, Below.refl _ _⟩
  have hlong' : long10 l m = false := by simpa using hlong
  rw [hlong'] at HL
  clear hlong hlong'
  have H := ((St.start W).addro y0).addro y1
  have HB := fun (w : World) (ps : List Pt) (R : Nat → Prop) (H : St (Lo W.heap.size) R W w ps) (h1 : At (.ro (bytes l) (.slice A0 l.length c0)) ps) => spec_B10Log l (u8_wf w0) A0 c0 w (H.lo (.inl h1))
  have HA := fun (k : Nat) (n : Int) (w : World) (ps : List Pt) (R : Nat → Prop) (H : St (Lo W.heap.size) R W w ps) (h1 : At (.ro (bytes m) (.slice A1 m.length c1)) ps) (hk : k ≤ 1000000) (hn : 1 < n) (hn2 : n ≤ 1000000) => laws_b10At m (u8_wf w1) k n A1 c1 w (H.lo (.inl h1)) hk hn hn2
  clear y0 y1 w0 w1 lc0 mc0 lc1 mc1
  generalize l.length = n0 at *
  generalize m.length = n1 at *
  go_enter Try.func7, Try.ntmps7
  go_wp2_with (go_at_call 38; (with_reducible refine (HL _).mono ?_); rintro e w1 ⟨rfl, hw1⟩; obtain rfl := hw1.symm)
  refine (HB _ _ _ H (by repeat (first | with_reducible_and_instances exact .here | with_reducible refine .there ?_))).mono ?_
  rintro e w2 ⟨y, A2, n2, c2, rfl, ⟨hy, hy100⟩, hr2, hb1⟩
  replace H := H.below hb1
  replace H := (H.base.addro (H.lo (.inl (.here)))).addro hr2
  clear hb1 hr2 HB HL
  go_wp2_with fail
  replace H := H.box #[.int .i64 y.xNext, .slice A2 n2 c2] 41
  refine (HA 0 60 _ _ _ H (by repeat (first | with_reducible_and_instances exact .here | with_reducible refine .there ?_)) (by decide) (by decide) (by decide)).mono ?_
  rintro e w3 ⟨now, rfl, hnow, rfl⟩
  go_wp2_with fail
  refine (HA 1 30 _ _ _ H (by repeat (first | with_reducible_and_instances exact .here | with_reducible refine .there ?_)) (by decide) (by decide) (by decide)).mono ?_
  rintro e w3 ⟨age, rfl, hage, rfl⟩
  go_wp2_with fail
  refine (HA 2 6 _ _ _ H (by repeat (first | with_reducible_and_instances exact .here | with_reducible refine .there ?_)) (by decide) (by decide) (by decide)).mono ?_
  rintro e w3 ⟨keep, rfl, hkeep, rfl⟩
  go_wp2_with fail
  refine (HA 3 4 _ _ _ H (by repeat (first | with_reducible_and_instances exact .here | with_reducible refine .there ?_)) (by decide) (by decide) (by decide)).mono ?_
  rintro e w3 ⟨va, rfl, hva, rfl⟩
  go_wp2_with fail
  refine (HA 4 4 _ _ _ H (by repeat (first | with_reducible_and_instances exact .here | with_reducible refine .there ?_)) (by decide) (by decide) (by decide)).mono ?_
  rintro e w3 ⟨vb, rfl, hvb, rfl⟩
  (try clear hq); have hq := H.facts; simp only [factsOf, Pt.facts, CellsAt, Nat.add_zero, Nat.zero_add, Nat.reduceAdd, and_true, true_and, List.set_cons_zero, List.set_cons_succ] at hq
  go_wp2_with fail
  have hlen2 : n2 = y.xMessages.length ∧ n2 ≤ c2 ∧ c2 ≤ maxLen := by
    have h := St.lenR (e := 57) (sz := 8) (rows := y.xMessages.map (Message.d true)) H (A := A2) (q := n2) (c := c2) (.there .here)
    simpa using h
  obtain ⟨hn2, hnc2, hmc2⟩ := hlen2
  replace H := H.addow ((Below.refl _ _).alloc (Nat.le_refl _) _) (ints_lit2 _ (1 + va) (6 + vb)) (fun b hb => by rw [hb]; exact Nat.le_refl _)
  rw [show (w2.alloc (.cells #[.int .i64 y.xNext, .slice A2 n2 c2] 41)).heap.size = w2.heap.size + 1 from by simp] at H
  obtain ⟨hs1, hs2⟩ := swept_twice (sweep_drawn (l := y) hy hnow hage hkeep hva hvb)
  have hzok := swept_ok hy now age keep [1 + va, 6 + vb]
  have hzn : (sweptLog y now age keep [1 + va, 6 + vb]).xNext = y.xNext := rfl
  have hzm : (sweptLog y now age keep [1 + va, 6 + vb]).xMessages = sweepTo now age keep [1 + va, 6 + vb] y.xMessages y.xMessages.length := rfl
  obtain ⟨out, hho, -⟩ := holes_some hzok hy100 _ (Nat.le_refl _)
  have hhf := holes_all hzok rfl hho
  have hfy := Log.fit_at hy
  have hfz := Log.fit_at hzok
  have hfew := Log.few hy
  have hmok := fun (j : Nat) (m : Message) => @Log.msg_ok y hy j m
  generalize sweptLog y now age keep [1 + va, 6 + vb] = z at *
  have HW1 := fun (w : World) (ps : List Pt) (R : Nat → Prop) (Ap : Option Addr) (A : Option Addr) (c : Nat) (H : St (Lo W.heap.size) R W w ps) (h1 : At (.ro (Message.s true y.xMessages) (.slice A y.xMessages.length c)) ps) (h2 : At (.ow (ints [1 + va, 6 + vb]) (.slice Ap 2 2)) ps) => impl_SweepLog y now age keep [1 + va, 6 + vb] _ Ap 2 w (Log.ros (H.lo (.inl h1))) (H.lo (.inr h2)) hfy
  rw [hs1] at HW1
  have HW2 := fun (w : World) (ps : List Pt) (R : Nat → Prop) (Ap : Option Addr) (A : Option Addr) (n c : Nat) (H : St (Lo W.heap.size) R W w ps) (h1 : At (.ow (Message.s true z.xMessages) (.slice A n c)) ps) (h2 : At (.ow (ints [1 + va, 6 + vb]) (.slice Ap 2 2)) ps) => impl_SweepLog z now age keep [1 + va, 6 + vb] _ Ap 2 w (Log.ros (H.lo (.inr h1))) (H.lo (.inr h2)) hfz
  rw [hs2] at HW2
  have HW3 := fun (w : World) (ps : List Pt) (R : Nat → Prop) (A : Option Addr) (n c : Nat) (H : St (Lo W.heap.size) R W w ps) (h1 : At (.ow (Message.s true z.xMessages) (.slice A n c)) ps) => impl_HolesOf z _ w (Log.ros (H.lo (.inr h1))) (fun m hm => (hfz m hm).1)
  rw [hhf] at HW3
  have HW4 := fun (w : World) (ps : List Pt) (R : Nat → Prop) (A : Option Addr) (n c : Nat) (H : St (Lo W.heap.size) R W w ps) (h1 : At (.ow (Message.s true z.xMessages) (.slice A n c)) ps) => impl_ValidLog z _ w (Log.ros (H.lo (.inr h1))) (fun m hm => (hfz m hm).1)
  rw [hzok] at HW4
  have HW5 := fun (w : World) (ps : List Pt) (R : Nat → Prop) (A A' : Option Addr) (n c n' c' : Nat) (H : St (Lo W.heap.size) R W w ps) (h1 : At (.ow (Message.s true z.xMessages) (.slice A n c)) ps) (h2 : At (.ow (Message.s true z.xMessages) (.slice A' n' c')) ps) => impl_SameLog z z _ _ w (Log.ros (H.lo (.inr h1))) (Log.ros (H.lo (.inr h2)))
  rw [show sameL z z = true from by simp [sameL]] at HW5
  clear hs1 hs2 hfy hhf hq
  obtain ⟨next, ml⟩ := y
  obtain ⟨zn, zl⟩ := z
  simp only at *
  subst hzn
  subst hn2
  refine (HW1 _ _ _ _ _ _ H (by repeat (first | with_reducible_and_instances exact .here | with_reducible refine .there ?_)) (by repeat (first | with_reducible_and_instances exact .here | with_reducible refine .there ?_))).mono ?_
  rintro e w3 ⟨A3, n3, c3, F3, rfl, ho3, hb3, hF3⟩
  replace H := H.addow hb3 ho3 hF3
  clear ho3 hb3 hF3 HW1
  (try clear hq); have hq := H.facts; simp only [factsOf, Pt.facts, CellsAt, Nat.add_zero, Nat.zero_add, Nat.reduceAdd, and_true, true_and, List.set_cons_zero, List.set_cons_succ] at hq
  go_wp2_with fail
  have H := H.box #[.int .i64 zn, .slice A3 n3 c3] 41
  refine (HW2 _ _ _ _ _ _ _ H (by repeat (first | with_reducible_and_instances exact .here | with_reducible refine .there ?_)) (by repeat (first | with_reducible_and_instances exact .here | with_reducible refine .there ?_))).mono ?_
  rintro e w4 ⟨A4, n4, c4, F4, rfl, ho4, hb4, hF4⟩
  replace H := H.addow hb4 ho4 hF4
  clear ho4 hb4 hF4 HW2
  (try clear hq); have hq := H.facts; simp only [factsOf, Pt.facts, CellsAt, Nat.add_zero, Nat.zero_add, Nat.reduceAdd, and_true, true_and, List.set_cons_zero, List.set_cons_succ] at hq
  go_wp2_with fail
  have H := H.box #[.int .i64 zn, .slice A4 n4 c4] 41
  refine (HW3 _ _ _ _ _ _ H (by repeat (first | with_reducible_and_instances exact .here | with_reducible refine .there ?_))).mono ?_
  rintro e w5 ⟨A5, c5, F5, rfl, ho5, hb5, hF5⟩
  replace H := H.addow hb5 ho5 hF5
  clear ho5 hb5 hF5 HW3
  (try clear hq); have hq := H.facts; simp only [factsOf, Pt.facts, CellsAt, Nat.add_zero, Nat.zero_add, Nat.reduceAdd, and_true, true_and, List.set_cons_zero, List.set_cons_succ] at hq
  go_wp2_with (first | (go_at_call 41; (with_reducible refine (HW4 _ _ _ _ _ _ H (by repeat (first | with_reducible_and_instances exact .here | with_reducible refine .there ?_))).mono ?_); rintro e w1 ⟨rfl, hb1⟩; replace H := H.below hb1; clear hb1; (try clear hq); have hq := H.facts; simp only [factsOf, Pt.facts, CellsAt, Nat.add_zero, Nat.zero_add, Nat.reduceAdd, and_true, true_and, List.set_cons_zero, List.set_cons_succ] at hq) | (go_at_call 42; (with_reducible refine (HW5 _ _ _ _ _ _ _ _ _ H (by repeat (first | with_reducible_and_instances exact .here | with_reducible refine .there ?_)) (by repeat (first | with_reducible_and_instances exact .here | with_reducible refine .there ?_))).mono ?_); rintro e w1 ⟨rfl, hb1⟩; replace H := H.below hb1; clear hb1; (try clear hq); have hq := H.facts; simp only [factsOf, Pt.facts, CellsAt, Nat.add_zero, Nat.zero_add, Nat.reduceAdd, and_true, true_and, List.set_cons_zero, List.set_cons_succ] at hq))
  have hlen3 : n3 = zl.length ∧ n3 ≤ c3 ∧ c3 ≤ maxLen := by
    obtain ⟨A', c', h1, h2, h3⟩ := St.shape (e := 57) (sz := 8) (rows := zl.map (Message.d true)) (v := .slice A3 n3 c3) H (.inr (.there (.there (.there (.there .here)))))
    injection h1 with _ h4 h5
    rw [List.length_map] at h2 h4
    subst h5
    exact ⟨h4, by omega, h3⟩
  obtain ⟨hn3, hnc3, hmc3⟩ := hlen3
  subst hn3
  obtain ⟨R1, H, -⟩ := (H.front (p := .ow (Message.s true zl) (.slice A3 zl.length c3)) (.there (.there (.there (.there .here))))).freeze
  obtain ⟨S, hS0, hSy, hSn, hSe⟩ : ∃ S : Nat → Nat, S 0 = 0 ∧ (∀ (j : Nat) (m : Message), ml[j]? = some m → kept now age keep [1 + va, 6 + vb] ml.length j m = true → S (j + 1) = S j + 1 ∧ zl[S j]? = some m) ∧ (∀ (j : Nat) (m : Message), ml[j]? = some m → kept now age keep [1 + va, 6 + vb] ml.length j m = false → S (j + 1) = S j) ∧ S ml.length = zl.length :=
    ⟨fun j => (sweepTo now age keep [1 + va, 6 + vb] ml j).length, rfl, fun j m h1 h2 => ⟨by simp only; rw [sweepTo_yes h1 h2]; simp, by rw [hzm]; exact sweepTo_get h1 h2⟩, fun j m h1 h2 => by simp only; rw [sweepTo_no h1 h2], by rw [hzm]⟩
  have HSy := Lib.hid hSy
  have HSn := Lib.hid hSn
  have HSe := Lib.hid hSe
  have HMo := Lib.hid hmok
  have HHo := Lib.hid hho
  have HZo := Lib.hid hzok
  have hfew := hfew.1
  have hzfew := (Log.few hzok).1
  simp only at hzfew
  clear hSy hSn hSe hmok hho hzok hzm hfz HA hy hq
  (try clear hq); have hq := H.facts; simp only [factsOf, Pt.facts, CellsAt, Nat.add_zero, Nat.zero_add, Nat.reduceAdd, and_true, true_and, List.set_cons_zero, List.set_cons_succ] at hq
  have hT := Lib.hid (rfl : (1 + va, 6 + vb) = (1 + va, 6 + vb))
  have HP := fun (w : World) (ps : List Pt) (R : Nat → Prop) (v : Int) (A : Option Addr) (H : St (Lo W.heap.size) R W w ps) (h1 : At (.ow (ints [1 + va, 6 + vb]) (.slice A 2 2)) ps) => laws_b10Has [1 + va, 6 + vb] v A 2 w (H.lo (.inr h1))
  have HH := fun (w : World) (ps : List Pt) (R : Nat → Prop) (v : Int) (A : Option Addr) (c : Nat) (H : St (Lo W.heap.size) R W w ps) (h1 : At (.ow (ints out) (.slice A out.length c)) ps) => laws_b10Has out v A c w (H.lo (.inr h1))
  generalize hnn : ml.length = n at *
  have HN := Lib.hid hnn
  clear hnn
  go_loopw [17, 99] (fun a k wr => ∃ j : Nat, j ≤ n ∧ a = .int .i64 (S j : Nat) ∧ k = .int .i64 j ∧ St (Lo W.heap.size) R1 W wr [.ow (ints out) (.slice A5 out.length c5), .bx w3.heap.size #[.int .i64 zn, .slice A3 zl.length c3] 41, .ro (Message.s true zl) (.slice A3 zl.length c3), .ow (ints [1 + va, 6 + vb]) (.slice (some ⟨w2.heap.size + 1, 0, none⟩) 2 2), .bx w2.heap.size #[.int .i64 zn, .slice A2 n c2] 41, .ro (Message.s true ml) (.slice A2 n c2)]) (fun _ k _ => n - (intOf k).toNat)
  case atStart =>
    refine ⟨0, by omega, by rw [hS0]; rfl, rfl, ?_⟩
    apply St.sub' (h := H)
    (repeat (first | exact Pick.nil | with_reducible_and_instances exact Del.here | apply Pick.cons | with_reducible apply Del.there))
  case round =>
    obtain ⟨j, hj, rfl, rfl, H⟩ := hrel
    by_cases hlt : j < n
    · obtain ⟨m, hm⟩ := get_lt (l := ml) (k := j) (by rw [HN.out]; exact hlt)
      obtain ⟨b, off, A7, c7, hA, H⟩ := Message.st (l := ml) H (by repeat (first | with_reducible_and_instances exact .here | with_reducible refine .there ?_)) hm
      subst hA
      have hlt' : (j : Int) < (n : Int) := by omega
      have hmb := Message.bounds (HMo.out _ _ hm).1
      have HM := Lib.hid hm
      clear hm
      by_cases g1 : now - m.xAt ≤ age
      · have HK := Lib.hid (show kept now age keep [1 + va, 6 + vb] n j m = true from by unfold kept; simp [g1])
        obtain ⟨hs1, hs2⟩ := HSy.out j m HM.out HK.out
        have hsl := (List.getElem?_eq_some_iff.1 hs2).1
        have hsl' : ((S j : Nat) : Int) < (zl.length : Int) := by omega
        have hsd : decide (zl.length ≤ S j) = false := by simp; omega
        have HS2 := Lib.hid hs2
        obtain ⟨b3, off3, A8, c8, hA3, H⟩ := Message.st (l := zl) H (by repeat (first | with_reducible_and_instances exact .here | with_reducible refine .there ?_)) hs2
        subst hA3
        clear hs2
        (try clear hq); have hq := H.facts; simp only [factsOf, Pt.facts, CellsAt, Nat.add_zero, Nat.zero_add, Nat.reduceAdd, and_true, true_and, List.set_cons_zero, List.set_cons_succ] at hq
        go_wp2_with fail
        refine St.any (H.junk _) ?_
        intro w5 H
        have HS := fun (w : World) (hb : Below w5.heap.size w5 w) => spec_SameLog ⟨0, [m]⟩ ⟨0, [m]⟩ (some ⟨b, off + j * 8, none⟩) (some ⟨b3, off3 + S j * 8, none⟩) (c2 - j) (c3 - S j) w (Message.one ((H.below hb).lo (.inl (by repeat (first | with_reducible_and_instances exact .here | with_reducible refine .there ?_)))) HM.out) (Message.one ((H.below hb).lo (.inl (by repeat (first | with_reducible_and_instances exact .here | with_reducible refine .there ?_)))) HS2.out)
        rw [show sameL ⟨0, [m]⟩ ⟨0, [m]⟩ = true from by simp [sameL]] at HS
        (try clear hq); have hq := H.facts; simp only [factsOf, Pt.facts, CellsAt, Nat.add_zero, Nat.zero_add, Nat.reduceAdd, and_true, true_and, List.set_cons_zero, List.set_cons_succ] at hq
        have hxx := (After.cells w5.heap.size w5).1
        refine wp_region_after (w5.heap.size) (by kernel_rfl) (by kernel_rfl) ?_; (repeat (go_big_quiet_step ((go_at_call 44; with_reducible exact Calls.after (Nat.le_refl _) (HS _ (After.b _)))))); refine wpQuiet_nil ?_; intro w1 hb1
        replace H := H.below hb1
        clear hxx HS
        (try clear hq); have hq := H.facts; simp only [factsOf, Pt.facts, CellsAt, Nat.add_zero, Nat.zero_add, Nat.reduceAdd, and_true, true_and, List.set_cons_zero, List.set_cons_succ] at hq
        go_wp2
        go_roundw
        case rel =>
          refine ⟨j + 1, by omega, by rw [hs1]; go_num, by go_num, ?_⟩
          apply St.sub' (h := H)
          (repeat (first | exact Pick.nil | with_reducible_and_instances exact Del.here | apply Pick.cons | with_reducible apply Del.there))
        case measure => simp [intOf]; omega
      by_cases g2 : (n : Int) - keep ≤ (j : Int)
      · have HK := Lib.hid (show kept now age keep [1 + va, 6 + vb] n j m = true from by unfold kept; simp; omega)
        obtain ⟨hs1, hs2⟩ := HSy.out j m HM.out HK.out
        have hsl := (List.getElem?_eq_some_iff.1 hs2).1
        have hsl' : ((S j : Nat) : Int) < (zl.length : Int) := by omega
        have hsd : decide (zl.length ≤ S j) = false := by simp; omega
        have HS2 := Lib.hid hs2
        obtain ⟨b3, off3, A8, c8, hA3, H⟩ := Message.st (l := zl) H (by repeat (first | with_reducible_and_instances exact .here | with_reducible refine .there ?_)) hs2
        subst hA3
        clear hs2
        (try clear hq); have hq := H.facts; simp only [factsOf, Pt.facts, CellsAt, Nat.add_zero, Nat.zero_add, Nat.reduceAdd, and_true, true_and, List.set_cons_zero, List.set_cons_succ] at hq
        go_wp2_with fail
        refine St.any (H.junk _) ?_
        intro w5 H
        have HS := fun (w : World) (hb : Below w5.heap.size w5 w) => spec_SameLog ⟨0, [m]⟩ ⟨0, [m]⟩ (some ⟨b, off + j * 8, none⟩) (some ⟨b3, off3 + S j * 8, none⟩) (c2 - j) (c3 - S j) w (Message.one ((H.below hb).lo (.inl (by repeat (first | with_reducible_and_instances exact .here | with_reducible refine .there ?_)))) HM.out) (Message.one ((H.below hb).lo (.inl (by repeat (first | with_reducible_and_instances exact .here | with_reducible refine .there ?_)))) HS2.out)
        rw [show sameL ⟨0, [m]⟩ ⟨0, [m]⟩ = true from by simp [sameL]] at HS
        (try clear hq); have hq := H.facts; simp only [factsOf, Pt.facts, CellsAt, Nat.add_zero, Nat.zero_add, Nat.reduceAdd, and_true, true_and, List.set_cons_zero, List.set_cons_succ] at hq
        have hxx := (After.cells w5.heap.size w5).1
        refine wp_region_after (w5.heap.size) (by kernel_rfl) (by kernel_rfl) ?_; (repeat (go_big_quiet_step ((go_at_call 44; with_reducible exact Calls.after (Nat.le_refl _) (HS _ (After.b _)))))); refine wpQuiet_nil ?_; intro w1 hb1
        replace H := H.below hb1
        clear hxx HS
        (try clear hq); have hq := H.facts; simp only [factsOf, Pt.facts, CellsAt, Nat.add_zero, Nat.zero_add, Nat.reduceAdd, and_true, true_and, List.set_cons_zero, List.set_cons_succ] at hq
        go_wp2
        go_roundw
        case rel =>
          refine ⟨j + 1, by omega, by rw [hs1]; go_num, by go_num, ?_⟩
          apply St.sub' (h := H)
          (repeat (first | exact Pick.nil | with_reducible_and_instances exact Del.here | apply Pick.cons | with_reducible apply Del.there))
        case measure => simp [intOf]; omega
      cases g3 : hasIt [1 + va, 6 + vb] m.xNumber
      · have HK := Lib.hid (show kept now age keep [1 + va, 6 + vb] n j m = false from by unfold kept; rw [g3]; simp; omega)
        have hs1 := HSn.out j m HM.out HK.out
        (try clear hq); have hq := H.facts; simp only [factsOf, Pt.facts, CellsAt, Nat.add_zero, Nat.zero_add, Nat.reduceAdd, and_true, true_and, List.set_cons_zero, List.set_cons_succ] at hq
        replace H := H.box #[.int .i64 m.xNumber, .int .i64 m.xSender, .int .i64 m.xAt, .string m.xText, .int .i64 m.xEdits, .bool m.xGone, .int .i64 m.xReply, .slice A7 m.xLikes.length c7] 57
        have HP' := fun (w : World) (ps : List Pt) (R : Nat → Prop) (A : Option Addr) (H : St (Lo W.heap.size) R W w ps) (h1 : At (.ow (ints [1 + va, 6 + vb]) (.slice A 2 2)) ps) => HP w ps R m.xNumber A H h1
        rw [g3] at HP'
        go_wp2_with fail
        refine (HP' _ _ _ _ H (by repeat (first | with_reducible_and_instances exact .here | with_reducible refine .there ?_))).mono ?_
        rintro e w9 ⟨rfl, rfl⟩
        go_wp2_with fail
        go_roundw
        case rel =>
          refine ⟨j + 1, by omega, by rw [hs1], by go_num, ?_⟩
          apply St.sub' (h := H)
          (repeat (first | exact Pick.nil | with_reducible_and_instances exact Del.here | apply Pick.cons | with_reducible apply Del.there))
        case measure => simp [intOf]; omega
      · have HK := Lib.hid (show kept now age keep [1 + va, 6 + vb] n j m = true from by unfold kept; rw [g3]; simp)
        obtain ⟨hs1, hs2⟩ := HSy.out j m HM.out HK.out
        have hsl := (List.getElem?_eq_some_iff.1 hs2).1
        have hsl' : ((S j : Nat) : Int) < (zl.length : Int) := by omega
        have hsd : decide (zl.length ≤ S j) = false := by simp; omega
        have HS2 := Lib.hid hs2
        obtain ⟨b3, off3, A8, c8, hA3, H⟩ := Message.st (l := zl) H (by repeat (first | with_reducible_and_instances exact .here | with_reducible refine .there ?_)) hs2
        subst hA3
        clear hs2
        (try clear hq); have hq := H.facts; simp only [factsOf, Pt.facts, CellsAt, Nat.add_zero, Nat.zero_add, Nat.reduceAdd, and_true, true_and, List.set_cons_zero, List.set_cons_succ] at hq
        replace H := H.box #[.int .i64 m.xNumber, .int .i64 m.xSender, .int .i64 m.xAt, .string m.xText, .int .i64 m.xEdits, .bool m.xGone, .int .i64 m.xReply, .slice A7 m.xLikes.length c7] 57
        have HP' := fun (w : World) (ps : List Pt) (R : Nat → Prop) (A : Option Addr) (H : St (Lo W.heap.size) R W w ps) (h1 : At (.ow (ints [1 + va, 6 + vb]) (.slice A 2 2)) ps) => HP w ps R m.xNumber A H h1
        rw [g3] at HP'
        go_wp2_with fail
        refine (HP' _ _ _ _ H (by repeat (first | with_reducible_and_instances exact .here | with_reducible refine .there ?_))).mono ?_
        rintro e w9 ⟨rfl, rfl⟩
        go_wp2_with fail
        refine St.any H ?_
        intro w5 H
        have HS := fun (w : World) (hb : Below w5.heap.size w5 w) => spec_SameLog ⟨0, [m]⟩ ⟨0, [m]⟩ (some ⟨b, off + j * 8, none⟩) (some ⟨b3, off3 + S j * 8, none⟩) (c2 - j) (c3 - S j) w (Message.one ((H.below hb).lo (.inl (by repeat (first | with_reducible_and_instances exact .here | with_reducible refine .there ?_)))) HM.out) (Message.one ((H.below hb).lo (.inl (by repeat (first | with_reducible_and_instances exact .here | with_reducible refine .there ?_)))) HS2.out)
        rw [show sameL ⟨0, [m]⟩ ⟨0, [m]⟩ = true from by simp [sameL]] at HS
        (try clear hq); have hq := H.facts; simp only [factsOf, Pt.facts, CellsAt, Nat.add_zero, Nat.zero_add, Nat.reduceAdd, and_true, true_and, List.set_cons_zero, List.set_cons_succ] at hq
        have hxx := (After.cells w5.heap.size w5).1
        refine wp_region_after (w5.heap.size) (by kernel_rfl) (by kernel_rfl) ?_; (repeat (go_big_quiet_step ((go_at_call 44; with_reducible exact Calls.after (Nat.le_refl _) (HS _ (After.b _)))))); refine wpQuiet_nil ?_; intro w1 hb1
        replace H := H.below hb1
        clear hxx HS
        (try clear hq); have hq := H.facts; simp only [factsOf, Pt.facts, CellsAt, Nat.add_zero, Nat.zero_add, Nat.reduceAdd, and_true, true_and, List.set_cons_zero, List.set_cons_succ] at hq
        go_wp2
        go_roundw
        case rel =>
          refine ⟨j + 1, by omega, by rw [hs1]; go_num, by go_num, ?_⟩
          apply St.sub' (h := H)
          (repeat (first | exact Pick.nil | with_reducible_and_instances exact Del.here | apply Pick.cons | with_reducible apply Del.there))
        case measure => simp [intOf]; omega
    · obtain rfl : j = n := by omega
      have hse := HSe.out
      rcases Nat.eq_zero_or_pos zl.length with hz0 | hzp
      · have hout : out.length = 0 := by
          have h := HHo.out
          rw [hz0] at h
          have : out = [] := by simpa [Log.holesTo] using h.symm
          rw [this]; rfl
        rw [hse]
        rw [hz0] at H ⊢
        rw [hout] at H ⊢
        (try clear hq); have hq := H.facts; simp only [factsOf, Pt.facts, CellsAt, Nat.add_zero, Nat.zero_add, Nat.reduceAdd, and_true, true_and, List.set_cons_zero, List.set_cons_succ] at hq
        go_wp2
        go_ret
        exact ⟨rfl, H.belowW⟩
      obtain ⟨m0, hm0⟩ := get_lt (l := zl) (k := 0) hzp
      obtain ⟨b3, off3, A8, c8, hA3, H⟩ := Message.st (l := zl) H (by repeat (first | with_reducible_and_instances exact .here | with_reducible refine .there ?_)) hm0
      subst hA3
      simp only [Nat.zero_mul, Nat.add_zero] at H
      have hzp' : (0 : Int) < (zl.length : Int) := by omega
      have hse' : ((S j : Nat) : Int) = (zl.length : Int) := by omega
      have hse0 : ¬ ((S j : Nat) : Int) = 0 := by omega
      have hm0b := Message.bounds (Log.msg_ok HZo.out hm0).1
      have hm0n := (Log.msg_ok HZo.out hm0).2
      simp only at hm0n
      have HM0 := Lib.hid hm0
      clear hm0
      rw [hse]
      (try clear hq); have hq := H.facts; simp only [factsOf, Pt.facts, CellsAt, Nat.add_zero, Nat.zero_add, Nat.reduceAdd, and_true, true_and, List.set_cons_zero, List.set_cons_succ] at hq
      go_wp2_with fail
      have hzn1 : zn ≤ 1000000000 := by have := (Log.few HZo.out).2.2; exact this
      go_loopw [21] (fun v wr => ∃ k : Int, m0.xNumber ≤ k ∧ k ≤ zn ∧ v = .int .i64 k ∧ St (Lo W.heap.size) R1 W wr [.ow (ints out) (.slice A5 out.length c5), .bx w3.heap.size #[.int .i64 zn, .slice (some ⟨b3, off3, none⟩) zl.length c3] 41, .ro (Message.s true zl) (.slice (some ⟨b3, off3, none⟩) zl.length c3)]) (fun v _ => (zn - intOf v).toNat)
      case atStart =>
        refine ⟨m0.xNumber, Int.le_refl _, by omega, rfl, ?_⟩
        apply St.sub' (h := H)
        (repeat (first | exact Pick.nil | with_reducible_and_instances exact Del.here | apply Pick.cons | with_reducible apply Del.there))
      case round =>
        obtain ⟨k, hk1, hk2, rfl, H⟩ := hrel
        (try clear hq); have hq := H.facts; simp only [factsOf, Pt.facts, CellsAt, Nat.add_zero, Nat.zero_add, Nat.reduceAdd, and_true, true_and, List.set_cons_zero, List.set_cons_succ] at hq
        by_cases hlt : k < zn
        · have HL := Lib.hid (holes_law (l := ⟨zn, zl⟩) HZo.out HHo.out HM0.out ⟨hk1, hlt⟩)
          go_wp2_with fail
          go_loopw [22, 178] (fun v a wr => ∃ j : Nat, j ≤ zl.length ∧ v = .bool (Log.hasTo ⟨zn, zl⟩ k j) ∧ a = .int .i64 j ∧ St (Lo W.heap.size) R1 W wr [.ow (ints out) (.slice A5 out.length c5), .bx w3.heap.size #[.int .i64 zn, .slice (some ⟨b3, off3, none⟩) zl.length c3] 41, .ro (Message.s true zl) (.slice (some ⟨b3, off3, none⟩) zl.length c3)]) (fun _ a _ => zl.length - (intOf a).toNat)
          case atStart =>
            refine ⟨0, by omega, rfl, rfl, ?_⟩
            apply St.sub' (h := H)
            (repeat (first | exact Pick.nil | with_reducible_and_instances exact Del.here | apply Pick.cons | with_reducible apply Del.there))
          case round =>
            obtain ⟨j, hj, rfl, rfl, H⟩ := hrel
            by_cases hlj : j < zl.length
            · obtain ⟨q, hq2⟩ := get_lt (l := zl) (k := j) hlj
              obtain ⟨b4, off4, A9, c9, hA4, H⟩ := Message.st (l := zl) H (by repeat (first | with_reducible_and_instances exact .here | with_reducible refine .there ?_)) hq2
              injection hA4 with hA4
              injection hA4 with hA4 hA5
              subst hA4 hA5
              have HS := Lib.hid (Log.hasTo_succ (l := ⟨zn, zl⟩) (k := k) hq2)
              clear hq2
              have hlj' : (j : Int) < (zl.length : Int) := by omega
              (try clear hq); have hq := H.facts; simp only [factsOf, Pt.facts, CellsAt, Nat.add_zero, Nat.zero_add, Nat.reduceAdd, and_true, true_and, List.set_cons_zero, List.set_cons_succ] at hq
              cases hh : Log.hasTo ⟨zn, zl⟩ k j
              all_goals
                rw [hh] at HS
                have HS := Lib.hid HS.out
                clear hh
                go_wp2
                go_roundw
                case rel =>
                  refine ⟨j + 1, by omega, by rw [HS.out]; rfl, by go_num, ?_⟩
                  apply St.sub' (h := H)
                  (repeat (first | exact Pick.nil | with_reducible_and_instances exact Del.here | apply Pick.cons | with_reducible apply Del.there))
                case measure => simp [intOf]; omega
            · obtain rfl : j = zl.length := by omega
              have HH2 := fun (w : World) (ps : List Pt) (R : Nat → Prop) (A : Option Addr) (c : Nat) (H : St (Lo W.heap.size) R W w ps) (h1 : At (.ow (ints out) (.slice A out.length c)) ps) => HH w ps R k A c H h1
              rw [HL.out] at HH2
              cases hh : Log.hasTo ⟨zn, zl⟩ k zl.length
              all_goals
                simp only [hh] at HH2
                (try clear hq); have hq := H.facts; simp only [factsOf, Pt.facts, CellsAt, Nat.add_zero, Nat.zero_add, Nat.reduceAdd, and_true, true_and, List.set_cons_zero, List.set_cons_succ] at hq
                go_wp2_with fail
                refine (HH2 _ _ _ _ _ H (by repeat (first | with_reducible_and_instances exact .here | with_reducible refine .there ?_))).mono ?_
                rintro e w9 ⟨rfl, rfl⟩
                go_wp2_with fail
                go_roundw
                case rel =>
                  refine ⟨k + 1, by omega, by omega, by go_num, ?_⟩
                  apply St.sub' (h := H)
                  (repeat (first | exact Pick.nil | with_reducible_and_instances exact Del.here | apply Pick.cons | with_reducible apply Del.there))
                case measure => simp [intOf]; omega
        · go_wp2_with fail
          go_ret
          exact ⟨rfl, H.belowW⟩
end FnSweptLogs
end Go.Proofs.Ytmofbfeclecdoaa

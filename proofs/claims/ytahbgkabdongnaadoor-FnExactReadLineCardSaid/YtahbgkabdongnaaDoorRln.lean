/- ReadLine, by both. -/
import Derived.Test.YtahbgkabdongnaaDoorRdl
import Derived.Test.YtahbgkabdongnaaDoorLin
namespace Go.Proofs.YtahbgkabdongnaaDoor
open Go.ChangeShapes Go.WideShapes Go.ChangeAt Go.RowKit Go.Dt
set_option linter.unusedVariables false
set_option linter.unusedSimpArgs false
def msg0 : Message := ⟨0, 0, 0, ByteArray.empty, 0, false, 0, []⟩
/-- A text cut at its first blank. -/
def rlCut (s : ByteArray) : ByteArray × ByteArray × Bool :=
  if Lib.indexByte s.data.toList 32 < 0 then (s, ByteArray.empty, false)
  else (s.extract 0 (Lib.indexByte s.data.toList 32).toNat, s.extract ((Lib.indexByte s.data.toList 32).toNat + 1) s.size, true)
theorem rlCut_no {s : ByteArray} (h : (32 : UInt8) ∉ s.data.toList) : rlCut s = (s, ByteArray.empty, false) := by unfold rlCut; rw [idx_no h]; rfl
theorem rlCut_at {s : ByteArray} {a b : List UInt8} (h : s.data.toList = a ++ 32 :: b) (ha : (32 : UInt8) ∉ a) : rlCut s = (s.extract 0 a.length, s.extract (a.length + 1) s.size, true) := by
  unfold rlCut
  rw [h, idx_at ha, if_neg (by omega)]
  rfl
theorem extract_le (s : ByteArray) (a b : Nat) : (s.extract a b).size ≤ s.size := by
  rw [← ba_size, ba_extract, ← ba_size s]
  exact Nat.le_trans (List.length_take_le' _ _) (by rw [List.length_drop]; omega)
theorem rlCut_size (s : ByteArray) : (rlCut s).1.size ≤ s.size ∧ (rlCut s).2.1.size ≤ s.size := by
  unfold rlCut
  split
  · exact ⟨Nat.le_refl _, Nat.zero_le _⟩
  · exact ⟨extract_le _ _ _, extract_le _ _ _⟩
theorem strings_Cut_rl (s : ByteArray) (w : World) (hs : s.size ≤ 1048576) : Calls Tryd.prog 46 #[.string s, .string ⟨#[32]⟩] w fun e w' => e = .returned (.tuple #[.string (rlCut s).1, .string (rlCut s).2.1, .bool (rlCut s).2.2]) ∧ Below w.heap.size w w' := by
  rcases mem_split 32 s.data.toList with h | ⟨a, b, h, ha⟩
  · rw [rlCut_no h]
    exact (strings_Cut_no h).mono fun _ _ ⟨h1, h2⟩ => ⟨h1, h2 ▸ Below.refl _ _⟩
  · rw [rlCut_at h ha]
    exact strings_Cut_at hs h ha
/-- What a line tells: its message, and whether it is right. -/
def rlOk (b1 b2 : Bool) (a b : List Int × Bool) : Bool := b1 && (b2 && (a.2 && (b.2 && (decide (a.1.length = 6) && inB (a.1.getD 4 0) 0 1))))
def rlM (a b : List Int) (t : ByteArray) : Message := ⟨a.getD 0 0, a.getD 1 0, a.getD 2 0, t, a.getD 3 0, a.getD 4 0 == 1, a.getD 5 0, b⟩
def rlF (b1 b2 : Bool) (a b : List Int × Bool) (t : ByteArray) : Message × Bool := if rlOk b1 b2 a b = true ∧ (rlM a.1 b.1 t).ok = true then (rlM a.1 b.1 t, true) else (msg0, false)
def ReadLine_f (s : ByteArray) : Message × Bool := rlF (rlCut s).2.2 (rlCut (rlCut s).2.1).2.2 (ReadList_f (rlCut s).1) (ReadList_f (rlCut (rlCut s).2.1).1) (rlCut (rlCut s).2.1).2.1
theorem ReadList_len (s : ByteArray) : (ReadList_f s).1.length ≤ 300 := by
  unfold ReadList_f
  split
  · simp
  · split
    · rename_i h; unfold nums; simpa using h.1
    · simp
/-- The first blank from a place on. -/
def blkN (s : ByteArray) (f : Nat) : Nat := f + ((s.data.toList.drop f).takeWhile (· != 32)).length
theorem blkN_end {s : ByteArray} {f : Nat} (h : s.size ≤ f) : blkN s f = f := by
  unfold blkN
  rw [List.drop_of_length_le (by rw [ba_size]; exact h)]
  rfl
theorem blkN_hit {s : ByteArray} {f : Nat} (hf : f < s.size) (h : s[f] = 32) : blkN s f = f := by
  unfold blkN
  rw [List.drop_eq_getElem_cons (by rw [ba_size]; exact hf)]
  have : s.data.toList[f]'(by rw [ba_size]; exact hf) = 32 := h
  rw [this]; rfl
theorem blkN_go {s : ByteArray} {f : Nat} (hf : f < s.size) (h : s[f] ≠ 32) : blkN s (f + 1) = blkN s f := by
  unfold blkN
  conv => rhs; rw [List.drop_eq_getElem_cons (by rw [ba_size]; exact hf)]
  have : s.data.toList[f]'(by rw [ba_size]; exact hf) ≠ 32 := h
  rw [List.takeWhile_cons_of_pos (by simpa using this), List.length_cons]
  omega
theorem takeW_all : ∀ {l : List UInt8}, (32 : UInt8) ∉ l → l.takeWhile (· != 32) = l := by
  intro l
  induction l with
  | nil => intro _; rfl
  | cons c r ih =>
    intro h
    simp only [List.mem_cons, not_or] at h
    rw [List.takeWhile_cons_of_pos (by simp; exact fun e => h.1 e.symm), ih h.2]
theorem blkN_no {s : ByteArray} {f : Nat} (hf : f ≤ s.size) (h : (32 : UInt8) ∉ s.data.toList.drop f) : blkN s f = s.size := by
  unfold blkN
  rw [takeW_all h, List.length_drop, ba_size]
  omega
theorem blkN_at {s : ByteArray} {f : Nat} {q t : List UInt8} (h : s.data.toList.drop f = q ++ 32 :: t) (hq : (32 : UInt8) ∉ q) : blkN s f = f + q.length := by
  unfold blkN
  rw [h, List.takeWhile_append_of_pos (by intro x hx; simp; intro e; subst e; exact hq hx)]
  simp
set_option maxRecDepth 100000 in
theorem spec_l09Blank (s : ByteArray) (f : Nat) (W : World) (hs : s.size ≤ 1048576) (hf : f ≤ 1048577) :
    Calls Tryd.prog 90 #[.string s, .int .i64 (f : Int)] W fun e w' => e = .returned (.int .i64 ((blkN s f : Nat) : Int)) ∧ W = w' := by
  go_enter Tryd.func90, Tryd.ntmps90
  go_wp2
  go_loop [1] (fun v1 => ∃ k : Nat, k ≤ 1048577 ∧ v1 = .int .i64 k ∧ Hid (blkN s k = blkN s f)) (fun v1 => s.size - (intOf v1).toNat)
  case atStart => exact ⟨f, hf, rfl, Lib.hid rfl⟩
  case round =>
    obtain ⟨k, hk, rfl, HK⟩ := hrel
    rcases Nat.lt_or_ge k s.size with hlt | hge
    · have hlt' : (k : Int) < (s.size : Int) := by omega
      have hb : s[k].toNat < 256 := s[k].toNat_lt
      by_cases h32 : s[k] = 32
      · have hB : ((s[k].toNat : Int) != 32) = false := by rw [h32]; rfl
        have HE := Lib.hid (HK.out.symm.trans (blkN_hit hlt h32))
        clear h32
        go_wp2
        go_ret
        exact ⟨by rw [HE.out]; rfl, rfl⟩
      · have hB : ((s[k].toNat : Int) != 32) = true := by
          simp
          intro h
          exact h32 (UInt8.toNat_inj.1 (by show _ = 32; omega))
        have HE := Lib.hid ((blkN_go hlt h32).trans HK.out)
        clear h32
        go_wp2
        go_round
        case rel => exact ⟨k + 1, by omega, by go_num, HE⟩
        case measure => simp [intOf]; omega
    · have hge' : ¬ (k : Int) < (s.size : Int) := by omega
      have HE := Lib.hid (HK.out.symm.trans (blkN_end hge))
      go_wp2
      go_ret
      exact ⟨by rw [HE.out]; rfl, rfl⟩
theorem cell_other {w : World} {b gb i j : Nat} {v : Value} (h : ¬ gb = b) : (w.setCell ⟨b, i, none⟩ v).cell? ⟨gb, j, none⟩ = w.cell? ⟨gb, j, none⟩ := World.cell?_setCell_other _ _ _ _ (by first | (simp; done) | (simp; exact fun e => h e.symm))
theorem cell_put8 {w : World} {b gb j : Nat} {v0 v1 v2 v3 v4 v5 v6 v7 : Value} (h : ¬ gb = b) :
    ((((((((w.setCell ⟨b, 0, none⟩ v0).setCell ⟨b, 1, none⟩ v1).setCell ⟨b, 2, none⟩ v2).setCell ⟨b, 3, none⟩ v3).setCell ⟨b, 4, none⟩ v4).setCell ⟨b, 5, none⟩ v5).setCell ⟨b, 6, none⟩ v6).setCell ⟨b, 7, none⟩ v7).cell? ⟨gb, j, none⟩ = w.cell? ⟨gb, j, none⟩ := by
  rw [cell_other h, cell_other h, cell_other h, cell_other h, cell_other h, cell_other h, cell_other h, cell_other h]
theorem _root_.Go.Dt.St.put8 {N R : Nat → Prop} {W w : World} {ps : List Pt} {b : Nat} {t : TypeId} {x0 x1 x2 x3 x4 x5 x6 x7 : Value} (h : St N R W w (.bx b #[x0, x1, x2, x3, x4, x5, x6, x7] t :: ps)) (u0 u1 u2 u3 u4 u5 u6 u7 : Value) :
    St N R W ((((((((w.setCell ⟨b, 0, none⟩ u0).setCell ⟨b, 1, none⟩ u1).setCell ⟨b, 2, none⟩ u2).setCell ⟨b, 3, none⟩ u3).setCell ⟨b, 4, none⟩ u4).setCell ⟨b, 5, none⟩ u5).setCell ⟨b, 6, none⟩ u6).setCell ⟨b, 7, none⟩ u7) (.bx b #[u0, u1, u2, u3, u4, u5, u6, u7] t :: ps) :=
  (((((((h.put' 0 u0 #[u0, x1, x2, x3, x4, x5, x6, x7] rfl).put' 1 u1 #[u0, u1, x2, x3, x4, x5, x6, x7] rfl).put' 2 u2 #[u0, u1, u2, x3, x4, x5, x6, x7] rfl).put' 3 u3 #[u0, u1, u2, u3, x4, x5, x6, x7] rfl).put' 4 u4 #[u0, u1, u2, u3, u4, x5, x6, x7] rfl).put' 5 u5 #[u0, u1, u2, u3, u4, u5, x6, x7] rfl).put' 6 u6 #[u0, u1, u2, u3, u4, u5, u6, x7] rfl).put' 7 u7 #[u0, u1, u2, u3, u4, u5, u6, u7] rfl
/-- What readLine's answer is: a message where it says yes. -/
def MadeRl (W : World) (r : Message × Bool) (e : Ending) (w' : World) : Prop := ∃ (m : Message) (us : List Value) (F : Nat → Prop), e = .returned (.tuple #[.agg us.toArray, .bool r.2]) ∧ OwL w' (Message.d true m) us F ∧ (∀ b, F b → W.heap.size ≤ b) ∧ Below W.heap.size W w' ∧ (r.2 = true → m = r.1)
theorem madeRl_no {W w : World} {r : Message × Bool} (hB : Below W.heap.size W w) (hr : r = (msg0, false)) : MadeRl W r (.returned (.tuple #[.agg #[.int .i64 0, .int .i64 0, .int .i64 0, .string ByteArray.empty, .int .i64 0, .bool false, .int .i64 0, .slice none 0 0], .bool false])) w := by
  subst hr
  exact ⟨msg0, _, fun _ => False, rfl, OwL.consP (Ow.I _ _) (OwL.consP (Ow.I _ _) (OwL.consP (Ow.I _ _) (OwL.consP (Ow.S _) (OwL.consP (Ow.I _ _) (OwL.consP (Ow.B _) (OwL.consP (Ow.I _ _) (OwL.consP (.emp _ _ _ _ (by simp)) OwL.nil))))))), fun b h => h.elim, hB, fun h => by cases h⟩
theorem madeRl_st {R : Nat → Prop} {W w : World} {ps : List Pt} {r : Message × Bool} {A : Option Addr} {q c : Nat} {x0 x1 x2 x3 x5 : Int} {g : Bool} {t : ByteArray} {l : List Int} {b : Bool} (H : St (Lo W.heap.size) R W w ps) (ha : At (.ow (ints l) (.slice A q c)) ps) (hb : r.2 = b) (hr : b = true → r.1 = ⟨x0, x1, x2, t, x3, g, x5, l⟩) :
    MadeRl W r (.returned (.tuple #[.agg #[.int .i64 x0, .int .i64 x1, .int .i64 x2, .string t, .int .i64 x3, .bool g, .int .i64 x5, .slice A q c], .bool b])) w := by
  obtain ⟨F, h1, h2⟩ := H.own ha
  subst hb
  refine ⟨⟨x0, x1, x2, t, x3, g, x5, l⟩, _, F, rfl, ?_, fun b hb => Nat.le_of_not_lt (h2 b hb), H.belowW, fun h => (hr h).symm⟩
  exact OwL.consP (Ow.I _ _) (OwL.consP (Ow.I _ _) (OwL.consP (Ow.I _ _) (OwL.consP (Ow.S _) (OwL.consP (Ow.I _ _) (OwL.consP (Ow.B _) (OwL.consP (Ow.I _ _) (OwL.one h1)))))))
set_option maxHeartbeats 3200000 in
set_option maxRecDepth 100000 in
theorem impl_readLine (s : ByteArray) (W : World) (ht : Std W) (hs : s.size ≤ 1048576) :
    Calls Tryd.prog 56 #[.string s] W (MadeRl W (ReadLine_f s)) := by
  have H := (St.start W).box #[.int .i64 0, .int .i64 0, .int .i64 0, .string ByteArray.empty, .int .i64 0, .bool false, .int .i64 0, .slice none 0 0] 37
  have z1 := rlCut_size s
  have z2 := rlCut_size (rlCut s).2.1
  have HC1 := fun (w : World) => strings_Cut_rl s w hs
  have HC2 := fun (w : World) => strings_Cut_rl (rlCut s).2.1 w (by omega)
  have HR1 := fun (w : World) (hb : Below W.heap.size W w) => impl_ReadList (rlCut s).1 w (ht.on hb) (by omega)
  have HR2 := fun (w : World) (hb : Below W.heap.size W w) => impl_ReadList (rlCut (rlCut s).2.1).1 w (ht.on hb) (by omega)
  have zt : (rlCut (rlCut s).2.1).2.1.size ≤ 1048576 := by omega
  have n1 := ReadList_len (rlCut s).1
  have HF := Lib.hid (show ReadLine_f s = rlF (rlCut s).2.2 (rlCut (rlCut s).2.1).2.2 (ReadList_f (rlCut s).1) (ReadList_f (rlCut (rlCut s).2.1).1) (rlCut (rlCut s).2.1).2.1 from rfl)
  unfold MadeIB at HR1 HR2
  clear z1 z2 ht hs
  generalize ReadList_f (rlCut s).1 = r1 at *
  generalize ReadList_f (rlCut (rlCut s).2.1).1 = r2 at *
  generalize rlCut (rlCut s).2.1 = c2 at *
  generalize rlCut s = c1 at *
  obtain ⟨x1, rest, b1⟩ := c1
  obtain ⟨x2, x3, b2⟩ := c2
  obtain ⟨l1, b3⟩ := r1
  obtain ⟨l2, b4⟩ := r2
  simp only at *
  go_enter Tryd.func56, Tryd.ntmps56
  go_wp2_with fail
  refine (HC1 _).mono ?_
  rintro e w1 ⟨rfl, hb1⟩
  replace H := H.below hb1
  clear hb1
  go_wp2_with fail
  refine (HC2 _).mono ?_
  rintro e w2 ⟨rfl, hb2⟩
  replace H := H.below hb2
  clear hb2
  go_wp2_with fail
  refine (HR1 _ H.belowW).mono ?_
  rintro e w3 ⟨A1, c1, F1, rfl, hO1, hF1, hb3⟩
  replace H := H.addow hb3 hO1 hF1
  clear hO1 hF1 hb3
  go_wp2_with fail
  refine (HR2 _ H.belowW).mono ?_
  rintro e w4 ⟨A2, k2, F2, rfl, hO2, hF2, hb4⟩
  replace H := H.addow hb4 hO2 hF2
  clear hO2 hF2 hb4 HC1 HC2 HR1 HR2
  cases b1
  · have HR := Lib.hid (HF.out.trans (if_neg (fun hh => by have h := hh.1; unfold rlOk at h; simp at h)))
    (try clear hq); have hq := H.facts; simp only [factsOf, Pt.facts, CellsAt, Nat.add_zero, Nat.zero_add, Nat.reduceAdd, and_true, true_and, List.set_cons_zero, List.set_cons_succ] at hq
    go_wp2
    have hB := H.belowW
    exact bodyPost_ret (v := .tuple #[.agg #[.int .i64 0, .int .i64 0, .int .i64 0, .string ByteArray.empty, .int .i64 0, .bool false, .int .i64 0, .slice none 0 0], .bool false]) (by simp [results, Tryd.results56, go_sem, hq]; rfl) rfl (madeRl_no (by (repeat (first | with_reducible assumption | with_reducible exact Below.refl _ _ | with_reducible refine Below.setCell ?_ ?_ _ | with_reducible refine Below.alloc ?_ ?_ _ | with_reducible refine Below.drew ?_ | with_reducible refine below_drewN ?_ _ | omega | (simp; done) | (simp; omega))); all_goals first | omega | (simp; done) | (simp; omega)) HR.out)
  cases b2
  · have HR := Lib.hid (HF.out.trans (if_neg (fun hh => by have h := hh.1; unfold rlOk at h; simp at h)))
    (try clear hq); have hq := H.facts; simp only [factsOf, Pt.facts, CellsAt, Nat.add_zero, Nat.zero_add, Nat.reduceAdd, and_true, true_and, List.set_cons_zero, List.set_cons_succ] at hq
    go_wp2
    have hB := H.belowW
    exact bodyPost_ret (v := .tuple #[.agg #[.int .i64 0, .int .i64 0, .int .i64 0, .string ByteArray.empty, .int .i64 0, .bool false, .int .i64 0, .slice none 0 0], .bool false]) (by simp [results, Tryd.results56, go_sem, hq]; rfl) rfl (madeRl_no (by (repeat (first | with_reducible assumption | with_reducible exact Below.refl _ _ | with_reducible refine Below.setCell ?_ ?_ _ | with_reducible refine Below.alloc ?_ ?_ _ | with_reducible refine Below.drew ?_ | with_reducible refine below_drewN ?_ _ | omega | (simp; done) | (simp; omega))); all_goals first | omega | (simp; done) | (simp; omega)) HR.out)
  cases b3
  · have HR := Lib.hid (HF.out.trans (if_neg (fun hh => by have h := hh.1; unfold rlOk at h; simp at h)))
    (try clear hq); have hq := H.facts; simp only [factsOf, Pt.facts, CellsAt, Nat.add_zero, Nat.zero_add, Nat.reduceAdd, and_true, true_and, List.set_cons_zero, List.set_cons_succ] at hq
    go_wp2
    have hB := H.belowW
    exact bodyPost_ret (v := .tuple #[.agg #[.int .i64 0, .int .i64 0, .int .i64 0, .string ByteArray.empty, .int .i64 0, .bool false, .int .i64 0, .slice none 0 0], .bool false]) (by simp [results, Tryd.results56, go_sem, hq]; rfl) rfl (madeRl_no (by (repeat (first | with_reducible assumption | with_reducible exact Below.refl _ _ | with_reducible refine Below.setCell ?_ ?_ _ | with_reducible refine Below.alloc ?_ ?_ _ | with_reducible refine Below.drew ?_ | with_reducible refine below_drewN ?_ _ | omega | (simp; done) | (simp; omega))); all_goals first | omega | (simp; done) | (simp; omega)) HR.out)
  cases b4
  · have HR := Lib.hid (HF.out.trans (if_neg (fun hh => by have h := hh.1; unfold rlOk at h; simp at h)))
    (try clear hq); have hq := H.facts; simp only [factsOf, Pt.facts, CellsAt, Nat.add_zero, Nat.zero_add, Nat.reduceAdd, and_true, true_and, List.set_cons_zero, List.set_cons_succ] at hq
    go_wp2
    have hB := H.belowW
    exact bodyPost_ret (v := .tuple #[.agg #[.int .i64 0, .int .i64 0, .int .i64 0, .string ByteArray.empty, .int .i64 0, .bool false, .int .i64 0, .slice none 0 0], .bool false]) (by simp [results, Tryd.results56, go_sem, hq]; rfl) rfl (madeRl_no (by (repeat (first | with_reducible assumption | with_reducible exact Below.refl _ _ | with_reducible refine Below.setCell ?_ ?_ _ | with_reducible refine Below.alloc ?_ ?_ _ | with_reducible refine Below.drew ?_ | with_reducible refine below_drewN ?_ _ | omega | (simp; done) | (simp; omega))); all_goals first | omega | (simp; done) | (simp; omega)) HR.out)
  by_cases h6 : l1.length = 6
  rotate_left
  · have HR := Lib.hid (HF.out.trans (if_neg (fun hh => by have h := hh.1; unfold rlOk at h; simp at h; exact h6 h.1)))
    have hg : ((l1.length : Int) != 6) = true := by simp; omega
    replace h6 := Lib.hid h6
    (try clear hq); have hq := H.facts; simp only [factsOf, Pt.facts, CellsAt, Nat.add_zero, Nat.zero_add, Nat.reduceAdd, and_true, true_and, List.set_cons_zero, List.set_cons_succ] at hq
    go_wp2
    have hB := H.belowW
    exact bodyPost_ret (v := .tuple #[.agg #[.int .i64 0, .int .i64 0, .int .i64 0, .string ByteArray.empty, .int .i64 0, .bool false, .int .i64 0, .slice none 0 0], .bool false]) (by simp [results, Tryd.results56, go_sem, hq]; rfl) rfl (madeRl_no (by (repeat (first | with_reducible assumption | with_reducible exact Below.refl _ _ | with_reducible refine Below.setCell ?_ ?_ _ | with_reducible refine Below.alloc ?_ ?_ _ | with_reducible refine Below.drew ?_ | with_reducible refine below_drewN ?_ _ | omega | (simp; done) | (simp; omega))); all_goals first | omega | (simp; done) | (simp; omega)) HR.out)
  obtain ⟨y0, y1, y2, y3, y4, y5, rfl⟩ := list6 h6
  clear h6 n1
  have HI := fun (w : World) => impl_in y4 0 1 w
  have H3 : St (Lo W.heap.size) (Lo W.heap.size) W w4 [.ow (ints [y0, y1, y2, y3, y4, y5]) (.slice A1 6 c1), .ow (ints l2) (.slice A2 l2.length k2), .bx W.heap.size #[.int .i64 0, .int .i64 0, .int .i64 0, .string ByteArray.empty, .int .i64 0, .bool false, .int .i64 0, .slice none 0 0] 37] := by
    apply St.sub' (h := H)
    (repeat (first | exact Pick.nil | with_reducible_and_instances exact Del.here | apply Pick.cons | with_reducible apply Del.there))
  obtain ⟨R4, H4, -⟩ := H3.freeze
  clear H3 H
  obtain ⟨b, off, rfl, H⟩ := ints_st H4 (k := 0) (x := y0) (by repeat (first | with_reducible_and_instances exact .here | with_reducible refine .there ?_)) rfl
  clear H4
  obtain ⟨b0, off0, hA, H4⟩ := ints_st H (k := 1) (x := y1) (by repeat (first | with_reducible_and_instances exact .here | with_reducible refine .there ?_)) rfl
  injection hA with hA
  injection hA with e1 e2
  subst e1 e2
  clear H
  obtain ⟨b0, off0, hA, H⟩ := ints_st H4 (k := 2) (x := y2) (by repeat (first | with_reducible_and_instances exact .here | with_reducible refine .there ?_)) rfl
  injection hA with hA
  injection hA with e1 e2
  subst e1 e2
  clear H4
  obtain ⟨b0, off0, hA, H4⟩ := ints_st H (k := 3) (x := y3) (by repeat (first | with_reducible_and_instances exact .here | with_reducible refine .there ?_)) rfl
  injection hA with hA
  injection hA with e1 e2
  subst e1 e2
  clear H
  obtain ⟨b0, off0, hA, H⟩ := ints_st H4 (k := 4) (x := y4) (by repeat (first | with_reducible_and_instances exact .here | with_reducible refine .there ?_)) rfl
  injection hA with hA
  injection hA with e1 e2
  subst e1 e2
  clear H4
  obtain ⟨b0, off0, hA, H4⟩ := ints_st H (k := 5) (x := y5) (by repeat (first | with_reducible_and_instances exact .here | with_reducible refine .there ?_)) rfl
  injection hA with hA
  injection hA with e1 e2
  subst e1 e2
  clear H
  have H := H4
  clear H4
  cases hi : inB y4 0 1
  · have HR := Lib.hid (HF.out.trans (if_neg (fun hh => by have h := hh.1; unfold rlOk at h; simp [hi] at h)))
    rw [hi] at HI
    (try clear hq); have hq := H.facts; simp only [factsOf, Pt.facts, CellsAt, Nat.add_zero, Nat.zero_add, Nat.reduceAdd, and_true, true_and, List.set_cons_zero, List.set_cons_succ] at hq
    go_wp2_with (go_at_call 65; (with_reducible refine (HI _).mono ?_); rintro e w' ⟨rfl, rfl⟩)
    have hB := H.belowW
    exact bodyPost_ret (v := .tuple #[.agg #[.int .i64 0, .int .i64 0, .int .i64 0, .string ByteArray.empty, .int .i64 0, .bool false, .int .i64 0, .slice none 0 0], .bool false]) (by simp [results, Tryd.results56, go_sem, hq]; rfl) rfl (madeRl_no (by (repeat (first | with_reducible assumption | with_reducible exact Below.refl _ _ | with_reducible refine Below.setCell ?_ ?_ _ | with_reducible refine Below.alloc ?_ ?_ _ | with_reducible refine Below.drew ?_ | with_reducible refine below_drewN ?_ _ | omega | (simp; done) | (simp; omega))); all_goals first | omega | (simp; done) | (simp; omega)) HR.out)
  · have HR := Lib.hid (show ReadLine_f s = if (rlM [y0, y1, y2, y3, y4, y5] l2 x3).ok = true then (rlM [y0, y1, y2, y3, y4, y5] l2 x3, true) else (msg0, false) from by
      rw [HF.out]
      unfold rlF
      rw [show rlOk true true ([y0, y1, y2, y3, y4, y5], true) (l2, true) = true from by unfold rlOk; simp [hi]]
      simp)
    rw [hi] at HI
    clear hi HF
    (try clear hq); have hq := H.facts; simp only [factsOf, Pt.facts, CellsAt, Nat.add_zero, Nat.zero_add, Nat.reduceAdd, and_true, true_and, List.set_cons_zero, List.set_cons_succ] at hq
    go_wp2_with (go_at_call 65; (with_reducible refine (HI _).mono ?_); rintro e w' ⟨rfl, rfl⟩)
    have hS : w4.cell? ⟨b, off, none⟩ = some (.int .i64 y0) ∧ w4.cell? ⟨b, off + 1, none⟩ = some (.int .i64 y1) ∧ w4.cell? ⟨b, off + 2, none⟩ = some (.int .i64 y2) ∧ w4.cell? ⟨b, off + 3, none⟩ = some (.int .i64 y3) ∧ w4.cell? ⟨b, off + 4, none⟩ = some (.int .i64 y4) ∧ w4.cell? ⟨b, off + 5, none⟩ = some (.int .i64 y5) :=
      ⟨H.rd (b := b) (off := off + 0) (us := [.int .i64 y0]) (by repeat (first | with_reducible_and_instances exact .here | with_reducible refine .there ?_)) (j := 0) rfl, H.rd (b := b) (off := off + 1) (us := [.int .i64 y1]) (by repeat (first | with_reducible_and_instances exact .here | with_reducible refine .there ?_)) (j := 0) rfl, H.rd (b := b) (off := off + 2) (us := [.int .i64 y2]) (by repeat (first | with_reducible_and_instances exact .here | with_reducible refine .there ?_)) (j := 0) rfl, H.rd (b := b) (off := off + 3) (us := [.int .i64 y3]) (by repeat (first | with_reducible_and_instances exact .here | with_reducible refine .there ?_)) (j := 0) rfl, H.rd (b := b) (off := off + 4) (us := [.int .i64 y4]) (by repeat (first | with_reducible_and_instances exact .here | with_reducible refine .there ?_)) (j := 0) rfl, H.rd (b := b) (off := off + 5) (us := [.int .i64 y5]) (by repeat (first | with_reducible_and_instances exact .here | with_reducible refine .there ?_)) (j := 0) rfl⟩
    have hbl := World.block_lt_of_cell? w4 _ hS.1
    replace hS := Lib.hid (fun (w' : World) (h : Below w4.heap.size w4 w') => (show w'.cell? ⟨b, off, none⟩ = some (.int .i64 y0) ∧ w'.cell? ⟨b, off + 1, none⟩ = some (.int .i64 y1) ∧ w'.cell? ⟨b, off + 2, none⟩ = some (.int .i64 y2) ∧ w'.cell? ⟨b, off + 3, none⟩ = some (.int .i64 y3) ∧ w'.cell? ⟨b, off + 4, none⟩ = some (.int .i64 y4) ∧ w'.cell? ⟨b, off + 5, none⟩ = some (.int .i64 y5) from
      ⟨(h.cell (p := ⟨b, off, none⟩) hbl).trans hS.1, (h.cell (p := ⟨b, off + 1, none⟩) hbl).trans hS.2.1, (h.cell (p := ⟨b, off + 2, none⟩) hbl).trans hS.2.2.1, (h.cell (p := ⟨b, off + 3, none⟩) hbl).trans hS.2.2.2.1, (h.cell (p := ⟨b, off + 4, none⟩) hbl).trans hS.2.2.2.2.1, (h.cell (p := ⟨b, off + 5, none⟩) hbl).trans hS.2.2.2.2.2⟩))
    have hBr : Below w4.heap.size w4 w4 := Below.refl _ _
    clear hq
    go_region_held3 (fun w' => w'.cell? ⟨b, off, none⟩ = some (.int .i64 y0) ∧ w'.cell? ⟨b, off + 1, none⟩ = some (.int .i64 y1) ∧ w'.cell? ⟨b, off + 2, none⟩ = some (.int .i64 y2) ∧ w'.cell? ⟨b, off + 3, none⟩ = some (.int .i64 y3) ∧ w'.cell? ⟨b, off + 4, none⟩ = some (.int .i64 y4) ∧ w'.cell? ⟨b, off + 5, none⟩ = some (.int .i64 y5)) (exact hS.out _ (by first | exact hBr | exact hBr.drew | exact (hBr.alloc (Nat.le_refl _) _).drew | exact hBr.alloc (Nat.le_refl _) _ | exact hBr.drew.alloc (Nat.le_refl _) _)) (fail)
    clear hS hBr
    have hwg := (H.bx_new (b := W.heap.size) (by repeat (first | with_reducible_and_instances exact .here | with_reducible refine .there ?_))).2
    replace H := (H.box #[.int .i64 y0, .int .i64 y1, .int .i64 y2, .string x3, .int .i64 y3, .bool (y4 == 1), .int .i64 y5, .slice A2 l2.length k2] 37).drew
    have hgb := (H.bx_new (b := w4.heap.size) (by repeat (first | with_reducible_and_instances exact .here | with_reducible refine .there ?_))).2
    have hgz := (H.bx_new (b := W.heap.size) (by repeat (first | with_reducible_and_instances exact .here | with_reducible refine .there ?_))).2
    go_wp2_with fail
    generalize w4.heap.size = gb at *
    refine St.any H ?_
    clear H
    intro w5 H
    have hz5 := (H.bx_new (b := gb) (by repeat (first | with_reducible_and_instances exact .here | with_reducible refine .there ?_))).2
    have hzw := (H.bx_new (b := W.heap.size) (by repeat (first | with_reducible_and_instances exact .here | with_reducible refine .there ?_))).2
    have hneb : ¬ gb = W.heap.size := by omega
    have XB := Lib.hid (H.bx (b := gb) (cs := #[.int .i64 y0, .int .i64 y1, .int .i64 y2, .string x3, .int .i64 y3, .bool (y4 == 1), .int .i64 y5, .slice A2 l2.length k2]) (t := 37) (by repeat (first | with_reducible_and_instances exact .here | with_reducible refine .there ?_)))
    have XW := Lib.hid (H.bx (b := W.heap.size) (cs := #[.int .i64 0, .int .i64 0, .int .i64 0, .string ByteArray.empty, .int .i64 0, .bool false, .int .i64 0, .slice none 0 0]) (t := 37) (by repeat (first | with_reducible_and_instances exact .here | with_reducible refine .there ?_)))
    have hro : RoL w5 (Lo w5.heap.size) (Message.d true (rlM [y0, y1, y2, y3, y4, y5] l2 x3)) [.int .i64 y0, .int .i64 y1, .int .i64 y2, .string x3, .int .i64 y3, .bool (y4 == 1), .int .i64 y5, .slice A2 l2.length k2] :=
      RoL.cons (.int _ _) (RoL.cons (.int _ _) (RoL.cons (.int _ _) (RoL.cons (.str _) (RoL.cons (.int _ _) (RoL.cons (.bool _) (RoL.cons (.int _ _) (RoL.cons (show Ro w5 (Lo w5.heap.size) (ints l2) (.slice A2 l2.length k2) from H.lo (.inr (by repeat (first | with_reducible_and_instances exact .here | with_reducible refine .there ?_)))) RoL.nil)))))))
    have HV := fun (w : World) (hb : Below w5.heap.size w5 w) => impl_ValidMessage (rlM [y0, y1, y2, y3, y4, y5] l2 x3) _ w (rol_to hro hb) (by show x3.size ≤ maxLen; simp only [maxLen]; omega)
    have HM := Lib.hid (show rlM [y0, y1, y2, y3, y4, y5] l2 x3 = ⟨y0, y1, y2, x3, y3, y4 == 1, y5, l2⟩ from rfl)
    clear hro
    generalize rlM [y0, y1, y2, y3, y4, y5] l2 x3 = mm at *
    have HOK := Lib.hid (show (ReadLine_f s).2 = mm.ok ∧ (mm.ok = true → (ReadLine_f s).1 = ⟨y0, y1, y2, x3, y3, y4 == 1, y5, l2⟩) from by
      rw [HR.out]
      cases hk : mm.ok
      · exact ⟨rfl, fun h => by cases h⟩
      · exact ⟨rfl, fun _ => HM.out⟩)
    generalize mm.ok = ok at *
    have hBr : Below w5.heap.size w5 w5 := Below.refl _ _
    have HSS := Lib.hid (fun (w' : World) (h : Below w5.heap.size w5 w') => (show w'.cell? ⟨gb, 0, none⟩ = some (.int .i64 y0) ∧ w'.cell? ⟨gb, 1, none⟩ = some (.int .i64 y1) ∧ w'.cell? ⟨gb, 2, none⟩ = some (.int .i64 y2) ∧ w'.cell? ⟨gb, 3, none⟩ = some (.string x3) ∧ w'.cell? ⟨gb, 4, none⟩ = some (.int .i64 y3) ∧ w'.cell? ⟨gb, 5, none⟩ = some (.bool (y4 == 1)) ∧ w'.cell? ⟨gb, 6, none⟩ = some (.int .i64 y5) ∧ w'.cell? ⟨gb, 7, none⟩ = some (.slice A2 l2.length k2) from
      ⟨(h.cell (p := ⟨gb, 0, none⟩) hz5).trans (XB.out.cell 0 rfl), (h.cell (p := ⟨gb, 1, none⟩) hz5).trans (XB.out.cell 1 rfl), (h.cell (p := ⟨gb, 2, none⟩) hz5).trans (XB.out.cell 2 rfl), (h.cell (p := ⟨gb, 3, none⟩) hz5).trans (XB.out.cell 3 rfl), (h.cell (p := ⟨gb, 4, none⟩) hz5).trans (XB.out.cell 4 rfl), (h.cell (p := ⟨gb, 5, none⟩) hz5).trans (XB.out.cell 5 rfl), (h.cell (p := ⟨gb, 6, none⟩) hz5).trans (XB.out.cell 6 rfl), (h.cell (p := ⟨gb, 7, none⟩) hz5).trans (XB.out.cell 7 rfl)⟩))
    generalize hnn : l2.length = nn at *
    replace hnn := Lib.hid hnn
    go_region_held3 (fun w' => w'.cell? ⟨gb, 0, none⟩ = some (.int .i64 y0) ∧ w'.cell? ⟨gb, 1, none⟩ = some (.int .i64 y1) ∧ w'.cell? ⟨gb, 2, none⟩ = some (.int .i64 y2) ∧ w'.cell? ⟨gb, 3, none⟩ = some (.string x3) ∧ w'.cell? ⟨gb, 4, none⟩ = some (.int .i64 y3) ∧ w'.cell? ⟨gb, 5, none⟩ = some (.bool (y4 == 1)) ∧ w'.cell? ⟨gb, 6, none⟩ = some (.int .i64 y5) ∧ w'.cell? ⟨gb, 7, none⟩ = some (.slice A2 nn k2))
      (first | with_reducible exact HSS.out _ hBr | with_reducible exact HSS.out _ hBr.drew | with_reducible exact HSS.out _ hb7 | with_reducible exact HSS.out _ hb7.drew | exact ⟨(cell_put8 hneb).trans (HSS.out _ hb7).1, (cell_put8 hneb).trans (HSS.out _ hb7).2.1, (cell_put8 hneb).trans (HSS.out _ hb7).2.2.1, (cell_put8 hneb).trans (HSS.out _ hb7).2.2.2.1, (cell_put8 hneb).trans (HSS.out _ hb7).2.2.2.2.1, (cell_put8 hneb).trans (HSS.out _ hb7).2.2.2.2.2.1, (cell_put8 hneb).trans (HSS.out _ hb7).2.2.2.2.2.2.1, (cell_put8 hneb).trans (HSS.out _ hb7).2.2.2.2.2.2.2⟩)
      ((first | (go_at_call 52; (with_reducible refine (HV _ (by first | exact hBr | exact hBr.drew)).mono ?_); rintro e w6 ⟨rfl, hb6⟩; have hb7 : Below w5.heap.size w5 w6 := (by first | exact hb6 | exact (below_drew1 _).trans hb6); have xb := XW.out.below hb7 hzw; have xc0 := xb.cell 0 rfl; have xf0 := xb.free 0; have xc1 := xb.cell 1 rfl; have xf1 := xb.free 1; have xc2 := xb.cell 2 rfl; have xf2 := xb.free 2; have xc3 := xb.cell 3 rfl; have xf3 := xb.free 3; have xc4 := xb.cell 4 rfl; have xf4 := xb.free 4; have xc5 := xb.cell 5 rfl; have xf5 := xb.free 5; have xc6 := xb.cell 6 rfl; have xf6 := xb.free 6; have xc7 := xb.cell 7 rfl; have xf7 := xb.free 7)))
    clear xc0 xc1 xc2 xc3 xc4 xc5 xc6 xc7 xf0 xf1 xf2 xf3 xf4 xf5 xf6 xf7 xb hBr
    replace H := H.below hb7
    replace H := (H.pull (k := 9) rfl).put8 (.int .i64 y0) (.int .i64 y1) (.int .i64 y2) (.string x3) (.int .i64 y3) (.bool (y4 == 1)) (.int .i64 y5) (.slice A2 nn k2)
    simp only [List.set_cons_zero, List.set_cons_succ] at H
    (try clear hq); have hq := H.facts; simp only [factsOf, Pt.facts, CellsAt, Nat.add_zero, Nat.zero_add, Nat.reduceAdd, and_true, true_and, List.set_cons_zero, List.set_cons_succ] at hq
    go_wp2
    exact bodyPost_ret (v := .tuple #[.agg #[.int .i64 y0, .int .i64 y1, .int .i64 y2, .string x3, .int .i64 y3, .bool (y4 == 1), .int .i64 y5, .slice A2 nn k2], .bool ok]) (by simp [results, Tryd.results56, go_sem, hq]) rfl (madeRl_st H (by repeat (first | with_reducible_and_instances exact .here | with_reducible refine .there ?_)) HOK.out.1 HOK.out.2)
def MadeMB (W : World) (r : Message × Bool) (e : Ending) (w' : World) : Prop := ∃ us F, e = .returned (.tuple #[.agg us.toArray, .bool r.2]) ∧ OwL w' (Message.d true r.1) us F ∧ (∀ b, F b → W.heap.size ≤ b) ∧ Below W.heap.size W w'
theorem madeMB_no {W w : World} {r : Message × Bool} (hB : Below W.heap.size W w) (hr : r = (msg0, false)) : MadeMB W r (.returned (.tuple #[.agg #[.int .i64 0, .int .i64 0, .int .i64 0, .string ByteArray.empty, .int .i64 0, .bool false, .int .i64 0, .slice none 0 0], .bool false])) w := by
  subst hr
  exact ⟨_, fun _ => False, rfl, OwL.consP (Ow.I _ _) (OwL.consP (Ow.I _ _) (OwL.consP (Ow.I _ _) (OwL.consP (Ow.S _) (OwL.consP (Ow.I _ _) (OwL.consP (Ow.B _) (OwL.consP (Ow.I _ _) (OwL.consP (.emp _ _ _ _ (by simp)) OwL.nil))))))), fun b h => h.elim, hB⟩
theorem ReadLine_no {s : ByteArray} (h : (ReadLine_f s).2 = false) : ReadLine_f s = (msg0, false) := by
  unfold ReadLine_f rlF at h ⊢
  split at h
  · cases h
  · rename_i hh; rw [if_neg hh]
theorem madeMB_os {R : Nat → Prop} {W w : World} {ps : List Pt} {r : Message × Bool} {us : List Value} {m : Message} (H : St (Lo W.heap.size) R W w ps) (ha : At (.os (Message.d true m) us) ps) (hr : r = (m, true)) :
    MadeMB W r (.returned (.tuple #[.agg us.toArray, .bool true])) w := by
  obtain ⟨F, h1, h2⟩ := H.owns ha
  subst hr
  exact ⟨_, F, rfl, h1, fun b hb => Nat.le_of_not_lt (h2 b hb), H.belowW⟩
set_option maxHeartbeats 3200000 in
set_option maxRecDepth 100000 in
theorem impl_ReadLine (s : ByteArray) (W : World) (ht : Std W) (hs : s.size ≤ 1048576) :
    Calls Tryd.prog 23 #[.string s] W (MadeMB W (ReadLine_f s)) := by
  have H := (St.start W).box #[.int .i64 0, .int .i64 0, .int .i64 0, .string ByteArray.empty, .int .i64 0, .bool false, .int .i64 0, .slice none 0 0] 37
  have HR := fun (w : World) (hb : Below W.heap.size W w) => impl_readLine s w (ht.on hb) hs
  have HN := Lib.hid (ReadLine_no (s := s))
  clear ht hs
  unfold MadeRl at HR
  generalize ReadLine_f s = r at *
  obtain ⟨r1, ok⟩ := r
  simp only at HR HN
  go_enter Tryd.func23, Tryd.ntmps23
  go_wp2_with fail
  refine (HR _ H.belowW).mono ?_
  rintro e w1 ⟨m, us, F, rfl, hO, hF, hb1, hm⟩
  replace H := H.addos hb1 hO hF
  obtain ⟨A7, c7, rfl, -⟩ := Message.cells hO.ro
  replace hm := Lib.hid hm
  clear hO hF hb1
  have ZB := Lib.hid (H.bx_new (b := W.heap.size) (by repeat (first | with_reducible_and_instances exact .here | with_reducible refine .there ?_))).2
  cases ok
  · have HX := Lib.hid (HN.out rfl)
    clear hm HN
    (try clear hq); have hq := H.facts; simp only [factsOf, Pt.facts, CellsAt, Nat.add_zero, Nat.zero_add, Nat.reduceAdd, and_true, true_and, List.set_cons_zero, List.set_cons_succ] at hq
    go_wp2
    have hB := H.belowW
    exact bodyPost_ret (v := .tuple #[.agg #[.int .i64 0, .int .i64 0, .int .i64 0, .string ByteArray.empty, .int .i64 0, .bool false, .int .i64 0, .slice none 0 0], .bool false]) (by simp [results, Tryd.results23, go_sem, hq]; rfl) rfl (madeMB_no (by (repeat (first | with_reducible assumption | with_reducible exact Below.refl _ _ | with_reducible refine Below.setCell ?_ ?_ _ | with_reducible refine Below.alloc ?_ ?_ _ | with_reducible refine Below.drew ?_ | with_reducible refine below_drewN ?_ _ | omega | (simp; done) | (simp; omega))); all_goals first | omega | (simp; done) | (simp; omega)) HX.out)
  · obtain rfl := hm.out rfl
    clear hm HN
    obtain ⟨num, snd, at', txt, ed, gone, rep, likes⟩ := m
    simp only at *
    generalize hnn : likes.length = nn at *
    replace hnn := Lib.hid hnn
    have hzw := ZB.out
    have hne : ¬ w1.heap.size = W.heap.size := by omega
    have hne2 : ¬ W.heap.size = w1.heap.size := by omega
    (try clear hq); have hq := H.facts; simp only [factsOf, Pt.facts, CellsAt, Nat.add_zero, Nat.zero_add, Nat.reduceAdd, and_true, true_and, List.set_cons_zero, List.set_cons_succ] at hq
    go_wp2_with fail
    replace H := (H.pull (k := 1) rfl).put8 (.int .i64 num) (.int .i64 snd) (.int .i64 at') (.string txt) (.int .i64 ed) (.bool gone) (.int .i64 rep) (.slice A7 nn c7)
    simp only [List.set_cons_zero, List.set_cons_succ] at H
    replace H := H.box #[.int .i64 num, .int .i64 snd, .int .i64 at', .string txt, .int .i64 ed, .bool gone, .int .i64 rep, .slice A7 nn c7] 37
    (try clear hq); have hq := H.facts; simp only [factsOf, Pt.facts, CellsAt, Nat.add_zero, Nat.zero_add, Nat.reduceAdd, and_true, true_and, List.set_cons_zero, List.set_cons_succ] at hq
    go_wp2
    exact bodyPost_ret (v := .tuple #[.agg #[.int .i64 num, .int .i64 snd, .int .i64 at', .string txt, .int .i64 ed, .bool gone, .int .i64 rep, .slice A7 nn c7], .bool true]) (by simp [results, Tryd.results23, go_sem, hq]) rfl (madeMB_os H (by repeat (first | with_reducible_and_instances exact .here | with_reducible refine .there ?_)) rfl)
theorem madeMB_ow {R : Nat → Prop} {W w : World} {ps : List Pt} {r : Message × Bool} {A : Option Addr} {q c : Nat} {x0 x1 x2 x3 x5 : Int} {g : Bool} {t : ByteArray} {l : List Int} (H : St (Lo W.heap.size) R W w ps) (ha : At (.ow (ints l) (.slice A q c)) ps) (hr : r = (⟨x0, x1, x2, t, x3, g, x5, l⟩, true)) :
    MadeMB W r (.returned (.tuple #[.agg #[.int .i64 x0, .int .i64 x1, .int .i64 x2, .string t, .int .i64 x3, .bool g, .int .i64 x5, .slice A q c], .bool true])) w := by
  obtain ⟨F, h1, h2⟩ := H.own ha
  subst hr
  refine ⟨_, F, rfl, ?_, fun b hb => Nat.le_of_not_lt (h2 b hb), H.belowW⟩
  exact OwL.consP (Ow.I _ _) (OwL.consP (Ow.I _ _) (OwL.consP (Ow.I _ _) (OwL.consP (Ow.S _) (OwL.consP (Ow.I _ _) (OwL.consP (Ow.B _) (OwL.consP (Ow.I _ _) (OwL.one h1)))))))
theorem _root_.Go.Dt.St.anyC {P : Program} {N R : Nat → Prop} {W w : World} {ps : List Pt} {f : FuncId} {args : Array Value} {Q : Ending → World → Prop} (H : St N R W w ps) (h : ∀ w', St N R W w' ps → Calls P f args w' Q) : Calls P f args w Q := h w H
theorem ReadLine_parts {s : ByteArray} {p q r : List UInt8} (h : s.data.toList = p ++ 32 :: (q ++ 32 :: r)) (hp : (32 : UInt8) ∉ p) (hq : (32 : UInt8) ∉ q) :
    ReadLine_f s = rlF true true (ReadList_f (s.extract 0 p.length)) (ReadList_f (s.extract (p.length + 1) (p.length + 1 + q.length))) (s.extract (p.length + 1 + q.length + 1) s.size) := by
  have hz := split_size h
  have hd : (s.extract (p.length + 1) s.size).data.toList = q ++ 32 :: r := by
    rw [ba_extract, h, show p ++ 32 :: (q ++ 32 :: r) = (p ++ [32]) ++ (q ++ 32 :: r) by simp, List.drop_left' (by simp)]
    exact List.take_of_length_le (by omega)
  have hz2 := split_size hd
  have d1 : (p ++ 32 :: (q ++ 32 :: r)).drop (p.length + 1) = q ++ 32 :: r := by
    rw [show p ++ 32 :: (q ++ 32 :: r) = (p ++ [32]) ++ (q ++ 32 :: r) by simp, List.drop_left' (by simp)]
  have d2 : (q ++ 32 :: r).drop (q.length + 1) = r := by
    rw [show q ++ 32 :: r = (q ++ [32]) ++ r by simp, List.drop_left' (by simp)]
  have d3 : (p ++ 32 :: (q ++ 32 :: r)).drop (p.length + 1 + q.length + 1) = r := by
    rw [show p.length + 1 + q.length + 1 = (p.length + 1) + (q.length + 1) by omega, ← List.drop_drop, d1, d2]
  have hz3 : s.size = p.length + 1 + (q.length + 1 + r.length) := by rw [hz]; simp; omega
  have e1 : (s.extract (p.length + 1) s.size).extract 0 q.length = s.extract (p.length + 1) (p.length + 1 + q.length) := by
    apply ba_ext
    rw [ba_extract, hd, ba_extract, h, d1, Nat.add_sub_cancel_left, Nat.sub_zero, List.drop_zero]
  have e2 : (s.extract (p.length + 1) s.size).extract (q.length + 1) (s.extract (p.length + 1) s.size).size = s.extract (p.length + 1 + q.length + 1) s.size := by
    apply ba_ext
    rw [ba_extract, hd, ba_extract, h, d2, d3, List.take_of_length_le (by omega), List.take_of_length_le (by omega)]
  unfold ReadLine_f
  rw [rlCut_at h hp]
  simp only
  rw [rlCut_at hd hq]
  simp only
  rw [e1, e2]
theorem ReadLine_miss {s : ByteArray} (h : (rlCut s).2.2 = false ∨ (rlCut (rlCut s).2.1).2.2 = false) : ReadLine_f s = (msg0, false) := by
  unfold ReadLine_f rlF
  rw [if_neg]
  rintro ⟨hh, -⟩
  unfold rlOk at hh
  rcases h with h | h <;> rw [h] at hh <;> simp at hh
set_option maxHeartbeats 3200000 in
set_option maxRecDepth 100000 in
theorem spec_l09Read (s : ByteArray) (W : World) (hs : s.size ≤ 1048576) :
    Calls Tryd.prog 55 #[.string s] W (MadeMB W (ReadLine_f s)) := by
  have H := (St.start W).box #[.int .i64 0, .int .i64 0, .int .i64 0, .string ByteArray.empty, .int .i64 0, .bool false, .int .i64 0, .slice none 0 0] 37
  have hs' : (s.size : Int) ≤ 1048576 := by omega
  have HB0 := fun (w : World) => spec_l09Blank s 0 w hs (by omega)
  have HB1 := fun (f : Nat) (hf : f ≤ 1048577) (w : World) => spec_l09Blank s f w hs hf
  rcases mem_split 32 s.data.toList with hno | ⟨p, r0, hL, hp⟩
  · have HR := Lib.hid (ReadLine_miss (s := s) (.inl (by rw [rlCut_no hno])))
    have e0 : blkN s 0 = s.size := blkN_no (by omega) (by simpa using hno)
    have e1 : blkN s (s.size + 1) = s.size + 1 := blkN_end (by omega)
    rw [e0] at HB0
    have HB2 := HB1 (s.size + 1) (by omega)
    rw [e1] at HB2
    have ec : ((s.size + 1 : Nat) : Int) = (s.size : Int) + 1 := by omega
    rw [ec] at HB2
    clear hno e0 e1 ec HB1 hs
    go_enter Tryd.func55, Tryd.ntmps55
    go_wp2_with fail
    refine (HB0 _).mono ?_
    rintro e w1 ⟨rfl, rfl⟩
    go_wp2_with fail
    refine (HB2 _).mono ?_
    rintro e w1 ⟨rfl, rfl⟩
    (try clear hq); have hq := H.facts; simp only [factsOf, Pt.facts, CellsAt, Nat.add_zero, Nat.zero_add, Nat.reduceAdd, and_true, true_and, List.set_cons_zero, List.set_cons_succ] at hq
    go_wp2
    have hB := H.belowW
    exact bodyPost_ret (v := .tuple #[.agg #[.int .i64 0, .int .i64 0, .int .i64 0, .string ByteArray.empty, .int .i64 0, .bool false, .int .i64 0, .slice none 0 0], .bool false]) (by simp [results, Tryd.results55, go_sem, hq]; rfl) rfl (madeMB_no (by (repeat (first | with_reducible assumption | with_reducible exact Below.refl _ _ | with_reducible refine Below.setCell ?_ ?_ _ | with_reducible refine Below.alloc ?_ ?_ _ | with_reducible refine Below.drew ?_ | with_reducible refine below_drewN ?_ _ | omega | (simp; done) | (simp; omega))); all_goals first | omega | (simp; done) | (simp; omega)) HR.out)
  have hz := split_size hL
  have hd0 : s.data.toList.drop (p.length + 1) = r0 := by rw [hL, show p ++ 32 :: r0 = (p ++ [32]) ++ r0 by simp, List.drop_left' (by simp)]
  have e0 : blkN s 0 = p.length := by
    have := blkN_at (s := s) (f := 0) (q := p) (t := r0) (by simpa using hL) hp
    omega
  rw [e0] at HB0
  have HB2 := HB1 (p.length + 1) (by omega)
  have ec : ((p.length + 1 : Nat) : Int) = (p.length : Int) + 1 := by omega
  rw [ec] at HB2
  clear e0 ec HB1
  rcases mem_split 32 r0 with hno | ⟨q, r, rfl, hq0⟩
  · have HR := Lib.hid (ReadLine_miss (s := s) (.inr (by
      rw [rlCut_at hL hp]
      simp only
      rw [rlCut_no]
      rw [ba_extract, hd0]
      exact fun h => hno (List.mem_of_mem_take h))))
    have e1 : blkN s (p.length + 1) = s.size := blkN_no (by omega) (by rw [hd0]; exact hno)
    rw [e1] at HB2
    clear hno e1 hL hd0 hp
    generalize p.length = na at *
    have hna : (na : Int) + 1 ≤ (s.size : Int) := by omega
    replace hz := Lib.hid hz
    go_enter Tryd.func55, Tryd.ntmps55
    go_wp2_with fail
    refine (HB0 _).mono ?_
    rintro e w1 ⟨rfl, rfl⟩
    go_wp2_with fail
    refine (HB2 _).mono ?_
    rintro e w1 ⟨rfl, rfl⟩
    (try clear hq); have hq := H.facts; simp only [factsOf, Pt.facts, CellsAt, Nat.add_zero, Nat.zero_add, Nat.reduceAdd, and_true, true_and, List.set_cons_zero, List.set_cons_succ] at hq
    go_wp2
    have hB := H.belowW
    exact bodyPost_ret (v := .tuple #[.agg #[.int .i64 0, .int .i64 0, .int .i64 0, .string ByteArray.empty, .int .i64 0, .bool false, .int .i64 0, .slice none 0 0], .bool false]) (by simp [results, Tryd.results55, go_sem, hq]; rfl) rfl (madeMB_no (by (repeat (first | with_reducible assumption | with_reducible exact Below.refl _ _ | with_reducible refine Below.setCell ?_ ?_ _ | with_reducible refine Below.alloc ?_ ?_ _ | with_reducible refine Below.drew ?_ | with_reducible refine below_drewN ?_ _ | omega | (simp; done) | (simp; omega))); all_goals first | omega | (simp; done) | (simp; omega)) HR.out)
  have HF := Lib.hid (ReadLine_parts hL hp hq0)
  have e1 : blkN s (p.length + 1) = p.length + 1 + q.length := blkN_at hd0 hq0
  rw [e1] at HB2
  have hzz := split_size (s := s) (a := p ++ 32 :: q) (b := r) (c := 32) (by rw [hL]; simp)
  have HR1 := fun (w : World) => spec_l01Numbers (s.extract 0 p.length) w (Nat.le_trans (extract_le _ _ _) hs)
  have HR2 := fun (w : World) => spec_l01Numbers (s.extract (p.length + 1) (p.length + 1 + q.length)) w (Nat.le_trans (extract_le _ _ _) hs)
  have zt : (s.extract (p.length + 1 + q.length + 1) s.size).size ≤ 1048576 := Nat.le_trans (extract_le _ _ _) hs
  have n1 := ReadList_len (s.extract 0 p.length)
  have hnb : p.length + 1 + q.length + 1 ≤ s.size := by simp at hzz; omega
  unfold MadeIB at HR1 HR2
  clear e1 hL hd0 hp hq0 hzz hz
  generalize ReadList_f (s.extract 0 p.length) = r1 at *
  generalize ReadList_f (s.extract (p.length + 1) (p.length + 1 + q.length)) = r2 at *
  generalize hnbe : p.length + 1 + q.length = nb at *
  generalize hnae : p.length = na at *
  have hab : na + 1 ≤ nb := by omega
  have hab' : (na : Int) + 1 ≤ (nb : Int) := by omega
  have hnb' : (nb : Int) + 1 ≤ (s.size : Int) := by omega
  clear hnbe hnae
  obtain ⟨l1, b3⟩ := r1
  obtain ⟨l2, b4⟩ := r2
  simp only at *
  go_enter Tryd.func55, Tryd.ntmps55
  go_wp2_with fail
  refine (HB0 _).mono ?_
  rintro e w1 ⟨rfl, rfl⟩
  go_wp2_with fail
  refine (HB2 _).mono ?_
  rintro e w1 ⟨rfl, rfl⟩
  go_wp2_with fail
  refine (HR1 _).mono ?_
  rintro e w3 ⟨A1, c1, F1, rfl, hO1, hF1, hb3⟩
  replace H := H.addow hb3 hO1 hF1
  clear hO1 hF1 hb3
  go_wp2_with fail
  refine (HR2 _).mono ?_
  rintro e w4 ⟨A2, k2, F2, rfl, hO2, hF2, hb4⟩
  replace H := H.addow hb4 hO2 hF2
  clear hO2 hF2 hb4 HR1 HR2 HB0 HB2
  generalize hx3 : s.extract (nb + 1) s.size = x3 at *
  replace hx3 := Lib.hid hx3
  cases b3
  · have HR := Lib.hid (HF.out.trans (if_neg (fun hh => by have h := hh.1; unfold rlOk at h; simp at h)))
    (try clear hq); have hq := H.facts; simp only [factsOf, Pt.facts, CellsAt, Nat.add_zero, Nat.zero_add, Nat.reduceAdd, and_true, true_and, List.set_cons_zero, List.set_cons_succ] at hq
    go_wp2
    have hB := H.belowW
    exact bodyPost_ret (v := .tuple #[.agg #[.int .i64 0, .int .i64 0, .int .i64 0, .string ByteArray.empty, .int .i64 0, .bool false, .int .i64 0, .slice none 0 0], .bool false]) (by simp [results, Tryd.results56, go_sem, hq]; rfl) rfl (madeMB_no (by (repeat (first | with_reducible assumption | with_reducible exact Below.refl _ _ | with_reducible refine Below.setCell ?_ ?_ _ | with_reducible refine Below.alloc ?_ ?_ _ | with_reducible refine Below.drew ?_ | with_reducible refine below_drewN ?_ _ | omega | (simp; done) | (simp; omega))); all_goals first | omega | (simp; done) | (simp; omega)) HR.out)
  cases b4
  · have HR := Lib.hid (HF.out.trans (if_neg (fun hh => by have h := hh.1; unfold rlOk at h; simp at h)))
    (try clear hq); have hq := H.facts; simp only [factsOf, Pt.facts, CellsAt, Nat.add_zero, Nat.zero_add, Nat.reduceAdd, and_true, true_and, List.set_cons_zero, List.set_cons_succ] at hq
    go_wp2
    have hB := H.belowW
    exact bodyPost_ret (v := .tuple #[.agg #[.int .i64 0, .int .i64 0, .int .i64 0, .string ByteArray.empty, .int .i64 0, .bool false, .int .i64 0, .slice none 0 0], .bool false]) (by simp [results, Tryd.results56, go_sem, hq]; rfl) rfl (madeMB_no (by (repeat (first | with_reducible assumption | with_reducible exact Below.refl _ _ | with_reducible refine Below.setCell ?_ ?_ _ | with_reducible refine Below.alloc ?_ ?_ _ | with_reducible refine Below.drew ?_ | with_reducible refine below_drewN ?_ _ | omega | (simp; done) | (simp; omega))); all_goals first | omega | (simp; done) | (simp; omega)) HR.out)
  by_cases h6 : l1.length = 6
  rotate_left
  · have HR := Lib.hid (HF.out.trans (if_neg (fun hh => by have h := hh.1; unfold rlOk at h; simp at h; exact h6 h.1)))
    have hg : ((l1.length : Int) != 6) = true := by simp; omega
    replace h6 := Lib.hid h6
    (try clear hq); have hq := H.facts; simp only [factsOf, Pt.facts, CellsAt, Nat.add_zero, Nat.zero_add, Nat.reduceAdd, and_true, true_and, List.set_cons_zero, List.set_cons_succ] at hq
    go_wp2
    have hB := H.belowW
    exact bodyPost_ret (v := .tuple #[.agg #[.int .i64 0, .int .i64 0, .int .i64 0, .string ByteArray.empty, .int .i64 0, .bool false, .int .i64 0, .slice none 0 0], .bool false]) (by simp [results, Tryd.results56, go_sem, hq]; rfl) rfl (madeMB_no (by (repeat (first | with_reducible assumption | with_reducible exact Below.refl _ _ | with_reducible refine Below.setCell ?_ ?_ _ | with_reducible refine Below.alloc ?_ ?_ _ | with_reducible refine Below.drew ?_ | with_reducible refine below_drewN ?_ _ | omega | (simp; done) | (simp; omega))); all_goals first | omega | (simp; done) | (simp; omega)) HR.out)
  obtain ⟨y0, y1, y2, y3, y4, y5, rfl⟩ := list6 h6
  clear h6 n1
  have HI := fun (w : World) => spec_l00In y4 0 1 w
  have H3 : St (Lo W.heap.size) (Lo W.heap.size) W w4 [.ow (ints [y0, y1, y2, y3, y4, y5]) (.slice A1 6 c1), .ow (ints l2) (.slice A2 l2.length k2), .bx W.heap.size #[.int .i64 0, .int .i64 0, .int .i64 0, .string ByteArray.empty, .int .i64 0, .bool false, .int .i64 0, .slice none 0 0] 37] := by
    apply St.sub' (h := H)
    (repeat (first | exact Pick.nil | with_reducible_and_instances exact Del.here | apply Pick.cons | with_reducible apply Del.there))
  obtain ⟨R4, H4, -⟩ := H3.freeze
  clear H3 H
  obtain ⟨b, off, rfl, H⟩ := ints_st H4 (k := 0) (x := y0) (by repeat (first | with_reducible_and_instances exact .here | with_reducible refine .there ?_)) rfl
  clear H4
  obtain ⟨b0, off0, hA, H4⟩ := ints_st H (k := 1) (x := y1) (by repeat (first | with_reducible_and_instances exact .here | with_reducible refine .there ?_)) rfl
  injection hA with hA
  injection hA with e1 e2
  subst e1 e2
  clear H
  obtain ⟨b0, off0, hA, H⟩ := ints_st H4 (k := 2) (x := y2) (by repeat (first | with_reducible_and_instances exact .here | with_reducible refine .there ?_)) rfl
  injection hA with hA
  injection hA with e1 e2
  subst e1 e2
  clear H4
  obtain ⟨b0, off0, hA, H4⟩ := ints_st H (k := 3) (x := y3) (by repeat (first | with_reducible_and_instances exact .here | with_reducible refine .there ?_)) rfl
  injection hA with hA
  injection hA with e1 e2
  subst e1 e2
  clear H
  obtain ⟨b0, off0, hA, H⟩ := ints_st H4 (k := 4) (x := y4) (by repeat (first | with_reducible_and_instances exact .here | with_reducible refine .there ?_)) rfl
  injection hA with hA
  injection hA with e1 e2
  subst e1 e2
  clear H4
  obtain ⟨b0, off0, hA, H4⟩ := ints_st H (k := 5) (x := y5) (by repeat (first | with_reducible_and_instances exact .here | with_reducible refine .there ?_)) rfl
  injection hA with hA
  injection hA with e1 e2
  subst e1 e2
  clear H
  have H := H4
  clear H4
  cases hi : inB y4 0 1
  · have HR := Lib.hid (HF.out.trans (if_neg (fun hh => by have h := hh.1; unfold rlOk at h; simp [hi] at h)))
    rw [hi] at HI
    (try clear hq); have hq := H.facts; simp only [factsOf, Pt.facts, CellsAt, Nat.add_zero, Nat.zero_add, Nat.reduceAdd, and_true, true_and, List.set_cons_zero, List.set_cons_succ] at hq
    go_wp2_with (go_at_call 61; (with_reducible refine (HI _).mono ?_); rintro e w' ⟨rfl, rfl⟩)
    have hB := H.belowW
    exact bodyPost_ret (v := .tuple #[.agg #[.int .i64 0, .int .i64 0, .int .i64 0, .string ByteArray.empty, .int .i64 0, .bool false, .int .i64 0, .slice none 0 0], .bool false]) (by simp [results, Tryd.results56, go_sem, hq]; rfl) rfl (madeMB_no (by (repeat (first | with_reducible assumption | with_reducible exact Below.refl _ _ | with_reducible refine Below.setCell ?_ ?_ _ | with_reducible refine Below.alloc ?_ ?_ _ | with_reducible refine Below.drew ?_ | with_reducible refine below_drewN ?_ _ | omega | (simp; done) | (simp; omega))); all_goals first | omega | (simp; done) | (simp; omega)) HR.out)
  · have HR := Lib.hid (show ReadLine_f s = if (rlM [y0, y1, y2, y3, y4, y5] l2 x3).ok = true then (rlM [y0, y1, y2, y3, y4, y5] l2 x3, true) else (msg0, false) from by
      rw [HF.out]
      unfold rlF
      rw [show rlOk true true ([y0, y1, y2, y3, y4, y5], true) (l2, true) = true from by unfold rlOk; simp [hi]]
      simp)
    rw [hi] at HI
    clear hi HF
    (try clear hq); have hq := H.facts; simp only [factsOf, Pt.facts, CellsAt, Nat.add_zero, Nat.zero_add, Nat.reduceAdd, and_true, true_and, List.set_cons_zero, List.set_cons_succ] at hq
    go_wp2_with (go_at_call 61; (with_reducible refine (HI _).mono ?_); rintro e w' ⟨rfl, rfl⟩)
    have hS : w4.cell? ⟨b, off, none⟩ = some (.int .i64 y0) ∧ w4.cell? ⟨b, off + 1, none⟩ = some (.int .i64 y1) ∧ w4.cell? ⟨b, off + 2, none⟩ = some (.int .i64 y2) ∧ w4.cell? ⟨b, off + 3, none⟩ = some (.int .i64 y3) ∧ w4.cell? ⟨b, off + 4, none⟩ = some (.int .i64 y4) ∧ w4.cell? ⟨b, off + 5, none⟩ = some (.int .i64 y5) :=
      ⟨H.rd (b := b) (off := off + 0) (us := [.int .i64 y0]) (by repeat (first | with_reducible_and_instances exact .here | with_reducible refine .there ?_)) (j := 0) rfl, H.rd (b := b) (off := off + 1) (us := [.int .i64 y1]) (by repeat (first | with_reducible_and_instances exact .here | with_reducible refine .there ?_)) (j := 0) rfl, H.rd (b := b) (off := off + 2) (us := [.int .i64 y2]) (by repeat (first | with_reducible_and_instances exact .here | with_reducible refine .there ?_)) (j := 0) rfl, H.rd (b := b) (off := off + 3) (us := [.int .i64 y3]) (by repeat (first | with_reducible_and_instances exact .here | with_reducible refine .there ?_)) (j := 0) rfl, H.rd (b := b) (off := off + 4) (us := [.int .i64 y4]) (by repeat (first | with_reducible_and_instances exact .here | with_reducible refine .there ?_)) (j := 0) rfl, H.rd (b := b) (off := off + 5) (us := [.int .i64 y5]) (by repeat (first | with_reducible_and_instances exact .here | with_reducible refine .there ?_)) (j := 0) rfl⟩
    have hbl := World.block_lt_of_cell? w4 _ hS.1
    replace hS := Lib.hid (fun (w' : World) (h : Below w4.heap.size w4 w') => (show w'.cell? ⟨b, off, none⟩ = some (.int .i64 y0) ∧ w'.cell? ⟨b, off + 1, none⟩ = some (.int .i64 y1) ∧ w'.cell? ⟨b, off + 2, none⟩ = some (.int .i64 y2) ∧ w'.cell? ⟨b, off + 3, none⟩ = some (.int .i64 y3) ∧ w'.cell? ⟨b, off + 4, none⟩ = some (.int .i64 y4) ∧ w'.cell? ⟨b, off + 5, none⟩ = some (.int .i64 y5) from
      ⟨(h.cell (p := ⟨b, off, none⟩) hbl).trans hS.1, (h.cell (p := ⟨b, off + 1, none⟩) hbl).trans hS.2.1, (h.cell (p := ⟨b, off + 2, none⟩) hbl).trans hS.2.2.1, (h.cell (p := ⟨b, off + 3, none⟩) hbl).trans hS.2.2.2.1, (h.cell (p := ⟨b, off + 4, none⟩) hbl).trans hS.2.2.2.2.1, (h.cell (p := ⟨b, off + 5, none⟩) hbl).trans hS.2.2.2.2.2⟩))
    have hBr : Below w4.heap.size w4 w4 := Below.refl _ _
    clear hq
    have hw1 : IntKind.i64.wrap ((nb : Int) + 1) = (nb : Int) + 1 := IntWalk.i64_in _ (by omega)
    have hw2 : ((nb : Int) + 1).toNat = nb + 1 := by omega
    have hw3 : 0 ≤ (nb : Int) + 1 := by omega
    go_region_held3 (fun w' => w'.cell? ⟨b, off, none⟩ = some (.int .i64 y0) ∧ w'.cell? ⟨b, off + 1, none⟩ = some (.int .i64 y1) ∧ w'.cell? ⟨b, off + 2, none⟩ = some (.int .i64 y2) ∧ w'.cell? ⟨b, off + 3, none⟩ = some (.int .i64 y3) ∧ w'.cell? ⟨b, off + 4, none⟩ = some (.int .i64 y4) ∧ w'.cell? ⟨b, off + 5, none⟩ = some (.int .i64 y5)) (exact hS.out _ (by first | exact hBr | exact hBr.drew | exact (hBr.alloc (Nat.le_refl _) _).drew | exact hBr.alloc (Nat.le_refl _) _ | exact hBr.drew.alloc (Nat.le_refl _) _)) (fail)
    clear hS hBr hw1 hw2 hw3
    rw [hx3.out]
    have hwg := (H.bx_new (b := W.heap.size) (by repeat (first | with_reducible_and_instances exact .here | with_reducible refine .there ?_))).2
    replace H := (H.box #[.int .i64 y0, .int .i64 y1, .int .i64 y2, .string x3, .int .i64 y3, .bool (y4 == 1), .int .i64 y5, .slice A2 l2.length k2] 37).drew
    have hgb := (H.bx_new (b := w4.heap.size) (by repeat (first | with_reducible_and_instances exact .here | with_reducible refine .there ?_))).2
    go_wp2_with fail
    generalize w4.heap.size = gb at *
    refine St.anyC H ?_
    clear H
    intro w5 H
    have hz5 := (H.bx_new (b := gb) (by repeat (first | with_reducible_and_instances exact .here | with_reducible refine .there ?_))).2
    have hzw := (H.bx_new (b := W.heap.size) (by repeat (first | with_reducible_and_instances exact .here | with_reducible refine .there ?_))).2
    have hneb : ¬ gb = W.heap.size := by omega
    have hneb2 : ¬ W.heap.size = gb := by omega
    have XB := Lib.hid (H.bx (b := gb) (cs := #[.int .i64 y0, .int .i64 y1, .int .i64 y2, .string x3, .int .i64 y3, .bool (y4 == 1), .int .i64 y5, .slice A2 l2.length k2]) (t := 37) (by repeat (first | with_reducible_and_instances exact .here | with_reducible refine .there ?_)))
    have hro : RoL w5 (Lo w5.heap.size) (Message.d true (rlM [y0, y1, y2, y3, y4, y5] l2 x3)) [.int .i64 y0, .int .i64 y1, .int .i64 y2, .string x3, .int .i64 y3, .bool (y4 == 1), .int .i64 y5, .slice A2 l2.length k2] :=
      RoL.cons (.int _ _) (RoL.cons (.int _ _) (RoL.cons (.int _ _) (RoL.cons (.str _) (RoL.cons (.int _ _) (RoL.cons (.bool _) (RoL.cons (.int _ _) (RoL.cons (show Ro w5 (Lo w5.heap.size) (ints l2) (.slice A2 l2.length k2) from H.lo (.inr (by repeat (first | with_reducible_and_instances exact .here | with_reducible refine .there ?_)))) RoL.nil)))))))
    have HV := spec_l03Message (rlM [y0, y1, y2, y3, y4, y5] l2 x3) _ gb 0 w5 hro (by show x3.size ≤ maxLen; simp only [maxLen]; omega) (fun j u hu => by
      rw [Nat.zero_add]
      exact XB.out.cell j (by simpa using hu))
    have HM := Lib.hid (show rlM [y0, y1, y2, y3, y4, y5] l2 x3 = ⟨y0, y1, y2, x3, y3, y4 == 1, y5, l2⟩ from rfl)
    clear hro
    generalize rlM [y0, y1, y2, y3, y4, y5] l2 x3 = mm at *
    cases hk : mm.ok
    · have HX := Lib.hid (show ReadLine_f s = (msg0, false) from by rw [HR.out, hk]; rfl)
      rw [hk] at HV
      clear hk HR
      (try clear hq); have hq := H.facts; simp only [factsOf, Pt.facts, CellsAt, Nat.add_zero, Nat.zero_add, Nat.reduceAdd, and_true, true_and, List.set_cons_zero, List.set_cons_succ] at hq
      refine HV.mono ?_
      rintro e w6 ⟨rfl, hb6⟩
      replace H := H.below hb6
      clear hb6
      (try clear hq); have hq := H.facts; simp only [factsOf, Pt.facts, CellsAt, Nat.add_zero, Nat.zero_add, Nat.reduceAdd, and_true, true_and, List.set_cons_zero, List.set_cons_succ] at hq
      go_wp2
      have hB := H.belowW
      exact bodyPost_ret (v := .tuple #[.agg #[.int .i64 0, .int .i64 0, .int .i64 0, .string ByteArray.empty, .int .i64 0, .bool false, .int .i64 0, .slice none 0 0], .bool false]) (by simp [results, Tryd.results55, go_sem, hq]; rfl) rfl (madeMB_no (by (repeat (first | with_reducible assumption | with_reducible exact Below.refl _ _ | with_reducible refine Below.setCell ?_ ?_ _ | with_reducible refine Below.alloc ?_ ?_ _ | with_reducible refine Below.drew ?_ | with_reducible refine below_drewN ?_ _ | omega | (simp; done) | (simp; omega))); all_goals first | omega | (simp; done) | (simp; omega)) HX.out)
    · have HX := Lib.hid (show ReadLine_f s = (⟨y0, y1, y2, x3, y3, y4 == 1, y5, l2⟩, true) from by rw [HR.out, hk, ← HM.out]; rfl)
      rw [hk] at HV
      clear hk HR
      generalize hnn : l2.length = nn at *
      replace hnn := Lib.hid hnn
      (try clear hq); have hq := H.facts; simp only [factsOf, Pt.facts, CellsAt, Nat.add_zero, Nat.zero_add, Nat.reduceAdd, and_true, true_and, List.set_cons_zero, List.set_cons_succ] at hq
      refine HV.mono ?_
      rintro e w6 ⟨rfl, hb6⟩
      replace H := H.below hb6
      clear hb6
      (try clear hq); have hq := H.facts; simp only [factsOf, Pt.facts, CellsAt, Nat.add_zero, Nat.zero_add, Nat.reduceAdd, and_true, true_and, List.set_cons_zero, List.set_cons_succ] at hq
      go_wp2_with fail
      replace H := (H.pull (k := 9) rfl).put8 (.int .i64 y0) (.int .i64 y1) (.int .i64 y2) (.string x3) (.int .i64 y3) (.bool (y4 == 1)) (.int .i64 y5) (.slice A2 nn k2)
      simp only [List.set_cons_zero, List.set_cons_succ] at H
      (try clear hq); have hq := H.facts; simp only [factsOf, Pt.facts, CellsAt, Nat.add_zero, Nat.zero_add, Nat.reduceAdd, and_true, true_and, List.set_cons_zero, List.set_cons_succ] at hq
      go_wp2
      exact bodyPost_ret (v := .tuple #[.agg #[.int .i64 y0, .int .i64 y1, .int .i64 y2, .string x3, .int .i64 y3, .bool (y4 == 1), .int .i64 y5, .slice A2 nn k2], .bool true]) (by simp [results, Tryd.results55, go_sem, hq]) rfl (madeMB_ow H (by repeat (first | with_reducible_and_instances exact .here | with_reducible refine .there ?_)) HX.out)
set_option maxHeartbeats 3200000 in
set_option maxRecDepth 100000 in
theorem spec_ReadLine (s : ByteArray) (W : World) (hs : s.size ≤ 1048576) :
    Calls Tryd.prog 22 #[.string s] W (MadeMB W (ReadLine_f s)) := by
  have H := (St.start W).box #[.int .i64 0, .int .i64 0, .int .i64 0, .string ByteArray.empty, .int .i64 0, .bool false, .int .i64 0, .slice none 0 0] 37
  have HR := fun (w : World) => spec_l09Read s w hs
  clear hs
  unfold MadeMB at HR
  generalize ReadLine_f s = r at *
  obtain ⟨⟨num, snd, at', txt, ed, gone, rep, likes⟩, ok⟩ := r
  simp only at HR
  go_enter Tryd.func22, Tryd.ntmps22
  go_wp2_with fail
  refine (HR _).mono ?_
  rintro e w1 ⟨us, F, rfl, hO, hF, hb1⟩
  replace H := H.addos hb1 hO hF
  obtain ⟨A7, c7, rfl, -⟩ := Message.cells hO.ro
  clear hO hF hb1
  simp only at *
  generalize hnn : likes.length = nn at *
  replace hnn := Lib.hid hnn
  (try clear hq); have hq := H.facts; simp only [factsOf, Pt.facts, CellsAt, Nat.add_zero, Nat.zero_add, Nat.reduceAdd, and_true, true_and, List.set_cons_zero, List.set_cons_succ] at hq
  go_wp2_with fail
  replace H := (H.pull (k := 1) rfl).put8 (.int .i64 num) (.int .i64 snd) (.int .i64 at') (.string txt) (.int .i64 ed) (.bool gone) (.int .i64 rep) (.slice A7 nn c7)
  simp only [List.set_cons_zero, List.set_cons_succ] at H
  (try clear hq); have hq := H.facts; simp only [factsOf, Pt.facts, CellsAt, Nat.add_zero, Nat.zero_add, Nat.reduceAdd, and_true, true_and, List.set_cons_zero, List.set_cons_succ] at hq
  go_wp2
  obtain ⟨F, h1, h2⟩ := H.owns (ds := Message.d true ⟨num, snd, at', txt, ed, gone, rep, likes⟩) (us := [.int .i64 num, .int .i64 snd, .int .i64 at', .string txt, .int .i64 ed, .bool gone, .int .i64 rep, .slice A7 nn c7]) (by repeat (first | with_reducible_and_instances exact .here | with_reducible refine .there ?_))
  exact bodyPost_ret (v := .tuple #[.agg #[.int .i64 num, .int .i64 snd, .int .i64 at', .string txt, .int .i64 ed, .bool gone, .int .i64 rep, .slice A7 nn c7], .bool ok]) (by simp [results, Tryd.results22, go_sem, hq]) rfl ⟨_, F, rfl, h1, fun b hb => Nat.le_of_not_lt (h2 b hb), H.belowW⟩
theorem ReadLine_lawI (s : ByteArray) (W : World) (ht : Std W) (hz : s.size ≤ 1048576) : Calls Tryd.prog 23 #[.string s] W fun e w' =>
    ∃ us F, e = .returned (.tuple #[.agg us.toArray, .bool (ReadLine_f s).2]) ∧ OwL w' (Message.d true (ReadLine_f s).1) us F ∧ (∀ b, F b → W.heap.size ≤ b) ∧ Below W.heap.size W w' :=
  impl_ReadLine s W ht hz
theorem ReadLine_lawS (s : ByteArray) (W : World) (hz : s.size ≤ 1048576) : Calls Tryd.prog 22 #[.string s] W fun e w' =>
    ∃ us, e = .returned (.tuple #[.agg us.toArray, .bool (ReadLine_f s).2]) ∧ RoL w' (Lo w'.heap.size) (Message.d true (ReadLine_f s).1) us ∧ Below W.heap.size W w' :=
  (spec_ReadLine s W hz).mono fun _ _ ⟨us, F, h1, h2, _, h4⟩ => ⟨us, h1, h2.lo, h4⟩
theorem ReadLine_lawN (s : ByteArray) (hz : s.size ≤ 1048576) : Message.sn (ReadLine_f s).1 ≤ 1000000000000 := by
  unfold ReadLine_f rlF
  split
  · have := ReadList_len (rlCut (rlCut s).2.1).1
    show (ReadList_f (rlCut (rlCut s).2.1).1).1.length ≤ _
    omega
  · show 0 ≤ _; omega
end Go.Proofs.YtahbgkabdongnaaDoor

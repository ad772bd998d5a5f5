/- Texts cut at marks: plain lists; strings.Cut at one byte; the reference's l01Cut. -/
import Derived.Test.YtahbgkabdongnaaDoorChk
import Derived.Test.YtahbgkabdongnaaDoorSti
import Derived.Lib.Bytealg
import Derived.IntWalk
import Derived.Deep.QuietTactic
import Derived.BigQuiet
namespace Go.Proofs.YtahbgkabdongnaaDoor
open Go.ChangeShapes Go.WideShapes Go.ChangeAt Go.RowKit Go.Dt
set_option linter.unusedVariables false
set_option linter.unusedSimpArgs false
theorem idx_no {c : UInt8} : ∀ {l : List UInt8}, c ∉ l → Lib.indexByte l c = -1 := by
  intro l
  induction l with
  | nil => intro _; rfl
  | cons b l ih =>
    intro h
    simp only [List.mem_cons, not_or] at h
    have h1 : (b == c) = false := by simp; exact fun e => h.1 e.symm
    unfold Lib.indexByte
    rw [ih h.2, h1]; rfl
theorem idx_at {c : UInt8} {b : List UInt8} : ∀ {a : List UInt8}, c ∉ a → Lib.indexByte (a ++ c :: b) c = a.length := by
  intro a
  induction a with
  | nil => intro _; simp [Lib.indexByte]
  | cons x a ih =>
    intro h
    simp only [List.mem_cons, not_or] at h
    have h1 : (x == c) = false := by simp; exact fun e => h.1 e.symm
    rw [List.cons_append, Lib.indexByte, ih h.2, h1]
    have h2 : ((a.length : Int) == -1) = false := by simp
    simp [h2]
theorem mem_split (c : UInt8) (l : List UInt8) : c ∉ l ∨ ∃ a b, l = a ++ c :: b ∧ c ∉ a := by
  induction l with
  | nil => exact .inl (by simp)
  | cons x l ih =>
    by_cases hx : x = c
    · subst hx; exact .inr ⟨[], l, rfl, by simp⟩
    · rcases ih with h | ⟨a, b, rfl, h⟩
      · exact .inl (by simp only [List.mem_cons, not_or]; exact ⟨fun e => hx e.symm, h⟩)
      · exact .inr ⟨x :: a, b, rfl, by simp only [List.mem_cons, not_or]; exact ⟨fun e => hx e.symm, h⟩⟩
/-- The parts of a text between marks. -/
def cutL (m : UInt8) : List UInt8 → List (List UInt8)
  | [] => [[]]
  | c :: r => if c = m then [] :: cutL m r else (c :: (cutL m r).headD []) :: (cutL m r).tail
theorem cutL_cons (m c : UInt8) (r : List UInt8) : cutL m (c :: r) = if c = m then [] :: cutL m r else (c :: (cutL m r).headD []) :: (cutL m r).tail := rfl
theorem cutL_ne (m : UInt8) (l : List UInt8) : cutL m l ≠ [] := by
  cases l with
  | nil => simp [cutL]
  | cons c r => unfold cutL; split <;> simp
theorem cutL_no {m : UInt8} {l : List UInt8} (h : m ∉ l) : cutL m l = [l] := by
  induction l with
  | nil => rfl
  | cons c r ih =>
    simp only [List.mem_cons, not_or] at h
    rw [cutL_cons, if_neg (fun e => h.1 e.symm), ih h.2]
    rfl
theorem cutL_at {m : UInt8} {b : List UInt8} {a : List UInt8} (h : m ∉ a) : cutL m (a ++ m :: b) = a :: cutL m b := by
  induction a with
  | nil => rw [List.nil_append, cutL_cons, if_pos rfl]
  | cons c r ih =>
    simp only [List.mem_cons, not_or] at h
    rw [List.cons_append, cutL_cons, if_neg (fun e => h.1 e.symm), ih h.2]
    rfl
/-- The lines of a text, what stands behind the last newline left out. -/
def segs (l : List UInt8) : List (List UInt8) := (cutL 10 l).dropLast
theorem segs_no {l : List UInt8} (h : (10 : UInt8) ∉ l) : segs l = [] := by unfold segs; rw [cutL_no h]; rfl
theorem segs_at {a b : List UInt8} (h : (10 : UInt8) ∉ a) : segs (a ++ 10 :: b) = a :: segs b := by
  unfold segs
  rw [cutL_at h, List.dropLast_cons_of_ne_nil (cutL_ne _ _)]
theorem ba_ext {a b : ByteArray} (h : a.data.toList = b.data.toList) : a = b := by
  apply ByteArray.ext
  exact Array.ext' h
theorem ba_list (l : List UInt8) : (⟨l.toArray⟩ : ByteArray).data.toList = l := rfl
theorem ba_extract (s : ByteArray) (a b : Nat) : (s.extract a b).data.toList = (s.data.toList.drop a).take (b - a) := by
  rw [ByteArray.data_extract, Array.toList_extract]
theorem ba_size (s : ByteArray) : s.data.toList.length = s.size := Array.length_toList
def cutB (m : UInt8) (s : ByteArray) : List ByteArray := (cutL m s.data.toList).map fun l => ⟨l.toArray⟩
def bl (o : List ByteArray) : List (List UInt8) := o.map fun s => s.data.toList
theorem bl_back {o : List ByteArray} {l : List (List UInt8)} (h : bl o = l) : o = l.map fun l => ⟨l.toArray⟩ := by
  subst h
  unfold bl
  rw [List.map_map]
  have : ((fun l => (⟨l.toArray⟩ : ByteArray)) ∘ fun s : ByteArray => s.data.toList) = id := by funext s; exact ba_ext rfl
  rw [this, List.map_id]
def CutSt (m : UInt8) (s : ByteArray) (i f : Nat) (o : List ByteArray) : Prop :=
  (f ≤ i ∧ i ≤ s.size ∧ m ∉ (s.data.toList.drop f).take (i - f) ∧ cutL m s.data.toList = bl o ++ cutL m (s.data.toList.drop f)) ∨ (i = s.size + 1 ∧ cutL m s.data.toList = bl o)
theorem CutSt.go {m : UInt8} {s : ByteArray} {i f : Nat} {o : List ByteArray} (h : CutSt m s i f o) (hi : i < s.size) (hm : s[i] ≠ m) : CutSt m s (i + 1) f o := by
  rcases h with ⟨h1, h2, h3, h4⟩ | ⟨h1, h2⟩
  · refine .inl ⟨by omega, by omega, ?_, h4⟩
    have e : (s.data.toList.drop f).take (i + 1 - f) = (s.data.toList.drop f).take (i - f) ++ [s[i]] := by
      have hl : i - f < (s.data.toList.drop f).length := by rw [List.length_drop, ba_size]; omega
      rw [show i + 1 - f = (i - f) + 1 by omega, List.take_succ_eq_append_getElem hl, List.getElem_drop]
      congr 2
      show s.data.toList[f + (i - f)]'(_) = s.data[i]
      rw [Array.getElem_toList]
      congr 1; omega
    rw [e, List.mem_append]
    intro hc
    rcases hc with hc | hc
    · exact h3 hc
    · simp at hc; exact hm hc.symm
  · omega
theorem CutSt.cut {m : UInt8} {s : ByteArray} {i f : Nat} {o : List ByteArray} (h : CutSt m s i f o) (hi : i < s.size) (hm : s[i] = m) : CutSt m s (i + 1) (i + 1) (o ++ [s.extract f i]) := by
  rcases h with ⟨h1, h2, h3, h4⟩ | ⟨h1, h2⟩
  · refine .inl ⟨by omega, by omega, by simp, ?_⟩
    have hl : i - f < (s.data.toList.drop f).length := by rw [List.length_drop, ba_size]; omega
    have e : s.data.toList.drop f = (s.data.toList.drop f).take (i - f) ++ m :: s.data.toList.drop (i + 1) := by
      conv => lhs; rw [← List.take_append_drop (i - f) (s.data.toList.drop f)]
      congr 1
      rw [List.drop_eq_getElem_cons hl, List.drop_drop, List.getElem_drop]
      congr 1
      · rw [← hm]
        show s.data.toList[f + (i - f)]'(_) = s.data[i]
        rw [Array.getElem_toList]
        congr 1; omega
      · congr 1; omega
    rw [h4, e, cutL_at h3]
    unfold bl
    rw [List.map_append, List.map_cons, List.map_nil, ba_extract, List.append_assoc]
    rfl
  · omega
theorem CutSt.fin {m : UInt8} {s : ByteArray} {f : Nat} {o : List ByteArray} (h : CutSt m s s.size f o) : CutSt m s (s.size + 1) (s.size + 1) (o ++ [s.extract f s.size]) := by
  rcases h with ⟨h1, h2, h3, h4⟩ | ⟨h1, h2⟩
  · refine .inr ⟨rfl, ?_⟩
    have e : (s.data.toList.drop f).take (s.size - f) = s.data.toList.drop f := List.take_of_length_le (by rw [List.length_drop, ba_size]; exact Nat.le_refl _)
    rw [e] at h3
    rw [h4, cutL_no h3]
    unfold bl
    rw [List.map_append, List.map_cons, List.map_nil, ba_extract, e]
  · omega
set_option maxHeartbeats 1600000 in
set_option maxRecDepth 100000 in
theorem spec_l01Cut (s : ByteArray) (m : UInt8) (mk : Int) (hmk : mk = (m.toNat : Int)) (W : World) (hs : s.size ≤ 1048576) :
    Calls Tryd.prog 74 #[.string s, .int .u8 mk] W (Made W (strs (cutB m s))) := by
  have H := St.start W
  have hb0 : 0 ≤ mk ∧ mk ≤ 255 := by have := m.toNat_lt; omega
  have HMK := Lib.hid hmk
  clear hmk
  go_enter Tryd.func74, Tryd.ntmps74
  go_wp2
  go_loopw [5, 6, 7] (fun o5 f6 i7 wr => ∃ (i f : Nat) (A9 : Option Addr) (q c9 : Nat) (o : List ByteArray), i ≤ s.size + 1 ∧ f ≤ i ∧ q ≤ i ∧ o5 = .slice A9 q c9 ∧ f6 = .int .i64 f ∧ i7 = .int .i64 i ∧ Hid (CutSt m s i f o) ∧ St (Lo W.heap.size) (Lo W.heap.size) W wr [.ow (strs o) (.slice A9 q c9)]) (fun _ _ i7 _ => s.size + 1 - (intOf i7).toNat)
  case atStart =>
    refine ⟨0, 0, some ⟨W.heap.size, 0, none⟩, 0, 0, [], by omega, by omega, by omega, rfl, rfl, rfl, Lib.hid (.inl ⟨by omega, by omega, by simp, by simp [bl]⟩), ?_⟩
    exact (H.junk (.cells #[] 9)).nilow 9 1 (some ⟨W.heap.size, 0, none⟩)
  case round =>
    obtain ⟨i, f, A9, q, c9, o, hi, hf, hqi, rfl, rfl, rfl, HC, H⟩ := hrel
    have hi' : (i : Int) ≤ (s.size : Int) + 1 := by omega
    have hf' : (f : Int) ≤ (i : Int) := by omega
    rcases Nat.lt_or_ge s.size i with hgt | hle
    · have hgt' : ¬ (i : Int) ≤ (s.size : Int) := by omega
      obtain rfl : i = s.size + 1 := by omega
      have HE := Lib.hid (show o = cutB m s from by
        rcases HC.out with ⟨_, h2, _⟩ | ⟨_, h2⟩
        · omega
        · exact bl_back h2.symm)
      go_wp2
      go_ret
      obtain ⟨F, h1, h2⟩ := H.own (d := strs o) .here
      exact ⟨_, F, rfl, HE.out ▸ h1, H.belowW, fun b hb => Nat.le_of_not_lt (h2 b hb)⟩
    rcases Nat.lt_or_ge i s.size with hlt | hge
    · have hlt' : (i : Int) < (s.size : Int) := by omega
      have hb : s[i].toNat < 256 := s[i].toNat_lt
      have hne : ((i : Int) == (s.size : Int)) = false := by simp; omega
      by_cases hm : s[i] = m
      · have hB : ((s[i].toNat : Int) == mk) = true := by rw [HMK.out, hm]; simp
        have HC2 := Lib.hid (HC.out.cut hlt hm)
        clear hm
        (try clear hq); have hq := H.facts; simp only [factsOf, Pt.facts, CellsAt, Nat.add_zero, Nat.zero_add, Nat.reduceAdd, and_true, true_and, List.set_cons_zero, List.set_cons_succ] at hq
        go_wp2_with (at_builtin; refine by_wp rfl fun K hK => wp_append1P_at 0 _ _ 22 9 rfl Tryd.underlying22 (.string ByteArray.empty) 1 16 inf_string rfl (by decide) (by decide) rfl #[.string (s.extract f i)] rfl (by first | rfl | (simp; done)) [.str (s.extract f i)] rfl H rfl (OwL.one (Ow.S _)) (by omega) ?_; intro A9 c9 w1 H; refine hK _ _ ?_; clear hK; simp only [List.set_cons_zero, List.set_cons_succ] at H; (try clear hq); have hq := H.facts; simp only [factsOf, Pt.facts, CellsAt, Nat.add_zero, Nat.zero_add, Nat.reduceAdd, and_true, true_and, List.set_cons_zero, List.set_cons_succ] at hq)
        go_roundw
        case rel =>
          refine ⟨i + 1, i + 1, A9, q + 1, c9, o ++ [s.extract f i], by omega, by omega, by omega, rfl, by go_num, by go_num, HC2, ?_⟩
          rw [← strs_eq]
          apply St.sub' (h := H)
          (repeat (first | exact Pick.nil | with_reducible_and_instances exact Del.here | apply Pick.cons | with_reducible apply Del.there))
        case measure => simp [intOf]; omega
      · have hB : ((s[i].toNat : Int) == mk) = false := by
          rw [HMK.out]
          simp
          intro h
          exact hm (UInt8.toNat_inj.1 (by omega))
        have HC2 := Lib.hid (HC.out.go hlt hm)
        clear hm
        (try clear hq); have hq := H.facts; simp only [factsOf, Pt.facts, CellsAt, Nat.add_zero, Nat.zero_add, Nat.reduceAdd, and_true, true_and, List.set_cons_zero, List.set_cons_succ] at hq
        go_wp2
        go_roundw
        case rel => exact ⟨i + 1, f, A9, q, c9, o, by omega, by omega, by omega, rfl, rfl, by go_num, HC2, H⟩
        case measure => simp [intOf]; omega
    · obtain rfl : i = s.size := by omega
      have HC2 := Lib.hid HC.out.fin
      have heq : ((s.size : Int) == (s.size : Int)) = true := by simp
      have hle : (s.size : Int) ≤ 1048576 := by omega
      (try clear hq); have hq := H.facts; simp only [factsOf, Pt.facts, CellsAt, Nat.add_zero, Nat.zero_add, Nat.reduceAdd, and_true, true_and, List.set_cons_zero, List.set_cons_succ] at hq
      go_wp2_with (at_builtin; refine by_wp rfl fun K hK => wp_append1P_at 0 _ _ 22 9 rfl Tryd.underlying22 (.string ByteArray.empty) 1 16 inf_string rfl (by decide) (by decide) rfl #[.string (s.extract f s.size)] rfl (by first | rfl | (simp; done)) [.str (s.extract f s.size)] rfl H rfl (OwL.one (Ow.S _)) (by omega) ?_; intro A9 c9 w1 H; refine hK _ _ ?_; clear hK; simp only [List.set_cons_zero, List.set_cons_succ] at H; (try clear hq); have hq := H.facts; simp only [factsOf, Pt.facts, CellsAt, Nat.add_zero, Nat.zero_add, Nat.reduceAdd, and_true, true_and, List.set_cons_zero, List.set_cons_succ] at hq)
      go_roundw
      case rel =>
        refine ⟨s.size + 1, s.size + 1, A9, q + 1, c9, o ++ [s.extract f s.size], by omega, by omega, by omega, rfl, by go_num, by go_num, HC2, ?_⟩
        rw [← strs_eq]
        apply St.sub' (h := H)
        (repeat (first | exact Pick.nil | with_reducible_and_instances exact Del.here | apply Pick.cons | with_reducible apply Del.there))
      case measure => first | (simp [intOf]; done) | (simp [intOf]; omega)
section
variable {s : ByteArray} {c : UInt8} {w : World}
theorem split_size {a b : List UInt8} (h : s.data.toList = a ++ c :: b) : s.size = a.length + 1 + b.length := by
  rw [← ba_size, h]; simp; omega
set_option maxRecDepth 100000 in
theorem strings_Cut_no (h : c ∉ s.data.toList) : Calls Tryd.prog 46 #[.string s, .string ⟨#[c]⟩] w fun e w' => e = .returned (.tuple #[.string s, .string ByteArray.empty, .bool false]) ∧ w = w' := by
  have HI := fun w => Tryd.stringslite_Index_one s c w
  rw [idx_no h] at HI
  have HC : ∀ w, Calls Tryd.prog 76 #[.string s, .string ⟨#[c]⟩] w fun e w' => e = .returned (.tuple #[.string s, .string ByteArray.empty, .bool false]) ∧ w = w' := by
    intro w
    go_enter Tryd.func76, Tryd.ntmps76
    go_wp2_with fail
    refine (HI _).mono ?_
    rintro e w1 ⟨rfl, hw⟩
    obtain rfl := hw.symm
    go_wp2
    exact bodyPost_ret (v := .tuple #[.string s, .string ByteArray.empty, .bool false]) (by simp [results, Tryd.results76, go_sem]; rfl) rfl ⟨rfl, rfl⟩
  go_enter Tryd.func46, Tryd.ntmps46
  go_wp2_with fail
  refine (HC _).mono ?_
  rintro e w1 ⟨rfl, rfl⟩
  go_wp2
  exact bodyPost_ret (v := .tuple #[.string s, .string ByteArray.empty, .bool false]) (by simp [results, Tryd.results46, go_sem]) rfl ⟨rfl, rfl⟩
set_option maxRecDepth 100000 in
theorem strings_Cut_at {a b : List UInt8} (hs : s.size ≤ 1048576) (h : s.data.toList = a ++ c :: b) (hc : c ∉ a) : Calls Tryd.prog 46 #[.string s, .string ⟨#[c]⟩] w fun e w' => e = .returned (.tuple #[.string (s.extract 0 a.length), .string (s.extract (a.length + 1) s.size), .bool true]) ∧ Below w.heap.size w w' := by
  have HI := fun w => Tryd.stringslite_Index_one s c w
  have hz := split_size h
  rw [h, idx_at hc] at HI
  generalize a.length = k at *
  have hk : (k : Int) < (s.size : Int) := by omega
  have hs' : (s.size : Int) ≤ 1048576 := by omega
  clear hz
  have hk1 : (k : Int) + 1 ≤ (s.size : Int) := by omega
  have HC : ∀ w, Calls Tryd.prog 76 #[.string s, .string ⟨#[c]⟩] w fun e w' => e = .returned (.tuple #[.string (s.extract 0 k), .string (s.extract (k + 1) s.size), .bool true]) ∧ Below w.heap.size w w' := by
    intro w
    go_enter Tryd.func76, Tryd.ntmps76
    go_wp2_with fail
    refine (HI _).mono ?_
    rintro e w1 ⟨rfl, hw⟩
    obtain rfl := hw.symm
    have hw1 : IntKind.i64.wrap ((k : Int) + 1) = (k : Int) + 1 := IntWalk.i64_in _ (by omega)
    have hw2 : ((k : Int) + 1).toNat = k + 1 := by omega
    have hw3 : 0 ≤ (k : Int) + 1 := by omega
    go_wp2_with fail
    go_quiet (fail)
    go_wp2
    exact bodyPost_ret (v := .tuple #[.string (s.extract 0 k), .string (s.extract (k + 1) s.size), .bool true]) (by simp [results, Tryd.results76, go_sem]) rfl ⟨rfl, below_drewN (Below.refl _ _) _⟩
  go_enter Tryd.func46, Tryd.ntmps46
  go_wp2_with fail
  refine (HC _).mono ?_
  rintro e w1 ⟨rfl, hb⟩
  go_wp2
  exact bodyPost_ret (v := .tuple #[.string (s.extract 0 k), .string (s.extract (k + 1) s.size), .bool true]) (by simp [results, Tryd.results46, go_sem]) rfl ⟨rfl, hb⟩
end
end Go.Proofs.YtahbgkabdongnaaDoor

/- Texts of lists and lines of messages, by both. -/
import Derived.Test.YtahbgkabdongnaaDoorDec
import Derived.Test.YtahbgkabdongnaaDoorMsg
import Derived.Test.YtahbgkabdongnaaDoorSti
import Derived.Lib.Join
namespace Go.Proofs.YtahbgkabdongnaaDoor
open Go.ChangeShapes Go.WideShapes Go.ChangeAt Go.RowKit Go.Dt
set_option linter.unusedVariables false
set_option linter.unusedSimpArgs false
/-- The numerals of numbers, commas between them. -/
def jb (l : List Int) : ByteArray := ⟨(Lib.join (l.map fun n => (dec n).data.toList) [44]).toArray⟩
def listTx (l : List Int) : ByteArray := if l.length = 0 then ⟨#[110, 111, 110, 101]⟩ else jb l
theorem join_snoc (sep x : List UInt8) : ∀ xs : List (List UInt8), xs ≠ [] → Lib.join (xs ++ [x]) sep = Lib.join xs sep ++ (sep ++ x) := by
  intro xs h
  obtain ⟨y, ys, rfl⟩ := List.exists_cons_of_ne_nil h
  have key : ∀ ys : List (List UInt8), Lib.joinTail sep (ys ++ [x]) = Lib.joinTail sep ys ++ (sep ++ x) := by
    intro ys
    induction ys with
    | nil => simp [Lib.joinTail]
    | cons z zs ih => simp [Lib.joinTail, ih]
  rw [List.cons_append, Lib.join_cons, Lib.join_cons, key, List.append_assoc]
theorem ba_append (a b : List UInt8) : (⟨(a ++ b).toArray⟩ : ByteArray) = ⟨a.toArray⟩ ++ ⟨b.toArray⟩ := by
  apply ByteArray.ext
  simp
theorem jb_snoc {l : List Int} (x : Int) (h : l ≠ []) : jb (l ++ [x]) = jb l ++ ((⟨#[44]⟩ : ByteArray) ++ dec x) := by
  unfold jb
  rw [List.map_append, List.map_cons, List.map_nil, join_snoc _ _ _ (by simpa using h), ba_append, ba_append]
theorem jb_one (x : Int) : jb [x] = dec x := by
  unfold jb
  rw [List.map_cons, List.map_nil, Lib.join_one]
theorem dec_len (n : Int) (h : I64 n) : (dec n).data.toList.length ≤ 21 := by
  have := dec_size n h.1 h.2
  simpa using this
theorem jb_size (l : List Int) (h : ∀ n ∈ l, I64 n) : (jb l).size ≤ 22 * l.length := by
  cases l with
  | nil => exact Nat.zero_le _
  | cons x r =>
    have key : ∀ r : List Int, (∀ n ∈ r, I64 n) → (Lib.joinTail [44] (r.map fun n => (dec n).data.toList)).length ≤ 22 * r.length := by
      intro r
      induction r with
      | nil => intro _; simp [Lib.joinTail]
      | cons z zs ih =>
        intro h
        have h1 := dec_len z (h z (by simp))
        have h2 := ih fun n hn => h n (by simp [hn])
        simp [Lib.joinTail] at *
        omega
    have h1 := dec_len x (h x (by simp))
    have h2 := key r fun n hn => h n (by simp [hn])
    have e : (jb (x :: r)).size = (Lib.join ((x :: r).map fun n => (dec n).data.toList) [44]).length := by
      show (Lib.join ((x :: r).map fun n => (dec n).data.toList) [44]).toArray.size = _
      simp
    rw [e, List.map_cons, Lib.join_cons]
    simp at *
    omega
theorem listTx_size (l : List Int) (h : ∀ n ∈ l, I64 n) : (listTx l).size ≤ 22 * l.length + 4 := by
  unfold listTx
  split
  · show 4 ≤ _; omega
  · have := jb_size l h; omega
set_option maxHeartbeats 1600000 in
set_option maxRecDepth 100000 in
theorem spec_l01Text (l : List Int) (A : Option Addr) (c : Nat) (W : World) (hr : Ro W (Lo W.heap.size) (ints l) (.slice A l.length c)) (hw : ∀ n ∈ l, I64 n) (hl : l.length ≤ 1048576) :
    Calls Tryd.prog 101 #[.slice A l.length c] W fun e w' => e = .returned (.string (listTx l)) ∧ Below W.heap.size W w' := by
  rcases Nat.eq_zero_or_pos l.length with h0 | h0
  · have HT := Lib.hid (show listTx l = ⟨#[110, 111, 110, 101]⟩ from if_pos h0)
    rw [h0]
    clear hr hw hl h0
    go_enter Tryd.func101, Tryd.ntmps101
    go_wp2
    go_ret
    exact ⟨by rw [HT.out]; rfl, Below.refl _ _⟩
  · have HT := Lib.hid (show listTx l = jb l from if_neg (by omega))
    have HD := fun (n : Int) (hn : I64 n) (w : World) => spec_l01Dec n hn.1 hn.2 w
    have HB := fun (j : Nat) => (show (jb (l.take j)).size ≤ 22 * 1048576 from by
      have := jb_size (l.take j) fun n hn => hw n (List.mem_of_mem_take hn)
      have h2 := List.length_take_le j l
      have h3 : (l.take j).length ≤ l.length := by simp; omega
      omega)
    generalize hn : l.length = n at *
    have HN := Lib.hid hn
    clear hn
    obtain ⟨x0, hx0⟩ := get_lt (l := l) (k := 0) (by rw [HN.out]; exact h0)
    have HJ0 := Lib.hid (show jb (l.take 1) = dec x0 from by rw [List.take_add_one, hx0]; exact jb_one x0)
    obtain ⟨b1, off1, hA, hbl, cj⟩ := ints_at hr (Below.refl _ _) (Nat.le_refl _) hx0
    subst hA
    have HD0 := HD x0 (hw x0 (List.mem_of_getElem? hx0))
    have h0z := dec_size x0 (hw x0 (List.mem_of_getElem? hx0)).1 (hw x0 (List.mem_of_getElem? hx0)).2
    have h0' : ((n : Int) == 0) = false := by simp; omega
    rw [Nat.add_zero] at cj
    go_enter Tryd.func101, Tryd.ntmps101
    go_wp2_with fail
    refine (HD0 _).mono ?_
    rintro e w1 ⟨rfl, hb1⟩
    clear cj
    go_wp2_with fail
    go_loopw [3, 4] (fun o i wr => ∃ j : Nat, 1 ≤ j ∧ j ≤ n ∧ i = .int .i64 j ∧ o = .string (jb (l.take j)) ∧ Below W.heap.size W wr) (fun _ i _ => n - (intOf i).toNat)
    case atStart => exact ⟨1, by omega, h0, rfl, by rw [HJ0.out], hb1⟩
    case round =>
      obtain ⟨j, hj1, hj, rfl, rfl, hb⟩ := hrel
      by_cases hlt : j < n
      · obtain ⟨x, hx⟩ := get_lt (l := l) (k := j) (by rw [HN.out]; exact hlt)
        obtain ⟨b2, off2, hA, hbl2, cj⟩ := ints_at hr hb (Nat.le_refl _) hx
        injection hA with hA
        injection hA with e1 e2
        subst e1 e2
        have HX := HD x (hw x (List.mem_of_getElem? hx))
        have hxz := dec_size x (hw x (List.mem_of_getElem? hx)).1 (hw x (List.mem_of_getElem? hx)).2
        have HS := Lib.hid (show jb (l.take (j + 1)) = jb (l.take j) ++ ((⟨#[44]⟩ : ByteArray) ++ dec x) from by
          rw [List.take_add_one, hx]
          exact jb_snoc x (by intro h; have h2 := congrArg List.length h; rw [List.length_take, List.length_nil] at h2; have h3 := HN.out; omega))
        have hsz := HB j
        have hlt' : (j : Int) < (n : Int) := by omega
        generalize jb (l.take j) = s at *
        have h44 : (⟨#[44]⟩ : ByteArray).size = 1 := rfl
        clear hx hr
        go_wp2_with fail
        refine (HX _).mono ?_
        rintro e w3 ⟨rfl, hb3⟩
        clear cj
        go_wp2_with fail
        go_roundw
        case rel => exact ⟨j + 1, by omega, by omega, by go_num, by rw [HS.out], hb.trans (hb3.mono hb.size)⟩
        case measure => simp [intOf]; omega
      · obtain rfl : j = n := by omega
        have HE := Lib.hid (show jb (l.take j) = jb l from by rw [List.take_of_length_le (by rw [HN.out]; exact Nat.le_refl _)])
        clear hr
        go_wp2
        go_ret
        exact ⟨by rw [HT.out, HE.out]; rfl, hb⟩
set_option maxHeartbeats 1600000 in
set_option maxRecDepth 100000 in
theorem impl_listText (l : List Int) (A : Option Addr) (c : Nat) (W : World) (ht : Pow10 W) (hr : Ro W (Lo W.heap.size) (ints l) (.slice A l.length c)) (hw : ∀ n ∈ l, I64 n) (hl : l.length ≤ 1048576) :
    Calls Tryd.prog 88 #[.slice A l.length c] W fun e w' => e = .returned (.string (listTx l)) ∧ Below W.heap.size W w' := by
  have H := (St.start W).addro hr
  have HD := fun (n : Int) (hn : I64 n) (w : World) (hb : Below W.heap.size W w) => impl_Decimal n hn.1 hn.2 w (ht.on hb)
  clear hr ht
  have hw := Lib.hid hw
  generalize hn : l.length = n at *
  have HN := Lib.hid hn
  clear hn
  go_enter Tryd.func88, Tryd.ntmps88
  go_wp2
  go_loopw [3, 9] (fun o i wr => ∃ (j : Nat) (A9 : Option Addr) (q c9 : Nat), j ≤ n ∧ o = .slice A9 q c9 ∧ i = .int .i64 j ∧ St (Lo W.heap.size) (Lo W.heap.size) W wr [.ow (strs ((l.take j).map dec)) (.slice A9 q c9), .ro (ints l) (.slice A n c)]) (fun _ i _ => n - (intOf i).toNat)
  case atStart =>
    refine ⟨0, some ⟨W.heap.size, 0, none⟩, 0, 0, by omega, rfl, rfl, ?_⟩
    have H2 := (H.junk (.cells #[] 9)).nilow 9 1 (some ⟨W.heap.size, 0, none⟩)
    exact H2
  case round =>
    obtain ⟨j, A9, q, c9, hj, rfl, rfl, H⟩ := hrel
    have hq1 := St.lenS H (by repeat (first | with_reducible_and_instances exact .here | with_reducible refine .there ?_))
    have hjl : ((l.take j).map dec).length = j := by have := HN.out; simp; omega
    rw [hjl] at hq1
    subst hq1
    by_cases hlt : q < n
    · obtain ⟨x, hx⟩ := get_lt (l := l) (k := q) (by rw [HN.out]; exact hlt)
      obtain ⟨b, off, hA, H'⟩ := ints_st H (by repeat (first | with_reducible_and_instances exact .here | with_reducible refine .there ?_)) hx
      clear H
      subst hA
      have H := H'
      clear H'
      have hlt' : (q : Int) < (n : Int) := by omega
      have HX := HD x (hw.out x (List.mem_of_getElem? hx))
      have HS := Lib.hid (show (l.take (q + 1)).map dec = (l.take q).map dec ++ [dec x] from by rw [List.take_add_one, hx]; simp)
      have hxz := dec_size x (hw.out x (List.mem_of_getElem? hx)).1 (hw.out x (List.mem_of_getElem? hx)).2
      generalize dec x = s at *
      clear hx hjl
      generalize (l.take q).map dec = o at *
      (try clear hq); have hq := H.facts; simp only [factsOf, Pt.facts, CellsAt, Nat.add_zero, Nat.zero_add, Nat.reduceAdd, and_true, true_and, List.set_cons_zero, List.set_cons_succ] at hq
      go_wp2_with fail
      refine (HX _ H.belowW).mono ?_
      rintro e w3 ⟨rfl, hb3⟩
      replace H := H.below hb3
      clear hb3
      (try clear hq); have hq := H.facts; simp only [factsOf, Pt.facts, CellsAt, Nat.add_zero, Nat.zero_add, Nat.reduceAdd, and_true, true_and, List.set_cons_zero, List.set_cons_succ] at hq
      go_wp2_with (at_builtin; refine by_wp rfl fun K hK => wp_append1P_at 1 _ _ 22 9 rfl Tryd.underlying22 (.string ByteArray.empty) 1 16 inf_string rfl (by decide) (by decide) rfl #[.string s] rfl (by first | rfl | (simp; done)) [.str s] rfl H rfl (OwL.one (Ow.S _)) (by omega) ?_; intro A9 c9 w1 H; refine hK _ _ ?_; clear hK; simp only [List.set_cons_zero, List.set_cons_succ] at H; (try clear hq); have hq := H.facts; simp only [factsOf, Pt.facts, CellsAt, Nat.add_zero, Nat.zero_add, Nat.reduceAdd, and_true, true_and, List.set_cons_zero, List.set_cons_succ] at hq)
      go_roundw
      case rel =>
        refine ⟨q + 1, A9, q + 1, c9, by omega, rfl, by go_num, ?_⟩
        rw [HS.out, ← strs_eq]
        apply St.sub' (h := H)
        (repeat (first | exact Pick.nil | with_reducible_and_instances exact Del.here | apply Pick.cons | with_reducible apply Del.there))
      case measure => simp [intOf]; omega
    · obtain rfl : q = n := by omega
      have HE := Lib.hid (show l.take q = l from List.take_of_length_le (by rw [HN.out]; exact Nat.le_refl _))
      rw [HE.out] at H hjl
      have hB := H.belowW
      rcases Nat.eq_zero_or_pos q with h0 | h0
      · subst h0
        have HT := Lib.hid (show listTx l = ⟨#[110, 111, 110, 101]⟩ from if_pos HN.out)
        clear hjl
        (try clear hq); have hq := H.facts; simp only [factsOf, Pt.facts, CellsAt, Nat.add_zero, Nat.zero_add, Nat.reduceAdd, and_true, true_and, List.set_cons_zero, List.set_cons_succ] at hq
        go_wp2
        go_ret
        exact ⟨by rw [HT.out]; rfl, (by (repeat (first | with_reducible assumption | with_reducible exact Below.refl _ _ | with_reducible refine Below.setCell ?_ ?_ _ | with_reducible refine Below.alloc ?_ ?_ _ | with_reducible refine Below.drew ?_ | with_reducible refine below_drewN ?_ _ | omega | (simp; done) | (simp; omega))); all_goals first | omega | (simp; done) | (simp; omega))⟩
      · have HT := Lib.hid (show listTx l = jb l from if_neg (by have := HN.out; omega))
        have h0' : ((q : Int) == 0) = false := by simp; omega
        obtain ⟨b, off, rfl, hbl, hcl, hcap⟩ := St.strs_all H (by repeat (first | with_reducible_and_instances exact .here | with_reducible refine .there ?_)) (by intro h; have := congrArg List.length h; rw [hjl, List.length_nil] at this; omega)
        have HJ := fun (w : World) (hc : ∀ (j : Nat) x, (l.map dec)[j]? = some x → w.cell? ⟨b, off + j, none⟩ = some (.string x)) (hb : b < w.heap.size) => Tryd.strings_Join b off c9 (l.map dec) ⟨#[44]⟩ w hc hb (by rw [hjl]; omega) hcap (by
          have h2 := jb_size l hw.out
          have h3 : (jb l).size = (Lib.join ((l.map dec).map (·.data.toList)) [44]).length := by
            rw [List.map_map]
            show (Lib.join (l.map fun n => (dec n).data.toList) [44]).toArray.size = _
            simp [Function.comp_def]
          show (Lib.join ((l.map dec).map (·.data.toList)) [44]).length ≤ _
          rw [← h3]
          have := HN.out
          omega)
        rw [hjl] at HJ
        have HJ2 := HJ _ hcl hbl
        have HT2 := Lib.hid (show (⟨(Lib.join ((l.map dec).map (·.data.toList)) (⟨#[44]⟩ : ByteArray).data.toList).toArray⟩ : ByteArray) = listTx l from by rw [HT.out, List.map_map]; rfl)
        rw [HT2.out] at HJ2
        clear HJ hcl hcap hjl HT HT2
        (try clear hq); have hq := H.facts; simp only [factsOf, Pt.facts, CellsAt, Nat.add_zero, Nat.zero_add, Nat.reduceAdd, and_true, true_and, List.set_cons_zero, List.set_cons_succ] at hq
        go_wp2_with fail
        refine HJ2.mono ?_
        rintro e w5 ⟨rfl, hb5⟩
        go_wp2
        go_ret
        exact ⟨rfl, hB.trans (hb5.mono hB.size)⟩
end Go.Proofs.YtahbgkabdongnaaDoor

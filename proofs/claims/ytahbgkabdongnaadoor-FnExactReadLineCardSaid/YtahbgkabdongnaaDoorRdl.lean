/- ReadList, by both. -/
import Derived.Test.YtahbgkabdongnaaDoorRdd
import Derived.Test.YtahbgkabdongnaaDoorCut
import Derived.Lib.Split
import Derived.Lib.IndexBytes
namespace Go.Proofs.YtahbgkabdongnaaDoor
open Go.ChangeShapes Go.WideShapes Go.ChangeAt Go.RowKit Go.Dt
set_option linter.unusedVariables false
set_option linter.unusedSimpArgs false
theorem splitB_cut (c : UInt8) : ∀ (k : Nat) (s : ByteArray), s.size ≤ k → Lib.splitB ⟨#[c]⟩ 0 (Lib.countB s ⟨#[c]⟩) s = cutB c s := by
  intro k
  induction k with
  | zero =>
    intro s hs
    have h0 : s.data.toList = [] := List.eq_nil_of_length_eq_zero (by rw [ba_size]; omega)
    have hi : Lib.indexB s ⟨#[c]⟩ = -1 := by
      show Lib.index s.data.toList [c] = -1
      rw [Lib.index_one, h0]; rfl
    rw [Lib.countB_miss s _ hi, Lib.splitB_zero]
    unfold cutB
    rw [h0]
    show [s] = [(⟨#[]⟩ : ByteArray)]
    rw [show s = (⟨#[]⟩ : ByteArray) from ba_ext (by rw [h0])]
  | succ k ih =>
    intro s hs
    rcases mem_split c s.data.toList with hno | ⟨a, b, h, ha⟩
    · have hi : Lib.indexB s ⟨#[c]⟩ = -1 := by
        show Lib.index s.data.toList [c] = -1
        rw [Lib.index_one, idx_no hno]
      rw [Lib.countB_miss s _ hi, Lib.splitB_zero]
      unfold cutB
      rw [cutL_no hno]
      rfl
    · have hi : Lib.indexB s ⟨#[c]⟩ = (a.length : Int) := by
        show Lib.index s.data.toList [c] = _
        rw [Lib.index_one, h, idx_at ha]
      have hz := split_size h
      have h1 : (⟨#[c]⟩ : ByteArray).size = 1 := rfl
      rw [Lib.countB_hit s ⟨#[c]⟩ a.length (Nat.le_refl 1) hi, Nat.add_comm, Lib.splitB_hit _ _ _ _ _ hi, h1]
      have hd : (s.extract (a.length + 1) s.size).data.toList = b := by
        rw [ba_extract, h, show a ++ c :: b = (a ++ [c]) ++ b by simp, List.drop_left' (by simp)]
        exact List.take_of_length_le (by omega)
      rw [ih (s.extract (a.length + 1) s.size) (by rw [← ba_size, hd]; omega)]
      unfold cutB
      rw [hd, h, cutL_at ha, List.map_cons]
      congr 1
      apply ba_ext
      rw [ba_extract, h]
      simp
theorem countB_cut (c : UInt8) (s : ByteArray) : Lib.countB s ⟨#[c]⟩ + 1 = (cutB c s).length := by
  have hl := Lib.splitB_length_le ⟨#[c]⟩ 0 (Lib.countB s ⟨#[c]⟩) s
  have key : ∀ (k : Nat) (s : ByteArray), s.size ≤ k → (cutB c s).length = Lib.countB s ⟨#[c]⟩ + 1 := by
    intro k
    induction k with
    | zero =>
      intro s hs
      have h0 : s.data.toList = [] := List.eq_nil_of_length_eq_zero (by rw [ba_size]; omega)
      have hi : Lib.indexB s ⟨#[c]⟩ = -1 := by
        show Lib.index s.data.toList [c] = -1
        rw [Lib.index_one, h0]; rfl
      rw [Lib.countB_miss s _ hi]
      unfold cutB
      rw [h0]; rfl
    | succ k ih =>
      intro s hs
      rcases mem_split c s.data.toList with hno | ⟨a, b, h, ha⟩
      · have hi : Lib.indexB s ⟨#[c]⟩ = -1 := by
          show Lib.index s.data.toList [c] = -1
          rw [Lib.index_one, idx_no hno]
        rw [Lib.countB_miss s _ hi]
        unfold cutB
        rw [cutL_no hno]; rfl
      · have hi : Lib.indexB s ⟨#[c]⟩ = (a.length : Int) := by
          show Lib.index s.data.toList [c] = _
          rw [Lib.index_one, h, idx_at ha]
        have hz := split_size h
        have h1 : (⟨#[c]⟩ : ByteArray).size = 1 := rfl
        have hd : (s.extract (a.length + 1) s.size).data.toList = b := by
          rw [ba_extract, h, show a ++ c :: b = (a ++ [c]) ++ b by simp, List.drop_left' (by simp)]
          exact List.take_of_length_le (by omega)
        have := ih (s.extract (a.length + 1) s.size) (by rw [← ba_size, hd]; omega)
        rw [Lib.countB_hit s ⟨#[c]⟩ a.length (Nat.le_refl 1) hi, h1]
        unfold cutB at this ⊢
        rw [hd] at this
        rw [h, cutL_at ha, List.map_cons, List.length_cons, this]
        omega
  exact (key s.size s (Nat.le_refl _)).symm
theorem strs_own (w : World) (P : List ByteArray) : OwL w (P.map fun s => [D.str s]).flatten (P.map Value.string) (fun _ => False) := by
  induction P with
  | nil => exact OwL.nil
  | cons x r ih => exact OwL.consP (Ow.S _) ih
theorem strs_block (w : World) (P : List ByteArray) (hP : P.length ≤ maxLen) : Ow (w.alloc (.cells (P.map Value.string).toArray 9)) (strs P) (.slice (some ⟨w.heap.size, 0, none⟩) P.length P.length) (fun b => b = w.heap.size) := by
  have h := Ow.of_block (w := w.alloc (.cells (P.map Value.string).toArray 9)) (sz := 1) (us := P.map Value.string) (rows := P.map fun s => [D.str s]) (c := P.length) (F := fun _ => False) (Bx.new w (P.map Value.string).toArray 9) (by simp) (by simp) hP (by
    intro row hr
    obtain ⟨s, _, rfl⟩ := List.mem_map.1 hr
    rfl) (by simp only [List.length_map, Nat.mul_one]; exact List.take_of_length_le (by simp)) (strs_own _ P) (by simp)
  have h2 := h.same (F' := fun b => b = w.heap.size) (fun b => by simp)
  simpa [strs] using h2
def nums (P : List ByteArray) : List Int := P.map fun s => (numL s.data.toList).1
def numsOk (P : List ByteArray) : Bool := P.all fun s => (numL s.data.toList).2
theorem nums_snoc {P : List ByteArray} {j : Nat} {x : ByteArray} (h : P[j]? = some x) : nums (P.take (j + 1)) = nums (P.take j) ++ [(numL x.data.toList).1] := by
  unfold nums; rw [List.take_add_one, h]; simp
theorem numsOk_snoc {P : List ByteArray} {j : Nat} {x : ByteArray} (h : P[j]? = some x) : numsOk (P.take (j + 1)) = (numsOk (P.take j) && (numL x.data.toList).2) := by
  unfold numsOk; rw [List.take_add_one, h]; simp
theorem numsOk_bad {P : List ByteArray} {j : Nat} {x : ByteArray} (h : P[j]? = some x) (hx : (numL x.data.toList).2 = false) : numsOk P = false := by
  unfold numsOk
  rw [List.all_eq_false]
  exact ⟨x, List.mem_of_getElem? h, by simp [hx]⟩
def ReadList_f (s : ByteArray) : List Int × Bool :=
  if s.data.toList = [110, 111, 110, 101] then ([], true)
  else if (cutB 44 s).length ≤ 300 ∧ numsOk (cutB 44 s) = true then (nums (cutB 44 s), true) else ([], false)
def MadeIB (W : World) (r : List Int × Bool) (e : Ending) (w' : World) : Prop := ∃ A c F, e = .returned (.tuple #[.slice A r.1.length c, .bool r.2]) ∧ Ow w' (ints r.1) (.slice A r.1.length c) F ∧ (∀ b, F b → W.heap.size ≤ b) ∧ Below W.heap.size W w'
theorem madeIB_st {R : Nat → Prop} {W w : World} {ps : List Pt} {r : List Int × Bool} {A : Option Addr} {q c : Nat} {o : List Int} (H : St (Lo W.heap.size) R W w ps) (ha : At (.ow (ints o) (.slice A q c)) ps) (hr : r = (o, true)) : MadeIB W r (.returned (.tuple #[.slice A q c, .bool true])) w := by
  subst hr
  obtain rfl := St.len H ha
  obtain ⟨F, h1, h2⟩ := H.own ha
  exact ⟨A, c, F, rfl, h1, fun b hb => Nat.le_of_not_lt (h2 b hb), H.belowW⟩
theorem madeIB_no {W w : World} {r : List Int × Bool} (hB : Below W.heap.size W w) (hr : r = ([], false)) : MadeIB W r (.returned (.tuple #[.slice none 0 0, .bool false])) w := by
  subst hr
  exact ⟨none, 0, fun _ => False, rfl, .emp _ _ _ _ (fun _ h => h), fun b h => h.elim, hB⟩
theorem none_eq (s : ByteArray) : (s.toList == [110, 111, 110, 101]) = decide (s.data.toList = [110, 111, 110, 101]) := by
  rw [ByteArray.toList_eq, Bool.eq_iff_iff, beq_iff_eq, decide_eq_true_eq]
theorem cutB_size (m : UInt8) (s : ByteArray) : ∀ x ∈ cutB m s, x.size ≤ s.size := by
  have key : ∀ (l : List UInt8), ∀ x ∈ cutL m l, x.length ≤ l.length := by
    intro l
    induction l with
    | nil => intro x hx; simp [cutL] at hx; subst hx; simp
    | cons c r ih =>
      intro x hx
      rw [cutL_cons] at hx
      split at hx
      · rcases List.mem_cons.1 hx with rfl | hx
        · simp
        · have := ih x hx; simp; omega
      · rcases List.mem_cons.1 hx with rfl | hx
        · have h0 : (cutL m r).headD [] ∈ cutL m r := by
            cases h : cutL m r with
            | nil => exact absurd h (cutL_ne m r)
            | cons y ys => simp
          have := ih _ h0
          rw [List.length_cons, List.length_cons]; omega
        · have := ih x (List.mem_of_mem_tail hx); simp; omega
  intro x hx
  unfold cutB at hx
  obtain ⟨l, hl, rfl⟩ := List.mem_map.1 hx
  have := key s.data.toList l hl
  rw [ba_size] at this
  rw [← ba_size]
  exact this
set_option maxHeartbeats 3200000 in
set_option maxRecDepth 100000 in
theorem impl_ReadList (s : ByteArray) (W : World) (ht : Std W) (hs : s.size ≤ 1048576) :
    Calls Tryd.prog 92 #[.string s] W (MadeIB W (ReadList_f s)) := by
  have H := St.start W
  have HNE := none_eq s
  by_cases hno : s.data.toList = [110, 111, 110, 101]
  · have HF := Lib.hid (show ReadList_f s = ([], true) from if_pos hno)
    rw [decide_eq_true hno] at HNE
    clear hno ht hs
    go_enter Tryd.func92, Tryd.ntmps92
    go_wp2
    have H2 := (H.junk (.cells #[] 2)).nilow 2 1 (some ⟨W.heap.size, 0, none⟩)
    exact bodyPost_ret (v := .tuple #[.slice (some ⟨W.heap.size, 0, none⟩) 0 0, .bool true]) (by simp [results, Tryd.results92, go_sem]) rfl (madeIB_st (o := []) H2 .here HF.out)
  rw [decide_eq_false hno] at HNE
  have HF := Lib.hid (show ReadList_f s = if (cutB 44 s).length ≤ 300 ∧ numsOk (cutB 44 s) = true then (nums (cutB 44 s), true) else ([], false) from if_neg hno)
  have HSP := fun (w : World) (hb : Below W.heap.size W w) => (show ∃ m : Int, w.cell? ⟨0, 0, none⟩ = some (.int .i64 m) from (ht.on hb).len)
  have HRD := fun (x : ByteArray) (hx : x.size ≤ 1048576) (w : World) (hb : Below W.heap.size W w) => impl_ReadDecimal x w (ht.on hb).pow (ht.on hb).errs hx
  have HCUT := fun (m : Int) (w : World) (hm : w.cell? ⟨0, 0, none⟩ = some (.int .i64 m)) => Tryd.strings_Split s ⟨#[44]⟩ m w (by omega) hm (Nat.le_refl 1)
  rw [splitB_cut 44 s.size s (Nat.le_refl _), countB_cut] at HCUT
  have hzz := Lib.hid (fun x (hx : x ∈ cutB 44 s) => (show x.size ≤ 1048576 from by have := cutB_size 44 s x hx; omega))
  have hlen : (cutB 44 s).length ≤ 1048577 := by
    have h1 := countB_cut 44 s
    have h2 := Lib.countB_le ⟨#[44]⟩ (Nat.le_refl 1) s.size s (Nat.le_refl _)
    omega
  generalize cutB 44 s = P at *
  clear hno ht hs
  obtain ⟨m, hm⟩ := HSP (W.alloc (.cells #[] 2)) ((Below.refl _ _).alloc (Nat.le_refl _) _)
  have HC2 := HCUT m (W.alloc (.cells #[] 2)) hm
  have hblk := strs_block (W.alloc (.cells #[] 2)) P (by simp only [maxLen]; omega)
  clear hm HSP HCUT
  generalize hn : P.length = n at *
  have HN := Lib.hid hn
  clear hn
  go_enter Tryd.func92, Tryd.ntmps92
  go_wp2_with fail
  refine HC2.mono ?_
  rintro e w1 ⟨rfl, rfl⟩
  have H1 := (H.junk (.cells #[] 2)).nilow 2 1 (some ⟨W.heap.size, 0, none⟩)
  have hbx : Below (W.alloc (.cells #[] 2)).heap.size (W.alloc (.cells #[] 2)) ((W.alloc (.cells #[] 2)).alloc (.cells (P.map Value.string).toArray 9)) := (Below.refl _ _).alloc (Nat.le_refl _) _
  obtain ⟨R2, H2, -⟩ := (H1.addow hbx hblk (fun b hb => by rw [hb]; exact Nat.le_refl _)).freeze
  clear H1 hbx hblk H
  have hgs : (W.alloc (.cells #[] 2)).heap.size = W.heap.size + 1 := by simp
  rw [hgs] at H2
  clear hgs
  generalize (W.alloc (.cells #[] 2)).alloc (.cells (P.map Value.string).toArray 9) = w2 at *
  go_wp2_with fail
  go_loopw [4, 16] (fun v4 v16 wr => ∃ (j : Nat) (A9 : Option Addr) (q c9 : Nat), j ≤ n ∧ j ≤ 300 ∧ v4 = .slice A9 q c9 ∧ v16 = .int .i64 j ∧ Hid (numsOk (P.take j) = true) ∧ St (Lo W.heap.size) R2 W wr [.ow (ints (nums (P.take j))) (.slice A9 q c9), .ro (strs P) (.slice (some ⟨W.heap.size + 1, 0, none⟩) n n)]) (fun _ v16 _ => n - (intOf v16).toNat)
  case atStart =>
    refine ⟨0, some ⟨W.heap.size, 0, none⟩, 0, 0, by omega, by omega, rfl, rfl, Lib.hid rfl, ?_⟩
    rw [show ints (nums (P.take 0)) = D.sl 2 1 [] from rfl]
    apply St.sub' (h := H2)
    (repeat (first | exact Pick.nil | with_reducible_and_instances exact Del.here | apply Pick.cons | with_reducible apply Del.there))
  case round =>
    obtain ⟨j, A9, q, c9, hj, hj3, rfl, rfl, HOK, H⟩ := hrel
    have hq1 := St.len H (by repeat (first | with_reducible_and_instances exact .here | with_reducible refine .there ?_))
    have hjl : (nums (P.take j)).length = j := by unfold nums; have := HN.out; simp; omega
    rw [hjl] at hq1
    subst hq1
    by_cases hlt : q < n
    rotate_left
    · obtain rfl : q = n := by omega
      have HE : P.take q = P := List.take_of_length_le (by rw [HN.out]; exact Nat.le_refl _)
      rw [HE] at HOK H
      have HR := Lib.hid (HF.out.trans (if_pos ⟨hj3, HOK.out⟩))
      clear hjl
      (try clear hq); have hq := H.facts; simp only [factsOf, Pt.facts, CellsAt, Nat.add_zero, Nat.zero_add, Nat.reduceAdd, and_true, true_and, List.set_cons_zero, List.set_cons_succ] at hq
      go_wp2
      exact bodyPost_ret (v := .tuple #[.slice A9 q c9, .bool true]) (by simp [results, Tryd.results92, go_sem]) rfl (madeIB_st H (by repeat (first | with_reducible_and_instances exact .here | with_reducible refine .there ?_)) HR.out)
    · obtain ⟨x, hx⟩ := get_lt (l := P) (k := q) (by rw [HN.out]; exact hlt)
      obtain ⟨b, off, hA, H'⟩ := strs_st H (by repeat (first | with_reducible_and_instances exact .here | with_reducible refine .there ?_)) hx
      injection hA with hA
      injection hA with e1 e2
      subst e1 e2
      clear H
      have H := H'
      clear H'
      have hlt' : (q : Int) < (n : Int) := by omega
      have HX := HRD x (hzz.out x (List.mem_of_getElem? hx))
      unfold numT at HX
      have HS1 := Lib.hid (nums_snoc hx)
      have HS2 := Lib.hid (numsOk_snoc hx)
      have HBAD := Lib.hid (fun (h : (numL x.data.toList).2 = false) => HF.out.trans (if_neg (fun hh => by rw [numsOk_bad hx h] at hh; exact absurd hh.2 (by decide))))
      clear hx hjl
      generalize numL x.data.toList = r at *
      obtain ⟨v, ok⟩ := r
      simp only at HX HS1 HS2 HBAD
      cases ok
      · have HR := Lib.hid (HBAD.out rfl)
        (try clear hq); have hq := H.facts; simp only [factsOf, Pt.facts, CellsAt, Nat.add_zero, Nat.zero_add, Nat.reduceAdd, and_true, true_and, List.set_cons_zero, List.set_cons_succ] at hq
        go_wp2_with fail
        refine (HX _ H.belowW).mono ?_
        rintro e w3 ⟨rfl, hb3⟩
        have hB := H.belowW.trans (hb3.mono H.size)
        go_wp2
        exact bodyPost_ret (v := .tuple #[.slice none 0 0, .bool false]) (by simp [results, Tryd.results92, go_sem]) rfl (madeIB_no hB HR.out)
      · by_cases h300 : q = 300
        · have HR := Lib.hid (HF.out.trans (if_neg (fun hh => by have := hh.1; omega)))
          have g300 : ((q : Int) == 300) = true := by simp [h300]
          replace h300 := Lib.hid h300
          (try clear hq); have hq := H.facts; simp only [factsOf, Pt.facts, CellsAt, Nat.add_zero, Nat.zero_add, Nat.reduceAdd, and_true, true_and, List.set_cons_zero, List.set_cons_succ] at hq
          go_wp2_with fail
          refine (HX _ H.belowW).mono ?_
          rintro e w3 ⟨rfl, hb3⟩
          have hB := H.belowW.trans (hb3.mono H.size)
          go_wp2
          exact bodyPost_ret (v := .tuple #[.slice none 0 0, .bool false]) (by simp [results, Tryd.results92, go_sem]) rfl (madeIB_no hB HR.out)
        · have g300 : ((q : Int) == 300) = false := by simp; omega
          generalize nums (P.take q) = o at *
          (try clear hq); have hq := H.facts; simp only [factsOf, Pt.facts, CellsAt, Nat.add_zero, Nat.zero_add, Nat.reduceAdd, and_true, true_and, List.set_cons_zero, List.set_cons_succ] at hq
          go_wp2_with fail
          refine (HX _ H.belowW).mono ?_
          rintro e w3 ⟨rfl, hb3⟩
          replace H := H.below hb3
          clear hb3
          (try clear hq); have hq := H.facts; simp only [factsOf, Pt.facts, CellsAt, Nat.add_zero, Nat.zero_add, Nat.reduceAdd, and_true, true_and, List.set_cons_zero, List.set_cons_succ] at hq
          go_wp2_with (at_builtin; refine by_wp rfl fun K hK => wp_append1P_at 1 _ _ 32 2 rfl Tryd.underlying32 (.int .i64 0) 1 8 inf_int64 rfl (by decide) (by decide) rfl #[.int .i64 v] rfl (by first | rfl | (simp; done)) [.int .i64 v] rfl H rfl (OwL.one (Ow.I _ _)) (by omega) ?_; intro A9 c9 w1 H; refine hK _ _ ?_; clear hK; simp only [List.set_cons_zero, List.set_cons_succ] at H; (try clear hq); have hq := H.facts; simp only [factsOf, Pt.facts, CellsAt, Nat.add_zero, Nat.zero_add, Nat.reduceAdd, and_true, true_and, List.set_cons_zero, List.set_cons_succ] at hq)
          go_roundw
          case rel =>
            refine ⟨q + 1, A9, q + 1, c9, by omega, by omega, rfl, by go_num, Lib.hid (by rw [HS2.out, HOK.out]; rfl), ?_⟩
            rw [HS1.out, ← ints_eq]
            apply St.sub' (h := H)
            (repeat (first | exact Pick.nil | with_reducible_and_instances exact Del.here | apply Pick.cons | with_reducible apply Del.there))
          case measure => simp [intOf]; omega
set_option maxHeartbeats 3200000 in
set_option maxRecDepth 100000 in
theorem spec_l01Numbers (s : ByteArray) (W : World) (hs : s.size ≤ 1048576) :
    Calls Tryd.prog 91 #[.string s] W (MadeIB W (ReadList_f s)) := by
  have H := St.start W
  have HNE := none_eq s
  by_cases hno : s.data.toList = [110, 111, 110, 101]
  · have HF := Lib.hid (show ReadList_f s = ([], true) from if_pos hno)
    rw [decide_eq_true hno] at HNE
    clear hno hs
    go_enter Tryd.func91, Tryd.ntmps91
    go_wp2
    have H2 := (H.junk (.cells #[] 2)).nilow 2 1 (some ⟨W.heap.size, 0, none⟩)
    exact bodyPost_ret (v := .tuple #[.slice (some ⟨W.heap.size, 0, none⟩) 0 0, .bool true]) (by simp [results, Tryd.results91, go_sem]) rfl (madeIB_st (o := []) H2 .here HF.out)
  rw [decide_eq_false hno] at HNE
  have HF := Lib.hid (show ReadList_f s = if (cutB 44 s).length ≤ 300 ∧ numsOk (cutB 44 s) = true then (nums (cutB 44 s), true) else ([], false) from if_neg hno)
  have HRD := fun (x : ByteArray) (hx : x.size ≤ 1048576) (w : World) => spec_l01Value x w hx
  have HCUT := fun (w : World) => spec_l01Cut s 44 44 (by decide) w hs
  have hzz := Lib.hid (fun x (hx : x ∈ cutB 44 s) => (show x.size ≤ 1048576 from by have := cutB_size 44 s x hx; omega))
  have hlen : (cutB 44 s).length ≤ 1048577 := by
    have h1 := countB_cut 44 s
    have h2 := Lib.countB_le ⟨#[44]⟩ (Nat.le_refl 1) s.size s (Nat.le_refl _)
    omega
  generalize cutB 44 s = P at *
  clear hno hs
  go_enter Tryd.func91, Tryd.ntmps91
  go_wp2_with fail
  refine (HCUT _).mono ?_
  rintro e w2 ⟨v, F, rfl, hO, hb, hF⟩
  obtain ⟨AP, cP, rfl, hlc, hmx⟩ := hO.shape
  simp only [List.length_map] at hlc hO ⊢
  have H1 := (H.junk (.cells #[] 2)).nilow 2 1 (some ⟨W.heap.size, 0, none⟩)
  obtain ⟨R2, H2, -⟩ := (H1.addow hb hO hF).freeze
  clear H1 hO hF hb H HCUT
  generalize hn : P.length = n at *
  have HN := Lib.hid hn
  clear hn
  simp only [maxLen] at hmx
  by_cases hbig : 300 < n
  · have hbig' : (300 : Int) < (n : Int) := by omega
    have HR := Lib.hid (HF.out.trans (if_neg (fun hh => by have := hh.1; omega)))
    have hB := H2.belowW
    go_wp2
    exact bodyPost_ret (v := .tuple #[.slice none 0 0, .bool false]) (by simp [results, Tryd.results91, go_sem]) rfl (madeIB_no hB HR.out)
  have hbig' : ¬ (300 : Int) < (n : Int) := by omega
  go_wp2_with fail
  go_loopw [4, 6] (fun v4 v16 wr => ∃ (j : Nat) (A9 : Option Addr) (q c9 : Nat), j ≤ n ∧ j ≤ 300 ∧ v4 = .slice A9 q c9 ∧ v16 = .int .i64 j ∧ Hid (numsOk (P.take j) = true) ∧ St (Lo W.heap.size) R2 W wr [.ow (ints (nums (P.take j))) (.slice A9 q c9), .ro (strs P) (.slice AP n cP)]) (fun _ v16 _ => n - (intOf v16).toNat)
  case atStart =>
    refine ⟨0, some ⟨W.heap.size, 0, none⟩, 0, 0, by omega, by omega, rfl, rfl, Lib.hid rfl, ?_⟩
    rw [show ints (nums (P.take 0)) = D.sl 2 1 [] from rfl]
    apply St.sub' (h := H2)
    (repeat (first | exact Pick.nil | with_reducible_and_instances exact Del.here | apply Pick.cons | with_reducible apply Del.there))
  case round =>
    obtain ⟨j, A9, q, c9, hj, hj3, rfl, rfl, HOK, H⟩ := hrel
    have hq1 := St.len H (by repeat (first | with_reducible_and_instances exact .here | with_reducible refine .there ?_))
    have hjl : (nums (P.take j)).length = j := by unfold nums; have := HN.out; simp; omega
    rw [hjl] at hq1
    subst hq1
    by_cases hlt : q < n
    rotate_left
    · obtain rfl : q = n := by omega
      have HE : P.take q = P := List.take_of_length_le (by rw [HN.out]; exact Nat.le_refl _)
      rw [HE] at HOK H
      have HR := Lib.hid (HF.out.trans (if_pos ⟨hj3, HOK.out⟩))
      clear hjl
      (try clear hq); have hq := H.facts; simp only [factsOf, Pt.facts, CellsAt, Nat.add_zero, Nat.zero_add, Nat.reduceAdd, and_true, true_and, List.set_cons_zero, List.set_cons_succ] at hq
      go_wp2
      exact bodyPost_ret (v := .tuple #[.slice A9 q c9, .bool true]) (by simp [results, Tryd.results91, go_sem]) rfl (madeIB_st H (by repeat (first | with_reducible_and_instances exact .here | with_reducible refine .there ?_)) HR.out)
    · obtain ⟨x, hx⟩ := get_lt (l := P) (k := q) (by rw [HN.out]; exact hlt)
      obtain ⟨b, off, hA, H'⟩ := strs_st H (by repeat (first | with_reducible_and_instances exact .here | with_reducible refine .there ?_)) hx
      subst hA
      clear H
      have H := H'
      clear H'
      have hlt' : (q : Int) < (n : Int) := by omega
      have HX := HRD x (hzz.out x (List.mem_of_getElem? hx))
      unfold numT at HX
      have HS1 := Lib.hid (nums_snoc hx)
      have HS2 := Lib.hid (numsOk_snoc hx)
      have HBAD := Lib.hid (fun (h : (numL x.data.toList).2 = false) => HF.out.trans (if_neg (fun hh => by rw [numsOk_bad hx h] at hh; exact absurd hh.2 (by decide))))
      clear hx hjl
      generalize numL x.data.toList = r at *
      obtain ⟨v, ok⟩ := r
      simp only at HX HS1 HS2 HBAD
      cases ok
      · have HR := Lib.hid (HBAD.out rfl)
        (try clear hq); have hq := H.facts; simp only [factsOf, Pt.facts, CellsAt, Nat.add_zero, Nat.zero_add, Nat.reduceAdd, and_true, true_and, List.set_cons_zero, List.set_cons_succ] at hq
        go_wp2_with fail
        refine (HX _).mono ?_
        rintro e w3 ⟨rfl, hb3⟩
        have hB := H.belowW.trans (hb3.mono H.size)
        go_wp2
        exact bodyPost_ret (v := .tuple #[.slice none 0 0, .bool false]) (by simp [results, Tryd.results91, go_sem]) rfl (madeIB_no hB HR.out)
      · generalize nums (P.take q) = o at *
        (try clear hq); have hq := H.facts; simp only [factsOf, Pt.facts, CellsAt, Nat.add_zero, Nat.zero_add, Nat.reduceAdd, and_true, true_and, List.set_cons_zero, List.set_cons_succ] at hq
        go_wp2_with fail
        refine (HX _).mono ?_
        rintro e w3 ⟨rfl, hb3⟩
        replace H := H.below hb3
        clear hb3
        (try clear hq); have hq := H.facts; simp only [factsOf, Pt.facts, CellsAt, Nat.add_zero, Nat.zero_add, Nat.reduceAdd, and_true, true_and, List.set_cons_zero, List.set_cons_succ] at hq
        go_wp2_with (at_builtin; refine by_wp rfl fun K hK => wp_append1P_at 1 _ _ 32 2 rfl Tryd.underlying32 (.int .i64 0) 1 8 inf_int64 rfl (by decide) (by decide) rfl #[.int .i64 v] rfl (by first | rfl | (simp; done)) [.int .i64 v] rfl H rfl (OwL.one (Ow.I _ _)) (by omega) ?_; intro A9 c9 w1 H; refine hK _ _ ?_; clear hK; simp only [List.set_cons_zero, List.set_cons_succ] at H; (try clear hq); have hq := H.facts; simp only [factsOf, Pt.facts, CellsAt, Nat.add_zero, Nat.zero_add, Nat.reduceAdd, and_true, true_and, List.set_cons_zero, List.set_cons_succ] at hq)
        go_roundw
        case rel =>
          refine ⟨q + 1, A9, q + 1, c9, by omega, by omega, rfl, by go_num, Lib.hid (by rw [HS2.out, HOK.out]; rfl), ?_⟩
          rw [HS1.out, ← ints_eq]
          apply St.sub' (h := H)
          (repeat (first | exact Pick.nil | with_reducible_and_instances exact Del.here | apply Pick.cons | with_reducible apply Del.there))
        case measure => simp [intOf]; omega
end Go.Proofs.YtahbgkabdongnaaDoor

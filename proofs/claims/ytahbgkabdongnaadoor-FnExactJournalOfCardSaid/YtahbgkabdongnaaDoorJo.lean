/- JournalOf, by both. -/
import Derived.Test.YtahbgkabdongnaaDoorCut
import Derived.Test.YtahbgkabdongnaaDoorStrs
import Derived.Test.YtahbgkabdongnaaDoorBld
namespace Go.Proofs.YtahbgkabdongnaaDoor
open Go.ChangeShapes Go.WideShapes Go.ChangeAt Go.RowKit Go.Dt
set_option linter.unusedVariables false
set_option linter.unusedSimpArgs false
theorem bld_keep {T e : TypeId} {B b : Nat} {bs : List Value} {w w' : World} (h : Lib.IsBuilder T e B b bs w) (hb : Below w.heap.size w w') : Lib.IsBuilder T e B b bs w' := by
  have key : ∀ p, Lib.BuilderAt T e B b p bs w → Lib.BuilderAt T e B b p bs w' := by
    rintro p h
    have hlt := h.lt
    obtain ⟨h1, v, h2, h3, h4⟩ := h
    refine ⟨h1, v, (hb.block b hlt).trans h2, ?_, h4⟩
    refine ⟨h3.1, ?_⟩
    rcases h3.2 with h | ⟨g, cap, cur, r1, r2, r3, r4⟩
    · exact .inl h
    · exact .inr ⟨g, cap, cur, r1, r2, (hb.block g (by
        rcases Nat.lt_or_ge g w.heap.size with h | h
        · exact h
        · simp [Array.getElem?_eq_none h] at r3)).trans r3, r4⟩
  exact h.imp (key _) (key _)
/-- A line of a journal behind a check number. -/
def jline (c : Int) (x : ByteArray) : List UInt8 := Lib.itoa (check c x.data.toList) ++ [32] ++ x.data.toList ++ [10]
def chkA (c : Int) (l : List ByteArray) : Int := l.foldl (fun n x => check n x.data.toList) c
def jrnL (c : Int) : List ByteArray → List UInt8
  | [] => []
  | x :: r => jline c x ++ jrnL (check c x.data.toList) r
theorem jrnL_snoc (x : ByteArray) : ∀ (l : List ByteArray) (c : Int), jrnL c (l ++ [x]) = jrnL c l ++ jline (chkA c l) x := by
  intro l
  induction l with
  | nil => intro c; simp [jrnL, chkA]
  | cons y r ih =>
    intro c
    rw [List.cons_append, jrnL, ih, jrnL, List.append_assoc]
    rfl
theorem chkA_snoc (c : Int) (l : List ByteArray) (x : ByteArray) : chkA c (l ++ [x]) = check (chkA c l) x.data.toList := by
  unfold chkA; rw [List.foldl_append]; rfl
theorem chkA_bd : ∀ (l : List ByteArray) (c : Int), 0 ≤ c → c ≤ 65128 → 0 ≤ chkA c l ∧ chkA c l ≤ 65128 := by
  intro l
  induction l with
  | nil => exact fun c h0 h1 => ⟨h0, h1⟩
  | cons x r ih =>
    intro c h0 h1
    have := check_bd x.data.toList c h0 h1
    exact ih _ this.1 this.2
theorem itoa_pos (n : Int) : 1 ≤ (Lib.itoa n).length := by
  by_cases h : n < 0
  · obtain ⟨m, rfl⟩ : ∃ m : Nat, n = -(m : Int) := ⟨n.natAbs, by omega⟩
    rw [Lib.itoa_neg m (by omega)]
    simp
  · obtain ⟨m, rfl⟩ : ∃ m : Nat, n = (m : Int) := ⟨n.toNat, by omega⟩
    rw [Lib.itoa_nonneg]
    rw [Lib.decDigits_length]
    exact Lib.nDigits_pos m
theorem jline_len (c : Int) (x : ByteArray) : x.size + 3 ≤ (jline c x).length := by
  have := itoa_pos (check c x.data.toList)
  unfold jline
  simp only [List.length_append, List.length_cons, List.length_nil, ba_size]
  omega
def jsum (l : List ByteArray) : Nat := (l.map fun x => x.size + 3).sum
theorem jsum_le : ∀ (l : List ByteArray) (c : Int), jsum l ≤ (jrnL c l).length := by
  intro l
  induction l with
  | nil => intro c; simp [jsum]
  | cons x r ih =>
    intro c
    have h1 := jline_len c x
    have h2 := ih (check c x.data.toList)
    unfold jsum at *
    rw [jrnL, List.length_append, List.map_cons, List.sum_cons]
    omega
theorem jrnL_take (c : Int) (l : List ByteArray) (j : Nat) : (jrnL c (l.take j)).length ≤ (jrnL c l).length := by
  have key : ∀ (a b : List ByteArray) (c : Int), (jrnL c a).length ≤ (jrnL c (a ++ b)).length := by
    intro a
    induction a with
    | nil => intro b c; simp [jrnL]
    | cons x r ih => intro b c; rw [List.cons_append, jrnL, jrnL, List.length_append, List.length_append]; have := ih b (check c x.data.toList); omega
  have := key (l.take j) (l.drop j) c
  rwa [List.take_append_drop] at this
def JournalOf_f (l : List ByteArray) : ByteArray × Bool :=
  if (∀ x ∈ l, (10 : UInt8) ∉ x.data.toList) ∧ (jrnL 0 l).length ≤ 6000 then (⟨(jrnL 0 l).toArray⟩, true) else (ByteArray.empty, false)
theorem JournalOf_nl {l : List ByteArray} {x : ByteArray} (hx : x ∈ l) (h : (10 : UInt8) ∈ x.data.toList) : JournalOf_f l = (ByteArray.empty, false) := if_neg fun hh => hh.1 x hx h
theorem JournalOf_long {l : List ByteArray} {j : Nat} (h : 6000 < (jrnL 0 (l.take j)).length) : JournalOf_f l = (ByteArray.empty, false) := if_neg fun hh => by have := jrnL_take 0 l j; omega
theorem JournalOf_sum {l : List ByteArray} {j : Nat} (h : 6000 < jsum (l.take j)) : JournalOf_f l = (ByteArray.empty, false) := JournalOf_long (j := j) (by have := jsum_le (l.take j) 0; omega)
theorem jsum_snoc {l : List ByteArray} {j : Nat} {x : ByteArray} (hx : l[j]? = some x) : jsum (l.take (j + 1)) = jsum (l.take j) + (x.size + 3) := by
  unfold jsum
  rw [List.take_add_one, hx]
  simp
theorem JournalOf_big {l : List ByteArray} {j : Nat} {x : ByteArray} (hx : l[j]? = some x) (h : 6000 < x.size) : JournalOf_f l = (ByteArray.empty, false) := JournalOf_sum (j := j + 1) (by rw [jsum_snoc hx]; omega)
theorem jline_ba (c : Int) (x : ByteArray) : (dec (check c x.data.toList) ++ (⟨#[32]⟩ : ByteArray) ++ x ++ (⟨#[10]⟩ : ByteArray)).data.toList = jline c x := by
  simp only [ByteArray.data_append, Array.toList_append]
  rfl
set_option maxHeartbeats 3200000 in
set_option maxRecDepth 100000 in
theorem impl_JournalOf (l : List ByteArray) (A : Option Addr) (c : Nat) (W : World) (ht : Pow10 W) (hr : Ro W (Lo W.heap.size) (strs l) (.slice A l.length c)) (hl : l.length ≤ 1048576) (hz : ∀ x ∈ l, x.size ≤ 1048576) :
    Calls Tryd.prog 11 #[.slice A l.length c] W fun e w' => e = .returned (.tuple #[.string (JournalOf_f l).1, .bool (JournalOf_f l).2]) ∧ Below W.heap.size W w' := by
  have HD := fun (n : Int) (h0 : 0 ≤ n) (h1 : n ≤ 65128) (w : World) (hb : Below W.heap.size W w) => impl_Decimal n (by omega) (by omega) w (ht.on hb)
  have HC := fun (n : Int) (h0 : 0 ≤ n) (h1 : n ≤ 65128) (x : ByteArray) (hx : x.size ≤ 6000) (w : World) => impl_CheckOf n x w h0 h1 (by simp only [maxLen]; omega)
  have HZ := Lib.hid hz
  have HJ0 := Lib.hid (fun j => JournalOf_long (l := l) (j := j))
  clear ht hz
  generalize hn : l.length = n at *
  have HN := Lib.hid hn
  clear hn
  have HB0 := Lib.hid (Lib.fresh_isBuilder 64 5 W)
  go_enter Tryd.func11, Tryd.ntmps11
  go_wp2
  go_loopw [5, 11] (fun v5 v11 wr => ∃ j : Nat, j ≤ n ∧ v5 = .int .i64 (chkA 0 (l.take j)) ∧ v11 = .int .i64 j ∧ Hid (∀ x ∈ l.take j, (10 : UInt8) ∉ x.data.toList) ∧ (jrnL 0 (l.take j)).length ≤ 12100 ∧ Hid (Lib.IsBuilder 64 5 W.heap.size W.heap.size (Lib.byteCells (jrnL 0 (l.take j))) wr) ∧ Below W.heap.size W wr) (fun _ v11 _ => n - (intOf v11).toNat)
  case atStart => exact ⟨0, by omega, rfl, rfl, Lib.hid (by simp), by simp [jrnL], Lib.hid HB0.out, (Below.refl _ _).alloc (Nat.le_refl _) _⟩
  case round =>
    obtain ⟨j, hj, rfl, rfl, HNL, hjl, HB, hb⟩ := hrel
    have hcb := chkA_bd (l.take j) 0 (by decide) (by decide)
    have hbs := hb.size
    have HLEN := fun (w : World) (h : Lib.IsBuilder 64 5 W.heap.size W.heap.size (Lib.byteCells (jrnL 0 (l.take j))) w) => Tryd.Builder_Len _ _ _ w h
    rw [Lib.byteCells_length] at HLEN
    have HBL := Lib.hid (HJ0.out j)
    by_cases hlt : j < n
    rotate_left
    · obtain rfl : j = n := by omega
      have HE : l.take j = l := List.take_of_length_le (by rw [HN.out]; exact Nat.le_refl _)
      rw [HE] at HNL hjl HB HLEN HBL
      clear HE
      have HSTR := fun (w : World) (h : Lib.IsBuilder 64 5 W.heap.size W.heap.size (Lib.byteCells (jrnL 0 l)) w) (hw : W.heap.size ≤ w.heap.size) => Tryd.Builder_String_any W.heap.size W.heap.size (jrnL 0 l) w h hw
      have HYES := Lib.hid (fun (h : (jrnL 0 l).length ≤ 6000) => (show JournalOf_f l = (⟨(jrnL 0 l).toArray⟩, true) from if_pos ⟨HNL.out, h⟩))
      clear hr HC HD
      generalize hJ : jrnL 0 l = J at *
      clear hJ
      generalize hJn : J.length = k at *
      have HK := Lib.hid hJn
      clear hJn
      by_cases hbig : 6000 < k
      · have hbig' : (6000 : Int) < (k : Int) := by omega
        have HF := Lib.hid (HBL.out (by omega))
        go_wp2_with fail
        refine (HLEN _ HB.out).mono ?_
        rintro e w1 ⟨rfl, hw⟩
        obtain rfl := hw.symm
        have HBX := hb
        go_wp2
        exact bodyPost_ret (v := .tuple #[.string ByteArray.empty, .bool false]) (by simp [results, Tryd.results11, go_sem]; rfl) rfl ⟨by rw [HF.out], HBX⟩
      · have hbig' : ¬ (6000 : Int) < (k : Int) := by omega
        have HF := Lib.hid (HYES.out (by omega))
        go_wp2_with fail
        refine (HLEN _ HB.out).mono ?_
        rintro e w1 ⟨rfl, hw⟩
        obtain rfl := hw.symm
        go_wp2_with fail
        refine (HSTR _ HB.out hbs).mono ?_
        rintro e w2 ⟨rfl, hb2⟩
        have HBX := hb.trans hb2
        go_wp2
        exact bodyPost_ret (v := .tuple #[.string ⟨J.toArray⟩, .bool true]) (by simp [results, Tryd.results11, go_sem]) rfl ⟨by rw [HF.out], HBX⟩
    · obtain ⟨x, hx⟩ := get_lt (l := l) (k := j) (by rw [HN.out]; exact hlt)
      obtain ⟨b, off, hA, hbl, c0⟩ := strs_at2 hr hb (Nat.le_refl _) hx
      subst hA
      have hlt' : (j : Int) < (n : Int) := by omega
      have hxm := Lib.hid (List.mem_of_getElem? hx)
      have hxz := HZ.out x hxm.out
      have hsn := Lib.hid (show jrnL 0 (l.take (j + 1)) = jrnL 0 (l.take j) ++ jline (chkA 0 (l.take j)) x from by rw [List.take_add_one, hx]; exact jrnL_snoc x _ 0)
      have hcn := Lib.hid (show chkA 0 (l.take (j + 1)) = check (chkA 0 (l.take j)) x.data.toList from by rw [List.take_add_one, hx]; exact chkA_snoc 0 _ x)
      have hnl := Lib.hid (fun (h : (10 : UInt8) ∉ x.data.toList) => (show ∀ y ∈ l.take (j + 1), (10 : UInt8) ∉ y.data.toList from by
        intro y hy
        rw [List.take_add_one, hx] at hy
        rcases List.mem_append.1 hy with hy | hy
        · exact HNL.out y hy
        · simp at hy; subst hy; exact h))
      have hbg := Lib.hid (fun h => JournalOf_big hx h)
      clear hr hx
      by_cases hbig : 6000 < x.size
      · have hbig' : (6000 : Int) < (x.size : Int) := by omega
        have HF := Lib.hid (hbg.out hbig)
        have HBX := hb
        clear HLEN HC HD
        go_wp2
        exact bodyPost_ret (v := .tuple #[.string ByteArray.empty, .bool false]) (by simp [results, Tryd.results11, go_sem]; rfl) rfl ⟨by rw [HF.out], HBX⟩
      have hbig' : ¬ (6000 : Int) < (x.size : Int) := by omega
      have HCT := fun (w : World) => Tryd.strings_Contains_one x 10 w
      rcases mem_split 10 x.data.toList with hno | ⟨p1, p2, hp, hp1⟩
      rotate_left
      · have HF := Lib.hid (JournalOf_nl hxm.out (by rw [hp]; simp))
        rw [hp, idx_at hp1] at HCT
        have hd : decide (0 ≤ (p1.length : Int)) = true := by simp
        rw [hd] at HCT
        have HBX := hb
        clear HLEN HC HD hp
        go_wp2_with fail
        refine (HCT _).mono ?_
        rintro e w1 ⟨rfl, hw⟩
        obtain rfl := hw.symm
        go_wp2
        exact bodyPost_ret (v := .tuple #[.string ByteArray.empty, .bool false]) (by simp [results, Tryd.results11, go_sem]; rfl) rfl ⟨by rw [HF.out], HBX⟩
      rw [idx_no hno] at HCT
      have hd : decide (0 ≤ (-1 : Int)) = false := by decide
      rw [hd] at HCT
      clear hd
      replace hno := Lib.hid hno
      generalize hP : jrnL 0 (l.take j) = P at *
      clear hP
      generalize hk : P.length = k at *
      have HK := Lib.hid hk
      clear hk
      by_cases hbig2 : 6000 < k
      · have hbig2' : (6000 : Int) < (k : Int) := by omega
        have HF := Lib.hid (HBL.out hbig2)
        have HBX := hb
        clear HC HD
        go_wp2_with fail
        refine (HCT _).mono ?_
        rintro e w1 ⟨rfl, hw⟩
        obtain rfl := hw.symm
        go_wp2_with fail
        refine (HLEN _ HB.out).mono ?_
        rintro e w2 ⟨rfl, hw⟩
        obtain rfl := hw.symm
        go_wp2
        exact bodyPost_ret (v := .tuple #[.string ByteArray.empty, .bool false]) (by simp [results, Tryd.results11, go_sem]; rfl) rfl ⟨by rw [HF.out], HBX⟩
      have hbig2' : ¬ (6000 : Int) < (k : Int) := by omega
      generalize hcc : chkA 0 (l.take j) = cc at *
      clear hcc
      have HCH := HC cc hcb.1 hcb.2 x (by omega)
      have hnb := check_bd x.data.toList cc hcb.1 hcb.2
      have HJB := Lib.hid (jline_ba cc x)
      have HDN := HD (check cc x.data.toList) hnb.1 hnb.2
      have hdz := dec_size (check cc x.data.toList) (by omega) (by omega)
      generalize check cc x.data.toList = nx at *
      have h32 : (⟨#[32]⟩ : ByteArray).size = 1 := rfl
      have h10 : (⟨#[10]⟩ : ByteArray).size = 1 := rfl
      have hlz : (dec nx ++ (⟨#[32]⟩ : ByteArray) ++ x ++ (⟨#[10]⟩ : ByteArray)).size ≤ 6023 := by simp only [ByteArray.size_append]; omega
      have HWS := fun (w : World) (h : Lib.IsBuilder 64 5 W.heap.size W.heap.size (Lib.byteCells P) w) (hw : W.heap.size ≤ w.heap.size) => writeString W.heap.size W.heap.size (Lib.byteCells P) (dec nx ++ (⟨#[32]⟩ : ByteArray) ++ x ++ (⟨#[10]⟩ : ByteArray)) w h (by rw [Lib.byteCells_length, HK.out]; omega) hw
      have HBC := Lib.hid (show Lib.byteCells P ++ Lib.strCells (dec nx ++ (⟨#[32]⟩ : ByteArray) ++ x ++ (⟨#[10]⟩ : ByteArray)) = Lib.byteCells (P ++ jline cc x) from by
        rw [← HJB.out]
        unfold Lib.byteCells Lib.strCells
        rw [List.map_append])
      have hjz : (jline cc x).length ≤ 6023 := by rw [← HJB.out, ba_size]; exact hlz
      clear HC HD HBL hbg HJ0
      go_wp2_with fail
      refine (HCT _).mono ?_
      rintro e w1 ⟨rfl, hw⟩
      obtain rfl := hw.symm
      go_wp2_with fail
      refine (HLEN _ HB.out).mono ?_
      rintro e w2 ⟨rfl, hw⟩
      obtain rfl := hw.symm
      go_wp2_with fail
      refine (HCH _).mono ?_
      rintro e w3 ⟨rfl, rfl⟩
      go_wp2_with fail
      refine (HDN _ hb).mono ?_
      rintro e w4 ⟨rfl, hb4⟩
      have HB4 := Lib.hid (bld_keep HB.out hb4)
      have hbb := below_step hb hb4 hbs
      clear c0
      go_wp2_with fail
      refine (HWS _ HB4.out hbb.size).mono ?_
      rintro e w5 ⟨rfl, h5, hb5⟩
      have HB5 := Lib.hid (show Lib.IsBuilder 64 5 W.heap.size W.heap.size (Lib.byteCells (jrnL 0 (l.take (j + 1)))) w5 from .inr (by rw [hsn.out, ← HBC.out]; exact h5))
      clear h5
      go_wp2_with fail
      go_roundw
      case rel =>
        refine ⟨j + 1, by omega, by rw [hcn.out], by go_num, Lib.hid (hnl.out hno.out), ?_, HB5, hbb.trans hb5⟩
        rw [hsn.out, List.length_append, HK.out]; omega
      case measure => simp [intOf]; omega
theorem jrnL_up : ∀ (l : List ByteArray) (c : Int), 0 ≤ c → c ≤ 65128 → (jrnL c l).length ≤ jsum l + 20 * l.length := by
  intro l
  induction l with
  | nil => intro c _ _; simp [jrnL]
  | cons x r ih =>
    intro c h0 h1
    have hb := check_bd x.data.toList c h0 h1
    have h2 := ih (check c x.data.toList) hb.1 hb.2
    have h3 := dec_size (check c x.data.toList) (by omega) (by omega)
    rw [← ba_size] at h3
    have h4 : (Lib.itoa (check c x.data.toList)).length ≤ 21 := h3
    unfold jsum at *
    rw [jrnL, List.length_append, List.map_cons, List.sum_cons, List.length_cons]
    unfold jline
    simp only [List.length_append, List.length_cons, List.length_nil, ba_size]
    omega
theorem jsum_take (l : List ByteArray) (j : Nat) : jsum (l.take j) ≤ jsum l := by
  unfold jsum
  have := sum_le (fun x : ByteArray => x.size + 3) l j
  exact this
theorem jsum_len (l : List ByteArray) : 3 * l.length ≤ jsum l := by
  induction l with
  | nil => simp
  | cons x r ih => unfold jsum at *; rw [List.map_cons, List.sum_cons, List.length_cons]; omega
theorem jsum_mem {l : List ByteArray} {x : ByteArray} (h : x ∈ l) : x.size + 3 ≤ jsum l := mem_sum (fun x : ByteArray => x.size + 3) h
set_option maxHeartbeats 3200000 in
set_option maxRecDepth 100000 in
theorem spec_l11Journal (l : List ByteArray) (A : Option Addr) (c : Nat) (W : World) (hr : Ro W (Lo W.heap.size) (strs l) (.slice A l.length c)) (hs : jsum l ≤ 6000) :
    Calls Tryd.prog 35 #[.slice A l.length c] W fun e w' => e = .returned (.string ⟨(jrnL 0 l).toArray⟩) ∧ Below W.heap.size W w' := by
  have HD := fun (n : Int) (h0 : 0 ≤ n) (h1 : n ≤ 65128) (w : World) => spec_l01Dec n (by omega) (by omega) w
  have HC := fun (n : Int) (h0 : 0 ≤ n) (h1 : n ≤ 65128) (x : ByteArray) (hx : x.size ≤ 6000) (w : World) => spec_l01Check n x w h0 h1 (by simp only [maxLen]; omega)
  have HZ := Lib.hid (fun x (hx : x ∈ l) => (show x.size ≤ 6000 from by have := jsum_mem hx; omega))
  have HUP := fun j => Lib.hid (show (jrnL 0 (l.take j)).length ≤ 46000 from by
    have h1 := jrnL_up (l.take j) 0 (by decide) (by decide)
    have h2 := jsum_take l j
    have h3 := jsum_len l
    have h4 : (l.take j).length ≤ l.length := by simp; omega
    omega)
  have hlen := jsum_len l
  generalize hn : l.length = n at *
  have HN := Lib.hid hn
  clear hn
  have hn2 : n ≤ 2000 := by omega
  clear hs hlen
  go_enter Tryd.func35, Tryd.ntmps35
  go_wp2
  go_loopw [3, 4, 5] (fun v3 v4 v5 wr => ∃ (j : Nat) (o : ByteArray), j ≤ n ∧ v3 = .string o ∧ v4 = .int .i64 (chkA 0 (l.take j)) ∧ v5 = .int .i64 j ∧ Hid (o.data.toList = jrnL 0 (l.take j)) ∧ Below W.heap.size W wr) (fun _ _ v5 _ => n - (intOf v5).toNat)
  case atStart => exact ⟨0, ByteArray.empty, by omega, rfl, rfl, rfl, Lib.hid rfl, Below.refl _ _⟩
  case round =>
    obtain ⟨j, o, hj, rfl, rfl, rfl, HO, hb⟩ := hrel
    have hcb := chkA_bd (l.take j) 0 (by decide) (by decide)
    have hbs := hb.size
    by_cases hlt : j < n
    rotate_left
    · obtain rfl : j = n := by omega
      have HE := Lib.hid (show o = ⟨(jrnL 0 l).toArray⟩ from by
        apply ba_ext
        rw [HO.out, List.take_of_length_le (by rw [HN.out]; exact Nat.le_refl _)])
      clear hr HC HD
      go_wp2
      go_ret
      exact ⟨by rw [← HE.out]; rfl, hb⟩
    · obtain ⟨x, hx⟩ := get_lt (l := l) (k := j) (by rw [HN.out]; exact hlt)
      obtain ⟨b, off, hA, hbl, c0⟩ := strs_at2 hr hb (Nat.le_refl _) hx
      subst hA
      have hlt' : (j : Int) < (n : Int) := by omega
      have hxz := HZ.out x (List.mem_of_getElem? hx)
      have hsn := Lib.hid (show jrnL 0 (l.take (j + 1)) = jrnL 0 (l.take j) ++ jline (chkA 0 (l.take j)) x from by rw [List.take_add_one, hx]; exact jrnL_snoc x _ 0)
      have hcn := Lib.hid (show chkA 0 (l.take (j + 1)) = check (chkA 0 (l.take j)) x.data.toList from by rw [List.take_add_one, hx]; exact chkA_snoc 0 _ x)
      have hoz : o.size ≤ 46000 := by rw [← ba_size, HO.out]; exact (HUP j).out
      clear hr hx
      generalize hcc : chkA 0 (l.take j) = cc at *
      clear hcc
      have HCH := HC cc hcb.1 hcb.2 x hxz
      have hnb := check_bd x.data.toList cc hcb.1 hcb.2
      have HJB := Lib.hid (jline_ba cc x)
      have HDN := HD (check cc x.data.toList) hnb.1 hnb.2
      have hdz := dec_size (check cc x.data.toList) (by omega) (by omega)
      generalize check cc x.data.toList = nx at *
      have h32 : (⟨#[32]⟩ : ByteArray).size = 1 := rfl
      have h10 : (⟨#[10]⟩ : ByteArray).size = 1 := rfl
      have s1 := str_add (P := Tryd.prog) (dec nx) ⟨#[32]⟩ (by omega)
      have s2 := str_add (P := Tryd.prog) (dec nx ++ ⟨#[32]⟩) x (by simp only [ByteArray.size_append]; omega)
      have s3 := str_add (P := Tryd.prog) (dec nx ++ ⟨#[32]⟩ ++ x) ⟨#[10]⟩ (by simp only [ByteArray.size_append]; omega)
      have s4 := str_add (P := Tryd.prog) o (dec nx ++ ⟨#[32]⟩ ++ x ++ ⟨#[10]⟩) (by simp only [ByteArray.size_append]; omega)
      have HO2 := Lib.hid (show (o ++ (dec nx ++ (⟨#[32]⟩ : ByteArray) ++ x ++ (⟨#[10]⟩ : ByteArray))).data.toList = jrnL 0 (l.take (j + 1)) from by
        rw [ByteArray.data_append, Array.toList_append, HJB.out, HO.out, hsn.out])
      have hbr : b < wr.heap.size := Nat.lt_of_lt_of_le hbl hbs
      clear HC HD HUP
      go_wp2_with fail
      refine (HCH _).mono ?_
      rintro e w1 ⟨rfl, rfl⟩
      go_wp2_with fail
      have hxx := (After.cells wr.heap.size wr).1
      refine wp_region_after (wr.heap.size) (by kernel_rfl) (by kernel_rfl) ?_; (repeat (go_big_quiet_step ((go_at_call 44; with_reducible exact Calls.after (Nat.le_refl _) (HDN _))))); refine wpQuiet_nil ?_; intro w4 hb4
      clear hxx c0
      go_wp2
      go_roundw
      case rel => exact ⟨j + 1, _, by omega, rfl, by rw [hcn.out], by go_num, HO2, hb.trans (hb4.mono hbs)⟩
      case measure => simp [intOf]; omega
/-- Up to here a line has no newline. -/
def NoNl (x : ByteArray) (j : Nat) : Prop := (10 : UInt8) ∉ x.data.toList.take j
theorem NoNl.go {x : ByteArray} {j : Nat} (h : NoNl x j) (hj : j < x.size) (hb : x[j] ≠ 10) : NoNl x (j + 1) := by
  unfold NoNl at h ⊢
  rw [List.take_succ_eq_append_getElem (by rw [ba_size]; exact hj), List.mem_append]
  intro hc
  rcases hc with hc | hc
  · exact h hc
  · simp at hc; exact hb hc.symm
theorem NoNl.all {x : ByteArray} (h : NoNl x x.size) : (10 : UInt8) ∉ x.data.toList := by
  unfold NoNl at h
  rwa [List.take_of_length_le (by rw [ba_size]; exact Nat.le_refl _)] at h
theorem nl_mem {x : ByteArray} {j : Nat} (hj : j < x.size) (h : x[j] = 10) : (10 : UInt8) ∈ x.data.toList := by
  rw [← h]
  show x.data[j] ∈ x.data.toList
  exact Array.getElem_mem_toList hj
set_option maxHeartbeats 3200000 in
set_option maxRecDepth 100000 in
theorem spec_JournalOf (l : List ByteArray) (A : Option Addr) (c : Nat) (W : World) (hr : Ro W (Lo W.heap.size) (strs l) (.slice A l.length c)) (hl : l.length ≤ 1048576) (hz : ∀ x ∈ l, x.size ≤ 1048576) :
    Calls Tryd.prog 9 #[.slice A l.length c] W fun e w' => e = .returned (.tuple #[.string (JournalOf_f l).1, .bool (JournalOf_f l).2]) ∧ Below W.heap.size W w' := by
  have HJ := Lib.hid (fun (hs : jsum l ≤ 6000) (w : World) (hb : Below W.heap.size W w) => spec_l11Journal l A c w (ro_to hr hb) hs)
  have HZ := Lib.hid hz
  have HJL := Lib.hid (fun h => JournalOf_long (l := l) (j := l.length) h)
  have HYES := Lib.hid (fun (hnl : ∀ x ∈ l, (10 : UInt8) ∉ x.data.toList) (h : (jrnL 0 l).length ≤ 6000) => (show JournalOf_f l = (⟨(jrnL 0 l).toArray⟩, true) from if_pos ⟨hnl, h⟩))
  have HUP := Lib.hid (fun (h : jsum l ≤ 6000) => (show (jrnL 0 l).length ≤ 46000 from by
    have h1 := jrnL_up l 0 (by decide) (by decide)
    have h3 := jsum_len l
    omega))
  rw [List.take_of_length_le (Nat.le_refl _)] at HJL
  clear hz
  generalize hn : l.length = n at *
  have HN := Lib.hid hn
  clear hn
  go_enter Tryd.func9, Tryd.ntmps9
  go_wp2
  go_loopw [4, 5] (fun v4 v5 wr => ∃ (j m : Nat), j ≤ n ∧ v4 = .int .i64 m ∧ v5 = .int .i64 j ∧ m ≤ 6000 ∧ Hid (m = jsum (l.take j)) ∧ Hid (∀ x ∈ l.take j, (10 : UInt8) ∉ x.data.toList) ∧ W = wr) (fun _ v5 _ => n - (intOf v5).toNat)
  case atStart => exact ⟨0, 0, by omega, rfl, rfl, by omega, Lib.hid rfl, Lib.hid (by simp), rfl⟩
  case round =>
    obtain ⟨j, m, hj, rfl, rfl, hm, HM, HNL, rfl⟩ := hrel
    by_cases hlt : j < n
    rotate_left
    · obtain rfl : j = n := by omega
      have HE : l.take j = l := List.take_of_length_le (by rw [HN.out]; exact Nat.le_refl _)
      rw [HE] at HM HNL
      clear HE
      have HJ2 := HJ.out (by have := HM.out; omega)
      have hup := HUP.out (by have := HM.out; omega)
      have HY2 := Lib.hid (HYES.out HNL.out)
      clear hr HJ HYES HUP HNL
      generalize jrnL 0 l = J at *
      have hsz : (⟨J.toArray⟩ : ByteArray).size = J.length := by rw [← ba_size]
      by_cases hbig : 6000 < J.length
      · have HF := Lib.hid (HJL.out hbig)
        generalize (⟨J.toArray⟩ : ByteArray) = y at *
        have hbig' : (6000 : Int) < (y.size : Int) := by omega
        clear hsz
        go_wp2_with fail
        refine (HJ2 _ (Below.refl _ _)).mono ?_
        rintro e w1 ⟨rfl, HBX⟩
        go_wp2
        exact bodyPost_ret (v := .tuple #[.string ByteArray.empty, .bool false]) (by simp [results, Tryd.results9, go_sem]; rfl) rfl ⟨by rw [HF.out], HBX⟩
      · have HF := Lib.hid (HY2.out (by omega))
        generalize (⟨J.toArray⟩ : ByteArray) = y at *
        have hbig' : ¬ (6000 : Int) < (y.size : Int) := by omega
        have hy : y.size ≤ 46000 := by omega
        clear hsz
        go_wp2_with fail
        refine (HJ2 _ (Below.refl _ _)).mono ?_
        rintro e w1 ⟨rfl, HBX⟩
        go_wp2
        exact bodyPost_ret (v := .tuple #[.string y, .bool true]) (by simp [results, Tryd.results9, go_sem]) rfl ⟨by rw [HF.out], HBX⟩
    · obtain ⟨x, hx⟩ := get_lt (l := l) (k := j) (by rw [HN.out]; exact hlt)
      obtain ⟨b, off, hA, hbl, c0⟩ := strs_at2 hr (Below.refl W.heap.size W) (Nat.le_refl _) hx
      subst hA
      have hlt' : (j : Int) < (n : Int) := by omega
      have hxm := Lib.hid (List.mem_of_getElem? hx)
      have hxz := HZ.out x hxm.out
      have hsum := Lib.hid (jsum_snoc hx)
      have hnl := Lib.hid (fun (h : (10 : UInt8) ∉ x.data.toList) => (show ∀ y ∈ l.take (j + 1), (10 : UInt8) ∉ y.data.toList from by
        intro y hy
        rw [List.take_add_one, hx] at hy
        rcases List.mem_append.1 hy with hy | hy
        · exact HNL.out y hy
        · simp at hy; subst hy; exact h))
      clear hr hx HJ HYES HUP
      have HBX := Below.refl W.heap.size W
      by_cases hbig : 6000 < m + (x.size + 3)
      · have hbig' : (6000 : Int) < (m : Int) + ((x.size : Int) + 3) := by omega
        have HF := Lib.hid (JournalOf_sum (l := l) (j := j + 1) (by rw [hsum.out, ← HM.out]; exact hbig))
        go_wp2
        exact bodyPost_ret (v := .tuple #[.string ByteArray.empty, .bool false]) (by simp [results, Tryd.results9, go_sem]; rfl) rfl ⟨by rw [HF.out], HBX⟩
      have hbig' : ¬ (6000 : Int) < (m : Int) + ((x.size : Int) + 3) := by omega
      have hxz' : (x.size : Int) ≤ 6000 := by omega
      go_wp2_with fail
      go_loop [6] (fun v6 => ∃ k : Nat, k ≤ x.size ∧ v6 = .int .i64 k ∧ Hid (NoNl x k)) (fun v6 => x.size - (intOf v6).toNat)
      case atStart => exact ⟨0, by omega, rfl, Lib.hid (by unfold NoNl; simp)⟩
      case round =>
        obtain ⟨k, hk, rfl, HB⟩ := hrel
        rcases Nat.lt_or_ge k x.size with hkl | hkg
        · have hkl' : (k : Int) < (x.size : Int) := by omega
          have hb : x[k].toNat < 256 := x[k].toNat_lt
          by_cases h10 : x[k] = 10
          · have hB : ((x[k].toNat : Int) == 10) = true := by rw [h10]; rfl
            have HF := Lib.hid (JournalOf_nl hxm.out (nl_mem hkl h10))
            clear h10
            go_wp2
            exact bodyPost_ret (v := .tuple #[.string ByteArray.empty, .bool false]) (by simp [results, Tryd.results9, go_sem]; rfl) rfl ⟨by rw [HF.out], HBX⟩
          · have hB : ((x[k].toNat : Int) == 10) = false := by
              simp
              intro h
              exact h10 (UInt8.toNat_inj.1 (by show _ = 10; omega))
            have HB2 := Lib.hid (HB.out.go hkl h10)
            clear h10
            go_wp2
            go_round
            case rel => exact ⟨k + 1, by omega, by go_num, HB2⟩
            case measure => simp [intOf]; omega
        · obtain rfl : k = x.size := by omega
          go_wp2
          go_roundw
          case rel => exact ⟨j + 1, m + (x.size + 3), by omega, by go_num, by go_num, by omega, Lib.hid (by rw [hsum.out, ← HM.out]), Lib.hid (hnl.out HB.out.all), by first | trivial | rfl⟩
          case measure => simp [intOf]; omega
theorem strz_mem {l : List ByteArray} (hz : strz l ≤ 1048576) : l.length ≤ 1048576 ∧ ∀ x ∈ l, x.size ≤ 1048576 := by
  unfold strz at hz
  exact ⟨by omega, fun x hx => by have := mem_sum (fun y : ByteArray => y.size) hx; omega⟩
theorem JournalOf_lawI (l : List ByteArray) (A : Option Addr) (c : Nat) (W : World) (ht : Pow10 W) (hr : Ro W (Lo W.heap.size) (strs l) (.slice A l.length c)) (hz : strz l ≤ 1048576) :
    Calls Tryd.prog 11 #[.slice A l.length c] W fun e w' => e = .returned (.tuple #[.string (JournalOf_f l).1, .bool (JournalOf_f l).2]) ∧ Below W.heap.size W w' :=
  impl_JournalOf l A c W ht hr (strz_mem hz).1 (strz_mem hz).2
theorem JournalOf_lawS (l : List ByteArray) (A : Option Addr) (c : Nat) (W : World) (hr : Ro W (Lo W.heap.size) (strs l) (.slice A l.length c)) (hz : strz l ≤ 1048576) :
    Calls Tryd.prog 9 #[.slice A l.length c] W fun e w' => e = .returned (.tuple #[.string (JournalOf_f l).1, .bool (JournalOf_f l).2]) ∧ Below W.heap.size W w' :=
  spec_JournalOf l A c W hr (strz_mem hz).1 (strz_mem hz).2
end Go.Proofs.YtahbgkabdongnaaDoor

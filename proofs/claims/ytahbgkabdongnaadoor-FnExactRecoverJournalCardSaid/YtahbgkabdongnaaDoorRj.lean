/- RecoverJournal, by both. -/
import Derived.Test.YtahbgkabdongnaaDoorCut
import Derived.Test.YtahbgkabdongnaaDoorStrs
namespace Go.Proofs.YtahbgkabdongnaaDoor
open Go.ChangeShapes Go.WideShapes Go.ChangeAt Go.RowKit Go.Dt
set_option linter.unusedVariables false
set_option linter.unusedSimpArgs false
/-- What a line of a journal tells behind a check number. -/
def rjStep (c : Int) (a : List UInt8) : Option (List UInt8 × Int) :=
  if Lib.indexByte a 32 < 0 then none
  else
    let ln := a.drop ((Lib.indexByte a 32).toNat + 1)
    if a.take (Lib.indexByte a 32).toNat = Lib.itoa (check c ln) then some (ln, check c ln) else none
def rjF (c : Int) : List (List UInt8) → List (List UInt8) × Nat
  | [] => ([], 0)
  | a :: r => match rjStep c a with
    | none => ([], 0)
    | some (ln, n) => (ln :: (rjF n r).1, (a.length + 1) + (rjF n r).2)
theorem rjStep_no {c : Int} {a : List UInt8} (h : (32 : UInt8) ∉ a) : rjStep c a = none := by
  unfold rjStep; rw [idx_no h]; rfl
theorem rjStep_at {c : Int} {p ln : List UInt8} (h : (32 : UInt8) ∉ p) : rjStep c (p ++ 32 :: ln) = if p = Lib.itoa (check c ln) then some (ln, check c ln) else none := by
  unfold rjStep
  rw [idx_at h, if_neg (by omega)]
  have e1 : (p ++ 32 :: ln).drop ((p.length : Int).toNat + 1) = ln := by
    rw [Int.toNat_natCast, show p ++ 32 :: ln = (p ++ [32]) ++ ln by simp, List.drop_left' (by simp)]
  have e2 : (p ++ 32 :: ln).take (p.length : Int).toNat = p := by rw [Int.toNat_natCast]; simp
  simp only [e1, e2]
def RecoverJournal_f (s : ByteArray) : List ByteArray × Int × Bool :=
  if s.size ≤ 6000 then (((rjF 0 (segs s.data.toList)).1.map fun l => ⟨l.toArray⟩), ((rjF 0 (segs s.data.toList)).2 : Int), true) else ([], 0, false)
def RjSt (s : ByteArray) (p : Nat) (c : Int) (o : List ByteArray) : Prop :=
  rjF 0 (segs s.data.toList) = (bl o ++ (rjF c (segs (s.data.toList.drop p))).1, p + (rjF c (segs (s.data.toList.drop p))).2)
theorem RjSt.start (s : ByteArray) : RjSt s 0 0 [] := by unfold RjSt; simp [bl]
theorem RjSt.stop {s : ByteArray} {p : Nat} {c : Int} {o : List ByteArray} (h : RjSt s p c o) (hs : s.size ≤ 6000) (h0 : rjF c (segs (s.data.toList.drop p)) = ([], 0)) : RecoverJournal_f s = (o, (p : Int), true) := by
  unfold RjSt at h
  rw [h0] at h
  unfold RecoverJournal_f
  rw [if_pos hs, h]
  simp only [List.append_nil, Nat.add_zero]
  rw [← bl_back rfl]
theorem rj_none {s : ByteArray} {p : Nat} {c : Int} (h : (10 : UInt8) ∉ s.data.toList.drop p) : rjF c (segs (s.data.toList.drop p)) = ([], 0) := by rw [segs_no h]; rfl
theorem rj_bad {s : ByteArray} {p : Nat} {c : Int} {a b : List UInt8} (h : s.data.toList.drop p = a ++ 10 :: b) (ha : (10 : UInt8) ∉ a) (hs : rjStep c a = none) : rjF c (segs (s.data.toList.drop p)) = ([], 0) := by
  rw [h, segs_at ha]
  unfold rjF
  rw [hs]
theorem RjSt.next {s : ByteArray} {p : Nat} {c n : Int} {o : List ByteArray} {a b ln : List UInt8} {x : ByteArray} (h : RjSt s p c o) (hd : s.data.toList.drop p = a ++ 10 :: b) (ha : (10 : UInt8) ∉ a) (hs : rjStep c a = some (ln, n)) (hx : x.data.toList = ln) : RjSt s (p + (a.length + 1)) n (o ++ [x]) := by
  unfold RjSt at h ⊢
  have hb : s.data.toList.drop (p + (a.length + 1)) = b := by
    rw [← List.drop_drop, hd]
    simp
  rw [hb]
  rw [h, hd, segs_at ha]
  have e : rjF c (a :: segs b) = (ln :: (rjF n (segs b)).1, (a.length + 1) + (rjF n (segs b)).2) := by
    conv => lhs; unfold rjF
    rw [hs]
  rw [e]
  unfold bl
  simp only [List.map_append, List.map_cons, List.map_nil, hx, List.append_assoc, List.cons_append, List.nil_append, Nat.add_assoc]
def MadeRJ (W : World) (r : List ByteArray × Int × Bool) (e : Ending) (w' : World) : Prop := ∃ A c F, e = .returned (.tuple #[.slice A r.1.length c, .int .i64 r.2.1, .bool r.2.2]) ∧ Ow w' (strs r.1) (.slice A r.1.length c) F ∧ (∀ b, F b → W.heap.size ≤ b) ∧ Below W.heap.size W w'
theorem madeRJ_st {R : Nat → Prop} {W w : World} {ps : List Pt} {r : List ByteArray × Int × Bool} {A : Option Addr} {q c : Nat} {o : List ByteArray} {p : Int} (H : St (Lo W.heap.size) R W w ps) (ha : At (.ow (strs o) (.slice A q c)) ps) (hr : r = (o, p, true)) : MadeRJ W r (.returned (.tuple #[.slice A q c, .int .i64 p, .bool true])) w := by
  subst hr
  obtain rfl := St.lenS H ha
  obtain ⟨F, h1, h2⟩ := H.own ha
  exact ⟨A, c, F, rfl, h1, fun b hb => Nat.le_of_not_lt (h2 b hb), H.belowW⟩
theorem madeRJ_no {W w : World} {r : List ByteArray × Int × Bool} (hB : Below W.heap.size W w) (hr : r = ([], 0, false)) : MadeRJ W r (.returned (.tuple #[.slice none 0 0, .int .i64 0, .bool false])) w := by
  subst hr
  exact ⟨none, 0, fun _ => False, rfl, .emp _ _ _ _ (fun _ h => h), fun b h => h.elim, hB⟩
theorem ba_cat {s1 s2 : ByteArray} : (s1 ++ s2).data.toList = s1.data.toList ++ s2.data.toList := by rw [ByteArray.data_append, Array.toList_append]
theorem drop_parts {s : ByteArray} {p : Nat} {a b : List UInt8} (h : s.data.toList.drop p = a ++ 10 :: b) (hp : p ≤ s.size) : s.size = p + a.length + 1 + b.length := by
  have := congrArg List.length h
  rw [List.length_drop, ba_size] at this
  simp at this
  omega
theorem seg_data {s : ByteArray} {p : Nat} {a b : List UInt8} (h : s.data.toList.drop p = a ++ 10 :: b) : (s.extract p (p + a.length)).data.toList = a := by
  rw [ba_extract, h, Nat.add_sub_cancel_left]
  simp
set_option maxHeartbeats 3200000 in
set_option maxRecDepth 100000 in
theorem impl_RecoverJournal (s : ByteArray) (W : World) (ht : Pow10 W) (hs0 : s.size ≤ maxLen) :
    Calls Tryd.prog 14 #[.string s] W (MadeRJ W (RecoverJournal_f s)) := by
  rcases Nat.lt_or_ge 6000 s.size with hgt | hle
  · have HF := Lib.hid (show RecoverJournal_f s = ([], 0, false) from if_neg (by omega))
    have hgt' : (6000 : Int) < (s.size : Int) := by omega
    simp only [maxLen] at hs0
    clear ht
    go_enter Tryd.func14, Tryd.ntmps14
    go_wp2
    exact bodyPost_ret (v := .tuple #[.slice none 0 0, .int .i64 0, .bool false]) (by simp [results, Tryd.results14, go_sem]) rfl (madeRJ_no (Below.refl _ _) HF.out)
  have hle' : (s.size : Int) ≤ 6000 := by omega
  have hngt : ¬ (6000 : Int) < (s.size : Int) := by omega
  have H := St.start W
  have HD := fun (n : Int) (h0 : 0 ≤ n) (h1 : n ≤ 65128) (w : World) (hb : Below W.heap.size W w) => impl_Decimal n (by omega) (by omega) w (ht.on hb)
  have HC := fun (n : Int) (h0 : 0 ≤ n) (h1 : n ≤ 65128) (x : ByteArray) (hx : x.size ≤ 6000) (w : World) => impl_CheckOf n x w h0 h1 (by simp only [maxLen]; omega)
  have HI := fun (x : ByteArray) (w : World) => Tryd.strings_IndexByte x 10 w
  clear ht hs0 hle
  go_enter Tryd.func14, Tryd.ntmps14
  go_wp2
  go_loopw [5, 6, 7] (fun v5 v6 v7 wr => ∃ (p : Nat) (c : Int) (A9 : Option Addr) (q c9 : Nat) (o : List ByteArray), p ≤ s.size ∧ q ≤ p ∧ 0 ≤ c ∧ c ≤ 65128 ∧ v5 = .slice A9 q c9 ∧ v6 = .int .i64 p ∧ v7 = .int .i64 c ∧ Hid (RjSt s p c o) ∧ St (Lo W.heap.size) (Lo W.heap.size) W wr [.ow (strs o) (.slice A9 q c9)]) (fun _ v6 _ _ => s.size - (intOf v6).toNat)
  case atStart =>
    refine ⟨0, 0, some ⟨W.heap.size, 0, none⟩, 0, 0, [], by omega, by omega, by omega, by omega, rfl, rfl, rfl, Lib.hid (RjSt.start s), ?_⟩
    exact (H.junk (.cells #[] 9)).nilow 9 1 (some ⟨W.heap.size, 0, none⟩)
  case round =>
    obtain ⟨p, c, A9, q, c9, o, hp, hqi, hc0, hc1, rfl, rfl, rfl, HS, H⟩ := hrel
    have hp' : (p : Int) ≤ (s.size : Int) := by omega
    have hbd := check_bd
    have HX := HI (s.extract p s.size)
    have hxd : (s.extract p s.size).data.toList = s.data.toList.drop p := by
      rw [ba_extract, List.take_of_length_le (by rw [List.length_drop, ba_size]; exact Nat.le_refl _)]
    rw [hxd] at HX
    clear hxd HI
    rcases mem_split 10 (s.data.toList.drop p) with hno | ⟨a, b, hd, ha⟩
    · have HR := Lib.hid (HS.out.stop (by omega) (rj_none hno))
      rw [show (10 : Int).toNat.toUInt8 = 10 from rfl, idx_no hno] at HX
      clear hno
      (try clear hq); have hq := H.facts; simp only [factsOf, Pt.facts, CellsAt, Nat.add_zero, Nat.zero_add, Nat.reduceAdd, and_true, true_and, List.set_cons_zero, List.set_cons_succ] at hq
      go_wp2_with fail
      refine (HX _).mono ?_
      rintro e w1 ⟨rfl, hw⟩
      obtain rfl := hw.symm
      go_wp2
      exact bodyPost_ret (v := .tuple #[.slice A9 q c9, .int .i64 p, .bool true]) (by simp [results, Tryd.results14, go_sem]) rfl (madeRJ_st H (by repeat (first | with_reducible_and_instances exact .here | with_reducible refine .there ?_)) HR.out)
    · have hps := drop_parts hd hp
      have hseg := seg_data hd
      rw [show (10 : Int).toNat.toUInt8 = 10 from rfl, hd, idx_at ha] at HX
      have HNX := Lib.hid (fun (n : Int) (ln : List UInt8) (x : ByteArray) (h1 : rjStep c a = some (ln, n)) (h2 : x.data.toList = ln) => HS.out.next hd ha h1 h2)
      have HBD := Lib.hid (fun (h : rjStep c a = none) => HS.out.stop (by omega) (rj_bad hd ha h))
      clear HS hd
      have hpa : (p : Int) + (a.length : Int) < (s.size : Int) := by omega
      have hsz : (s.extract p (p + a.length)).size = a.length := by rw [← ba_size, hseg]
      generalize hk : a.length = k at *
      have HK := Lib.hid hk
      clear hps hk
      rcases mem_split 32 a with hno | ⟨p1, ln, rfl, hp1⟩
      · have HR := Lib.hid (HBD.out (rjStep_no hno))
        have HCUT := fun (w : World) => strings_Cut_no (s := s.extract p (p + k)) (c := 32) (w := w) (by rw [hseg]; exact hno)
        have HCH := HC c hc0 hc1 ByteArray.empty (by decide)
        clear hno hseg HBD HNX HC HD
        generalize check c ByteArray.empty.data.toList = nx at *
        go_wp2_with fail
        refine (HX _).mono ?_
        rintro e w1 ⟨rfl, hw⟩
        obtain rfl := hw.symm
        go_wp2_with fail
        refine (HCUT _).mono ?_
        rintro e w2 ⟨rfl, rfl⟩
        go_wp2_with fail
        refine (HCH _).mono ?_
        rintro e w3 ⟨rfl, rfl⟩
        go_wp2_with fail
        refine wp_region_after (wr.heap.size) (by kernel_rfl) (by kernel_rfl) ?_; (repeat (go_big_quiet_step (fail))); refine wpQuiet_nil ?_; intro w4 hb4
        replace H := H.below hb4
        go_wp2
        exact bodyPost_ret (v := .tuple #[.slice A9 q c9, .int .i64 p, .bool true]) (by simp [results, Tryd.results14, go_sem]) rfl (madeRJ_st H (by repeat (first | with_reducible_and_instances exact .here | with_reducible refine .there ?_)) HR.out)
      · have hlp : k = p1.length + 1 + ln.length := by have := HK.out; simp at this; omega
        have hx1 : ((s.extract p (p + k)).extract (p1.length + 1) (s.extract p (p + k)).size).data.toList = ln := by
          rw [ba_extract, hseg, hsz, show p1 ++ 32 :: ln = (p1 ++ [32]) ++ ln by simp, List.drop_left' (by simp)]
          exact List.take_of_length_le (by omega)
        have HCUT := fun (w : World) => strings_Cut_at (s := s.extract p (p + k)) (c := 32) (w := w) (by rw [hsz]; omega) hseg hp1
        rw [hsz] at HCUT hx1
        have hlz : ((s.extract p (p + k)).extract (p1.length + 1) k).size = ln.length := by rw [← ba_size, hx1]
        have HCH := HC c hc0 hc1 ((s.extract p (p + k)).extract (p1.length + 1) k) (by omega)
        rw [hx1] at HCH
        have hcb := check_bd ln c hc0 hc1
        have HDN := HD (check c ln) hcb.1 hcb.2
        have hdz := dec_size (check c ln) (by omega) (by omega)
        have HST := Lib.hid (rjStep_at (c := c) (ln := ln) hp1)
        have HEQ := Lib.hid (show ((dec (check c ln) ++ (⟨#[32]⟩ : ByteArray) ++ (s.extract p (p + k)).extract (p1.length + 1) k).toList == (s.extract p (p + k)).toList) = decide (p1 = Lib.itoa (check c ln)) from by
          rw [Bool.eq_iff_iff, beq_iff_eq, bytes_inj, decide_eq_true_eq]
          constructor
          · intro h
            have h2 := congrArg (fun x : ByteArray => x.data.toList) h
            simp only [ba_cat, hx1, hseg] at h2
            have h3 : (Lib.itoa (check c ln) ++ [32]) ++ ln = p1 ++ 32 :: ln := h2
            rw [show p1 ++ 32 :: ln = (p1 ++ [32]) ++ ln by simp] at h3
            exact (List.append_cancel_right (List.append_cancel_right h3)).symm
          · intro h
            apply ba_ext
            simp only [ba_cat, hx1, hseg]
            rw [h]
            show Lib.itoa (check c ln) ++ [32] ++ ln = _
            simp)
        have h32 : (⟨#[32]⟩ : ByteArray).size = 1 := rfl
        replace hx1 := Lib.hid hx1
        have s1 := str_add (P := Tryd.prog) (dec (check c ln)) ⟨#[32]⟩ (by omega)
        have s2 := str_add (P := Tryd.prog) (dec (check c ln) ++ ⟨#[32]⟩) ((s.extract p (p + k)).extract (p1.length + 1) k) (by rw [ByteArray.size_append]; omega)
        clear HC HD hseg
        generalize check c ln = nx at *
        generalize (s.extract p (p + k)).extract (p1.length + 1) k = lx at *
        generalize (s.extract p (p + k)).extract 0 p1.length = px at *
        have hlz2 : lx.size ≤ 6000 := by omega
        replace hlp := Lib.hid hlp
        clear hlz hsz
        go_wp2_with fail
        refine (HX _).mono ?_
        rintro e w1 ⟨rfl, hw⟩
        obtain rfl := hw.symm
        go_wp2_with fail
        refine (HCUT _).mono ?_
        rintro e w2 ⟨rfl, hb2⟩
        replace H := H.below hb2
        clear hb2
        go_wp2_with fail
        refine (HCH _).mono ?_
        rintro e w3 ⟨rfl, rfl⟩
        have hsz2 := H.size
        have hw1 : IntKind.i64.wrap ((p : Int) + (k : Int)) = (p : Int) + (k : Int) := IntWalk.i64_in _ (by omega)
        have hw2 : ((p : Int) + (k : Int)).toNat = p + k := by omega
        have hw3 : 0 ≤ (p : Int) + (k : Int) := by omega
        cases hdec : decide (p1 = Lib.itoa nx)
        · rw [hdec] at HEQ
          replace HEQ := HEQ.out
          have hn : ¬ p1 = Lib.itoa nx := by simpa using hdec
          have HR := Lib.hid (HBD.out (by rw [HST.out, if_neg hn]))
          clear HBD HNX HST hdec hn
          go_wp2_with fail
          refine wp_region_after (w2.heap.size) (by kernel_rfl) (by kernel_rfl) ?_; (repeat (go_big_quiet_step ((go_at_call 40; with_reducible exact Calls.after (Nat.le_refl _) (HDN _ (H.belowW.trans ((After.b _).mono H.size))))))); refine wpQuiet_nil ?_; intro w4 hb4
          replace H := H.below hb4
          clear hw1 hw2 hw3
          go_wp2
          exact bodyPost_ret (v := .tuple #[.slice A9 q c9, .int .i64 p, .bool true]) (by simp [results, Tryd.results14, go_sem]) rfl (madeRJ_st H (by repeat (first | with_reducible_and_instances exact .here | with_reducible refine .there ?_)) HR.out)
        · rw [hdec] at HEQ
          replace HEQ := HEQ.out
          have hn : p1 = Lib.itoa nx := by simpa using hdec
          have HN2 := Lib.hid (HNX.out nx ln lx (by rw [HST.out, if_pos hn]) hx1.out)
          clear HBD HNX HST hdec hn
          go_wp2_with fail
          refine wp_region_after (w2.heap.size) (by kernel_rfl) (by kernel_rfl) ?_; (repeat (go_big_quiet_step ((go_at_call 40; with_reducible exact Calls.after (Nat.le_refl _) (HDN _ (H.belowW.trans ((After.b _).mono H.size))))))); refine wpQuiet_nil ?_; intro w4 hb4
          replace H := H.below hb4
          clear hw1 hw2 hw3 HEQ
          have hpk : (p : Int) + (k : Int) + 1 ≤ (s.size : Int) := by omega
          go_wp2_with (at_builtin; refine by_wp rfl fun K hK => wp_append1P_at 0 _ _ 22 9 rfl Tryd.underlying22 (.string ByteArray.empty) 1 16 inf_string rfl (by decide) (by decide) rfl #[.string lx] rfl (by first | rfl | (simp; done)) [.str lx] rfl H rfl (OwL.one (Ow.S _)) (by omega) ?_; intro A9 c9 w1 H; refine hK _ _ ?_; clear hK; simp only [List.set_cons_zero, List.set_cons_succ] at H)
          go_roundw
          case rel =>
            refine ⟨p + (k + 1), nx, A9, q + 1, c9, o ++ [lx], by omega, by omega, hcb.1, hcb.2, rfl, by go_num, rfl, Lib.hid ?_, ?_⟩
            · exact HN2.out
            · rw [← strs_eq]
              apply St.sub' (h := H)
              (repeat (first | exact Pick.nil | with_reducible_and_instances exact Del.here | apply Pick.cons | with_reducible apply Del.there))
          case measure => simp [intOf]; omega
theorem cutL_len (m : UInt8) (l : List UInt8) : (cutL m l).length ≤ l.length + 1 := by
  induction l with
  | nil => simp [cutL]
  | cons c r ih =>
    rw [cutL_cons]
    split
    · simp; omega
    · simp; omega
theorem cutL_size (m : UInt8) (l : List UInt8) : ∀ x ∈ cutL m l, x.length ≤ l.length := by
  induction l with
  | nil => intro x hx; simp [cutL] at hx; subst hx; simp
  | cons c r ih =>
    intro x hx
    rw [cutL_cons] at hx
    split at hx
    · rcases List.mem_cons.1 hx with rfl | hx
      · simp
      · have := ih x hx; simp; omega
    · rcases List.mem_cons.1 hx with rfl | hx
      · have h0 : (cutL m r).headD [] ∈ cutL m r := by
          cases h : cutL m r with
          | nil => exact absurd h (cutL_ne m r)
          | cons y ys => simp
        have := ih _ h0
        rw [List.length_cons, List.length_cons]; omega
      · have := ih x (List.mem_of_mem_tail hx); simp; omega
def segB (s : ByteArray) : List ByteArray := (segs s.data.toList).map fun l => ⟨l.toArray⟩
theorem segB_take (s : ByteArray) : (cutB 10 s).take (segB s).length = segB s := by
  unfold segB cutB segs
  rw [List.length_map, ← List.map_take, List.length_dropLast, ← List.dropLast_eq_take]
theorem cutB_len (s : ByteArray) : (cutB 10 s).length = (segB s).length + 1 := by
  unfold segB cutB segs
  have := List.length_pos_iff.2 (cutL_ne 10 s.data.toList)
  simp only [List.length_map, List.length_dropLast]
  omega
theorem segB_len (s : ByteArray) : (segB s).length ≤ s.size := by
  have h1 := cutB_len s
  have h2 := cutL_len 10 s.data.toList
  have h3 : (cutB 10 s).length = (cutL 10 s.data.toList).length := by unfold cutB; simp
  rw [ba_size] at h2
  omega
theorem segB_size (s : ByteArray) : ∀ x ∈ segB s, x.size ≤ s.size := by
  intro x hx
  unfold segB at hx
  obtain ⟨l, hl, rfl⟩ := List.mem_map.1 hx
  have := cutL_size 10 s.data.toList l (List.dropLast_subset _ hl)
  rw [ba_size] at this
  rw [← ba_size]
  exact this
def LinesB (s : ByteArray) (W : World) (e : Ending) (w' : World) : Prop := ∃ A c x, e = .returned (.tuple #[.slice A (segB s).length c, .string x]) ∧ Ro w' (Lo w'.heap.size) (strs (segB s)) (.slice A (segB s).length c) ∧ Below W.heap.size W w'
set_option maxRecDepth 100000 in
theorem spec_l11Lines (s : ByteArray) (W : World) (hs : s.size ≤ 1048576) : Calls Tryd.prog 42 #[.string s] W (LinesB s W) := by
  have HC := spec_l01Cut s 10 10 (by decide) W hs
  have hl := cutB_len s
  have hn := segB_len s
  have HT := Lib.hid (segB_take s)
  obtain ⟨x, hx⟩ := get_lt (l := cutB 10 s) (k := (segB s).length) (by omega)
  have HX := Lib.hid hx
  clear hx
  go_enter Tryd.func42, Tryd.ntmps42
  go_wp2_with fail
  refine HC.mono ?_
  rintro e w1 ⟨v, F, rfl, hO, hb, hF⟩
  obtain ⟨A, c, rfl, hlc, hm⟩ := hO.shape
  simp only [List.length_map] at hlc hO ⊢
  obtain ⟨b, off, rfl, hbl, hc⟩ := strs_at hO.ro HX.out
  have hro := Ro.cut hO.lo (k := (segB s).length) (by omega)
  rw [← List.map_take, HT.out] at hro
  simp only [maxLen] at hm
  have HRO := Lib.hid hro
  clear hro hO
  generalize hnn : (segB s).length = n at *
  have HNN := Lib.hid hnn
  clear hnn
  generalize (cutB 10 s).length = q at *
  have hw1 : IntKind.i64.wrap ((q : Int) - 1) = (n : Int) := (IntWalk.i64_in _ (by omega)).trans (by omega)
  have hw2 : (q : Int) - 1 = (n : Int) := by omega
  have hw3 : (n : Int) < (q : Int) := by omega
  have hw4 : 0 ≤ (n : Int) := by omega
  have hw5 : (n : Int) ≤ (c : Int) := by omega
  have hw6 : (q : Int) ≤ 9223372036854775807 := by omega
  have HL := Lib.hid hl
  clear hl
  go_wp2_with fail
  go_quiet (fail)
  go_wp2
  refine bodyPost_ret (v := .tuple #[.slice (some ⟨b, off, none⟩) n c, .string x]) (by simp [results, Tryd.results42, go_sem]) rfl ⟨some ⟨b, off, none⟩, c, x, by rw [HNN.out], ?_, below_drewN hb _⟩
  rw [HNN.out]
  exact ro_to HRO.out (below_drewN (Below.refl _ _) _)
def SjSt (s : ByteArray) (i n : Nat) (c : Int) (o : List ByteArray) : Prop :=
  rjF 0 (segs s.data.toList) = (bl o ++ (rjF c ((segs s.data.toList).drop i)).1, n + (rjF c ((segs s.data.toList).drop i)).2)
theorem SjSt.start (s : ByteArray) : SjSt s 0 0 0 [] := by unfold SjSt; simp [bl]
theorem SjSt.stop {s : ByteArray} {i n : Nat} {c : Int} {o : List ByteArray} (h : SjSt s i n c o) (hs : s.size ≤ 6000) (h0 : rjF c ((segs s.data.toList).drop i) = ([], 0)) : RecoverJournal_f s = (o, (n : Int), true) := by
  unfold SjSt at h
  rw [h0] at h
  unfold RecoverJournal_f
  rw [if_pos hs, h]
  simp only [List.append_nil, Nat.add_zero]
  rw [← bl_back rfl]
theorem SjSt.endd {s : ByteArray} {i n : Nat} {c : Int} {o : List ByteArray} (h : SjSt s i n c o) (hs : s.size ≤ 6000) (hi : (segB s).length ≤ i) : RecoverJournal_f s = (o, (n : Int), true) :=
  h.stop hs (by rw [List.drop_of_length_le (by unfold segB at hi; simpa using hi)]; rfl)
theorem segB_drop {s x : ByteArray} {i : Nat} (h : (segB s)[i]? = some x) : (segs s.data.toList).drop i = x.data.toList :: (segs s.data.toList).drop (i + 1) := by
  unfold segB at h
  rw [List.getElem?_map] at h
  cases hi : (segs s.data.toList)[i]? with
  | none => rw [hi] at h; cases h
  | some l =>
    rw [hi] at h
    injection h with h
    obtain ⟨hlt, rfl⟩ := List.getElem?_eq_some_iff.1 hi
    rw [List.drop_eq_getElem_cons hlt, ← h]
theorem SjSt.bad {s x : ByteArray} {i n : Nat} {c : Int} {o : List ByteArray} (h : SjSt s i n c o) (hs : s.size ≤ 6000) (hx : (segB s)[i]? = some x) (h0 : rjStep c x.data.toList = none) : RecoverJournal_f s = (o, (n : Int), true) :=
  h.stop hs (by rw [segB_drop hx]; unfold rjF; rw [h0])
theorem SjSt.next {s x y : ByteArray} {i n : Nat} {c c2 : Int} {ln : List UInt8} {o : List ByteArray} (h : SjSt s i n c o) (hx : (segB s)[i]? = some x) (h0 : rjStep c x.data.toList = some (ln, c2)) (hy : y.data.toList = ln) : SjSt s (i + 1) (n + (x.size + 1)) c2 (o ++ [y]) := by
  unfold SjSt at h ⊢
  rw [h, segB_drop hx]
  have e : rjF c (x.data.toList :: (segs s.data.toList).drop (i + 1)) = (ln :: (rjF c2 ((segs s.data.toList).drop (i + 1))).1, (x.data.toList.length + 1) + (rjF c2 ((segs s.data.toList).drop (i + 1))).2) := by
    conv => lhs; unfold rjF
    rw [h0]
  rw [e, ba_size]
  unfold bl
  simp only [List.map_append, List.map_cons, List.map_nil, hy, List.append_assoc, List.cons_append, List.nil_append, Nat.add_assoc]
/-- Up to here a line has no blank. -/
def NoBl (x : ByteArray) (j : Nat) : Prop := (32 : UInt8) ∉ x.data.toList.take j
theorem NoBl.go {x : ByteArray} {j : Nat} (h : NoBl x j) (hj : j < x.size) (hb : x[j] ≠ 32) : NoBl x (j + 1) := by
  unfold NoBl at h ⊢
  rw [List.take_succ_eq_append_getElem (by rw [ba_size]; exact hj), List.mem_append]
  intro hc
  rcases hc with hc | hc
  · exact h hc
  · simp at hc; exact hb hc.symm
theorem NoBl.all {x : ByteArray} (h : NoBl x x.size) : (32 : UInt8) ∉ x.data.toList := by
  unfold NoBl at h
  rwa [List.take_of_length_le (by rw [ba_size]; exact Nat.le_refl _)] at h
theorem NoBl.at {x : ByteArray} {j : Nat} (hj : j < x.size) (hb : x[j] = 32) : x.data.toList = x.data.toList.take j ++ 32 :: x.data.toList.drop (j + 1) := by
  have hl : j < x.data.toList.length := by rw [ba_size]; exact hj
  conv => lhs; rw [← List.take_append_drop j x.data.toList, List.drop_eq_getElem_cons hl]
  congr 2
set_option maxHeartbeats 3200000 in
set_option maxRecDepth 100000 in
theorem spec_RecoverJournal (s : ByteArray) (W : World) (hs0 : s.size ≤ maxLen) :
    Calls Tryd.prog 13 #[.string s] W (MadeRJ W (RecoverJournal_f s)) := by
  rcases Nat.lt_or_ge 6000 s.size with hgt | hle
  · have HF := Lib.hid (show RecoverJournal_f s = ([], 0, false) from if_neg (by omega))
    have hgt' : (6000 : Int) < (s.size : Int) := by omega
    simp only [maxLen] at hs0
    go_enter Tryd.func13, Tryd.ntmps13
    go_wp2
    exact bodyPost_ret (v := .tuple #[.slice none 0 0, .int .i64 0, .bool false]) (by simp [results, Tryd.results13, go_sem]) rfl (madeRJ_no (Below.refl _ _) HF.out)
  have hle' : (s.size : Int) ≤ 6000 := by omega
  have hngt : ¬ (6000 : Int) < (s.size : Int) := by omega
  have H := St.start W
  have HD := fun (n : Int) (h0 : 0 ≤ n) (h1 : n ≤ 65128) (w : World) => spec_l01Dec n (by omega) (by omega) w
  have HC := fun (n : Int) (h0 : 0 ≤ n) (h1 : n ≤ 65128) (x : ByteArray) (hx : x.size ≤ 6000) (w : World) => spec_l01Check n x w h0 h1 (by simp only [maxLen]; omega)
  have HL := spec_l11Lines s W (by omega)
  have hnl := segB_len s
  have hzl := Lib.hid (segB_size s)
  clear hs0
  go_enter Tryd.func13, Tryd.ntmps13
  go_wp2_with fail
  refine HL.mono ?_
  rintro e w1 ⟨A1, c1, x1, rfl, hr1, hb1⟩
  replace H := (H.below hb1).base.addro hr1
  clear HL hb1 hr1
  generalize hn : (segB s).length = n at *
  have HN := Lib.hid hn
  clear hn
  go_wp2_with fail
  go_loopw [7, 8, 9, 10] (fun v7 v8 v9 v10 wr => ∃ (i m : Nat) (c : Int) (A9 : Option Addr) (q c9 : Nat) (o : List ByteArray), i ≤ n ∧ q ≤ i ∧ m ≤ 6001 * i ∧ (0 ≤ c ∧ c ≤ 65128) ∧ v7 = .slice A9 q c9 ∧ v8 = .int .i64 c ∧ v9 = .int .i64 m ∧ v10 = .int .i64 i ∧ Hid (SjSt s i m c o) ∧ St (Lo W.heap.size) (Lo w1.heap.size) W wr [.ow (strs o) (.slice A9 q c9), .ro (strs (segB s)) (.slice A1 n c1)]) (fun _ _ _ v10 _ => n - (intOf v10).toNat)
  case atStart =>
    refine ⟨0, 0, 0, some ⟨w1.heap.size, 0, none⟩, 0, 0, [], by omega, by omega, by omega, by omega, rfl, rfl, rfl, rfl, Lib.hid (SjSt.start s), ?_⟩
    exact (H.junk (.cells #[] 9)).nilow 9 1 (some ⟨w1.heap.size, 0, none⟩)
  case round =>
    obtain ⟨i, m, c, A9, q, c9, o, hi, hqi, hm, hc, rfl, rfl, rfl, rfl, HS, H⟩ := hrel
    by_cases hlt : i < n
    rotate_left
    · obtain rfl : i = n := by omega
      have HR := Lib.hid (HS.out.endd (by omega) (by have := HN.out; omega))
      (try clear hq); have hq := H.facts; simp only [factsOf, Pt.facts, CellsAt, Nat.add_zero, Nat.zero_add, Nat.reduceAdd, and_true, true_and, List.set_cons_zero, List.set_cons_succ] at hq
      go_wp2
      exact bodyPost_ret (v := .tuple #[.slice A9 q c9, .int .i64 m, .bool true]) (by simp [results, Tryd.results13, go_sem]) rfl (madeRJ_st H (by repeat (first | with_reducible_and_instances exact .here | with_reducible refine .there ?_)) HR.out)
    · obtain ⟨x, hx⟩ := get_lt (l := segB s) (k := i) (by rw [HN.out]; exact hlt)
      have hxz := hzl.out x (List.mem_of_getElem? hx)
      obtain ⟨b, off, hA, H'⟩ := strs_st H (by repeat (first | with_reducible_and_instances exact .here | with_reducible refine .there ?_)) hx
      clear H
      subst hA
      have H := H'
      clear H'
      have HNX := Lib.hid (fun (c2 : Int) (ln : List UInt8) (y : ByteArray) (h0 : rjStep c x.data.toList = some (ln, c2)) (hy : y.data.toList = ln) => HS.out.next hx h0 hy)
      have HBD := Lib.hid (fun (h0 : rjStep c x.data.toList = none) => HS.out.bad (by omega) hx h0)
      clear HS hx
      have hlt' : (i : Int) < (n : Int) := by omega
      have hxz' : (x.size : Int) ≤ 6000 := by omega
      (try clear hq); have hq := H.facts; simp only [factsOf, Pt.facts, CellsAt, Nat.add_zero, Nat.zero_add, Nat.reduceAdd, and_true, true_and, List.set_cons_zero, List.set_cons_succ] at hq
      go_wp2_with fail
      go_loop [11] (fun v11 => ∃ j : Nat, j ≤ x.size ∧ v11 = .int .i64 j ∧ Hid (NoBl x j)) (fun v11 => x.size - (intOf v11).toNat)
      case atStart => exact ⟨0, by omega, rfl, Lib.hid (by unfold NoBl; simp)⟩
      case round =>
        obtain ⟨j, hj, rfl, HB⟩ := hrel
        rcases Nat.lt_or_ge j x.size with hjl | hjg
        · have hjl' : (j : Int) < (x.size : Int) := by omega
          have hb : x[j].toNat < 256 := x[j].toNat_lt
          by_cases h32 : x[j] = 32
          · have hB : ((x[j].toNat : Int) != 32) = false := by rw [h32]; rfl
            have hne : ((j : Int) == (x.size : Int)) = false := by simp; omega
            have hxd := NoBl.at hjl h32
            have hx1 : (x.extract (j + 1) x.size).data.toList = x.data.toList.drop (j + 1) := by
              rw [ba_extract]
              exact List.take_of_length_le (by rw [List.length_drop, ba_size]; exact Nat.le_refl _)
            have hx0 : (x.extract 0 j).data.toList = x.data.toList.take j := by
              rw [ba_extract]; simp
            have HST := Lib.hid (rjStep_at (c := c) (ln := x.data.toList.drop (j + 1)) HB.out)
            rw [← hxd] at HST
            have hlz : (x.extract (j + 1) x.size).size ≤ 6000 := by rw [← ba_size, hx1, List.length_drop, ba_size]; omega
            have HCH := HC c hc.1 hc.2 (x.extract (j + 1) x.size) hlz
            rw [hx1] at HCH
            replace hx1 := Lib.hid hx1
            have hcb := check_bd (x.data.toList.drop (j + 1)) c hc.1 hc.2
            generalize hlng : x.data.toList.drop (j + 1) = ln at *
            clear hlng
            have HDN := HD (check c ln) hcb.1 hcb.2
            have hdz := dec_size (check c ln) (by omega) (by omega)
            have HEQ := Lib.hid (show ((x.extract 0 j).toList == (dec (check c ln)).toList) = decide (x.data.toList.take j = Lib.itoa (check c ln)) from by
              rw [Bool.eq_iff_iff, beq_iff_eq, bytes_inj, decide_eq_true_eq, ← hx0]
              constructor
              · intro h; rw [h]; rfl
              · intro h; exact ba_ext h)
            clear HC HD hxd h32 hx0
            generalize check c ln = nx at *
            have hj1 : (j : Int) + 1 ≤ (x.size : Int) := by omega
            have hj0 : (j : Int) ≤ (x.size : Int) := by omega
            go_wp2_with fail
            refine (HCH _).mono ?_
            rintro e w3 ⟨rfl, rfl⟩
            cases hdec : decide (x.data.toList.take j = Lib.itoa nx)
            · rw [hdec] at HEQ
              replace HEQ := HEQ.out
              have hn : ¬ x.data.toList.take j = Lib.itoa nx := by simpa using hdec
              have HR := Lib.hid (HBD.out (by rw [HST.out, if_neg hn]))
              clear HBD HNX HST hdec hn
              go_wp2_with fail
              have hxx := (After.cells wr.heap.size wr).1
              refine wp_region_after (wr.heap.size) (by kernel_rfl) (by kernel_rfl) ?_; (repeat (go_big_quiet_step ((go_at_call 44; with_reducible exact Calls.after (Nat.le_refl _) (HDN _))))); refine wpQuiet_nil ?_; intro w4 hb4
              clear hxx
              replace H := H.below hb4
              go_wp2
              exact bodyPost_ret (v := .tuple #[.slice A9 q c9, .int .i64 m, .bool true]) (by simp [results, Tryd.results13, go_sem]) rfl (madeRJ_st H (by repeat (first | with_reducible_and_instances exact .here | with_reducible refine .there ?_)) HR.out)
            · rw [hdec] at HEQ
              replace HEQ := HEQ.out
              have hn : x.data.toList.take j = Lib.itoa nx := by simpa using hdec
              have HN2 := Lib.hid (HNX.out nx ln (x.extract (j + 1) x.size) (by rw [HST.out, if_pos hn]) hx1.out)
              clear HBD HNX HST hdec hn
              go_wp2_with fail
              have hxx := (After.cells wr.heap.size wr).1
              refine wp_region_after (wr.heap.size) (by kernel_rfl) (by kernel_rfl) ?_; (repeat (go_big_quiet_step ((go_at_call 44; with_reducible exact Calls.after (Nat.le_refl _) (HDN _))))); refine wpQuiet_nil ?_; intro w4 hb4
              clear hxx
              replace H := H.below hb4
              clear HEQ
              (try clear hq); have hq := H.facts; simp only [factsOf, Pt.facts, CellsAt, Nat.add_zero, Nat.zero_add, Nat.reduceAdd, and_true, true_and, List.set_cons_zero, List.set_cons_succ] at hq
              have hm' : (m : Int) ≤ 40000000 := by omega
              go_wp2_with (at_builtin; refine by_wp rfl fun K hK => wp_append1P_at 1 _ _ 22 9 rfl Tryd.underlying22 (.string ByteArray.empty) 1 16 inf_string rfl (by decide) (by decide) rfl #[.string (x.extract (j + 1) x.size)] rfl (by first | rfl | (simp; done)) [.str (x.extract (j + 1) x.size)] rfl H rfl (OwL.one (Ow.S _)) (by omega) ?_; intro A9 c9 w1 H; refine hK _ _ ?_; clear hK; simp only [List.set_cons_zero, List.set_cons_succ] at H; (try clear hq); have hq := H.facts; simp only [factsOf, Pt.facts, CellsAt, Nat.add_zero, Nat.zero_add, Nat.reduceAdd, and_true, true_and, List.set_cons_zero, List.set_cons_succ] at hq)
              go_roundw
              case rel =>
                refine ⟨i + 1, m + (x.size + 1), nx, A9, q + 1, c9, o ++ [x.extract (j + 1) x.size], by omega, by omega, by omega, hcb, rfl, rfl, by go_num, by go_num, HN2, ?_⟩
                rw [← strs_eq]
                apply St.sub' (h := H)
                (repeat (first | exact Pick.nil | with_reducible_and_instances exact Del.here | apply Pick.cons | with_reducible apply Del.there))
              case measure => simp [intOf]; omega
          · have hB : ((x[j].toNat : Int) != 32) = true := by
              simp
              intro h
              exact h32 (UInt8.toNat_inj.1 (by show _ = 32; omega))
            have HB2 := Lib.hid (HB.out.go hjl h32)
            clear h32
            go_wp2
            go_round
            case rel => exact ⟨j + 1, by omega, by go_num, HB2⟩
            case measure => simp [intOf]; omega
        · obtain rfl : j = x.size := by omega
          have HR := Lib.hid (HBD.out (rjStep_no HB.out.all))
          have heq : ((x.size : Int) == (x.size : Int)) = true := by simp
          go_wp2
          exact bodyPost_ret (v := .tuple #[.slice A9 q c9, .int .i64 m, .bool true]) (by simp [results, Tryd.results13, go_sem]) rfl (madeRJ_st H (by repeat (first | with_reducible_and_instances exact .here | with_reducible refine .there ?_)) HR.out)
theorem rjF_len : ∀ (S : List (List UInt8)) (c : Int), (rjF c S).1.length ≤ S.length := by
  intro S
  induction S with
  | nil => intro c; simp [rjF]
  | cons a r ih =>
    intro c
    unfold rjF
    split
    · simp
    · rename_i ln n _
      have := ih n
      simp; omega
theorem RecoverJournal_len (s : ByteArray) : (RecoverJournal_f s).1.length ≤ 6000 := by
  unfold RecoverJournal_f
  split
  · have h1 := rjF_len (segs s.data.toList) 0
    have h2 := segB_len s
    unfold segB at h2
    simp only [List.length_map] at *
    omega
  · simp
theorem RecoverJournal_lawI (s : ByteArray) (W : World) (ht : Pow10 W) (hz : s.size ≤ 1048576) : Calls Tryd.prog 14 #[.string s] W fun e w' =>
    ∃ A c F, e = .returned (.tuple #[.slice A (RecoverJournal_f s).1.length c, .int .i64 (RecoverJournal_f s).2.1, .bool (RecoverJournal_f s).2.2]) ∧ Ow w' (strs (RecoverJournal_f s).1) (.slice A (RecoverJournal_f s).1.length c) F ∧ (∀ b, F b → W.heap.size ≤ b) ∧ Below W.heap.size W w' :=
  impl_RecoverJournal s W ht (by simp only [maxLen]; omega)
theorem RecoverJournal_lawS (s : ByteArray) (W : World) (hz : s.size ≤ 1048576) : Calls Tryd.prog 13 #[.string s] W fun e w' =>
    ∃ A c, e = .returned (.tuple #[.slice A (RecoverJournal_f s).1.length c, .int .i64 (RecoverJournal_f s).2.1, .bool (RecoverJournal_f s).2.2]) ∧ Ro w' (Lo w'.heap.size) (strs (RecoverJournal_f s).1) (.slice A (RecoverJournal_f s).1.length c) ∧ Below W.heap.size W w' :=
  (spec_RecoverJournal s W (by simp only [maxLen]; omega)).mono fun _ _ ⟨A, c, F, h1, h2, _, h4⟩ => ⟨A, c, h1, h2.lo, h4⟩
theorem RecoverJournal_lawN (s : ByteArray) (hz : s.size ≤ 1048576) : (RecoverJournal_f s).1.length ≤ 6000 := RecoverJournal_len s
end Go.Proofs.YtahbgkabdongnaaDoor

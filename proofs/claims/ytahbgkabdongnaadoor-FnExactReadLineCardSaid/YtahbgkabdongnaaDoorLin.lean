/- The line of a message, by both. -/
import Derived.Test.YtahbgkabdongnaaDoorTxt
import Derived.Deep.RegionHeld3
namespace Go.Proofs.YtahbgkabdongnaaDoor
open Go.ChangeShapes Go.WideShapes Go.ChangeAt Go.RowKit Go.Dt
set_option linter.unusedVariables false
set_option linter.unusedSimpArgs false
def g01 (b : Bool) : Int := if b then 1 else 0
def lineTx (m : Message) : ByteArray := listTx [m.xNumber, m.xSender, m.xAt, m.xEdits, g01 m.xGone, m.xReply] ++ ⟨#[32]⟩ ++ listTx m.xLikes ++ ⟨#[32]⟩ ++ m.xText
/-- What a message's line asks: numbers of 64 bits, few likes, no endless text. -/
structure Message.lined (m : Message) : Prop where
  six : ∀ n ∈ [m.xNumber, m.xSender, m.xAt, m.xEdits, g01 m.xGone, m.xReply], I64 n
  likes : ∀ n ∈ m.xLikes, I64 n
  few : m.xLikes.length ≤ 1048576
  text : m.xText.size ≤ 1048576
theorem Message.ok_lined {m : Message} (h : m.ok = true) : m.lined := by
  unfold Message.ok at h
  simp only [Bool.and_eq_true, decide_eq_true_eq] at h
  obtain ⟨h1, h2, h3, h4, h5, h6, h7, h8, h9, h10⟩ := h
  have a1 := inB_yes h1
  have a2 := inB_yes (lo := 1) (hi := 1000) h2
  have a3 := inB_yes h3
  have a5 := inB_yes h5
  have a6 := inB_yes h6
  unfold isText at h4
  simp only [Bool.and_eq_true, decide_eq_true_eq] at h4
  refine ⟨fun n hn => ?_, fun n hn => ?_, by omega, by omega⟩
  · have hg : g01 m.xGone = 0 ∨ g01 m.xGone = 1 := by unfold g01; split <;> simp
    simp only [List.mem_cons, List.not_mem_nil, or_false] at hn
    unfold I64
    rcases hn with rfl | rfl | rfl | rfl | rfl | rfl <;> omega
  · have := rises_at h8 n hn
    have := inB_yes (lo := 1) (hi := 1000) this
    unfold I64
    omega
theorem lineTx_size {m : Message} (h : m.lined) : (lineTx m).size ≤ 136 + 22 * m.xLikes.length + 6 + m.xText.size := by
  have h1 := listTx_size _ h.six
  have h2 := listTx_size _ h.likes
  unfold lineTx
  simp only [ByteArray.size_append, List.length_cons, List.length_nil] at *
  have h3 : (⟨#[32]⟩ : ByteArray).size = 1 := rfl
  omega
theorem ints_lit6 (w : World) (x0 x1 x2 x3 x4 x5 : Int) : Ow (w.alloc (.cells #[.int .i64 x0, .int .i64 x1, .int .i64 x2, .int .i64 x3, .int .i64 x4, .int .i64 x5] 2)) (ints [x0, x1, x2, x3, x4, x5]) (.slice (some ⟨w.heap.size, 0, none⟩) 6 6) (fun b => b = w.heap.size) :=
  (Ow.of_block (rows := [[.int .i64 x0], [.int .i64 x1], [.int .i64 x2], [.int .i64 x3], [.int .i64 x4], [.int .i64 x5]]) (F := fun _ => False) (Bx.new w _ _) rfl (Nat.le_refl _) (by simp [maxLen]) (by simp) rfl (OwL.consP (Ow.I _ _) (OwL.consP (Ow.I _ _) (OwL.consP (Ow.I _ _) (OwL.consP (Ow.I _ _) (OwL.consP (Ow.I _ _) (OwL.one (Ow.I _ _))))))) (fun h => h)).same (fun b => by simp)
theorem impl_oneIf (b : Bool) (w : World) : Calls Tryd.prog 89 #[.bool b] w fun e w' => e = .returned (.int .i64 (g01 b)) ∧ w = w' := by
  cases b
  all_goals
    go_enter Tryd.func89, Tryd.ntmps89
    go_wp2
    go_ret
    exact ⟨rfl, rfl⟩
set_option maxHeartbeats 1600000 in
set_option maxRecDepth 100000 in
theorem spec_l03Line (x : Message) (us : List Value) (b off : Nat) (W : World) (hr : RoL W (Lo W.heap.size) (Message.d true x) us) (hx : x.lined) (hcl : ∀ j u, us[j]? = some u → W.cell? ⟨b, off + j, none⟩ = some u) :
    Calls Tryd.prog 82 #[.pointer (some ⟨b, off, none⟩)] W fun e w' => e = .returned (.string (lineTx x ++ ⟨#[10]⟩)) ∧ Below W.heap.size W w' := by
  obtain ⟨A7, c7v, rfl, r7, l7, m7⟩ := Message.cells hr
  obtain ⟨num, snd, at', txt, ed, gone, rep, likes⟩ := x
  have HX := hx
  obtain ⟨h6, hl, hfew, htx⟩ := hx
  simp only at *
  have HT := Lib.hid (show lineTx ⟨num, snd, at', txt, ed, gone, rep, likes⟩ = listTx [num, snd, at', ed, g01 gone, rep] ++ ⟨#[32]⟩ ++ listTx likes ++ ⟨#[32]⟩ ++ txt from rfl)
  have z1 := listTx_size _ h6
  have z2 := listTx_size _ hl
  simp only [List.length_cons, List.length_nil] at z1
  have h32 : (⟨#[32]⟩ : ByteArray).size = 1 := rfl
  have h10 : (⟨#[10]⟩ : ByteArray).size = 1 := rfl
  have H1 := fun (w w' : World) (g : Nat) (hg : w.heap.size = g) (hd : w' = w.alloc (.cells #[.int .i64 num, .int .i64 snd, .int .i64 at', .int .i64 ed, .int .i64 (g01 gone), .int .i64 rep] 2) ∨ w' = (w.alloc (.cells #[.int .i64 num, .int .i64 snd, .int .i64 at', .int .i64 ed, .int .i64 (g01 gone), .int .i64 rep] 2)).drew) => spec_l01Text [num, snd, at', ed, g01 gone, rep] (some ⟨g, 0, none⟩) 6 w' (by subst hg; rcases hd with rfl | rfl; exact (ints_lit6 w _ _ _ _ _ _).lo; exact (ints_lit6 w _ _ _ _ _ _).drew.lo) h6 (by simp)
  have H2 := fun (w : World) (hb : Below W.heap.size W w) => spec_l01Text likes A7 c7v w (ro_to r7 hb) hl hfew
  have c0 : W.cell? ⟨b, off, none⟩ = some (.int .i64 num) := hcl 0 _ rfl; have c1 : W.cell? ⟨b, off + 1, none⟩ = some (.int .i64 snd) := hcl 1 _ rfl; have c2 : W.cell? ⟨b, off + 2, none⟩ = some (.int .i64 at') := hcl 2 _ rfl; have c3 : W.cell? ⟨b, off + 3, none⟩ = some (.string txt) := hcl 3 _ rfl; have c4 : W.cell? ⟨b, off + 4, none⟩ = some (.int .i64 ed) := hcl 4 _ rfl; have c5 : W.cell? ⟨b, off + 5, none⟩ = some (.bool gone) := hcl 5 _ rfl; have c6 : W.cell? ⟨b, off + 6, none⟩ = some (.int .i64 rep) := hcl 6 _ rfl; have c7 : W.cell? ⟨b, off + 7, none⟩ = some (.slice A7 likes.length c7v) := hcl 7 _ rfl
  have hbl := World.block_lt_of_cell? W _ c0
  have HC := Lib.hid (fun (w' : World) (h : Below W.heap.size W w') => (show w'.cell? ⟨b, off, none⟩ = some (.int .i64 num) ∧ w'.cell? ⟨b, off + 1, none⟩ = some (.int .i64 snd) ∧ w'.cell? ⟨b, off + 2, none⟩ = some (.int .i64 at') ∧ w'.cell? ⟨b, off + 3, none⟩ = some (.string txt) ∧ w'.cell? ⟨b, off + 4, none⟩ = some (.int .i64 ed) ∧ w'.cell? ⟨b, off + 6, none⟩ = some (.int .i64 rep) ∧ w'.cell? ⟨b, off + 7, none⟩ = some (.slice A7 likes.length c7v) from
    ⟨(h.cell (p := ⟨b, off, none⟩) hbl).trans c0, (h.cell (p := ⟨b, off + 1, none⟩) hbl).trans c1, (h.cell (p := ⟨b, off + 2, none⟩) hbl).trans c2, (h.cell (p := ⟨b, off + 3, none⟩) hbl).trans c3, (h.cell (p := ⟨b, off + 4, none⟩) hbl).trans c4, (h.cell (p := ⟨b, off + 6, none⟩) hbl).trans c6, (h.cell (p := ⟨b, off + 7, none⟩) hbl).trans c7⟩))
  clear hr r7 l7 m7 hcl h6 hl HX c0 c1 c2 c3 c4 c6 c7
  simp only [List.length_cons, List.length_nil, Nat.zero_add, Nat.reduceAdd] at H1
  generalize listTx [num, snd, at', ed, g01 gone, rep] = t1 at *
  generalize listTx likes = t2 at *
  generalize likes.length = n at *
  have s1 := str_add (P := Tryd.prog) t1 ⟨#[32]⟩ (by omega)
  have s2 := str_add (P := Tryd.prog) (t1 ++ ⟨#[32]⟩) t2 (by rw [ByteArray.size_append]; omega)
  have s3 := str_add (P := Tryd.prog) (t1 ++ ⟨#[32]⟩ ++ t2) ⟨#[32]⟩ (by simp only [ByteArray.size_append]; omega)
  have s4 := str_add (P := Tryd.prog) (t1 ++ ⟨#[32]⟩ ++ t2 ++ ⟨#[32]⟩) txt (by simp only [ByteArray.size_append]; omega)
  have s5 := str_add (P := Tryd.prog) (t1 ++ ⟨#[32]⟩ ++ t2 ++ ⟨#[32]⟩ ++ txt) ⟨#[10]⟩ (by simp only [ByteArray.size_append]; omega)
  have HB : Below W.heap.size W W := Below.refl _ _
  have G0 : g01 false = 0 := rfl
  have G1 : g01 true = 1 := rfl
  cases gone
  all_goals
    (first | rw [G0] at H1 | rw [G1] at H1)
    clear G0 G1
    go_enter Tryd.func82, Tryd.ntmps82
    go_wp2_with fail
    go_region_held3 (fun w' => w'.cell? ⟨b, off, none⟩ = some (.int .i64 num) ∧ w'.cell? ⟨b, off + 1, none⟩ = some (.int .i64 snd) ∧ w'.cell? ⟨b, off + 2, none⟩ = some (.int .i64 at') ∧ w'.cell? ⟨b, off + 3, none⟩ = some (.string txt) ∧ w'.cell? ⟨b, off + 4, none⟩ = some (.int .i64 ed) ∧ w'.cell? ⟨b, off + 6, none⟩ = some (.int .i64 rep) ∧ w'.cell? ⟨b, off + 7, none⟩ = some (.slice A7 n c7v))
      (exact HC.out _ (by first | exact HB | exact HB.drew | exact hB1 | exact hB1.drew | exact hB2 | exact (HB.alloc (Nat.le_refl _) _).drew | exact HB.alloc (Nat.le_refl _) _ | exact HB.drew.alloc (Nat.le_refl _) _))
      ((first | (go_at_call 101; (with_reducible refine (H1 _ _ _ (by with_reducible first | rfl | simp) (by first | exact .inl rfl | exact .inr rfl)).mono ?_); rintro e w1 ⟨rfl, hb1⟩; have hB1 : Below W.heap.size W w1 := (by first | exact below_step (HB.drew.alloc (Nat.le_refl _) _) hb1 (by simp) | exact below_step (HB.alloc (Nat.le_refl _) _).drew hb1 (by simp) | exact below_step (HB.drew.alloc (Nat.le_refl _) _).drew hb1 (by simp) | exact below_step (HB.alloc (Nat.le_refl _) _) hb1 (by simp))) | (go_at_call 101; (with_reducible refine (H2 _ (by first | exact hB1 | exact hB1.drew)).mono ?_); rintro e w2 ⟨rfl, hb2⟩; have hB2 : Below W.heap.size W w2 := (by first | exact below_step hB1 hb2 hB1.size | exact below_step hB1.drew hb2 hB1.size))))
    go_wp2
    go_ret
    exact ⟨by rw [HT.out]; rfl, hB2⟩
theorem cut_last (s : ByteArray) (b : UInt8) : (s ++ (⟨#[b]⟩ : ByteArray)).extract 0 s.size = s := by
  apply ByteArray.ext
  rw [ByteArray.data_extract, ByteArray.data_append]
  show (s.data ++ #[b]).extract 0 s.data.size = s.data
  simp
set_option maxHeartbeats 1600000 in
set_option maxRecDepth 100000 in
theorem spec_l09Line (x : Message) (us : List Value) (b off : Nat) (W : World) (hr : RoL W (Lo W.heap.size) (Message.d true x) us) (hx : x.lined) (hcl : ∀ j u, us[j]? = some u → W.cell? ⟨b, off + j, none⟩ = some u) :
    Calls Tryd.prog 50 #[.pointer (some ⟨b, off, none⟩)] W fun e w' => e = .returned (.string (lineTx x)) ∧ Below W.heap.size W w' := by
  have HL := spec_l03Line x us b off W hr hx hcl
  have hz := lineTx_size hx
  have h1 := hx.few
  have h2 := hx.text
  have HE := Lib.hid (cut_last (lineTx x) 10)
  have hz2 : (lineTx x ++ (⟨#[10]⟩ : ByteArray)).size = (lineTx x).size + 1 := by rw [ByteArray.size_append]; rfl
  clear hr hx hcl
  generalize lineTx x ++ (⟨#[10]⟩ : ByteArray) = L at *
  generalize lineTx x = t at *
  have hz3 : 1 ≤ (L.size : Int) := by omega
  have hz4 : (L.size : Int) ≤ 100000000 := by omega
  have HZ := Lib.hid (show L.size - 1 = t.size by omega)
  clear hz2 hz
  go_enter Tryd.func50, Tryd.ntmps50
  go_wp2_with fail
  refine HL.mono ?_
  rintro e w1 ⟨rfl, hb1⟩
  go_wp2
  go_ret
  exact ⟨by rw [← HZ.out] at HE; exact congrArg (fun s => Ending.returned (.string s)) HE.out, hb1⟩
set_option maxHeartbeats 1600000 in
set_option maxRecDepth 100000 in
theorem impl_messageLine (x : Message) (us : List Value) (W : World) (ht : Pow10 W) (hr : RoL W (Lo W.heap.size) (Message.d true x) us) (hx : x.lined) :
    Calls Tryd.prog 53 #[.agg us.toArray] W fun e w' => e = .returned (.string (lineTx x)) ∧ Below W.heap.size W w' := by
  obtain ⟨A7, c7v, rfl, r7, l7, m7⟩ := Message.cells hr
  obtain ⟨num, snd, at', txt, ed, gone, rep, likes⟩ := x
  obtain ⟨h6, hl, hfew, htx⟩ := hx
  simp only at *
  have HT := Lib.hid (show lineTx ⟨num, snd, at', txt, ed, gone, rep, likes⟩ = listTx [num, snd, at', ed, g01 gone, rep] ++ ⟨#[32]⟩ ++ listTx likes ++ ⟨#[32]⟩ ++ txt from rfl)
  have z1 := listTx_size _ h6
  have z2 := listTx_size _ hl
  simp only [List.length_cons, List.length_nil] at z1
  have h32 : (⟨#[32]⟩ : ByteArray).size = 1 := rfl
  have H0 := fun (w : World) => impl_oneIf gone w
  have H1 := fun (w w' : World) (g : Nat) (hg : w.heap.size = g) (hd : w' = w.alloc (.cells #[.int .i64 num, .int .i64 snd, .int .i64 at', .int .i64 ed, .int .i64 (g01 gone), .int .i64 rep] 2) ∨ w' = (w.alloc (.cells #[.int .i64 num, .int .i64 snd, .int .i64 at', .int .i64 ed, .int .i64 (g01 gone), .int .i64 rep] 2)).drew) (hb : Below W.heap.size W w') => impl_listText [num, snd, at', ed, g01 gone, rep] (some ⟨g, 0, none⟩) 6 w' (ht.on hb) (by subst hg; rcases hd with rfl | rfl; exact (ints_lit6 w _ _ _ _ _ _).lo; exact (ints_lit6 w _ _ _ _ _ _).drew.lo) h6 (by simp)
  have H2 := fun (w : World) (hb : Below W.heap.size W w) => impl_listText likes A7 c7v w (ht.on hb) (ro_to r7 hb) hl hfew
  have H3 : ∀ w' : World, Below (W.alloc (.cells #[.int .i64 num, .int .i64 snd, .int .i64 at', .string txt, .int .i64 ed, .bool gone, .int .i64 rep, .slice A7 likes.length c7v] 37)).heap.size (W.alloc (.cells #[.int .i64 num, .int .i64 snd, .int .i64 at', .string txt, .int .i64 ed, .bool gone, .int .i64 rep, .slice A7 likes.length c7v] 37)) w' → (fun (w' : World) (g0 : Nat) => w'.cell? ⟨g0, 0, none⟩ = some (.int .i64 num) ∧ w'.cell? ⟨g0, 1, none⟩ = some (.int .i64 snd) ∧ w'.cell? ⟨g0, 2, none⟩ = some (.int .i64 at') ∧ w'.cell? ⟨g0, 3, none⟩ = some (.string txt) ∧ w'.cell? ⟨g0, 4, none⟩ = some (.int .i64 ed) ∧ w'.cell? ⟨g0, 5, none⟩ = some (.bool gone) ∧ w'.cell? ⟨g0, 6, none⟩ = some (.int .i64 rep) ∧ w'.cell? ⟨g0, 7, none⟩ = some (.slice A7 likes.length c7v)) w' W.heap.size := by
    intro w' h
    have hlt : W.heap.size < (W.alloc (.cells #[.int .i64 num, .int .i64 snd, .int .i64 at', .string txt, .int .i64 ed, .bool gone, .int .i64 rep, .slice A7 likes.length c7v] 37)).heap.size := by simp
    exact ⟨(h.cell (p := ⟨_, _, _⟩) hlt).trans (bx_new W _ _ 0 _ rfl), (h.cell (p := ⟨_, _, _⟩) hlt).trans (bx_new W _ _ 1 _ rfl), (h.cell (p := ⟨_, _, _⟩) hlt).trans (bx_new W _ _ 2 _ rfl), (h.cell (p := ⟨_, _, _⟩) hlt).trans (bx_new W _ _ 3 _ rfl), (h.cell (p := ⟨_, _, _⟩) hlt).trans (bx_new W _ _ 4 _ rfl), (h.cell (p := ⟨_, _, _⟩) hlt).trans (bx_new W _ _ 5 _ rfl), (h.cell (p := ⟨_, _, _⟩) hlt).trans (bx_new W _ _ 6 _ rfl), (h.cell (p := ⟨_, _, _⟩) hlt).trans (bx_new W _ _ 7 _ rfl)⟩
  have HW : Below W.heap.size W (W.alloc (.cells #[.int .i64 num, .int .i64 snd, .int .i64 at', .string txt, .int .i64 ed, .bool gone, .int .i64 rep, .slice A7 likes.length c7v] 37)) := (Below.refl _ _).alloc (Nat.le_refl _) _
  have H3 := Lib.hid H3
  clear hr r7 l7 m7 h6 hl ht
  simp only [List.length_cons, List.length_nil, Nat.zero_add, Nat.reduceAdd] at H1
  generalize listTx [num, snd, at', ed, g01 gone, rep] = t1 at *
  generalize listTx likes = t2 at *
  generalize g01 gone = gg at *
  generalize likes.length = n at *
  have s1 := str_add (P := Tryd.prog) t1 ⟨#[32]⟩ (by omega)
  have s2 := str_add (P := Tryd.prog) (t1 ++ ⟨#[32]⟩) t2 (by rw [ByteArray.size_append]; omega)
  have s3 := str_add (P := Tryd.prog) (t1 ++ ⟨#[32]⟩ ++ t2) ⟨#[32]⟩ (by simp only [ByteArray.size_append]; omega)
  have s4 := str_add (P := Tryd.prog) (t1 ++ ⟨#[32]⟩ ++ t2 ++ ⟨#[32]⟩) txt (by simp only [ByteArray.size_append]; omega)
  go_enter Tryd.func53, Tryd.ntmps53
  go_wp2_with fail
  generalize W.alloc (.cells #[.int .i64 num, .int .i64 snd, .int .i64 at', .string txt, .int .i64 ed, .bool gone, .int .i64 rep, .slice A7 n c7v] 37) = W1 at *
  have HB : Below W1.heap.size W1 W1 := Below.refl _ _
  have hg0 : W.heap.size ≤ W1.heap.size := by have h := HW.size; omega
  go_region_held3 (fun w' => w'.cell? ⟨W.heap.size, 0, none⟩ = some (.int .i64 num) ∧ w'.cell? ⟨W.heap.size, 1, none⟩ = some (.int .i64 snd) ∧ w'.cell? ⟨W.heap.size, 2, none⟩ = some (.int .i64 at') ∧ w'.cell? ⟨W.heap.size, 3, none⟩ = some (.string txt) ∧ w'.cell? ⟨W.heap.size, 4, none⟩ = some (.int .i64 ed) ∧ w'.cell? ⟨W.heap.size, 5, none⟩ = some (.bool gone) ∧ w'.cell? ⟨W.heap.size, 6, none⟩ = some (.int .i64 rep) ∧ w'.cell? ⟨W.heap.size, 7, none⟩ = some (.slice A7 n c7v))
    (exact H3.out _ (by first | exact HB | exact HB.drew | exact hB1 | exact hB1.drew | exact hB2 | exact (HB.alloc (Nat.le_refl _) _).drew | exact HB.alloc (Nat.le_refl _) _ | exact HB.drew.alloc (Nat.le_refl _) _))
    ((first | (go_at_call 89; (with_reducible refine (H0 _).mono ?_); rintro e w' ⟨rfl, rfl⟩) | (go_at_call 88; (with_reducible refine (H1 _ _ _ (by with_reducible first | rfl | simp) (by first | exact .inl rfl | exact .inr rfl) (by first | exact below_step HW (HB.drew.alloc (Nat.le_refl _) _) hg0 | exact below_step HW (HB.alloc (Nat.le_refl _) _).drew hg0 | exact below_step HW (HB.drew.alloc (Nat.le_refl _) _).drew hg0 | exact below_step HW (HB.alloc (Nat.le_refl _) _) hg0)).mono ?_); rintro e w1 ⟨rfl, hb1⟩; have hB1 : Below W1.heap.size W1 w1 := (by first | exact below_step (HB.drew.alloc (Nat.le_refl _) _) hb1 (by simp) | exact below_step (HB.alloc (Nat.le_refl _) _).drew hb1 (by simp) | exact below_step (HB.drew.alloc (Nat.le_refl _) _).drew hb1 (by simp) | exact below_step (HB.alloc (Nat.le_refl _) _) hb1 (by simp))) | (go_at_call 88; (with_reducible refine (H2 _ (by first | exact below_step HW hB1 hg0 | exact below_step HW hB1.drew hg0)).mono ?_); rintro e w2 ⟨rfl, hb2⟩; have hB2 : Below W1.heap.size W1 w2 := (by first | exact below_step hB1 hb2 hB1.size | exact below_step hB1.drew hb2 hB1.size))))
  go_wp2
  go_ret
  exact ⟨by rw [HT.out]; rfl, below_step HW hB2 hg0⟩
end Go.Proofs.YtahbgkabdongnaaDoor

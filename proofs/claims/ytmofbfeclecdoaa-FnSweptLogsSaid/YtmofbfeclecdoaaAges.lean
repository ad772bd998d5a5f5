/- The ages of a log's messages. -/
import Derived.Test.YtmofbfeclecdoaaLog
namespace Go.Proofs.Ytmofbfeclecdoaa
open Go.ChangeShapes Go.WideShapes Go.ChangeAt Go.RowKit Go.Dt
set_option linter.unusedVariables false
set_option linter.unusedSimpArgs false
theorem upTo_at {f : Nat → Bool} {n j : Nat} (h : upTo f n = true) (hj : j < n) : f j = true := by
  unfold upTo at h
  rw [List.all_eq_true] at h
  exact h j (List.mem_range.2 hj)
theorem Log.msg_ok {l : Log} (h : l.ok = true) {j : Nat} {m : Message} (hj : l.xMessages[j]? = some m) : m.ok = true ∧ m.xNumber < l.xNext := by
  unfold Log.ok at h
  rw [Bool.and_eq_true] at h
  have := upTo_at h.1 (List.getElem?_eq_some_iff.1 hj).1
  cases j with
  | zero => rw [Log.right_zero hj] at this; simpa using this
  | succ k => unfold Log.rightAt at this; rw [hj] at this; simp at this; exact ⟨this.1, this.2.1⟩
theorem Log.few {l : Log} (h : l.ok = true) : l.xMessages.length ≤ 40 ∧ 1 ≤ l.xNext ∧ l.xNext ≤ 1000000000 := by
  unfold Log.ok at h
  simp only [Bool.and_eq_true, decide_eq_true_eq] at h
  have := inB_yes h.2.2
  omega
theorem Message.bounds {m : Message} (h : m.ok = true) : 1 ≤ m.xNumber ∧ m.xNumber ≤ 1000000000 ∧ 0 ≤ m.xAt ∧ m.xAt ≤ 1000000 := by
  unfold Message.ok at h
  simp only [Bool.and_eq_true] at h
  have h1 := inB_yes h.1
  have h2 := inB_yes h.2.2.1
  omega
def AgesOf_f (l : Log) (now : Int) : List Int × Bool := if l.ok && (inB now 0 1000000 && l.xMessages.all fun m => decide (m.xAt ≤ now)) then (l.xMessages.map fun m => now - m.xAt, true) else ([], false)
theorem ages_no {l : Log} {now : Int} (h : (l.ok && inB now 0 1000000) = false) : AgesOf_f l now = ([], false) := by
  unfold AgesOf_f; rw [← Bool.and_assoc, h]; rfl
theorem ages_late {l : Log} {now : Int} {j : Nat} {m : Message} (h : l.xMessages[j]? = some m) (hm : ¬ m.xAt ≤ now) : AgesOf_f l now = ([], false) := by
  unfold AgesOf_f
  have : (l.xMessages.all fun m => decide (m.xAt ≤ now)) = false := List.all_eq_false.2 ⟨m, List.mem_of_getElem? h, by simp [hm]⟩
  rw [this]; simp
theorem all_take_succ {α : Type} {p : α → Bool} {l : List α} {j : Nat} {x : α} (h : (l.take j).all p = true) (hx : l[j]? = some x) (hp : p x = true) : (l.take (j + 1)).all p = true := by
  rw [List.take_add_one, hx]; simp [List.all_append, h, hp]
theorem map_take_succ {α β : Type} (f : α → β) {l : List α} {j : Nat} {x : α} (hx : l[j]? = some x) : (l.take (j + 1)).map f = (l.take j).map f ++ [f x] := by
  rw [List.take_add_one, hx]; simp
theorem ages_yes {l : Log} {now : Int} (h : (l.ok && inB now 0 1000000) = true) (ha : (l.xMessages.all fun m => decide (m.xAt ≤ now)) = true) : AgesOf_f l now = (l.xMessages.map fun m => now - m.xAt, true) := by
  unfold AgesOf_f; rw [← Bool.and_assoc, h, ha]; rfl
theorem ages_len (l : Log) (now : Int) : (AgesOf_f l now).1.length ≤ l.xMessages.length := by
  unfold AgesOf_f; split <;> simp
theorem Log.texts {x : Log} (hz : Log.z x ≤ 1048576) : ∀ m ∈ x.xMessages, m.xText.size ≤ maxLen := by
  intro m hm
  have h := mem_sum Message.z hm
  have h2 : Message.z m = m.xText.size + m.xLikes.length := rfl
  have h3 : Log.z x = Message.zs x.xMessages := rfl
  have h4 : Message.zs x.xMessages = x.xMessages.length + (x.xMessages.map fun y => Message.z y).sum := rfl
  simp only [maxLen]
  have h5 : (x.xMessages.map fun y => Message.z y) = x.xMessages.map Message.z := rfl
  rw [h5] at h4
  omega
theorem Log.long {x : Log} : x.xMessages.length ≤ Log.z x := by
  have h3 : Log.z x = Message.zs x.xMessages := rfl
  have h4 : Message.zs x.xMessages = x.xMessages.length + (x.xMessages.map fun y => Message.z y).sum := rfl
  omega
/-- What hands back numbers and a bool. -/
def MadeIB (W : World) (r : List Int × Bool) (e : Ending) (w' : World) : Prop := ∃ A c F, e = .returned (.tuple #[.slice A r.1.length c, .bool r.2]) ∧ Ow w' (ints r.1) (.slice A r.1.length c) F ∧ Below W.heap.size W w' ∧ ∀ b, F b → W.heap.size ≤ b
theorem madeIB_no {W w' : World} {r : List Int × Bool} (hr : r = ([], false)) (hb : Below W.heap.size W w') : MadeIB W r (.returned (.tuple #[.slice none 0 0, .bool false])) w' := by
  subst hr; exact ⟨none, 0, fun _ => False, rfl, .emp _ _ _ _ (by simp), hb, fun b h => h.elim⟩
theorem ints_own_nil (w : World) (A : Option Addr) : Ow w (ints []) (.slice A 0 0) (fun _ => False) := .emp _ _ _ _ (by simp)
theorem madeIB_yes {W w' : World} {r : List Int × Bool} {l : List Int} {v : Value} {F : Nat → Prop} (hr : r = (l, true)) (ho : Ow w' (ints l) v F) (hb : Below W.heap.size W w') (hF : ∀ b, F b → W.heap.size ≤ b) : MadeIB W r (.returned (.tuple #[v, .bool true])) w' := by
  subst hr
  obtain ⟨A, c, rfl, _, _⟩ := ho.shape
  simp only [List.length_map] at ho ⊢
  exact ⟨A, c, F, rfl, ho, hb, hF⟩
set_option maxHeartbeats 1600000 in
set_option maxRecDepth 100000 in
theorem impl_AgesOf (x : Log) (now : Int) (us : List Value) (W : World) (hr : RoL W (Lo W.heap.size) (Log.d true x) us) (hw : ∀ m ∈ x.xMessages, m.xText.size ≤ maxLen) :
    Calls Try.prog 26 #[.agg us.toArray, .int .i64 now] W (MadeIB W (AgesOf_f x now)) := by
  have HV := fun (w : World) (hb : Below W.heap.size W w) => impl_ValidLog x us w (rol_to hr hb) hw
  have HT := fun (w : World) => impl_isTick now w
  obtain ⟨A, c, rfl, hr, hlc, hm⟩ := Log.cells hr
  have hlen : x.xMessages.length ≤ 9223372036854775807 := by simp only [maxLen] at hm; omega
  clear hm hlc
  obtain ⟨next, l⟩ := x
  simp only at *
  cases hv : Log.ok ⟨next, l⟩
  · rw [hv] at HV
    have HX := Lib.hid (ages_no (l := ⟨next, l⟩) (now := now) (by rw [hv]; rfl))
    clear hv hr hw
    generalize l.length = n at *
    go_enter Try.func26, Try.ntmps26
    go_wp2_with (go_at_call 41; (with_reducible refine (HV _ (by (repeat (first | with_reducible assumption | with_reducible exact Below.refl _ _ | with_reducible refine Below.setCell ?_ ?_ _ | with_reducible refine Below.alloc ?_ ?_ _ | with_reducible refine Below.drew ?_ | with_reducible refine below_drewN ?_ _ | omega | (simp; done) | (simp; omega))); all_goals first | omega | (simp; done) | (simp; omega))).mono ?_); rintro e w1 ⟨rfl, hb⟩; obtain ⟨hc, hf⟩ := bcell hb; have hz : W.heap.size < w1.heap.size := (by have hs := hb.size; (try simp at hs) <;> omega); have hB : Below W.heap.size W w1 := (by first | exact below_step (by assumption) hb (by omega) | exact below_step (by repeat (first | with_reducible assumption | exact Below.refl _ _ | refine Below.setCell ?_ (by first | omega | (simp; done) | (simp; omega)) _ | refine Below.alloc ?_ (by first | omega | (simp; done) | (simp; omega)) _ | refine Below.drew ?_)) hb (by first | omega | (simp; done) | (simp; omega))))
    exact bodyPost_ret (v := .tuple #[.slice none 0 0, .bool false]) (by simp [results, Try.results26, go_sem]) rfl (madeIB_no HX.out (by (repeat (first | with_reducible assumption | with_reducible exact Below.refl _ _ | with_reducible refine Below.setCell ?_ ?_ _ | with_reducible refine Below.alloc ?_ ?_ _ | with_reducible refine Below.drew ?_ | with_reducible refine below_drewN ?_ _ | omega | (simp; done) | (simp; omega))); all_goals first | omega | (simp; done) | (simp; omega)))
  rw [hv] at HV
  cases ht : inB now 0 1000000
  · rw [ht] at HT
    have HX := Lib.hid (ages_no (l := ⟨next, l⟩) (now := now) (by rw [hv, ht]; rfl))
    clear hv hr hw ht
    generalize l.length = n at *
    go_enter Try.func26, Try.ntmps26
    go_wp2_with (first | (go_at_call 41; (with_reducible refine (HV _ (by (repeat (first | with_reducible assumption | with_reducible exact Below.refl _ _ | with_reducible refine Below.setCell ?_ ?_ _ | with_reducible refine Below.alloc ?_ ?_ _ | with_reducible refine Below.drew ?_ | with_reducible refine below_drewN ?_ _ | omega | (simp; done) | (simp; omega))); all_goals first | omega | (simp; done) | (simp; omega))).mono ?_); rintro e w1 ⟨rfl, hb⟩; obtain ⟨hc, hf⟩ := bcell hb; have hz : W.heap.size < w1.heap.size := (by have hs := hb.size; (try simp at hs) <;> omega); have hB : Below W.heap.size W w1 := (by first | exact below_step (by assumption) hb (by omega) | exact below_step (by repeat (first | with_reducible assumption | exact Below.refl _ _ | refine Below.setCell ?_ (by first | omega | (simp; done) | (simp; omega)) _ | refine Below.alloc ?_ (by first | omega | (simp; done) | (simp; omega)) _ | refine Below.drew ?_)) hb (by first | omega | (simp; done) | (simp; omega)))) | (go_at_call 90; (with_reducible refine (HT _).mono ?_); rintro e w' ⟨rfl, rfl⟩))
    exact bodyPost_ret (v := .tuple #[.slice none 0 0, .bool false]) (by simp [results, Try.results26, go_sem]) rfl (madeIB_no HX.out (by (repeat (first | with_reducible assumption | with_reducible exact Below.refl _ _ | with_reducible refine Below.setCell ?_ ?_ _ | with_reducible refine Below.alloc ?_ ?_ _ | with_reducible refine Below.drew ?_ | with_reducible refine below_drewN ?_ _ | omega | (simp; done) | (simp; omega))); all_goals first | omega | (simp; done) | (simp; omega)))
  rw [ht] at HT
  have HVT := Lib.hid (show (Log.ok ⟨next, l⟩ && inB now 0 1000000) = true from by rw [hv, ht]; rfl)
  have hnow := inB_yes ht
  have HMB := Lib.hid (show ∀ (j : Nat) (m : Message), l[j]? = some m → 0 ≤ m.xAt ∧ m.xAt ≤ 1000000 from fun j m h => by have := Message.bounds (Log.msg_ok hv h).1; omega)
  have hfew := (Log.few hv).1
  clear hv ht hw
  simp only at hfew
  generalize hn : l.length = n at *
  have HN := Lib.hid hn
  clear hn
  go_enter Try.func26, Try.ntmps26
  go_wp2_with (first | (go_at_call 41; (with_reducible refine (HV _ (by (repeat (first | with_reducible assumption | with_reducible exact Below.refl _ _ | with_reducible refine Below.setCell ?_ ?_ _ | with_reducible refine Below.alloc ?_ ?_ _ | with_reducible refine Below.drew ?_ | with_reducible refine below_drewN ?_ _ | omega | (simp; done) | (simp; omega))); all_goals first | omega | (simp; done) | (simp; omega))).mono ?_); rintro e w1 ⟨rfl, hb⟩; obtain ⟨hc, hf⟩ := bcell hb; have hz : W.heap.size < w1.heap.size := (by have hs := hb.size; (try simp at hs) <;> omega); have hB : Below W.heap.size W w1 := (by first | exact below_step (by assumption) hb (by omega) | exact below_step (by repeat (first | with_reducible assumption | exact Below.refl _ _ | refine Below.setCell ?_ (by first | omega | (simp; done) | (simp; omega)) _ | refine Below.alloc ?_ (by first | omega | (simp; done) | (simp; omega)) _ | refine Below.drew ?_)) hb (by first | omega | (simp; done) | (simp; omega)))) | (go_at_call 90; (with_reducible refine (HT _).mono ?_); rintro e w' ⟨rfl, rfl⟩))
  go_loopw [6, 21] (fun v k wr => ∃ j : Nat, j ≤ n ∧ k = .int .i64 j ∧ Hid (((l.take j).all fun m => decide (m.xAt ≤ now)) = true) ∧ (∃ F, Ow wr (ints ((l.take j).map fun m => now - m.xAt)) v F ∧ ∀ b, F b → W.heap.size + 1 ≤ b) ∧ Below (W.heap.size + 1) (W.alloc (.cells #[.int .i64 next, .slice A n c] 41)) wr) (fun _ k _ => n - (intOf k).toNat)
  case atStart => exact ⟨0, by omega, rfl, Lib.hid rfl, ⟨_, ints_own_nil _ _, fun b h => h.elim⟩, (hb.mono (by simp)).alloc (by have := hb.size; simp at this; omega) _⟩
  case round =>
    clear hc hf hB hb
    obtain ⟨j, hj, rfl, HQ, ⟨F, hO, hF⟩, hbw⟩ := hrel
    obtain ⟨hbx, hb, hsz⟩ := box_after hbw
    clear hbx
    by_cases hlt : j < n
    · obtain ⟨m, hmj⟩ := get_lt (l := l) (k := j) (by rw [HN.out]; exact hlt)
      obtain ⟨b, off, A7, cc7, rfl, hbl, hru, hcl⟩ := msg_at hr hmj
      have c0 : wr.cell? ⟨b, off + j * 8, none⟩ = some (.int .i64 m.xNumber) := hcl wr hb 0 _ rfl; have c1 : wr.cell? ⟨b, off + j * 8 + 1, none⟩ = some (.int .i64 m.xSender) := hcl wr hb 1 _ rfl; have c2 : wr.cell? ⟨b, off + j * 8 + 2, none⟩ = some (.int .i64 m.xAt) := hcl wr hb 2 _ rfl; have c3 : wr.cell? ⟨b, off + j * 8 + 3, none⟩ = some (.string m.xText) := hcl wr hb 3 _ rfl; have c4 : wr.cell? ⟨b, off + j * 8 + 4, none⟩ = some (.int .i64 m.xEdits) := hcl wr hb 4 _ rfl; have c5 : wr.cell? ⟨b, off + j * 8 + 5, none⟩ = some (.bool m.xGone) := hcl wr hb 5 _ rfl; have c6 : wr.cell? ⟨b, off + j * 8 + 6, none⟩ = some (.int .i64 m.xReply) := hcl wr hb 6 _ rfl; have c7 : wr.cell? ⟨b, off + j * 8 + 7, none⟩ = some (.slice A7 m.xLikes.length cc7) := hcl wr hb 7 _ rfl
      have hmb := HMB.out j m hmj
      by_cases hle : m.xAt ≤ now
      · have HS := Lib.hid (all_take_succ HQ.out hmj (by simp [hle]))
        have HT' := Lib.hid (map_take_succ (fun m : Message => now - m.xAt) hmj)
        clear hr hcl hru hmj
        go_wp2_with (at_builtin; refine dt_append1 rfl _ _ 29 2 rfl Try.underlying29 (.int .i64 0) 1 8 inf_int64 rfl (by decide) (by decide) (by rfl) (hO.alloc _) #[.int .i64 (now - m.xAt)] (by show Value.slice _ _ _ = Value.slice _ _ _; simp) [.int .i64 (now - m.xAt)] (fun _ => False) rfl (OwL.one (Ow.I _ _)) (by simp) (by simp only [List.length_map, List.length_take]; omega) ?_; intro v2 w2 F2 hO2 hk2 hF2)
        go_roundw
        case rel => exact ⟨j + 1, by omega, by go_num, HS, ⟨F2, by rw [HT'.out]; unfold ints; rw [List.map_append]; exact hO2, fun b h => by have := hF2 b h; simp at this; rcases this with h | h; exact hF b h; omega⟩, (hbw.alloc (by omega) _).trans (hk2.below (by simp; omega) hF)⟩
        case measure => simp [intOf]; omega
      · have HX := Lib.hid (ages_late (l := ⟨next, l⟩) hmj hle)
        clear hr hcl hru hmj
        go_wp2
        exact bodyPost_ret (v := .tuple #[.slice none 0 0, .bool false]) (by simp [results, Try.results26, go_sem]) rfl (madeIB_no HX.out (by (repeat (first | with_reducible assumption | with_reducible exact Below.refl _ _ | with_reducible refine Below.setCell ?_ ?_ _ | with_reducible refine Below.alloc ?_ ?_ _ | with_reducible refine Below.drew ?_ | with_reducible refine below_drewN ?_ _ | omega | (simp; done) | (simp; omega))); all_goals first | omega | (simp; done) | (simp; omega)))
    · obtain rfl : j = n := by omega
      have HX := Lib.hid (ages_yes (l := ⟨next, l⟩) HVT.out (by have := HQ.out; rw [List.take_of_length_le (by have := HN.out; omega)] at this; exact this))
      rw [List.take_of_length_le (by have := HN.out; omega)] at hO
      clear hr
      go_wp2
      exact bodyPost_ret (v := .tuple #[u6, .bool true]) (by simp [results, Try.results26, go_sem]) rfl (madeIB_yes HX.out hO hb (fun b h => by have := hF b h; omega))
set_option maxHeartbeats 1600000 in
set_option maxRecDepth 100000 in
theorem spec_AgesOf (x : Log) (now : Int) (us : List Value) (W : World) (hr : RoL W (Lo W.heap.size) (Log.d true x) us) (hw : ∀ m ∈ x.xMessages, m.xText.size ≤ maxLen) :
    Calls Try.prog 24 #[.agg us.toArray, .int .i64 now] W (MadeIB W (AgesOf_f x now)) := by
  have HT := fun (w : World) => spec_l01Tick now w
  obtain ⟨A, c, rfl, hr, hlc, hm⟩ := Log.cells hr
  have hlen : x.xMessages.length ≤ 9223372036854775807 := by simp only [maxLen] at hm; omega
  obtain ⟨next, l⟩ := x
  simp only at *
  have HV := fun (w : World) (hbw : Below (W.heap.size + 1) (W.alloc (.cells #[.int .i64 next, .slice A l.length c] 41)) w) => spec_l03Is ⟨next, l⟩ W.heap.size 0 A c w hw ((box_after hbw).1 0 _ rfl) ((box_after hbw).1 1 _ rfl) (ro_to hr (box_after hbw).2.1) hm hlc
  clear hm hlc
  cases hv : Log.ok ⟨next, l⟩
  · rw [hv] at HV
    have HX := Lib.hid (ages_no (l := ⟨next, l⟩) (now := now) (by rw [hv]; rfl))
    clear hv hr hw
    generalize l.length = n at *
    go_enter Try.func24, Try.ntmps24
    go_wp2_with (go_at_call 87; (with_reducible refine (HV _ (Below.refl _ _)).mono ?_); rintro e w1 ⟨rfl, hb⟩; obtain ⟨hc, hf⟩ := bcell hb; have hz : W.heap.size < w1.heap.size := (by have hs := hb.size; (try simp at hs) <;> omega); have hB : Below W.heap.size W w1 := (by first | exact below_step (by assumption) hb (by omega) | exact below_step (by repeat (first | with_reducible assumption | exact Below.refl _ _ | refine Below.setCell ?_ (by first | omega | (simp; done) | (simp; omega)) _ | refine Below.alloc ?_ (by first | omega | (simp; done) | (simp; omega)) _ | refine Below.drew ?_)) hb (by first | omega | (simp; done) | (simp; omega))))
    exact bodyPost_ret (v := .tuple #[.slice none 0 0, .bool false]) (by simp [results, Try.results24, go_sem]) rfl (madeIB_no HX.out (by (repeat (first | with_reducible assumption | with_reducible exact Below.refl _ _ | with_reducible refine Below.setCell ?_ ?_ _ | with_reducible refine Below.alloc ?_ ?_ _ | with_reducible refine Below.drew ?_ | with_reducible refine below_drewN ?_ _ | omega | (simp; done) | (simp; omega))); all_goals first | omega | (simp; done) | (simp; omega)))
  rw [hv] at HV
  cases ht : inB now 0 1000000
  · rw [ht] at HT
    have HX := Lib.hid (ages_no (l := ⟨next, l⟩) (now := now) (by rw [hv, ht]; rfl))
    clear hv hr hw ht
    generalize l.length = n at *
    go_enter Try.func24, Try.ntmps24
    go_wp2_with (first | (go_at_call 87; (with_reducible refine (HV _ (Below.refl _ _)).mono ?_); rintro e w1 ⟨rfl, hb⟩; obtain ⟨hc, hf⟩ := bcell hb; have hz : W.heap.size < w1.heap.size := (by have hs := hb.size; (try simp at hs) <;> omega); have hB : Below W.heap.size W w1 := (by first | exact below_step (by assumption) hb (by omega) | exact below_step (by repeat (first | with_reducible assumption | exact Below.refl _ _ | refine Below.setCell ?_ (by first | omega | (simp; done) | (simp; omega)) _ | refine Below.alloc ?_ (by first | omega | (simp; done) | (simp; omega)) _ | refine Below.drew ?_)) hb (by first | omega | (simp; done) | (simp; omega)))) | (go_at_call 88; (with_reducible refine (HT _).mono ?_); rintro e w' ⟨rfl, rfl⟩))
    exact bodyPost_ret (v := .tuple #[.slice none 0 0, .bool false]) (by simp [results, Try.results24, go_sem]) rfl (madeIB_no HX.out (by (repeat (first | with_reducible assumption | with_reducible exact Below.refl _ _ | with_reducible refine Below.setCell ?_ ?_ _ | with_reducible refine Below.alloc ?_ ?_ _ | with_reducible refine Below.drew ?_ | with_reducible refine below_drewN ?_ _ | omega | (simp; done) | (simp; omega))); all_goals first | omega | (simp; done) | (simp; omega)))
  rw [ht] at HT
  have HVT := Lib.hid (show (Log.ok ⟨next, l⟩ && inB now 0 1000000) = true from by rw [hv, ht]; rfl)
  have hnow := inB_yes ht
  have HMB := Lib.hid (show ∀ (j : Nat) (m : Message), l[j]? = some m → 0 ≤ m.xAt ∧ m.xAt ≤ 1000000 from fun j m h => by have := Message.bounds (Log.msg_ok hv h).1; omega)
  have hfew := (Log.few hv).1
  clear hv ht hw
  simp only at hfew
  generalize hn : l.length = n at *
  have HN := Lib.hid hn
  clear hn
  go_enter Try.func24, Try.ntmps24
  go_wp2_with (first | (go_at_call 87; (with_reducible refine (HV _ (Below.refl _ _)).mono ?_); rintro e w1 ⟨rfl, hb⟩; obtain ⟨hc, hf⟩ := bcell hb; have hz : W.heap.size < w1.heap.size := (by have hs := hb.size; (try simp at hs) <;> omega); have hB : Below W.heap.size W w1 := (by first | exact below_step (by assumption) hb (by omega) | exact below_step (by repeat (first | with_reducible assumption | exact Below.refl _ _ | refine Below.setCell ?_ (by first | omega | (simp; done) | (simp; omega)) _ | refine Below.alloc ?_ (by first | omega | (simp; done) | (simp; omega)) _ | refine Below.drew ?_)) hb (by first | omega | (simp; done) | (simp; omega)))) | (go_at_call 88; (with_reducible refine (HT _).mono ?_); rintro e w' ⟨rfl, rfl⟩))
  go_loopw [6, 19] (fun v k wr => ∃ j : Nat, j ≤ n ∧ k = .int .i64 j ∧ Hid (((l.take j).all fun m => decide (m.xAt ≤ now)) = true) ∧ (∃ F, Ow wr (ints ((l.take j).map fun m => now - m.xAt)) v F ∧ ∀ b, F b → W.heap.size + 1 ≤ b) ∧ Below (W.heap.size + 1) (W.alloc (.cells #[.int .i64 next, .slice A n c] 41)) wr) (fun _ k _ => n - (intOf k).toNat)
  case atStart => exact ⟨0, by omega, rfl, Lib.hid rfl, ⟨_, ints_own_nil _ _, fun b h => h.elim⟩, (hb.mono (by simp)).alloc (by have := hb.size; simp at this; omega) _⟩
  case round =>
    clear hc hf hB hb
    obtain ⟨j, hj, rfl, HQ, ⟨F, hO, hF⟩, hbw⟩ := hrel
    obtain ⟨hbx, hb, hsz⟩ := box_after hbw
    have k1 := hbx 1 _ rfl
    clear hbx
    by_cases hlt : j < n
    · obtain ⟨m, hmj⟩ := get_lt (l := l) (k := j) (by rw [HN.out]; exact hlt)
      obtain ⟨b, off, A7, cc7, rfl, hbl, hru, hcl⟩ := msg_at hr hmj
      have d2 : wr.cell? ⟨b, off + j * 8 + 2, none⟩ = some (.int .i64 m.xAt) := hcl wr hb 2 _ rfl
      have hlt' : (j : Int) < (n : Int) := by omega
      have hmb := HMB.out j m hmj
      by_cases hle : m.xAt ≤ now
      · have HS := Lib.hid (all_take_succ HQ.out hmj (by simp [hle]))
        have HT' := Lib.hid (map_take_succ (fun m : Message => now - m.xAt) hmj)
        clear hr hcl hru hmj
        go_wp2_with (at_builtin; refine dt_append1 rfl _ _ 29 2 rfl Try.underlying29 (.int .i64 0) 1 8 inf_int64 rfl (by decide) (by decide) (by rfl) hO #[.int .i64 (now - m.xAt)] (by rfl) [.int .i64 (now - m.xAt)] (fun _ => False) rfl (OwL.one (Ow.I _ _)) (by simp) (by simp only [List.length_map, List.length_take]; omega) ?_; intro v2 w2 F2 hO2 hk2 hF2)
        go_roundw
        case rel => exact ⟨j + 1, by omega, by go_num, HS, ⟨F2, by rw [HT'.out]; unfold ints; rw [List.map_append]; exact hO2, fun b h => by have := hF2 b h; simp at this; rcases this with h | h; exact hF b h; omega⟩, hbw.trans (hk2.below (by omega) hF)⟩
        case measure => simp [intOf]; omega
      · have HX := Lib.hid (ages_late (l := ⟨next, l⟩) hmj hle)
        clear hr hcl hru hmj
        go_wp2
        exact bodyPost_ret (v := .tuple #[.slice none 0 0, .bool false]) (by simp [results, Try.results24, go_sem]) rfl (madeIB_no HX.out (by (repeat (first | with_reducible assumption | with_reducible exact Below.refl _ _ | with_reducible refine Below.setCell ?_ ?_ _ | with_reducible refine Below.alloc ?_ ?_ _ | with_reducible refine Below.drew ?_ | with_reducible refine below_drewN ?_ _ | omega | (simp; done) | (simp; omega))); all_goals first | omega | (simp; done) | (simp; omega)))
    · obtain rfl : j = n := by omega
      have HX := Lib.hid (ages_yes (l := ⟨next, l⟩) HVT.out (by have := HQ.out; rw [List.take_of_length_le (by have := HN.out; omega)] at this; exact this))
      rw [List.take_of_length_le (by have := HN.out; omega)] at hO
      clear hr
      go_wp2
      exact bodyPost_ret (v := .tuple #[u6, .bool true]) (by simp [results, Try.results24, go_sem]) rfl (madeIB_yes HX.out hO hb (fun b h => by have := hF b h; omega))
theorem AgesOf_lawS (x : Log) (now : Int) (us : List Value) (W : World) (hr : RoL W (Lo W.heap.size) (Log.d true x) us) (hz : Log.z x ≤ 1048576) : Calls Try.prog 24 #[.agg us.toArray, .int .i64 now] W fun e w' =>
    ∃ A c, e = .returned (.tuple #[.slice A (AgesOf_f x now).1.length c, .bool (AgesOf_f x now).2]) ∧ Ro w' (Lo w'.heap.size) (ints (AgesOf_f x now).1) (.slice A (AgesOf_f x now).1.length c) ∧ Below W.heap.size W w' :=
  (spec_AgesOf x now us W hr (Log.texts hz)).mono fun e w' ⟨A, c, F, h1, h2, h3, _⟩ => ⟨A, c, h1, h2.lo, h3⟩
theorem AgesOf_lawI (x : Log) (now : Int) (us : List Value) (W : World) (hr : RoL W (Lo W.heap.size) (Log.d true x) us) (hz : Log.z x ≤ 1048576) : Calls Try.prog 26 #[.agg us.toArray, .int .i64 now] W fun e w' =>
    ∃ A c F, e = .returned (.tuple #[.slice A (AgesOf_f x now).1.length c, .bool (AgesOf_f x now).2]) ∧ Ow w' (ints (AgesOf_f x now).1) (.slice A (AgesOf_f x now).1.length c) F ∧ (∀ b, F b → W.heap.size ≤ b) ∧ Below W.heap.size W w' :=
  (impl_AgesOf x now us W hr (Log.texts hz)).mono fun e w' ⟨A, c, F, h1, h2, h3, h4⟩ => ⟨A, c, F, h1, h2, h4, h3⟩
theorem AgesOf_lawN (x : Log) (now : Int) (hz : Log.z x ≤ 1048576) : (AgesOf_f x now).1.length ≤ 1000000000000 := by
  have := ages_len x now
  have := Log.long (x := x)
  omega
end Go.Proofs.Ytmofbfeclecdoaa

/- The holes of a log. -/
import Derived.Test.YtmofbfeclecdoaaAges
namespace Go.Proofs.Ytmofbfeclecdoaa
open Go.ChangeShapes Go.WideShapes Go.ChangeAt Go.RowKit Go.Dt
set_option linter.unusedVariables false
set_option linter.unusedSimpArgs false
def gapTo (a : Int) (i : Nat) : List Int := (List.range i).map fun (t : Nat) => a + 1 + (t : Int)
theorem gapTo_succ (a : Int) (i : Nat) : gapTo a (i + 1) = gapTo a i ++ [a + 1 + (i : Int)] := by unfold gapTo; rw [List.range_succ, List.map_append]; rfl
theorem gapTo_len (a : Int) (i : Nat) : (gapTo a i).length = i := by simp [gapTo]
/-- What comes behind a message: the next one's number, or the log's next. -/
def Log.behind (l : Log) (j : Nat) : Int := match l.xMessages[j + 1]? with | some p => p.xNumber | none => l.xNext
def Log.holesTo (l : Log) : Nat → Option (List Int)
  | 0 => some []
  | j + 1 => match l.holesTo j, l.xMessages[j]? with
    | some out, some m => if l.behind j - m.xNumber - 1 + (out.length : Int) ≤ 300 then some (out ++ gapTo m.xNumber (l.behind j - m.xNumber - 1).toNat) else none
    | _, _ => none
theorem Log.holes_succ {l : Log} {j : Nat} {m : Message} {out : List Int} {to : Int} (h : l.holesTo j = some out) (hm : l.xMessages[j]? = some m) (ht : l.behind j = to) :
    l.holesTo (j + 1) = if to - m.xNumber - 1 + (out.length : Int) ≤ 300 then some (out ++ gapTo m.xNumber (to - m.xNumber - 1).toNat) else none := by
  subst ht
  show (match l.holesTo j, l.xMessages[j]? with
    | some out, some m => if l.behind j - m.xNumber - 1 + (out.length : Int) ≤ 300 then some (out ++ gapTo m.xNumber (l.behind j - m.xNumber - 1).toNat) else none
    | _, _ => none) = _
  rw [h, hm]
theorem Log.holes_none {l : Log} {j : Nat} (h : l.holesTo j = none) : ∀ k, j ≤ k → l.holesTo k = none := by
  intro k hk
  induction k with
  | zero => have : j = 0 := by omega
            subst this; exact h
  | succ k ih =>
    rcases Nat.lt_or_ge k j with h' | h'
    · have : j = k + 1 := by omega
      subst this; exact h
    · show (match l.holesTo k, l.xMessages[k]? with
        | some out, some m => if l.behind k - m.xNumber - 1 + (out.length : Int) ≤ 300 then some (out ++ gapTo m.xNumber (l.behind k - m.xNumber - 1).toNat) else none
        | _, _ => none) = none
      rw [ih h']
def HolesOf_f (l : Log) : List Int × Bool := if l.ok then (match l.holesTo l.xMessages.length with | some out => (out, true) | none => ([], false)) else ([], false)
theorem holes_bad {l : Log} (h : l.ok = false) : HolesOf_f l = ([], false) := by unfold HolesOf_f; rw [h]; rfl
theorem holes_many {l : Log} {j : Nat} (hv : l.ok = true) (h : l.holesTo j = none) (hj : j ≤ l.xMessages.length) : HolesOf_f l = ([], false) := by
  unfold HolesOf_f; rw [hv, Log.holes_none h _ hj]; rfl
theorem holes_all {l : Log} {n : Nat} {out : List Int} (hv : l.ok = true) (hn : l.xMessages.length = n) (h : l.holesTo n = some out) : HolesOf_f l = (out, true) := by
  unfold HolesOf_f; rw [hv, hn, h]; rfl
theorem holes_le {l : Log} {j : Nat} {out : List Int} (h : l.holesTo j = some out) (hb : ∀ j, 0 ≤ l.behind j ∧ l.behind j ≤ 1000000000) (hm : ∀ j m, l.xMessages[j]? = some m → m.xNumber < l.behind j) : out.length ≤ 300 := by
  cases j with
  | zero => have : out = [] := by simpa [Log.holesTo] using h.symm
            subst this; simp
  | succ j =>
    have h' : (match l.holesTo j, l.xMessages[j]? with
        | some out, some m => if l.behind j - m.xNumber - 1 + (out.length : Int) ≤ 300 then some (out ++ gapTo m.xNumber (l.behind j - m.xNumber - 1).toNat) else none
        | _, _ => none) = some out := h
    split at h'
    · rename_i o m ho hmj
      have := hm j m hmj
      split at h'
      · injection h' with h'
        rw [← h', List.length_append, gapTo_len]
        omega
      · cases h'
    · cases h'
theorem Log.rising {l : Log} (h : l.ok = true) {j : Nat} {m p : Message} (hj : l.xMessages[j]? = some m) (hp : l.xMessages[j + 1]? = some p) : m.xNumber < p.xNumber ∧ m.xAt ≤ p.xAt := by
  unfold Log.ok at h
  rw [Bool.and_eq_true] at h
  have := upTo_at h.1 (List.getElem?_eq_some_iff.1 hp).1
  rw [Log.right_succ hp hj] at this
  simp at this
  omega
theorem Log.behind_bd {l : Log} (h : l.ok = true) (j : Nat) : 0 ≤ l.behind j ∧ l.behind j ≤ 1000000000 := by
  unfold Log.behind
  split
  · rename_i p hp
    have := Message.bounds (Log.msg_ok h hp).1
    omega
  · have := Log.few h
    omega
theorem Log.behind_gt {l : Log} (h : l.ok = true) (j : Nat) (m : Message) (hm : l.xMessages[j]? = some m) : m.xNumber < l.behind j := by
  unfold Log.behind
  split
  · rename_i p hp
    exact (Log.rising h hm hp).1
  · exact (Log.msg_ok h hm).2
theorem holes_len {l : Log} : (HolesOf_f l).1.length ≤ 300 := by
  unfold HolesOf_f
  split
  · rename_i hv
    split
    · rename_i out ho
      exact holes_le ho (Log.behind_bd hv) (Log.behind_gt hv)
    · simp
  · simp
set_option maxHeartbeats 1600000 in
set_option maxRecDepth 100000 in
theorem impl_HolesOf (x : Log) (us : List Value) (W : World) (hr : RoL W (Lo W.heap.size) (Log.d true x) us) (hw : ∀ m ∈ x.xMessages, m.xText.size ≤ maxLen) :
    Calls Try.prog 33 #[.agg us.toArray] W (MadeIB W (HolesOf_f x)) := by
  have HV := fun (w : World) (hb : Below W.heap.size W w) => impl_ValidLog x us w (rol_to hr hb) hw
  obtain ⟨A, c, rfl, hr, hlc, hm⟩ := Log.cells hr
  have hlen : x.xMessages.length ≤ 9223372036854775807 := by simp only [maxLen] at hm; omega
  clear hm hlc
  obtain ⟨next, l⟩ := x
  simp only at *
  cases hv : Log.ok ⟨next, l⟩
  · rw [hv] at HV
    have HX := Lib.hid (holes_bad hv)
    clear hv hr hw
    generalize l.length = n at *
    go_enter Try.func33, Try.ntmps33
    go_wp2_with (go_at_call 41; (with_reducible refine (HV _ (by (repeat (first | with_reducible assumption | with_reducible exact Below.refl _ _ | with_reducible refine Below.setCell ?_ ?_ _ | with_reducible refine Below.alloc ?_ ?_ _ | with_reducible refine Below.drew ?_ | with_reducible refine below_drewN ?_ _ | omega | (simp; done) | (simp; omega))); all_goals first | omega | (simp; done) | (simp; omega))).mono ?_); rintro e w1 ⟨rfl, hb⟩; obtain ⟨hc, hf⟩ := bcell hb; have hz : W.heap.size < w1.heap.size := (by have hs := hb.size; (try simp at hs) <;> omega); have hB : Below W.heap.size W w1 := (by first | exact below_step (by assumption) hb (by omega) | exact below_step (by repeat (first | with_reducible assumption | exact Below.refl _ _ | refine Below.setCell ?_ (by first | omega | (simp; done) | (simp; omega)) _ | refine Below.alloc ?_ (by first | omega | (simp; done) | (simp; omega)) _ | refine Below.drew ?_)) hb (by first | omega | (simp; done) | (simp; omega))))
    exact bodyPost_ret (v := .tuple #[.slice none 0 0, .bool false]) (by simp [results, Try.results33, go_sem]) rfl (madeIB_no HX.out (by (repeat (first | with_reducible assumption | with_reducible exact Below.refl _ _ | with_reducible refine Below.setCell ?_ ?_ _ | with_reducible refine Below.alloc ?_ ?_ _ | with_reducible refine Below.drew ?_ | with_reducible refine below_drewN ?_ _ | omega | (simp; done) | (simp; omega))); all_goals first | omega | (simp; done) | (simp; omega)))
  rw [hv] at HV
  have HLE := Lib.hid (show ∀ (j : Nat) (out : List Int), Log.holesTo ⟨next, l⟩ j = some out → out.length ≤ 300 from fun j out h => holes_le h (Log.behind_bd hv) (Log.behind_gt hv))
  have HBD := Lib.hid (Log.behind_bd hv)
  have HMB := Lib.hid (show ∀ (j : Nat) (m : Message), l[j]? = some m → 1 ≤ m.xNumber ∧ m.xNumber ≤ 1000000000 ∧ m.xNumber < Log.behind ⟨next, l⟩ j from fun j m h => ⟨(Message.bounds (Log.msg_ok hv h).1).1, (Message.bounds (Log.msg_ok hv h).1).2.1, Log.behind_gt hv j m h⟩)
  have hfew := (Log.few hv).1
  have HVV := Lib.hid hv
  clear hv hw
  simp only at hfew
  generalize hn : l.length = n at *
  have HN := Lib.hid hn
  clear hn
  go_enter Try.func33, Try.ntmps33
  go_wp2_with (go_at_call 41; (with_reducible refine (HV _ (by (repeat (first | with_reducible assumption | with_reducible exact Below.refl _ _ | with_reducible refine Below.setCell ?_ ?_ _ | with_reducible refine Below.alloc ?_ ?_ _ | with_reducible refine Below.drew ?_ | with_reducible refine below_drewN ?_ _ | omega | (simp; done) | (simp; omega))); all_goals first | omega | (simp; done) | (simp; omega))).mono ?_); rintro e w1 ⟨rfl, hb⟩; obtain ⟨hc, hf⟩ := bcell hb; have hz : W.heap.size < w1.heap.size := (by have hs := hb.size; (try simp at hs) <;> omega); have hB : Below W.heap.size W w1 := (by first | exact below_step (by assumption) hb (by omega) | exact below_step (by repeat (first | with_reducible assumption | exact Below.refl _ _ | refine Below.setCell ?_ (by first | omega | (simp; done) | (simp; omega)) _ | refine Below.alloc ?_ (by first | omega | (simp; done) | (simp; omega)) _ | refine Below.drew ?_)) hb (by first | omega | (simp; done) | (simp; omega))))
  go_loopw [4, 16] (fun v k wr => ∃ (j : Nat) (out : List Int), j ≤ n ∧ k = .int .i64 j ∧ Hid (Log.holesTo ⟨next, l⟩ j = some out) ∧ (∃ F, Ow wr (ints out) v F ∧ ∀ b, F b → W.heap.size + 1 ≤ b) ∧ Below (W.heap.size + 1) (W.alloc (.cells #[.int .i64 next, .slice A n c] 41)) wr) (fun _ k _ => n - (intOf k).toNat)
  case atStart => exact ⟨0, [], by omega, rfl, Lib.hid rfl, ⟨_, ints_own_nil _ _, fun b h => h.elim⟩, (hb.mono (by simp)).alloc (by have := hb.size; simp at this; omega) _⟩
  case round =>
    clear hc hf hB hb
    obtain ⟨j, out, hj, rfl, HQ, ⟨F, hO, hF⟩, hbw⟩ := hrel
    obtain ⟨hbx, hb, hsz⟩ := box_after hbw
    have k0 := hbx 0 _ rfl
    have k1 := hbx 1 _ rfl
    clear hbx
    obtain ⟨wo, rfl⟩ : ∃ wo : World, wo = wr := ⟨_, rfl⟩
    obtain ⟨Ao, co, rfl, hol, hom⟩ := hO.shape
    simp only [List.length_map] at hol hO ⊢
    have hout := HLE.out j out HQ.out
    by_cases hlt : j < n
    · obtain ⟨m, hmj⟩ := get_lt (l := l) (k := j) (by rw [HN.out]; exact hlt)
      obtain ⟨b, off, A7, cc7, rfl, hbl, hru, hcl⟩ := msg_at hr hmj
      have c0 : wo.cell? ⟨b, off + j * 8, none⟩ = some (.int .i64 m.xNumber) := hcl wo hb 0 _ rfl; have c1 : wo.cell? ⟨b, off + j * 8 + 1, none⟩ = some (.int .i64 m.xSender) := hcl wo hb 1 _ rfl; have c2 : wo.cell? ⟨b, off + j * 8 + 2, none⟩ = some (.int .i64 m.xAt) := hcl wo hb 2 _ rfl; have c3 : wo.cell? ⟨b, off + j * 8 + 3, none⟩ = some (.string m.xText) := hcl wo hb 3 _ rfl; have c4 : wo.cell? ⟨b, off + j * 8 + 4, none⟩ = some (.int .i64 m.xEdits) := hcl wo hb 4 _ rfl; have c5 : wo.cell? ⟨b, off + j * 8 + 5, none⟩ = some (.bool m.xGone) := hcl wo hb 5 _ rfl; have c6 : wo.cell? ⟨b, off + j * 8 + 6, none⟩ = some (.int .i64 m.xReply) := hcl wo hb 6 _ rfl; have c7 : wo.cell? ⟨b, off + j * 8 + 7, none⟩ = some (.slice A7 m.xLikes.length cc7) := hcl wo hb 7 _ rfl
      have hbl2 : b < wo.heap.size := Nat.lt_of_lt_of_le hbl hb.size
      have hmb := HMB.out j m hmj
      have hbd := HBD.out j
      generalize hto : Log.behind ⟨next, l⟩ j = to at *
      have HS := Lib.hid (Log.holes_succ (l := ⟨next, l⟩) HQ.out hmj hto)
      have HTO := Lib.hid hto
      by_cases hlast : j + 1 < n
      · obtain ⟨p, hpj⟩ := get_lt (l := l) (k := j + 1) (by rw [HN.out]; exact hlast)
        obtain ⟨b', off', A7', cc7', hbo, hbl', hru', hcl'⟩ := msg_at hr hpj
        injection hbo with hbo; injection hbo with e1 e2; subst e1; subst e2
        have e0 : wo.cell? ⟨b, off + (j + 1) * 8, none⟩ = some (.int .i64 p.xNumber) := hcl' wo hb 0 _ rfl
        have htp : p.xNumber = to := by rw [← HTO.out]; unfold Log.behind; simp only; rw [hpj]
        subst htp
        have hg : decide ((j : Int) + 1 < (n : Int)) = true := by simp <;> omega
        clear hr hcl hru hmj hpj hcl' hru' hto
        by_cases hmany : p.xNumber - m.xNumber - 1 + (out.length : Int) ≤ 300
        · have HS' := Lib.hid (HS.out.trans (if_pos hmany))
          go_wp2
          go_loopw [4, 8] (fun v q wi => ∃ i : Nat, i ≤ (p.xNumber - m.xNumber - 1).toNat ∧ q = .int .i64 (m.xNumber + 1 + (i : Int)) ∧ (∃ F, Ow wi (ints (out ++ gapTo m.xNumber i)) v F ∧ ∀ b, F b → W.heap.size + 1 ≤ b) ∧ Below (W.heap.size + 1) (W.alloc (.cells #[.int .i64 next, .slice (some ⟨b, off, none⟩) n c] 41)) wi) (fun _ q _ => (p.xNumber - intOf q).toNat)
          case atStart => exact ⟨0, by omega, by simp, ⟨F, by rw [show gapTo m.xNumber 0 = [] from rfl, List.append_nil]; exact hO.alloc _, hF⟩, hbw.alloc (by omega) _⟩
          case round =>
            obtain ⟨i, hi, rfl, ⟨F', hO, hF'⟩, hbi⟩ := hrel
            obtain ⟨hbx, hbI, hsI⟩ := box_after hbi
            clear hbx
            by_cases hlt2 : m.xNumber + 1 + (i : Int) < p.xNumber
            · have HG := Lib.hid (gapTo_succ m.xNumber i)
              go_wp2_with (at_builtin; refine dt_append1 rfl _ _ 29 2 rfl Try.underlying29 (.int .i64 0) 1 8 inf_int64 rfl (by decide) (by decide) (by rfl) hO #[.int .i64 (m.xNumber + 1 + (i : Int))] (by rfl) [.int .i64 (m.xNumber + 1 + (i : Int))] (fun _ => False) rfl (OwL.one (Ow.I _ _)) (by simp) (by simp only [List.length_map, List.length_append, gapTo_len]; omega) ?_; intro v2 w2 F2 hO2 hk2 hF2)
              go_roundw
              case rel => exact ⟨i + 1, by omega, by congr 1; push_cast; omega, ⟨F2, by rw [HG.out, ← List.append_assoc]; unfold ints; rw [List.map_append]; exact hO2, fun b h => by have := hF2 b h; simp at this; rcases this with h | h; exact hF' b h; omega⟩, hbi.trans (hk2.below (by omega) hF')⟩
              case measure => simp [intOf]; omega
            · have hie : i = (p.xNumber - m.xNumber - 1).toNat := by omega
              have HIE := Lib.hid hie
              clear hie
              go_wp2
              go_roundw
              case rel => exact ⟨j + 1, _, by omega, by go_num, HS', ⟨F', by rw [← HIE.out]; exact hO, hF'⟩, hbi⟩
              case measure => simp [intOf]; omega
        · have HX := Lib.hid (holes_many (l := ⟨next, l⟩) HVV.out (HS.out.trans (if_neg hmany)) (by simp only [HN.out]; omega))
          go_wp2
          exact bodyPost_ret (v := .tuple #[.slice none 0 0, .bool false]) (by simp [results, Try.results33, go_sem]) rfl (madeIB_no HX.out (by (repeat (first | with_reducible assumption | with_reducible exact Below.refl _ _ | with_reducible refine Below.setCell ?_ ?_ _ | with_reducible refine Below.alloc ?_ ?_ _ | with_reducible refine Below.drew ?_ | with_reducible refine below_drewN ?_ _ | omega | (simp; done) | (simp; omega))); all_goals first | omega | (simp; done) | (simp; omega)))
      · have htp : next = to := by rw [← HTO.out]; unfold Log.behind; simp only; rw [List.getElem?_eq_none (by have := HN.out; omega)]
        subst htp
        have hg : decide ((j : Int) + 1 < (n : Int)) = false := by simp <;> omega
        clear hr hcl hru hmj hto
        by_cases hmany : next - m.xNumber - 1 + (out.length : Int) ≤ 300
        · have HS' := Lib.hid (HS.out.trans (if_pos hmany))
          go_wp2
          go_loopw [4, 8] (fun v q wi => ∃ i : Nat, i ≤ (next - m.xNumber - 1).toNat ∧ q = .int .i64 (m.xNumber + 1 + (i : Int)) ∧ (∃ F, Ow wi (ints (out ++ gapTo m.xNumber i)) v F ∧ ∀ b, F b → W.heap.size + 1 ≤ b) ∧ Below (W.heap.size + 1) (W.alloc (.cells #[.int .i64 next, .slice (some ⟨b, off, none⟩) n c] 41)) wi) (fun _ q _ => (next - intOf q).toNat)
          case atStart => exact ⟨0, by omega, by simp, ⟨F, by rw [show gapTo m.xNumber 0 = [] from rfl, List.append_nil]; exact hO.alloc _, hF⟩, hbw.alloc (by omega) _⟩
          case round =>
            obtain ⟨i, hi, rfl, ⟨F', hO, hF'⟩, hbi⟩ := hrel
            obtain ⟨hbx, hbI, hsI⟩ := box_after hbi
            clear hbx
            by_cases hlt2 : m.xNumber + 1 + (i : Int) < next
            · have HG := Lib.hid (gapTo_succ m.xNumber i)
              go_wp2_with (at_builtin; refine dt_append1 rfl _ _ 29 2 rfl Try.underlying29 (.int .i64 0) 1 8 inf_int64 rfl (by decide) (by decide) (by rfl) hO #[.int .i64 (m.xNumber + 1 + (i : Int))] (by rfl) [.int .i64 (m.xNumber + 1 + (i : Int))] (fun _ => False) rfl (OwL.one (Ow.I _ _)) (by simp) (by simp only [List.length_map, List.length_append, gapTo_len]; omega) ?_; intro v2 w2 F2 hO2 hk2 hF2)
              go_roundw
              case rel => exact ⟨i + 1, by omega, by congr 1; push_cast; omega, ⟨F2, by rw [HG.out, ← List.append_assoc]; unfold ints; rw [List.map_append]; exact hO2, fun b h => by have := hF2 b h; simp at this; rcases this with h | h; exact hF' b h; omega⟩, hbi.trans (hk2.below (by omega) hF')⟩
              case measure => simp [intOf]; omega
            · have hie : i = (next - m.xNumber - 1).toNat := by omega
              have HIE := Lib.hid hie
              clear hie
              go_wp2
              go_roundw
              case rel => exact ⟨j + 1, _, by omega, by go_num, HS', ⟨F', by rw [← HIE.out]; exact hO, hF'⟩, hbi⟩
              case measure => simp [intOf]; omega
        · have HX := Lib.hid (holes_many (l := ⟨next, l⟩) HVV.out (HS.out.trans (if_neg hmany)) (by simp only [HN.out]; omega))
          go_wp2
          exact bodyPost_ret (v := .tuple #[.slice none 0 0, .bool false]) (by simp [results, Try.results33, go_sem]) rfl (madeIB_no HX.out (by (repeat (first | with_reducible assumption | with_reducible exact Below.refl _ _ | with_reducible refine Below.setCell ?_ ?_ _ | with_reducible refine Below.alloc ?_ ?_ _ | with_reducible refine Below.drew ?_ | with_reducible refine below_drewN ?_ _ | omega | (simp; done) | (simp; omega))); all_goals first | omega | (simp; done) | (simp; omega)))
    · obtain rfl : j = n := by omega
      have HX := Lib.hid (holes_all (l := ⟨next, l⟩) HVV.out HN.out HQ.out)
      clear hr
      go_wp2
      exact bodyPost_ret (v := .tuple #[.slice Ao out.length co, .bool true]) (by simp [results, Try.results33, go_sem]) rfl (madeIB_yes HX.out hO hb (fun b h => by have := hF b h; omega))
set_option maxHeartbeats 1600000 in
set_option maxRecDepth 100000 in
theorem spec_HolesOf (x : Log) (us : List Value) (W : World) (hr : RoL W (Lo W.heap.size) (Log.d true x) us) (hw : ∀ m ∈ x.xMessages, m.xText.size ≤ maxLen) :
    Calls Try.prog 32 #[.agg us.toArray] W (MadeIB W (HolesOf_f x)) := by
  obtain ⟨A, c, rfl, hr, hlc, hm⟩ := Log.cells hr
  have hlen : x.xMessages.length ≤ 9223372036854775807 := by simp only [maxLen] at hm; omega
  obtain ⟨next, l⟩ := x
  simp only at *
  have HV := fun (w : World) (hbw : Below (W.heap.size + 1) (W.alloc (.cells #[.int .i64 next, .slice A l.length c] 41)) w) => spec_l03Is ⟨next, l⟩ W.heap.size 0 A c w hw ((box_after hbw).1 0 _ rfl) ((box_after hbw).1 1 _ rfl) (ro_to hr (box_after hbw).2.1) hm hlc
  clear hm hlc
  cases hv : Log.ok ⟨next, l⟩
  · rw [hv] at HV
    have HX := Lib.hid (holes_bad hv)
    clear hv hr hw
    generalize l.length = n at *
    go_enter Try.func32, Try.ntmps32
    go_wp2_with (go_at_call 87; (with_reducible refine (HV _ (Below.refl _ _)).mono ?_); rintro e w1 ⟨rfl, hb⟩; obtain ⟨hc, hf⟩ := bcell hb; have hz : W.heap.size < w1.heap.size := (by have hs := hb.size; (try simp at hs) <;> omega); have hB : Below W.heap.size W w1 := (by first | exact below_step (by assumption) hb (by omega) | exact below_step (by repeat (first | with_reducible assumption | exact Below.refl _ _ | refine Below.setCell ?_ (by first | omega | (simp; done) | (simp; omega)) _ | refine Below.alloc ?_ (by first | omega | (simp; done) | (simp; omega)) _ | refine Below.drew ?_)) hb (by first | omega | (simp; done) | (simp; omega))))
    exact bodyPost_ret (v := .tuple #[.slice none 0 0, .bool false]) (by simp [results, Try.results32, go_sem]) rfl (madeIB_no HX.out (by (repeat (first | with_reducible assumption | with_reducible exact Below.refl _ _ | with_reducible refine Below.setCell ?_ ?_ _ | with_reducible refine Below.alloc ?_ ?_ _ | with_reducible refine Below.drew ?_ | with_reducible refine below_drewN ?_ _ | omega | (simp; done) | (simp; omega))); all_goals first | omega | (simp; done) | (simp; omega)))
  rw [hv] at HV
  have HLE := Lib.hid (show ∀ (j : Nat) (out : List Int), Log.holesTo ⟨next, l⟩ j = some out → out.length ≤ 300 from fun j out h => holes_le h (Log.behind_bd hv) (Log.behind_gt hv))
  have HBD := Lib.hid (Log.behind_bd hv)
  have HMB := Lib.hid (show ∀ (j : Nat) (m : Message), l[j]? = some m → 1 ≤ m.xNumber ∧ m.xNumber ≤ 1000000000 ∧ m.xNumber < Log.behind ⟨next, l⟩ j from fun j m h => ⟨(Message.bounds (Log.msg_ok hv h).1).1, (Message.bounds (Log.msg_ok hv h).1).2.1, Log.behind_gt hv j m h⟩)
  have hfew := (Log.few hv).1
  have HVV := Lib.hid hv
  clear hv hw
  simp only at hfew
  generalize hn : l.length = n at *
  have HN := Lib.hid hn
  clear hn
  by_cases h0 : n = 0
  · subst h0
    have HX := Lib.hid (holes_all (l := ⟨next, l⟩) HVV.out HN.out (show Log.holesTo ⟨next, l⟩ 0 = some [] from rfl))
    go_enter Try.func32, Try.ntmps32
    go_wp2_with (go_at_call 87; (with_reducible refine (HV _ (Below.refl _ _)).mono ?_); rintro e w1 ⟨rfl, hb⟩; obtain ⟨hc, hf⟩ := bcell hb; have hz : W.heap.size < w1.heap.size := (by have hs := hb.size; (try simp at hs) <;> omega); have hB : Below W.heap.size W w1 := (by first | exact below_step (by assumption) hb (by omega) | exact below_step (by repeat (first | with_reducible assumption | exact Below.refl _ _ | refine Below.setCell ?_ (by first | omega | (simp; done) | (simp; omega)) _ | refine Below.alloc ?_ (by first | omega | (simp; done) | (simp; omega)) _ | refine Below.drew ?_)) hb (by first | omega | (simp; done) | (simp; omega))))
    exact bodyPost_ret (v := .tuple #[.slice (some ⟨w1.heap.size, 0, none⟩) 0 0, .bool true]) (by simp [results, Try.results32, go_sem]) rfl (madeIB_yes HX.out (ints_own_nil _ _) (by (repeat (first | with_reducible assumption | with_reducible exact Below.refl _ _ | with_reducible refine Below.setCell ?_ ?_ _ | with_reducible refine Below.alloc ?_ ?_ _ | with_reducible refine Below.drew ?_ | with_reducible refine below_drewN ?_ _ | omega | (simp; done) | (simp; omega))); all_goals first | omega | (simp; done) | (simp; omega)) (fun b h => h.elim))
  have hB0 : ((n : Int) == 0) = false := by simp; omega
  go_enter Try.func32, Try.ntmps32
  go_wp2_with (go_at_call 87; (with_reducible refine (HV _ (Below.refl _ _)).mono ?_); rintro e w1 ⟨rfl, hb⟩; obtain ⟨hc, hf⟩ := bcell hb; have hz : W.heap.size < w1.heap.size := (by have hs := hb.size; (try simp at hs) <;> omega); have hB : Below W.heap.size W w1 := (by first | exact below_step (by assumption) hb (by omega) | exact below_step (by repeat (first | with_reducible assumption | exact Below.refl _ _ | refine Below.setCell ?_ (by first | omega | (simp; done) | (simp; omega)) _ | refine Below.alloc ?_ (by first | omega | (simp; done) | (simp; omega)) _ | refine Below.drew ?_)) hb (by first | omega | (simp; done) | (simp; omega))))
  go_loopw [4, 19] (fun v k wr => ∃ (j : Nat) (out : List Int), j ≤ n ∧ k = .int .i64 j ∧ Hid (Log.holesTo ⟨next, l⟩ j = some out) ∧ (∃ F, Ow wr (ints out) v F ∧ ∀ b, F b → W.heap.size + 1 ≤ b) ∧ Below (W.heap.size + 1) (W.alloc (.cells #[.int .i64 next, .slice A n c] 41)) wr) (fun _ k _ => n - (intOf k).toNat)
  case atStart => exact ⟨0, [], by omega, rfl, Lib.hid rfl, ⟨_, ints_own_nil _ _, fun b h => h.elim⟩, (hb.mono (by simp)).alloc (by have := hb.size; simp at this; omega) _⟩
  case round =>
    clear hc hf hB hb
    obtain ⟨j, out, hj, rfl, HQ, ⟨F, hO, hF⟩, hbw⟩ := hrel
    obtain ⟨hbx, hb, hsz⟩ := box_after hbw
    have k0 := hbx 0 _ rfl
    have k1 := hbx 1 _ rfl
    clear hbx
    obtain ⟨wo, rfl⟩ : ∃ wo : World, wo = wr := ⟨_, rfl⟩
    obtain ⟨Ao, co, rfl, hol, hom⟩ := hO.shape
    simp only [List.length_map] at hol hO ⊢
    have hout := HLE.out j out HQ.out
    by_cases hlt : j < n
    · obtain ⟨m, hmj⟩ := get_lt (l := l) (k := j) (by rw [HN.out]; exact hlt)
      obtain ⟨b, off, A7, cc7, rfl, hbl, hru, hcl⟩ := msg_at hr hmj
      have d0 : wo.cell? ⟨b, off + j * 8, none⟩ = some (.int .i64 m.xNumber) := hcl wo hb 0 _ rfl
      have hlt' : (j : Int) < (n : Int) := by omega
      have hmb := HMB.out j m hmj
      have hbd := HBD.out j
      generalize hto : Log.behind ⟨next, l⟩ j = to at *
      have HS := Lib.hid (Log.holes_succ (l := ⟨next, l⟩) HQ.out hmj hto)
      have HTO := Lib.hid hto
      by_cases hlast : j + 1 < n
      · obtain ⟨p, hpj⟩ := get_lt (l := l) (k := j + 1) (by rw [HN.out]; exact hlast)
        obtain ⟨b', off', A7', cc7', hbo, hbl', hru', hcl'⟩ := msg_at hr hpj
        injection hbo with hbo; injection hbo with e1 e2; subst e1; subst e2
        have e0 : wo.cell? ⟨b, off + (j + 1) * 8, none⟩ = some (.int .i64 p.xNumber) := hcl' wo hb 0 _ rfl
        have htp : p.xNumber = to := by rw [← HTO.out]; unfold Log.behind; simp only; rw [hpj]
        subst htp
        have hg : decide ((j : Int) + 1 < (n : Int)) = true := by simp <;> omega
        clear hr hcl hru hmj hpj hcl' hru' hto
        by_cases hmany : p.xNumber - m.xNumber - 1 + (out.length : Int) ≤ 300
        · have HS' := Lib.hid (HS.out.trans (if_pos hmany))
          go_wp2
          go_loopw [4, 7] (fun v q wi => ∃ i : Nat, i ≤ (p.xNumber - m.xNumber - 1).toNat ∧ q = .int .i64 (m.xNumber + 1 + (i : Int)) ∧ (∃ F, Ow wi (ints (out ++ gapTo m.xNumber i)) v F ∧ ∀ b, F b → W.heap.size + 1 ≤ b) ∧ Below (W.heap.size + 1) (W.alloc (.cells #[.int .i64 next, .slice (some ⟨b, off, none⟩) n c] 41)) wi) (fun _ q _ => (p.xNumber - intOf q).toNat)
          case atStart => exact ⟨0, by omega, by simp, ⟨F, by rw [show gapTo m.xNumber 0 = [] from rfl, List.append_nil]; exact hO, hF⟩, hbw⟩
          case round =>
            obtain ⟨i, hi, rfl, ⟨F', hO, hF'⟩, hbi⟩ := hrel
            obtain ⟨hbx, hbI, hsI⟩ := box_after hbi
            clear hbx
            by_cases hlt2 : m.xNumber + 1 + (i : Int) < p.xNumber
            · have HG := Lib.hid (gapTo_succ m.xNumber i)
              go_wp2_with (at_builtin; refine dt_append1 rfl _ _ 29 2 rfl Try.underlying29 (.int .i64 0) 1 8 inf_int64 rfl (by decide) (by decide) (by rfl) hO #[.int .i64 (m.xNumber + 1 + (i : Int))] (by rfl) [.int .i64 (m.xNumber + 1 + (i : Int))] (fun _ => False) rfl (OwL.one (Ow.I _ _)) (by simp) (by simp only [List.length_map, List.length_append, gapTo_len]; omega) ?_; intro v2 w2 F2 hO2 hk2 hF2)
              go_roundw
              case rel => exact ⟨i + 1, by omega, by congr 1; push_cast; omega, ⟨F2, by rw [HG.out, ← List.append_assoc]; unfold ints; rw [List.map_append]; exact hO2, fun b h => by have := hF2 b h; simp at this; rcases this with h | h; exact hF' b h; omega⟩, hbi.trans (hk2.below (by omega) hF')⟩
              case measure => simp [intOf]; omega
            · have hie : i = (p.xNumber - m.xNumber - 1).toNat := by omega
              have HIE := Lib.hid hie
              clear hie
              go_wp2
              go_roundw
              case rel => exact ⟨j + 1, _, by omega, by go_num, HS', ⟨F', by rw [← HIE.out]; exact hO, hF'⟩, hbi⟩
              case measure => simp [intOf]; omega
        · have HX := Lib.hid (holes_many (l := ⟨next, l⟩) HVV.out (HS.out.trans (if_neg hmany)) (by simp only [HN.out]; omega))
          go_wp2
          exact bodyPost_ret (v := .tuple #[.slice none 0 0, .bool false]) (by simp [results, Try.results32, go_sem]) rfl (madeIB_no HX.out (by (repeat (first | with_reducible assumption | with_reducible exact Below.refl _ _ | with_reducible refine Below.setCell ?_ ?_ _ | with_reducible refine Below.alloc ?_ ?_ _ | with_reducible refine Below.drew ?_ | with_reducible refine below_drewN ?_ _ | omega | (simp; done) | (simp; omega))); all_goals first | omega | (simp; done) | (simp; omega)))
      · have htp : next = to := by rw [← HTO.out]; unfold Log.behind; simp only; rw [List.getElem?_eq_none (by have := HN.out; omega)]
        subst htp
        have hg : decide ((j : Int) + 1 < (n : Int)) = false := by simp <;> omega
        clear hr hcl hru hmj hto
        by_cases hmany : next - m.xNumber - 1 + (out.length : Int) ≤ 300
        · have HS' := Lib.hid (HS.out.trans (if_pos hmany))
          go_wp2
          go_loopw [4, 7] (fun v q wi => ∃ i : Nat, i ≤ (next - m.xNumber - 1).toNat ∧ q = .int .i64 (m.xNumber + 1 + (i : Int)) ∧ (∃ F, Ow wi (ints (out ++ gapTo m.xNumber i)) v F ∧ ∀ b, F b → W.heap.size + 1 ≤ b) ∧ Below (W.heap.size + 1) (W.alloc (.cells #[.int .i64 next, .slice (some ⟨b, off, none⟩) n c] 41)) wi) (fun _ q _ => (next - intOf q).toNat)
          case atStart => exact ⟨0, by omega, by simp, ⟨F, by rw [show gapTo m.xNumber 0 = [] from rfl, List.append_nil]; exact hO, hF⟩, hbw⟩
          case round =>
            obtain ⟨i, hi, rfl, ⟨F', hO, hF'⟩, hbi⟩ := hrel
            obtain ⟨hbx, hbI, hsI⟩ := box_after hbi
            clear hbx
            by_cases hlt2 : m.xNumber + 1 + (i : Int) < next
            · have HG := Lib.hid (gapTo_succ m.xNumber i)
              go_wp2_with (at_builtin; refine dt_append1 rfl _ _ 29 2 rfl Try.underlying29 (.int .i64 0) 1 8 inf_int64 rfl (by decide) (by decide) (by rfl) hO #[.int .i64 (m.xNumber + 1 + (i : Int))] (by rfl) [.int .i64 (m.xNumber + 1 + (i : Int))] (fun _ => False) rfl (OwL.one (Ow.I _ _)) (by simp) (by simp only [List.length_map, List.length_append, gapTo_len]; omega) ?_; intro v2 w2 F2 hO2 hk2 hF2)
              go_roundw
              case rel => exact ⟨i + 1, by omega, by congr 1; push_cast; omega, ⟨F2, by rw [HG.out, ← List.append_assoc]; unfold ints; rw [List.map_append]; exact hO2, fun b h => by have := hF2 b h; simp at this; rcases this with h | h; exact hF' b h; omega⟩, hbi.trans (hk2.below (by omega) hF')⟩
              case measure => simp [intOf]; omega
            · have hie : i = (next - m.xNumber - 1).toNat := by omega
              have HIE := Lib.hid hie
              clear hie
              go_wp2
              go_roundw
              case rel => exact ⟨j + 1, _, by omega, by go_num, HS', ⟨F', by rw [← HIE.out]; exact hO, hF'⟩, hbi⟩
              case measure => simp [intOf]; omega
        · have HX := Lib.hid (holes_many (l := ⟨next, l⟩) HVV.out (HS.out.trans (if_neg hmany)) (by simp only [HN.out]; omega))
          go_wp2
          exact bodyPost_ret (v := .tuple #[.slice none 0 0, .bool false]) (by simp [results, Try.results32, go_sem]) rfl (madeIB_no HX.out (by (repeat (first | with_reducible assumption | with_reducible exact Below.refl _ _ | with_reducible refine Below.setCell ?_ ?_ _ | with_reducible refine Below.alloc ?_ ?_ _ | with_reducible refine Below.drew ?_ | with_reducible refine below_drewN ?_ _ | omega | (simp; done) | (simp; omega))); all_goals first | omega | (simp; done) | (simp; omega)))
    · obtain rfl : j = n := by omega
      have HX := Lib.hid (holes_all (l := ⟨next, l⟩) HVV.out HN.out HQ.out)
      clear hr
      go_wp2
      exact bodyPost_ret (v := .tuple #[.slice Ao out.length co, .bool true]) (by simp [results, Try.results32, go_sem]) rfl (madeIB_yes HX.out hO hb (fun b h => by have := hF b h; omega))
theorem HolesOf_lawS (x : Log) (us : List Value) (W : World) (hr : RoL W (Lo W.heap.size) (Log.d true x) us) (hz : Log.z x ≤ 1048576) : Calls Try.prog 32 #[.agg us.toArray] W fun e w' =>
    ∃ A c, e = .returned (.tuple #[.slice A (HolesOf_f x).1.length c, .bool (HolesOf_f x).2]) ∧ Ro w' (Lo w'.heap.size) (ints (HolesOf_f x).1) (.slice A (HolesOf_f x).1.length c) ∧ Below W.heap.size W w' :=
  (spec_HolesOf x us W hr (Log.texts hz)).mono fun e w' ⟨A, c, F, h1, h2, h3, _⟩ => ⟨A, c, h1, h2.lo, h3⟩
theorem HolesOf_lawI (x : Log) (us : List Value) (W : World) (hr : RoL W (Lo W.heap.size) (Log.d true x) us) (hz : Log.z x ≤ 1048576) : Calls Try.prog 33 #[.agg us.toArray] W fun e w' =>
    ∃ A c F, e = .returned (.tuple #[.slice A (HolesOf_f x).1.length c, .bool (HolesOf_f x).2]) ∧ Ow w' (ints (HolesOf_f x).1) (.slice A (HolesOf_f x).1.length c) F ∧ (∀ b, F b → W.heap.size ≤ b) ∧ Below W.heap.size W w' :=
  (impl_HolesOf x us W hr (Log.texts hz)).mono fun e w' ⟨A, c, F, h1, h2, h3, h4⟩ => ⟨A, c, F, h1, h2, h4, h3⟩
theorem HolesOf_lawN (x : Log) (hz : Log.z x ≤ 1048576) : (HolesOf_f x).1.length ≤ 1000000000000 := Nat.le_trans holes_len (by decide)
end Go.Proofs.Ytmofbfeclecdoaa

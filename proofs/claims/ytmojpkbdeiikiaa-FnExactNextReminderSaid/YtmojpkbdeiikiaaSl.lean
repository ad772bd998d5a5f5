/- Walks of the library's functions on slices of structs, with a closure; of the reminders' lists. -/
import Derived.Test.YtmojpkbdeiikiaaArm
import Derived.Test.YtmojpkbdeiikiaaRem
import Derived.Test.YtmojpkbdeiikiaaInts
import Derived.Deep.LoopGhost
import Derived.StillTailTactics
namespace Go.Proofs.Ytmojpkbdeiikiaa
open Go.ChangeShapes Go.WideShapes Go.ChangeAt Go.RowKit Go.Dt
set_option linter.unusedVariables false
set_option linter.unusedSimpArgs false

def idx {α : Type} (p : α → Bool) (l : List α) : Int := match l.findIdx? p with | some i => i | none => -1
theorem idx_found {α : Type} {p : α → Bool} {l : List α} {j : Nat} {x : α} (hx : l[j]? = some x) (hp : p x = true) (hq : ∀ q y, q < j → l[q]? = some y → p y = false) : idx p l = j := by
  have : l.findIdx? p = some j := by
    rw [List.findIdx?_eq_some_iff_getElem]
    obtain ⟨h, rfl⟩ := List.getElem?_eq_some_iff.1 hx
    exact ⟨h, hp, fun q hq' => by simpa using hq q _ hq' (List.getElem?_eq_getElem (by omega))⟩
  simp [idx, this]
theorem idx_none {α : Type} {p : α → Bool} {l : List α} (hq : ∀ q y, q < l.length → l[q]? = some y → p y = false) : idx p l = -1 := by
  have : l.findIdx? p = none := by
    rw [List.findIdx?_eq_none_iff]
    intro y hy
    obtain ⟨q, h, rfl⟩ := List.getElem_of_mem hy
    exact hq q _ h (List.getElem?_eq_getElem h)
  simp [idx, this]
theorem idx_any {α : Type} (p : α → Bool) (l : List α) : decide (0 ≤ idx p l) = l.any p := by
  unfold idx
  rw [List.any_eq_not_all_not]
  cases h : l.findIdx? p with
  | none =>
    rw [List.findIdx?_eq_none_iff] at h
    simpa using h
  | some i =>
    rw [List.findIdx?_eq_some_iff_getElem] at h
    obtain ⟨h1, h2, _⟩ := h
    have : l.all (fun x => !p x) = false := by
      rw [List.all_eq_false]
      exact ⟨l[i], List.getElem_mem h1, by simp [h2]⟩
    simp [this]

set_option maxHeartbeats 400000 in
theorem IndexFunc_Reminder {α : Type} (f : FuncId) (hcf : ∀ (args : Array Value) (w : World), (callFunc f args).run Try.prog w = .ok (.enter f args) w) (caps : Array Value) (A : Option Addr) (c : Nat) (l : List α) (toD : α → List D) (p : α → Bool) (w : World)
    (hr : Ro w (Lo w.heap.size) (.sl 31 5 (l.map toD)) (.slice A l.length c)) (hm : c ≤ maxLen) (hlc : l.length ≤ c)
    (hf : ∀ (k : Nat) (x : α) (us : List Value) (w' : World), l[k]? = some x → RoL w (Lo w.heap.size) (toD x) us → Below w.heap.size w w' → Calls Try.prog f (#[.agg us.toArray] ++ caps) w' fun e w2 => e = .returned (.bool (p x)) ∧ Below w'.heap.size w' w2) :
    Calls Try.prog 199 #[.slice A l.length c, .func (.func f) #[] caps] w fun e w' => e = .returned (.int .i64 (idx p l)) ∧ Below w.heap.size w w' := by
  unfold maxLen at hm
  have hlen : l.length ≤ 9223372036854775807 := by omega
  generalize hn : l.length = n at *
  have HN := Lib.hid hn
  clear hn
  go_enter Try.func199, Try.ntmps199
  go_wp2
  go_loopw [5, 8] (fun i k wr => ∃ j : Nat, j ≤ n ∧ k = .int .i64 j ∧ (∀ (q : Nat) (y : α), q < j → l[q]? = some y → p y = false) ∧ Below w.heap.size w wr) (fun _ k _ => n - (intOf k).toNat)
  case atStart => exact ⟨0, by omega, rfl, fun q _ h => by omega, Below.refl _ _⟩
  case round =>
    obtain ⟨j, hj, rfl, hq, hb⟩ := hrel
    by_cases hlt : j < n
    · obtain ⟨row, hrow⟩ : ∃ row, l[j]? = some row := ⟨_, List.getElem?_eq_getElem (by rw [HN.out]; exact hlt)⟩
      obtain ⟨b, off, us, rfl, hbl, hl5, hru, hc⟩ := Ro.later hr hb (Nat.le_refl _) (map_at hrow)
      obtain ⟨u0, u1, u2, u3, u4, rfl⟩ := list5 hl5
      have c0 : wr.cell? ⟨b, off + j * 5, none⟩ = some (u0) := hc 0 _ rfl; have c1 : wr.cell? ⟨b, off + j * 5 + 1, none⟩ = some (u1) := hc 1 _ rfl; have c2 : wr.cell? ⟨b, off + j * 5 + 2, none⟩ = some (u2) := hc 2 _ rfl; have c3 : wr.cell? ⟨b, off + j * 5 + 3, none⟩ = some (u3) := hc 3 _ rfl; have c4 : wr.cell? ⟨b, off + j * 5 + 4, none⟩ = some (u4) := hc 4 _ rfl
      have HF := Lib.hid (hf j row _ wr hrow hru hb)
      have HQ := Lib.hid hq
      have HR := Lib.hid hrow
      clear hc hq hf hrow hru hr hl5
      go_wp2_with fail
      refine (HF.out).mono ?_
      rintro e w1 ⟨rfl, hb1⟩
      cases hp : p row
      · have HP := Lib.hid hp
        clear hp
        go_wp2
        go_roundw
        case rel => exact ⟨j + 1, by omega, by go_num, fun q y h hy => (by
          rcases Nat.lt_or_ge q j with h' | h'
          · exact HQ.out q y h' hy
          · obtain rfl : q = j := by omega
            rw [HR.out] at hy
            injection hy with hy
            rw [← hy]; exact HP.out), below_step hb hb1 hb.size⟩
        case measure => simp [intOf]; omega
      · have HP := Lib.hid (idx_found HR.out hp HQ.out)
        clear hp
        go_wp2
        go_ret
        exact ⟨by rw [HP.out]; rfl, below_step hb hb1 hb.size⟩
    · have HP := Lib.hid (idx_none (p := p) (l := l) fun q y h hy => hq q y (by have := HN.out; omega) hy)
      clear hq
      go_wp2
      go_ret
      exact ⟨by rw [HP.out]; rfl, hb⟩
theorem ContainsFunc_Reminder {α : Type} (f : FuncId) (hcf : ∀ (args : Array Value) (w : World), (callFunc f args).run Try.prog w = .ok (.enter f args) w) (caps : Array Value) (A : Option Addr) (c : Nat) (l : List α) (toD : α → List D) (p : α → Bool) (w : World)
    (hr : Ro w (Lo w.heap.size) (.sl 31 5 (l.map toD)) (.slice A l.length c)) (hm : c ≤ maxLen) (hlc : l.length ≤ c)
    (hf : ∀ (k : Nat) (x : α) (us : List Value) (w' : World), l[k]? = some x → RoL w (Lo w.heap.size) (toD x) us → Below w.heap.size w w' → Calls Try.prog f (#[.agg us.toArray] ++ caps) w' fun e w2 => e = .returned (.bool (p x)) ∧ Below w'.heap.size w' w2) :
    Calls Try.prog 160 #[.slice A l.length c, .func (.func f) #[] caps] w fun e w' => e = .returned (.bool (l.any p)) ∧ Below w.heap.size w w' := by
  have H := IndexFunc_Reminder f hcf caps A c l toD p w hr hm hlc hf
  have HA := Lib.hid (idx_any p l)
  generalize idx p l = i at *
  have HH := Lib.hid H
  clear H hf hr
  go_enter Try.func160, Try.ntmps160
  go_wp2_with fail
  refine (HH.out).mono ?_
  rintro e w1 ⟨rfl, hb1⟩
  go_wp2
  go_ret
  exact ⟨by rw [← HA.out]; rfl, hb1⟩
end Go.Proofs.Ytmojpkbdeiikiaa

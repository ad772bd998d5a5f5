/- The ages of a log's messages. -/
import Derived.Test.YtafihplbchofoaaLog
namespace Go.Proofs.Ytafihplbchofoaa
open Go.ChangeShapes Go.WideShapes Go.ChangeAt Go.RowKit Go.Dt
set_option linter.unusedVariables false
set_option linter.unusedSimpArgs false
theorem upTo_at {f : Nat → Bool} {n j : Nat} (h : upTo f n = true) (hj : j < n) : f j = true := by
  unfold upTo at h
  rw [List.all_eq_true] at h
  exact h j (List.mem_range.2 hj)
theorem Log.msg_ok {l : Log} (h : l.ok = true) {j : Nat} {m : Message} (hj : l.xMessages[j]? = some m) : m.ok = true ∧ m.xNumber < l.xNext := by
  unfold Log.ok at h
  rw [Bool.and_eq_true] at h
  have := upTo_at h.1 (List.getElem?_eq_some_iff.1 hj).1
  cases j with
  | zero => rw [Log.right_zero hj] at this; simpa using this
  | succ k => unfold Log.rightAt at this; rw [hj] at this; simp at this; exact ⟨this.1, this.2.1⟩
theorem Log.few {l : Log} (h : l.ok = true) : l.xMessages.length ≤ 40 ∧ 1 ≤ l.xNext ∧ l.xNext ≤ 1000000000 := by
  unfold Log.ok at h
  simp only [Bool.and_eq_true, decide_eq_true_eq] at h
  have := inB_yes h.2.2
  omega
theorem Message.bounds {m : Message} (h : m.ok = true) : 1 ≤ m.xNumber ∧ m.xNumber ≤ 1000000000 ∧ 0 ≤ m.xAt ∧ m.xAt ≤ 1000000 := by
  unfold Message.ok at h
  simp only [Bool.and_eq_true] at h
  have h1 := inB_yes h.1
  have h2 := inB_yes h.2.2.1
  omega
def AgesOf_f (l : Log) (now : Int) : List Int × Bool := if l.ok && (inB now 0 1000000 && l.xMessages.all fun m => decide (m.xAt ≤ now)) then (l.xMessages.map fun m => now - m.xAt, true) else ([], false)
theorem ages_no {l : Log} {now : Int} (h : (l.ok && inB now 0 1000000) = false) : AgesOf_f l now = ([], false) := by
  unfold AgesOf_f; rw [← Bool.and_assoc, h]; rfl
theorem ages_late {l : Log} {now : Int} {j : Nat} {m : Message} (h : l.xMessages[j]? = some m) (hm : ¬ m.xAt ≤ now) : AgesOf_f l now = ([], false) := by
  unfold AgesOf_f
  have : (l.xMessages.all fun m => decide (m.xAt ≤ now)) = false := List.all_eq_false.2 ⟨m, List.mem_of_getElem? h, by simp [hm]⟩
  rw [this]; simp
theorem all_take_succ {α : Type} {p : α → Bool} {l : List α} {j : Nat} {x : α} (h : (l.take j).all p = true) (hx : l[j]? = some x) (hp : p x = true) : (l.take (j + 1)).all p = true := by
  rw [List.take_add_one, hx]; simp [List.all_append, h, hp]
theorem map_take_succ {α β : Type} (f : α → β) {l : List α} {j : Nat} {x : α} (hx : l[j]? = some x) : (l.take (j + 1)).map f = (l.take j).map f ++ [f x] := by
  rw [List.take_add_one, hx]; simp
theorem ages_yes {l : Log} {now : Int} (h : (l.ok && inB now 0 1000000) = true) (ha : (l.xMessages.all fun m => decide (m.xAt ≤ now)) = true) : AgesOf_f l now = (l.xMessages.map fun m => now - m.xAt, true) := by
  unfold AgesOf_f; rw [← Bool.and_assoc, h, ha]; rfl
theorem ages_len (l : Log) (now : Int) : (AgesOf_f l now).1.length ≤ l.xMessages.length := by
  unfold AgesOf_f; split <;> simp
theorem Log.texts {x : Log} (hz : Log.z x ≤ 1048576) : ∀ m ∈ x.xMessages, m.xText.size ≤ maxLen := by
  intro m hm
  have h := mem_sum Message.z hm
  have h2 : Message.z m = m.xText.size + m.xLikes.length := rfl
  have h3 : Log.z x = Message.zs x.xMessages := rfl
  have h4 : Message.zs x.xMessages = x.xMessages.length + (x.xMessages.map fun y => Message.z y).sum := rfl
  simp only [maxLen]
  have h5 : (x.xMessages.map fun y => Message.z y) = x.xMessages.map Message.z := rfl
  rw [h5] at h4
  omega
theorem Log.long {x : Log} : x.xMessages.length ≤ Log.z x := by
  have h3 : Log.z x = Message.zs x.xMessages := rfl
  have h4 : Message.zs x.xMessages = x.xMessages.length + (x.xMessages.map fun y => Message.z y).sum := rfl
  omega
/-- What hands back numbers and a bool. -/
def MadeIB (W : World) (r : List Int × Bool) (e : Ending) (w' : World) : Prop := ∃ A c F, e = .returned (.tuple #[.slice A r.1.length c, .bool r.2]) ∧ Ow w' (ints r.1) (.slice A r.1.length c) F ∧ Below W.heap.size W w' ∧ ∀ b, F b → W.heap.size ≤ b
theorem madeIB_no {W w' : World} {r : List Int × Bool} (hr : r = ([], false)) (hb : Below W.heap.size W w') : MadeIB W r (.returned (.tuple #[.slice none 0 0, .bool false])) w' := by
  subst hr; exact ⟨none, 0, fun _ => False, rfl, .emp _ _ _ _ (by simp), hb, fun b h => h.elim⟩
theorem ints_own_nil (w : World) (A : Option Addr) : Ow w (ints []) (.slice A 0 0) (fun _ => False) := .emp _ _ _ _ (by simp)
theorem madeIB_yes {W w' : World} {r : List Int × Bool} {l : List Int} {v : Value} {F : Nat → Prop} (hr : r = (l, true)) (ho : Ow w' (ints l) v F) (hb : Below W.heap.size W w') (hF : ∀ b, F b → W.heap.size ≤ b) : MadeIB W r (.returned (.tuple #[v, .bool true])) w' := by
  subst hr
  obtain ⟨A, c, rfl, _, _⟩ := ho.shape
  simp only [List.length_map] at ho ⊢
  exact ⟨A, c, F, rfl, ho, hb, hF⟩
theorem AgesOf_lawN (x : Log) (now : Int) (hz : Log.z x ≤ 1048576) : (AgesOf_f x now).1.length ≤ 1000000000000 := by
  have := ages_len x now
  have := Log.long (x := x)
  omega
end Go.Proofs.Ytafihplbchofoaa

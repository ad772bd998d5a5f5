/- The parts' rules at the types of the program: logs, messages. -/
import Derived.Test.YtafihplbchofoaaSt
import Derived.Test.YtafihplbchofoaaClone
import Derived.Test.YtafihplbchofoaaSPost
import Derived.Test.YtafihplbchofoaaAges
namespace Go.Proofs.Ytafihplbchofoaa
open Go.ChangeShapes Go.WideShapes Go.ChangeAt Go.RowKit Go.Dt
set_option linter.unusedVariables false
set_option linter.unusedSimpArgs false
theorem Log.fits {x : Log} (hz : Log.z x ≤ 1048576) : ∀ m ∈ x.xMessages, m.xText.size ≤ maxLen ∧ m.xLikes.length ≤ 1048576 := by
  intro m hm
  refine ⟨Log.texts hz m hm, ?_⟩
  have h := mem_sum Message.z hm
  have h2 : Message.z m = m.xText.size + m.xLikes.length := rfl
  have h3 : Log.z x = Message.zs x.xMessages := rfl
  have h4 : Message.zs x.xMessages = x.xMessages.length + (x.xMessages.map fun y => Message.z y).sum := rfl
  have h5 : (x.xMessages.map fun y => Message.z y) = x.xMessages.map Message.z := rfl
  rw [h5] at h4
  omega
section
variable {N R : Nat → Prop} {W w w' : World} {ps : List Pt}
/-- A log that is owned. -/
theorem Log.st {x : Log} {us : List Value} {n : Nat} (hn : x.xMessages.length = n) (h : St N R W w (.os (Log.d true x) us :: ps)) : ∃ A c, us = [.int .i64 x.xNext, .slice A n c] ∧ St N R W w (.ow (Message.s true x.xMessages) (.slice A n c) :: ps) := by
  obtain ⟨u1, us1, rfl, k1⟩ := h.uncons
  obtain ⟨F, h1, _⟩ := k1.own .here
  obtain ⟨rfl, _⟩ := h1.int_inv
  obtain ⟨u2, us2, rfl, k2⟩ := k1.tail.uncons
  obtain ⟨F, h2, _⟩ := k2.own .here
  obtain ⟨A, c, rfl, _⟩ := h2.shape
  obtain ⟨F3, h3, _⟩ := k2.owns (.there .here)
  obtain ⟨rfl, _⟩ := h3.unnil
  rw [List.length_map] at k2 ⊢
  subst hn
  exact ⟨A, c, rfl, St.tail (St.front k2 (.there .here))⟩
/-- A message of those that are only read. -/
theorem Message.st {l : List Message} {A : Option Addr} {n c k : Nat} {m : Message} (h : St N R W w ps) (ha : At (.ro (Message.s true l) (.slice A n c)) ps) (hk : l[k]? = some m) :
    ∃ b off A7 c7, A = some ⟨b, off, none⟩ ∧ St N R W w (.rd b (off + k * 8) [.int .i64 m.xNumber, .int .i64 m.xSender, .int .i64 m.xAt, .string m.xText, .int .i64 m.xEdits, .bool m.xGone, .int .i64 m.xReply, .slice A7 m.xLikes.length c7] :: .ro (ints m.xLikes) (.slice A7 m.xLikes.length c7) :: ps) := by
  obtain ⟨b, off, us, rfl, h1, h2, h3⟩ := h.elem ha (map_at (f := Message.d true) hk)
  obtain ⟨A7, c7, rfl, h4, _⟩ := Message.cells h2
  exact ⟨b, off, A7, c7, rfl, (h3.addro h4).front (.there .here)⟩
/-- The cells of a message, which are only read. -/
theorem Message.ros {m : Message} {A : Option Addr} {c : Nat} {Pb : Nat → Prop} (h : Ro w Pb (ints m.xLikes) (.slice A m.xLikes.length c)) : RoL w Pb (Message.d true m) [.int .i64 m.xNumber, .int .i64 m.xSender, .int .i64 m.xAt, .string m.xText, .int .i64 m.xEdits, .bool m.xGone, .int .i64 m.xReply, .slice A m.xLikes.length c] :=
  RoL.cons (.int _ _) (RoL.cons (.int _ _) (RoL.cons (.int _ _) (RoL.cons (.str _) (RoL.cons (.int _ _) (RoL.cons (.bool _) (RoL.cons (.int _ _) (RoL.cons h RoL.nil)))))))
theorem Log.ros {x : Log} {A : Option Addr} {n c : Nat} {Pb : Nat → Prop} (h : Ro w Pb (Message.s true x.xMessages) (.slice A n c)) : RoL w Pb (Log.d true x) [.int .i64 x.xNext, .slice A n c] := RoL.cons (.int _ _) (RoL.cons h RoL.nil)
/-- A message that is owned is opened, to be written by a pointer. -/
theorem Message.os_open {m : Message} {us : List Value} (h : St N R W w (.os (Message.d true m) us :: ps)) : ∃ A7 c7, us = [.int .i64 m.xNumber, .int .i64 m.xSender, .int .i64 m.xAt, .string m.xText, .int .i64 m.xEdits, .bool m.xGone, .int .i64 m.xReply, .slice A7 m.xLikes.length c7] ∧ St N R W w (.ow (ints m.xLikes) (.slice A7 m.xLikes.length c7) :: ps) := by
  have hro := OwL.ro (h.owns .here).choose_spec.1
  obtain ⟨A7, c7, rfl, _⟩ := Message.cells hro
  refine ⟨A7, c7, rfl, ?_⟩
  obtain ⟨u, us, e, h⟩ := h.uncons
  injection e with e1 e2
  subst e1; subst e2
  obtain ⟨u, us, e, h⟩ := h.tail.uncons
  injection e with e1 e2
  subst e1; subst e2
  obtain ⟨u, us, e, h⟩ := h.tail.uncons
  injection e with e1 e2
  subst e1; subst e2
  obtain ⟨u, us, e, h⟩ := h.tail.uncons
  injection e with e1 e2
  subst e1; subst e2
  obtain ⟨u, us, e, h⟩ := h.tail.uncons
  injection e with e1 e2
  subst e1; subst e2
  obtain ⟨u, us, e, h⟩ := h.tail.uncons
  injection e with e1 e2
  subst e1; subst e2
  obtain ⟨u, us, e, h⟩ := h.tail.uncons
  injection e with e1 e2
  subst e1; subst e2
  obtain ⟨u, us, e, h⟩ := h.tail.uncons
  injection e with e1 e2
  subst e1; subst e2
  exact St.tail (St.front h (.there .here))
theorem Message.os_shut {m : Message} {A7 : Option Addr} {n7 c7 : Nat} (h : St N R W w (.ow (ints m.xLikes) (.slice A7 n7 c7) :: ps)) : St N R W w (.os (Message.d true m) [.int .i64 m.xNumber, .int .i64 m.xSender, .int .i64 m.xAt, .string m.xText, .int .i64 m.xEdits, .bool m.xGone, .int .i64 m.xReply, .slice A7 n7 c7] :: ps) :=
  St.consP (St.consP (St.consP (St.consP (St.consP (St.consP (St.consP (St.cons (St.front h.nilos (.there .here))) (Ow.I _ _)) (Ow.B _)) (Ow.I _ _)) (Ow.S _)) (Ow.I _ _)) (Ow.I _ _)) (Ow.I _ _)
theorem Message.open {l : List Message} {A : Option Addr} {n c k : Nat} {m : Message} (h : St N R W w (.ow (Message.s true l) (.slice A n c) :: ps)) (hk : l[k]? = some m) :
    ∃ g pre post A7 c7, A = some ⟨g, 0, none⟩ ∧ St N R W w (.mb g (k * 8) pre [.int .i64 m.xNumber, .int .i64 m.xSender, .int .i64 m.xAt, .string m.xText, .int .i64 m.xEdits, .bool m.xGone, .int .i64 m.xReply, .slice A7 m.xLikes.length c7] post 99 :: .ow (ints m.xLikes) (.slice A7 m.xLikes.length c7) :: .gp 99 8 (l.map (Message.d true)) k c pre post :: ps) := by
  obtain ⟨g, pre, us, post, hA, h⟩ := St.openk (e := 99) (sz := 8) (rows := l.map (Message.d true)) h (map_at (f := Message.d true) hk)
  obtain ⟨A7, c7, rfl, h⟩ := Message.os_open (h.front (.there .here))
  exact ⟨g, pre, post, A7, c7, hA, h.front (.there .here)⟩
theorem Message.shut {l : List Message} {n c k g off n7 c7 : Nat} {m : Message} {A7 : Option Addr} {pre post : List Value} (hn : l.length = n) (h : St N R W w (.mb g off pre [.int .i64 m.xNumber, .int .i64 m.xSender, .int .i64 m.xAt, .string m.xText, .int .i64 m.xEdits, .bool m.xGone, .int .i64 m.xReply, .slice A7 n7 c7] post 99 :: .ow (ints m.xLikes) (.slice A7 n7 c7) :: .gp 99 8 (l.map (Message.d true)) k c pre post :: ps)) :
    St N R W w (.ow (Message.s true (l.set k m)) (.slice (some ⟨g, 0, none⟩) n c) :: ps) := by
  have h1 := (Message.os_shut (m := m) (h.front (.there .here))).front (.there .here)
  have h2 := St.closek (row := Message.d true m) rfl h1
  rw [List.length_map, hn, ← List.map_set] at h2
  exact h2
end
end Go.Proofs.Ytafihplbchofoaa

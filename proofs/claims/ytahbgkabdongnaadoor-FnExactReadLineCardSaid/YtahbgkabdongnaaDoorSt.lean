/- What a call holds, as one list of parts: boxes of its own, values that it owns, slices whose block alone it owns, what is only read. How each operation changes the list. -/
import Derived.Test.YtahbgkabdongnaaDoorSha
import Derived.Deep.MidRow
namespace Go.Dt
open Go.RowKit Go.Deep
set_option linter.unusedSimpArgs false
set_option linter.unusedVariables false
/-- One part of what a call holds. -/
inductive Pt where
  | bx (b : Nat) (cs : Array Value) (t : TypeId)
  | ow (d : D) (v : Value)
  | os (ds : List D) (us : List Value)
  | sh (e : TypeId) (sz : Nat) (rows : List (List D)) (v : Value)
  | ro (d : D) (v : Value)
  | rd (b off : Nat) (us : List Value)
  | mb (b off : Nat) (pre us post : List Value) (t : TypeId)
  | gp (e : TypeId) (sz : Nat) (rows : List (List D)) (k c : Nat) (pre post : List Value)
/-- The part holds in the world; its own blocks are F; what it only reads lies in R. -/
def Pt.ok (R : Nat → Prop) (w : World) : Pt → (Nat → Prop) → Prop
  | .bx b cs t, F => Bx w b cs t ∧ ∀ x, F x ↔ x = b
  | .ow d v, F => Ow w d v F
  | .os ds us, F => OwL w ds us F
  | .sh e sz rows v, F => Sh w R e sz rows v F
  | .ro d v, F => Ro w R d v ∧ ∀ x, ¬ F x
  | .rd b off us, F => (R b ∧ ∀ (j : Nat) (u : Value), us[j]? = some u → w.cell? ⟨b, off + j, none⟩ = some u) ∧ ∀ x, ¬ F x
  | .mb b off pre us post t, F => (Bx w b (pre ++ us ++ post).toArray t ∧ pre.length = off) ∧ ∀ x, F x ↔ x = b
  | .gp e sz rows k c pre post, F => (k < rows.length ∧ (∀ row ∈ rows, row.length = sz) ∧ rows.length ≤ c ∧ c ≤ maxLen ∧ pre.length = k * sz) ∧ ∃ u3 sp, post = u3 ++ sp ∧ (pre ++ post).length + sz = c * sz ∧ OwL w ((rows.take k).flatten ++ (rows.drop (k + 1)).flatten) (pre ++ u3) F
def Sat (R : Nat → Prop) (w : World) : List Pt → (Nat → Prop) → Prop
  | [], F => ∀ b, ¬ F b
  | p :: ps, F => ∃ F1 F2, p.ok R w F1 ∧ Sat R w ps F2 ∧ (∀ b, F1 b → ¬ F2 b) ∧ ∀ b, F b ↔ F1 b ∨ F2 b
inductive At (p : Pt) : List Pt → Prop
  | here {ps : List Pt} : At p (p :: ps)
  | there {q : Pt} {ps : List Pt} : At p ps → At p (q :: ps)
inductive Del (p : Pt) : List Pt → List Pt → Prop
  | here {ps : List Pt} : Del p (p :: ps) ps
  | there {q : Pt} {ps ps' : List Pt} : Del p ps ps' → Del p (q :: ps) (q :: ps')
inductive Pick : List Pt → List Pt → List Pt → Prop
  | nil {ps : List Pt} : Pick [] ps ps
  | cons {p : Pt} {qs ps ps' rest : List Pt} : Del p ps ps' → Pick qs ps' rest → Pick (p :: qs) ps rest
/-- Since W nothing of N's blocks has changed; R is only read; the rest of what is held is the list. -/
structure St (N R : Nat → Prop) (W w : World) (ps : List Pt) : Prop where
  kp : Kp (fun b => ¬ N b) W w
  sub : ∀ b, N b → R b
  lt : ∀ b, R b → b < w.heap.size
  sat : ∃ F, Sat R w ps F ∧ ∀ b, F b → ¬ R b
section
variable {N R R' : Nat → Prop} {W w w' : World} {p q : Pt} {ps qs rest : List Pt} {F : Nat → Prop}
theorem Pt.ok.lt (h : p.ok R w F) : ∀ b, F b → b < w.heap.size := by
  cases p with
  | bx b cs t => exact fun x hx => by rw [(h.2 x).1 hx]; exact h.1.lt
  | ow d v => exact Ow.lt h
  | os ds us => exact OwL.lt h
  | sh e sz rows v => exact Sh.lt h
  | ro d v => exact fun x hx => (h.2 x hx).elim
  | rd b off us => exact fun x hx => (h.2 x hx).elim
  | mb b off pre us post t => exact fun x hx => by rw [(h.2 x).1 hx]; exact h.1.1.lt
  | gp e sz rows k c pre post => obtain ⟨_, u3, sp, _, _, h⟩ := h; exact OwL.lt h
theorem Pt.ok.stays (h : p.ok R w F) (hw : ∀ b, F b ∨ R b → w'.heap[b]? = w.heap[b]?) : p.ok R w' F := by
  cases p with
  | bx b cs t => exact ⟨h.1.keep (hw b (.inl ((h.2 b).2 rfl))), h.2⟩
  | ow d v => exact Ow.stays h fun b hb => hw b (.inl hb)
  | os ds us => exact OwL.stays h fun b hb => hw b (.inl hb)
  | sh e sz rows v => exact Sh.stays h hw
  | ro d v => exact ⟨h.1.stays fun b hb => hw b (.inr hb), h.2⟩
  | rd b off us => exact ⟨⟨h.1.1, fun j u hu => (World.cell?_of_block (w := w) (a := ⟨b, off + j, none⟩) (hw b (.inr h.1.1))).trans (h.1.2 j u hu)⟩, h.2⟩
  | mb b off pre us post t => exact ⟨⟨h.1.1.keep (hw b (.inl ((h.2 b).2 rfl))), h.1.2⟩, h.2⟩
  | gp e sz rows k c pre post => obtain ⟨h1, u3, sp, h2, h3, h⟩ := h; exact ⟨h1, u3, sp, h2, h3, OwL.stays h fun b hb => hw b (.inl hb)⟩
theorem Pt.ok.up (h : p.ok R w F) (hR : ∀ b, R b → R' b) (hF : ∀ b, F b → ¬ R' b) : p.ok R' w F := by
  cases p with
  | bx b cs t => exact h
  | ow d v => exact h
  | os ds us => exact h
  | sh e sz rows v => exact Sh.mono h hR hF
  | ro d v => exact ⟨h.1.mono hR, h.2⟩
  | rd b off us => exact ⟨⟨hR b h.1.1, h.1.2⟩, h.2⟩
  | mb b off pre us post t => exact h
  | gp e sz rows k c pre post => exact h
theorem Sat.lt (h : Sat R w ps F) : ∀ b, F b → b < w.heap.size := by
  induction ps generalizing F with
  | nil => exact fun b hb => (h b hb).elim
  | cons p ps ih =>
    obtain ⟨F1, F2, h1, h2, _, h4⟩ := h
    exact fun b hb => ((h4 b).1 hb).elim (h1.lt b) (ih h2 b)
theorem Sat.stays (h : Sat R w ps F) (hw : ∀ b, F b ∨ R b → w'.heap[b]? = w.heap[b]?) : Sat R w' ps F := by
  induction ps generalizing F with
  | nil => exact h
  | cons p ps ih =>
    obtain ⟨F1, F2, h1, h2, h3, h4⟩ := h
    exact ⟨F1, F2, h1.stays fun b hb => hw b (hb.imp (fun h => (h4 b).2 (.inl h)) id), ih h2 fun b hb => hw b (hb.imp (fun h => (h4 b).2 (.inr h)) id), h3, h4⟩
theorem Sat.up (h : Sat R w ps F) (hR : ∀ b, R b → R' b) (hF : ∀ b, F b → ¬ R' b) : Sat R' w ps F := by
  induction ps generalizing F with
  | nil => exact h
  | cons p ps ih =>
    obtain ⟨F1, F2, h1, h2, h3, h4⟩ := h
    exact ⟨F1, F2, h1.up hR fun b hb => hF b ((h4 b).2 (.inl hb)), ih h2 fun b hb => hF b ((h4 b).2 (.inr hb)), h3, h4⟩
theorem Sat.same {F' : Nat → Prop} (h : Sat R w ps F) (hF : ∀ b, F' b ↔ F b) : Sat R w ps F' := by
  have : F' = F := funext fun b => propext (hF b)
  rw [this]; exact h
theorem Sat.front {ps' : List Pt} (h : Sat R w ps F) (hd : Del p ps ps') : Sat R w (p :: ps') F := by
  induction hd generalizing F with
  | here => exact h
  | there hd ih =>
    obtain ⟨F1, F2, h1, h2, h3, h4⟩ := h
    obtain ⟨G1, G2, k1, k2, k3, k4⟩ := ih h2
    refine ⟨G1, fun b => F1 b ∨ G2 b, k1, ⟨F1, G2, h1, k2, fun b hb hc => h3 b hb ((k4 b).2 (.inr hc)), fun b => Iff.rfl⟩, ?_, fun b => ?_⟩
    · rintro b hb (hc | hc)
      · exact h3 b hc ((k4 b).2 (.inl hb))
      · exact k3 b hb hc
    · rw [h4 b, k4 b]
      exact ⟨fun h => h.elim (fun h => .inr (.inl h)) (fun h => h.elim .inl (fun h => .inr (.inr h))), fun h => h.elim (fun h => .inr (.inl h)) (fun h => h.elim .inl (fun h => .inr (.inr h)))⟩
theorem Sat.tail (h : Sat R w (p :: ps) F) : ∃ F2, Sat R w ps F2 ∧ ∀ b, F2 b → F b := by
  obtain ⟨F1, F2, h1, h2, h3, h4⟩ := h
  exact ⟨F2, h2, fun b hb => (h4 b).2 (.inr hb)⟩
theorem Sat.at (h : Sat R w ps F) (ha : At p ps) : ∃ F1, p.ok R w F1 ∧ ∀ b, F1 b → F b := by
  induction ha generalizing F with
  | here => obtain ⟨F1, F2, h1, h2, h3, h4⟩ := h; exact ⟨F1, h1, fun b hb => (h4 b).2 (.inl hb)⟩
  | there ha ih =>
    obtain ⟨F1, F2, h1, h2, h3, h4⟩ := h
    obtain ⟨G, k1, k2⟩ := ih h2
    exact ⟨G, k1, fun b hb => (h4 b).2 (.inr (k2 b hb))⟩
/-! ### The state -/
theorem St.start (W : World) : St (Lo W.heap.size) (Lo W.heap.size) W W [] := ⟨Kp.refl _ _, fun _ h => h, fun _ h => h, fun _ => False, fun _ h => h, fun _ h => h.elim⟩
theorem St.size (h : St N R W w ps) : W.heap.size ≤ w.heap.size := h.kp.size
theorem St.belowW (h : St (Lo W.heap.size) R W w ps) : Below W.heap.size W w := h.kp.below (Nat.le_refl _) fun b hb => Nat.le_of_not_lt hb
theorem St.front {ps' : List Pt} (h : St N R W w ps) (hd : Del p ps ps') : St N R W w (p :: ps') := by
  obtain ⟨F, h1, h2⟩ := h.sat
  exact ⟨h.kp, h.sub, h.lt, F, h1.front hd, h2⟩
theorem Sat.pick (hp : Pick qs ps rest) : ∀ F, Sat R w ps F → Sat R w (qs ++ rest) F := by
  induction hp with
  | nil => exact fun F h => h
  | cons hd _ ih =>
    intro F h
    obtain ⟨F1, F2, t1, t2, t3, t4⟩ := h.front hd
    exact ⟨F1, F2, t1, ih F2 t2, t3, t4⟩
/-- Parts out of the list, in the order that is asked for; the others behind them. -/
theorem St.pick (hp : Pick qs ps rest) (h : St N R W w ps) : St N R W w (qs ++ rest) := by
  obtain ⟨F, h1, h2⟩ := h.sat
  exact ⟨h.kp, h.sub, h.lt, F, h1.pick hp, h2⟩
theorem St.front2 {ps1 ps2 : List Pt} (h : St N R W w ps) (hp : Del p ps ps1) (hq : Del q ps1 ps2) : St N R W w (p :: q :: ps2) := h.pick (.cons hp (.cons hq .nil))
theorem St.front3 {r : Pt} {ps1 ps2 ps3 : List Pt} (h : St N R W w ps) (hp : Del p ps ps1) (hq : Del q ps1 ps2) (hr : Del r ps2 ps3) : St N R W w (p :: q :: r :: ps3) := h.pick (.cons hp (.cons hq (.cons hr .nil)))
theorem Sat.swap {p q : Pt} {ps : List Pt} {F : Nat → Prop} (h : Sat R w (p :: q :: ps) F) : Sat R w (q :: p :: ps) F := h.front (.there .here)
theorem Sat.pull {k : Nat} : ∀ {ps : List Pt} {F : Nat → Prop}, Sat R w ps F → ps[k]? = some p → Sat R w (p :: ps.set k (.os [] [])) F := by
  induction k with
  | zero =>
    intro ps F h hk
    cases ps with
    | nil => simp at hk
    | cons q ps =>
      simp at hk
      subst hk
      obtain ⟨F1, F2, h1, h2, h3, h4⟩ := h
      exact ⟨F1, F2, h1, ⟨fun _ => False, F2, OwL.nil, h2, fun _ h => h.elim, fun b => by simp⟩, h3, h4⟩
  | succ k ih =>
    intro ps F h hk
    cases ps with
    | nil => simp at hk
    | cons q ps =>
      obtain ⟨F1, F2, h1, h2, h3, h4⟩ := h
      exact Sat.swap (p := q) ⟨F1, F2, h1, ih h2 (by simpa using hk), h3, h4⟩
theorem Sat.push {k : Nat} : ∀ {ps : List Pt} {F : Nat → Prop}, Sat R w (q :: ps.set k (.os [] [])) F → k < ps.length → Sat R w (ps.set k q) F := by
  induction k with
  | zero =>
    intro ps F h hk
    cases ps with
    | nil => simp at hk
    | cons p ps =>
      obtain ⟨F1, F2, h1, ⟨G1, G2, k1, k2, k3, k4⟩, h3, h4⟩ := h
      have hn : ∀ b, ¬ G1 b := (OwL.unnil k1).2
      exact ⟨F1, G2, h1, k2, fun b hb hc => h3 b hb ((k4 b).2 (.inr hc)), fun b => by rw [h4 b, k4 b]; simp [hn b]⟩
  | succ k ih =>
    intro ps F h hk
    cases ps with
    | nil => simp at hk
    | cons p ps =>
      obtain ⟨F1, F2, h1, h2, h3, h4⟩ := Sat.swap h
      exact ⟨F1, F2, h1, ih h2 (by simpa using hk), h3, h4⟩
/-- The part at a place comes to the front, and goes back. -/
theorem St.pull {k : Nat} (h : St N R W w ps) (hk : ps[k]? = some p) : St N R W w (p :: ps.set k (.os [] [])) := by
  obtain ⟨F, h1, h2⟩ := h.sat
  exact ⟨h.kp, h.sub, h.lt, F, h1.pull hk, h2⟩
theorem St.push {k : Nat} (h : St N R W w (q :: ps.set k (.os [] []))) (hk : ps[k]? = some p) : St N R W w (ps.set k q) := by
  obtain ⟨F, h1, h2⟩ := h.sat
  exact ⟨h.kp, h.sub, h.lt, F, h1.push (List.getElem?_eq_some_iff.1 hk).1, h2⟩
theorem St.tail (h : St N R W w (p :: ps)) : St N R W w ps := by
  obtain ⟨F, h1, h2⟩ := h.sat
  obtain ⟨F2, k1, k2⟩ := h1.tail
  exact ⟨h.kp, h.sub, h.lt, F2, k1, fun b hb => h2 b (k2 b hb)⟩
theorem St.rot (h : St N R W w (p :: ps)) : St N R W w (ps ++ [p]) := by
  have key : ∀ (qs : List Pt) (F : Nat → Prop), Sat R w (p :: qs) F → Sat R w (qs ++ [p]) F := by
    intro qs
    induction qs with
    | nil => exact fun F h => h
    | cons q qs ih =>
      intro F h
      obtain ⟨F1, F2, h1, ⟨G1, G2, k1, k2, k3, k4⟩, h3, h4⟩ := h
      refine ⟨G1, fun b => F1 b ∨ G2 b, k1, ih _ ⟨F1, G2, h1, k2, fun b hb hc => h3 b hb ((k4 b).2 (.inr hc)), fun b => Iff.rfl⟩, ?_, fun b => ?_⟩
      · rintro b hb (hc | hc)
        · exact h3 b hc ((k4 b).2 (.inl hb))
        · exact k3 b hb hc
      · rw [h4 b, k4 b]
        exact ⟨fun h => h.elim (fun h => .inr (.inl h)) (fun h => h.elim .inl (fun h => .inr (.inr h))), fun h => h.elim (fun h => .inr (.inl h)) (fun h => h.elim .inl (fun h => .inr (.inr h)))⟩
  obtain ⟨F, h1, h2⟩ := h.sat
  exact ⟨h.kp, h.sub, h.lt, F, key _ _ h1, h2⟩
theorem St.rots (h : St N R W w (qs ++ ps)) : St N R W w (ps ++ qs) := by
  induction qs generalizing ps with
  | nil => simpa using h
  | cons q qs ih =>
    have := ih (ps := ps ++ [q]) (by simpa using St.rot (p := q) (ps := qs ++ ps) h)
    simpa using this
/-- The list as it is asked for; what is not asked for is let go. -/
theorem St.sub' (hp : Pick qs ps rest) (h : St N R W w ps) : St N R W w qs := by
  have h := h.pick hp
  clear hp
  induction rest with
  | nil => simpa using h
  | cons r rest ih =>
    refine ih ?_
    have := St.rots (qs := qs) (ps := r :: rest) h
    exact St.rots (qs := rest) (ps := qs) (St.tail this)
theorem St.bx {b : Nat} {cs : Array Value} {t : TypeId} (h : St N R W w ps) (ha : At (.bx b cs t) ps) : Bx w b cs t := by
  obtain ⟨F, h1, h2⟩ := h.sat
  obtain ⟨F1, k1, k2⟩ := h1.at ha
  exact k1.1
theorem St.bx_new {b : Nat} {cs : Array Value} {t : TypeId} (h : St N R W w ps) (ha : At (.bx b cs t) ps) : ¬ N b ∧ b < w.heap.size := by
  obtain ⟨F, h1, h2⟩ := h.sat
  obtain ⟨F1, k1, k2⟩ := h1.at ha
  exact ⟨fun hn => h2 b (k2 b ((k1.2 b).2 rfl)) (h.sub b hn), k1.1.lt⟩
/-- What is held may be read. -/
theorem St.lo {d : D} {v : Value} (h : St N R W w ps) (ha : At (.ro d v) ps ∨ At (.ow d v) ps) : Ro w (Lo w.heap.size) d v := by
  obtain ⟨F, h1, h2⟩ := h.sat
  rcases ha with ha | ha
  · obtain ⟨F1, k1, k2⟩ := h1.at ha
    exact k1.1.mono h.lt
  · obtain ⟨F1, k1, k2⟩ := h1.at ha
    exact Ow.lo k1
theorem St.lo_sh {e : TypeId} {sz : Nat} {rows : List (List D)} {v : Value} (h : St N R W w ps) (ha : At (.sh e sz rows v) ps) : Ro w (Lo w.heap.size) (.sl e sz rows) v := by
  obtain ⟨F, h1, h2⟩ := h.sat
  obtain ⟨F1, k1, k2⟩ := h1.at ha
  exact Sh.lo k1 h.lt
theorem St.roR {d : D} {v : Value} (h : St N R W w ps) (ha : At (.ro d v) ps) : Ro w R d v := by
  obtain ⟨F, h1, h2⟩ := h.sat
  obtain ⟨F1, k1, k2⟩ := h1.at ha
  exact k1.1
theorem St.rd {b off : Nat} {us : List Value} (h : St N R W w ps) (ha : At (.rd b off us) ps) {j : Nat} {u : Value} (hu : us[j]? = some u) : w.cell? ⟨b, off + j, none⟩ = some u := by
  obtain ⟨F, h1, h2⟩ := h.sat
  obtain ⟨F1, k1, k2⟩ := h1.at ha
  exact k1.1.2 j u hu
theorem St.own {d : D} {v : Value} (h : St N R W w ps) (ha : At (.ow d v) ps) : ∃ F, Ow w d v F ∧ ∀ b, F b → ¬ N b := by
  obtain ⟨F, h1, h2⟩ := h.sat
  obtain ⟨F1, k1, k2⟩ := h1.at ha
  exact ⟨F1, k1, fun b hb hn => h2 b (k2 b hb) (h.sub b hn)⟩
theorem St.owns {ds : List D} {us : List Value} (h : St N R W w ps) (ha : At (.os ds us) ps) : ∃ F, OwL w ds us F ∧ ∀ b, F b → ¬ N b := by
  obtain ⟨F, h1, h2⟩ := h.sat
  obtain ⟨F1, k1, k2⟩ := h1.at ha
  exact ⟨F1, k1, fun b hb hn => h2 b (k2 b hb) (h.sub b hn)⟩
/-- The first part turns into another one, in another world. -/
theorem St.move (h : St N R W w (p :: ps)) (hw : ∀ F1, p.ok R w F1 → (∀ b, F1 b → ¬ R b) → ∃ F1', q.ok R w' F1' ∧ Kp F1 w w' ∧ ∀ b, F1' b → F1 b ∨ w.heap.size ≤ b) : St N R W w' (q :: ps) := by
  obtain ⟨F, ⟨F1, F2, h1, h2, h3, h4⟩, hR⟩ := h.sat
  obtain ⟨F1', k1, k2, k3⟩ := hw F1 h1 fun b hb => hR b ((h4 b).2 (.inl hb))
  have hst : ∀ b, F2 b ∨ R b → w'.heap[b]? = w.heap[b]? := fun b hb => k2.block b (hb.elim (h2.lt b) (h.lt b)) fun hf => hb.elim (h3 b hf) (hR b ((h4 b).2 (.inl hf)))
  refine ⟨Kp.trans h.kp k2 (fun _ h => h) (fun b _ hb hn => hR b ((h4 b).2 (.inl hb)) (h.sub b hn)), h.sub, fun b hb => Nat.lt_of_lt_of_le (h.lt b hb) k2.size, fun b => F1' b ∨ F2 b, ⟨F1', F2, k1, h2.stays hst, fun b hb hc => (k3 b hb).elim (fun h => h3 b h hc) (fun h => by have := h2.lt b hc; omega), fun b => Iff.rfl⟩, ?_⟩
  rintro b (hb | hb)
  · rcases k3 b hb with hf | hf
    · exact hR b ((h4 b).2 (.inl hf))
    · exact fun hr => by have := h.lt b hr; omega
  · exact hR b ((h4 b).2 (.inr hb))
theorem St.below (h : St N R W w ps) (hb : Below w.heap.size w w') : St N R W w' ps := by
  obtain ⟨F, h1, h2⟩ := h.sat
  exact ⟨Kp.trans h.kp (Kp.of_below (F := fun _ => False) hb) (fun _ h => h) (fun _ _ h => h.elim), h.sub, fun b hr => Nat.lt_of_lt_of_le (h.lt b hr) hb.size, F, h1.stays fun b hx => hb.block b (hx.elim (h1.lt b) (h.lt b)), h2⟩
theorem St.drew (h : St N R W w ps) : St N R W w.drew ps := h.below ⟨rfl, rfl, rfl, Nat.le_refl _, fun _ _ => rfl⟩
theorem St.drewN (h : St N R W w ps) (n : Nat) : St N R W (w.drewN n) ps := h.below (below_drewN (Below.refl _ _) n)
/-- A part that a callee has made. -/
theorem St.add {F1 : Nat → Prop} (h : St N R W w ps) (hb : Below w.heap.size w w') (hq : q.ok R w' F1) (hF : ∀ b, F1 b → w.heap.size ≤ b) : St N R W w' (q :: ps) := by
  have h' := h.below hb
  obtain ⟨F, h1, h2⟩ := h.sat
  obtain ⟨F', k1, k2⟩ := h'.sat
  have k1 : Sat R w' ps F := h1.stays fun b hx => hb.block b (hx.elim (h1.lt b) (h.lt b))
  refine ⟨h'.kp, h'.sub, h'.lt, fun b => F1 b ∨ F b, ⟨F1, F, hq, k1, fun b hx hy => by have := h1.lt b hy; have := hF b hx; omega, fun b => Iff.rfl⟩, ?_⟩
  rintro b (hx | hx)
  · exact fun hr => by have := h.lt b hr; have := hF b hx; omega
  · exact h2 b hx
theorem St.addow {F1 : Nat → Prop} {d : D} {v : Value} (h : St N R W w ps) (hb : Below w.heap.size w w') (ho : Ow w' d v F1) (hF : ∀ b, F1 b → w.heap.size ≤ b) : St N R W w' (.ow d v :: ps) := h.add (q := .ow d v) hb ho hF
theorem St.addos {F1 : Nat → Prop} {ds : List D} {us : List Value} (h : St N R W w ps) (hb : Below w.heap.size w w') (ho : OwL w' ds us F1) (hF : ∀ b, F1 b → w.heap.size ≤ b) : St N R W w' (.os ds us :: ps) := h.add (q := .os ds us) hb ho hF
/-- What needs no block. -/
theorem St.free (h : St N R W w ps) (hq : q.ok R w (fun _ => False)) : St N R W w (q :: ps) := h.add (Below.refl _ _) hq (fun _ hb => hb.elim)
theorem St.addro {d : D} {v : Value} (h : St N R W w ps) (hr : Ro w R d v) : St N R W w (.ro d v :: ps) := h.free ⟨hr, fun _ h => h⟩
theorem St.adros {d : D} {v : Value} (h : St N (Lo w.heap.size) W w ps) (hr : Ro w (Lo w.heap.size) d v) : St N (Lo w.heap.size) W w (.ro d v :: ps) := h.addro hr
theorem St.nilow (h : St N R W w ps) (e : TypeId) (sz : Nat) (A : Option Addr) : St N R W w (.ow (.sl e sz []) (.slice A 0 0) :: ps) := h.free (q := .ow (.sl e sz []) (.slice A 0 0)) (Ow.emp _ _ _ _ (fun _ h => h))
theorem St.nilsh (h : St N R W w ps) (e : TypeId) (sz : Nat) (A : Option Addr) : St N R W w (.sh e sz [] (.slice A 0 0) :: ps) := h.free (q := .sh e sz [] (.slice A 0 0)) (Sh.nil _ _ _ _ _)
/-- Cells of a struct that is owned, one by one. -/
theorem St.uncons {d : D} {ds : List D} {us : List Value} (h : St N R W w (.os (d :: ds) us :: ps)) : ∃ u us', us = u :: us' ∧ St N R W w (.ow d u :: .os ds us' :: ps) := by
  obtain ⟨F, ⟨F1, F2, h1, h2, h3, h4⟩, hR⟩ := h.sat
  obtain ⟨u, us', G1, G2, rfl, k1, k2, k3, k4⟩ := OwL.uncons h1
  refine ⟨u, us', rfl, h.kp, h.sub, h.lt, F, ⟨G1, fun b => G2 b ∨ F2 b, k1, ⟨G2, F2, k2, h2, fun b hb => h3 b ((k4 b).2 (.inr hb)), fun b => Iff.rfl⟩, ?_, fun b => ?_⟩, hR⟩
  · rintro b hb (hc | hc)
    · exact k3 b hb hc
    · exact h3 b ((k4 b).2 (.inl hb)) hc
  · rw [h4 b, k4 b, or_assoc]
theorem St.cons {d : D} {ds : List D} {u : Value} {us : List Value} (h : St N R W w (.ow d u :: .os ds us :: ps)) : St N R W w (.os (d :: ds) (u :: us) :: ps) := by
  obtain ⟨F, ⟨F1, F2, h1, ⟨G1, G2, k1, k2, k3, k4⟩, h3, h4⟩, hR⟩ := h.sat
  refine ⟨h.kp, h.sub, h.lt, F, ⟨fun b => F1 b ∨ G1 b, G2, OwL.cons h1 k1 (fun b hb hc => h3 b hb ((k4 b).2 (.inl hc))), k2, ?_, fun b => ?_⟩, hR⟩
  · rintro b (hb | hb)
    · exact fun hc => h3 b hb ((k4 b).2 (.inr hc))
    · exact k3 b hb
  · rw [h4 b, k4 b, or_assoc]
theorem St.consP {d : D} {ds : List D} {u : Value} {us : List Value} (h : St N R W w (.os ds us :: ps)) (ho : Ow w d u (fun _ => False)) : St N R W w (.os (d :: ds) (u :: us) :: ps) := (h.free (q := .ow d u) ho).cons
theorem St.nilos (h : St N R W w ps) : St N R W w (.os [] [] :: ps) := h.free (q := .os [] []) OwL.nil
/-- The shape of a slice that is held. -/
theorem St.shape {e : TypeId} {sz : Nat} {rows : List (List D)} {v : Value} (h : St N R W w ps) (ha : At (.ro (.sl e sz rows) v) ps ∨ At (.ow (.sl e sz rows) v) ps) : ∃ A c, v = .slice A rows.length c ∧ rows.length ≤ c ∧ c ≤ maxLen := (h.lo ha).sl_inv
/-- From now on it is only read. -/
theorem St.freeze {d : D} {v : Value} (h : St N R W w (.ow d v :: ps)) : ∃ R', St N R' W w (.ro d v :: ps) ∧ ∀ b, R b → R' b := by
  obtain ⟨F, ⟨F1, F2, h1, h2, h3, h4⟩, hR⟩ := h.sat
  refine ⟨fun b => R b ∨ F1 b, ⟨h.kp, fun b hb => .inl (h.sub b hb), fun b hb => hb.elim (h.lt b) (h1.lt b), F2, ⟨fun _ => False, F2, ⟨(Ow.ro h1).mono fun b hb => .inr hb, fun _ h => h⟩, h2.up (fun b hb => .inl hb) ?_, fun b hb => hb.elim, fun b => by simp⟩, ?_⟩, fun b hb => .inl hb⟩
  all_goals
    rintro b hb (hc | hc)
    · exact hR b ((h4 b).2 (.inr hb)) hc
    · exact h3 b hc hb
/-- From now on what its elements lead to is only read. -/
theorem St.share {e : TypeId} {sz : Nat} {rows : List (List D)} {v : Value} (h : St N R W w (.ow (.sl e sz rows) v :: ps)) : ∃ R', St N R' W w (.sh e sz rows v :: ps) ∧ ∀ b, R b → R' b := by
  obtain ⟨F, ⟨F1, F2, h1, h2, h3, h4⟩, hR⟩ := h.sat
  obtain ⟨G, P0, k1, k2, k3, k4⟩ := Sh.of_ow h1
  have hlt : ∀ b, P0 b → b < w.heap.size := fun b hb => h1.lt b (k3 b hb)
  refine ⟨fun b => R b ∨ P0 b, ⟨h.kp, fun b hb => .inl (h.sub b hb), fun b hb => hb.elim (h.lt b) (hlt b), fun b => G b ∨ F2 b, ⟨G, F2, Sh.mono k1 (fun b hb => .inr hb) ?_, h2.up (fun b hb => .inl hb) ?_, fun b hb => h3 b (k2 b hb), fun b => Iff.rfl⟩, ?_⟩, fun b hb => .inl hb⟩
  · rintro b hb (hc | hc)
    · exact hR b ((h4 b).2 (.inl (k2 b hb))) hc
    · exact k4 b hb hc
  · rintro b hb (hc | hc)
    · exact hR b ((h4 b).2 (.inr hb)) hc
    · exact h3 b (k3 b hc) hb
  · rintro b (hb | hb) (hc | hc)
    · exact hR b ((h4 b).2 (.inl (k2 b hb))) hc
    · exact k4 b hb hc
    · exact hR b ((h4 b).2 (.inr hb)) hc
    · exact h3 b (k3 b hc) hb
/-- An element of what is only read: its cells. -/
theorem St.elem {e : TypeId} {sz n c k : Nat} {rows : List (List D)} {A : Option Addr} {row : List D} (h : St N R W w ps) (ha : At (.ro (.sl e sz rows) (.slice A n c)) ps) (hk : rows[k]? = some row) :
    ∃ (b off : Nat) (us : List Value), A = some ⟨b, off, none⟩ ∧ row.length = sz ∧ RoL w R row us ∧ St N R W w (.rd b (off + k * sz) us :: ps) := by
  obtain ⟨b, off, us, h1, h2, h3, h4, h5⟩ := Ro.sl_at (h.roR ha) hk
  exact ⟨b, off, us, h1, h3, h4, h.free ⟨⟨h2, h5⟩, fun _ h => h⟩⟩
/-- An element of what is owned: its cells, now. -/
theorem St.elemO {e : TypeId} {sz n c k : Nat} {rows : List (List D)} {A : Option Addr} {row : List D} (h : St N R W w ps) (ha : At (.ow (.sl e sz rows) (.slice A n c)) ps) (hk : rows[k]? = some row) :
    ∃ (b off : Nat) (us : List Value), A = some ⟨b, off, none⟩ ∧ row.length = sz ∧ RoL w (Lo w.heap.size) row us ∧ ∀ j u, us[j]? = some u → w.cell? ⟨b, off + k * sz + j, none⟩ = some u := by
  obtain ⟨b, off, us, h1, h2, h3, h4, h5⟩ := Ro.sl_at (h.lo (.inr ha)) hk
  exact ⟨b, off, us, h1, h3, h4, h5⟩
/-- A box of one's own. -/
theorem St.box (h : St N R W w ps) (cs : Array Value) (t : TypeId) : St N R W (w.alloc (.cells cs t)) (.bx w.heap.size cs t :: ps) :=
  h.add (q := .bx w.heap.size cs t) (F1 := fun b => b = w.heap.size) ((Below.refl _ _).alloc (Nat.le_refl _) _) ⟨Bx.new w cs t, fun _ => Iff.rfl⟩ (fun b hb => by rw [hb]; exact Nat.le_refl _)
theorem St.box2 (h : St N R W w ps) (cs cs' : Array Value) (t t' : TypeId) : St N R W ((w.alloc (.cells cs t)).alloc (.cells cs' t')) (.bx (w.heap.size + 1) cs' t' :: .bx w.heap.size cs t :: ps) := by
  have := (h.box cs t).box cs' t'
  simpa using this
theorem St.box3 (h : St N R W w ps) (cs cs' cs'' : Array Value) (t t' t'' : TypeId) : St N R W (((w.alloc (.cells cs t)).alloc (.cells cs' t')).alloc (.cells cs'' t'')) (.bx (w.heap.size + 1 + 1) cs'' t'' :: .bx (w.heap.size + 1) cs' t' :: .bx w.heap.size cs t :: ps) := by
  have := (h.box2 cs cs' t t').box cs'' t''
  simpa using this
theorem St.junk (h : St N R W w ps) (o : Obj) : St N R W (w.alloc o) ps := h.below ((Below.refl _ _).alloc (Nat.le_refl _) _)
theorem St.put {b : Nat} {cs : Array Value} {t : TypeId} (h : St N R W w (.bx b cs t :: ps)) (j : Nat) (u : Value) : St N R W (w.setCell ⟨b, j, none⟩ u) (.bx b (cs.setIfInBounds j u) t :: ps) :=
  h.move fun F1 h1 h2 => ⟨F1, ⟨h1.1.put j u, h1.2⟩, (kp_setCell w b j u).mono fun x hx => (h1.2 x).2 hx, fun b hb => .inl hb⟩
theorem St.put' {b : Nat} {cs : Array Value} {t : TypeId} (h : St N R W w (.bx b cs t :: ps)) (j : Nat) (u : Value) (cs' : Array Value) (hcs : cs.setIfInBounds j u = cs') : St N R W (w.setCell ⟨b, j, none⟩ u) (.bx b cs' t :: ps) := hcs ▸ h.put j u
/-- An element of a slice that is owned is taken out, to be written by a pointer. -/
theorem St.openk {e : TypeId} {sz n c k : Nat} {rows : List (List D)} {A : Option Addr} {row : List D} (h : St N R W w (.ow (.sl e sz rows) (.slice A n c) :: ps)) (hk : rows[k]? = some row) :
    ∃ g pre us post, A = some ⟨g, 0, none⟩ ∧ St N R W w (.mb g (k * sz) pre us post e :: .os row us :: .gp e sz rows k c pre post :: ps) := by
  obtain ⟨F, ⟨F1, Fr, h1, h2, h3, h4⟩, hR⟩ := h.sat
  have hkl := (List.getElem?_eq_some_iff.1 hk).1
  have hrow := (List.getElem?_eq_some_iff.1 hk).2
  rcases Ow.sl_inv h1 with ⟨h0, _⟩ | ⟨g, c', us, cs, F0, hv, hg, hcs, hle, hcm, hrl, htake, hU, hg0, hF⟩
  · rw [h0] at hkl; simp at hkl
  injection hv with e1 e2 e3
  subst e1; subst e2; subst e3
  have hsplit : rows.flatten = (rows.take k).flatten ++ (row ++ (rows.drop (k + 1)).flatten) := by
    conv => lhs; rw [← List.take_append_drop k rows, List.drop_eq_getElem_cons hkl, hrow]
    rw [List.flatten_append, List.flatten_cons]
  rw [hsplit] at hU
  obtain ⟨u1, u23, G1, G23, e1, o1, o23, n1, i1⟩ := hU.unappend
  obtain ⟨u2, u3, G2, G3, e2, o2, o3, n2, i2⟩ := o23.unappend
  have hl1 : u1.length = k * sz := by
    rw [o1.1, flatten_length (fun r hr => hrl r (List.mem_of_mem_take hr)), List.length_take, Nat.min_eq_left (Nat.le_of_lt hkl)]
  have hl2 : u2.length = sz := by rw [o2.1]; exact hrl row (List.mem_of_getElem? hk)
  have hcl : cs.toList = u1 ++ u2 ++ (u3 ++ cs.toList.drop (rows.length * sz)) := by
    conv => lhs; rw [← List.take_append_drop (rows.length * sz) cs.toList, htake, e1, e2]
    simp only [List.append_assoc]
  have hca : cs = (u1 ++ u2 ++ (u3 ++ cs.toList.drop (rows.length * sz))).toArray := by
    rw [← hcl]
  refine ⟨g, u1, u2, u3 ++ cs.toList.drop (rows.length * sz), rfl, h.kp, h.sub, h.lt, F, ⟨fun b => b = g, fun b => G2 b ∨ (G1 b ∨ G3 b) ∨ Fr b, ⟨⟨?_, hl1⟩, fun _ => Iff.rfl⟩, ⟨G2, fun b => (G1 b ∨ G3 b) ∨ Fr b, o2, ⟨fun b => G1 b ∨ G3 b, Fr, ⟨⟨hkl, hrl, hle, hcm, hl1⟩, u3, cs.toList.drop (rows.length * sz), rfl, ?_, o1.append o3 ?_⟩, h2, ?_, fun b => Iff.rfl⟩, ?_, fun b => Iff.rfl⟩, ?_, ?_⟩, hR⟩
  · unfold Bx; rw [← hca]; exact hg
  · have := congrArg List.length hcl
    simp only [List.length_append, Array.length_toList, hcs, hl2] at this ⊢
    omega
  · exact fun b hb hc => n1 b hb ((i2 b).2 (.inr hc))
  · rintro b (hb | hb) hc
    · exact h3 b ((hF b).2 (.inr ((i1 b).2 (.inl hb)))) hc
    · exact h3 b ((hF b).2 (.inr ((i1 b).2 (.inr ((i2 b).2 (.inr hb)))))) hc
  · rintro b hb ((hc | hc) | hc)
    · exact n1 b hc ((i2 b).2 (.inl hb))
    · exact n2 b hb hc
    · exact h3 b ((hF b).2 (.inr ((i1 b).2 (.inr ((i2 b).2 (.inl hb)))))) hc
  · rintro b rfl (hc | (hc | hc) | hc)
    · exact hg0 ((i1 b).2 (.inr ((i2 b).2 (.inl hc))))
    · exact hg0 ((i1 b).2 (.inl hc))
    · exact hg0 ((i1 b).2 (.inr ((i2 b).2 (.inr hc))))
    · exact h3 b ((hF b).2 (.inl rfl)) hc
  · intro b
    rw [h4 b, hF b, i1 b, i2 b]
    constructor
    · rintro ((h | h | h | h) | h)
      · exact .inl h
      · exact .inr (.inr (.inl (.inl h)))
      · exact .inr (.inl h)
      · exact .inr (.inr (.inl (.inr h)))
      · exact .inr (.inr (.inr h))
    · rintro (h | h | (h | h) | h)
      · exact .inl (.inl h)
      · exact .inl (.inr (.inr (.inl h)))
      · exact .inl (.inr (.inl h))
      · exact .inl (.inr (.inr (.inr h)))
      · exact .inr h
/-- It goes back. -/
theorem St.closek {e : TypeId} {sz c k g off : Nat} {rows : List (List D)} {row us pre post : _} (hr : row.length = sz) (h : St N R W w (.mb g off pre us post e :: .os row us :: .gp e sz rows k c pre post :: ps)) :
    St N R W w (.ow (.sl e sz (rows.set k row)) (.slice (some ⟨g, 0, none⟩) rows.length c) :: ps) := by
  obtain ⟨F, ⟨F1, Fr, ⟨⟨hb, hoff⟩, hF1⟩, ⟨F2, Fr2, o2, ⟨F3, Fr3, ⟨⟨hkl, hrl, hle, hcm, hpre⟩, u3, sp, rfl, hlen, o13⟩, h2, d3, i3⟩, d2, i2⟩, d1, i1⟩, hR⟩ := h.sat
  obtain ⟨v1, v3, G1, G3, e1, o1, o3, n1, j1⟩ := o13.unappend
  have hl1 : v1.length = k * sz := by
    rw [o1.1, flatten_length (fun r hr => hrl r (List.mem_of_mem_take hr)), List.length_take, Nat.min_eq_left (Nat.le_of_lt hkl)]
  have hl3 : v3.length = (rows.length - (k + 1)) * sz := by
    rw [o3.1, flatten_length (fun r hr => hrl r (List.mem_of_mem_drop hr)), List.length_drop]
  have hu : us.length = sz := by rw [o2.1, hr]
  have hsum : k * sz + sz + (rows.length - (k + 1)) * sz = rows.length * sz := by
    have : k * sz + sz = (k + 1) * sz := by rw [Nat.add_mul, Nat.one_mul]
    rw [this, ← Nat.add_mul]
    congr 1
    omega
  have hset : (rows.set k row).flatten = (rows.take k).flatten ++ (row ++ (rows.drop (k + 1)).flatten) := by
    rw [List.set_eq_take_append_cons_drop, if_pos hkl, List.flatten_append, List.flatten_cons]
  have hrl' : ∀ r ∈ rows.set k row, r.length = sz := by
    intro r hm
    rcases List.mem_or_eq_of_mem_set hm with h | h
    · exact hrl r h
    · rw [h]; exact hr
  have hpu : pre ++ us ++ (u3 ++ sp) = v1 ++ us ++ (v3 ++ sp) := by
    have hpl : pre.length = v1.length := by rw [hpre, hl1]
    obtain ⟨rfl, rfl⟩ := List.append_inj e1 hpl
    rfl
  have hB := Ow.of_block (w := w) (e := e) (sz := sz) (g := g) (c := c) (rows := rows.set k row) (us := v1 ++ us ++ v3) (cs := (pre ++ us ++ (u3 ++ sp)).toArray) (F := fun b => (G1 b ∨ F2 b) ∨ G3 b) hb ?_ (by simpa using hle) hcm hrl' ?_ ?_ ?_
  · rw [List.length_set] at hB
    refine ⟨h.kp, h.sub, h.lt, F, ⟨_, Fr3, hB, h2, ?_, ?_⟩, hR⟩
    · rintro b (rfl | (hb | hb) | hb) hc
      · exact d1 b ((hF1 b).2 rfl) ((i2 b).2 (.inr ((i3 b).2 (.inr hc))))
      · exact d3 b ((j1 b).2 (.inl hb)) hc
      · exact d2 b hb ((i3 b).2 (.inr hc))
      · exact d3 b ((j1 b).2 (.inr hb)) hc
    · intro b
      rw [i1 b, i2 b, i3 b, hF1 b, j1 b]
      constructor
      · rintro (h | h | (h | h) | h)
        · exact .inl (.inl h)
        · exact .inl (.inr (.inl (.inr h)))
        · exact .inl (.inr (.inl (.inl h)))
        · exact .inl (.inr (.inr h))
        · exact .inr h
      · rintro ((h | (h | h) | h) | h)
        · exact .inl h
        · exact .inr (.inr (.inl (.inl h)))
        · exact .inr (.inl h)
        · exact .inr (.inr (.inl (.inr h)))
        · exact .inr (.inr (.inr h))
  · simp only [List.size_toArray, List.length_append] at hlen ⊢
    omega
  · rw [List.length_set]
    show (pre ++ us ++ (u3 ++ sp)).take (rows.length * sz) = _
    rw [hpu, ← List.append_assoc, List.take_left']
    simp only [List.length_append, hl1, hu, hl3]
    omega
  · rw [hset, ← List.append_assoc]
    refine (o1.append o2 ?_).append o3 ?_
    · exact fun b hb hc => d2 b hc ((i3 b).2 (.inl ((j1 b).2 (.inl hb))))
    · rintro b (hb | hb) hc
      · exact n1 b hb hc
      · exact d2 b hb ((i3 b).2 (.inl ((j1 b).2 (.inr hc))))
  · have hg : F1 g := (hF1 g).2 rfl
    rintro ((hb | hb) | hb)
    · exact d1 g hg ((i2 g).2 (.inr ((i3 g).2 (.inl ((j1 g).2 (.inl hb))))))
    · exact d1 g hg ((i2 g).2 (.inl hb))
    · exact d1 g hg ((i2 g).2 (.inr ((i3 g).2 (.inl ((j1 g).2 (.inr hb))))))
theorem St.putM {b off : Nat} {pre us post : List Value} {t : TypeId} (h : St N R W w (.mb b off pre us post t :: ps)) (j : Nat) (u : Value) (us' : List Value) (hj : j < us.length) (hus : us.set j u = us') : St N R W (w.setCell ⟨b, off + j, none⟩ u) (.mb b off pre us' post t :: ps) :=
  h.move fun F1 h1 h2 => ⟨F1, ⟨⟨by
    have hx := h1.1.1.put (off + j) u
    have e : (pre ++ us ++ post).toArray.setIfInBounds (off + j) u = (pre ++ us' ++ post).toArray := by
      rw [List.setIfInBounds_toArray, ← h1.1.2, List.append_assoc, List.set_append_right _ _ (by omega), Nat.add_sub_cancel_left, List.set_append_left _ _ hj, hus, ← List.append_assoc]
    rw [e] at hx
    exact hx, h1.1.2⟩, h1.2⟩, (kp_setCell w b (off + j) u).mono fun x hx => (h1.2 x).2 hx, fun b hb => .inl hb⟩
/-- Cells of a block, written one behind the other. -/
def putAll (cs : Array Value) (j : Nat) : List Value → Array Value
  | [] => cs
  | u :: us => putAll (cs.setIfInBounds j u) (j + 1) us
theorem St.puts {b : Nat} {cs : Array Value} {t : TypeId} {j : Nat} {us : List Value} (h : St N R W w (.bx b cs t :: ps)) : St N R W (w.setCells b j us) (.bx b (putAll cs j us) t :: ps) := by
  induction us generalizing w cs j with
  | nil => exact h
  | cons u us ih => exact ih (h.put j u)
end
/-- The cells from a place on. -/
def CellsAt (w : World) (b off : Nat) : Nat → List Value → Prop
  | _, [] => True
  | j, u :: us => w.cell? ⟨b, off + j, none⟩ = some u ∧ CellsAt w b off (j + 1) us
theorem CellsAt.of {w : World} {b off : Nat} {us : List Value} : ∀ j, (∀ i u, us[i]? = some u → w.cell? ⟨b, off + (j + i), none⟩ = some u) → CellsAt w b off j us := by
  induction us with
  | nil => exact fun _ _ => trivial
  | cons u us ih =>
    intro j h
    refine ⟨h 0 u rfl, ih (j + 1) fun i u' hu => ?_⟩
    have := h (i + 1) u' (by simpa using hu)
    rwa [show j + 1 + i = j + (i + 1) from by omega]
theorem CellsAt.to {w : World} {b off : Nat} {us : List Value} : ∀ {j}, CellsAt w b off j us → ∀ i u, us[i]? = some u → w.cell? ⟨b, off + (j + i), none⟩ = some u := by
  induction us with
  | nil => intro j _ i u h; simp at h
  | cons v us ih =>
    intro j h i u hu
    cases i with
    | zero => simp at hu; subst hu; exact h.1
    | succ i =>
      have := ih h.2 i u (by simpa using hu)
      rwa [show j + 1 + i = j + (i + 1) from by omega] at this
theorem Bx.cells {w : World} {b : Nat} {cs : Array Value} {t : TypeId} (h : Bx w b cs t) (off : Nat) (us : List Value) (e : (cs.toList.drop off).take us.length = us) : CellsAt w b off 0 us := CellsAt.of 0 fun i u hu => by
  rw [Nat.zero_add]
  refine h.cell _ ?_
  rw [← e, List.getElem?_take, List.getElem?_drop] at hu
  split at hu
  · simpa using hu
  · cases hu
/-- A range of cells that is only read. -/
theorem St.addcells {N R : Nat → Prop} {W w : World} {ps : List Pt} {b off : Nat} {us : List Value} (h : St N R W w ps) (hb : R b) (k : CellsAt w b off 0 us) : St N R W w (.rd b off us :: ps) :=
  h.free ⟨⟨hb, fun j u hu => by have := k.to j u hu; rwa [Nat.zero_add] at this⟩, fun _ h => h⟩
theorem CellsAt.lt {w : World} {b off : Nat} {u : Value} {us : List Value} (k : CellsAt w b off 0 (u :: us)) : b < w.heap.size := World.block_lt_of_cell? w _ k.1
theorem St.cells {N R : Nat → Prop} {W w : World} {ps : List Pt} {b : Nat} {cs : Array Value} {t : TypeId} (h : St N R W w ps) (ha : At (.bx b cs t) ps) (off : Nat) (us : List Value) (e : (cs.toList.drop off).take us.length = us) : CellsAt w b off 0 us := (h.bx ha).cells off us e
theorem St.cellsR {N R : Nat → Prop} {W w : World} {ps : List Pt} {b o : Nat} {vs : List Value} (h : St N R W w ps) (ha : At (.rd b o vs) ps) (off : Nat) (us : List Value) (e : (vs.drop off).take us.length = us) : CellsAt w b (o + off) 0 us := CellsAt.of 0 fun i u hu => by
  rw [Nat.zero_add, Nat.add_assoc]
  refine h.rd ha ?_
  rw [← e, List.getElem?_take, List.getElem?_drop] at hu
  split at hu
  · exact hu
  · cases hu
/-- What the walk may know of a part. -/
def Pt.facts (w : World) : Pt → Prop
  | .bx b cs _ => CellsAt w b 0 0 cs.toList ∧ (∀ j, w.frozen? ⟨b, j, none⟩ = false) ∧ b < w.heap.size
  | .rd b off us => CellsAt w b off 0 us ∧ b < w.heap.size
  | .mb b off _ us _ _ => CellsAt w b off 0 us ∧ (∀ j, w.frozen? ⟨b, j, none⟩ = false) ∧ b < w.heap.size
  | _ => True
def factsOf (w : World) : List Pt → Prop
  | [] => True
  | p :: ps => p.facts w ∧ factsOf w ps
theorem St.facts {N R : Nat → Prop} {W w : World} {ps : List Pt} (h : St N R W w ps) : factsOf w ps := by
  obtain ⟨F, h1, h2⟩ := h.sat
  have hlt := h.lt
  clear h2 h
  induction ps generalizing F with
  | nil => trivial
  | cons p ps ih =>
    obtain ⟨F1, F2, k1, k2, k3, k4⟩ := h1
    refine ⟨?_, ih F2 k2⟩
    cases p with
    | bx b cs t => exact ⟨CellsAt.of 0 fun i u hu => by rw [Nat.zero_add, Nat.zero_add]; exact k1.1.cell i (by simpa using hu), fun j => k1.1.free j, k1.1.lt⟩
    | rd b off us => exact ⟨CellsAt.of 0 fun i u hu => by rw [Nat.zero_add]; exact k1.1.2 i u hu, hlt b k1.1.1⟩
    | mb b off pre us post t => exact ⟨CellsAt.of 0 fun i u hu => by
        rw [Nat.zero_add]
        refine k1.1.1.cell _ ?_
        rw [List.getElem?_toArray, List.append_assoc, List.getElem?_append_right (by rw [k1.1.2]; omega), k1.1.2, Nat.add_sub_cancel_left, List.getElem?_append_left (List.getElem?_eq_some_iff.1 hu).1]
        exact hu, fun j => k1.1.1.free j, k1.1.1.lt⟩
    | _ => trivial
/-! ### Operations -/
section
variable {N R : Nat → Prop} {W w : World} {ps : List Pt} {P : Program} {ops : Array Oper} {rest : List Oper} {o : Oper} {a : Act} {Q : Exit → Act → World → Prop} {K : Act → World → Prop} {E : Prop}
/-- What follows, in every world in which as much is held. -/
theorem St.any {c : Code} (H : St N R W w ps) (h : ∀ w', St N R W w' ps → c.wp P Q a w') : c.wp P Q a w := h w H
theorem by_wp (hgd : o.guard = none) (h : ∀ K : Act → World → Prop, (∀ a w, wpList P ops Q rest a w → K a w) → Oper.wp P o a w K Q) : wpList P ops Q (o :: rest) a w := wpList_plain hgd h
theorem by_step (hgd : o.guard = none) (h : Oper.wp P o a w K Q) : if Region.wanted o (yielded ops a.tmps) = true then Oper.wp P o a w K Q else E := by
  rw [if_pos (by simp [Region.wanted, hgd])]; exact h
theorem run_load1 {ty : TypeId} {ad : Addr} {u : Value} (hi : ∃ d, P.underlying ty = some d ∧ d.isRow = false) (hc : w.cell? ad = some u) : (loadVar ty ad).run P w = .ok u w := by
  obtain ⟨d, hu, hd⟩ := hi
  have hagg : (isAgg ty).run P w = .ok false w := by
    unfold isAgg
    rw [Sem.run_bind, run_underlying hu w]
    cases d <;> simp_all
  simp [loadVar, Sem.run_bind, hagg, hc]
/-- A load of one cell. -/
theorem wp_load1 (ty : TypeId) (x : Operand) (ho : o.op = .load ty x) {ad : Addr} {u : Value} (hx : a.eval x = .pointer (some ad)) (hi : ∃ d, P.underlying ty = some d ∧ d.isRow = false) (hc : w.cell? ad = some u) (k : K (a.put o.dst u) w) : Oper.wp P o a w K Q := by
  unfold Oper.wp execOp
  simp only [ho, hx, Instr.loadAt, Instr.sureAddr, Sem.run_bind, Sem.run_pure, Result.andThen_ok, run_load1 hi hc]
  exact k
/-- A store of one cell into a box. -/
theorem wp_store1 (ty : TypeId) (x y : Operand) (ho : o.op = .store ty x y) {b j : Nat} {u : Value} {cs : Array Value} {t : TypeId} (hx : a.eval x = .pointer (some ⟨b, j, none⟩)) (hy : a.eval y = u) (hi : (P.info? ty).map (·.size) = some 1) (h1 : u.cells = #[u] ∧ u.oneCell' = true)
    (H : St N R W w (.bx b cs t :: ps)) {old : Value} (hj : cs[j]? = some old) {cs' : Array Value} (hcs : cs.setIfInBounds j u = cs') (k : ∀ w', St N R W w' (.bx b cs' t :: ps) → K (a.put o.dst undef) w') : Oper.wp P o a w K Q := by
  have hb := H.bx .here
  have hr := run_storeCells_cells (P := P) b j [u] 0 w (fun i hi => by simp at hi; subst hi; simp [hb.cell j hj]) (fun i hi => by simp at hi; subst hi; exact hb.free j) (fun v hv => by simp at hv; subst hv; exact h1.2)
  have hs : (storeVar ty ⟨b, j, none⟩ u).run P w = .ok () (w.setCell ⟨b, j, none⟩ u) := by
    obtain ⟨i, hi1, hi2⟩ := Option.map_eq_some_iff.1 hi
    simp only [Nat.add_zero] at hr
    simp [storeVar, sizeOf, typeInfo, hi1, hi2, h1.1, hr]
    rfl
  unfold Oper.wp execOp
  simp only [ho, hx, hy, Instr.storeAt, Instr.sureAddr, Sem.run_bind, Sem.run_pure, Result.andThen_ok, hs]
  exact k _ (hcs ▸ H.put j u)
/-- A store of a struct into a box. -/
theorem wp_storeN (ty : TypeId) (x y : Operand) (ho : o.op = .store ty x y) {b j : Nat} {us cs : Array Value} {t : TypeId} (hx : a.eval x = .pointer (some ⟨b, j, none⟩)) (hy : a.eval y = .agg us) (hi : (P.info? ty).map (·.size) = some us.size) (h1 : us.all (·.oneCell') = true)
    (H : St N R W w (.bx b cs t :: ps)) (hj : j + us.size ≤ cs.size) {cs' : Array Value} (hcs : putAll cs j us.toList = cs') (k : ∀ w', St N R W w' (.bx b cs' t :: ps) → K (a.put o.dst undef) w') : Oper.wp P o a w K Q := by
  have hb := H.bx .here
  refine wp_store_mid ty x y ho b j us hx hy (fun i hi => ⟨?_, hb.free _⟩) hi h1 (k _ (hcs ▸ H.puts))
  rw [hb.cell (j + i) (Array.getElem?_eq_getElem (by omega))]
  rfl
/-- A box. -/
theorem wp_box (t : TypeId) (x : Operand) (ho : o.op = .box t x) {v : Value} (hx : a.eval x = v) {cs : Array Value} (hcs : v.cells = cs) (H : St N R W w ps) (k : ∀ b w', St N R W w' (.bx b cs t :: ps) → K (a.put o.dst (.pointer (some ⟨b, 0, none⟩))) w') : Oper.wp P o a w K Q := by
  unfold Oper.wp execOp
  simp only [ho, hx, Instr.box, newVar, newRow, Sem.run_bind, Sem.run_pure, Result.andThen_ok, run_newObj]
  exact k _ _ (hcs ▸ H.box v.cells t)
theorem wp_alloc (t : TypeId) (ho : o.op = .alloc t) {z : Value} (hz : (P.info? t).map (·.zero) = some (some z)) {cs : Array Value} (hcs : z.cells = cs) (H : St N R W w ps) (k : ∀ b w', St N R W w' (.bx b cs t :: ps) → K (a.put o.dst (.pointer (some ⟨b, 0, none⟩))) w') : Oper.wp P o a w K Q := by
  obtain ⟨i, hi1, hi2⟩ := Option.map_eq_some_iff.1 hz
  have hzv : (zeroValue t).run P w = .ok z w := by simp [zeroValue, typeInfo, hi1, hi2]
  unfold Oper.wp execOp
  simp only [ho, Instr.alloc, newVar, newRow, Sem.run_bind, Sem.run_pure, Result.andThen_ok, run_newObj, hzv]
  exact k _ _ (hcs ▸ H.box z.cells t)
/-- 'append(v, x)' of one element, behind its box (which stands in the world, not in the list). -/
theorem wp_append1 (s x : Operand) (t e : TypeId) (ho : o.op = .call { callee := .builtin .append, args := #[s, x], argTypes := #[t, t] }) (ht : P.underlying t = some (.slice e)) (z : Value) (sz bytes : Nat) (hinf : Inf P e z sz bytes) (hzs : z.cells.size = sz) (hsz : 0 < sz) (hb0 : 0 < bytes)
    {A : Option Addr} {n c : Nat} (hs : a.eval s = .slice A n c) (cs : Array Value) {g : Nat} (hx : a.eval x = .slice (some ⟨g, 0, none⟩) 1 1) (hg : w.heap.size = g) {rows : List (List D)} {row : List D} (hnr : row.length = sz)
    (H : St N R W w (.ow (.sl e sz rows) (.slice A n c) :: .os row cs.toList :: ps)) (hbytes : (n + 1) * bytes ≤ 140737488355328)
    (k : ∀ A' c' w', St N R W w' (.ow (.sl e sz (rows ++ [row])) (.slice A' (n + 1) c') :: ps) → K (a.put o.dst (.slice A' (n + 1) c')) w') : Oper.wp P o a (w.alloc (.cells cs e)) K Q := by
  subst hg
  have hn : rows.length = n := by
    obtain ⟨F, h, _⟩ := H.own .here
    obtain ⟨A', c', hv, _⟩ := h.shape
    injection hv with _ h2 _
    exact h2.symm
  obtain ⟨F, ⟨F1, F2, h1, ⟨G1, G2, k1, k2, k3, k4⟩, h3, h4⟩, hR⟩ := H.sat
  have hk : Below w.heap.size w (w.alloc (.cells cs e)) := (Below.refl _ _).alloc (Nat.le_refl _) _
  obtain ⟨i, hi, hz, hsize, hby⟩ := hinf.out
  obtain ⟨v', w', F', hr, r2, r3, r4⟩ := run_append_ow (P := P) t o.type e i z sz bytes ht hi hz hsize hby hzs hsz (Ow.keep h1 hk) ⟨w.heap.size, 0, none⟩ 1 1 cs.toList [row] G1 rfl (by simp [hnr]) (fun j u hu => by
    rw [add_lit, Nat.zero_add]
    have : (w.alloc (.cells cs e)).heap[w.heap.size]? = some (.cells cs e) := _root_.Go.heap_alloc_new w _
    rw [cell_of_row _ _ _ _ _ _ this]
    simpa using hu) (by simpa using OwL.keep k1 hk) (fun b hb hc => h3 b hc ((k4 b).2 (.inl hb))) (oneCells_of (OwL.ro k1)) (by rw [hn]; exact hbytes) hb0
  unfold Oper.wp execOp
  simp only [ho, resolve, invoke, builtin, Sem.run_bind, Sem.run_pure, Result.andThen_ok, List.map_toArray, List.map_cons, List.map_nil, hs, hx, hr]
  obtain ⟨A', c', hv, _⟩ := r2.shape
  rw [List.length_append, List.length_singleton, hn] at hv
  subst hv
  refine k A' c' w' ⟨?_, H.sub, ?_, fun b => F' b ∨ G2 b, ⟨F', G2, r2, ?_, ?_, fun b => Iff.rfl⟩, ?_⟩
  · exact Kp.trans H.kp (Kp.trans (Kp.of_below (F := F1) hk) r3 (fun _ h => h) (fun _ _ h => h)) (fun _ h => h) fun b _ hb hn => hR b ((h4 b).2 (.inl hb)) (H.sub b hn)
  · intro b hb
    have := H.lt b hb
    have := r3.size
    simp at this
    omega
  · refine k2.stays fun b hb => ?_
    have hlt : b < w.heap.size := hb.elim (k2.lt b) (H.lt b)
    rw [r3.block b (by simp; omega) (fun hf => hb.elim (fun hg => h3 b hf ((k4 b).2 (.inr hg))) (hR b ((h4 b).2 (.inl hf))))]
    exact Below.heap_alloc w _ b hlt
  · intro b hb hg
    rcases r4 b hb with h | h | h
    · exact h3 b h ((k4 b).2 (.inr hg))
    · exact k3 b h hg
    · have := k2.lt b hg
      rw [h] at this
      simp at this
      omega
  · rintro b (hb | hb)
    · rcases r4 b hb with h | h | h
      · exact hR b ((h4 b).2 (.inl h))
      · exact hR b ((h4 b).2 (.inr ((k4 b).2 (.inl h))))
      · intro hr
        have := H.lt b hr
        rw [h] at this
        simp at this
        omega
    · exact hR b ((h4 b).2 (.inr ((k4 b).2 (.inr hb))))
/-- The same, onto a slice whose block alone is owned. -/
theorem wp_append1_sh (s x : Operand) (t e : TypeId) (ho : o.op = .call { callee := .builtin .append, args := #[s, x], argTypes := #[t, t] }) (ht : P.underlying t = some (.slice e)) (z : Value) (sz bytes : Nat) (hinf : Inf P e z sz bytes) (hzs : z.cells.size = sz) (hsz : 0 < sz) (hb0 : 0 < bytes)
    {A : Option Addr} {n c : Nat} (hs : a.eval s = .slice A n c) (cs : Array Value) {g : Nat} (hx : a.eval x = .slice (some ⟨g, 0, none⟩) 1 1) (hg : w.heap.size = g) {rows : List (List D)} {row : List D} (hnr : row.length = sz)
    (H : St N R W w (.sh e sz rows (.slice A n c) :: ps)) (hro : RoL w R row cs.toList) (hbytes : (n + 1) * bytes ≤ 140737488355328)
    (k : ∀ A' c' w', St N R W w' (.sh e sz (rows ++ [row]) (.slice A' (n + 1) c') :: ps) → K (a.put o.dst (.slice A' (n + 1) c')) w') : Oper.wp P o a (w.alloc (.cells cs e)) K Q := by
  subst hg
  obtain ⟨F, ⟨F1, F2, h1, h2, h3, h4⟩, hR⟩ := H.sat
  have hn : rows.length = n := by
    obtain ⟨A', c', hv, _⟩ := Sh.slice h1
    injection hv with _ h2 _
    exact h2.symm
  have hk : Below w.heap.size w (w.alloc (.cells cs e)) := (Below.refl _ _).alloc (Nat.le_refl _) _
  obtain ⟨i, hi, hz, hsize, hby⟩ := hinf.out
  have hP : ∀ b, R b → b < (w.alloc (.cells cs e)).heap.size := fun b hb => by have := H.lt b hb; simp; omega
  obtain ⟨v', w', F', hr, r2, r3, r4⟩ := run_append_sh (P := P) t o.type e i z sz bytes ht hi hz hsize hby hzs hsz (Sh.keep h1 H.lt hk) hP ⟨w.heap.size, 0, none⟩ 1 1 cs.toList [row] rfl (by simp [hnr]) (fun j u hu => by
    rw [add_lit, Nat.zero_add]
    have : (w.alloc (.cells cs e)).heap[w.heap.size]? = some (.cells cs e) := _root_.Go.heap_alloc_new w _
    rw [cell_of_row _ _ _ _ _ _ this]
    simpa using hu) (by simpa using hro.stays fun b hb => Below.heap_alloc w _ b (H.lt b hb)) (oneCells_of hro) (by rw [hn]; exact hbytes) hb0
  unfold Oper.wp execOp
  simp only [ho, resolve, invoke, builtin, Sem.run_bind, Sem.run_pure, Result.andThen_ok, List.map_toArray, List.map_cons, List.map_nil, hs, hx, hr]
  obtain ⟨A', c', hv, _⟩ := Sh.slice r2
  rw [List.length_append, List.length_singleton, hn] at hv
  subst hv
  refine k A' c' w' ⟨?_, H.sub, ?_, fun b => F' b ∨ F2 b, ⟨F', F2, r2, ?_, ?_, fun b => Iff.rfl⟩, ?_⟩
  · exact Kp.trans H.kp (Kp.trans (Kp.of_below (F := F1) hk) r3 (fun _ h => h) (fun _ _ h => h)) (fun _ h => h) fun b _ hb hn => hR b ((h4 b).2 (.inl hb)) (H.sub b hn)
  · intro b hb
    have := H.lt b hb
    have := r3.size
    simp at this
    omega
  · refine h2.stays fun b hb => ?_
    have hlt : b < w.heap.size := hb.elim (h2.lt b) (H.lt b)
    rw [r3.block b (by simp; omega) (fun hf => hb.elim (fun hg => h3 b hf hg) (hR b ((h4 b).2 (.inl hf))))]
    exact Below.heap_alloc w _ b hlt
  · intro b hb hg
    rcases r4 b hb with h | h
    · exact h3 b h hg
    · have := h2.lt b hg
      rw [h] at this
      simp at this
      omega
  · rintro b (hb | hb)
    · rcases r4 b hb with h | h
      · exact hR b ((h4 b).2 (.inl h))
      · intro hr
        have := H.lt b hr
        rw [h] at this
        simp at this
        omega
    · exact hR b ((h4 b).2 (.inr hb))
/-! ### The same, at a place of the list -/
theorem wp_store1_at (k : Nat) (ty : TypeId) (x y : Operand) (ho : o.op = .store ty x y) {b j : Nat} {u : Value} {cs : Array Value} {t : TypeId} (hx : a.eval x = .pointer (some ⟨b, j, none⟩)) (hy : a.eval y = u) (hi : (P.info? ty).map (·.size) = some 1) (h1 : u.cells = #[u] ∧ u.oneCell' = true)
    (H : St N R W w ps) (hk : ps[k]? = some (.bx b cs t)) {old : Value} (hj : cs[j]? = some old) {cs' : Array Value} (hcs : cs.setIfInBounds j u = cs') (c : ∀ w', St N R W w' (ps.set k (.bx b cs' t)) → K (a.put o.dst undef) w') : Oper.wp P o a w K Q :=
  wp_store1 ty x y ho hx hy hi h1 (H.pull hk) hj hcs fun w' H' => c w' (H'.push hk)
theorem wp_storeM_at (k : Nat) (ty : TypeId) (x y : Operand) (ho : o.op = .store ty x y) {b off : Nat} {pre us post : List Value} {t : TypeId} (H : St N R W w ps) (hk : ps[k]? = some (.mb b off pre us post t)) (j : Nat) (u : Value) (hx : a.eval x = .pointer (some ⟨b, off + j, none⟩)) (hy : a.eval y = u) (hi : (P.info? ty).map (·.size) = some 1) (h1 : u.cells = #[u] ∧ u.oneCell' = true)
    (hj : j < us.length) {us' : List Value} (hus : us.set j u = us') (c : ∀ w', St N R W w' (ps.set k (.mb b off pre us' post t)) → K (a.put o.dst undef) w') : Oper.wp P o a w K Q := by
  have hf := (H.pull hk).facts.1
  have hc := hf.1.to j (us[j]) (List.getElem?_eq_getElem hj)
  rw [Nat.zero_add] at hc
  have hr := run_storeCells_cells (P := P) b (off + j) [u] 0 w (fun i hi => by simp at hi; subst hi; simp [hc]) (fun i hi => by simp at hi; subst hi; exact hf.2.1 _) (fun v hv => by simp at hv; subst hv; exact h1.2)
  have hs : (storeVar ty ⟨b, off + j, none⟩ u).run P w = .ok () (w.setCell ⟨b, off + j, none⟩ u) := by
    obtain ⟨i, hi1, hi2⟩ := Option.map_eq_some_iff.1 hi
    simp only [Nat.add_zero] at hr
    simp [storeVar, sizeOf, typeInfo, hi1, hi2, h1.1, hr]
    rfl
  unfold Oper.wp execOp
  simp only [ho, hx, hy, Instr.storeAt, Instr.sureAddr, Sem.run_bind, Sem.run_pure, Result.andThen_ok, hs]
  exact c _ (((H.pull hk).putM j u us' hj hus).push hk)
theorem wp_append1_at (k k2 : Nat) (s x : Operand) (t e : TypeId) (ho : o.op = .call { callee := .builtin .append, args := #[s, x], argTypes := #[t, t] }) (ht : P.underlying t = some (.slice e)) (z : Value) (sz bytes : Nat) (hinf : Inf P e z sz bytes) (hzs : z.cells.size = sz) (hsz : 0 < sz) (hb0 : 0 < bytes)
    {A : Option Addr} {n c : Nat} (hs : a.eval s = .slice A n c) (cs : Array Value) {g : Nat} (hx : a.eval x = .slice (some ⟨g, 0, none⟩) 1 1) (hg : w.heap.size = g) {rows : List (List D)} (row : List D) (hnr : row.length = sz)
    (H : St N R W w ps) (hk : ps[k]? = some (.ow (.sl e sz rows) (.slice A n c))) (hk2 : ps[k2]? = some (.os row cs.toList)) (hne : k ≠ k2) (hbytes : (n + 1) * bytes ≤ 140737488355328)
    (cn : ∀ A' c' w', St N R W w' ((ps.set k2 (.os [] [])).set k (.ow (.sl e sz (rows ++ [row])) (.slice A' (n + 1) c'))) → K (a.put o.dst (.slice A' (n + 1) c')) w') : Oper.wp P o a (w.alloc (.cells cs e)) K Q :=
  wp_append1 s x t e ho ht z sz bytes hinf hzs hsz hb0 hs cs hx hg hnr ((St.pull (k := k2 + 1) (p := .os row cs.toList) (H.pull hk) (by simpa [List.getElem?_set_ne hne] using hk2)).front (.there .here)) hbytes fun A' c' w' H' => cn A' c' w' (by
    have H2 : St N R W w' (.ow (.sl e sz (rows ++ [row])) (.slice A' (n + 1) c') :: (ps.set k2 (.os [] [])).set k (.os [] [])) := by rw [List.set_comm _ _ (Ne.symm hne)]; exact H'
    exact H2.push (by rw [List.getElem?_set_ne (Ne.symm hne)]; exact hk))
theorem wp_append1P_at (k : Nat) (s x : Operand) (t e : TypeId) (ho : o.op = .call { callee := .builtin .append, args := #[s, x], argTypes := #[t, t] }) (ht : P.underlying t = some (.slice e)) (z : Value) (sz bytes : Nat) (hinf : Inf P e z sz bytes) (hzs : z.cells.size = sz) (hsz : 0 < sz) (hb0 : 0 < bytes)
    {A : Option Addr} {n c : Nat} (hs : a.eval s = .slice A n c) (cs : Array Value) {g : Nat} (hx : a.eval x = .slice (some ⟨g, 0, none⟩) 1 1) (hg : w.heap.size = g) {rows : List (List D)} (row : List D) (hnr : row.length = sz)
    (H : St N R W w ps) (hk : ps[k]? = some (.ow (.sl e sz rows) (.slice A n c))) (hrow : OwL w row cs.toList (fun _ => False)) (hbytes : (n + 1) * bytes ≤ 140737488355328)
    (cn : ∀ A' c' w', St N R W w' (ps.set k (.ow (.sl e sz (rows ++ [row])) (.slice A' (n + 1) c'))) → K (a.put o.dst (.slice A' (n + 1) c')) w') : Oper.wp P o a (w.alloc (.cells cs e)) K Q :=
  wp_append1 s x t e ho ht z sz bytes hinf hzs hsz hb0 hs cs hx hg hnr (((H.pull hk).free (q := .os row cs.toList) hrow).front (.there .here)) hbytes fun A' c' w' H' => cn A' c' w' (H'.push hk)
theorem wp_append1S_at (k : Nat) (s x : Operand) (t e : TypeId) (ho : o.op = .call { callee := .builtin .append, args := #[s, x], argTypes := #[t, t] }) (ht : P.underlying t = some (.slice e)) (z : Value) (sz bytes : Nat) (hinf : Inf P e z sz bytes) (hzs : z.cells.size = sz) (hsz : 0 < sz) (hb0 : 0 < bytes)
    {A : Option Addr} {n c : Nat} (hs : a.eval s = .slice A n c) (cs : Array Value) {g : Nat} (hx : a.eval x = .slice (some ⟨g, 0, none⟩) 1 1) (hg : w.heap.size = g) {rows : List (List D)} (row : List D) (hnr : row.length = sz)
    (H : St N R W w ps) (hk : ps[k]? = some (.sh e sz rows (.slice A n c))) (hro : RoL w R row cs.toList) (hbytes : (n + 1) * bytes ≤ 140737488355328)
    (cn : ∀ A' c' w', St N R W w' (ps.set k (.sh e sz (rows ++ [row]) (.slice A' (n + 1) c'))) → K (a.put o.dst (.slice A' (n + 1) c')) w') : Oper.wp P o a (w.alloc (.cells cs e)) K Q :=
  wp_append1_sh s x t e ho ht z sz bytes hinf hzs hsz hb0 hs cs hx hg hnr (H.pull hk) hro hbytes fun A' c' w' H' => cn A' c' w' (H'.push hk)
end
end Go.Dt

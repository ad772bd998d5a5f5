/- Values that the call owns: 'Ow w d v F': v reads as d, the blocks that it leads to are F, each in one place alone, none frozen. What a world keeps but for some blocks: 'Kp'. Append onto what is owned. -/
import Derived.Test.YtahbgkabdongnaaDoorDt
import Derived.Laws.AppendOwn
namespace Go.Dt
open Go.RowKit Go.Deep

def D.plain : D → Prop
  | .sl _ _ _ => False
  | _ => True

inductive Ow (w : World) : D → Value → (Nat → Prop) → Prop where
  | int (k : IntKind) (n : Int) (F : Nat → Prop) : (∀ b, ¬ F b) → Ow w (.int k n) (.int k n) F
  | bool (x : Bool) (F : Nat → Prop) : (∀ b, ¬ F b) → Ow w (.bool x) (.bool x) F
  | str (s : ByteArray) (F : Nat → Prop) : (∀ b, ¬ F b) → Ow w (.str s) (.string s) F
  | emp (e : TypeId) (sz : Nat) (A : Option Addr) (F : Nat → Prop) : (∀ b, ¬ F b) → Ow w (.sl e sz []) (.slice A 0 0) F
  | row (e : TypeId) (sz g c : Nat) (rows : List (List D)) (us : List Value) (Fs : Nat → Nat → Prop) (cs : Array Value) (F : Nat → Prop) :
      w.heap[g]? = some (.cells cs e (0, 0)) → cs.size = c * sz → rows.length ≤ c → c ≤ maxLen → (∀ row ∈ rows, row.length = sz) → us.length = rows.length * sz → cs.toList.take (rows.length * sz) = us →
      (∀ (p : Nat) (d : D) (u : Value), rows.flatten[p]? = some d → us[p]? = some u → Ow w d u (Fs p)) →
      (∀ p q b, p < us.length → q < us.length → Fs p b → Fs q b → p = q) →
      (∀ p, p < us.length → ¬ Fs p g) → (∀ b, F b ↔ b = g ∨ ∃ p, p < us.length ∧ Fs p b) →
      Ow w (.sl e sz rows) (.slice (some ⟨g, 0, none⟩) rows.length c) F

/-- The same of a list of cells. -/
def OwL (w : World) (ds : List D) (us : List Value) (F : Nat → Prop) : Prop :=
  us.length = ds.length ∧ ∃ Fs : Nat → Nat → Prop, (∀ (p : Nat) (d : D) (u : Value), ds[p]? = some d → us[p]? = some u → Ow w d u (Fs p)) ∧
    (∀ p q b, p < us.length → q < us.length → Fs p b → Fs q b → p = q) ∧ (∀ b, F b ↔ ∃ p, p < us.length ∧ Fs p b)

/-- But for the blocks F the world w' is as w was. -/
structure Kp (F : Nat → Prop) (w w' : World) : Prop where
  os : w'.os = w.os
  tape : w'.tape = w.tape
  output : w'.output = w.output
  size : w.heap.size ≤ w'.heap.size
  block : ∀ k, k < w.heap.size → ¬ F k → w'.heap[k]? = w.heap[k]?

theorem flatten_length {rows : List (List D)} {sz : Nat} (h : ∀ row ∈ rows, row.length = sz) : rows.flatten.length = rows.length * sz := by
  induction rows with
  | nil => simp
  | cons r rs ih =>
    rw [List.flatten_cons, List.length_append, ih (fun row hr => h row (by simp [hr])), h r (by simp), List.length_cons, Nat.add_mul, Nat.one_mul, Nat.add_comm]
theorem flatten_get {rows : List (List D)} {sz : Nat} (h : ∀ row ∈ rows, row.length = sz) {i j : Nat} {row : List D} {d : D} (hi : rows[i]? = some row) (hj : row[j]? = some d) : rows.flatten[i * sz + j]? = some d := by
  induction rows generalizing i with
  | nil => simp at hi
  | cons r rs ih =>
    have hr : r.length = sz := h r (by simp)
    cases i with
    | zero =>
      simp at hi; subst hi
      have hlt := (List.getElem?_eq_some_iff.1 hj).1
      rw [List.flatten_cons, List.getElem?_append_left (by omega)]
      simpa using hj
    | succ i =>
      simp at hi
      rw [List.flatten_cons, List.getElem?_append_right (by rw [hr, Nat.add_mul]; omega), hr]
      rw [show (i + 1) * sz + j - sz = i * sz + j from by rw [Nat.add_mul]; omega]
      exact ih (fun row hm => h row (by simp [hm])) hi
theorem rows_len {rows : List (List D)} {sz : Nat} (h : ∀ row ∈ rows, row.length = sz) {i : Nat} {row : List D} (hi : rows[i]? = some row) : row.length = sz := h row (List.mem_of_getElem? hi)

section
variable {w w' : World}

theorem Ow.lt {d : D} {v : Value} {F : Nat → Prop} (h : Ow w d v F) : ∀ b, F b → b < w.heap.size := by
  induction h with
  | int k n F h => exact fun b hb => absurd hb (h b)
  | bool x F h => exact fun b hb => absurd hb (h b)
  | str s F h => exact fun b hb => absurd hb (h b)
  | emp e sz A F h => exact fun b hb => absurd hb (h b)
  | row e sz g c rows us Fs cs F h1 h2 h3 h4 h5 h6 h7 h8 h9 h10 h11 ih =>
    intro b hb
    rcases (h11 b).1 hb with rfl | ⟨p, hp, hf⟩
    · exact (Array.getElem?_eq_some_iff.1 h1).1
    · have hl := flatten_length h5
      exact ih p _ _ (List.getElem?_eq_getElem (by omega)) (List.getElem?_eq_getElem hp) b hf
theorem Ow.same {d : D} {v : Value} {F F' : Nat → Prop} (h : Ow w d v F) (hF : ∀ b, F' b ↔ F b) : Ow w d v F' := by
  have : F' = F := funext fun b => propext (hF b)
  rw [this]; exact h
theorem Ow.stays {d : D} {v : Value} {F : Nat → Prop} (h : Ow w d v F) : (∀ b, F b → w'.heap[b]? = w.heap[b]?) → Ow w' d v F := by
  induction h with
  | int k n F h => exact fun _ => .int k n F h
  | bool x F h => exact fun _ => .bool x F h
  | str s F h => exact fun _ => .str s F h
  | emp e sz A F h => exact fun _ => .emp e sz A F h
  | row e sz g c rows us Fs cs F h1 h2 h3 h4 h5 h6 h7 h8 h9 h10 h11 ih =>
    intro hw
    refine .row e sz g c rows us Fs cs F ((hw g ((h11 g).2 (.inl rfl))).trans h1) h2 h3 h4 h5 h6 h7 (fun p d u hd hu => ?_) h9 h10 h11
    have hp : p < us.length := (List.getElem?_eq_some_iff.1 hu).1
    exact ih p d u hd hu fun b hb => hw b ((h11 b).2 (.inr ⟨p, hp, hb⟩))
theorem Ow.kp {d : D} {v : Value} {F G : Nat → Prop} (h : Ow w d v F) (hk : Kp G w w') (hn : ∀ b, F b → ¬ G b) : Ow w' d v F :=
  h.stays fun b hb => hk.block b (h.lt b hb) (hn b hb)
theorem Ow.keep {d : D} {v : Value} {F : Nat → Prop} (h : Ow w d v F) (hk : Below w.heap.size w w') : Ow w' d v F :=
  h.stays fun b hb => hk.block b (h.lt b hb)
theorem Ow.ro {d : D} {v : Value} {F : Nat → Prop} (h : Ow w d v F) : Ro w F d v := by
  induction h with
  | int k n F h => exact .int k n
  | bool x F h => exact .bool x
  | str s F h => exact .str s
  | emp e sz A F h => exact .emp e sz A 0 (Nat.zero_le _)
  | row e sz g c rows us Fs cs F h1 h2 h3 h4 h5 h6 h7 h8 h9 h10 h11 ih =>
    have hl := flatten_length h5
    refine .row e sz g 0 c rows (fun i j => us.getD (i * sz + j) undef) h3 h4 ((h11 g).2 (.inl rfl)) (fun i row hi => rows_len h5 hi) (fun i row j d hi hj => ?_) (fun i row j d hi hj => ?_)
    · have hf := flatten_get h5 hi hj
      have hp : i * sz + j < us.length := by have := (List.getElem?_eq_some_iff.1 hf).1; omega
      have : cs[i * sz + j]? = some (us.getD (i * sz + j) undef) := by
        rw [← h7, List.getD_eq_getElem?_getD, List.getElem?_take, if_pos (by omega)]
        have : i * sz + j < cs.size := by rw [h2]; have := Nat.mul_le_mul_right sz h3; omega
        simp [this]
      simp [World.cell?, h1, this]
    · have hf := flatten_get h5 hi hj
      have hp : i * sz + j < us.length := by have := (List.getElem?_eq_some_iff.1 hf).1; omega
      have hu : us[i * sz + j]? = some (us.getD (i * sz + j) undef) := by rw [List.getD_eq_getElem?_getD, List.getElem?_eq_getElem hp]; rfl
      exact (ih _ d _ hf hu).mono fun b hb => (h11 b).2 (.inr ⟨_, hp, hb⟩)
theorem OwL.ro {ds : List D} {us : List Value} {F : Nat → Prop} (h : OwL w ds us F) : RoL w F ds us := by
  obtain ⟨h1, Fs, h2, _, h4⟩ := h
  refine ⟨h1, fun j d u hd hu => ((h2 j d u hd hu).ro).mono fun b hb => (h4 b).2 ⟨j, (List.getElem?_eq_some_iff.1 hu).1, hb⟩⟩
theorem OwL.lt {ds : List D} {us : List Value} {F : Nat → Prop} (h : OwL w ds us F) : ∀ b, F b → b < w.heap.size := by
  obtain ⟨h1, Fs, h2, _, h4⟩ := h
  intro b hb
  obtain ⟨p, hp, hf⟩ := (h4 b).1 hb
  exact (h2 p _ _ (List.getElem?_eq_getElem (by omega)) (List.getElem?_eq_getElem hp)).lt b hf
theorem OwL.stays {ds : List D} {us : List Value} {F : Nat → Prop} (h : OwL w ds us F) (hw : ∀ b, F b → w'.heap[b]? = w.heap[b]?) : OwL w' ds us F := by
  obtain ⟨h1, Fs, h2, h3, h4⟩ := h
  exact ⟨h1, Fs, fun p d u hd hu => (h2 p d u hd hu).stays fun b hb => hw b ((h4 b).2 ⟨p, (List.getElem?_eq_some_iff.1 hu).1, hb⟩), h3, h4⟩
theorem OwL.kp {ds : List D} {us : List Value} {F G : Nat → Prop} (h : OwL w ds us F) (hk : Kp G w w') (hn : ∀ b, F b → ¬ G b) : OwL w' ds us F :=
  h.stays fun b hb => hk.block b (h.lt b hb) (hn b hb)
theorem OwL.keep {ds : List D} {us : List Value} {F : Nat → Prop} (h : OwL w ds us F) (hk : Below w.heap.size w w') : OwL w' ds us F :=
  h.stays fun b hb => hk.block b (h.lt b hb)
theorem OwL.same {ds : List D} {us : List Value} {F F' : Nat → Prop} (h : OwL w ds us F) (hF : ∀ b, F' b ↔ F b) : OwL w ds us F' := by
  have : F' = F := funext fun b => propext (hF b)
  rw [this]; exact h
theorem OwL.nil : OwL w [] [] (fun _ => False) := ⟨rfl, fun _ _ => False, fun p d u h => by simp at h, fun p q b hp => by simp at hp, fun b => by simp⟩
theorem OwL.one {d : D} {u : Value} {F : Nat → Prop} (h : Ow w d u F) : OwL w [d] [u] F := by
  refine ⟨rfl, fun _ => F, fun p d' u' hd hu => ?_, fun p q b hp hq _ _ => by simp at hp hq; omega, fun b => ⟨fun hb => ⟨0, by simp, hb⟩, fun ⟨_, _, hb⟩ => hb⟩⟩
  have : p = 0 := by have := (List.getElem?_eq_some_iff.1 hd).1; simp at this; exact this
  subst this
  simp at hd hu; subst hd; subst hu; exact h
theorem OwL.append {d1 d2 : List D} {u1 u2 : List Value} {F1 F2 : Nat → Prop} (h1 : OwL w d1 u1 F1) (h2 : OwL w d2 u2 F2) (hn : ∀ b, F1 b → ¬ F2 b) : OwL w (d1 ++ d2) (u1 ++ u2) (fun b => F1 b ∨ F2 b) := by
  obtain ⟨l1, G1, a1, b1, c1⟩ := h1
  obtain ⟨l2, G2, a2, b2, c2⟩ := h2
  refine ⟨by simp [l1, l2], fun p => if p < u1.length then G1 p else G2 (p - u1.length), fun p d u hd hu => ?_, fun p q b hp hq hfp hfq => ?_, fun b => ?_⟩
  · by_cases hp : p < u1.length
    · rw [List.getElem?_append_left (by omega)] at hd
      rw [List.getElem?_append_left hp] at hu
      simp only [hp, if_true]
      exact a1 p d u hd hu
    · rw [List.getElem?_append_right (by omega)] at hd
      rw [List.getElem?_append_right (by omega)] at hu
      simp only [hp, if_false]
      exact a2 _ d u (by rw [l1]; exact hd) hu
  · simp only [List.length_append] at hp hq
    by_cases h : p < u1.length <;> by_cases h' : q < u1.length <;> simp only [h, h', if_true, if_false] at hfp hfq
    · exact b1 p q b h h' hfp hfq
    · exact absurd ((c2 b).2 ⟨q - u1.length, by omega, hfq⟩) (hn b ((c1 b).2 ⟨p, h, hfp⟩))
    · exact absurd ((c2 b).2 ⟨p - u1.length, by omega, hfp⟩) (hn b ((c1 b).2 ⟨q, h', hfq⟩))
    · have := b2 _ _ b (by omega) (by omega) hfp hfq
      omega
  · show F1 b ∨ F2 b ↔ _
    rw [c1 b, c2 b]
    constructor
    · rintro (⟨p, hp, hf⟩ | ⟨p, hp, hf⟩)
      · exact ⟨p, by simp; omega, by simp [hp, hf]⟩
      · exact ⟨u1.length + p, by simp; omega, by simp only [show ¬ u1.length + p < u1.length from by omega, if_false, Nat.add_sub_cancel_left]; exact hf⟩
    · rintro ⟨p, hp, hf⟩
      by_cases h : p < u1.length
      · simp only [h, if_true] at hf; exact .inl ⟨p, h, hf⟩
      · simp only [h, if_false] at hf; exact .inr ⟨_, by simp at hp; omega, hf⟩
theorem OwL.cons {d : D} {ds : List D} {u : Value} {us : List Value} {F1 F2 : Nat → Prop} (h1 : Ow w d u F1) (h2 : OwL w ds us F2) (hn : ∀ b, F1 b → ¬ F2 b) : OwL w (d :: ds) (u :: us) (fun b => F1 b ∨ F2 b) :=
  OwL.append (OwL.one h1) h2 hn
theorem OwL.unappend {d1 d2 : List D} {us : List Value} {F : Nat → Prop} (h : OwL w (d1 ++ d2) us F) :
    ∃ u1 u2 F1 F2, us = u1 ++ u2 ∧ OwL w d1 u1 F1 ∧ OwL w d2 u2 F2 ∧ (∀ b, F1 b → ¬ F2 b) ∧ (∀ b, F b ↔ F1 b ∨ F2 b) := by
  obtain ⟨l, G, a, b, c⟩ := h
  have hl : (us.take d1.length).length = d1.length := by rw [List.length_take, l, List.length_append]; omega
  refine ⟨us.take d1.length, us.drop d1.length, fun x => ∃ p, p < d1.length ∧ G p x, fun x => ∃ p, d1.length ≤ p ∧ p < us.length ∧ G p x, (List.take_append_drop _ _).symm, ⟨hl, G, fun p d u hd hu => ?_, fun p q x hp hq => b p q x (by rw [hl] at hp; rw [l, List.length_append]; omega) (by rw [hl] at hq; rw [l, List.length_append]; omega), fun x => by rw [hl]⟩,
    ⟨by rw [List.length_drop, l, List.length_append]; omega, fun p => G (d1.length + p), fun p d u hd hu => ?_, fun p q x hp hq h1 h2 => ?_, fun x => ?_⟩, fun x h1 h2 => ?_, fun x => ?_⟩
  · have hp : p < d1.length := (List.getElem?_eq_some_iff.1 hd).1
    rw [List.getElem?_take, if_pos hp] at hu
    exact a p d u (by rw [List.getElem?_append_left hp]; exact hd) hu
  · rw [List.getElem?_drop] at hu
    exact a _ d u (by rw [List.getElem?_append_right (by omega)]; simpa using hd) hu
  · rw [List.length_drop] at hp hq
    have := b _ _ x (by omega) (by omega) h1 h2
    omega
  · constructor
    · rintro ⟨p, h1, h2, h3⟩
      exact ⟨p - d1.length, by rw [List.length_drop]; omega, by show G (d1.length + (p - d1.length)) x; rw [show d1.length + (p - d1.length) = p from by omega]; exact h3⟩
    · rintro ⟨p, h1, h2⟩
      rw [List.length_drop] at h1
      exact ⟨d1.length + p, by omega, by omega, h2⟩
  · obtain ⟨p, hp, h1⟩ := h1
    obtain ⟨q, hq, hq', h2⟩ := h2
    have := b p q x (by omega) hq' h1 h2
    omega
  · rw [c x]
    constructor
    · rintro ⟨p, hp, h⟩
      by_cases hlt : p < d1.length
      · exact .inl ⟨p, hlt, h⟩
      · exact .inr ⟨p, by omega, hp, h⟩
    · rintro (⟨p, hp, h⟩ | ⟨p, _, hp, h⟩)
      · exact ⟨p, by rw [l, List.length_append]; omega, h⟩
      · exact ⟨p, hp, h⟩
theorem OwL.uncons {d : D} {ds : List D} {us : List Value} {F : Nat → Prop} (h : OwL w (d :: ds) us F) :
    ∃ u us' F1 F2, us = u :: us' ∧ Ow w d u F1 ∧ OwL w ds us' F2 ∧ (∀ b, F1 b → ¬ F2 b) ∧ (∀ b, F b ↔ F1 b ∨ F2 b) := by
  obtain ⟨u1, u2, F1, F2, rfl, h1, h2, h3, h4⟩ := OwL.unappend (d1 := [d]) h
  obtain ⟨l, G, a, _, c⟩ := h1
  match u1, l with
  | [u], _ =>
    refine ⟨u, u2, F1, F2, rfl, (a 0 d u rfl rfl).same fun b => ?_, h2, h3, h4⟩
    rw [c b]
    exact ⟨fun ⟨p, hp, h⟩ => by simp at hp; subst hp; exact h, fun h => ⟨0, by simp, h⟩⟩
theorem OwL.unnil {us : List Value} {F : Nat → Prop} (h : OwL w [] us F) : us = [] ∧ ∀ b, ¬ F b := by
  obtain ⟨l, G, a, _, c⟩ := h
  have : us = [] := List.eq_nil_of_length_eq_zero (by simpa using l)
  subst this
  exact ⟨rfl, fun b hb => by obtain ⟨p, hp, _⟩ := (c b).1 hb; simp at hp⟩

/-- Numbers, bools, strings own nothing. -/
theorem Ow.of_plain {Pb : Nat → Prop} {d : D} {v : Value} (hp : d.plain) (h : Ro w Pb d v) : Ow w d v (fun _ => False) := by
  cases h with
  | int k n => exact .int k n _ (by simp)
  | bool b => exact .bool b _ (by simp)
  | str s => exact .str s _ (by simp)
  | emp => exact hp.elim
  | row => exact hp.elim
theorem OwL.of_plain {Pb : Nat → Prop} {ds : List D} {us : List Value} (hp : ∀ d ∈ ds, d.plain) (h : RoL w Pb ds us) : OwL w ds us (fun _ => False) :=
  ⟨h.1, fun _ _ => False, fun p d u hd hu => Ow.of_plain (hp d (List.mem_of_getElem? hd)) (h.2 p d u hd hu), fun p q b _ _ h => h.elim, fun b => by simp⟩
theorem Ow.plain_free {d : D} {v : Value} {F : Nat → Prop} (hp : d.plain) (h : Ow w d v F) : ∀ b, ¬ F b := by
  cases h with
  | int k n F h => exact h
  | bool x F h => exact h
  | str s F h => exact h
  | emp => exact hp.elim
  | row => exact hp.elim

theorem OwL.consP {d : D} {ds : List D} {u : Value} {us : List Value} {F : Nat → Prop} (h1 : Ow w d u (fun _ => False)) (h2 : OwL w ds us F) : OwL w (d :: ds) (u :: us) F :=
  (OwL.cons h1 h2 (fun _ h => h.elim)).same fun b => by simp
theorem Ow.I (k : IntKind) (n : Int) : Ow w (.int k n) (.int k n) (fun _ => False) := .int k n _ (by simp)
theorem Ow.B (x : Bool) : Ow w (.bool x) (.bool x) (fun _ => False) := .bool x _ (by simp)
theorem Ow.S (s : ByteArray) : Ow w (.str s) (.string s) (fun _ => False) := .str s _ (by simp)
theorem Ow.int_inv {k : IntKind} {n : Int} {v : Value} {F : Nat → Prop} (h : Ow w (.int k n) v F) : v = .int k n ∧ ∀ b, ¬ F b := ⟨h.ro.int_inv, h.plain_free (d := _) (by simp [D.plain])⟩
theorem Ow.bool_inv {x : Bool} {v : Value} {F : Nat → Prop} (h : Ow w (.bool x) v F) : v = .bool x ∧ ∀ b, ¬ F b := ⟨h.ro.bool_inv, h.plain_free (d := _) (by simp [D.plain])⟩
theorem Ow.str_inv {s : ByteArray} {v : Value} {F : Nat → Prop} (h : Ow w (.str s) v F) : v = .string s ∧ ∀ b, ¬ F b := ⟨h.ro.str_inv, h.plain_free (d := _) (by simp [D.plain])⟩
/-- What is written elsewhere, or laid anew, is nothing to it. -/
theorem Ow.far {d : D} {v : Value} {F : Nat → Prop} (h : Ow w d v F) {p : Addr} (hp : ¬ F p.block) (u : Value) : Ow (w.setCell p u) d v F :=
  h.stays fun b hb => Below.heap_setCell w p u b (fun e => hp (e ▸ hb))
theorem Ow.alloc {d : D} {v : Value} {F : Nat → Prop} (h : Ow w d v F) (o : Obj) : Ow (w.alloc o) d v F := h.stays fun b hb => Below.heap_alloc w o b (h.lt b hb)
theorem Ow.drewN {d : D} {v : Value} {F : Nat → Prop} (h : Ow w d v F) (n : Nat) : Ow (w.drewN n) d v F := h.stays fun _ _ => rfl
theorem Ow.drew {d : D} {v : Value} {F : Nat → Prop} (h : Ow w d v F) : Ow w.drew d v F := h.stays fun _ _ => rfl
/-- What reads in a world reads in a later one. -/
theorem ro_to {W w : World} {d : D} {v : Value} (h : Ro W (Lo W.heap.size) d v) (hb : Below W.heap.size W w) : Ro w (Lo w.heap.size) d v := (h.keep hb (Nat.le_refl _)).up hb.size
theorem rol_to {W w : World} {ds : List D} {us : List Value} (h : RoL W (Lo W.heap.size) ds us) (hb : Below W.heap.size W w) : RoL w (Lo w.heap.size) ds us := (h.keep hb (Nat.le_refl _)).up hb.size
/-- What is owned may be read. -/
theorem Ow.lo {d : D} {v : Value} {F : Nat → Prop} (h : Ow w d v F) : Ro w (Lo w.heap.size) d v := h.ro.mono h.lt
theorem OwL.lo {ds : List D} {us : List Value} {F : Nat → Prop} (h : OwL w ds us F) : RoL w (Lo w.heap.size) ds us := h.ro.mono h.lt
/-- The shape of a slice that is owned. -/
theorem Ow.shape {e : TypeId} {sz : Nat} {rows : List (List D)} {v : Value} {F : Nat → Prop} (h : Ow w (.sl e sz rows) v F) : ∃ A c, v = .slice A rows.length c ∧ rows.length ≤ c ∧ c ≤ maxLen := h.ro.sl_inv

/-- A slice out of its block and the ownership of its cells. -/
theorem Ow.of_block {e : TypeId} {sz g c : Nat} {rows : List (List D)} {us : List Value} {cs : Array Value} {F : Nat → Prop} (h1 : w.heap[g]? = some (.cells cs e (0, 0))) (h2 : cs.size = c * sz) (h3 : rows.length ≤ c) (h4 : c ≤ maxLen)
    (h5 : ∀ row ∈ rows, row.length = sz) (h7 : cs.toList.take (rows.length * sz) = us) (h : OwL w rows.flatten us F) (hg : ¬ F g) : Ow w (.sl e sz rows) (.slice (some ⟨g, 0, none⟩) rows.length c) (fun b => b = g ∨ F b) := by
  obtain ⟨l, G, a, b, cF⟩ := h
  refine .row e sz g c rows us G cs _ h1 h2 h3 h4 h5 (by rw [l, flatten_length h5]) h7 a b (fun p hp hf => hg ((cF g).2 ⟨p, hp, hf⟩)) (fun x => by rw [cF x])
/-- The form of a slice that is owned. -/
theorem Ow.sl_inv {e : TypeId} {sz : Nat} {rows : List (List D)} {v : Value} {F : Nat → Prop} (h : Ow w (.sl e sz rows) v F) :
    (rows = [] ∧ (∃ A, v = .slice A 0 0) ∧ ∀ b, ¬ F b) ∨
    ∃ g c us cs F0, v = .slice (some ⟨g, 0, none⟩) rows.length c ∧ w.heap[g]? = some (.cells cs e (0, 0)) ∧ cs.size = c * sz ∧ rows.length ≤ c ∧ c ≤ maxLen ∧ (∀ row ∈ rows, row.length = sz) ∧ cs.toList.take (rows.length * sz) = us ∧ OwL w rows.flatten us F0 ∧ ¬ F0 g ∧ ∀ b, F b ↔ b = g ∨ F0 b := by
  cases h with
  | emp e sz A F h => exact .inl ⟨rfl, ⟨A, rfl⟩, h⟩
  | row e sz g c rows us Fs cs F h1 h2 h3 h4 h5 h6 h7 h8 h9 h10 h11 =>
    refine .inr ⟨g, c, us, cs, fun b => ∃ p, p < us.length ∧ Fs p b, rfl, h1, h2, h3, h4, h5, h7, ⟨by rw [h6, flatten_length h5], Fs, h8, h9, fun b => Iff.rfl⟩, fun ⟨p, hp, hf⟩ => h10 p hp hf, h11⟩

theorem Kp.refl (F : Nat → Prop) (w : World) : Kp F w w := ⟨rfl, rfl, rfl, Nat.le_refl _, fun _ _ _ => rfl⟩
theorem Kp.trans {F G H : Nat → Prop} {w w1 w2 : World} (h : Kp F w w1) (k : Kp G w1 w2) (hF : ∀ b, F b → H b) (hG : ∀ b, b < w.heap.size → G b → H b) : Kp H w w2 :=
  ⟨k.os.trans h.os, k.tape.trans h.tape, k.output.trans h.output, Nat.le_trans h.size k.size, fun i hi hn => (k.block i (Nat.lt_of_lt_of_le hi h.size) (fun hg => hn (hG i hi hg))).trans (h.block i hi (fun hf => hn (hF i hf)))⟩
theorem Kp.of_below {F : Nat → Prop} (h : Below w.heap.size w w') : Kp F w w' := ⟨h.os, h.tape, h.output, h.size, fun k hk _ => h.block k hk⟩
theorem Kp.below {F : Nat → Prop} {B : Nat} (h : Kp F w w') (hB : B ≤ w.heap.size) (hF : ∀ b, F b → B ≤ b) : Below B w w' :=
  ⟨h.os, h.tape, h.output, h.size, fun k hk => h.block k (by omega) (fun hf => by have := hF k hf; omega)⟩
theorem Kp.mono {F G : Nat → Prop} (h : Kp F w w') (hF : ∀ b, F b → G b) : Kp G w w' := ⟨h.os, h.tape, h.output, h.size, fun k hk hn => h.block k hk fun hf => hn (hF k hf)⟩
theorem Kp.of_grown {F : Nat → Prop} {row : Option Nat} (h : w.grownBy w' row) (hF : ∀ k, row = some k → F k) : Kp F w w' :=
  ⟨h.os, h.tape, h.output, h.size, fun k hk hn => h.block k hk (fun e => hn (hF k e.symm))⟩
end

/-! ### append onto what is owned -/
section
variable {P : Program} {w : World}
theorem take_flat {cs : Array Value} {n sz c : Nat} (h : cs.size = c * sz) (hn : n ≤ c) : (cs.toList.take (n * sz)).length = n * sz := by
  rw [List.length_take, Array.length_toList, h]
  have := Nat.mul_le_mul_right sz hn
  omega

theorem run_append_ow (t ty e : TypeId) (i : TypeInfo) (z : Value) (sz bytes : Nat) (ht : P.underlying t = some (.slice e)) (hi : P.info? e = some i) (hz : i.zero = some z) (hsize : i.size = sz) (hby : i.bytes = bytes) (hzs : z.cells.size = sz) (hsz : 0 < sz)
    {v : Value} {rows : List (List D)} {F : Nat → Prop} (h : Ow w (.sl e sz rows) v F)
    (ad : Addr) (m c : Nat) (news : List Value) (nrows : List (List D)) (Fn : Nat → Prop) (hm : nrows.length = m) (hnr : ∀ row ∈ nrows, row.length = sz) (hnews : ∀ (j : Nat) (u : Value), news[j]? = some u → w.cell? (ad.add j) = some u) (hN : OwL w nrows.flatten news Fn) (hd : ∀ b, Fn b → ¬ F b)
    (h1 : ∀ u ∈ news, u.oneCell' = true) (hbytes : (rows.length + m) * bytes ≤ 140737488355328) (hb0 : 0 < bytes) :
    ∃ v' w' F', (Builtin.append_ #[t, t] ty #[v, .slice (some ad) m c]).run P w = .ok v' w' ∧ Ow w' (.sl e sz (rows ++ nrows)) v' F' ∧ Kp F w w' ∧ (∀ b, F' b → F b ∨ Fn b ∨ b = w.heap.size) := by
  have hlen : rows.length + m ≤ 140737488355328 := Nat.le_trans (Nat.le_mul_of_pos_right _ hb0) hbytes
  have hnl : news.length = m * sz := by rw [hN.1, flatten_length hnr, hm]
  have h63 : rows.length + m ≤ maxLen := by simp only [maxLen]; omega
  -- what is made anew
  have fresh : ∀ (w1 : World) (us : List Value) (F0 : Nat → Prop), OwL w rows.flatten us F0 → (∀ row ∈ rows, row.length = sz) → (∀ b, F0 b → F b) → ∀ old, w1 = w.drew.alloc (.cells (us.toArray ++ news.toArray ++ Builtin.zeroCells z.cells (grownCap w (rows.length + m) old e - (rows.length + m))) e) →
      Ow w1 (.sl e sz (rows ++ nrows)) (.slice (some ⟨w.heap.size, 0, none⟩) (rows.length + m) (grownCap w (rows.length + m) old e)) (fun b => b = w.heap.size ∨ (F0 b ∨ Fn b)) ∧ Kp F w w1 := by
    intro w1 us F0 hU hrl hF0 old hw1
    have hk : ∀ k, k < w.heap.size → w1.heap[k]? = w.heap[k]? := by
      intro k hk
      rw [hw1]
      exact _root_.Go.heap_alloc_old w.drew _ hk
    have hul : us.length = rows.length * sz := by rw [hU.1, flatten_length hrl]
    have hge := grownCap_ge w (rows.length + m) old e
    have hall : ∀ row ∈ rows ++ nrows, row.length = sz := by
      intro row hr
      rcases List.mem_append.1 hr with hr | hr
      · exact hrl row hr
      · exact hnr row hr
    have hO : OwL w1 (rows ++ nrows).flatten (us ++ news) (fun b => F0 b ∨ Fn b) := by
      rw [List.flatten_append]
      exact OwL.append (hU.stays fun b hb => hk b (hU.lt b hb)) (hN.stays fun b hb => hk b (hN.lt b hb)) fun b hb hn => hd b hn (hF0 b hb)
    have hg : ¬ (F0 w.heap.size ∨ Fn w.heap.size) := by
      rintro (hb | hb)
      · exact absurd (hU.lt _ hb) (by omega)
      · exact absurd (hN.lt _ hb) (by omega)
    have hlr : (rows ++ nrows).length = rows.length + m := by rw [List.length_append, hm]
    have hO' := Ow.of_block (e := e) (sz := sz) (g := w.heap.size) (c := grownCap w (rows.length + m) old e) (rows := rows ++ nrows) (w := w1) (cs := us.toArray ++ news.toArray ++ Builtin.zeroCells z.cells (grownCap w (rows.length + m) old e - (rows.length + m)))
      (by rw [hw1]; exact heap_alloc_new w.drew _)
      (by
        simp only [Array.size_append, List.size_toArray, size_zeroCells, hzs, hul, hnl, ← Nat.add_mul]
        congr 1
        omega)
      (by rw [hlr]; exact hge) (grownCap_le_maxLen w _ old e h63) hall
      (by
        simp only [Array.toList_append, List.append_assoc]
        rw [← List.append_assoc, hlr, show (rows.length + m) * sz = (us ++ news).length from by rw [List.length_append, hul, hnl, Nat.add_mul]]
        exact List.take_left) hO hg
    rw [hlr] at hO'
    refine ⟨hO', ⟨by rw [hw1]; rfl, by rw [hw1]; rfl, by rw [hw1]; rfl, by rw [hw1]; simp, fun k hkk _ => hk k hkk⟩⟩
  subst hsize
  subst hby
  have hsmall : rows.length + m ≤ 9223372036854775807 := by simp only [maxLen] at h63; omega
  rcases h.sl_inv with ⟨rfl, ⟨A, rfl⟩, hF⟩ | ⟨g, cap, us, cs, F0, rfl, hg, hcs, hle, hcm, hrl, htake, hU, hg0, hF⟩
  · rcases Nat.eq_zero_or_pos m with h0 | h0
    · subst h0
      have hn : nrows = [] := List.eq_nil_of_length_eq_zero hm
      subst hn
      have hn : news = [] := List.eq_nil_of_length_eq_zero (by simpa using hnl)
      subst hn
      refine ⟨.slice A 0 0, w, fun _ => False, ?_, .emp _ _ _ _ (by simp), Kp.refl _ _, by simp⟩
      have hl0 : (loadCells ad 0).run P w = .ok #[] w := by simp [loadCells, loadCellsFrom]
      cases A <;> simp [Builtin.append_, run_underlying ht, sizeOf, typeInfo, hi, Builtin.lenOf, Builtin.firstCells, hl0, storeCells]
    · have hU : OwL w ([] : List (List D)).flatten [] (fun _ => False) := OwL.nil
      have hfr := fresh _ [] _ hU (by simp) (by simp) 0 rfl
      simp only [List.length_nil, Nat.zero_add, Array.empty_append, List.nil_append] at hfr hbytes hsmall ⊢
      refine ⟨_, _, _, ?_, hfr.1, hfr.2, fun b hb => ?_⟩
      · rcases A with _ | a0
        · exact run_append_nil (P := P) w t ty e i z ht hi hz ad m c news hnl hnews (by omega) (by omega) (by omega)
        · have := run_append_grow (P := P) w t ty e i z ht hi hz a0 0 0 [] (by simp) (by simp) ad m c news hnl hnews (by omega) (by omega) (growslice_fits (by omega) (by simpa using hbytes))
          simpa using this
      · rcases hb with rfl | hb | hb
        · exact .inr (.inr rfl)
        · exact hb.elim
        · exact .inr (.inl hb)
  · have hul : us.length = rows.length * i.size := by rw [← htake]; exact take_flat hcs hle
    have hcells : ∀ (j : Nat) (u : Value), us[j]? = some u → w.cell? ((⟨g, 0, none⟩ : Addr).add j) = some u := by
      intro j u hu
      rw [add_lit, Nat.zero_add]
      rw [← htake, List.getElem?_take] at hu
      split at hu
      · simp [World.cell?, hg]; simpa using hu
      · cases hu
    by_cases hroom : rows.length + m ≤ cap
    · have hfit : rows.length * i.size + news.length ≤ cs.size := by rw [hnl, hcs, ← Nat.add_mul]; exact Nat.mul_le_mul_right _ hroom
      have hr := run_append_room (P := P) w t ty e i ht hi g rows.length cap cs hg ad m c news hnl hnews h1 hroom hfit
      have hw : ∀ k, k ≠ g → (w.setRow g (cs.toList.take (rows.length * i.size) ++ news ++ cs.toList.drop (rows.length * i.size + news.length)).toArray).heap[k]? = w.heap[k]? := fun k hk => setRow_other w g k _ (fun e => hk e)
      have hO : OwL (w.setRow g (cs.toList.take (rows.length * i.size) ++ news ++ cs.toList.drop (rows.length * i.size + news.length)).toArray) (rows ++ nrows).flatten (us ++ news) (fun b => F0 b ∨ Fn b) := by
        rw [List.flatten_append]
        refine OwL.append (hU.stays fun b hb => hw b (fun e => hg0 (e ▸ hb))) (hN.stays fun b hb => hw b (fun e => hd b hb ((hF b).2 (.inl e)))) fun b hb hn => hd b hn ((hF b).2 (.inr hb))
      have hlr : (rows ++ nrows).length = rows.length + m := by rw [List.length_append, hm]
      have hO' := Ow.of_block (e := e) (sz := i.size) (g := g) (c := cap) (rows := rows ++ nrows) (cs := (cs.toList.take (rows.length * i.size) ++ news ++ cs.toList.drop (rows.length * i.size + news.length)).toArray) (setRow_heap w g cs _ e _ hg)
        (by simp only [List.size_toArray, List.length_append, List.length_take, List.length_drop, Array.length_toList]; omega)
        (by rw [hlr]; exact hroom) hcm
        (by
          intro row hr
          rcases List.mem_append.1 hr with hr | hr
          · exact hrl row hr
          · exact hnr row hr)
        (by
          rw [htake, hlr, show (rows.length + m) * i.size = (us ++ news).length from by rw [List.length_append, hul, hnl, Nat.add_mul]]
          exact List.take_left) hO (by
            rintro (hb | hb)
            · exact hg0 hb
            · exact hd g hb ((hF g).2 (.inl rfl)))
      rw [hlr] at hO'
      refine ⟨_, _, _, hr, hO', ⟨rfl, rfl, rfl, by simp, fun k _ hk => hw k (fun e => hk ((hF k).2 (.inl e)))⟩, fun b hb => ?_⟩
      rcases hb with rfl | hb | hb
      · exact .inl ((hF b).2 (.inl rfl))
      · exact .inl ((hF b).2 (.inr hb))
      · exact .inr (.inl hb)
    · have hr := run_append_grow (P := P) w t ty e i z ht hi hz ⟨g, 0, none⟩ rows.length cap us hul hcells ad m c news hnl hnews (by omega) (by omega) (growslice_fits (by omega) hbytes)
      have hfr := fresh _ us F0 hU hrl (fun b hb => (hF b).2 (.inr hb)) cap rfl
      refine ⟨_, _, _, hr, hfr.1, hfr.2, fun b hb => ?_⟩
      rcases hb with rfl | hb | hb
      · exact .inr (.inr rfl)
      · exact .inl ((hF b).2 (.inr hb))
      · exact .inr (.inl hb)
end
end Go.Dt

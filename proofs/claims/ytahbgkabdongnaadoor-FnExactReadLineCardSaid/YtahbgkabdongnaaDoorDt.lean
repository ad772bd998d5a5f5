/- Data of Go values as plain Lean data: what a value reads as in a world ('Ro': it is only read), how arguments are opened to it, and how it stays. -/
import Derived.Below
import Derived.ProofKit
import Derived.WalkKit
import Derived.Deep.Slices
import Derived.Lib.Hide
import Derived.Maps.AppendAt
import Derived.OwnWalk
import Derived.Deep.Draws
namespace Go.Dt
open Go.ChangeShapes Go.WideShapes Go.ChangeAt Go.RowKit Go.Deep

/-- One cell's datum. A slice: its element type, how many cells an element has, the elements' cells. -/
inductive D where
  | int (k : IntKind) (n : Int)
  | bool (b : Bool)
  | str (s : ByteArray)
  | sl (e : TypeId) (sz : Nat) (rows : List (List D))

/-- The value reads as the datum; each block that it leads to is one of Pb. -/
inductive Ro (w : World) (Pb : Nat → Prop) : D → Value → Prop where
  | int (k : IntKind) (n : Int) : Ro w Pb (.int k n) (.int k n)
  | bool (b : Bool) : Ro w Pb (.bool b) (.bool b)
  | str (s : ByteArray) : Ro w Pb (.str s) (.string s)
  | emp (e : TypeId) (sz : Nat) (A : Option Addr) (c : Nat) : c ≤ maxLen → Ro w Pb (.sl e sz []) (.slice A 0 c)
  | row (e : TypeId) (sz b off c : Nat) (rows : List (List D)) (us : Nat → Nat → Value) : rows.length ≤ c → c ≤ maxLen → Pb b →
      (∀ (i : Nat) (row : List D), rows[i]? = some row → row.length = sz) →
      (∀ (i : Nat) (row : List D) (j : Nat) (d : D), rows[i]? = some row → row[j]? = some d → w.cell? ⟨b, off + i * sz + j, none⟩ = some (us i j)) →
      (∀ (i : Nat) (row : List D) (j : Nat) (d : D), rows[i]? = some row → row[j]? = some d → Ro w Pb d (us i j)) →
      Ro w Pb (.sl e sz rows) (.slice (some ⟨b, off, none⟩) rows.length c)

def RoL (w : World) (Pb : Nat → Prop) (ds : List D) (us : List Value) : Prop :=
  us.length = ds.length ∧ ∀ (j : Nat) (d : D) (u : Value), ds[j]? = some d → us[j]? = some u → Ro w Pb d u

section
variable {w w' : World} {Pb Pb' : Nat → Prop}

theorem RoL.nil : RoL w Pb [] [] := ⟨rfl, fun j d u h => by simp at h⟩
theorem RoL.cons {d : D} {u : Value} {ds : List D} {us : List Value} (h : Ro w Pb d u) (hs : RoL w Pb ds us) : RoL w Pb (d :: ds) (u :: us) := by
  refine ⟨by simp [hs.1], fun j d' u' hd hu => ?_⟩
  cases j with
  | zero => simp at hd hu; subst hd; subst hu; exact h
  | succ j => simp at hd hu; exact hs.2 j d' u' hd hu
theorem RoL.uncons {d : D} {ds : List D} {us : List Value} (h : RoL w Pb (d :: ds) us) : ∃ u us', us = u :: us' ∧ Ro w Pb d u ∧ RoL w Pb ds us' := by
  cases us with
  | nil => have := h.1; simp at this
  | cons u us =>
    refine ⟨u, us, rfl, h.2 0 d u rfl rfl, by have := h.1; simpa using this, fun j d' u' hd hu => h.2 (j + 1) d' u' (by simpa using hd) (by simpa using hu)⟩
theorem RoL.unnil {us : List Value} (h : RoL w Pb [] us) : us = [] := List.eq_nil_of_length_eq_zero (by simpa using h.1)
theorem RoL.append {d1 d2 : List D} {u1 u2 : List Value} (h1 : RoL w Pb d1 u1) (h2 : RoL w Pb d2 u2) : RoL w Pb (d1 ++ d2) (u1 ++ u2) := by
  induction d1 generalizing u1 with
  | nil => rw [h1.unnil]; exact h2
  | cons d ds ih =>
    obtain ⟨u, us, rfl, h, hs⟩ := h1.uncons
    exact RoL.cons h (ih hs)
theorem RoL.unappend {d1 d2 : List D} {us : List Value} (h : RoL w Pb (d1 ++ d2) us) : ∃ u1 u2, us = u1 ++ u2 ∧ RoL w Pb d1 u1 ∧ RoL w Pb d2 u2 := by
  induction d1 generalizing us with
  | nil => exact ⟨[], us, rfl, RoL.nil, h⟩
  | cons d ds ih =>
    obtain ⟨u, us, rfl, h1, hs⟩ := h.uncons
    obtain ⟨u1, u2, rfl, h2, h3⟩ := ih hs
    exact ⟨u :: u1, u2, rfl, RoL.cons h1 h2, h3⟩

theorem Ro.int_inv {k : IntKind} {n : Int} {v : Value} (h : Ro w Pb (.int k n) v) : v = .int k n := by cases h; rfl
theorem Ro.bool_inv {b : Bool} {v : Value} (h : Ro w Pb (.bool b) v) : v = .bool b := by cases h; rfl
theorem Ro.str_inv {s : ByteArray} {v : Value} (h : Ro w Pb (.str s) v) : v = .string s := by cases h; rfl
/-- The shape of what reads as a slice. -/
theorem Ro.sl_inv {e : TypeId} {sz : Nat} {rows : List (List D)} {v : Value} (h : Ro w Pb (.sl e sz rows) v) : ∃ A c, v = .slice A rows.length c ∧ rows.length ≤ c ∧ c ≤ maxLen := by
  cases h with
  | emp _ _ A c hc => exact ⟨A, c, rfl, Nat.zero_le _, hc⟩
  | row _ _ b off c _ us h1 h2 => exact ⟨_, c, rfl, h1, h2⟩
/-- An element of it: where it lies, and its cells. -/
theorem Ro.sl_at {e : TypeId} {sz : Nat} {rows : List (List D)} {A : Option Addr} {n c : Nat} (h : Ro w Pb (.sl e sz rows) (.slice A n c)) {k : Nat} {row : List D} (hk : rows[k]? = some row) :
    ∃ (b off : Nat) (us : List Value), A = some ⟨b, off, none⟩ ∧ Pb b ∧ row.length = sz ∧ RoL w Pb row us ∧ ∀ j u, us[j]? = some u → w.cell? ⟨b, off + k * sz + j, none⟩ = some u := by
  cases h with
  | emp _ _ A c hc => simp at hk
  | row _ _ b off c _ us h1 h2 hb h3 h4 h5 =>
    refine ⟨b, off, (List.range row.length).map (us k), rfl, hb, h3 k row hk, ⟨by simp, fun j d u hd hu => ?_⟩, fun j u hu => ?_⟩
    · have hj : j < row.length := (List.getElem?_eq_some_iff.1 hd).1
      simp [hj] at hu
      subst hu
      exact h5 k row j d hk hd
    · have hj : j < row.length := by have := (List.getElem?_eq_some_iff.1 hu).1; simpa using this
      simp [hj] at hu
      subst hu
      exact h4 k row j (row[j]) hk (List.getElem?_eq_getElem hj)

/-- What is read stays, where the blocks that it leads to stay. -/
theorem Ro.stays {d : D} {v : Value} (h : Ro w Pb d v) (hw : ∀ b, Pb b → w'.heap[b]? = w.heap[b]?) : Ro w' Pb d v := by
  induction h with
  | int k n => exact .int k n
  | bool b => exact .bool b
  | str s => exact .str s
  | emp e sz A c hc => exact .emp e sz A c hc
  | row e sz b off c rows us h1 h2 hb h3 h4 h5 ih =>
    exact .row e sz b off c rows us h1 h2 hb h3 (fun i row j d hi hj => (World.cell?_of_block (w := w) (a := ⟨b, off + i * sz + j, none⟩) (hw b hb)).trans (h4 i row j d hi hj)) (fun i row j d hi hj => ih i row j d hi hj)
theorem Ro.mono {d : D} {v : Value} (h : Ro w Pb d v) (hp : ∀ b, Pb b → Pb' b) : Ro w Pb' d v := by
  induction h with
  | int k n => exact .int k n
  | bool b => exact .bool b
  | str s => exact .str s
  | emp e sz A c hc => exact .emp e sz A c hc
  | row e sz b off c rows us h1 h2 hb h3 h4 h5 ih => exact .row e sz b off c rows us h1 h2 (hp b hb) h3 h4 (fun i row j d hi hj => ih i row j d hi hj)
theorem RoL.stays {ds : List D} {us : List Value} (h : RoL w Pb ds us) (hw : ∀ b, Pb b → w'.heap[b]? = w.heap[b]?) : RoL w' Pb ds us :=
  ⟨h.1, fun j d u hd hu => (h.2 j d u hd hu).stays hw⟩
theorem RoL.mono {ds : List D} {us : List Value} (h : RoL w Pb ds us) (hp : ∀ b, Pb b → Pb' b) : RoL w Pb' ds us :=
  ⟨h.1, fun j d u hd hu => (h.2 j d u hd hu).mono hp⟩
end

/-- What lies below a block number stays under 'Below'. -/
abbrev Lo (B : Nat) : Nat → Prop := fun b => b < B
theorem Ro.keep {w w' : World} {B B' : Nat} {d : D} {v : Value} (h : Ro w (Lo B) d v) (hb : Below B' w w') (hB : B ≤ B') : Ro w' (Lo B) d v :=
  h.stays fun b hlt => hb.block b (Nat.lt_of_lt_of_le hlt hB)
theorem RoL.keep {w w' : World} {B B' : Nat} {ds : List D} {us : List Value} (h : RoL w (Lo B) ds us) (hb : Below B' w w') (hB : B ≤ B') : RoL w' (Lo B) ds us :=
  h.stays fun b hlt => hb.block b (Nat.lt_of_lt_of_le hlt hB)
theorem Ro.up {w : World} {B B' : Nat} {d : D} {v : Value} (h : Ro w (Lo B) d v) (hB : B ≤ B') : Ro w (Lo B') d v := h.mono fun _ hb => Nat.lt_of_lt_of_le hb hB
theorem RoL.up {w : World} {B B' : Nat} {ds : List D} {us : List Value} (h : RoL w (Lo B) ds us) (hB : B ≤ B') : RoL w (Lo B') ds us := h.mono fun _ hb => Nat.lt_of_lt_of_le hb hB

/-! ### Types, flattened to cells -/
inductive Ty where
  | int (k : IntKind)
  | bool
  | str
  | sl (e : TypeId) (sz : Nat) (cells : List Ty)

/-- The datum is of the type: numbers are of their kind, strings not too long. -/
inductive Is : Ty → D → Prop where
  | int (k : IntKind) (n : Int) : (Lit.int k n).wf = true → Is (.int k) (.int k n)
  | bool (b : Bool) : Is .bool (.bool b)
  | str (s : ByteArray) : s.size ≤ maxLen → Is .str (.str s)
  | sl (e : TypeId) (sz : Nat) (ts : List Ty) (rows : List (List D)) : (∀ (i : Nat) (row : List D), rows[i]? = some row → row.length = ts.length) →
      (∀ (i : Nat) (row : List D) (j : Nat) (d : D) (t : Ty), rows[i]? = some row → row[j]? = some d → ts[j]? = some t → Is t d) → Is (.sl e sz ts) (.sl e sz rows)
def IsL (ts : List Ty) (ds : List D) : Prop := ds.length = ts.length ∧ ∀ (j : Nat) (t : Ty) (d : D), ts[j]? = some t → ds[j]? = some d → Is t d

theorem IsL.nil : IsL [] [] := ⟨rfl, fun j d u h => by simp at h⟩
theorem IsL.cons {t : Ty} {d : D} {ts : List Ty} {ds : List D} (h : Is t d) (hs : IsL ts ds) : IsL (t :: ts) (d :: ds) := by
  refine ⟨by simp [hs.1], fun j t' d' ht hd => ?_⟩
  cases j with
  | zero => simp at hd ht; subst hd; subst ht; exact h
  | succ j => simp at hd ht; exact hs.2 j t' d' ht hd
theorem IsL.uncons {t : Ty} {ts : List Ty} {ds : List D} (h : IsL (t :: ts) ds) : ∃ d ds', ds = d :: ds' ∧ Is t d ∧ IsL ts ds' := by
  cases ds with
  | nil => have := h.1; simp at this
  | cons d ds => exact ⟨d, ds, rfl, h.2 0 t d rfl rfl, by have := h.1; simpa using this, fun j t' d' ht hd => h.2 (j + 1) t' d' (by simpa using ht) (by simpa using hd)⟩
theorem IsL.unnil {ds : List D} (h : IsL [] ds) : ds = [] := List.eq_nil_of_length_eq_zero (by simpa using h.1)
theorem IsL.append {t1 t2 : List Ty} {d1 d2 : List D} (h1 : IsL t1 d1) (h2 : IsL t2 d2) : IsL (t1 ++ t2) (d1 ++ d2) := by
  induction t1 generalizing d1 with
  | nil => rw [h1.unnil]; exact h2
  | cons t ts ih =>
    obtain ⟨d, ds, rfl, h, hs⟩ := h1.uncons
    exact IsL.cons h (ih hs)

theorem Is.int_inv {k : IntKind} {d : D} (h : Is (.int k) d) : ∃ n, d = .int k n ∧ (Lit.int k n).wf = true := by cases h; exact ⟨_, rfl, ‹_›⟩
theorem Is.bool_inv {d : D} (h : Is .bool d) : ∃ b, d = .bool b := by cases h; exact ⟨_, rfl⟩
theorem Is.str_inv {d : D} (h : Is .str d) : ∃ s, d = .str s ∧ s.size ≤ maxLen := by cases h; exact ⟨_, rfl, ‹_›⟩
/-- A slice of things of one Lean type, where each element is one. -/
theorem Is.sl_inv {e : TypeId} {sz : Nat} {ts : List Ty} {d : D} {α : Type} (f : α → List D) (good : α → Prop) (hf : ∀ ds, IsL ts ds → ∃ x, ds = f x ∧ good x) (h : Is (.sl e sz ts) d) :
    ∃ l : List α, d = .sl e sz (l.map f) ∧ ∀ x ∈ l, good x := by
  cases h with
  | sl _ _ _ rows h1 h2 =>
    have key : ∀ rs : List (List D), (∀ row ∈ rs, IsL ts row) → ∃ l : List α, rs = l.map f ∧ ∀ x ∈ l, good x := by
      intro rs
      induction rs with
      | nil => exact fun _ => ⟨[], rfl, by simp⟩
      | cons r rs ih =>
        intro hr
        obtain ⟨x, hx, gx⟩ := hf r (hr r (by simp))
        obtain ⟨l, hl, gl⟩ := ih fun row hm => hr row (by simp [hm])
        exact ⟨x :: l, by simp [hx, hl], by simpa using ⟨gx, gl⟩⟩
    obtain ⟨l, hl, gl⟩ := key rows fun row hm => by
      obtain ⟨i, hi, hrow⟩ := List.getElem_of_mem hm
      have hi' : rows[i]? = some row := by rw [List.getElem?_eq_getElem hi, hrow]
      exact ⟨h1 i row hi', fun j t d ht hd => h2 i row j d t hi' hd ht⟩
    exact ⟨l, by rw [hl], gl⟩

/-- The cells of a struct's fields, given those of each type. -/
def flatFs (P : Program) (F : TypeId → Option (List Ty)) : Nat → List Field → Option (List Ty)
  | _, [] => some []
  | o, f :: fs => if f.offset = o then (F f.type).bind fun ts => if ts.length = P.cellsOf f.type then (flatFs P F (o + ts.length) fs).map (ts ++ ·) else none else none
/-- The cells of a type, by the program's table. -/
def flat (P : Program) : Nat → TypeId → Option (List Ty)
  | 0, _ => none
  | n + 1, t => match P.underlying t with
    | some (.int k) => some [.int k]
    | some .bool => some [.bool]
    | some .string => some [.str]
    | some (.slice e) => (flat P n e).bind fun ts => if ts.length = P.cellsOf e ∧ 0 < ts.length then some [.sl e (P.cellsOf e) ts] else none
    | some (.struct fs) => (flatFs P (flat P n) 0 fs.toList).bind fun ts => if ts.length = P.cellsOf t then some ts else none
    | _ => none

section
variable {H : Type} {enc : TypeId × Value → H} {P : Program} {w : World} {base : Nat} {spare : Nat → Bool} {held : Bool}

theorem spot_none {w : World} {a : Addr} {v : Value} (h : w.cell? a = some v) : a = ⟨a.block, a.off, none⟩ := by
  obtain ⟨b, off, spot⟩ := a
  cases spot with
  | none => rfl
  | some s => simp [World.cell?] at h; split at h <;> simp_all
theorem add_add' (a : Addr) (i j : Nat) : (a.add i).add j = a.add (i + j) := by
  unfold Addr.add
  by_cases hi : i = 0 <;> by_cases hj : j = 0 <;> simp [hi, hj, Nat.add_assoc]
theorem add_lit (b off n : Nat) : (⟨b, off, none⟩ : Addr).add n = ⟨b, off + n, none⟩ := by unfold Addr.add; split <;> simp_all

theorem flatFs_read {F : TypeId → Option (List Ty)} {fuel : Nat} (hF : ∀ (t : TypeId) (ts : List Ty) (cs : List Value) (x : DataW H × List MemPlace), F t = some ts → DataW.trod enc P w base spare held fuel t cs = some x → ∃ ds, IsL ts ds ∧ RoL w (Lo w.heap.size) ds cs)
    (fs : List Field) : ∀ (o : Nat) (ts : List Ty) (cs : List Value), flatFs P F o fs = some ts → cs.length = o + ts.length →
      (∀ f ∈ fs, ∃ x, DataW.trod enc P w base spare held fuel f.type ((cs.drop f.offset).take (P.cellsOf f.type)) = some x) → ∃ ds, IsL ts ds ∧ RoL w (Lo w.heap.size) ds (cs.drop o) := by
  induction fs with
  | nil =>
    intro o ts cs h hlen _
    simp [flatFs] at h; subst h
    refine ⟨[], IsL.nil, ?_⟩
    rw [List.drop_eq_nil_of_le (by simp at hlen; omega)]
    exact RoL.nil
  | cons f fs ih =>
    intro o ts cs h hlen hall
    simp only [flatFs] at h
    split at h
    · rename_i ho
      obtain ⟨t1, h1, h⟩ := Option.bind_eq_some_iff.1 h
      split at h
      · rename_i hs1
        obtain ⟨t2, h2, rfl⟩ := Option.map_eq_some_iff.1 h
        obtain ⟨x, hx⟩ := hall f (by simp)
        obtain ⟨d1, i1, r1⟩ := hF f.type t1 _ x h1 hx
        rw [List.length_append] at hlen
        obtain ⟨d2, i2, r2⟩ := ih (o + t1.length) t2 cs h2 (by omega) (fun g hg => hall g (by simp [hg]))
        refine ⟨d1 ++ d2, IsL.append i1 i2, ?_⟩
        have : cs.drop o = (cs.drop f.offset).take (P.cellsOf f.type) ++ cs.drop (o + t1.length) := by
          rw [ho, ← hs1, ← List.drop_drop, List.take_append_drop]
        rw [this]
        exact RoL.append r1 r2
      · simp at h
    · simp at h
/-- WHAT READS AS DATA, READS AS A DATUM OF ITS FLATTENED TYPE. -/
theorem flat_read (n : Nat) : ∀ (t : TypeId) (ts : List Ty) (fuel : Nat) (cs : List Value) (x : DataW H × List MemPlace), flat P n t = some ts → DataW.trod enc P w base spare held fuel t cs = some x →
      ∃ ds, IsL ts ds ∧ RoL w (Lo w.heap.size) ds cs := by
  induction n with
  | zero => exact fun t ts fuel cs x h => by simp [flat] at h
  | succ n ih =>
    intro t ts fuel cs x h hx
    · unfold flat at h
      split at h
      · rename_i k ht
        simp at h; subst h
        obtain ⟨m, rfl, _, hw⟩ := DataW.trod_int ht hx
        exact ⟨[.int k m], IsL.cons (.int k m hw) IsL.nil, RoL.cons (.int k m) RoL.nil⟩
      · rename_i ht
        simp at h; subst h
        obtain ⟨b, rfl, _⟩ := DataW.trod_bool ht hx
        exact ⟨[.bool b], IsL.cons (.bool b) IsL.nil, RoL.cons (.bool b) RoL.nil⟩
      · rename_i ht
        simp at h; subst h
        obtain ⟨s, rfl, _, hs⟩ := DataW.trod_string ht hx
        exact ⟨[.str s], IsL.cons (.str s hs) IsL.nil, RoL.cons (.str s) RoL.nil⟩
      · rename_i e ht
        obtain ⟨ets, he, h⟩ := Option.bind_eq_some_iff.1 h
        split at h
        · rename_i hsz0
          obtain ⟨hsz, hsp⟩ := hsz0
          simp at h; subst h
          rcases open_slice ht hx with ⟨rfl, _⟩ | ⟨a, len, cap, m, fu, Dd, Pl, rfl, _, hl, hm, hmm, _, hi⟩
          · exact ⟨[.sl e (P.cellsOf e) []], IsL.cons (.sl _ _ _ _ (by simp) (by simp)) IsL.nil, RoL.cons (.emp _ _ _ _ (by simp [maxLen])) RoL.nil⟩
          · have hle : len ≤ m := by rw [hmm]; split <;> omega
            have hel : ∀ i, i < len → ∃ cs' ds, IsL ets ds ∧ RoL w (Lo w.heap.size) ds cs' ∧ ∀ j u, cs'[j]? = some u → w.cell? (a.add (i * P.cellsOf e + j)) = some u := by
              intro i hil
              obtain ⟨cs', hc, ht'⟩ := hi i (by omega)
              obtain ⟨ds, h1, h2⟩ := ih e ets fu cs' _ he ht'
              obtain ⟨_, hcl, hat⟩ := World.cells?_some hc
              refine ⟨cs', ds, h1, h2, fun j u hu => ?_⟩
              have hj : j < cs'.length := (List.getElem?_eq_some_iff.1 hu).1
              have := hat j (by omega)
              rw [← add_add', this]
              exact hu
            rcases Nat.eq_zero_or_pos len with h0 | h0
            · subst h0
              exact ⟨[.sl e (P.cellsOf e) []], IsL.cons (.sl _ _ _ _ (by simp) (by simp)) IsL.nil, RoL.cons (.emp _ _ _ _ hm) RoL.nil⟩
            · obtain ⟨F, hF⟩ : ∃ F : Nat → List Value × List D, ∀ i, i < len → IsL ets (F i).2 ∧ RoL w (Lo w.heap.size) (F i).2 (F i).1 ∧ ∀ j u, (F i).1[j]? = some u → w.cell? (a.add (i * P.cellsOf e + j)) = some u := by
                refine ⟨fun i => if h : i < len then (Classical.choose (hel i h), Classical.choose (Classical.choose_spec (hel i h))) else ([], []), fun i h => ?_⟩
                simp only [h, dif_pos]
                exact Classical.choose_spec (Classical.choose_spec (hel i h))
              have hrows : ((List.range len).map fun i => (F i).2).length = len := by simp
              refine ⟨[.sl e (P.cellsOf e) ((List.range len).map fun i => (F i).2)], IsL.cons (.sl _ _ _ _ ?_ ?_) IsL.nil, RoL.cons ?_ RoL.nil⟩
              · intro i row hr
                have hil : i < len := by have := (List.getElem?_eq_some_iff.1 hr).1; simpa using this
                simp [hil] at hr
                subst hr
                exact (hF i hil).1.1
              · intro i row j d t hr hd ht'
                have hil : i < len := by have := (List.getElem?_eq_some_iff.1 hr).1; simpa using this
                simp [hil] at hr
                subst hr
                exact (hF i hil).1.2 j t d ht' hd
              · have hpos : 0 < P.cellsOf e := by omega
                have h0l : 0 < (F 0).1.length := by rw [(hF 0 h0).2.1.1, (hF 0 h0).1.1, hsz]; exact hpos
                have hc0 := (hF 0 h0).2.2 0 ((F 0).1[0]) (List.getElem?_eq_getElem h0l)
                have ha : a = ⟨a.block, a.off, none⟩ := by
                  have : a.add (0 * P.cellsOf e + 0) = a := by simp [Addr.add]
                  rw [this] at hc0
                  exact spot_none hc0
                obtain ⟨b, off, spot⟩ := a
                injection ha with _ _ hs
                subst hs
                have hlt : b < w.heap.size := by
                  have := World.block_lt_of_cell? w _ hc0
                  rwa [add_lit] at this
                have hfin := Ro.row (w := w) (Pb := Lo w.heap.size) e (P.cellsOf e) b off cap ((List.range len).map fun i => (F i).2) (fun i j => (F i).1.getD j undef) (by simpa using hl) hm hlt
                  (by
                    intro i row hr
                    have hil : i < len := by have := (List.getElem?_eq_some_iff.1 hr).1; simpa using this
                    simp [hil] at hr
                    subst hr
                    rw [(hF i hil).1.1, hsz])
                  (by
                    intro i row j d hr hd
                    have hil : i < len := by have := (List.getElem?_eq_some_iff.1 hr).1; simpa using this
                    simp [hil] at hr
                    subst hr
                    have hj : j < (F i).1.length := by rw [(hF i hil).2.1.1]; exact (List.getElem?_eq_some_iff.1 hd).1
                    have := (hF i hil).2.2 j _ (List.getElem?_eq_getElem hj)
                    rw [add_lit] at this
                    rw [show off + i * P.cellsOf e + j = off + (i * P.cellsOf e + j) from by omega, this]
                    simp [List.getD_eq_getElem?_getD, List.getElem?_eq_getElem hj])
                  (by
                    intro i row j d hr hd
                    have hil : i < len := by have := (List.getElem?_eq_some_iff.1 hr).1; simpa using this
                    simp [hil] at hr
                    subst hr
                    have hj : j < (F i).1.length := by rw [(hF i hil).2.1.1]; exact (List.getElem?_eq_some_iff.1 hd).1
                    exact (hF i hil).2.1.2 j d _ hd (by simp [List.getD_eq_getElem?_getD, List.getElem?_eq_getElem hj]))
                rwa [hrows] at hfin
        · simp at h
      · rename_i fs ht
        obtain ⟨fts, hf, h⟩ := Option.bind_eq_some_iff.1 h
        split at h
        · rename_i hsz
          simp at h; subst h
          obtain ⟨xs, m, _, _, hl, hxl, hfl⟩ := DataW.trod_struct ht hx
          have := flatFs_read (fun t ts cs x => ih t ts m cs x) fs.toList 0 fts cs hf (by omega) (fun f hm => by
            obtain ⟨i, hi, hfi⟩ := List.getElem_of_mem hm
            have hi' : fs[i]? = some f := by rw [← hfi]; simp
            have := hfl i f hi'
            have hix : i < xs.length := by rw [hxl]; simpa using hi
            rw [List.getElem?_eq_getElem hix] at this
            exact ⟨_, this⟩)
          simpa using this
        · simp at h
      · simp at h

/-- An argument: its value's cells. -/
theorem open_flat {t : TypeId} {v : Value} {d : DataW H} {p : List MemPlace} {ts : List Ty} (n : Nat) (hf : flat P n t = some ts) (h : DataW.Trod enc P w base spare held t v d p) : ∃ ds, IsL ts ds ∧ RoL w (Lo w.heap.size) ds v.cells.toList := by
  obtain ⟨fuel, hx⟩ := h
  exact flat_read n t ts fuel _ _ hf hx
end

/-- What a callee that makes memory leaves as it was: as two rules for the walk. -/
theorem bcell {W w1 : World} (hb : Below W.heap.size W w1) : (∀ b o, b < W.heap.size → w1.cell? ⟨b, o, none⟩ = W.cell? ⟨b, o, none⟩) ∧ (∀ b o, b < W.heap.size → w1.frozen? ⟨b, o, none⟩ = W.frozen? ⟨b, o, none⟩) :=
  ⟨fun b o h => hb.cell (p := ⟨b, o, none⟩) h, fun b o h => hb.frozen (p := ⟨b, o, none⟩) h⟩
theorem below_drewN {B : Nat} {a w : World} (h : Below B a w) (n : Nat) : Below B a (w.drewN n) := ⟨h.os, h.tape, h.output, h.size, h.block⟩
theorem below_step {B : Nat} {w W w1 : World} (h : Below B w W) (hb : Below W.heap.size W w1) (hB : B ≤ W.heap.size) : Below B w w1 := h.trans (hb.mono hB)
end Go.Dt

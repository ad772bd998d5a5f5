/- Homes: what the law says, in plain Lean. -/
import Derived.Test.YtmofbfeclecdoaaDoorByte
import Derived.Test.YtmofbfeclecdoaaDoorLoad
import Derived.Test.YtmofbfeclecdoaaDoorMoves
namespace Go.Proofs.YtmofbfeclecdoaaDoor
open Go.ChangeShapes Go.WideShapes Go.ChangeAt Go.RowKit Go.Dt
theorem rises_of {p : Int → Bool} {l : List Int} (h1 : ∀ (i : Nat) (x : Int), l[i]? = some x → p x = true) (h2 : ∀ (i : Nat) (x y : Int), l[i]? = some y → l[i + 1]? = some x → y < x) : rises p l = true := by
  unfold rises upTo
  rw [List.all_eq_true]
  intro i hi
  have hi' := List.mem_range.1 hi
  obtain ⟨x, hx⟩ := get_lt hi'
  cases i with
  | zero => rw [riseAt_zero hx]; exact h1 0 x hx
  | succ k =>
    obtain ⟨y, hy⟩ := get_lt (l := l) (k := k) (by omega)
    rw [riseAt_succ hx hy, h1 _ x hx]
    simpa using h2 k x y hy hx
theorem rises_snoc {p : Int → Bool} {l : List Int} {x : Int} (h : rises p l = true) (hp : p x = true) (hx : ∀ y ∈ l, y < x) : rises p (l ++ [x]) = true := by
  refine rises_of (fun i z hz => ?_) (fun i z y hy hz => ?_)
  · rw [List.getElem?_append] at hz
    split at hz
    · exact rises_at h z (List.mem_of_getElem? hz)
    · have := List.mem_of_getElem? hz
      simp at this
      subst this; exact hp
  · rw [List.getElem?_append] at hy hz
    split at hy
    · split at hz
      · exact rises_lt h (Nat.lt_succ_self i) hy hz
      · have h' := List.mem_of_getElem? hz
        simp at h'
        subst h'; exact hx y (List.mem_of_getElem? hy)
    · rename_i h1
      rw [if_neg (by omega)] at hz
      have h' := (List.getElem?_eq_some_iff.1 hz).1
      simp at h'
      omega
def rooms8 (c : List Int) (k : Nat) : List Int := (List.range k).map fun n : Nat => 20 * (n : Int) + 1 + at8 c (n : Int) 20
theorem rooms8_succ (c : List Int) (k : Nat) : rooms8 c (k + 1) = rooms8 c k ++ [20 * (k : Int) + 1 + at8 c k 20] := by
  unfold rooms8; rw [List.range_succ, List.map_append]; rfl
theorem rooms8_len (c : List Int) (k : Nat) : (rooms8 c k).length = k := by simp [rooms8]
theorem rooms8_get {c : List Int} {k i : Nat} {x : Int} (h : (rooms8 c k)[i]? = some x) : i < k ∧ x = 20 * (i : Int) + 1 + at8 c i 20 := by
  have hi := (List.getElem?_eq_some_iff.1 h).1
  rw [rooms8_len] at hi
  unfold rooms8 at h
  rw [List.getElem?_map, List.getElem?_range hi] at h
  injection h with h
  exact ⟨hi, h.symm⟩
theorem rooms8_ok (c : List Int) : okRooms (rooms8 c 12) = true := by
  unfold okRooms
  rw [rooms8_len, rises_of]
  · rfl
  · intro i x h
    obtain ⟨h1, rfl⟩ := rooms8_get h
    have := at8_nn c i (n := 20) (by omega)
    have := at8_lt c i (n := 20) (by omega)
    simp [inB]; omega
  · intro i x y hy hx
    obtain ⟨h1, rfl⟩ := rooms8_get hx
    obtain ⟨h2, rfl⟩ := rooms8_get hy
    have := at8_nn c i (n := 20) (by omega)
    have := at8_lt c i (n := 20) (by omega)
    have := at8_nn c ((i + 1 : Nat) : Int) (n := 20) (by omega)
    have := at8_lt c ((i + 1 : Nat) : Int) (n := 20) (by omega)
    push_cast at *
    omega
def shards8 (m : List Int) : Nat → List Int
  | 0 => [1]
  | k + 1 => if at8 m ((k : Int) + 2) 2 = 0 then shards8 m k ++ [((k : Int) + 2)] else shards8 m k
theorem shards8_yes {m : List Int} {k : Nat} (h : at8 m ((k : Int) + 2) 2 = 0) : shards8 m (k + 1) = shards8 m k ++ [((k : Int) + 2)] := if_pos h
theorem shards8_no {m : List Int} {k : Nat} (h : ¬ at8 m ((k : Int) + 2) 2 = 0) : shards8 m (k + 1) = shards8 m k := if_neg h
theorem shards8_lt (m : List Int) (k : Nat) : ∀ y ∈ shards8 m k, 1 ≤ y ∧ y < (k : Int) + 2 := by
  induction k with
  | zero => intro y h; simp [shards8] at h; subst h; omega
  | succ k ih =>
    intro y h
    unfold shards8 at h
    split at h
    · rw [List.mem_append] at h
      rcases h with h | h
      · have := ih y h; push_cast; omega
      · simp at h; subst h; push_cast; omega
    · have := ih y h; push_cast; omega
theorem shards8_len (m : List Int) (k : Nat) : 1 ≤ (shards8 m k).length ∧ (shards8 m k).length ≤ k + 1 := by
  induction k with
  | zero => simp [shards8]
  | succ k ih =>
    unfold shards8
    split
    · simp only [List.length_append, List.length_cons, List.length_nil]; omega
    · omega
theorem shards8_rise (m : List Int) (k : Nat) (hk : k ≤ 5) : rises (fun n => inB n 1 1000) (shards8 m k) = true := by
  induction k with
  | zero => rfl
  | succ k ih =>
    unfold shards8
    split
    · exact rises_snoc (ih (by omega)) (by simp [inB]; omega) (fun y h => by have := (shards8_lt m k y h).2; omega)
    · exact ih (by omega)
theorem shards8_ok (m : List Int) : okShards (shards8 m 5) = true := by
  have := shards8_len m 5
  unfold okShards
  rw [shards8_rise m 5 (by omega)]
  simp; omega
theorem longer8_ok (m : List Int) : okShards (shards8 m 5 ++ [9]) = true := by
  have := shards8_len m 5
  unfold okShards
  rw [rises_snoc (shards8_rise m 5 (by omega)) (by rfl) (fun y h => by have := (shards8_lt m 5 y h).2; omega)]
  simp; omega
structure Plan (R S : List Int) : Prop where
  rooms : okRooms R = true
  shards : okShards S = true
  longer : okShards (S ++ [9]) = true
  twelve : R.length = 12
  nine : (9 : Int) ∉ S
theorem plan8 (l m : List Int) : Plan (rooms8 l 12) (shards8 m 5) :=
  ⟨rooms8_ok l, shards8_ok m, longer8_ok m, rooms8_len l 12, fun h => by have := (shards8_lt m 5 9 h).2; omega⟩
theorem homeOf_snoc {r x : Int} {s : List Int} (h : s ≠ []) : homeOf r (s ++ [x]) = better r (homeOf r s) x := by
  unfold homeOf
  rw [List.foldl_append]
  cases s with
  | nil => exact absurd rfl h
  | cons y s => rfl
theorem home_mem {r : Int} {s : List Int} (h : okShards s = true) : homeOf r s ∈ s := by
  rw [← homeTo_all]; exact homeTo_i64 (okShards_at h) (okShards_len h) _
def turn (m : Move) : Move := ⟨m.xRoom, m.xTo, m.xFrom⟩
theorem moves_turn (R s u : List Int) : R.filterMap (moveOf u s) = (R.filterMap (moveOf s u)).map turn := by
  rw [List.map_filterMap]
  congr 1
  funext r
  unfold moveOf
  by_cases h : homeOf r s = homeOf r u
  · rw [if_pos h, if_pos h.symm]; rfl
  · rw [if_neg h, if_neg (fun e => h e.symm)]; rfl
theorem moves_to {R s : List Int} (hs : okShards s = true) (h9 : (9 : Int) ∉ s) : ∀ m ∈ R.filterMap (moveOf s (s ++ [9])), m.xTo = 9 ∧ m.xFrom ≠ 9 := by
  intro m hm
  rw [List.mem_filterMap] at hm
  obtain ⟨r, _, hr⟩ := hm
  have hne : s ≠ [] := by intro e; subst e; have := okShards_len hs; simp at this
  unfold moveOf at hr
  split at hr
  · cases hr
  · rename_i hx
    injection hr with hr
    subst hr
    rw [homeOf_snoc hne] at hx ⊢
    unfold better at hx ⊢
    split at hx
    · rename_i hb
      rw [if_pos hb]
      exact ⟨rfl, fun e => h9 (e ▸ home_mem hs)⟩
    · exact absurd rfl hx
theorem foldl_best (r : Int) (l : List Int) (b : Int) : scoreOf r b ≤ scoreOf r (l.foldl (better r) b) ∧ ∀ y ∈ l, scoreOf r y ≤ scoreOf r (l.foldl (better r) b) := by
  induction l generalizing b with
  | nil => simp
  | cons x l ih =>
    obtain ⟨h1, h2⟩ := ih (better r b x)
    have hb : scoreOf r b ≤ scoreOf r (better r b x) ∧ scoreOf r x ≤ scoreOf r (better r b x) := by
      unfold better; split <;> omega
    rw [List.foldl_cons]
    refine ⟨Int.le_trans hb.1 h1, fun y hy => ?_⟩
    rcases List.mem_cons.1 hy with rfl | hy
    · exact Int.le_trans hb.2 h1
    · exact h2 y hy
theorem home_best {r y : Int} {s : List Int} (hy : y ∈ s) : scoreOf r y ≤ scoreOf r (homeOf r s) := (foldl_best r s _).2 y hy
theorem sum_zero {s : List Int} {z : Int} (h : ∀ y ∈ s, z < y) : (s.map fun y => if z == y then (1 : Int) else 0).sum = 0 := by
  induction s with
  | nil => rfl
  | cons y s ih =>
    have h1 := h y (by simp)
    rw [List.map_cons, List.sum_cons, ih (fun y hy => h y (by simp [hy])), if_neg (by simp; omega)]
    rfl
theorem sum_one {s : List Int} (h : s.Pairwise (· < ·)) {z : Int} (hz : z ∈ s) : (s.map fun y => if z == y then (1 : Int) else 0).sum = 1 := by
  induction s with
  | nil => simp at hz
  | cons y s ih =>
    rw [List.pairwise_cons] at h
    rw [List.map_cons, List.sum_cons]
    rcases List.mem_cons.1 hz with rfl | hz'
    · rw [sum_zero h.1, if_pos (by simp)]; rfl
    · have := h.1 z hz'
      rw [ih h.2 hz', if_neg (by simp; omega)]; rfl
theorem sum_add (s : List Int) (f g : Int → Int) : (s.map fun y => f y + g y).sum = (s.map f).sum + (s.map g).sum := by
  induction s with
  | nil => rfl
  | cons y s ih => simp only [List.map_cons, List.sum_cons, ih]; omega
theorem rises_pair {p : Int → Bool} {l : List Int} (h : rises p l = true) : l.Pairwise (· < ·) := by
  rw [List.pairwise_iff_getElem]
  intro i j hi hj hij
  exact rises_lt h hij (List.getElem?_eq_getElem hi) (List.getElem?_eq_getElem hj)
theorem loads_sum {s : List Int} (hs : okShards s = true) (R : List Int) : (loads R s).sum = R.length := by
  have hp : s.Pairwise (· < ·) := by
    unfold okShards at hs
    simp only [Bool.and_eq_true] at hs
    exact rises_pair hs.2
  induction R with
  | nil =>
    unfold loads cnt
    simp only [List.filter_nil, List.length_nil]
    clear hs hp
    induction s with
    | nil => rfl
    | cons y s ih => simp only [List.map_cons, List.sum_cons, ih]; rfl
  | cons r R ih =>
    have h1 := sum_one hp (home_mem (r := r) hs)
    have h2 : loads (r :: R) s = s.map fun y => (if homeOf r s == y then (1 : Int) else 0) + ((cnt R s y : Nat) : Int) := by
      unfold loads cnt
      apply List.map_congr_left
      intro y hy
      rw [List.filter_cons]
      split <;> simp <;> omega
    rw [h2, sum_add, h1]
    unfold loads at ih
    rw [ih]
    simp only [List.length_cons]
    push_cast
    omega
theorem sum_take {l : List Int} (h : ∀ x ∈ l, 0 ≤ x) (i : Nat) : 0 ≤ (l.take i).sum ∧ (l.take i).sum ≤ l.sum := by
  induction l generalizing i with
  | nil => simp
  | cons x l ih =>
    have hx := h x (by simp)
    have h0 := ih (fun y hy => h y (by simp [hy]))
    cases i with
    | zero => have := h0 0; simp at this ⊢; omega
    | succ i => have := h0 i; simp only [List.take_succ_cons, List.sum_cons]; omega
theorem loads_take {R S : List Int} (hp : Plan R S) (i : Nat) : 0 ≤ ((loads R S).take i).sum ∧ ((loads R S).take i).sum ≤ 12 := by
  have h := sum_take (l := loads R S) (fun x hx => by unfold loads at hx; rw [List.mem_map] at hx; obtain ⟨y, _, rfl⟩ := hx; omega) i
  rw [loads_sum hp.shards, hp.twelve] at h
  exact h
theorem loads_get {R S : List Int} {i : Nat} {y : Int} (h : S[i]? = some y) : (loads R S)[i]? = some ((cnt R S y : Nat) : Int) := by unfold loads; rw [List.getElem?_map, h]; rfl
theorem loads_next {R S : List Int} {i : Nat} {y : Int} (h : S[i]? = some y) : ((loads R S).take (i + 1)).sum = ((loads R S).take i).sum + ((cnt R S y : Nat) : Int) := by
  rw [List.take_add_one, loads_get h]
  simp
theorem plan_room {R S : List Int} (hp : Plan R S) : ∀ x ∈ R, inB x 1 1000 = true := by
  have h := hp.rooms
  unfold okRooms at h
  simp only [Bool.and_eq_true] at h
  exact rises_at h.2
theorem plan_shard {R S : List Int} (hp : Plan R S) : ∀ x ∈ S, inB x 1 1000 = true := by
  have h := hp.shards
  unfold okShards at h
  simp only [Bool.and_eq_true] at h
  exact rises_at h.2
end Go.Proofs.YtmofbfeclecdoaaDoor

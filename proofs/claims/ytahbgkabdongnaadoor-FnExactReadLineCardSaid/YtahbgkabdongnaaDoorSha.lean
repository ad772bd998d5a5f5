/- A slice whose block alone is owned: what its elements lead to is only read. -/
import Derived.Test.YtahbgkabdongnaaDoorBox
namespace Go.Dt
open Go.RowKit Go.Deep
set_option linter.unusedSimpArgs false
set_option linter.unusedVariables false
/-- The slice's own block is one of G; what its cells lead to is of Pb, and is not that block. -/
def Sh (w : World) (Pb : Nat → Prop) (e : TypeId) (sz : Nat) (rows : List (List D)) (v : Value) (G : Nat → Prop) : Prop :=
  (rows = [] ∧ (∃ A, v = .slice A 0 0) ∧ ∀ b, ¬ G b) ∨
  ∃ g c us cs, v = .slice (some ⟨g, 0, none⟩) rows.length c ∧ w.heap[g]? = some (.cells cs e (0, 0)) ∧ cs.size = c * sz ∧ rows.length ≤ c ∧ c ≤ maxLen ∧ (∀ row ∈ rows, row.length = sz) ∧ cs.toList.take (rows.length * sz) = us ∧ RoL w Pb rows.flatten us ∧ ¬ Pb g ∧ ∀ b, G b ↔ b = g
section
variable {w w' : World} {Pb : Nat → Prop} {e : TypeId} {sz : Nat} {rows : List (List D)} {v : Value} {G : Nat → Prop}
theorem Sh.nil (w : World) (Pb : Nat → Prop) (e : TypeId) (sz : Nat) (A : Option Addr) : Sh w Pb e sz [] (.slice A 0 0) (fun _ => False) := .inl ⟨rfl, ⟨A, rfl⟩, by simp⟩
/-- What is owned whole, is so. -/
theorem Sh.of_ow {F : Nat → Prop} (h : Ow w (.sl e sz rows) v F) : ∃ G P0, Sh w P0 e sz rows v G ∧ (∀ b, G b → F b) ∧ (∀ b, P0 b → F b) ∧ ∀ b, G b → ¬ P0 b := by
  rcases h.sl_inv with ⟨rfl, hA, hF⟩ | ⟨g, c, us, cs, F0, rfl, hg, hcs, hle, hcm, hrl, htake, hU, hg0, hF⟩
  · exact ⟨fun _ => False, fun _ => False, .inl ⟨rfl, hA, by simp⟩, by simp, by simp, by simp⟩
  · exact ⟨fun b => b = g, F0, .inr ⟨g, c, us, cs, rfl, hg, hcs, hle, hcm, hrl, htake, hU.ro, hg0, fun b => Iff.rfl⟩, fun b hb => (hF b).2 (.inl hb), fun b hb => (hF b).2 (.inr hb), fun b hb => hb ▸ hg0⟩
theorem Sh.mono {Pb' : Nat → Prop} (h : Sh w Pb e sz rows v G) (hP : ∀ b, Pb b → Pb' b) (hG : ∀ b, G b → ¬ Pb' b) : Sh w Pb' e sz rows v G := by
  rcases h with h | ⟨g, c, us, cs, h1, h2, h3, h4, h5, h6, h7, h8, h9, h10⟩
  · exact .inl h
  · exact .inr ⟨g, c, us, cs, h1, h2, h3, h4, h5, h6, h7, h8.mono hP, hG g ((h10 g).2 rfl), h10⟩
theorem Sh.lt (h : Sh w Pb e sz rows v G) : ∀ b, G b → b < w.heap.size := by
  rcases h with ⟨_, _, h⟩ | ⟨g, c, us, cs, _, h2, _, _, _, _, _, _, _, h10⟩
  · exact fun b hb => (h b hb).elim
  · intro b hb
    obtain rfl := (h10 b).1 hb
    exact (Array.getElem?_eq_some_iff.1 h2).1
theorem Sh.slice (h : Sh w Pb e sz rows v G) : ∃ A c, v = .slice A rows.length c ∧ rows.length ≤ c ∧ c ≤ maxLen := by
  rcases h with ⟨rfl, ⟨A, rfl⟩, _⟩ | ⟨g, c, us, cs, rfl, _, _, h4, h5, _⟩
  · exact ⟨A, 0, rfl, Nat.le_refl _, Nat.zero_le _⟩
  · exact ⟨_, c, rfl, h4, h5⟩
theorem Sh.stays (h : Sh w Pb e sz rows v G) (hw : ∀ b, G b ∨ Pb b → w'.heap[b]? = w.heap[b]?) : Sh w' Pb e sz rows v G := by
  rcases h with h | ⟨g, c, us, cs, h1, h2, h3, h4, h5, h6, h7, h8, h9, h10⟩
  · exact .inl h
  · exact .inr ⟨g, c, us, cs, h1, (hw g (.inl ((h10 g).2 rfl))).trans h2, h3, h4, h5, h6, h7, h8.stays (fun b hb => hw b (.inr hb)), h9, h10⟩
theorem Sh.kp {K : Nat → Prop} (h : Sh w Pb e sz rows v G) (hP : ∀ b, Pb b → b < w.heap.size) (hk : Kp K w w') (hn : ∀ b, G b ∨ Pb b → ¬ K b) : Sh w' Pb e sz rows v G :=
  h.stays fun b hb => hk.block b (hb.elim (h.lt b) (hP b)) (hn b hb)
theorem Sh.keep (h : Sh w Pb e sz rows v G) (hP : ∀ b, Pb b → b < w.heap.size) (hb : Below w.heap.size w w') : Sh w' Pb e sz rows v G :=
  h.stays fun b hx => hb.block b (hx.elim (h.lt b) (hP b))
theorem Sh.far {p : Addr} (h : Sh w Pb e sz rows v G) (hn : ∀ b, G b ∨ Pb b → b ≠ p.block) (u : Value) : Sh (w.setCell p u) Pb e sz rows v G :=
  h.stays fun b hb => Below.heap_setCell w p u b (hn b hb)
theorem Sh.ro (h : Sh w Pb e sz rows v G) : Ro w (fun b => G b ∨ Pb b) (.sl e sz rows) v := by
  rcases h with ⟨rfl, ⟨A, rfl⟩, _⟩ | ⟨g, c, us, cs, rfl, h1, h2, h3, h4, h5, h7, h8, h9, h10⟩
  · exact .emp e sz A 0 (Nat.zero_le _)
  · have hl := flatten_length h5
    have h6 : us.length = rows.length * sz := by rw [h8.1, hl]
    refine .row e sz g 0 c rows (fun i j => us.getD (i * sz + j) undef) h3 h4 (.inl ((h10 g).2 rfl)) (fun i row hi => rows_len h5 hi) (fun i row j d hi hj => ?_) (fun i row j d hi hj => ?_)
    · have hf := flatten_get h5 hi hj
      have hp : i * sz + j < us.length := by have := (List.getElem?_eq_some_iff.1 hf).1; omega
      have : cs[i * sz + j]? = some (us.getD (i * sz + j) undef) := by
        rw [← h7, List.getD_eq_getElem?_getD, List.getElem?_take, if_pos (by omega)]
        have : i * sz + j < cs.size := by rw [h2]; have := Nat.mul_le_mul_right sz h3; omega
        simp [this]
      simp [World.cell?, h1, this]
    · have hf := flatten_get h5 hi hj
      have hp : i * sz + j < us.length := by have := (List.getElem?_eq_some_iff.1 hf).1; omega
      have hu : us[i * sz + j]? = some (us.getD (i * sz + j) undef) := by rw [List.getD_eq_getElem?_getD, List.getElem?_eq_getElem hp]; rfl
      exact (h8.2 _ d _ hf hu).mono fun b hb => .inr hb
theorem Sh.lo (h : Sh w Pb e sz rows v G) (hP : ∀ b, Pb b → b < w.heap.size) : Ro w (Lo w.heap.size) (.sl e sz rows) v := h.ro.mono fun b hb => hb.elim (h.lt b) (hP b)
theorem Sh.of_block {g c : Nat} {us : List Value} {cs : Array Value} (h1 : w.heap[g]? = some (.cells cs e (0, 0))) (h2 : cs.size = c * sz) (h3 : rows.length ≤ c) (h4 : c ≤ maxLen) (h5 : ∀ row ∈ rows, row.length = sz) (h7 : cs.toList.take (rows.length * sz) = us) (h : RoL w Pb rows.flatten us) (hg : ¬ Pb g) :
    Sh w Pb e sz rows (.slice (some ⟨g, 0, none⟩) rows.length c) (fun b => b = g) := .inr ⟨g, c, us, cs, rfl, h1, h2, h3, h4, h5, h7, h, hg, fun b => Iff.rfl⟩
end
section
variable {P : Program} {w : World} {Pb : Nat → Prop}
theorem run_append_sh (t ty e : TypeId) (i : TypeInfo) (z : Value) (sz bytes : Nat) (ht : P.underlying t = some (.slice e)) (hi : P.info? e = some i) (hz : i.zero = some z) (hsize : i.size = sz) (hby : i.bytes = bytes) (hzs : z.cells.size = sz) (hsz : 0 < sz)
    {v : Value} {rows : List (List D)} {G : Nat → Prop} (h : Sh w Pb e sz rows v G) (hP : ∀ b, Pb b → b < w.heap.size)
    (ad : Addr) (m c : Nat) (news : List Value) (nrows : List (List D)) (hm : nrows.length = m) (hnr : ∀ row ∈ nrows, row.length = sz) (hnews : ∀ (j : Nat) (u : Value), news[j]? = some u → w.cell? (ad.add j) = some u) (hN : RoL w Pb nrows.flatten news)
    (h1 : ∀ u ∈ news, u.oneCell' = true) (hbytes : (rows.length + m) * bytes ≤ 140737488355328) (hb0 : 0 < bytes) :
    ∃ v' w' G', (Builtin.append_ #[t, t] ty #[v, .slice (some ad) m c]).run P w = .ok v' w' ∧ Sh w' Pb e sz (rows ++ nrows) v' G' ∧ Kp G w w' ∧ (∀ b, G' b → G b ∨ b = w.heap.size) := by
  have hlen : rows.length + m ≤ 140737488355328 := Nat.le_trans (Nat.le_mul_of_pos_right _ hb0) hbytes
  have hnl : news.length = m * sz := by rw [hN.1, flatten_length hnr, hm]
  have h63 : rows.length + m ≤ maxLen := by simp only [maxLen]; omega
  have fresh : ∀ (w1 : World) (us : List Value), RoL w Pb rows.flatten us → (∀ row ∈ rows, row.length = sz) → ∀ old, w1 = w.drew.alloc (.cells (us.toArray ++ news.toArray ++ Builtin.zeroCells z.cells (grownCap w (rows.length + m) old e - (rows.length + m))) e) →
      Sh w1 Pb e sz (rows ++ nrows) (.slice (some ⟨w.heap.size, 0, none⟩) (rows.length + m) (grownCap w (rows.length + m) old e)) (fun b => b = w.heap.size) ∧ Kp G w w1 := by
    intro w1 us hU hrl old hw1
    have hk : ∀ k, k < w.heap.size → w1.heap[k]? = w.heap[k]? := by
      intro k hk
      rw [hw1]
      exact _root_.Go.heap_alloc_old w.drew _ hk
    have hul : us.length = rows.length * sz := by rw [hU.1, flatten_length hrl]
    have hge := grownCap_ge w (rows.length + m) old e
    have hall : ∀ row ∈ rows ++ nrows, row.length = sz := by
      intro row hr
      rcases List.mem_append.1 hr with hr | hr
      · exact hrl row hr
      · exact hnr row hr
    have hO : RoL w1 Pb (rows ++ nrows).flatten (us ++ news) := by
      rw [List.flatten_append]
      exact RoL.append (hU.stays fun b hb => hk b (hP b hb)) (hN.stays fun b hb => hk b (hP b hb))
    have hlr : (rows ++ nrows).length = rows.length + m := by rw [List.length_append, hm]
    have hO' := Sh.of_block (e := e) (sz := sz) (g := w.heap.size) (c := grownCap w (rows.length + m) old e) (rows := rows ++ nrows) (w := w1) (cs := us.toArray ++ news.toArray ++ Builtin.zeroCells z.cells (grownCap w (rows.length + m) old e - (rows.length + m)))
      (by rw [hw1]; exact heap_alloc_new w.drew _)
      (by
        simp only [Array.size_append, List.size_toArray, size_zeroCells, hzs, hul, hnl, ← Nat.add_mul]
        congr 1
        omega)
      (by rw [hlr]; exact hge) (grownCap_le_maxLen w _ old e h63) hall
      (by
        simp only [Array.toList_append, List.append_assoc]
        rw [← List.append_assoc, hlr, show (rows.length + m) * sz = (us ++ news).length from by rw [List.length_append, hul, hnl, Nat.add_mul]]
        exact List.take_left) hO (fun hb => Nat.lt_irrefl _ (hP _ hb))
    rw [hlr] at hO'
    refine ⟨hO', ⟨by rw [hw1]; rfl, by rw [hw1]; rfl, by rw [hw1]; rfl, by rw [hw1]; simp, fun k hkk _ => hk k hkk⟩⟩
  subst hsize
  subst hby
  have hsmall : rows.length + m ≤ 9223372036854775807 := by simp only [maxLen] at h63; omega
  rcases h with ⟨rfl, ⟨A, rfl⟩, hF⟩ | ⟨g, cap, us, cs, rfl, hg, hcs, hle, hcm, hrl, htake, hU, hg0, hF⟩
  · rcases Nat.eq_zero_or_pos m with h0 | h0
    · subst h0
      have hn : nrows = [] := List.eq_nil_of_length_eq_zero hm
      subst hn
      have hn : news = [] := List.eq_nil_of_length_eq_zero (by simpa using hnl)
      subst hn
      refine ⟨.slice A 0 0, w, fun _ => False, ?_, .inl ⟨rfl, ⟨A, rfl⟩, by simp⟩, Kp.refl _ _, by simp⟩
      have hl0 : (loadCells ad 0).run P w = .ok #[] w := by simp [loadCells, loadCellsFrom]
      cases A <;> simp [Builtin.append_, run_underlying ht, sizeOf, typeInfo, hi, Builtin.lenOf, Builtin.firstCells, hl0, storeCells]
    · have hU : RoL w Pb ([] : List (List D)).flatten [] := RoL.nil
      have hfr := fresh _ [] hU (by simp) 0 rfl
      simp only [List.length_nil, Nat.zero_add, Array.empty_append, List.nil_append] at hfr hbytes hsmall ⊢
      refine ⟨_, _, _, ?_, hfr.1, hfr.2, fun b hb => .inr hb⟩
      · rcases A with _ | a0
        · exact run_append_nil (P := P) w t ty e i z ht hi hz ad m c news hnl hnews (by omega) (by omega) (by omega)
        · have := run_append_grow (P := P) w t ty e i z ht hi hz a0 0 0 [] (by simp) (by simp) ad m c news hnl hnews (by omega) (by omega) (growslice_fits (by omega) (by simpa using hbytes))
          simpa using this
  · have hul : us.length = rows.length * i.size := by rw [← htake]; exact take_flat hcs hle
    have hcells : ∀ (j : Nat) (u : Value), us[j]? = some u → w.cell? ((⟨g, 0, none⟩ : Addr).add j) = some u := by
      intro j u hu
      rw [add_lit, Nat.zero_add]
      rw [← htake, List.getElem?_take] at hu
      split at hu
      · simp [World.cell?, hg]; simpa using hu
      · cases hu
    by_cases hroom : rows.length + m ≤ cap
    · have hfit : rows.length * i.size + news.length ≤ cs.size := by rw [hnl, hcs, ← Nat.add_mul]; exact Nat.mul_le_mul_right _ hroom
      have hr := run_append_room (P := P) w t ty e i ht hi g rows.length cap cs hg ad m c news hnl hnews h1 hroom hfit
      have hw : ∀ k, k ≠ g → (w.setRow g (cs.toList.take (rows.length * i.size) ++ news ++ cs.toList.drop (rows.length * i.size + news.length)).toArray).heap[k]? = w.heap[k]? := fun k hk => setRow_other w g k _ (fun e => hk e)
      have hO : RoL (w.setRow g (cs.toList.take (rows.length * i.size) ++ news ++ cs.toList.drop (rows.length * i.size + news.length)).toArray) Pb (rows ++ nrows).flatten (us ++ news) := by
        rw [List.flatten_append]
        exact RoL.append (hU.stays fun b hb => hw b (fun e => hg0 (e ▸ hb))) (hN.stays fun b hb => hw b (fun e => hg0 (e ▸ hb)))
      have hlr : (rows ++ nrows).length = rows.length + m := by rw [List.length_append, hm]
      have hO' := Sh.of_block (e := e) (sz := i.size) (g := g) (c := cap) (rows := rows ++ nrows) (cs := (cs.toList.take (rows.length * i.size) ++ news ++ cs.toList.drop (rows.length * i.size + news.length)).toArray) (setRow_heap w g cs _ e _ hg)
        (by simp only [List.size_toArray, List.length_append, List.length_take, List.length_drop, Array.length_toList]; omega)
        (by rw [hlr]; exact hroom) hcm
        (by
          intro row hr
          rcases List.mem_append.1 hr with hr | hr
          · exact hrl row hr
          · exact hnr row hr)
        (by
          rw [htake, hlr, show (rows.length + m) * i.size = (us ++ news).length from by rw [List.length_append, hul, hnl, Nat.add_mul]]
          exact List.take_left) hO hg0
      rw [hlr] at hO'
      refine ⟨_, _, _, hr, hO', ⟨rfl, rfl, rfl, by simp, fun k _ hk => hw k (fun e => hk ((hF k).2 e))⟩, fun b hb => .inl ((hF b).2 hb)⟩
    · have hr := run_append_grow (P := P) w t ty e i z ht hi hz ⟨g, 0, none⟩ rows.length cap us hul hcells ad m c news hnl hnews (by omega) (by omega) (growslice_fits (by omega) hbytes)
      have hfr := fresh _ us hU hrl cap rfl
      exact ⟨_, _, _, hr, hfr.1, hfr.2, fun b hb => .inr hb⟩
end
section
variable {P : Program} {ops : Array Oper} {rest : List Oper} {o : Oper} {a : Act} {Q : Exit → Act → World → Prop} {w : World} {Pb : Nat → Prop}
theorem run_append1_sh (t e ty : TypeId) (ht : P.underlying t = some (.slice e)) (z : Value) (sz bytes : Nat) (hinf : Inf P e z sz bytes) (hzs : z.cells.size = sz) (hsz : 0 < sz) (hb0 : 0 < bytes)
    {v : Value} {rows : List (List D)} {G : Nat → Prop} (h : Sh w Pb e sz rows v G) (hP : ∀ b, Pb b → b < w.heap.size) (cs : Array Value) (row : List D) (hnr : row.length = sz) (hN : RoL w Pb row cs.toList) (hbytes : (rows.length + 1) * bytes ≤ 140737488355328) :
    ∃ v' w' G', (Builtin.append_ #[t, t] ty #[v, .slice (some ⟨w.heap.size, 0, none⟩) 1 1]).run P (w.alloc (.cells cs e)) = .ok v' w' ∧ Sh w' Pb e sz (rows ++ [row]) v' G' ∧ Kp G w w' ∧ (∀ b, G' b → G b ∨ w.heap.size ≤ b) := by
  have hk : Below w.heap.size w (w.alloc (.cells cs e)) := (Below.refl _ _).alloc (Nat.le_refl _) _
  obtain ⟨i, hi, hz, hsize, hby⟩ := hinf.out
  obtain ⟨v', w', G', hr, h2, h3, h4⟩ := run_append_sh (P := P) t ty e i z sz bytes ht hi hz hsize hby hzs hsz (h.keep hP hk) (fun b hb => Nat.lt_of_lt_of_le (hP b hb) hk.size) ⟨w.heap.size, 0, none⟩ 1 1 cs.toList [row] rfl (by simp [hnr]) (fun j u hu => by
    rw [add_lit, Nat.zero_add]
    have : (w.alloc (.cells cs e)).heap[w.heap.size]? = some (.cells cs e) := heap_alloc_new w _
    rw [cell_of_row _ _ _ _ _ _ this]
    simpa using hu) (by simpa using hN.stays fun b hb => hk.block b (hP b hb)) (oneCells_of hN) hbytes hb0
  exact ⟨v', w', G', hr, h2, Kp.trans (Kp.of_below (F := G) hk) h3 (fun _ h => h) (fun _ _ h => h), fun b hb => (h4 b hb).imp id fun h => by rw [h]; simp⟩
/-- 'append(v, x)': one element, behind its box. -/
theorem dt_append1_sh (hgd : o.guard = none) (s x : Operand) (t e : TypeId) (ho : o.op = .call { callee := .builtin .append, args := #[s, x], argTypes := #[t, t] })
    (ht : P.underlying t = some (.slice e)) (z : Value) (sz bytes : Nat) (hinf : Inf P e z sz bytes) (hzs : z.cells.size = sz) (hsz : 0 < sz) (hb0 : 0 < bytes)
    {v : Value} {rows : List (List D)} {G : Nat → Prop} (hs : a.eval s = v) (h : Sh w Pb e sz rows v G) (hP : ∀ b, Pb b → b < w.heap.size)
    (cs : Array Value) (hx : a.eval x = .slice (some ⟨w.heap.size, 0, none⟩) 1 1) (row : List D) (hnr : row.length = sz) (hN : RoL w Pb row cs.toList) (hbytes : (rows.length + 1) * bytes ≤ 140737488355328)
    (k : ∀ v' w' G', Sh w' Pb e sz (rows ++ [row]) v' G' → Kp G w w' → (∀ b, G' b → G b ∨ w.heap.size ≤ b) → wpList P ops Q rest (a.put o.dst v') w') : wpList P ops Q (o :: rest) a (w.alloc (.cells cs e)) := by
  refine wpList_plain hgd fun K hK => ?_
  obtain ⟨v', w', G', hr, h2, h3, h4⟩ := run_append1_sh (P := P) t e o.type ht z sz bytes hinf hzs hsz hb0 h hP cs row hnr hN hbytes
  unfold Oper.wp execOp
  simp only [ho, resolve, invoke, builtin, Sem.run_bind, Sem.run_pure, Result.andThen_ok, List.map_toArray, List.map_cons, List.map_nil, hs, hx, hr]
  exact hK _ _ (k v' w' G' h2 h3 h4)
end
section
variable {P : Program} {ops : Array Oper} {o : Oper} {a : Act} {K : Act → World → Prop} {Q : Exit → Act → World → Prop} {E : Prop} {w : World} {Pb : Nat → Prop}
/-- The same in a region that draws its order. -/
theorem step_append1_sh (hgd : o.guard = none) (s x : Operand) (t e : TypeId) (ho : o.op = .call { callee := .builtin .append, args := #[s, x], argTypes := #[t, t] })
    (ht : P.underlying t = some (.slice e)) (z : Value) (sz bytes : Nat) (hinf : Inf P e z sz bytes) (hzs : z.cells.size = sz) (hsz : 0 < sz) (hb0 : 0 < bytes)
    {v : Value} {rows : List (List D)} {G : Nat → Prop} (hs : a.eval s = v) (h : Sh w Pb e sz rows v G) (hP : ∀ b, Pb b → b < w.heap.size)
    (cs : Array Value) (hx : a.eval x = .slice (some ⟨w.heap.size, 0, none⟩) 1 1) (row : List D) (hnr : row.length = sz) (hN : RoL w Pb row cs.toList) (hbytes : (rows.length + 1) * bytes ≤ 140737488355328)
    (k : ∀ v' w' G', Sh w' Pb e sz (rows ++ [row]) v' G' → Kp G w w' → (∀ b, G' b → G b ∨ w.heap.size ≤ b) → K (a.put o.dst v') w') :
    if Region.wanted o (yielded ops a.tmps) = true then Oper.wp P o a (w.alloc (.cells cs e)) K Q else E := by
  rw [if_pos (by simp [Region.wanted, hgd])]
  obtain ⟨v', w', G', hr, h2, h3, h4⟩ := run_append1_sh (P := P) t e o.type ht z sz bytes hinf hzs hsz hb0 h hP cs row hnr hN hbytes
  unfold Oper.wp execOp
  simp only [ho, resolve, invoke, builtin, Sem.run_bind, Sem.run_pure, Result.andThen_ok, List.map_toArray, List.map_cons, List.map_nil, hs, hx, hr]
  exact k v' w' G' h2 h3 h4
end
end Go.Dt

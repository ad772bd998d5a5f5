/- Laws for the walk: a load of a struct, make, append and stores of what is owned. -/
import Derived.Test.YtahbgkabdongnaaDoorOw
import Derived.Laws.MakeOwn
import Derived.Laws.CopyRow
import Derived.Laws.Rows
namespace Go.Dt
open Go.RowKit Go.Deep
set_option linter.unusedSimpArgs false
set_option linter.unusedVariables false

/-- What the table tells of an element's type: its zero value, its cells, its bytes. -/
def Inf (P : Program) (e : TypeId) (z : Value) (sz bytes : Nat) : Prop := (P.info? e).map (fun i => (i.zero, i.size, i.bytes)) = some (some z, sz, bytes)
theorem Inf.out {P : Program} {e : TypeId} {z : Value} {sz bytes : Nat} (h : Inf P e z sz bytes) : ∃ i, P.info? e = some i ∧ i.zero = some z ∧ i.size = sz ∧ i.bytes = bytes := by
  obtain ⟨i, hi, hzz⟩ := Option.map_eq_some_iff.1 h
  simp only [Prod.mk.injEq] at hzz
  exact ⟨i, hi, hzz⟩

section
variable {P : Program} {ops : Array Oper} {rest : List Oper} {o : Oper} {a : Act} {Q : Exit → Act → World → Prop} {w : World}

theorem dt_load (hgd : o.guard = none) (ty : TypeId) (x : Operand) (ho : o.op = .load ty x) (b off : Nat) (hx : a.eval x = .pointer (some ⟨b, off, none⟩)) (us : List Value) (d : TypeDesc)
    (hu : P.underlying ty = some d) (hd : (match d with | .struct _ | .array _ _ => true | _ => false) = true) (hi : (P.info? ty).map (·.size) = some us.length)
    (hc : ∀ (j : Nat) (u : Value), us[j]? = some u → w.cell? ⟨b, off + j, none⟩ = some u)
    (h : wpList P ops Q rest (a.put o.dst (.agg us.toArray)) w) : wpList P ops Q (o :: rest) a w := by
  refine wpList_plain hgd fun K hK => ?_
  have hl : (loadCells ⟨b, off, none⟩ us.length).run P w = .ok us.toArray w := run_loadCells_list (P := P) w ⟨b, off, none⟩ us (fun j v hv => by rw [add_lit]; exact hc j v hv)
  have hv : (loadVar ty ⟨b, off, none⟩).run P w = .ok (.agg us.toArray) w := by
    cases hq : P.info? ty with
    | none => simp [hq] at hi
    | some i =>
      have hs : i.size = us.length := by simpa [hq] using hi
      have hagg : (isAgg ty).run P w = .ok true w := by
        simp only [isAgg, Sem.run_bind, run_underlying hu, Result.andThen_ok]
        cases d <;> simp_all
      simp only [loadVar, Sem.run_bind, hagg, Result.andThen_ok, if_true, sizeOf, typeInfo, Sem.run_pure]
      simp [hq, hs, hl]
  unfold Oper.wp execOp
  simp only [ho, hx, Instr.loadAt, Instr.sureAddr, Sem.run_bind, Sem.run_pure, Result.andThen_ok, hv]
  exact hK _ _ h

theorem dt_append (hgd : o.guard = none) (s x : Operand) (t e : TypeId) (ho : o.op = .call { callee := .builtin .append, args := #[s, x], argTypes := #[t, t] })
    (ht : P.underlying t = some (.slice e)) (z : Value) (sz bytes : Nat) (hinf : Inf P e z sz bytes) (hzs : z.cells.size = sz) (hsz : 0 < sz) (hb0 : 0 < bytes)
    {v : Value} {rows : List (List D)} {F : Nat → Prop} (hs : a.eval s = v) (h : Ow w (.sl e sz rows) v F)
    (ad : Addr) (m c : Nat) (hx : a.eval x = .slice (some ad) m c) (news : List Value) (nrows : List (List D)) (Fn : Nat → Prop) (hm : nrows.length = m) (hnr : ∀ row ∈ nrows, row.length = sz)
    (hnews : ∀ (j : Nat) (u : Value), news[j]? = some u → w.cell? (ad.add j) = some u) (hN : OwL w nrows.flatten news Fn) (hd : ∀ b, Fn b → ¬ F b) (h1 : ∀ u ∈ news, u.oneCell' = true) (hbytes : (rows.length + m) * bytes ≤ 140737488355328)
    (k : ∀ v' w' F', Ow w' (.sl e sz (rows ++ nrows)) v' F' → Kp F w w' → (∀ b, F' b → F b ∨ Fn b ∨ b = w.heap.size) → wpList P ops Q rest (a.put o.dst v') w') : wpList P ops Q (o :: rest) a w := by
  refine wpList_plain hgd fun K hK => ?_
  obtain ⟨i, hi, hz, hsize, hby⟩ := hinf.out
  obtain ⟨v', w', F', hr, h2, h3, h4⟩ := run_append_ow (P := P) t o.type e i z sz bytes ht hi hz hsize hby hzs hsz h ad m c news nrows Fn hm hnr hnews hN hd h1 hbytes hb0
  unfold Oper.wp execOp
  simp only [ho, resolve, invoke, builtin, Sem.run_bind, Sem.run_pure, Result.andThen_ok, List.map_toArray, List.map_cons, List.map_nil, hs, hx, hr]
  exact hK _ _ (k v' w' F' h2 h3 h4)

theorem oneCell_of {Pb : Nat → Prop} {d : D} {u : Value} (h : Ro w Pb d u) : u.oneCell' = true := by cases h <;> rfl
theorem oneCells_of {Pb : Nat → Prop} {ds : List D} {us : List Value} (h : RoL w Pb ds us) : ∀ u ∈ us, u.oneCell' = true := by
  intro u hu
  obtain ⟨j, hj, rfl⟩ := List.getElem_of_mem hu
  exact oneCell_of (h.2 j _ _ (List.getElem?_eq_getElem (by rw [← h.1]; exact hj)) (List.getElem?_eq_getElem hj))

/-- 'append(v, x)': one element, behind its box. -/
theorem dt_append1 (hgd : o.guard = none) (s x : Operand) (t e : TypeId) (ho : o.op = .call { callee := .builtin .append, args := #[s, x], argTypes := #[t, t] })
    (ht : P.underlying t = some (.slice e)) (z : Value) (sz bytes : Nat) (hinf : Inf P e z sz bytes) (hzs : z.cells.size = sz) (hsz : 0 < sz) (hb0 : 0 < bytes)
    {v : Value} {rows : List (List D)} {F : Nat → Prop} (hs : a.eval s = v) (h : Ow w (.sl e sz rows) v F)
    (cs : Array Value) (hx : a.eval x = .slice (some ⟨w.heap.size, 0, none⟩) 1 1) (row : List D) (Fn : Nat → Prop) (hnr : row.length = sz)
    (hN : OwL w row cs.toList Fn) (hd : ∀ b, Fn b → ¬ F b) (hbytes : (rows.length + 1) * bytes ≤ 140737488355328)
    (k : ∀ v' w' F', Ow w' (.sl e sz (rows ++ [row])) v' F' → Kp F w w' → (∀ b, F' b → F b ∨ Fn b ∨ w.heap.size ≤ b) → wpList P ops Q rest (a.put o.dst v') w') : wpList P ops Q (o :: rest) a (w.alloc (.cells cs e)) := by
  have hk : Below w.heap.size w (w.alloc (.cells cs e)) := (Below.refl _ _).alloc (Nat.le_refl _) _
  refine dt_append hgd s x t e ho ht z sz bytes hinf hzs hsz hb0 hs (h.keep hk) ⟨w.heap.size, 0, none⟩ 1 1 hx cs.toList [row] Fn rfl (by simp [hnr]) (fun j u hu => ?_) (by simpa using hN.keep hk) hd (oneCells_of (hN.ro)) hbytes fun v' w' F' h1 h2 h3 => k v' w' F' h1 ?_ fun b hb => ?_
  · rw [add_lit, Nat.zero_add]
    have : (w.alloc (.cells cs e)).heap[w.heap.size]? = some (.cells cs e) := heap_alloc_new w _
    rw [cell_of_row _ _ _ _ _ _ this]
    simpa using hu
  · exact Kp.trans (Kp.of_below (F := F) hk) h2 (fun _ h => h) (fun _ _ h => h)
  · rcases h3 b hb with h | h | h
    · exact .inl h
    · exact .inr (.inl h)
    · exact .inr (.inr (by rw [h]; simp))

theorem madeCells_get (zc : Array Value) (n j : Nat) (h : j < n) (hz : 0 < zc.size) : (madeCells zc n)[j]? = zc[j % zc.size]? := by
  have hm : j % zc.size < zc.size := Nat.mod_lt _ hz
  simp [madeCells, h, hm]
theorem replicate_flatten_get (zrow : List D) (n p : Nat) (hz : 0 < zrow.length) (hp : p < n * zrow.length) : (List.replicate n zrow).flatten[p]? = zrow[p % zrow.length]? := by
  have hi : p / zrow.length < n := Nat.div_lt_of_lt_mul (by rw [Nat.mul_comm]; exact hp)
  have hj := Nat.mod_lt p hz
  have := flatten_get (rows := List.replicate n zrow) (sz := zrow.length) (by simp) (i := p / zrow.length) (j := p % zrow.length) (row := zrow) (d := zrow[p % zrow.length]) (by simp [hi]) (List.getElem?_eq_getElem hj)
  rw [Nat.mul_comm, Nat.div_add_mod] at this
  rw [this, List.getElem?_eq_getElem hj]
/-- What 'make([]T, n)' makes. -/
theorem Ow.made (w : World) (e : TypeId) (z : Value) (zrow : List D) (n : Nat) (hn : n ≤ maxLen) (hz : 0 < zrow.length) (hzs : z.cells.size = zrow.length) (hzr : ∀ w : World, OwL w zrow z.cells.toList (fun _ => False)) :
    Ow (w.alloc (.cells (madeCells z.cells (n * zrow.length)) e)) (.sl e zrow.length (List.replicate n zrow)) (.slice (some ⟨w.heap.size, 0, none⟩) n n) (fun b => b = w.heap.size) := by
  have hlen : (List.replicate n zrow).length = n := by simp
  have hall : ∀ row ∈ List.replicate n zrow, row.length = zrow.length := by simp
  have h := Ow.of_block (w := w.alloc (.cells (madeCells z.cells (n * zrow.length)) e)) (e := e) (sz := zrow.length) (g := w.heap.size) (c := n) (rows := List.replicate n zrow) (us := (madeCells z.cells (n * zrow.length)).toList) (F := fun _ => False)
    (heap_alloc_new w _) (size_madeCells _ _) (by simp) hn hall
    (by rw [hlen, List.take_of_length_le]; simp [size_madeCells]) ?_ (by simp)
  · rw [hlen] at h
    exact h.same fun b => by simp
  · refine ⟨by rw [flatten_length hall, hlen]; simp [size_madeCells], fun _ _ => False, fun p d u hd hu => ?_, fun p q b _ _ h => h.elim, fun b => by simp⟩
    have hp : p < n * zrow.length := by have := (List.getElem?_eq_some_iff.1 hu).1; simpa [size_madeCells] using this
    rw [replicate_flatten_get zrow n p hz hp] at hd
    rw [Array.getElem?_toList, madeCells_get _ _ _ hp (by omega)] at hu
    obtain ⟨_, G, a, _, c⟩ := hzr (w.alloc (.cells (madeCells z.cells (n * zrow.length)) e))
    rw [hzs] at hu
    have hpl : p % zrow.length < z.cells.toList.length := by simp [hzs, Nat.mod_lt _ hz]
    exact (a _ d u hd (by simpa using hu)).same fun b => ⟨fun h => h.elim, fun h => (c b).2 ⟨_, hpl, h⟩⟩
theorem dt_make (hgd : o.guard = none) (l c : Operand) (t e : TypeId) (ho : o.op = .makeSlice t l c) (ht : P.underlying t = some (.slice e)) (z : Value) (bytes : Nat) (zrow : List D) (hinf : Inf P e z zrow.length bytes) (hzs : z.cells.size = zrow.length) (hz : 0 < zrow.length)
    (hzr : ∀ w : World, OwL w zrow z.cells.toList (fun _ => False)) (n : Nat) (hl : a.eval l = .int .i64 n) (hc : a.eval c = .int .i64 n) (hb : bytes * n ≤ 281474976710656) (hn : n ≤ 9223372036854775807)
    (k : ∀ w', Ow w' (.sl e zrow.length (List.replicate n zrow)) (.slice (some ⟨w.heap.size, 0, none⟩) n n) (fun b => b = w.heap.size) → Below w.heap.size w w' → w'.heap.size = w.heap.size + 1 → wpList P ops Q rest (a.put o.dst (.slice (some ⟨w.heap.size, 0, none⟩) n n)) w') : wpList P ops Q (o :: rest) a w := by
  refine wpList_plain hgd fun K hK => ?_
  obtain ⟨i, hi, hzz, hsize, hby⟩ := hinf.out
  have hb' : (i.bytes : Int) * (n : Int) ≤ 281474976710656 := by
    have h : ((i.bytes * n : Nat) : Int) ≤ 281474976710656 := by rw [hby]; omega
    rwa [Int.natCast_mul] at h
  have hr := run_make (P := P) w t e i z ht hi hzz .i64 .i64 n n (by omega) (Int.le_refl _) hb' (by omega)
  simp only [Int.toNat_natCast, hsize] at hr
  unfold Oper.wp execOp
  simp only [ho, hl, hc, Sem.run_bind, Sem.run_pure, Result.andThen_ok, hr]
  exact hK _ _ (k _ (Ow.made w e z zrow n (by simp [maxLen]; omega) hz hzs hzr) ((Below.refl _ _).alloc (Nat.le_refl _) _) (by simp))

/-- A store into a slice that is owned: the cells from the flat place p on. -/
theorem run_store_ow {ty e : TypeId} {sz g n c : Nat} {rows rows' : List (List D)} {F Fe : Nat → Prop} (h : Ow w (.sl e sz rows) (.slice (some ⟨g, 0, none⟩) n c) F) (v : Value) (ds : List D) (p : Nat)
    (hi : (P.info? ty).map (·.size) = some v.cells.size) (hv : OwL w ds v.cells.toList Fe) (hd : ∀ b, Fe b → ¬ F b) (hp : p + ds.length ≤ rows.length * sz) (hl : rows'.length = rows.length) (hr : ∀ row ∈ rows', row.length = sz)
    (hf : rows'.flatten = rows.flatten.take p ++ ds ++ rows.flatten.drop (p + ds.length)) (h0 : 0 < ds.length) :
    ∃ w' F', (storeVar ty ⟨g, p, none⟩ v).run P w = .ok () w' ∧ Ow w' (.sl e sz rows') (.slice (some ⟨g, 0, none⟩) n c) F' ∧ Kp (fun b => b = g) w w' ∧ w'.heap.size = w.heap.size ∧ (∀ b, F' b → F b ∨ Fe b) ∧ F g ∧ ∀ q, (q < p ∨ p + ds.length ≤ q) → w'.cell? ⟨g, q, none⟩ = w.cell? ⟨g, q, none⟩ := by
  rcases h.sl_inv with ⟨rfl, ⟨A, hA⟩, _⟩ | ⟨g', c', us, cs, F0, hv', hg, hcs, hle, hcm, hrl, htake, hU, hg0, hF⟩
  · have : ([] : List (List D)).length * sz = 0 := by simp
    omega
  · injection hv' with e1 e2 e3
    injection e1 with e1
    injection e1 with e1
    subst e1; subst e2; subst e3
    obtain ⟨i, hi1, hi2⟩ := Option.map_eq_some_iff.1 hi
    have hul : us.length = rows.length * sz := by rw [← htake]; exact take_flat hcs hle
    have hfl := flatten_length hrl
    have hvl : v.cells.toList.length = ds.length := hv.1
    have hst := run_storeCells_at P g p e v.cells.toList 0 cs w hg (by rw [hcs, hvl]; have := Nat.mul_le_mul_right sz hle; omega) (oneCells_of hv.ro)
    simp only [Nat.add_zero] at hst
    have hw : ∀ k, k ≠ g → (w.setRow g (cs.toList.take p ++ v.cells.toList ++ cs.toList.drop (p + v.cells.toList.length)).toArray).heap[k]? = w.heap[k]? := fun k hk => setRow_other w g k _ (fun e => hk e)
    -- the parts that stay
    have hsplit : rows.flatten = rows.flatten.take p ++ ((rows.flatten.drop p).take ds.length ++ rows.flatten.drop (p + ds.length)) := by
      rw [← List.drop_drop, List.take_append_drop, List.take_append_drop]
    rw [hsplit] at hU
    obtain ⟨u1, u23, F1, F23, e1, o1, o23, n1, i1⟩ := hU.unappend
    obtain ⟨u2, u3, F2, F3, e2, o2, o3, n2, i2⟩ := o23.unappend
    have hl1 : u1.length = p := by rw [o1.1, List.length_take]; omega
    have hl2 : u2.length = ds.length := by rw [o2.1, List.length_take, List.length_drop]; omega
    have hin : ∀ b, F1 b ∨ F3 b → F0 b := fun b hb => (i1 b).2 (hb.elim .inl fun h => .inr ((i2 b).2 (.inr h)))
    have hst1 : ∀ b, F0 b → (w.setRow g (cs.toList.take p ++ v.cells.toList ++ cs.toList.drop (p + v.cells.toList.length)).toArray).heap[b]? = w.heap[b]? := fun b hb => hw b fun e => hg0 (e ▸ hb)
    have hO : OwL (w.setRow g (cs.toList.take p ++ v.cells.toList ++ cs.toList.drop (p + v.cells.toList.length)).toArray) rows'.flatten (u1 ++ v.cells.toList ++ u3) (fun b => (F1 b ∨ Fe b) ∨ F3 b) := by
      rw [hf]
      refine OwL.append (OwL.append (o1.stays fun b hb => hst1 b (hin b (.inl hb))) (hv.stays fun b hb => hw b fun e => hd b hb ((hF b).2 (.inl e))) fun b hb he => hd b he ((hF b).2 (.inr (hin b (.inl hb))))) (o3.stays fun b hb => hst1 b (hin b (.inr hb))) ?_
      rintro b (hb | hb) h3
      · exact n1 b hb ((i2 b).2 (.inr h3))
      · exact hd b hb ((hF b).2 (.inr (hin b (.inr h3))))
    have hg' : ¬ ((F1 g ∨ Fe g) ∨ F3 g) := by
      rintro ((hb | hb) | hb)
      · exact hg0 (hin g (.inl hb))
      · exact hd g hb ((hF g).2 (.inl rfl))
      · exact hg0 (hin g (.inr hb))
    have hcl : cs.toList.length = c * sz := by simp [hcs]
    have hcn := Nat.mul_le_mul_right sz hle
    have ht1 : cs.toList.take p = u1 := by
      have : (cs.toList.take (rows.length * sz)).take p = us.take p := by rw [htake]
      rw [List.take_take, Nat.min_eq_left (by omega)] at this
      rw [this, e1]
      simp [← hl1]
    have ht3 : (cs.toList.drop (p + ds.length)).take (rows.length * sz - (p + ds.length)) = u3 := by
      have : (cs.toList.take (rows.length * sz)).drop (p + ds.length) = us.drop (p + ds.length) := by rw [htake]
      rw [List.drop_take] at this
      rw [this, e1, e2, ← List.append_assoc]
      rw [List.drop_append_of_le_length (by rw [List.length_append]; omega)]
      rw [List.drop_of_length_le (by rw [List.length_append]; omega)]
      rfl
    have hB := Ow.of_block (e := e) (sz := sz) (g := g) (c := c) (rows := rows') (us := u1 ++ v.cells.toList ++ u3) (cs := (cs.toList.take p ++ v.cells.toList ++ cs.toList.drop (p + v.cells.toList.length)).toArray) (setRow_heap w g cs _ e _ hg)
      (by simp only [List.size_toArray, List.length_append, List.length_take, List.length_drop, hcl, hvl]; omega)
      (by rw [hl]; exact hle) hcm hr
      (by
        rw [hl, ht1, hvl]
        have hA : (u1 ++ v.cells.toList).length = p + ds.length := by rw [List.length_append, hl1, hvl]
        rw [List.take_append, hA, List.take_of_length_le (by omega)]
        rw [ht3]) hO hg'
    rw [hl] at hB
    refine ⟨_, _, ?_, hB, ⟨rfl, rfl, rfl, by simp, fun k _ hk => hw k hk⟩, by simp, fun b hb => ?_, (hF g).2 (.inl rfl), fun q hq => ?_⟩
    · simp [storeVar, sizeOf, typeInfo, hi1, hi2, hst]
    · rcases hb with rfl | ((hb | hb) | hb)
      · exact .inl ((hF b).2 (.inl rfl))
      · exact .inl ((hF b).2 (.inr (hin b (.inl hb))))
      · exact .inr hb
      · exact .inl ((hF b).2 (.inr (hin b (.inr hb))))
    · have hpc : p + ds.length ≤ cs.toList.length := by omega
      rw [cell_of_row _ g q _ e (0, 0) (setRow_heap w g cs _ e _ hg), cell_of_row w g q cs e (0, 0) hg]
      rw [List.getElem?_toArray, ← Array.getElem?_toList]
      rcases hq with hq | hq
      · rw [List.append_assoc, List.getElem?_append_left (by rw [List.length_take]; omega), List.getElem?_take, if_pos hq]
      · rw [List.getElem?_append_right (by rw [List.length_append, List.length_take, hvl]; omega), List.getElem?_drop, List.length_append, List.length_take, hvl]
        congr 1
        omega
theorem set_flatten {rows : List (List D)} {sz : Nat} (h : ∀ row ∈ rows, row.length = sz) (i : Nat) (hi : i < rows.length) (r' : List D) (hr : r'.length = sz) : (rows.set i r').flatten = rows.flatten.take (i * sz) ++ r' ++ rows.flatten.drop (i * sz + sz) := by
  induction rows generalizing i with
  | nil => simp at hi
  | cons r rs ih =>
    have h0 : r.length = sz := h r (by simp)
    cases i with
    | zero =>
      simp only [List.set_cons_zero, List.flatten_cons, Nat.zero_mul, List.take_zero, List.nil_append, Nat.zero_add]
      rw [List.drop_append_of_le_length (by omega), List.drop_of_length_le (by omega)]
      rfl
    | succ i =>
      simp only [List.set_cons_succ, List.flatten_cons]
      rw [ih (fun row hm => h row (by simp [hm])) i (by simpa using hi)]
      rw [show (i + 1) * sz = r.length + i * sz from by rw [h0, Nat.add_mul]; omega]
      rw [List.take_append, List.take_of_length_le (l := r) (by omega), Nat.add_sub_cancel_left]
      rw [Nat.add_assoc, List.drop_append, List.drop_of_length_le (l := r) (by omega), Nat.add_sub_cancel_left]
      simp [List.append_assoc]
theorem set_rows {rows : List (List D)} {sz : Nat} (h : ∀ row ∈ rows, row.length = sz) (i : Nat) (r' : List D) (hr : r'.length = sz) : ∀ row ∈ rows.set i r', row.length = sz := by
  intro row hm
  rcases List.mem_or_eq_of_mem_set hm with hm | rfl
  · exact h row hm
  · exact hr
theorem Ow.rows_len {e : TypeId} {sz : Nat} {rows : List (List D)} {v : Value} {F : Nat → Prop} (h : Ow w (.sl e sz rows) v F) : ∀ row ∈ rows, row.length = sz := by
  rcases h.sl_inv with ⟨rfl, _⟩ | ⟨g, c, us, cs, F0, _, _, _, _, _, hr, _⟩
  · simp
  · exact hr
/-- 'xs[i] = v', xs owned: a whole element. -/
theorem dt_store (hgd : o.guard = none) (ty : TypeId) (x y : Operand) (ho : o.op = .store ty x y) {e : TypeId} {sz g n c : Nat} {rows : List (List D)} {F Fe : Nat → Prop} (h : Ow w (.sl e sz rows) (.slice (some ⟨g, 0, none⟩) n c) F)
    (i off : Nat) (hoff : off = i * sz) (hin : i < rows.length) (hx : a.eval x = .pointer (some ⟨g, off, none⟩)) (v : Value) (hy : a.eval y = v) (row : List D) (hi : (P.info? ty).map (·.size) = some v.cells.size) (hv : OwL w row v.cells.toList Fe) (hd : ∀ b, Fe b → ¬ F b) (hrl : row.length = sz) (h0 : 0 < sz)
    (k : ∀ w' F', Ow w' (.sl e sz (rows.set i row)) (.slice (some ⟨g, 0, none⟩) n c) F' → Kp (fun b => b = g) w w' → w'.heap.size = w.heap.size → (∀ b, F' b → F b ∨ Fe b) → F g → wpList P ops Q rest (a.put o.dst undef) w') : wpList P ops Q (o :: rest) a w := by
  subst hoff
  have hr := h.rows_len
  obtain ⟨w', F', hrun, h1, h2, h3, h4, h5, h6⟩ := run_store_ow (P := P) (ty := ty) h v row (i * sz) hi hv hd (by rw [hrl]; have := Nat.mul_le_mul_right sz (show i + 1 ≤ rows.length from hin); rw [Nat.add_mul] at this; omega) (by simp) (set_rows hr i row hrl) (by rw [hrl]; exact set_flatten hr i hin row hrl) (by omega)
  refine wpList_plain hgd fun K hK => ?_
  unfold Oper.wp execOp
  simp only [ho, hx, hy, Instr.storeAt, Instr.sureAddr, Sem.run_bind, Sem.run_pure, Result.andThen_ok, hrun]
  exact hK _ _ (k w' F' h1 h2 h3 h4 h5)
/-- 'xs[i].f = v', xs owned: one cell of an element. -/
theorem dt_store1 (hgd : o.guard = none) (ty : TypeId) (x y : Operand) (ho : o.op = .store ty x y) {e : TypeId} {sz g n c : Nat} {rows : List (List D)} {F Fe : Nat → Prop} (h : Ow w (.sl e sz rows) (.slice (some ⟨g, 0, none⟩) n c) F)
    (i j off : Nat) (hoff : off = i * sz + j) (row : List D) (hin : rows[i]? = some row) (hj : j < sz) (hx : a.eval x = .pointer (some ⟨g, off, none⟩)) (v : Value) (hy : a.eval y = v) (hone : v.cells = #[v]) (d : D) (hi : (P.info? ty).map (·.size) = some 1) (hv : Ow w d v Fe) (hd : ∀ b, Fe b → ¬ F b)
    (k : ∀ w' F', Ow w' (.sl e sz (rows.set i (row.set j d))) (.slice (some ⟨g, 0, none⟩) n c) F' → Kp (fun b => b = g) w w' → w'.heap.size = w.heap.size → (∀ b, F' b → F b ∨ Fe b) → F g → (∀ q, q ≠ off → w'.cell? ⟨g, q, none⟩ = w.cell? ⟨g, q, none⟩) → wpList P ops Q rest (a.put o.dst undef) w') : wpList P ops Q (o :: rest) a w := by
  subst hoff
  have hr := h.rows_len
  have hlt := (List.getElem?_eq_some_iff.1 hin).1
  have hrow : row.length = sz := rows_len hr hin
  have hflat : (rows.set i (row.set j d)).flatten = rows.flatten.take (i * sz + j) ++ [d] ++ rows.flatten.drop (i * sz + j + 1) := by
    rw [set_flatten hr i hlt (row.set j d) (by simp [hrow])]
    have hf : rows.flatten = rows.flatten.take (i * sz) ++ row ++ rows.flatten.drop (i * sz + sz) := by
      have := set_flatten hr i hlt row hrow
      obtain ⟨_, hx'⟩ := List.getElem?_eq_some_iff.1 hin
      rw [← hx', List.set_getElem_self] at this
      rw [← hx']
      exact this
    have hl1 : (rows.flatten.take (i * sz)).length = i * sz := by
      rw [List.length_take, flatten_length hr]
      have := Nat.mul_le_mul_right sz (Nat.le_of_lt hlt)
      omega
    generalize hA : rows.flatten.take (i * sz) = A at *
    generalize hB : rows.flatten.drop (i * sz + sz) = B at *
    rw [hf]
    rw [List.append_assoc A row B, List.take_append, List.take_of_length_le (by omega), hl1, Nat.add_sub_cancel_left]
    rw [Nat.add_assoc, List.drop_append, List.drop_of_length_le (by omega), hl1, Nat.add_sub_cancel_left]
    rw [List.take_append_of_le_length (by omega), List.drop_append_of_le_length (by omega)]
    rw [List.set_eq_take_append_cons_drop, if_pos (by omega)]
    simp [List.append_assoc]
  obtain ⟨w', F', hrun, h1, h2, h3, h4, h5, h6⟩ := run_store_ow (P := P) (ty := ty) (rows' := rows.set i (row.set j d)) h v [d] (i * sz + j) (by rw [hone]; exact hi) (by rw [hone]; exact OwL.one hv) hd (by have := Nat.mul_le_mul_right sz (show i + 1 ≤ rows.length from hlt); rw [Nat.add_mul] at this; simp; omega) (by simp) (set_rows hr i _ (by simp [hrow])) (by simpa using hflat) (by simp)
  refine wpList_plain hgd fun K hK => ?_
  unfold Oper.wp execOp
  simp only [ho, hx, hy, Instr.storeAt, Instr.sureAddr, Sem.run_bind, Sem.run_pure, Result.andThen_ok, hrun]
  exact hK _ _ (k w' F' h1 h2 h3 h4 h5 fun q hq => h6 q (by simp; omega))
/-- The same, the element being written field by field. -/
theorem dt_storeF (hgd : o.guard = none) (ty : TypeId) (x y : Operand) (ho : o.op = .store ty x y) {e : TypeId} {sz g n c i : Nat} {rows : List (List D)} {r : List D} {F Fe : Nat → Prop} (h : Ow w (.sl e sz (rows.set i r)) (.slice (some ⟨g, 0, none⟩) n c) F) (hin : i < rows.length)
    (j off : Nat) (hoff : off = i * sz + j) (hj : j < sz) (hx : a.eval x = .pointer (some ⟨g, off, none⟩)) (v : Value) (hy : a.eval y = v) (hone : v.cells = #[v]) (d : D) (hi : (P.info? ty).map (·.size) = some 1) (hv : Ow w d v Fe) (hd : ∀ b, Fe b → ¬ F b)
    (k : ∀ w' F', Ow w' (.sl e sz (rows.set i (r.set j d))) (.slice (some ⟨g, 0, none⟩) n c) F' → Kp (fun b => b = g) w w' → w'.heap.size = w.heap.size → (∀ b, F' b → F b ∨ Fe b) → F g → (∀ q, q ≠ off → w'.cell? ⟨g, q, none⟩ = w.cell? ⟨g, q, none⟩) → wpList P ops Q rest (a.put o.dst undef) w') : wpList P ops Q (o :: rest) a w := by
  refine dt_store1 hgd ty x y ho h i j off hoff r (by rw [List.getElem?_set_self hin]) hj hx v hy hone d hi hv hd fun w' F' h1 h2 h3 h4 h5 h6 => k w' F' ?_ h2 h3 h4 h5 h6
  rwa [List.set_set] at h1
theorem Ow.block_lt {w : World} {e : TypeId} {sz g n c : Nat} {rows : List (List D)} {F : Nat → Prop} (h : Ow w (.sl e sz rows) (.slice (some ⟨g, 0, none⟩) n c) F) (hr : 0 < rows.length) : F g ∧ g < w.heap.size := by
  have hF : F g := by
    rcases h.sl_inv with ⟨h0, _⟩ | ⟨g', c', us', cs', F0', hv, _, _, _, _, _, _, _, _, hF⟩
    · subst h0; simp at hr
    · injection hv with e1; injection e1 with e1; injection e1 with e1; exact (hF g).2 (.inl e1)
  exact ⟨hF, h.lt g hF⟩
/-- A cell of an element that is itself owned (a slice in a struct in a slice): it is owned for itself, and when it alone has changed, the whole has changed there. -/
theorem Ow.focus {e : TypeId} {sz i j n c g : Nat} {rows : List (List D)} {r : List D} {d : D} {F : Nat → Prop} (h : Ow w (.sl e sz (rows.set i r)) (.slice (some ⟨g, 0, none⟩) n c) F) (hin : i < rows.length) (hj : r[j]? = some d) :
    ∃ u Fd, w.cell? ⟨g, i * sz + j, none⟩ = some u ∧ Ow w d u Fd ∧ (∀ b, Fd b → F b) ∧ ¬ Fd g ∧
      ∀ w' d' Fd', Ow w' d' u Fd' → (∀ b, Fd' b → Fd b) → Kp Fd w w' → ∃ F', Ow w' (.sl e sz (rows.set i (r.set j d'))) (.slice (some ⟨g, 0, none⟩) n c) F' ∧ ∀ b, F' b → F b := by
  have hi : (rows.set i r)[i]? = some r := by rw [List.getElem?_set_self hin]
  have hrl := h.rows_len
  have hr : r.length = sz := Go.Dt.rows_len hrl hi
  have hjl : j < sz := by rw [← hr]; exact (List.getElem?_eq_some_iff.1 hj).1
  rcases h.sl_inv with ⟨h0, _⟩ | ⟨g', c', us, cs, F0, hv', hg, hcs, hle, hcm, _, htake, hU, hg0, hF⟩
  · have : (rows.set i r).length = 0 := by rw [h0]; rfl
    rw [List.length_set] at this
    omega
  · injection hv' with e1 e2 e3
    injection e1 with e1
    injection e1 with e1
    subst e1; subst e2; subst e3
    have hfl := flatten_length hrl
    have hul : us.length = (rows.set i r).length * sz := by rw [← htake]; exact take_flat hcs hle
    have hp : i * sz + j < (rows.set i r).length * sz := by
      rw [List.length_set]
      have := Nat.mul_le_mul_right sz (show i + 1 ≤ rows.length from hin)
      rw [Nat.add_mul] at this
      omega
    have hd := flatten_get hrl hi hj
    have hsplit : (rows.set i r).flatten = (rows.set i r).flatten.take (i * sz + j) ++ ([d] ++ (rows.set i r).flatten.drop (i * sz + j + 1)) := by
      rw [List.singleton_append, ← (List.getElem?_eq_some_iff.1 hd).2, ← List.drop_eq_getElem_cons (by omega), List.take_append_drop]
    have hU0 := hU
    rw [hsplit] at hU
    obtain ⟨u1, u23, F1, F23, e1, o1, o23, n1, i1⟩ := hU.unappend
    obtain ⟨u2, u3, F2, F3, e2, o2, o3, n2, i2⟩ := o23.unappend
    obtain ⟨u, hu2, Fd, Fx, hcons, hud, hnil, _, i3⟩ := o2.uncons
    obtain ⟨rfl, hFx⟩ := hnil.unnil
    subst hcons
    have hl1 : u1.length = i * sz + j := by rw [o1.1, List.length_take]; omega
    have hin1 : ∀ b, Fd b → F0 b := fun b hb => (i1 b).2 (.inr ((i2 b).2 (.inl ((i3 b).2 (.inl hb)))))
    have huat : us[i * sz + j]? = some u := by rw [e1, e2, List.getElem?_append_right (by omega)]; simp [hl1]
    refine ⟨u, Fd, ?_, hud, fun b hb => (hF b).2 (.inr (hin1 b hb)), fun hb => hg0 (hin1 _ hb), fun w' d' Fd' h1 h2 h3 => ?_⟩
    · rw [cell_of_row w g _ cs e (0, 0) hg]
      rw [← htake, List.getElem?_take, if_pos hp] at huat
      simpa using huat
    · have st : ∀ b, b < w.heap.size → ¬ Fd b → w'.heap[b]? = w.heap[b]? := h3.block
      have hgs : g < w.heap.size := (Array.getElem?_eq_some_iff.1 hg).1
      have d1 : ∀ b, F1 b → ¬ Fd b := fun b hb hd => n1 b hb ((i2 b).2 (.inl ((i3 b).2 (.inl hd))))
      have d3 : ∀ b, F3 b → ¬ Fd b := fun b hb hd => n2 b ((i3 b).2 (.inl hd)) hb
      have hrl' : ∀ row ∈ rows.set i (r.set j d'), row.length = sz := by
        intro row hm
        have := set_rows hrl i (r.set j d') (by simp [hr]) row
        rw [List.set_set] at this
        exact this hm
      have hflat : (rows.set i (r.set j d')).flatten = (rows.set i r).flatten.take (i * sz + j) ++ ([d'] ++ (rows.set i r).flatten.drop (i * sz + j + 1)) := by
        have hs1 := set_flatten hrl i (by rw [List.length_set]; exact hin) (r.set j d') (by simp [hr])
        rw [List.set_set] at hs1
        have hs0 := set_flatten hrl i (by rw [List.length_set]; exact hin) r hr
        rw [List.set_set] at hs0
        have hA : ((rows.set i r).flatten.take (i * sz)).length = i * sz := by rw [List.length_take]; omega
        generalize hX : (rows.set i r).flatten.take (i * sz) = X at *
        generalize hY : (rows.set i r).flatten.drop (i * sz + sz) = Y at *
        rw [hs1, hs0]
        rw [List.append_assoc X r Y, List.take_append, List.take_of_length_le (by omega), hA, Nat.add_sub_cancel_left]
        rw [Nat.add_assoc, List.drop_append, List.drop_of_length_le (by omega), hA, Nat.add_sub_cancel_left]
        rw [List.take_append_of_le_length (by omega), List.drop_append_of_le_length (by omega)]
        rw [List.set_eq_take_append_cons_drop, if_pos (by omega)]
        simp [List.append_assoc]
      have hO : OwL w' (rows.set i (r.set j d')).flatten us (fun b => F1 b ∨ (Fd' b ∨ F3 b)) := by
        rw [hflat, e1, e2]
        refine OwL.append (o1.stays fun b hb => st b (o1.lt b hb) (d1 b hb)) (OwL.append (OwL.one h1) (o3.stays fun b hb => st b (o3.lt b hb) (d3 b hb)) fun b hb h => d3 b h (h2 b hb)) ?_
        rintro b hb (h | h)
        · exact d1 b hb (h2 b h)
        · exact n1 b hb ((i2 b).2 (.inr h))
      have hlen : (rows.set i (r.set j d')).length = (rows.set i r).length := by simp
      have hB := Ow.of_block (w := w') (e := e) (sz := sz) (g := g) (c := c) (rows := rows.set i (r.set j d')) (us := us) (cs := cs) (by rw [st g hgs (fun hb => hg0 (hin1 g hb))]; exact hg) hcs (by rw [hlen]; exact hle) hcm hrl' (by rw [hlen]; exact htake) hO (by
        rintro (h | h | h)
        · exact hg0 ((i1 g).2 (.inl h))
        · exact hg0 (hin1 g (h2 g h))
        · exact hg0 ((i1 g).2 (.inr ((i2 g).2 (.inr h)))))
      rw [hlen] at hB
      refine ⟨_, hB, fun b hb => ?_⟩
      rcases hb with rfl | h | h | h
      · exact (hF b).2 (.inl rfl)
      · exact (hF b).2 (.inr ((i1 b).2 (.inl h)))
      · exact (hF b).2 (.inr (hin1 b (h2 b h)))
      · exact (hF b).2 (.inr ((i1 b).2 (.inr ((i2 b).2 (.inr h)))))
end
/-- A part of a list that is owned: it is owned for itself, and when it alone has changed, the whole has changed there. -/
theorem OwL.seg {w : World} {a m c : List D} {ua um uc : List Value} {F : Nat → Prop} (h : OwL w (a ++ (m ++ c)) (ua ++ (um ++ uc)) F) (ha : ua.length = a.length) (hm : um.length = m.length) :
    ∃ Fm, OwL w m um Fm ∧ (∀ b, Fm b → F b) ∧ ∀ w' m' Fm', OwL w' m' um Fm' → (∀ b, Fm' b → Fm b) → Kp Fm w w' → ∃ F', OwL w' (a ++ (m' ++ c)) (ua ++ (um ++ uc)) F' ∧ ∀ b, F' b → F b := by
  obtain ⟨u1, u2, F1, F2, e, h1, h2, n1, g1⟩ := h.unappend
  obtain ⟨e1, e2⟩ := List.append_inj e (by rw [ha, h1.1])
  subst e1; subst e2
  obtain ⟨u3, u4, F3, F4, e, h3, h4, n3, g3⟩ := h2.unappend
  obtain ⟨e1, e2⟩ := List.append_inj e (by rw [hm, h3.1])
  subst e1; subst e2
  refine ⟨F3, h3, fun b hb => (g1 b).2 (.inr ((g3 b).2 (.inl hb))), fun w' m' Fm' hO hF hk => ?_⟩
  have k1 : OwL w' a ua F1 := h1.kp hk fun b hb hc => n1 b hb ((g3 b).2 (.inl hc))
  have k4 : OwL w' c uc F4 := h4.kp hk fun b hb hc => n3 b hc hb
  refine ⟨_, k1.append (hO.append k4 fun b hb hc => n3 b (hF b hb) hc) fun b hb hc => hc.elim (fun h => n1 b hb ((g3 b).2 (.inl (hF b h)))) (fun h => n1 b hb ((g3 b).2 (.inr h))), fun b hb => (g1 b).2 ?_⟩
  rcases hb with h | h | h
  · exact .inl h
  · exact .inr ((g3 b).2 (.inl (hF b h)))
  · exact .inr ((g3 b).2 (.inr h))
theorem OwL.seg1 {w : World} {a c : List D} {d : D} {u : Value} {ua uc : List Value} {F : Nat → Prop} (h : OwL w (a ++ ([d] ++ c)) (ua ++ ([u] ++ uc)) F) (ha : ua.length = a.length) :
    ∃ Fm, Ow w d u Fm ∧ (∀ b, Fm b → F b) ∧ ∀ w' d' Fm', Ow w' d' u Fm' → (∀ b, Fm' b → Fm b) → Kp Fm w w' → ∃ F', OwL w' (a ++ ([d'] ++ c)) (ua ++ ([u] ++ uc)) F' ∧ ∀ b, F' b → F b := by
  obtain ⟨Fm, h1, h2, h3⟩ := OwL.seg h ha rfl
  obtain ⟨u', us', F1, F2, e, k1, k2, k3, k4⟩ := h1.uncons
  injection e with e1 e2
  subst e1; subst e2
  have hn := k2.unnil.2
  refine ⟨Fm, k1.same fun b => by rw [k4 b]; simp [hn b], h2, fun w' d' Fm' hO hF hk => h3 w' [d'] Fm' (OwL.one hO) hF hk⟩
theorem kcell {F : Nat → Prop} {W w1 : World} (hk : Kp F W w1) : (∀ b o, b < W.heap.size → ¬ F b → w1.cell? ⟨b, o, none⟩ = W.cell? ⟨b, o, none⟩) ∧ (∀ b o, b < W.heap.size → ¬ F b → w1.frozen? ⟨b, o, none⟩ = W.frozen? ⟨b, o, none⟩) :=
  ⟨fun b o h hf => World.cell?_of_block (w := W) (hk.block b h hf), fun b o h hf => World.frozen?_of_block (w := W) (hk.block b h hf)⟩
theorem OwL.alloc {w : World} {ds : List D} {us : List Value} {F : Nat → Prop} (h : OwL w ds us F) (o : Obj) : OwL (w.alloc o) ds us F := h.stays fun b hb => Below.heap_alloc w o b (h.lt b hb)
theorem Kp.alloc1 (F : Nat → Prop) (w : World) (o : Obj) : Kp F w (w.alloc o) := Kp.of_below (Below.alloc (Below.refl _ _) (Nat.le_refl _) _)
end Go.Dt

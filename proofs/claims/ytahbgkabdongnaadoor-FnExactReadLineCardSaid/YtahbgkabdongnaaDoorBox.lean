/- Blocks of one's own, known whole: what their cells hold, behind a store, behind what others do. Append in a region that draws its order; append of all of a slice of numbers. -/
import Derived.Test.YtahbgkabdongnaaDoorInts
import Derived.Test.YtahbgkabdongnaaDoorQ
import Derived.OneCell
import Derived.WalkSpells
namespace Go.Dt
open Go.ChangeShapes Go.WideShapes Go.ChangeAt Go.RowKit Go.Deep
set_option linter.unusedVariables false
set_option linter.unusedSimpArgs false
/-- Block b is of these cells, and may be written. -/
def Bx (w : World) (b : Nat) (cs : Array Value) (t : TypeId) : Prop := w.heap[b]? = some (.cells cs t (0, 0))
section
variable {w w' : World} {b : Nat} {cs : Array Value} {t : TypeId}
theorem Bx.lt (h : Bx w b cs t) : b < w.heap.size := lt_of_block h
theorem Bx.cell (h : Bx w b cs t) (j : Nat) {u : Value} (hu : cs[j]? = some u) : w.cell? ⟨b, j, none⟩ = some u := by rw [cell_of_row _ _ _ _ _ _ h]; exact hu
theorem Bx.free (h : Bx w b cs t) (j : Nat) : w.frozen? ⟨b, j, none⟩ = false := by
  unfold Bx at h
  simp only [World.frozen?, h]
  simp
theorem Bx.new (w : World) (cs : Array Value) (t : TypeId) : Bx (w.alloc (.cells cs t)) w.heap.size cs t := _root_.Go.heap_alloc_new w _
theorem Bx.keep (h : Bx w b cs t) (hw : w'.heap[b]? = w.heap[b]?) : Bx w' b cs t := hw.trans h
theorem Bx.kp {F : Nat → Prop} (h : Bx w b cs t) (hk : Kp F w w') (hF : ¬ F b) : Bx w' b cs t := h.keep (hk.block b h.lt hF)
theorem Bx.below {B : Nat} (h : Bx w b cs t) (hb : Below B w w') (hlt : b < B) : Bx w' b cs t := h.keep (hb.block b hlt)
theorem Bx.alloc (h : Bx w b cs t) (o : Obj) : Bx (w.alloc o) b cs t := h.keep (Below.heap_alloc w o b h.lt)
theorem Bx.far (h : Bx w b cs t) {p : Addr} (hp : b ≠ p.block) (u : Value) : Bx (w.setCell p u) b cs t := h.keep (Below.heap_setCell w p u b hp)
theorem Bx.put (h : Bx w b cs t) (j : Nat) (u : Value) : Bx (w.setCell ⟨b, j, none⟩ u) b (cs.setIfInBounds j u) t := by
  have hlt := h.lt
  have h' : w.heap[b] = .cells cs t (0, 0) := by have := h; unfold Bx at this; rw [Array.getElem?_eq_getElem hlt] at this; injection this
  show (w.heap.modify b _)[b]? = _
  rw [Array.getElem?_eq_getElem (by simpa using hlt), Array.getElem_modify_self, h']
  rfl
theorem Bx.is {cs' : Array Value} (h : Bx w b cs t) (e : cs = cs') : Bx w b cs' t := e ▸ h
theorem Bx.drew (h : Bx w b cs t) : Bx w.drew b cs t := h
theorem Ow.slice {e : TypeId} {sz : Nat} {rows : List (List D)} {v : Value} {F : Nat → Prop} (h : Ow w (.sl e sz rows) v F) : ∃ A n c, v = .slice A n c := by
  obtain ⟨A, c, h, _⟩ := h.shape
  exact ⟨A, _, c, h⟩
theorem Bx.new2 (w : World) (o : Obj) (cs : Array Value) (t : TypeId) : Bx ((w.alloc o).alloc (.cells cs t)) (w.heap.size + 1) cs t := by
  have := Bx.new (w.alloc o) cs t
  simpa using this
theorem kp_setCell (w : World) (b j : Nat) (u : Value) : Kp (fun x => x = b) w (w.setCell ⟨b, j, none⟩ u) :=
  ⟨rfl, rfl, rfl, by simp [World.setCell], fun k _ hk => Below.heap_setCell w ⟨b, j, none⟩ u k hk⟩
end
section
variable {P : Program} {ops : Array Oper} {o : Oper} {a : Act} {K : Act → World → Prop} {Q : Exit → Act → World → Prop} {E : Prop} {w : World}
/-- 'append(v, x)' of one element, in a region that draws its order. -/
theorem step_append1 (hgd : o.guard = none) (s x : Operand) (t e : TypeId) (ho : o.op = .call { callee := .builtin .append, args := #[s, x], argTypes := #[t, t] })
    (ht : P.underlying t = some (.slice e)) (z : Value) (sz bytes : Nat) (hinf : Inf P e z sz bytes) (hzs : z.cells.size = sz) (hsz : 0 < sz) (hb0 : 0 < bytes)
    {v : Value} {rows : List (List D)} {F : Nat → Prop} (hs : a.eval s = v) (h : Ow w (.sl e sz rows) v F)
    (cs : Array Value) (hx : a.eval x = .slice (some ⟨w.heap.size, 0, none⟩) 1 1) (row : List D) (Fn : Nat → Prop) (hnr : row.length = sz)
    (hN : OwL w row cs.toList Fn) (hd : ∀ b, Fn b → ¬ F b) (hbytes : (rows.length + 1) * bytes ≤ 140737488355328)
    (k : ∀ v' w' F', Ow w' (.sl e sz (rows ++ [row])) v' F' → Kp F w w' → (∀ b, F' b → F b ∨ Fn b ∨ w.heap.size ≤ b) → K (a.put o.dst v') w') :
    if Region.wanted o (yielded ops a.tmps) = true then Oper.wp P o a (w.alloc (.cells cs e)) K Q else E := by
  rw [if_pos (by simp [Region.wanted, hgd])]
  have hk : Below w.heap.size w (w.alloc (.cells cs e)) := (Below.refl _ _).alloc (Nat.le_refl _) _
  obtain ⟨i, hi, hz, hsize, hby⟩ := hinf.out
  obtain ⟨v', w', F', hr, h2, h3, h4⟩ := run_append_ow (P := P) t o.type e i z sz bytes ht hi hz hsize hby hzs hsz (h.keep hk) ⟨w.heap.size, 0, none⟩ 1 1 cs.toList [row] Fn rfl (by simp [hnr]) (fun j u hu => by
    rw [add_lit, Nat.zero_add]
    have : (w.alloc (.cells cs e)).heap[w.heap.size]? = some (.cells cs e) := _root_.Go.heap_alloc_new w _
    rw [cell_of_row _ _ _ _ _ _ this]
    simpa using hu) (by simpa using hN.keep hk) hd (oneCells_of hN.ro) hbytes hb0
  unfold Oper.wp execOp
  simp only [ho, resolve, invoke, builtin, Sem.run_bind, Sem.run_pure, Result.andThen_ok, List.map_toArray, List.map_cons, List.map_nil, hs, hx, hr]
  exact k v' w' F' h2 (Kp.trans (Kp.of_below (F := F) hk) h3 (fun _ h => h) (fun _ _ h => h)) fun b hb => by
    rcases h4 b hb with h | h | h
    · exact .inl h
    · exact .inr (.inl h)
    · exact .inr (.inr (by rw [h]; simp))
/-- A call of a function by its contract, in a region that draws its order. -/
theorem step_enter {f : FuncId} {xs : List Operand} {ts : Array TypeId} (hgd : o.guard = none) (ho : o.op = .call { callee := .value (.func f), args := xs.toArray, argTypes := ts }) (hcf : ∀ (args : Array Value) (w : World), (callFunc f args).run P w = .ok (.enter f args) w)
    (args : List Value) (hx : xs.map a.eval = args) {R : Ending → World → Prop} (hc : Calls P f args.toArray w R) (k : ∀ e w', R e w' → ∃ v, e = .returned v ∧ K (a.put o.dst v) w') :
    if Region.wanted o (yielded ops a.tmps) = true then Oper.wp P o a w K Q else E := by
  rw [if_pos (by simp [Region.wanted, hgd])]
  have hr : (execOp a.eval o).run P w = .ok (.enter f args.toArray) w := by
    unfold execOp
    simp only [ho, resolve, List.map_toArray, hx, Act.eval, Deferred.ofValue, Sem.run_bind, Sem.run_pure, Result.andThen_ok, invoke]
    simp [hcf]
  unfold Oper.wp
  rw [hr]
  refine hc.mono fun e w' h => ?_
  obtain ⟨v, rfl, h2⟩ := k e w' h
  exact h2
end
end Go.Dt
namespace Go.Proofs.YtahbgkabdongnaaDoor
open Go.ChangeShapes Go.WideShapes Go.ChangeAt Go.RowKit Go.Dt
set_option linter.unusedVariables false
set_option linter.unusedSimpArgs false
theorem ints_plain (w : World) (l : List Int) : OwL w (l.map fun n => [D.int .i64 n]).flatten (l.map (Value.int .i64)) (fun _ => False) := by
  induction l with
  | nil => exact OwL.nil
  | cons n l ih => exact OwL.consP (Ow.I _ _) ih
theorem ints_news {w : World} {B : Nat} {l : List Int} {b off n c : Nat} (hr : Ro w (Lo B) (ints l) (.slice (some ⟨b, off, none⟩) n c)) (j : Nat) (u : Value) (hj : (l.map (Value.int .i64))[j]? = some u) : w.cell? ((⟨b, off, none⟩ : Addr).add j) = some u := by
  rw [List.getElem?_map] at hj
  obtain ⟨x, hx, rfl⟩ := Option.map_eq_some_iff.1 hj
  obtain ⟨b', off', e, _, h⟩ := ints_at hr (Below.refl _ _) (Nat.le_refl B) hx
  injection e with e; injection e with e1 e2
  subst e1; subst e2
  rw [add_lit]
  exact h
/-- A slice that reads as no numbers, or lies somewhere. -/
theorem ints_nil_or {w : World} {B : Nat} {l : List Int} {A : Option Addr} {n c : Nat} (hr : Ro w (Lo B) (ints l) (.slice A n c)) : l = [] ∨ ∃ b off, A = some ⟨b, off, none⟩ := by
  cases l with
  | nil => exact .inl rfl
  | cons x l =>
    obtain ⟨b', off', e, _, h⟩ := ints_at hr (Below.refl _ _) (Nat.le_refl B) (k := 0) (x := x) rfl
    exact .inr ⟨b', off', e⟩
theorem ints_block {w : World} {B : Nat} {l : List Int} {b off n c : Nat} (hr : Ro w (Lo B) (ints l) (.slice (some ⟨b, off, none⟩) n c)) (h0 : l ≠ []) : b < B := by
  cases l with
  | nil => exact absurd rfl h0
  | cons x l =>
    obtain ⟨b', off', e, hlt, h⟩ := ints_at hr (Below.refl _ _) (Nat.le_refl B) (k := 0) (x := x) rfl
    injection e with e; injection e with e1 e2
    subst e1
    exact hlt
theorem ints_own_none (w : World) (A : Option Addr) : Ow w (ints []) (.slice A 0 0) (fun _ => False) := .emp _ _ _ _ (by simp)
end Go.Proofs.YtahbgkabdongnaaDoor

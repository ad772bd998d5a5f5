/- A message that is posted: where a number is, the posts of the program and of the reference, where nothing is replied to. -/
import Derived.Test.YtafihplbchofoaaClone
import Derived.Deep.LoopGhost
import Derived.StillTailTactics
namespace Go.Proofs.Ytafihplbchofoaa
open Go.ChangeShapes Go.WideShapes Go.ChangeAt Go.RowKit Go.Dt
set_option linter.unusedVariables false
set_option linter.unusedSimpArgs false
set_option maxHeartbeats 400000 in
theorem IndexFunc_Message {α : Type} (f : FuncId) (hcf : ∀ (args : Array Value) (w : World), (callFunc f args).run Try.prog w = .ok (.enter f args) w) (caps : Array Value) (A : Option Addr) (c : Nat) (l : List α) (toD : α → List D) (p : α → Bool) (w : World)
    (hr : Ro w (Lo w.heap.size) (.sl 99 8 (l.map toD)) (.slice A l.length c)) (hm : c ≤ maxLen) (hlc : l.length ≤ c)
    (hf : ∀ (k : Nat) (x : α) (us : List Value) (w' : World), l[k]? = some x → RoL w (Lo w.heap.size) (toD x) us → Below w.heap.size w w' → Calls Try.prog f (#[.agg us.toArray] ++ caps) w' fun e w2 => e = .returned (.bool (p x)) ∧ Below w'.heap.size w' w2) :
    Calls Try.prog 140 #[.slice A l.length c, .func (.func f) #[] caps] w fun e w' => e = .returned (.int .i64 (idx p l)) ∧ Below w.heap.size w w' := by
  unfold maxLen at hm
  have hlen : l.length ≤ 9223372036854775807 := by omega
  generalize hn : l.length = n at *
  have HN := Lib.hid hn
  clear hn
  go_enter Try.func140, Try.ntmps140
  go_wp2
  go_loopw [5, 8] (fun i k wr => ∃ j : Nat, j ≤ n ∧ k = .int .i64 j ∧ (∀ (q : Nat) (y : α), q < j → l[q]? = some y → p y = false) ∧ Below w.heap.size w wr) (fun _ k _ => n - (intOf k).toNat)
  case atStart => exact ⟨0, by omega, rfl, fun q _ h => by omega, Below.refl _ _⟩
  case round =>
    obtain ⟨j, hj, rfl, hq, hb⟩ := hrel
    by_cases hlt : j < n
    · obtain ⟨row, hrow⟩ : ∃ row, l[j]? = some row := ⟨_, List.getElem?_eq_getElem (by rw [HN.out]; exact hlt)⟩
      obtain ⟨b, off, us, rfl, hbl, hl5, hru, hc⟩ := Ro.later hr hb (Nat.le_refl _) (map_at hrow)
      obtain ⟨u0, u1, u2, u3, u4, u5, u6, u7, rfl⟩ := list8 hl5
      have c0 : wr.cell? ⟨b, off + j * 8, none⟩ = some (u0) := hc 0 _ rfl; have c1 : wr.cell? ⟨b, off + j * 8 + 1, none⟩ = some (u1) := hc 1 _ rfl; have c2 : wr.cell? ⟨b, off + j * 8 + 2, none⟩ = some (u2) := hc 2 _ rfl; have c3 : wr.cell? ⟨b, off + j * 8 + 3, none⟩ = some (u3) := hc 3 _ rfl; have c4 : wr.cell? ⟨b, off + j * 8 + 4, none⟩ = some (u4) := hc 4 _ rfl; have c5 : wr.cell? ⟨b, off + j * 8 + 5, none⟩ = some (u5) := hc 5 _ rfl; have c6 : wr.cell? ⟨b, off + j * 8 + 6, none⟩ = some (u6) := hc 6 _ rfl; have c7 : wr.cell? ⟨b, off + j * 8 + 7, none⟩ = some (u7) := hc 7 _ rfl
      have HF := Lib.hid (hf j row _ wr hrow hru hb)
      have HQ := Lib.hid hq
      have HR := Lib.hid hrow
      clear hc hq hf hrow hru hr hl5
      go_wp2_with fail
      refine (HF.out).mono ?_
      rintro e w1 ⟨rfl, hb1⟩
      cases hp : p row
      · have HP := Lib.hid hp
        clear hp
        go_wp2
        go_roundw
        case rel => exact ⟨j + 1, by omega, by go_num, fun q y h hy => (by
          rcases Nat.lt_or_ge q j with h' | h'
          · exact HQ.out q y h' hy
          · obtain rfl : q = j := by omega
            rw [HR.out] at hy
            injection hy with hy
            rw [← hy]; exact HP.out), below_step hb hb1 hb.size⟩
        case measure => simp [intOf]; omega
      · have HP := Lib.hid (idx_found HR.out hp HQ.out)
        clear hp
        go_wp2
        go_ret
        exact ⟨by rw [HP.out]; rfl, below_step hb hb1 hb.size⟩
    · have HP := Lib.hid (idx_none (p := p) (l := l) fun q y h hy => hq q y (by have := HN.out; omega) hy)
      clear hq
      go_wp2
      go_ret
      exact ⟨by rw [HP.out]; rfl, hb⟩
def numAt (l : List Message) (n : Int) : Int := idx (fun m => m.xNumber == n) l
set_option maxRecDepth 100000 in
theorem impl_at_1 (m : Message) (n : Int) (p : Nat) (us : List Value) (w : World) (hr : RoL w (Lo w.heap.size) (Message.d true m) us) (hp : w.cell? ⟨p, 0, none⟩ = some (.int .i64 n)) :
    Calls Try.prog 141 (#[.agg us.toArray] ++ #[.pointer (some ⟨p, 0, none⟩)]) w fun e w' => e = .returned (.bool (m.xNumber == n)) ∧ Below w.heap.size w w' := by
  obtain ⟨A, c, rfl, -⟩ := Message.cells hr
  have hlt := World.block_lt_of_cell? w _ hp
  have HO := Lib.hid (show (m.xNumber == n) = (m.xNumber == n) from rfl)
  clear hr
  show Calls _ _ #[.agg _, .pointer _] _ _
  go_enter Try.func141, Try.ntmps141
  go_wp2
  go_ret
  exact ⟨rfl, (by (repeat (first | with_reducible assumption | with_reducible exact Below.refl _ _ | with_reducible refine Below.setCell ?_ ?_ _ | with_reducible refine Below.alloc ?_ ?_ _ | with_reducible refine Below.drew ?_ | with_reducible refine below_drewN ?_ _ | omega | (simp; done) | (simp; omega))); all_goals first | omega | (simp; done) | (simp; omega))⟩
set_option maxRecDepth 100000 in
theorem impl_at (l : List Message) (n : Int) (b0 o0 : Nat) (A : Option Addr) (c : Nat) (W : World) (k1 : W.cell? ⟨b0, o0 + 1, none⟩ = some (.slice A l.length c))
    (hr : Ro W (Lo W.heap.size) (Message.s true l) (.slice A l.length c)) (hm : c ≤ maxLen) (hlc : l.length ≤ c) :
    Calls Try.prog 105 #[.pointer (some ⟨b0, o0, none⟩), .int .i64 n] W fun e w' => e = .returned (.int .i64 (numAt l n)) ∧ Below W.heap.size W w' := by
  have hbl0 := World.block_lt_of_cell? W _ k1
  have hb1 : Below W.heap.size W (W.alloc (.cells #[.int .i64 n] 2)) := (Below.refl _ _).alloc (Nat.le_refl _) _
  have HX := IndexFunc_Message 141 (fun _ _ => by rfl) #[.pointer (some ⟨W.heap.size, 0, none⟩)] A c l (Message.d true) (fun m => m.xNumber == n) (W.alloc (.cells #[.int .i64 n] 2)) (ro_to hr hb1) hm hlc (fun k x us w' _ h hb => impl_at_1 x n W.heap.size us w' (rol_to h hb) ((hb.cell (p := ⟨W.heap.size, 0, none⟩) (by simp)).trans ((Bx.new W #[.int .i64 n] 2).cell 0 rfl)))
  have HN := Lib.hid (show numAt l n = idx (fun m => m.xNumber == n) l from rfl)
  generalize idx (fun m => m.xNumber == n) l = i at *
  clear hr
  go_enter Try.func105, Try.ntmps105
  go_wp2_with fail
  refine HX.mono ?_
  rintro e w1 ⟨rfl, hb⟩
  go_wp2
  go_ret
  exact ⟨by rw [HN.out]; rfl, hb1.trans (hb.mono (by simp))⟩
theorem idx_cases {α : Type} (p : α → Bool) (l : List α) : (idx p l = -1 ∧ ∀ x ∈ l, p x = false) ∨ ∃ (j : Nat) (x : α), idx p l = j ∧ l[j]? = some x ∧ p x = true := by
  unfold idx
  cases h : l.findIdx? p with
  | none => exact .inl ⟨rfl, fun x hx => by rw [List.findIdx?_eq_none_iff] at h; exact h x hx⟩
  | some i =>
    rw [List.findIdx?_eq_some_iff_getElem] at h
    obtain ⟨h1, h2, _⟩ := h
    exact .inr ⟨i, l[i], rfl, List.getElem?_eq_getElem h1, h2⟩
set_option maxHeartbeats 400000 in
set_option maxRecDepth 100000 in
theorem spec_l03Find (l : List Message) (n : Int) (b0 o0 : Nat) (A : Option Addr) (c : Nat) (W : World) (k1 : W.cell? ⟨b0, o0 + 1, none⟩ = some (.slice A l.length c))
    (hr : Ro W (Lo W.heap.size) (Message.s true l) (.slice A l.length c)) (hm : c ≤ maxLen) (hlc : l.length ≤ c) :
    Calls Try.prog 97 #[.pointer (some ⟨b0, o0, none⟩), .int .i64 n] W fun e w' => e = .returned (.int .i64 (numAt l n)) ∧ Below W.heap.size W w' := by
  have hlen : l.length ≤ 9223372036854775807 := by simp only [maxLen] at hm; omega
  clear hm hlc
  generalize hn : l.length = k at *
  have HN := Lib.hid hn
  clear hn
  go_enter Try.func97, Try.ntmps97
  go_wp2
  go_loopw [11] (fun i wr => ∃ j : Nat, j ≤ k ∧ i = .int .i64 j ∧ Hid (∀ (q : Nat) (y : Message), q < j → l[q]? = some y → (y.xNumber == n) = false) ∧ wr = W) (fun i _ => k - (intOf i).toNat)
  case atStart => exact ⟨0, by omega, rfl, Lib.hid (fun q _ h => by omega), rfl⟩
  case round =>
    obtain ⟨j, hj, rfl, HQ, rfl⟩ := hrel
    by_cases hlt : j < k
    · obtain ⟨m, hmj⟩ := get_lt (l := l) (k := j) (by rw [HN.out]; exact hlt)
      obtain ⟨b, off, A7, cc7, rfl, hbl, hru, hcl⟩ := msg_at hr hmj
      have d0 : wr.cell? ⟨b, off + j * 8, none⟩ = some (.int .i64 m.xNumber) := hcl wr (Below.refl _ _) 0 _ rfl
      have hlt' : (j : Int) < (k : Int) := by omega
      cases hp : (m.xNumber == n)
      · have HS := Lib.hid (show ∀ (q : Nat) (y : Message), q < j + 1 → l[q]? = some y → (y.xNumber == n) = false from fun q y h hy => by
          rcases Nat.lt_or_ge q j with h' | h'
          · exact HQ.out q y h' hy
          · obtain rfl : q = j := by omega
            rw [hmj] at hy; injection hy with hy; rw [← hy]; exact hp)
        clear hr hcl hru hmj
        go_wp2
        go_roundw
        case rel => exact ⟨j + 1, by omega, by go_num, HS, by first | rfl | trivial⟩
        case measure => simp [intOf]; omega
      · have HS := Lib.hid (show numAt l n = j from idx_found hmj hp HQ.out)
        clear hr hcl hru hmj
        go_wp2
        go_ret
        exact ⟨by rw [HS.out]; rfl, Below.refl _ _⟩
    · have HS := Lib.hid (show numAt l n = -1 from idx_none fun q y h hy => HQ.out q y (by have := HN.out; omega) hy)
      clear hr
      go_wp2
      go_ret
      exact ⟨by rw [HS.out]; rfl, Below.refl _ _⟩
end Go.Proofs.Ytafihplbchofoaa

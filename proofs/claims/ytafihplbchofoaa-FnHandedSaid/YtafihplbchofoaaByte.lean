/- Slices of bytes, and the numbers that an input chooses. -/
import Derived.Test.YtafihplbchofoaaOpen
import Derived.Test.YtafihplbchofoaaList
namespace Go.Proofs.Ytafihplbchofoaa
open Go.ChangeShapes Go.WideShapes Go.ChangeAt Go.RowKit Go.Dt
set_option linter.unusedVariables false
set_option linter.unusedSimpArgs false
def bytes (l : List Int) : D := .sl 5 1 (l.map fun n => [.int .u8 n])
theorem open_bytes {w : World} {Pb : Nat → Prop} {A : Option Addr} {n c : Nat} {e : List D} (t : IsL [.sl 5 1 [.int .u8]] e) (x : RoL w Pb e [.slice A n c]) :
    ∃ l : List Int, n = l.length ∧ Ro w Pb (bytes l) (.slice A l.length c) ∧ (∀ n ∈ l, (Lit.int .u8 n).wf = true) ∧ l.length ≤ c ∧ c ≤ maxLen := by
  obtain ⟨d, ds, rfl, i, t⟩ := t.uncons
  obtain rfl := t.unnil
  obtain ⟨l, rfl, wf⟩ := Is.sl_inv (fun n => [D.int .u8 n]) (fun n => (Lit.int .u8 n).wf = true) (fun ds h => by
    obtain ⟨d, ds, rfl, i, h⟩ := h.uncons
    obtain rfl := h.unnil
    obtain ⟨n, rfl, wf⟩ := i.int_inv
    exact ⟨n, rfl, wf⟩) i
  obtain ⟨u, us, hu, hr, _⟩ := x.uncons
  injection hu with hu _
  subst hu
  obtain ⟨A', c', hv, hl, hm⟩ := hr.sl_inv
  injection hv with e1 e2 e3
  subst e1; subst e2; subst e3
  simp only [List.length_map] at hl hr ⊢
  exact ⟨l, rfl, hr, wf, hl, hm⟩
theorem bytes_at {w w2 : World} {B B' : Nat} {l : List Int} {A : Option Addr} {n c k : Nat} {x : Int} (h : Ro w (Lo B) (bytes l) (.slice A n c)) (hb : Below B' w w2) (hB : B ≤ B') (hk : l[k]? = some x) :
    ∃ (b off : Nat), A = some ⟨b, off, none⟩ ∧ b < B ∧ w2.cell? ⟨b, off + k, none⟩ = some (.int .u8 x) := by
  obtain ⟨b, off, us, rfl, hlt, hl, hr, hc⟩ := Ro.later h hb hB (map_at (f := fun n => [.int .u8 n]) hk)
  obtain ⟨u, us, rfl, h1, h2⟩ := hr.uncons
  obtain rfl := h2.unnil
  obtain rfl := h1.int_inv
  refine ⟨b, off, rfl, hlt, ?_⟩
  have := hc 0 _ rfl
  rwa [Nat.mul_one] at this
def long8 (a b : List Int) : Bool := decide (48 < (a.length : Int)) || decide (48 < (b.length : Int))
def at8 (l : List Int) (k n : Int) : Int := if (l.length : Int) ≤ k then 0 else l.getD k.toNat 0 % n
theorem at8_no {l : List Int} {k n : Int} (h : (l.length : Int) ≤ k) : at8 l k n = 0 := if_pos h
theorem at8_yes {l : List Int} {k : Nat} {x n : Int} (h : l[k]? = some x) : at8 l k n = x % n := by
  have := (List.getElem?_eq_some_iff.1 h).1
  unfold at8
  rw [if_neg (by omega)]
  simp [List.getD, h]
theorem at8_nn (l : List Int) (k : Int) {n : Int} (hn : 0 < n) : 0 ≤ at8 l k n := by
  unfold at8
  split
  · omega
  · exact Int.emod_nonneg _ (by omega)
theorem at8_lt (l : List Int) (k : Int) {n : Int} (hn : 0 < n) : at8 l k n < n := by
  unfold at8
  split
  · omega
  · exact Int.emod_lt_of_pos _ hn
set_option maxRecDepth 100000 in
theorem laws_r8Long (l m : List Int) (A A' : Option Addr) (c c' : Nat) (W : World) (hl : l.length ≤ 9223372036854775807) (hm : m.length ≤ 9223372036854775807) :
    Calls Try.prog 8 #[.slice A l.length c, .slice A' m.length c'] W fun e w' => e = .returned (.bool (long8 l m)) ∧ w' = W := by
  have HO := Lib.hid (show long8 l m = (decide (48 < (l.length : Int)) || decide (48 < (m.length : Int))) from rfl)
  generalize l.length = n at *
  generalize m.length = k at *
  by_cases h1 : 48 < (n : Int) <;> by_cases h2 : 48 < (k : Int)
  all_goals
    first | (have g1 : decide (48 < (n : Int)) = false := decide_eq_false h1) | (have g1 : decide (48 < (n : Int)) = true := decide_eq_true h1)
    first | (have g2 : decide (48 < (k : Int)) = false := decide_eq_false h2) | (have g2 : decide (48 < (k : Int)) = true := decide_eq_true h2)
    rw [g1, g2] at HO
    clear g1 g2
    go_enter Try.func8, Try.ntmps8
    go_wp2
    go_ret
    exact ⟨by rw [HO.out]; rfl, rfl⟩
set_option maxRecDepth 100000 in
theorem laws_r8At (l : List Int) (k : Nat) (n : Int) (A : Option Addr) (c : Nat) (W : World) (hr : Ro W (Lo W.heap.size) (bytes l) (.slice A l.length c)) (wf : ∀ n ∈ l, (Lit.int .u8 n).wf = true) (hl : l.length ≤ 9223372036854775807) (hk : k ≤ 1000000) (hn : 1 < n) (hn2 : n ≤ 1000000) :
    Calls Try.prog 11 #[.slice A l.length c, .int .i64 k, .int .i64 n] W fun e w' => e = .returned (.int .i64 (at8 l k n)) ∧ w' = W := by
  by_cases hlt : k < l.length
  · obtain ⟨x, hx⟩ := get_lt hlt
    obtain ⟨b, off, rfl, hbl, c0⟩ := bytes_at hr (Below.refl _ _) (Nat.le_refl _) hx
    have hw := wf x (List.mem_of_getElem? hx)
    have HX := Lib.hid (at8_yes (n := n) hx)
    have h0 : 0 ≤ x ∧ x < 256 := by simp [Lit.wf, IntKind.min, IntKind.max, IntKind.bits, IntKind.signed] at hw; omega
    have hlt' : (k : Int) < (l.length : Int) := by omega
    generalize l.length = q at *
    clear hr hx hw
    go_enter Try.func11, Try.ntmps11
    go_wp2
    go_ret
    exact ⟨by rw [HX.out]; rfl, rfl⟩
  · have HX := Lib.hid (at8_no (l := l) (k := k) (n := n) (by omega))
    have hlt' : (l.length : Int) ≤ (k : Int) := by omega
    generalize l.length = q at *
    clear hr
    go_enter Try.func11, Try.ntmps11
    go_wp2
    go_ret
    exact ⟨by rw [HX.out]; rfl, rfl⟩
end Go.Proofs.Ytafihplbchofoaa

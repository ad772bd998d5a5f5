/- The post of the program, where nothing is replied to. -/
import Derived.Test.YtafihplbchofoaaPost
namespace Go.Proofs.Ytafihplbchofoaa
open Go.ChangeShapes Go.WideShapes Go.ChangeAt Go.RowKit Go.Dt
set_option linter.unusedVariables false
set_option linter.unusedSimpArgs false
def post0 (l : Log) (s a : Int) (t : ByteArray) : Log := ⟨l.xNext + 1, l.xMessages ++ [⟨l.xNext, s, a, t, 0, false, 0, []⟩]⟩
/-- What a post into a log of one's own leaves: block g holds the log's cells from o0 on. -/
def Posted (W : World) (x : Log) (s a : Int) (t : ByteArray) (g o0 : Nat) (cs : Array Value) (T : TypeId) (F : Nat → Prop) (e : Ending) (w' : World) : Prop :=
  ∃ v' F', e = .returned (.bool (post0 x s a t).ok) ∧ Bx w' g ((cs.setIfInBounds (o0 + 1) v').setIfInBounds o0 (.int .i64 (x.xNext + 1))) T ∧ Ow w' (Message.s true (post0 x s a t).xMessages) v' F' ∧ Kp (fun b => b = g ∨ F b) W w' ∧ (∀ b, F' b → F b ∨ W.heap.size ≤ b)
theorem Log.own_of {w : World} {x : Log} {A : Option Addr} {n c : Nat} {F : Nat → Prop} (h : Ow w (Message.s true x.xMessages) (.slice A n c) F) : OwL w (Log.d true x) [.int .i64 x.xNext, .slice A n c] F := by
  unfold Log.d
  exact OwL.consP (Ow.I _ _) (OwL.one h)
theorem new_own (w : World) (next s a : Int) (txt : ByteArray) (A : Option Addr) : OwL w (Message.d true ⟨next, s, a, txt, 0, false, 0, []⟩) [.int .i64 next, .int .i64 s, .int .i64 a, .string txt, .int .i64 0, .bool false, .int .i64 0, .slice A 0 0] (fun _ => False) :=
  Message.own_mk (m := ⟨next, s, a, txt, 0, false, 0, []⟩) (A := A) (c := 0) (.emp _ _ _ _ (by simp))
set_option maxHeartbeats 1600000 in
set_option maxRecDepth 100000 in
theorem impl_post (x : Log) (s a : Int) (txt : ByteArray) (g o0 : Nat) (cs : Array Value) (T : TypeId) (v : Value) (F : Nat → Prop) (W : World) (hx : Bx W g cs T) (e0 : cs[o0]? = some (.int .i64 x.xNext)) (e1 : cs[o0 + 1]? = some v)
    (hO : Ow W (Message.s true x.xMessages) v F) (hg : ¬ F g) (h0 : 0 ≤ x.xNext) (h1 : x.xNext ≤ 2000000000) (hs : x.xMessages.length ≤ 1048576) (hw : ∀ m ∈ x.xMessages, m.xText.size ≤ maxLen) (ht : txt.size ≤ maxLen) :
    Calls Try.prog 55 #[.pointer (some ⟨g, o0, none⟩), .int .i64 s, .int .i64 a, .string txt, .int .i64 0] W (Posted W x s a txt g o0 cs T F) := by
  obtain ⟨A, c, rfl, hlc, hm⟩ := hO.shape
  simp only [List.length_map] at hlc hO e1
  have HA := impl_at x.xMessages 0 g o0 A c W (hx.cell (o0 + 1) e1) hO.lo hm hlc
  have HV := fun (us : List Value) (w : World) (F' : Nat → Prop) (h : OwL w (Log.d true (post0 x s a txt)) us F') => impl_ValidLog (post0 x s a txt) us w h.lo (by
    intro m hm
    simp only [post0, List.mem_append, List.mem_singleton] at hm
    rcases hm with hm | rfl
    · exact hw m hm
    · exact ht)
  obtain ⟨next, l⟩ := x
  simp only at *
  have hgl := hx.lt
  have HE0 := Lib.hid e0
  have HE1 := Lib.hid e1
  clear e0 e1 hw
  have hne : o0 ≠ o0 + 1 := by omega
  generalize hn : l.length = n at *
  have HN := Lib.hid hn
  clear hn
  generalize hin : numAt l 0 = i at *
  clear hin
  go_enter Try.func55, Try.ntmps55
  go_wp2_with fail
  refine HA.mono ?_
  rintro e w1 ⟨rfl, hb⟩
  have x1 := hx.below hb hgl
  have hO1 := hO.keep hb
  have q0 := x1.cell o0 HE0.out
  have q1 := x1.cell (o0 + 1) HE1.out
  have hs1 := x1.lt
  go_wp2
  go_region_law (refine step_append1 (by rfl) _ _ 24 99 (by rfl) Try.underlying24 (.agg #[.int .i64 0, .int .i64 0, .int .i64 0, .string ByteArray.empty, .int .i64 0, .bool false, .int .i64 0, .slice none 0 0]) 8 88 Message.inf rfl (by decide) (by decide) (by rfl) hO1.drew #[.int .i64 next, .int .i64 s, .int .i64 a, .string txt, .int .i64 0, .bool false, .int .i64 0, .slice none 0 0] (by rfl) (Message.d true ⟨next, s, a, txt, 0, false, 0, []⟩) (fun _ => False) rfl (new_own _ _ _ _ _ _) (by simp) (by have := HN.out; simp only [List.length_map]; omega) ?_; intro v4 w4 F4 hO4 hk4 hF4; obtain ⟨A9, n9, c9, rfl⟩ := hO4.slice; have x4 := x1.drew.kp hk4 hg; have q4 := x4.cell (o0 + 1) HE1.out; have f4 := x4.free (o0 + 1); have hs4 := x4.lt)
  all_goals
    have x5 := x4.put (o0 + 1) (.slice A9 n9 c9)
    have hF4' : ∀ b, F4 b → F b ∨ W.heap.size ≤ b := fun b h => by
      rcases hF4 b h with h | h | h
      · exact .inl h
      · exact h.elim
      · exact .inr (Nat.le_trans hb.size h)
    have hO5 : Ow (w4.setCell ⟨g, o0 + 1, none⟩ (.slice A9 n9 c9)) (Message.s true (post0 ⟨next, l⟩ s a txt).xMessages) (.slice A9 n9 c9) F4 :=
      (msgs_snoc hO4).far (p := ⟨g, o0 + 1, none⟩) (fun h => (hF4' g h).elim hg (fun h => by omega)) _
    have hk5 : Kp (fun b => b = g ∨ F b) W (w4.setCell ⟨g, o0 + 1, none⟩ (.slice A9 n9 c9)) :=
      Kp.trans (H := fun b => b = g ∨ F b) (Kp.trans (H := F) (Kp.of_below (F := F) hb.drew) hk4 (fun _ h => h) (fun _ _ h => h)) (kp_setCell w4 g (o0 + 1) _) (fun _ h => .inr h) (fun _ _ h => .inl h)
    clear q4 f4 hs4 hk4 hO4 x4
    generalize w4.setCell ⟨g, o0 + 1, none⟩ (.slice A9 n9 c9) = w5 at *
    have E1 := HE1.out
    have E0 := HE0.out
    have p0 : w5.cell? ⟨g, o0, none⟩ = some (.int .i64 next) := x5.cell o0 (by rw [Array.getElem?_setIfInBounds_ne (by omega)]; exact E0)
    have p1 : w5.cell? ⟨g, o0 + 1, none⟩ = some (.slice A9 n9 c9) := x5.cell (o0 + 1) (by rw [Array.getElem?_setIfInBounds_self_of_lt (Array.getElem?_eq_some_iff.1 E1).1])
    clear E0 E1
    have f0 := x5.free o0
    have hs5 := x5.lt
    have x6 := x5.put o0 (.int .i64 (next + 1))
    have hO6 := hO5.far (p := ⟨g, o0, none⟩) (fun h => (hF4' g h).elim hg (fun h => by omega)) (.int .i64 (next + 1))
    have hk6 : Kp (fun b => b = g ∨ F b) W (w5.setCell ⟨g, o0, none⟩ (.int .i64 (next + 1))) := Kp.trans (H := fun b => b = g ∨ F b) hk5 (kp_setCell w5 g o0 _) (fun _ h => h) (fun _ _ h => .inl h)
    go_wp2_with fail
    refine (HV [.int .i64 (next + 1), .slice A9 n9 c9] _ F4 (Log.own_of (x := post0 ⟨next, l⟩ s a txt) hO6)).mono ?_
    rintro e w7 ⟨rfl, hb7⟩
    go_wp2
    go_ret
    exact ⟨_, F4, rfl, x6.below hb7 x6.lt, hO6.keep hb7, Kp.trans (H := fun b => b = g ∨ F b) hk6 (Kp.of_below (F := fun _ => False) hb7) (fun _ h => h) (fun _ _ h => h.elim), hF4'⟩
end Go.Proofs.Ytafihplbchofoaa

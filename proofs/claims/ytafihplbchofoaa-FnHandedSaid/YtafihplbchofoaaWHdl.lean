/- FnHanded: the walk. -/
import Derived.Test.YtafihplbchofoaaR8l
import Derived.Test.YtafihplbchofoaaPms
import Derived.Test.YtafihplbchofoaaByte
import Derived.Deep.DeepCutAuto
import Derived.Deep.CutBlock
namespace Go.Proofs.Ytafihplbchofoaa
open Go.ChangeShapes Go.WideShapes Go.ChangeAt Go.RowKit Go.Dt
set_option linter.unusedVariables false
set_option linter.unusedSimpArgs false
section
variable {N R : Nat → Prop} {W w w' : World} {ps : List Pt}
theorem _root_.Go.Dt.St.freezeOs {ds : List D} {us : List Value} (h : St N R W w (.os ds us :: ps)) : ∃ R', RoL w R' ds us ∧ St N R' W w ps ∧ ∀ b, R b → R' b := by
  obtain ⟨F, ⟨F1, F2, h1, h2, h3, h4⟩, hR⟩ := h.sat
  have hro := OwL.ro h1
  refine ⟨fun b => R b ∨ F1 b, ⟨hro.1, fun j d u hd hu => (hro.2 j d u hd hu).mono fun b hb => .inr hb⟩, ⟨h.kp, fun b hb => .inl (h.sub b hb), fun b hb => hb.elim (h.lt b) (h1.lt b), F2, h2.up (fun b hb => .inl hb) ?_, ?_⟩, fun b hb => .inl hb⟩
  all_goals
    rintro b hb (hc | hc)
    · exact hR b ((h4 b).2 (.inr hb)) hc
    · exact h3 b hc hb
/-- A hand that a call has made, from now on only read. -/
theorem Hand.take {h : Hand} {us : List Value} {F : Nat → Prop} (H : St N R W w ps) (hb : Below w.heap.size w w') (hO : OwL w' (Hand.d true h) us F) (hF : ∀ b, F b → w.heap.size ≤ b) :
    ∃ (R' : Nat → Prop) (A2 : Option Addr) (c2 : Nat) (A4 : Option Addr) (c4 : Nat) (A5 : Option Addr) (c5 : Nat), us = [.int .i64 h.xStage, .int .i64 h.xFrom.xNext, .slice A2 h.xFrom.xMessages.length c2, .int .i64 h.xTo.xNext, .slice A4 h.xTo.xMessages.length c4, .slice A5 h.xWaiting.length c5] ∧
      St N R' W w' (.ro (Message.s true h.xFrom.xMessages) (.slice A2 h.xFrom.xMessages.length c2) :: .ro (Message.s true h.xTo.xMessages) (.slice A4 h.xTo.xMessages.length c4) :: .ro (Draft.s true h.xWaiting) (.slice A5 h.xWaiting.length c5) :: ps) := by
  obtain ⟨R', hr, H, -⟩ := (H.addos hb hO hF).freezeOs
  obtain ⟨A2, c2, A4, c4, A5, c5, rfl, r2, -, -, r4, -, -, r5, -, -⟩ := Hand.cells hr
  exact ⟨R', A2, c2, A4, c4, A5, c5, rfl, ((H.addro r5).addro r4).addro r2⟩
theorem Hand.ros {h : Hand} {Pb : Nat → Prop} {A2 A4 A5 : Option Addr} {n2 c2 n4 c4 n5 c5 : Nat} (r2 : Ro w Pb (Message.s true h.xFrom.xMessages) (.slice A2 n2 c2)) (r4 : Ro w Pb (Message.s true h.xTo.xMessages) (.slice A4 n4 c4)) (r5 : Ro w Pb (Draft.s true h.xWaiting) (.slice A5 n5 c5)) :
    RoL w Pb (Hand.d true h) [.int .i64 h.xStage, .int .i64 h.xFrom.xNext, .slice A2 n2 c2, .int .i64 h.xTo.xNext, .slice A4 n4 c4, .slice A5 n5 c5] := by
  unfold Hand.d
  exact RoL.cons (.int _ _) (RoL.cons (.int _ _) (RoL.cons r2 (RoL.cons (.int _ _) (RoL.cons r4 (RoL.cons r5 RoL.nil)))))
/-- The rest of a slice. -/
theorem Ro.rest {Pb : Nat → Prop} {e : TypeId} {sz n c q : Nat} {rows : List (List D)} {b off : Nat} (h : Ro w Pb (.sl e sz rows) (.slice (some ⟨b, off, none⟩) n c)) (hq : q ≤ n) : Ro w Pb (.sl e sz (rows.drop q)) (.slice (some ⟨b, off + q * sz, none⟩) (n - q) (c - q)) := by
  cases h with
  | emp =>
    obtain rfl : q = 0 := by omega
    exact .emp _ _ _ _ (by omega)
  | row _ _ b off c _ us h1 h2 hb h3 h4 h5 =>
    have h := Ro.row (w := w) (Pb := Pb) e sz b (off + q * sz) (c - q) (rows.drop q) (fun k j => us (q + k) j) (by simp; omega) (by omega) hb (fun k r hk => ?_) (fun k r j d hk hj => ?_) (fun k r j d hk hj => ?_)
    · simpa using h
    all_goals rw [List.getElem?_drop] at hk
    · exact h3 _ r hk
    · have := h4 _ r j d hk hj
      rw [show off + (q + k) * sz + j = off + q * sz + k * sz + j by rw [Nat.add_mul]; omega] at this
      exact this
    · exact h5 _ r j d hk hj
theorem bytes_rest {Pb : Nat → Prop} {l : List Int} {A : Option Addr} {n c q : Nat} (h : Ro w Pb (bytes l) (.slice A n c)) (hq : q ≤ n) : Ro w Pb (bytes (l.drop q)) (.slice (A.map fun x => x.add q) (n - q) (c - q)) := by
  unfold bytes at h ⊢
  rw [List.map_drop]
  generalize l.map (fun n => [D.int .u8 n]) = rows at h ⊢
  have h0 := h
  cases h0 with
  | emp =>
    obtain rfl : q = 0 := by omega
    exact .emp _ _ _ _ (by omega)
  | row _ _ b off c _ us h1 h2 hb h3 h4 h5 =>
    have := Ro.rest h hq
    rw [Nat.mul_one] at this
    have e : (Option.map (fun x : Addr => x.add q) (some ⟨b, off, none⟩)) = some ⟨b, off + q, none⟩ := by
      rcases Nat.eq_zero_or_pos q with h | h
      · subst h; rfl
      · simp [Addr.add, Nat.ne_of_gt h]
    rw [e]
    exact this
end
theorem said_text : ∀ (ds : List Draft) (l x : Log), say l ds = some x → ∀ d ∈ ds, isText d.xText = true := by
  intro ds
  induction ds with
  | nil => intro l x _ d hd; cases hd
  | cons e ds ih =>
    intro l x h d hd
    have h : (sayOne l e).bind (fun y => say y ds) = some x := h
    cases hs : sayOne l e with
    | none => rw [hs] at h; cases h
    | some y =>
      rw [hs] at h
      rcases List.mem_cons.1 hd with rfl | hd
      · unfold sayOne at hs
        split at hs
        · rename_i hok
          have := (Log.msgs hok).2 ⟨l.xNext, d.xSender, d.xAt, d.xText, 0, false, 0, []⟩ (by simp [post0])
          have hm := this.1
          unfold Message.ok at hm
          simp only [Bool.and_eq_true] at hm
          exact hm.2.2.2.1
        · cases hs
      · exact ih y x h d hd
theorem Hand.ok_fit {h : Hand} (ho : h.ok = true) : h.fit := by
  obtain ⟨p1, p2, p3, p4, p5⟩ := Hand.ok_parts ho
  have f1 := Log.few p1
  have f2 := Log.few p2
  refine ⟨fun m hm => (Log.fit_at p1 m hm).1, fun m hm => (Log.fit_at p2 m hm).1, fun d hd => ?_, by omega, by omega, by omega⟩
  cases hs : say h.xFrom h.xWaiting with
  | none => unfold said at p4; rw [hs] at p4; cases p4
  | some x =>
    have := said_text _ _ _ hs d hd
    unfold isText at this
    simp only [Bool.and_eq_true, decide_eq_true_eq] at this
    simp only [maxLen]; omega
theorem posted_give {x : Log} {s a : Int} {t : ByteArray} (hx : x.ok = true) (h : (post0 x s a t).ok = true) : postedM x s a t 0 = (post0 x s a t, x.xNext, true) := by
  have e : postedR x s a t 0 = (post0 x s a t, true) := by
    rw [postedR_yes (by unfold postOk; rfl)]
    unfold give
    exact if_pos h
  unfold postedM
  rw [e, if_pos ⟨hx, rfl⟩]
theorem _root_.Go.Dt.St.anyC {P : Program} {N R : Nat → Prop} {W w : World} {ps : List Pt} {f : FuncId} {args : Array Value} {Q : Ending → World → Prop} (H : St N R W w ps) (h : ∀ w', St N R W w' ps → Calls P f args w' Q) : Calls P f args w Q := h w H
theorem _root_.Go.Dt.St.put6 {N R : Nat → Prop} {W w : World} {ps : List Pt} {b : Nat} {t : TypeId} {x0 x1 x2 x3 x4 x5 : Value} (h : St N R W w (.bx b #[x0, x1, x2, x3, x4, x5] t :: ps)) (u0 u1 u2 u3 u4 u5 : Value) :
    St N R W ((((((w.setCell ⟨b, 0, none⟩ u0).setCell ⟨b, 1, none⟩ u1).setCell ⟨b, 2, none⟩ u2).setCell ⟨b, 3, none⟩ u3).setCell ⟨b, 4, none⟩ u4).setCell ⟨b, 5, none⟩ u5) (.bx b #[u0, u1, u2, u3, u4, u5] t :: ps) :=
  (((((h.put' 0 u0 #[u0, x1, x2, x3, x4, x5] rfl).put' 1 u1 #[u0, u1, x2, x3, x4, x5] rfl).put' 2 u2 #[u0, u1, u2, x3, x4, x5] rfl).put' 3 u3 #[u0, u1, u2, u3, x4, x5] rfl).put' 4 u4 #[u0, u1, u2, u3, u4, x5] rfl).put' 5 u5 #[u0, u1, u2, u3, u4, u5] rfl
def MadeH (W : World) (h : Hand) (b : Bool) (e : Ending) (w' : World) : Prop := ∃ us F, e = .returned (.tuple #[.agg us.toArray, .bool b]) ∧ OwL w' (Hand.d true h) us F ∧ (∀ b, F b → W.heap.size ≤ b) ∧ Below W.heap.size W w'
section
variable {N R : Nat → Prop} {W w : World} {ps : List Pt} {h : Hand} {want : Log} {k : Nat} {a : Int} {A2 A4 A5 : Option Addr} {n2 c2 n4 c4 n5 c5 : Nat}
theorem hd_loh (hi : HInv h want k a) (H : St N R W w ps) (h2 : At (.ro (Message.s true h.xFrom.xMessages) (.slice A2 n2 c2)) ps) (h4 : At (.ro (Message.s true h.xTo.xMessages) (.slice A4 n4 c4)) ps) (h5 : At (.ro (Draft.s true h.xWaiting) (.slice A5 n5 c5)) ps) :
    Calls Try.prog 19 #[.agg #[.int .i64 h.xStage, .int .i64 h.xFrom.xNext, .slice A2 n2 c2, .int .i64 h.xTo.xNext, .slice A4 n4 c4, .slice A5 n5 c5]] w (MadeLB w (want, true)) := by
  have hh := impl_LogOfHand h _ w (Hand.ros (H.lo (.inl h2)) (H.lo (.inl h4)) (H.lo (.inl h5))) (Hand.ok_fit hi.ok)
  rw [hi.log] at hh
  exact hh
theorem hd_vah (hi : HInv h want k a) (H : St N R W w ps) (h2 : At (.ro (Message.s true h.xFrom.xMessages) (.slice A2 n2 c2)) ps) (h4 : At (.ro (Message.s true h.xTo.xMessages) (.slice A4 n4 c4)) ps) (h5 : At (.ro (Draft.s true h.xWaiting) (.slice A5 n5 c5)) ps) :
    Calls Try.prog 20 #[.agg #[.int .i64 h.xStage, .int .i64 h.xFrom.xNext, .slice A2 n2 c2, .int .i64 h.xTo.xNext, .slice A4 n4 c4, .slice A5 n5 c5]] w (fun e w' => e = .returned (.bool true) ∧ Below w.heap.size w w') := by
  have hh := impl_ValidHand h _ w (Hand.ros (H.lo (.inl h2)) (H.lo (.inl h4)) (H.lo (.inl h5))) (Hand.ok_fit hi.ok)
  rw [hi.ok] at hh
  exact hh
theorem hd_sal {A A' : Option Addr} {n c n' c' : Nat} {nx : Int} (H : St N R W w ps) (h1 : At (.ow (Message.s true want.xMessages) (.slice A n c)) ps) (h2 : At (.ro (Message.s true want.xMessages) (.slice A' n' c')) ps) (hx : nx = want.xNext) :
    Calls Try.prog 21 #[.agg #[.int .i64 nx, .slice A n c], .agg #[.int .i64 want.xNext, .slice A' n' c']] w (fun e w' => e = .returned (.bool true) ∧ Below w.heap.size w w') := by
  subst hx
  have hh := impl_SameLog want want _ _ w (Log.ros (H.lo (.inr h1))) (Log.ros (H.lo (.inl h2)))
  rw [show sameL want want = true from by simp [sameL]] at hh
  exact hh
theorem hd_frz {h' : Hand} {b : Bool} (hi : HInv h want k a) (hr : FreezeHand_f h = (h', b)) (H : St N R W w ps) (h2 : At (.ro (Message.s true h.xFrom.xMessages) (.slice A2 n2 c2)) ps) (h4 : At (.ro (Message.s true h.xTo.xMessages) (.slice A4 n4 c4)) ps) (h5 : At (.ro (Draft.s true h.xWaiting) (.slice A5 n5 c5)) ps) :
    Calls Try.prog 16 #[.agg #[.int .i64 h.xStage, .int .i64 h.xFrom.xNext, .slice A2 n2 c2, .int .i64 h.xTo.xNext, .slice A4 n4 c4, .slice A5 n5 c5]] w (MadeH w h' b) := by
  have hh := impl_FreezeHand h _ w (Hand.ros (H.lo (.inl h2)) (H.lo (.inl h4)) (H.lo (.inl h5))) (Hand.ok_fit hi.ok)
  rw [hr] at hh
  exact hh
theorem hd_fin {h' : Hand} {b : Bool} (hi : HInv h want k a) (hr : FinishHand_f h = (h', b)) (H : St N R W w ps) (h2 : At (.ro (Message.s true h.xFrom.xMessages) (.slice A2 n2 c2)) ps) (h4 : At (.ro (Message.s true h.xTo.xMessages) (.slice A4 n4 c4)) ps) (h5 : At (.ro (Draft.s true h.xWaiting) (.slice A5 n5 c5)) ps) :
    Calls Try.prog 17 #[.agg #[.int .i64 h.xStage, .int .i64 h.xFrom.xNext, .slice A2 n2 c2, .int .i64 h.xTo.xNext, .slice A4 n4 c4, .slice A5 n5 c5]] w (MadeH w h' b) := by
  have hh := impl_FinishHand h _ w (Hand.ros (H.lo (.inl h2)) (H.lo (.inl h4)) (H.lo (.inl h5))) (Hand.ok_fit hi.ok)
  rw [hr] at hh
  exact hh
theorem hd_brk {h' : Hand} {b : Bool} (hi : HInv h want k a) (hr : BreakHand_f h = (h', b)) (H : St N R W w ps) (h2 : At (.ro (Message.s true h.xFrom.xMessages) (.slice A2 n2 c2)) ps) (h4 : At (.ro (Message.s true h.xTo.xMessages) (.slice A4 n4 c4)) ps) (h5 : At (.ro (Draft.s true h.xWaiting) (.slice A5 n5 c5)) ps) :
    Calls Try.prog 18 #[.agg #[.int .i64 h.xStage, .int .i64 h.xFrom.xNext, .slice A2 n2 c2, .int .i64 h.xTo.xNext, .slice A4 n4 c4, .slice A5 n5 c5]] w (MadeH w h' b) := by
  have hh := impl_BreakHand h _ w (Hand.ros (H.lo (.inl h2)) (H.lo (.inl h4)) (H.lo (.inl h5))) (Hand.ok_fit hi.ok)
  rw [hr] at hh
  exact hh
theorem hd_copy {c : Int} {h' : Hand} {b : Bool} (hi : HInv h want k a) (hr : CopyHand_f h c = (h', b)) (H : St N R W w ps) (h2 : At (.ro (Message.s true h.xFrom.xMessages) (.slice A2 n2 c2)) ps) (h4 : At (.ro (Message.s true h.xTo.xMessages) (.slice A4 n4 c4)) ps) (h5 : At (.ro (Draft.s true h.xWaiting) (.slice A5 n5 c5)) ps) :
    Calls Try.prog 15 #[.agg #[.int .i64 h.xStage, .int .i64 h.xFrom.xNext, .slice A2 n2 c2, .int .i64 h.xTo.xNext, .slice A4 n4 c4, .slice A5 n5 c5], .int .i64 c] w (MadeH w h' b) := by
  have hh := impl_CopyHand h c _ w (Hand.ros (H.lo (.inl h2)) (H.lo (.inl h4)) (H.lo (.inl h5))) (Hand.ok_fit hi.ok)
  rw [hr] at hh
  exact hh
theorem hd_say {d : Draft} {h' : Hand} {b : Bool} (hi : HInv h want k a) (hr : SayHand_f h d = (h', b)) (hd : d.xText.size ≤ maxLen) (H : St N R W w ps) (h2 : At (.ro (Message.s true h.xFrom.xMessages) (.slice A2 n2 c2)) ps) (h4 : At (.ro (Message.s true h.xTo.xMessages) (.slice A4 n4 c4)) ps) (h5 : At (.ro (Draft.s true h.xWaiting) (.slice A5 n5 c5)) ps) :
    Calls Try.prog 14 #[.agg #[.int .i64 h.xStage, .int .i64 h.xFrom.xNext, .slice A2 n2 c2, .int .i64 h.xTo.xNext, .slice A4 n4 c4, .slice A5 n5 c5], .agg #[.int .i64 d.xSender, .int .i64 d.xAt, .string d.xText]] w (MadeH w h' b) := by
  have hh := impl_SayHand h d _ [.int .i64 d.xSender, .int .i64 d.xAt, .string d.xText] w (Hand.ros (H.lo (.inl h2)) (H.lo (.inl h4)) (H.lo (.inl h5))) (RoL.cons (.int _ _) (RoL.cons (.int _ _) (RoL.cons (.str _) RoL.nil))) (Hand.ok_fit hi.ok) hd
  rw [hr] at hh
  exact hh
theorem hd_post {A : Option Addr} {n c : Nat} {s b : Int} {t : ByteArray} (ho : want.ok = true) (hp : (post0 want s b t).ok = true) (ht : t.size ≤ maxLen) (H : St N R W w ps) (h1 : At (.ro (Message.s true want.xMessages) (.slice A n c)) ps) :
    Calls Try.prog 13 #[.agg #[.int .i64 want.xNext, .slice A n c], .int .i64 s, .int .i64 b, .string t, .int .i64 0] w (fun e w' => ∃ A n c F, e = .returned (.tuple #[.agg #[.int .i64 (post0 want s b t).xNext, .slice A n c], .int .i64 want.xNext, .bool true]) ∧ Ow w' (Message.s true (post0 want s b t).xMessages) (.slice A n c) F ∧ Below w.heap.size w w' ∧ ∀ b, F b → w.heap.size ≤ b) := by
  have hh := impl_PostMessage want s b t 0 _ w (Log.ros (H.lo (.inl h1))) (fun m hm => (Log.fit_at ho m hm).1) ht
  rw [posted_give ho hp] at hh
  exact hh
end
namespace FnHanded
set_option maxHeartbeats 60000000 in
set_option maxRecDepth 100000 in
theorem walk (W : World) (A0 : Option Addr) (n0 c0 : Nat) (e0 : List D) (t0 : IsL [.sl 5 1 [.int .u8]] e0) (x0 : RoL W (Lo W.heap.size) e0 [.slice A0 n0 c0]) (A1 : Option Addr) (n1 c1 : Nat) (e1 : List D) (t1 : IsL [.sl 5 1 [.int .u8]] e1) (x1 : RoL W (Lo W.heap.size) e1 [.slice A1 n1 c1]) :
    Calls Try.prog 3 #[.slice A0 n0 c0, .slice A1 n1 c1] W fun e w' => e = .returned (.bool true) ∧ Below W.heap.size W w' := by
  obtain ⟨l, rfl, y0, w0, lc0, mc0⟩ := open_bytes t0 x0
  obtain ⟨m, rfl, y1, w1, lc1, mc1⟩ := open_bytes t1 x1
  clear t0 x0 t1 x1
  have HL := fun (w : World) => laws_r8Long l m A0 A1 c0 c1 w (by simp only [maxLen] at mc0; omega) (by simp only [maxLen] at mc1; omega)
  by_cases hlong : long8 l m = true
  · rw [hlong] at HL
    clear hlong y0 y1 w0 w1
    generalize l.length = n0 at *
    generalize m.length = n1 at *
    go_enter Try.func3, Try.ntmps3
    go_wp2_with (go_at_call 8; (with_reducible refine (HL _).mono ?_); rintro e w1 ⟨rfl, hw1⟩; obtain rfl := hw1.symm)
    go_ret
    exact ⟨rfl, Below.refl _ _⟩
  have hlong' : long8 l m = false := by simpa using hlong
  rw [hlong'] at HL
  clear hlong
  have hm48 : m.length ≤ 48 := by
    unfold long8 at hlong'
    simp at hlong'
    omega
  clear hlong'
  have H := ((St.start W).addro y0).addro y1
  have HB := fun (w : World) (ps : List Pt) (R : Nat → Prop) (H : St (Lo W.heap.size) R W w ps) (h1 : At (.ro (bytes l) (.slice A0 l.length c0)) ps) => spec_R8Log l (u8_wf w0) A0 c0 w (H.lo (.inl h1))
  have HA := fun (k : Nat) (n : Int) (w : World) (ps : List Pt) (R : Nat → Prop) (H : St (Lo W.heap.size) R W w ps) (h1 : At (.ro (bytes m) (.slice A1 m.length c1)) ps) (hk : k ≤ 1000000) (hn : 1 < n) (hn2 : n ≤ 1000000) => laws_r8At m k n A1 c1 w (H.lo (.inl h1)) w1 (by simp only [maxLen] at mc1; omega) hk hn hn2
  have HA2 := fun (k : Nat) (n : Int) (w : World) (ps : List Pt) (R : Nat → Prop) (H : St (Lo W.heap.size) R W w ps) (h1 : At (.ro (bytes m) (.slice A1 m.length c1)) ps) (hk : k ≤ 1000) (hn : 1 < n) (hn2 : n ≤ 1000000) => (show Calls Try.prog 11 #[.slice A1 m.length c1, .int .i64 ((k : Int) + 10), .int .i64 n] w fun e w' => e = .returned (.int .i64 (at8 m ((k : Int) + 10) n)) ∧ w' = w from by
    have h := HA (k + 10) n w ps R H h1 (by omega) hn hn2
    rw [show ((k + 10 : Nat) : Int) = (k : Int) + 10 by omega] at h
    exact h)
  have hw8 := Lib.hid (u8_wf w1)
  have HD := fun (q : Nat) (hq : q ≤ m.length) (b : Int) (w : World) (ps : List Pt) (R : Nat → Prop) (H : St (Lo W.heap.size) R W w ps) (h1 : At (.ro (bytes m) (.slice A1 m.length c1)) ps) => (show Calls Try.prog 12 #[.slice (A1.map fun x => x.add q) (m.length - q) (c1 - q), .int .i64 b] w fun e w' => ∃ (d : Draft), e = .returned (.agg #[.int .i64 d.xSender, .int .i64 b, .string d.xText]) ∧ (d.xAt = b ∧ isMem d.xSender = true ∧ isText d.xText = true ∧ d.xText.size ≤ 10) ∧ Below w.heap.size w w' from by
    have hb := bytes_rest (H.lo (.inl h1)) hq
    rw [← List.length_drop] at hb ⊢
    exact spec_R8Draft (m.drop q) (fun n hn => hw8.out n (List.mem_of_mem_drop hn)) b _ _ w hb)
  have HD0 := fun (z : Nat) (hz : z = 0) (b : Int) (w : World) (ps : List Pt) (R : Nat → Prop) (H : St (Lo W.heap.size) R W w ps) (h1 : At (.ro (bytes m) (.slice A1 m.length c1)) ps) => (show Calls Try.prog 12 #[.slice A1 z 0, .int .i64 b] w fun e w' => ∃ (d : Draft), e = .returned (.agg #[.int .i64 d.xSender, .int .i64 b, .string d.xText]) ∧ (d.xAt = b ∧ isMem d.xSender = true ∧ isText d.xText = true ∧ d.xText.size ≤ 10) ∧ Below w.heap.size w w' from by
    subst hz
    exact spec_R8Draft [] (by simp) b A1 0 w (.emp _ _ _ _ (by simp [maxLen])))
  clear y0 y1 w0 w1 lc0 mc0
  generalize l.length = n0 at *
  generalize hn1 : m.length = n1 at *
  have HN1 := Lib.hid hn1
  clear hn1
  go_enter Try.func3, Try.ntmps3
  go_wp2_with (go_at_call 8; (with_reducible refine (HL _).mono ?_); rintro e w1 ⟨rfl, hw1⟩; obtain rfl := hw1.symm)
  refine (HB _ _ _ H (by repeat (first | with_reducible_and_instances exact .here | with_reducible refine .there ?_))).mono ?_
  rintro e w2 ⟨y, A2, n2, c2, rfl, hy, hr2, hb1⟩
  replace H := H.below hb1
  replace H := (H.base.addro (H.lo (.inl (.here)))).addro hr2
  clear hb1 hr2 HB HL
  have hn2 : n2 = y.xMessages.length := by
    have h := St.lenR (e := 99) (sz := 8) (rows := y.xMessages.map (Message.d true)) H (A := A2) (q := n2) (c := c2) .here
    simpa using h.1
  subst hn2
  obtain ⟨h0, hbg, hinv⟩ := HInv.start (k := 0) (a := 1000) hy.1 hy.2.2.1 (by have := hy.2.1; omega) (fun m hm => by have := hy.2.2.2 m hm; omega)
  have HBg := fun (w : World) (ps : List Pt) (R : Nat → Prop) (A : Option Addr) (n c : Nat) (H : St (Lo W.heap.size) R W w ps) (h1 : At (.ro (Message.s true y.xMessages) (.slice A n c)) ps) => impl_BeginHand y _ w (Log.ros (H.lo (.inl h1))) (Log.fit_at hy.1) (Nat.le_trans (Log.few hy.1).1 (by decide))
  rw [hbg] at HBg
  clear hbg
  go_wp2_with fail
  replace H := H.box #[.int .i64 y.xNext, .slice A2 y.xMessages.length c2] 26
  refine (HBg _ _ _ _ _ _ H (by repeat (first | with_reducible_and_instances exact .here | with_reducible refine .there ?_))).mono ?_
  rintro e w3 ⟨us3, F3, rfl, hO3, hF3, hb3⟩
  obtain ⟨R3, A23, c23, A43, c43, A53, c53, rfl, H⟩ := Hand.take H hb3 hO3 hF3
  clear hO3 hF3 hb3 HBg
  (try clear hq); have hq := H.facts; simp only [factsOf, Pt.facts, CellsAt, Nat.add_zero, Nat.zero_add, Nat.reduceAdd, and_true, true_and, List.set_cons_zero, List.set_cons_succ] at hq
  go_wp2_with fail
  replace H := H.box #[.int .i64 h0.xStage, .int .i64 h0.xFrom.xNext, .slice A23 h0.xFrom.xMessages.length c23, .int .i64 h0.xTo.xNext, .slice A43 h0.xTo.xMessages.length c43, .slice A53 h0.xWaiting.length c53] 30
  replace H := H.box #[.int .i64 y.xNext, .slice A2 y.xMessages.length c2] 26
  rw [show (w3.alloc (.cells #[.int .i64 h0.xStage, .int .i64 h0.xFrom.xNext, .slice A23 h0.xFrom.xMessages.length c23, .int .i64 h0.xTo.xNext, .slice A43 h0.xTo.xMessages.length c43, .slice A53 h0.xWaiting.length c53] 30)).heap.size = w3.heap.size + 1 from by simp] at H
  go_loopw [9, 10] (fun v9 v10 wr => ∃ (k : Nat) (a : Int) (want : Log) (h : Hand) (R' : Nat → Prop) (A2 : Option Addr) (c2 : Nat) (A4 : Option Addr) (c4 : Nat) (A5 : Option Addr) (c5 : Nat) (Aw : Option Addr) (cw : Nat), k ≤ 10 ∧ v9 = .int .i64 a ∧ v10 = .int .i64 k ∧ (1000 ≤ a ∧ a ≤ 1000 + 5 * k) ∧ HInv h want k a ∧ St (Lo W.heap.size) R' W wr [.ro (bytes m) (.slice A1 n1 c1), .bx w3.heap.size #[.int .i64 h.xStage, .int .i64 h.xFrom.xNext, .slice A2 h.xFrom.xMessages.length c2, .int .i64 h.xTo.xNext, .slice A4 h.xTo.xMessages.length c4, .slice A5 h.xWaiting.length c5] 30, .ro (Message.s true h.xFrom.xMessages) (.slice A2 h.xFrom.xMessages.length c2), .ro (Message.s true h.xTo.xMessages) (.slice A4 h.xTo.xMessages.length c4), .ro (Draft.s true h.xWaiting) (.slice A5 h.xWaiting.length c5), .bx (w3.heap.size + 1) #[.int .i64 want.xNext, .slice Aw want.xMessages.length cw] 26, .ro (Message.s true want.xMessages) (.slice Aw want.xMessages.length cw)]) (fun _ v _ => 10 - (intOf v).toNat)
  case atStart =>
    refine ⟨0, 1000, y, h0, R3, A23, c23, A43, c43, A53, c53, A2, c2, by omega, rfl, rfl, by omega, hinv, ?_⟩
    apply St.sub' (h := H)
    (repeat (first | exact Pick.nil | with_reducible_and_instances exact Del.here | apply Pick.cons | with_reducible apply Del.there))
  case round =>
    obtain ⟨k, a, want, h, R4, A2, c2, A4, c4, A5, c5, Aw, cw, hk, rfl, rfl, ha, hi, H⟩ := hrel
    by_cases hlt : k < 10
    rotate_left
    · obtain rfl : k = 10 := by omega
      (try clear hq); have hq := H.facts; simp only [factsOf, Pt.facts, CellsAt, Nat.add_zero, Nat.zero_add, Nat.reduceAdd, and_true, true_and, List.set_cons_zero, List.set_cons_succ] at hq
      go_wp2
      go_ret
      exact ⟨rfl, H.belowW⟩
    have hlt' : (k : Int) < 10 := by omega
    (try clear hq); have hq := H.facts; simp only [factsOf, Pt.facts, CellsAt, Nat.add_zero, Nat.zero_add, Nat.reduceAdd, and_true, true_and, List.set_cons_zero, List.set_cons_succ] at hq
    have hlt3 : w3.heap.size + 1 < wr.heap.size := by obtain ⟨-, -, -, h⟩ := hq; exact h
    have hne3 : ¬ wr.heap.size = w3.heap.size := by omega
    have hne4 : ¬ w3.heap.size = wr.heap.size := by omega
    go_wp2_with fail
    replace H := H.box #[.int .i64 h.xStage, .int .i64 h.xFrom.xNext, .slice A2 h.xFrom.xMessages.length c2, .int .i64 h.xTo.xNext, .slice A4 h.xTo.xMessages.length c4, .slice A5 h.xWaiting.length c5] 30
    refine (HA k 6 _ _ _ H (by repeat (first | with_reducible_and_instances exact .here | with_reducible refine .there ?_)) (by omega) (by decide) (by decide)).mono ?_
    rintro e w4 ⟨rfl, rfl⟩
    have hv0 := at8_nn m k (n := 6) (by omega)
    have hv6 := at8_lt m k (n := 6) (by omega)
    generalize at8 m k 6 = v at *
    have hv : v = 0 ∨ v = 1 ∨ v = 2 ∨ v = 3 ∨ v = 4 ∨ v = 5 := by omega
    clear hv0 hv6
    go_upto_block 2 with (fail)
    go_cut [9, 12] (fun v9 v12 wx => ∃ (b : Bool) (a' : Int) (want' : Log) (hx : Hand) (R' : Nat → Prop) (B2 : Option Addr) (d2 : Nat) (B4 : Option Addr) (d4 : Nat) (B5 : Option Addr) (d5 : Nat) (Aw' : Option Addr) (cw' : Nat), v9 = .int .i64 a' ∧ v12 = .bool b ∧ (a ≤ a' ∧ a' ≤ a + 5) ∧ HInv (if b then hx else h) want' (k + 1) a' ∧ St (Lo W.heap.size) R' W wx [.ro (bytes m) (.slice A1 n1 c1), .bx wr.heap.size #[.int .i64 hx.xStage, .int .i64 hx.xFrom.xNext, .slice B2 hx.xFrom.xMessages.length d2, .int .i64 hx.xTo.xNext, .slice B4 hx.xTo.xMessages.length d4, .slice B5 hx.xWaiting.length d5] 30, .ro (Message.s true hx.xFrom.xMessages) (.slice B2 hx.xFrom.xMessages.length d2), .ro (Message.s true hx.xTo.xMessages) (.slice B4 hx.xTo.xMessages.length d4), .ro (Draft.s true hx.xWaiting) (.slice B5 hx.xWaiting.length d5), .bx w3.heap.size #[.int .i64 h.xStage, .int .i64 h.xFrom.xNext, .slice A2 h.xFrom.xMessages.length c2, .int .i64 h.xTo.xNext, .slice A4 h.xTo.xMessages.length c4, .slice A5 h.xWaiting.length c5] 30, .ro (Message.s true h.xFrom.xMessages) (.slice A2 h.xFrom.xMessages.length c2), .ro (Message.s true h.xTo.xMessages) (.slice A4 h.xTo.xMessages.length c4), .ro (Draft.s true h.xWaiting) (.slice A5 h.xWaiting.length c5), .bx (w3.heap.size + 1) #[.int .i64 want'.xNext, .slice Aw' want'.xMessages.length cw'] 26, .ro (Message.s true want'.xMessages) (.slice Aw' want'.xMessages.length cw')])
    case rest =>
      obtain ⟨b, a', want', hx, R5, A2', c2', A4', c4', A5', c5', Aw', cw', rfl, rfl, ha', hi2, H⟩ := hcut
      cases b
      · simp only [Bool.false_eq_true, if_false] at hi2
        (try clear hq); have hq := H.facts; simp only [factsOf, Pt.facts, CellsAt, Nat.add_zero, Nat.zero_add, Nat.reduceAdd, and_true, true_and, List.set_cons_zero, List.set_cons_succ] at hq
        go_wp2_with fail
        with_reducible refine St.anyC H ?_
        intro w6 H
        with_reducible refine (hd_loh hi2 H (by repeat (first | with_reducible_and_instances exact .here | with_reducible refine .there ?_)) (by repeat (first | with_reducible_and_instances exact .here | with_reducible refine .there ?_)) (by repeat (first | with_reducible_and_instances exact .here | with_reducible refine .there ?_))).mono ?_
        rintro e w7 ⟨A9, n9, c9, F9, rfl, ho9, hb9, hF9⟩
        replace H := H.addow hb9 ho9 hF9
        clear ho9 hb9 hF9
        (try clear hq); have hq := H.facts; simp only [factsOf, Pt.facts, CellsAt, Nat.add_zero, Nat.zero_add, Nat.reduceAdd, and_true, true_and, List.set_cons_zero, List.set_cons_succ] at hq
        go_wp2_with fail
        replace H := H.box #[.int .i64 want'.xNext, .slice A9 n9 c9] 26
        with_reducible refine (hd_vah hi2 H (by repeat (first | with_reducible_and_instances exact .here | with_reducible refine .there ?_)) (by repeat (first | with_reducible_and_instances exact .here | with_reducible refine .there ?_)) (by repeat (first | with_reducible_and_instances exact .here | with_reducible refine .there ?_))).mono ?_
        rintro e w8 ⟨rfl, hb8⟩
        replace H := H.below hb8
        clear hb8
        (try clear hq); have hq := H.facts; simp only [factsOf, Pt.facts, CellsAt, Nat.add_zero, Nat.zero_add, Nat.reduceAdd, and_true, true_and, List.set_cons_zero, List.set_cons_succ] at hq
        go_wp2_with fail
        with_reducible refine (hd_sal H (by repeat (first | with_reducible_and_instances exact .here | with_reducible refine .there ?_)) (by repeat (first | with_reducible_and_instances exact .here | with_reducible refine .there ?_)) rfl).mono ?_
        rintro e w9 ⟨rfl, hb9⟩
        replace H := H.below hb9
        clear hb9
        (try clear hq); have hq := H.facts; simp only [factsOf, Pt.facts, CellsAt, Nat.add_zero, Nat.zero_add, Nat.reduceAdd, and_true, true_and, List.set_cons_zero, List.set_cons_succ] at hq
        go_wp2_with fail
        as_aux_lemma =>
          go_roundw
          case rel =>
            refine ⟨k + 1, a', want', h, R5, A2, c2, A4, c4, A5, c5, Aw', cw', by omega, by go_num, by go_num, ⟨by omega, by omega⟩, hi2, ?_⟩
            apply St.sub' (h := H)
            (repeat (first | exact Pick.nil | with_reducible_and_instances exact Del.here | apply Pick.cons | with_reducible apply Del.there))
          case measure => simp [intOf]; omega
      · simp only [if_true] at hi2
        (try clear hq); have hq := H.facts; simp only [factsOf, Pt.facts, CellsAt, Nat.add_zero, Nat.zero_add, Nat.reduceAdd, and_true, true_and, List.set_cons_zero, List.set_cons_succ] at hq
        go_wp2_with fail
        replace H := ((H.pull (k := 5) rfl).put6 (.int .i64 hx.xStage) (.int .i64 hx.xFrom.xNext) (.slice A2' hx.xFrom.xMessages.length c2') (.int .i64 hx.xTo.xNext) (.slice A4' hx.xTo.xMessages.length c4') (.slice A5' hx.xWaiting.length c5'))
        simp only [List.set_cons_zero, List.set_cons_succ] at H
        with_reducible refine St.anyC H ?_
        intro w6 H
        with_reducible refine (hd_loh hi2 H (by repeat (first | with_reducible_and_instances exact .here | with_reducible refine .there ?_)) (by repeat (first | with_reducible_and_instances exact .here | with_reducible refine .there ?_)) (by repeat (first | with_reducible_and_instances exact .here | with_reducible refine .there ?_))).mono ?_
        rintro e w7 ⟨A9, n9, c9, F9, rfl, ho9, hb9, hF9⟩
        replace H := H.addow hb9 ho9 hF9
        clear ho9 hb9 hF9
        (try clear hq); have hq := H.facts; simp only [factsOf, Pt.facts, CellsAt, Nat.add_zero, Nat.zero_add, Nat.reduceAdd, and_true, true_and, List.set_cons_zero, List.set_cons_succ] at hq
        go_wp2_with fail
        replace H := H.box #[.int .i64 want'.xNext, .slice A9 n9 c9] 26
        with_reducible refine (hd_vah hi2 H (by repeat (first | with_reducible_and_instances exact .here | with_reducible refine .there ?_)) (by repeat (first | with_reducible_and_instances exact .here | with_reducible refine .there ?_)) (by repeat (first | with_reducible_and_instances exact .here | with_reducible refine .there ?_))).mono ?_
        rintro e w8 ⟨rfl, hb8⟩
        replace H := H.below hb8
        clear hb8
        (try clear hq); have hq := H.facts; simp only [factsOf, Pt.facts, CellsAt, Nat.add_zero, Nat.zero_add, Nat.reduceAdd, and_true, true_and, List.set_cons_zero, List.set_cons_succ] at hq
        go_wp2_with fail
        with_reducible refine (hd_sal H (by repeat (first | with_reducible_and_instances exact .here | with_reducible refine .there ?_)) (by repeat (first | with_reducible_and_instances exact .here | with_reducible refine .there ?_)) rfl).mono ?_
        rintro e w9 ⟨rfl, hb9⟩
        replace H := H.below hb9
        clear hb9
        (try clear hq); have hq := H.facts; simp only [factsOf, Pt.facts, CellsAt, Nat.add_zero, Nat.zero_add, Nat.reduceAdd, and_true, true_and, List.set_cons_zero, List.set_cons_succ] at hq
        go_wp2_with fail
        as_aux_lemma =>
          go_roundw
          case rel =>
            refine ⟨k + 1, a', want', hx, R5, A2', c2', A4', c4', A5', c5', Aw', cw', by omega, by go_num, by go_num, ⟨by omega, by omega⟩, hi2, ?_⟩
            apply St.sub' (h := H)
            (repeat (first | exact Pick.nil | with_reducible_and_instances exact Del.here | apply Pick.cons | with_reducible apply Del.there))
          case measure => simp [intOf]; omega
    go_upto_if 55 with (fail)
    go_cut [55] (fun v55 wx => ∃ s : Bool, v55 = .bool s ∧ (s = false → v = 2 ∨ v = 3 ∨ v = 4 ∨ v = 5) ∧ St (Lo W.heap.size) R4 W wx [.bx wr.heap.size #[.int .i64 h.xStage, .int .i64 h.xFrom.xNext, .slice A2 h.xFrom.xMessages.length c2, .int .i64 h.xTo.xNext, .slice A4 h.xTo.xMessages.length c4, .slice A5 h.xWaiting.length c5] 30, .ro (bytes m) (.slice A1 n1 c1), .bx w3.heap.size #[.int .i64 h.xStage, .int .i64 h.xFrom.xNext, .slice A2 h.xFrom.xMessages.length c2, .int .i64 h.xTo.xNext, .slice A4 h.xTo.xMessages.length c4, .slice A5 h.xWaiting.length c5] 30, .ro (Message.s true h.xFrom.xMessages) (.slice A2 h.xFrom.xMessages.length c2), .ro (Message.s true h.xTo.xMessages) (.slice A4 h.xTo.xMessages.length c4), .ro (Draft.s true h.xWaiting) (.slice A5 h.xWaiting.length c5), .bx (w3.heap.size + 1) #[.int .i64 want.xNext, .slice Aw want.xMessages.length cw] 26, .ro (Message.s true want.xMessages) (.slice Aw want.xMessages.length cw)])
    case rest =>
      obtain ⟨s, rfl, hv, H⟩ := hcut
      cases s
      · have hv := hv rfl
        (try clear hq); have hq := H.facts; simp only [factsOf, Pt.facts, CellsAt, Nat.add_zero, Nat.zero_add, Nat.reduceAdd, and_true, true_and, List.set_cons_zero, List.set_cons_succ] at hq
        rcases hv with rfl | rfl | rfl | rfl
        · skip
          have hc0 := at8_nn m ((k : Int) + 10) (n := 6) (by omega)
          have hc6 := at8_lt m ((k : Int) + 10) (n := 6) (by omega)
          have HA2 := HA2
          generalize hcc : at8 m ((k : Int) + 10) 6 = cc at *
          have HC6 := fun (w : World) (ps : List Pt) (R : Nat → Prop) (H : St (Lo W.heap.size) R W w ps) (h1 : At (.ro (bytes m) (.slice A1 n1 c1)) ps) => HA2 k 6 w ps R H h1 (by omega) (by decide) (by decide)
          rw [hcc] at HC6
          have hwr : IntKind.i64.wrap ((k : Int) + 10) = (k : Int) + 10 := IntWalk.i64_in _ (by omega)
          rw [← hwr] at HC6
          clear hcc hwr
          obtain ⟨h', hf, hi2⟩ := hi.copyH (c := cc) ⟨hc0, by omega⟩
          cases hs : (h.xStage == 3)
          · have hs2 : (h.xStage != 3) = true := by simp [bne, hs]
            rw [hs] at hf hi2
            simp only [Bool.not_false] at hf hi2
            go_wp2_with fail
            with_reducible refine St.any H ?_
            intro w5 H
            (try clear hq); have hq := H.facts; simp only [factsOf, Pt.facts, CellsAt, Nat.add_zero, Nat.zero_add, Nat.reduceAdd, and_true, true_and, List.set_cons_zero, List.set_cons_succ] at hq
            go_region_law ((first
              | (refine step_enter (f := 11) (by rfl) (by rfl) (fun _ _ => by rfl) [.slice A1 n1 c1, .int .i64 (IntKind.i64.wrap ((k : Int) + 10)), .int .i64 6] (by rfl) (HC6 _ _ _ H.drew (by repeat (first | with_reducible_and_instances exact .here | with_reducible refine .there ?_))) ?_; rintro e w6 ⟨rfl, rfl⟩; refine ⟨_, rfl, ?_⟩)
              | (refine step_enter (f := 15) (by rfl) (by rfl) (fun _ _ => by rfl) [.agg #[.int .i64 h.xStage, .int .i64 h.xFrom.xNext, .slice A2 h.xFrom.xMessages.length c2, .int .i64 h.xTo.xNext, .slice A4 h.xTo.xMessages.length c4, .slice A5 h.xWaiting.length c5], .int .i64 cc] (by rfl) (hd_copy hi hf H.drew (by repeat (first | with_reducible_and_instances exact .here | with_reducible refine .there ?_)) (by repeat (first | with_reducible_and_instances exact .here | with_reducible refine .there ?_)) (by repeat (first | with_reducible_and_instances exact .here | with_reducible refine .there ?_))) ?_; rintro e w6 ⟨us5, F5, rfl, hO5, hF5, hb5⟩; obtain ⟨R5, A2', c2', A4', c4', A5', c5', rfl, H⟩ := Hand.take H.drew hb5 hO5 hF5; clear hO5 hF5 hb5; (try clear hq); have hq := H.facts; simp only [factsOf, Pt.facts, CellsAt, Nat.add_zero, Nat.zero_add, Nat.reduceAdd, and_true, true_and, List.set_cons_zero, List.set_cons_succ] at hq; refine ⟨_, rfl, ?_⟩)))
            all_goals
              replace hi2 := hi2 (by trivial)
              (try clear hq); have hq := H.facts; simp only [factsOf, Pt.facts, CellsAt, Nat.add_zero, Nat.zero_add, Nat.reduceAdd, and_true, true_and, List.set_cons_zero, List.set_cons_succ] at hq
              go_wp2_with fail
              replace H := ((H.pull (k := 3) rfl).put6 (.int .i64 h'.xStage) (.int .i64 h'.xFrom.xNext) (.slice A2' h'.xFrom.xMessages.length c2') (.int .i64 h'.xTo.xNext) (.slice A4' h'.xTo.xMessages.length c4') (.slice A5' h'.xWaiting.length c5'))
              simp only [List.set_cons_zero, List.set_cons_succ] at H
              as_aux_lemma =>
                go_meet
                refine ⟨true, a, want, h', R5, A2', c2', A4', c4', A5', c5', Aw, cw, rfl, rfl, ⟨by omega, by omega⟩, hi2, ?_⟩
                apply St.sub' (h := H)
                (repeat (first | exact Pick.nil | with_reducible_and_instances exact Del.here | apply Pick.cons | with_reducible apply Del.there))
          · have hs2 : (h.xStage != 3) = false := by simp [bne, hs]
            rw [hs] at hf hi2
            simp only [Bool.not_true] at hf hi2
            go_wp2_with fail
            with_reducible refine St.any H ?_
            intro w5 H
            (try clear hq); have hq := H.facts; simp only [factsOf, Pt.facts, CellsAt, Nat.add_zero, Nat.zero_add, Nat.reduceAdd, and_true, true_and, List.set_cons_zero, List.set_cons_succ] at hq
            go_region_law ((first
              | (refine step_enter (f := 11) (by rfl) (by rfl) (fun _ _ => by rfl) [.slice A1 n1 c1, .int .i64 (IntKind.i64.wrap ((k : Int) + 10)), .int .i64 6] (by rfl) (HC6 _ _ _ H.drew (by repeat (first | with_reducible_and_instances exact .here | with_reducible refine .there ?_))) ?_; rintro e w6 ⟨rfl, rfl⟩; refine ⟨_, rfl, ?_⟩)
              | (refine step_enter (f := 15) (by rfl) (by rfl) (fun _ _ => by rfl) [.agg #[.int .i64 h.xStage, .int .i64 h.xFrom.xNext, .slice A2 h.xFrom.xMessages.length c2, .int .i64 h.xTo.xNext, .slice A4 h.xTo.xMessages.length c4, .slice A5 h.xWaiting.length c5], .int .i64 cc] (by rfl) (hd_copy hi hf H.drew (by repeat (first | with_reducible_and_instances exact .here | with_reducible refine .there ?_)) (by repeat (first | with_reducible_and_instances exact .here | with_reducible refine .there ?_)) (by repeat (first | with_reducible_and_instances exact .here | with_reducible refine .there ?_))) ?_; rintro e w6 ⟨us5, F5, rfl, hO5, hF5, hb5⟩; obtain ⟨R5, A2', c2', A4', c4', A5', c5', rfl, H⟩ := Hand.take H.drew hb5 hO5 hF5; clear hO5 hF5 hb5; (try clear hq); have hq := H.facts; simp only [factsOf, Pt.facts, CellsAt, Nat.add_zero, Nat.zero_add, Nat.reduceAdd, and_true, true_and, List.set_cons_zero, List.set_cons_succ] at hq; refine ⟨_, rfl, ?_⟩)))
            all_goals
              clear hi2
              (try clear hq); have hq := H.facts; simp only [factsOf, Pt.facts, CellsAt, Nat.add_zero, Nat.zero_add, Nat.reduceAdd, and_true, true_and, List.set_cons_zero, List.set_cons_succ] at hq
              go_wp2_with fail
              replace H := ((H.pull (k := 3) rfl).put6 (.int .i64 h'.xStage) (.int .i64 h'.xFrom.xNext) (.slice A2' h'.xFrom.xMessages.length c2') (.int .i64 h'.xTo.xNext) (.slice A4' h'.xTo.xMessages.length c4') (.slice A5' h'.xWaiting.length c5'))
              simp only [List.set_cons_zero, List.set_cons_succ] at H
              as_aux_lemma =>
                go_meet
                refine ⟨false, a, want, h', R5, A2', c2', A4', c4', A5', c5', Aw, cw, rfl, rfl, ⟨by omega, by omega⟩, hi.wait1, ?_⟩
                apply St.sub' (h := H)
                (repeat (first | exact Pick.nil | with_reducible_and_instances exact Del.here | apply Pick.cons | with_reducible apply Del.there))
        · skip
          obtain ⟨h', hf, hi2⟩ := hi.freezeH
          go_wp2_with fail
          with_reducible refine (hd_frz hi hf H (by repeat (first | with_reducible_and_instances exact .here | with_reducible refine .there ?_)) (by repeat (first | with_reducible_and_instances exact .here | with_reducible refine .there ?_)) (by repeat (first | with_reducible_and_instances exact .here | with_reducible refine .there ?_))).mono ?_
          rintro e w5 ⟨us5, F5, rfl, hO5, hF5, hb5⟩
          obtain ⟨R5, A2', c2', A4', c4', A5', c5', rfl, H⟩ := Hand.take H hb5 hO5 hF5
          clear hO5 hF5 hb5
          cases hs : (h.xStage == 1)
          · rw [hs] at hi2
            clear hi2
            (try clear hq); have hq := H.facts; simp only [factsOf, Pt.facts, CellsAt, Nat.add_zero, Nat.zero_add, Nat.reduceAdd, and_true, true_and, List.set_cons_zero, List.set_cons_succ] at hq
            go_wp2_with fail
            replace H := ((H.pull (k := 3) rfl).put6 (.int .i64 h'.xStage) (.int .i64 h'.xFrom.xNext) (.slice A2' h'.xFrom.xMessages.length c2') (.int .i64 h'.xTo.xNext) (.slice A4' h'.xTo.xMessages.length c4') (.slice A5' h'.xWaiting.length c5'))
            simp only [List.set_cons_zero, List.set_cons_succ] at H
            as_aux_lemma =>
              go_meet
              refine ⟨false, a, want, h', R5, A2', c2', A4', c4', A5', c5', Aw, cw, rfl, rfl, ⟨by omega, by omega⟩, hi.wait1, ?_⟩
              apply St.sub' (h := H)
              (repeat (first | exact Pick.nil | with_reducible_and_instances exact Del.here | apply Pick.cons | with_reducible apply Del.there))
          · rw [hs] at hi2
            replace hi2 := hi2 (by trivial)
            (try clear hq); have hq := H.facts; simp only [factsOf, Pt.facts, CellsAt, Nat.add_zero, Nat.zero_add, Nat.reduceAdd, and_true, true_and, List.set_cons_zero, List.set_cons_succ] at hq
            go_wp2_with fail
            replace H := ((H.pull (k := 3) rfl).put6 (.int .i64 h'.xStage) (.int .i64 h'.xFrom.xNext) (.slice A2' h'.xFrom.xMessages.length c2') (.int .i64 h'.xTo.xNext) (.slice A4' h'.xTo.xMessages.length c4') (.slice A5' h'.xWaiting.length c5'))
            simp only [List.set_cons_zero, List.set_cons_succ] at H
            as_aux_lemma =>
              go_meet
              refine ⟨true, a, want, h', R5, A2', c2', A4', c4', A5', c5', Aw, cw, rfl, rfl, ⟨by omega, by omega⟩, hi2, ?_⟩
              apply St.sub' (h := H)
              (repeat (first | exact Pick.nil | with_reducible_and_instances exact Del.here | apply Pick.cons | with_reducible apply Del.there))
        · skip
          obtain ⟨h', hf, hi2⟩ := hi.finishH
          go_wp2_with fail
          with_reducible refine (hd_fin hi hf H (by repeat (first | with_reducible_and_instances exact .here | with_reducible refine .there ?_)) (by repeat (first | with_reducible_and_instances exact .here | with_reducible refine .there ?_)) (by repeat (first | with_reducible_and_instances exact .here | with_reducible refine .there ?_))).mono ?_
          rintro e w5 ⟨us5, F5, rfl, hO5, hF5, hb5⟩
          obtain ⟨R5, A2', c2', A4', c4', A5', c5', rfl, H⟩ := Hand.take H hb5 hO5 hF5
          clear hO5 hF5 hb5
          cases hs : (h.xStage == 2)
          · rw [hs] at hi2
            clear hi2
            (try clear hq); have hq := H.facts; simp only [factsOf, Pt.facts, CellsAt, Nat.add_zero, Nat.zero_add, Nat.reduceAdd, and_true, true_and, List.set_cons_zero, List.set_cons_succ] at hq
            go_wp2_with fail
            replace H := ((H.pull (k := 3) rfl).put6 (.int .i64 h'.xStage) (.int .i64 h'.xFrom.xNext) (.slice A2' h'.xFrom.xMessages.length c2') (.int .i64 h'.xTo.xNext) (.slice A4' h'.xTo.xMessages.length c4') (.slice A5' h'.xWaiting.length c5'))
            simp only [List.set_cons_zero, List.set_cons_succ] at H
            as_aux_lemma =>
              go_meet
              refine ⟨false, a, want, h', R5, A2', c2', A4', c4', A5', c5', Aw, cw, rfl, rfl, ⟨by omega, by omega⟩, hi.wait1, ?_⟩
              apply St.sub' (h := H)
              (repeat (first | exact Pick.nil | with_reducible_and_instances exact Del.here | apply Pick.cons | with_reducible apply Del.there))
          · cases hl : decide (h.xTo.xMessages.length = h.xFrom.xMessages.length)
            · have hl1 : ((h.xTo.xMessages.length : Int) == (h.xFrom.xMessages.length : Int)) = false := by simp at hl ⊢; omega
              have hl2 : (h.xTo.xMessages.length == h.xFrom.xMessages.length) = false := by simpa using hl
              rw [hs, hl] at hi2
              clear hi2
              (try clear hq); have hq := H.facts; simp only [factsOf, Pt.facts, CellsAt, Nat.add_zero, Nat.zero_add, Nat.reduceAdd, and_true, true_and, List.set_cons_zero, List.set_cons_succ] at hq
              go_wp2_with fail
              replace H := ((H.pull (k := 3) rfl).put6 (.int .i64 h'.xStage) (.int .i64 h'.xFrom.xNext) (.slice A2' h'.xFrom.xMessages.length c2') (.int .i64 h'.xTo.xNext) (.slice A4' h'.xTo.xMessages.length c4') (.slice A5' h'.xWaiting.length c5'))
              simp only [List.set_cons_zero, List.set_cons_succ] at H
              as_aux_lemma =>
                go_meet
                refine ⟨false, a, want, h', R5, A2', c2', A4', c4', A5', c5', Aw, cw, rfl, rfl, ⟨by omega, by omega⟩, hi.wait1, ?_⟩
                apply St.sub' (h := H)
                (repeat (first | exact Pick.nil | with_reducible_and_instances exact Del.here | apply Pick.cons | with_reducible apply Del.there))
            · have hl1 : ((h.xTo.xMessages.length : Int) == (h.xFrom.xMessages.length : Int)) = true := by simp at hl ⊢; omega
              have hl2 : (h.xTo.xMessages.length == h.xFrom.xMessages.length) = true := by simpa using hl
              rw [hs, hl] at hi2
              replace hi2 := hi2 (by trivial)
              (try clear hq); have hq := H.facts; simp only [factsOf, Pt.facts, CellsAt, Nat.add_zero, Nat.zero_add, Nat.reduceAdd, and_true, true_and, List.set_cons_zero, List.set_cons_succ] at hq
              go_wp2_with fail
              replace H := ((H.pull (k := 3) rfl).put6 (.int .i64 h'.xStage) (.int .i64 h'.xFrom.xNext) (.slice A2' h'.xFrom.xMessages.length c2') (.int .i64 h'.xTo.xNext) (.slice A4' h'.xTo.xMessages.length c4') (.slice A5' h'.xWaiting.length c5'))
              simp only [List.set_cons_zero, List.set_cons_succ] at H
              as_aux_lemma =>
                go_meet
                refine ⟨true, a, want, h', R5, A2', c2', A4', c4', A5', c5', Aw, cw, rfl, rfl, ⟨by omega, by omega⟩, hi2, ?_⟩
                apply St.sub' (h := H)
                (repeat (first | exact Pick.nil | with_reducible_and_instances exact Del.here | apply Pick.cons | with_reducible apply Del.there))
        · skip
          obtain ⟨h', hf, hi2⟩ := hi.brkH
          go_wp2_with fail
          with_reducible refine (hd_brk hi hf H (by repeat (first | with_reducible_and_instances exact .here | with_reducible refine .there ?_)) (by repeat (first | with_reducible_and_instances exact .here | with_reducible refine .there ?_)) (by repeat (first | with_reducible_and_instances exact .here | with_reducible refine .there ?_))).mono ?_
          rintro e w5 ⟨us5, F5, rfl, hO5, hF5, hb5⟩
          obtain ⟨R5, A2', c2', A4', c4', A5', c5', rfl, H⟩ := Hand.take H hb5 hO5 hF5
          clear hO5 hF5 hb5
          cases hs : (h.xStage == 1)
          · cases ht : (h.xStage == 2)
            · rw [hs, ht] at hi2
              clear hi2
              (try clear hq); have hq := H.facts; simp only [factsOf, Pt.facts, CellsAt, Nat.add_zero, Nat.zero_add, Nat.reduceAdd, and_true, true_and, List.set_cons_zero, List.set_cons_succ] at hq
              go_wp2_with fail
              replace H := ((H.pull (k := 3) rfl).put6 (.int .i64 h'.xStage) (.int .i64 h'.xFrom.xNext) (.slice A2' h'.xFrom.xMessages.length c2') (.int .i64 h'.xTo.xNext) (.slice A4' h'.xTo.xMessages.length c4') (.slice A5' h'.xWaiting.length c5'))
              simp only [List.set_cons_zero, List.set_cons_succ] at H
              as_aux_lemma =>
                go_meet
                refine ⟨false, a, want, h', R5, A2', c2', A4', c4', A5', c5', Aw, cw, rfl, rfl, ⟨by omega, by omega⟩, hi.wait1, ?_⟩
                apply St.sub' (h := H)
                (repeat (first | exact Pick.nil | with_reducible_and_instances exact Del.here | apply Pick.cons | with_reducible apply Del.there))
            · rw [hs, ht] at hi2
              replace hi2 := hi2 (by trivial)
              (try clear hq); have hq := H.facts; simp only [factsOf, Pt.facts, CellsAt, Nat.add_zero, Nat.zero_add, Nat.reduceAdd, and_true, true_and, List.set_cons_zero, List.set_cons_succ] at hq
              go_wp2_with fail
              replace H := ((H.pull (k := 3) rfl).put6 (.int .i64 h'.xStage) (.int .i64 h'.xFrom.xNext) (.slice A2' h'.xFrom.xMessages.length c2') (.int .i64 h'.xTo.xNext) (.slice A4' h'.xTo.xMessages.length c4') (.slice A5' h'.xWaiting.length c5'))
              simp only [List.set_cons_zero, List.set_cons_succ] at H
              as_aux_lemma =>
                go_meet
                refine ⟨true, a, want, h', R5, A2', c2', A4', c4', A5', c5', Aw, cw, rfl, rfl, ⟨by omega, by omega⟩, hi2, ?_⟩
                apply St.sub' (h := H)
                (repeat (first | exact Pick.nil | with_reducible_and_instances exact Del.here | apply Pick.cons | with_reducible apply Del.there))
          · rw [hs] at hi2
            replace hi2 := hi2 (by trivial)
            (try clear hq); have hq := H.facts; simp only [factsOf, Pt.facts, CellsAt, Nat.add_zero, Nat.zero_add, Nat.reduceAdd, and_true, true_and, List.set_cons_zero, List.set_cons_succ] at hq
            go_wp2_with fail
            replace H := ((H.pull (k := 3) rfl).put6 (.int .i64 h'.xStage) (.int .i64 h'.xFrom.xNext) (.slice A2' h'.xFrom.xMessages.length c2') (.int .i64 h'.xTo.xNext) (.slice A4' h'.xTo.xMessages.length c4') (.slice A5' h'.xWaiting.length c5'))
            simp only [List.set_cons_zero, List.set_cons_succ] at H
            as_aux_lemma =>
              go_meet
              refine ⟨true, a, want, h', R5, A2', c2', A4', c4', A5', c5', Aw, cw, rfl, rfl, ⟨by omega, by omega⟩, hi2, ?_⟩
              apply St.sub' (h := H)
              (repeat (first | exact Pick.nil | with_reducible_and_instances exact Del.here | apply Pick.cons | with_reducible apply Del.there))
      · clear hv
        (try clear hq); have hq := H.facts; simp only [factsOf, Pt.facts, CellsAt, Nat.add_zero, Nat.zero_add, Nat.reduceAdd, and_true, true_and, List.set_cons_zero, List.set_cons_succ] at hq
        have hq0 := at8_nn m ((k : Int) + 10) (n := 5) (by omega)
        have hq5 := at8_lt m ((k : Int) + 10) (n := 5) (by omega)
        go_wp2_with fail
        refine (HA2 k 5 _ _ _ H (by repeat (first | with_reducible_and_instances exact .here | with_reducible refine .there ?_)) (by omega) (by decide) (by decide)).mono ?_
        rintro e w5 ⟨rfl, rfl⟩
        generalize at8 m ((k : Int) + 10) 5 = q at *
        go_upto_region 21 with (fail)
        go_cut [13] (fun v13 wx => ∃ (g : Nat) (ds : Int) (dt : ByteArray), v13 = .pointer (some ⟨g, 0, none⟩) ∧ (isMem ds = true ∧ isText dt = true ∧ dt.size ≤ 10) ∧ wr.heap.size < g ∧ St (Lo W.heap.size) R4 W wx [.bx g #[.int .i64 ds, .int .i64 (a + q), .string dt] 35, .bx wr.heap.size #[.int .i64 h.xStage, .int .i64 h.xFrom.xNext, .slice A2 h.xFrom.xMessages.length c2, .int .i64 h.xTo.xNext, .slice A4 h.xTo.xMessages.length c4, .slice A5 h.xWaiting.length c5] 30, .ro (bytes m) (.slice A1 n1 c1), .bx w3.heap.size #[.int .i64 h.xStage, .int .i64 h.xFrom.xNext, .slice A2 h.xFrom.xMessages.length c2, .int .i64 h.xTo.xNext, .slice A4 h.xTo.xMessages.length c4, .slice A5 h.xWaiting.length c5] 30, .ro (Message.s true h.xFrom.xMessages) (.slice A2 h.xFrom.xMessages.length c2), .ro (Message.s true h.xTo.xMessages) (.slice A4 h.xTo.xMessages.length c4), .ro (Draft.s true h.xWaiting) (.slice A5 h.xWaiting.length c5), .bx (w3.heap.size + 1) #[.int .i64 want.xNext, .slice Aw want.xMessages.length cw] 26, .ro (Message.s true want.xMessages) (.slice Aw want.xMessages.length cw)])
        case rest =>
          obtain ⟨g, ds, dt, rfl, ⟨hd1, hd2, hd3⟩, hg, H⟩ := hcut
          have hsz : dt.size ≤ maxLen := by simp only [maxLen]; omega
          obtain ⟨hpok, h', hf, hi2⟩ := hi.sayH (d := ⟨ds, a + q, dt⟩) ⟨hd1, by show a ≤ a + q; omega, by show 0 ≤ a + q; omega, by show a + q ≤ 1000000; omega, hd2⟩ (by omega)
          simp only at hpok hi2
          (try clear hq); have hq := H.facts; simp only [factsOf, Pt.facts, CellsAt, Nat.add_zero, Nat.zero_add, Nat.reduceAdd, and_true, true_and, List.set_cons_zero, List.set_cons_succ] at hq
          go_wp2_with fail
          with_reducible refine (hd_post hi.wok hpok hsz H (by repeat (first | with_reducible_and_instances exact .here | with_reducible refine .there ?_))).mono ?_
          rintro e w7 ⟨A7, n7, c7, F7, rfl, hO7, hb7, hF7⟩
          replace H := H.addow hb7 hO7 hF7
          clear hO7 hb7 hF7 hpok
          generalize post0 want ds (a + q) dt = want' at *
          obtain ⟨R7, H, -⟩ := H.freeze
          have hn7 : n7 = want'.xMessages.length := by
            have h := St.lenR (e := 99) (sz := 8) (rows := want'.xMessages.map (Message.d true)) H (A := A7) (q := n7) (c := c7) .here
            simpa using h.1
          subst hn7
          have hb7 := (H.bx_new (b := g) (by repeat (first | with_reducible_and_instances exact .here | with_reducible refine .there ?_))).2
          have hb8 := (H.bx_new (b := wr.heap.size) (by repeat (first | with_reducible_and_instances exact .here | with_reducible refine .there ?_))).2
          have hn1 : ¬ w7.heap.size = wr.heap.size := by omega
          have hn2 : ¬ wr.heap.size = w7.heap.size := by omega
          have hn3 : ¬ w7.heap.size = w3.heap.size := by omega
          have hn4 : ¬ w7.heap.size = w3.heap.size + 1 := by omega
          have hn5 : ¬ wr.heap.size = w3.heap.size + 1 := by omega
          have hn6 : ¬ w3.heap.size + 1 = wr.heap.size := by omega
          (try clear hq); have hq := H.facts; simp only [factsOf, Pt.facts, CellsAt, Nat.add_zero, Nat.zero_add, Nat.reduceAdd, and_true, true_and, List.set_cons_zero, List.set_cons_succ] at hq
          go_wp2_with fail
          replace H := H.box #[.int .i64 want'.xNext, .slice A7 want'.xMessages.length c7] 26
          with_reducible refine (hd_say hi hf hsz H (by repeat (first | with_reducible_and_instances exact .here | with_reducible refine .there ?_)) (by repeat (first | with_reducible_and_instances exact .here | with_reducible refine .there ?_)) (by repeat (first | with_reducible_and_instances exact .here | with_reducible refine .there ?_))).mono ?_
          rintro e w8 ⟨us5, F5, rfl, hO5, hF5, hb5⟩
          obtain ⟨R5, A2', c2', A4', c4', A5', c5', rfl, H⟩ := Hand.take H hb5 hO5 hF5
          clear hO5 hF5 hb5
          (try clear hq); have hq := H.facts; simp only [factsOf, Pt.facts, CellsAt, Nat.add_zero, Nat.zero_add, Nat.reduceAdd, and_true, true_and, List.set_cons_zero, List.set_cons_succ] at hq
          go_wp2_with fail
          replace H := ((H.pull (k := 6) rfl).put6 (.int .i64 h'.xStage) (.int .i64 h'.xFrom.xNext) (.slice A2' h'.xFrom.xMessages.length c2') (.int .i64 h'.xTo.xNext) (.slice A4' h'.xTo.xMessages.length c4') (.slice A5' h'.xWaiting.length c5'))
          simp only [List.set_cons_zero, List.set_cons_succ] at H
          replace H := ((H.pull (k := 13) rfl).put' 0 (.int .i64 want'.xNext) #[.int .i64 want'.xNext, .slice Aw want.xMessages.length cw] rfl).put' 1 (.slice A7 want'.xMessages.length c7) #[.int .i64 want'.xNext, .slice A7 want'.xMessages.length c7] rfl
          simp only [List.set_cons_zero, List.set_cons_succ] at H
          as_aux_lemma =>
            go_meet
            refine ⟨true, (a + q), want', h', R5, A2', c2', A4', c4', A5', c5', A7, c7, rfl, rfl, ⟨by omega, by omega⟩, hi2, ?_⟩
            apply St.sub' (h := H)
            (repeat (first | exact Pick.nil | with_reducible_and_instances exact Del.here | apply Pick.cons | with_reducible apply Del.there))
        rcases Nat.lt_or_ge n1 k with hkn | hkn
        · have hkn' : (n1 : Int) < (k : Int) := by omega
          by_cases hcl : n1 = c1
          · subst hcl
            go_wp2_with fail
            with_reducible refine (HD0 0 rfl (a + q) _ _ _ H (by repeat (first | with_reducible_and_instances exact .here | with_reducible refine .there ?_))).mono ?_
            rintro e w6 ⟨d, rfl, hd, hb6⟩
            replace H := H.below hb6
            clear hb6
            obtain ⟨ds, da, dt⟩ := d
            obtain ⟨hda, hd1, hd2, hd3⟩ := hd
            simp only at hda hd1 hd2 hd3 ⊢
            subst hda
            have hb6 := (H.bx_new (b := wr.heap.size) (by repeat (first | with_reducible_and_instances exact .here | with_reducible refine .there ?_))).2
            (try clear hq); have hq := H.facts; simp only [factsOf, Pt.facts, CellsAt, Nat.add_zero, Nat.zero_add, Nat.reduceAdd, and_true, true_and, List.set_cons_zero, List.set_cons_succ] at hq
            go_wp2_with fail
            replace H := H.box #[.int .i64 ds, .int .i64 (a + q), .string dt] 35
            as_aux_lemma =>
              go_meet
              refine ⟨w6.heap.size, ds, dt, rfl, ⟨hd1, hd2, hd3⟩, hb6, ?_⟩
              apply St.sub' (h := H)
              (repeat (first | exact Pick.nil | with_reducible_and_instances exact Del.here | apply Pick.cons | with_reducible apply Del.there))
          · have hcl2 : ¬ c1 = n1 := fun h => hcl h.symm
            have HDn := fun (w : World) (ps : List Pt) (R : Nat → Prop) (H : St (Lo W.heap.size) R W w ps) (h1 : At (.ro (bytes m) (.slice A1 n1 c1)) ps) => HD n1 (Nat.le_refl _) (a + q) w ps R H h1
            rw [Nat.sub_self] at HDn
            go_wp2_with fail
            with_reducible refine (HDn _ _ _ H (by repeat (first | with_reducible_and_instances exact .here | with_reducible refine .there ?_))).mono ?_
            rintro e w6 ⟨d, rfl, hd, hb6⟩
            replace H := H.below hb6
            clear hb6
            obtain ⟨ds, da, dt⟩ := d
            obtain ⟨hda, hd1, hd2, hd3⟩ := hd
            simp only at hda hd1 hd2 hd3 ⊢
            subst hda
            have hb6 := (H.bx_new (b := wr.heap.size) (by repeat (first | with_reducible_and_instances exact .here | with_reducible refine .there ?_))).2
            (try clear hq); have hq := H.facts; simp only [factsOf, Pt.facts, CellsAt, Nat.add_zero, Nat.zero_add, Nat.reduceAdd, and_true, true_and, List.set_cons_zero, List.set_cons_succ] at hq
            go_wp2_with fail
            replace H := H.box #[.int .i64 ds, .int .i64 (a + q), .string dt] 35
            as_aux_lemma =>
              go_meet
              refine ⟨w6.heap.size, ds, dt, rfl, ⟨hd1, hd2, hd3⟩, hb6, ?_⟩
              apply St.sub' (h := H)
              (repeat (first | exact Pick.nil | with_reducible_and_instances exact Del.here | apply Pick.cons | with_reducible apply Del.there))
        · have hkn' : (k : Int) ≤ (n1 : Int) := by omega
          by_cases hcl : k = c1
          · subst hcl
            go_wp2_with fail
            with_reducible refine (HD0 0 rfl (a + q) _ _ _ H (by repeat (first | with_reducible_and_instances exact .here | with_reducible refine .there ?_))).mono ?_
            rintro e w6 ⟨d, rfl, hd, hb6⟩
            replace H := H.below hb6
            clear hb6
            obtain ⟨ds, da, dt⟩ := d
            obtain ⟨hda, hd1, hd2, hd3⟩ := hd
            simp only at hda hd1 hd2 hd3 ⊢
            subst hda
            have hb6 := (H.bx_new (b := wr.heap.size) (by repeat (first | with_reducible_and_instances exact .here | with_reducible refine .there ?_))).2
            (try clear hq); have hq := H.facts; simp only [factsOf, Pt.facts, CellsAt, Nat.add_zero, Nat.zero_add, Nat.reduceAdd, and_true, true_and, List.set_cons_zero, List.set_cons_succ] at hq
            go_wp2_with fail
            replace H := H.box #[.int .i64 ds, .int .i64 (a + q), .string dt] 35
            as_aux_lemma =>
              go_meet
              refine ⟨w6.heap.size, ds, dt, rfl, ⟨hd1, hd2, hd3⟩, hb6, ?_⟩
              apply St.sub' (h := H)
              (repeat (first | exact Pick.nil | with_reducible_and_instances exact Del.here | apply Pick.cons | with_reducible apply Del.there))
          · have hcl2 : ¬ c1 = k := fun h => hcl h.symm
            go_wp2_with fail
            with_reducible refine (HD k hkn (a + q) _ _ _ H (by repeat (first | with_reducible_and_instances exact .here | with_reducible refine .there ?_))).mono ?_
            rintro e w6 ⟨d, rfl, hd, hb6⟩
            replace H := H.below hb6
            clear hb6
            obtain ⟨ds, da, dt⟩ := d
            obtain ⟨hda, hd1, hd2, hd3⟩ := hd
            simp only at hda hd1 hd2 hd3 ⊢
            subst hda
            have hb6 := (H.bx_new (b := wr.heap.size) (by repeat (first | with_reducible_and_instances exact .here | with_reducible refine .there ?_))).2
            (try clear hq); have hq := H.facts; simp only [factsOf, Pt.facts, CellsAt, Nat.add_zero, Nat.zero_add, Nat.reduceAdd, and_true, true_and, List.set_cons_zero, List.set_cons_succ] at hq
            go_wp2_with fail
            replace H := H.box #[.int .i64 ds, .int .i64 (a + q), .string dt] 35
            as_aux_lemma =>
              go_meet
              refine ⟨w6.heap.size, ds, dt, rfl, ⟨hd1, hd2, hd3⟩, hb6, ?_⟩
              apply St.sub' (h := H)
              (repeat (first | exact Pick.nil | with_reducible_and_instances exact Del.here | apply Pick.cons | with_reducible apply Del.there))
    rcases hv with rfl | rfl | rfl | rfl | rfl | rfl
    all_goals
      go_wp2_with fail
      as_aux_lemma =>
        go_meet
        refine ⟨_, rfl, by decide, ?_⟩
        apply St.sub' (h := H)
        (repeat (first | exact Pick.nil | with_reducible_and_instances exact Del.here | apply Pick.cons | with_reducible apply Del.there))
end FnHanded
end Go.Proofs.Ytafihplbchofoaa

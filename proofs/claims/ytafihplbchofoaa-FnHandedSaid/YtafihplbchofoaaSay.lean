/- Drafts that are posted, one after another: the program's and the reference's. -/
import Derived.Test.YtafihplbchofoaaSPost
import Derived.Test.YtafihplbchofoaaYDraft
import Derived.Test.YtafihplbchofoaaAges
import Derived.Deep.RegionHeld3
namespace Go.Proofs.Ytafihplbchofoaa
open Go.ChangeShapes Go.WideShapes Go.ChangeAt Go.RowKit Go.Dt
set_option linter.unusedVariables false
set_option linter.unusedSimpArgs false
def sayOne (x : Log) (d : Draft) : Option Log := if (post0 x d.xSender d.xAt d.xText).ok = true then some (post0 x d.xSender d.xAt d.xText) else none
def say : Log → List Draft → Option Log
  | l, [] => some l
  | l, d :: ds => (sayOne l d).bind fun x => say x ds
def said (l : Log) (ds : List Draft) : Log × Bool := match say l ds with | some x => (x, true) | none => (⟨0, []⟩, false)
theorem say_append (l : Log) (a b : List Draft) : say l (a ++ b) = (say l a).bind fun x => say x b := by
  induction a generalizing l with
  | nil => rfl
  | cons d a ih =>
    show (sayOne l d).bind _ = ((sayOne l d).bind _).bind _
    rw [Option.bind_assoc]
    congr 1
    funext x
    exact ih x
theorem say_succ {l x : Log} {ds : List Draft} {j : Nat} {d : Draft} (h : say l (ds.take j) = some x) (hd : ds[j]? = some d) : say l (ds.take (j + 1)) = sayOne x d := by
  rw [List.take_add_one, hd]
  show say l (ds.take j ++ [d]) = _
  rw [say_append, h]
  show (sayOne x d).bind (fun x => some x) = _
  cases sayOne x d <;> rfl
theorem said_no {l x : Log} {ds : List Draft} {j : Nat} {d : Draft} (h : say l (ds.take j) = some x) (hd : ds[j]? = some d) (hn : ¬ (post0 x d.xSender d.xAt d.xText).ok = true) : said l ds = (⟨0, []⟩, false) := by
  have : say l ds = none := by
    rw [← List.take_append_drop (j + 1) ds, say_append, say_succ h hd]
    unfold sayOne
    rw [if_neg hn]
    rfl
  unfold said
  rw [this]
theorem said_yes {l x : Log} {ds : List Draft} (h : say l ds = some x) : said l ds = (x, true) := by unfold said; rw [h]
/-- What a log must be for the walks: no counter runs over, no text is too long. -/
def Log.fine (x : Log) : Prop := 0 ≤ x.xNext ∧ x.xNext ≤ 2000000000 ∧ x.xMessages.length ≤ 1048576 ∧ ∀ m ∈ x.xMessages, m.xText.size ≤ maxLen ∧ m.xLikes.length ≤ 1048576
theorem Message.ok_bd {m : Message} (h : m.ok = true) : m.xText.size ≤ maxLen ∧ m.xLikes.length ≤ 1048576 := by
  unfold Message.ok at h
  simp only [Bool.and_eq_true, decide_eq_true_eq] at h
  obtain ⟨_, _, _, ht, _, _, hl, _⟩ := h
  unfold isText at ht
  simp only [Bool.and_eq_true, decide_eq_true_eq] at ht
  exact ⟨by simp only [maxLen]; omega, by omega⟩
theorem Log.ok_fine {x : Log} (h : x.ok = true) : x.fine := by
  obtain ⟨h1, h2, h3⟩ := Log.few h
  refine ⟨by omega, by omega, by omega, fun m hm => ?_⟩
  obtain ⟨j, hj, rfl⟩ := List.getElem_of_mem hm
  exact Message.ok_bd (Log.msg_ok h (List.getElem?_eq_getElem hj)).1
theorem say_fine {l : Log} {ds : List Draft} {x : Log} (hl : l.fine) (h : say l ds = some x) : x.fine := by
  induction ds generalizing l with
  | nil => injection h with h; exact h ▸ hl
  | cons d ds ih =>
    have h' : (sayOne l d).bind (fun x => say x ds) = some x := h
    unfold sayOne at h'
    split at h'
    · rename_i hok
      exact ih (Log.ok_fine hok) h'
    · cases h'
theorem draft_at {W : World} {l : List Draft} {A : Option Addr} {n c k : Nat} {d : Draft} (hr : Ro W (Lo W.heap.size) (Draft.s true l) (.slice A n c)) (hk : l[k]? = some d) :
    ∃ (b off : Nat), A = some ⟨b, off, none⟩ ∧ b < W.heap.size ∧ (∀ (w : World), Below W.heap.size W w → ∀ (j : Nat) (u : Value), [.int .i64 d.xSender, .int .i64 d.xAt, .string d.xText][j]? = some u → w.cell? ⟨b, off + k * 3 + j, none⟩ = some u) := by
  obtain ⟨b, off, us, rfl, hbl, hul, hru, hcl⟩ := Ro.later hr (Below.refl _ _) (Nat.le_refl _) (map_at (f := Draft.d true) hk)
  obtain rfl := Draft.cells hru
  exact ⟨b, off, rfl, hbl, fun w hb j u h => (hb.cell hbl).trans (hcl j u h)⟩
set_option maxHeartbeats 1600000 in
set_option maxRecDepth 100000 in
theorem impl_withDrafts (x : Log) (ds : List Draft) (us : List Value) (A : Option Addr) (c : Nat) (W : World) (hr : RoL W (Lo W.heap.size) (Log.d true x) us) (hx : x.fine) (hd : Ro W (Lo W.heap.size) (Draft.s true ds) (.slice A ds.length c)) (ht : ∀ d ∈ ds, d.xText.size ≤ maxLen) (hdl : ds.length ≤ 1048576) :
    Calls Try.prog 63 #[.agg us.toArray, .slice A ds.length c] W (MadeLB W (said x ds)) := by
  obtain ⟨A1, cc1, rfl, -⟩ := Log.cells hr
  have HC := fun (w : World) (hb : Below W.heap.size W w) => impl_cloneLog x _ w (rol_to hr hb) (fun m hm => (hx.2.2.2 m hm).2) hx.2.2.1
  generalize x.xMessages.length = nx at *
  generalize hn : ds.length = n at *
  have HN := Lib.hid hn
  clear hn hr
  have HI := Lib.hid (show say x (ds.take 0) = some x from rfl)
  have HX := Lib.hid hx
  clear hx
  go_enter Try.func63, Try.ntmps63
  go_wp2_with fail
  refine (HC _ (by (repeat (first | with_reducible assumption | with_reducible exact Below.refl _ _ | with_reducible refine Below.setCell ?_ ?_ _ | with_reducible refine Below.alloc ?_ ?_ _ | with_reducible refine Below.drew ?_ | with_reducible refine below_drewN ?_ _ | omega | (simp; done) | (simp; omega))); all_goals first | omega | (simp; done) | (simp; omega))).mono ?_
  rintro e w1 ⟨us1, F1, rfl, hO1, hb1, hF1⟩
  obtain ⟨A2, c2, F2, rfl, hO2, -, -, hFe⟩ := Log.owned hO1
  have hB1 : Below (W.heap.size + 2) ((W.alloc (.cells #[.int .i64 x.xNext, .slice A1 nx cc1] 26)).alloc (.cells #[.int .i64 0, .slice none 0 0] 26)) w1 := hb1.mono (by simp)
  have hs1 : W.heap.size + 2 ≤ w1.heap.size := by have := hb1.size; simpa using this
  have hlo : ∀ b, F2 b → W.heap.size + 2 ≤ b := fun b h => by have := hF1 b ((hFe b).2 h); simpa using this
  have hhi : ∀ b, F2 b → b < w1.heap.size := hO2.lt
  clear hF1 hFe
  go_wp2_with fail
  go_loopw [13] (fun k wr => ∃ (j : Nat) (y : Log) (v : Value) (F : Nat → Prop), j ≤ n ∧ k = .int .i64 j ∧ Hid (say x (ds.take j) = some y) ∧ Bx wr w1.heap.size #[.int .i64 y.xNext, v] 26 ∧ Ow wr (Message.s true y.xMessages) v F ∧ (∀ b, F b → W.heap.size + 2 ≤ b ∧ b ≠ w1.heap.size) ∧ Below (W.heap.size + 2) ((W.alloc (.cells #[.int .i64 x.xNext, .slice A1 nx cc1] 26)).alloc (.cells #[.int .i64 0, .slice none 0 0] 26)) wr) (fun k _ => n - (intOf k).toNat)
  case atStart =>
    exact ⟨0, x, _, F2, by omega, rfl, HI, Bx.new w1 _ _, hO2.alloc _, fun b h => ⟨hlo b h, by have := hhi b h; omega⟩, hB1.alloc (by omega) _⟩
  case round =>
    obtain ⟨j, y, v, F, hj, rfl, HQ, xo, hO, hF, hbw⟩ := hrel
    have hb : Below W.heap.size W wr := (((Below.refl _ _).alloc (Nat.le_refl _) _).alloc (by simp) _).trans (hbw.mono (by omega))
    have xr : Bx wr (W.heap.size + 1) #[.int .i64 0, .slice none 0 0] 26 := (Bx.new2 W (.cells #[.int .i64 x.xNext, .slice A1 nx cc1] 26) #[.int .i64 0, .slice none 0 0] 26).below hbw (by omega)
    have hyf := say_fine HX.out HQ.out
    by_cases hlt : j < n
    · obtain ⟨d, hdj⟩ := get_lt (l := ds) (k := j) (by rw [HN.out]; exact hlt)
      obtain ⟨b, off, rfl, hbl, hcl⟩ := draft_at hd hdj
      have c0 : wr.cell? ⟨b, off + j * 3, none⟩ = some (.int .i64 d.xSender) := hcl wr hb 0 _ rfl; have c1 : wr.cell? ⟨b, off + j * 3 + 1, none⟩ = some (.int .i64 d.xAt) := hcl wr hb 1 _ rfl; have c2 : wr.cell? ⟨b, off + j * 3 + 2, none⟩ = some (.string d.xText) := hcl wr hb 2 _ rfl
      have HS := Lib.hid (say_succ HQ.out hdj)
      have HNO := Lib.hid (said_no HQ.out hdj)
      have htd := ht d (List.mem_of_getElem? hdj)
      have HP := fun (w : World) (hbx : Bx w w1.heap.size #[.int .i64 y.xNext, v] 26) (ho : Ow w (Message.s true y.xMessages) v F) => impl_post y d.xSender d.xAt d.xText w1.heap.size 0 #[.int .i64 y.xNext, v] 26 v F w hbx rfl rfl ho (fun h => (hF _ h).2 rfl) hyf.1 hyf.2.1 hyf.2.2.1 (fun m hm => (hyf.2.2.2 m hm).1) htd
      clear hd hcl hdj htd hyf
      go_wp2_with fail
      refine (HP _ (xo.alloc _) (hO.alloc _)).mono ?_
      rintro e w3 ⟨v3, F3, rfl, x3, hO3, hk3, hF3⟩
      have hk3b := hk3.below (B := W.heap.size + 2) (by simp; have := hbw.size; simp at this; omega) (fun b h => by
        rcases h with rfl | h
        · exact hs1
        · exact (hF b h).1)
      have hbw3 := (hbw.alloc (by have := hbw.size; simp at this; omega) _).trans hk3b
      have x3' : Bx w3 w1.heap.size #[.int .i64 (y.xNext + 1), v3] 26 := x3
      have xr3 : Bx w3 (W.heap.size + 1) #[.int .i64 0, .slice none 0 0] 26 := (Bx.new2 W (.cells #[.int .i64 x.xNext, .slice A1 nx cc1] 26) #[.int .i64 0, .slice none 0 0] 26).below hbw3 (by omega)
      have hB3 : Below W.heap.size W w3 := (((Below.refl _ _).alloc (Nat.le_refl _) _).alloc (by simp) _).trans (hbw3.mono (by omega))
      by_cases hok : (post0 y d.xSender d.xAt d.xText).ok = true
      · have HS' := Lib.hid (HS.out.trans (if_pos hok))
        rw [hok]
        clear hok
        go_wp2
        go_roundw
        case rel => exact ⟨j + 1, post0 y d.xSender d.xAt d.xText, v3, F3, by omega, by go_num, HS', x3', hO3, fun b h => by
          rcases hF3 b h with h' | h'
          · exact hF b h'
          · simp at h'
            have := xo.lt
            have := hbw.size
            simp at this
            omega, hbw3⟩
        case measure => simp [intOf]; omega
      · have HX' := Lib.hid (HNO.out hok)
        rw [Bool.not_eq_true] at hok
        rw [hok]
        clear hok
        have r0 := xr3.cell 0 rfl
        have r1 := xr3.cell 1 rfl
        have g0 := xr3.free 0
        have g1 := xr3.free 1
        have hs3 := xr3.lt
        go_wp2
        exact bodyPost_ret (v := .tuple #[.agg #[.int .i64 0, .slice none 0 0], .bool false]) (by simp [results, Try.results63, go_sem, r0, r1, g0, g1, hs3]) rfl (madeLB_no HX'.out (by (repeat (first | with_reducible assumption | with_reducible exact Below.refl _ _ | with_reducible refine Below.setCell ?_ ?_ _ | with_reducible refine Below.alloc ?_ ?_ _ | with_reducible refine Below.drew ?_ | with_reducible refine below_drewN ?_ _ | omega | (simp; done) | (simp; omega))); all_goals first | omega | (simp; done) | (simp; omega)))
    · obtain rfl : j = n := by omega
      have HY := Lib.hid (said_yes (by have := HQ.out; rw [List.take_of_length_le (by have := HN.out; omega)] at this; exact this))
      obtain ⟨A9, n9, c9, rfl⟩ := hO.slice
      have r0 := xr.cell 0 rfl
      have r1 := xr.cell 1 rfl
      have g0 := xr.free 0
      have g1 := xr.free 1
      have hs3 := xr.lt
      have q0 := xo.cell 0 rfl
      have q1 := xo.cell 1 rfl
      have hso := xo.lt
      clear hd
      go_wp2
      refine bodyPost_ret (v := .tuple #[.agg #[.int .i64 y.xNext, .slice A9 n9 c9], .bool true]) (by simp [results, Try.results63, go_sem, r0, r1, g0, g1, hs3, q0, q1, hso]) rfl ⟨A9, n9, c9, F, by rw [HY.out], ?_, (by (repeat (first | with_reducible assumption | with_reducible exact Below.refl _ _ | with_reducible refine Below.setCell ?_ ?_ _ | with_reducible refine Below.alloc ?_ ?_ _ | with_reducible refine Below.drew ?_ | with_reducible refine below_drewN ?_ _ | omega | (simp; done) | (simp; omega))); all_goals first | omega | (simp; done) | (simp; omega)), fun b h => by have := (hF b h).1; omega⟩
      rw [HY.out]
      repeat (refine Ow.far ?_ (fun h => by have hq := (hF _ h).1; dsimp only at hq; omega) _)
      exact hO
end Go.Proofs.Ytafihplbchofoaa

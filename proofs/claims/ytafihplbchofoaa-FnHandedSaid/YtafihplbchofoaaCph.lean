/- Hands: what copies into one (the program). -/
import Derived.Test.YtafihplbchofoaaSsh
import Derived.Test.YtafihplbchofoaaCop
import Derived.Deep.DeepCutAuto
import Derived.BigQuiet
import Derived.IntWalk
namespace Go.Proofs.Ytafihplbchofoaa
open Go.ChangeShapes Go.WideShapes Go.ChangeAt Go.RowKit Go.Dt
set_option linter.unusedVariables false
set_option linter.unusedSimpArgs false
def manyOf (c : Int) (h : Hand) : Nat := min (h.xTo.xMessages.length + c.toNat) h.xFrom.xMessages.length
def CopyHand_c (c : Int) (h : Hand) : Hand × Bool :=
  (⟨if h.xStage = 0 then 1 else h.xStage, h.xFrom, ⟨nextOf (h.xFrom.xMessages.take (manyOf c h)), h.xFrom.xMessages.take (manyOf c h)⟩, h.xWaiting⟩, decide (0 ≤ c ∧ c ≤ 40) && !(h.xStage == 3))
def CopyHand_f (h : Hand) (c : Int) : Hand × Bool := changed (CopyHand_c c) h
/-- What a closure on the hand in block g has done. -/
def Chd (b : Bool) (w0 : World) (B g : Nat) (h : Hand) (e : Ending) (w' : World) : Prop := e = .returned (.bool b) ∧ Below B w0 w' ∧ (b = true → HandAt w0 B w' g h)
theorem chd_no {w0 w' : World} {B g : Nat} {h : Hand} (hb : Below B w0 w') : Chd false w0 B g h (.returned (.bool false)) w' := ⟨rfl, hb, fun h => by cases h⟩
set_option maxHeartbeats 1600000 in
set_option maxRecDepth 100000 in
theorem impl_CopyHand_1 (c : Int) (h : Hand) (p : Nat) (w0 : World) (B g : Nat) (w : World) (ho : h.ok = true) (hf : h.fit) (hp : p < B) (k0 : w.cell? ⟨p, 0, none⟩ = some (.int .i64 c))
    (hH : HandAt w0 B w g h) : Calls Try.prog 58 (#[.pointer (some ⟨g, 0, none⟩)] ++ #[.pointer (some ⟨p, 0, none⟩)]) w fun e w' => e = .returned (.bool (CopyHand_c c h).2) ∧ Below B w0 w' ∧ ((CopyHand_c c h).2 = true → HandAt w0 B w' g (CopyHand_c c h).1) := by
  have hfo := Hand.ok_logs ho
  have hfn := Log.ok_num (show h.xFrom.ok = true from by unfold Hand.ok at ho; simp only [Bool.and_eq_true] at ho; exact ho.1)
  have hpl : p < w.heap.size := World.block_lt_of_cell? w _ k0
  show Calls _ _ _ _ (Chd (CopyHand_c c h).2 w0 B g (CopyHand_c c h).1)
  unfold CopyHand_c
  have hmle : manyOf c h ≤ h.xFrom.xMessages.length := Nat.min_le_right _ _
  have hmany : manyOf c h = min (h.xTo.xMessages.length + c.toNat) h.xFrom.xMessages.length := rfl
  generalize manyOf c h = many at *
  obtain ⟨stage, fr, tt, wt⟩ := h
  obtain ⟨A2, n2, c2, A4, n4, c4, A5, n5, c5, F2, F4, F5, hA⟩ := hH
  have hgB := (hA.box _ _ _ rfl).2.1
  simp only at *
  obtain rfl := Ow.len (hA.own 0 _ _ _ rfl).1
  obtain rfl := Ow.len (hA.own 1 _ _ _ rfl).1
  simp only [List.length_map] at *
  have hbl := hA.below
  have hgl := hA.bx.lt
  have hI := fun (w : World) => impl_in c 0 40 w
  show Calls _ _ #[.pointer _, .pointer _] _ _
  by_cases hc : 0 ≤ c ∧ c ≤ 40
  rotate_left
  · have t0 : inB c 0 40 = false := by unfold inB; simp; omega
    have t1 : decide (0 ≤ c ∧ c ≤ 40) = false := by simp [hc]
    rw [t1]
    rw [t0] at hI
    generalize (⟨if stage = 0 then 1 else stage, fr, ⟨nextOf (fr.xMessages.take many), fr.xMessages.take many⟩, wt⟩ : Hand) = h' at *
    show Calls _ _ _ _ (Chd false w0 B g h')
    clear t0 t1 hc hmany hfo hfn hf ho
    go_enter Try.func58, Try.ntmps58
    go_wp2_with (go_at_call 59; (with_reducible refine (hI _).mono ?_); rintro e w' ⟨rfl, rfl⟩)
    exact bodyPost_ret (v := .bool false) (by simp [results, Try.results58, go_sem]) rfl (chd_no hbl)
  have t0 : inB c 0 40 = true := by unfold inB; simp; omega
  have t1 : decide (0 ≤ c ∧ c ≤ 40) = true := by simp [hc]
  rw [t1]
  rw [t0] at hI
  have y0 := hA.bx.cell 0 rfl
  by_cases s3 : stage = 3
  · subst s3
    generalize (⟨if (3 : Int) = 0 then 1 else 3, fr, ⟨nextOf (fr.xMessages.take many), fr.xMessages.take many⟩, wt⟩ : Hand) = h' at *
    show Calls _ _ _ _ (Chd false w0 B g h')
    clear t0 t1 hc hmany hfo hfn hf ho
    go_enter Try.func58, Try.ntmps58
    go_wp2_with (go_at_call 59; (with_reducible refine (hI _).mono ?_); rintro e w' ⟨rfl, rfl⟩)
    exact bodyPost_ret (v := .bool false) (by simp [results, Try.results58, go_sem]) rfl (chd_no hbl)
  have t3 : (stage == 3) = false := by simp [s3]
  rw [t3]
  obtain ⟨cn, rfl⟩ := Int.eq_ofNat_of_zero_le hc.1
  have hcn : cn ≤ 40 := by omega
  rw [Int.toNat_natCast] at hmany
  have hl2 : fr.xMessages.length ≤ 1048576 := hfo.1.2.2.1
  have hl4 : tt.xMessages.length ≤ 1048576 := hfo.2.2.2.1
  have hO2 := (hA.own 0 _ _ _ rfl).1
  have HR := Lib.hid (show ∀ w', Below w.heap.size w w' → Ro w' (Lo w'.heap.size) (Message.s true (fr.xMessages.take many)) (.slice A2 many c2) from fun w' hb => by
    have := Ro.cut (ro_to hO2.lo hb) hmle
    unfold Message.s
    rw [List.map_take]
    exact this)
  have htl : (fr.xMessages.take many).length = many := by rw [List.length_take]; omega
  have HN := fun (w' : World) (hb : Below w.heap.size w w') => impl_nextOf (fr.xMessages.take many) A2 c2 w' (by rw [htl]; exact HR.out w' hb) (fun m hm => hfn m (List.mem_of_mem_take hm)) (by omega)
  have HC := fun (w' : World) (hb : Below w.heap.size w w') => impl_cloneLog ⟨nextOf (fr.xMessages.take many), fr.xMessages.take many⟩ [.int .i64 (nextOf (fr.xMessages.take many)), .slice A2 many c2] w' (by unfold Log.d; exact RoL.cons (.int _ _) (RoL.cons (HR.out w' hb) RoL.nil)) (fun m hm => (hfo.1.2.2.2 m (List.mem_of_mem_take hm)).2) (by simp only; omega)
  rw [htl] at HN
  have hcap := hO2.lo.sl_cap
  have hcmx := hO2.lo.sl_max
  unfold maxLen at hcmx
  have HT := Lib.hid htl
  have HM := Lib.hid hmany
  have hmc : many ≤ c2 := by omega
  have hmc' : (many : Int) ≤ (c2 : Int) := by omega
  generalize hst : (if stage = 0 then 1 else stage) = st' at *
  have HST := Lib.hid hst
  clear hst
  show Calls _ _ _ _ (Chd true w0 B g _)
  generalize hnx : nextOf (fr.xMessages.take many) = nx at *
  generalize hnl : fr.xMessages.take many = ml at *
  have y2 := hA.bx.cell 2 rfl
  have y4 := hA.bx.cell 4 rfl
  have HA := Lib.hid hA
  clear hfo hfn hf ho t0 t1 hc htl hO2 hnx hnl hA hmany
  generalize hq4 : tt.xMessages.length = k4 at *
  generalize hq2 : fr.xMessages.length = k2 at *
  clear hq4 hq2
  have HSS := Lib.hid (show ∀ w', Below w.heap.size w w' → (fun w' => Below w.heap.size w w' ∧ w'.cell? ⟨g, 2, none⟩ = some (.slice A2 k2 c2)) w' from fun w' h => ⟨h, (h.cell (p := ⟨g, 2, none⟩) hgl).trans y2⟩)
  cases hs0 : (stage == 0)
  · by_cases hlt : k2 < k4 + cn
    · obtain hmk : many = _ := (HM.out).trans (Nat.min_eq_right (by omega))
      have h0m : (0 : Int) ≤ (many : Int) := by omega
      have hltI : ((k2 : Int) < (k4 : Int) + (cn : Int)) ↔ k2 < k4 + cn := by omega
      have e1 : IntKind.i64.wrap ((k4 : Int) + (cn : Int)) = (k4 : Int) + (cn : Int) := IntWalk.i64_in _ (by omega)
      have HMK := Lib.hid hmk
      clear hmk
      go_enter Try.func58, Try.ntmps58
      go_wp2_with (go_at_call 59; (with_reducible refine (hI _).mono ?_); rintro e w' ⟨rfl, rfl⟩)
      go_quiet (fail)
      have hE : (k2 : Int) = (many : Int) := by have := HMK.out; omega
      rw [hE]
      clear hE e1
      go_upto_region 4 with fail
      refine wp_any (fun w1 => Gain w0 B w1 [some (Message.s true fr.xMessages, .slice A2 k2 c2, F2), some (Message.s true tt.xMessages, .slice A4 k4 c4, F4), some (Draft.s true wt, .slice A5 n5 c5, F5)] (some (g, #[.int .i64 stage, .int .i64 fr.xNext, .slice A2 k2 c2, .int .i64 tt.xNext, .slice A4 k4 c4, .slice A5 n5 c5], 30)) ∧ Below w.heap.size w w1) ⟨HA.out.step (below_drewN (Below.refl _ _) _), below_drewN (Below.refl _ _) _⟩ ?_
      rintro w1 ⟨hA, hb1⟩
      have hsz1 := hb1.size
      have HN1 := fun (w' : World) (hb : Below w1.heap.size w1 w') => HN w' (hb1.trans (hb.mono hsz1))
      have HC1 := fun (w' : World) (hb : Below w1.heap.size w1 w') => HC w' (hb1.trans (hb.mono hsz1))
      have hgl1 := hA.bx.lt
      have x2 := hA.bx.cell 2 rfl
      have HS1 := Lib.hid (show ∀ w', Below w1.heap.size w1 w' → (fun w' => w'.cell? ⟨g, 2, none⟩ = some (.slice A2 k2 c2)) w' from fun w' h => (h.cell (p := ⟨g, 2, none⟩) hgl1).trans x2)
      have hT : Gain w1 w1.heap.size w1 [none] none := Gain.start (Below.refl _ _) (Nat.le_refl _) (fun i e h => by rcases i with _ | i <;> simp at h <;> exact h.symm)
      clear HN HC HSS HA y0 y2 y4 k0 hI
      have hsl : ∀ w' : World, (Instr.slice 24 (.slice A2 k2 c2) none (some (.int .i64 (many : Int))) none).run Try.prog w' = .ok (.slice A2 many c2) w' := fun w' => by simp [go_sem, h0m, hmc', hmc]
      go_region_held3 (fun w' => w'.cell? ⟨g, 2, none⟩ = some (.slice A2 k2 c2))
        ((first | ((refine HS1.out _ ?_); (first | (with_reducible exact Gain.below hT) | (with_reducible exact Gain.below (Gain.drew hT)))) | (exact ((hA.put 3 _).put 4 _).bx.cell 2 rfl)))
        ((first | (go_at_call 60; (with_reducible refine (HN1 _ (by first | (with_reducible exact Gain.below hT) | (with_reducible exact Gain.below (Gain.drew hT)) | (with_reducible exact Gain.below (Gain.alloc0 hT _)))).mono ?_); rintro e w8 ⟨rfl, hb8⟩; (first | (replace hT := Gain.go hb8 hT) | (replace hT := Gain.go hb8 (Gain.drew hT)))) | (go_at_call 52; (with_reducible refine (HC1 _ (by first | (with_reducible exact Gain.below hT) | (with_reducible exact Gain.below (Gain.drew hT)) | (with_reducible exact Gain.below (Gain.alloc0 hT _)))).mono ?_); rintro e w9 ⟨us9, F8, rfl, hO8, hb9, hF8⟩; obtain ⟨A9, c9, F9, rfl, hO9, -, -, hFe⟩ := Log.owned hO8; have hF9 := fun (b : Nat) (h : F9 b) => hF8 b ((hFe b).2 h); (first | (replace hT := Gain.call 0 hb9 hO9 hF9 hT) | (replace hT := Gain.call 0 hb9 hO9 hF9 (Gain.drew hT))); (try simp only [List.set_cons_zero, List.set_cons_succ] at hT); replace hA := Gain.call 1 hT.below (hT.own 0 _ _ _ rfl).1 (hT.own 0 _ _ _ rfl).2 hA; (try simp only [List.set_cons_zero, List.set_cons_succ] at hA); have xg := hA.bx; have q0 := xg.cell 0 rfl; have z0 := xg.free 0; have q1 := xg.cell 1 rfl; have z1 := xg.free 1; have q2 := xg.cell 2 rfl; have z2 := xg.free 2; have q3 := xg.cell 3 rfl; have z3 := xg.free 3; have q4 := xg.cell 4 rfl; have z4 := xg.free 4; have q5 := xg.cell 5 rfl; have z5 := xg.free 5; have hz9 := xg.lt)))
      have hA2 := (hA.put 3 (.int .i64 nx)).put 4 (.slice A9 ml.length c9)
      have hst := HST.out
      rw [if_neg (by simpa using hs0)] at hst; subst hst; have hA3 := hA2
      go_wp2
      refine bodyPost_ret (v := .bool true) (by simp [results, Try.results58, go_sem]) rfl ⟨rfl, hA3.below, fun _ => ⟨_, _, _, _, _, _, _, _, _, _, _, _, Gain.is hA3 rfl⟩⟩
    · obtain hmk : many = _ := (HM.out).trans (Nat.min_eq_left (by omega))
      have h0m : (0 : Int) ≤ (many : Int) := by omega
      have hltI : ((k2 : Int) < (k4 : Int) + (cn : Int)) ↔ k2 < k4 + cn := by omega
      have e1 : IntKind.i64.wrap ((k4 : Int) + (cn : Int)) = (k4 : Int) + (cn : Int) := IntWalk.i64_in _ (by omega)
      have HMK := Lib.hid hmk
      clear hmk
      go_enter Try.func58, Try.ntmps58
      go_wp2_with (go_at_call 59; (with_reducible refine (hI _).mono ?_); rintro e w' ⟨rfl, rfl⟩)
      go_quiet (fail)
      have hE : (k4 : Int) + (cn : Int) = (many : Int) := by have := HMK.out; omega
      rw [hE]
      clear hE e1
      go_upto_region 4 with fail
      refine wp_any (fun w1 => Gain w0 B w1 [some (Message.s true fr.xMessages, .slice A2 k2 c2, F2), some (Message.s true tt.xMessages, .slice A4 k4 c4, F4), some (Draft.s true wt, .slice A5 n5 c5, F5)] (some (g, #[.int .i64 stage, .int .i64 fr.xNext, .slice A2 k2 c2, .int .i64 tt.xNext, .slice A4 k4 c4, .slice A5 n5 c5], 30)) ∧ Below w.heap.size w w1) ⟨HA.out.step (below_drewN (Below.refl _ _) _), below_drewN (Below.refl _ _) _⟩ ?_
      rintro w1 ⟨hA, hb1⟩
      have hsz1 := hb1.size
      have HN1 := fun (w' : World) (hb : Below w1.heap.size w1 w') => HN w' (hb1.trans (hb.mono hsz1))
      have HC1 := fun (w' : World) (hb : Below w1.heap.size w1 w') => HC w' (hb1.trans (hb.mono hsz1))
      have hgl1 := hA.bx.lt
      have x2 := hA.bx.cell 2 rfl
      have HS1 := Lib.hid (show ∀ w', Below w1.heap.size w1 w' → (fun w' => w'.cell? ⟨g, 2, none⟩ = some (.slice A2 k2 c2)) w' from fun w' h => (h.cell (p := ⟨g, 2, none⟩) hgl1).trans x2)
      have hT : Gain w1 w1.heap.size w1 [none] none := Gain.start (Below.refl _ _) (Nat.le_refl _) (fun i e h => by rcases i with _ | i <;> simp at h <;> exact h.symm)
      clear HN HC HSS HA y0 y2 y4 k0 hI
      have hsl : ∀ w' : World, (Instr.slice 24 (.slice A2 k2 c2) none (some (.int .i64 (many : Int))) none).run Try.prog w' = .ok (.slice A2 many c2) w' := fun w' => by simp [go_sem, h0m, hmc', hmc]
      go_region_held3 (fun w' => w'.cell? ⟨g, 2, none⟩ = some (.slice A2 k2 c2))
        ((first | ((refine HS1.out _ ?_); (first | (with_reducible exact Gain.below hT) | (with_reducible exact Gain.below (Gain.drew hT)))) | (exact ((hA.put 3 _).put 4 _).bx.cell 2 rfl)))
        ((first | (go_at_call 60; (with_reducible refine (HN1 _ (by first | (with_reducible exact Gain.below hT) | (with_reducible exact Gain.below (Gain.drew hT)) | (with_reducible exact Gain.below (Gain.alloc0 hT _)))).mono ?_); rintro e w8 ⟨rfl, hb8⟩; (first | (replace hT := Gain.go hb8 hT) | (replace hT := Gain.go hb8 (Gain.drew hT)))) | (go_at_call 52; (with_reducible refine (HC1 _ (by first | (with_reducible exact Gain.below hT) | (with_reducible exact Gain.below (Gain.drew hT)) | (with_reducible exact Gain.below (Gain.alloc0 hT _)))).mono ?_); rintro e w9 ⟨us9, F8, rfl, hO8, hb9, hF8⟩; obtain ⟨A9, c9, F9, rfl, hO9, -, -, hFe⟩ := Log.owned hO8; have hF9 := fun (b : Nat) (h : F9 b) => hF8 b ((hFe b).2 h); (first | (replace hT := Gain.call 0 hb9 hO9 hF9 hT) | (replace hT := Gain.call 0 hb9 hO9 hF9 (Gain.drew hT))); (try simp only [List.set_cons_zero, List.set_cons_succ] at hT); replace hA := Gain.call 1 hT.below (hT.own 0 _ _ _ rfl).1 (hT.own 0 _ _ _ rfl).2 hA; (try simp only [List.set_cons_zero, List.set_cons_succ] at hA); have xg := hA.bx; have q0 := xg.cell 0 rfl; have z0 := xg.free 0; have q1 := xg.cell 1 rfl; have z1 := xg.free 1; have q2 := xg.cell 2 rfl; have z2 := xg.free 2; have q3 := xg.cell 3 rfl; have z3 := xg.free 3; have q4 := xg.cell 4 rfl; have z4 := xg.free 4; have q5 := xg.cell 5 rfl; have z5 := xg.free 5; have hz9 := xg.lt)))
      have hA2 := (hA.put 3 (.int .i64 nx)).put 4 (.slice A9 ml.length c9)
      have hst := HST.out
      rw [if_neg (by simpa using hs0)] at hst; subst hst; have hA3 := hA2
      go_wp2
      refine bodyPost_ret (v := .bool true) (by simp [results, Try.results58, go_sem]) rfl ⟨rfl, hA3.below, fun _ => ⟨_, _, _, _, _, _, _, _, _, _, _, _, Gain.is hA3 rfl⟩⟩
  · by_cases hlt : k2 < k4 + cn
    · obtain hmk : many = _ := (HM.out).trans (Nat.min_eq_right (by omega))
      have h0m : (0 : Int) ≤ (many : Int) := by omega
      have hltI : ((k2 : Int) < (k4 : Int) + (cn : Int)) ↔ k2 < k4 + cn := by omega
      have e1 : IntKind.i64.wrap ((k4 : Int) + (cn : Int)) = (k4 : Int) + (cn : Int) := IntWalk.i64_in _ (by omega)
      have HMK := Lib.hid hmk
      clear hmk
      go_enter Try.func58, Try.ntmps58
      go_wp2_with (go_at_call 59; (with_reducible refine (hI _).mono ?_); rintro e w' ⟨rfl, rfl⟩)
      go_quiet (fail)
      have hE : (k2 : Int) = (many : Int) := by have := HMK.out; omega
      rw [hE]
      clear hE e1
      go_upto_region 4 with fail
      refine wp_any (fun w1 => Gain w0 B w1 [some (Message.s true fr.xMessages, .slice A2 k2 c2, F2), some (Message.s true tt.xMessages, .slice A4 k4 c4, F4), some (Draft.s true wt, .slice A5 n5 c5, F5)] (some (g, #[.int .i64 stage, .int .i64 fr.xNext, .slice A2 k2 c2, .int .i64 tt.xNext, .slice A4 k4 c4, .slice A5 n5 c5], 30)) ∧ Below w.heap.size w w1) ⟨HA.out.step (below_drewN (Below.refl _ _) _), below_drewN (Below.refl _ _) _⟩ ?_
      rintro w1 ⟨hA, hb1⟩
      have hsz1 := hb1.size
      have HN1 := fun (w' : World) (hb : Below w1.heap.size w1 w') => HN w' (hb1.trans (hb.mono hsz1))
      have HC1 := fun (w' : World) (hb : Below w1.heap.size w1 w') => HC w' (hb1.trans (hb.mono hsz1))
      have hgl1 := hA.bx.lt
      have x2 := hA.bx.cell 2 rfl
      have HS1 := Lib.hid (show ∀ w', Below w1.heap.size w1 w' → (fun w' => w'.cell? ⟨g, 2, none⟩ = some (.slice A2 k2 c2)) w' from fun w' h => (h.cell (p := ⟨g, 2, none⟩) hgl1).trans x2)
      have hT : Gain w1 w1.heap.size w1 [none] none := Gain.start (Below.refl _ _) (Nat.le_refl _) (fun i e h => by rcases i with _ | i <;> simp at h <;> exact h.symm)
      clear HN HC HSS HA y0 y2 y4 k0 hI
      have hsl : ∀ w' : World, (Instr.slice 24 (.slice A2 k2 c2) none (some (.int .i64 (many : Int))) none).run Try.prog w' = .ok (.slice A2 many c2) w' := fun w' => by simp [go_sem, h0m, hmc', hmc]
      go_region_held3 (fun w' => w'.cell? ⟨g, 2, none⟩ = some (.slice A2 k2 c2))
        ((first | ((refine HS1.out _ ?_); (first | (with_reducible exact Gain.below hT) | (with_reducible exact Gain.below (Gain.drew hT)))) | (exact ((hA.put 3 _).put 4 _).bx.cell 2 rfl)))
        ((first | (go_at_call 60; (with_reducible refine (HN1 _ (by first | (with_reducible exact Gain.below hT) | (with_reducible exact Gain.below (Gain.drew hT)) | (with_reducible exact Gain.below (Gain.alloc0 hT _)))).mono ?_); rintro e w8 ⟨rfl, hb8⟩; (first | (replace hT := Gain.go hb8 hT) | (replace hT := Gain.go hb8 (Gain.drew hT)))) | (go_at_call 52; (with_reducible refine (HC1 _ (by first | (with_reducible exact Gain.below hT) | (with_reducible exact Gain.below (Gain.drew hT)) | (with_reducible exact Gain.below (Gain.alloc0 hT _)))).mono ?_); rintro e w9 ⟨us9, F8, rfl, hO8, hb9, hF8⟩; obtain ⟨A9, c9, F9, rfl, hO9, -, -, hFe⟩ := Log.owned hO8; have hF9 := fun (b : Nat) (h : F9 b) => hF8 b ((hFe b).2 h); (first | (replace hT := Gain.call 0 hb9 hO9 hF9 hT) | (replace hT := Gain.call 0 hb9 hO9 hF9 (Gain.drew hT))); (try simp only [List.set_cons_zero, List.set_cons_succ] at hT); replace hA := Gain.call 1 hT.below (hT.own 0 _ _ _ rfl).1 (hT.own 0 _ _ _ rfl).2 hA; (try simp only [List.set_cons_zero, List.set_cons_succ] at hA); have xg := hA.bx; have q0 := xg.cell 0 rfl; have z0 := xg.free 0; have q1 := xg.cell 1 rfl; have z1 := xg.free 1; have q2 := xg.cell 2 rfl; have z2 := xg.free 2; have q3 := xg.cell 3 rfl; have z3 := xg.free 3; have q4 := xg.cell 4 rfl; have z4 := xg.free 4; have q5 := xg.cell 5 rfl; have z5 := xg.free 5; have hz9 := xg.lt)))
      have hA2 := (hA.put 3 (.int .i64 nx)).put 4 (.slice A9 ml.length c9)
      have hst := HST.out
      rw [if_pos (by simpa using hs0)] at hst; subst hst; have hA3 := hA2.put 0 (.int .i64 1)
      go_wp2
      refine bodyPost_ret (v := .bool true) (by simp [results, Try.results58, go_sem]) rfl ⟨rfl, hA3.below, fun _ => ⟨_, _, _, _, _, _, _, _, _, _, _, _, Gain.is hA3 rfl⟩⟩
    · obtain hmk : many = _ := (HM.out).trans (Nat.min_eq_left (by omega))
      have h0m : (0 : Int) ≤ (many : Int) := by omega
      have hltI : ((k2 : Int) < (k4 : Int) + (cn : Int)) ↔ k2 < k4 + cn := by omega
      have e1 : IntKind.i64.wrap ((k4 : Int) + (cn : Int)) = (k4 : Int) + (cn : Int) := IntWalk.i64_in _ (by omega)
      have HMK := Lib.hid hmk
      clear hmk
      go_enter Try.func58, Try.ntmps58
      go_wp2_with (go_at_call 59; (with_reducible refine (hI _).mono ?_); rintro e w' ⟨rfl, rfl⟩)
      go_quiet (fail)
      have hE : (k4 : Int) + (cn : Int) = (many : Int) := by have := HMK.out; omega
      rw [hE]
      clear hE e1
      go_upto_region 4 with fail
      refine wp_any (fun w1 => Gain w0 B w1 [some (Message.s true fr.xMessages, .slice A2 k2 c2, F2), some (Message.s true tt.xMessages, .slice A4 k4 c4, F4), some (Draft.s true wt, .slice A5 n5 c5, F5)] (some (g, #[.int .i64 stage, .int .i64 fr.xNext, .slice A2 k2 c2, .int .i64 tt.xNext, .slice A4 k4 c4, .slice A5 n5 c5], 30)) ∧ Below w.heap.size w w1) ⟨HA.out.step (below_drewN (Below.refl _ _) _), below_drewN (Below.refl _ _) _⟩ ?_
      rintro w1 ⟨hA, hb1⟩
      have hsz1 := hb1.size
      have HN1 := fun (w' : World) (hb : Below w1.heap.size w1 w') => HN w' (hb1.trans (hb.mono hsz1))
      have HC1 := fun (w' : World) (hb : Below w1.heap.size w1 w') => HC w' (hb1.trans (hb.mono hsz1))
      have hgl1 := hA.bx.lt
      have x2 := hA.bx.cell 2 rfl
      have HS1 := Lib.hid (show ∀ w', Below w1.heap.size w1 w' → (fun w' => w'.cell? ⟨g, 2, none⟩ = some (.slice A2 k2 c2)) w' from fun w' h => (h.cell (p := ⟨g, 2, none⟩) hgl1).trans x2)
      have hT : Gain w1 w1.heap.size w1 [none] none := Gain.start (Below.refl _ _) (Nat.le_refl _) (fun i e h => by rcases i with _ | i <;> simp at h <;> exact h.symm)
      clear HN HC HSS HA y0 y2 y4 k0 hI
      have hsl : ∀ w' : World, (Instr.slice 24 (.slice A2 k2 c2) none (some (.int .i64 (many : Int))) none).run Try.prog w' = .ok (.slice A2 many c2) w' := fun w' => by simp [go_sem, h0m, hmc', hmc]
      go_region_held3 (fun w' => w'.cell? ⟨g, 2, none⟩ = some (.slice A2 k2 c2))
        ((first | ((refine HS1.out _ ?_); (first | (with_reducible exact Gain.below hT) | (with_reducible exact Gain.below (Gain.drew hT)))) | (exact ((hA.put 3 _).put 4 _).bx.cell 2 rfl)))
        ((first | (go_at_call 60; (with_reducible refine (HN1 _ (by first | (with_reducible exact Gain.below hT) | (with_reducible exact Gain.below (Gain.drew hT)) | (with_reducible exact Gain.below (Gain.alloc0 hT _)))).mono ?_); rintro e w8 ⟨rfl, hb8⟩; (first | (replace hT := Gain.go hb8 hT) | (replace hT := Gain.go hb8 (Gain.drew hT)))) | (go_at_call 52; (with_reducible refine (HC1 _ (by first | (with_reducible exact Gain.below hT) | (with_reducible exact Gain.below (Gain.drew hT)) | (with_reducible exact Gain.below (Gain.alloc0 hT _)))).mono ?_); rintro e w9 ⟨us9, F8, rfl, hO8, hb9, hF8⟩; obtain ⟨A9, c9, F9, rfl, hO9, -, -, hFe⟩ := Log.owned hO8; have hF9 := fun (b : Nat) (h : F9 b) => hF8 b ((hFe b).2 h); (first | (replace hT := Gain.call 0 hb9 hO9 hF9 hT) | (replace hT := Gain.call 0 hb9 hO9 hF9 (Gain.drew hT))); (try simp only [List.set_cons_zero, List.set_cons_succ] at hT); replace hA := Gain.call 1 hT.below (hT.own 0 _ _ _ rfl).1 (hT.own 0 _ _ _ rfl).2 hA; (try simp only [List.set_cons_zero, List.set_cons_succ] at hA); have xg := hA.bx; have q0 := xg.cell 0 rfl; have z0 := xg.free 0; have q1 := xg.cell 1 rfl; have z1 := xg.free 1; have q2 := xg.cell 2 rfl; have z2 := xg.free 2; have q3 := xg.cell 3 rfl; have z3 := xg.free 3; have q4 := xg.cell 4 rfl; have z4 := xg.free 4; have q5 := xg.cell 5 rfl; have z5 := xg.free 5; have hz9 := xg.lt)))
      have hA2 := (hA.put 3 (.int .i64 nx)).put 4 (.slice A9 ml.length c9)
      have hst := HST.out
      rw [if_pos (by simpa using hs0)] at hst; subst hst; have hA3 := hA2.put 0 (.int .i64 1)
      go_wp2
      refine bodyPost_ret (v := .bool true) (by simp [results, Try.results58, go_sem]) rfl ⟨rfl, hA3.below, fun _ => ⟨_, _, _, _, _, _, _, _, _, _, _, _, Gain.is hA3 rfl⟩⟩
theorem copyh_fit {c : Int} {h : Hand} (hf : h.fit) : (CopyHand_c c h).1.fit := by
  obtain ⟨f1, f2, f3, f4, f5, f6⟩ := hf
  refine ⟨f1, fun m hm => f1 m (List.mem_of_mem_take hm), f3, f4, ?_, f6⟩
  simp only [CopyHand_c, List.length_take]; omega
set_option maxHeartbeats 1600000 in
set_option maxRecDepth 100000 in
theorem impl_CopyHand (h : Hand) (c : Int) (us : List Value) (W : World) (hr : RoL W (Lo W.heap.size) (Hand.d true h) us) (hf : h.fit) :
    Calls Try.prog 15 #[.agg us.toArray, .int .i64 c] W (MadeHB W (CopyHand_f h c)) := by
  have HC := fun (w : World) (hb : Below W.heap.size W w) (hx : Bx w (W.heap.size + 1) #[.int .i64 c] 2) => impl_changedHandB 58 (fun _ _ => by rfl) #[.pointer (some ⟨W.heap.size + 1, 0, none⟩)] (CopyHand_c c) h us w (rol_to hr hb) hf (fun w0 B g w2 ho hH hbw hle => impl_CopyHand_1 c h (W.heap.size + 1) w0 B g w2 ho hf (Nat.lt_of_lt_of_le hx.lt hle) ((hx.below hbw hx.lt).cell 0 rfl) hH) (fun ho hc => copyh_fit hf)
  have HR := Lib.hid (show CopyHand_f h c = changed (CopyHand_c c) h from rfl)
  generalize CopyHand_f h c = R at *
  obtain ⟨A2, c2, A4, c4, A5, c5, rfl, -⟩ := Hand.cells hr
  obtain ⟨stage, fr, tt, wt⟩ := h
  simp only at *
  rw [← HR.out] at HC
  clear HR hr hf
  obtain ⟨R1, R2⟩ := R
  go_enter Try.func15, Try.ntmps15
  go_wp2_with fail
  refine (HC _ (by (repeat (first | with_reducible assumption | with_reducible exact Below.refl _ _ | with_reducible refine Below.setCell ?_ ?_ _ | with_reducible refine Below.alloc ?_ ?_ _ | with_reducible refine Below.drew ?_ | with_reducible refine below_drewN ?_ _ | omega | (simp; done) | (simp; omega))); all_goals first | omega | (simp; done) | (simp; omega)) ((Bx.new2 _ _ _ _).alloc _)).mono ?_
  rintro e w1 ⟨us1, F1, rfl, hO1, hF1, hb1⟩
  obtain ⟨A2', c2', F2, A4', c4', F4, A5', c5', F5, rfl, hO2, -, -, hO4, -, -, hO5, -, -, d24, d25, d45, hFe⟩ := Hand.owned hO1
  simp only [World.size_alloc] at hF1
  have hl2 : ∀ b, F2 b → W.heap.size + 3 ≤ b := fun b h => by have := hF1 b ((hFe b).2 (.inl h)); simpa using this
  have hl4 : ∀ b, F4 b → W.heap.size + 3 ≤ b := fun b h => by have := hF1 b ((hFe b).2 (.inr (.inl h))); simpa using this
  have hl5 : ∀ b, F5 b → W.heap.size + 3 ≤ b := fun b h => by have := hF1 b ((hFe b).2 (.inr (.inr h))); simpa using this
  have hbw : Below (W.heap.size + 3) (((W.alloc (.cells #[.int .i64 stage, .int .i64 fr.xNext, .slice A2 fr.xMessages.length c2, .int .i64 tt.xNext, .slice A4 tt.xMessages.length c4, .slice A5 wt.length c5] 30)).alloc (.cells #[.int .i64 c] 2)).alloc (.cells #[.int .i64 0, .int .i64 0, .slice none 0 0, .int .i64 0, .slice none 0 0, .slice none 0 0] 30)) w1 := hb1.mono (by simp)
  clear hF1 hFe
  have xr : Bx w1 (W.heap.size + 2) #[.int .i64 0, .int .i64 0, .slice none 0 0, .int .i64 0, .slice none 0 0, .slice none 0 0] 30 := (Bx.new3 W _ _ _ _).below hbw (by omega)
  have r0 := xr.cell 0 rfl
  have g0 := xr.free 0
  have r1 := xr.cell 1 rfl
  have g1 := xr.free 1
  have r2 := xr.cell 2 rfl
  have g2 := xr.free 2
  have r3 := xr.cell 3 rfl
  have g3 := xr.free 3
  have r4 := xr.cell 4 rfl
  have g4 := xr.free 4
  have r5 := xr.cell 5 rfl
  have g5 := xr.free 5
  have hsr := xr.lt
  have hB : Below W.heap.size W w1 := ((((Below.refl _ _).alloc (Nat.le_refl _) _).alloc (by simp) _).alloc (by simp; omega) _).trans (hbw.mono (by omega))
  go_wp2
  refine bodyPost_ret (v := .tuple #[.agg #[.int .i64 R1.xStage, .int .i64 R1.xFrom.xNext, .slice A2' R1.xFrom.xMessages.length c2', .int .i64 R1.xTo.xNext, .slice A4' R1.xTo.xMessages.length c4', .slice A5' R1.xWaiting.length c5'], .bool R2]) (by simp [results, Try.results15, go_sem, r0, r1, r2, r3, r4, r5, g0, g1, g2, g3, g4, g5, hsr]) rfl ⟨_, (fun b => F2 b ∨ (F4 b ∨ F5 b)), rfl, ?_, fun b h => ?_, (by (repeat (first | with_reducible assumption | with_reducible exact Below.refl _ _ | with_reducible refine Below.setCell ?_ ?_ _ | with_reducible refine Below.alloc ?_ ?_ _ | with_reducible refine Below.drew ?_ | with_reducible refine below_drewN ?_ _ | omega | (simp; done) | (simp; omega))); all_goals first | omega | (simp; done) | (simp; omega))⟩
  · refine Hand.own_mk (h := R1) (F2 := F2) (F4 := F4) (F5 := F5) ?_ ?_ ?_ d24 d25 d45
    · repeat (with_reducible refine Ow.far ?_ (fun h => by have hq := hl2 _ h; first | omega | (dsimp only at hq; omega) | (simp at hq; done) | (simp at hq; omega)) _)
      exact hO2
    · repeat (with_reducible refine Ow.far ?_ (fun h => by have hq := hl4 _ h; first | omega | (dsimp only at hq; omega) | (simp at hq; done) | (simp at hq; omega)) _)
      exact hO4
    · repeat (with_reducible refine Ow.far ?_ (fun h => by have hq := hl5 _ h; first | omega | (dsimp only at hq; omega) | (simp at hq; done) | (simp at hq; omega)) _)
      exact hO5
  · rcases h with h | h | h
    · have := hl2 b h; omega
    · have := hl4 b h; omega
    · have := hl5 b h; omega
end Go.Proofs.Ytafihplbchofoaa

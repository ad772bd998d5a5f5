/- Sweeps by the reference. -/
import Derived.Test.YtmofbfeclecdoaaStm
import Derived.Test.YtmofbfeclecdoaaSweep
namespace Go.Proofs.Ytmofbfeclecdoaa
open Go.ChangeShapes Go.WideShapes Go.ChangeAt Go.RowKit Go.Dt
set_option linter.unusedVariables false
set_option linter.unusedSimpArgs false
def MadeLR (W : World) (r : Log × Bool) (e : Ending) (w' : World) : Prop := ∃ us, e = .returned (.tuple #[.agg us.toArray, .bool r.2]) ∧ RoL w' (Lo w'.heap.size) (Log.d true r.1) us ∧ Below W.heap.size W w'
theorem madeLR_no {W w' : World} {r : Log × Bool} (hr : r = (⟨0, []⟩, false)) (hb : Below W.heap.size W w') : MadeLR W r (.returned (.tuple #[.agg #[.int .i64 0, .slice none 0 0], .bool false])) w' := by
  subst hr
  exact ⟨[.int .i64 0, .slice none 0 0], rfl, RoL.cons (.int _ _) (RoL.cons (.emp _ _ _ _ (Nat.zero_le _)) RoL.nil), hb⟩
set_option maxHeartbeats 1600000 in
set_option maxRecDepth 100000 in
theorem spec_SweepLog (x : Log) (now age keep : Int) (pins : List Int) (us : List Value) (Ap : Option Addr) (cp : Nat) (W : World) (hr : RoL W (Lo W.heap.size) (Log.d true x) us) (hp : Ro W (Lo W.heap.size) (ints pins) (.slice Ap pins.length cp)) (hw : ∀ m ∈ x.xMessages, m.xText.size ≤ maxLen ∧ m.xLikes.length ≤ 1048576) (hs : x.xMessages.length ≤ 1048576) :
    Calls Try.prog 34 #[.agg us.toArray, .int .i64 now, .int .i64 age, .int .i64 keep, .slice Ap pins.length cp] W (MadeLR W (SweepLog_f x now age keep pins)) := by
  have HT := fun (w : World) => spec_l01Tick now w
  have HA := fun (w : World) => spec_l01Tick age w
  have HK := fun (w : World) => spec_l00In keep 0 40 w
  obtain ⟨A, c, rfl, hr, hlc, hm⟩ := Log.cells hr
  have H := ((St.start W).addro hr).addro hp
  have hpm := hp.sl_max
  have hpc := hp.sl_cap
  obtain ⟨next, l⟩ := x
  simp only at *
  have HV := fun (w : World) (ps : List Pt) (R : Nat → Prop) (b : Nat) (H : St (Lo W.heap.size) R W w ps) (h1 : At (.bx b #[.int .i64 next, .slice A l.length c] 41) ps) (h2 : At (.ro (Message.s true l) (.slice A l.length c)) ps) => spec_l03Is ⟨next, l⟩ b 0 A c w (fun m hm => (hw m hm).1) ((H.bx h1).cell 0 rfl) ((H.bx h1).cell 1 rfl) (H.lo (.inl h2)) hm hlc
  have HO := fun (w : World) (ps : List Pt) (R : Nat → Prop) (b : Nat) (H : St (Lo W.heap.size) R W w ps) (h1 : At (.bx b #[.int .i64 next, .slice A l.length c] 41) ps) (h2 : At (.ro (Message.s true l) (.slice A l.length c)) ps) => spec_l03Own ⟨next, l⟩ b 0 A c w ((H.bx h1).cell 0 rfl) ((H.bx h1).cell 1 rfl) (H.lo (.inl h2)) (fun m hm => (hw m hm).2) hs
  have HP := fun (w : World) (ps : List Pt) (R : Nat → Prop) (H : St (Lo W.heap.size) R W w ps) (h2 : At (.ro (ints pins) (.slice Ap pins.length cp)) ps) => Calls.below_drew (spec_l00Rises 1 1000000000 pins Ap cp w (H.lo (.inl h2)) hpm hpc)
  have HH := fun (v : Int) (w : World) (ps : List Pt) (R : Nat → Prop) (H : St (Lo W.heap.size) R W w ps) (h2 : At (.ro (ints pins) (.slice Ap pins.length cp)) ps) => spec_l00Has v pins Ap cp w (H.lo (.inl h2)) hpm hpc
  clear hm hlc hr hp
  cases h1 : Log.ok ⟨next, l⟩
  · have HX := Lib.hid (show SweepLog_f ⟨next, l⟩ now age keep pins = (⟨0, []⟩, false) from if_neg (by simp [sweepOk, h1]))
    rw [h1] at HV
    clear h1
    go_enter Try.func34, Try.ntmps34
    go_wp2_with (first | (go_at_call 87; (with_reducible refine (HV _ _ _ _ (H.box2 _ _ _ _) (by repeat (first | with_reducible_and_instances exact .here | with_reducible refine .there ?_)) (by repeat (first | with_reducible_and_instances exact .here | with_reducible refine .there ?_))).mono ?_); rintro e w1 ⟨rfl, hb1⟩; replace H := (H.box2 _ _ _ _).below hb1; clear hb1; (try clear hq); have hq := H.facts; simp only [factsOf, Pt.facts, CellsAt, Nat.add_zero, Nat.zero_add, Nat.reduceAdd, and_true, true_and, List.set_cons_zero, List.set_cons_succ] at hq))
    have hB := H.belowW
    exact bodyPost_ret (v := .tuple #[.agg #[.int .i64 0, .slice none 0 0], .bool false]) (by simp [results, Try.results34, go_sem, hq]) rfl (madeLR_no HX.out (by (repeat (first | with_reducible assumption | with_reducible exact Below.refl _ _ | with_reducible refine Below.setCell ?_ ?_ _ | with_reducible refine Below.alloc ?_ ?_ _ | with_reducible refine Below.drew ?_ | with_reducible refine below_drewN ?_ _ | omega | (simp; done) | (simp; omega))); all_goals first | omega | (simp; done) | (simp; omega)))
  cases h2 : inB now 0 1000000
  · have HX := Lib.hid (show SweepLog_f ⟨next, l⟩ now age keep pins = (⟨0, []⟩, false) from if_neg (by simp [sweepOk, h1, h2]))
    rw [h1] at HV
    rw [h2] at HT
    clear h1 h2
    go_enter Try.func34, Try.ntmps34
    go_wp2_with (first | (go_at_call 87; (with_reducible refine (HV _ _ _ _ (H.box2 _ _ _ _) (by repeat (first | with_reducible_and_instances exact .here | with_reducible refine .there ?_)) (by repeat (first | with_reducible_and_instances exact .here | with_reducible refine .there ?_))).mono ?_); rintro e w1 ⟨rfl, hb1⟩; replace H := (H.box2 _ _ _ _).below hb1; clear hb1; (try clear hq); have hq := H.facts; simp only [factsOf, Pt.facts, CellsAt, Nat.add_zero, Nat.zero_add, Nat.reduceAdd, and_true, true_and, List.set_cons_zero, List.set_cons_succ] at hq) | (go_at_call 88; (with_reducible refine (HT _).mono ?_); rintro e w' ⟨rfl, rfl⟩))
    have hB := H.belowW
    exact bodyPost_ret (v := .tuple #[.agg #[.int .i64 0, .slice none 0 0], .bool false]) (by simp [results, Try.results34, go_sem, hq]) rfl (madeLR_no HX.out (by (repeat (first | with_reducible assumption | with_reducible exact Below.refl _ _ | with_reducible refine Below.setCell ?_ ?_ _ | with_reducible refine Below.alloc ?_ ?_ _ | with_reducible refine Below.drew ?_ | with_reducible refine below_drewN ?_ _ | omega | (simp; done) | (simp; omega))); all_goals first | omega | (simp; done) | (simp; omega)))
  cases h3 : inB age 0 1000000
  · have HX := Lib.hid (show SweepLog_f ⟨next, l⟩ now age keep pins = (⟨0, []⟩, false) from if_neg (by simp [sweepOk, h1, h2, h3]))
    rw [h1] at HV
    rw [h2] at HT
    rw [h3] at HA
    clear h1 h2 h3
    go_enter Try.func34, Try.ntmps34
    go_wp2_with (first | (go_at_call 87; (with_reducible refine (HV _ _ _ _ (H.box2 _ _ _ _) (by repeat (first | with_reducible_and_instances exact .here | with_reducible refine .there ?_)) (by repeat (first | with_reducible_and_instances exact .here | with_reducible refine .there ?_))).mono ?_); rintro e w1 ⟨rfl, hb1⟩; replace H := (H.box2 _ _ _ _).below hb1; clear hb1; (try clear hq); have hq := H.facts; simp only [factsOf, Pt.facts, CellsAt, Nat.add_zero, Nat.zero_add, Nat.reduceAdd, and_true, true_and, List.set_cons_zero, List.set_cons_succ] at hq) | (go_at_call 88; (with_reducible refine (HT _).mono ?_); rintro e w' ⟨rfl, rfl⟩) | (go_at_call 88; (with_reducible refine (HA _).mono ?_); rintro e w' ⟨rfl, rfl⟩))
    have hB := H.belowW
    exact bodyPost_ret (v := .tuple #[.agg #[.int .i64 0, .slice none 0 0], .bool false]) (by simp [results, Try.results34, go_sem, hq]) rfl (madeLR_no HX.out (by (repeat (first | with_reducible assumption | with_reducible exact Below.refl _ _ | with_reducible refine Below.setCell ?_ ?_ _ | with_reducible refine Below.alloc ?_ ?_ _ | with_reducible refine Below.drew ?_ | with_reducible refine below_drewN ?_ _ | omega | (simp; done) | (simp; omega))); all_goals first | omega | (simp; done) | (simp; omega)))
  cases h4 : inB keep 0 40
  · have HX := Lib.hid (show SweepLog_f ⟨next, l⟩ now age keep pins = (⟨0, []⟩, false) from if_neg (by simp [sweepOk, h1, h2, h3, h4]))
    rw [h1] at HV
    rw [h2] at HT
    rw [h3] at HA
    rw [h4] at HK
    clear h1 h2 h3 h4
    go_enter Try.func34, Try.ntmps34
    go_wp2_with (first | (go_at_call 87; (with_reducible refine (HV _ _ _ _ (H.box2 _ _ _ _) (by repeat (first | with_reducible_and_instances exact .here | with_reducible refine .there ?_)) (by repeat (first | with_reducible_and_instances exact .here | with_reducible refine .there ?_))).mono ?_); rintro e w1 ⟨rfl, hb1⟩; replace H := (H.box2 _ _ _ _).below hb1; clear hb1; (try clear hq); have hq := H.facts; simp only [factsOf, Pt.facts, CellsAt, Nat.add_zero, Nat.zero_add, Nat.reduceAdd, and_true, true_and, List.set_cons_zero, List.set_cons_succ] at hq) | (go_at_call 88; (with_reducible refine (HT _).mono ?_); rintro e w' ⟨rfl, rfl⟩) | (go_at_call 88; (with_reducible refine (HA _).mono ?_); rintro e w' ⟨rfl, rfl⟩) | (go_at_call 93; (with_reducible refine (HK _).mono ?_); rintro e w' ⟨rfl, rfl⟩))
    have hB := H.belowW
    exact bodyPost_ret (v := .tuple #[.agg #[.int .i64 0, .slice none 0 0], .bool false]) (by simp [results, Try.results34, go_sem, hq]) rfl (madeLR_no HX.out (by (repeat (first | with_reducible assumption | with_reducible exact Below.refl _ _ | with_reducible refine Below.setCell ?_ ?_ _ | with_reducible refine Below.alloc ?_ ?_ _ | with_reducible refine Below.drew ?_ | with_reducible refine below_drewN ?_ _ | omega | (simp; done) | (simp; omega))); all_goals first | omega | (simp; done) | (simp; omega)))
  cases h5 : decide ((pins.length : Int) ≤ 300)
  · have HX := Lib.hid (show SweepLog_f ⟨next, l⟩ now age keep pins = (⟨0, []⟩, false) from if_neg (by simp [sweepOk, h1, h2, h3, h4, h5]))
    rw [h1] at HV
    rw [h2] at HT
    rw [h3] at HA
    rw [h4] at HK
    have hd : (300 : Int) < (pins.length : Int) := by simpa using h5
    clear h1 h2 h3 h4 h5
    go_enter Try.func34, Try.ntmps34
    go_wp2_with (first | (go_at_call 87; (with_reducible refine (HV _ _ _ _ (H.box2 _ _ _ _) (by repeat (first | with_reducible_and_instances exact .here | with_reducible refine .there ?_)) (by repeat (first | with_reducible_and_instances exact .here | with_reducible refine .there ?_))).mono ?_); rintro e w1 ⟨rfl, hb1⟩; replace H := (H.box2 _ _ _ _).below hb1; clear hb1; (try clear hq); have hq := H.facts; simp only [factsOf, Pt.facts, CellsAt, Nat.add_zero, Nat.zero_add, Nat.reduceAdd, and_true, true_and, List.set_cons_zero, List.set_cons_succ] at hq) | (go_at_call 88; (with_reducible refine (HT _).mono ?_); rintro e w' ⟨rfl, rfl⟩) | (go_at_call 88; (with_reducible refine (HA _).mono ?_); rintro e w' ⟨rfl, rfl⟩) | (go_at_call 93; (with_reducible refine (HK _).mono ?_); rintro e w' ⟨rfl, rfl⟩))
    have hB := H.belowW
    exact bodyPost_ret (v := .tuple #[.agg #[.int .i64 0, .slice none 0 0], .bool false]) (by simp [results, Try.results34, go_sem, hq]) rfl (madeLR_no HX.out (by (repeat (first | with_reducible assumption | with_reducible exact Below.refl _ _ | with_reducible refine Below.setCell ?_ ?_ _ | with_reducible refine Below.alloc ?_ ?_ _ | with_reducible refine Below.drew ?_ | with_reducible refine below_drewN ?_ _ | omega | (simp; done) | (simp; omega))); all_goals first | omega | (simp; done) | (simp; omega)))
  cases h6 : rises (fun n => inB n 1 1000000000) pins
  · have HX := Lib.hid (show SweepLog_f ⟨next, l⟩ now age keep pins = (⟨0, []⟩, false) from if_neg (by simp [sweepOk, h1, h2, h3, h4, h5, h6]))
    rw [h1] at HV
    rw [h2] at HT
    rw [h3] at HA
    rw [h4] at HK
    rw [h6] at HP
    have hd : (pins.length : Int) ≤ 300 := by simpa using h5
    clear h1 h2 h3 h4 h5 h6
    go_enter Try.func34, Try.ntmps34
    go_wp2_with (first | (go_at_call 87; (with_reducible refine (HV _ _ _ _ (H.box2 _ _ _ _) (by repeat (first | with_reducible_and_instances exact .here | with_reducible refine .there ?_)) (by repeat (first | with_reducible_and_instances exact .here | with_reducible refine .there ?_))).mono ?_); rintro e w1 ⟨rfl, hb1⟩; replace H := (H.box2 _ _ _ _).below hb1; clear hb1; (try clear hq); have hq := H.facts; simp only [factsOf, Pt.facts, CellsAt, Nat.add_zero, Nat.zero_add, Nat.reduceAdd, and_true, true_and, List.set_cons_zero, List.set_cons_succ] at hq) | (go_at_call 88; (with_reducible refine (HT _).mono ?_); rintro e w' ⟨rfl, rfl⟩) | (go_at_call 88; (with_reducible refine (HA _).mono ?_); rintro e w' ⟨rfl, rfl⟩) | (go_at_call 93; (with_reducible refine (HK _).mono ?_); rintro e w' ⟨rfl, rfl⟩) | (go_at_call 94; (with_reducible refine (HP _ _ _ H (by repeat (first | with_reducible_and_instances exact .here | with_reducible refine .there ?_))).mono ?_); rintro e w1 ⟨rfl, hb1⟩; replace H := H.below hb1; clear hb1; (try clear hq); have hq := H.facts; simp only [factsOf, Pt.facts, CellsAt, Nat.add_zero, Nat.zero_add, Nat.reduceAdd, and_true, true_and, List.set_cons_zero, List.set_cons_succ] at hq))
    have hB := H.belowW
    exact bodyPost_ret (v := .tuple #[.agg #[.int .i64 0, .slice none 0 0], .bool false]) (by simp [results, Try.results34, go_sem, hq]) rfl (madeLR_no HX.out (by (repeat (first | with_reducible assumption | with_reducible exact Below.refl _ _ | with_reducible refine Below.setCell ?_ ?_ _ | with_reducible refine Below.alloc ?_ ?_ _ | with_reducible refine Below.drew ?_ | with_reducible refine below_drewN ?_ _ | omega | (simp; done) | (simp; omega))); all_goals first | omega | (simp; done) | (simp; omega)))
  have HVX := Lib.hid (show SweepLog_f ⟨next, l⟩ now age keep pins = (⟨next, sweepTo now age keep pins l l.length⟩, true) from if_pos (by simp [sweepOk, h1, h2, h3, h4, h5, h6]))
  have hnow := inB_yes h2
  have hkeep := inB_yes h4
  have HMB := Lib.hid (show ∀ (j : Nat) (m : Message), l[j]? = some m → 0 ≤ m.xAt ∧ m.xAt ≤ 1000000 from fun j m h => by have := Message.bounds (Log.msg_ok h1 h).1; omega)
  have hfew := (Log.few h1).1
  simp only at hfew
  rw [h1] at HV
  rw [h2] at HT
  rw [h3] at HA
  rw [h4] at HK
  have hd : (pins.length : Int) ≤ 300 := by simpa using h5
  rw [h6] at HP
  have HSL := fun (j : Nat) => Lib.hid (sweepTo_len now age keep pins l j)
  clear h1 h2 h3 h4 h5 h6
  generalize hnn : l.length = n at *
  have HN := Lib.hid hnn
  clear hnn
  go_enter Try.func34, Try.ntmps34
  go_wp2_with (first | (go_at_call 87; (with_reducible refine (HV _ _ _ _ (H.box2 _ _ _ _) (by repeat (first | with_reducible_and_instances exact .here | with_reducible refine .there ?_)) (by repeat (first | with_reducible_and_instances exact .here | with_reducible refine .there ?_))).mono ?_); rintro e w1 ⟨rfl, hb1⟩; replace H := (H.box2 _ _ _ _).below hb1; clear hb1; (try clear hq); have hq := H.facts; simp only [factsOf, Pt.facts, CellsAt, Nat.add_zero, Nat.zero_add, Nat.reduceAdd, and_true, true_and, List.set_cons_zero, List.set_cons_succ] at hq) | (go_at_call 88; (with_reducible refine (HT _).mono ?_); rintro e w' ⟨rfl, rfl⟩) | (go_at_call 88; (with_reducible refine (HA _).mono ?_); rintro e w' ⟨rfl, rfl⟩) | (go_at_call 93; (with_reducible refine (HK _).mono ?_); rintro e w' ⟨rfl, rfl⟩) | (go_at_call 94; (with_reducible refine (HP _ _ _ H (by repeat (first | with_reducible_and_instances exact .here | with_reducible refine .there ?_))).mono ?_); rintro e w1 ⟨rfl, hb1⟩; replace H := H.below hb1; clear hb1; (try clear hq); have hq := H.facts; simp only [factsOf, Pt.facts, CellsAt, Nat.add_zero, Nat.zero_add, Nat.reduceAdd, and_true, true_and, List.set_cons_zero, List.set_cons_succ] at hq))
  refine (HO _ _ _ _ H (by repeat (first | with_reducible_and_instances exact .here | with_reducible refine .there ?_)) (by repeat (first | with_reducible_and_instances exact .here | with_reducible refine .there ?_))).mono ?_
  rintro e w2 ⟨us, F, rfl, hO, hb, hF⟩
  obtain ⟨Ao, co, rfl, H⟩ := Log.st HN.out (H.addos hb hO hF)
  obtain ⟨R, H, hR⟩ := H.freeze
  clear hO hF hb HV HO
  (try clear hq); have hq := H.facts; simp only [factsOf, Pt.facts, CellsAt, Nat.add_zero, Nat.zero_add, Nat.reduceAdd, and_true, true_and, List.set_cons_zero, List.set_cons_succ] at hq
  go_wp2
  go_loopw [56] (fun k wr => ∃ j : Nat, j ≤ n ∧ k = .int .i64 j ∧ ∃ (A9 : Option Addr) (q c9 : Nat), St (Lo W.heap.size) R W wr [.bx (w2.heap.size + 1 + 1) #[.int .i64 next, .slice A9 q c9] 41, .sh 57 8 ((sweepTo now age keep pins l j).map (Message.d true)) (.slice A9 q c9), .bx w2.heap.size #[.int .i64 next, .slice Ao n co] 41, .ro (Message.s true l) (.slice Ao n co), .ro (ints pins) (.slice Ap pins.length cp), .bx (W.heap.size + 1) #[.int .i64 0, .slice none 0 0] 41]) (fun k _ => n - (intOf k).toNat)
  case atStart =>
    refine ⟨0, by omega, rfl, some ⟨w2.heap.size + 1, 0, none⟩, 0, 0, ?_⟩
    rw [show (sweepTo now age keep pins l 0).map (Message.d true) = [] from rfl]
    apply St.sub' (h := (H.box3 _ _ _ _ _ _).nilsh 57 8 (some ⟨w2.heap.size + 1, 0, none⟩))
    (repeat (first | exact Pick.nil | with_reducible_and_instances exact Del.here | apply Pick.cons | with_reducible apply Del.there))
  case round =>
    obtain ⟨j, hj, rfl, A9, q, c9, H⟩ := hrel
    by_cases hlt : j < n
    · obtain ⟨m, hmj⟩ := get_lt (l := l) (k := j) (by rw [HN.out]; exact hlt)
      obtain ⟨b, off, A7, c7, hA, H⟩ := Message.st H (by repeat (first | with_reducible_and_instances exact .here | with_reducible refine .there ?_)) hmj
      subst hA
      have HCT := HH m.xNumber
      have hma := HMB.out j m hmj
      have HTL : q ≤ j := by have h1 := (HSL j).out; obtain ⟨A0, c0, h2, -⟩ := (H.lo_sh (by repeat (first | with_reducible_and_instances exact .here | with_reducible refine .there ?_))).sl_inv; injection h2 with _ h2 _; simp at h2; omega
      have HTY := fun h => Lib.hid (sweepTo_yes (now := now) (age := age) (keep := keep) (pins := pins) hmj h)
      have HTN := fun h => Lib.hid (sweepTo_no (now := now) (age := age) (keep := keep) (pins := pins) hmj h)
      rw [HN.out] at HTY HTN
      unfold kept at HTY HTN
      have hlt' : (j : Int) < (n : Int) := by omega
      generalize hasIt pins m.xNumber = hi at *
      clear hmj HH HMB HSL
      (try clear hq); have hq := H.facts; simp only [factsOf, Pt.facts, CellsAt, Nat.add_zero, Nat.zero_add, Nat.reduceAdd, and_true, true_and, List.set_cons_zero, List.set_cons_succ] at hq
      by_cases d1 : now - m.xAt ≤ age
      · have HT := HTY (by simp [d1])
        go_wp2_with (first | (at_builtin; (refine by_wp rfl fun K hK => wp_append1S_at 4 _ _ 39 57 rfl Try.underlying39 (.agg #[.int .i64 0, .int .i64 0, .int .i64 0, .string ByteArray.empty, .int .i64 0, .bool false, .int .i64 0, .slice none 0 0]) 8 88 Message.inf rfl (by decide) (by decide) (by rfl) #[.int .i64 m.xNumber, .int .i64 m.xSender, .int .i64 m.xAt, .string m.xText, .int .i64 m.xEdits, .bool m.xGone, .int .i64 m.xReply, .slice A7 m.xLikes.length c7] (by rfl) (by first | rfl | (simp; done)) (Message.d true m) rfl (H.box _ _) rfl (Message.ros ((H.box _ _).roR (by repeat (first | with_reducible_and_instances exact .here | with_reducible refine .there ?_)))) (by omega) ?_; intro A9 c9 w4 H; refine hK _ _ ?_; clear hK; simp only [List.set_cons_zero, List.set_cons_succ] at H; (try clear hq); have hq := H.facts; simp only [factsOf, Pt.facts, CellsAt, Nat.add_zero, Nat.zero_add, Nat.reduceAdd, and_true, true_and, List.set_cons_zero, List.set_cons_succ] at hq)) | (go_at_call 96; (with_reducible refine (HCT _ _ _ (H.box _ _) (by repeat (first | with_reducible_and_instances exact .here | with_reducible refine .there ?_))).mono ?_); rintro e wq ⟨rfl, hwq⟩; obtain rfl := hwq.symm))
        go_roundw
        case rel =>
          refine ⟨j + 1, by omega, by go_num, A9, q + 1, c9, ?_⟩
          rw [HT.out, List.map_append, List.map_cons, List.map_nil]
          have H2 := (H.pull (k := 3) rfl).put' 1 (.slice A9 (q + 1) c9) #[.int .i64 next, .slice A9 (q + 1) c9] rfl
          simp only [List.set_cons_zero, List.set_cons_succ] at H2
          apply St.sub' (h := H2)
          (repeat (first | exact Pick.nil | with_reducible_and_instances exact Del.here | apply Pick.cons | with_reducible apply Del.there))
        case measure => simp [intOf]; omega
      by_cases d2 : (n : Int) - (j : Int) ≤ keep
      · have HT := HTY (by simp [d2])
        go_wp2_with (first | (at_builtin; (refine by_wp rfl fun K hK => wp_append1S_at 4 _ _ 39 57 rfl Try.underlying39 (.agg #[.int .i64 0, .int .i64 0, .int .i64 0, .string ByteArray.empty, .int .i64 0, .bool false, .int .i64 0, .slice none 0 0]) 8 88 Message.inf rfl (by decide) (by decide) (by rfl) #[.int .i64 m.xNumber, .int .i64 m.xSender, .int .i64 m.xAt, .string m.xText, .int .i64 m.xEdits, .bool m.xGone, .int .i64 m.xReply, .slice A7 m.xLikes.length c7] (by rfl) (by first | rfl | (simp; done)) (Message.d true m) rfl (H.box _ _) rfl (Message.ros ((H.box _ _).roR (by repeat (first | with_reducible_and_instances exact .here | with_reducible refine .there ?_)))) (by omega) ?_; intro A9 c9 w4 H; refine hK _ _ ?_; clear hK; simp only [List.set_cons_zero, List.set_cons_succ] at H; (try clear hq); have hq := H.facts; simp only [factsOf, Pt.facts, CellsAt, Nat.add_zero, Nat.zero_add, Nat.reduceAdd, and_true, true_and, List.set_cons_zero, List.set_cons_succ] at hq)) | (go_at_call 96; (with_reducible refine (HCT _ _ _ (H.box _ _) (by repeat (first | with_reducible_and_instances exact .here | with_reducible refine .there ?_))).mono ?_); rintro e wq ⟨rfl, hwq⟩; obtain rfl := hwq.symm))
        go_roundw
        case rel =>
          refine ⟨j + 1, by omega, by go_num, A9, q + 1, c9, ?_⟩
          rw [HT.out, List.map_append, List.map_cons, List.map_nil]
          have H2 := (H.pull (k := 3) rfl).put' 1 (.slice A9 (q + 1) c9) #[.int .i64 next, .slice A9 (q + 1) c9] rfl
          simp only [List.set_cons_zero, List.set_cons_succ] at H2
          apply St.sub' (h := H2)
          (repeat (first | exact Pick.nil | with_reducible_and_instances exact Del.here | apply Pick.cons | with_reducible apply Del.there))
        case measure => simp [intOf]; omega
      cases hi
      · have HT := HTN (by simp [d1, d2])
        go_wp2_with (first | (go_at_call 96; (with_reducible refine (HCT _ _ _ (H.box _ _) (by repeat (first | with_reducible_and_instances exact .here | with_reducible refine .there ?_))).mono ?_); rintro e wq ⟨rfl, hwq⟩; obtain rfl := hwq.symm))
        go_roundw
        case rel =>
          refine ⟨j + 1, by omega, by go_num, A9, q, c9, ?_⟩
          rw [HT.out]
          apply St.sub' (h := H.junk _)
          (repeat (first | exact Pick.nil | with_reducible_and_instances exact Del.here | apply Pick.cons | with_reducible apply Del.there))
        case measure => simp [intOf]; omega
      · have HT := HTY (by simp [])
        go_wp2_with (first | (at_builtin; (refine by_wp rfl fun K hK => wp_append1S_at 4 _ _ 39 57 rfl Try.underlying39 (.agg #[.int .i64 0, .int .i64 0, .int .i64 0, .string ByteArray.empty, .int .i64 0, .bool false, .int .i64 0, .slice none 0 0]) 8 88 Message.inf rfl (by decide) (by decide) (by rfl) #[.int .i64 m.xNumber, .int .i64 m.xSender, .int .i64 m.xAt, .string m.xText, .int .i64 m.xEdits, .bool m.xGone, .int .i64 m.xReply, .slice A7 m.xLikes.length c7] (by rfl) (by first | rfl | (simp; done)) (Message.d true m) rfl (H.box _ _) rfl (Message.ros ((H.box _ _).roR (by repeat (first | with_reducible_and_instances exact .here | with_reducible refine .there ?_)))) (by omega) ?_; intro A9 c9 w4 H; refine hK _ _ ?_; clear hK; simp only [List.set_cons_zero, List.set_cons_succ] at H; (try clear hq); have hq := H.facts; simp only [factsOf, Pt.facts, CellsAt, Nat.add_zero, Nat.zero_add, Nat.reduceAdd, and_true, true_and, List.set_cons_zero, List.set_cons_succ] at hq)) | (go_at_call 96; (with_reducible refine (HCT _ _ _ (H.box _ _) (by repeat (first | with_reducible_and_instances exact .here | with_reducible refine .there ?_))).mono ?_); rintro e wq ⟨rfl, hwq⟩; obtain rfl := hwq.symm))
        go_roundw
        case rel =>
          refine ⟨j + 1, by omega, by go_num, A9, q + 1, c9, ?_⟩
          rw [HT.out, List.map_append, List.map_cons, List.map_nil]
          have H2 := (H.pull (k := 3) rfl).put' 1 (.slice A9 (q + 1) c9) #[.int .i64 next, .slice A9 (q + 1) c9] rfl
          simp only [List.set_cons_zero, List.set_cons_succ] at H2
          apply St.sub' (h := H2)
          (repeat (first | exact Pick.nil | with_reducible_and_instances exact Del.here | apply Pick.cons | with_reducible apply Del.there))
        case measure => simp [intOf]; omega
    · obtain rfl : j = n := by omega
      (try clear hq); have hq := H.facts; simp only [factsOf, Pt.facts, CellsAt, Nat.add_zero, Nat.zero_add, Nat.reduceAdd, and_true, true_and, List.set_cons_zero, List.set_cons_succ] at hq
      go_wp2
      have hB := H.belowW
      refine bodyPost_ret (v := .tuple #[.agg #[.int .i64 next, .slice A9 q c9], .bool true]) (by simp [results, Try.results34, go_sem, hq]) rfl ?_
      have H3 := ((H.pull (k := 5) rfl).put 0 (.int .i64 next)).put 1 (.slice A9 q c9)
      simp only [List.set_cons_zero, List.set_cons_succ] at H3
      rw [HVX.out]
      exact ⟨_, rfl, Log.ros (x := ⟨next, sweepTo now age keep pins l j⟩) (H3.lo_sh (e := 57) (sz := 8) (rows := (sweepTo now age keep pins l j).map (Message.d true)) (by repeat (first | with_reducible_and_instances exact .here | with_reducible refine .there ?_))), H3.belowW⟩
theorem sweep_ln (now age keep : Int) (pins : List Int) (l : List Message) (j : Nat) : Message.ln (sweepTo now age keep pins l j) ≤ Message.ln (l.take j) := by
  have e : ∀ (l : List Message), Message.ln l = (l.map Message.en).sum := fun _ => rfl
  induction j with
  | zero => exact Nat.le_refl _
  | succ j ih =>
    rw [e, e] at ih ⊢
    cases h : l[j]? with
    | none =>
      have h2 : l.take (j + 1) = l.take j := by rw [List.take_add_one, h]; simp
      have h3 : sweepTo now age keep pins l (j + 1) = sweepTo now age keep pins l j := by rw [sweepTo, h]
      rw [h2, h3]; exact ih
    | some m =>
      have h2 : l.take (j + 1) = l.take j ++ [m] := by rw [List.take_add_one, h]; rfl
      rw [h2]
      cases hk : kept now age keep pins l.length j m
      · rw [sweepTo_no h hk]; simp only [List.map_append, List.sum_append]; omega
      · rw [sweepTo_yes h hk]; simp only [List.map_append, List.sum_append]; omega
theorem SweepLog_lawI (x : Log) (now age keep : Int) (pins : List Int) (us : List Value) (A : Option Addr) (c : Nat) (W : World) (hr : RoL W (Lo W.heap.size) (Log.d true x) us) (hp : Ro W (Lo W.heap.size) (ints pins) (.slice A pins.length c)) (hz : Log.z x ≤ 1048576) (hz2 : pins.length ≤ 1048576) :
    Calls Try.prog 36 #[.agg us.toArray, .int .i64 now, .int .i64 age, .int .i64 keep, .slice A pins.length c] W fun e w' =>
    ∃ us F, e = .returned (.tuple #[.agg us.toArray, .bool (SweepLog_f x now age keep pins).2]) ∧ OwL w' (Log.d true (SweepLog_f x now age keep pins).1) us F ∧ (∀ b, F b → W.heap.size ≤ b) ∧ Below W.heap.size W w' :=
  (impl_SweepLog x now age keep pins us A c W hr hp (Log.fits hz)).mono fun e w' ⟨A, n, c, F, h1, h2, h3, h4⟩ => ⟨_, F, h1, Log.own_of h2, h4, h3⟩
theorem SweepLog_lawS (x : Log) (now age keep : Int) (pins : List Int) (us : List Value) (A : Option Addr) (c : Nat) (W : World) (hr : RoL W (Lo W.heap.size) (Log.d true x) us) (hp : Ro W (Lo W.heap.size) (ints pins) (.slice A pins.length c)) (hz : Log.z x ≤ 1048576) (hz2 : pins.length ≤ 1048576) :
    Calls Try.prog 34 #[.agg us.toArray, .int .i64 now, .int .i64 age, .int .i64 keep, .slice A pins.length c] W fun e w' =>
    ∃ us, e = .returned (.tuple #[.agg us.toArray, .bool (SweepLog_f x now age keep pins).2]) ∧ RoL w' (Lo w'.heap.size) (Log.d true (SweepLog_f x now age keep pins).1) us ∧ Below W.heap.size W w' :=
  spec_SweepLog x now age keep pins us A c W hr hp (Log.fits hz) (Nat.le_trans Log.long hz)
theorem SweepLog_lawN (x : Log) (now age keep : Int) (pins : List Int) (hz : Log.z x ≤ 1048576) (hz2 : pins.length ≤ 1048576) : Log.sn (SweepLog_f x now age keep pins).1 ≤ 1000000000000 := by
  unfold SweepLog_f
  split
  · have h := sweep_ln now age keep pins x.xMessages x.xMessages.length
    rw [List.take_of_length_le (Nat.le_refl _)] at h
    have h2 := Log.sn_z x
    exact Nat.le_trans h (Nat.le_trans h2 (by omega))
  · decide
end Go.Proofs.Ytmofbfeclecdoaa

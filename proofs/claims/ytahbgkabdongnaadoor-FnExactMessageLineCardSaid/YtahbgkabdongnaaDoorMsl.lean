/- MessageLine, by both. -/
import Derived.Test.YtahbgkabdongnaaDoorLin
namespace Go.Proofs.YtahbgkabdongnaaDoor
open Go.ChangeShapes Go.WideShapes Go.ChangeAt Go.RowKit Go.Dt
set_option linter.unusedVariables false
set_option linter.unusedSimpArgs false
def MessageLine_f (x : Message) : ByteArray × Bool := if x.ok = true then (lineTx x, true) else (ByteArray.empty, false)
set_option maxHeartbeats 1600000 in
set_option maxRecDepth 100000 in
theorem MessageLine_lawI (x : Message) (us : List Value) (W : World) (ht : Pow10 W) (hr : RoL W (Lo W.heap.size) (Message.d true x) us) (hz : Message.z x ≤ 1048576) :
    Calls Tryd.prog 20 #[.agg us.toArray] W fun e w' => e = .returned (.tuple #[.string (MessageLine_f x).1, .bool (MessageLine_f x).2]) ∧ Below W.heap.size W w' := by
  have hzt : x.xText.size ≤ maxLen := by have h : Message.z x = x.xText.size + x.xLikes.length := rfl; simp only [maxLen]; omega
  have HV := fun (w : World) (hb : Below W.heap.size W w) => impl_ValidMessage x us w (rol_to hr hb) hzt
  cases hv : x.ok
  · have HX := Lib.hid (show MessageLine_f x = (ByteArray.empty, false) from if_neg (by rw [hv]; decide))
    rw [hv] at HV
    obtain ⟨A7, c7v, rfl, r7, l7, m7⟩ := Message.cells hr
    clear hv hr r7 l7 m7 hz hzt ht
    have HB : Below W.heap.size W W := Below.refl _ _
    go_enter Tryd.func20, Tryd.ntmps20
    go_wp2_with fail
    refine (HV _ (HB.alloc (Nat.le_refl _) _)).mono ?_
    rintro e w1 ⟨rfl, hb1⟩
    go_wp2
    go_ret2
    exact ⟨by rw [HX.out]; rfl, below_step (HB.alloc (Nat.le_refl _) _) hb1 (by simp)⟩
  · have HX := Lib.hid (show MessageLine_f x = (lineTx x, true) from if_pos hv)
    have HM := fun (w : World) (hb : Below W.heap.size W w) => impl_messageLine x us w (ht.on hb) (rol_to hr hb) (Message.ok_lined hv)
    rw [hv] at HV
    obtain ⟨A7, c7v, rfl, r7, l7, m7⟩ := Message.cells hr
    clear hv hr r7 l7 m7 hz hzt ht
    have HB : Below W.heap.size W W := Below.refl _ _
    go_enter Tryd.func20, Tryd.ntmps20
    go_wp2_with fail
    refine (HV _ (HB.alloc (Nat.le_refl _) _)).mono ?_
    rintro e w1 ⟨rfl, hb1⟩
    have hB1 : Below W.heap.size W w1 := below_step (HB.alloc (Nat.le_refl _) _) hb1 (by simp)
    obtain ⟨hc, hf⟩ := bcell hb1
    have hlt : W.heap.size < w1.heap.size := by have := hb1.size; simp at this; omega
    go_wp2_with fail
    refine (HM _ hB1).mono ?_
    rintro e w2 ⟨rfl, hb2⟩
    go_wp2
    go_ret2
    exact ⟨by rw [HX.out]; rfl, below_step hB1 hb2 hB1.size⟩
set_option maxHeartbeats 1600000 in
set_option maxRecDepth 100000 in
theorem MessageLine_lawS (x : Message) (us : List Value) (W : World) (hr : RoL W (Lo W.heap.size) (Message.d true x) us) (hz : Message.z x ≤ 1048576) :
    Calls Tryd.prog 18 #[.agg us.toArray] W fun e w' => e = .returned (.tuple #[.string (MessageLine_f x).1, .bool (MessageLine_f x).2]) ∧ Below W.heap.size W w' := by
  have hzt : x.xText.size ≤ maxLen := by have h : Message.z x = x.xText.size + x.xLikes.length := rfl; simp only [maxLen]; omega
  have HBX := Lib.hid (fun (w' : World) (hb : Below (W.alloc (.cells us.toArray 37)).heap.size (W.alloc (.cells us.toArray 37)) w') => (show ∀ (j : Nat) u, us[j]? = some u → w'.cell? ⟨W.heap.size, 0 + j, none⟩ = some u from by
    intro j u hu
    have h := (Bx.new W us.toArray 37).cell j (u := u) (by simpa using hu)
    rw [Nat.zero_add]
    exact (hb.cell (p := ⟨W.heap.size, j, none⟩) (by simp)).trans h))
  have HV := fun (w : World) (hb : Below W.heap.size W w) hcl => spec_l03Message x us W.heap.size 0 w (rol_to hr hb) hzt hcl
  cases hv : x.ok
  · have HX := Lib.hid (show MessageLine_f x = (ByteArray.empty, false) from if_neg (by rw [hv]; decide))
    rw [hv] at HV
    obtain ⟨A7, c7v, rfl, r7, l7, m7⟩ := Message.cells hr
    clear hv hr r7 l7 m7 hz hzt
    have HB : Below W.heap.size W W := Below.refl _ _
    go_enter Tryd.func18, Tryd.ntmps18
    go_wp2_with fail
    refine (HV _ (HB.alloc (Nat.le_refl _) _) (HBX.out _ (Below.refl _ _))).mono ?_
    rintro e w1 ⟨rfl, hb1⟩
    go_wp2
    go_ret2
    exact ⟨by rw [HX.out]; rfl, below_step (HB.alloc (Nat.le_refl _) _) hb1 (by simp)⟩
  · have HX := Lib.hid (show MessageLine_f x = (lineTx x, true) from if_pos hv)
    have HM := fun (w : World) (hb : Below W.heap.size W w) hcl => spec_l09Line x us W.heap.size 0 w (rol_to hr hb) (Message.ok_lined hv) hcl
    rw [hv] at HV
    obtain ⟨A7, c7v, rfl, r7, l7, m7⟩ := Message.cells hr
    clear hv hr r7 l7 m7 hz hzt
    have HB : Below W.heap.size W W := Below.refl _ _
    go_enter Tryd.func18, Tryd.ntmps18
    go_wp2_with fail
    refine (HV _ (HB.alloc (Nat.le_refl _) _) (HBX.out _ (Below.refl _ _))).mono ?_
    rintro e w1 ⟨rfl, hb1⟩
    have hB1 : Below W.heap.size W w1 := below_step (HB.alloc (Nat.le_refl _) _) hb1 (by simp)
    go_wp2_with fail
    refine (HM _ hB1 (HBX.out _ hb1)).mono ?_
    rintro e w2 ⟨rfl, hb2⟩
    go_wp2
    go_ret2
    exact ⟨by rw [HX.out]; rfl, below_step hB1 hb2 hB1.size⟩
end Go.Proofs.YtahbgkabdongnaaDoor

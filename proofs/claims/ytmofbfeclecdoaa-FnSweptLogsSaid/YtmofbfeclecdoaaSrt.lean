/- Drawn texts. -/
import Derived.Test.YtmofbfeclecdoaaSrc
namespace Go.Proofs.Ytmofbfeclecdoaa
open Go.ChangeShapes Go.WideShapes Go.ChangeAt Go.RowKit Go.Dt
set_option linter.unusedVariables false
set_option linter.unusedSimpArgs false
theorem strs_ok (l : List ByteArray) (hl : l.all (fun s => decide (s.size ≤ 5)) = true) (i : Nat) (u : Value) (h : (l.map Value.string).toArray[i]? = some u) : ∃ s : ByteArray, u = Value.string s ∧ s.size ≤ 5 := by
  rw [List.getElem?_toArray, List.getElem?_map] at h
  obtain ⟨s, hs, rfl⟩ := Option.map_eq_some_iff.1 h
  exact ⟨s, rfl, by simpa using List.all_eq_true.1 hl s (List.mem_of_getElem? hs)⟩
section
variable {N R : Nat → Prop} {W w w' : World} {b : Nat} {Ac : Option Addr} {nc cc : Nat} {k : Int} {p q : Pt} {ps : List Pt}
theorem Src.box (h : Src N R W w b Ac nc cc k (p :: ps)) (cs : Array Value) (T : TypeId) : Src N R W (w.alloc (.cells cs T)) b Ac nc cc k (p :: .bx w.heap.size cs T :: ps) := by
  obtain ⟨a, s, x1, x2, x3, x4⟩ := h
  exact ⟨a, s, x1, x2, x3, (x4.box cs T).front2 (.there .here) (.there .here)⟩
theorem Src.drop (h : Src N R W w b Ac nc cc k (p :: q :: ps)) : Src N R W w b Ac nc cc k (p :: ps) := by
  obtain ⟨a, s, x1, x2, x3, x4⟩ := h
  exact ⟨a, s, x1, x2, x3, St.tail (x4.front (.there (.there .here)))⟩
theorem Src.le {k' : Int} (h : Src N R W w b Ac nc cc k ps) (hk : k ≤ k') : Src N R W w b Ac nc cc k' ps := by
  obtain ⟨a, s, x1, x2, x3, x4⟩ := h
  exact ⟨a, s, x1, by omega, x3, x4⟩
theorem Src.junk (h : Src N R W w b Ac nc cc k ps) (o : Obj) : Src N R W (w.alloc o) b Ac nc cc k ps := by
  obtain ⟨a, s, x1, x2, x3, x4⟩ := h
  exact ⟨a, s, x1, x2, x3, x4.junk o⟩
end
set_option maxHeartbeats 1600000 in
set_option maxRecDepth 100000 in
theorem spec_l01DrawText (code : List Int) (wf : ∀ n ∈ code, 0 ≤ n ∧ n < 256) (Ac : Option Addr) (nc cc b : Nat) (k : Int) (N R : Nat → Prop) (W w : World) (ps : List Pt) (H : Src N R W w b Ac nc cc k (.ro (bytes code) (.slice Ac nc cc) :: ps)) (hk : k ≤ 999999999000) :
    Calls Try.prog 220 #[.pointer (some ⟨b, 0, none⟩)] w fun e w' => ∃ s : ByteArray, e = .returned (.string s) ∧ s.size ≤ 40 ∧ Src N R W w' b Ac nc cc (k + 18) (.ro (bytes code) (.slice Ac nc cc) :: ps) := by
  have HX := spec_pick code wf Ac nc cc b k 5 N R W w ps H (by omega) (by omega)
  clear H
  go_enter Try.func220, Try.ntmps220
  go_wp2_with fail
  refine HX.mono ?_
  rintro e w1 ⟨v1, rfl, hv1, H⟩
  obtain ⟨j1, rfl⟩ := Int.eq_ofNat_of_zero_le hv1.1
  have hj1 : j1 ≤ 4 := by omega
  clear hv1 HX
  go_wp2_with fail
  go_loopw [3, 4] (fun v3 v4 wr => ∃ (s : ByteArray) (j : Nat), j ≤ 4 ∧ v3 = .string s ∧ v4 = .int .i64 j ∧ s.size + 10 * j ≤ 40 ∧ Src N R W wr b Ac nc cc (k + 18 - 4 * j) (.ro (bytes code) (.slice Ac nc cc) :: ps)) (fun _ v4 _ => (intOf v4).toNat)
  case atStart => exact ⟨ByteArray.empty, j1, hj1, rfl, rfl, by simp; omega, H.le (by omega)⟩
  case round =>
    obtain ⟨s, j, hj, rfl, rfl, hs, H⟩ := hrel
    cases j with
    | zero =>
      go_wp2
      go_ret
      exact ⟨s, rfl, by omega, H.le (by omega)⟩
    | succ i =>
      have hi0 : (0 : Int) < (i : Int) + 1 := by omega
      have hi1 : (i : Int) + 1 - 1 = i := by omega
      cases he : (s.toList == [])
      · have he2 : (s.toList != []) = true := by simp [bne, he]
        go_wp2_with fail
        refine (spec_text (fun s => s.size ≤ 5) _ 4 _ _ _ code wf Ac nc cc b _ N R W _ _ (Src.box H _ _) (by omega) .here rfl (by decide) (fun i u h => strs_ok [⟨#[32]⟩, ⟨#[44, 32]⟩, ⟨#[33, 32]⟩, ⟨#[45]⟩] (by decide) i u h)).mono ?_
        rintro e w2 ⟨s1, rfl, hs1, H1⟩
        have H := Src.drop H1
        clear H1
        go_wp2_with fail
        refine (spec_text (fun s => s.size ≤ 5) _ 15 _ _ _ code wf Ac nc cc b _ N R W _ _ (Src.box H _ _) (by omega) .here rfl (by decide) (fun i u h => strs_ok [⟨#[104, 101, 108, 108, 111]⟩, ⟨#[82, 111, 111, 109]⟩, ⟨#[97, 116]⟩, ⟨#[55]⟩, ⟨#[64, 49]⟩, ⟨#[64, 50]⟩, ⟨#[64, 51]⟩, ⟨#[64, 51, 48]⟩, ⟨#[116, 101, 97]⟩, ⟨#[84, 101, 97]⟩, ⟨#[110, 111]⟩, ⟨#[121, 101, 115]⟩, ⟨#[119, 104, 111]⟩, ⟨#[64, 48]⟩, ⟨#[64, 49, 120]⟩] (by decide) i u h)).mono ?_
        rintro e w3 ⟨s2, rfl, hs2, H2⟩
        have H := Src.drop H2
        clear H2
        go_wp2_with fail
        go_roundw
        case rel => exact ⟨_, i, by omega, rfl, by go_num, by simp only [ByteArray.size_append]; omega, H.le (by omega)⟩
        case measure => simp [intOf]
      · have he2 : (s.toList != []) = false := by simp [bne, he]
        go_wp2_with fail
        refine (spec_text (fun s => s.size ≤ 5) _ 15 _ _ _ code wf Ac nc cc b _ N R W _ _ (Src.box H _ _) (by omega) .here rfl (by decide) (fun i u h => strs_ok [⟨#[104, 101, 108, 108, 111]⟩, ⟨#[82, 111, 111, 109]⟩, ⟨#[97, 116]⟩, ⟨#[55]⟩, ⟨#[64, 49]⟩, ⟨#[64, 50]⟩, ⟨#[64, 51]⟩, ⟨#[64, 51, 48]⟩, ⟨#[116, 101, 97]⟩, ⟨#[84, 101, 97]⟩, ⟨#[110, 111]⟩, ⟨#[121, 101, 115]⟩, ⟨#[119, 104, 111]⟩, ⟨#[64, 48]⟩, ⟨#[64, 49, 120]⟩] (by decide) i u h)).mono ?_
        rintro e w3 ⟨s2, rfl, hs2, H2⟩
        have H := Src.drop H2
        clear H2
        go_wp2_with fail
        go_roundw
        case rel => exact ⟨_, i, by omega, rfl, by go_num, by simp only [ByteArray.size_append]; omega, H.le (by omega)⟩
        case measure => simp [intOf]
end Go.Proofs.Ytmofbfeclecdoaa

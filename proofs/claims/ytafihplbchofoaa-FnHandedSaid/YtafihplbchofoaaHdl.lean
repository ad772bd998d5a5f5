/- Hands: what the law of handing over says, in plain Lean. -/
import Derived.Test.YtafihplbchofoaaSwl
import Derived.Test.YtafihplbchofoaaSFin
import Derived.Test.YtafihplbchofoaaCph
import Derived.Test.YtafihplbchofoaaSsh
namespace Go.Proofs.Ytafihplbchofoaa
open Go.ChangeShapes Go.WideShapes Go.ChangeAt Go.RowKit Go.Dt
set_option linter.unusedVariables false
set_option linter.unusedSimpArgs false
theorem stage_cases {s : Int} {e1 e2 cp z : Bool} (h : stageOk s e1 e2 cp z = true) : (s = 0 ∧ e1 = true ∧ z = true) ∨ (s = 1 ∧ cp = true ∧ z = true) ∨ (s = 2 ∧ cp = true) ∨ (s = 3 ∧ e2 = true ∧ z = true) := by
  unfold stageOk at h
  split at h
  · rename_i h0; rw [Bool.and_eq_true] at h; exact .inl ⟨h0, h.1, h.2⟩
  · split at h
    · rename_i h0; rw [Bool.and_eq_true] at h; exact .inr (.inl ⟨h0, h.1, h.2⟩)
    · split at h
      · rename_i h0; exact .inr (.inr (.inl ⟨h0, h⟩))
      · split at h
        · rename_i h0; rw [Bool.and_eq_true] at h; exact .inr (.inr (.inr ⟨h0, h.1, h.2⟩))
        · cases h
theorem Log.isEmpty_eq {x : Log} (h : x.isEmpty = true) : x = ⟨1, []⟩ := by
  obtain ⟨n, l⟩ := x
  unfold Log.isEmpty at h
  rw [Bool.and_eq_true] at h
  simp at h
  obtain ⟨rfl, h⟩ := h
  have : l = [] := h
  subst this; rfl
theorem log1_ok : Log.ok ⟨1, []⟩ = true := by decide
theorem said_nil (l : Log) : said l [] = (l, true) := rfl
/-- A draft that can be posted behind what was said at a. -/
def Draft.good (d : Draft) (a : Int) : Prop := isMem d.xSender = true ∧ a ≤ d.xAt ∧ 0 ≤ d.xAt ∧ d.xAt ≤ 1000000 ∧ isText d.xText = true
theorem post0_ok {x : Log} {d : Draft} {a : Int} (hx : x.ok = true) (hd : d.good a) (ha : ∀ m ∈ x.xMessages, m.xAt ≤ a) (hl : x.xMessages.length < 40) (hn : x.xNext < 1000000000) : (post0 x d.xSender d.xAt d.xText).ok = true := by
  have h := Log.msgs hx
  have hf := Log.few hx
  obtain ⟨d1, d2, d3, d4, d5⟩ := hd
  refine Log.ok_of ⟨?_, ?_⟩ (by simp; omega) (by omega)
  · rw [List.pairwise_append]
    refine ⟨h.1, by simp, fun m hm p hp => ?_⟩
    simp at hp
    subst hp
    have h1 := (h.2 m hm).2
    have h2 := ha m hm
    exact ⟨h1, by simp only; omega⟩
  · intro m hm
    rw [List.mem_append] at hm
    rcases hm with hm | hm
    · have := h.2 m hm
      exact ⟨this.1, by omega⟩
    · simp at hm
      subst hm
      refine ⟨?_, by simp only; omega⟩
      unfold Message.ok
      simp only [d1, d5]
      simp [inB, rises, upTo, hasIt]
      omega
structure HInv (h : Hand) (want : Log) (k : Nat) (a : Int) : Prop where
  ok : h.ok = true
  log : LogOfHand_f h = (want, true)
  wok : want.ok = true
  wait : h.xWaiting.length ≤ k
  len : want.xMessages.length ≤ 9 + k
  next : want.xNext ≤ 20 + k
  late : ∀ m ∈ want.xMessages, m.xAt ≤ a
theorem Hand.ok_parts {h : Hand} (ho : h.ok = true) : h.xFrom.ok = true ∧ h.xTo.ok = true ∧ h.xWaiting.length ≤ 20 ∧ (said h.xFrom h.xWaiting).2 = true ∧ stageOk h.xStage h.xTo.isEmpty h.xFrom.isEmpty (copied h.xFrom h.xTo) ((h.xWaiting.length : Int) == 0) = true := by
  unfold Hand.ok at ho
  simp only [Bool.and_eq_true, decide_eq_true_eq] at ho
  exact ⟨ho.1, ho.2.1, by omega, ho.2.2.2.1, ho.2.2.2.2⟩
theorem Hand.ok_mk {h : Hand} (h1 : h.xFrom.ok = true) (h2 : h.xTo.ok = true) (h3 : h.xWaiting.length ≤ 20) (h4 : (said h.xFrom h.xWaiting).2 = true) (h5 : stageOk h.xStage h.xTo.isEmpty h.xFrom.isEmpty (copied h.xFrom h.xTo) ((h.xWaiting.length : Int) == 0) = true) : h.ok = true := by
  unfold Hand.ok
  rw [h1, h2, h4, h5]
  simp; omega
theorem changed_yes {f : Hand → Hand × Bool} {h : Hand} (h1 : h.ok = true) (h2 : (f h).2 = true) (h3 : (f h).1.ok = true) : changed f h = ((f h).1, true) := if_pos ⟨h1, h2, h3⟩
theorem changed_no {f : Hand → Hand × Bool} {h : Hand} (h2 : (f h).2 = false) : changed f h = (Hand.zero, false) := if_neg (by rw [h2]; simp)
theorem wait_nil {l : List Draft} (h : ((l.length : Int) == 0) = true) : l = [] := by
  have : (l.length : Int) = 0 := by simpa using h
  exact List.eq_nil_of_length_eq_zero (by omega)
theorem HInv.start {l : Log} {k : Nat} {a : Int} (hl : l.ok = true) (h1 : l.xMessages.length ≤ 9) (h2 : l.xNext ≤ 20) (h3 : ∀ m ∈ l.xMessages, m.xAt ≤ a) : ∃ h, BeginHand_f l = (h, true) ∧ HInv h l 0 a := by
  have ho : Hand.ok ⟨0, l, ⟨1, []⟩, []⟩ = true := Hand.ok_mk hl log1_ok (by simp) rfl rfl
  refine ⟨⟨0, l, ⟨1, []⟩, []⟩, if_pos hl, ho, ?_, hl, by simp, by omega, by omega, h3⟩
  unfold LogOfHand_f
  rw [if_pos ho]; rfl
/-- What a hand's stage tells of its log. -/
theorem HInv.casesH {h : Hand} {want : Log} {k : Nat} {a : Int} (H : HInv h want k a) :
    (h.xStage = 0 ∧ h.xTo = ⟨1, []⟩ ∧ h.xWaiting = [] ∧ h.xFrom = want) ∨ (h.xStage = 1 ∧ copied h.xFrom h.xTo = true ∧ h.xWaiting = [] ∧ h.xFrom = want) ∨
      (h.xStage = 2 ∧ copied h.xFrom h.xTo = true ∧ said h.xFrom h.xWaiting = (want, true)) ∨ (h.xStage = 3 ∧ h.xFrom = ⟨1, []⟩ ∧ h.xWaiting = [] ∧ h.xTo = want) := by
  obtain ⟨p1, p2, p3, p4, p5⟩ := Hand.ok_parts H.ok
  have hl := H.log
  unfold LogOfHand_f at hl
  rw [if_pos H.ok] at hl
  rcases stage_cases p5 with ⟨s, e, z⟩ | ⟨s, e, z⟩ | ⟨s, e⟩ | ⟨s, e, z⟩
  · rw [s, if_neg (by decide), wait_nil z, said_nil] at hl
    injection hl with hl
    exact .inl ⟨s, Log.isEmpty_eq e, wait_nil z, hl⟩
  · rw [s, if_neg (by decide), wait_nil z, said_nil] at hl
    injection hl with hl
    exact .inr (.inl ⟨s, e, wait_nil z, hl⟩)
  · rw [s, if_neg (by decide)] at hl
    exact .inr (.inr (.inl ⟨s, e, hl⟩))
  · rw [if_pos s] at hl
    injection hl with hl
    exact .inr (.inr (.inr ⟨s, Log.isEmpty_eq e, wait_nil z, hl⟩))
theorem HInv.logH {h : Hand} {want : Log} (ho : h.ok = true) (h1 : (if h.xStage = 3 then (h.xTo, true) else said h.xFrom h.xWaiting) = (want, true)) : LogOfHand_f h = (want, true) := by
  unfold LogOfHand_f; rw [if_pos ho, h1]
theorem copied_post {x y : Log} {s a : Int} {t : ByteArray} (h : copied x y = true) : copied (post0 x s a t) y = true := by
  unfold copied at h ⊢
  simp only [Bool.and_eq_true, decide_eq_true_eq] at h ⊢
  obtain ⟨h1, h2, h3⟩ := h
  have e : (post0 x s a t).xMessages = x.xMessages ++ [⟨x.xNext, s, a, t, 0, false, 0, []⟩] := rfl
  rw [e]
  refine ⟨by rw [List.length_append]; omega, ?_, h3⟩
  rw [List.take_append_of_le_length h1, h2]
theorem HInv.sayH {h : Hand} {want : Log} {k : Nat} {a : Int} {d : Draft} (H : HInv h want k a) (hd : d.good a) (hk : k < 10) :
    (post0 want d.xSender d.xAt d.xText).ok = true ∧ ∃ h', SayHand_f h d = (h', true) ∧ HInv h' (post0 want d.xSender d.xAt d.xText) (k + 1) d.xAt := by
  have hok := post0_ok H.wok hd H.late (by have := H.len; omega) (by have := H.next; omega)
  refine ⟨hok, ?_⟩
  have len' : (post0 want d.xSender d.xAt d.xText).xMessages.length ≤ 9 + (k + 1) := by have := H.len; simp [post0]; omega
  have next' : (post0 want d.xSender d.xAt d.xText).xNext ≤ 20 + (k + 1 : Nat) := by have := H.next; simp [post0]; omega
  have late' : ∀ m ∈ (post0 want d.xSender d.xAt d.xText).xMessages, m.xAt ≤ d.xAt := by
    intro m hm
    simp only [post0, List.mem_append, List.mem_singleton] at hm
    rcases hm with hm | hm
    · have := H.late m hm; have := hd.2.1; omega
    · subst hm; exact Int.le_refl _
  have mk : ∀ h' : Hand, (SayHand_c d h) = (h', true) → h'.ok = true → (if h'.xStage = 3 then (h'.xTo, true) else said h'.xFrom h'.xWaiting) = (post0 want d.xSender d.xAt d.xText, true) → h'.xWaiting.length ≤ k + 1 → ∃ h', SayHand_f h d = (h', true) ∧ HInv h' (post0 want d.xSender d.xAt d.xText) (k + 1) d.xAt := by
    intro h' h1 h2 h3 h4
    refine ⟨h', ?_, h2, HInv.logH h2 h3, hok, h4, len', next', late'⟩
    unfold SayHand_f
    rw [changed_yes H.ok (by rw [h1]) (by rw [h1]; exact h2), h1]
  obtain ⟨p1, p2, p3, p4, p5⟩ := Hand.ok_parts H.ok
  have hw := H.wait
  rcases H.casesH with ⟨s, e, z, f⟩ | ⟨s, e, z, f⟩ | ⟨s, e, f⟩ | ⟨s, e, z, f⟩
  · refine mk ⟨0, post0 want d.xSender d.xAt d.xText, ⟨1, []⟩, []⟩ ?_ (Hand.ok_mk hok log1_ok (by simp) rfl rfl) rfl (by simp)
    unfold SayHand_c
    rw [if_neg (by rw [s]; decide), if_neg (by rw [s]; decide), s, e, z, f, hok]
  · refine mk ⟨1, post0 want d.xSender d.xAt d.xText, h.xTo, []⟩ ?_ (Hand.ok_mk hok p2 (by simp) rfl ?_) rfl (by simp)
    · unfold SayHand_c
      rw [if_neg (by rw [s]; decide), if_neg (by rw [s]; decide), s, z, f, hok]
    · rw [f] at e
      show stageOk 1 _ _ _ _ = true
      unfold stageOk
      rw [if_neg (by decide), if_pos rfl]
      simp only
      rw [copied_post e]; rfl
  · have hs : said h.xFrom (h.xWaiting ++ [d]) = (post0 want d.xSender d.xAt d.xText, true) := by
      have hsy : say h.xFrom h.xWaiting = some want := by
        unfold said at f
        split at f
        · rename_i x hx; injection f with f; rw [hx, f]
        · injection f with f1 f2; cases f2
      refine said_yes ?_
      rw [say_append, hsy]
      show (sayOne want d).bind _ = _
      unfold sayOne
      rw [if_pos hok]; rfl
    refine mk ⟨2, h.xFrom, h.xTo, h.xWaiting ++ [d]⟩ ?_ (Hand.ok_mk p1 p2 (by simp; omega) (by rw [hs]) ?_) ?_ (by simp; omega)
    · unfold SayHand_c
      rw [if_pos s]
    · show stageOk 2 _ _ _ _ = true
      unfold stageOk
      rw [if_neg (by decide), if_neg (by decide), if_pos rfl]
      exact e
    · show (if (2 : Int) = 3 then _ else said h.xFrom (h.xWaiting ++ [d])) = _
      rw [if_neg (by decide)]; exact hs
  · refine mk ⟨3, ⟨1, []⟩, post0 want d.xSender d.xAt d.xText, []⟩ ?_ (Hand.ok_mk log1_ok hok (by simp) rfl rfl) rfl (by simp)
    unfold SayHand_c
    rw [if_neg (by rw [s]; decide), if_pos s, e, z, f, hok]
/-- A change that keeps the log. -/
theorem HInv.keep {h : Hand} {want : Log} {k : Nat} {a : Int} (H : HInv h want k a) {f : Hand → Hand × Bool} {b : Bool} (hb : (f h).2 = b)
    (h1 : b = true → (f h).1.ok = true ∧ (if (f h).1.xStage = 3 then ((f h).1.xTo, true) else said (f h).1.xFrom (f h).1.xWaiting) = (want, true) ∧ (f h).1.xWaiting.length ≤ k) :
    ∃ h', changed f h = (h', b) ∧ (b = true → HInv h' want (k + 1) a) := by
  cases b with
  | false => exact ⟨_, changed_no hb, fun h => by cases h⟩
  | true =>
    obtain ⟨h1, h2, h3⟩ := h1 rfl
    have := H.len
    have := H.next
    exact ⟨_, changed_yes H.ok hb h1, fun _ => ⟨h1, HInv.logH h1 h2, H.wok, by omega, by omega, by omega, H.late⟩⟩
theorem HInv.wait1 {h : Hand} {want : Log} {k : Nat} {a : Int} (H : HInv h want k a) : HInv h want (k + 1) a := by
  have := H.len
  have := H.next
  have := H.wait
  exact ⟨H.ok, H.log, H.wok, by omega, by omega, by omega, H.late⟩
theorem cut_ok {x : Log} (hx : x.ok = true) (n : Nat) : Log.ok ⟨nextOf (x.xMessages.take n), x.xMessages.take n⟩ = true := by
  have h := Log.msgs hx
  have hf := Log.few hx
  have hp : (x.xMessages.take n).Pairwise (fun p m => p.xNumber < m.xNumber ∧ p.xAt ≤ m.xAt) := List.Pairwise.sublist (List.take_sublist _ _) h.1
  have hm : ∀ m ∈ x.xMessages.take n, m.ok = true ∧ m.xNumber < x.xNext := fun m hm => h.2 m (List.mem_of_mem_take hm)
  have hlen : (x.xMessages.take n).length ≤ 40 := by rw [List.length_take]; omega
  generalize x.xMessages.take n = l at *
  cases hl : l.getLast? with
  | none =>
    have : l = [] := by simpa using hl
    subst this; exact log1_ok
  | some p =>
    obtain ⟨q, rfl⟩ := List.getLast?_eq_some_iff.1 hl
    have hp' := hm p (by simp)
    have hn : nextOf (q ++ [p]) = p.xNumber + 1 := by unfold nextOf; rw [hl]
    have hb := Message.bounds hp'.1
    rw [hn]
    refine Log.ok_of ⟨hp, fun m h1 => ⟨(hm m h1).1, ?_⟩⟩ hlen (by omega)
    rw [List.mem_append] at h1
    rcases h1 with h1 | h1
    · have := (List.pairwise_append.1 hp).2.2 m h1 p (by simp); omega
    · simp at h1; subst h1; omega
theorem copied_cut (x : Log) {n : Nat} (hn : n ≤ x.xMessages.length) : copied x ⟨nextOf (x.xMessages.take n), x.xMessages.take n⟩ = true := by
  unfold copied
  have : (x.xMessages.take n).length = n := by rw [List.length_take]; omega
  simp [this, hn]
theorem HInv.copyH {h : Hand} {want : Log} {k : Nat} {a c : Int} (H : HInv h want k a) (hc : 0 ≤ c ∧ c ≤ 40) : ∃ h', CopyHand_f h c = (h', !(h.xStage == 3)) ∧ ((!(h.xStage == 3)) = true → HInv h' want (k + 1) a) := by
  refine H.keep (by unfold CopyHand_c; simp [hc.1, hc.2]) (fun hs => ?_)
  obtain ⟨p1, p2, p3, p4, p5⟩ := Hand.ok_parts H.ok
  have hn : manyOf c h ≤ h.xFrom.xMessages.length := by unfold manyOf; omega
  have hs3 : h.xStage ≠ 3 := by simpa using hs
  have hst : (CopyHand_c c h).1.xStage = 1 ∧ h.xWaiting = [] ∨ (CopyHand_c c h).1.xStage = 2 := by
    unfold CopyHand_c
    rcases H.casesH with ⟨s, e, z, f⟩ | ⟨s, e, z, f⟩ | ⟨s, e, f⟩ | ⟨s, e, z, f⟩
    · exact .inl ⟨by simp [s], z⟩
    · exact .inl ⟨by simp [s], z⟩
    · exact .inr (by simp [s])
    · exact absurd s hs3
  refine ⟨Hand.ok_mk p1 (cut_ok p1 _) p3 p4 ?_, ?_, H.wait⟩
  · rcases hst with ⟨h1, h2⟩ | h1
    · unfold stageOk
      rw [if_neg (by rw [h1]; decide), if_pos h1]
      show (copied h.xFrom _ && ((h.xWaiting.length : Int) == 0)) = true
      rw [h2]
      rw [show (CopyHand_c c h).1.xTo = ⟨nextOf (h.xFrom.xMessages.take (manyOf c h)), h.xFrom.xMessages.take (manyOf c h)⟩ from rfl, copied_cut _ hn]; rfl
    · unfold stageOk
      rw [if_neg (by rw [h1]; decide), if_neg (by rw [h1]; decide), if_pos h1]
      exact copied_cut _ hn
  · rw [if_neg (by rcases hst with ⟨h1, h2⟩ | h1 <;> rw [h1] <;> decide)]
    have hl := H.log
    unfold LogOfHand_f at hl
    rw [if_pos H.ok, if_neg hs3] at hl
    exact hl
theorem HInv.freezeH {h : Hand} {want : Log} {k : Nat} {a : Int} (H : HInv h want k a) : ∃ h', FreezeHand_f h = (h', h.xStage == 1) ∧ ((h.xStage == 1) = true → HInv h' want (k + 1) a) := by
  refine H.keep rfl (fun hs => ?_)
  obtain ⟨p1, p2, p3, p4, p5⟩ := Hand.ok_parts H.ok
  have hs1 : h.xStage = 1 := by simpa using hs
  rcases H.casesH with ⟨s, e, z, f⟩ | ⟨s, e, z, f⟩ | ⟨s, e, f⟩ | ⟨s, e, z, f⟩
  · omega
  · refine ⟨Hand.ok_mk p1 p2 p3 p4 ?_, ?_, H.wait⟩
    · show stageOk 2 _ _ _ _ = true
      unfold stageOk
      rw [if_neg (by decide), if_neg (by decide), if_pos rfl]
      exact e
    · show (if (2 : Int) = 3 then _ else said h.xFrom h.xWaiting) = _
      rw [if_neg (by decide), z, f]; rfl
  · omega
  · omega
theorem HInv.saidH {h : Hand} {want : Log} {k : Nat} {a : Int} (H : HInv h want k a) (hs : h.xStage ≠ 3) : said h.xFrom h.xWaiting = (want, true) := by
  have hl := H.log
  unfold LogOfHand_f at hl
  rw [if_pos H.ok, if_neg hs] at hl
  exact hl
theorem HInv.finishH {h : Hand} {want : Log} {k : Nat} {a : Int} (H : HInv h want k a) : ∃ h', FinishHand_f h = (h', h.xStage == 2 && decide (h.xTo.xMessages.length = h.xFrom.xMessages.length)) ∧ ((h.xStage == 2 && decide (h.xTo.xMessages.length = h.xFrom.xMessages.length)) = true → HInv h' want (k + 1) a) := by
  refine H.keep rfl (fun hs => ?_)
  have hs2 : h.xStage = 2 := by rw [Bool.and_eq_true] at hs; simpa using hs.1
  have hsd := H.saidH (by omega)
  have e : (FinishHand_c h).1 = ⟨3, ⟨1, []⟩, want, []⟩ := by unfold FinishHand_c; rw [hsd]
  rw [e]
  exact ⟨Hand.ok_mk log1_ok H.wok (by simp) rfl rfl, rfl, by simp⟩
theorem HInv.brkH {h : Hand} {want : Log} {k : Nat} {a : Int} (H : HInv h want k a) : ∃ h', BreakHand_f h = (h', h.xStage == 1 || h.xStage == 2) ∧ ((h.xStage == 1 || h.xStage == 2) = true → HInv h' want (k + 1) a) := by
  refine H.keep rfl (fun hs => ?_)
  have hs2 : h.xStage = 1 ∨ h.xStage = 2 := by simpa using hs
  have hsd := H.saidH (by omega)
  have e : (BreakHand_c h).1 = ⟨0, want, ⟨1, []⟩, []⟩ := by unfold BreakHand_c; rw [hsd]
  rw [e]
  exact ⟨Hand.ok_mk H.wok log1_ok (by simp) rfl rfl, rfl, by simp⟩
end Go.Proofs.Ytafihplbchofoaa

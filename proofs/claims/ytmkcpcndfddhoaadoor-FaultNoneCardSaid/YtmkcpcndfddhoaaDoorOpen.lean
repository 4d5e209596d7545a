/-
  What came in: a slice of steps.
-/
import Derived.Test.YtmkcpcndfddhoaaDoorPost
import Derived.Test.YtmkcpcndfddhoaaDoorLawWraps
namespace Go.Proofs.YtmkcpcndfddhoaaDoor
open Go.ChangeShapes Go.WideShapes Go.ChangeAt Go.RowKit Go.Deep

theorem cellsStep : Tryd.prog.cellsOf 39 = 2 := by kernel_rfl
theorem cellsString : Tryd.prog.cellsOf 9 = 1 := by kernel_rfl
theorem cellsInt : Tryd.prog.cellsOf 3 = 1 := by kernel_rfl
theorem laidOut : laidOutB Tryd.prog = true := by kernel_rfl

theorem args_of {args : Array Value} {l : List Value} (h : args.toList = l) : args = l.toArray := by
  subst h; simp
theorem two_of {α : Type} {l : List α} (h : l.length = 2) : ∃ a b, l = [a, b] := by
  match l, h with
  | [a, b], _ => exact ⟨a, b, rfl⟩
theorem add_at (b off k : Nat) : (⟨b, off, none⟩ : Addr).add k = ⟨b, off + k, none⟩ := by
  unfold Addr.add
  split
  · subst k; rfl
  · rfl

section
variable {H : Type} {enc : TypeId × Value → H}

set_option maxRecDepth 100000 in
theorem step_open {w : World} {n : Nat} {cs : List Value} {x : DataW H × List MemPlace} (h : DataW.trod enc Tryd.prog w 0 (fun _ => true) true n 39 cs = some x) : ∃ s p, cs = [.string s, .int .i64 p] := by
  obtain ⟨y0, y1, m, _, hlen, h0, h1⟩ := trod_struct2 Tryd.underlying39 h
  rw [cellsStep] at hlen
  obtain ⟨c0, c1, rfl⟩ := two_of hlen
  have h0' : DataW.trod enc Tryd.prog w 0 (fun _ => true) true m 9 [c0] = some y0 := by simpa [cellsString] using h0
  have h1' : DataW.trod enc Tryd.prog w 0 (fun _ => true) true m 3 [c1] = some y1 := by simpa [cellsInt] using h1
  obtain ⟨s, e0, _⟩ := DataW.trod_string Tryd.underlying9 h0'
  obtain ⟨p, e1, _⟩ := DataW.trod_int Tryd.underlying3 h1'
  simp at e0 e1
  exact ⟨s, p, by rw [e0, e1]⟩

theorem list_of {α : Type} [Inhabited α] {n : Nat} {p : Nat → α → Prop} (h : ∀ i, i < n → ∃ x, p i x) : ∃ l : List α, l.length = n ∧ ∀ i x, l[i]? = some x → p i x := by
  induction n with
  | zero => exact ⟨[], rfl, by simp⟩
  | succ n ih =>
    obtain ⟨l, hl, hp⟩ := ih fun i hi => h i (by omega)
    obtain ⟨x, hx⟩ := h n (by omega)
    refine ⟨l ++ [x], by simp [hl], fun i y hy => ?_⟩
    rcases Nat.lt_or_ge i l.length with hlt | hge
    · rw [List.getElem?_append_left hlt] at hy; exact hp i y hy
    · rw [List.getElem?_append_right hge] at hy
      have : i - l.length = 0 := by
        rcases Nat.eq_zero_or_pos (i - l.length) with h0 | h0
        · exact h0
        · rw [List.getElem?_eq_none (by simp; omega)] at hy; cases hy
      rw [this] at hy
      simp at hy
      subst hy
      rw [show i = n by omega]; exact hx

set_option maxRecDepth 100000 in
theorem steps_open {w : World} {b0 : Nat} {v : Value} {d : DataW H} {p : List MemPlace} (hval : Value.okWide Tryd.prog w .any b0 22 v) (h : DataW.Trod enc Tryd.prog w 0 (fun _ => true) true 22 v d p) : ∃ l, Steps w v l := by
  obtain ⟨a0, len, cap, rfl⟩ := okWide_slice Tryd.underlying22 hval
  obtain ⟨fuel, hf⟩ := h
  rcases open_slice Tryd.underlying22 hf with ⟨hcs, _⟩ | ⟨a, len', cap', m, n, D, Pl, hcs, _, hl, hm, hmm, _, hi⟩
  · simp [Value.cells] at hcs
    obtain ⟨rfl, rfl, rfl⟩ := hcs
    exact ⟨[], by simp, .inl ⟨rfl, _, _, rfl⟩⟩
  · simp [Value.cells] at hcs
    obtain ⟨rfl, rfl, rfl⟩ := hcs
    simp at hmm
    rcases Nat.eq_zero_or_pos len with rfl | hpos
    · exact ⟨[], by simp, .inl ⟨rfl, _, _, rfl⟩⟩
    · have hel : ∀ i, i < len → ∃ x : ByteArray × Int, w.cell? (a.add (i * 2)) = some (.string x.1) ∧ w.cell? (a.add (i * 2 + 1)) = some (.int .i64 x.2) := by
        intro i hlt
        obtain ⟨cs', hc, ht⟩ := hi i (by omega)
        rw [cellsStep] at hc
        obtain ⟨s, q, rfl⟩ := step_open ht
        obtain ⟨_, _, hat⟩ := World.cells?_some hc
        have e0 := hat 0 (by omega)
        have e1 := hat 1 (by omega)
        rw [add_add] at e0 e1
        exact ⟨(s, q), by simpa using e0, by simpa using e1⟩
      have hsp : a.spot = none := by
        obtain ⟨x, h0, _⟩ := hel 0 hpos
        simp only [Nat.zero_mul, Addr.add, if_true] at h0
        unfold World.cell? at h0
        cases hs : a.spot with
        | none => rfl
        | some q => rw [hs] at h0; split at h0 <;> simp at h0
      obtain ⟨l, hl2, hp⟩ := list_of hel
      obtain ⟨b, off, rfl⟩ : ∃ b off, a = ⟨b, off, none⟩ := ⟨a.block, a.off, by rw [← hsp]⟩
      refine ⟨l, by unfold maxLen at hm; omega, .inr ⟨b, off, cap, by rw [hl2], fun k s q hk => ?_⟩⟩
      have := hp k (s, q) hk
      rw [add_at, add_at, ← Nat.add_assoc] at this
      exact this
end
end Go.Proofs.YtmkcpcndfddhoaaDoor

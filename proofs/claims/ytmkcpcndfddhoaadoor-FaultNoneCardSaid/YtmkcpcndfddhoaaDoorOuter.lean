/-
  errors.Is of what stands right behind; errors.Unwrap; the shapes of owned slices.
-/
import Derived.Test.YtmkcpcndfddhoaaDoorAwake
namespace Go.Proofs.YtmkcpcndfddhoaaDoor
open Go.RowKit Go.Extern.Stop Go.Stop Go.Extern

set_option maxRecDepth 100000 in
set_option maxHeartbeats 1000000 in
theorem isLoop_behind (b b1 : Nat) (s s1 : ByteArray) (p p1 : Int) (T : Nat) (x : Value) (w : World) (hne : b ≠ b1) (hb : w.heap[b]? = some (faultCells s p (faultVal b1))) (hb1 : w.heap[b1]? = some (faultCells s1 p1 (.iface T x))) :
    Calls Tryd.prog 25 #[faultVal b, faultVal b1, .bool true] w fun e w' => e = .returned (.bool true) ∧ ∃ k, w' = w.drewN k := by
  have iF := hasIsFault
  have uF := unwrapFault
  obtain ⟨i, hi, hcmp⟩ := Option.map_eq_some_iff.1 (show (Tryd.prog.info? 45).map (·.comparable) = some true by kernel_rfl)
  obtain ⟨j0, hj, hjs⟩ := Option.map_eq_some_iff.1 (show (Tryd.prog.info? 47).map (·.size) = some 3 by kernel_rfl)
  have eF := fun k => run_eql_iface_ptr_other (P := Tryd.prog) (w.drewN k) (a := ⟨b, 0, none⟩) (b := ⟨b1, 0, none⟩) Tryd.underlying25 Tryd.underlying45 hi hcmp hj (by rw [hjs]; decide) (by intro e; cases e; exact hne rfl) (by simpa using hb) (by simpa using hb1)
  have eF0 := eF 0
  rw [World.drewN_zero] at eF0
  have eS := fun w => run_eql_iface_ptr_same (P := Tryd.prog) w ⟨b1, 0, none⟩ Tryd.underlying25 Tryd.underlying45 hi hcmp hj
  obtain ⟨_, _, c2⟩ := cells3 hb
  obtain ⟨_, _, d2⟩ := cells3 hb1
  clear hb hb1 hne
  go_enter Tryd.func25, Tryd.ntmps25
  go_wp2
  refine wp_loop_rounds 2 ?_
  rw [rounds_succ]
  go_wp2_with (first | (go_at_call 70; refine (faultIs_behind b b1 T x _ (by exact d2)).mono ?_; rintro e w' ⟨rfl, j1, rfl⟩) | (go_at_call 71; refine (faultUnwrap b (faultVal b1) _ (by exact c2)).mono ?_; rintro e w' ⟨rfl, rfl⟩))
  rw [rounds_succ]
  go_wp2
  go_ret
  exact ⟨rfl, _, rfl⟩

theorem Is_behindFault (b b1 : Nat) (s s1 : ByteArray) (p p1 : Int) (T : Nat) (x : Value) (w : World) (hne : b ≠ b1) (hb : w.heap[b]? = some (faultCells s p (faultVal b1))) (hb1 : w.heap[b1]? = some (faultCells s1 p1 (.iface T x))) :
    Calls Tryd.prog 14 #[faultVal b, faultVal b1] w fun e w' => e = .returned (.bool true) ∧ ∃ k, w' = w.drewN k := by
  have c := isLoop_behind b b1 s s1 p p1 T x w hne hb hb1
  have h1 := xTypeOf
  have h2 := callComparableFault
  have h3 := typeOfFault
  clear hb hb1 hne
  go_enter Tryd.func14, Tryd.ntmps14
  go_wp2_with (go_at_call 25; refine c.mono ?_; rintro e w' ⟨rfl, k, rfl⟩)
  go_ret
  exact ⟨rfl, _, rfl⟩

theorem Chain.ltOf {w : World} {e : Last} {v : Value} {l : List (ByteArray × Int)} (h : Chain w e v l) : ∀ b, v = faultVal b → b < w.heap.size := by
  cases h with
  | base => intro b hv; cases e <;> simp [Last.val] at hv
  | step b' _ _ _ _ hb _ =>
    intro b hv
    cases hv
    exact (Array.getElem?_eq_some_iff.1 hb).1
theorem Chain.lt {w : World} {e : Last} {b : Nat} {l : List (ByteArray × Int)} (h : Chain w e (faultVal b) l) : b < w.heap.size := h.ltOf b rfl

/-- errors.Is(outer, e), e right behind outer. -/
theorem Is_behind (s : ByteArray) (p : Int) (v : Value) (l : List (ByteArray × Int)) (n : Int) (b : Nat) (w0 w : World) (hb0 : b = w0.heap.size) (h0 : Chain w0 (.num n) v l) (hc : Chain w (.num n) v l) (hb : w.heap[b]? = some (faultCells s p v)) :
    Calls Tryd.prog 14 #[faultVal b, v] w fun e w' => e = .returned (.bool true) ∧ ∃ k, w' = w.drewN k := by
  cases hc with
  | base =>
    have := Is_num (faultVal b) [(s, p)] n n w (.step _ _ _ _ _ hb .base)
    rw [show (n == n) = true by simp] at this
    exact this
  | step b1 s1 p1 v1 l1 hb1 h1 =>
    obtain ⟨T, x, rfl⟩ := h1.isIface (by intro h; cases h)
    have hlt := h0.lt
    exact Is_behindFault b b1 s s1 p p1 T x w (by omega) hb hb1
end Go.Proofs.YtmkcpcndfddhoaaDoor

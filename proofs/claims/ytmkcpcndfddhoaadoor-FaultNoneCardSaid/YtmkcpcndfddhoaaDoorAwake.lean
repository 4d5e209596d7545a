/-
  The statements' own: wrapped over no step, wrapped over any steps, awake.
-/
import Derived.Test.YtmkcpcndfddhoaaDoorWrapped
namespace Go.Proofs.YtmkcpcndfddhoaaDoor
open Go.RowKit Go.Extern.Stop Go.Stop Go.Extern

theorem wrapped_none (a : Option Addr) (c : Nat) (n : Int) (w : World) :
    Calls Tryd.prog 8 #[.slice a 0 c, .int .i64 n] w (WrappedPost w [] n) := by
  have hnum := fun w => (number_any n w).mono (R' := fun e w' => e = .returned (.int .i64 (numberOf n)) ∧ w = w') fun e w' h => ⟨h.1, h.2.symm⟩
  have HN := Lib.hid hnum
  clear hnum
  go_enter Tryd.func8, Tryd.ntmps8
  go_wp2
  refine wp_loop_rounds 1 ?_
  rw [rounds_succ]
  go_wp2_with (go_at_call 17; refine (HN.out _).mono ?_; rintro e w' ⟨rfl, rfl⟩)
  refine wp_loop_rounds 1 ?_
  rw [rounds_succ]
  go_wp2
  go_ret2
  exact ⟨_, _, rfl, .base, World.ownsRow_made w #[] 0 (Nat.le_refl _) (by unfold maxLen; omega) rfl, (Below.refl _ _).alloc (Nat.le_refl _) _⟩

theorem wrapped_any (v : Value) (l : List (ByteArray × Int)) (n : Int) (w : World) (h : Steps w v l) :
    Calls Tryd.prog 8 #[v, .int .i64 n] w (WrappedPost w l n) := by
  rcases h.shape with ⟨rfl, a, c, rfl⟩ | ⟨b, off, c, rfl, hcs⟩
  · exact wrapped_none a c n w
  · exact wrapped_some b off c l n w h.len hcs

theorem Steps.keep {w w' : World} {v : Value} {l : List (ByteArray × Int)} (h : Steps w v l) (hb : Below w.heap.size w w') : Steps w' v l := by
  refine ⟨h.len, ?_⟩
  rcases h.shape with h | ⟨b, off, c, rfl, hcs⟩
  · exact .inl h
  · refine .inr ⟨b, off, c, rfl, fun k s p hk => ?_⟩
    obtain ⟨h0, h1⟩ := hcs k s p hk
    exact ⟨(hb.cell (block_lt h0)).trans h0, (hb.cell (block_lt h1)).trans h1⟩

abbrev sCommand : ByteArray := ⟨#[99, 111, 109, 109, 97, 110, 100]⟩
abbrev sBranch : ByteArray := ⟨#[98, 114, 97, 110, 99, 104]⟩
theorem path_awake : pathOf [(sBranch, 3), (sCommand, 7)] 10 = [98, 114, 97, 110, 99, 104, 47, 99, 111, 109, 109, 97, 110, 100, 47, 111, 118, 101, 114, 102, 108, 111, 119] := by decide +kernel
theorem word_awake : faultWord sBranch 3 (faultWord sCommand 7 (word 10)) = ⟨#[98, 114, 97, 110, 99, 104, 32, 51, 58, 32, 99, 111, 109, 109, 97, 110, 100, 32, 55, 58, 32, 111, 118, 101, 114, 102, 108, 111, 119]⟩ := by decide +kernel
theorem word_size : (faultWord sCommand 7 (word 10)).size ≤ 1000000 := by decide +kernel

set_option maxRecDepth 100000 in
set_option maxHeartbeats 1000000 in
theorem awake_any (w : World) (hg : errorTypeLaid w) :
    Calls Tryd.prog 7 #[] w fun e w' => e = .returned (.bool true) ∧ Below w.heap.size w w' := by
  obtain ⟨W1, hW1⟩ : ∃ W1, W1 = w.alloc (faultCells sCommand 7 (.iface 33 (.int .i64 10))) := ⟨_, rfl⟩
  obtain ⟨W2, hW2⟩ : ∃ W2, W2 = W1.alloc (faultCells sBranch 3 (faultVal w.heap.size)) := ⟨_, rfl⟩
  have c1 : Calls Tryd.prog 10 #[.string sCommand, .int .i64 7, .iface 33 (.int .i64 10)] w fun e w' => e = .returned (faultVal w.heap.size) ∧ W1 = w' :=
    (In_num sCommand 7 10 (by decide) w).mono fun e w' h => ⟨h.1, by rw [hW1, h.2]⟩
  have hs1 : W1.heap.size = w.heap.size + 1 := by rw [hW1]; simp
  have c2 : Calls Tryd.prog 10 #[.string sBranch, .int .i64 3, faultVal w.heap.size] W1 fun e w' => e = .returned (faultVal (w.heap.size + 1)) ∧ W2 = w' :=
    (In_other sBranch 3 45 _ (by decide) W1).mono fun e w' h => ⟨by rw [h.1, hs1], by rw [hW2, h.2]⟩
  have hch1 : Chain W1 (.num 10) (faultVal w.heap.size) [(sCommand, 7)] := hW1 ▸ .step _ _ _ _ _ (heap_new w _) .base
  have hch2 : Chain W2 (.num 10) (faultVal (w.heap.size + 1)) [(sBranch, 3), (sCommand, 7)] := by
    have := Chain.step (e := .num 10) (w := W2) W1.heap.size sBranch 3 (faultVal w.heap.size) [(sCommand, 7)] (hW2 ▸ heap_new W1 _) (hW2 ▸ hch1.alloc _)
    rwa [hs1] at this
  have hb2 : Below w.heap.size w W2 := by
    rw [hW2, hW1]; exact ((Below.refl _ _).alloc (Nat.le_refl _) _).alloc (by simp) _
  have hg2 : errorTypeLaid W2 := (hb2.cell (block_lt hg)).trans hg
  have c3 : Calls Tryd.prog 13 #[faultVal (w.heap.size + 1)] W2 fun e w' => e = .returned (.string ⟨#[98, 114, 97, 110, 99, 104, 47, 99, 111, 109, 109, 97, 110, 100, 47, 111, 118, 101, 114, 102, 108, 111, 119]⟩) ∧ Below W2.heap.size W2 w' :=
    (Path_num _ _ 10 W2 (by decide) (by rw [path_awake]; decide) hg2 hch2).mono fun e w' h => ⟨by rw [h.1, path_awake], h.2⟩
  have k0 : W2.heap[w.heap.size]? = some (faultCells sCommand ((7 : Nat) : Int) (.iface 33 (.int .i64 10))) := by
    rw [hW2, Below.heap_alloc _ _ _ (by rw [hs1]; omega), hW1]; exact heap_new w _
  have k1 : W2.heap[w.heap.size + 1]? = some (faultCells sBranch ((3 : Nat) : Int) (faultVal w.heap.size)) := by
    rw [hW2, ← hs1]; exact heap_new W1 _
  have c4 : ∀ w3, Below W2.heap.size W2 w3 → Calls Tryd.prog 19 #[.pointer (some ⟨w.heap.size + 1, 0, none⟩)] w3 fun e w' => e = .returned (.string ⟨#[98, 114, 97, 110, 99, 104, 32, 51, 58, 32, 99, 111, 109, 109, 97, 110, 100, 32, 55, 58, 32, 111, 118, 101, 114, 102, 108, 111, 119]⟩) ∧ Below w3.heap.size w3 w' := by
    intro w3 hb3
    have e0 := (hb3.block _ (Array.getElem?_eq_some_iff.1 k0).1).trans k0
    have e1 := (hb3.block _ (Array.getElem?_eq_some_iff.1 k1).1).trans k1
    have := Error_fault _ _ sBranch _ 3 w3 (by decide) (by decide) word_size e1 (Error_num _ sCommand 7 10 w3 (by decide) (by decide) e0)
    rw [word_awake] at this
    exact this
  have C4 := Lib.hid c4; have HG := Lib.hid hg; have HB2 := Lib.hid hb2
  clear c4 k0 k1 hg2 hch2 hch1 hW1 hW2 hg hb2 hs1
  have hN := fun w => In_ok ⟨#[120]⟩ 1 w
  have HN := Lib.hid hN; clear hN
  go_enter Tryd.func7, Tryd.ntmps7
  go_wp2_with fail
  refine c1.mono ?_
  rintro e w' ⟨rfl, rfl⟩
  go_wp2_with fail
  refine c2.mono ?_
  rintro e w' ⟨rfl, rfl⟩
  go_wp2_with fail
  refine c3.mono ?_
  rintro e w3 ⟨rfl, hb3⟩
  go_wp2_with fail
  refine (C4.out w3 hb3).mono ?_
  rintro e w4 ⟨rfl, hb4⟩
  go_wp2_with fail
  refine (HN.out w4).mono ?_
  rintro e w' ⟨rfl, hw⟩
  obtain rfl := hw.symm
  go_wp2
  go_ret
  exact ⟨rfl, (HB2.out.trans (hb3.mono HB2.out.size)).trans (hb4.mono (Nat.le_trans HB2.out.size hb3.size))⟩
end Go.Proofs.YtmkcpcndfddhoaaDoor

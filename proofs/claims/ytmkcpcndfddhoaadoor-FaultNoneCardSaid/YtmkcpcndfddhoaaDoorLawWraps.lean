/-
  FaultWraps: the walk.
-/
import Derived.Test.YtmkcpcndfddhoaaDoorOuter
namespace Go.Proofs.YtmkcpcndfddhoaaDoor
open Go.RowKit Go.Extern.Stop Go.Stop Go.Extern

theorem few_len (l : List (ByteArray × Int)) : (fewOf l).length ≤ 6 := by simp [fewOf]; omega
theorem few_size (l : List (ByteArray × Int)) : ∀ x ∈ fewOf l, x.1.size ≤ 10 := by
  intro x hx
  simp only [fewOf, List.mem_map] at hx
  obtain ⟨y, _, rfl⟩ := hx
  exact cutTo_size _ _

theorem join_le (x : List UInt8) (r : List (List UInt8)) (sep : List UInt8) (b : Nat) (h : ∀ y ∈ x :: r, y.length ≤ b) : (Lib.join (x :: r) sep).length ≤ (r.length + 1) * (b + sep.length) := by
  induction r generalizing x with
  | nil => have := h x (by simp); simp [Lib.join]; omega
  | cons y r ih =>
    have h1 := ih y (fun z hz => h z (by simp at hz ⊢; right; exact hz))
    have h2 := h x (by simp)
    simp only [Lib.join] at h1 ⊢
    rw [List.intercalate_cons_cons]
    simp only [List.length_append, List.length_cons]
    rw [Nat.add_mul (r.length + 1) 1]
    omega

theorem pathOf_le (l : List (ByteArray × Int)) (n : Int) (hl : l.length ≤ 7) (hs : ∀ x ∈ l, x.1.size ≤ 10) : (pathOf l n).length ≤ 88 := by
  unfold pathOf
  have hw := wordSize n
  have hall : ∀ y ∈ (l.map (·.1.data.toList) ++ [(word n).data.toList]), y.length ≤ 10 := by
    intro y hy
    simp only [List.mem_append, List.mem_map, List.mem_singleton] at hy
    rcases hy with ⟨x, hx, rfl⟩ | rfl
    · have := hs x hx; simpa using this
    · simpa using hw
  cases hl2 : (l.map (·.1.data.toList) ++ [(word n).data.toList]) with
  | nil => simp [Lib.join]
  | cons x r =>
    rw [hl2] at hall
    have h1 := join_le x r [47] 10 hall
    have h2 : r.length + 1 ≤ 8 := by
      have := congrArg List.length hl2
      simp at this; omega
    simp at h1
    omega

theorem pathOf_cons (s : ByteArray) (p : Int) (l : List (ByteArray × Int)) (n : Int) : (⟨(pathOf ((s, p) :: l) n).toArray⟩ : ByteArray) = s ++ ⟨#[47]⟩ ++ ⟨(pathOf l n).toArray⟩ := by
  have h : pathOf ((s, p) :: l) n = s.data.toList ++ [47] ++ pathOf l n := by
    unfold pathOf
    cases l with
    | nil => simp [Lib.join]
    | cons a r => simp [Lib.join]
  rw [h]
  apply ByteArray.ext
  simp [ByteArray.data_append]

theorem owns_shape {w : World} {B e size n : Nat} {v : Value} {xs : List Value} (h : w.ownsRow B e size v n xs) : ∃ a c, v = .slice a n c := by
  rcases h.2 with ⟨rfl, rfl⟩ | ⟨g, cap, cur, hv, _⟩
  · exact ⟨_, _, rfl⟩
  · exact ⟨_, _, hv⟩

theorem lastAt_cons (s : ByteArray) (p : Int) (l : List (ByteArray × Int)) : lastAt ((s, p) :: l) = if l.length = 0 then p else lastAt l := by
  cases l with
  | nil => rfl
  | cons a r => rfl

set_option maxRecDepth 100000 in
set_option maxHeartbeats 2000000 in
theorem wraps_any (v : Value) (l : List (ByteArray × Int)) (n : Int) (step : ByteArray) (p : Int) (w : World) (hg : errorTypeLaid w) (hv : Steps w v l) :
    Calls Tryd.prog 3 #[v, .int .i64 n, .string step, .int .i64 p] w fun e w' => e = .returned (.bool true) ∧ Below w.heap.size w w' := by
  have c1 := awake_any w hg
  have HV := Lib.hid hv; have HG := Lib.hid hg
  clear hv hg
  go_enter Tryd.func3, Tryd.ntmps3
  go_upto_region 3 with (go_at_call 7; refine c1.mono ?_; rintro e w1 ⟨rfl, hb1⟩)
  go_wp2_with fail
  refine (wrapped_any v l n w1 (HV.out.keep hb1)).mono ?_
  rintro e w2 ⟨ev, fv, rfl, hch, hfv, hb2⟩
  have hN := numberOf_in n
  obtain ⟨N, hNe⟩ : ∃ N, N = numberOf n := ⟨_, rfl⟩
  rw [← hNe] at hch hN
  obtain ⟨few, hfew⟩ : ∃ few, few = fewOf l := ⟨_, rfl⟩
  have hl6 := few_len l
  have hs10 := few_size l
  rw [← hfew] at hch hfv hl6 hs10
  clear hNe hfew
  have HCH := Lib.hid hch; have HS := Lib.hid hs10; have HFV := Lib.hid hfv
  obtain ⟨fa, fc, rfl⟩ := owns_shape hfv
  obtain ⟨T, x, rfl⟩ := hch.isIface (by intro h; cases h)
  clear hch hs10 hfv
  go_wp2_with fail
  refine (Cut_any step 10 w2).mono ?_
  rintro e w2' ⟨rfl, hw⟩
  obtain rfl := hw.symm
  have hcs := cutTo_size step 10
  obtain ⟨cs, hcse⟩ : ∃ cs, cs = cutTo step 10 := ⟨_, rfl⟩
  rw [← hcse] at hcs ⊢
  clear hcse hw
  go_wp2_with fail
  refine (In_any cs p _ (.num N) few w2 (by show N ≠ 0; omega) HCH.out).mono ?_
  rintro e w3 ⟨rfl, hw3, hch3⟩
  have hb3 : Below w2.heap.size w2 w3 := by rw [hw3]; exact (Below.refl _ _).alloc (Nat.le_refl _) _
  have hb13 : Below w.heap.size w w3 := (hb1.trans (hb2.mono hb1.size)).trans (hb3.mono (Nat.le_trans hb1.size hb2.size))
  have hg3 : errorTypeLaid w3 := (hb13.cell (block_lt HG.out)).trans HG.out
  have hblk : w3.heap[w2.heap.size]? = some (faultCells cs p (.iface T x)) := by rw [hw3]; exact heap_new w2 _
  have hch3e := HCH.out.under hb3
  have HW3 := Lib.hid hw3; have HC3 := Lib.hid hch3; have HC3e := Lib.hid hch3e; have HBK := Lib.hid hblk; have HG3 := Lib.hid hg3; have HB13 := Lib.hid hb13; have HB3 := Lib.hid hb3
  clear hw3 hch3 hch3e hblk hg3 hb13 hb3
  go_wp2_with fail
  refine (Where_chain _ few (.num N) w3 (by omega) HG3.out HC3e.out).mono ?_
  rintro e w4 ⟨av, rfl, hav, hb4⟩
  obtain ⟨aa, ac, rfl⟩ := owns_shape hav
  have hg4 := (hb4.cell (block_lt HG3.out)).trans HG3.out
  have HG4 := Lib.hid hg4; have HB4 := Lib.hid hb4
  clear hav hg4 hb4
  go_wp2_with fail
  refine (Where_chain _ ((cs, p) :: few) (.num N) w4 (by simp; omega) HG4.out (HC3.out.under HB4.out)).mono ?_
  rintro e w5 ⟨bv, rfl, hbv, hb5⟩
  obtain ⟨g, bc, hbve, hgb, _⟩ := hbv.form (by simp)
  subst hbve
  have hcell : w5.cell? ⟨g, 0, none⟩ = some (.string cs) := by
    have := hbv.cells (g := g) rfl 0 (.string cs) (by simp [stepVals])
    simpa [Addr.add] using this
  have hg5 := (hb5.cell (block_lt HG4.out)).trans HG4.out
  have HG5 := Lib.hid hg5; have HB5 := Lib.hid hb5
  clear hbv hg5 hb5 hgb
  have hpl : (pathOf few N).length ≤ 140737488355328 := Nat.le_trans (pathOf_le few N (by omega) HS.out) (by decide)
  have hs11 : ∀ y ∈ (cs, p) :: few, y.1.size ≤ 10 := by
    intro y hy
    simp only [List.mem_cons] at hy
    rcases hy with rfl | hy
    · exact hcs
    · exact HS.out y hy
  have hpl2 : (pathOf ((cs, p) :: few) N).length ≤ 140737488355328 := Nat.le_trans (pathOf_le _ N (by simp; omega) hs11) (by decide)
  have hpc := pathOf_cons cs p few N
  have HP1 := Lib.hid hpl; have HP2 := Lib.hid hpl2; have HPC := Lib.hid hpc
  have hsz : (pathOf few N).length ≤ 88 := pathOf_le few N (by omega) HS.out
  obtain ⟨pt, hpt⟩ : ∃ pt : ByteArray, pt = ⟨(pathOf few N).toArray⟩ := ⟨_, rfl⟩
  have hpts : pt.size ≤ 88 := by rw [hpt, ByteArray.size_mk']; simpa using hsz
  have HPT := Lib.hid hpt
  clear hpl hpl2 hpc hsz hpt hs11
  rw [lastAt_cons]
  have hway : few.length = 0 ∨ ¬ few.length = 0 := by omega
  rcases hway with hz | hz
  all_goals
    first | rw [if_pos hz] | rw [if_neg hz]
    have hz' : few.length = 0 ∨ 0 < few.length := by omega
    go_wp2_with fail
    refine (Of_num _ ((cs, p) :: few) N w5 HG5.out ((HC3.out.under HB4.out).under HB5.out)).mono ?_
    rintro e w6 ⟨rfl, hb6⟩
    have HG6 := Lib.hid ((hb6.cell (block_lt HG5.out)).trans HG5.out); have HB6 := Lib.hid hb6; clear hb6
    go_wp2_with fail
    refine (Of_num _ few N w6 HG6.out (((HC3e.out.under HB4.out).under HB5.out).under HB6.out)).mono ?_
    rintro e w7 ⟨rfl, hb7⟩
    have HG7 := Lib.hid ((hb7.cell (block_lt HG6.out)).trans HG6.out); have HB7 := Lib.hid hb7; clear hb7
    go_wp2_with fail
    refine (Path_num _ ((cs, p) :: few) N w7 (by simp; omega) HP2.out HG7.out ((((HC3.out.under HB4.out).under HB5.out).under HB6.out).under HB7.out)).mono ?_
    rintro e w8 ⟨rfl, hb8⟩
    have HG8 := Lib.hid ((hb8.cell (block_lt HG7.out)).trans HG7.out); have HB8 := Lib.hid hb8; clear hb8
    rw [HPC.out, ← HPT.out]
    go_wp2_with fail
    refine (Path_num _ few N w8 (by omega) HP1.out HG8.out (((((HC3e.out.under HB4.out).under HB5.out).under HB6.out).under HB7.out).under HB8.out)).mono ?_
    rintro e w9 ⟨rfl, hb9⟩
    have HB9 := Lib.hid hb9; clear hb9
    rw [← HPT.out]
    have hbk9 : w9.heap[w2.heap.size]? = some (faultCells cs p (.iface T x)) := by
      have h0 := HBK.out
      have l3 := (Array.getElem?_eq_some_iff.1 h0).1
      have l4 := HB4.out.size; have l5 := HB5.out.size; have l6 := HB6.out.size; have l7 := HB7.out.size; have l8 := HB8.out.size
      rw [HB9.out.block _ (by omega), HB8.out.block _ (by omega), HB7.out.block _ (by omega), HB6.out.block _ (by omega), HB5.out.block _ (by omega), HB4.out.block _ (by omega)]
      exact h0
    have HBK9 := Lib.hid hbk9; clear hbk9
    go_wp2_with fail
    refine (Is_behind cs p _ few N w2.heap.size w2 w9 rfl HCH.out ((((((HC3e.out.under HB4.out).under HB5.out).under HB6.out).under HB7.out).under HB8.out).under HB9.out) HBK9.out).mono ?_
    rintro e w10 ⟨rfl, kk, rfl⟩
    go_wp2
    go_ret
    refine ⟨rfl, below_drewN ?_ _⟩
    have s0 := HB13.out.size; have s4 := HB4.out.size; have s5 := HB5.out.size; have s6 := HB6.out.size; have s7 := HB7.out.size; have s8 := HB8.out.size
    exact (((((HB13.out.trans (HB4.out.mono (by omega))).trans (HB5.out.mono (by omega))).trans (HB6.out.mono (by omega))).trans (HB7.out.mono (by omega))).trans (HB8.out.mono (by omega))).trans (HB9.out.mono (by omega))
end Go.Proofs.YtmkcpcndfddhoaaDoor
